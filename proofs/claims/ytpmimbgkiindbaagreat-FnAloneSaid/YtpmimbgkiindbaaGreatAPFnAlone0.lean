import Derived.Test.YtpmimbgkiindbaaGreatAV3
set_option linter.unusedVariables false
set_option linter.unusedSimpArgs false
set_option linter.unusedSectionVars false
open Go.IntKind (wrap)
namespace Go.G
open Go Go.V
abbrev DX:=Den ctx
abbrev KT(k:Nat):=Ex->St->Option (Out ctx k)
noncomputable abbrev LF(D:DX)(n:Nat)(k:Nat):=LQ (C:=ctx) vR D n k
noncomputable abbrev CF(D:DX)(n:Nat)(k:Nat):=CQ (C:=ctx) vR D n k
noncomputable abbrev KF(D:DX)(n:Nat)(k:Nat):=LK (C:=ctx) vR D n k
noncomputable abbrev lF(k:Nat):=BU (C:=ctx) vR k
noncomputable abbrev rF(D:DX)(n:Nat)(k:Nat):=Ka (C:=ctx) vR D n k
noncomputable abbrev bF(k:Nat):=Cy vR k
theorem DQ{t0 t1 R:Type}{A B:Nat->t0->t1->R}(b:(t0->t1->R)->t0->t1->R)(h0:∀x0 x1,A 0 x0 x1=B 0 x0 x1:=by intros;exact sD ..)(ha:∀m x0 x1,A (m+1) x0 x1=b (A m) x0 x1:=by intros;kernel_rfl)(hb:∀m x0 x1,B (m+1) x0 x1=b (B m) x0 x1:=by intros;rfl):∀m x0 x1,A m x0 x1=B m x0 x1
| 0=>h0
| m+1=>fun x0 x1=>by rw[ha,hb,show A m=B m from funext fun x0=>funext fun x1=>DQ b h0 ha hb m x0 x1]
theorem pQ{t0 t1 t2 R:Type}{A B:Nat->t0->t1->t2->R}(b:(t0->t1->t2->R)->t0->t1->t2->R)(h0:∀x0 x1 x2,A 0 x0 x1 x2=B 0 x0 x1 x2:=by intros;exact sD ..)(ha:∀m x0 x1 x2,A (m+1) x0 x1 x2=b (A m) x0 x1 x2:=by intros;kernel_rfl)(hb:∀m x0 x1 x2,B (m+1) x0 x1 x2=b (B m) x0 x1 x2:=by intros;rfl):∀m x0 x1 x2,A m x0 x1 x2=B m x0 x1 x2
| 0=>h0
| m+1=>fun x0 x1 x2=>by rw[ha,hb,show A m=B m from funext fun x0=>funext fun x1=>funext fun x2=>pQ b h0 ha hb m x0 x1 x2]
theorem zk{t0 t1 t2 t3 R:Type}{A B:Nat->t0->t1->t2->t3->R}(b:(t0->t1->t2->t3->R)->t0->t1->t2->t3->R)(h0:∀x0 x1 x2 x3,A 0 x0 x1 x2 x3=B 0 x0 x1 x2 x3:=by intros;exact sD ..)(ha:∀m x0 x1 x2 x3,A (m+1) x0 x1 x2 x3=b (A m) x0 x1 x2 x3:=by intros;kernel_rfl)(hb:∀m x0 x1 x2 x3,B (m+1) x0 x1 x2 x3=b (B m) x0 x1 x2 x3:=by intros;rfl):∀m x0 x1 x2 x3,A m x0 x1 x2 x3=B m x0 x1 x2 x3
| 0=>h0
| m+1=>fun x0 x1 x2 x3=>by rw[ha,hb,show A m=B m from funext fun x0=>funext fun x1=>funext fun x2=>funext fun x3=>zk b h0 ha hb m x0 x1 x2 x3]
theorem oM{t0 t1 t2 t3 t4 R:Type}{A B:Nat->t0->t1->t2->t3->t4->R}(b:(t0->t1->t2->t3->t4->R)->t0->t1->t2->t3->t4->R)(h0:∀x0 x1 x2 x3 x4,A 0 x0 x1 x2 x3 x4=B 0 x0 x1 x2 x3 x4:=by intros;exact sD ..)(ha:∀m x0 x1 x2 x3 x4,A (m+1) x0 x1 x2 x3 x4=b (A m) x0 x1 x2 x3 x4:=by intros;kernel_rfl)(hb:∀m x0 x1 x2 x3 x4,B (m+1) x0 x1 x2 x3 x4=b (B m) x0 x1 x2 x3 x4:=by intros;rfl):∀m x0 x1 x2 x3 x4,A m x0 x1 x2 x3 x4=B m x0 x1 x2 x3 x4
| 0=>h0
| m+1=>fun x0 x1 x2 x3 x4=>by rw[ha,hb,show A m=B m from funext fun x0=>funext fun x1=>funext fun x2=>funext fun x3=>funext fun x4=>oM b h0 ha hb m x0 x1 x2 x3 x4]
theorem DR{t0 t1 t2 t3 t4 t5 R:Type}{A B:Nat->t0->t1->t2->t3->t4->t5->R}(b:(t0->t1->t2->t3->t4->t5->R)->t0->t1->t2->t3->t4->t5->R)(h0:∀x0 x1 x2 x3 x4 x5,A 0 x0 x1 x2 x3 x4 x5=B 0 x0 x1 x2 x3 x4 x5:=by intros;exact sD ..)(ha:∀m x0 x1 x2 x3 x4 x5,A (m+1) x0 x1 x2 x3 x4 x5=b (A m) x0 x1 x2 x3 x4 x5:=by intros;kernel_rfl)(hb:∀m x0 x1 x2 x3 x4 x5,B (m+1) x0 x1 x2 x3 x4 x5=b (B m) x0 x1 x2 x3 x4 x5:=by intros;rfl):∀m x0 x1 x2 x3 x4 x5,A m x0 x1 x2 x3 x4 x5=B m x0 x1 x2 x3 x4 x5
| 0=>h0
| m+1=>fun x0 x1 x2 x3 x4 x5=>by rw[ha,hb,show A m=B m from funext fun x0=>funext fun x1=>funext fun x2=>funext fun x3=>funext fun x4=>funext fun x5=>DR b h0 ha hb m x0 x1 x2 x3 x4 x5]
theorem eL7{t0 t1 t2 t3 t4 t5 t6 R:Type}{A B:Nat->t0->t1->t2->t3->t4->t5->t6->R}(b:(t0->t1->t2->t3->t4->t5->t6->R)->t0->t1->t2->t3->t4->t5->t6->R)(h0:∀x0 x1 x2 x3 x4 x5 x6,A 0 x0 x1 x2 x3 x4 x5 x6=B 0 x0 x1 x2 x3 x4 x5 x6:=by intros;exact sD ..)(ha:∀m x0 x1 x2 x3 x4 x5 x6,A (m+1) x0 x1 x2 x3 x4 x5 x6=b (A m) x0 x1 x2 x3 x4 x5 x6:=by intros;kernel_rfl)(hb:∀m x0 x1 x2 x3 x4 x5 x6,B (m+1) x0 x1 x2 x3 x4 x5 x6=b (B m) x0 x1 x2 x3 x4 x5 x6:=by intros;rfl):∀m x0 x1 x2 x3 x4 x5 x6,A m x0 x1 x2 x3 x4 x5 x6=B m x0 x1 x2 x3 x4 x5 x6
| 0=>h0
| m+1=>fun x0 x1 x2 x3 x4 x5 x6=>by rw[ha,hb,show A m=B m from funext fun x0=>funext fun x1=>funext fun x2=>funext fun x3=>funext fun x4=>funext fun x5=>funext fun x6=>eL7 b h0 ha hb m x0 x1 x2 x3 x4 x5 x6]
theorem eL8{t0 t1 t2 t3 t4 t5 t6 t7 R:Type}{A B:Nat->t0->t1->t2->t3->t4->t5->t6->t7->R}(b:(t0->t1->t2->t3->t4->t5->t6->t7->R)->t0->t1->t2->t3->t4->t5->t6->t7->R)(h0:∀x0 x1 x2 x3 x4 x5 x6 x7,A 0 x0 x1 x2 x3 x4 x5 x6 x7=B 0 x0 x1 x2 x3 x4 x5 x6 x7:=by intros;exact sD ..)(ha:∀m x0 x1 x2 x3 x4 x5 x6 x7,A (m+1) x0 x1 x2 x3 x4 x5 x6 x7=b (A m) x0 x1 x2 x3 x4 x5 x6 x7:=by intros;kernel_rfl)(hb:∀m x0 x1 x2 x3 x4 x5 x6 x7,B (m+1) x0 x1 x2 x3 x4 x5 x6 x7=b (B m) x0 x1 x2 x3 x4 x5 x6 x7:=by intros;rfl):∀m x0 x1 x2 x3 x4 x5 x6 x7,A m x0 x1 x2 x3 x4 x5 x6 x7=B m x0 x1 x2 x3 x4 x5 x6 x7
| 0=>h0
| m+1=>fun x0 x1 x2 x3 x4 x5 x6 x7=>by rw[ha,hb,show A m=B m from funext fun x0=>funext fun x1=>funext fun x2=>funext fun x3=>funext fun x4=>funext fun x5=>funext fun x6=>funext fun x7=>eL8 b h0 ha hb m x0 x1 x2 x3 x4 x5 x6 x7]
theorem T7{t0 t1 t2 t3 t4 t5 t6 t7 t8 R:Type}{A B:Nat->t0->t1->t2->t3->t4->t5->t6->t7->t8->R}(b:(t0->t1->t2->t3->t4->t5->t6->t7->t8->R)->t0->t1->t2->t3->t4->t5->t6->t7->t8->R)(h0:∀x0 x1 x2 x3 x4 x5 x6 x7 x8,A 0 x0 x1 x2 x3 x4 x5 x6 x7 x8=B 0 x0 x1 x2 x3 x4 x5 x6 x7 x8:=by intros;exact sD ..)(ha:∀m x0 x1 x2 x3 x4 x5 x6 x7 x8,A (m+1) x0 x1 x2 x3 x4 x5 x6 x7 x8=b (A m) x0 x1 x2 x3 x4 x5 x6 x7 x8:=by intros;kernel_rfl)(hb:∀m x0 x1 x2 x3 x4 x5 x6 x7 x8,B (m+1) x0 x1 x2 x3 x4 x5 x6 x7 x8=b (B m) x0 x1 x2 x3 x4 x5 x6 x7 x8:=by intros;rfl):∀m x0 x1 x2 x3 x4 x5 x6 x7 x8,A m x0 x1 x2 x3 x4 x5 x6 x7 x8=B m x0 x1 x2 x3 x4 x5 x6 x7 x8
| 0=>h0
| m+1=>fun x0 x1 x2 x3 x4 x5 x6 x7 x8=>by rw[ha,hb,show A m=B m from funext fun x0=>funext fun x1=>funext fun x2=>funext fun x3=>funext fun x4=>funext fun x5=>funext fun x6=>funext fun x7=>funext fun x8=>T7 b h0 ha hb m x0 x1 x2 x3 x4 x5 x6 x7 x8]
abbrev cz:List mB:=[.r,.r,.l,.r,.l]
abbrev eL:List mB:=[.r,.r,.r,.l,.r,.l]
abbrev fc:List mB:=[.r,.l,.r,.l]
abbrev jd:List mB:=[.r,.r,.r,.r,.l,.r,.l]
abbrev xD:List mB:=[.r,.r,.r,.r,.r,.r,.r,.l,.r,.l]
abbrev xE:List mB:=[.r,.r,.r,.r,.r,.r,.l,.r,.l]
abbrev LH:List mB:=[.r,.r,.l,.r,.l,.r,.r,.r,.r,.r,.r,.r,.r,.r,.l,.r,.l]
abbrev zC:List mB:=[.r,.r,.r,.r,.r,.l,.r,.l]
abbrev LI:List mB:=[.r,.r,.r,.r,.r,.r,.r,.r,.r,.r,.r,.l,.r,.l]
abbrev X3:List mB:=[.r,.r,.r,.r,.r,.r,.r,.l,.r,.l,.l,.r,.l,.l,.r,.r,.r,.r,.l]
abbrev EG:List mB:=[.r,.r,.r,.r,.r,.r,.l,.r,.l,.l,.r,.l,.l,.r,.r,.l]
abbrev uq:List mB:=[.r,.l,.l,.r,.l,.l,.r,.l]
abbrev g9:List mB:=[.r,.l]
abbrev EH:List mB:=[.r,.r,.l,.r,.l,.l,.r,.r,.l,.l,.r,.r,.r,.l]
abbrev EI:List mB:=[.r,.r,.r,.l,.r,.l,.l,.r,.l,.l,.r,.r,.r,.l]
abbrev EJ:List mB:=[.r,.r,.l,.r,.l,.l,.r,.l,.l,.r,.l,.r,.l]
abbrev n4:List mB:=[.r,.r,.l]
abbrev Az:List mB:=[.r,.r,.l,.r,.l,.l]
abbrev gO:=Bool×Unit
abbrev bD:=Int×Int×Unit
abbrev aH:=(Int×Unit)×Unit
abbrev ag:=gO×Unit
abbrev eN:=Int×List Int×Unit
abbrev aB:=List Int×Int×Unit
abbrev cQ:=Unit×List Int×Unit
abbrev ak:=Int×bD
abbrev c_:=(List Int×Unit)×Unit
abbrev lA:=(Int×gO)×Unit
abbrev bt:=List Int×bD
abbrev cE:=Int×ak
abbrev vr:=List ak×Unit
abbrev sL:=bt×Unit
abbrev lz:=(aB×Unit)×Unit
abbrev cD:=Unit×vr
abbrev mL:=vr×Unit
abbrev nB:=sL×Unit
abbrev nA:=(aB×gO)×Unit
abbrev ki:=(ak×gO)×Unit
abbrev o9:=(Int×Unit)×sL
abbrev cV:=List bD×List Int×Int×gO
abbrev y_:=cV×Unit
abbrev jj:=Bool×eN×vr
abbrev jx:=Unit×y_
abbrev ny:=(aB×Unit)×sL
abbrev lY:=y_×Unit
abbrev bE:=Int×Int×List ak×eN×Unit
abbrev bx:=Int×ak×Int×Int×Int×eN×Unit
abbrev gN:=(List (List ak)×Unit)×sL
abbrev gM:=(aB×List (List ak)×List Int×Unit)×Unit
abbrev nx:=(jj×gO)×Unit
abbrev aR:=List ak×Int×Bool×List bD×List cE×Unit
abbrev aU:=List ak×List bE×Unit
abbrev ji:=(aR×Unit)×Unit
abbrev nw:=(aU×Unit)×Unit
abbrev nU:=(aU×gO)×Unit
abbrev tq8:=(aU×cE×gO)×Unit
abbrev tq7:=(cE×cE×Int×Unit)×aU×Unit
abbrev tq6:=(aU×cE×cE×Int×Unit)×Unit
abbrev aD:=aU×List aR×Int×List bx×List Int×aB×Unit
abbrev wg:=Unit×aD×Unit
abbrev iL:=(aD×Unit)×Unit
abbrev tN:=(Int×Unit)×aD×Unit
abbrev tq1:=gO×aD×Unit
abbrev mA:=(aD×gO)×Unit
noncomputable def OL(D:Den ctx)(a0:List Int):Option ag:=D 3 (a0,())
noncomputable def GB(D:Den ctx)(a0:List Int):Option ag:=D 12 (a0,())
noncomputable def qqb(D:Den ctx)(a0:List Int):Option gM:=D 13 (a0,())
noncomputable def qtv(D:Den ctx)(a0:aB)(a1:List (List ak)):Option mA:=D 14 (a0,(a1,()))
noncomputable def qtw(D:Den ctx)(a0:aB)(a1:List (List ak)):Option mA:=D 15 (a0,(a1,()))
noncomputable def Gn(D:Den ctx)(a0:aD)(a1:List Int):Option iL:=D 16 (a0,(a1,()))
noncomputable def Vg(D:Den ctx)(a0:aR):Option ag:=D 17 (a0,())
noncomputable def q7t(D:Den ctx)(a0:aD)(a1 a2:Int):Option iL:=D 18 (a0,(a1,(a2,())))
noncomputable def VR(D:Den ctx)(a0:Int):Option aH:=D 19 (a0,())
noncomputable def qxl(D:Den ctx)(a0:aD):Option ag:=D 20 (a0,())
noncomputable def Yf(D:Den ctx)(a0:List ak)(a1:List bE):Option c_:=D 23 (a0,(a1,()))
noncomputable def Po(D:Den ctx)(a0 a1:bx):Option ag:=D 29 (a0,(a1,()))
noncomputable def qtt(D:Den ctx)(a0:aD):Option ag:=D 30 (a0,())
noncomputable def VS(D:Den ctx)(a0:aB)(a1:Int):Option aH:=D 34 (a0,(a1,()))
noncomputable def vN(D:Den ctx)(a0:Int):Option aH:=D 35 (a0,())
noncomputable def Yd(D:Den ctx)(a0:aB)(a1:Int):Option aH:=D 37 (a0,(a1,()))
noncomputable def VP(D:Den ctx)(a0:aB)(a1:ak)(a2:eN):Option lz:=D 38 (a0,(a1,(a2,())))
noncomputable def VI(D:Den ctx)(a0:aD):Option nA:=D 39 (a0,())
noncomputable def zI(D:Den ctx)(a0:aD):Option ag:=D 40 (a0,())
noncomputable def Ye(D:Den ctx)(a0:aD):Option ag:=D 42 (a0,())
noncomputable def q7z(D:Den ctx)(a0:List Int):Option nB:=D 44 (a0,())
noncomputable def qrr(D:Den ctx)(a0:bt):Option ny:=D 45 (a0,())
noncomputable def qvw(D:Den ctx)(a0:bt):Option gN:=D 46 (a0,())
noncomputable def rN(D:Den ctx)(a0:bt)(a1:Int):Option o9:=D 47 (a0,(a1,()))
noncomputable def ZC(D:Den ctx)(a0:List Int)(a1 a2:Int):Option aH:=D 48 (a0,(a1,(a2,())))
noncomputable def Zw(D:Den ctx)(a0:aB)(a1:Int):Option nU:=D 49 (a0,(a1,()))
noncomputable def JQ(D:Den ctx)(a0:aB):Option lz:=D 50 (a0,())
noncomputable def q7u(D:Den ctx)(a0:List ak):Option ji:=D 51 (a0,())
noncomputable def ZB(D:Den ctx)(a0:aB)(a1:Int):Option nU:=D 52 (a0,(a1,()))
noncomputable def ZD(D:Den ctx)(a0:aB):Option lz:=D 53 (a0,())
noncomputable def q7x(D:Den ctx)(a0:List ak):Option ji:=D 54 (a0,())
noncomputable def qvv(D:Den ctx)(a0:aD):Option ag:=D 55 (a0,())
noncomputable def JN(D:Den ctx)(a0:aD):Option iL:=D 56 (a0,())
noncomputable def JZ(D:Den ctx)(a0:aD)(a1:Int):Option mA:=D 57 (a0,(a1,()))
noncomputable def kC(D:Den ctx)(a0 a1 a2:Int):Option ag:=D 58 (a0,(a1,(a2,())))
noncomputable def qtu(D:Den ctx)(a0:aD):Option ag:=D 59 (a0,())
noncomputable def Yg(D:Den ctx)(a0:List ak)(a1:List bE)(a2:Int):Option aH:=D 60 (a0,(a1,(a2,())))
noncomputable def IB(D:Den ctx)(a0:aU):Option ag:=D 63 (a0,())
noncomputable def qd4(D:Den ctx)(a0:List ak)(a1:bk):Option ag:=D 64 (a0,(a1,()))
noncomputable def Tp(D:Den ctx)(a0:aB):Option ag:=D 66 (a0,())
noncomputable def U8(D:Den ctx)(a0 a1:List Int):Option ag:=D 67 (a0,(a1,()))
noncomputable def Tj(D:Den ctx)(a0:aB):Option c_:=D 68 (a0,())
noncomputable def SH(D:Den ctx)(a0:List Int):Option c_:=D 69 (a0,())
noncomputable def tw(D:Den ctx):Option aH:=D 70 ()
noncomputable def J0(D:Den ctx)(a0:aB):Option ag:=D 71 (a0,())
noncomputable def yw(D:Den ctx)(a0:Int):Option aH:=D 73 (a0,())
noncomputable def U9(D:Den ctx)(a0:List Int)(a1:Int):Option aH:=D 74 (a0,(a1,()))
noncomputable def JV(D:Den ctx)(a0:Bool)(a1:Int):Option aH:=D 75 (a0,(a1,()))
noncomputable def zJ(D:Den ctx)(a0:Int):Option ag:=D 76 (a0,())
noncomputable def tv(D:Den ctx)(a0:Int):Option aH:=D 77 (a0,())
noncomputable def VA(D:Den ctx)(a0:aB)(a1:ak)(a2:eN):Option ag:=D 78 (a0,(a1,(a2,())))
noncomputable def Vd(D:Den ctx)(a0:bx)(a1:Int)(a2:aD):Option ag:=D 79 (a0,(a1,(a2,())))
noncomputable def Dk(D:Den ctx)(a0:ak):Option ag:=D 80 (a0,())
noncomputable def qxn(D:Den ctx)(a0:aR)(a1:Int):Option ag:=D 81 (a0,(a1,()))
noncomputable def Yh(D:Den ctx)(a0:aD)(a1:Int):Option ag:=D 82 (a0,(a1,()))
noncomputable def Yi(D:Den ctx)(a0:aD):Option ag:=D 83 (a0,())
noncomputable def Iz(D:Den ctx)(a0:eN):Option ((eN×Unit)×Unit):=D 85 (a0,())
noncomputable def Yn(D:Den ctx):Option lz:=D 90 ()
noncomputable def VU(D:Den ctx)(a0:aB)(a1:Int):Option aH:=D 91 (a0,(a1,()))
noncomputable def Vp(D:Den ctx)(a0:bt)(a1:List Int):Option o9:=D 92 (a0,(a1,()))
noncomputable def qrs(D:Den ctx)(a0:bt):Option ((ak×Unit)×sL):=D 93 (a0,())
noncomputable def IA(D:Den ctx)(a0:bt):Option o9:=D 94 (a0,())
noncomputable def U2(D:Den ctx)(a0:List ak):Option mL:=D 95 (a0,())
noncomputable def Yo(D:Den ctx)(a0:aB):Option c_:=D 96 (a0,())
noncomputable def lU(D:Den ctx)(a0 a1 a2:Int):Option ag:=D 97 (a0,(a1,(a2,())))
noncomputable def TC(D:Den ctx)(a0:aU):Option ag:=D 98 (a0,())
noncomputable def VJ(D:Den ctx)(a0:aB):Option ag:=D 99 (a0,())
noncomputable def Yp(D:Den ctx)(a0:aD):Option ag:=D 100 (a0,())
noncomputable def qxr(D:Den ctx)(a0:aR)(a1:Int):Option ag:=D 101 (a0,(a1,()))
noncomputable def qxt(D:Den ctx)(a0:aD)(a1:Int):Option ag:=D 102 (a0,(a1,()))
noncomputable def JT(D:Den ctx)(a0:aU):Option nw:=D 103 (a0,())
noncomputable def JO(D:Den ctx)(a0:aR):Option ji:=D 104 (a0,())
noncomputable def qng(D:Den ctx)(a0:aD)(a1:Int):Option wg:=D 105 (a0,(a1,()))
noncomputable def qqa(D:Den ctx)(a0:aD)(a1:Int):Option tq1:=D 106 (a0,(a1,()))
noncomputable def VB(D:Den ctx)(a0:bE)(a1:Int):Option ki:=D 107 (a0,(a1,()))
noncomputable def qd3(D:Den ctx)(a0:List bE)(a1:bk):Option ag:=D 109 (a0,(a1,()))
noncomputable def OI(D:Den ctx)(a0:bE):Option ag:=D 110 (a0,())
noncomputable def Zv(D:Den ctx)(a0:bE):Option ag:=D 111 (a0,())
noncomputable def Zx(D:Den ctx)(a0:ak)(a1:Int):Option ag:=D 112 (a0,(a1,()))
noncomputable def qiq(D:Den ctx)(a0:List ak)(a1:bk):Option aH:=D 113 (a0,(a1,()))
noncomputable def U5(D:Den ctx)(a0:List Int)(a1:Int):Option ag:=D 114 (a0,(a1,()))
noncomputable def yu(D:Den ctx)(a0:Int):Option aH:=D 115 (a0,())
noncomputable def OJ(D:Den ctx)(a0:aB)(a1:ak)(a2:Int):Option ag:=D 116 (a0,(a1,(a2,())))
noncomputable def OK(D:Den ctx)(a0:aB)(a1:ak):Option ((List Int×gO)×Unit):=D 117 (a0,(a1,()))
noncomputable def TB(D:Den ctx)(a0:Int):Option ag:=D 118 (a0,())
noncomputable def VD(D:Den ctx)(a0:Int):Option ag:=D 119 (a0,())
noncomputable def qfn(D:Den ctx)(a0:List ak)(a1:bk):Option ag:=D 120 (a0,(a1,()))
noncomputable def q54(D:Den ctx)(a0:ak):Option ag:=D 121 (a0,())
noncomputable def UR(D:Den ctx)(a0:List bD)(a1:bk):Option ag:=D 122 (a0,(a1,()))
noncomputable def q55(D:Den ctx)(a0:bD):Option ag:=D 123 (a0,())
noncomputable def VE(D:Den ctx)(a0:Int):Option ag:=D 124 (a0,())
noncomputable def JP(D:Den ctx)(a0:Int):Option ag:=D 125 (a0,())
noncomputable def UQ(D:Den ctx)(a0:List cE)(a1:bk):Option ag:=D 126 (a0,(a1,()))
noncomputable def q56(D:Den ctx)(a0:cE)(a1:Int):Option ag:=D 127 (a0,(a1,()))
noncomputable def VW(D:Den ctx)(a0:Int):Option ag:=D 132 (a0,())
noncomputable def Cd(D:Den ctx)(a0:Int):Option ag:=D 133 (a0,())
noncomputable def q7w(D:Den ctx)(a0:Int):Option aH:=D 134 (a0,())
noncomputable def Ym(D:Den ctx)(a0:Int):Option aH:=D 135 (a0,())
noncomputable def q7y(D:Den ctx)(a0:Int):Option aH:=D 136 (a0,())
noncomputable def Yl(D:Den ctx)(a0:aB)(a1:Int):Option aH:=D 137 (a0,(a1,()))
noncomputable def Yk(D:Den ctx)(a0:Int):Option aH:=D 138 (a0,())
noncomputable def VF(D:Den ctx):Option aH:=D 139 ()
noncomputable def ZA(D:Den ctx)(a0:bE):Option ag:=D 140 (a0,())
noncomputable def O3(D:Den ctx)(a0:ak)(a1:Int):Option ag:=D 141 (a0,(a1,()))
noncomputable def aha(D:Den ctx)(a0:bE)(a1:Int):Option ki:=D 142 (a0,(a1,()))
noncomputable def Di(D:Den ctx)(a0:Int):Option ag:=D 143 (a0,())
noncomputable def aim(D:Den ctx)(a0:aD)(a1:bx):Option ag:=D 144 (a0,(a1,()))
noncomputable def TD(D:Den ctx)(a0:Bool):Option aH:=D 145 (a0,())
noncomputable def UD(D:Den ctx)(a0:ak):Option ag:=D 146 (a0,())
noncomputable def ZE(D:Den ctx)(a0:aD)(a1:Int):Option aH:=D 147 (a0,(a1,()))
noncomputable def qgi(D:Den ctx)(a0:List ak):Option mL:=D 148 (a0,())
noncomputable def UY(D:Den ctx)(a0:List ak):Option mL:=D 149 (a0,())
noncomputable def qgh(D:Den ctx)(a0:List bD):Option ((List bD×Unit)×Unit):=D 150 (a0,())
noncomputable def qgg(D:Den ctx)(a0:List cE):Option ((List cE×Unit)×Unit):=D 151 (a0,())
noncomputable def GA(D:Den ctx)(a0:aR):Option ((cE×gO)×Unit):=D 152 (a0,())
noncomputable def Zu(D:Den ctx)(a0:aU)(a1:cE):Option tq6:=D 153 (a0,(a1,()))
noncomputable def JY(D:Den ctx)(a0:aR)(a1:cE):Option ji:=D 154 (a0,(a1,()))
noncomputable def TH(D:Den ctx)(a0:aR)(a1:cE):Option ji:=D 155 (a0,(a1,()))
noncomputable def Gz(D:Den ctx)(a0:aR):Option ji:=D 156 (a0,())
noncomputable def SR(D:Den ctx)(a0:aD)(a1:Int)(a2:eN):Option wg:=D 157 (a0,(a1,(a2,())))
noncomputable def SP(D:Den ctx)(a0:aD)(a1:Int)(a2:eN):Option wg:=D 158 (a0,(a1,(a2,())))
noncomputable def Gm(D:Den ctx)(a0:ak)(a1:List bD):Option aH:=D 159 (a0,(a1,()))
noncomputable def VH(D:Den ctx)(a0:ak)(a1:List bD):Option nx:=D 160 (a0,(a1,()))
noncomputable def VQ(D:Den ctx)(a0:aU)(a1:Int)(a2:List ak)(a3:eN):Option tq8:=D 161 (a0,(a1,(a2,(a3,()))))
noncomputable def qin(D:Den ctx)(a0:List bE)(a1:bk):Option aH:=D 162 (a0,(a1,()))
noncomputable def qj8(D:Den ctx)(a0:List ak)(a1:bk):Option aH:=D 163 (a0,(a1,()))
noncomputable def qip(D:Den ctx)(a0:List bD)(a1:bk):Option aH:=D 164 (a0,(a1,()))
noncomputable def qio(D:Den ctx)(a0:List cE)(a1:bk):Option aH:=D 165 (a0,(a1,()))
noncomputable def VV(D:Den ctx)(a0:Int):Option ag:=D 166 (a0,())
noncomputable def Yj(D:Den ctx)(a0:Int):Option aH:=D 167 (a0,())
noncomputable def UJ(D:Den ctx)(a0:aU)(a1:cE):Option tq7:=D 168 (a0,(a1,()))
noncomputable def U6(D:Den ctx)(a0:aD)(a1:Int):Option tN:=D 169 (a0,(a1,()))
noncomputable def VT(D:Den ctx)(a0:ak)(a1:List bD):Option lY:=D 170 (a0,(a1,()))
noncomputable def Zy(D:Den ctx)(a0:ak)(a1:List bD):Option ((eN×gO)×Unit):=D 171 (a0,(a1,()))
noncomputable def uO(D:Den ctx)(a0:List bD)(a1:Int):Option lA:=D 172 (a0,(a1,()))
noncomputable def yA(D:Den ctx)(a0:Int):Option aH:=D 173 (a0,())
noncomputable def VC(D:Den ctx)(a0:ak)(a1:List bD)(a2 a3:Int):Option mL:=D 174 (a0,(a1,(a2,(a3,()))))
noncomputable def U7(D:Den ctx)(a0:List Int):Option cQ:=D 175 (a0,())
noncomputable def Zz(D:Den ctx)(a0:ak)(a1 a2 a3 a4:Int):Option aH:=D 176 (a0,(a1,(a2,(a3,(a4,())))))
noncomputable def Ov(D:Den ctx)(a0:ak)(a1:Int):Option ag:=D 177 (a0,(a1,()))
noncomputable def SJ(D:Den ctx)(a0:cV)(a1:ak):Option jx:=D 178 (a0,(a1,()))
noncomputable def qy(D:Den ctx)(a0:cV)(a1:Int):Option ((Int×Unit)×y_):=D 179 (a0,(a1,()))
noncomputable def tr(D:Den ctx)(a0:cV)(a1:Bool):Option jx:=D 180 (a0,(a1,()))
noncomputable def vJ(D:Den ctx)(a0 a1 a2:Int)(a3:List bD)(a4:List ak):Option cD:=D 181 (a0,(a1,(a2,(a3,(a4,())))))
noncomputable def UX(D:Den ctx)(a0:List ak)(a1:bk):Option cD:=D 182 (a0,(a1,()))
noncomputable def q7v(D:Den ctx)(a0 a1:ak):Option aH:=D 183 (a0,(a1,()))
noncomputable def qz(D:Den ctx)(a0:List Int)(a1 a2 a3:Int):Option cQ:=D 184 (a0,(a1,(a2,(a3,()))))
noncomputable def Vy(D:Den ctx)(a0:Int):Option aH:=D 185 (a0,())
noncomputable def It(D:Den ctx)(a0:cV)(a1:Int)(a2:List Int):Option jx:=D 186 (a0,(a1,(a2,())))
noncomputable def qo(D:Den ctx)(a0:List ak)(a1 a2 a3:Int)(a4:bk):Option cD:=D 187 (a0,(a1,(a2,(a3,(a4,())))))
noncomputable def qkn(D:Den ctx)(a0:List Int)(a1 a2:Int):Option cQ:=D 188 (a0,(a1,(a2,())))
noncomputable def q0o(D:Den ctx)(a0:List Int)(a1 a2:Int):Option cQ:=D 189 (a0,(a1,(a2,())))
noncomputable def qva(D:Den ctx)(a0:List Int)(a1 a2:Int):Option cQ:=D 190 (a0,(a1,(a2,())))
noncomputable def qll(D:Den ctx)(a0:List Int)(a1 a2:Int):Option (bD×Unit):=D 191 (a0,(a1,(a2,())))
noncomputable def qk7(D:Den ctx)(a0:List Int)(a1 a2:Int):Option cQ:=D 192 (a0,(a1,(a2,())))
noncomputable def UT(D:Den ctx)(a0:List Int)(a1 a2:Int):Option (gO×List Int×Unit):=D 193 (a0,(a1,(a2,())))
noncomputable def yt(D:Den ctx)(a0 a1:Int):Option ag:=D 194 (a0,(a1,()))
noncomputable def Dc(D:Den ctx)(a0:List Int)(a1 a2 a3:Int):Option ((Int×Unit)×List Int×Unit):=D 195 (a0,(a1,(a2,(a3,()))))
noncomputable def De(D:Den ctx)(a0:List Int)(a1 a2 a3:Int):Option ((Int×gO)×List Int×Unit):=D 196 (a0,(a1,(a2,(a3,()))))
noncomputable def q57(D:Den ctx)(a0:Int):Option aH:=D 198 (a0,())
noncomputable def qhy(D:Den ctx)(a0:List ak)(a1 a2:Int)(a3:bk):Option cD:=D 199 (a0,(a1,(a2,(a3,()))))
noncomputable def qtb(D:Den ctx)(a0:List ak)(a1 a2:Int)(a3:bk):Option cD:=D 200 (a0,(a1,(a2,(a3,()))))
noncomputable def qoo(D:Den ctx)(a0:List ak)(a1 a2:Int)(a3:bk):Option cD:=D 201 (a0,(a1,(a2,(a3,()))))
noncomputable def qir(D:Den ctx)(a0:List ak)(a1 a2:Int)(a3:bk):Option (bD×Unit):=D 202 (a0,(a1,(a2,(a3,()))))
noncomputable def qig(D:Den ctx)(a0:List ak)(a1 a2:Int)(a3:bk):Option cD:=D 203 (a0,(a1,(a2,(a3,()))))
noncomputable def UU(D:Den ctx)(a0:List ak)(a1 a2:Int)(a3:bk):Option (gO×vr):=D 204 (a0,(a1,(a2,(a3,()))))
noncomputable def Da(D:Den ctx)(a0:List ak)(a1 a2 a3:Int)(a4:bk):Option ((Int×Unit)×vr):=D 205 (a0,(a1,(a2,(a3,(a4,())))))
noncomputable def Db(D:Den ctx)(a0:List ak)(a1 a2 a3:Int)(a4:bk):Option ((Int×gO)×vr):=D 206 (a0,(a1,(a2,(a3,(a4,())))))
noncomputable def qxh(D:Den ctx)(a0:Int):Option ag:=D 212 (a0,())
set_option maxRecDepth 100000
set_option maxHeartbeats 0
noncomputable section
def qy5(D:DX)(n:Nat)(go:Int->Int->aD->aD->Option ag)(K0:Bool->Int->aD->Option ag)(K1:Int->aD->Option ag)(c a:Int)(b d:aD):Option ag:=br (decide (a<(b.2.1.length:Int))) (br (a != c) (br (decide (0<=a)&&decide (a<(d.2.1.length:Int))) (br (decide (0<=a)&&decide (a<(b.2.1.length:Int))) (br ((List.getD d.2.1 a.toNat ([],0,false,[],[],())).2.1 != (List.getD b.2.1 a.toNat ([],0,false,[],[],())).2.1) (K0 false c b) (go c (wrap .i64 (a+1)) b d)) none) none) (go c (wrap .i64 (a+1)) b d)) (K1 c b)
def Td(D:DX)(n:Nat)(K0:Bool->Int->aD->Option ag)(K1:Int->aD->Option ag):Nat->Int->Int->aD->aD->Option ag | 0=>(fun a b c d=>none) | m+1=>(fun a b c d=>qy5 D n (Td D n K0 K1 m) K0 K1 a b c d)
def afm(D:DX)(n:Nat)(go:Int->aD->Option ag)(K0:Bool->Option ag)(K1:Option ag)(a:Bool)(b:Int)(c:aD):Option ag:=K0 a
def q6u(D:DX)(n:Nat)(go:Int->aD->Option ag)(K0:Bool->Option ag)(K1:Option ag)(a:Int)(b:aD):Option ag:=go (wrap .i64 (a+1)) b
def qwl(D:DX)(n:Nat)(go:Int->aD->Option ag)(K0:Bool->Option ag)(K1:Option ag):(Int)->(Int)->aD->aD->Option ag:=(fun a b h i=>Td D n (fun c d e=>afm D n go K0 K1 c d e) (fun f g=>q6u D n go K0 K1 f g) n a b h i)
def qy4(D:DX)(n:Nat)(go:Int->aD->Option ag)(K0:Bool->Option ag)(K1:Option ag)(mG:Int->Int->aD->aD->Option ag)(x0:Int)(x1:aD):Option ag:=let y0:=List.getD x1.2.1 x0.toNat ([],0,false,[],[],());br (decide (x0<(x1.2.1.length:Int))) (br (decide (0<=x0)&&decide (x0<(x1.2.1.length:Int))) (qd (Vg D y0) fun p1=>br p1.1.1 (go (wrap .i64 (x0+1)) x1) (qd (VR D (x1.2.1.length:Int)) fun p2=>qd (q7t D x1 x0 p2.1.1) fun p0=>br (decide (0<=x0)&&decide (x0<(p0.1.1.2.1.length:Int))) (br (decide (0<=x0)&&decide (x0<(x1.2.1.length:Int))) (br ((List.getD p0.1.1.2.1 x0.toNat ([],0,false,[],[],())).2.1 != wrap .i64 (y0.2.1+1)) (K0 false) (qd (VR D (x1.2.1.length:Int)) fun p3=>br (decide (wrap .i64 (p0.1.1.2.2.1-x1.2.2.1)>p3.1.1)) (K0 false) (qd (qxl D p0.1.1) fun p4=>br (!p4.1.1) (K0 false) (mG x0 0 x1 p0.1.1)))) none) none)) none) K1
def Iw(D:DX)(n:Nat)(K0:Bool->Option ag)(K1:Option ag):Nat->Int->aD->Option ag | 0=>(fun x0 x1=>none) | m+1=>(fun x0 x1=>qy4 D n (Iw D n K0 K1 m) K0 K1 (qwl D n (Iw D n K0 K1 m) K0 K1) x0 x1)
def afk(D:DX)(n:Nat)(a:Bool):Option ag:=some ((a,()),())
def afl(D:DX)(n:Nat):Option ag:=some ((true,()),())
def qwk(D:DX)(n:Nat):(Int)->aD->Option ag:=(fun x0 x1=>Iw D n (fun a=>afk D n a) (afl D n) n x0 x1)
def Zc(D:DX)(n:Nat)(cw:Int->aD->Option ag)(a0:List Int):Option ag:=qd (GB D a0) fun p2=>br p2.1.1 (some ((true,()),())) (qd (qqb D a0) fun p0=>qd (qtv D p0.1.1 p0.1.2.1) fun p1=>qd (qtw D p0.1.1 p0.1.2.1) fun p3=>br (bif !decide (p1.1.2.1=p3.1.2.1) then true else !p1.1.2.1) (some ((false,()),())) (qd (Gn D p1.1.1 p0.1.2.2.1) fun p4=>cw 0 p4.1.1))
def YK(D:DX)(n:Nat)(a0:List Int):Option ag:=Zc D n (qwk D n) a0
def Ix(x0:Int)(x1:aD):St:=bq 120 [(10,AV.addr 10 []),(11,AV.val ah x0)] [(10,aC.mk cN Mk.no x1 true)]
def Vk(a:Bool):St:=bq 120 [(2,AV.val Ty.bool a)] []
def Vl:St:=bq 120 [] []
def qy3(a b:Int)(c d:aD):St:=bq 120 [(10,AV.addr 10 []),(11,AV.val ah a),(12,AV.addr 12 []),(13,AV.val ah b)] [(10,aC.mk cN Mk.no c true),(12,aC.mk cN Mk.no d true)]
def q6s(a:Bool)(b:Int)(c:aD):St:=bq 120 [(2,AV.val Ty.bool a),(10,AV.addr 10 []),(11,AV.val ah b)] [(10,aC.mk cN Mk.no c true)]
def q6t(a:Int)(b:aD):St:=bq 120 [(10,AV.addr 10 []),(11,AV.val ah a)] [(10,aC.mk cN Mk.no b true)]
theorem agd(D:DX)(n:Nat)(K:KT 3):∀(m:Nat)(f g:Int)(h i:aD),LF D n 3 X3 m (qy3 f g h i) K=Td D n (fun a b c=>K (Ex.ret) (q6s a b c)) (fun d e=>K (Ex.exit 2) (q6t d e)) m f g h i:=zk (fun F=>qy5 D n F (fun a b c=>K (Ex.ret) (q6s a b c)) (fun d e=>K (Ex.exit 2) (q6t d e)))
theorem afj(D:DX)(n:Nat)(m:Nat)(K:KT 3)(a b:Int)(c d:aD):LF D n 3 X3 n (qy3 a b c d) (CF D n 3 [.r,.r,.r,.r,.r,.r,.r,.l,.r,.l,.l] [.r,.l,.l,.r,.r,.r,.r,.l] (KF D n 3 xD m K))=qwl D n (fun x0 x1=>LF D n 3 xD m (Ix x0 x1) K) (fun e=>K (Ex.ret) (Vk e)) (K (Ex.exit 0) (Vl)) a b c d :=by rw[agd];kernel_rfl
theorem age(D:DX)(n:Nat)(m:Nat)(K:KT 3)(x0)(x1):LF D n 3 xD (m+1) (Ix x0 x1) K=qy4 D n (fun x0 x1=>LF D n 3 xD m (Ix x0 x1) K) (fun a=>K (Ex.ret) (Vk a)) (K (Ex.exit 0) (Vl)) (fun b c d e=>LF D n 3 X3 n (qy3 b c d e) (CF D n 3 [.r,.r,.r,.r,.r,.r,.r,.l,.r,.l,.l] [.r,.l,.l,.r,.r,.r,.r,.l] (KF D n 3 xD m K))) x0 x1:=by kernel_rfl
theorem q9i(D:DX)(n:Nat)(K:KT 3):∀(m:Nat)(x0:Int)(x1:aD),LF D n 3 xD m (Ix x0 x1) K=Iw D n (fun a=>K (Ex.ret) (Vk a)) (K (Ex.exit 0) (Vl)) m x0 x1
 | 0,x0,x1=>sD ..
 | m+1,x0,x1=>by
  have ih:(fun x0 x1=>LF D n 3 xD m (Ix x0 x1) K)=Iw D n (fun a=>K (Ex.ret) (Vk a)) (K (Ex.exit 0) (Vl)) m:=by funext x0 x1;exact q9i D n K m x0 x1
  rw[age];simp only[afj];rw[ih];rfl
theorem afi(D:DX)(n:Nat)(x0)(x1):LF D n 3 xD n (Ix x0 x1) (CF D n 3 [] xD (lF 3))=qwk D n x0 x1 :=by rw[q9i];kernel_rfl
theorem ag8(D:DX)(n:Nat)(a0:List Int):rF D n 3 (a0,())=YK D n a0:=by
 have h:rF D n 3 (a0,())=Zc D n (fun x0 x1=>LF D n 3 xD n (Ix x0 x1) (CF D n 3 [] xD (lF 3))) a0:=by kernel_rfl
 rw[h];simp only[afi];rfl
def abf(D:DX)(n:Nat)(a0:List Int):Option ag:=some ((decide ((a0.length:Int)>1048576),()),())
def Qc(D:DX)(n:Nat)(a0:List Int):Option ag:=abf D n a0
theorem aa1(D:DX)(n:Nat)(a0:List Int):rF D n 12 (a0,())=Qc D n a0:=by kernel_rfl
def qpa(D:DX)(n:Nat)(go:Int->Int->Int->Int->aB->aB->List (List ak)->List Int->bt->Option gM)(K0:Int->Int->aB->aB->List (List ak)->List Int->bt->Option gM)(c d e f:Int)(g h:aB)(i:List (List ak))(a:List Int)(j:bt):Option gM:=qd (rN D j 6) fun b=>br (decide (f<wrap .i64 (1+b.1.1))) (br (decide (a.length+1<=f9)) (go c d e (wrap .i64 (f+1)) g h i (a++[e]) b.2.1) none) (K0 c d g h i a b.2.1)
def SI(D:DX)(n:Nat)(K0:Int->Int->aB->aB->List (List ak)->List Int->bt->Option gM):Nat->Int->Int->Int->Int->aB->aB->(List (List ak))->(List Int)->bt->Option gM | 0=>(fun a b c d e f g h i=>none) | m+1=>(fun a b c d e f g h i=>qpa D n (SI D n K0 m) K0 a b c d e f g h i)
def qm1(D:DX)(n:Nat)(go:Int->Int->aB->aB->List (List ak)->List Int->bt->Option gM)(K0:aB->aB->List (List ak)->List Int->Option gM)(a b:Int)(c d:aB)(e:List (List ak))(f:List Int)(g:bt):Option gM:=go a (wrap .i64 (b+1)) c d e f g
def qn4(D:DX)(n:Nat)(go:Int->Int->aB->aB->List (List ak)->List Int->bt->Option gM)(K0:aB->aB->List (List ak)->List Int->Option gM):(Int)->(Int)->(Int)->(Int)->aB->aB->(List (List ak))->(List Int)->bt->Option gM:=(fun a i j k l m o p q=>SI D n (fun b c d e f g h=>qm1 D n go K0 b c d e f g h) n a i j k l m o p q)
def qo9(D:DX)(n:Nat)(go:Int->Int->aB->aB->List (List ak)->List Int->bt->Option gM)(K0:aB->aB->List (List ak)->List Int->Option gM)(mG:Int->Int->Int->Int->aB->aB->List (List ak)->List Int->bt->Option gM)(x0 x1:Int)(x2 x3:aB)(x4:List (List ak))(x5:List Int)(x6:bt):Option gM:=br (decide (x1<x0)) (qd (rN D x6 (x4.length:Int)) fun b=>mG x0 x1 b.1.1 0 x2 x3 x4 x5 b.2.1) (K0 x2 x3 x4 x5)
def Df(D:DX)(n:Nat)(K0:aB->aB->List (List ak)->List Int->Option gM):Nat->Int->Int->aB->aB->(List (List ak))->(List Int)->bt->Option gM | 0=>(fun x0 x1 x2 x3 x4 x5 x6=>none) | m+1=>(fun x0 x1 x2 x3 x4 x5 x6=>qo9 D n (Df D n K0 m) K0 (qn4 D n (Df D n K0 m) K0) x0 x1 x2 x3 x4 x5 x6)
def qvj(D:DX)(n:Nat)(d a:aB)(b:List (List ak))(c:List Int):Option gM:=some (((a.1,a.2),b,c,()),())
def qn3(D:DX)(n:Nat):(Int)->(Int)->aB->aB->(List (List ak))->(List Int)->bt->Option gM:=(fun x0 x1 x2 x3 x4 x5 x6=>Df D n (fun a b c d=>qvj D n a b c d) n x0 x1 x2 x3 x4 x5 x6)
def qqy(D:DX)(n:Nat)(cw:Int->Int->aB->aB->List (List ak)->List Int->bt->Option gM)(a0:List Int):Option gM:=qd (q7z D a0) fun b=>qd (qrr D b.1.1) fun b=>qd (qvw D b.2.1) fun b_1=>qd (ZC D a0 60 120) fun b_2=>qd (rN D b_1.2.1 b_2.1.1) fun T6=>cw T6.1.1 0 ([],0,()) (b.1.1.1,b.1.1.2) b_1.1.1 [] T6.2.1
def qqh(D:DX)(n:Nat)(a0:List Int):Option gM:=qqy D n (qn3 D n) a0
def Iq(x0 x1:Int)(x2 x3:aB)(x4:List (List ak))(x5:List Int)(x6:bt):St:=bq 47 [(2,AV.addr 2 []),(5,AV.addr 14 []),(6,AV.addr 6 []),(7,AV.b9 7 [] 0),(8,AV.b9 8 [] 0),(9,AV.val ah x0),(10,AV.val ah x1)] [(2,aC.mk bR iu x2 true),(6,aC.mk bR iu x3 true),(7,aC.mk jQ qD x4 false),(8,aC.mk bG fk x5 false),(14,aC.mk jk Mk.no x6 true)]
def Va(a b:aB)(c:List (List ak))(d:List Int):St:=bq 47 [(2,AV.addr 2 []),(6,AV.addr 6 []),(7,AV.b9 7 [] 0),(8,AV.b9 8 [] 0)] [(2,aC.mk bR iu a true),(6,aC.mk bR iu b true),(7,aC.mk jQ qD c false),(8,aC.mk bG fk d false)]
def qo8(a b c d:Int)(e f:aB)(g:List (List ak))(h:List Int)(i:bt):St:=bq 47 [(2,AV.addr 2 []),(5,AV.addr 14 []),(6,AV.addr 6 []),(7,AV.b9 7 [] 0),(8,AV.b9 8 [] 0),(9,AV.val ah a),(10,AV.val ah b),(11,AV.val ah c),(12,AV.val ah d)] [(2,aC.mk bR iu e true),(6,aC.mk bR iu f true),(7,aC.mk jQ qD g false),(8,aC.mk bG fk h false),(14,aC.mk jk Mk.no i true)]
def qvi(a b:Int)(c d:aB)(e:List (List ak))(f:List Int)(g:bt):St:=bq 47 [(2,AV.addr 2 []),(5,AV.addr 14 []),(6,AV.addr 6 []),(7,AV.b9 7 [] 0),(8,AV.b9 8 [] 0),(9,AV.val ah a),(10,AV.val ah b)] [(2,aC.mk bR iu c true),(6,aC.mk bR iu d true),(7,aC.mk jQ qD e false),(8,aC.mk bG fk f false),(14,aC.mk jk Mk.no g true)]
theorem adJ(D:DX)(n:Nat)(K:KT 13):∀(m:Nat)(h i j k:Int)(l o:aB)(p:List (List ak))(q:List Int)(r:bt),LF D n 13 EG m (qo8 h i j k l o p q r) K=SI D n (fun a b c d e f g=>K (Ex.exit 2) (qvi a b c d e f g)) m h i j k l o p q r:=T7 (fun F=>qpa D n F (fun a b c d e f g=>K (Ex.exit 2) (qvi a b c d e f g)))
theorem adu(D:DX)(n:Nat)(m:Nat)(K:KT 13)(a b c d:Int)(e f:aB)(g:List (List ak))(h:List Int)(i:bt):LF D n 13 EG n (qo8 a b c d e f g h i) (CF D n 13 [.r,.r,.r,.r,.r,.r,.l,.r,.l,.l] [.r,.l,.l,.r,.r,.l] (KF D n 13 xE m K))=qn4 D n (fun x0 x1 x2 x3 x4 x5 x6=>LF D n 13 xE m (Iq x0 x1 x2 x3 x4 x5 x6) K) (fun j k o p=>K (Ex.exit 0) (Va j k o p)) a b c d e f g h i :=by rw[adJ];kernel_rfl
theorem adK(D:DX)(n:Nat)(m:Nat)(K:KT 13)(x0)(x1)(x2)(x3)(x4:List (List ak))(x5)(x6):LF D n 13 xE (m+1) (Iq x0 x1 x2 x3 x4 x5 x6) K=qo9 D n (fun x0 x1 x2 x3 x4 x5 x6=>LF D n 13 xE m (Iq x0 x1 x2 x3 x4 x5 x6) K) (fun a b c d=>K (Ex.exit 0) (Va a b c d)) (fun e f g h i j k o p=>LF D n 13 EG n (qo8 e f g h i j k o p) (CF D n 13 [.r,.r,.r,.r,.r,.r,.l,.r,.l,.l] [.r,.l,.l,.r,.r,.l] (KF D n 13 xE m K))) x0 x1 x2 x3 x4 x5 x6:=by kernel_rfl
theorem qxe(D:DX)(n:Nat)(K:KT 13):∀(m:Nat)(x0 x1:Int)(x2 x3:aB)(x4:List (List ak))(x5:List Int)(x6:bt),LF D n 13 xE m (Iq x0 x1 x2 x3 x4 x5 x6) K=Df D n (fun a b c d=>K (Ex.exit 0) (Va a b c d)) m x0 x1 x2 x3 x4 x5 x6
 | 0,x0,x1,x2,x3,x4,x5,x6=>sD ..
 | m+1,x0,x1,x2,x3,x4,x5,x6=>by
  have ih:(fun x0 x1 x2 x3 x4 x5 x6=>LF D n 13 xE m (Iq x0 x1 x2 x3 x4 x5 x6) K)=Df D n (fun a b c d=>K (Ex.exit 0) (Va a b c d)) m:=by funext x0 x1 x2 x3 x4 x5 x6;exact qxe D n K m x0 x1 x2 x3 x4 x5 x6
  rw[adK];simp only[adu];rw[ih];rfl
theorem adt(D:DX)(n:Nat)(x0)(x1)(x2)(x3)(x4:List (List ak))(x5)(x6):LF D n 13 xE n (Iq x0 x1 x2 x3 x4 x5 x6) (CF D n 13 [] xE (lF 13))=qn3 D n x0 x1 x2 x3 x4 x5 x6 :=by rw[qxe];kernel_rfl
theorem ad_(D:DX)(n:Nat)(a0:List Int):rF D n 13 (a0,())=qqh D n a0:=by
 have h:rF D n 13 (a0,())=qqy D n (fun x0 x1 x2 x3 x4 x5 x6=>LF D n 13 xE n (Iq x0 x1 x2 x3 x4 x5 x6) (CF D n 13 [] xE (lF 13))) a0:=by kernel_rfl
 rw[h];simp only[adt];rfl
def qsc(D:DX)(n:Nat)(go:Bool->List (List ak)->Int->Int->aD->aD->Option mA)(K0:Bool->aD->aD->Option mA)(x0:Bool)(x1:List (List ak))(x2 x3:Int)(x4 x5:aD):Option mA:=br (decide (x3<x2)) (br (decide (0<=x3)&&decide (x3<(x1.length:Int))) (qd (q7u D (List.getD x1 x3.toNat [])) fun p0=>br (decide (x5.2.1.length+1<=f9)) (go x0 x1 x2 (wrap .i64 (x3+1)) x4 (x5.1,x5.2.1++[(p0.1.1.1,p0.1.1.2.1,p0.1.1.2.2.1,p0.1.1.2.2.2.1,p0.1.1.2.2.2.2.1,())],x5.2.2)) none) none) (K0 x0 x4 x5)
def SU(D:DX)(n:Nat)(K0:Bool->aD->aD->Option mA):Nat->Bool->(List (List ak))->Int->Int->aD->aD->Option mA | 0=>(fun x0 x1 x2 x3 x4 x5=>none) | m+1=>(fun x0 x1 x2 x3 x4 x5=>qsc D n (SU D n K0 m) K0 x0 x1 x2 x3 x4 x5)
def qyl(D:DX)(n:Nat)(b:Bool)(c a:aD):Option mA:=br (!b) (some (((([],[],()),[],0,[],[],([],0,()),()),false,()),())) (qd (zI D ((a.1.1,a.1.2.1,()),a.2.1,a.2.2.1,a.2.2.2.1,a.2.2.2.2.1,(a.2.2.2.2.2.1.1,a.2.2.2.2.2.1.2),())) fun p0=>br (!p0.1.1) (some (((([],[],()),[],0,[],[],([],0,()),()),false,()),())) (some ((((a.1.1,a.1.2.1,()),a.2.1,a.2.2.1,a.2.2.2.1,a.2.2.2.2.1,(a.2.2.2.2.2.1.1,a.2.2.2.2.2.1.2),()),true,()),())))
def qqp(D:DX)(n:Nat):(Bool)->(List (List ak))->(Int)->(Int)->aD->aD->Option mA:=(fun x0 x1 x2 x3 x4 x5=>SU D n (fun a b c=>qyl D n a b c) n x0 x1 x2 x3 x4 x5)
def qui(D:DX)(n:Nat)(cw:Bool->List (List ak)->Int->Int->aD->aD->Option mA)(a0:aB)(a1:List (List ak)):Option mA:=qd (Zw D a0 (a1.length:Int)) fun b=>qd (JQ D a0) fun b_1=>cw b.1.2.1 a1 (a1.length:Int) 0 (([],[],()),[],0,[],[],([],0,()),()) ((b.1.1.1,b.1.1.2.1,()),[],0,[],[],(b_1.1.1.1,b_1.1.1.2),())
def qt4(D:DX)(n:Nat)(a0:aB)(a1:List (List ak)):Option mA:=qui D n (qqp D n) a0 a1
def qsb(x0:Bool)(x1:List (List ak))(x2 x3:Int)(x4 x5:aD):St:=bq 45 [(4,AV.addr 4 []),(7,AV.val Ty.bool x0),(8,AV.addr 8 []),(22,AV.val jQ x1),(23,AV.val ah x2),(24,AV.val ah x3)] [(4,aC.mk cN tn x4 true),(8,aC.mk cN Ji x5 true)]
def qyk(a:Bool)(b c:aD):St:=bq 45 [(4,AV.addr 4 []),(7,AV.val Ty.bool a),(8,AV.addr 8 [])] [(4,aC.mk cN tn b true),(8,aC.mk cN Ji c true)]
theorem aee(D:DX)(n:Nat)(K:KT 14):∀(m:Nat)(x0:Bool)(x1:List (List ak))(x2 x3:Int)(x4 x5:aD),LF D n 14 eL m (qsb x0 x1 x2 x3 x4 x5) K=SU D n (fun a b c=>K (Ex.exit 0) (qyk a b c)) m x0 x1 x2 x3 x4 x5:=DR (fun F=>qsc D n F (fun a b c=>K (Ex.exit 0) (qyk a b c)))
theorem adT(D:DX)(n:Nat)(x0)(x1:List (List ak))(x2)(x3)(x4)(x5):LF D n 14 eL n (qsb x0 x1 x2 x3 x4 x5) (CF D n 14 [] eL (lF 14))=qqp D n x0 x1 x2 x3 x4 x5 :=by rw[aee];kernel_rfl
theorem aeV(D:DX)(n:Nat)(a0:aB)(a1:List (List ak)):rF D n 14 (a0,(a1,()))=qt4 D n a0 a1:=by
 have h:rF D n 14 (a0,(a1,()))=qui D n (fun x0 x1 x2 x3 x4 x5=>LF D n 14 eL n (qsb x0 x1 x2 x3 x4 x5) (CF D n 14 [] eL (lF 14))) a0 a1:=by kernel_rfl
 rw[h];simp only[adT];rfl
def qsu(D:DX)(n:Nat)(go:List (List ak)->Bool->Int->aD->aD->Option mA)(K0:Bool->aD->aD->Option mA)(x0:List (List ak))(x1:Bool)(x2:Int)(x3 x4:aD):Option mA:=br (decide (x2<(x0.length:Int))) (br (decide (0<=x2)&&decide (x2<(x0.length:Int))) (qd (q7x D (List.getD x0 x2.toNat [])) fun p0=>br (decide (x4.2.1.length+1<=f9)) (go x0 x1 (wrap .i64 (x2+1)) x3 (x4.1,x4.2.1++[(p0.1.1.1,p0.1.1.2.1,p0.1.1.2.2.1,p0.1.1.2.2.2.1,p0.1.1.2.2.2.2.1,())],x4.2.2)) none) none) (K0 x1 x3 x4)
def SV(D:DX)(n:Nat)(K0:Bool->aD->aD->Option mA):Nat->(List (List ak))->Bool->Int->aD->aD->Option mA | 0=>(fun x0 x1 x2 x3 x4=>none) | m+1=>(fun x0 x1 x2 x3 x4=>qsu D n (SV D n K0 m) K0 x0 x1 x2 x3 x4)
def qzj(D:DX)(n:Nat)(b:Bool)(c a:aD):Option mA:=br (!b) (some (((([],[],()),[],0,[],[],([],0,()),()),false,()),())) (qd (qvv D ((a.1.1,a.1.2.1,()),a.2.1,a.2.2.1,a.2.2.2.1,a.2.2.2.2.1,(a.2.2.2.2.2.1.1,a.2.2.2.2.2.1.2),())) fun p0=>br (!p0.1.1) (some (((([],[],()),[],0,[],[],([],0,()),()),false,()),())) (some ((((a.1.1,a.1.2.1,()),a.2.1,a.2.2.1,a.2.2.2.1,a.2.2.2.2.1,(a.2.2.2.2.2.1.1,a.2.2.2.2.2.1.2),()),true,()),())))
def qqz(D:DX)(n:Nat):(List (List ak))->(Bool)->(Int)->aD->aD->Option mA:=(fun x0 x1 x2 x3 x4=>SV D n (fun a b c=>qzj D n a b c) n x0 x1 x2 x3 x4)
def quu(D:DX)(n:Nat)(cw:List (List ak)->Bool->Int->aD->aD->Option mA)(a0:aB)(a1:List (List ak)):Option mA:=qd (ZB D a0 (a1.length:Int)) fun b=>qd (ZD D a0) fun b_1=>cw a1 b.1.2.1 0 (([],[],()),[],0,[],[],([],0,()),()) ((b.1.1.1,b.1.1.2.1,()),[],0,[],[],(b_1.1.1.1,b_1.1.1.2),())
def qua(D:DX)(n:Nat)(a0:aB)(a1:List (List ak)):Option mA:=quu D n (qqz D n) a0 a1
def qst(x0:List (List ak))(x1:Bool)(x2:Int)(x3 x4:aD):St:=bq 46 [(1,AV.val jQ x0),(4,AV.addr 4 []),(7,AV.val Ty.bool x1),(8,AV.addr 8 []),(9,AV.val ah x2)] [(4,aC.mk cN tn x3 true),(8,aC.mk cN tn x4 true)]
def qzi(a:Bool)(b c:aD):St:=bq 46 [(4,AV.addr 4 []),(7,AV.val Ty.bool a),(8,AV.addr 8 [])] [(4,aC.mk cN tn b true),(8,aC.mk cN tn c true)]
theorem ad5(D:DX)(n:Nat)(K:KT 15):∀(m:Nat)(x0:List (List ak))(x1:Bool)(x2:Int)(x3 x4:aD),LF D n 15 eL m (qst x0 x1 x2 x3 x4) K=SV D n (fun a b c=>K (Ex.exit 0) (qzi a b c)) m x0 x1 x2 x3 x4:=oM (fun F=>qsu D n F (fun a b c=>K (Ex.exit 0) (qzi a b c)))
theorem adM(D:DX)(n:Nat)(x0:List (List ak))(x1)(x2)(x3)(x4):LF D n 15 eL n (qst x0 x1 x2 x3 x4) (CF D n 15 [] eL (lF 15))=qqz D n x0 x1 x2 x3 x4 :=by rw[ad5];kernel_rfl
theorem ae4(D:DX)(n:Nat)(a0:aB)(a1:List (List ak)):rF D n 15 (a0,(a1,()))=qua D n a0 a1:=by
 have h:rF D n 15 (a0,(a1,()))=quu D n (fun x0 x1 x2 x3 x4=>LF D n 15 eL n (qst x0 x1 x2 x3 x4) (CF D n 15 [] eL (lF 15))) a0 a1:=by kernel_rfl
 rw[h];simp only[adM];rfl
def q82(D:DX)(n:Nat)(go:List Int->Int->Int->aD->aD->Option iL)(K0:aD->aD->Option iL)(x0:List Int)(x1 x2:Int)(x3 x4:aD):Option iL:=br (decide (x2<x1)) (br (decide (0<=x2)&&decide (x2<(x0.length:Int))) (qd (JZ D x3 (List.getD x0 x2.toNat 0)) fun b=>go x0 x1 (wrap .i64 (x2+1)) b.1.1 x4) none) (K0 x3 x4)
def TE(D:DX)(n:Nat)(K0:aD->aD->Option iL):Nat->(List Int)->Int->Int->aD->aD->Option iL | 0=>(fun x0 x1 x2 x3 x4=>none) | m+1=>(fun x0 x1 x2 x3 x4=>q82 D n (TE D n K0 m) K0 x0 x1 x2 x3 x4)
def aie(D:DX)(n:Nat)(a b:aD):Option iL:=some ((a,()),())
def ZX(D:DX)(n:Nat):(List Int)->(Int)->(Int)->aD->aD->Option iL:=(fun x0 x1 x2 x3 x4=>TE D n (fun a b=>aie D n a b) n x0 x1 x2 x3 x4)
def Gx(D:DX)(n:Nat)(cw:List Int->Int->Int->aD->aD->Option iL)(a0:aD)(a1:List Int):Option iL:=qd (JN D a0) fun p0=>br (decide ((a1.length:Int)>2000)) (some ((((p0.1.1.1.1,p0.1.1.1.2.1,()),p0.1.1.2.1,p0.1.1.2.2.1,p0.1.1.2.2.2.1,p0.1.1.2.2.2.2.1,p0.1.1.2.2.2.2.2),()),())) (cw a1 (a1.length:Int) 0 ((p0.1.1.1.1,p0.1.1.1.2.1,()),p0.1.1.2.1,p0.1.1.2.2.1,p0.1.1.2.2.2.1,p0.1.1.2.2.2.2.1,p0.1.1.2.2.2.2.2) (([],[],()),[],0,[],[],([],0,()),()))
def Gr(D:DX)(n:Nat)(a0:aD)(a1:List Int):Option iL:=Gx D n (ZX D n) a0 a1
def q81(x0:List Int)(x1 x2:Int)(x3 x4:aD):St:=bq 27 [(2,AV.addr 2 []),(4,AV.addr 4 []),(13,AV.val bG x0),(14,AV.val ah x1),(15,AV.val ah x2)] [(2,aC.mk cN Mk.no x3 true),(4,aC.mk cN tn x4 true)]
def OC(a b:aD):St:=bq 27 [(2,AV.addr 2 []),(4,AV.addr 4 [])] [(2,aC.mk cN Mk.no a true),(4,aC.mk cN tn b true)]
theorem ai_(D:DX)(n:Nat)(K:KT 16):∀(m:Nat)(x0:List Int)(x1 x2:Int)(x3 x4:aD),LF D n 16 eL m (q81 x0 x1 x2 x3 x4) K=TE D n (fun a b=>K (Ex.exit 0) (OC a b)) m x0 x1 x2 x3 x4:=oM (fun F=>q82 D n F (fun a b=>K (Ex.exit 0) (OC a b)))
theorem aid(D:DX)(n:Nat)(x0)(x1)(x2)(x3)(x4):LF D n 16 eL n (q81 x0 x1 x2 x3 x4) (CF D n 16 [] eL (lF 16))=ZX D n x0 x1 x2 x3 x4 :=by rw[ai_];kernel_rfl
theorem aab(D:DX)(n:Nat)(a0:aD)(a1:List Int):rF D n 16 (a0,(a1,()))=Gr D n a0 a1:=by
 have h:rF D n 16 (a0,(a1,()))=Gx D n (fun x0 x1 x2 x3 x4=>LF D n 16 eL n (q81 x0 x1 x2 x3 x4) (CF D n 16 [] eL (lF 16))) a0 a1:=by kernel_rfl
 rw[h];simp only[aid];rfl
def qun(D:DX)(n:Nat)(a0:aR):Option ag:=some ((decide (a0.2.1=(a0.1.length:Int)),()),())
def Vh(D:DX)(n:Nat)(a0:aR):Option ag:=qun D n a0
theorem aeX(D:DX)(n:Nat)(a0:aR):rF D n 17 (a0,())=Vh D n a0:=by kernel_rfl
def ZR(D:DX)(n:Nat)(go:Int->Int->Int->Int->aD->aD->Option iL)(K0:aD->aD->Option iL)(x0 x1 x2 x3:Int)(x4 x5:aD):Option iL:=br (bif decide (x3<x1) then decide (x3<2000) else false) (br (decide (0<=x0)&&decide (x0<(x4.2.1.length:Int))) (br (decide ((List.getD x4.2.1 x0.toNat ([],0,false,[],[],())).2.1=x2)) (qd (JZ D x4 x0) fun p0=>br (!p0.1.2.1) (K0 x4 x5) (go x0 x1 x2 (wrap .i64 (x3+1)) p0.1.1 x5)) (K0 x4 x5)) none) (K0 x4 x5)
def Ts(D:DX)(n:Nat)(K0:aD->aD->Option iL):Nat->Int->Int->Int->Int->aD->aD->Option iL | 0=>(fun x0 x1 x2 x3 x4 x5=>none) | m+1=>(fun x0 x1 x2 x3 x4 x5=>ZR D n (Ts D n K0 m) K0 x0 x1 x2 x3 x4 x5)
def agH(D:DX)(n:Nat)(a b:aD):Option iL:=some ((a,()),())
def Yt(D:DX)(n:Nat):(Int)->(Int)->(Int)->(Int)->aD->aD->Option iL:=(fun x0 x1 x2 x3 x4 x5=>Ts D n (fun a b=>agH D n a b) n x0 x1 x2 x3 x4 x5)
def q8t(D:DX)(n:Nat)(cw:Int->Int->Int->Int->aD->aD->Option iL)(a0:aD)(a1 a2:Int):Option iL:=qd (JN D a0) fun p0=>qd (kC D a1 0 (wrap .i64 ((p0.1.1.2.1.length:Int)-1))) fun p1=>br (!p1.1.1) (some ((((p0.1.1.1.1,p0.1.1.1.2.1,()),p0.1.1.2.1,p0.1.1.2.2.1,p0.1.1.2.2.2.1,p0.1.1.2.2.2.2.1,p0.1.1.2.2.2.2.2),()),())) (br (decide (0<=a1)&&decide (a1<(p0.1.1.2.1.length:Int))) (cw a1 a2 (List.getD p0.1.1.2.1 a1.toNat ([],0,false,[],[],())).2.1 0 ((p0.1.1.1.1,p0.1.1.1.2.1,()),p0.1.1.2.1,p0.1.1.2.2.1,p0.1.1.2.2.2.1,p0.1.1.2.2.2.2.1,p0.1.1.2.2.2.2.2) (([],[],()),[],0,[],[],([],0,()),())) none)
def q72(D:DX)(n:Nat)(a0:aD)(a1 a2:Int):Option iL:=q8t D n (Yt D n) a0 a1 a2
def ZQ(x0 x1 x2 x3:Int)(x4 x5:aD):St:=bq 56 [(1,AV.val ah x0),(2,AV.val ah x1),(3,AV.addr 3 []),(6,AV.addr 6 []),(7,AV.val ah x2),(8,AV.val ah x3)] [(3,aC.mk cN Mk.no x4 true),(6,aC.mk cN tn x5 true)]
def Oh(a b:aD):St:=bq 56 [(3,AV.addr 3 []),(6,AV.addr 6 [])] [(3,aC.mk cN Mk.no a true),(6,aC.mk cN tn b true)]
theorem aib(D:DX)(n:Nat)(K:KT 18):∀(m:Nat)(x0 x1 x2 x3:Int)(x4 x5:aD),LF D n 18 jd m (ZQ x0 x1 x2 x3 x4 x5) K=Ts D n (fun a b=>K (Ex.exit 0) (Oh a b)) m x0 x1 x2 x3 x4 x5:=DR (fun F=>ZR D n F (fun a b=>K (Ex.exit 0) (Oh a b)))
theorem agG(D:DX)(n:Nat)(x0)(x1)(x2)(x3)(x4)(x5):LF D n 18 jd n (ZQ x0 x1 x2 x3 x4 x5) (CF D n 18 [] jd (lF 18))=Yt D n x0 x1 x2 x3 x4 x5 :=by rw[aib];kernel_rfl
theorem ai3(D:DX)(n:Nat)(a0:aD)(a1 a2:Int):rF D n 18 (a0,(a1,(a2,())))=q72 D n a0 a1 a2:=by
 have h:rF D n 18 (a0,(a1,(a2,())))=q8t D n (fun x0 x1 x2 x3 x4 x5=>LF D n 18 jd n (ZQ x0 x1 x2 x3 x4 x5) (CF D n 18 [] jd (lF 18))) a0 a1 a2:=by kernel_rfl
 rw[h];simp only[agG];rfl
def Pg(D:DX)(n:Nat)(a0:Int):Option aH:=some ((wrap .i64 (400 * a0),()),())
def q74(D:DX)(n:Nat)(a0:Int):Option aH:=Pg D n a0
theorem ai5(D:DX)(n:Nat)(a0:Int):rF D n 19 (a0,())=q74 D n a0:=by kernel_rfl
def Oi(D:DX)(n:Nat)(a0:aD):Option ag:=qd (Ye D a0) fun b=>br b.1.1 (qd (qtu D a0) fun b=>br b.1.1 (qd (qtt D a0) fun b=>some ((b.1.1,()),())) (some ((false,()),()))) (some ((false,()),()))
def qxw(D:DX)(n:Nat)(a0:aD):Option ag:=Oi D n a0
theorem agw(D:DX)(n:Nat)(a0:aD):rF D n 20 (a0,())=qxw D n a0:=by kernel_rfl
def qyo(D:DX)(n:Nat)(go:List ak->List bE->Int->Int->List Int->Option c_)(K0:List Int->Option c_)(x0:List ak)(x1:List bE)(x2 x3:Int)(x4:List Int):Option c_:=br (decide (x3<x2)) (qd (Yg D x0 x1 x3) fun b=>br (decide (x4.length+1<=f9)) (go x0 x1 x2 (wrap .i64 (x3+1)) (x4++[b.1.1])) none) (K0 x4)
def S6(D:DX)(n:Nat)(K0:List Int->Option c_):Nat->(List ak)->(List bE)->Int->Int->(List Int)->Option c_ | 0=>(fun x0 x1 x2 x3 x4=>none) | m+1=>(fun x0 x1 x2 x3 x4=>qyo D n (S6 D n K0 m) K0 x0 x1 x2 x3 x4)
def aeL(D:DX)(n:Nat)(a:List Int):Option c_:=some ((a,()),())
def qwc(D:DX)(n:Nat):(List ak)->(List bE)->(Int)->(Int)->(List Int)->Option c_:=(fun x0 x1 x2 x3 x4=>S6 D n (fun a=>aeL D n a) n x0 x1 x2 x3 x4)
def Yz(D:DX)(n:Nat)(cw:List ak->List bE->Int->Int->List Int->Option c_)(a0:List ak)(a1:List bE):Option c_:=cw a0 a1 (a0.length:Int) 0 []
def X9(D:DX)(n:Nat)(a0:List ak)(a1:List bE):Option c_:=Yz D n (qwc D n) a0 a1
def qyn(x0:List ak)(x1:List bE)(x2 x3:Int)(x4:List Int):St:=bq 22 [(0,AV.val bT x0),(1,AV.val CH x1),(5,AV.b9 5 [] 0),(9,AV.val ah x2),(10,AV.val ah x3)] [(5,aC.mk bG fk x4 false)]
def q6h(a:List Int):St:=bq 22 [(5,AV.b9 5 [] 0)] [(5,aC.mk bG fk a false)]
theorem af3(D:DX)(n:Nat)(K:KT 23):∀(m:Nat)(x0:List ak)(x1:List bE)(x2 x3:Int)(x4:List Int),LF D n 23 cz m (qyn x0 x1 x2 x3 x4) K=S6 D n (fun a=>K (Ex.exit 0) (q6h a)) m x0 x1 x2 x3 x4:=oM (fun F=>qyo D n F (fun a=>K (Ex.exit 0) (q6h a)))
theorem aeK(D:DX)(n:Nat)(x0)(x1)(x2)(x3)(x4):LF D n 23 cz n (qyn x0 x1 x2 x3 x4) (CF D n 23 [] cz (lF 23))=qwc D n x0 x1 x2 x3 x4 :=by rw[af3];kernel_rfl
theorem ahj(D:DX)(n:Nat)(a0:List ak)(a1:List bE):rF D n 23 (a0,(a1,()))=X9 D n a0 a1:=by
 have h:rF D n 23 (a0,(a1,()))=Yz D n (fun x0 x1 x2 x3 x4=>LF D n 23 cz n (qyn x0 x1 x2 x3 x4) (CF D n 23 [] cz (lF 23))) a0 a1:=by kernel_rfl
 rw[h];simp only[aeK];rfl
def Pv(D:DX)(n:Nat)(a0 a1:bx):Option ag:=some ((bif decide (a0.2.2.2.2.1>=0) then decide (a0.2.2.2.2.1<a1.2.2.1) else false,()),())
def q71(D:DX)(n:Nat)(a0 a1:bx):Option ag:=Pv D n a0 a1
theorem ai2(D:DX)(n:Nat)(a0 a1:bx):rF D n 29 (a0,(a1,()))=q71 D n a0 a1:=by kernel_rfl
def qsa(D:DX)(n:Nat)(go:List bx->Int->Int->List bx->Int->Int->aD->bx->Option ag)(K0:Bool->List bx->Int->Int->aD->Option ag)(K1:List bx->Int->Int->aD->Option ag)(b:List bx)(c d:Int)(e:List bx)(h a:Int)(f:aD)(g:bx):Option ag:=let y0:=List.getD e a.toNat (0,(0,0,0,()),0,0,0,(0,[],()),());br (decide (a<h)) (br (decide (0<=a)&&decide (a<(e.length:Int))) (br (decide (y0.1=g.1)) (qd (Po D y0 g) fun p0=>br (!p0.1.1) (K0 false b c d f) (go b c d e h (wrap .i64 (a+1)) f g)) (go b c d e h (wrap .i64 (a+1)) f g)) none) (K1 b c d f)
def SS(D:DX)(n:Nat)(K0:Bool->List bx->Int->Int->aD->Option ag)(K1:List bx->Int->Int->aD->Option ag):Nat->(List bx)->Int->Int->(List bx)->Int->Int->aD->bx->Option ag | 0=>(fun a b c d e f g h=>none) | m+1=>(fun a b c d e f g h=>qsa D n (SS D n K0 K1 m) K0 K1 a b c d e f g h)
def adS(D:DX)(n:Nat)(go:List bx->Int->Int->aD->Option ag)(K0:Bool->Option ag)(K1:Option ag)(a:Bool)(b:List bx)(c d:Int)(e:aD):Option ag:=K0 a
def qyj(D:DX)(n:Nat)(go:List bx->Int->Int->aD->Option ag)(K0:Bool->Option ag)(K1:Option ag)(a:List bx)(b c:Int)(d:aD):Option ag:=go a b (wrap .i64 (c+1)) d
def qqo(D:DX)(n:Nat)(go:List bx->Int->Int->aD->Option ag)(K0:Bool->Option ag)(K1:Option ag):(List bx)->(Int)->(Int)->(List bx)->(Int)->(Int)->aD->bx->Option ag:=(fun a b l m o p q r=>SS D n (fun c d e f g=>adS D n go K0 K1 c d e f g) (fun h i j k=>qyj D n go K0 K1 h i j k) n a b l m o p q r)
def qr9(D:DX)(n:Nat)(go:List bx->Int->Int->aD->Option ag)(K0:Bool->Option ag)(K1:Option ag)(mG:List bx->Int->Int->List bx->Int->Int->aD->bx->Option ag)(x0:List bx)(x1 x2:Int)(x3:aD):Option ag:=let y0:=List.getD x0 x2.toNat (0,(0,0,0,()),0,0,0,(0,[],()),());let y1:=List.drop (Int.toNat 0) (List.take x2.toNat x3.2.2.2.1);br (decide (x2<x1)) (br (decide (0<=x2)&&decide (x2<(x0.length:Int))) (br (bif decide (y0.2.2.2.2.1>=0) then bif decide (y0.2.2.2.1<0) then true else decide (y0.2.2.2.1>y0.2.2.2.2.1) else false) (K0 false) (br (decide (0<=0)&&decide (0<=x2)&&decide (x2<=(x3.2.2.2.1.length:Int))) (mG x0 x1 x2 y1 (y1.length:Int) 0 x3 y0) none)) none) K1
def Ir(D:DX)(n:Nat)(K0:Bool->Option ag)(K1:Option ag):Nat->(List bx)->Int->Int->aD->Option ag | 0=>(fun x0 x1 x2 x3=>none) | m+1=>(fun x0 x1 x2 x3=>qr9 D n (Ir D n K0 K1 m) K0 K1 (qqo D n (Ir D n K0 K1 m) K0 K1) x0 x1 x2 x3)
def adQ(D:DX)(n:Nat)(a:Bool):Option ag:=some ((a,()),())
def adR(D:DX)(n:Nat):Option ag:=some ((true,()),())
def qqn(D:DX)(n:Nat):(List bx)->(Int)->(Int)->aD->Option ag:=(fun x0 x1 x2 x3=>Ir D n (fun a=>adQ D n a) (adR D n) n x0 x1 x2 x3)
def quh(D:DX)(n:Nat)(cw:List bx->Int->Int->aD->Option ag)(a0:aD):Option ag:=qd (zI D a0) fun b=>br (!b.1.1) (some ((false,()),())) (cw a0.2.2.2.1 (a0.2.2.2.1.length:Int) 0 a0)
def qt2(D:DX)(n:Nat)(a0:aD):Option ag:=quh D n (qqn D n) a0
def Is(x0:List bx)(x1 x2:Int)(x3:aD):St:=bq 55 [(1,AV.addr 1 []),(11,AV.val zf x0),(12,AV.val ah x1),(13,AV.val ah x2)] [(1,aC.mk cN Mk.no x3 true)]
def Vb(a:Bool):St:=bq 55 [(2,AV.val Ty.bool a)] []
def Vc:St:=bq 55 [] []
def qr8(a:List bx)(b c:Int)(d:List bx)(e f:Int)(g:aD)(h:bx):St:=bq 55 [(1,AV.addr 1 []),(4,AV.addr 4 []),(11,AV.val zf a),(12,AV.val ah b),(13,AV.val ah c),(36,AV.val zf d),(37,AV.val ah e),(38,AV.val ah f)] [(1,aC.mk cN Mk.no g true),(4,aC.mk DI Mk.no h true)]
def qyh(a:Bool)(b:List bx)(c d:Int)(e:aD):St:=bq 55 [(1,AV.addr 1 []),(2,AV.val Ty.bool a),(11,AV.val zf b),(12,AV.val ah c),(13,AV.val ah d)] [(1,aC.mk cN Mk.no e true)]
def qyi(a:List bx)(b c:Int)(d:aD):St:=bq 55 [(1,AV.addr 1 []),(11,AV.val zf a),(12,AV.val ah b),(13,AV.val ah c)] [(1,aC.mk cN Mk.no d true)]
theorem aec(D:DX)(n:Nat)(K:KT 30):∀(m:Nat)(j:List bx)(k l:Int)(o:List bx)(p q:Int)(r:aD)(s:bx),LF D n 30 EH m (qr8 j k l o p q r s) K=SS D n (fun a b c d e=>K (Ex.ret) (qyh a b c d e)) (fun f g h i=>K (Ex.exit 2) (qyi f g h i)) m j k l o p q r s:=eL8 (fun F=>qsa D n F (fun a b c d e=>K (Ex.ret) (qyh a b c d e)) (fun f g h i=>K (Ex.exit 2) (qyi f g h i)))
theorem adP(D:DX)(n:Nat)(m:Nat)(K:KT 30)(a:List bx)(b c:Int)(d:List bx)(e f:Int)(g:aD)(h:bx):LF D n 30 EH n (qr8 a b c d e f g h) (CF D n 30 Az [.r,.r,.l,.l,.r,.r,.r,.l] (KF D n 30 cz m K))=qqo D n (fun x0 x1 x2 x3=>LF D n 30 cz m (Is x0 x1 x2 x3) K) (fun i=>K (Ex.ret) (Vb i)) (K (Ex.exit 0) (Vc)) a b c d e f g h :=by rw[aec];kernel_rfl
theorem aed(D:DX)(n:Nat)(m:Nat)(K:KT 30)(x0)(x1)(x2)(x3):LF D n 30 cz (m+1) (Is x0 x1 x2 x3) K=qr9 D n (fun x0 x1 x2 x3=>LF D n 30 cz m (Is x0 x1 x2 x3) K) (fun a=>K (Ex.ret) (Vb a)) (K (Ex.exit 0) (Vc)) (fun b c d e f g h i=>LF D n 30 EH n (qr8 b c d e f g h i) (CF D n 30 Az [.r,.r,.l,.l,.r,.r,.r,.l] (KF D n 30 cz m K))) x0 x1 x2 x3:=by kernel_rfl
theorem qz6(D:DX)(n:Nat)(K:KT 30):∀(m:Nat)(x0:List bx)(x1 x2:Int)(x3:aD),LF D n 30 cz m (Is x0 x1 x2 x3) K=Ir D n (fun a=>K (Ex.ret) (Vb a)) (K (Ex.exit 0) (Vc)) m x0 x1 x2 x3
 | 0,x0,x1,x2,x3=>sD ..
 | m+1,x0,x1,x2,x3=>by
  have ih:(fun x0 x1 x2 x3=>LF D n 30 cz m (Is x0 x1 x2 x3) K)=Ir D n (fun a=>K (Ex.ret) (Vb a)) (K (Ex.exit 0) (Vc)) m:=by funext x0 x1 x2 x3;exact qz6 D n K m x0 x1 x2 x3
  rw[aed];simp only[adP];rw[ih];rfl
theorem adO(D:DX)(n:Nat)(x0)(x1)(x2)(x3):LF D n 30 cz n (Is x0 x1 x2 x3) (CF D n 30 [] cz (lF 30))=qqn D n x0 x1 x2 x3 :=by rw[qz6];kernel_rfl
theorem aeT(D:DX)(n:Nat)(a0:aD):rF D n 30 (a0,())=qt2 D n a0:=by
 have h:rF D n 30 (a0,())=quh D n (fun x0 x1 x2 x3=>LF D n 30 cz n (Is x0 x1 x2 x3) (CF D n 30 [] cz (lF 30))) a0:=by kernel_rfl
 rw[h];simp only[adO];rfl
def Ph(D:DX)(n:Nat)(a0:aB)(a1:Int):Option aH:=qd (U9 D a0.1 a1) fun b=>some ((b.1.1,()),())
def q75(D:DX)(n:Nat)(a0:aB)(a1:Int):Option aH:=Ph D n a0 a1
theorem ai6(D:DX)(n:Nat)(a0:aB)(a1:Int):rF D n 34 (a0,(a1,()))=q75 D n a0 a1:=by kernel_rfl
def Pn(D:DX)(n:Nat)(a0:Int):Option aH:=qd (zJ D a0) fun b=>qd (tw D) fun b_1=>qd (JV D b.1.1 (wrap .i64 (b_1.1.1+a0))) fun b=>some ((b.1.1,()),())
def q8a(D:DX)(n:Nat)(a0:Int):Option aH:=Pn D n a0
theorem ajr(D:DX)(n:Nat)(a0:Int):rF D n 35 (a0,())=q8a D n a0:=by kernel_rfl
def qyg(D:DX)(n:Nat)(go:Int->Int->List Int->Int->Int->Option aH)(K0:Int->Option aH)(x0 x1:Int)(x2:List Int)(x3 x4:Int):Option aH:=let y0:=wrap .i64 (x4+1);br (decide (x4<x3)) (br (decide (0<=x4)&&decide (x4<(x2.length:Int))) (qd (zJ D (List.getD x2 x4.toNat 0)) fun p0=>br p0.1.1 (qd (tv D (List.getD x2 x4.toNat 0)) fun p1=>br (decide (p1.1.1=x0)) (go x0 (wrap .i64 (x1+1)) x2 x3 y0) (go x0 x1 x2 x3 y0)) (go x0 x1 x2 x3 y0)) none) (K0 x1)
def S5(D:DX)(n:Nat)(K0:Int->Option aH):Nat->Int->Int->(List Int)->Int->Int->Option aH | 0=>(fun x0 x1 x2 x3 x4=>none) | m+1=>(fun x0 x1 x2 x3 x4=>qyg D n (S5 D n K0 m) K0 x0 x1 x2 x3 x4)
def q6e(D:DX)(n:Nat)(a:Int):Option aH:=some ((a,()),())
def qwa(D:DX)(n:Nat):(Int)->(Int)->(List Int)->(Int)->(Int)->Option aH:=(fun x0 x1 x2 x3 x4=>S5 D n (fun a=>q6e D n a) n x0 x1 x2 x3 x4)
def Yy(D:DX)(n:Nat)(cw:Int->Int->List Int->Int->Int->Option aH)(a0:aB)(a1:Int):Option aH:=cw a1 0 a0.1 (a0.1.length:Int) 0
def X7(D:DX)(n:Nat)(a0:aB)(a1:Int):Option aH:=Yy D n (qwa D n) a0 a1
def qyf(x0 x1:Int)(x2:List Int)(x3 x4:Int):St:=bq 27 [(1,AV.val ah x0),(5,AV.val ah x1),(9,AV.val bG x2),(10,AV.val ah x3),(11,AV.val ah x4)] []
def q6d(a:Int):St:=bq 27 [(5,AV.val ah a)] []
theorem af2(D:DX)(n:Nat)(K:KT 37):∀(m:Nat)(x0 x1:Int)(x2:List Int)(x3 x4:Int),LF D n 37 cz m (qyf x0 x1 x2 x3 x4) K=S5 D n (fun a=>K (Ex.exit 0) (q6d a)) m x0 x1 x2 x3 x4:=oM (fun F=>qyg D n F (fun a=>K (Ex.exit 0) (q6d a)))
theorem aeJ(D:DX)(n:Nat)(x0)(x1)(x2)(x3)(x4):LF D n 37 cz n (qyf x0 x1 x2 x3 x4) (CF D n 37 [] cz (lF 37))=qwa D n x0 x1 x2 x3 x4 :=by rw[af2];kernel_rfl
theorem ahh(D:DX)(n:Nat)(a0:aB)(a1:Int):rF D n 37 (a0,(a1,()))=X7 D n a0 a1:=by
 have h:rF D n 37 (a0,(a1,()))=Yy D n (fun x0 x1 x2 x3 x4=>LF D n 37 cz n (qyf x0 x1 x2 x3 x4) (CF D n 37 [] cz (lF 37))) a0 a1:=by kernel_rfl
 rw[h];simp only[aeJ];rfl
def Pu(D:DX)(n:Nat)(a0:aB)(a1:ak)(a2:eN):Option lz:=qd (JQ D a0) fun p0=>let y0:Option lz:=br (decide (a1.1=3)) (br (decide (0<=a1.2.1)&&decide (a1.2.1<(p0.1.1.1.length:Int))) (some (((List.set p0.1.1.1 a1.2.1.toNat 0,p0.1.1.2),()),())) none) (br (decide (a1.1=8)) (br (decide (a1.1=8)) (some (((p0.1.1.1,wrap .i64 (p0.1.1.2.1+1),p0.1.1.2.2),()),())) (some (((p0.1.1.1,p0.1.1.2),()),()))) (br (decide (a1.1=9)) (some (((p0.1.1.1,wrap .i64 (p0.1.1.2.1+1),p0.1.1.2.2),()),())) (some (((p0.1.1.1,p0.1.1.2),()),()))));let y1:Option lz:=br (decide (0<=a1.2.1)&&decide (a1.2.1<(p0.1.1.1.length:Int))) (some (((List.set p0.1.1.1 a1.2.1.toNat a1.2.2.1,p0.1.1.2),()),())) none;qd (VA D a0 a1 a2) fun p1=>br (bif !p1.1.1 then true else a2.1 != 0) (some (((p0.1.1.1,p0.1.1.2),()),())) (br (decide (a1.1=1)) (br (decide (a1.1=1)) y1 y0) (br (decide (a1.1=2)) y1 y0))
def q70(D:DX)(n:Nat)(a0:aB)(a1:ak)(a2:eN):Option lz:=Pu D n a0 a1 a2
theorem ai1(D:DX)(n:Nat)(a0:aB)(a1:ak)(a2:eN):rF D n 38 (a0,(a1,(a2,())))=q70 D n a0 a1 a2:=by kernel_rfl
def Y5(D:DX)(n:Nat)(go:Bool->List Int->Int->Int->aD->aB->aB->Option nA)(K0:Bool->aB->aB->Option nA)(x0:Bool)(x1:List Int)(x2 x3:Int)(x4:aD)(x5 x6:aB):Option nA:=let y0:=List.getD x4.2.2.2.1 (Int.toNat (List.getD x1 x3.toNat 0)) (0,(0,0,0,()),0,0,0,(0,[],()),());br (decide (x3<x2)) (br (decide (0<=x3)&&decide (x3<(x1.length:Int))) (br (decide (0<=List.getD x1 x3.toNat 0)&&decide (List.getD x1 x3.toNat 0<(x4.2.2.2.1.length:Int))) (br x0 (qd (VA D (x6.1,x6.2) y0.2.1 y0.2.2.2.2.2.1) fun p2=>qd (VP D (x6.1,x6.2) y0.2.1 y0.2.2.2.2.2.1) fun p0=>go p2.1.1 x1 x2 (wrap .i64 (x3+1)) x4 x5 (p0.1.1.1,p0.1.1.2)) (qd (VP D (x6.1,x6.2) y0.2.1 y0.2.2.2.2.2.1) fun p1=>go false x1 x2 (wrap .i64 (x3+1)) x4 x5 (p1.1.1.1,p1.1.1.2))) none) none) (K0 x0 x5 x6)
def Tm(D:DX)(n:Nat)(K0:Bool->aB->aB->Option nA):Nat->Bool->(List Int)->Int->Int->aD->aB->aB->Option nA | 0=>(fun x0 x1 x2 x3 x4 x5 x6=>none) | m+1=>(fun x0 x1 x2 x3 x4 x5 x6=>Y5 D n (Tm D n K0 m) K0 x0 x1 x2 x3 x4 x5 x6)
def af7(D:DX)(n:Nat)(b:Bool)(c a:aB):Option nA:=some (((a.1,a.2),b,()),())
def qyr(D:DX)(n:Nat):(Bool)->(List Int)->(Int)->(Int)->aD->aB->aB->Option nA:=(fun x0 x1 x2 x3 x4 x5 x6=>Tm D n (fun a b c=>af7 D n a b c) n x0 x1 x2 x3 x4 x5 x6)
def ZZ(D:DX)(n:Nat)(cw:Bool->List Int->Int->Int->aD->aB->aB->Option nA)(a0:aD):Option nA:=qd (zI D a0) fun b=>br (!b.1.1) (some ((([],0,()),false,()),())) (qd (JQ D a0.2.2.2.2.2.1) fun b=>cw true a0.2.2.2.2.1 (a0.2.2.2.2.1.length:Int) 0 a0 ([],0,()) (b.1.1.1,b.1.1.2))
def ZJ(D:DX)(n:Nat)(a0:aD):Option nA:=ZZ D n (qyr D n) a0
def Y4(x0:Bool)(x1:List Int)(x2 x3:Int)(x4:aD)(x5 x6:aB):St:=bq 46 [(1,AV.addr 1 []),(2,AV.addr 2 []),(4,AV.addr 4 []),(5,AV.val Ty.bool x0),(17,AV.val bG x1),(18,AV.val ah x2),(19,AV.val ah x3)] [(1,aC.mk cN Mk.no x4 true),(2,aC.mk bR iu x5 true),(4,aC.mk bR iu x6 true)]
def q85(a:Bool)(b c:aB):St:=bq 46 [(2,AV.addr 2 []),(4,AV.addr 4 []),(5,AV.val Ty.bool a)] [(2,aC.mk bR iu b true),(4,aC.mk bR iu c true)]
theorem agM(D:DX)(n:Nat)(K:KT 39):∀(m:Nat)(x0:Bool)(x1:List Int)(x2 x3:Int)(x4:aD)(x5 x6:aB),LF D n 39 jd m (Y4 x0 x1 x2 x3 x4 x5 x6) K=Tm D n (fun a b c=>K (Ex.exit 0) (q85 a b c)) m x0 x1 x2 x3 x4 x5 x6:=eL7 (fun F=>Y5 D n F (fun a b c=>K (Ex.exit 0) (q85 a b c)))
theorem af6(D:DX)(n:Nat)(x0)(x1)(x2)(x3)(x4)(x5)(x6):LF D n 39 jd n (Y4 x0 x1 x2 x3 x4 x5 x6) (CF D n 39 [] jd (lF 39))=qyr D n x0 x1 x2 x3 x4 x5 x6 :=by rw[agM];kernel_rfl
theorem aiB(D:DX)(n:Nat)(a0:aD):rF D n 39 (a0,())=ZJ D n a0:=by
 have h:rF D n 39 (a0,())=ZZ D n (fun x0 x1 x2 x3 x4 x5 x6=>LF D n 39 jd n (Y4 x0 x1 x2 x3 x4 x5 x6) (CF D n 39 [] jd (lF 39))) a0:=by kernel_rfl
 rw[h];simp only[af6];rfl
def qul(D:DX)(n:Nat)(go:Int->List bx->Int->Int->aD->Option ag)(K0:Bool->Int->aD->Option ag)(K1:Int->aD->Option ag)(x0:Int)(x1:List bx)(x2 x3:Int)(x4:aD):Option ag:=let y0:=List.getD x1 x3.toNat (0,(0,0,0,()),0,0,0,(0,[],()),());br (decide (x3<x2)) (br (decide (0<=x3)&&decide (x3<(x1.length:Int))) (qd (kC D y0.1 0 (wrap .i64 (x0-1))) fun p0=>br (!p0.1.1) (K0 false x0 x4) (qd (Dk D y0.2.1) fun p1=>br (!p1.1.1) (K0 false x0 x4) (qd (kC D y0.2.2.1 0 x4.2.2.1) fun p2=>br (!p2.1.1) (K0 false x0 x4) (qd (Vd D y0 y0.2.2.2.1 x4) fun p3=>br (!p3.1.1) (K0 false x0 x4) (qd (Vd D y0 y0.2.2.2.2.1 x4) fun p4=>br (!p4.1.1) (K0 false x0 x4) (go x0 x1 x2 (wrap .i64 (x3+1)) x4)))))) none) (K1 x0 x4)
def SQ(D:DX)(n:Nat)(K0:Bool->Int->aD->Option ag)(K1:Int->aD->Option ag):Nat->Int->(List bx)->Int->Int->aD->Option ag | 0=>(fun x0 x1 x2 x3 x4=>none) | m+1=>(fun x0 x1 x2 x3 x4=>qul D n (SQ D n K0 K1 m) K0 K1 x0 x1 x2 x3 x4)
def qz9(D:DX)(n:Nat)(a:Bool)(b:Int)(c:aD):Option ag:=some ((a,()),())
def qum(D:DX)(n:Nat)(go:Int->List aR->Int->Int->aD->Option ag)(K0:Bool->aD->Option ag)(K1:aD->Option ag)(d:Int)(c:List aR)(e a:Int)(b:aD):Option ag:=br (decide (a<e)) (br (decide (0<=a)&&decide (a<(c.length:Int))) (qd (qxn D (List.getD c a.toNat ([],0,false,[],[],())) d) fun p0=>br (!p0.1.1) (K0 false b) (qd (Yh D b a) fun p1=>br (!p1.1.1) (K0 false b) (go d c e (wrap .i64 (a+1)) b))) none) (K1 b)
def SY(D:DX)(n:Nat)(K0:Bool->aD->Option ag)(K1:aD->Option ag):Nat->Int->(List aR)->Int->Int->aD->Option ag | 0=>(fun a b c d e=>none) | m+1=>(fun a b c d e=>qum D n (SY D n K0 K1 m) K0 K1 a b c d e)
def ad0(D:DX)(n:Nat)(a:Bool)(b:aD):Option ag:=some ((a,()),())
def q0a(D:DX)(n:Nat)(a:aD):Option ag:=qd (Yi D a) fun b=>some ((b.1.1,()),())
def qse(D:DX)(n:Nat):(Int)->(List aR)->(Int)->(Int)->aD->Option ag:=(fun a b f g h=>SY D n (fun c d=>ad0 D n c d) (fun e=>q0a D n e) n a b f g h)
def qqs(D:DX)(n:Nat)(mG:Int->List aR->Int->Int->aD->Option ag)(b:Int)(a:aD):Option ag:=mG b a.2.1 (a.2.1.length:Int) 0 a
def qsd(D:DX)(n:Nat):(Int)->(List bx)->(Int)->(Int)->aD->Option ag:=(fun x0 x1 x2 x3 x4=>SQ D n (fun a b c=>qz9 D n a b c) (fun d e=>qqs D n (qse D n) d e) n x0 x1 x2 x3 x4)
def qwb(D:DX)(n:Nat)(cw:Int->List bx->Int->Int->aD->Option ag)(a0:aD):Option ag:=qd (IB D a0.1) fun p0=>br (bif !p0.1.1 then true else (a0.1.2.1.length:Int) != (a0.2.1.length:Int)) (some ((false,()),())) (qd (kC D a0.2.2.1 0 100000) fun p1=>br (bif !p1.1.1 then true else decide ((a0.2.2.2.1.length:Int)>40)) (some ((false,()),())) (qd (Tp D a0.2.2.2.2.2.1) fun p2=>br (!p2.1.1) (some ((false,()),())) (cw (a0.2.1.length:Int) a0.2.2.2.1 (a0.2.2.2.1.length:Int) 0 a0)))
def qvx(D:DX)(n:Nat)(a0:aD):Option ag:=qwb D n (qsd D n) a0
def quj(x0:Int)(x1:List bx)(x2 x3:Int)(x4:aD):St:=bq 108 [(1,AV.addr 1 []),(3,AV.val ah x0),(4,AV.gF 79 (AV.pair (AV.addr 1 []) AV.unit)),(44,AV.val zf x1),(45,AV.val ah x2),(46,AV.val ah x3)] [(1,aC.mk cN Mk.no x4 true)]
def qqq(a:Bool)(b:Int)(c:aD):St:=bq 108 [(1,AV.addr 1 []),(2,AV.val Ty.bool a),(3,AV.val ah b)] [(1,aC.mk cN Mk.no c true)]
def qqr(a:Int)(b:aD):St:=bq 108 [(1,AV.addr 1 []),(3,AV.val ah a)] [(1,aC.mk cN Mk.no b true)]
def quk(a:Int)(b:List aR)(c d:Int)(e:aD):St:=bq 108 [(1,AV.addr 1 []),(3,AV.val ah a),(88,AV.val V3 b),(89,AV.val ah c),(90,AV.val ah d)] [(1,aC.mk cN Mk.no e true)]
def qz7(a:Bool)(b:aD):St:=bq 108 [(1,AV.addr 1 []),(2,AV.val Ty.bool a)] [(1,aC.mk cN Mk.no b true)]
def qz8(a:aD):St:=bq 108 [(1,AV.addr 1 [])] [(1,aC.mk cN Mk.no a true)]
theorem aef(D:DX)(n:Nat)(K:KT 40):∀(m:Nat)(x0:Int)(x1:List bx)(x2 x3:Int)(x4:aD),LF D n 40 jd m (quj x0 x1 x2 x3 x4) K=SQ D n (fun a b c=>K (Ex.ret) (qqq a b c)) (fun d e=>K (Ex.exit 0) (qqr d e)) m x0 x1 x2 x3 x4:=oM (fun F=>qul D n F (fun a b c=>K (Ex.ret) (qqq a b c)) (fun d e=>K (Ex.exit 0) (qqr d e)))
theorem aeg(D:DX)(n:Nat)(K:KT 40):∀(m:Nat)(d:Int)(e:List aR)(f g:Int)(h:aD),LF D n 40 zC m (quk d e f g h) K=SY D n (fun a b=>K (Ex.ret) (qz7 a b)) (fun c=>K (Ex.exit 2) (qz8 c)) m d e f g h:=oM (fun F=>qum D n F (fun a b=>K (Ex.ret) (qz7 a b)) (fun c=>K (Ex.exit 2) (qz8 c)))
theorem adX(D:DX)(n:Nat)(a:Int)(b:List aR)(c d:Int)(e:aD):LF D n 40 zC n (quk a b c d e) (CF D n 40 [] zC (lF 40))=qse D n a b c d e :=by rw[aeg];kernel_rfl
theorem adY(D:DX)(n:Nat)(a:Bool)(b:Int)(c:aD):(CF D n 40 [] jd (lF 40)) (Ex.ret) (qqq a b c)=qz9 D n a b c:=by kernel_rfl
theorem adZ(D:DX)(n:Nat)(a:Int)(b:aD):(CF D n 40 [] jd (lF 40)) (Ex.exit 0) (qqr a b)=qqs D n (fun c d e f g=>LF D n 40 zC n (quk c d e f g) (CF D n 40 [] zC (lF 40))) a b:=by kernel_rfl
theorem adW(D:DX)(n:Nat)(x0)(x1)(x2)(x3)(x4):LF D n 40 jd n (quj x0 x1 x2 x3 x4) (CF D n 40 [] jd (lF 40))=qsd D n x0 x1 x2 x3 x4:=by rw[aef];simp only[adY,adZ,adX];rfl
theorem afL(D:DX)(n:Nat)(a0:aD):rF D n 40 (a0,())=qvx D n a0:=by
 have h:rF D n 40 (a0,())=qwb D n (fun x0 x1 x2 x3 x4=>LF D n 40 jd n (quj x0 x1 x2 x3 x4) (CF D n 40 [] jd (lF 40))) a0:=by kernel_rfl
 rw[h];simp only[adW];rfl
def Oz(D:DX)(n:Nat)(a0:aD):Option ag:=qd (VI D a0) fun b=>some ((b.1.2.1,()),())
def X8(D:DX)(n:Nat)(a0:aD):Option ag:=Oz D n a0
theorem ahi(D:DX)(n:Nat)(a0:aD):rF D n 42 (a0,())=X8 D n a0:=by kernel_rfl
def ZO(D:DX)(n:Nat)(go:List Int->Int->Int->Option nB)(K0:List Int->Int->Option nB)(x0:List Int)(x1 x2:Int):Option nB:=br (bif decide (x2<(x0.length:Int)) then decide (x2<4000) else false) (br (decide (0<=x2)&&decide (x2<(x0.length:Int))) (go x0 (wrap .i64 (↑(BitVec.toNat (BitVec.and (BitVec.ofInt (IntKind.bits IntKind.i64) (wrap .i64 (wrap .i64 (wrap .i64 (x1 * 131)+wrap .i64 (List.getD x0 x2.toNat 0))+7))) (BitVec.ofInt (IntKind.bits IntKind.i64) 1073741823))):Int)) (wrap .i64 (x2+1))) none) (K0 x0 x1)
def To(D:DX)(n:Nat)(K0:List Int->Int->Option nB):Nat->(List Int)->Int->Int->Option nB | 0=>(fun x0 x1 x2=>none) | m+1=>(fun x0 x1 x2=>ZO D n (To D n K0 m) K0 x0 x1 x2)
def Ox(D:DX)(n:Nat)(a:List Int)(b:Int):Option nB:=some (((a,0,b,()),()),())
def Zf(D:DX)(n:Nat):(List Int)->(Int)->(Int)->Option nB:=(fun x0 x1 x2=>To D n (fun a b=>Ox D n a b) n x0 x1 x2)
def q92(D:DX)(n:Nat)(cw:List Int->Int->Int->Option nB)(a0:List Int):Option nB:=cw a0 (wrap .i64 (27323+(a0.length:Int))) 0
def q8i(D:DX)(n:Nat)(a0:List Int):Option nB:=q92 D n (Zf D n) a0
def ZN(x0:List Int)(x1 x2:Int):St:=bq 32 [(0,AV.val o_ x0),(3,AV.val ah x1),(4,AV.val ah x2)] []
def Ow(a:List Int)(b:Int):St:=bq 32 [(0,AV.val o_ a),(3,AV.val ah b)] []
theorem aik(D:DX)(n:Nat)(K:KT 44):∀(m:Nat)(x0:List Int)(x1 x2:Int),LF D n 44 cz m (ZN x0 x1 x2) K=To D n (fun a b=>K (Ex.exit 0) (Ow a b)) m x0 x1 x2:=pQ (fun F=>ZO D n F (fun a b=>K (Ex.exit 0) (Ow a b)))
theorem agZ(D:DX)(n:Nat)(x0)(x1)(x2):LF D n 44 cz n (ZN x0 x1 x2) (CF D n 44 [] cz (lF 44))=Zf D n x0 x1 x2 :=by rw[aik];kernel_rfl
theorem ajA(D:DX)(n:Nat)(a0:List Int):rF D n 44 (a0,())=q8i D n a0:=by
 have h:rF D n 44 (a0,())=q92 D n (fun x0 x1 x2=>LF D n 44 cz n (ZN x0 x1 x2) (CF D n 44 [] cz (lF 44))) a0:=by kernel_rfl
 rw[h];simp only[agZ];rfl
def qq1(D:DX)(n:Nat)(go:Int->bt->aB->aB->Option ny)(K0:bt->aB->aB->Option ny)(x0:Int)(x1:bt)(x2 x3:aB):Option ny:=br (decide (x0<4)) (qd (rN D x1 7) fun p0=>qd (VU D (x3.1,x3.2) p0.1.1) fun p1=>br (decide (p1.1.1<0)) (br (decide (0<=x0)&&decide (x0<(x3.1.length:Int))) (go (wrap .i64 (x0+1)) p0.2.1 x2 (List.set x3.1 x0.toNat p0.1.1,x3.2)) none) (go (wrap .i64 (x0+1)) p0.2.1 x2 x3)) (K0 x1 x2 x3)
def SO(D:DX)(n:Nat)(K0:bt->aB->aB->Option ny):Nat->Int->bt->aB->aB->Option ny | 0=>(fun x0 x1 x2 x3=>none) | m+1=>(fun x0 x1 x2 x3=>qq1 D n (SO D n K0 m) K0 x0 x1 x2 x3)
def qn7(D:DX)(n:Nat)(c:bt)(d a:aB):Option ny:=qd (Vp D c [0,0,1,3,5]) fun b=>some (((a.1,b.1.1,a.2.2),()),b.2.1,())
def qpe(D:DX)(n:Nat):(Int)->bt->aB->aB->Option ny:=(fun x0 x1 x2 x3=>SO D n (fun a b c=>qn7 D n a b c) n x0 x1 x2 x3)
def qs2(D:DX)(n:Nat)(cw:Int->bt->aB->aB->Option ny)(a0:bt):Option ny:=qd (Yn D) fun b=>cw 0 a0 ([],0,()) (b.1.1.1,b.1.1.2)
def qrx(D:DX)(n:Nat)(a0:bt):Option ny:=qs2 D n (qpe D n) a0
def qq0(x0:Int)(x1:bt)(x2 x3:aB):St:=bq 27 [(0,AV.addr 0 []),(2,AV.addr 2 []),(3,AV.addr 3 []),(4,AV.val ah x0)] [(0,aC.mk jk Mk.no x1 true),(2,aC.mk bR iu x2 true),(3,aC.mk bR iu x3 true)]
def qxf(a:bt)(b c:aB):St:=bq 27 [(0,AV.addr 0 []),(2,AV.addr 2 []),(3,AV.addr 3 [])] [(0,aC.mk jk Mk.no a true),(2,aC.mk bR iu b true),(3,aC.mk bR iu c true)]
theorem adN(D:DX)(n:Nat)(K:KT 45):∀(m:Nat)(x0:Int)(x1:bt)(x2 x3:aB),LF D n 45 cz m (qq0 x0 x1 x2 x3) K=SO D n (fun a b c=>K (Ex.exit 0) (qxf a b c)) m x0 x1 x2 x3:=zk (fun F=>qq1 D n F (fun a b c=>K (Ex.exit 0) (qxf a b c)))
theorem adL(D:DX)(n:Nat)(x0)(x1)(x2)(x3):LF D n 45 cz n (qq0 x0 x1 x2 x3) (CF D n 45 [] cz (lF 45))=qpe D n x0 x1 x2 x3 :=by rw[adN];kernel_rfl
theorem aeo(D:DX)(n:Nat)(a0:bt):rF D n 45 (a0,())=qrx D n a0:=by
 have h:rF D n 45 (a0,())=qs2 D n (fun x0 x1 x2 x3=>LF D n 45 cz n (qq0 x0 x1 x2 x3) (CF D n 45 [] cz (lF 45))) a0:=by kernel_rfl
 rw[h];simp only[adL];rfl
def qu7(D:DX)(n:Nat)(go:Int->Int->bt->List (List ak)->List ak->Option gN)(K0:Int->bt->List (List ak)->List ak->Option gN)(c d:Int)(f:bt)(e:List (List ak))(a:List ak):Option gN:=qd (rN D f 4) fun b=>br (decide (d<wrap .i64 (1+b.1.1))) (qd (qrs D b.2.1) fun b=>br (decide (a.length+1<=f9)) (go c (wrap .i64 (d+1)) b.2.1 e (a++[b.1.1])) none) (K0 c b.2.1 e a)
def S0(D:DX)(n:Nat)(K0:Int->bt->List (List ak)->List ak->Option gN):Nat->Int->Int->bt->(List (List ak))->(List ak)->Option gN | 0=>(fun a b c d e=>none) | m+1=>(fun a b c d e=>qu7 D n (S0 D n K0 m) K0 a b c d e)
def qq2(D:DX)(n:Nat)(go:Int->bt->List (List ak)->Option gN)(K0:bt->List (List ak)->Option gN)(b:Int)(c:bt)(a:List (List ak))(d:List ak):Option gN:=br (decide (a.length+1<=f9)) (go (wrap .i64 (b+1)) c (a++[d])) none
def qs4(D:DX)(n:Nat)(go:Int->bt->List (List ak)->Option gN)(K0:bt->List (List ak)->Option gN):(Int)->(Int)->bt->(List (List ak))->(List ak)->Option gN:=(fun a f g h i=>S0 D n (fun b c d e=>qq2 D n go K0 b c d e) n a f g h i)
def qu6(D:DX)(n:Nat)(go:Int->bt->List (List ak)->Option gN)(K0:bt->List (List ak)->Option gN)(mG:Int->Int->bt->List (List ak)->List ak->Option gN)(x0:Int)(x1:bt)(x2:List (List ak)):Option gN:=qd (rN D x1 3) fun b=>br (decide (x0<wrap .i64 (1+b.1.1))) (mG x0 0 b.2.1 x2 []) (K0 b.2.1 x2)
def Dg(D:DX)(n:Nat)(K0:bt->List (List ak)->Option gN):Nat->Int->bt->(List (List ak))->Option gN | 0=>(fun x0 x1 x2=>none) | m+1=>(fun x0 x1 x2=>qu6 D n (Dg D n K0 m) K0 (qs4 D n (Dg D n K0 m) K0) x0 x1 x2)
def q0h(D:DX)(n:Nat)(a:bt)(b:List (List ak)):Option gN:=some ((b,()),a,())
def qs3(D:DX)(n:Nat):(Int)->bt->(List (List ak))->Option gN:=(fun x0 x1 x2=>Dg D n (fun a b=>q0h D n a b) n x0 x1 x2)
def qw0(D:DX)(n:Nat)(cw:Int->bt->List (List ak)->Option gN)(a0:bt):Option gN:=cw 0 a0 []
def qv4(D:DX)(n:Nat)(a0:bt):Option gN:=qw0 D n (qs3 D n) a0
def Iv(x0:Int)(x1:bt)(x2:List (List ak)):St:=bq 33 [(0,AV.addr 0 []),(3,AV.b9 3 [] 0),(4,AV.val ah x0)] [(0,aC.mk jk Mk.no x1 true),(3,aC.mk jQ qD x2 false)]
def Vf(a:bt)(b:List (List ak)):St:=bq 33 [(0,AV.addr 0 []),(3,AV.b9 3 [] 0)] [(0,aC.mk jk Mk.no a true),(3,aC.mk jQ qD b false)]
def qu5(a b:Int)(c:bt)(d:List (List ak))(e:List ak):St:=bq 33 [(0,AV.addr 0 []),(3,AV.b9 3 [] 0),(4,AV.val ah a),(5,AV.b9 5 [] 0),(6,AV.val ah b)] [(0,aC.mk jk Mk.no c true),(3,aC.mk jQ qD d false),(5,aC.mk bT fk e false)]
def q0g(a:Int)(b:bt)(c:List (List ak))(d:List ak):St:=bq 33 [(0,AV.addr 0 []),(3,AV.b9 3 [] 0),(4,AV.val ah a),(5,AV.b9 5 [] 0)] [(0,aC.mk jk Mk.no b true),(3,aC.mk jQ qD c false),(5,aC.mk bT fk d false)]
theorem aeB(D:DX)(n:Nat)(K:KT 46):∀(m:Nat)(e f:Int)(g:bt)(h:List (List ak))(i:List ak),LF D n 46 EJ m (qu5 e f g h i) K=S0 D n (fun a b c d=>K (Ex.exit 2) (q0g a b c d)) m e f g h i:=oM (fun F=>qu7 D n F (fun a b c d=>K (Ex.exit 2) (q0g a b c d)))
theorem aek(D:DX)(n:Nat)(m:Nat)(K:KT 46)(a b:Int)(c:bt)(d:List (List ak))(e:List ak):LF D n 46 EJ n (qu5 a b c d e) (CF D n 46 Az [.r,.l,.l,.r,.l,.r,.l] (KF D n 46 cz m K))=qs4 D n (fun x0 x1 x2=>LF D n 46 cz m (Iv x0 x1 x2) K) (fun f g=>K (Ex.exit 0) (Vf f g)) a b c d e :=by rw[aeB];kernel_rfl
theorem aeG(D:DX)(n:Nat)(m:Nat)(K:KT 46)(x0)(x1)(x2:List (List ak)):LF D n 46 cz (m+1) (Iv x0 x1 x2) K=qu6 D n (fun x0 x1 x2=>LF D n 46 cz m (Iv x0 x1 x2) K) (fun a b=>K (Ex.exit 0) (Vf a b)) (fun c d e f g=>LF D n 46 EJ n (qu5 c d e f g) (CF D n 46 Az [.r,.l,.l,.r,.l,.r,.l] (KF D n 46 cz m K))) x0 x1 x2:=by kernel_rfl
theorem q4b(D:DX)(n:Nat)(K:KT 46):∀(m:Nat)(x0:Int)(x1:bt)(x2:List (List ak)),LF D n 46 cz m (Iv x0 x1 x2) K=Dg D n (fun a b=>K (Ex.exit 0) (Vf a b)) m x0 x1 x2
 | 0,x0,x1,x2=>sD ..
 | m+1,x0,x1,x2=>by
  have ih:(fun x0 x1 x2=>LF D n 46 cz m (Iv x0 x1 x2) K)=Dg D n (fun a b=>K (Ex.exit 0) (Vf a b)) m:=by funext x0 x1 x2;exact q4b D n K m x0 x1 x2
  rw[aeG];simp only[aek];rw[ih];rfl
theorem aej(D:DX)(n:Nat)(x0)(x1)(x2:List (List ak)):LF D n 46 cz n (Iv x0 x1 x2) (CF D n 46 [] cz (lF 46))=qs3 D n x0 x1 x2 :=by rw[q4b];kernel_rfl
theorem afV(D:DX)(n:Nat)(a0:bt):rF D n 46 (a0,())=qv4 D n a0:=by
 have h:rF D n 46 (a0,())=qw0 D n (fun x0 x1 x2=>LF D n 46 cz n (Iv x0 x1 x2) (CF D n 46 [] cz (lF 46))) a0:=by kernel_rfl
 rw[h];simp only[aej];rfl
def O2(D:DX)(n:Nat)(a0:bt)(a1:Int):Option o9:=br (decide (a1<=0)) (some ((0,()),a0,())) (br (decide (a1<=256)) (qd (IA D a0) fun p0=>br (decide (a1=0)) none (some ((Int.tmod p0.1.1 a1,()),p0.2.1,()))) (qd (IA D a0) fun p1=>qd (IA D p1.2.1) fun p2=>qd (IA D p2.2.1) fun p3=>qd (IA D p3.2.1) fun p4=>br (decide (a1=0)) none (some ((Int.tmod (wrap .i64 (wrap .i64 (wrap .i64 (wrap .i64 (p1.1.1 * 16777216)+wrap .i64 (p2.1.1 * 65536))+wrap .i64 (p3.1.1 * 256))+p4.1.1)) a1,()),p4.2.1,()))))
def YQ(D:DX)(n:Nat)(a0:bt)(a1:Int):Option o9:=O2 D n a0 a1
theorem ahG(D:DX)(n:Nat)(a0:bt)(a1:Int):rF D n 47 (a0,(a1,()))=YQ D n a0 a1:=by kernel_rfl
def Pc(D:DX)(n:Nat)(a0:List Int)(a1 a2:Int):Option aH:=br (decide (wrap .i64 (a1+wrap .i64 (Int.tdiv (a0.length:Int) 4))>a2)) (some ((a2,()),())) (some ((wrap .i64 (a1+wrap .i64 (Int.tdiv (a0.length:Int) 4)),()),()))
def Zr(D:DX)(n:Nat)(a0:List Int)(a1 a2:Int):Option aH:=Pc D n a0 a1 a2
theorem aiM(D:DX)(n:Nat)(a0:List Int)(a1 a2:Int):rF D n 48 (a0,(a1,(a2,())))=Zr D n a0 a1 a2:=by kernel_rfl
def YB(D:DX)(n:Nat)(go:Int->Int->aU->aU->List Int->Option nU)(K0:aU->aU->Option nU)(x0 x1:Int)(x2 x3:aU)(x4:List Int):Option nU:=br (decide (x1<x0)) (br (decide (0<=x1)&&decide (x1<(x4.length:Int))) (br (decide (x3.1.length+1<=f9)) (go x0 (wrap .i64 (x1+1)) x2 (x3.1++[(List.getD x4 x1.toNat 0,0,0,())],x3.2) x4) none) none) (K0 x2 x3)
def Tl(D:DX)(n:Nat)(K0:aU->aU->Option nU):Nat->Int->Int->aU->aU->(List Int)->Option nU | 0=>(fun x0 x1 x2 x3 x4=>none) | m+1=>(fun x0 x1 x2 x3 x4=>YB D n (Tl D n K0 m) K0 x0 x1 x2 x3 x4)
def q8y(D:DX)(n:Nat)(c a:aU):Option nU:=qd (IB D (a.1,a.2.1,())) fun b=>br (!b.1.1) (some ((([],[],()),false,()),())) (some (((a.1,a.2.1,()),true,()),()))
def qyp(D:DX)(n:Nat):(Int)->(Int)->aU->aU->(List Int)->Option nU:=(fun x0 x1 x2 x3 x4=>Tl D n (fun a b=>q8y D n a b) n x0 x1 x2 x3 x4)
def ZT(D:DX)(n:Nat)(cw:Int->Int->aU->aU->List Int->Option nU)(a0:aB)(a1:Int):Option nU:=qd (kC D a1 1 4) fun p1=>br (!p1.1.1) (some ((([],[],()),false,()),())) (br (decide (0<=a1)&&decide (a1<=a1)&&decide (a1<=(↑f9:Int))) (qd (Tj D a0) fun p0=>cw (p0.1.1.length:Int) 0 ([],[],()) ([],List.replicate a1.toNat (0,0,[],(0,[],()),()),()) p0.1.1) none)
def ZH(D:DX)(n:Nat)(a0:aB)(a1:Int):Option nU:=ZT D n (qyp D n) a0 a1
def YA(x0 x1:Int)(x2 x3:aU)(x4:List Int):St:=bq 36 [(4,AV.addr 4 []),(6,AV.addr 6 []),(17,AV.b9 17 [] 0),(18,AV.val ah x0),(19,AV.val ah x1)] [(4,aC.mk jW lP x2 true),(6,aC.mk jW lP x3 true),(17,aC.mk bG fk x4 false)]
def q8x(a b:aU):St:=bq 36 [(4,AV.addr 4 []),(6,AV.addr 6 [])] [(4,aC.mk jW lP a true),(6,aC.mk jW lP b true)]
theorem agJ(D:DX)(n:Nat)(K:KT 49):∀(m:Nat)(x0 x1:Int)(x2 x3:aU)(x4:List Int),LF D n 49 eL m (YA x0 x1 x2 x3 x4) K=Tl D n (fun a b=>K (Ex.exit 0) (q8x a b)) m x0 x1 x2 x3 x4:=oM (fun F=>YB D n F (fun a b=>K (Ex.exit 0) (q8x a b)))
theorem af4(D:DX)(n:Nat)(x0)(x1)(x2)(x3)(x4):LF D n 49 eL n (YA x0 x1 x2 x3 x4) (CF D n 49 [] eL (lF 49))=qyp D n x0 x1 x2 x3 x4 :=by rw[agJ];kernel_rfl
theorem aip(D:DX)(n:Nat)(a0:aB)(a1:Int):rF D n 49 (a0,(a1,()))=ZH D n a0 a1:=by
 have h:rF D n 49 (a0,(a1,()))=ZT D n (fun x0 x1 x2 x3 x4=>LF D n 49 eL n (YA x0 x1 x2 x3 x4) (CF D n 49 [] eL (lF 49))) a0 a1:=by kernel_rfl
 rw[h];simp only[af4];rfl
def Ot(D:DX)(n:Nat)(a0:aB):Option lz:=qd (SH D a0.1) fun b=>some (((b.1.1,a0.2.1,()),()),())
def qxy(D:DX)(n:Nat)(a0:aB):Option lz:=Ot D n a0
theorem agy(D:DX)(n:Nat)(a0:aB):rF D n 50 (a0,())=qxy D n a0:=by kernel_rfl
def q89(D:DX)(n:Nat)(a0:List ak):Option ji:=qd (U2 D a0) fun b=>some (((b.1.1,0,false,[],[],()),()),())
def qvy(D:DX)(n:Nat)(a0:List ak):Option ji:=q89 D n a0
theorem afM(D:DX)(n:Nat)(a0:List ak):rF D n 51 (a0,())=qvy D n a0:=by kernel_rfl
def YX(D:DX)(n:Nat)(go:Int->Int->aU->aU->List Int->Option nU)(K0:Int->aU->aU->Option nU)(x0 x1:Int)(x2 x3:aU)(x4:List Int):Option nU:=br (decide (x1<(x4.length:Int))) (br (decide (0<=x1)&&decide (x1<(x4.length:Int))) (br (decide (x3.1.length+1<=f9)) (go x0 (wrap .i64 (x1+1)) x2 (x3.1++[(List.getD x4 x1.toNat 0,0,0,())],x3.2) x4) none) none) (K0 x0 x2 x3)
def Th(D:DX)(n:Nat)(K0:Int->aU->aU->Option nU):Nat->Int->Int->aU->aU->(List Int)->Option nU | 0=>(fun x0 x1 x2 x3 x4=>none) | m+1=>(fun x0 x1 x2 x3 x4=>YX D n (Th D n K0 m) K0 x0 x1 x2 x3 x4)
def q9w(D:DX)(n:Nat)(a:Int)(c b:aU):Option nU:=qd (lU D a 1 4) fun p0=>br p0.1.1 (br (decide (0<=a)&&decide (a<=a)&&decide (a<=(↑f9:Int))) (qd (TC D (b.1,List.replicate a.toNat (0,0,[],(0,[],()),()),())) fun p1=>br (!p1.1.1) (some ((([],[],()),false,()),())) (some (((b.1,List.replicate a.toNat (0,0,[],(0,[],()),()),()),true,()),()))) none) (qd (TC D (b.1,b.2.1,())) fun p2=>br (!p2.1.1) (some ((([],[],()),false,()),())) (some (((b.1,b.2.1,()),true,()),())))
def qzk(D:DX)(n:Nat):(Int)->(Int)->aU->aU->(List Int)->Option nU:=(fun x0 x1 x2 x3 x4=>Th D n (fun a b c=>q9w D n a b c) n x0 x1 x2 x3 x4)
def Z8(D:DX)(n:Nat)(cw:Int->Int->aU->aU->List Int->Option nU)(a0:aB)(a1:Int):Option nU:=qd (Yo D a0) fun b=>cw a1 0 ([],[],()) ([],[],()) b.1.1
def Zn(D:DX)(n:Nat)(a0:aB)(a1:Int):Option nU:=Z8 D n (qzk D n) a0 a1
def YW(x0 x1:Int)(x2 x3:aU)(x4:List Int):St:=bq 38 [(1,AV.val ah x0),(4,AV.addr 4 []),(6,AV.addr 6 []),(7,AV.b9 7 [] 0),(8,AV.val ah x1)] [(4,aC.mk jW lP x2 true),(6,aC.mk jW lP x3 true),(7,aC.mk bG fk x4 false)]
def q9v(a:Int)(b c:aU):St:=bq 38 [(1,AV.val ah a),(4,AV.addr 4 []),(6,AV.addr 6 [])] [(4,aC.mk jW lP b true),(6,aC.mk jW lP c true)]
theorem agR(D:DX)(n:Nat)(K:KT 52):∀(m:Nat)(x0 x1:Int)(x2 x3:aU)(x4:List Int),LF D n 52 eL m (YW x0 x1 x2 x3 x4) K=Th D n (fun a b c=>K (Ex.exit 0) (q9v a b c)) m x0 x1 x2 x3 x4:=oM (fun F=>YX D n F (fun a b c=>K (Ex.exit 0) (q9v a b c)))
theorem agl(D:DX)(n:Nat)(x0)(x1)(x2)(x3)(x4):LF D n 52 eL n (YW x0 x1 x2 x3 x4) (CF D n 52 [] eL (lF 52))=qzk D n x0 x1 x2 x3 x4 :=by rw[agR];kernel_rfl
theorem aiI(D:DX)(n:Nat)(a0:aB)(a1:Int):rF D n 52 (a0,(a1,()))=Zn D n a0 a1:=by
 have h:rF D n 52 (a0,(a1,()))=Z8 D n (fun x0 x1 x2 x3 x4=>LF D n 52 eL n (YW x0 x1 x2 x3 x4) (CF D n 52 [] eL (lF 52))) a0 a1:=by kernel_rfl
 rw[h];simp only[agl];rfl
def Pd(D:DX)(n:Nat)(a0:aB):Option lz:=br (decide (0+a0.1.length<=f9)) (some ((([]++a0.1,a0.2.1,()),()),())) none
def Zs(D:DX)(n:Nat)(a0:aB):Option lz:=Pd D n a0
theorem aiN(D:DX)(n:Nat)(a0:aB):rF D n 53 (a0,())=Zs D n a0:=by kernel_rfl
def q91(D:DX)(n:Nat)(a0:List ak):Option ji:=br (decide (0+a0.length<=f9)) (some ((([]++a0,0,false,[],[],()),()),())) none
def qv2(D:DX)(n:Nat)(a0:List ak):Option ji:=q91 D n a0
theorem afT(D:DX)(n:Nat)(a0:List ak):rF D n 54 (a0,())=qv2 D n a0:=by kernel_rfl
def quw(D:DX)(n:Nat)(go:Int->aD->Option ag)(K0:Bool->Option ag)(K1:Option ag)(x0:Int)(x1:aD):Option ag:=br (decide (x0<(x1.2.1.length:Int))) (br (decide (0<=x0)&&decide (x0<(x1.2.1.length:Int))) (qd (qxr D (List.getD x1.2.1 x0.toNat ([],0,false,[],[],())) (x1.2.1.length:Int)) fun p0=>br (!p0.1.1) (K0 false) (qd (qxt D x1 x0) fun p1=>br (!p1.1.1) (K0 false) (go (wrap .i64 (x0+1)) x1))) none) K1
def SZ(D:DX)(n:Nat)(K0:Bool->Option ag)(K1:Option ag):Nat->Int->aD->Option ag | 0=>(fun x0 x1=>none) | m+1=>(fun x0 x1=>quw D n (SZ D n K0 K1 m) K0 K1 x0 x1)
def ad7(D:DX)(n:Nat)(a:Bool):Option ag:=some ((a,()),())
def aei(D:DX)(n:Nat):Option ag:=some ((true,()),())
def qsv(D:DX)(n:Nat):(Int)->aD->Option ag:=(fun x0 x1=>SZ D n (fun a=>ad7 D n a) (aei D n) n x0 x1)
def qwp(D:DX)(n:Nat)(cw:Int->aD->Option ag)(a0:aD):Option ag:=qd (TC D a0.1) fun p0=>br (bif !p0.1.1 then true else (a0.1.2.1.length:Int) != (a0.2.1.length:Int)) (some ((false,()),())) (qd (lU D a0.2.2.1 0 100000) fun p1=>br (!p1.1.1) (some ((false,()),())) (qd (VJ D a0.2.2.2.2.2.1) fun p2=>br (!p2.1.1) (some ((false,()),())) (qd (Yp D a0) fun p3=>br (!p3.1.1) (some ((false,()),())) (cw 0 a0))))
def qv1(D:DX)(n:Nat)(a0:aD):Option ag:=qwp D n (qsv D n) a0
def quv(x0:Int)(x1:aD):St:=bq 58 [(1,AV.addr 1 []),(3,AV.val ah x0)] [(1,aC.mk cN Mk.no x1 true)]
def q0e(a:Bool):St:=bq 58 [(2,AV.val Ty.bool a)] []
def q0f:St:=bq 58 [] []
theorem aeC(D:DX)(n:Nat)(K:KT 55):∀(m:Nat)(x0:Int)(x1:aD),LF D n 55 cz m (quv x0 x1) K=SZ D n (fun a=>K (Ex.ret) (q0e a)) (K (Ex.exit 0) (q0f)) m x0 x1:=DQ (fun F=>quw D n F (fun a=>K (Ex.ret) (q0e a)) (K (Ex.exit 0) (q0f)))
theorem ad6(D:DX)(n:Nat)(x0)(x1):LF D n 55 cz n (quv x0 x1) (CF D n 55 [] cz (lF 55))=qsv D n x0 x1 :=by rw[aeC];kernel_rfl
theorem afS(D:DX)(n:Nat)(a0:aD):rF D n 55 (a0,())=qv1 D n a0:=by
 have h:rF D n 55 (a0,())=qwp D n (fun x0 x1=>LF D n 55 cz n (quv x0 x1) (CF D n 55 [] cz (lF 55))) a0:=by kernel_rfl
 rw[h];simp only[ad6];rfl
def qqw(D:DX)(n:Nat)(go:List aR->Int->Int->aD->aD->aD->Option iL)(K0:aD->aD->aD->Option iL)(x0:List aR)(x1 x2:Int)(x3 x4 x5:aD):Option iL:=br (decide (x2<x1)) (br (decide (0<=x2)&&decide (x2<(x0.length:Int))) (qd (JO D (List.getD x0 x2.toNat ([],0,false,[],[],()))) fun p0=>br (decide (x5.2.1.length+1<=f9)) (go x0 x1 (wrap .i64 (x2+1)) x3 x4 (x5.1,x5.2.1++[(p0.1.1.1,p0.1.1.2.1,p0.1.1.2.2.1,p0.1.1.2.2.2.1,p0.1.1.2.2.2.2.1,())],x5.2.2)) none) none) (K0 x3 x4 x5)
def SM(D:DX)(n:Nat)(K0:aD->aD->aD->Option iL):Nat->(List aR)->Int->Int->aD->aD->aD->Option iL | 0=>(fun x0 x1 x2 x3 x4 x5=>none) | m+1=>(fun x0 x1 x2 x3 x4 x5=>qqw D n (SM D n K0 m) K0 x0 x1 x2 x3 x4 x5)
def qqx(D:DX)(n:Nat)(go:List bx->Int->Int->aD->aD->Option iL)(K0:aD->aD->Option iL)(c:List bx)(d b:Int)(e a:aD):Option iL:=let y0:=List.getD c b.toNat (0,(0,0,0,()),0,0,0,(0,[],()),());br (decide (b<d)) (br (decide (0<=b)&&decide (b<(c.length:Int))) (qd (Iz D y0.2.2.2.2.2.1) fun p0=>br (decide (a.2.2.2.1.length+1<=f9)) (go c d (wrap .i64 (b+1)) e (a.1,a.2.1,a.2.2.1,a.2.2.2.1++[(y0.1,y0.2.1,y0.2.2.1,y0.2.2.2.1,y0.2.2.2.2.1,(p0.1.1.1,p0.1.1.2.1,()),())],a.2.2.2.2)) none) none) (K0 e a)
def SN(D:DX)(n:Nat)(K0:aD->aD->Option iL):Nat->(List bx)->Int->Int->aD->aD->Option iL | 0=>(fun a b c d e=>none) | m+1=>(fun a b c d e=>qqx D n (SN D n K0 m) K0 a b c d e)
def adI(D:DX)(n:Nat)(b a:aD):Option iL:=some ((((a.1.1,a.1.2.1,()),a.2.1,a.2.2.1,a.2.2.2.1,a.2.2.2.2.1,(a.2.2.2.2.2.1.1,a.2.2.2.2.2.1.2),()),()),())
def qoz(D:DX)(n:Nat):(List bx)->(Int)->(Int)->aD->aD->Option iL:=(fun a d e f g=>SN D n (fun b c=>adI D n b c) n a d e f g)
def qnt(D:DX)(n:Nat)(mG:List bx->Int->Int->aD->aD->Option iL)(a b c:aD):Option iL:=mG a.2.2.2.1 (a.2.2.2.1.length:Int) 0 b c
def qoy(D:DX)(n:Nat):(List aR)->(Int)->(Int)->aD->aD->aD->Option iL:=(fun x0 x1 x2 x3 x4 x5=>SM D n (fun a b c=>qnt D n (qoz D n) a b c) n x0 x1 x2 x3 x4 x5)
def qsi(D:DX)(n:Nat)(cw:List aR->Int->Int->aD->aD->aD->Option iL)(a0:aD):Option iL:=qd (JT D a0.1) fun p0=>qd (SH D a0.2.2.2.2.1) fun p2=>qd (JQ D a0.2.2.2.2.2.1) fun p1=>cw a0.2.1 (a0.2.1.length:Int) 0 a0 (([],[],()),[],0,[],[],([],0,()),()) ((p0.1.1.1,p0.1.1.2.1,()),[],a0.2.2.1,[],p2.1.1,(p1.1.1.1,p1.1.1.2),())
def qrw(D:DX)(n:Nat)(a0:aD):Option iL:=qsi D n (qoy D n) a0
def qqu(x0:List aR)(x1 x2:Int)(x3 x4 x5:aD):St:=bq 54 [(1,AV.addr 1 []),(2,AV.addr 2 []),(3,AV.addr 3 []),(21,AV.val V3 x0),(22,AV.val ah x1),(23,AV.val ah x2)] [(1,aC.mk cN Mk.no x3 true),(2,aC.mk cN tn x4 true),(3,aC.mk cN Ji x5 true)]
def qns(a b c:aD):St:=bq 54 [(1,AV.addr 1 []),(2,AV.addr 2 []),(3,AV.addr 3 [])] [(1,aC.mk cN Mk.no a true),(2,aC.mk cN tn b true),(3,aC.mk cN Ji c true)]
def qqv(a:List bx)(b c:Int)(d e:aD):St:=bq 54 [(2,AV.addr 2 []),(3,AV.addr 3 []),(36,AV.val zf a),(37,AV.val ah b),(38,AV.val ah c)] [(2,aC.mk cN tn d true),(3,aC.mk cN Ji e true)]
def qw9(a b:aD):St:=bq 54 [(2,AV.addr 2 []),(3,AV.addr 3 [])] [(2,aC.mk cN tn a true),(3,aC.mk cN Ji b true)]
theorem adU(D:DX)(n:Nat)(K:KT 56):∀(m:Nat)(x0:List aR)(x1 x2:Int)(x3 x4 x5:aD),LF D n 56 cz m (qqu x0 x1 x2 x3 x4 x5) K=SM D n (fun a b c=>K (Ex.exit 0) (qns a b c)) m x0 x1 x2 x3 x4 x5:=DR (fun F=>qqw D n F (fun a b c=>K (Ex.exit 0) (qns a b c)))
theorem adV(D:DX)(n:Nat)(K:KT 56):∀(m:Nat)(c:List bx)(d e:Int)(f g:aD),LF D n 56 eL m (qqv c d e f g) K=SN D n (fun a b=>K (Ex.exit 2) (qw9 a b)) m c d e f g:=oM (fun F=>qqx D n F (fun a b=>K (Ex.exit 2) (qw9 a b)))
theorem adG(D:DX)(n:Nat)(a:List bx)(b c:Int)(d e:aD):LF D n 56 eL n (qqv a b c d e) (CF D n 56 [] eL (lF 56))=qoz D n a b c d e :=by rw[adV];kernel_rfl
theorem adH(D:DX)(n:Nat)(a b c:aD):(CF D n 56 [] cz (lF 56)) (Ex.exit 0) (qns a b c)=qnt D n (fun d e f g h=>LF D n 56 eL n (qqv d e f g h) (CF D n 56 [] eL (lF 56))) a b c:=by kernel_rfl
theorem adF(D:DX)(n:Nat)(x0)(x1)(x2)(x3)(x4)(x5):LF D n 56 cz n (qqu x0 x1 x2 x3 x4 x5) (CF D n 56 [] cz (lF 56))=qoy D n x0 x1 x2 x3 x4 x5:=by rw[adU];simp only[adH,adG];rfl
theorem aen(D:DX)(n:Nat)(a0:aD):rF D n 56 (a0,())=qrw D n a0:=by
 have h:rF D n 56 (a0,())=qsi D n (fun x0 x1 x2 x3 x4 x5=>LF D n 56 cz n (qqu x0 x1 x2 x3 x4 x5) (CF D n 56 [] cz (lF 56))) a0:=by kernel_rfl
 rw[h];simp only[adF];rfl
def Gg(D:DX)(n:Nat)(a0:aD)(a1:Int):Option mA:=let y0:Option mA:=(qd (JN D a0) fun p3=>some ((((p3.1.1.1.1,p3.1.1.1.2.1,()),p3.1.1.2.1,p3.1.1.2.2.1,p3.1.1.2.2.2.1,p3.1.1.2.2.2.2.1,p3.1.1.2.2.2.2.2),false,()),()));qd (zI D a0) fun p6=>br (!p6.1.1) y0 (qd (kC D a1 0 (wrap .i64 ((a0.2.1.length:Int)-1))) fun p7=>br (!p7.1.1) y0 (br (decide (0<=a1)&&decide (a1<(a0.2.1.length:Int))) (qd (Vg D (List.getD a0.2.1 a1.toNat ([],0,false,[],[],()))) fun p8=>br (bif p8.1.1 then true else decide (a0.2.2.1=100000)) y0 (qd (JN D a0) fun p0=>let y1:=List.getD p0.1.1.2.1 a1.toNat ([],0,false,[],[],());br (decide (0<=a1)&&decide (a1<(p0.1.1.2.1.length:Int))) (br (!y1.2.2.1) (br (decide (0<=y1.2.1)&&decide (y1.2.1<(y1.1.length:Int))) (br (decide (p0.1.1.2.2.2.1.length+1<=f9)) (qd (zI D ((p0.1.1.1.1,p0.1.1.1.2.1,()),List.set p0.1.1.2.1 a1.toNat (y1.1,y1.2.1,true,y1.2.2.2),wrap .i64 (p0.1.1.2.2.1+1),p0.1.1.2.2.2.1++[(a1,List.getD y1.1 (Int.toNat y1.2.1) (0,0,0,()),wrap .i64 (p0.1.1.2.2.1+1),-1,-1,(0,[],()),())],p0.1.1.2.2.2.2.1,p0.1.1.2.2.2.2.2)) fun p9=>br (!p9.1.1) y0 (some ((((p0.1.1.1.1,p0.1.1.1.2.1,()),List.set p0.1.1.2.1 a1.toNat (y1.1,y1.2.1,true,y1.2.2.2),wrap .i64 (p0.1.1.2.2.1+1),p0.1.1.2.2.2.1++[(a1,List.getD y1.1 (Int.toNat y1.2.1) (0,0,0,()),wrap .i64 (p0.1.1.2.2.1+1),-1,-1,(0,[],()),())],p0.1.1.2.2.2.2.1,p0.1.1.2.2.2.2.2),true,()),()))) none) none) (br (decide ((y1.2.2.2.2.1.length:Int)>0)) (qd (qng D ((p0.1.1.1.1,p0.1.1.1.2.1,()),p0.1.1.2.1,wrap .i64 (p0.1.1.2.2.1+1),p0.1.1.2.2.2.1,p0.1.1.2.2.2.2.1,p0.1.1.2.2.2.2.2) a1) fun p2=>qd (zI D ((p2.2.1.1.1,p2.2.1.1.2.1,()),p2.2.1.2.1,p2.2.1.2.2.1,p2.2.1.2.2.2.1,p2.2.1.2.2.2.2.1,p2.2.1.2.2.2.2.2)) fun p4=>br (!p4.1.1) y0 (some ((((p2.2.1.1.1,p2.2.1.1.2.1,()),p2.2.1.2.1,p2.2.1.2.2.1,p2.2.1.2.2.2.1,p2.2.1.2.2.2.2.1,p2.2.1.2.2.2.2.2),true,()),()))) (qd (qqa D ((p0.1.1.1.1,p0.1.1.1.2.1,()),p0.1.1.2.1,wrap .i64 (p0.1.1.2.2.1+1),p0.1.1.2.2.2.1,p0.1.1.2.2.2.2.1,p0.1.1.2.2.2.2.2) a1) fun p1=>br (!p1.1.1) y0 (qd (zI D ((p1.2.1.1.1,p1.2.1.1.2.1,()),p1.2.1.2.1,p1.2.1.2.2.1,p1.2.1.2.2.2.1,p1.2.1.2.2.2.2.1,p1.2.1.2.2.2.2.2)) fun p5=>br (!p5.1.1) y0 (some ((((p1.2.1.1.1,p1.2.1.1.2.1,()),p1.2.1.2.1,p1.2.1.2.2.1,p1.2.1.2.2.2.1,p1.2.1.2.2.2.2.1,p1.2.1.2.2.2.2.2),true,()),())))))) none)) none))
def UE(D:DX)(n:Nat)(a0:aD)(a1:Int):Option mA:=Gg D n a0 a1
theorem aae(D:DX)(n:Nat)(a0:aD)(a1:Int):rF D n 57 (a0,(a1,()))=UE D n a0 a1:=by kernel_rfl
def aaJ(D:DX)(n:Nat)(a0 a1 a2:Int):Option ag:=some ((bif decide (a0>=a1) then decide (a0<=a2) else false,()),())
def PU(D:DX)(n:Nat)(a0 a1 a2:Int):Option ag:=aaJ D n a0 a1 a2
theorem aag(D:DX)(n:Nat)(a0 a1 a2:Int):rF D n 58 (a0,(a1,(a2,())))=PU D n a0 a1 a2:=by kernel_rfl
def q6f(D:DX)(n:Nat)(a0:aD):Option ag:=qd (VI D a0) fun b=>qd (zI D a0) fun b_1=>br b_1.1.1 (qd (Yf D a0.1.1 a0.1.2.1) fun b_2=>qd (Tj D (b.1.1.1,b.1.1.2)) fun b=>qd (U8 D b_2.1.1 b.1.1) fun b=>some ((b.1.1,()),())) (some ((false,()),()))
def qt3(D:DX)(n:Nat)(a0:aD):Option ag:=q6f D n a0
theorem aeU(D:DX)(n:Nat)(a0:aD):rF D n 59 (a0,())=qt3 D n a0:=by kernel_rfl
def OH(D:DX)(n:Nat)(a0:List ak)(a1:List bE)(a2:Int):Option aH:=let y0:=List.getD a0 a2.toNat (0,0,0,());let y1:=List.getD a1 (Int.toNat (wrap .i64 (y0.2.1-1))) (0,0,[],(0,[],()),());qd (kC D a2 0 (wrap .i64 ((a0.length:Int)-1))) fun p1=>br (!p1.1.1) (some ((0,()),())) (br (decide (0<=a2)&&decide (a2<(a0.length:Int))) (br (decide (y0.2.1=0)) (some ((y0.1,()),())) (qd (kC D y0.2.1 1 (a1.length:Int)) fun p2=>br (!p2.1.1) (some ((0,()),())) (br (decide (0<=wrap .i64 (y0.2.1-1))&&decide (wrap .i64 (y0.2.1-1)<(a1.length:Int))) (qd (VB D y1 a2) fun p0=>br (bif decide (y1.1=y0.2.2.1) then decide (y1.2.1=2) else false) (some ((p0.1.1.2.2.1,()),())) (some ((p0.1.1.2.1,()),()))) none))) none)
def Yb(D:DX)(n:Nat)(a0:List ak)(a1:List bE)(a2:Int):Option aH:=OH D n a0 a1 a2
theorem ahn(D:DX)(n:Nat)(a0:List ak)(a1:List bE)(a2:Int):rF D n 60 (a0,(a1,(a2,())))=Yb D n a0 a1 a2:=by kernel_rfl
def ZV(D:DX)(n:Nat)(go:List ak->Int->Int->aU->Option ag)(K0:Bool->Option ag)(K1:Option ag)(x0:List ak)(x1 x2:Int)(x3:aU):Option ag:=let y0:=List.getD x0 x2.toNat (0,0,0,());let y1:=List.getD x3.2.1 (Int.toNat (wrap .i64 (y0.2.1-1))) (0,0,[],(0,[],()),());br (decide (x2<x1)) (br (decide (0<=x2)&&decide (x2<(x0.length:Int))) (qd (Zx D y0 (x3.2.1.length:Int)) fun p0=>br (!p0.1.1) (K0 false) (br (decide (y0.2.1=0)) (go x0 x1 (wrap .i64 (x2+1)) x3) (br (decide (0<=wrap .i64 (y0.2.1-1))&&decide (wrap .i64 (y0.2.1-1)<(x3.2.1.length:Int))) (qd (VB D y1 x2) fun p1=>br (bif !p1.1.2.1 then true else y1.1 != y0.2.2.1) (K0 false) (go x0 x1 (wrap .i64 (x2+1)) x3)) none))) none) K1
def Tt(D:DX)(n:Nat)(K0:Bool->Option ag)(K1:Option ag):Nat->(List ak)->Int->Int->aU->Option ag | 0=>(fun x0 x1 x2 x3=>none) | m+1=>(fun x0 x1 x2 x3=>ZV D n (Tt D n K0 K1 m) K0 K1 x0 x1 x2 x3)
def Ol(D:DX)(n:Nat)(a:Bool):Option ag:=some ((a,()),())
def Om(D:DX)(n:Nat):Option ag:=some ((true,()),())
def YC(D:DX)(n:Nat):(List ak)->(Int)->(Int)->aU->Option ag:=(fun x0 x1 x2 x3=>Tt D n (fun a=>Ol D n a) (Om D n) n x0 x1 x2 x3)
def q8z(D:DX)(n:Nat)(cw:List ak->Int->Int->aU->Option ag)(a0:aU):Option ag:=br ((a0.1.length:Int) != 20) (some ((false,()),())) (qd (kC D (a0.2.1.length:Int) 1 4) fun b=>br (!b.1.1) (some ((false,()),())) (qd (qd3 D a0.2.1 (bk.mk 110 [])) fun b=>br b.1.1 (some ((false,()),())) (cw a0.1 (a0.1.length:Int) 0 a0)))
def q77(D:DX)(n:Nat)(a0:aU):Option ag:=q8z D n (YC D n) a0
def ZU(x0:List ak)(x1 x2:Int)(x3:aU):St:=bq 64 [(1,AV.addr 1 []),(25,AV.val bT x0),(26,AV.val ah x1),(27,AV.val ah x2)] [(1,aC.mk jW Mk.no x3 true)]
def Oj(a:Bool):St:=bq 64 [(2,AV.val Ty.bool a)] []
def Ok:St:=bq 64 [] []
theorem aic(D:DX)(n:Nat)(K:KT 63):∀(m:Nat)(x0:List ak)(x1 x2:Int)(x3:aU),LF D n 63 cz m (ZU x0 x1 x2 x3) K=Tt D n (fun a=>K (Ex.ret) (Oj a)) (K (Ex.exit 0) (Ok)) m x0 x1 x2 x3:=zk (fun F=>ZV D n F (fun a=>K (Ex.ret) (Oj a)) (K (Ex.exit 0) (Ok)))
theorem agK(D:DX)(n:Nat)(x0)(x1)(x2)(x3):LF D n 63 cz n (ZU x0 x1 x2 x3) (CF D n 63 [] cz (lF 63))=YC D n x0 x1 x2 x3 :=by rw[aic];kernel_rfl
theorem ajo(D:DX)(n:Nat)(a0:aU):rF D n 63 (a0,())=q77 D n a0:=by
 have h:rF D n 63 (a0,())=q8z D n (fun x0 x1 x2 x3=>LF D n 63 cz n (ZU x0 x1 x2 x3) (CF D n 63 [] cz (lF 63))) a0:=by kernel_rfl
 rw[h];simp only[agK];rfl
def qhp(D:DX)(n:Nat)(a1:bk)(a0:List ak):Option ag:=qd (qiq D a0 a1) fun b=>some ((decide (b.1.1>=0),()),())
def qd8(D:DX)(n:Nat)(a0:List ak)(a1:bk):Option ag:=qhp D n a1 a0
theorem qoc(D:DX)(n:Nat)(a0:List ak)(a1:bk):rF D n 64 (a0,(a1,()))=qd8 D n a0 a1:=by kernel_rfl
def Y7(D:DX)(n:Nat)(go:List Int->Int->Int->aB->Option ag)(K0:Bool->aB->Option ag)(K1:aB->Option ag)(x0:List Int)(x1 x2:Int)(x3:aB):Option ag:=br (decide (x2<x1)) (br (decide (0<=x2)&&decide (x2<(x0.length:Int))) (br (List.getD x0 x2.toNat 0 != 0) (qd (zJ D (List.getD x0 x2.toNat 0)) fun p0=>br (!p0.1.1) (K0 false x3) (br (decide (0<=0)&&decide (0<=x2)&&decide (x2<=(x3.1.length:Int))) (qd (U5 D (List.drop (Int.toNat 0) (List.take x2.toNat x3.1)) (List.getD x0 x2.toNat 0)) fun p1=>br p1.1.1 (K0 false x3) (go x0 x1 (wrap .i64 (x2+1)) x3)) none)) (go x0 x1 (wrap .i64 (x2+1)) x3)) none) (K1 x3)
def Tn(D:DX)(n:Nat)(K0:Bool->aB->Option ag)(K1:aB->Option ag):Nat->(List Int)->Int->Int->aB->Option ag | 0=>(fun x0 x1 x2 x3=>none) | m+1=>(fun x0 x1 x2 x3=>Y7 D n (Tn D n K0 K1 m) K0 K1 x0 x1 x2 x3)
def q88(D:DX)(n:Nat)(a:Bool)(b:aB):Option ag:=some ((a,()),())
def qwd(D:DX)(n:Nat)(a:aB):Option ag:=br (decide ((a.1.length:Int)=4)) (qd (kC D a.2.1 0 5) fun b=>some ((b.1.1,()),())) (some ((false,()),()))
def qys(D:DX)(n:Nat):(List Int)->(Int)->(Int)->aB->Option ag:=(fun x0 x1 x2 x3=>Tn D n (fun a b=>q88 D n a b) (fun c=>qwd D n c) n x0 x1 x2 x3)
def Z0(D:DX)(n:Nat)(cw:List Int->Int->Int->aB->Option ag)(a0:aB):Option ag:=cw a0.1 (a0.1.length:Int) 0 a0
def ZK(D:DX)(n:Nat)(a0:aB):Option ag:=Z0 D n (qys D n) a0
def Y6(x0:List Int)(x1 x2:Int)(x3:aB):St:=bq 38 [(1,AV.addr 1 []),(6,AV.val bG x0),(7,AV.val ah x1),(8,AV.val ah x2)] [(1,aC.mk bR Mk.no x3 true)]
def q86(a:Bool)(b:aB):St:=bq 38 [(1,AV.addr 1 []),(2,AV.val Ty.bool a)] [(1,aC.mk bR Mk.no b true)]
def q87(a:aB):St:=bq 38 [(1,AV.addr 1 [])] [(1,aC.mk bR Mk.no a true)]
theorem agN(D:DX)(n:Nat)(K:KT 66):∀(m:Nat)(x0:List Int)(x1 x2:Int)(x3:aB),LF D n 66 fc m (Y6 x0 x1 x2 x3) K=Tn D n (fun a b=>K (Ex.ret) (q86 a b)) (fun c=>K (Ex.exit 0) (q87 c)) m x0 x1 x2 x3:=zk (fun F=>Y7 D n F (fun a b=>K (Ex.ret) (q86 a b)) (fun c=>K (Ex.exit 0) (q87 c)))
theorem af8(D:DX)(n:Nat)(x0)(x1)(x2)(x3):LF D n 66 fc n (Y6 x0 x1 x2 x3) (CF D n 66 [] fc (lF 66))=qys D n x0 x1 x2 x3 :=by rw[agN];kernel_rfl
theorem aiC(D:DX)(n:Nat)(a0:aB):rF D n 66 (a0,())=ZK D n a0:=by
 have h:rF D n 66 (a0,())=Z0 D n (fun x0 x1 x2 x3=>LF D n 66 fc n (Y6 x0 x1 x2 x3) (CF D n 66 [] fc (lF 66))) a0:=by kernel_rfl
 rw[h];simp only[af8];rfl
def qlp(D:DX)(n:Nat)(go:List Int->List Int->Int->Int->Option ag)(K0:Bool->Option ag)(K1:Option ag)(x0 x1:List Int)(x2 x3:Int):Option ag:=br (decide (x3<x2)) (br (decide (0<=x3)&&decide (x3<(x0.length:Int))) (br (decide (0<=x3)&&decide (x3<(x1.length:Int))) (br (List.getD x0 x3.toNat 0 != List.getD x1 x3.toNat 0) (K0 false) (go x0 x1 x2 (wrap .i64 (x3+1)))) none) none) K1
def SF(D:DX)(n:Nat)(K0:Bool->Option ag)(K1:Option ag):Nat->(List Int)->(List Int)->Int->Int->Option ag | 0=>(fun x0 x1 x2 x3=>none) | m+1=>(fun x0 x1 x2 x3=>qlp D n (SF D n K0 K1 m) K0 K1 x0 x1 x2 x3)
def qrb(D:DX)(n:Nat)(a:Bool):Option ag:=some ((a,()),())
def qrc(D:DX)(n:Nat):Option ag:=some ((true,()),())
def qle(D:DX)(n:Nat):(List Int)->(List Int)->(Int)->(Int)->Option ag:=(fun x0 x1 x2 x3=>SF D n (fun a=>qrb D n a) (qrc D n) n x0 x1 x2 x3)
def qmz(D:DX)(n:Nat)(cw:List Int->List Int->Int->Int->Option ag)(a0 a1:List Int):Option ag:=br ((a0.length:Int) != (a1.length:Int)) (some ((false,()),())) (cw a0 a1 (a0.length:Int) 0)
def qms(D:DX)(n:Nat)(a0 a1:List Int):Option ag:=qmz D n (qle D n) a0 a1
def qlo(x0 x1:List Int)(x2 x3:Int):St:=bq 26 [(0,AV.val bG x0),(1,AV.val bG x1),(12,AV.val ah x2),(13,AV.val ah x3)] []
def qq9(a:Bool):St:=bq 26 [(4,AV.val Ty.bool a)] []
def qra:St:=bq 26 [] []
theorem q9q(D:DX)(n:Nat)(K:KT 67):∀(m:Nat)(x0 x1:List Int)(x2 x3:Int),LF D n 67 cz m (qlo x0 x1 x2 x3) K=SF D n (fun a=>K (Ex.ret) (qq9 a)) (K (Ex.exit 0) (qra)) m x0 x1 x2 x3:=zk (fun F=>qlp D n F (fun a=>K (Ex.ret) (qq9 a)) (K (Ex.exit 0) (qra)))
theorem q7c(D:DX)(n:Nat)(x0)(x1)(x2)(x3):LF D n 67 cz n (qlo x0 x1 x2 x3) (CF D n 67 [] cz (lF 67))=qle D n x0 x1 x2 x3 :=by rw[q9q];kernel_rfl
theorem adw(D:DX)(n:Nat)(a0 a1:List Int):rF D n 67 (a0,(a1,()))=qms D n a0 a1:=by
 have h:rF D n 67 (a0,(a1,()))=qmz D n (fun x0 x1 x2 x3=>LF D n 67 cz n (qlo x0 x1 x2 x3) (CF D n 67 [] cz (lF 67))) a0 a1:=by kernel_rfl
 rw[h];simp only[q7c];rfl
def qyu(D:DX)(n:Nat)(go:List Int->Int->Int->aB->List Int->Option c_)(K0:aB->List Int->Option c_)(x0:List Int)(x1 x2:Int)(x3:aB)(x4:List Int):Option c_:=let y0:=wrap .i64 (x2+1);let y1:=List.getD x0 x2.toNat 0;br (decide (x2<x1)) (br (decide (0<=x2)&&decide (x2<(x0.length:Int))) (br (decide (y1=0)) (go x0 x1 y0 x3 x4) (qd (yw D y1) fun p1=>let y2:=List.set x4 p1.1.1.toNat y0;br (decide (0<=p1.1.1)&&decide (p1.1.1<(x4.length:Int))) (qd (tv D y1) fun p3=>qd (yu D p3.1.1) fun p0=>let y3:=List.set y2 p0.1.1.toNat (wrap .i64 (List.getD y2 p0.1.1.toNat 0+1));br (decide (0<=p0.1.1)&&decide (p0.1.1<(y2.length:Int))) (br (decide (0<=p0.1.1)&&decide (p0.1.1<(y2.length:Int))) (br (decide (x2<wrap .i64 (x3.2.1-1))) (qd (vN D y1) fun p2=>br (decide (0<=p2.1.1)&&decide (p2.1.1<(y3.length:Int))) (go x0 x1 y0 x3 (List.set y3 p2.1.1.toNat y0)) none) (go x0 x1 y0 x3 y3)) none) none) none)) none) (K0 x3 x4)
def S9(D:DX)(n:Nat)(K0:aB->List Int->Option c_):Nat->(List Int)->Int->Int->aB->(List Int)->Option c_ | 0=>(fun x0 x1 x2 x3 x4=>none) | m+1=>(fun x0 x1 x2 x3 x4=>qyu D n (S9 D n K0 m) K0 x0 x1 x2 x3 x4)
def qup(D:DX)(n:Nat)(c:aB)(a:List Int):Option c_:=qd (tw D) fun b=>br (decide (0<=b.1.1)&&decide (b.1.1<(a.length:Int))) (some ((List.set a b.1.1.toNat c.2.1,()),())) none
def qwe(D:DX)(n:Nat):(List Int)->(Int)->(Int)->aB->(List Int)->Option c_:=(fun x0 x1 x2 x3 x4=>S9 D n (fun a b=>qup D n a b) n x0 x1 x2 x3 x4)
def Y8(D:DX)(n:Nat)(cw:List Int->Int->Int->aB->List Int->Option c_)(a0:aB):Option c_:=qd (Tp D a0) fun p0=>br (!p0.1.1) (some (([],()),())) (br (decide (0<a0.1.length)&&decide (0<(List.replicate (Int.toNat 20) 0).length)) (cw a0.1 (a0.1.length:Int) 0 a0 (vY ah (List.replicate (Int.toNat 20) 0) a0.1)) (cw a0.1 (a0.1.length:Int) 0 a0 (List.replicate (Int.toNat 20) 0)))
def Yc(D:DX)(n:Nat)(a0:aB):Option c_:=Y8 D n (qwe D n) a0
def qyt(x0:List Int)(x1 x2:Int)(x3:aB)(x4:List Int):St:=bq 56 [(1,AV.addr 1 []),(3,AV.b9 3 [] 0),(15,AV.val bG x0),(16,AV.val ah x1),(17,AV.val ah x2)] [(1,aC.mk bR Mk.no x3 true),(3,aC.mk bG fk x4 false)]
def q6l(a:aB)(b:List Int):St:=bq 56 [(1,AV.addr 1 []),(3,AV.b9 3 [] 0)] [(1,aC.mk bR Mk.no a true),(3,aC.mk bG fk b false)]
theorem af9(D:DX)(n:Nat)(K:KT 68):∀(m:Nat)(x0:List Int)(x1 x2:Int)(x3:aB)(x4:List Int),LF D n 68 jd m (qyt x0 x1 x2 x3 x4) K=S9 D n (fun a b=>K (Ex.exit 0) (q6l a b)) m x0 x1 x2 x3 x4:=oM (fun F=>qyu D n F (fun a b=>K (Ex.exit 0) (q6l a b)))
theorem aeM(D:DX)(n:Nat)(x0)(x1)(x2)(x3)(x4):LF D n 68 jd n (qyt x0 x1 x2 x3 x4) (CF D n 68 [] jd (lF 68))=qwe D n x0 x1 x2 x3 x4 :=by rw[af9];kernel_rfl
theorem aho(D:DX)(n:Nat)(a0:aB):rF D n 68 (a0,())=Yc D n a0:=by
 have h:rF D n 68 (a0,())=Y8 D n (fun x0 x1 x2 x3 x4=>LF D n 68 jd n (qyt x0 x1 x2 x3 x4) (CF D n 68 [] jd (lF 68))) a0:=by kernel_rfl
 rw[h];simp only[aeM];rfl
def qmy(D:DX)(n:Nat)(a0:List Int):Option c_:=br (decide (Int.toNat (a0.length:Int)=0)) (both (some (([],()),())) (br (decide (0+a0.length<=f9)) (some (([]++a0,()),())) none)) (br (decide (0+a0.length<=f9)) (some (([]++a0,()),())) none)
def U_(D:DX)(n:Nat)(a0:List Int):Option c_:=qmy D n a0
theorem adv(D:DX)(n:Nat)(a0:List Int):rF D n 69 (a0,())=U_ D n a0:=by kernel_rfl
def aih(D:DX)(n:Nat):Option aH:=some ((13,()),())
def OM(D:DX)(n:Nat):Option aH:=aih D n
theorem ahm(D:DX)(n:Nat):rF D n 70 ()=OM D n:=by kernel_rfl
def aaK(D:DX)(n:Nat)(a0:aB):Option ag:=some ((decide (a0.2.1=5),()),())
def PV(D:DX)(n:Nat)(a0:aB):Option ag:=aaK D n a0
theorem aah(D:DX)(n:Nat)(a0:aB):rF D n 71 (a0,())=PV D n a0:=by kernel_rfl
def OB(D:DX)(n:Nat)(a0:Int):Option aH:=qd (zJ D a0) fun b=>qd (JV D b.1.1 (wrap .i64 (3+a0))) fun b=>some ((b.1.1,()),())
def Ya(D:DX)(n:Nat)(a0:Int):Option aH:=OB D n a0
theorem ahl(D:DX)(n:Nat)(a0:Int):rF D n 73 (a0,())=Ya D n a0:=by kernel_rfl
def qlr(D:DX)(n:Nat)(go:List Int->Int->Int->Int->Option aH)(K0:Int->Option aH)(K1:Option aH)(x0:List Int)(x1 x2 x3:Int):Option aH:=br (decide (x3<x2)) (br (decide (0<=x3)&&decide (x3<(x0.length:Int))) (br (decide (x1=List.getD x0 x3.toNat 0)) (K0 x3) (go x0 x1 x2 (wrap .i64 (x3+1)))) none) K1
def SG(D:DX)(n:Nat)(K0:Int->Option aH)(K1:Option aH):Nat->(List Int)->Int->Int->Int->Option aH | 0=>(fun x0 x1 x2 x3=>none) | m+1=>(fun x0 x1 x2 x3=>qlr D n (SG D n K0 K1 m) K0 K1 x0 x1 x2 x3)
def qrf(D:DX)(n:Nat)(a:Int):Option aH:=some ((a,()),())
def qrg(D:DX)(n:Nat):Option aH:=some ((-1,()),())
def qlf(D:DX)(n:Nat):(List Int)->(Int)->(Int)->(Int)->Option aH:=(fun x0 x1 x2 x3=>SG D n (fun a=>qrf D n a) (qrg D n) n x0 x1 x2 x3)
def qm0(D:DX)(n:Nat)(cw:List Int->Int->Int->Int->Option aH)(a0:List Int)(a1:Int):Option aH:=cw a0 a1 (a0.length:Int) 0
def qmt(D:DX)(n:Nat)(a0:List Int)(a1:Int):Option aH:=qm0 D n (qlf D n) a0 a1
def qlq(x0:List Int)(x1 x2 x3:Int):St:=bq 19 [(0,AV.val bG x0),(1,AV.val ah x1),(7,AV.val ah x2),(8,AV.val ah x3)] []
def qrd(a:Int):St:=bq 19 [(4,AV.val ah a)] []
def qre:St:=bq 19 [] []
theorem q9r(D:DX)(n:Nat)(K:KT 74):∀(m:Nat)(x0:List Int)(x1 x2 x3:Int),LF D n 74 fc m (qlq x0 x1 x2 x3) K=SG D n (fun a=>K (Ex.ret) (qrd a)) (K (Ex.exit 0) (qre)) m x0 x1 x2 x3:=zk (fun F=>qlr D n F (fun a=>K (Ex.ret) (qrd a)) (K (Ex.exit 0) (qre)))
theorem q7d(D:DX)(n:Nat)(x0)(x1)(x2)(x3):LF D n 74 fc n (qlq x0 x1 x2 x3) (CF D n 74 [] fc (lF 74))=qlf D n x0 x1 x2 x3 :=by rw[q9r];kernel_rfl
theorem adx(D:DX)(n:Nat)(a0:List Int)(a1:Int):rF D n 74 (a0,(a1,()))=qmt D n a0 a1:=by
 have h:rF D n 74 (a0,(a1,()))=qm0 D n (fun x0 x1 x2 x3=>LF D n 74 fc n (qlq x0 x1 x2 x3) (CF D n 74 [] fc (lF 74))) a0 a1:=by kernel_rfl
 rw[h];simp only[q7d];rfl
def ajb(D:DX)(n:Nat)(a0:Bool)(a1:Int):Option aH:=br (!a0) (some ((-1,()),())) (some ((a1,()),()))
def O4(D:DX)(n:Nat)(a0:Bool)(a1:Int):Option aH:=ajb D n a0 a1
theorem aiG(D:DX)(n:Nat)(a0:Bool)(a1:Int):rF D n 75 (a0,(a1,()))=O4 D n a0 a1:=by kernel_rfl
def Pm(D:DX)(n:Nat)(a0:Int):Option ag:=qd (kC D a0 1 6) fun b=>some ((b.1.1,()),())
def q79(D:DX)(n:Nat)(a0:Int):Option ag:=Pm D n a0
theorem ajq(D:DX)(n:Nat)(a0:Int):rF D n 76 (a0,())=q79 D n a0:=by kernel_rfl
def OS(D:DX)(n:Nat)(a0:Int):Option aH:=qd (zJ D a0) fun b=>br (!b.1.1) (some ((-1,()),())) (some ((Int.tmod a0 3,()),()))
def X4(D:DX)(n:Nat)(a0:Int):Option aH:=OS D n a0
theorem ahe(D:DX)(n:Nat)(a0:Int):rF D n 77 (a0,())=X4 D n a0:=by kernel_rfl
def OQ(D:DX)(n:Nat)(a0:aB)(a1:ak)(a2:eN):Option ag:=qd (Tp D a0) fun p1=>br (!p1.1.1) (some ((false,()),())) (qd (Dk D a1) fun p2=>br (!p2.1.1) (some ((false,()),())) (br (a2.1 != 0) (br (decide ((a2.2.1.length:Int)=0)) (qd (OJ D a0 a1 a2.1) fun p3=>some ((p3.1.1,()),())) (some ((false,()),()))) (qd (OK D a0 a1) fun p0=>br p0.1.2.1 (qd (U8 D p0.1.1 a2.2.1) fun p4=>some ((p4.1.1,()),())) (some ((false,()),())))))
def Yr(D:DX)(n:Nat)(a0:aB)(a1:ak)(a2:eN):Option ag:=OQ D n a0 a1 a2
theorem ahc(D:DX)(n:Nat)(a0:aB)(a1:ak)(a2:eN):rF D n 78 (a0,(a1,(a2,())))=Yr D n a0 a1 a2:=by kernel_rfl
def q32(D:DX)(n:Nat)(a0:bx)(a1:Int)(a2:aD):Option ag:=br (decide (a1 = -1)) (some ((true,()),())) (qd (kC D a1 a0.2.2.1 a2.2.2.1) fun b=>some ((b.1.1,()),()))
def qru(D:DX)(n:Nat)(a0:bx)(a1:Int)(a2:aD):Option ag:=q32 D n a0 a1 a2
theorem ael(D:DX)(n:Nat)(a0:bx)(a1:Int)(a2:aD):rF D n 79 (a0,(a1,(a2,())))=qru D n a0 a1 a2:=by kernel_rfl
def PX(D:DX)(n:Nat)(a0:ak):Option ag:=let y3:Option ag:=(qd (zJ D a0.2.2.1) fun p1=>some ((p1.1.1,()),()));let y6:Option ag:=br (decide (a0.2.1=0)) y3 (some ((false,()),()));let y1:Option ag:=(br (decide (a0.1=6)) (qd (VD D a0.2.1) fun p3=>some ((bif p3.1.1 then decide (a0.2.2.1=0) else false,()),())) (br (decide (a0.1=7)) (br (decide (a0.1=7)) (some ((bif decide (a0.2.1=0) then decide (a0.2.2.1=0) else false,()),())) (some ((false,()),()))) (br (decide (a0.1=8)) (br (decide (a0.1=8)) (some ((bif decide (a0.2.1=0) then decide (a0.2.2.1=0) else false,()),())) (some ((false,()),()))) (br (decide (a0.1=9)) (some ((bif decide (a0.2.1=0) then decide (a0.2.2.1=0) else false,()),())) (some ((false,()),()))))));let y0:Option ag:=br (decide (a0.1=5)) (br (decide (a0.1=5)) y6 y1) (br (decide (a0.1=10)) y6 y1);let y2:Option ag:=(qd (TB D a0.2.1) fun p2=>some ((bif p2.1.1 then decide (a0.2.2.1=0) else false,()),()));let y4:Option ag:=br (decide (a0.1=3)) (br (decide (a0.1=3)) y2 y0) (br (decide (a0.1=4)) y2 y0);let y5:Option ag:=(qd (TB D a0.2.1) fun p0=>br p0.1.1 y3 (some ((false,()),())));br (decide (a0.1=1)) (br (decide (a0.1=1)) y5 y4) (br (decide (a0.1=2)) y5 y4)
def Gq(D:DX)(n:Nat)(a0:ak):Option ag:=PX D n a0
theorem aaa(D:DX)(n:Nat)(a0:ak):rF D n 80 (a0,())=Gq D n a0:=by kernel_rfl
def On(D:DX)(n:Nat)(a0:aR)(a1:Int):Option ag:=let y0:Option ag:=(qd (UR D a0.2.2.2.1 (bk.mk 123 [])) fun p2=>br p2.1.1 (some ((false,()),())) (qd (UQ D a0.2.2.2.2.1 (bk.mk 127 [bL.cm ah a1])) fun p3=>some ((!p3.1.1,()),())));br (decide ((a0.1.length:Int)>8)) (some ((false,()),())) (qd (qfn D a0.1 (bk.mk 121 [])) fun p0=>br p0.1.1 (some ((false,()),())) (qd (kC D a0.2.1 0 (a0.1.length:Int)) fun p1=>br (bif bif bif !p1.1.1 then true else bif a0.2.2.1 then decide (a0.2.1=(a0.1.length:Int)) else false then true else decide ((a0.2.2.2.1.length:Int)>12) then true else decide ((a0.2.2.2.2.1.length:Int)>2)) (some ((false,()),())) (br (!a0.2.2.1) (br (decide (wrap .i64 ((a0.2.2.2.1.length:Int)+(a0.2.2.2.2.1.length:Int))>0)) (some ((false,()),())) y0) y0)))
def qxx(D:DX)(n:Nat)(a0:aR)(a1:Int):Option ag:=On D n a0 a1
theorem agx(D:DX)(n:Nat)(a0:aR)(a1:Int):rF D n 81 (a0,(a1,()))=qxx D n a0 a1:=by kernel_rfl
def qyw(D:DX)(n:Nat)(go:Int->Int->Int->Int->List bx->Int->Int->aD->aR->Option ag)(K0:Int->Int->Int->aD->aR->Option ag)(x0 x1 x2 x3:Int)(x4:List bx)(x5 x6:Int)(x7:aD)(x8:aR):Option ag:=let y0:=List.getD x4 x6.toNat (0,(0,0,0,()),0,0,0,(0,[],()),());let y1:=wrap .i64 (x6+1);br (decide (x6<x5)) (br (decide (0<=x6)&&decide (x6<(x4.length:Int))) (br (y0.1 != x0) (go x0 x1 x2 x3 x4 x5 y1 x7 x8) (br (decide (y0.2.2.2.2.1>=0)) (go x0 x6 (wrap .i64 (x2+1)) x3 x4 x5 y1 x7 x8) (go x0 x6 x2 (wrap .i64 (x3+1)) x4 x5 y1 x7 x8))) none) (K0 x1 x2 x3 x7 x8)
def S_(D:DX)(n:Nat)(K0:Int->Int->Int->aD->aR->Option ag):Nat->Int->Int->Int->Int->(List bx)->Int->Int->aD->aR->Option ag | 0=>(fun x0 x1 x2 x3 x4 x5 x6 x7 x8=>none) | m+1=>(fun x0 x1 x2 x3 x4 x5 x6 x7 x8=>qyw D n (S_ D n K0 m) K0 x0 x1 x2 x3 x4 x5 x6 x7 x8)
def qur(D:DX)(n:Nat)(b e d:Int)(c:aD)(a:aR):Option ag:=let y0:=List.getD c.2.2.2.1 b.toNat (0,(0,0,0,()),0,0,0,(0,[],()),());br (e != a.2.1) (some ((false,()),())) (br (!a.2.2.1) (some ((decide (d=0),()),())) (br (bif decide (b>=0) then decide (d=1) else false) (br (decide (0<=b)&&decide (b<(c.2.2.2.1.length:Int))) (br (decide (y0.2.2.2.2.1 = -1)) (br (decide (0<=b)&&decide (b<(c.2.2.2.1.length:Int))) (br (decide (0<=a.2.1)&&decide (a.2.1<(a.1.length:Int))) (some ((pK bU y0.2.1 (List.getD a.1 a.2.1.toNat (0,0,0,())),()),())) none) none) (some ((false,()),()))) none) (some ((false,()),()))))
def qwf(D:DX)(n:Nat):(Int)->(Int)->(Int)->(Int)->(List bx)->(Int)->(Int)->aD->aR->Option ag:=(fun x0 x1 x2 x3 x4 x5 x6 x7 x8=>S_ D n (fun a b c d e=>qur D n a b c d e) n x0 x1 x2 x3 x4 x5 x6 x7 x8)
def Y_(D:DX)(n:Nat)(cw:Int->Int->Int->Int->List bx->Int->Int->aD->aR->Option ag)(a0:aD)(a1:Int):Option ag:=br (decide (0<=a1)&&decide (a1<(a0.2.1.length:Int))) (cw a1 (-1) 0 0 a0.2.2.2.1 (a0.2.2.2.1.length:Int) 0 a0 (List.getD a0.2.1 a1.toNat ([],0,false,[],[],()))) none
def YD(D:DX)(n:Nat)(a0:aD)(a1:Int):Option ag:=Y_ D n (qwf D n) a0 a1
def qyv(x0 x1 x2 x3:Int)(x4:List bx)(x5 x6:Int)(x7:aD)(x8:aR):St:=bq 76 [(1,AV.val ah x0),(2,AV.addr 2 []),(5,AV.addr 5 []),(6,AV.val ah x1),(7,AV.val ah x2),(8,AV.val ah x3),(17,AV.val zf x4),(18,AV.val ah x5),(19,AV.val ah x6)] [(2,aC.mk cN Mk.no x7 true),(5,aC.mk jX Mk.no x8 true)]
def q6m(a b c:Int)(d:aD)(e:aR):St:=bq 76 [(2,AV.addr 2 []),(5,AV.addr 5 []),(6,AV.val ah a),(7,AV.val ah b),(8,AV.val ah c)] [(2,aC.mk cN Mk.no d true),(5,aC.mk jX Mk.no e true)]
theorem af_(D:DX)(n:Nat)(K:KT 82):∀(m:Nat)(x0 x1 x2 x3:Int)(x4:List bx)(x5 x6:Int)(x7:aD)(x8:aR),LF D n 82 zC m (qyv x0 x1 x2 x3 x4 x5 x6 x7 x8) K=S_ D n (fun a b c d e=>K (Ex.exit 0) (q6m a b c d e)) m x0 x1 x2 x3 x4 x5 x6 x7 x8:=T7 (fun F=>qyw D n F (fun a b c d e=>K (Ex.exit 0) (q6m a b c d e)))
theorem aeO(D:DX)(n:Nat)(x0)(x1)(x2)(x3)(x4)(x5)(x6)(x7)(x8):LF D n 82 zC n (qyv x0 x1 x2 x3 x4 x5 x6 x7 x8) (CF D n 82 [] zC (lF 82))=qwf D n x0 x1 x2 x3 x4 x5 x6 x7 x8 :=by rw[af_];kernel_rfl
theorem ahp(D:DX)(n:Nat)(a0:aD)(a1:Int):rF D n 82 (a0,(a1,()))=YD D n a0 a1:=by
 have h:rF D n 82 (a0,(a1,()))=Y_ D n (fun x0 x1 x2 x3 x4 x5 x6 x7 x8=>LF D n 82 zC n (qyv x0 x1 x2 x3 x4 x5 x6 x7 x8) (CF D n 82 [] zC (lF 82))) a0 a1:=by kernel_rfl
 rw[h];simp only[aeO];rfl
def qy1(D:DX)(n:Nat)(go:Int->List bx->Int->Int->aD->Option ag)(K0:Int->aD->Option ag)(x0:Int)(x1:List bx)(x2 x3:Int)(x4:aD):Option ag:=br (decide (x3<x2)) (br (decide (0<=x3)&&decide (x3<(x1.length:Int))) (br (decide ((List.getD x1 x3.toNat (0,(0,0,0,()),0,0,0,(0,[],()),())).2.2.2.1>=0)) (go (wrap .i64 (x0+1)) x1 x2 (wrap .i64 (x3+1)) x4) (go x0 x1 x2 (wrap .i64 (x3+1)) x4)) none) (K0 x0 x4)
def Tb(D:DX)(n:Nat)(K0:Int->aD->Option ag):Nat->Int->(List bx)->Int->Int->aD->Option ag | 0=>(fun x0 x1 x2 x3 x4=>none) | m+1=>(fun x0 x1 x2 x3 x4=>qy1 D n (Tb D n K0 m) K0 x0 x1 x2 x3 x4)
def qy2(D:DX)(n:Nat)(go:Int->List Int->Int->Int->aD->Option ag)(K0:Bool->Int->aD->Option ag)(K1:Int->aD->Option ag)(c:Int)(d:List Int)(e b:Int)(a:aD):Option ag:=let y2:=List.getD d b.toNat 0;let y0:=List.getD a.2.2.2.1 (Int.toNat y2) (0,(0,0,0,()),0,0,0,(0,[],()),());let y1:=Int.toNat (wrap .i64 (b-1));br (decide (b<e)) (br (decide (0<=b)&&decide (b<(d.length:Int))) (qd (kC D y2 0 (wrap .i64 ((a.2.2.2.1.length:Int)-1))) fun p0=>br (!p0.1.1) (K0 false c a) (br (decide (0<=y2)&&decide (y2<(a.2.2.2.1.length:Int))) (br (decide (y0.2.2.2.1<0)) (K0 false c a) (br (decide (0<=0)&&decide (0<=b)&&decide (b<=(a.2.2.2.2.1.length:Int))) (qd (U5 D (List.drop (Int.toNat 0) (List.take b.toNat a.2.2.2.2.1)) y2) fun p1=>br p1.1.1 (K0 false c a) (br (decide (b>0)) (br (decide (0<=wrap .i64 (b-1))&&decide (wrap .i64 (b-1)<(a.2.2.2.2.1.length:Int))) (br (decide (0<=List.getD a.2.2.2.2.1 y1 0)&&decide (List.getD a.2.2.2.2.1 y1 0<(a.2.2.2.1.length:Int))) (br (decide (0<=y2)&&decide (y2<(a.2.2.2.1.length:Int))) (br (decide ((List.getD a.2.2.2.1 (Int.toNat (List.getD a.2.2.2.2.1 y1 0)) (0,(0,0,0,()),0,0,0,(0,[],()),())).2.2.2.1>y0.2.2.2.1)) (K0 false c a) (go c d e (wrap .i64 (b+1)) a)) none) none) none) (go c d e (wrap .i64 (b+1)) a))) none)) none)) none) (K1 c a)
def Tc(D:DX)(n:Nat)(K0:Bool->Int->aD->Option ag)(K1:Int->aD->Option ag):Nat->Int->(List Int)->Int->Int->aD->Option ag | 0=>(fun a b c d e=>none) | m+1=>(fun a b c d e=>qy2 D n (Tc D n K0 K1 m) K0 K1 a b c d e)
def afh(D:DX)(n:Nat)(a:Bool)(b:Int)(c:aD):Option ag:=some ((a,()),())
def q6r(D:DX)(n:Nat)(a:Int)(b:aD):Option ag:=some ((decide (a=(b.2.2.2.2.1.length:Int)),()),())
def qwi(D:DX)(n:Nat):(Int)->(List Int)->(Int)->(Int)->aD->Option ag:=(fun a b h i j=>Tc D n (fun c d e=>afh D n c d e) (fun f g=>q6r D n f g) n a b h i j)
def qut(D:DX)(n:Nat)(mG:Int->List Int->Int->Int->aD->Option ag)(b:Int)(a:aD):Option ag:=mG b a.2.2.2.2.1 (a.2.2.2.2.1.length:Int) 0 a
def qwh(D:DX)(n:Nat):(Int)->(List bx)->(Int)->(Int)->aD->Option ag:=(fun x0 x1 x2 x3 x4=>Tb D n (fun a b=>qut D n (qwi D n) a b) n x0 x1 x2 x3 x4)
def Zb(D:DX)(n:Nat)(cw:Int->List bx->Int->Int->aD->Option ag)(a0:aD):Option ag:=cw 0 a0.2.2.2.1 (a0.2.2.2.1.length:Int) 0 a0
def YJ(D:DX)(n:Nat)(a0:aD):Option ag:=Zb D n (qwh D n) a0
def qyz(x0:Int)(x1:List bx)(x2 x3:Int)(x4:aD):St:=bq 83 [(1,AV.addr 1 []),(3,AV.val ah x0),(9,AV.val zf x1),(10,AV.val ah x2),(11,AV.val ah x3)] [(1,aC.mk cN Mk.no x4 true)]
def qus(a:Int)(b:aD):St:=bq 83 [(1,AV.addr 1 []),(3,AV.val ah a)] [(1,aC.mk cN Mk.no b true)]
def qy0(a:Int)(b:List Int)(c d:Int)(e:aD):St:=bq 83 [(1,AV.addr 1 []),(3,AV.val ah a),(22,AV.val bG b),(23,AV.val ah c),(24,AV.val ah d)] [(1,aC.mk cN Mk.no e true)]
def q6p(a:Bool)(b:Int)(c:aD):St:=bq 83 [(1,AV.addr 1 []),(2,AV.val Ty.bool a),(3,AV.val ah b)] [(1,aC.mk cN Mk.no c true)]
def q6q(a:Int)(b:aD):St:=bq 83 [(1,AV.addr 1 []),(3,AV.val ah a)] [(1,aC.mk cN Mk.no b true)]
theorem agb(D:DX)(n:Nat)(K:KT 83):∀(m:Nat)(x0:Int)(x1:List bx)(x2 x3:Int)(x4:aD),LF D n 83 cz m (qyz x0 x1 x2 x3 x4) K=Tb D n (fun a b=>K (Ex.exit 0) (qus a b)) m x0 x1 x2 x3 x4:=oM (fun F=>qy1 D n F (fun a b=>K (Ex.exit 0) (qus a b)))
theorem agc(D:DX)(n:Nat)(K:KT 83):∀(m:Nat)(f:Int)(g:List Int)(h i:Int)(j:aD),LF D n 83 eL m (qy0 f g h i j) K=Tc D n (fun a b c=>K (Ex.ret) (q6p a b c)) (fun d e=>K (Ex.exit 2) (q6q d e)) m f g h i j:=oM (fun F=>qy2 D n F (fun a b c=>K (Ex.ret) (q6p a b c)) (fun d e=>K (Ex.exit 2) (q6q d e)))
theorem aeS(D:DX)(n:Nat)(a:Int)(b:List Int)(c d:Int)(e:aD):LF D n 83 eL n (qy0 a b c d e) (CF D n 83 [] eL (lF 83))=qwi D n a b c d e :=by rw[agc];kernel_rfl
theorem afg(D:DX)(n:Nat)(a:Int)(b:aD):(CF D n 83 [] cz (lF 83)) (Ex.exit 0) (qus a b)=qut D n (fun c d e f g=>LF D n 83 eL n (qy0 c d e f g) (CF D n 83 [] eL (lF 83))) a b:=by kernel_rfl
theorem aeR(D:DX)(n:Nat)(x0)(x1)(x2)(x3)(x4):LF D n 83 cz n (qyz x0 x1 x2 x3 x4) (CF D n 83 [] cz (lF 83))=qwh D n x0 x1 x2 x3 x4:=by rw[agb];simp only[afg,aeS];rfl
theorem ag5(D:DX)(n:Nat)(a0:aD):rF D n 83 (a0,())=YJ D n a0:=by
 have h:rF D n 83 (a0,())=Zb D n (fun x0 x1 x2 x3 x4=>LF D n 83 cz n (qyz x0 x1 x2 x3 x4) (CF D n 83 [] cz (lF 83))) a0:=by kernel_rfl
 rw[h];simp only[aeR];rfl
def OV(D:DX)(n:Nat)(a0:eN):Option ((eN×Unit)×Unit):=qd (SH D a0.2.1) fun b=>some (((a0.1,b.1.1,()),()),())
def YG(D:DX)(n:Nat)(a0:eN):Option ((eN×Unit)×Unit):=OV D n a0
theorem ag2(D:DX)(n:Nat)(a0:eN):rF D n 85 (a0,())=YG D n a0:=by kernel_rfl
def ah4(D:DX)(n:Nat):Option lz:=some (((List.replicate (Int.toNat 4) 0,0,()),()),())
def ON(D:DX)(n:Nat):Option lz:=ah4 D n
theorem ahD(D:DX)(n:Nat):rF D n 90 ()=ON D n:=by kernel_rfl
def Z7(D:DX)(n:Nat)(go:Int->Int->aB->Option aH)(K0:Int->Option aH)(K1:Option aH)(x0 x1:Int)(x2:aB):Option aH:=br (decide (x1<(x2.1.length:Int))) (br (decide (0<=x1)&&decide (x1<(x2.1.length:Int))) (br (decide (List.getD x2.1 x1.toNat 0=x0)) (K0 x1) (go x0 (wrap .i64 (x1+1)) x2)) none) K1
def Tw(D:DX)(n:Nat)(K0:Int->Option aH)(K1:Option aH):Nat->Int->Int->aB->Option aH | 0=>(fun x0 x1 x2=>none) | m+1=>(fun x0 x1 x2=>Z7 D n (Tw D n K0 K1 m) K0 K1 x0 x1 x2)
def N9(D:DX)(n:Nat)(a:Int):Option aH:=some ((a,()),())
def N_(D:DX)(n:Nat):Option aH:=some ((-1,()),())
def YV(D:DX)(n:Nat):(Int)->(Int)->aB->Option aH:=(fun x0 x1 x2=>Tw D n (fun a=>N9 D n a) (N_ D n) n x0 x1 x2)
def q9u(D:DX)(n:Nat)(cw:Int->Int->aB->Option aH)(a0:aB)(a1:Int):Option aH:=cw a1 0 a0
def q8c(D:DX)(n:Nat)(a0:aB)(a1:Int):Option aH:=q9u D n (YV D n) a0 a1
def Z6(x0 x1:Int)(x2:aB):St:=bq 21 [(1,AV.val ah x0),(2,AV.addr 2 []),(5,AV.val ah x1)] [(2,aC.mk bR Mk.no x2 true)]
def N7(a:Int):St:=bq 21 [(4,AV.val ah a)] []
def N8:St:=bq 21 [] []
theorem ah1(D:DX)(n:Nat)(K:KT 91):∀(m:Nat)(x0 x1:Int)(x2:aB),LF D n 91 fc m (Z6 x0 x1 x2) K=Tw D n (fun a=>K (Ex.ret) (N7 a)) (K (Ex.exit 0) (N8)) m x0 x1 x2:=pQ (fun F=>Z7 D n F (fun a=>K (Ex.ret) (N7 a)) (K (Ex.exit 0) (N8)))
theorem agQ(D:DX)(n:Nat)(x0)(x1)(x2):LF D n 91 fc n (Z6 x0 x1 x2) (CF D n 91 [] fc (lF 91))=YV D n x0 x1 x2 :=by rw[ah1];kernel_rfl
theorem ajt(D:DX)(n:Nat)(a0:aB)(a1:Int):rF D n 91 (a0,(a1,()))=q8c D n a0 a1:=by
 have h:rF D n 91 (a0,(a1,()))=q9u D n (fun x0 x1 x2=>LF D n 91 fc n (Z6 x0 x1 x2) (CF D n 91 [] fc (lF 91))) a0 a1:=by kernel_rfl
 rw[h];simp only[agQ];rfl
def q93(D:DX)(n:Nat)(a0:bt)(a1:List Int):Option o9:=qd (rN D a0 (a1.length:Int)) fun b=>br (decide (0<=b.1.1)&&decide (b.1.1<(a1.length:Int))) (some ((List.getD a1 b.1.1.toNat 0,()),b.2.1,())) none
def qv3(D:DX)(n:Nat)(a0:bt)(a1:List Int):Option o9:=q93 D n a0 a1
theorem afU(D:DX)(n:Nat)(a0:bt)(a1:List Int):rF D n 92 (a0,(a1,()))=qv3 D n a0 a1:=by kernel_rfl
def q4a(D:DX)(n:Nat)(a0:bt):Option ((ak×Unit)×sL):=qd (Vp D a0 (List.set (List.set (List.set (List.set (List.set (List.set (List.set (List.set (List.set (List.set (List.set (List.set (List.set (List.set (List.replicate 14 0) 0 1) 1 1) 2 1) 3 2) 4 2) 5 3) 6 4) 7 5) 8 6) 9 7) 10 8) 11 9) 12 9) 13 10)) fun p0=>qd (VW D p0.1.1) fun jO=>br jO.1.1 (qd (rN D p0.2.1 4) fun p1=>br (decide (p0.1.1=6)) (qd (rN D p1.2.1 3) fun p2=>qd (Cd D p0.1.1) fun j8=>br j8.1.1 (qd (rN D p2.2.1 4) fun p6=>some (((p0.1.1,p2.1.1,wrap .i64 (1+p6.1.1),()),()),p6.2.1,())) (some (((p0.1.1,p2.1.1,0,()),()),p2.2.1,()))) (qd (Cd D p0.1.1) fun kW=>br kW.1.1 (qd (rN D p1.2.1 4) fun p7=>some (((p0.1.1,p1.1.1,wrap .i64 (1+p7.1.1),()),()),p7.2.1,())) (some (((p0.1.1,p1.1.1,0,()),()),p1.2.1,())))) (br (decide (p0.1.1=6)) (qd (rN D p0.2.1 3) fun p3=>qd (Cd D p0.1.1) fun p8=>br p8.1.1 (qd (rN D p3.2.1 4) fun p4=>some (((p0.1.1,p3.1.1,wrap .i64 (1+p4.1.1),()),()),p4.2.1,())) (some (((p0.1.1,p3.1.1,0,()),()),p3.2.1,()))) (qd (Cd D p0.1.1) fun p9=>br p9.1.1 (qd (rN D p0.2.1 4) fun p5=>some (((p0.1.1,0,wrap .i64 (1+p5.1.1),()),()),p5.2.1,())) (some (((p0.1.1,0,0,()),()),p0.2.1,()))))
def qry(D:DX)(n:Nat)(a0:bt):Option ((ak×Unit)×sL):=q4a D n a0
theorem aep(D:DX)(n:Nat)(a0:bt):rF D n 93 (a0,())=qry D n a0:=by kernel_rfl
def Pb(D:DX)(n:Nat)(a0:bt):Option o9:=let y1:=wrap .i64 (a0.2.2.1 * 6364136223846793005)+1442695040888963407;let y0:=wrap .i64 (↑(BitVec.toNat (BitVec.xor (BitVec.ofInt (IntKind.bits IntKind.i64) (Int.fdiv (wrap .i64 y1) (Int.pow 2 (if Int.toNat 33<=IntKind.bits IntKind.i64 then Int.toNat 33 else IntKind.bits IntKind.i64)))) (BitVec.ofInt (IntKind.bits IntKind.i64) (Int.fdiv (wrap .i64 y1) (Int.pow 2 (if Int.toNat 45<=IntKind.bits IntKind.i64 then Int.toNat 45 else IntKind.bits IntKind.i64)))))):Int);br (decide (a0.2.1<(a0.1.length:Int))) (br (decide (0<=a0.2.1)&&decide (a0.2.1<(a0.1.length:Int))) (some ((wrap .i64 (↑(BitVec.toNat (BitVec.and (BitVec.ofInt (IntKind.bits IntKind.i64) (wrap .i64 (wrap .i64 (↑(BitVec.toNat (BitVec.and (BitVec.ofInt (IntKind.bits IntKind.i64) y0) (BitVec.ofInt (IntKind.bits IntKind.i64) 255))):Int)+wrap .i64 (List.getD a0.1 a0.2.1.toNat 0)))) (BitVec.ofInt (IntKind.bits IntKind.i64) 255))):Int),()),(a0.1,wrap .i64 (a0.2.1+1),wrap .i64 y1,a0.2.2.2),())) none) (some ((wrap .i64 (↑(BitVec.toNat (BitVec.and (BitVec.ofInt (IntKind.bits IntKind.i64) y0) (BitVec.ofInt (IntKind.bits IntKind.i64) 255))):Int),()),(a0.1,a0.2.1,wrap .i64 y1,a0.2.2.2),()))
def Zq(D:DX)(n:Nat)(a0:bt):Option o9:=Pb D n a0
theorem aiL(D:DX)(n:Nat)(a0:bt):rF D n 94 (a0,())=Zq D n a0:=by kernel_rfl
def qmm(D:DX)(n:Nat)(a0:List ak):Option mL:=br (decide (Int.toNat (a0.length:Int)=0)) (both (some (([],()),())) (br (decide (0+a0.length<=f9)) (some (([]++a0,()),())) none)) (br (decide (0+a0.length<=f9)) (some (([]++a0,()),())) none)
def qh2(D:DX)(n:Nat)(a0:List ak):Option mL:=qmm D n a0
theorem qxu(D:DX)(n:Nat)(a0:List ak):rF D n 95 (a0,())=qh2 D n a0:=by kernel_rfl
def qzs(D:DX)(n:Nat)(go:Int->aB->List Int->Option c_)(K0:aB->List Int->Option c_)(x0:Int)(x1:aB)(x2:List Int):Option c_:=let y0:=List.getD x1.1 x0.toNat 0;let y1:=wrap .i64 (x0+1);br (decide (x0<4)) (br (decide (0<=x0)&&decide (x0<(x1.1.length:Int))) (qd (q7w D x0) fun p0=>let y2:=List.set x2 p0.1.1.toNat y0;br (decide (0<=p0.1.1)&&decide (p0.1.1<(x2.length:Int))) (br (decide (y0=0)) (go y1 x1 y2) (qd (Ym D y0) fun p1=>let y3:=List.set y2 p1.1.1.toNat y1;br (decide (0<=p1.1.1)&&decide (p1.1.1<(y2.length:Int))) (br (decide (x0<wrap .i64 (x1.2.1-1))) (qd (q7y D y0) fun p2=>br (decide (0<=p2.1.1)&&decide (p2.1.1<(y3.length:Int))) (go y1 x1 (List.set y3 p2.1.1.toNat y1)) none) (go y1 x1 y3)) none)) none) none) (K0 x1 x2)
def Tf(D:DX)(n:Nat)(K0:aB->List Int->Option c_):Nat->Int->aB->(List Int)->Option c_ | 0=>(fun x0 x1 x2=>none) | m+1=>(fun x0 x1 x2=>qzs D n (Tf D n K0 m) K0 x0 x1 x2)
def qzt(D:DX)(n:Nat)(go:Int->aB->List Int->Option c_)(K0:aB->List Int->Option c_)(a:Int)(c:aB)(d:List Int):Option c_:=br (decide (a<3)) (qd (Yk D a) fun b=>qd (Yl D c a) fun b_1=>br (decide (0<=b.1.1)&&decide (b.1.1<(d.length:Int))) (go (wrap .i64 (a+1)) c (List.set d b.1.1.toNat b_1.1.1)) none) (K0 c d)
def Tg(D:DX)(n:Nat)(K0:aB->List Int->Option c_):Nat->Int->aB->(List Int)->Option c_ | 0=>(fun a b c=>none) | m+1=>(fun a b c=>qzt D n (Tg D n K0 m) K0 a b c)
def qu1(D:DX)(n:Nat)(c:aB)(a:List Int):Option c_:=qd (VF D) fun b=>br (decide (0<=b.1.1)&&decide (b.1.1<(a.length:Int))) (some ((List.set a b.1.1.toNat c.2.1,()),())) none
def Vw(D:DX)(n:Nat):(Int)->aB->(List Int)->Option c_:=(fun a d e=>Tg D n (fun b c=>qu1 D n b c) n a d e)
def Vm(D:DX)(n:Nat)(mG:Int->aB->List Int->Option c_)(a:aB)(b:List Int):Option c_:=mG 0 a b
def qwx(D:DX)(n:Nat):(Int)->aB->(List Int)->Option c_:=(fun x0 x1 x2=>Tf D n (fun a b=>Vm D n (Vw D n) a b) n x0 x1 x2)
def Ze(D:DX)(n:Nat)(cw:Int->aB->List Int->Option c_)(a0:aB):Option c_:=qd (VJ D a0) fun b=>br (!b.1.1) (some (([],()),())) (cw 0 a0 (List.replicate (Int.toNat 20) 0))
def YP(D:DX)(n:Nat)(a0:aB):Option c_:=Ze D n (qwx D n) a0
def qzq(x0:Int)(x1:aB)(x2:List Int):St:=bq 62 [(1,AV.addr 1 []),(3,AV.b9 3 [] 0),(4,AV.val ah x0)] [(1,aC.mk bR Mk.no x1 true),(3,aC.mk bG fk x2 false)]
def qu0(a:aB)(b:List Int):St:=bq 62 [(1,AV.addr 1 []),(3,AV.b9 3 [] 0)] [(1,aC.mk bR Mk.no a true),(3,aC.mk bG fk b false)]
def qzr(a:Int)(b:aB)(c:List Int):St:=bq 62 [(1,AV.addr 1 []),(3,AV.b9 3 [] 0),(6,AV.val ah a)] [(1,aC.mk bR Mk.no b true),(3,aC.mk bG fk c false)]
def q6x(a:aB)(b:List Int):St:=bq 62 [(1,AV.addr 1 []),(3,AV.b9 3 [] 0)] [(1,aC.mk bR Mk.no a true),(3,aC.mk bG fk b false)]
theorem agn(D:DX)(n:Nat)(K:KT 96):∀(m:Nat)(x0:Int)(x1:aB)(x2:List Int),LF D n 96 eL m (qzq x0 x1 x2) K=Tf D n (fun a b=>K (Ex.exit 0) (qu0 a b)) m x0 x1 x2:=pQ (fun F=>qzs D n F (fun a b=>K (Ex.exit 0) (qu0 a b)))
theorem ago(D:DX)(n:Nat)(K:KT 96):∀(m:Nat)(c:Int)(d:aB)(e:List Int),LF D n 96 jd m (qzr c d e) K=Tg D n (fun a b=>K (Ex.exit 2) (q6x a b)) m c d e:=pQ (fun F=>qzt D n F (fun a b=>K (Ex.exit 2) (q6x a b)))
theorem aft(D:DX)(n:Nat)(a:Int)(b:aB)(c:List Int):LF D n 96 jd n (qzr a b c) (CF D n 96 [] jd (lF 96))=Vw D n a b c :=by rw[ago];kernel_rfl
theorem afu(D:DX)(n:Nat)(a:aB)(b:List Int):(CF D n 96 [] eL (lF 96)) (Ex.exit 0) (qu0 a b)=Vm D n (fun c d e=>LF D n 96 jd n (qzr c d e) (CF D n 96 [] jd (lF 96))) a b:=by kernel_rfl
theorem afs(D:DX)(n:Nat)(x0)(x1)(x2):LF D n 96 eL n (qzq x0 x1 x2) (CF D n 96 [] eL (lF 96))=qwx D n x0 x1 x2:=by rw[agn];simp only[afu,aft];rfl
theorem ahF(D:DX)(n:Nat)(a0:aB):rF D n 96 (a0,())=YP D n a0:=by
 have h:rF D n 96 (a0,())=Ze D n (fun x0 x1 x2=>LF D n 96 eL n (qzq x0 x1 x2) (CF D n 96 [] eL (lF 96))) a0:=by kernel_rfl
 rw[h];simp only[afs];rfl
def aao(D:DX)(n:Nat)(a0 a1 a2:Int):Option ag:=some ((bif decide (a0>=a1) then decide (a0<=a2) else false,()),())
def PE(D:DX)(n:Nat)(a0 a1 a2:Int):Option ag:=aao D n a0 a1 a2
theorem aaj(D:DX)(n:Nat)(a0 a1 a2:Int):rF D n 97 (a0,(a1,(a2,())))=PE D n a0 a1 a2:=by kernel_rfl
def q5y(D:DX)(n:Nat)(go:Int->aU->Option ag)(K0:Bool->aU->Option ag)(K1:aU->Option ag)(x0:Int)(x1:aU):Option ag:=br (decide (x0<(x1.2.1.length:Int))) (br (decide (0<=x0)&&decide (x0<(x1.2.1.length:Int))) (qd (ZA D (List.getD x1.2.1 x0.toNat (0,0,[],(0,[],()),()))) fun b=>br (!b.1.1) (K0 false x1) (go (wrap .i64 (x0+1)) x1)) none) (K1 x1)
def Tx(D:DX)(n:Nat)(K0:Bool->aU->Option ag)(K1:aU->Option ag):Nat->Int->aU->Option ag | 0=>(fun x0 x1=>none) | m+1=>(fun x0 x1=>q5y D n (Tx D n K0 K1 m) K0 K1 x0 x1)
def Oe(D:DX)(n:Nat)(a:Bool)(b:aU):Option ag:=some ((a,()),())
def q5z(D:DX)(n:Nat)(go:Int->aU->Option ag)(K0:Bool->Option ag)(K1:Option ag)(b:Int)(a:aU):Option ag:=let y0:=List.getD a.1 b.toNat (0,0,0,());let y1:=List.getD a.2.1 (Int.toNat (wrap .i64 (y0.2.1-1))) (0,0,[],(0,[],()),());br (decide (b<(a.1.length:Int))) (br (decide (0<=b)&&decide (b<(a.1.length:Int))) (qd (O3 D y0 (a.2.1.length:Int)) fun p0=>br (!p0.1.1) (K0 false) (br (decide (y0.2.1>0)) (br (decide (0<=wrap .i64 (y0.2.1-1))&&decide (wrap .i64 (y0.2.1-1)<(a.2.1.length:Int))) (qd (aha D y1 b) fun p1=>br (!p1.1.2.1) (K0 false) (br (decide (0<=wrap .i64 (y0.2.1-1))&&decide (wrap .i64 (y0.2.1-1)<(a.2.1.length:Int))) (br (y1.1 != y0.2.2.1) (K0 false) (go (wrap .i64 (b+1)) a)) none)) none) (go (wrap .i64 (b+1)) a))) none) K1
def Tz(D:DX)(n:Nat)(K0:Bool->Option ag)(K1:Option ag):Nat->Int->aU->Option ag | 0=>(fun a b=>none) | m+1=>(fun a b=>q5z D n (Tz D n K0 K1 m) K0 K1 a b)
def agW(D:DX)(n:Nat)(a:Bool):Option ag:=some ((a,()),())
def agX(D:DX)(n:Nat):Option ag:=some ((true,()),())
def YZ(D:DX)(n:Nat):(Int)->aU->Option ag:=(fun a b=>Tz D n (fun c=>agW D n c) (agX D n) n a b)
def qzn(D:DX)(n:Nat)(mG:Int->aU->Option ag)(a:aU):Option ag:=mG 0 a
def YY(D:DX)(n:Nat):(Int)->aU->Option ag:=(fun x0 x1=>Tx D n (fun a b=>Oe D n a b) (fun c=>qzn D n (YZ D n) c) n x0 x1)
def q9x(D:DX)(n:Nat)(cw:Int->aU->Option ag)(a0:aU):Option ag:=br ((a0.1.length:Int) != 20) (some ((false,()),())) (qd (lU D (a0.2.1.length:Int) 1 4) fun b=>br (!b.1.1) (some ((false,()),())) (cw 0 a0))
def q8e(D:DX)(n:Nat)(a0:aU):Option ag:=q9x D n (YY D n) a0
def Z9(x0:Int)(x1:aU):St:=bq 81 [(1,AV.addr 1 []),(3,AV.val ah x0)] [(1,aC.mk jW Mk.no x1 true)]
def qzl(a:Bool)(b:aU):St:=bq 81 [(1,AV.addr 1 []),(2,AV.val Ty.bool a)] [(1,aC.mk jW Mk.no b true)]
def qzm(a:aU):St:=bq 81 [(1,AV.addr 1 [])] [(1,aC.mk jW Mk.no a true)]
def Z_(a:Int)(b:aU):St:=bq 81 [(1,AV.addr 1 []),(4,AV.val ah a)] [(1,aC.mk jW Mk.no b true)]
def Oc(a:Bool):St:=bq 81 [(2,AV.val Ty.bool a)] []
def Od:St:=bq 81 [] []
theorem ah2(D:DX)(n:Nat)(K:KT 98):∀(m:Nat)(x0:Int)(x1:aU),LF D n 98 cz m (Z9 x0 x1) K=Tx D n (fun a b=>K (Ex.ret) (qzl a b)) (fun c=>K (Ex.exit 0) (qzm c)) m x0 x1:=DQ (fun F=>q5y D n F (fun a b=>K (Ex.ret) (qzl a b)) (fun c=>K (Ex.exit 0) (qzm c)))
theorem ah3(D:DX)(n:Nat)(K:KT 98):∀(m:Nat)(b:Int)(c:aU),LF D n 98 eL m (Z_ b c) K=Tz D n (fun a=>K (Ex.ret) (Oc a)) (K (Ex.exit 2) (Od)) m b c:=DQ (fun F=>q5z D n F (fun a=>K (Ex.ret) (Oc a)) (K (Ex.exit 2) (Od)))
theorem agT(D:DX)(n:Nat)(a:Int)(b:aU):LF D n 98 eL n (Z_ a b) (CF D n 98 [] eL (lF 98))=YZ D n a b :=by rw[ah3];kernel_rfl
theorem agU(D:DX)(n:Nat)(a:Bool)(b:aU):(CF D n 98 [] cz (lF 98)) (Ex.ret) (qzl a b)=Oe D n a b:=by kernel_rfl
theorem agV(D:DX)(n:Nat)(a:aU):(CF D n 98 [] cz (lF 98)) (Ex.exit 0) (qzm a)=qzn D n (fun b c=>LF D n 98 eL n (Z_ b c) (CF D n 98 [] eL (lF 98))) a:=by kernel_rfl
theorem agS(D:DX)(n:Nat)(x0)(x1):LF D n 98 cz n (Z9 x0 x1) (CF D n 98 [] cz (lF 98))=YY D n x0 x1:=by rw[ah2];simp only[agU,agV,agT];rfl
theorem ajv(D:DX)(n:Nat)(a0:aU):rF D n 98 (a0,())=q8e D n a0:=by
 have h:rF D n 98 (a0,())=q9x D n (fun x0 x1=>LF D n 98 cz n (Z9 x0 x1) (CF D n 98 [] cz (lF 98))) a0:=by kernel_rfl
 rw[h];simp only[agS];rfl
def Y1(D:DX)(n:Nat)(go:Int->aB->Option ag)(K0:Bool->aB->Option ag)(K1:aB->Option ag)(x0:Int)(x1:aB):Option ag:=br (decide (x0<(x1.1.length:Int))) (br (decide (0<=x0)&&decide (x0<(x1.1.length:Int))) (br (List.getD x1.1 x0.toNat 0 != 0) (br (decide (0<=x0)&&decide (x0<(x1.1.length:Int))) (qd (Di D (List.getD x1.1 x0.toNat 0)) fun p0=>br (!p0.1.1) (K0 false x1) (br (decide (0<=x0)&&decide (x0<(x1.1.length:Int))) (qd (VU D x1 (List.getD x1.1 x0.toNat 0)) fun p1=>br (p1.1.1 != x0) (K0 false x1) (go (wrap .i64 (x0+1)) x1)) none)) none) (go (wrap .i64 (x0+1)) x1)) none) (K1 x1)
def Ti(D:DX)(n:Nat)(K0:Bool->aB->Option ag)(K1:aB->Option ag):Nat->Int->aB->Option ag | 0=>(fun x0 x1=>none) | m+1=>(fun x0 x1=>Y1 D n (Ti D n K0 K1 m) K0 K1 x0 x1)
def q90(D:DX)(n:Nat)(a:Bool)(b:aB):Option ag:=some ((a,()),())
def qwq(D:DX)(n:Nat)(a:aB):Option ag:=br (decide ((a.1.length:Int)=4)) (qd (lU D a.2.1 0 5) fun b=>some ((b.1.1,()),())) (some ((false,()),()))
def qzo(D:DX)(n:Nat):(Int)->aB->Option ag:=(fun x0 x1=>Ti D n (fun a b=>q90 D n a b) (fun c=>qwq D n c) n x0 x1)
def ZM(D:DX)(n:Nat)(cw:Int->aB->Option ag)(a0:aB):Option ag:=cw 0 a0
def Zo(D:DX)(n:Nat)(a0:aB):Option ag:=ZM D n (qzo D n) a0
def Y0(x0:Int)(x1:aB):St:=bq 46 [(1,AV.addr 1 []),(3,AV.val ah x0)] [(1,aC.mk bR Mk.no x1 true)]
def q9y(a:Bool)(b:aB):St:=bq 46 [(1,AV.addr 1 []),(2,AV.val Ty.bool a)] [(1,aC.mk bR Mk.no b true)]
def q9z(a:aB):St:=bq 46 [(1,AV.addr 1 [])] [(1,aC.mk bR Mk.no a true)]
theorem agY(D:DX)(n:Nat)(K:KT 99):∀(m:Nat)(x0:Int)(x1:aB),LF D n 99 fc m (Y0 x0 x1) K=Ti D n (fun a b=>K (Ex.ret) (q9y a b)) (fun c=>K (Ex.exit 0) (q9z c)) m x0 x1:=DQ (fun F=>Y1 D n F (fun a b=>K (Ex.ret) (q9y a b)) (fun c=>K (Ex.exit 0) (q9z c)))
theorem agm(D:DX)(n:Nat)(x0)(x1):LF D n 99 fc n (Y0 x0 x1) (CF D n 99 [] fc (lF 99))=qzo D n x0 x1 :=by rw[agY];kernel_rfl
theorem aiJ(D:DX)(n:Nat)(a0:aB):rF D n 99 (a0,())=Zo D n a0:=by
 have h:rF D n 99 (a0,())=ZM D n (fun x0 x1=>LF D n 99 fc n (Y0 x0 x1) (CF D n 99 [] fc (lF 99))) a0:=by kernel_rfl
 rw[h];simp only[agm];rfl
def qzx(D:DX)(n:Nat)(go:Int->Int->aD->Option ag)(K0:Bool->Int->aD->Option ag)(K1:Int->aD->Option ag)(x0 x1:Int)(x2:aD):Option ag:=let y0:=List.getD x2.2.2.2.1 x1.toNat (0,(0,0,0,()),0,0,0,(0,[],()),());br (decide (x1<(x2.2.2.2.1.length:Int))) (br (decide (0<=x1)&&decide (x1<(x2.2.2.2.1.length:Int))) (qd (aim D x2 y0) fun p0=>br (!p0.1.1) (K0 false x0 x2) (br (decide (0<=x1)&&decide (x1<(x2.2.2.2.1.length:Int))) (qd (TD D (decide (y0.2.2.2.1>=0))) fun p1=>go (wrap .i64 (x0+p1.1.1)) (wrap .i64 (x1+1)) x2) none)) none) (K1 x0 x2)
def Vz(D:DX)(n:Nat)(K0:Bool->Int->aD->Option ag)(K1:Int->aD->Option ag):Nat->Int->Int->aD->Option ag | 0=>(fun x0 x1 x2=>none) | m+1=>(fun x0 x1 x2=>qzx D n (Vz D n K0 K1 m) K0 K1 x0 x1 x2)
def q60(D:DX)(n:Nat)(a:Bool)(b:Int)(c:aD):Option ag:=some ((a,()),())
def Oy(D:DX)(n:Nat)(go:Int->Int->Int->Int->aD->Option ag)(K0:Bool->Int->Int->aD->Option ag)(K1:Int->Int->aD->Option ag)(d c e a:Int)(b:aD):Option ag:=br (decide (a<c)) (br (decide (0<=a)&&decide (a<(b.2.2.2.2.1.length:Int))) (br (decide (List.getD b.2.2.2.2.1 a.toNat 0=e)) (K0 false d c b) (go d c e (wrap .i64 (a+1)) b)) none) (K1 d c b)
def qzu(D:DX)(n:Nat)(K0:Bool->Int->Int->aD->Option ag)(K1:Int->Int->aD->Option ag):Nat->Int->Int->Int->Int->aD->Option ag | 0=>(fun a b c d e=>none) | m+1=>(fun a b c d e=>Oy D n (qzu D n K0 K1 m) K0 K1 a b c d e)
def afB(D:DX)(n:Nat)(go:Int->Int->aD->Option ag)(K0:Bool->Int->aD->Option ag)(K1:Int->aD->Option ag)(a:Bool)(b d:Int)(c:aD):Option ag:=K0 a b c
def afC(D:DX)(n:Nat)(go:Int->Int->aD->Option ag)(K0:Bool->Int->aD->Option ag)(K1:Int->aD->Option ag)(a b:Int)(c:aD):Option ag:=go a (wrap .i64 (b+1)) c
def q95(D:DX)(n:Nat)(go:Int->Int->aD->Option ag)(K0:Bool->Int->aD->Option ag)(K1:Int->aD->Option ag):(Int)->(Int)->(Int)->(Int)->aD->Option ag:=(fun a b j k l=>qzu D n (fun c d e f=>afB D n go K0 K1 c d e f) (fun g h i=>afC D n go K0 K1 g h i) n a b j k l)
def qzy(D:DX)(n:Nat)(go:Int->Int->aD->Option ag)(K0:Bool->Int->aD->Option ag)(K1:Int->aD->Option ag)(UA:Int->Int->Int->Int->aD->Option ag)(c b:Int)(a:aD):Option ag:=let y0:=List.getD a.2.2.2.2.1 b.toNat 0;let y1:=List.getD a.2.2.2.1 (Int.toNat y0) (0,(0,0,0,()),0,0,0,(0,[],()),());let y2:=Int.toNat (wrap .i64 (b-1));br (decide (b<(a.2.2.2.2.1.length:Int))) (br (decide (0<=b)&&decide (b<(a.2.2.2.2.1.length:Int))) (qd (lU D y0 0 (wrap .i64 ((a.2.2.2.1.length:Int)-1))) fun p0=>br (!p0.1.1) (K0 false c a) (br (decide (0<=y0)&&decide (y0<(a.2.2.2.1.length:Int))) (br (decide (y1.2.2.2.1<0)) (K0 false c a) (br (decide (b>0)) (br (decide (0<=wrap .i64 (b-1))&&decide (wrap .i64 (b-1)<(a.2.2.2.2.1.length:Int))) (br (decide (0<=List.getD a.2.2.2.2.1 y2 0)&&decide (List.getD a.2.2.2.2.1 y2 0<(a.2.2.2.1.length:Int))) (br (decide (0<=y0)&&decide (y0<(a.2.2.2.1.length:Int))) (br (decide ((List.getD a.2.2.2.1 (Int.toNat (List.getD a.2.2.2.2.1 y2 0)) (0,(0,0,0,()),0,0,0,(0,[],()),())).2.2.2.1>y1.2.2.2.1)) (K0 false c a) (UA c b y0 0 a)) none) none) none) (UA c b y0 0 a))) none)) none) (K1 c a)
def JR(D:DX)(n:Nat)(K0:Bool->Int->aD->Option ag)(K1:Int->aD->Option ag):Nat->Int->Int->aD->Option ag | 0=>(fun a b c=>none) | m+1=>(fun a b c=>qzy D n (JR D n K0 K1 m) K0 K1 (q95 D n (JR D n K0 K1 m) K0 K1) a b c)
def afA(D:DX)(n:Nat)(a:Bool)(b:Int)(c:aD):Option ag:=some ((a,()),())
def q61(D:DX)(n:Nat)(b:Int)(a:aD):Option ag:=some ((bif decide ((a.2.2.2.1.length:Int)<=40) then decide (b=(a.2.2.2.2.1.length:Int)) else false,()),())
def qwz(D:DX)(n:Nat):(Int)->(Int)->aD->Option ag:=(fun a b h=>JR D n (fun c d e=>afA D n c d e) (fun f g=>q61 D n f g) n a b h)
def qu4(D:DX)(n:Nat)(mG:Int->Int->aD->Option ag)(a:Int)(b:aD):Option ag:=mG a 0 b
def qwy(D:DX)(n:Nat):(Int)->(Int)->aD->Option ag:=(fun x0 x1 x2=>Vz D n (fun a b c=>q60 D n a b c) (fun d e=>qu4 D n (qwz D n) d e) n x0 x1 x2)
def Zg(D:DX)(n:Nat)(cw:Int->Int->aD->Option ag)(a0:aD):Option ag:=cw 0 0 a0
def YR(D:DX)(n:Nat)(a0:aD):Option ag:=Zg D n (qwy D n) a0
def qzv(x0 x1:Int)(x2:aD):St:=bq 108 [(1,AV.addr 1 []),(3,AV.val ah x0),(4,AV.val ah x1)] [(1,aC.mk cN Mk.no x2 true)]
def qu2(a:Bool)(b:Int)(c:aD):St:=bq 108 [(1,AV.addr 1 []),(2,AV.val Ty.bool a),(3,AV.val ah b)] [(1,aC.mk cN Mk.no c true)]
def qu3(a:Int)(b:aD):St:=bq 108 [(1,AV.addr 1 []),(3,AV.val ah a)] [(1,aC.mk cN Mk.no b true)]
def Iy(a b:Int)(c:aD):St:=bq 108 [(1,AV.addr 1 []),(3,AV.val ah a),(5,AV.val ah b)] [(1,aC.mk cN Mk.no c true)]
def Vn(a:Bool)(b:Int)(c:aD):St:=bq 108 [(1,AV.addr 1 []),(2,AV.val Ty.bool a),(3,AV.val ah b)] [(1,aC.mk cN Mk.no c true)]
def Vo(a:Int)(b:aD):St:=bq 108 [(1,AV.addr 1 []),(3,AV.val ah a)] [(1,aC.mk cN Mk.no b true)]
def qzw(a b c d:Int)(e:aD):St:=bq 108 [(1,AV.addr 1 []),(3,AV.val ah a),(5,AV.val ah b),(6,AV.val ah c),(7,AV.val ah d)] [(1,aC.mk cN Mk.no e true)]
def q6y(a:Bool)(b c:Int)(d:aD):St:=bq 108 [(1,AV.addr 1 []),(2,AV.val Ty.bool a),(3,AV.val ah b),(5,AV.val ah c)] [(1,aC.mk cN Mk.no d true)]
def q6z(a b:Int)(c:aD):St:=bq 108 [(1,AV.addr 1 []),(3,AV.val ah a),(5,AV.val ah b)] [(1,aC.mk cN Mk.no c true)]
theorem agp(D:DX)(n:Nat)(K:KT 100):∀(m:Nat)(x0 x1:Int)(x2:aD),LF D n 100 cz m (qzv x0 x1 x2) K=Vz D n (fun a b c=>K (Ex.ret) (qu2 a b c)) (fun d e=>K (Ex.exit 0) (qu3 d e)) m x0 x1 x2:=pQ (fun F=>qzx D n F (fun a b c=>K (Ex.ret) (qu2 a b c)) (fun d e=>K (Ex.exit 0) (qu3 d e)))
theorem agq(D:DX)(n:Nat)(K:KT 100):∀(m:Nat)(h i j k:Int)(l:aD),LF D n 100 EI m (qzw h i j k l) K=qzu D n (fun a b c d=>K (Ex.ret) (q6y a b c d)) (fun e f g=>K (Ex.exit 4) (q6z e f g)) m h i j k l:=oM (fun F=>Oy D n F (fun a b c d=>K (Ex.ret) (q6y a b c d)) (fun e f g=>K (Ex.exit 4) (q6z e f g)))
theorem afx(D:DX)(n:Nat)(m:Nat)(K:KT 100)(a b c d:Int)(e:aD):LF D n 100 EI n (qzw a b c d e) (CF D n 100 [.r,.r,.r,.l,.r,.l,.l] [.r,.l,.l,.r,.r,.r,.l] (KF D n 100 eL m K))=q95 D n (fun k o p=>LF D n 100 eL m (Iy k o p) K) (fun f g h=>K (Ex.ret) (Vn f g h)) (fun i j=>K (Ex.exit 2) (Vo i j)) a b c d e :=by rw[agq];kernel_rfl
theorem agr(D:DX)(n:Nat)(m:Nat)(K:KT 100)(a b:Int)(c:aD):LF D n 100 eL (m+1) (Iy a b c) K=qzy D n (fun a b c=>LF D n 100 eL m (Iy a b c) K) (fun d e f=>K (Ex.ret) (Vn d e f)) (fun g h=>K (Ex.exit 2) (Vo g h)) (fun i j k o p=>LF D n 100 EI n (qzw i j k o p) (CF D n 100 [.r,.r,.r,.l,.r,.l,.l] [.r,.l,.l,.r,.r,.r,.l] (KF D n 100 eL m K))) a b c:=by kernel_rfl
theorem q94(D:DX)(n:Nat)(K:KT 100):∀(m:Nat)(a b:Int)(c:aD),LF D n 100 eL m (Iy a b c) K=JR D n (fun d e f=>K (Ex.ret) (Vn d e f)) (fun g h=>K (Ex.exit 2) (Vo g h)) m a b c
 | 0,a,b,c=>sD ..
 | m+1,a,b,c=>by
  have ih:(fun a b c=>LF D n 100 eL m (Iy a b c) K)=JR D n (fun d e f=>K (Ex.ret) (Vn d e f)) (fun g h=>K (Ex.exit 2) (Vo g h)) m:=by funext a b c;exact q94 D n K m a b c
  rw[agr];simp only[afx];rw[ih];rfl
theorem afw(D:DX)(n:Nat)(a b:Int)(c:aD):LF D n 100 eL n (Iy a b c) (CF D n 100 [] eL (lF 100))=qwz D n a b c :=by rw[q94];kernel_rfl
theorem afy(D:DX)(n:Nat)(a:Bool)(b:Int)(c:aD):(CF D n 100 [] cz (lF 100)) (Ex.ret) (qu2 a b c)=q60 D n a b c:=by kernel_rfl
theorem afz(D:DX)(n:Nat)(a:Int)(b:aD):(CF D n 100 [] cz (lF 100)) (Ex.exit 0) (qu3 a b)=qu4 D n (fun c d e=>LF D n 100 eL n (Iy c d e) (CF D n 100 [] eL (lF 100))) a b:=by kernel_rfl
theorem afv(D:DX)(n:Nat)(x0)(x1)(x2):LF D n 100 cz n (qzv x0 x1 x2) (CF D n 100 [] cz (lF 100))=qwy D n x0 x1 x2:=by rw[agp];simp only[afy,afz,afw];rfl
theorem ahH(D:DX)(n:Nat)(a0:aD):rF D n 100 (a0,())=YR D n a0:=by
 have h:rF D n 100 (a0,())=Zg D n (fun x0 x1 x2=>LF D n 100 cz n (qzv x0 x1 x2) (CF D n 100 [] cz (lF 100))) a0:=by kernel_rfl
 rw[h];simp only[afv];rfl
def qwu(D:DX)(n:Nat)(go:Int->Int->aR->Option ag)(K0:Int->Bool->aR->Option ag)(K1:Int->aR->Option ag)(x0 x1:Int)(x2:aR):Option ag:=br (decide (x1<(x2.1.length:Int))) (br (decide (0<=x1)&&decide (x1<(x2.1.length:Int))) (qd (UD D (List.getD x2.1 x1.toNat (0,0,0,()))) fun b=>br (!b.1.1) (K0 x0 false x2) (go x0 (wrap .i64 (x1+1)) x2)) none) (K1 x0 x2)
def S8(D:DX)(n:Nat)(K0:Int->Bool->aR->Option ag)(K1:Int->aR->Option ag):Nat->Int->Int->aR->Option ag | 0=>(fun x0 x1 x2=>none) | m+1=>(fun x0 x1 x2=>qwu D n (S8 D n K0 K1 m) K0 K1 x0 x1 x2)
def q38(D:DX)(n:Nat)(b:Int)(a:Bool)(c:aR):Option ag:=some ((a,()),())
def qwv(D:DX)(n:Nat)(go:Int->Int->aR->Option ag)(K0:Int->Bool->aR->Option ag)(K1:Int->aR->Option ag)(c b:Int)(a:aR):Option ag:=let y0:=List.getD a.2.2.2.1 b.toNat (0,0,());br (decide (b<(a.2.2.2.1.length:Int))) (br (decide (0<=b)&&decide (b<(a.2.2.2.1.length:Int))) (qd (lU D y0.1 0 19) fun p0=>br (!p0.1.1) (K0 c false a) (br (decide (0<=b)&&decide (b<(a.2.2.2.1.length:Int))) (qd (lU D y0.2.1 0 1000) fun p1=>br (!p1.1.1) (K0 c false a) (go c (wrap .i64 (b+1)) a)) none)) none) (K1 c a)
def Vu(D:DX)(n:Nat)(K0:Int->Bool->aR->Option ag)(K1:Int->aR->Option ag):Nat->Int->Int->aR->Option ag | 0=>(fun a b c=>none) | m+1=>(fun a b c=>qwv D n (Vu D n K0 K1 m) K0 K1 a b c)
def q39(D:DX)(n:Nat)(b:Int)(a:Bool)(c:aR):Option ag:=some ((a,()),())
def qww(D:DX)(n:Nat)(go:Int->Int->aR->Option ag)(K0:Bool->Option ag)(K1:Option ag)(c a:Int)(b:aR):Option ag:=let y0:=List.getD b.2.2.2.2.1 a.toNat (0,0,0,0,());br (decide (a<(b.2.2.2.2.1.length:Int))) (br (decide (0<=a)&&decide (a<(b.2.2.2.2.1.length:Int))) (br (bif decide (y0.1<0) then true else decide (y0.1>=c)) (K0 false) (qd (lU D y0.2.1 1 1000000) fun p0=>br (!p0.1.1) (K0 false) (qd (lU D y0.2.2.1 0 20) fun p1=>br (!p1.1.1) (K0 false) (qd (lU D y0.2.2.2.1 0 20) fun p2=>br (!p2.1.1) (K0 false) (go c (wrap .i64 (a+1)) b))))) none) K1
def Vv(D:DX)(n:Nat)(K0:Bool->Option ag)(K1:Option ag):Nat->Int->Int->aR->Option ag | 0=>(fun a b c=>none) | m+1=>(fun a b c=>qww D n (Vv D n K0 K1 m) K0 K1 a b c)
def aez(D:DX)(n:Nat)(a:Bool):Option ag:=some ((a,()),())
def aeA(D:DX)(n:Nat):Option ag:=some ((true,()),())
def quz(D:DX)(n:Nat):(Int)->(Int)->aR->Option ag:=(fun a b d=>Vv D n (fun c=>aez D n c) (aeA D n) n a b d)
def qs1(D:DX)(n:Nat)(UA:Int->Int->aR->Option ag)(a:Int)(b:aR):Option ag:=UA a 0 b
def quy(D:DX)(n:Nat):(Int)->(Int)->aR->Option ag:=(fun a b h=>Vu D n (fun c d e=>q39 D n c d e) (fun f g=>qs1 D n (quz D n) f g) n a b h)
def qs0(D:DX)(n:Nat)(mG:Int->Int->aR->Option ag)(a:Int)(b:aR):Option ag:=mG a 0 b
def qux(D:DX)(n:Nat):(Int)->(Int)->aR->Option ag:=(fun x0 x1 x2=>S8 D n (fun a b c=>q38 D n a b c) (fun d e=>qs0 D n (quy D n) d e) n x0 x1 x2)
def qzp(D:DX)(n:Nat)(cw:Int->Int->aR->Option ag)(a0:aR)(a1:Int):Option ag:=br (decide ((a0.1.length:Int)>8)) (some ((false,()),())) (qd (lU D a0.2.1 0 (a0.1.length:Int)) fun p0=>br (bif !p0.1.1 then true else bif a0.2.2.1 then decide (a0.2.1>=(a0.1.length:Int)) else false) (some ((false,()),())) (br (!a0.2.2.1) (br (bif bif decide (wrap .i64 ((a0.2.2.2.1.length:Int)+(a0.2.2.2.2.1.length:Int))>0) then true else decide ((a0.2.2.2.1.length:Int)>12) then true else decide ((a0.2.2.2.2.1.length:Int)>2)) (some ((false,()),())) (cw a1 0 a0)) (br (bif bif false then true else decide ((a0.2.2.2.1.length:Int)>12) then true else decide ((a0.2.2.2.2.1.length:Int)>2)) (some ((false,()),())) (cw a1 0 a0))))
def qx0(D:DX)(n:Nat)(a0:aR)(a1:Int):Option ag:=qzp D n (qux D n) a0 a1
def qwr(x0 x1:Int)(x2:aR):St:=bq 139 [(1,AV.val ah x0),(2,AV.addr 2 []),(5,AV.val ah x1)] [(2,aC.mk jX Mk.no x2 true)]
def qsw(a:Int)(b:Bool)(c:aR):St:=bq 139 [(1,AV.val ah a),(2,AV.addr 2 []),(4,AV.val Ty.bool b)] [(2,aC.mk jX Mk.no c true)]
def qsx(a:Int)(b:aR):St:=bq 139 [(1,AV.val ah a),(2,AV.addr 2 [])] [(2,aC.mk jX Mk.no b true)]
def qws(a b:Int)(c:aR):St:=bq 139 [(1,AV.val ah a),(2,AV.addr 2 []),(6,AV.val ah b)] [(2,aC.mk jX Mk.no c true)]
def qsy(a:Int)(b:Bool)(c:aR):St:=bq 139 [(1,AV.val ah a),(2,AV.addr 2 []),(4,AV.val Ty.bool b)] [(2,aC.mk jX Mk.no c true)]
def qsz(a:Int)(b:aR):St:=bq 139 [(1,AV.val ah a),(2,AV.addr 2 [])] [(2,aC.mk jX Mk.no b true)]
def qwt(a b:Int)(c:aR):St:=bq 139 [(1,AV.val ah a),(2,AV.addr 2 []),(7,AV.val ah b)] [(2,aC.mk jX Mk.no c true)]
def q36(a:Bool):St:=bq 139 [(4,AV.val Ty.bool a)] []
def q37:St:=bq 139 [] []
theorem afp(D:DX)(n:Nat)(K:KT 101):∀(m:Nat)(x0 x1:Int)(x2:aR),LF D n 101 cz m (qwr x0 x1 x2) K=S8 D n (fun a b c=>K (Ex.ret) (qsw a b c)) (fun d e=>K (Ex.exit 0) (qsx d e)) m x0 x1 x2:=pQ (fun F=>qwu D n F (fun a b c=>K (Ex.ret) (qsw a b c)) (fun d e=>K (Ex.exit 0) (qsx d e)))
theorem afq(D:DX)(n:Nat)(K:KT 101):∀(m:Nat)(f g:Int)(h:aR),LF D n 101 eL m (qws f g h) K=Vu D n (fun a b c=>K (Ex.ret) (qsy a b c)) (fun d e=>K (Ex.exit 2) (qsz d e)) m f g h:=pQ (fun F=>qwv D n F (fun a b c=>K (Ex.ret) (qsy a b c)) (fun d e=>K (Ex.exit 2) (qsz d e)))
theorem afr(D:DX)(n:Nat)(K:KT 101):∀(m:Nat)(b c:Int)(d:aR),LF D n 101 jd m (qwt b c d) K=Vv D n (fun a=>K (Ex.ret) (q36 a)) (K (Ex.exit 4) (q37)) m b c d:=pQ (fun F=>qww D n F (fun a=>K (Ex.ret) (q36 a)) (K (Ex.exit 4) (q37)))
theorem aeF(D:DX)(n:Nat)(a b:Int)(c:aR):LF D n 101 jd n (qwt a b c) (CF D n 101 [] jd (lF 101))=quz D n a b c :=by rw[afr];kernel_rfl
theorem aex(D:DX)(n:Nat)(a:Int)(b:Bool)(c:aR):(CF D n 101 [] eL (lF 101)) (Ex.ret) (qsy a b c)=q39 D n a b c:=by kernel_rfl
theorem aey(D:DX)(n:Nat)(a:Int)(b:aR):(CF D n 101 [] eL (lF 101)) (Ex.exit 2) (qsz a b)=qs1 D n (fun c d e=>LF D n 101 jd n (qwt c d e) (CF D n 101 [] jd (lF 101))) a b:=by kernel_rfl
theorem aeE(D:DX)(n:Nat)(a b:Int)(c:aR):LF D n 101 eL n (qws a b c) (CF D n 101 [] eL (lF 101))=quy D n a b c:=by rw[afq];simp only[aex,aey,aeF];rfl
theorem aev(D:DX)(n:Nat)(a:Int)(b:Bool)(c:aR):(CF D n 101 [] cz (lF 101)) (Ex.ret) (qsw a b c)=q38 D n a b c:=by kernel_rfl
theorem aew(D:DX)(n:Nat)(a:Int)(b:aR):(CF D n 101 [] cz (lF 101)) (Ex.exit 0) (qsx a b)=qs0 D n (fun c d e=>LF D n 101 eL n (qws c d e) (CF D n 101 [] eL (lF 101))) a b:=by kernel_rfl
theorem aeD(D:DX)(n:Nat)(x0)(x1)(x2):LF D n 101 cz n (qwr x0 x1 x2) (CF D n 101 [] cz (lF 101))=qux D n x0 x1 x2:=by rw[afp];simp only[aev,aew,aeE];rfl
theorem agA(D:DX)(n:Nat)(a0:aR)(a1:Int):rF D n 101 (a0,(a1,()))=qx0 D n a0 a1:=by
 have h:rF D n 101 (a0,(a1,()))=qzp D n (fun x0 x1 x2=>LF D n 101 cz n (qwr x0 x1 x2) (CF D n 101 [] cz (lF 101))) a0 a1:=by kernel_rfl
 rw[h];simp only[aeD];rfl
def qw2(D:DX)(n:Nat)(go:Int->Int->Int->Int->aD->aR->Option ag)(K0:Bool->Int->Int->aD->aR->Option ag)(K1:Int->Int->aD->aR->Option ag)(x0 x1 x2 x3:Int)(x4:aD)(x5:aR):Option ag:=let y0:=List.getD x4.2.2.2.1 x3.toNat (0,(0,0,0,()),0,0,0,(0,[],()),());let y1:=wrap .i64 (x3+1);br (decide (x3<(x4.2.2.2.1.length:Int))) (br (decide (0<=x3)&&decide (x3<(x4.2.2.2.1.length:Int))) (br (y0.1 != x0) (go x0 x1 x2 y1 x4 x5) (br (decide (0<=x3)&&decide (x3<(x4.2.2.2.1.length:Int))) (br (decide (y0.2.2.2.2.1>=0)) (go x0 x1 (wrap .i64 (x2+1)) y1 x4 x5) (br (bif !x5.2.2.1 then true else x3 != x1) (K0 false x1 x2 x4 x5) (go x0 x1 x2 y1 x4 x5))) none)) none) (K1 x1 x2 x4 x5)
def Vx(D:DX)(n:Nat)(K0:Bool->Int->Int->aD->aR->Option ag)(K1:Int->Int->aD->aR->Option ag):Nat->Int->Int->Int->Int->aD->aR->Option ag | 0=>(fun x0 x1 x2 x3 x4 x5=>none) | m+1=>(fun x0 x1 x2 x3 x4 x5=>qw2 D n (Vx D n K0 K1 m) K0 K1 x0 x1 x2 x3 x4 x5)
def aeI(D:DX)(n:Nat)(a:Bool)(b c:Int)(d:aD)(e:aR):Option ag:=some ((a,()),())
def q4e(D:DX)(n:Nat)(b d:Int)(c:aD)(a:aR):Option ag:=let y0:=List.getD c.2.2.2.1 b.toNat (0,(0,0,0,()),0,0,0,(0,[],()),());br (d != a.2.1) (some ((false,()),())) (br (!a.2.2.1) (some ((true,()),())) (br (decide (b>=0)) (br (decide (0<=b)&&decide (b<(c.2.2.2.1.length:Int))) (br (decide (y0.2.2.2.2.1 = -1)) (br (decide (0<=b)&&decide (b<(c.2.2.2.1.length:Int))) (br (decide (0<=a.2.1)&&decide (a.2.1<(a.1.length:Int))) (some ((pK bU y0.2.1 (List.getD a.1 a.2.1.toNat (0,0,0,())),()),())) none) none) (some ((false,()),()))) none) (some ((false,()),()))))
def qu8(D:DX)(n:Nat):(Int)->(Int)->(Int)->(Int)->aD->aR->Option ag:=(fun x0 x1 x2 x3 x4 x5=>Vx D n (fun a b c d e=>aeI D n a b c d e) (fun f g h i=>q4e D n f g h i) n x0 x1 x2 x3 x4 x5)
def qz0(D:DX)(n:Nat)(cw:Int->Int->Int->Int->aD->aR->Option ag)(a0:aD)(a1:Int):Option ag:=br (decide (0<=a1)&&decide (a1<(a0.2.1.length:Int))) (qd (ZE D a0 a1) fun b=>cw a1 b.1.1 0 0 a0 (List.getD a0.2.1 a1.toNat ([],0,false,[],[],()))) none
def qx1(D:DX)(n:Nat)(a0:aD)(a1:Int):Option ag:=qz0 D n (qu8 D n) a0 a1
def qw1(x0 x1 x2 x3:Int)(x4:aD)(x5:aR):St:=bq 84 [(1,AV.val ah x0),(2,AV.addr 2 []),(5,AV.addr 5 []),(6,AV.val ah x1),(7,AV.val ah x2),(8,AV.val ah x3)] [(2,aC.mk cN Mk.no x4 true),(5,aC.mk jX Mk.no x5 true)]
def q4c(a:Bool)(b c:Int)(d:aD)(e:aR):St:=bq 84 [(2,AV.addr 2 []),(4,AV.val Ty.bool a),(5,AV.addr 5 []),(6,AV.val ah b),(7,AV.val ah c)] [(2,aC.mk cN Mk.no d true),(5,aC.mk jX Mk.no e true)]
def q4d(a b:Int)(c:aD)(d:aR):St:=bq 84 [(2,AV.addr 2 []),(5,AV.addr 5 []),(6,AV.val ah a),(7,AV.val ah b)] [(2,aC.mk cN Mk.no c true),(5,aC.mk jX Mk.no d true)]
theorem afD(D:DX)(n:Nat)(K:KT 102):∀(m:Nat)(x0 x1 x2 x3:Int)(x4:aD)(x5:aR),LF D n 102 jd m (qw1 x0 x1 x2 x3 x4 x5) K=Vx D n (fun a b c d e=>K (Ex.ret) (q4c a b c d e)) (fun f g h i=>K (Ex.exit 0) (q4d f g h i)) m x0 x1 x2 x3 x4 x5:=DR (fun F=>qw2 D n F (fun a b c d e=>K (Ex.ret) (q4c a b c d e)) (fun f g h i=>K (Ex.exit 0) (q4d f g h i)))
theorem aeH(D:DX)(n:Nat)(x0)(x1)(x2)(x3)(x4)(x5):LF D n 102 jd n (qw1 x0 x1 x2 x3 x4 x5) (CF D n 102 [] jd (lF 102))=qu8 D n x0 x1 x2 x3 x4 x5 :=by rw[afD];kernel_rfl
theorem agB(D:DX)(n:Nat)(a0:aD)(a1:Int):rF D n 102 (a0,(a1,()))=qx1 D n a0 a1:=by
 have h:rF D n 102 (a0,(a1,()))=qz0 D n (fun x0 x1 x2 x3 x4 x5=>LF D n 102 jd n (qw1 x0 x1 x2 x3 x4 x5) (CF D n 102 [] jd (lF 102))) a0 a1:=by kernel_rfl
 rw[h];simp only[aeH];rfl
def qyy(D:DX)(n:Nat)(go:List bE->Int->Int->aU->aU->Option nw)(K0:aU->aU->Option nw)(x0:List bE)(x1 x2:Int)(x3 x4:aU):Option nw:=let y0:=List.getD x0 x2.toNat (0,0,[],(0,[],()),());br (decide (x2<x1)) (br (decide (0<=x2)&&decide (x2<(x0.length:Int))) (qd (UY D y0.2.2.1) fun p1=>qd (Iz D y0.2.2.2.1) fun p0=>br (decide (x4.2.1.length+1<=f9)) (go x0 x1 (wrap .i64 (x2+1)) x3 (x4.1,x4.2.1++[(y0.1,y0.2.1,p1.1.1,(p0.1.1.1,p0.1.1.2.1,()),())],x4.2.2)) none) none) (K0 x3 x4)
def Ta(D:DX)(n:Nat)(K0:aU->aU->Option nw):Nat->(List bE)->Int->Int->aU->aU->Option nw | 0=>(fun x0 x1 x2 x3 x4=>none) | m+1=>(fun x0 x1 x2 x3 x4=>qyy D n (Ta D n K0 m) K0 x0 x1 x2 x3 x4)
def aeQ(D:DX)(n:Nat)(b a:aU):Option nw:=some (((a.1,a.2.1,()),()),())
def qwg(D:DX)(n:Nat):(List bE)->(Int)->(Int)->aU->aU->Option nw:=(fun x0 x1 x2 x3 x4=>Ta D n (fun a b=>aeQ D n a b) n x0 x1 x2 x3 x4)
def Za(D:DX)(n:Nat)(cw:List bE->Int->Int->aU->aU->Option nw)(a0:aU):Option nw:=qd (qgi D a0.1) fun b=>cw a0.2.1 (a0.2.1.length:Int) 0 ([],[],()) (b.1.1,[],())
def YF(D:DX)(n:Nat)(a0:aU):Option nw:=Za D n (qwg D n) a0
def qyx(x0:List bE)(x1 x2:Int)(x3 x4:aU):St:=bq 33 [(2,AV.addr 2 []),(3,AV.addr 3 []),(11,AV.val CH x0),(12,AV.val ah x1),(13,AV.val ah x2)] [(2,aC.mk jW lP x3 true),(3,aC.mk jW lP x4 true)]
def q6n(a b:aU):St:=bq 33 [(2,AV.addr 2 []),(3,AV.addr 3 [])] [(2,aC.mk jW lP a true),(3,aC.mk jW lP b true)]
theorem aga(D:DX)(n:Nat)(K:KT 103):∀(m:Nat)(x0:List bE)(x1 x2:Int)(x3 x4:aU),LF D n 103 cz m (qyx x0 x1 x2 x3 x4) K=Ta D n (fun a b=>K (Ex.exit 0) (q6n a b)) m x0 x1 x2 x3 x4:=oM (fun F=>qyy D n F (fun a b=>K (Ex.exit 0) (q6n a b)))
theorem aeP(D:DX)(n:Nat)(x0)(x1)(x2)(x3)(x4):LF D n 103 cz n (qyx x0 x1 x2 x3 x4) (CF D n 103 [] cz (lF 103))=qwg D n x0 x1 x2 x3 x4 :=by rw[aga];kernel_rfl
theorem ag1(D:DX)(n:Nat)(a0:aU):rF D n 103 (a0,())=YF D n a0:=by
 have h:rF D n 103 (a0,())=Za D n (fun x0 x1 x2 x3 x4=>LF D n 103 cz n (qyx x0 x1 x2 x3 x4) (CF D n 103 [] cz (lF 103))) a0:=by kernel_rfl
 rw[h];simp only[aeP];rfl
def q6o(D:DX)(n:Nat)(a0:aR):Option ji:=qd (U2 D a0.1) fun b=>qd (qgh D a0.2.2.2.1) fun b_1=>qd (qgg D a0.2.2.2.2.1) fun b_2=>some (((b.1.1,a0.2.1,a0.2.2.1,b_1.1.1,b_2.1.1,()),()),())
def qt9(D:DX)(n:Nat)(a0:aR):Option ji:=q6o D n a0
theorem ae2(D:DX)(n:Nat)(a0:aR):rF D n 104 (a0,())=qt9 D n a0:=by kernel_rfl
def qw8(D:DX)(n:Nat)(a0:aD)(a1:Int):Option wg:=let y0:=List.getD a0.2.1 a1.toNat ([],0,false,[],[],());br (decide (0<=a1)&&decide (a1<(a0.2.1.length:Int))) (qd (GA D y0) fun p2=>qd (Zu D (a0.1.1,a0.1.2.1,()) p2.1.1) fun p0=>let y1:=List.getD p0.1.1.2.1 a1.toNat (0,0,[],(0,[],()),());br (decide (p0.1.2.2.2.1=1)) (br (bif decide (p2.1.1.1=a1) then decide ((y0.2.2.2.2.1.length:Int)=1) else false) (qd (JY D y0 p0.1.2.2.1) fun p3=>br (decide (0<=a1)&&decide (a1<(a0.2.1.length:Int))) (some ((),((p0.1.1.1,p0.1.1.2.1,()),List.set a0.2.1 a1.toNat (p3.1.1.1,p3.1.1.2.1,p3.1.1.2.2.1,p3.1.1.2.2.2.1,p3.1.1.2.2.2.2.1,()),a0.2.2),())) none) (qd (TH D y0 p0.1.2.2.1) fun p4=>br (decide (0<=a1)&&decide (a1<(a0.2.1.length:Int))) (some ((),((p0.1.1.1,p0.1.1.2.1,()),List.set a0.2.1 a1.toNat (p4.1.1.1,p4.1.1.2.1,p4.1.1.2.2.1,p4.1.1.2.2.2.1,p4.1.1.2.2.2.2.1,()),a0.2.2),())) none)) (br (decide (p0.1.2.2.2.1=2)) (qd (Gz D y0) fun p1=>let y4:=List.set a0.2.1 a1.toNat (p1.1.1.1,p1.1.1.2.1,p1.1.1.2.2.1,p1.1.1.2.2.2.1,p1.1.1.2.2.2.2.1,());let y2:=List.getD y4 a1.toNat ([],0,false,[],[],());let y3:=List.set y4 a1.toNat (y2.1,y2.2.1,y2.2.2.1,y2.2.2.2.1,[],y2.2.2.2.2.2);let y5:=List.getD y3 a1.toNat ([],0,false,[],[],());br (decide (0<=a1)&&decide (a1<(a0.2.1.length:Int))) (br (p2.1.1.1 != a1) (some ((),((p0.1.1.1,p0.1.1.2.1,()),List.set a0.2.1 a1.toNat (p1.1.1.1,p1.1.1.2.1,p1.1.1.2.2.1,p1.1.1.2.2.2.1,p1.1.1.2.2.2.2.1,()),a0.2.2),())) (br (decide (0<=a1)&&decide (a1<(y4.length:Int))) (br (decide (0<=a1)&&decide (a1<(p0.1.1.2.1.length:Int))) (br (decide (y1.2.1=2)) (qd (SR D ((p0.1.1.1,p0.1.1.2.1,()),List.set y4 a1.toNat (y2.1,y2.2.1,y2.2.2.1,y2.2.2.2.1,[],y2.2.2.2.2.2),a0.2.2) a1 y1.2.2.2.1) fun p8=>some ((),p8.2.1,())) (br (decide (0<=a1)&&decide (a1<(y3.length:Int))) (some ((),((p0.1.1.1,p0.1.1.2.1,()),List.set y3 a1.toNat (y5.1,y5.2.1,y5.2.2.1,[],y5.2.2.2.2),a0.2.2),())) none)) none) none)) none) (br (decide (p0.1.2.2.2.1=3)) (br (decide (0<=p2.1.1.1)&&decide (p2.1.1.1<(p0.1.1.2.1.length:Int))) (qd (SP D ((p0.1.1.1,p0.1.1.2.1,()),a0.2) p2.1.1.1 (List.getD p0.1.1.2.1 p2.1.1.1.toNat (0,0,[],(0,[],()),())).2.2.2.1) fun p7=>qd (TH D y0 p0.1.2.1) fun p5=>br (decide (0<=a1)&&decide (a1<(p7.2.1.2.1.length:Int))) (some ((),(p7.2.1.1,List.set p7.2.1.2.1 a1.toNat (p5.1.1.1,p5.1.1.2.1,p5.1.1.2.2.1,p5.1.1.2.2.2.1,p5.1.1.2.2.2.2.1,()),p7.2.1.2.2),())) none) none) (qd (TH D y0 p0.1.2.1) fun p6=>br (decide (0<=a1)&&decide (a1<(a0.2.1.length:Int))) (some ((),((p0.1.1.1,p0.1.1.2.1,()),List.set a0.2.1 a1.toNat (p6.1.1.1,p6.1.1.2.1,p6.1.1.2.2.1,p6.1.1.2.2.2.1,p6.1.1.2.2.2.2.1,()),a0.2.2),())) none)))) none
def qni(D:DX)(n:Nat)(a0:aD)(a1:Int):Option wg:=qw8 D n a0 a1
theorem adB(D:DX)(n:Nat)(a0:aD)(a1:Int):rF D n 105 (a0,(a1,()))=qni D n a0 a1:=by kernel_rfl
def q0c(D:DX)(n:Nat)(a0:aD)(a1:Int):Option tq1:=let y1:=List.getD a0.2.1 a1.toNat ([],0,false,[],[],());let y0:=List.set a0.2.1 a1.toNat (y1.1,y1.2.1,y1.2.2.1,y1.2.2.2.1,y1.2.2.2.2);let y2:=List.getD y0 a1.toNat ([],0,false,[],[],());let y3:=List.getD y1.1 (Int.toNat y1.2.1) (0,0,0,());br (decide (0<=a1)&&decide (a1<(a0.2.1.length:Int))) (br (decide (0<=y1.2.1)&&decide (y1.2.1<(y1.1.length:Int))) (qd (Gm D y3 y1.2.2.2.1) fun p2=>let y4:=List.getD a0.1.1 p2.1.1.toNat (0,0,0,());let y5:=List.set y0 a1.toNat (y2.1,y2.2.1,y2.2.2.1,y1.2.2.2.1++[(p2.1.1,y4.1,())],y2.2.2.2.2);let y6:=List.getD y5 a1.toNat ([],0,false,[],[],());br (decide (p2.1.1>=0)) (br (decide (0<=p2.1.1)&&decide (p2.1.1<(a0.1.1.length:Int))) (br (y4.2.1 != 0) (qd (JY D (y1.1,y1.2.1,y1.2.2.1,y1.2.2.2.1,y1.2.2.2.2) (wrap .i64 (y4.2.1-1),y4.2.2.1,0,0,())) fun p5=>some ((true,()),(a0.1,List.set a0.2.1 a1.toNat (p5.1.1.1,p5.1.1.2.1,p5.1.1.2.2.1,p5.1.1.2.2.2.1,p5.1.1.2.2.2.2.1,()),a0.2.2),())) (br (decide (y1.2.2.2.1.length+1<=f9)) (qd (VH D y3 y6.2.2.2.1) fun p0=>br (!p0.1.2.1) (some ((true,()),(a0.1,List.set y0 a1.toNat (y2.1,y2.2.1,y2.2.2.1,y1.2.2.2.1++[(p2.1.1,y4.1,())],y2.2.2.2.2),a0.2.2),())) (br p0.1.1.1 (qd (SP D (a0.1,List.set y0 a1.toNat (y2.1,y2.2.1,y2.2.2.1,y1.2.2.2.1++[(p2.1.1,y4.1,())],y2.2.2.2.2),a0.2.2) a1 (p0.1.1.2.1.1,p0.1.1.2.1.2.1,())) fun p9=>qd (SR D p9.2.1 a1 (p0.1.1.2.1.1,p0.1.1.2.1.2.1,())) fun jO=>some ((true,()),jO.2.1,())) (qd (VQ D (a0.1.1,a0.1.2.1,()) a1 p0.1.1.2.2.1 (p0.1.1.2.1.1,p0.1.1.2.1.2.1,())) fun p6=>br p6.1.2.2.1 (qd (JY D y6 p6.1.2.1) fun p7=>some ((p6.1.2.2.1,()),((p6.1.1.1,p6.1.1.2.1,()),List.set y5 a1.toNat (p7.1.1.1,p7.1.1.2.1,p7.1.1.2.2.1,p7.1.1.2.2.2.1,p7.1.1.2.2.2.2.1,()),a0.2.2),())) none))) none)) none) (qd (VH D y3 y1.2.2.2.1) fun p1=>br (!p1.1.2.1) (some ((true,()),a0,())) (br p1.1.1.1 (qd (SP D a0 a1 (p1.1.1.2.1.1,p1.1.1.2.1.2.1,())) fun j8=>qd (SR D j8.2.1 a1 (p1.1.1.2.1.1,p1.1.1.2.1.2.1,())) fun p8=>some ((true,()),p8.2.1,())) (qd (VQ D (a0.1.1,a0.1.2.1,()) a1 p1.1.1.2.2.1 (p1.1.1.2.1.1,p1.1.1.2.1.2.1,())) fun p3=>br p3.1.2.2.1 (qd (JY D (y1.1,y1.2.1,y1.2.2.1,y1.2.2.2.1,y1.2.2.2.2) p3.1.2.1) fun p4=>some ((p3.1.2.2.1,()),((p3.1.1.1,p3.1.1.2.1,()),List.set a0.2.1 a1.toNat (p4.1.1.1,p4.1.1.2.1,p4.1.1.2.2.1,p4.1.1.2.2.2.1,p4.1.1.2.2.2.2.1,()),a0.2.2),())) none)))) none) none
def qqg(D:DX)(n:Nat)(a0:aD)(a1:Int):Option tq1:=q0c D n a0 a1
theorem ad8(D:DX)(n:Nat)(a0:aD)(a1:Int):rF D n 106 (a0,(a1,()))=qqg D n a0 a1:=by kernel_rfl
def qye(D:DX)(n:Nat)(go:Int->List ak->Int->Int->ak->Option ki)(K0:Bool->ak->Option ki)(K1:ak->Option ki)(x0:Int)(x1:List ak)(x2 x3:Int)(x4:ak):Option ki:=br (decide (x3<x2)) (br (decide (0<=x3)&&decide (x3<(x1.length:Int))) (br (decide ((List.getD x1 x3.toNat (0,0,0,())).1=x0)) (K0 true (List.getD x1 x3.toNat (0,0,0,()))) (go x0 x1 x2 (wrap .i64 (x3+1)) x4)) none) (K1 x4)
def S4(D:DX)(n:Nat)(K0:Bool->ak->Option ki)(K1:ak->Option ki):Nat->Int->(List ak)->Int->Int->ak->Option ki | 0=>(fun x0 x1 x2 x3 x4=>none) | m+1=>(fun x0 x1 x2 x3 x4=>qye D n (S4 D n K0 K1 m) K0 K1 x0 x1 x2 x3 x4)
def q6b(D:DX)(n:Nat)(a:Bool)(b:ak):Option ki:=some ((b,a,()),())
def q6c(D:DX)(n:Nat)(a:ak):Option ki:=some (((0,0,0,()),false,()),())
def qv9(D:DX)(n:Nat):(Int)->(List ak)->(Int)->(Int)->ak->Option ki:=(fun x0 x1 x2 x3 x4=>S4 D n (fun a b=>q6b D n a b) (fun c=>q6c D n c) n x0 x1 x2 x3 x4)
def Yx(D:DX)(n:Nat)(cw:Int->List ak->Int->Int->ak->Option ki)(a0:bE)(a1:Int):Option ki:=cw a1 a0.2.2.1 (a0.2.2.1.length:Int) 0 (0,0,0,())
def X6(D:DX)(n:Nat)(a0:bE)(a1:Int):Option ki:=Yx D n (qv9 D n) a0 a1
def qyd(x0:Int)(x1:List ak)(x2 x3:Int)(x4:ak):St:=bq 22 [(1,AV.val ah x0),(4,AV.addr 4 []),(9,AV.val bT x1),(10,AV.val ah x2),(11,AV.val ah x3)] [(4,aC.mk bU Mk.no x4 true)]
def q59(a:Bool)(b:ak):St:=bq 22 [(4,AV.addr 4 []),(5,AV.val Ty.bool a)] [(4,aC.mk bU Mk.no b true)]
def q6a(a:ak):St:=bq 22 [(4,AV.addr 4 [])] [(4,aC.mk bU Mk.no a true)]
theorem af1(D:DX)(n:Nat)(K:KT 107):∀(m:Nat)(x0:Int)(x1:List ak)(x2 x3:Int)(x4:ak),LF D n 107 fc m (qyd x0 x1 x2 x3 x4) K=S4 D n (fun a b=>K (Ex.ret) (q59 a b)) (fun c=>K (Ex.exit 0) (q6a c)) m x0 x1 x2 x3 x4:=oM (fun F=>qye D n F (fun a b=>K (Ex.ret) (q59 a b)) (fun c=>K (Ex.exit 0) (q6a c)))
theorem aff(D:DX)(n:Nat)(x0)(x1)(x2)(x3)(x4):LF D n 107 fc n (qyd x0 x1 x2 x3 x4) (CF D n 107 [] fc (lF 107))=qv9 D n x0 x1 x2 x3 x4 :=by rw[af1];kernel_rfl
theorem ahg(D:DX)(n:Nat)(a0:bE)(a1:Int):rF D n 107 (a0,(a1,()))=X6 D n a0 a1:=by
 have h:rF D n 107 (a0,(a1,()))=Yx D n (fun x0 x1 x2 x3 x4=>LF D n 107 fc n (qyd x0 x1 x2 x3 x4) (CF D n 107 [] fc (lF 107))) a0 a1:=by kernel_rfl
 rw[h];simp only[aff];rfl
def qhm(D:DX)(n:Nat)(a1:bk)(a0:List bE):Option ag:=qd (qin D a0 a1) fun b=>some ((decide (b.1.1>=0),()),())
def qd5(D:DX)(n:Nat)(a0:List bE)(a1:bk):Option ag:=qhm D n a1 a0
theorem qn9(D:DX)(n:Nat)(a0:List bE)(a1:bk):rF D n 109 (a0,(a1,()))=qd5 D n a0 a1:=by kernel_rfl
def OA(D:DX)(n:Nat)(a0:bE):Option ag:=qd (Zv D a0) fun b=>some ((!b.1.1,()),())
def X_(D:DX)(n:Nat)(a0:bE):Option ag:=OA D n a0
theorem ahk(D:DX)(n:Nat)(a0:bE):rF D n 110 (a0,())=X_ D n a0:=by kernel_rfl
def Yw(D:DX)(n:Nat)(go:List ak->Int->Int->bE->Option ag)(K0:Bool->bE->Option ag)(K1:bE->Option ag)(x0:List ak)(x1 x2:Int)(x3:bE):Option ag:=let y0:=List.getD x0 x2.toNat (0,0,0,());br (decide (x2<x1)) (br (decide (0<=x2)&&decide (x2<(x0.length:Int))) (qd (VE D y0.1) fun p0=>br (!p0.1.1) (K0 false x3) (qd (JP D y0.2.1) fun p1=>br (!p1.1.1) (K0 false x3) (qd (JP D y0.2.2.1) fun p2=>br (!p2.1.1) (K0 false x3) (br (decide (x2>0)) (br (decide (0<=wrap .i64 (x2-1))&&decide (wrap .i64 (x2-1)<(x3.2.2.1.length:Int))) (br (decide ((List.getD x3.2.2.1 (Int.toNat (wrap .i64 (x2-1))) (0,0,0,())).1>=y0.1)) (K0 false x3) (go x0 x1 (wrap .i64 (x2+1)) x3)) none) (go x0 x1 (wrap .i64 (x2+1)) x3))))) none) (K1 x3)
def Tk(D:DX)(n:Nat)(K0:Bool->bE->Option ag)(K1:bE->Option ag):Nat->(List ak)->Int->Int->bE->Option ag | 0=>(fun x0 x1 x2 x3=>none) | m+1=>(fun x0 x1 x2 x3=>Yw D n (Tk D n K0 K1 m) K0 K1 x0 x1 x2 x3)
def q8w(D:DX)(n:Nat)(a:Bool)(b:bE):Option ag:=some ((a,()),())
def qv8(D:DX)(n:Nat)(a:bE):Option ag:=qd (kC D a.1 1 1000000) fun b=>br b.1.1 (qd (kC D a.2.1 1 3) fun b=>some ((bif b.1.1 then decide ((a.2.2.1.length:Int)<=20) else false,()),())) (some ((false,()),()))
def qyc(D:DX)(n:Nat):(List ak)->(Int)->(Int)->bE->Option ag:=(fun x0 x1 x2 x3=>Tk D n (fun a b=>q8w D n a b) (fun c=>qv8 D n c) n x0 x1 x2 x3)
def ZS(D:DX)(n:Nat)(cw:List ak->Int->Int->bE->Option ag)(a0:bE):Option ag:=br (decide (a0.1=0)) (some ((bif bif bif decide (a0.2.1=0) then decide ((a0.2.2.1.length:Int)=0) else false then decide (a0.2.2.2.1.1=0) else false then decide ((a0.2.2.2.1.2.1.length:Int)=0) else false,()),())) (cw a0.2.2.1 (a0.2.2.1.length:Int) 0 a0)
def ZG(D:DX)(n:Nat)(a0:bE):Option ag:=ZS D n (qyc D n) a0
def Yu(x0:List ak)(x1 x2:Int)(x3:bE):St:=bq 85 [(1,AV.addr 1 []),(31,AV.val bT x0),(32,AV.val ah x1),(33,AV.val ah x2)] [(1,aC.mk wj Mk.no x3 true)]
def q8u(a:Bool)(b:bE):St:=bq 85 [(1,AV.addr 1 []),(2,AV.val Ty.bool a)] [(1,aC.mk wj Mk.no b true)]
def q8v(a:bE):St:=bq 85 [(1,AV.addr 1 [])] [(1,aC.mk wj Mk.no a true)]
theorem agI(D:DX)(n:Nat)(K:KT 111):∀(m:Nat)(x0:List ak)(x1 x2:Int)(x3:bE),LF D n 111 cz m (Yu x0 x1 x2 x3) K=Tk D n (fun a b=>K (Ex.ret) (q8u a b)) (fun c=>K (Ex.exit 0) (q8v c)) m x0 x1 x2 x3:=zk (fun F=>Yw D n F (fun a b=>K (Ex.ret) (q8u a b)) (fun c=>K (Ex.exit 0) (q8v c)))
theorem af0(D:DX)(n:Nat)(x0)(x1)(x2)(x3):LF D n 111 cz n (Yu x0 x1 x2 x3) (CF D n 111 [] cz (lF 111))=qyc D n x0 x1 x2 x3 :=by rw[agI];kernel_rfl
theorem aio(D:DX)(n:Nat)(a0:bE):rF D n 111 (a0,())=ZG D n a0:=by
 have h:rF D n 111 (a0,())=ZS D n (fun x0 x1 x2 x3=>LF D n 111 cz n (Yu x0 x1 x2 x3) (CF D n 111 [] cz (lF 111))) a0:=by kernel_rfl
 rw[h];simp only[af0];rfl
def O7(D:DX)(n:Nat)(a0:ak)(a1:Int):Option ag:=br (decide (a0.2.1=0)) (qd (JP D a0.1) fun p0=>some ((bif p0.1.1 then decide (a0.2.2.1=0) else false,()),())) (br (decide (a0.1=0)) (qd (kC D a0.2.1 1 a1) fun p1=>br p1.1.1 (qd (kC D a0.2.2.1 1 1000000) fun p2=>some ((p2.1.1,()),())) (some ((false,()),()))) (some ((false,()),())))
def ZL(D:DX)(n:Nat)(a0:ak)(a1:Int):Option ag:=O7 D n a0 a1
theorem aiD(D:DX)(n:Nat)(a0:ak)(a1:Int):rF D n 112 (a0,(a1,()))=ZL D n a0 a1:=by kernel_rfl
def qe5(D:DX)(n:Nat)(a1:bk)(go:List ak->Int->Int->Option aH)(K0:Int->Option aH)(K1:Option aH)(x0:List ak)(x1 x2:Int):Option aH:=br (decide (x2<x1)) (br (decide (0<=x2)&&decide (x2<(x0.length:Int))) (qd (iK ctx D a1 [bL.val bU (List.getD x0 x2.toNat (0,0,0,()))] Ty.bool) fun b=>br b (K0 x2) (go x0 x1 (wrap .i64 (x2+1)))) none) K1
def JJ(D:DX)(n:Nat)(a1:bk)(K0:Int->Option aH)(K1:Option aH):Nat->(List ak)->Int->Int->Option aH | 0=>(fun x0 x1 x2=>none) | m+1=>(fun x0 x1 x2=>qe5 D n a1 (JJ D n a1 K0 K1 m) K0 K1 x0 x1 x2)
def qef(D:DX)(n:Nat)(a1:bk)(a:Int):Option aH:=some ((a,()),())
def qeg(D:DX)(n:Nat)(a1:bk):Option aH:=some ((-1,()),())
def qes(D:DX)(n:Nat)(a1:bk):(List ak)->(Int)->(Int)->Option aH:=(fun x0 x1 x2=>JJ D n a1 (fun a=>qef D n a1 a) (qeg D n a1) n x0 x1 x2)
def qfi(D:DX)(n:Nat)(a1:bk)(cw:List ak->Int->Int->Option aH)(a0:List ak):Option aH:=cw a0 (a0.length:Int) 0
def qfd(D:DX)(n:Nat)(a0:List ak)(a1:bk):Option aH:=qfi D n a1 (qes D n a1) a0
def qe4(a1:bk)(x0:List ak)(x1 x2:Int):St:=bq 19 [(0,AV.val bT x0),(1,AV.ew a1),(7,AV.val ah x1),(8,AV.val ah x2)] []
def qhw(a1:bk)(a:Int):St:=bq 19 [(4,AV.val ah a)] []
def qhx(a1:bk):St:=bq 19 [] []
theorem qo6(D:DX)(n:Nat)(a1:bk)(K:KT 113):∀(m:Nat)(x0:List ak)(x1 x2:Int),LF D n 113 fc m (qe4 a1 x0 x1 x2) K=JJ D n a1 (fun a=>K (Ex.ret) (qhw a1 a)) (K (Ex.exit 0) (qhx a1)) m x0 x1 x2:=pQ (fun F=>qe5 D n a1 F (fun a=>K (Ex.ret) (qhw a1 a)) (K (Ex.exit 0) (qhx a1)))
theorem qok(D:DX)(n:Nat)(a1:bk)(x0)(x1)(x2):LF D n 113 fc n (qe4 a1 x0 x1 x2) (CF D n 113 [] fc (lF 113))=qes D n a1 x0 x1 x2 :=by rw[qo6];kernel_rfl
theorem qqf(D:DX)(n:Nat)(a0:List ak)(a1:bk):rF D n 113 (a0,(a1,()))=qfd D n a0 a1:=by
 have h:rF D n 113 (a0,(a1,()))=qfi D n a1 (fun x0 x1 x2=>LF D n 113 fc n (qe4 a1 x0 x1 x2) (CF D n 113 [] fc (lF 113))) a0:=by kernel_rfl
 rw[h];simp only[qok];rfl
def qq8(D:DX)(n:Nat)(a0:List Int)(a1:Int):Option ag:=qd (U9 D a0 a1) fun b=>some ((decide (b.1.1>=0),()),())
def qkg(D:DX)(n:Nat)(a0:List Int)(a1:Int):Option ag:=qq8 D n a0 a1
theorem q63(D:DX)(n:Nat)(a0:List Int)(a1:Int):rF D n 114 (a0,(a1,()))=qkg D n a0 a1:=by kernel_rfl
def OT(D:DX)(n:Nat)(a0:Int):Option aH:=qd (VD D a0) fun b=>qd (JV D b.1.1 (wrap .i64 (10+a0))) fun b=>some ((b.1.1,()),())
def X5(D:DX)(n:Nat)(a0:Int):Option aH:=OT D n a0
theorem ahf(D:DX)(n:Nat)(a0:Int):rF D n 115 (a0,())=X5 D n a0:=by kernel_rfl
def vK(D:DX)(n:Nat)(a0:aB)(a1:ak)(a2:Int):Option ag:=let y0:Option ag:=(qd (J0 D a0) fun p1=>some ((p1.1.1,()),()));qd (VS D a0 a1.2.2.1) fun p0=>br (decide (a2=1)) (br (decide (a1.1=1)) (br (decide (0<=a1.2.1)&&decide (a1.2.1<(a0.1.length:Int))) (some ((List.getD a0.1 a1.2.1.toNat 0 != 0,()),())) none) (some ((false,()),()))) (br (decide (a2=2)) (some ((bif bif decide (a1.1=1) then true else decide (a1.1=2) then decide (p0.1.1>=0) else false,()),())) (br (bif decide (a2=3) then bif bif decide (a1.1=2) then true else decide (a1.1=3) then true else decide (a1.1=4) else false) (br (decide (0<=a1.2.1)&&decide (a1.2.1<(a0.1.length:Int))) (some ((decide (List.getD a0.1 a1.2.1.toNat 0=0),()),())) none) (br (decide (a2=3)) (br (decide (p0.1.1<0)) (br (decide (a1.1=5)) (some ((true,()),())) (br (decide (a1.1=10)) y0 (some ((false,()),())))) (some ((false,()),()))) (br (bif decide (a2=4) then decide (a1.1=8) else false) (some ((a0.2.1 != 0,()),())) (br (bif decide (a2=4) then decide (a1.1=9) else false) (br (decide (a0.2.1=0)) (some ((true,()),())) y0) (br (bif decide (a2=4) then decide (a1.1=10) else false) (qd (J0 D a0) fun p2=>some ((!p2.1.1,()),())) (some ((false,()),()))))))))
def uM(D:DX)(n:Nat)(a0:aB)(a1:ak)(a2:Int):Option ag:=vK D n a0 a1 a2
theorem ag6(D:DX)(n:Nat)(a0:aB)(a1:ak)(a2:Int):rF D n 116 (a0,(a1,(a2,())))=uM D n a0 a1 a2:=by kernel_rfl
def vL(D:DX)(n:Nat)(a0:aB)(a1:ak):Option ((List Int×gO)×Unit):=qd (VS D a0 a1.2.2.1) fun p0=>br (decide (a1.1=1)) (br (decide (0<=a1.2.1)&&decide (a1.2.1<(a0.1.length:Int))) (some (([],bif decide (List.getD a0.1 a1.2.1.toNat 0=0) then decide (p0.1.1<0) else false,()),())) none) (br (decide (a1.1=2)) (br (decide (0<=a1.2.1)&&decide (a1.2.1<(a0.1.length:Int))) (some (([],bif List.getD a0.1 a1.2.1.toNat 0 != 0 then bif decide (p0.1.1<0) then true else decide (p0.1.1=a1.2.1) else false,()),())) none) (br (decide (a1.1=3)) (br (decide (0<=a1.2.1)&&decide (a1.2.1<(a0.1.length:Int))) (some (([],List.getD a0.1 a1.2.1.toNat 0 != 0,()),())) none) (br (decide (a1.1=4)) (br (decide (0<=a1.2.1)&&decide (a1.2.1<(a0.1.length:Int))) (br (decide (0<=a1.2.1)&&decide (a1.2.1<(a0.1.length:Int))) (some (([List.getD a0.1 a1.2.1.toNat 0],List.getD a0.1 a1.2.1.toNat 0 != 0,()),())) none) none) (br (decide (a1.1=5)) (some (([p0.1.1],decide (p0.1.1>=0),()),())) (br (decide (a1.1=6)) (qd (Yd D a0 a1.2.1) fun p1=>some (([p1.1.1],true,()),())) (br (decide (a1.1=7)) (some ((a0.1,true,()),())) (br (decide (a1.1=8)) (some (([],decide (a0.2.1=0),()),())) (br (decide (a1.1=9)) (br (a0.2.1 != 0) (qd (J0 D a0) fun p2=>some (([],!p2.1.1,()),())) (some (([],false,()),()))) (br (decide (p0.1.1>=0)) (qd (J0 D a0) fun p3=>some (([p0.1.1],p3.1.1,()),())) (some (([p0.1.1],false,()),())))))))))))
def uN(D:DX)(n:Nat)(a0:aB)(a1:ak):Option ((List Int×gO)×Unit):=vL D n a0 a1
theorem ag7(D:DX)(n:Nat)(a0:aB)(a1:ak):rF D n 117 (a0,(a1,()))=uN D n a0 a1:=by kernel_rfl
def Pj(D:DX)(n:Nat)(a0:Int):Option ag:=qd (kC D a0 0 3) fun b=>some ((b.1.1,()),())
def q76(D:DX)(n:Nat)(a0:Int):Option ag:=Pj D n a0
theorem ajn(D:DX)(n:Nat)(a0:Int):rF D n 118 (a0,())=q76 D n a0:=by kernel_rfl
def OW(D:DX)(n:Nat)(a0:Int):Option ag:=qd (kC D a0 0 2) fun b=>some ((b.1.1,()),())
def YH(D:DX)(n:Nat)(a0:Int):Option ag:=OW D n a0
theorem ag3(D:DX)(n:Nat)(a0:Int):rF D n 119 (a0,())=YH D n a0:=by kernel_rfl
def qi8(D:DX)(n:Nat)(a1:bk)(a0:List ak):Option ag:=qd (qj8 D a0 a1) fun b=>some ((decide (b.1.1>=0),()),())
def qfo(D:DX)(n:Nat)(a0:List ak)(a1:bk):Option ag:=qi8 D n a1 a0
theorem qri(D:DX)(n:Nat)(a0:List ak)(a1:bk):rF D n 120 (a0,(a1,()))=qfo D n a0 a1:=by kernel_rfl
def q6i(D:DX)(n:Nat)(a0:ak):Option ag:=qd (Dk D a0) fun b=>some ((!b.1.1,()),())
def qt6(D:DX)(n:Nat)(a0:ak):Option ag:=q6i D n a0
theorem aeY(D:DX)(n:Nat)(a0:ak):rF D n 121 (a0,())=qt6 D n a0:=by kernel_rfl
def qho(D:DX)(n:Nat)(a1:bk)(a0:List bD):Option ag:=qd (qip D a0 a1) fun b=>some ((decide (b.1.1>=0),()),())
def qd7(D:DX)(n:Nat)(a0:List bD)(a1:bk):Option ag:=qho D n a1 a0
theorem qob(D:DX)(n:Nat)(a0:List bD)(a1:bk):rF D n 122 (a0,(a1,()))=qd7 D n a0 a1:=by kernel_rfl
def q6j(D:DX)(n:Nat)(a0:bD):Option ag:=qd (VE D a0.1) fun b=>br (!b.1.1) (some ((true,()),())) (qd (JP D a0.2.1) fun b=>some ((!b.1.1,()),()))
def qt7(D:DX)(n:Nat)(a0:bD):Option ag:=q6j D n a0
theorem aeZ(D:DX)(n:Nat)(a0:bD):rF D n 123 (a0,())=qt7 D n a0:=by kernel_rfl
def OX(D:DX)(n:Nat)(a0:Int):Option ag:=qd (kC D a0 0 19) fun b=>some ((b.1.1,()),())
def YI(D:DX)(n:Nat)(a0:Int):Option ag:=OX D n a0
theorem ag4(D:DX)(n:Nat)(a0:Int):rF D n 124 (a0,())=YI D n a0:=by kernel_rfl
def q9c(D:DX)(n:Nat)(a0:Int):Option ag:=qd (kC D a0 0 1000) fun b=>some ((b.1.1,()),())
def qv0(D:DX)(n:Nat)(a0:Int):Option ag:=q9c D n a0
theorem afR(D:DX)(n:Nat)(a0:Int):rF D n 125 (a0,())=qv0 D n a0:=by kernel_rfl
def qhn(D:DX)(n:Nat)(a1:bk)(a0:List cE):Option ag:=qd (qio D a0 a1) fun b=>some ((decide (b.1.1>=0),()),())
def qd6(D:DX)(n:Nat)(a0:List cE)(a1:bk):Option ag:=qhn D n a1 a0
theorem qoa(D:DX)(n:Nat)(a0:List cE)(a1:bk):rF D n 126 (a0,(a1,()))=qd6 D n a0 a1:=by kernel_rfl
def q6k(D:DX)(n:Nat)(a0:cE)(a1:Int):Option ag:=qd (kC D a0.1 0 (wrap .i64 (a1-1))) fun p0=>br (!p0.1.1) (some ((true,()),())) (qd (kC D a0.2.1 1 1000000) fun p1=>br (!p1.1.1) (some ((true,()),())) (qd (kC D a0.2.2.1 0 20) fun p2=>br (!p2.1.1) (some ((true,()),())) (qd (kC D a0.2.2.2.1 0 20) fun p3=>some ((!p3.1.1,()),()))))
def qt8(D:DX)(n:Nat)(a0:cE)(a1:Int):Option ag:=q6k D n a0 a1
theorem ae0(D:DX)(n:Nat)(a0:cE)(a1:Int):rF D n 127 (a0,(a1,()))=qt8 D n a0 a1:=by kernel_rfl
def Py(D:DX)(n:Nat)(a0:Int):Option ag:=qd (lU D a0 1 4) fun b=>some ((b.1.1,()),())
def q8j(D:DX)(n:Nat)(a0:Int):Option ag:=Py D n a0
theorem ajB(D:DX)(n:Nat)(a0:Int):rF D n 132 (a0,())=q8j D n a0:=by kernel_rfl
def aal(D:DX)(n:Nat)(a0:Int):Option ag:=some ((bif bif bif decide (a0=1) then true else decide (a0=2) then true else decide (a0=5) then true else decide (a0=10),()),())
def Pq(D:DX)(n:Nat)(a0:Int):Option ag:=aal D n a0
theorem ajC(D:DX)(n:Nat)(a0:Int):rF D n 133 (a0,())=Pq D n a0:=by kernel_rfl
def PD(D:DX)(n:Nat)(a0:Int):Option aH:=qd (VV D a0) fun b=>br (!b.1.1) (some ((-1,()),())) (some ((a0,()),()))
def q8f(D:DX)(n:Nat)(a0:Int):Option aH:=PD D n a0
theorem ajw(D:DX)(n:Nat)(a0:Int):rF D n 134 (a0,())=q8f D n a0:=by kernel_rfl
def O1(D:DX)(n:Nat)(a0:Int):Option aH:=qd (Di D a0) fun b=>br (!b.1.1) (some ((-1,()),())) (some ((wrap .i64 (3+a0),()),()))
def YO(D:DX)(n:Nat)(a0:Int):Option aH:=O1 D n a0
theorem ahC(D:DX)(n:Nat)(a0:Int):rF D n 135 (a0,())=YO D n a0:=by kernel_rfl
def Px(D:DX)(n:Nat)(a0:Int):Option aH:=qd (Di D a0) fun b=>br (!b.1.1) (some ((-1,()),())) (qd (VF D) fun b=>some ((wrap .i64 (b.1.1+a0),()),()))
def q8h(D:DX)(n:Nat)(a0:Int):Option aH:=Px D n a0
theorem ajy(D:DX)(n:Nat)(a0:Int):rF D n 136 (a0,())=q8h D n a0:=by kernel_rfl
def qzh(D:DX)(n:Nat)(go:Int->Int->Int->aB->Option aH)(K0:Int->Option aH)(x0 x1 x2:Int)(x3:aB):Option aH:=br (decide (x2<(x3.1.length:Int))) (br (decide (0<=x2)&&decide (x2<(x3.1.length:Int))) (qd (Di D (List.getD x3.1 x2.toNat 0)) fun p0=>br p0.1.1 (br (decide (0<=x2)&&decide (x2<(x3.1.length:Int))) (qd (Yj D (List.getD x3.1 x2.toNat 0)) fun p1=>qd (TD D (decide (p1.1.1=x0))) fun p2=>go x0 (wrap .i64 (x1+p2.1.1)) (wrap .i64 (x2+1)) x3) none) (qd (TD D false) fun p3=>go x0 (wrap .i64 (x1+p3.1.1)) (wrap .i64 (x2+1)) x3)) none) (K0 x1)
def Te(D:DX)(n:Nat)(K0:Int->Option aH):Nat->Int->Int->Int->aB->Option aH | 0=>(fun x0 x1 x2 x3=>none) | m+1=>(fun x0 x1 x2 x3=>qzh D n (Te D n K0 m) K0 x0 x1 x2 x3)
def q6w(D:DX)(n:Nat)(a:Int):Option aH:=some ((a,()),())
def qwo(D:DX)(n:Nat):(Int)->(Int)->(Int)->aB->Option aH:=(fun x0 x1 x2 x3=>Te D n (fun a=>q6w D n a) n x0 x1 x2 x3)
def YU(D:DX)(n:Nat)(cw:Int->Int->Int->aB->Option aH)(a0:aB)(a1:Int):Option aH:=cw a1 0 0 a0
def YN(D:DX)(n:Nat)(a0:aB)(a1:Int):Option aH:=YU D n (qwo D n) a0 a1
def qzg(x0 x1 x2:Int)(x3:aB):St:=bq 34 [(1,AV.val ah x0),(2,AV.addr 2 []),(5,AV.val ah x1),(6,AV.val ah x2)] [(2,aC.mk bR Mk.no x3 true)]
def q6v(a:Int):St:=bq 34 [(5,AV.val ah a)] []
theorem agk(D:DX)(n:Nat)(K:KT 137):∀(m:Nat)(x0 x1 x2:Int)(x3:aB),LF D n 137 cz m (qzg x0 x1 x2 x3) K=Te D n (fun a=>K (Ex.exit 0) (q6v a)) m x0 x1 x2 x3:=zk (fun F=>qzh D n F (fun a=>K (Ex.exit 0) (q6v a)))
theorem afo(D:DX)(n:Nat)(x0)(x1)(x2)(x3):LF D n 137 cz n (qzg x0 x1 x2 x3) (CF D n 137 [] cz (lF 137))=qwo D n x0 x1 x2 x3 :=by rw[agk];kernel_rfl
theorem ahB(D:DX)(n:Nat)(a0:aB)(a1:Int):rF D n 137 (a0,(a1,()))=YN D n a0 a1:=by
 have h:rF D n 137 (a0,(a1,()))=YU D n (fun x0 x1 x2 x3=>LF D n 137 cz n (qzg x0 x1 x2 x3) (CF D n 137 [] cz (lF 137))) a0 a1:=by kernel_rfl
 rw[h];simp only[afo];rfl
def OZ(D:DX)(n:Nat)(a0:Int):Option aH:=qd (lU D a0 0 2) fun b=>br (!b.1.1) (some ((-1,()),())) (some ((wrap .i64 (10+a0),()),()))
def YM(D:DX)(n:Nat)(a0:Int):Option aH:=OZ D n a0
theorem ag_(D:DX)(n:Nat)(a0:Int):rF D n 138 (a0,())=YM D n a0:=by kernel_rfl
def aij(D:DX)(n:Nat):Option aH:=some ((13,()),())
def OO(D:DX)(n:Nat):Option aH:=aij D n
theorem ahE(D:DX)(n:Nat):rF D n 139 ()=OO D n:=by kernel_rfl
def O0(D:DX)(n:Nat)(go:Int->bE->Option ag)(K0:Bool->Option ag)(K1:Option ag)(x0:Int)(x1:bE):Option ag:=let y0:=List.getD x1.2.2.1 x0.toNat (0,0,0,());br (decide (x0<(x1.2.2.1.length:Int))) (br (decide (0<=x0)&&decide (x0<(x1.2.2.1.length:Int))) (qd (lU D y0.1 0 19) fun p0=>br (!p0.1.1) (K0 false) (qd (lU D y0.2.1 0 1000) fun p1=>br (!p1.1.1) (K0 false) (qd (lU D y0.2.2.1 0 1000) fun p2=>br (!p2.1.1) (K0 false) (br (decide (x0>0)) (br (decide (0<=wrap .i64 (x0-1))&&decide (wrap .i64 (x0-1)<(x1.2.2.1.length:Int))) (br (decide ((List.getD x1.2.2.1 (Int.toNat (wrap .i64 (x0-1))) (0,0,0,())).1>=y0.1)) (K0 false) (go (wrap .i64 (x0+1)) x1)) none) (go (wrap .i64 (x0+1)) x1))))) none) K1
def YS(D:DX)(n:Nat)(K0:Bool->Option ag)(K1:Option ag):Nat->Int->bE->Option ag | 0=>(fun x0 x1=>none) | m+1=>(fun x0 x1=>O0 D n (YS D n K0 K1 m) K0 K1 x0 x1)
def afY(D:DX)(n:Nat)(a:Bool):Option ag:=some ((a,()),())
def afZ(D:DX)(n:Nat):Option ag:=some ((true,()),())
def N6(D:DX)(n:Nat):(Int)->bE->Option ag:=(fun x0 x1=>YS D n (fun a=>afY D n a) (afZ D n) n x0 x1)
def Z5(D:DX)(n:Nat)(cw:Int->bE->Option ag)(a0:bE):Option ag:=br (decide (a0.1=0)) (some ((bif bif bif decide (a0.2.1=0) then decide ((a0.2.2.1.length:Int)=0) else false then decide (a0.2.2.2.1.1=0) else false then decide ((a0.2.2.2.1.2.1.length:Int)=0) else false,()),())) (qd (lU D a0.1 1 1000000) fun p0=>br (!p0.1.1) (some ((false,()),())) (qd (lU D a0.2.1 1 3) fun p1=>br (bif !p1.1.1 then true else decide ((a0.2.2.1.length:Int)>20)) (some ((false,()),())) (cw 0 a0)))
def Zm(D:DX)(n:Nat)(a0:bE):Option ag:=Z5 D n (N6 D n) a0
def YT(x0:Int)(x1:bE):St:=bq 90 [(1,AV.addr 1 []),(3,AV.val ah x0)] [(1,aC.mk wj Mk.no x1 true)]
def q9s(a:Bool):St:=bq 90 [(2,AV.val Ty.bool a)] []
def q9t:St:=bq 90 [] []
theorem agP(D:DX)(n:Nat)(K:KT 140):∀(m:Nat)(x0:Int)(x1:bE),LF D n 140 eL m (YT x0 x1) K=YS D n (fun a=>K (Ex.ret) (q9s a)) (K (Ex.exit 0) (q9t)) m x0 x1:=DQ (fun F=>O0 D n F (fun a=>K (Ex.ret) (q9s a)) (K (Ex.exit 0) (q9t)))
theorem afX(D:DX)(n:Nat)(x0)(x1):LF D n 140 eL n (YT x0 x1) (CF D n 140 [] eL (lF 140))=N6 D n x0 x1 :=by rw[agP];kernel_rfl
theorem aiH(D:DX)(n:Nat)(a0:bE):rF D n 140 (a0,())=Zm D n a0:=by
 have h:rF D n 140 (a0,())=Z5 D n (fun x0 x1=>LF D n 140 eL n (YT x0 x1) (CF D n 140 [] eL (lF 140))) a0:=by kernel_rfl
 rw[h];simp only[afX];rfl
def Pa(D:DX)(n:Nat)(a0:ak)(a1:Int):Option ag:=br (decide (a0.2.1=0)) (br (decide (a0.2.2.1=0)) (qd (lU D a0.1 0 1000) fun p0=>some ((p0.1.1,()),())) (some ((false,()),()))) (br (decide (a0.1=0)) (qd (lU D a0.2.1 1 a1) fun p1=>br p1.1.1 (qd (lU D a0.2.2.1 1 1000000) fun p2=>some ((p2.1.1,()),())) (some ((false,()),()))) (some ((false,()),())))
def Zp(D:DX)(n:Nat)(a0:ak)(a1:Int):Option ag:=Pa D n a0 a1
theorem aiK(D:DX)(n:Nat)(a0:ak)(a1:Int):rF D n 141 (a0,(a1,()))=Zp D n a0 a1:=by kernel_rfl
def Pw(D:DX)(n:Nat)(a0:Int):Option ag:=qd (lU D a0 1 6) fun b=>some ((b.1.1,()),())
def q8g(D:DX)(n:Nat)(a0:Int):Option ag:=Pw D n a0
theorem ajx(D:DX)(n:Nat)(a0:Int):rF D n 143 (a0,())=q8g D n a0:=by kernel_rfl
def aak(D:DX)(n:Nat)(a0:Bool):Option aH:=br a0 (some ((1,()),())) (some ((0,()),()))
def Pp(D:DX)(n:Nat)(a0:Bool):Option aH:=aak D n a0
theorem ajz(D:DX)(n:Nat)(a0:Bool):rF D n 145 (a0,())=Pp D n a0:=by kernel_rfl
def P9(D:DX)(n:Nat)(a0:ak):Option ag:=let y1:Option ag:=(qd (Di D a0.2.2.1) fun p7=>some ((p7.1.1,()),()));let y0:Option ag:=(qd (lU D a0.2.1 0 2) fun p1=>qd (Cd D a0.1) fun p5=>br p5.1.1 (br p1.1.1 y1 (some ((false,()),()))) (some ((bif p1.1.1 then decide (a0.2.2.1=0) else false,()),())));qd (lU D a0.1 1 10) fun p3=>br (!p3.1.1) (some ((false,()),())) (qd (VW D a0.1) fun p4=>br p4.1.1 (qd (VV D a0.2.1) fun p0=>br (decide (a0.1=6)) y0 (qd (Cd D a0.1) fun p6=>br p6.1.1 (br p0.1.1 y1 (some ((false,()),()))) (some ((bif p0.1.1 then decide (a0.2.2.1=0) else false,()),())))) (br (decide (a0.1=6)) y0 (qd (Cd D a0.1) fun p2=>br p2.1.1 (br (decide (a0.2.1=0)) y1 (some ((false,()),()))) (some ((bif decide (a0.2.1=0) then decide (a0.2.2.1=0) else false,()),())))))
def Gw(D:DX)(n:Nat)(a0:ak):Option ag:=P9 D n a0
theorem aai(D:DX)(n:Nat)(a0:ak):rF D n 146 (a0,())=Gw D n a0:=by kernel_rfl
def Zi(D:DX)(n:Nat)(go:Int->Int->aD->Option aH)(K0:Int->Option aH)(K1:Option aH)(x0 x1:Int)(x2:aD):Option aH:=br (decide (x1>=0)) (br (decide (0<=x1)&&decide (x1<(x2.2.2.2.1.length:Int))) (br (decide ((List.getD x2.2.2.2.1 x1.toNat (0,(0,0,0,()),0,0,0,(0,[],()),())).1=x0)) (K0 x1) (go x0 (wrap .i64 (x1-1)) x2)) none) K1
def VG(D:DX)(n:Nat)(K0:Int->Option aH)(K1:Option aH):Nat->Int->Int->aD->Option aH | 0=>(fun x0 x1 x2=>none) | m+1=>(fun x0 x1 x2=>Zi D n (VG D n K0 K1 m) K0 K1 x0 x1 x2)
def agt(D:DX)(n:Nat)(a:Int):Option aH:=some ((a,()),())
def agu(D:DX)(n:Nat):Option aH:=some ((-1,()),())
def qzz(D:DX)(n:Nat):(Int)->(Int)->aD->Option aH:=(fun x0 x1 x2=>VG D n (fun a=>agt D n a) (agu D n) n x0 x1 x2)
def ZP(D:DX)(n:Nat)(cw:Int->Int->aD->Option aH)(a0:aD)(a1:Int):Option aH:=cw a1 (wrap .i64 ((a0.2.2.2.1.length:Int)-1)) a0
def Zt(D:DX)(n:Nat)(a0:aD)(a1:Int):Option aH:=ZP D n (qzz D n) a0 a1
def Zh(x0 x1:Int)(x2:aD):St:=bq 23 [(1,AV.val ah x0),(2,AV.addr 2 []),(5,AV.val ah x1)] [(2,aC.mk cN Mk.no x2 true)]
def q96(a:Int):St:=bq 23 [(4,AV.val ah a)] []
def q97:St:=bq 23 [] []
theorem ag0(D:DX)(n:Nat)(K:KT 147):∀(m:Nat)(x0 x1:Int)(x2:aD),LF D n 147 fc m (Zh x0 x1 x2) K=VG D n (fun a=>K (Ex.ret) (q96 a)) (K (Ex.exit 0) (q97)) m x0 x1 x2:=pQ (fun F=>Zi D n F (fun a=>K (Ex.ret) (q96 a)) (K (Ex.exit 0) (q97)))
theorem ags(D:DX)(n:Nat)(x0)(x1)(x2):LF D n 147 fc n (Zh x0 x1 x2) (CF D n 147 [] fc (lF 147))=qzz D n x0 x1 x2 :=by rw[ag0];kernel_rfl
theorem aiO(D:DX)(n:Nat)(a0:aD)(a1:Int):rF D n 147 (a0,(a1,()))=Zt D n a0 a1:=by
 have h:rF D n 147 (a0,(a1,()))=ZP D n (fun x0 x1 x2=>LF D n 147 fc n (Zh x0 x1 x2) (CF D n 147 [] fc (lF 147))) a0 a1:=by kernel_rfl
 rw[h];simp only[ags];rfl
def qkd(D:DX)(n:Nat)(a0:List ak):Option mL:=br (decide (Int.toNat (a0.length:Int)=0)) (both (some (([],()),())) (br (decide (0+a0.length<=f9)) (some (([]++a0,()),())) none)) (br (decide (0+a0.length<=f9)) (some (([]++a0,()),())) none)
def qgl(D:DX)(n:Nat)(a0:List ak):Option mL:=qkd D n a0
theorem qtz(D:DX)(n:Nat)(a0:List ak):rF D n 148 (a0,())=qgl D n a0:=by kernel_rfl
def qjv(D:DX)(n:Nat)(a0:List ak):Option mL:=br (decide (Int.toNat (a0.length:Int)=0)) (both (some (([],()),())) (br (decide (0+a0.length<=f9)) (some (([]++a0,()),())) none)) (br (decide (0+a0.length<=f9)) (some (([]++a0,()),())) none)
def qfw(D:DX)(n:Nat)(a0:List ak):Option mL:=qjv D n a0
theorem qrt(D:DX)(n:Nat)(a0:List ak):rF D n 149 (a0,())=qfw D n a0:=by kernel_rfl
def qkc(D:DX)(n:Nat)(a0:List bD):Option ((List bD×Unit)×Unit):=br (decide (Int.toNat (a0.length:Int)=0)) (both (some (([],()),())) (br (decide (0+a0.length<=f9)) (some (([]++a0,()),())) none)) (br (decide (0+a0.length<=f9)) (some (([]++a0,()),())) none)
def qgk(D:DX)(n:Nat)(a0:List bD):Option ((List bD×Unit)×Unit):=qkc D n a0
theorem qty(D:DX)(n:Nat)(a0:List bD):rF D n 150 (a0,())=qgk D n a0:=by kernel_rfl
end
end Go.G

import Derived.Test.YtpmimbgkiindbaaGreatAV3
set_option linter.unusedVariables false
set_option linter.unusedSimpArgs false
set_option linter.unusedSectionVars false
open Go.IntKind (wrap)
namespace Go.G
open Go Go.V
abbrev DX:=Den ctx
abbrev KT(k:Nat):=Ex->St->Option (Out ctx k)
noncomputable abbrev LF(D:DX)(n:Nat)(k:Nat):=LQ (C:=ctx) vX D n k
noncomputable abbrev CF(D:DX)(n:Nat)(k:Nat):=CQ (C:=ctx) vX D n k
noncomputable abbrev KF(D:DX)(n:Nat)(k:Nat):=LK (C:=ctx) vX D n k
noncomputable abbrev lF(k:Nat):=BX (C:=ctx) vX k
noncomputable abbrev rF(D:DX)(n:Nat)(k:Nat):=Kj (C:=ctx) vX D n k
noncomputable abbrev bF(k:Nat):=CD vX k
theorem DW{t0 t1 R:Type}{A B:Nat->t0->t1->R}(b:(t0->t1->R)->t0->t1->R)(h0:∀x0 x1,A 0 x0 x1=B 0 x0 x1:=by intros;exact sH ..)(ha:∀m x0 x1,A (m+1) x0 x1=b (A m) x0 x1:=by intros;kernel_rfl)(hb:∀m x0 x1,B (m+1) x0 x1=b (B m) x0 x1:=by intros;rfl):∀m x0 x1,A m x0 x1=B m x0 x1
| 0=>h0
| m+1=>fun x0 x1=>by rw[ha,hb,show A m=B m from funext fun x0=>funext fun x1=>DW b h0 ha hb m x0 x1]
theorem pH{t0 t1 t2 R:Type}{A B:Nat->t0->t1->t2->R}(b:(t0->t1->t2->R)->t0->t1->t2->R)(h0:∀x0 x1 x2,A 0 x0 x1 x2=B 0 x0 x1 x2:=by intros;exact sH ..)(ha:∀m x0 x1 x2,A (m+1) x0 x1 x2=b (A m) x0 x1 x2:=by intros;kernel_rfl)(hb:∀m x0 x1 x2,B (m+1) x0 x1 x2=b (B m) x0 x1 x2:=by intros;rfl):∀m x0 x1 x2,A m x0 x1 x2=B m x0 x1 x2
| 0=>h0
| m+1=>fun x0 x1 x2=>by rw[ha,hb,show A m=B m from funext fun x0=>funext fun x1=>funext fun x2=>pH b h0 ha hb m x0 x1 x2]
theorem zn{t0 t1 t2 t3 R:Type}{A B:Nat->t0->t1->t2->t3->R}(b:(t0->t1->t2->t3->R)->t0->t1->t2->t3->R)(h0:∀x0 x1 x2 x3,A 0 x0 x1 x2 x3=B 0 x0 x1 x2 x3:=by intros;exact sH ..)(ha:∀m x0 x1 x2 x3,A (m+1) x0 x1 x2 x3=b (A m) x0 x1 x2 x3:=by intros;kernel_rfl)(hb:∀m x0 x1 x2 x3,B (m+1) x0 x1 x2 x3=b (B m) x0 x1 x2 x3:=by intros;rfl):∀m x0 x1 x2 x3,A m x0 x1 x2 x3=B m x0 x1 x2 x3
| 0=>h0
| m+1=>fun x0 x1 x2 x3=>by rw[ha,hb,show A m=B m from funext fun x0=>funext fun x1=>funext fun x2=>funext fun x3=>zn b h0 ha hb m x0 x1 x2 x3]
theorem oP{t0 t1 t2 t3 t4 R:Type}{A B:Nat->t0->t1->t2->t3->t4->R}(b:(t0->t1->t2->t3->t4->R)->t0->t1->t2->t3->t4->R)(h0:∀x0 x1 x2 x3 x4,A 0 x0 x1 x2 x3 x4=B 0 x0 x1 x2 x3 x4:=by intros;exact sH ..)(ha:∀m x0 x1 x2 x3 x4,A (m+1) x0 x1 x2 x3 x4=b (A m) x0 x1 x2 x3 x4:=by intros;kernel_rfl)(hb:∀m x0 x1 x2 x3 x4,B (m+1) x0 x1 x2 x3 x4=b (B m) x0 x1 x2 x3 x4:=by intros;rfl):∀m x0 x1 x2 x3 x4,A m x0 x1 x2 x3 x4=B m x0 x1 x2 x3 x4
| 0=>h0
| m+1=>fun x0 x1 x2 x3 x4=>by rw[ha,hb,show A m=B m from funext fun x0=>funext fun x1=>funext fun x2=>funext fun x3=>funext fun x4=>oP b h0 ha hb m x0 x1 x2 x3 x4]
theorem DY{t0 t1 t2 t3 t4 t5 R:Type}{A B:Nat->t0->t1->t2->t3->t4->t5->R}(b:(t0->t1->t2->t3->t4->t5->R)->t0->t1->t2->t3->t4->t5->R)(h0:∀x0 x1 x2 x3 x4 x5,A 0 x0 x1 x2 x3 x4 x5=B 0 x0 x1 x2 x3 x4 x5:=by intros;exact sH ..)(ha:∀m x0 x1 x2 x3 x4 x5,A (m+1) x0 x1 x2 x3 x4 x5=b (A m) x0 x1 x2 x3 x4 x5:=by intros;kernel_rfl)(hb:∀m x0 x1 x2 x3 x4 x5,B (m+1) x0 x1 x2 x3 x4 x5=b (B m) x0 x1 x2 x3 x4 x5:=by intros;rfl):∀m x0 x1 x2 x3 x4 x5,A m x0 x1 x2 x3 x4 x5=B m x0 x1 x2 x3 x4 x5
| 0=>h0
| m+1=>fun x0 x1 x2 x3 x4 x5=>by rw[ha,hb,show A m=B m from funext fun x0=>funext fun x1=>funext fun x2=>funext fun x3=>funext fun x4=>funext fun x5=>DY b h0 ha hb m x0 x1 x2 x3 x4 x5]
theorem eL7{t0 t1 t2 t3 t4 t5 t6 R:Type}{A B:Nat->t0->t1->t2->t3->t4->t5->t6->R}(b:(t0->t1->t2->t3->t4->t5->t6->R)->t0->t1->t2->t3->t4->t5->t6->R)(h0:∀x0 x1 x2 x3 x4 x5 x6,A 0 x0 x1 x2 x3 x4 x5 x6=B 0 x0 x1 x2 x3 x4 x5 x6:=by intros;exact sH ..)(ha:∀m x0 x1 x2 x3 x4 x5 x6,A (m+1) x0 x1 x2 x3 x4 x5 x6=b (A m) x0 x1 x2 x3 x4 x5 x6:=by intros;kernel_rfl)(hb:∀m x0 x1 x2 x3 x4 x5 x6,B (m+1) x0 x1 x2 x3 x4 x5 x6=b (B m) x0 x1 x2 x3 x4 x5 x6:=by intros;rfl):∀m x0 x1 x2 x3 x4 x5 x6,A m x0 x1 x2 x3 x4 x5 x6=B m x0 x1 x2 x3 x4 x5 x6
| 0=>h0
| m+1=>fun x0 x1 x2 x3 x4 x5 x6=>by rw[ha,hb,show A m=B m from funext fun x0=>funext fun x1=>funext fun x2=>funext fun x3=>funext fun x4=>funext fun x5=>funext fun x6=>eL7 b h0 ha hb m x0 x1 x2 x3 x4 x5 x6]
theorem eL8{t0 t1 t2 t3 t4 t5 t6 t7 R:Type}{A B:Nat->t0->t1->t2->t3->t4->t5->t6->t7->R}(b:(t0->t1->t2->t3->t4->t5->t6->t7->R)->t0->t1->t2->t3->t4->t5->t6->t7->R)(h0:∀x0 x1 x2 x3 x4 x5 x6 x7,A 0 x0 x1 x2 x3 x4 x5 x6 x7=B 0 x0 x1 x2 x3 x4 x5 x6 x7:=by intros;exact sH ..)(ha:∀m x0 x1 x2 x3 x4 x5 x6 x7,A (m+1) x0 x1 x2 x3 x4 x5 x6 x7=b (A m) x0 x1 x2 x3 x4 x5 x6 x7:=by intros;kernel_rfl)(hb:∀m x0 x1 x2 x3 x4 x5 x6 x7,B (m+1) x0 x1 x2 x3 x4 x5 x6 x7=b (B m) x0 x1 x2 x3 x4 x5 x6 x7:=by intros;rfl):∀m x0 x1 x2 x3 x4 x5 x6 x7,A m x0 x1 x2 x3 x4 x5 x6 x7=B m x0 x1 x2 x3 x4 x5 x6 x7
| 0=>h0
| m+1=>fun x0 x1 x2 x3 x4 x5 x6 x7=>by rw[ha,hb,show A m=B m from funext fun x0=>funext fun x1=>funext fun x2=>funext fun x3=>funext fun x4=>funext fun x5=>funext fun x6=>funext fun x7=>eL8 b h0 ha hb m x0 x1 x2 x3 x4 x5 x6 x7]
theorem Uq{t0 t1 t2 t3 t4 t5 t6 t7 t8 R:Type}{A B:Nat->t0->t1->t2->t3->t4->t5->t6->t7->t8->R}(b:(t0->t1->t2->t3->t4->t5->t6->t7->t8->R)->t0->t1->t2->t3->t4->t5->t6->t7->t8->R)(h0:∀x0 x1 x2 x3 x4 x5 x6 x7 x8,A 0 x0 x1 x2 x3 x4 x5 x6 x7 x8=B 0 x0 x1 x2 x3 x4 x5 x6 x7 x8:=by intros;exact sH ..)(ha:∀m x0 x1 x2 x3 x4 x5 x6 x7 x8,A (m+1) x0 x1 x2 x3 x4 x5 x6 x7 x8=b (A m) x0 x1 x2 x3 x4 x5 x6 x7 x8:=by intros;kernel_rfl)(hb:∀m x0 x1 x2 x3 x4 x5 x6 x7 x8,B (m+1) x0 x1 x2 x3 x4 x5 x6 x7 x8=b (B m) x0 x1 x2 x3 x4 x5 x6 x7 x8:=by intros;rfl):∀m x0 x1 x2 x3 x4 x5 x6 x7 x8,A m x0 x1 x2 x3 x4 x5 x6 x7 x8=B m x0 x1 x2 x3 x4 x5 x6 x7 x8
| 0=>h0
| m+1=>fun x0 x1 x2 x3 x4 x5 x6 x7 x8=>by rw[ha,hb,show A m=B m from funext fun x0=>funext fun x1=>funext fun x2=>funext fun x3=>funext fun x4=>funext fun x5=>funext fun x6=>funext fun x7=>funext fun x8=>Uq b h0 ha hb m x0 x1 x2 x3 x4 x5 x6 x7 x8]
abbrev cz:List lN:=[.r,.r,.l,.r,.l]
abbrev eM:List lN:=[.r,.r,.r,.l,.r,.l]
abbrev fe:List lN:=[.r,.l,.r,.l]
abbrev ji:List lN:=[.r,.r,.r,.r,.l,.r,.l]
abbrev vN:List lN:=[.r,.r,.r,.r,.r,.r,.r,.r,.l,.r,.l]
abbrev xI:List lN:=[.r,.r,.r,.r,.r,.r,.l,.r,.l]
abbrev LS:List lN:=[.r,.r,.l,.r,.l,.r,.r,.r,.r,.r,.r,.r,.r,.r,.l,.r,.l]
abbrev zF:List lN:=[.r,.r,.r,.r,.r,.l,.r,.l]
abbrev LU:List lN:=[.r,.r,.r,.r,.r,.r,.r,.r,.r,.r,.r,.l,.r,.l]
abbrev LV:List lN:=[.r,.r,.r,.r,.r,.r,.r,.r,.r,.l,.r,.l]
abbrev EM:List lN:=[.r,.r,.r,.r,.r,.r,.r,.r,.l,.r,.l,.l,.r,.l,.l,.r,.l]
abbrev EN:List lN:=[.r,.r,.r,.r,.r,.r,.l,.r,.l,.l,.r,.l,.l,.r,.r,.l]
abbrev uv:List lN:=[.r,.l,.l,.r,.l,.l,.r,.l]
abbrev hJ:List lN:=[.r,.l]
abbrev EO:List lN:=[.r,.r,.l,.r,.l,.l,.r,.r,.l,.l,.r,.r,.r,.l]
abbrev EP:List lN:=[.r,.r,.r,.l,.r,.l,.l,.r,.l,.l,.r,.r,.r,.l]
abbrev ER:List lN:=[.r,.r,.l,.r,.l,.l,.r,.l,.l,.r,.l,.r,.l]
abbrev uw:List lN:=[.r,.l,.l,.r,.l]
abbrev n6:List lN:=[.r,.r,.l]
abbrev AE:List lN:=[.r,.r,.l,.r,.l,.l]
abbrev gQ:=Bool×Unit
abbrev bD:=Int×Int×Unit
abbrev aH:=(Int×Unit)×Unit
abbrev ag:=gQ×Unit
abbrev eO:=Int×List Int×Unit
abbrev aB:=List Int×Int×Unit
abbrev cQ:=Unit×List Int×Unit
abbrev ak:=Int×bD
abbrev dc:=(List Int×Unit)×Unit
abbrev lC:=(Int×gQ)×Unit
abbrev bt:=List Int×bD
abbrev cE:=Int×ak
abbrev vB:=List ak×Unit
abbrev sP:=bt×Unit
abbrev lB:=(aB×Unit)×Unit
abbrev cD:=Unit×vB
abbrev mO:=vB×Unit
abbrev nD:=sP×Unit
abbrev nC:=(aB×gQ)×Unit
abbrev ko:=(ak×gQ)×Unit
abbrev pg:=(Int×Unit)×sP
abbrev cV:=List bD×List Int×Int×gQ
abbrev zd:=cV×Unit
abbrev jn:=Bool×eO×vB
abbrev jA:=Unit×zd
abbrev nB:=(aB×Unit)×sP
abbrev mb:=zd×Unit
abbrev bE:=Int×Int×List ak×eO×Unit
abbrev bz:=Int×ak×Int×Int×Int×eO×Unit
abbrev gP:=(List (List ak)×Unit)×sP
abbrev gO:=(aB×List (List ak)×List Int×Unit)×Unit
abbrev nA:=(jn×gQ)×Unit
abbrev aR:=List ak×Int×Bool×List bD×List cE×Unit
abbrev aU:=List ak×List bE×Unit
abbrev jm:=(aR×Unit)×Unit
abbrev ny:=(aU×Unit)×Unit
abbrev nW:=(aU×gQ)×Unit
abbrev tq8:=(aU×cE×gQ)×Unit
abbrev tq7:=(cE×cE×Int×Unit)×aU×Unit
abbrev tq6:=(aU×cE×cE×Int×Unit)×Unit
abbrev aD:=aU×List aR×Int×List bz×List Int×aB×Unit
abbrev wq:=Unit×aD×Unit
abbrev iN:=(aD×Unit)×Unit
abbrev tQ:=(Int×Unit)×aD×Unit
abbrev tq1:=gQ×aD×Unit
abbrev mE:=(aD×gQ)×Unit
noncomputable def P4(D:Den ctx)(a0:List Int):Option ag:=D 4 (a0,())
noncomputable def GJ(D:Den ctx)(a0:List Int):Option ag:=D 12 (a0,())
noncomputable def qqb(D:Den ctx)(a0:List Int):Option gO:=D 13 (a0,())
noncomputable def qtv(D:Den ctx)(a0:aB)(a1:List (List ak)):Option mE:=D 14 (a0,(a1,()))
noncomputable def qtw(D:Den ctx)(a0:aB)(a1:List (List ak)):Option mE:=D 15 (a0,(a1,()))
noncomputable def Gw(D:Den ctx)(a0:aD)(a1:List Int):Option iN:=D 16 (a0,(a1,()))
noncomputable def Tn(D:Den ctx)(a0:aR):Option ag:=D 17 (a0,())
noncomputable def q7t(D:Den ctx)(a0:aD)(a1 a2:Int):Option iN:=D 18 (a0,(a1,(a2,())))
noncomputable def qxl(D:Den ctx)(a0:aD):Option ag:=D 20 (a0,())
noncomputable def HR(D:Den ctx)(a0:List Int)(a1:Int):Option aH:=D 21 (a0,(a1,()))
noncomputable def Yw(D:Den ctx)(a0:List ak)(a1:List bE):Option dc:=D 23 (a0,(a1,()))
noncomputable def Px(D:Den ctx)(a0 a1:bz):Option ag:=D 29 (a0,(a1,()))
noncomputable def qtt(D:Den ctx)(a0:aD):Option ag:=D 30 (a0,())
noncomputable def V9(D:Den ctx)(a0:aB)(a1:Int):Option aH:=D 34 (a0,(a1,()))
noncomputable def vS(D:Den ctx)(a0:Int):Option aH:=D 35 (a0,())
noncomputable def Yt(D:Den ctx)(a0:aB)(a1:Int):Option aH:=D 37 (a0,(a1,()))
noncomputable def V7(D:Den ctx)(a0:aB)(a1:ak)(a2:eO):Option lB:=D 38 (a0,(a1,(a2,())))
noncomputable def VY(D:Den ctx)(a0:aD):Option nC:=D 39 (a0,())
noncomputable def zL(D:Den ctx)(a0:aD):Option ag:=D 40 (a0,())
noncomputable def Yu(D:Den ctx)(a0:aD):Option ag:=D 42 (a0,())
noncomputable def q7z(D:Den ctx)(a0:List Int):Option nD:=D 44 (a0,())
noncomputable def qrr(D:Den ctx)(a0:bt):Option nB:=D 45 (a0,())
noncomputable def qvw(D:Den ctx)(a0:bt):Option gP:=D 46 (a0,())
noncomputable def rP(D:Den ctx)(a0:bt)(a1:Int):Option pg:=D 47 (a0,(a1,()))
noncomputable def ZS(D:Den ctx)(a0:List Int)(a1 a2:Int):Option aH:=D 48 (a0,(a1,(a2,())))
noncomputable def ZM(D:Den ctx)(a0:aB)(a1:Int):Option nW:=D 49 (a0,(a1,()))
noncomputable def JZ(D:Den ctx)(a0:aB):Option lB:=D 50 (a0,())
noncomputable def q7u(D:Den ctx)(a0:List ak):Option jm:=D 51 (a0,())
noncomputable def ZR(D:Den ctx)(a0:aB)(a1:Int):Option nW:=D 52 (a0,(a1,()))
noncomputable def ZT(D:Den ctx)(a0:aB):Option lB:=D 53 (a0,())
noncomputable def q7x(D:Den ctx)(a0:List ak):Option jm:=D 54 (a0,())
noncomputable def qvv(D:Den ctx)(a0:aD):Option ag:=D 55 (a0,())
noncomputable def JW(D:Den ctx)(a0:aD):Option iN:=D 56 (a0,())
noncomputable def J8(D:Den ctx)(a0:aD)(a1:Int):Option mE:=D 57 (a0,(a1,()))
noncomputable def kE(D:Den ctx)(a0 a1 a2:Int):Option ag:=D 58 (a0,(a1,(a2,())))
noncomputable def qtu(D:Den ctx)(a0:aD):Option ag:=D 59 (a0,())
noncomputable def Yx(D:Den ctx)(a0:List ak)(a1:List bE)(a2:Int):Option aH:=D 60 (a0,(a1,(a2,())))
noncomputable def IK(D:Den ctx)(a0:aU):Option ag:=D 63 (a0,())
noncomputable def qd4(D:Den ctx)(a0:List ak)(a1:bk):Option ag:=D 64 (a0,(a1,()))
noncomputable def TK(D:Den ctx)(a0:aB):Option ag:=D 66 (a0,())
noncomputable def Vq(D:Den ctx)(a0 a1:List Int):Option ag:=D 67 (a0,(a1,()))
noncomputable def TE(D:Den ctx)(a0:aB):Option dc:=D 68 (a0,())
noncomputable def SX(D:Den ctx)(a0:List Int):Option dc:=D 69 (a0,())
noncomputable def tD(D:Den ctx):Option aH:=D 70 ()
noncomputable def J9(D:Den ctx)(a0:aB):Option ag:=D 71 (a0,())
noncomputable def yA(D:Den ctx)(a0:Int):Option aH:=D 73 (a0,())
noncomputable def Vr(D:Den ctx)(a0:List Int)(a1:Int):Option aH:=D 74 (a0,(a1,()))
noncomputable def J4(D:Den ctx)(a0:Bool)(a1:Int):Option aH:=D 75 (a0,(a1,()))
noncomputable def zM(D:Den ctx)(a0:Int):Option ag:=D 76 (a0,())
noncomputable def tC(D:Den ctx)(a0:Int):Option aH:=D 77 (a0,())
noncomputable def VQ(D:Den ctx)(a0:aB)(a1:ak)(a2:eO):Option ag:=D 78 (a0,(a1,(a2,())))
noncomputable def Vw(D:Den ctx)(a0:bz)(a1:Int)(a2:aD):Option ag:=D 79 (a0,(a1,(a2,())))
noncomputable def Ds(D:Den ctx)(a0:ak):Option ag:=D 80 (a0,())
noncomputable def qxn(D:Den ctx)(a0:aR)(a1:Int):Option ag:=D 81 (a0,(a1,()))
noncomputable def Yy(D:Den ctx)(a0:aD)(a1:Int):Option ag:=D 82 (a0,(a1,()))
noncomputable def Yz(D:Den ctx)(a0:aD):Option ag:=D 83 (a0,())
noncomputable def II(D:Den ctx)(a0:eO):Option ((eO×Unit)×Unit):=D 85 (a0,())
noncomputable def YE(D:Den ctx):Option lB:=D 90 ()
noncomputable def Wa(D:Den ctx)(a0:aB)(a1:Int):Option aH:=D 91 (a0,(a1,()))
noncomputable def VF(D:Den ctx)(a0:bt)(a1:List Int):Option pg:=D 92 (a0,(a1,()))
noncomputable def qrs(D:Den ctx)(a0:bt):Option ((ak×Unit)×sP):=D 93 (a0,())
noncomputable def IJ(D:Den ctx)(a0:bt):Option pg:=D 94 (a0,())
noncomputable def Vk(D:Den ctx)(a0:List ak):Option mO:=D 95 (a0,())
noncomputable def YF(D:Den ctx)(a0:aB):Option dc:=D 96 (a0,())
noncomputable def lY(D:Den ctx)(a0 a1 a2:Int):Option ag:=D 97 (a0,(a1,(a2,())))
noncomputable def TV(D:Den ctx)(a0:aU):Option ag:=D 98 (a0,())
noncomputable def VZ(D:Den ctx)(a0:aB):Option ag:=D 99 (a0,())
noncomputable def YG(D:Den ctx)(a0:aD):Option ag:=D 100 (a0,())
noncomputable def qxr(D:Den ctx)(a0:aR)(a1:Int):Option ag:=D 101 (a0,(a1,()))
noncomputable def qxt(D:Den ctx)(a0:aD)(a1:Int):Option ag:=D 102 (a0,(a1,()))
noncomputable def J2(D:Den ctx)(a0:aU):Option ny:=D 103 (a0,())
noncomputable def JX(D:Den ctx)(a0:aR):Option jm:=D 104 (a0,())
noncomputable def qng(D:Den ctx)(a0:aD)(a1:Int):Option wq:=D 105 (a0,(a1,()))
noncomputable def qqa(D:Den ctx)(a0:aD)(a1:Int):Option tq1:=D 106 (a0,(a1,()))
noncomputable def VR(D:Den ctx)(a0:bE)(a1:Int):Option ko:=D 107 (a0,(a1,()))
noncomputable def qd3(D:Den ctx)(a0:List bE)(a1:bk):Option ag:=D 109 (a0,(a1,()))
noncomputable def OP(D:Den ctx)(a0:bE):Option ag:=D 110 (a0,())
noncomputable def ZL(D:Den ctx)(a0:bE):Option ag:=D 111 (a0,())
noncomputable def ZN(D:Den ctx)(a0:ak)(a1:Int):Option ag:=D 112 (a0,(a1,()))
noncomputable def qiq(D:Den ctx)(a0:List ak)(a1:bk):Option aH:=D 113 (a0,(a1,()))
noncomputable def Vn(D:Den ctx)(a0:List Int)(a1:Int):Option ag:=D 114 (a0,(a1,()))
noncomputable def yz(D:Den ctx)(a0:Int):Option aH:=D 115 (a0,())
noncomputable def OQ(D:Den ctx)(a0:aB)(a1:ak)(a2:Int):Option ag:=D 116 (a0,(a1,(a2,())))
noncomputable def OR(D:Den ctx)(a0:aB)(a1:ak):Option ((List Int×gQ)×Unit):=D 117 (a0,(a1,()))
noncomputable def TU(D:Den ctx)(a0:Int):Option ag:=D 118 (a0,())
noncomputable def VT(D:Den ctx)(a0:Int):Option ag:=D 119 (a0,())
noncomputable def qfn(D:Den ctx)(a0:List ak)(a1:bk):Option ag:=D 120 (a0,(a1,()))
noncomputable def q54(D:Den ctx)(a0:ak):Option ag:=D 121 (a0,())
noncomputable def Va(D:Den ctx)(a0:List bD)(a1:bk):Option ag:=D 122 (a0,(a1,()))
noncomputable def q55(D:Den ctx)(a0:bD):Option ag:=D 123 (a0,())
noncomputable def VU(D:Den ctx)(a0:Int):Option ag:=D 124 (a0,())
noncomputable def JY(D:Den ctx)(a0:Int):Option ag:=D 125 (a0,())
noncomputable def U_(D:Den ctx)(a0:List cE)(a1:bk):Option ag:=D 126 (a0,(a1,()))
noncomputable def q56(D:Den ctx)(a0:cE)(a1:Int):Option ag:=D 127 (a0,(a1,()))
noncomputable def Wc(D:Den ctx)(a0:Int):Option ag:=D 132 (a0,())
noncomputable def Ci(D:Den ctx)(a0:Int):Option ag:=D 133 (a0,())
noncomputable def q7w(D:Den ctx)(a0:Int):Option aH:=D 134 (a0,())
noncomputable def YD(D:Den ctx)(a0:Int):Option aH:=D 135 (a0,())
noncomputable def q7y(D:Den ctx)(a0:Int):Option aH:=D 136 (a0,())
noncomputable def YC(D:Den ctx)(a0:aB)(a1:Int):Option aH:=D 137 (a0,(a1,()))
noncomputable def YB(D:Den ctx)(a0:Int):Option aH:=D 138 (a0,())
noncomputable def VV(D:Den ctx):Option aH:=D 139 ()
noncomputable def ZQ(D:Den ctx)(a0:bE):Option ag:=D 140 (a0,())
noncomputable def O_(D:Den ctx)(a0:ak)(a1:Int):Option ag:=D 141 (a0,(a1,()))
noncomputable def ag_(D:Den ctx)(a0:bE)(a1:Int):Option ko:=D 142 (a0,(a1,()))
noncomputable def Dq(D:Den ctx)(a0:Int):Option ag:=D 143 (a0,())
noncomputable def aik(D:Den ctx)(a0:aD)(a1:bz):Option ag:=D 144 (a0,(a1,()))
noncomputable def TW(D:Den ctx)(a0:Bool):Option aH:=D 145 (a0,())
noncomputable def UX(D:Den ctx)(a0:ak):Option ag:=D 146 (a0,())
noncomputable def ZU(D:Den ctx)(a0:aD)(a1:Int):Option aH:=D 147 (a0,(a1,()))
noncomputable def qgi(D:Den ctx)(a0:List ak):Option mO:=D 148 (a0,())
noncomputable def Vg(D:Den ctx)(a0:List ak):Option mO:=D 149 (a0,())
noncomputable def qgh(D:Den ctx)(a0:List bD):Option ((List bD×Unit)×Unit):=D 150 (a0,())
noncomputable def qgg(D:Den ctx)(a0:List cE):Option ((List cE×Unit)×Unit):=D 151 (a0,())
noncomputable def GI(D:Den ctx)(a0:aR):Option ((cE×gQ)×Unit):=D 152 (a0,())
noncomputable def ZK(D:Den ctx)(a0:aU)(a1:cE):Option tq6:=D 153 (a0,(a1,()))
noncomputable def J7(D:Den ctx)(a0:aR)(a1:cE):Option jm:=D 154 (a0,(a1,()))
noncomputable def T4(D:Den ctx)(a0:aR)(a1:cE):Option jm:=D 155 (a0,(a1,()))
noncomputable def GH(D:Den ctx)(a0:aR):Option jm:=D 156 (a0,())
noncomputable def S_(D:Den ctx)(a0:aD)(a1:Int)(a2:eO):Option wq:=D 157 (a0,(a1,(a2,())))
noncomputable def S8(D:Den ctx)(a0:aD)(a1:Int)(a2:eO):Option wq:=D 158 (a0,(a1,(a2,())))
noncomputable def Gv(D:Den ctx)(a0:ak)(a1:List bD):Option aH:=D 159 (a0,(a1,()))
noncomputable def VX(D:Den ctx)(a0:ak)(a1:List bD):Option nA:=D 160 (a0,(a1,()))
noncomputable def V8(D:Den ctx)(a0:aU)(a1:Int)(a2:List ak)(a3:eO):Option tq8:=D 161 (a0,(a1,(a2,(a3,()))))
noncomputable def qin(D:Den ctx)(a0:List bE)(a1:bk):Option aH:=D 162 (a0,(a1,()))
noncomputable def qj8(D:Den ctx)(a0:List ak)(a1:bk):Option aH:=D 163 (a0,(a1,()))
noncomputable def qip(D:Den ctx)(a0:List bD)(a1:bk):Option aH:=D 164 (a0,(a1,()))
noncomputable def qio(D:Den ctx)(a0:List cE)(a1:bk):Option aH:=D 165 (a0,(a1,()))
noncomputable def Wb(D:Den ctx)(a0:Int):Option ag:=D 166 (a0,())
noncomputable def YA(D:Den ctx)(a0:Int):Option aH:=D 167 (a0,())
noncomputable def U3(D:Den ctx)(a0:aU)(a1:cE):Option tq7:=D 168 (a0,(a1,()))
noncomputable def Vo(D:Den ctx)(a0:aD)(a1:Int):Option tQ:=D 169 (a0,(a1,()))
noncomputable def V_(D:Den ctx)(a0:ak)(a1:List bD):Option mb:=D 170 (a0,(a1,()))
noncomputable def ZO(D:Den ctx)(a0:ak)(a1:List bD):Option ((eO×gQ)×Unit):=D 171 (a0,(a1,()))
noncomputable def uS(D:Den ctx)(a0:List bD)(a1:Int):Option lC:=D 172 (a0,(a1,()))
noncomputable def yD(D:Den ctx)(a0:Int):Option aH:=D 173 (a0,())
noncomputable def VS(D:Den ctx)(a0:ak)(a1:List bD)(a2 a3:Int):Option mO:=D 174 (a0,(a1,(a2,(a3,()))))
noncomputable def Vp(D:Den ctx)(a0:List Int):Option cQ:=D 175 (a0,())
noncomputable def ZP(D:Den ctx)(a0:ak)(a1 a2 a3 a4:Int):Option aH:=D 176 (a0,(a1,(a2,(a3,(a4,())))))
noncomputable def OC(D:Den ctx)(a0:ak)(a1:Int):Option ag:=D 177 (a0,(a1,()))
noncomputable def SZ(D:Den ctx)(a0:cV)(a1:ak):Option jA:=D 178 (a0,(a1,()))
noncomputable def qy(D:Den ctx)(a0:cV)(a1:Int):Option ((Int×Unit)×zd):=D 179 (a0,(a1,()))
noncomputable def tB(D:Den ctx)(a0:cV)(a1:Bool):Option jA:=D 180 (a0,(a1,()))
noncomputable def vO(D:Den ctx)(a0 a1 a2:Int)(a3:List bD)(a4:List ak):Option cD:=D 181 (a0,(a1,(a2,(a3,(a4,())))))
noncomputable def Vf(D:Den ctx)(a0:List ak)(a1:bk):Option cD:=D 182 (a0,(a1,()))
noncomputable def q7v(D:Den ctx)(a0 a1:ak):Option aH:=D 183 (a0,(a1,()))
noncomputable def qz(D:Den ctx)(a0:List Int)(a1 a2 a3:Int):Option cQ:=D 184 (a0,(a1,(a2,(a3,()))))
noncomputable def VO(D:Den ctx)(a0:Int):Option aH:=D 185 (a0,())
noncomputable def IC(D:Den ctx)(a0:cV)(a1:Int)(a2:List Int):Option jA:=D 186 (a0,(a1,(a2,())))
noncomputable def qo(D:Den ctx)(a0:List ak)(a1 a2 a3:Int)(a4:bk):Option cD:=D 187 (a0,(a1,(a2,(a3,(a4,())))))
noncomputable def qkn(D:Den ctx)(a0:List Int)(a1 a2:Int):Option cQ:=D 188 (a0,(a1,(a2,())))
noncomputable def q0o(D:Den ctx)(a0:List Int)(a1 a2:Int):Option cQ:=D 189 (a0,(a1,(a2,())))
noncomputable def qva(D:Den ctx)(a0:List Int)(a1 a2:Int):Option cQ:=D 190 (a0,(a1,(a2,())))
noncomputable def qll(D:Den ctx)(a0:List Int)(a1 a2:Int):Option (bD×Unit):=D 191 (a0,(a1,(a2,())))
noncomputable def qk7(D:Den ctx)(a0:List Int)(a1 a2:Int):Option cQ:=D 192 (a0,(a1,(a2,())))
noncomputable def Vc(D:Den ctx)(a0:List Int)(a1 a2:Int):Option (gQ×List Int×Unit):=D 193 (a0,(a1,(a2,())))
noncomputable def yx(D:Den ctx)(a0 a1:Int):Option ag:=D 194 (a0,(a1,()))
noncomputable def Di(D:Den ctx)(a0:List Int)(a1 a2 a3:Int):Option ((Int×Unit)×List Int×Unit):=D 195 (a0,(a1,(a2,(a3,()))))
noncomputable def Dj(D:Den ctx)(a0:List Int)(a1 a2 a3:Int):Option ((Int×gQ)×List Int×Unit):=D 196 (a0,(a1,(a2,(a3,()))))
noncomputable def q57(D:Den ctx)(a0:Int):Option aH:=D 198 (a0,())
noncomputable def qhy(D:Den ctx)(a0:List ak)(a1 a2:Int)(a3:bk):Option cD:=D 199 (a0,(a1,(a2,(a3,()))))
noncomputable def qtb(D:Den ctx)(a0:List ak)(a1 a2:Int)(a3:bk):Option cD:=D 200 (a0,(a1,(a2,(a3,()))))
noncomputable def qoo(D:Den ctx)(a0:List ak)(a1 a2:Int)(a3:bk):Option cD:=D 201 (a0,(a1,(a2,(a3,()))))
noncomputable def qir(D:Den ctx)(a0:List ak)(a1 a2:Int)(a3:bk):Option (bD×Unit):=D 202 (a0,(a1,(a2,(a3,()))))
noncomputable def qig(D:Den ctx)(a0:List ak)(a1 a2:Int)(a3:bk):Option cD:=D 203 (a0,(a1,(a2,(a3,()))))
noncomputable def Vd(D:Den ctx)(a0:List ak)(a1 a2:Int)(a3:bk):Option (gQ×vB):=D 204 (a0,(a1,(a2,(a3,()))))
noncomputable def Dg(D:Den ctx)(a0:List ak)(a1 a2 a3:Int)(a4:bk):Option ((Int×Unit)×vB):=D 205 (a0,(a1,(a2,(a3,(a4,())))))
noncomputable def Dh(D:Den ctx)(a0:List ak)(a1 a2 a3:Int)(a4:bk):Option ((Int×gQ)×vB):=D 206 (a0,(a1,(a2,(a3,(a4,())))))
noncomputable def qxh(D:Den ctx)(a0:Int):Option ag:=D 212 (a0,())
set_option maxRecDepth 100000
set_option maxHeartbeats 0
noncomputable section
def q6s(D:DX)(n:Nat)(go:Int->Int->Int->aD->Option ag)(K0:Int->Int->aD->Option ag)(c d a:Int)(b:aD):Option ag:=let y0:=wrap .i64 (a+1);br (decide (a<(b.2.1.length:Int))) (br (a != c) (br (decide (0<=a)&&decide (a<(b.2.1.length:Int))) (qd (Tn D (List.getD b.2.1 a.toNat ([],0,false,[],[],()))) fun p0=>br (!p0.1.1) (qd (q7t D b a 40) fun p1=>go c d y0 p1.1.1) (go c d y0 b)) none) (go c d y0 b)) (K0 c d b)
def TC(D:DX)(n:Nat)(K0:Int->Int->aD->Option ag):Nat->Int->Int->Int->aD->Option ag | 0=>(fun a b c d=>none) | m+1=>(fun a b c d=>q6s D n (TC D n K0 m) K0 a b c d)
def qxk(D:DX)(n:Nat)(go:Int->Int->aD->Option ag)(K0:Int->aD->Option ag)(a b:Int)(c:aD):Option ag:=go a (wrap .i64 (b+1)) c
def qy4(D:DX)(n:Nat)(go:Int->Int->aD->Option ag)(K0:Int->aD->Option ag):(Int)->(Int)->(Int)->aD->Option ag:=(fun a e f g=>TC D n (fun b c d=>qxk D n go K0 b c d) n a e f g)
def Zs(D:DX)(n:Nat)(go:Int->Int->aD->Option ag)(K0:Int->aD->Option ag)(mJ:Int->Int->Int->aD->Option ag)(x0 x1:Int)(x2:aD):Option ag:=br (decide (x1<60)) (mJ x0 x1 0 x2) (K0 x0 x2)
def Dm(D:DX)(n:Nat)(K0:Int->aD->Option ag):Nat->Int->Int->aD->Option ag | 0=>(fun x0 x1 x2=>none) | m+1=>(fun x0 x1 x2=>Zs D n (Dm D n K0 m) K0 (qy4 D n (Dm D n K0 m) K0) x0 x1 x2)
def q6t(D:DX)(n:Nat)(go:Int->Int->aD->Option ag)(K0:Bool->aD->Option ag)(K1:aD->Option ag)(c a:Int)(b:aD):Option ag:=br (decide (a<(b.2.1.length:Int))) (br (a != c) (br (decide (0<=a)&&decide (a<(b.2.1.length:Int))) (qd (Tn D (List.getD b.2.1 a.toNat ([],0,false,[],[],()))) fun p0=>br (!p0.1.1) (K0 false b) (go c (wrap .i64 (a+1)) b)) none) (go c (wrap .i64 (a+1)) b)) (K1 b)
def TD(D:DX)(n:Nat)(K0:Bool->aD->Option ag)(K1:aD->Option ag):Nat->Int->Int->aD->Option ag | 0=>(fun a b c=>none) | m+1=>(fun a b c=>q6t D n (TD D n K0 K1 m) K0 K1 a b c)
def ag7(D:DX)(n:Nat)(a:Bool)(b:aD):Option ag:=some ((a,()),())
def P2(D:DX)(n:Nat)(a:aD):Option ag:=qd (qxl D a) fun b=>some ((b.1.1,()),())
def V4(D:DX)(n:Nat):(Int)->(Int)->aD->Option ag:=(fun a b f=>TD D n (fun c d=>ag7 D n c d) (fun e=>P2 D n e) n a b f)
def V3(D:DX)(n:Nat)(Js:Int->Int->aD->Option ag)(a:Int)(b:aD):Option ag:=Js a 0 b
def qy3(D:DX)(n:Nat):(Int)->(Int)->aD->Option ag:=(fun x0 x1 x2=>Dm D n (fun a b=>V3 D n (V4 D n) a b) n x0 x1 x2)
def q74(D:DX)(n:Nat)(cw:Int->Int->aD->Option ag)(a0:List Int):Option ag:=qd (GJ D a0) fun p3=>br p3.1.1 (some ((true,()),())) (qd (qqb D a0) fun p0=>qd (qtv D p0.1.1 p0.1.2.1) fun p1=>qd (qtw D p0.1.1 p0.1.2.1) fun p4=>br (bif !decide (p1.1.2.1=p4.1.2.1) then true else !p1.1.2.1) (some ((false,()),())) (qd (Gw D p1.1.1 p0.1.2.2.1) fun p2=>qd (HR D a0 1) fun p5=>br (decide ((p2.1.1.2.1.length:Int)=0)) none (cw (Int.tmod p5.1.1 (p2.1.1.2.1.length:Int)) 0 p2.1.1)))
def q6u(D:DX)(n:Nat)(a0:List Int):Option ag:=q74 D n (qy3 D n) a0
def IF(x0 x1:Int)(x2:aD):St:=bq 98 [(10,AV.addr 10 []),(11,AV.val ah x0),(12,AV.val ah x1)] [(10,aC.mk cK Mk.no x2 true)]
def Tv(a:Int)(b:aD):St:=bq 98 [(10,AV.addr 10 []),(11,AV.val ah a)] [(10,aC.mk cK Mk.no b true)]
def qy5(a b c:Int)(d:aD):St:=bq 98 [(10,AV.addr 10 []),(11,AV.val ah a),(12,AV.val ah b),(13,AV.val ah c)] [(10,aC.mk cK Mk.no d true)]
def q9i(a b:Int)(c:aD):St:=bq 98 [(10,AV.addr 10 []),(11,AV.val ah a),(12,AV.val ah b)] [(10,aC.mk cK Mk.no c true)]
def Y0(a b:Int)(c:aD):St:=bq 98 [(10,AV.addr 10 []),(11,AV.val ah a),(14,AV.val ah b)] [(10,aC.mk cK Mk.no c true)]
def OS(a:Bool)(b:aD):St:=bq 98 [(2,AV.val Ty.bool a),(10,AV.addr 10 [])] [(10,aC.mk cK Mk.no b true)]
def Pp(a:aD):St:=bq 98 [(10,AV.addr 10 [])] [(10,aC.mk cK Mk.no a true)]
theorem ajE(D:DX)(n:Nat)(K:KT 4):∀(m:Nat)(d e f:Int)(g:aD),LF D n 4 EM m (qy5 d e f g) K=TC D n (fun a b c=>K (Ex.exit 2) (q9i a b c)) m d e f g:=zn (fun F=>q6s D n F (fun a b c=>K (Ex.exit 2) (q9i a b c)))
theorem afl(D:DX)(n:Nat)(m:Nat)(K:KT 4)(a b c:Int)(d:aD):LF D n 4 EM n (qy5 a b c d) (CF D n 4 [.r,.r,.r,.r,.r,.r,.r,.r,.l,.r,.l,.l] uw (KF D n 4 vN m K))=qy4 D n (fun x0 x1 x2=>LF D n 4 vN m (IF x0 x1 x2) K) (fun e f=>K (Ex.exit 0) (Tv e f)) a b c d :=by rw[ajE];kernel_rfl
theorem ac8(D:DX)(n:Nat)(m:Nat)(K:KT 4)(x0)(x1)(x2):LF D n 4 vN (m+1) (IF x0 x1 x2) K=Zs D n (fun x0 x1 x2=>LF D n 4 vN m (IF x0 x1 x2) K) (fun a b=>K (Ex.exit 0) (Tv a b)) (fun c d e f=>LF D n 4 EM n (qy5 c d e f) (CF D n 4 [.r,.r,.r,.r,.r,.r,.r,.r,.l,.r,.l,.l] uw (KF D n 4 vN m K))) x0 x1 x2:=by kernel_rfl
theorem P3(D:DX)(n:Nat)(K:KT 4):∀(m:Nat)(x0 x1:Int)(x2:aD),LF D n 4 vN m (IF x0 x1 x2) K=Dm D n (fun a b=>K (Ex.exit 0) (Tv a b)) m x0 x1 x2
 | 0,x0,x1,x2=>sH ..
 | m+1,x0,x1,x2=>by
  have ih:(fun x0 x1 x2=>LF D n 4 vN m (IF x0 x1 x2) K)=Dm D n (fun a b=>K (Ex.exit 0) (Tv a b)) m:=by funext x0 x1 x2;exact P3 D n K m x0 x1 x2
  rw[ac8];simp only[afl];rw[ih];rfl
theorem aaH(D:DX)(n:Nat)(K:KT 4):∀(m:Nat)(d e:Int)(f:aD),LF D n 4 LV m (Y0 d e f) K=TD D n (fun a b=>K (Ex.ret) (OS a b)) (fun c=>K (Ex.exit 4) (Pp c)) m d e f:=pH (fun F=>q6t D n F (fun a b=>K (Ex.ret) (OS a b)) (fun c=>K (Ex.exit 4) (Pp c)))
theorem agc(D:DX)(n:Nat)(a b:Int)(c:aD):LF D n 4 LV n (Y0 a b c) (CF D n 4 [] LV (lF 4))=V4 D n a b c :=by rw[aaH];kernel_rfl
theorem agd(D:DX)(n:Nat)(a:Int)(b:aD):(CF D n 4 [] vN (lF 4)) (Ex.exit 0) (Tv a b)=V3 D n (fun c d e=>LF D n 4 LV n (Y0 c d e) (CF D n 4 [] LV (lF 4))) a b:=by kernel_rfl
theorem afk(D:DX)(n:Nat)(x0)(x1)(x2):LF D n 4 vN n (IF x0 x1 x2) (CF D n 4 [] vN (lF 4))=qy3 D n x0 x1 x2:=by rw[P3];simp only[agd,agc];rfl
theorem ac9(D:DX)(n:Nat)(a0:List Int):rF D n 4 (a0,())=q6u D n a0:=by
 have h:rF D n 4 (a0,())=q74 D n (fun x0 x1 x2=>LF D n 4 vN n (IF x0 x1 x2) (CF D n 4 [] vN (lF 4))) a0:=by kernel_rfl
 rw[h];simp only[afk];rfl
def abf(D:DX)(n:Nat)(a0:List Int):Option ag:=some ((decide ((a0.length:Int)>1048576),()),())
def Qm(D:DX)(n:Nat)(a0:List Int):Option ag:=abf D n a0
theorem aa1(D:DX)(n:Nat)(a0:List Int):rF D n 12 (a0,())=Qm D n a0:=by kernel_rfl
def qpa(D:DX)(n:Nat)(go:Int->Int->Int->Int->aB->aB->List (List ak)->List Int->bt->Option gO)(K0:Int->Int->aB->aB->List (List ak)->List Int->bt->Option gO)(c d e f:Int)(g h:aB)(i:List (List ak))(a:List Int)(j:bt):Option gO:=qd (rP D j 6) fun b=>br (decide (f<wrap .i64 (1+b.1.1))) (br (decide (a.length+1<=ga)) (go c d e (wrap .i64 (f+1)) g h i (a++[e]) b.2.1) none) (K0 c d g h i a b.2.1)
def SY(D:DX)(n:Nat)(K0:Int->Int->aB->aB->List (List ak)->List Int->bt->Option gO):Nat->Int->Int->Int->Int->aB->aB->(List (List ak))->(List Int)->bt->Option gO | 0=>(fun a b c d e f g h i=>none) | m+1=>(fun a b c d e f g h i=>qpa D n (SY D n K0 m) K0 a b c d e f g h i)
def qm1(D:DX)(n:Nat)(go:Int->Int->aB->aB->List (List ak)->List Int->bt->Option gO)(K0:aB->aB->List (List ak)->List Int->Option gO)(a b:Int)(c d:aB)(e:List (List ak))(f:List Int)(g:bt):Option gO:=go a (wrap .i64 (b+1)) c d e f g
def qn4(D:DX)(n:Nat)(go:Int->Int->aB->aB->List (List ak)->List Int->bt->Option gO)(K0:aB->aB->List (List ak)->List Int->Option gO):(Int)->(Int)->(Int)->(Int)->aB->aB->(List (List ak))->(List Int)->bt->Option gO:=(fun a i j k l m o p q=>SY D n (fun b c d e f g h=>qm1 D n go K0 b c d e f g h) n a i j k l m o p q)
def qo9(D:DX)(n:Nat)(go:Int->Int->aB->aB->List (List ak)->List Int->bt->Option gO)(K0:aB->aB->List (List ak)->List Int->Option gO)(mJ:Int->Int->Int->Int->aB->aB->List (List ak)->List Int->bt->Option gO)(x0 x1:Int)(x2 x3:aB)(x4:List (List ak))(x5:List Int)(x6:bt):Option gO:=br (decide (x1<x0)) (qd (rP D x6 (x4.length:Int)) fun b=>mJ x0 x1 b.1.1 0 x2 x3 x4 x5 b.2.1) (K0 x2 x3 x4 x5)
def Dk(D:DX)(n:Nat)(K0:aB->aB->List (List ak)->List Int->Option gO):Nat->Int->Int->aB->aB->(List (List ak))->(List Int)->bt->Option gO | 0=>(fun x0 x1 x2 x3 x4 x5 x6=>none) | m+1=>(fun x0 x1 x2 x3 x4 x5 x6=>qo9 D n (Dk D n K0 m) K0 (qn4 D n (Dk D n K0 m) K0) x0 x1 x2 x3 x4 x5 x6)
def qvj(D:DX)(n:Nat)(d a:aB)(b:List (List ak))(c:List Int):Option gO:=some (((a.1,a.2),b,c,()),())
def qn3(D:DX)(n:Nat):(Int)->(Int)->aB->aB->(List (List ak))->(List Int)->bt->Option gO:=(fun x0 x1 x2 x3 x4 x5 x6=>Dk D n (fun a b c d=>qvj D n a b c d) n x0 x1 x2 x3 x4 x5 x6)
def qqy(D:DX)(n:Nat)(cw:Int->Int->aB->aB->List (List ak)->List Int->bt->Option gO)(a0:List Int):Option gO:=qd (q7z D a0) fun b=>qd (qrr D b.1.1) fun b=>qd (qvw D b.2.1) fun b_1=>qd (ZS D a0 60 120) fun b_2=>qd (rP D b_1.2.1 b_2.1.1) fun Up=>cw Up.1.1 0 ([],0,()) (b.1.1.1,b.1.1.2) b_1.1.1 [] Up.2.1
def qqh(D:DX)(n:Nat)(a0:List Int):Option gO:=qqy D n (qn3 D n) a0
def Iz(x0 x1:Int)(x2 x3:aB)(x4:List (List ak))(x5:List Int)(x6:bt):St:=bq 47 [(2,AV.addr 2 []),(5,AV.addr 14 []),(6,AV.addr 6 []),(7,AV.b9 7 [] 0),(8,AV.b9 8 [] 0),(9,AV.val ah x0),(10,AV.val ah x1)] [(2,aC.mk bS iA x2 true),(6,aC.mk bS iA x3 true),(7,aC.mk jS qF x4 false),(8,aC.mk bG fl x5 false),(14,aC.mk jo Mk.no x6 true)]
def Vt(a b:aB)(c:List (List ak))(d:List Int):St:=bq 47 [(2,AV.addr 2 []),(6,AV.addr 6 []),(7,AV.b9 7 [] 0),(8,AV.b9 8 [] 0)] [(2,aC.mk bS iA a true),(6,aC.mk bS iA b true),(7,aC.mk jS qF c false),(8,aC.mk bG fl d false)]
def qo8(a b c d:Int)(e f:aB)(g:List (List ak))(h:List Int)(i:bt):St:=bq 47 [(2,AV.addr 2 []),(5,AV.addr 14 []),(6,AV.addr 6 []),(7,AV.b9 7 [] 0),(8,AV.b9 8 [] 0),(9,AV.val ah a),(10,AV.val ah b),(11,AV.val ah c),(12,AV.val ah d)] [(2,aC.mk bS iA e true),(6,aC.mk bS iA f true),(7,aC.mk jS qF g false),(8,aC.mk bG fl h false),(14,aC.mk jo Mk.no i true)]
def qvi(a b:Int)(c d:aB)(e:List (List ak))(f:List Int)(g:bt):St:=bq 47 [(2,AV.addr 2 []),(5,AV.addr 14 []),(6,AV.addr 6 []),(7,AV.b9 7 [] 0),(8,AV.b9 8 [] 0),(9,AV.val ah a),(10,AV.val ah b)] [(2,aC.mk bS iA c true),(6,aC.mk bS iA d true),(7,aC.mk jS qF e false),(8,aC.mk bG fl f false),(14,aC.mk jo Mk.no g true)]
theorem adL(D:DX)(n:Nat)(K:KT 13):∀(m:Nat)(h i j k:Int)(l o:aB)(p:List (List ak))(q:List Int)(r:bt),LF D n 13 EN m (qo8 h i j k l o p q r) K=SY D n (fun a b c d e f g=>K (Ex.exit 2) (qvi a b c d e f g)) m h i j k l o p q r:=Uq (fun F=>qpa D n F (fun a b c d e f g=>K (Ex.exit 2) (qvi a b c d e f g)))
theorem adw(D:DX)(n:Nat)(m:Nat)(K:KT 13)(a b c d:Int)(e f:aB)(g:List (List ak))(h:List Int)(i:bt):LF D n 13 EN n (qo8 a b c d e f g h i) (CF D n 13 [.r,.r,.r,.r,.r,.r,.l,.r,.l,.l] [.r,.l,.l,.r,.r,.l] (KF D n 13 xI m K))=qn4 D n (fun x0 x1 x2 x3 x4 x5 x6=>LF D n 13 xI m (Iz x0 x1 x2 x3 x4 x5 x6) K) (fun j k o p=>K (Ex.exit 0) (Vt j k o p)) a b c d e f g h i :=by rw[adL];kernel_rfl
theorem adM(D:DX)(n:Nat)(m:Nat)(K:KT 13)(x0)(x1)(x2)(x3)(x4:List (List ak))(x5)(x6):LF D n 13 xI (m+1) (Iz x0 x1 x2 x3 x4 x5 x6) K=qo9 D n (fun x0 x1 x2 x3 x4 x5 x6=>LF D n 13 xI m (Iz x0 x1 x2 x3 x4 x5 x6) K) (fun a b c d=>K (Ex.exit 0) (Vt a b c d)) (fun e f g h i j k o p=>LF D n 13 EN n (qo8 e f g h i j k o p) (CF D n 13 [.r,.r,.r,.r,.r,.r,.l,.r,.l,.l] [.r,.l,.l,.r,.r,.l] (KF D n 13 xI m K))) x0 x1 x2 x3 x4 x5 x6:=by kernel_rfl
theorem qxe(D:DX)(n:Nat)(K:KT 13):∀(m:Nat)(x0 x1:Int)(x2 x3:aB)(x4:List (List ak))(x5:List Int)(x6:bt),LF D n 13 xI m (Iz x0 x1 x2 x3 x4 x5 x6) K=Dk D n (fun a b c d=>K (Ex.exit 0) (Vt a b c d)) m x0 x1 x2 x3 x4 x5 x6
 | 0,x0,x1,x2,x3,x4,x5,x6=>sH ..
 | m+1,x0,x1,x2,x3,x4,x5,x6=>by
  have ih:(fun x0 x1 x2 x3 x4 x5 x6=>LF D n 13 xI m (Iz x0 x1 x2 x3 x4 x5 x6) K)=Dk D n (fun a b c d=>K (Ex.exit 0) (Vt a b c d)) m:=by funext x0 x1 x2 x3 x4 x5 x6;exact qxe D n K m x0 x1 x2 x3 x4 x5 x6
  rw[adM];simp only[adw];rw[ih];rfl
theorem adv(D:DX)(n:Nat)(x0)(x1)(x2)(x3)(x4:List (List ak))(x5)(x6):LF D n 13 xI n (Iz x0 x1 x2 x3 x4 x5 x6) (CF D n 13 [] xI (lF 13))=qn3 D n x0 x1 x2 x3 x4 x5 x6 :=by rw[qxe];kernel_rfl
theorem aeb(D:DX)(n:Nat)(a0:List Int):rF D n 13 (a0,())=qqh D n a0:=by
 have h:rF D n 13 (a0,())=qqy D n (fun x0 x1 x2 x3 x4 x5 x6=>LF D n 13 xI n (Iz x0 x1 x2 x3 x4 x5 x6) (CF D n 13 [] xI (lF 13))) a0:=by kernel_rfl
 rw[h];simp only[adv];rfl
def qsc(D:DX)(n:Nat)(go:Bool->List (List ak)->Int->Int->aD->aD->Option mE)(K0:Bool->aD->aD->Option mE)(x0:Bool)(x1:List (List ak))(x2 x3:Int)(x4 x5:aD):Option mE:=br (decide (x3<x2)) (br (decide (0<=x3)&&decide (x3<(x1.length:Int))) (qd (q7u D (List.getD x1 x3.toNat [])) fun p0=>br (decide (x5.2.1.length+1<=ga)) (go x0 x1 x2 (wrap .i64 (x3+1)) x4 (x5.1,x5.2.1++[(p0.1.1.1,p0.1.1.2.1,p0.1.1.2.2.1,p0.1.1.2.2.2.1,p0.1.1.2.2.2.2.1,())],x5.2.2)) none) none) (K0 x0 x4 x5)
def Tb(D:DX)(n:Nat)(K0:Bool->aD->aD->Option mE):Nat->Bool->(List (List ak))->Int->Int->aD->aD->Option mE | 0=>(fun x0 x1 x2 x3 x4 x5=>none) | m+1=>(fun x0 x1 x2 x3 x4 x5=>qsc D n (Tb D n K0 m) K0 x0 x1 x2 x3 x4 x5)
def qyl(D:DX)(n:Nat)(b:Bool)(c a:aD):Option mE:=br (!b) (some (((([],[],()),[],0,[],[],([],0,()),()),false,()),())) (qd (zL D ((a.1.1,a.1.2.1,()),a.2.1,a.2.2.1,a.2.2.2.1,a.2.2.2.2.1,(a.2.2.2.2.2.1.1,a.2.2.2.2.2.1.2),())) fun p0=>br (!p0.1.1) (some (((([],[],()),[],0,[],[],([],0,()),()),false,()),())) (some ((((a.1.1,a.1.2.1,()),a.2.1,a.2.2.1,a.2.2.2.1,a.2.2.2.2.1,(a.2.2.2.2.2.1.1,a.2.2.2.2.2.1.2),()),true,()),())))
def qqp(D:DX)(n:Nat):(Bool)->(List (List ak))->(Int)->(Int)->aD->aD->Option mE:=(fun x0 x1 x2 x3 x4 x5=>Tb D n (fun a b c=>qyl D n a b c) n x0 x1 x2 x3 x4 x5)
def qui(D:DX)(n:Nat)(cw:Bool->List (List ak)->Int->Int->aD->aD->Option mE)(a0:aB)(a1:List (List ak)):Option mE:=qd (ZM D a0 (a1.length:Int)) fun b=>qd (JZ D a0) fun b_1=>cw b.1.2.1 a1 (a1.length:Int) 0 (([],[],()),[],0,[],[],([],0,()),()) ((b.1.1.1,b.1.1.2.1,()),[],0,[],[],(b_1.1.1.1,b_1.1.1.2),())
def qt4(D:DX)(n:Nat)(a0:aB)(a1:List (List ak)):Option mE:=qui D n (qqp D n) a0 a1
def qsb(x0:Bool)(x1:List (List ak))(x2 x3:Int)(x4 x5:aD):St:=bq 45 [(4,AV.addr 4 []),(7,AV.val Ty.bool x0),(8,AV.addr 8 []),(22,AV.val jS x1),(23,AV.val ah x2),(24,AV.val ah x3)] [(4,aC.mk cK tw x4 true),(8,aC.mk cK Jq x5 true)]
def qyk(a:Bool)(b c:aD):St:=bq 45 [(4,AV.addr 4 []),(7,AV.val Ty.bool a),(8,AV.addr 8 [])] [(4,aC.mk cK tw b true),(8,aC.mk cK Jq c true)]
theorem aeg(D:DX)(n:Nat)(K:KT 14):∀(m:Nat)(x0:Bool)(x1:List (List ak))(x2 x3:Int)(x4 x5:aD),LF D n 14 eM m (qsb x0 x1 x2 x3 x4 x5) K=Tb D n (fun a b c=>K (Ex.exit 0) (qyk a b c)) m x0 x1 x2 x3 x4 x5:=DY (fun F=>qsc D n F (fun a b c=>K (Ex.exit 0) (qyk a b c)))
theorem adV(D:DX)(n:Nat)(x0)(x1:List (List ak))(x2)(x3)(x4)(x5):LF D n 14 eM n (qsb x0 x1 x2 x3 x4 x5) (CF D n 14 [] eM (lF 14))=qqp D n x0 x1 x2 x3 x4 x5 :=by rw[aeg];kernel_rfl
theorem aeX(D:DX)(n:Nat)(a0:aB)(a1:List (List ak)):rF D n 14 (a0,(a1,()))=qt4 D n a0 a1:=by
 have h:rF D n 14 (a0,(a1,()))=qui D n (fun x0 x1 x2 x3 x4 x5=>LF D n 14 eM n (qsb x0 x1 x2 x3 x4 x5) (CF D n 14 [] eM (lF 14))) a0 a1:=by kernel_rfl
 rw[h];simp only[adV];rfl
def qsu(D:DX)(n:Nat)(go:List (List ak)->Bool->Int->aD->aD->Option mE)(K0:Bool->aD->aD->Option mE)(x0:List (List ak))(x1:Bool)(x2:Int)(x3 x4:aD):Option mE:=br (decide (x2<(x0.length:Int))) (br (decide (0<=x2)&&decide (x2<(x0.length:Int))) (qd (q7x D (List.getD x0 x2.toNat [])) fun p0=>br (decide (x4.2.1.length+1<=ga)) (go x0 x1 (wrap .i64 (x2+1)) x3 (x4.1,x4.2.1++[(p0.1.1.1,p0.1.1.2.1,p0.1.1.2.2.1,p0.1.1.2.2.2.1,p0.1.1.2.2.2.2.1,())],x4.2.2)) none) none) (K0 x1 x3 x4)
def Tc(D:DX)(n:Nat)(K0:Bool->aD->aD->Option mE):Nat->(List (List ak))->Bool->Int->aD->aD->Option mE | 0=>(fun x0 x1 x2 x3 x4=>none) | m+1=>(fun x0 x1 x2 x3 x4=>qsu D n (Tc D n K0 m) K0 x0 x1 x2 x3 x4)
def qzj(D:DX)(n:Nat)(b:Bool)(c a:aD):Option mE:=br (!b) (some (((([],[],()),[],0,[],[],([],0,()),()),false,()),())) (qd (qvv D ((a.1.1,a.1.2.1,()),a.2.1,a.2.2.1,a.2.2.2.1,a.2.2.2.2.1,(a.2.2.2.2.2.1.1,a.2.2.2.2.2.1.2),())) fun p0=>br (!p0.1.1) (some (((([],[],()),[],0,[],[],([],0,()),()),false,()),())) (some ((((a.1.1,a.1.2.1,()),a.2.1,a.2.2.1,a.2.2.2.1,a.2.2.2.2.1,(a.2.2.2.2.2.1.1,a.2.2.2.2.2.1.2),()),true,()),())))
def qqz(D:DX)(n:Nat):(List (List ak))->(Bool)->(Int)->aD->aD->Option mE:=(fun x0 x1 x2 x3 x4=>Tc D n (fun a b c=>qzj D n a b c) n x0 x1 x2 x3 x4)
def quu(D:DX)(n:Nat)(cw:List (List ak)->Bool->Int->aD->aD->Option mE)(a0:aB)(a1:List (List ak)):Option mE:=qd (ZR D a0 (a1.length:Int)) fun b=>qd (ZT D a0) fun b_1=>cw a1 b.1.2.1 0 (([],[],()),[],0,[],[],([],0,()),()) ((b.1.1.1,b.1.1.2.1,()),[],0,[],[],(b_1.1.1.1,b_1.1.1.2),())
def qua(D:DX)(n:Nat)(a0:aB)(a1:List (List ak)):Option mE:=quu D n (qqz D n) a0 a1
def qst(x0:List (List ak))(x1:Bool)(x2:Int)(x3 x4:aD):St:=bq 46 [(1,AV.val jS x0),(4,AV.addr 4 []),(7,AV.val Ty.bool x1),(8,AV.addr 8 []),(9,AV.val ah x2)] [(4,aC.mk cK tw x3 true),(8,aC.mk cK tw x4 true)]
def qzi(a:Bool)(b c:aD):St:=bq 46 [(4,AV.addr 4 []),(7,AV.val Ty.bool a),(8,AV.addr 8 [])] [(4,aC.mk cK tw b true),(8,aC.mk cK tw c true)]
theorem ad7(D:DX)(n:Nat)(K:KT 15):∀(m:Nat)(x0:List (List ak))(x1:Bool)(x2:Int)(x3 x4:aD),LF D n 15 eM m (qst x0 x1 x2 x3 x4) K=Tc D n (fun a b c=>K (Ex.exit 0) (qzi a b c)) m x0 x1 x2 x3 x4:=oP (fun F=>qsu D n F (fun a b c=>K (Ex.exit 0) (qzi a b c)))
theorem adO(D:DX)(n:Nat)(x0:List (List ak))(x1)(x2)(x3)(x4):LF D n 15 eM n (qst x0 x1 x2 x3 x4) (CF D n 15 [] eM (lF 15))=qqz D n x0 x1 x2 x3 x4 :=by rw[ad7];kernel_rfl
theorem ae6(D:DX)(n:Nat)(a0:aB)(a1:List (List ak)):rF D n 15 (a0,(a1,()))=qua D n a0 a1:=by
 have h:rF D n 15 (a0,(a1,()))=quu D n (fun x0 x1 x2 x3 x4=>LF D n 15 eM n (qst x0 x1 x2 x3 x4) (CF D n 15 [] eM (lF 15))) a0 a1:=by kernel_rfl
 rw[h];simp only[adO];rfl
def q82(D:DX)(n:Nat)(go:List Int->Int->Int->aD->aD->Option iN)(K0:aD->aD->Option iN)(x0:List Int)(x1 x2:Int)(x3 x4:aD):Option iN:=br (decide (x2<x1)) (br (decide (0<=x2)&&decide (x2<(x0.length:Int))) (qd (J8 D x3 (List.getD x0 x2.toNat 0)) fun b=>go x0 x1 (wrap .i64 (x2+1)) b.1.1 x4) none) (K0 x3 x4)
def TX(D:DX)(n:Nat)(K0:aD->aD->Option iN):Nat->(List Int)->Int->Int->aD->aD->Option iN | 0=>(fun x0 x1 x2 x3 x4=>none) | m+1=>(fun x0 x1 x2 x3 x4=>q82 D n (TX D n K0 m) K0 x0 x1 x2 x3 x4)
def aic(D:DX)(n:Nat)(a b:aD):Option iN:=some ((a,()),())
def q5k(D:DX)(n:Nat):(List Int)->(Int)->(Int)->aD->aD->Option iN:=(fun x0 x1 x2 x3 x4=>TX D n (fun a b=>aic D n a b) n x0 x1 x2 x3 x4)
def GF(D:DX)(n:Nat)(cw:List Int->Int->Int->aD->aD->Option iN)(a0:aD)(a1:List Int):Option iN:=qd (JW D a0) fun p0=>br (decide ((a1.length:Int)>2000)) (some ((((p0.1.1.1.1,p0.1.1.1.2.1,()),p0.1.1.2.1,p0.1.1.2.2.1,p0.1.1.2.2.2.1,p0.1.1.2.2.2.2.1,p0.1.1.2.2.2.2.2),()),())) (cw a1 (a1.length:Int) 0 ((p0.1.1.1.1,p0.1.1.1.2.1,()),p0.1.1.2.1,p0.1.1.2.2.1,p0.1.1.2.2.2.1,p0.1.1.2.2.2.2.1,p0.1.1.2.2.2.2.2) (([],[],()),[],0,[],[],([],0,()),()))
def Gz(D:DX)(n:Nat)(a0:aD)(a1:List Int):Option iN:=GF D n (q5k D n) a0 a1
def q81(x0:List Int)(x1 x2:Int)(x3 x4:aD):St:=bq 27 [(2,AV.addr 2 []),(4,AV.addr 4 []),(13,AV.val bG x0),(14,AV.val ah x1),(15,AV.val ah x2)] [(2,aC.mk cK Mk.no x3 true),(4,aC.mk cK tw x4 true)]
def OJ(a b:aD):St:=bq 27 [(2,AV.addr 2 []),(4,AV.addr 4 [])] [(2,aC.mk cK Mk.no a true),(4,aC.mk cK tw b true)]
theorem ai7(D:DX)(n:Nat)(K:KT 16):∀(m:Nat)(x0:List Int)(x1 x2:Int)(x3 x4:aD),LF D n 16 eM m (q81 x0 x1 x2 x3 x4) K=TX D n (fun a b=>K (Ex.exit 0) (OJ a b)) m x0 x1 x2 x3 x4:=oP (fun F=>q82 D n F (fun a b=>K (Ex.exit 0) (OJ a b)))
theorem aib(D:DX)(n:Nat)(x0)(x1)(x2)(x3)(x4):LF D n 16 eM n (q81 x0 x1 x2 x3 x4) (CF D n 16 [] eM (lF 16))=q5k D n x0 x1 x2 x3 x4 :=by rw[ai7];kernel_rfl
theorem aab(D:DX)(n:Nat)(a0:aD)(a1:List Int):rF D n 16 (a0,(a1,()))=Gz D n a0 a1:=by
 have h:rF D n 16 (a0,(a1,()))=GF D n (fun x0 x1 x2 x3 x4=>LF D n 16 eM n (q81 x0 x1 x2 x3 x4) (CF D n 16 [] eM (lF 16))) a0 a1:=by kernel_rfl
 rw[h];simp only[aib];rfl
def qun(D:DX)(n:Nat)(a0:aR):Option ag:=some ((decide (a0.2.1=(a0.1.length:Int)),()),())
def Vz(D:DX)(n:Nat)(a0:aR):Option ag:=qun D n a0
theorem aeZ(D:DX)(n:Nat)(a0:aR):rF D n 17 (a0,())=Vz D n a0:=by kernel_rfl
def Z7(D:DX)(n:Nat)(go:Int->Int->Int->Int->aD->aD->Option iN)(K0:aD->aD->Option iN)(x0 x1 x2 x3:Int)(x4 x5:aD):Option iN:=br (bif decide (x3<x1) then decide (x3<2000) else false) (br (decide (0<=x0)&&decide (x0<(x4.2.1.length:Int))) (br (decide ((List.getD x4.2.1 x0.toNat ([],0,false,[],[],())).2.1=x2)) (qd (J8 D x4 x0) fun p0=>br (!p0.1.2.1) (K0 x4 x5) (go x0 x1 x2 (wrap .i64 (x3+1)) p0.1.1 x5)) (K0 x4 x5)) none) (K0 x4 x5)
def TM(D:DX)(n:Nat)(K0:aD->aD->Option iN):Nat->Int->Int->Int->Int->aD->aD->Option iN | 0=>(fun x0 x1 x2 x3 x4 x5=>none) | m+1=>(fun x0 x1 x2 x3 x4 x5=>Z7 D n (TM D n K0 m) K0 x0 x1 x2 x3 x4 x5)
def agG(D:DX)(n:Nat)(a b:aD):Option iN:=some ((a,()),())
def YK(D:DX)(n:Nat):(Int)->(Int)->(Int)->(Int)->aD->aD->Option iN:=(fun x0 x1 x2 x3 x4 x5=>TM D n (fun a b=>agG D n a b) n x0 x1 x2 x3 x4 x5)
def q8t(D:DX)(n:Nat)(cw:Int->Int->Int->Int->aD->aD->Option iN)(a0:aD)(a1 a2:Int):Option iN:=qd (JW D a0) fun p0=>qd (kE D a1 0 (wrap .i64 ((p0.1.1.2.1.length:Int)-1))) fun p1=>br (!p1.1.1) (some ((((p0.1.1.1.1,p0.1.1.1.2.1,()),p0.1.1.2.1,p0.1.1.2.2.1,p0.1.1.2.2.2.1,p0.1.1.2.2.2.2.1,p0.1.1.2.2.2.2.2),()),())) (br (decide (0<=a1)&&decide (a1<(p0.1.1.2.1.length:Int))) (cw a1 a2 (List.getD p0.1.1.2.1 a1.toNat ([],0,false,[],[],())).2.1 0 ((p0.1.1.1.1,p0.1.1.1.2.1,()),p0.1.1.2.1,p0.1.1.2.2.1,p0.1.1.2.2.2.1,p0.1.1.2.2.2.2.1,p0.1.1.2.2.2.2.2) (([],[],()),[],0,[],[],([],0,()),())) none)
def q72(D:DX)(n:Nat)(a0:aD)(a1 a2:Int):Option iN:=q8t D n (YK D n) a0 a1 a2
def Z6(x0 x1 x2 x3:Int)(x4 x5:aD):St:=bq 56 [(1,AV.val ah x0),(2,AV.val ah x1),(3,AV.addr 3 []),(6,AV.addr 6 []),(7,AV.val ah x2),(8,AV.val ah x3)] [(3,aC.mk cK Mk.no x4 true),(6,aC.mk cK tw x5 true)]
def Oo(a b:aD):St:=bq 56 [(3,AV.addr 3 []),(6,AV.addr 6 [])] [(3,aC.mk cK Mk.no a true),(6,aC.mk cK tw b true)]
theorem ah_(D:DX)(n:Nat)(K:KT 18):∀(m:Nat)(x0 x1 x2 x3:Int)(x4 x5:aD),LF D n 18 ji m (Z6 x0 x1 x2 x3 x4 x5) K=TM D n (fun a b=>K (Ex.exit 0) (Oo a b)) m x0 x1 x2 x3 x4 x5:=DY (fun F=>Z7 D n F (fun a b=>K (Ex.exit 0) (Oo a b)))
theorem agF(D:DX)(n:Nat)(x0)(x1)(x2)(x3)(x4)(x5):LF D n 18 ji n (Z6 x0 x1 x2 x3 x4 x5) (CF D n 18 [] ji (lF 18))=YK D n x0 x1 x2 x3 x4 x5 :=by rw[ah_];kernel_rfl
theorem ai1(D:DX)(n:Nat)(a0:aD)(a1 a2:Int):rF D n 18 (a0,(a1,(a2,())))=q72 D n a0 a1 a2:=by
 have h:rF D n 18 (a0,(a1,(a2,())))=q8t D n (fun x0 x1 x2 x3 x4 x5=>LF D n 18 ji n (Z6 x0 x1 x2 x3 x4 x5) (CF D n 18 [] ji (lF 18))) a0 a1 a2:=by kernel_rfl
 rw[h];simp only[agF];rfl
def Oq(D:DX)(n:Nat)(a0:aD):Option ag:=qd (Yu D a0) fun b=>br b.1.1 (qd (qtu D a0) fun b=>br b.1.1 (qd (qtt D a0) fun b=>some ((b.1.1,()),())) (some ((false,()),()))) (some ((false,()),()))
def qxw(D:DX)(n:Nat)(a0:aD):Option ag:=Oq D n a0
theorem agv(D:DX)(n:Nat)(a0:aD):rF D n 20 (a0,())=qxw D n a0:=by kernel_rfl
def SQ(D:DX)(n:Nat)(a0:List Int)(a1:Int):Option aH:=br (decide (a1<(a0.length:Int))) (br (decide (0<=a1)&&decide (a1<(a0.length:Int))) (some ((wrap .i64 (List.getD a0 a1.toNat 0),()),())) none) (some ((Int.tmod (wrap .i64 (wrap .i64 (a1 * 7)+(a0.length:Int))) 256,()),()))
def Ir(D:DX)(n:Nat)(a0:List Int)(a1:Int):Option aH:=SQ D n a0 a1
theorem alN(D:DX)(n:Nat)(a0:List Int)(a1:Int):rF D n 21 (a0,(a1,()))=Ir D n a0 a1:=by kernel_rfl
def qyo(D:DX)(n:Nat)(go:List ak->List bE->Int->Int->List Int->Option dc)(K0:List Int->Option dc)(x0:List ak)(x1:List bE)(x2 x3:Int)(x4:List Int):Option dc:=br (decide (x3<x2)) (qd (Yx D x0 x1 x3) fun b=>br (decide (x4.length+1<=ga)) (go x0 x1 x2 (wrap .i64 (x3+1)) (x4++[b.1.1])) none) (K0 x4)
def Tk(D:DX)(n:Nat)(K0:List Int->Option dc):Nat->(List ak)->(List bE)->Int->Int->(List Int)->Option dc | 0=>(fun x0 x1 x2 x3 x4=>none) | m+1=>(fun x0 x1 x2 x3 x4=>qyo D n (Tk D n K0 m) K0 x0 x1 x2 x3 x4)
def aeN(D:DX)(n:Nat)(a:List Int):Option dc:=some ((a,()),())
def qwc(D:DX)(n:Nat):(List ak)->(List bE)->(Int)->(Int)->(List Int)->Option dc:=(fun x0 x1 x2 x3 x4=>Tk D n (fun a=>aeN D n a) n x0 x1 x2 x3 x4)
def YP(D:DX)(n:Nat)(cw:List ak->List bE->Int->Int->List Int->Option dc)(a0:List ak)(a1:List bE):Option dc:=cw a0 a1 (a0.length:Int) 0 []
def Yo(D:DX)(n:Nat)(a0:List ak)(a1:List bE):Option dc:=YP D n (qwc D n) a0 a1
def qyn(x0:List ak)(x1:List bE)(x2 x3:Int)(x4:List Int):St:=bq 22 [(0,AV.val bU x0),(1,AV.val CM x1),(5,AV.b9 5 [] 0),(9,AV.val ah x2),(10,AV.val ah x3)] [(5,aC.mk bG fl x4 false)]
def q6h(a:List Int):St:=bq 22 [(5,AV.b9 5 [] 0)] [(5,aC.mk bG fl a false)]
theorem af2(D:DX)(n:Nat)(K:KT 23):∀(m:Nat)(x0:List ak)(x1:List bE)(x2 x3:Int)(x4:List Int),LF D n 23 cz m (qyn x0 x1 x2 x3 x4) K=Tk D n (fun a=>K (Ex.exit 0) (q6h a)) m x0 x1 x2 x3 x4:=oP (fun F=>qyo D n F (fun a=>K (Ex.exit 0) (q6h a)))
theorem aeM(D:DX)(n:Nat)(x0)(x1)(x2)(x3)(x4):LF D n 23 cz n (qyn x0 x1 x2 x3 x4) (CF D n 23 [] cz (lF 23))=qwc D n x0 x1 x2 x3 x4 :=by rw[af2];kernel_rfl
theorem ahi(D:DX)(n:Nat)(a0:List ak)(a1:List bE):rF D n 23 (a0,(a1,()))=Yo D n a0 a1:=by
 have h:rF D n 23 (a0,(a1,()))=YP D n (fun x0 x1 x2 x3 x4=>LF D n 23 cz n (qyn x0 x1 x2 x3 x4) (CF D n 23 [] cz (lF 23))) a0 a1:=by kernel_rfl
 rw[h];simp only[aeM];rfl
def PC(D:DX)(n:Nat)(a0 a1:bz):Option ag:=some ((bif decide (a0.2.2.2.2.1>=0) then decide (a0.2.2.2.2.1<a1.2.2.1) else false,()),())
def q71(D:DX)(n:Nat)(a0 a1:bz):Option ag:=PC D n a0 a1
theorem ai0(D:DX)(n:Nat)(a0 a1:bz):rF D n 29 (a0,(a1,()))=q71 D n a0 a1:=by kernel_rfl
def qsa(D:DX)(n:Nat)(go:List bz->Int->Int->List bz->Int->Int->aD->bz->Option ag)(K0:Bool->List bz->Int->Int->aD->Option ag)(K1:List bz->Int->Int->aD->Option ag)(b:List bz)(c d:Int)(e:List bz)(h a:Int)(f:aD)(g:bz):Option ag:=let y0:=List.getD e a.toNat (0,(0,0,0,()),0,0,0,(0,[],()),());br (decide (a<h)) (br (decide (0<=a)&&decide (a<(e.length:Int))) (br (decide (y0.1=g.1)) (qd (Px D y0 g) fun p0=>br (!p0.1.1) (K0 false b c d f) (go b c d e h (wrap .i64 (a+1)) f g)) (go b c d e h (wrap .i64 (a+1)) f g)) none) (K1 b c d f)
def Ta(D:DX)(n:Nat)(K0:Bool->List bz->Int->Int->aD->Option ag)(K1:List bz->Int->Int->aD->Option ag):Nat->(List bz)->Int->Int->(List bz)->Int->Int->aD->bz->Option ag | 0=>(fun a b c d e f g h=>none) | m+1=>(fun a b c d e f g h=>qsa D n (Ta D n K0 K1 m) K0 K1 a b c d e f g h)
def adU(D:DX)(n:Nat)(go:List bz->Int->Int->aD->Option ag)(K0:Bool->Option ag)(K1:Option ag)(a:Bool)(b:List bz)(c d:Int)(e:aD):Option ag:=K0 a
def qyj(D:DX)(n:Nat)(go:List bz->Int->Int->aD->Option ag)(K0:Bool->Option ag)(K1:Option ag)(a:List bz)(b c:Int)(d:aD):Option ag:=go a b (wrap .i64 (c+1)) d
def qqo(D:DX)(n:Nat)(go:List bz->Int->Int->aD->Option ag)(K0:Bool->Option ag)(K1:Option ag):(List bz)->(Int)->(Int)->(List bz)->(Int)->(Int)->aD->bz->Option ag:=(fun a b l m o p q r=>Ta D n (fun c d e f g=>adU D n go K0 K1 c d e f g) (fun h i j k=>qyj D n go K0 K1 h i j k) n a b l m o p q r)
def qr9(D:DX)(n:Nat)(go:List bz->Int->Int->aD->Option ag)(K0:Bool->Option ag)(K1:Option ag)(mJ:List bz->Int->Int->List bz->Int->Int->aD->bz->Option ag)(x0:List bz)(x1 x2:Int)(x3:aD):Option ag:=let y0:=List.getD x0 x2.toNat (0,(0,0,0,()),0,0,0,(0,[],()),());let y1:=List.drop (Int.toNat 0) (List.take x2.toNat x3.2.2.2.1);br (decide (x2<x1)) (br (decide (0<=x2)&&decide (x2<(x0.length:Int))) (br (bif decide (y0.2.2.2.2.1>=0) then bif decide (y0.2.2.2.1<0) then true else decide (y0.2.2.2.1>y0.2.2.2.2.1) else false) (K0 false) (br (decide (0<=0)&&decide (0<=x2)&&decide (x2<=(x3.2.2.2.1.length:Int))) (mJ x0 x1 x2 y1 (y1.length:Int) 0 x3 y0) none)) none) K1
def IA(D:DX)(n:Nat)(K0:Bool->Option ag)(K1:Option ag):Nat->(List bz)->Int->Int->aD->Option ag | 0=>(fun x0 x1 x2 x3=>none) | m+1=>(fun x0 x1 x2 x3=>qr9 D n (IA D n K0 K1 m) K0 K1 (qqo D n (IA D n K0 K1 m) K0 K1) x0 x1 x2 x3)
def adS(D:DX)(n:Nat)(a:Bool):Option ag:=some ((a,()),())
def adT(D:DX)(n:Nat):Option ag:=some ((true,()),())
def qqn(D:DX)(n:Nat):(List bz)->(Int)->(Int)->aD->Option ag:=(fun x0 x1 x2 x3=>IA D n (fun a=>adS D n a) (adT D n) n x0 x1 x2 x3)
def quh(D:DX)(n:Nat)(cw:List bz->Int->Int->aD->Option ag)(a0:aD):Option ag:=qd (zL D a0) fun b=>br (!b.1.1) (some ((false,()),())) (cw a0.2.2.2.1 (a0.2.2.2.1.length:Int) 0 a0)
def qt2(D:DX)(n:Nat)(a0:aD):Option ag:=quh D n (qqn D n) a0
def IB(x0:List bz)(x1 x2:Int)(x3:aD):St:=bq 55 [(1,AV.addr 1 []),(11,AV.val zi x0),(12,AV.val ah x1),(13,AV.val ah x2)] [(1,aC.mk cK Mk.no x3 true)]
def Vu(a:Bool):St:=bq 55 [(2,AV.val Ty.bool a)] []
def Vv:St:=bq 55 [] []
def qr8(a:List bz)(b c:Int)(d:List bz)(e f:Int)(g:aD)(h:bz):St:=bq 55 [(1,AV.addr 1 []),(4,AV.addr 4 []),(11,AV.val zi a),(12,AV.val ah b),(13,AV.val ah c),(36,AV.val zi d),(37,AV.val ah e),(38,AV.val ah f)] [(1,aC.mk cK Mk.no g true),(4,aC.mk DO Mk.no h true)]
def qyh(a:Bool)(b:List bz)(c d:Int)(e:aD):St:=bq 55 [(1,AV.addr 1 []),(2,AV.val Ty.bool a),(11,AV.val zi b),(12,AV.val ah c),(13,AV.val ah d)] [(1,aC.mk cK Mk.no e true)]
def qyi(a:List bz)(b c:Int)(d:aD):St:=bq 55 [(1,AV.addr 1 []),(11,AV.val zi a),(12,AV.val ah b),(13,AV.val ah c)] [(1,aC.mk cK Mk.no d true)]
theorem aee(D:DX)(n:Nat)(K:KT 30):∀(m:Nat)(j:List bz)(k l:Int)(o:List bz)(p q:Int)(r:aD)(s:bz),LF D n 30 EO m (qr8 j k l o p q r s) K=Ta D n (fun a b c d e=>K (Ex.ret) (qyh a b c d e)) (fun f g h i=>K (Ex.exit 2) (qyi f g h i)) m j k l o p q r s:=eL8 (fun F=>qsa D n F (fun a b c d e=>K (Ex.ret) (qyh a b c d e)) (fun f g h i=>K (Ex.exit 2) (qyi f g h i)))
theorem adR(D:DX)(n:Nat)(m:Nat)(K:KT 30)(a:List bz)(b c:Int)(d:List bz)(e f:Int)(g:aD)(h:bz):LF D n 30 EO n (qr8 a b c d e f g h) (CF D n 30 AE [.r,.r,.l,.l,.r,.r,.r,.l] (KF D n 30 cz m K))=qqo D n (fun x0 x1 x2 x3=>LF D n 30 cz m (IB x0 x1 x2 x3) K) (fun i=>K (Ex.ret) (Vu i)) (K (Ex.exit 0) (Vv)) a b c d e f g h :=by rw[aee];kernel_rfl
theorem aef(D:DX)(n:Nat)(m:Nat)(K:KT 30)(x0)(x1)(x2)(x3):LF D n 30 cz (m+1) (IB x0 x1 x2 x3) K=qr9 D n (fun x0 x1 x2 x3=>LF D n 30 cz m (IB x0 x1 x2 x3) K) (fun a=>K (Ex.ret) (Vu a)) (K (Ex.exit 0) (Vv)) (fun b c d e f g h i=>LF D n 30 EO n (qr8 b c d e f g h i) (CF D n 30 AE [.r,.r,.l,.l,.r,.r,.r,.l] (KF D n 30 cz m K))) x0 x1 x2 x3:=by kernel_rfl
theorem qz6(D:DX)(n:Nat)(K:KT 30):∀(m:Nat)(x0:List bz)(x1 x2:Int)(x3:aD),LF D n 30 cz m (IB x0 x1 x2 x3) K=IA D n (fun a=>K (Ex.ret) (Vu a)) (K (Ex.exit 0) (Vv)) m x0 x1 x2 x3
 | 0,x0,x1,x2,x3=>sH ..
 | m+1,x0,x1,x2,x3=>by
  have ih:(fun x0 x1 x2 x3=>LF D n 30 cz m (IB x0 x1 x2 x3) K)=IA D n (fun a=>K (Ex.ret) (Vu a)) (K (Ex.exit 0) (Vv)) m:=by funext x0 x1 x2 x3;exact qz6 D n K m x0 x1 x2 x3
  rw[aef];simp only[adR];rw[ih];rfl
theorem adQ(D:DX)(n:Nat)(x0)(x1)(x2)(x3):LF D n 30 cz n (IB x0 x1 x2 x3) (CF D n 30 [] cz (lF 30))=qqn D n x0 x1 x2 x3 :=by rw[qz6];kernel_rfl
theorem aeV(D:DX)(n:Nat)(a0:aD):rF D n 30 (a0,())=qt2 D n a0:=by
 have h:rF D n 30 (a0,())=quh D n (fun x0 x1 x2 x3=>LF D n 30 cz n (IB x0 x1 x2 x3) (CF D n 30 [] cz (lF 30))) a0:=by kernel_rfl
 rw[h];simp only[adQ];rfl
def Pq(D:DX)(n:Nat)(a0:aB)(a1:Int):Option aH:=qd (Vr D a0.1 a1) fun b=>some ((b.1.1,()),())
def q75(D:DX)(n:Nat)(a0:aB)(a1:Int):Option aH:=Pq D n a0 a1
theorem ai3(D:DX)(n:Nat)(a0:aB)(a1:Int):rF D n 34 (a0,(a1,()))=q75 D n a0 a1:=by kernel_rfl
def Pw(D:DX)(n:Nat)(a0:Int):Option aH:=qd (zM D a0) fun b=>qd (tD D) fun b_1=>qd (J4 D b.1.1 (wrap .i64 (b_1.1.1+a0))) fun b=>some ((b.1.1,()),())
def q8a(D:DX)(n:Nat)(a0:Int):Option aH:=Pw D n a0
theorem ajo(D:DX)(n:Nat)(a0:Int):rF D n 35 (a0,())=q8a D n a0:=by kernel_rfl
def qyg(D:DX)(n:Nat)(go:Int->Int->List Int->Int->Int->Option aH)(K0:Int->Option aH)(x0 x1:Int)(x2:List Int)(x3 x4:Int):Option aH:=let y0:=wrap .i64 (x4+1);br (decide (x4<x3)) (br (decide (0<=x4)&&decide (x4<(x2.length:Int))) (qd (zM D (List.getD x2 x4.toNat 0)) fun p0=>br p0.1.1 (qd (tC D (List.getD x2 x4.toNat 0)) fun p1=>br (decide (p1.1.1=x0)) (go x0 (wrap .i64 (x1+1)) x2 x3 y0) (go x0 x1 x2 x3 y0)) (go x0 x1 x2 x3 y0)) none) (K0 x1)
def Tj(D:DX)(n:Nat)(K0:Int->Option aH):Nat->Int->Int->(List Int)->Int->Int->Option aH | 0=>(fun x0 x1 x2 x3 x4=>none) | m+1=>(fun x0 x1 x2 x3 x4=>qyg D n (Tj D n K0 m) K0 x0 x1 x2 x3 x4)
def q6e(D:DX)(n:Nat)(a:Int):Option aH:=some ((a,()),())
def qwa(D:DX)(n:Nat):(Int)->(Int)->(List Int)->(Int)->(Int)->Option aH:=(fun x0 x1 x2 x3 x4=>Tj D n (fun a=>q6e D n a) n x0 x1 x2 x3 x4)
def YO(D:DX)(n:Nat)(cw:Int->Int->List Int->Int->Int->Option aH)(a0:aB)(a1:Int):Option aH:=cw a1 0 a0.1 (a0.1.length:Int) 0
def Ym(D:DX)(n:Nat)(a0:aB)(a1:Int):Option aH:=YO D n (qwa D n) a0 a1
def qyf(x0 x1:Int)(x2:List Int)(x3 x4:Int):St:=bq 27 [(1,AV.val ah x0),(5,AV.val ah x1),(9,AV.val bG x2),(10,AV.val ah x3),(11,AV.val ah x4)] []
def q6d(a:Int):St:=bq 27 [(5,AV.val ah a)] []
theorem af1(D:DX)(n:Nat)(K:KT 37):∀(m:Nat)(x0 x1:Int)(x2:List Int)(x3 x4:Int),LF D n 37 cz m (qyf x0 x1 x2 x3 x4) K=Tj D n (fun a=>K (Ex.exit 0) (q6d a)) m x0 x1 x2 x3 x4:=oP (fun F=>qyg D n F (fun a=>K (Ex.exit 0) (q6d a)))
theorem aeL(D:DX)(n:Nat)(x0)(x1)(x2)(x3)(x4):LF D n 37 cz n (qyf x0 x1 x2 x3 x4) (CF D n 37 [] cz (lF 37))=qwa D n x0 x1 x2 x3 x4 :=by rw[af1];kernel_rfl
theorem ahg(D:DX)(n:Nat)(a0:aB)(a1:Int):rF D n 37 (a0,(a1,()))=Ym D n a0 a1:=by
 have h:rF D n 37 (a0,(a1,()))=YO D n (fun x0 x1 x2 x3 x4=>LF D n 37 cz n (qyf x0 x1 x2 x3 x4) (CF D n 37 [] cz (lF 37))) a0 a1:=by kernel_rfl
 rw[h];simp only[aeL];rfl
def PB(D:DX)(n:Nat)(a0:aB)(a1:ak)(a2:eO):Option lB:=qd (JZ D a0) fun p0=>let y0:Option lB:=br (decide (a1.1=3)) (br (decide (0<=a1.2.1)&&decide (a1.2.1<(p0.1.1.1.length:Int))) (some (((List.set p0.1.1.1 a1.2.1.toNat 0,p0.1.1.2),()),())) none) (br (decide (a1.1=8)) (br (decide (a1.1=8)) (some (((p0.1.1.1,wrap .i64 (p0.1.1.2.1+1),p0.1.1.2.2),()),())) (some (((p0.1.1.1,p0.1.1.2),()),()))) (br (decide (a1.1=9)) (some (((p0.1.1.1,wrap .i64 (p0.1.1.2.1+1),p0.1.1.2.2),()),())) (some (((p0.1.1.1,p0.1.1.2),()),()))));let y1:Option lB:=br (decide (0<=a1.2.1)&&decide (a1.2.1<(p0.1.1.1.length:Int))) (some (((List.set p0.1.1.1 a1.2.1.toNat a1.2.2.1,p0.1.1.2),()),())) none;qd (VQ D a0 a1 a2) fun p1=>br (bif !p1.1.1 then true else a2.1 != 0) (some (((p0.1.1.1,p0.1.1.2),()),())) (br (decide (a1.1=1)) (br (decide (a1.1=1)) y1 y0) (br (decide (a1.1=2)) y1 y0))
def q70(D:DX)(n:Nat)(a0:aB)(a1:ak)(a2:eO):Option lB:=PB D n a0 a1 a2
theorem aiZ(D:DX)(n:Nat)(a0:aB)(a1:ak)(a2:eO):rF D n 38 (a0,(a1,(a2,())))=q70 D n a0 a1 a2:=by kernel_rfl
def Zk(D:DX)(n:Nat)(go:Bool->List Int->Int->Int->aD->aB->aB->Option nC)(K0:Bool->aB->aB->Option nC)(x0:Bool)(x1:List Int)(x2 x3:Int)(x4:aD)(x5 x6:aB):Option nC:=let y0:=List.getD x4.2.2.2.1 (Int.toNat (List.getD x1 x3.toNat 0)) (0,(0,0,0,()),0,0,0,(0,[],()),());br (decide (x3<x2)) (br (decide (0<=x3)&&decide (x3<(x1.length:Int))) (br (decide (0<=List.getD x1 x3.toNat 0)&&decide (List.getD x1 x3.toNat 0<(x4.2.2.2.1.length:Int))) (br x0 (qd (VQ D (x6.1,x6.2) y0.2.1 y0.2.2.2.2.2.1) fun p2=>qd (V7 D (x6.1,x6.2) y0.2.1 y0.2.2.2.2.2.1) fun p0=>go p2.1.1 x1 x2 (wrap .i64 (x3+1)) x4 x5 (p0.1.1.1,p0.1.1.2)) (qd (V7 D (x6.1,x6.2) y0.2.1 y0.2.2.2.2.2.1) fun p1=>go false x1 x2 (wrap .i64 (x3+1)) x4 x5 (p1.1.1.1,p1.1.1.2))) none) none) (K0 x0 x5 x6)
def TH(D:DX)(n:Nat)(K0:Bool->aB->aB->Option nC):Nat->Bool->(List Int)->Int->Int->aD->aB->aB->Option nC | 0=>(fun x0 x1 x2 x3 x4 x5 x6=>none) | m+1=>(fun x0 x1 x2 x3 x4 x5 x6=>Zk D n (TH D n K0 m) K0 x0 x1 x2 x3 x4 x5 x6)
def af6(D:DX)(n:Nat)(b:Bool)(c a:aB):Option nC:=some (((a.1,a.2),b,()),())
def qyr(D:DX)(n:Nat):(Bool)->(List Int)->(Int)->(Int)->aD->aB->aB->Option nC:=(fun x0 x1 x2 x3 x4 x5 x6=>TH D n (fun a b c=>af6 D n a b c) n x0 x1 x2 x3 x4 x5 x6)
def q5m(D:DX)(n:Nat)(cw:Bool->List Int->Int->Int->aD->aB->aB->Option nC)(a0:aD):Option nC:=qd (zL D a0) fun b=>br (!b.1.1) (some ((([],0,()),false,()),())) (qd (JZ D a0.2.2.2.2.2.1) fun b=>cw true a0.2.2.2.2.1 (a0.2.2.2.2.1.length:Int) 0 a0 ([],0,()) (b.1.1.1,b.1.1.2))
def ZZ(D:DX)(n:Nat)(a0:aD):Option nC:=q5m D n (qyr D n) a0
def Zj(x0:Bool)(x1:List Int)(x2 x3:Int)(x4:aD)(x5 x6:aB):St:=bq 46 [(1,AV.addr 1 []),(2,AV.addr 2 []),(4,AV.addr 4 []),(5,AV.val Ty.bool x0),(17,AV.val bG x1),(18,AV.val ah x2),(19,AV.val ah x3)] [(1,aC.mk cK Mk.no x4 true),(2,aC.mk bS iA x5 true),(4,aC.mk bS iA x6 true)]
def q85(a:Bool)(b c:aB):St:=bq 46 [(2,AV.addr 2 []),(4,AV.addr 4 []),(5,AV.val Ty.bool a)] [(2,aC.mk bS iA b true),(4,aC.mk bS iA c true)]
theorem agL(D:DX)(n:Nat)(K:KT 39):∀(m:Nat)(x0:Bool)(x1:List Int)(x2 x3:Int)(x4:aD)(x5 x6:aB),LF D n 39 ji m (Zj x0 x1 x2 x3 x4 x5 x6) K=TH D n (fun a b c=>K (Ex.exit 0) (q85 a b c)) m x0 x1 x2 x3 x4 x5 x6:=eL7 (fun F=>Zk D n F (fun a b c=>K (Ex.exit 0) (q85 a b c)))
theorem af5(D:DX)(n:Nat)(x0)(x1)(x2)(x3)(x4)(x5)(x6):LF D n 39 ji n (Zj x0 x1 x2 x3 x4 x5 x6) (CF D n 39 [] ji (lF 39))=qyr D n x0 x1 x2 x3 x4 x5 x6 :=by rw[agL];kernel_rfl
theorem aiz(D:DX)(n:Nat)(a0:aD):rF D n 39 (a0,())=ZZ D n a0:=by
 have h:rF D n 39 (a0,())=q5m D n (fun x0 x1 x2 x3 x4 x5 x6=>LF D n 39 ji n (Zj x0 x1 x2 x3 x4 x5 x6) (CF D n 39 [] ji (lF 39))) a0:=by kernel_rfl
 rw[h];simp only[af5];rfl
def qul(D:DX)(n:Nat)(go:Int->List bz->Int->Int->aD->Option ag)(K0:Bool->Int->aD->Option ag)(K1:Int->aD->Option ag)(x0:Int)(x1:List bz)(x2 x3:Int)(x4:aD):Option ag:=let y0:=List.getD x1 x3.toNat (0,(0,0,0,()),0,0,0,(0,[],()),());br (decide (x3<x2)) (br (decide (0<=x3)&&decide (x3<(x1.length:Int))) (qd (kE D y0.1 0 (wrap .i64 (x0-1))) fun p0=>br (!p0.1.1) (K0 false x0 x4) (qd (Ds D y0.2.1) fun p1=>br (!p1.1.1) (K0 false x0 x4) (qd (kE D y0.2.2.1 0 x4.2.2.1) fun p2=>br (!p2.1.1) (K0 false x0 x4) (qd (Vw D y0 y0.2.2.2.1 x4) fun p3=>br (!p3.1.1) (K0 false x0 x4) (qd (Vw D y0 y0.2.2.2.2.1 x4) fun p4=>br (!p4.1.1) (K0 false x0 x4) (go x0 x1 x2 (wrap .i64 (x3+1)) x4)))))) none) (K1 x0 x4)
def S9(D:DX)(n:Nat)(K0:Bool->Int->aD->Option ag)(K1:Int->aD->Option ag):Nat->Int->(List bz)->Int->Int->aD->Option ag | 0=>(fun x0 x1 x2 x3 x4=>none) | m+1=>(fun x0 x1 x2 x3 x4=>qul D n (S9 D n K0 K1 m) K0 K1 x0 x1 x2 x3 x4)
def qz9(D:DX)(n:Nat)(a:Bool)(b:Int)(c:aD):Option ag:=some ((a,()),())
def qum(D:DX)(n:Nat)(go:Int->List aR->Int->Int->aD->Option ag)(K0:Bool->aD->Option ag)(K1:aD->Option ag)(d:Int)(c:List aR)(e a:Int)(b:aD):Option ag:=br (decide (a<e)) (br (decide (0<=a)&&decide (a<(c.length:Int))) (qd (qxn D (List.getD c a.toNat ([],0,false,[],[],())) d) fun p0=>br (!p0.1.1) (K0 false b) (qd (Yy D b a) fun p1=>br (!p1.1.1) (K0 false b) (go d c e (wrap .i64 (a+1)) b))) none) (K1 b)
def Tf(D:DX)(n:Nat)(K0:Bool->aD->Option ag)(K1:aD->Option ag):Nat->Int->(List aR)->Int->Int->aD->Option ag | 0=>(fun a b c d e=>none) | m+1=>(fun a b c d e=>qum D n (Tf D n K0 K1 m) K0 K1 a b c d e)
def ad4(D:DX)(n:Nat)(a:Bool)(b:aD):Option ag:=some ((a,()),())
def q0a(D:DX)(n:Nat)(a:aD):Option ag:=qd (Yz D a) fun b=>some ((b.1.1,()),())
def qse(D:DX)(n:Nat):(Int)->(List aR)->(Int)->(Int)->aD->Option ag:=(fun a b f g h=>Tf D n (fun c d=>ad4 D n c d) (fun e=>q0a D n e) n a b f g h)
def qqs(D:DX)(n:Nat)(mJ:Int->List aR->Int->Int->aD->Option ag)(b:Int)(a:aD):Option ag:=mJ b a.2.1 (a.2.1.length:Int) 0 a
def qsd(D:DX)(n:Nat):(Int)->(List bz)->(Int)->(Int)->aD->Option ag:=(fun x0 x1 x2 x3 x4=>S9 D n (fun a b c=>qz9 D n a b c) (fun d e=>qqs D n (qse D n) d e) n x0 x1 x2 x3 x4)
def qwb(D:DX)(n:Nat)(cw:Int->List bz->Int->Int->aD->Option ag)(a0:aD):Option ag:=qd (IK D a0.1) fun p0=>br (bif !p0.1.1 then true else (a0.1.2.1.length:Int) != (a0.2.1.length:Int)) (some ((false,()),())) (qd (kE D a0.2.2.1 0 100000) fun p1=>br (bif !p1.1.1 then true else decide ((a0.2.2.2.1.length:Int)>40)) (some ((false,()),())) (qd (TK D a0.2.2.2.2.2.1) fun p2=>br (!p2.1.1) (some ((false,()),())) (cw (a0.2.1.length:Int) a0.2.2.2.1 (a0.2.2.2.1.length:Int) 0 a0)))
def qvx(D:DX)(n:Nat)(a0:aD):Option ag:=qwb D n (qsd D n) a0
def quj(x0:Int)(x1:List bz)(x2 x3:Int)(x4:aD):St:=bq 108 [(1,AV.addr 1 []),(3,AV.val ah x0),(4,AV.gH 79 (AV.pair (AV.addr 1 []) AV.unit)),(44,AV.val zi x1),(45,AV.val ah x2),(46,AV.val ah x3)] [(1,aC.mk cK Mk.no x4 true)]
def qqq(a:Bool)(b:Int)(c:aD):St:=bq 108 [(1,AV.addr 1 []),(2,AV.val Ty.bool a),(3,AV.val ah b)] [(1,aC.mk cK Mk.no c true)]
def qqr(a:Int)(b:aD):St:=bq 108 [(1,AV.addr 1 []),(3,AV.val ah a)] [(1,aC.mk cK Mk.no b true)]
def quk(a:Int)(b:List aR)(c d:Int)(e:aD):St:=bq 108 [(1,AV.addr 1 []),(3,AV.val ah a),(88,AV.val Wk b),(89,AV.val ah c),(90,AV.val ah d)] [(1,aC.mk cK Mk.no e true)]
def qz7(a:Bool)(b:aD):St:=bq 108 [(1,AV.addr 1 []),(2,AV.val Ty.bool a)] [(1,aC.mk cK Mk.no b true)]
def qz8(a:aD):St:=bq 108 [(1,AV.addr 1 [])] [(1,aC.mk cK Mk.no a true)]
theorem aeh(D:DX)(n:Nat)(K:KT 40):∀(m:Nat)(x0:Int)(x1:List bz)(x2 x3:Int)(x4:aD),LF D n 40 ji m (quj x0 x1 x2 x3 x4) K=S9 D n (fun a b c=>K (Ex.ret) (qqq a b c)) (fun d e=>K (Ex.exit 0) (qqr d e)) m x0 x1 x2 x3 x4:=oP (fun F=>qul D n F (fun a b c=>K (Ex.ret) (qqq a b c)) (fun d e=>K (Ex.exit 0) (qqr d e)))
theorem aei(D:DX)(n:Nat)(K:KT 40):∀(m:Nat)(d:Int)(e:List aR)(f g:Int)(h:aD),LF D n 40 zF m (quk d e f g h) K=Tf D n (fun a b=>K (Ex.ret) (qz7 a b)) (fun c=>K (Ex.exit 2) (qz8 c)) m d e f g h:=oP (fun F=>qum D n F (fun a b=>K (Ex.ret) (qz7 a b)) (fun c=>K (Ex.exit 2) (qz8 c)))
theorem adZ(D:DX)(n:Nat)(a:Int)(b:List aR)(c d:Int)(e:aD):LF D n 40 zF n (quk a b c d e) (CF D n 40 [] zF (lF 40))=qse D n a b c d e :=by rw[aei];kernel_rfl
theorem ad0(D:DX)(n:Nat)(a:Bool)(b:Int)(c:aD):(CF D n 40 [] ji (lF 40)) (Ex.ret) (qqq a b c)=qz9 D n a b c:=by kernel_rfl
theorem ad3(D:DX)(n:Nat)(a:Int)(b:aD):(CF D n 40 [] ji (lF 40)) (Ex.exit 0) (qqr a b)=qqs D n (fun c d e f g=>LF D n 40 zF n (quk c d e f g) (CF D n 40 [] zF (lF 40))) a b:=by kernel_rfl
theorem adY(D:DX)(n:Nat)(x0)(x1)(x2)(x3)(x4):LF D n 40 ji n (quj x0 x1 x2 x3 x4) (CF D n 40 [] ji (lF 40))=qsd D n x0 x1 x2 x3 x4:=by rw[aeh];simp only[ad0,ad3,adZ];rfl
theorem afK(D:DX)(n:Nat)(a0:aD):rF D n 40 (a0,())=qvx D n a0:=by
 have h:rF D n 40 (a0,())=qwb D n (fun x0 x1 x2 x3 x4=>LF D n 40 ji n (quj x0 x1 x2 x3 x4) (CF D n 40 [] ji (lF 40))) a0:=by kernel_rfl
 rw[h];simp only[adY];rfl
def OG(D:DX)(n:Nat)(a0:aD):Option ag:=qd (VY D a0) fun b=>some ((b.1.2.1,()),())
def Yn(D:DX)(n:Nat)(a0:aD):Option ag:=OG D n a0
theorem ahh(D:DX)(n:Nat)(a0:aD):rF D n 42 (a0,())=Yn D n a0:=by kernel_rfl
def Z4(D:DX)(n:Nat)(go:List Int->Int->Int->Option nD)(K0:List Int->Int->Option nD)(x0:List Int)(x1 x2:Int):Option nD:=br (bif decide (x2<(x0.length:Int)) then decide (x2<4000) else false) (br (decide (0<=x2)&&decide (x2<(x0.length:Int))) (go x0 (wrap .i64 (↑(BitVec.toNat (BitVec.and (BitVec.ofInt (IntKind.bits IntKind.i64) (wrap .i64 (wrap .i64 (wrap .i64 (x1 * 131)+wrap .i64 (List.getD x0 x2.toNat 0))+7))) (BitVec.ofInt (IntKind.bits IntKind.i64) 1073741823))):Int)) (wrap .i64 (x2+1))) none) (K0 x0 x1)
def TJ(D:DX)(n:Nat)(K0:List Int->Int->Option nD):Nat->(List Int)->Int->Int->Option nD | 0=>(fun x0 x1 x2=>none) | m+1=>(fun x0 x1 x2=>Z4 D n (TJ D n K0 m) K0 x0 x1 x2)
def OE(D:DX)(n:Nat)(a:List Int)(b:Int):Option nD:=some (((a,0,b,()),()),())
def Zv(D:DX)(n:Nat):(List Int)->(Int)->(Int)->Option nD:=(fun x0 x1 x2=>TJ D n (fun a b=>OE D n a b) n x0 x1 x2)
def q92(D:DX)(n:Nat)(cw:List Int->Int->Int->Option nD)(a0:List Int):Option nD:=cw a0 (wrap .i64 (27323+(a0.length:Int))) 0
def q8i(D:DX)(n:Nat)(a0:List Int):Option nD:=q92 D n (Zv D n) a0
def Z3(x0:List Int)(x1 x2:Int):St:=bq 32 [(0,AV.val og x0),(3,AV.val ah x1),(4,AV.val ah x2)] []
def OD(a:List Int)(b:Int):St:=bq 32 [(0,AV.val og a),(3,AV.val ah b)] []
theorem aii(D:DX)(n:Nat)(K:KT 44):∀(m:Nat)(x0:List Int)(x1 x2:Int),LF D n 44 cz m (Z3 x0 x1 x2) K=TJ D n (fun a b=>K (Ex.exit 0) (OD a b)) m x0 x1 x2:=pH (fun F=>Z4 D n F (fun a b=>K (Ex.exit 0) (OD a b)))
theorem agY(D:DX)(n:Nat)(x0)(x1)(x2):LF D n 44 cz n (Z3 x0 x1 x2) (CF D n 44 [] cz (lF 44))=Zv D n x0 x1 x2 :=by rw[aii];kernel_rfl
theorem ajx(D:DX)(n:Nat)(a0:List Int):rF D n 44 (a0,())=q8i D n a0:=by
 have h:rF D n 44 (a0,())=q92 D n (fun x0 x1 x2=>LF D n 44 cz n (Z3 x0 x1 x2) (CF D n 44 [] cz (lF 44))) a0:=by kernel_rfl
 rw[h];simp only[agY];rfl
def qq1(D:DX)(n:Nat)(go:Int->bt->aB->aB->Option nB)(K0:bt->aB->aB->Option nB)(x0:Int)(x1:bt)(x2 x3:aB):Option nB:=br (decide (x0<4)) (qd (rP D x1 7) fun p0=>qd (Wa D (x3.1,x3.2) p0.1.1) fun p1=>br (decide (p1.1.1<0)) (br (decide (0<=x0)&&decide (x0<(x3.1.length:Int))) (go (wrap .i64 (x0+1)) p0.2.1 x2 (List.set x3.1 x0.toNat p0.1.1,x3.2)) none) (go (wrap .i64 (x0+1)) p0.2.1 x2 x3)) (K0 x1 x2 x3)
def S7(D:DX)(n:Nat)(K0:bt->aB->aB->Option nB):Nat->Int->bt->aB->aB->Option nB | 0=>(fun x0 x1 x2 x3=>none) | m+1=>(fun x0 x1 x2 x3=>qq1 D n (S7 D n K0 m) K0 x0 x1 x2 x3)
def qn7(D:DX)(n:Nat)(c:bt)(d a:aB):Option nB:=qd (VF D c [0,0,1,3,5]) fun b=>some (((a.1,b.1.1,a.2.2),()),b.2.1,())
def qpe(D:DX)(n:Nat):(Int)->bt->aB->aB->Option nB:=(fun x0 x1 x2 x3=>S7 D n (fun a b c=>qn7 D n a b c) n x0 x1 x2 x3)
def qs2(D:DX)(n:Nat)(cw:Int->bt->aB->aB->Option nB)(a0:bt):Option nB:=qd (YE D) fun b=>cw 0 a0 ([],0,()) (b.1.1.1,b.1.1.2)
def qrx(D:DX)(n:Nat)(a0:bt):Option nB:=qs2 D n (qpe D n) a0
def qq0(x0:Int)(x1:bt)(x2 x3:aB):St:=bq 27 [(0,AV.addr 0 []),(2,AV.addr 2 []),(3,AV.addr 3 []),(4,AV.val ah x0)] [(0,aC.mk jo Mk.no x1 true),(2,aC.mk bS iA x2 true),(3,aC.mk bS iA x3 true)]
def qxf(a:bt)(b c:aB):St:=bq 27 [(0,AV.addr 0 []),(2,AV.addr 2 []),(3,AV.addr 3 [])] [(0,aC.mk jo Mk.no a true),(2,aC.mk bS iA b true),(3,aC.mk bS iA c true)]
theorem adP(D:DX)(n:Nat)(K:KT 45):∀(m:Nat)(x0:Int)(x1:bt)(x2 x3:aB),LF D n 45 cz m (qq0 x0 x1 x2 x3) K=S7 D n (fun a b c=>K (Ex.exit 0) (qxf a b c)) m x0 x1 x2 x3:=zn (fun F=>qq1 D n F (fun a b c=>K (Ex.exit 0) (qxf a b c)))
theorem adN(D:DX)(n:Nat)(x0)(x1)(x2)(x3):LF D n 45 cz n (qq0 x0 x1 x2 x3) (CF D n 45 [] cz (lF 45))=qpe D n x0 x1 x2 x3 :=by rw[adP];kernel_rfl
theorem aeq(D:DX)(n:Nat)(a0:bt):rF D n 45 (a0,())=qrx D n a0:=by
 have h:rF D n 45 (a0,())=qs2 D n (fun x0 x1 x2 x3=>LF D n 45 cz n (qq0 x0 x1 x2 x3) (CF D n 45 [] cz (lF 45))) a0:=by kernel_rfl
 rw[h];simp only[adN];rfl
def qu7(D:DX)(n:Nat)(go:Int->Int->bt->List (List ak)->List ak->Option gP)(K0:Int->bt->List (List ak)->List ak->Option gP)(c d:Int)(f:bt)(e:List (List ak))(a:List ak):Option gP:=qd (rP D f 4) fun b=>br (decide (d<wrap .i64 (1+b.1.1))) (qd (qrs D b.2.1) fun b=>br (decide (a.length+1<=ga)) (go c (wrap .i64 (d+1)) b.2.1 e (a++[b.1.1])) none) (K0 c b.2.1 e a)
def Th(D:DX)(n:Nat)(K0:Int->bt->List (List ak)->List ak->Option gP):Nat->Int->Int->bt->(List (List ak))->(List ak)->Option gP | 0=>(fun a b c d e=>none) | m+1=>(fun a b c d e=>qu7 D n (Th D n K0 m) K0 a b c d e)
def qq2(D:DX)(n:Nat)(go:Int->bt->List (List ak)->Option gP)(K0:bt->List (List ak)->Option gP)(b:Int)(c:bt)(a:List (List ak))(d:List ak):Option gP:=br (decide (a.length+1<=ga)) (go (wrap .i64 (b+1)) c (a++[d])) none
def qs4(D:DX)(n:Nat)(go:Int->bt->List (List ak)->Option gP)(K0:bt->List (List ak)->Option gP):(Int)->(Int)->bt->(List (List ak))->(List ak)->Option gP:=(fun a f g h i=>Th D n (fun b c d e=>qq2 D n go K0 b c d e) n a f g h i)
def qu6(D:DX)(n:Nat)(go:Int->bt->List (List ak)->Option gP)(K0:bt->List (List ak)->Option gP)(mJ:Int->Int->bt->List (List ak)->List ak->Option gP)(x0:Int)(x1:bt)(x2:List (List ak)):Option gP:=qd (rP D x1 3) fun b=>br (decide (x0<wrap .i64 (1+b.1.1))) (mJ x0 0 b.2.1 x2 []) (K0 b.2.1 x2)
def Dl(D:DX)(n:Nat)(K0:bt->List (List ak)->Option gP):Nat->Int->bt->(List (List ak))->Option gP | 0=>(fun x0 x1 x2=>none) | m+1=>(fun x0 x1 x2=>qu6 D n (Dl D n K0 m) K0 (qs4 D n (Dl D n K0 m) K0) x0 x1 x2)
def q0h(D:DX)(n:Nat)(a:bt)(b:List (List ak)):Option gP:=some ((b,()),a,())
def qs3(D:DX)(n:Nat):(Int)->bt->(List (List ak))->Option gP:=(fun x0 x1 x2=>Dl D n (fun a b=>q0h D n a b) n x0 x1 x2)
def qw0(D:DX)(n:Nat)(cw:Int->bt->List (List ak)->Option gP)(a0:bt):Option gP:=cw 0 a0 []
def qv4(D:DX)(n:Nat)(a0:bt):Option gP:=qw0 D n (qs3 D n) a0
def IE(x0:Int)(x1:bt)(x2:List (List ak)):St:=bq 33 [(0,AV.addr 0 []),(3,AV.b9 3 [] 0),(4,AV.val ah x0)] [(0,aC.mk jo Mk.no x1 true),(3,aC.mk jS qF x2 false)]
def Vy(a:bt)(b:List (List ak)):St:=bq 33 [(0,AV.addr 0 []),(3,AV.b9 3 [] 0)] [(0,aC.mk jo Mk.no a true),(3,aC.mk jS qF b false)]
def qu5(a b:Int)(c:bt)(d:List (List ak))(e:List ak):St:=bq 33 [(0,AV.addr 0 []),(3,AV.b9 3 [] 0),(4,AV.val ah a),(5,AV.b9 5 [] 0),(6,AV.val ah b)] [(0,aC.mk jo Mk.no c true),(3,aC.mk jS qF d false),(5,aC.mk bU fl e false)]
def q0g(a:Int)(b:bt)(c:List (List ak))(d:List ak):St:=bq 33 [(0,AV.addr 0 []),(3,AV.b9 3 [] 0),(4,AV.val ah a),(5,AV.b9 5 [] 0)] [(0,aC.mk jo Mk.no b true),(3,aC.mk jS qF c false),(5,aC.mk bU fl d false)]
theorem aeD(D:DX)(n:Nat)(K:KT 46):∀(m:Nat)(e f:Int)(g:bt)(h:List (List ak))(i:List ak),LF D n 46 ER m (qu5 e f g h i) K=Th D n (fun a b c d=>K (Ex.exit 2) (q0g a b c d)) m e f g h i:=oP (fun F=>qu7 D n F (fun a b c d=>K (Ex.exit 2) (q0g a b c d)))
theorem aem(D:DX)(n:Nat)(m:Nat)(K:KT 46)(a b:Int)(c:bt)(d:List (List ak))(e:List ak):LF D n 46 ER n (qu5 a b c d e) (CF D n 46 AE [.r,.l,.l,.r,.l,.r,.l] (KF D n 46 cz m K))=qs4 D n (fun x0 x1 x2=>LF D n 46 cz m (IE x0 x1 x2) K) (fun f g=>K (Ex.exit 0) (Vy f g)) a b c d e :=by rw[aeD];kernel_rfl
theorem aeI(D:DX)(n:Nat)(m:Nat)(K:KT 46)(x0)(x1)(x2:List (List ak)):LF D n 46 cz (m+1) (IE x0 x1 x2) K=qu6 D n (fun x0 x1 x2=>LF D n 46 cz m (IE x0 x1 x2) K) (fun a b=>K (Ex.exit 0) (Vy a b)) (fun c d e f g=>LF D n 46 ER n (qu5 c d e f g) (CF D n 46 AE [.r,.l,.l,.r,.l,.r,.l] (KF D n 46 cz m K))) x0 x1 x2:=by kernel_rfl
theorem q4b(D:DX)(n:Nat)(K:KT 46):∀(m:Nat)(x0:Int)(x1:bt)(x2:List (List ak)),LF D n 46 cz m (IE x0 x1 x2) K=Dl D n (fun a b=>K (Ex.exit 0) (Vy a b)) m x0 x1 x2
 | 0,x0,x1,x2=>sH ..
 | m+1,x0,x1,x2=>by
  have ih:(fun x0 x1 x2=>LF D n 46 cz m (IE x0 x1 x2) K)=Dl D n (fun a b=>K (Ex.exit 0) (Vy a b)) m:=by funext x0 x1 x2;exact q4b D n K m x0 x1 x2
  rw[aeI];simp only[aem];rw[ih];rfl
theorem ael(D:DX)(n:Nat)(x0)(x1)(x2:List (List ak)):LF D n 46 cz n (IE x0 x1 x2) (CF D n 46 [] cz (lF 46))=qs3 D n x0 x1 x2 :=by rw[q4b];kernel_rfl
theorem afU(D:DX)(n:Nat)(a0:bt):rF D n 46 (a0,())=qv4 D n a0:=by
 have h:rF D n 46 (a0,())=qw0 D n (fun x0 x1 x2=>LF D n 46 cz n (IE x0 x1 x2) (CF D n 46 [] cz (lF 46))) a0:=by kernel_rfl
 rw[h];simp only[ael];rfl
def O9(D:DX)(n:Nat)(a0:bt)(a1:Int):Option pg:=br (decide (a1<=0)) (some ((0,()),a0,())) (br (decide (a1<=256)) (qd (IJ D a0) fun p0=>br (decide (a1=0)) none (some ((Int.tmod p0.1.1 a1,()),p0.2.1,()))) (qd (IJ D a0) fun p1=>qd (IJ D p1.2.1) fun p2=>qd (IJ D p2.2.1) fun p3=>qd (IJ D p3.2.1) fun p4=>br (decide (a1=0)) none (some ((Int.tmod (wrap .i64 (wrap .i64 (wrap .i64 (wrap .i64 (p1.1.1 * 16777216)+wrap .i64 (p2.1.1 * 65536))+wrap .i64 (p3.1.1 * 256))+p4.1.1)) a1,()),p4.2.1,()))))
def Y6(D:DX)(n:Nat)(a0:bt)(a1:Int):Option pg:=O9 D n a0 a1
theorem ahE(D:DX)(n:Nat)(a0:bt)(a1:Int):rF D n 47 (a0,(a1,()))=Y6 D n a0 a1:=by kernel_rfl
def Pk(D:DX)(n:Nat)(a0:List Int)(a1 a2:Int):Option aH:=br (decide (wrap .i64 (a1+wrap .i64 (Int.tdiv (a0.length:Int) 4))>a2)) (some ((a2,()),())) (some ((wrap .i64 (a1+wrap .i64 (Int.tdiv (a0.length:Int) 4)),()),()))
def ZH(D:DX)(n:Nat)(a0:List Int)(a1 a2:Int):Option aH:=Pk D n a0 a1 a2
theorem aiK(D:DX)(n:Nat)(a0:List Int)(a1 a2:Int):rF D n 48 (a0,(a1,(a2,())))=ZH D n a0 a1 a2:=by kernel_rfl
def YR(D:DX)(n:Nat)(go:Int->Int->aU->aU->List Int->Option nW)(K0:aU->aU->Option nW)(x0 x1:Int)(x2 x3:aU)(x4:List Int):Option nW:=br (decide (x1<x0)) (br (decide (0<=x1)&&decide (x1<(x4.length:Int))) (br (decide (x3.1.length+1<=ga)) (go x0 (wrap .i64 (x1+1)) x2 (x3.1++[(List.getD x4 x1.toNat 0,0,0,())],x3.2) x4) none) none) (K0 x2 x3)
def TG(D:DX)(n:Nat)(K0:aU->aU->Option nW):Nat->Int->Int->aU->aU->(List Int)->Option nW | 0=>(fun x0 x1 x2 x3 x4=>none) | m+1=>(fun x0 x1 x2 x3 x4=>YR D n (TG D n K0 m) K0 x0 x1 x2 x3 x4)
def q8y(D:DX)(n:Nat)(c a:aU):Option nW:=qd (IK D (a.1,a.2.1,())) fun b=>br (!b.1.1) (some ((([],[],()),false,()),())) (some (((a.1,a.2.1,()),true,()),()))
def qyp(D:DX)(n:Nat):(Int)->(Int)->aU->aU->(List Int)->Option nW:=(fun x0 x1 x2 x3 x4=>TG D n (fun a b=>q8y D n a b) n x0 x1 x2 x3 x4)
def Z9(D:DX)(n:Nat)(cw:Int->Int->aU->aU->List Int->Option nW)(a0:aB)(a1:Int):Option nW:=qd (kE D a1 1 4) fun p1=>br (!p1.1.1) (some ((([],[],()),false,()),())) (br (decide (0<=a1)&&decide (a1<=a1)&&decide (a1<=(↑ga:Int))) (qd (TE D a0) fun p0=>cw (p0.1.1.length:Int) 0 ([],[],()) ([],List.replicate a1.toNat (0,0,[],(0,[],()),()),()) p0.1.1) none)
def ZX(D:DX)(n:Nat)(a0:aB)(a1:Int):Option nW:=Z9 D n (qyp D n) a0 a1
def YQ(x0 x1:Int)(x2 x3:aU)(x4:List Int):St:=bq 36 [(4,AV.addr 4 []),(6,AV.addr 6 []),(17,AV.b9 17 [] 0),(18,AV.val ah x0),(19,AV.val ah x1)] [(4,aC.mk jY lU x2 true),(6,aC.mk jY lU x3 true),(17,aC.mk bG fl x4 false)]
def q8x(a b:aU):St:=bq 36 [(4,AV.addr 4 []),(6,AV.addr 6 [])] [(4,aC.mk jY lU a true),(6,aC.mk jY lU b true)]
theorem agI(D:DX)(n:Nat)(K:KT 49):∀(m:Nat)(x0 x1:Int)(x2 x3:aU)(x4:List Int),LF D n 49 eM m (YQ x0 x1 x2 x3 x4) K=TG D n (fun a b=>K (Ex.exit 0) (q8x a b)) m x0 x1 x2 x3 x4:=oP (fun F=>YR D n F (fun a b=>K (Ex.exit 0) (q8x a b)))
theorem af3(D:DX)(n:Nat)(x0)(x1)(x2)(x3)(x4):LF D n 49 eM n (YQ x0 x1 x2 x3 x4) (CF D n 49 [] eM (lF 49))=qyp D n x0 x1 x2 x3 x4 :=by rw[agI];kernel_rfl
theorem ain(D:DX)(n:Nat)(a0:aB)(a1:Int):rF D n 49 (a0,(a1,()))=ZX D n a0 a1:=by
 have h:rF D n 49 (a0,(a1,()))=Z9 D n (fun x0 x1 x2 x3 x4=>LF D n 49 eM n (YQ x0 x1 x2 x3 x4) (CF D n 49 [] eM (lF 49))) a0 a1:=by kernel_rfl
 rw[h];simp only[af3];rfl
def OA(D:DX)(n:Nat)(a0:aB):Option lB:=qd (SX D a0.1) fun b=>some (((b.1.1,a0.2.1,()),()),())
def qxy(D:DX)(n:Nat)(a0:aB):Option lB:=OA D n a0
theorem agx(D:DX)(n:Nat)(a0:aB):rF D n 50 (a0,())=qxy D n a0:=by kernel_rfl
def q89(D:DX)(n:Nat)(a0:List ak):Option jm:=qd (Vk D a0) fun b=>some (((b.1.1,0,false,[],[],()),()),())
def qvy(D:DX)(n:Nat)(a0:List ak):Option jm:=q89 D n a0
theorem afL(D:DX)(n:Nat)(a0:List ak):rF D n 51 (a0,())=qvy D n a0:=by kernel_rfl
def Zc(D:DX)(n:Nat)(go:Int->Int->aU->aU->List Int->Option nW)(K0:Int->aU->aU->Option nW)(x0 x1:Int)(x2 x3:aU)(x4:List Int):Option nW:=br (decide (x1<(x4.length:Int))) (br (decide (0<=x1)&&decide (x1<(x4.length:Int))) (br (decide (x3.1.length+1<=ga)) (go x0 (wrap .i64 (x1+1)) x2 (x3.1++[(List.getD x4 x1.toNat 0,0,0,())],x3.2) x4) none) none) (K0 x0 x2 x3)
def TA(D:DX)(n:Nat)(K0:Int->aU->aU->Option nW):Nat->Int->Int->aU->aU->(List Int)->Option nW | 0=>(fun x0 x1 x2 x3 x4=>none) | m+1=>(fun x0 x1 x2 x3 x4=>Zc D n (TA D n K0 m) K0 x0 x1 x2 x3 x4)
def q9w(D:DX)(n:Nat)(a:Int)(c b:aU):Option nW:=qd (lY D a 1 4) fun p0=>br p0.1.1 (br (decide (0<=a)&&decide (a<=a)&&decide (a<=(↑ga:Int))) (qd (TV D (b.1,List.replicate a.toNat (0,0,[],(0,[],()),()),())) fun p1=>br (!p1.1.1) (some ((([],[],()),false,()),())) (some (((b.1,List.replicate a.toNat (0,0,[],(0,[],()),()),()),true,()),()))) none) (qd (TV D (b.1,b.2.1,())) fun p2=>br (!p2.1.1) (some ((([],[],()),false,()),())) (some (((b.1,b.2.1,()),true,()),())))
def qzk(D:DX)(n:Nat):(Int)->(Int)->aU->aU->(List Int)->Option nW:=(fun x0 x1 x2 x3 x4=>TA D n (fun a b c=>q9w D n a b c) n x0 x1 x2 x3 x4)
def q5v(D:DX)(n:Nat)(cw:Int->Int->aU->aU->List Int->Option nW)(a0:aB)(a1:Int):Option nW:=qd (YF D a0) fun b=>cw a1 0 ([],[],()) ([],[],()) b.1.1
def ZD(D:DX)(n:Nat)(a0:aB)(a1:Int):Option nW:=q5v D n (qzk D n) a0 a1
def Zb(x0 x1:Int)(x2 x3:aU)(x4:List Int):St:=bq 38 [(1,AV.val ah x0),(4,AV.addr 4 []),(6,AV.addr 6 []),(7,AV.b9 7 [] 0),(8,AV.val ah x1)] [(4,aC.mk jY lU x2 true),(6,aC.mk jY lU x3 true),(7,aC.mk bG fl x4 false)]
def q9v(a:Int)(b c:aU):St:=bq 38 [(1,AV.val ah a),(4,AV.addr 4 []),(6,AV.addr 6 [])] [(4,aC.mk jY lU b true),(6,aC.mk jY lU c true)]
theorem agQ(D:DX)(n:Nat)(K:KT 52):∀(m:Nat)(x0 x1:Int)(x2 x3:aU)(x4:List Int),LF D n 52 eM m (Zb x0 x1 x2 x3 x4) K=TA D n (fun a b c=>K (Ex.exit 0) (q9v a b c)) m x0 x1 x2 x3 x4:=oP (fun F=>Zc D n F (fun a b c=>K (Ex.exit 0) (q9v a b c)))
theorem agk(D:DX)(n:Nat)(x0)(x1)(x2)(x3)(x4):LF D n 52 eM n (Zb x0 x1 x2 x3 x4) (CF D n 52 [] eM (lF 52))=qzk D n x0 x1 x2 x3 x4 :=by rw[agQ];kernel_rfl
theorem aiG(D:DX)(n:Nat)(a0:aB)(a1:Int):rF D n 52 (a0,(a1,()))=ZD D n a0 a1:=by
 have h:rF D n 52 (a0,(a1,()))=q5v D n (fun x0 x1 x2 x3 x4=>LF D n 52 eM n (Zb x0 x1 x2 x3 x4) (CF D n 52 [] eM (lF 52))) a0 a1:=by kernel_rfl
 rw[h];simp only[agk];rfl
def Pm(D:DX)(n:Nat)(a0:aB):Option lB:=br (decide (0+a0.1.length<=ga)) (some ((([]++a0.1,a0.2.1,()),()),())) none
def ZI(D:DX)(n:Nat)(a0:aB):Option lB:=Pm D n a0
theorem aiL(D:DX)(n:Nat)(a0:aB):rF D n 53 (a0,())=ZI D n a0:=by kernel_rfl
def q91(D:DX)(n:Nat)(a0:List ak):Option jm:=br (decide (0+a0.length<=ga)) (some ((([]++a0,0,false,[],[],()),()),())) none
def qv2(D:DX)(n:Nat)(a0:List ak):Option jm:=q91 D n a0
theorem afS(D:DX)(n:Nat)(a0:List ak):rF D n 54 (a0,())=qv2 D n a0:=by kernel_rfl
def quw(D:DX)(n:Nat)(go:Int->aD->Option ag)(K0:Bool->Option ag)(K1:Option ag)(x0:Int)(x1:aD):Option ag:=br (decide (x0<(x1.2.1.length:Int))) (br (decide (0<=x0)&&decide (x0<(x1.2.1.length:Int))) (qd (qxr D (List.getD x1.2.1 x0.toNat ([],0,false,[],[],())) (x1.2.1.length:Int)) fun p0=>br (!p0.1.1) (K0 false) (qd (qxt D x1 x0) fun p1=>br (!p1.1.1) (K0 false) (go (wrap .i64 (x0+1)) x1))) none) K1
def Tg(D:DX)(n:Nat)(K0:Bool->Option ag)(K1:Option ag):Nat->Int->aD->Option ag | 0=>(fun x0 x1=>none) | m+1=>(fun x0 x1=>quw D n (Tg D n K0 K1 m) K0 K1 x0 x1)
def ad9(D:DX)(n:Nat)(a:Bool):Option ag:=some ((a,()),())
def aek(D:DX)(n:Nat):Option ag:=some ((true,()),())
def qsv(D:DX)(n:Nat):(Int)->aD->Option ag:=(fun x0 x1=>Tg D n (fun a=>ad9 D n a) (aek D n) n x0 x1)
def qwp(D:DX)(n:Nat)(cw:Int->aD->Option ag)(a0:aD):Option ag:=qd (TV D a0.1) fun p0=>br (bif !p0.1.1 then true else (a0.1.2.1.length:Int) != (a0.2.1.length:Int)) (some ((false,()),())) (qd (lY D a0.2.2.1 0 100000) fun p1=>br (!p1.1.1) (some ((false,()),())) (qd (VZ D a0.2.2.2.2.2.1) fun p2=>br (!p2.1.1) (some ((false,()),())) (qd (YG D a0) fun p3=>br (!p3.1.1) (some ((false,()),())) (cw 0 a0))))
def qv1(D:DX)(n:Nat)(a0:aD):Option ag:=qwp D n (qsv D n) a0
def quv(x0:Int)(x1:aD):St:=bq 58 [(1,AV.addr 1 []),(3,AV.val ah x0)] [(1,aC.mk cK Mk.no x1 true)]
def q0e(a:Bool):St:=bq 58 [(2,AV.val Ty.bool a)] []
def q0f:St:=bq 58 [] []
theorem aeE(D:DX)(n:Nat)(K:KT 55):∀(m:Nat)(x0:Int)(x1:aD),LF D n 55 cz m (quv x0 x1) K=Tg D n (fun a=>K (Ex.ret) (q0e a)) (K (Ex.exit 0) (q0f)) m x0 x1:=DW (fun F=>quw D n F (fun a=>K (Ex.ret) (q0e a)) (K (Ex.exit 0) (q0f)))
theorem ad8(D:DX)(n:Nat)(x0)(x1):LF D n 55 cz n (quv x0 x1) (CF D n 55 [] cz (lF 55))=qsv D n x0 x1 :=by rw[aeE];kernel_rfl
theorem afR(D:DX)(n:Nat)(a0:aD):rF D n 55 (a0,())=qv1 D n a0:=by
 have h:rF D n 55 (a0,())=qwp D n (fun x0 x1=>LF D n 55 cz n (quv x0 x1) (CF D n 55 [] cz (lF 55))) a0:=by kernel_rfl
 rw[h];simp only[ad8];rfl
def qqw(D:DX)(n:Nat)(go:List aR->Int->Int->aD->aD->aD->Option iN)(K0:aD->aD->aD->Option iN)(x0:List aR)(x1 x2:Int)(x3 x4 x5:aD):Option iN:=br (decide (x2<x1)) (br (decide (0<=x2)&&decide (x2<(x0.length:Int))) (qd (JX D (List.getD x0 x2.toNat ([],0,false,[],[],()))) fun p0=>br (decide (x5.2.1.length+1<=ga)) (go x0 x1 (wrap .i64 (x2+1)) x3 x4 (x5.1,x5.2.1++[(p0.1.1.1,p0.1.1.2.1,p0.1.1.2.2.1,p0.1.1.2.2.2.1,p0.1.1.2.2.2.2.1,())],x5.2.2)) none) none) (K0 x3 x4 x5)
def S5(D:DX)(n:Nat)(K0:aD->aD->aD->Option iN):Nat->(List aR)->Int->Int->aD->aD->aD->Option iN | 0=>(fun x0 x1 x2 x3 x4 x5=>none) | m+1=>(fun x0 x1 x2 x3 x4 x5=>qqw D n (S5 D n K0 m) K0 x0 x1 x2 x3 x4 x5)
def qqx(D:DX)(n:Nat)(go:List bz->Int->Int->aD->aD->Option iN)(K0:aD->aD->Option iN)(c:List bz)(d b:Int)(e a:aD):Option iN:=let y0:=List.getD c b.toNat (0,(0,0,0,()),0,0,0,(0,[],()),());br (decide (b<d)) (br (decide (0<=b)&&decide (b<(c.length:Int))) (qd (II D y0.2.2.2.2.2.1) fun p0=>br (decide (a.2.2.2.1.length+1<=ga)) (go c d (wrap .i64 (b+1)) e (a.1,a.2.1,a.2.2.1,a.2.2.2.1++[(y0.1,y0.2.1,y0.2.2.1,y0.2.2.2.1,y0.2.2.2.2.1,(p0.1.1.1,p0.1.1.2.1,()),())],a.2.2.2.2)) none) none) (K0 e a)
def S6(D:DX)(n:Nat)(K0:aD->aD->Option iN):Nat->(List bz)->Int->Int->aD->aD->Option iN | 0=>(fun a b c d e=>none) | m+1=>(fun a b c d e=>qqx D n (S6 D n K0 m) K0 a b c d e)
def adK(D:DX)(n:Nat)(b a:aD):Option iN:=some ((((a.1.1,a.1.2.1,()),a.2.1,a.2.2.1,a.2.2.2.1,a.2.2.2.2.1,(a.2.2.2.2.2.1.1,a.2.2.2.2.2.1.2),()),()),())
def qoz(D:DX)(n:Nat):(List bz)->(Int)->(Int)->aD->aD->Option iN:=(fun a d e f g=>S6 D n (fun b c=>adK D n b c) n a d e f g)
def qnt(D:DX)(n:Nat)(mJ:List bz->Int->Int->aD->aD->Option iN)(a b c:aD):Option iN:=mJ a.2.2.2.1 (a.2.2.2.1.length:Int) 0 b c
def qoy(D:DX)(n:Nat):(List aR)->(Int)->(Int)->aD->aD->aD->Option iN:=(fun x0 x1 x2 x3 x4 x5=>S5 D n (fun a b c=>qnt D n (qoz D n) a b c) n x0 x1 x2 x3 x4 x5)
def qsi(D:DX)(n:Nat)(cw:List aR->Int->Int->aD->aD->aD->Option iN)(a0:aD):Option iN:=qd (J2 D a0.1) fun p0=>qd (SX D a0.2.2.2.2.1) fun p2=>qd (JZ D a0.2.2.2.2.2.1) fun p1=>cw a0.2.1 (a0.2.1.length:Int) 0 a0 (([],[],()),[],0,[],[],([],0,()),()) ((p0.1.1.1,p0.1.1.2.1,()),[],a0.2.2.1,[],p2.1.1,(p1.1.1.1,p1.1.1.2),())
def qrw(D:DX)(n:Nat)(a0:aD):Option iN:=qsi D n (qoy D n) a0
def qqu(x0:List aR)(x1 x2:Int)(x3 x4 x5:aD):St:=bq 54 [(1,AV.addr 1 []),(2,AV.addr 2 []),(3,AV.addr 3 []),(21,AV.val Wk x0),(22,AV.val ah x1),(23,AV.val ah x2)] [(1,aC.mk cK Mk.no x3 true),(2,aC.mk cK tw x4 true),(3,aC.mk cK Jq x5 true)]
def qns(a b c:aD):St:=bq 54 [(1,AV.addr 1 []),(2,AV.addr 2 []),(3,AV.addr 3 [])] [(1,aC.mk cK Mk.no a true),(2,aC.mk cK tw b true),(3,aC.mk cK Jq c true)]
def qqv(a:List bz)(b c:Int)(d e:aD):St:=bq 54 [(2,AV.addr 2 []),(3,AV.addr 3 []),(36,AV.val zi a),(37,AV.val ah b),(38,AV.val ah c)] [(2,aC.mk cK tw d true),(3,aC.mk cK Jq e true)]
def qw9(a b:aD):St:=bq 54 [(2,AV.addr 2 []),(3,AV.addr 3 [])] [(2,aC.mk cK tw a true),(3,aC.mk cK Jq b true)]
theorem adW(D:DX)(n:Nat)(K:KT 56):∀(m:Nat)(x0:List aR)(x1 x2:Int)(x3 x4 x5:aD),LF D n 56 cz m (qqu x0 x1 x2 x3 x4 x5) K=S5 D n (fun a b c=>K (Ex.exit 0) (qns a b c)) m x0 x1 x2 x3 x4 x5:=DY (fun F=>qqw D n F (fun a b c=>K (Ex.exit 0) (qns a b c)))
theorem adX(D:DX)(n:Nat)(K:KT 56):∀(m:Nat)(c:List bz)(d e:Int)(f g:aD),LF D n 56 eM m (qqv c d e f g) K=S6 D n (fun a b=>K (Ex.exit 2) (qw9 a b)) m c d e f g:=oP (fun F=>qqx D n F (fun a b=>K (Ex.exit 2) (qw9 a b)))
theorem adI(D:DX)(n:Nat)(a:List bz)(b c:Int)(d e:aD):LF D n 56 eM n (qqv a b c d e) (CF D n 56 [] eM (lF 56))=qoz D n a b c d e :=by rw[adX];kernel_rfl
theorem adJ(D:DX)(n:Nat)(a b c:aD):(CF D n 56 [] cz (lF 56)) (Ex.exit 0) (qns a b c)=qnt D n (fun d e f g h=>LF D n 56 eM n (qqv d e f g h) (CF D n 56 [] eM (lF 56))) a b c:=by kernel_rfl
theorem adH(D:DX)(n:Nat)(x0)(x1)(x2)(x3)(x4)(x5):LF D n 56 cz n (qqu x0 x1 x2 x3 x4 x5) (CF D n 56 [] cz (lF 56))=qoy D n x0 x1 x2 x3 x4 x5:=by rw[adW];simp only[adJ,adI];rfl
theorem aep(D:DX)(n:Nat)(a0:aD):rF D n 56 (a0,())=qrw D n a0:=by
 have h:rF D n 56 (a0,())=qsi D n (fun x0 x1 x2 x3 x4 x5=>LF D n 56 cz n (qqu x0 x1 x2 x3 x4 x5) (CF D n 56 [] cz (lF 56))) a0:=by kernel_rfl
 rw[h];simp only[adH];rfl
def Gn(D:DX)(n:Nat)(a0:aD)(a1:Int):Option mE:=let y0:Option mE:=(qd (JW D a0) fun p3=>some ((((p3.1.1.1.1,p3.1.1.1.2.1,()),p3.1.1.2.1,p3.1.1.2.2.1,p3.1.1.2.2.2.1,p3.1.1.2.2.2.2.1,p3.1.1.2.2.2.2.2),false,()),()));qd (zL D a0) fun p6=>br (!p6.1.1) y0 (qd (kE D a1 0 (wrap .i64 ((a0.2.1.length:Int)-1))) fun p7=>br (!p7.1.1) y0 (br (decide (0<=a1)&&decide (a1<(a0.2.1.length:Int))) (qd (Tn D (List.getD a0.2.1 a1.toNat ([],0,false,[],[],()))) fun p8=>br (bif p8.1.1 then true else decide (a0.2.2.1=100000)) y0 (qd (JW D a0) fun p0=>let y1:=List.getD p0.1.1.2.1 a1.toNat ([],0,false,[],[],());br (decide (0<=a1)&&decide (a1<(p0.1.1.2.1.length:Int))) (br (!y1.2.2.1) (br (decide (0<=y1.2.1)&&decide (y1.2.1<(y1.1.length:Int))) (br (decide (p0.1.1.2.2.2.1.length+1<=ga)) (qd (zL D ((p0.1.1.1.1,p0.1.1.1.2.1,()),List.set p0.1.1.2.1 a1.toNat (y1.1,y1.2.1,true,y1.2.2.2),wrap .i64 (p0.1.1.2.2.1+1),p0.1.1.2.2.2.1++[(a1,List.getD y1.1 (Int.toNat y1.2.1) (0,0,0,()),wrap .i64 (p0.1.1.2.2.1+1),-1,-1,(0,[],()),())],p0.1.1.2.2.2.2.1,p0.1.1.2.2.2.2.2)) fun p9=>br (!p9.1.1) y0 (some ((((p0.1.1.1.1,p0.1.1.1.2.1,()),List.set p0.1.1.2.1 a1.toNat (y1.1,y1.2.1,true,y1.2.2.2),wrap .i64 (p0.1.1.2.2.1+1),p0.1.1.2.2.2.1++[(a1,List.getD y1.1 (Int.toNat y1.2.1) (0,0,0,()),wrap .i64 (p0.1.1.2.2.1+1),-1,-1,(0,[],()),())],p0.1.1.2.2.2.2.1,p0.1.1.2.2.2.2.2),true,()),()))) none) none) (br (decide ((y1.2.2.2.2.1.length:Int)>0)) (qd (qng D ((p0.1.1.1.1,p0.1.1.1.2.1,()),p0.1.1.2.1,wrap .i64 (p0.1.1.2.2.1+1),p0.1.1.2.2.2.1,p0.1.1.2.2.2.2.1,p0.1.1.2.2.2.2.2) a1) fun p2=>qd (zL D ((p2.2.1.1.1,p2.2.1.1.2.1,()),p2.2.1.2.1,p2.2.1.2.2.1,p2.2.1.2.2.2.1,p2.2.1.2.2.2.2.1,p2.2.1.2.2.2.2.2)) fun p4=>br (!p4.1.1) y0 (some ((((p2.2.1.1.1,p2.2.1.1.2.1,()),p2.2.1.2.1,p2.2.1.2.2.1,p2.2.1.2.2.2.1,p2.2.1.2.2.2.2.1,p2.2.1.2.2.2.2.2),true,()),()))) (qd (qqa D ((p0.1.1.1.1,p0.1.1.1.2.1,()),p0.1.1.2.1,wrap .i64 (p0.1.1.2.2.1+1),p0.1.1.2.2.2.1,p0.1.1.2.2.2.2.1,p0.1.1.2.2.2.2.2) a1) fun p1=>br (!p1.1.1) y0 (qd (zL D ((p1.2.1.1.1,p1.2.1.1.2.1,()),p1.2.1.2.1,p1.2.1.2.2.1,p1.2.1.2.2.2.1,p1.2.1.2.2.2.2.1,p1.2.1.2.2.2.2.2)) fun p5=>br (!p5.1.1) y0 (some ((((p1.2.1.1.1,p1.2.1.1.2.1,()),p1.2.1.2.1,p1.2.1.2.2.1,p1.2.1.2.2.2.1,p1.2.1.2.2.2.2.1,p1.2.1.2.2.2.2.2),true,()),())))))) none)) none))
def UY(D:DX)(n:Nat)(a0:aD)(a1:Int):Option mE:=Gn D n a0 a1
theorem aae(D:DX)(n:Nat)(a0:aD)(a1:Int):rF D n 57 (a0,(a1,()))=UY D n a0 a1:=by kernel_rfl
def aaJ(D:DX)(n:Nat)(a0 a1 a2:Int):Option ag:=some ((bif decide (a0>=a1) then decide (a0<=a2) else false,()),())
def P5(D:DX)(n:Nat)(a0 a1 a2:Int):Option ag:=aaJ D n a0 a1 a2
theorem aag(D:DX)(n:Nat)(a0 a1 a2:Int):rF D n 58 (a0,(a1,(a2,())))=P5 D n a0 a1 a2:=by kernel_rfl
def q6f(D:DX)(n:Nat)(a0:aD):Option ag:=qd (VY D a0) fun b=>qd (zL D a0) fun b_1=>br b_1.1.1 (qd (Yw D a0.1.1 a0.1.2.1) fun b_2=>qd (TE D (b.1.1.1,b.1.1.2)) fun b=>qd (Vq D b_2.1.1 b.1.1) fun b=>some ((b.1.1,()),())) (some ((false,()),()))
def qt3(D:DX)(n:Nat)(a0:aD):Option ag:=q6f D n a0
theorem aeW(D:DX)(n:Nat)(a0:aD):rF D n 59 (a0,())=qt3 D n a0:=by kernel_rfl
def OO(D:DX)(n:Nat)(a0:List ak)(a1:List bE)(a2:Int):Option aH:=let y0:=List.getD a0 a2.toNat (0,0,0,());let y1:=List.getD a1 (Int.toNat (wrap .i64 (y0.2.1-1))) (0,0,[],(0,[],()),());qd (kE D a2 0 (wrap .i64 ((a0.length:Int)-1))) fun p1=>br (!p1.1.1) (some ((0,()),())) (br (decide (0<=a2)&&decide (a2<(a0.length:Int))) (br (decide (y0.2.1=0)) (some ((y0.1,()),())) (qd (kE D y0.2.1 1 (a1.length:Int)) fun p2=>br (!p2.1.1) (some ((0,()),())) (br (decide (0<=wrap .i64 (y0.2.1-1))&&decide (wrap .i64 (y0.2.1-1)<(a1.length:Int))) (qd (VR D y1 a2) fun p0=>br (bif decide (y1.1=y0.2.2.1) then decide (y1.2.1=2) else false) (some ((p0.1.1.2.2.1,()),())) (some ((p0.1.1.2.1,()),()))) none))) none)
def Yr(D:DX)(n:Nat)(a0:List ak)(a1:List bE)(a2:Int):Option aH:=OO D n a0 a1 a2
theorem ahm(D:DX)(n:Nat)(a0:List ak)(a1:List bE)(a2:Int):rF D n 60 (a0,(a1,(a2,())))=Yr D n a0 a1 a2:=by kernel_rfl
def q5i(D:DX)(n:Nat)(go:List ak->Int->Int->aU->Option ag)(K0:Bool->Option ag)(K1:Option ag)(x0:List ak)(x1 x2:Int)(x3:aU):Option ag:=let y0:=List.getD x0 x2.toNat (0,0,0,());let y1:=List.getD x3.2.1 (Int.toNat (wrap .i64 (y0.2.1-1))) (0,0,[],(0,[],()),());br (decide (x2<x1)) (br (decide (0<=x2)&&decide (x2<(x0.length:Int))) (qd (ZN D y0 (x3.2.1.length:Int)) fun p0=>br (!p0.1.1) (K0 false) (br (decide (y0.2.1=0)) (go x0 x1 (wrap .i64 (x2+1)) x3) (br (decide (0<=wrap .i64 (y0.2.1-1))&&decide (wrap .i64 (y0.2.1-1)<(x3.2.1.length:Int))) (qd (VR D y1 x2) fun p1=>br (bif !p1.1.2.1 then true else y1.1 != y0.2.2.1) (K0 false) (go x0 x1 (wrap .i64 (x2+1)) x3)) none))) none) K1
def TN(D:DX)(n:Nat)(K0:Bool->Option ag)(K1:Option ag):Nat->(List ak)->Int->Int->aU->Option ag | 0=>(fun x0 x1 x2 x3=>none) | m+1=>(fun x0 x1 x2 x3=>q5i D n (TN D n K0 K1 m) K0 K1 x0 x1 x2 x3)
def Ov(D:DX)(n:Nat)(a:Bool):Option ag:=some ((a,()),())
def Ow(D:DX)(n:Nat):Option ag:=some ((true,()),())
def YS(D:DX)(n:Nat):(List ak)->(Int)->(Int)->aU->Option ag:=(fun x0 x1 x2 x3=>TN D n (fun a=>Ov D n a) (Ow D n) n x0 x1 x2 x3)
def q8z(D:DX)(n:Nat)(cw:List ak->Int->Int->aU->Option ag)(a0:aU):Option ag:=br ((a0.1.length:Int) != 20) (some ((false,()),())) (qd (kE D (a0.2.1.length:Int) 1 4) fun b=>br (!b.1.1) (some ((false,()),())) (qd (qd3 D a0.2.1 (bk.mk 110 [])) fun b=>br b.1.1 (some ((false,()),())) (cw a0.1 (a0.1.length:Int) 0 a0)))
def q77(D:DX)(n:Nat)(a0:aU):Option ag:=q8z D n (YS D n) a0
def Z_(x0:List ak)(x1 x2:Int)(x3:aU):St:=bq 64 [(1,AV.addr 1 []),(25,AV.val bU x0),(26,AV.val ah x1),(27,AV.val ah x2)] [(1,aC.mk jY Mk.no x3 true)]
def Ot(a:Bool):St:=bq 64 [(2,AV.val Ty.bool a)] []
def Ou:St:=bq 64 [] []
theorem aia(D:DX)(n:Nat)(K:KT 63):∀(m:Nat)(x0:List ak)(x1 x2:Int)(x3:aU),LF D n 63 cz m (Z_ x0 x1 x2 x3) K=TN D n (fun a=>K (Ex.ret) (Ot a)) (K (Ex.exit 0) (Ou)) m x0 x1 x2 x3:=zn (fun F=>q5i D n F (fun a=>K (Ex.ret) (Ot a)) (K (Ex.exit 0) (Ou)))
theorem agJ(D:DX)(n:Nat)(x0)(x1)(x2)(x3):LF D n 63 cz n (Z_ x0 x1 x2 x3) (CF D n 63 [] cz (lF 63))=YS D n x0 x1 x2 x3 :=by rw[aia];kernel_rfl
theorem ajl(D:DX)(n:Nat)(a0:aU):rF D n 63 (a0,())=q77 D n a0:=by
 have h:rF D n 63 (a0,())=q8z D n (fun x0 x1 x2 x3=>LF D n 63 cz n (Z_ x0 x1 x2 x3) (CF D n 63 [] cz (lF 63))) a0:=by kernel_rfl
 rw[h];simp only[agJ];rfl
def qhp(D:DX)(n:Nat)(a1:bk)(a0:List ak):Option ag:=qd (qiq D a0 a1) fun b=>some ((decide (b.1.1>=0),()),())
def qd8(D:DX)(n:Nat)(a0:List ak)(a1:bk):Option ag:=qhp D n a1 a0
theorem qoc(D:DX)(n:Nat)(a0:List ak)(a1:bk):rF D n 64 (a0,(a1,()))=qd8 D n a0 a1:=by kernel_rfl
def Zm(D:DX)(n:Nat)(go:List Int->Int->Int->aB->Option ag)(K0:Bool->aB->Option ag)(K1:aB->Option ag)(x0:List Int)(x1 x2:Int)(x3:aB):Option ag:=br (decide (x2<x1)) (br (decide (0<=x2)&&decide (x2<(x0.length:Int))) (br (List.getD x0 x2.toNat 0 != 0) (qd (zM D (List.getD x0 x2.toNat 0)) fun p0=>br (!p0.1.1) (K0 false x3) (br (decide (0<=0)&&decide (0<=x2)&&decide (x2<=(x3.1.length:Int))) (qd (Vn D (List.drop (Int.toNat 0) (List.take x2.toNat x3.1)) (List.getD x0 x2.toNat 0)) fun p1=>br p1.1.1 (K0 false x3) (go x0 x1 (wrap .i64 (x2+1)) x3)) none)) (go x0 x1 (wrap .i64 (x2+1)) x3)) none) (K1 x3)
def TI(D:DX)(n:Nat)(K0:Bool->aB->Option ag)(K1:aB->Option ag):Nat->(List Int)->Int->Int->aB->Option ag | 0=>(fun x0 x1 x2 x3=>none) | m+1=>(fun x0 x1 x2 x3=>Zm D n (TI D n K0 K1 m) K0 K1 x0 x1 x2 x3)
def q88(D:DX)(n:Nat)(a:Bool)(b:aB):Option ag:=some ((a,()),())
def qwd(D:DX)(n:Nat)(a:aB):Option ag:=br (decide ((a.1.length:Int)=4)) (qd (kE D a.2.1 0 5) fun b=>some ((b.1.1,()),())) (some ((false,()),()))
def qys(D:DX)(n:Nat):(List Int)->(Int)->(Int)->aB->Option ag:=(fun x0 x1 x2 x3=>TI D n (fun a b=>q88 D n a b) (fun c=>qwd D n c) n x0 x1 x2 x3)
def q5n(D:DX)(n:Nat)(cw:List Int->Int->Int->aB->Option ag)(a0:aB):Option ag:=cw a0.1 (a0.1.length:Int) 0 a0
def Z0(D:DX)(n:Nat)(a0:aB):Option ag:=q5n D n (qys D n) a0
def Zl(x0:List Int)(x1 x2:Int)(x3:aB):St:=bq 38 [(1,AV.addr 1 []),(6,AV.val bG x0),(7,AV.val ah x1),(8,AV.val ah x2)] [(1,aC.mk bS Mk.no x3 true)]
def q86(a:Bool)(b:aB):St:=bq 38 [(1,AV.addr 1 []),(2,AV.val Ty.bool a)] [(1,aC.mk bS Mk.no b true)]
def q87(a:aB):St:=bq 38 [(1,AV.addr 1 [])] [(1,aC.mk bS Mk.no a true)]
theorem agM(D:DX)(n:Nat)(K:KT 66):∀(m:Nat)(x0:List Int)(x1 x2:Int)(x3:aB),LF D n 66 fe m (Zl x0 x1 x2 x3) K=TI D n (fun a b=>K (Ex.ret) (q86 a b)) (fun c=>K (Ex.exit 0) (q87 c)) m x0 x1 x2 x3:=zn (fun F=>Zm D n F (fun a b=>K (Ex.ret) (q86 a b)) (fun c=>K (Ex.exit 0) (q87 c)))
theorem af7(D:DX)(n:Nat)(x0)(x1)(x2)(x3):LF D n 66 fe n (Zl x0 x1 x2 x3) (CF D n 66 [] fe (lF 66))=qys D n x0 x1 x2 x3 :=by rw[agM];kernel_rfl
theorem aiA(D:DX)(n:Nat)(a0:aB):rF D n 66 (a0,())=Z0 D n a0:=by
 have h:rF D n 66 (a0,())=q5n D n (fun x0 x1 x2 x3=>LF D n 66 fe n (Zl x0 x1 x2 x3) (CF D n 66 [] fe (lF 66))) a0:=by kernel_rfl
 rw[h];simp only[af7];rfl
def qlp(D:DX)(n:Nat)(go:List Int->List Int->Int->Int->Option ag)(K0:Bool->Option ag)(K1:Option ag)(x0 x1:List Int)(x2 x3:Int):Option ag:=br (decide (x3<x2)) (br (decide (0<=x3)&&decide (x3<(x0.length:Int))) (br (decide (0<=x3)&&decide (x3<(x1.length:Int))) (br (List.getD x0 x3.toNat 0 != List.getD x1 x3.toNat 0) (K0 false) (go x0 x1 x2 (wrap .i64 (x3+1)))) none) none) K1
def SV(D:DX)(n:Nat)(K0:Bool->Option ag)(K1:Option ag):Nat->(List Int)->(List Int)->Int->Int->Option ag | 0=>(fun x0 x1 x2 x3=>none) | m+1=>(fun x0 x1 x2 x3=>qlp D n (SV D n K0 K1 m) K0 K1 x0 x1 x2 x3)
def qrb(D:DX)(n:Nat)(a:Bool):Option ag:=some ((a,()),())
def qrc(D:DX)(n:Nat):Option ag:=some ((true,()),())
def qle(D:DX)(n:Nat):(List Int)->(List Int)->(Int)->(Int)->Option ag:=(fun x0 x1 x2 x3=>SV D n (fun a=>qrb D n a) (qrc D n) n x0 x1 x2 x3)
def qmz(D:DX)(n:Nat)(cw:List Int->List Int->Int->Int->Option ag)(a0 a1:List Int):Option ag:=br ((a0.length:Int) != (a1.length:Int)) (some ((false,()),())) (cw a0 a1 (a0.length:Int) 0)
def qms(D:DX)(n:Nat)(a0 a1:List Int):Option ag:=qmz D n (qle D n) a0 a1
def qlo(x0 x1:List Int)(x2 x3:Int):St:=bq 26 [(0,AV.val bG x0),(1,AV.val bG x1),(12,AV.val ah x2),(13,AV.val ah x3)] []
def qq9(a:Bool):St:=bq 26 [(4,AV.val Ty.bool a)] []
def qra:St:=bq 26 [] []
theorem q9q(D:DX)(n:Nat)(K:KT 67):∀(m:Nat)(x0 x1:List Int)(x2 x3:Int),LF D n 67 cz m (qlo x0 x1 x2 x3) K=SV D n (fun a=>K (Ex.ret) (qq9 a)) (K (Ex.exit 0) (qra)) m x0 x1 x2 x3:=zn (fun F=>qlp D n F (fun a=>K (Ex.ret) (qq9 a)) (K (Ex.exit 0) (qra)))
theorem q7c(D:DX)(n:Nat)(x0)(x1)(x2)(x3):LF D n 67 cz n (qlo x0 x1 x2 x3) (CF D n 67 [] cz (lF 67))=qle D n x0 x1 x2 x3 :=by rw[q9q];kernel_rfl
theorem ady(D:DX)(n:Nat)(a0 a1:List Int):rF D n 67 (a0,(a1,()))=qms D n a0 a1:=by
 have h:rF D n 67 (a0,(a1,()))=qmz D n (fun x0 x1 x2 x3=>LF D n 67 cz n (qlo x0 x1 x2 x3) (CF D n 67 [] cz (lF 67))) a0 a1:=by kernel_rfl
 rw[h];simp only[q7c];rfl
def qyu(D:DX)(n:Nat)(go:List Int->Int->Int->aB->List Int->Option dc)(K0:aB->List Int->Option dc)(x0:List Int)(x1 x2:Int)(x3:aB)(x4:List Int):Option dc:=let y0:=wrap .i64 (x2+1);let y1:=List.getD x0 x2.toNat 0;br (decide (x2<x1)) (br (decide (0<=x2)&&decide (x2<(x0.length:Int))) (br (decide (y1=0)) (go x0 x1 y0 x3 x4) (qd (yA D y1) fun p1=>let y2:=List.set x4 p1.1.1.toNat y0;br (decide (0<=p1.1.1)&&decide (p1.1.1<(x4.length:Int))) (qd (tC D y1) fun p3=>qd (yz D p3.1.1) fun p0=>let y3:=List.set y2 p0.1.1.toNat (wrap .i64 (List.getD y2 p0.1.1.toNat 0+1));br (decide (0<=p0.1.1)&&decide (p0.1.1<(y2.length:Int))) (br (decide (0<=p0.1.1)&&decide (p0.1.1<(y2.length:Int))) (br (decide (x2<wrap .i64 (x3.2.1-1))) (qd (vS D y1) fun p2=>br (decide (0<=p2.1.1)&&decide (p2.1.1<(y3.length:Int))) (go x0 x1 y0 x3 (List.set y3 p2.1.1.toNat y0)) none) (go x0 x1 y0 x3 y3)) none) none) none)) none) (K0 x3 x4)
def To(D:DX)(n:Nat)(K0:aB->List Int->Option dc):Nat->(List Int)->Int->Int->aB->(List Int)->Option dc | 0=>(fun x0 x1 x2 x3 x4=>none) | m+1=>(fun x0 x1 x2 x3 x4=>qyu D n (To D n K0 m) K0 x0 x1 x2 x3 x4)
def qup(D:DX)(n:Nat)(c:aB)(a:List Int):Option dc:=qd (tD D) fun b=>br (decide (0<=b.1.1)&&decide (b.1.1<(a.length:Int))) (some ((List.set a b.1.1.toNat c.2.1,()),())) none
def qwe(D:DX)(n:Nat):(List Int)->(Int)->(Int)->aB->(List Int)->Option dc:=(fun x0 x1 x2 x3 x4=>To D n (fun a b=>qup D n a b) n x0 x1 x2 x3 x4)
def Zn(D:DX)(n:Nat)(cw:List Int->Int->Int->aB->List Int->Option dc)(a0:aB):Option dc:=qd (TK D a0) fun p0=>br (!p0.1.1) (some (([],()),())) (br (decide (0<a0.1.length)&&decide (0<(List.replicate (Int.toNat 20) 0).length)) (cw a0.1 (a0.1.length:Int) 0 a0 (v9 ah (List.replicate (Int.toNat 20) 0) a0.1)) (cw a0.1 (a0.1.length:Int) 0 a0 (List.replicate (Int.toNat 20) 0)))
def Ys(D:DX)(n:Nat)(a0:aB):Option dc:=Zn D n (qwe D n) a0
def qyt(x0:List Int)(x1 x2:Int)(x3:aB)(x4:List Int):St:=bq 56 [(1,AV.addr 1 []),(3,AV.b9 3 [] 0),(15,AV.val bG x0),(16,AV.val ah x1),(17,AV.val ah x2)] [(1,aC.mk bS Mk.no x3 true),(3,aC.mk bG fl x4 false)]
def q6l(a:aB)(b:List Int):St:=bq 56 [(1,AV.addr 1 []),(3,AV.b9 3 [] 0)] [(1,aC.mk bS Mk.no a true),(3,aC.mk bG fl b false)]
theorem af8(D:DX)(n:Nat)(K:KT 68):∀(m:Nat)(x0:List Int)(x1 x2:Int)(x3:aB)(x4:List Int),LF D n 68 ji m (qyt x0 x1 x2 x3 x4) K=To D n (fun a b=>K (Ex.exit 0) (q6l a b)) m x0 x1 x2 x3 x4:=oP (fun F=>qyu D n F (fun a b=>K (Ex.exit 0) (q6l a b)))
theorem aeO(D:DX)(n:Nat)(x0)(x1)(x2)(x3)(x4):LF D n 68 ji n (qyt x0 x1 x2 x3 x4) (CF D n 68 [] ji (lF 68))=qwe D n x0 x1 x2 x3 x4 :=by rw[af8];kernel_rfl
theorem ahn(D:DX)(n:Nat)(a0:aB):rF D n 68 (a0,())=Ys D n a0:=by
 have h:rF D n 68 (a0,())=Zn D n (fun x0 x1 x2 x3 x4=>LF D n 68 ji n (qyt x0 x1 x2 x3 x4) (CF D n 68 [] ji (lF 68))) a0:=by kernel_rfl
 rw[h];simp only[aeO];rfl
def qmy(D:DX)(n:Nat)(a0:List Int):Option dc:=br (decide (Int.toNat (a0.length:Int)=0)) (both (some (([],()),())) (br (decide (0+a0.length<=ga)) (some (([]++a0,()),())) none)) (br (decide (0+a0.length<=ga)) (some (([]++a0,()),())) none)
def Vs(D:DX)(n:Nat)(a0:List Int):Option dc:=qmy D n a0
theorem adx(D:DX)(n:Nat)(a0:List Int):rF D n 69 (a0,())=Vs D n a0:=by kernel_rfl
def aie(D:DX)(n:Nat):Option aH:=some ((13,()),())
def OT(D:DX)(n:Nat):Option aH:=aie D n
theorem ahl(D:DX)(n:Nat):rF D n 70 ()=OT D n:=by kernel_rfl
def aaK(D:DX)(n:Nat)(a0:aB):Option ag:=some ((decide (a0.2.1=5),()),())
def P6(D:DX)(n:Nat)(a0:aB):Option ag:=aaK D n a0
theorem aah(D:DX)(n:Nat)(a0:aB):rF D n 71 (a0,())=P6 D n a0:=by kernel_rfl
def OI(D:DX)(n:Nat)(a0:Int):Option aH:=qd (zM D a0) fun b=>qd (J4 D b.1.1 (wrap .i64 (3+a0))) fun b=>some ((b.1.1,()),())
def Yq(D:DX)(n:Nat)(a0:Int):Option aH:=OI D n a0
theorem ahk(D:DX)(n:Nat)(a0:Int):rF D n 73 (a0,())=Yq D n a0:=by kernel_rfl
def qlr(D:DX)(n:Nat)(go:List Int->Int->Int->Int->Option aH)(K0:Int->Option aH)(K1:Option aH)(x0:List Int)(x1 x2 x3:Int):Option aH:=br (decide (x3<x2)) (br (decide (0<=x3)&&decide (x3<(x0.length:Int))) (br (decide (x1=List.getD x0 x3.toNat 0)) (K0 x3) (go x0 x1 x2 (wrap .i64 (x3+1)))) none) K1
def SW(D:DX)(n:Nat)(K0:Int->Option aH)(K1:Option aH):Nat->(List Int)->Int->Int->Int->Option aH | 0=>(fun x0 x1 x2 x3=>none) | m+1=>(fun x0 x1 x2 x3=>qlr D n (SW D n K0 K1 m) K0 K1 x0 x1 x2 x3)
def qrf(D:DX)(n:Nat)(a:Int):Option aH:=some ((a,()),())
def qrg(D:DX)(n:Nat):Option aH:=some ((-1,()),())
def qlf(D:DX)(n:Nat):(List Int)->(Int)->(Int)->(Int)->Option aH:=(fun x0 x1 x2 x3=>SW D n (fun a=>qrf D n a) (qrg D n) n x0 x1 x2 x3)
def qm0(D:DX)(n:Nat)(cw:List Int->Int->Int->Int->Option aH)(a0:List Int)(a1:Int):Option aH:=cw a0 a1 (a0.length:Int) 0
def qmt(D:DX)(n:Nat)(a0:List Int)(a1:Int):Option aH:=qm0 D n (qlf D n) a0 a1
def qlq(x0:List Int)(x1 x2 x3:Int):St:=bq 19 [(0,AV.val bG x0),(1,AV.val ah x1),(7,AV.val ah x2),(8,AV.val ah x3)] []
def qrd(a:Int):St:=bq 19 [(4,AV.val ah a)] []
def qre:St:=bq 19 [] []
theorem q9r(D:DX)(n:Nat)(K:KT 74):∀(m:Nat)(x0:List Int)(x1 x2 x3:Int),LF D n 74 fe m (qlq x0 x1 x2 x3) K=SW D n (fun a=>K (Ex.ret) (qrd a)) (K (Ex.exit 0) (qre)) m x0 x1 x2 x3:=zn (fun F=>qlr D n F (fun a=>K (Ex.ret) (qrd a)) (K (Ex.exit 0) (qre)))
theorem q7d(D:DX)(n:Nat)(x0)(x1)(x2)(x3):LF D n 74 fe n (qlq x0 x1 x2 x3) (CF D n 74 [] fe (lF 74))=qlf D n x0 x1 x2 x3 :=by rw[q9r];kernel_rfl
theorem adz(D:DX)(n:Nat)(a0:List Int)(a1:Int):rF D n 74 (a0,(a1,()))=qmt D n a0 a1:=by
 have h:rF D n 74 (a0,(a1,()))=qm0 D n (fun x0 x1 x2 x3=>LF D n 74 fe n (qlq x0 x1 x2 x3) (CF D n 74 [] fe (lF 74))) a0 a1:=by kernel_rfl
 rw[h];simp only[q7d];rfl
def ai9(D:DX)(n:Nat)(a0:Bool)(a1:Int):Option aH:=br (!a0) (some ((-1,()),())) (some ((a1,()),()))
def Pa(D:DX)(n:Nat)(a0:Bool)(a1:Int):Option aH:=ai9 D n a0 a1
theorem aiE(D:DX)(n:Nat)(a0:Bool)(a1:Int):rF D n 75 (a0,(a1,()))=Pa D n a0 a1:=by kernel_rfl
def Pv(D:DX)(n:Nat)(a0:Int):Option ag:=qd (kE D a0 1 6) fun b=>some ((b.1.1,()),())
def q79(D:DX)(n:Nat)(a0:Int):Option ag:=Pv D n a0
theorem ajn(D:DX)(n:Nat)(a0:Int):rF D n 76 (a0,())=q79 D n a0:=by kernel_rfl
def OZ(D:DX)(n:Nat)(a0:Int):Option aH:=qd (zM D a0) fun b=>br (!b.1.1) (some ((-1,()),())) (some ((Int.tmod a0 3,()),()))
def Yj(D:DX)(n:Nat)(a0:Int):Option aH:=OZ D n a0
theorem ahd(D:DX)(n:Nat)(a0:Int):rF D n 77 (a0,())=Yj D n a0:=by kernel_rfl
def OX(D:DX)(n:Nat)(a0:aB)(a1:ak)(a2:eO):Option ag:=qd (TK D a0) fun p1=>br (!p1.1.1) (some ((false,()),())) (qd (Ds D a1) fun p2=>br (!p2.1.1) (some ((false,()),())) (br (a2.1 != 0) (br (decide ((a2.2.1.length:Int)=0)) (qd (OQ D a0 a1 a2.1) fun p3=>some ((p3.1.1,()),())) (some ((false,()),()))) (qd (OR D a0 a1) fun p0=>br p0.1.2.1 (qd (Vq D p0.1.1 a2.2.1) fun p4=>some ((p4.1.1,()),())) (some ((false,()),())))))
def YI(D:DX)(n:Nat)(a0:aB)(a1:ak)(a2:eO):Option ag:=OX D n a0 a1 a2
theorem ahb(D:DX)(n:Nat)(a0:aB)(a1:ak)(a2:eO):rF D n 78 (a0,(a1,(a2,())))=YI D n a0 a1 a2:=by kernel_rfl
def q32(D:DX)(n:Nat)(a0:bz)(a1:Int)(a2:aD):Option ag:=br (decide (a1 = -1)) (some ((true,()),())) (qd (kE D a1 a0.2.2.1 a2.2.2.1) fun b=>some ((b.1.1,()),()))
def qru(D:DX)(n:Nat)(a0:bz)(a1:Int)(a2:aD):Option ag:=q32 D n a0 a1 a2
theorem aen(D:DX)(n:Nat)(a0:bz)(a1:Int)(a2:aD):rF D n 79 (a0,(a1,(a2,())))=qru D n a0 a1 a2:=by kernel_rfl
def P8(D:DX)(n:Nat)(a0:ak):Option ag:=let y3:Option ag:=(qd (zM D a0.2.2.1) fun p1=>some ((p1.1.1,()),()));let y6:Option ag:=br (decide (a0.2.1=0)) y3 (some ((false,()),()));let y1:Option ag:=(br (decide (a0.1=6)) (qd (VT D a0.2.1) fun p3=>some ((bif p3.1.1 then decide (a0.2.2.1=0) else false,()),())) (br (decide (a0.1=7)) (br (decide (a0.1=7)) (some ((bif decide (a0.2.1=0) then decide (a0.2.2.1=0) else false,()),())) (some ((false,()),()))) (br (decide (a0.1=8)) (br (decide (a0.1=8)) (some ((bif decide (a0.2.1=0) then decide (a0.2.2.1=0) else false,()),())) (some ((false,()),()))) (br (decide (a0.1=9)) (some ((bif decide (a0.2.1=0) then decide (a0.2.2.1=0) else false,()),())) (some ((false,()),()))))));let y0:Option ag:=br (decide (a0.1=5)) (br (decide (a0.1=5)) y6 y1) (br (decide (a0.1=10)) y6 y1);let y2:Option ag:=(qd (TU D a0.2.1) fun p2=>some ((bif p2.1.1 then decide (a0.2.2.1=0) else false,()),()));let y4:Option ag:=br (decide (a0.1=3)) (br (decide (a0.1=3)) y2 y0) (br (decide (a0.1=4)) y2 y0);let y5:Option ag:=(qd (TU D a0.2.1) fun p0=>br p0.1.1 y3 (some ((false,()),())));br (decide (a0.1=1)) (br (decide (a0.1=1)) y5 y4) (br (decide (a0.1=2)) y5 y4)
def Gy(D:DX)(n:Nat)(a0:ak):Option ag:=P8 D n a0
theorem aaa(D:DX)(n:Nat)(a0:ak):rF D n 80 (a0,())=Gy D n a0:=by kernel_rfl
def Ox(D:DX)(n:Nat)(a0:aR)(a1:Int):Option ag:=let y0:Option ag:=(qd (Va D a0.2.2.2.1 (bk.mk 123 [])) fun p2=>br p2.1.1 (some ((false,()),())) (qd (U_ D a0.2.2.2.2.1 (bk.mk 127 [bL.cm ah a1])) fun p3=>some ((!p3.1.1,()),())));br (decide ((a0.1.length:Int)>8)) (some ((false,()),())) (qd (qfn D a0.1 (bk.mk 121 [])) fun p0=>br p0.1.1 (some ((false,()),())) (qd (kE D a0.2.1 0 (a0.1.length:Int)) fun p1=>br (bif bif bif !p1.1.1 then true else bif a0.2.2.1 then decide (a0.2.1=(a0.1.length:Int)) else false then true else decide ((a0.2.2.2.1.length:Int)>12) then true else decide ((a0.2.2.2.2.1.length:Int)>2)) (some ((false,()),())) (br (!a0.2.2.1) (br (decide (wrap .i64 ((a0.2.2.2.1.length:Int)+(a0.2.2.2.2.1.length:Int))>0)) (some ((false,()),())) y0) y0)))
def qxx(D:DX)(n:Nat)(a0:aR)(a1:Int):Option ag:=Ox D n a0 a1
theorem agw(D:DX)(n:Nat)(a0:aR)(a1:Int):rF D n 81 (a0,(a1,()))=qxx D n a0 a1:=by kernel_rfl
def qyw(D:DX)(n:Nat)(go:Int->Int->Int->Int->List bz->Int->Int->aD->aR->Option ag)(K0:Int->Int->Int->aD->aR->Option ag)(x0 x1 x2 x3:Int)(x4:List bz)(x5 x6:Int)(x7:aD)(x8:aR):Option ag:=let y0:=List.getD x4 x6.toNat (0,(0,0,0,()),0,0,0,(0,[],()),());let y1:=wrap .i64 (x6+1);br (decide (x6<x5)) (br (decide (0<=x6)&&decide (x6<(x4.length:Int))) (br (y0.1 != x0) (go x0 x1 x2 x3 x4 x5 y1 x7 x8) (br (decide (y0.2.2.2.2.1>=0)) (go x0 x6 (wrap .i64 (x2+1)) x3 x4 x5 y1 x7 x8) (go x0 x6 x2 (wrap .i64 (x3+1)) x4 x5 y1 x7 x8))) none) (K0 x1 x2 x3 x7 x8)
def Tp(D:DX)(n:Nat)(K0:Int->Int->Int->aD->aR->Option ag):Nat->Int->Int->Int->Int->(List bz)->Int->Int->aD->aR->Option ag | 0=>(fun x0 x1 x2 x3 x4 x5 x6 x7 x8=>none) | m+1=>(fun x0 x1 x2 x3 x4 x5 x6 x7 x8=>qyw D n (Tp D n K0 m) K0 x0 x1 x2 x3 x4 x5 x6 x7 x8)
def qur(D:DX)(n:Nat)(b e d:Int)(c:aD)(a:aR):Option ag:=let y0:=List.getD c.2.2.2.1 b.toNat (0,(0,0,0,()),0,0,0,(0,[],()),());br (e != a.2.1) (some ((false,()),())) (br (!a.2.2.1) (some ((decide (d=0),()),())) (br (bif decide (b>=0) then decide (d=1) else false) (br (decide (0<=b)&&decide (b<(c.2.2.2.1.length:Int))) (br (decide (y0.2.2.2.2.1 = -1)) (br (decide (0<=b)&&decide (b<(c.2.2.2.1.length:Int))) (br (decide (0<=a.2.1)&&decide (a.2.1<(a.1.length:Int))) (some ((pN bV y0.2.1 (List.getD a.1 a.2.1.toNat (0,0,0,())),()),())) none) none) (some ((false,()),()))) none) (some ((false,()),()))))
def qwf(D:DX)(n:Nat):(Int)->(Int)->(Int)->(Int)->(List bz)->(Int)->(Int)->aD->aR->Option ag:=(fun x0 x1 x2 x3 x4 x5 x6 x7 x8=>Tp D n (fun a b c d e=>qur D n a b c d e) n x0 x1 x2 x3 x4 x5 x6 x7 x8)
def Zp(D:DX)(n:Nat)(cw:Int->Int->Int->Int->List bz->Int->Int->aD->aR->Option ag)(a0:aD)(a1:Int):Option ag:=br (decide (0<=a1)&&decide (a1<(a0.2.1.length:Int))) (cw a1 (-1) 0 0 a0.2.2.2.1 (a0.2.2.2.1.length:Int) 0 a0 (List.getD a0.2.1 a1.toNat ([],0,false,[],[],()))) none
def YT(D:DX)(n:Nat)(a0:aD)(a1:Int):Option ag:=Zp D n (qwf D n) a0 a1
def qyv(x0 x1 x2 x3:Int)(x4:List bz)(x5 x6:Int)(x7:aD)(x8:aR):St:=bq 76 [(1,AV.val ah x0),(2,AV.addr 2 []),(5,AV.addr 5 []),(6,AV.val ah x1),(7,AV.val ah x2),(8,AV.val ah x3),(17,AV.val zi x4),(18,AV.val ah x5),(19,AV.val ah x6)] [(2,aC.mk cK Mk.no x7 true),(5,aC.mk jZ Mk.no x8 true)]
def q6m(a b c:Int)(d:aD)(e:aR):St:=bq 76 [(2,AV.addr 2 []),(5,AV.addr 5 []),(6,AV.val ah a),(7,AV.val ah b),(8,AV.val ah c)] [(2,aC.mk cK Mk.no d true),(5,aC.mk jZ Mk.no e true)]
theorem af9(D:DX)(n:Nat)(K:KT 82):∀(m:Nat)(x0 x1 x2 x3:Int)(x4:List bz)(x5 x6:Int)(x7:aD)(x8:aR),LF D n 82 zF m (qyv x0 x1 x2 x3 x4 x5 x6 x7 x8) K=Tp D n (fun a b c d e=>K (Ex.exit 0) (q6m a b c d e)) m x0 x1 x2 x3 x4 x5 x6 x7 x8:=Uq (fun F=>qyw D n F (fun a b c d e=>K (Ex.exit 0) (q6m a b c d e)))
theorem aeQ(D:DX)(n:Nat)(x0)(x1)(x2)(x3)(x4)(x5)(x6)(x7)(x8):LF D n 82 zF n (qyv x0 x1 x2 x3 x4 x5 x6 x7 x8) (CF D n 82 [] zF (lF 82))=qwf D n x0 x1 x2 x3 x4 x5 x6 x7 x8 :=by rw[af9];kernel_rfl
theorem aho(D:DX)(n:Nat)(a0:aD)(a1:Int):rF D n 82 (a0,(a1,()))=YT D n a0 a1:=by
 have h:rF D n 82 (a0,(a1,()))=Zp D n (fun x0 x1 x2 x3 x4 x5 x6 x7 x8=>LF D n 82 zF n (qyv x0 x1 x2 x3 x4 x5 x6 x7 x8) (CF D n 82 [] zF (lF 82))) a0 a1:=by kernel_rfl
 rw[h];simp only[aeQ];rfl
def qy1(D:DX)(n:Nat)(go:Int->List bz->Int->Int->aD->Option ag)(K0:Int->aD->Option ag)(x0:Int)(x1:List bz)(x2 x3:Int)(x4:aD):Option ag:=br (decide (x3<x2)) (br (decide (0<=x3)&&decide (x3<(x1.length:Int))) (br (decide ((List.getD x1 x3.toNat (0,(0,0,0,()),0,0,0,(0,[],()),())).2.2.2.1>=0)) (go (wrap .i64 (x0+1)) x1 x2 (wrap .i64 (x3+1)) x4) (go x0 x1 x2 (wrap .i64 (x3+1)) x4)) none) (K0 x0 x4)
def Tt(D:DX)(n:Nat)(K0:Int->aD->Option ag):Nat->Int->(List bz)->Int->Int->aD->Option ag | 0=>(fun x0 x1 x2 x3 x4=>none) | m+1=>(fun x0 x1 x2 x3 x4=>qy1 D n (Tt D n K0 m) K0 x0 x1 x2 x3 x4)
def qy2(D:DX)(n:Nat)(go:Int->List Int->Int->Int->aD->Option ag)(K0:Bool->Int->aD->Option ag)(K1:Int->aD->Option ag)(c:Int)(d:List Int)(e b:Int)(a:aD):Option ag:=let y2:=List.getD d b.toNat 0;let y0:=List.getD a.2.2.2.1 (Int.toNat y2) (0,(0,0,0,()),0,0,0,(0,[],()),());let y1:=Int.toNat (wrap .i64 (b-1));br (decide (b<e)) (br (decide (0<=b)&&decide (b<(d.length:Int))) (qd (kE D y2 0 (wrap .i64 ((a.2.2.2.1.length:Int)-1))) fun p0=>br (!p0.1.1) (K0 false c a) (br (decide (0<=y2)&&decide (y2<(a.2.2.2.1.length:Int))) (br (decide (y0.2.2.2.1<0)) (K0 false c a) (br (decide (0<=0)&&decide (0<=b)&&decide (b<=(a.2.2.2.2.1.length:Int))) (qd (Vn D (List.drop (Int.toNat 0) (List.take b.toNat a.2.2.2.2.1)) y2) fun p1=>br p1.1.1 (K0 false c a) (br (decide (b>0)) (br (decide (0<=wrap .i64 (b-1))&&decide (wrap .i64 (b-1)<(a.2.2.2.2.1.length:Int))) (br (decide (0<=List.getD a.2.2.2.2.1 y1 0)&&decide (List.getD a.2.2.2.2.1 y1 0<(a.2.2.2.1.length:Int))) (br (decide (0<=y2)&&decide (y2<(a.2.2.2.1.length:Int))) (br (decide ((List.getD a.2.2.2.1 (Int.toNat (List.getD a.2.2.2.2.1 y1 0)) (0,(0,0,0,()),0,0,0,(0,[],()),())).2.2.2.1>y0.2.2.2.1)) (K0 false c a) (go c d e (wrap .i64 (b+1)) a)) none) none) none) (go c d e (wrap .i64 (b+1)) a))) none)) none)) none) (K1 c a)
def Tu(D:DX)(n:Nat)(K0:Bool->Int->aD->Option ag)(K1:Int->aD->Option ag):Nat->Int->(List Int)->Int->Int->aD->Option ag | 0=>(fun a b c d e=>none) | m+1=>(fun a b c d e=>qy2 D n (Tu D n K0 K1 m) K0 K1 a b c d e)
def afj(D:DX)(n:Nat)(a:Bool)(b:Int)(c:aD):Option ag:=some ((a,()),())
def q6r(D:DX)(n:Nat)(a:Int)(b:aD):Option ag:=some ((decide (a=(b.2.2.2.2.1.length:Int)),()),())
def qwi(D:DX)(n:Nat):(Int)->(List Int)->(Int)->(Int)->aD->Option ag:=(fun a b h i j=>Tu D n (fun c d e=>afj D n c d e) (fun f g=>q6r D n f g) n a b h i j)
def qut(D:DX)(n:Nat)(mJ:Int->List Int->Int->Int->aD->Option ag)(b:Int)(a:aD):Option ag:=mJ b a.2.2.2.2.1 (a.2.2.2.2.1.length:Int) 0 a
def qwh(D:DX)(n:Nat):(Int)->(List bz)->(Int)->(Int)->aD->Option ag:=(fun x0 x1 x2 x3 x4=>Tt D n (fun a b=>qut D n (qwi D n) a b) n x0 x1 x2 x3 x4)
def Zr(D:DX)(n:Nat)(cw:Int->List bz->Int->Int->aD->Option ag)(a0:aD):Option ag:=cw 0 a0.2.2.2.1 (a0.2.2.2.1.length:Int) 0 a0
def YZ(D:DX)(n:Nat)(a0:aD):Option ag:=Zr D n (qwh D n) a0
def qyz(x0:Int)(x1:List bz)(x2 x3:Int)(x4:aD):St:=bq 83 [(1,AV.addr 1 []),(3,AV.val ah x0),(9,AV.val zi x1),(10,AV.val ah x2),(11,AV.val ah x3)] [(1,aC.mk cK Mk.no x4 true)]
def qus(a:Int)(b:aD):St:=bq 83 [(1,AV.addr 1 []),(3,AV.val ah a)] [(1,aC.mk cK Mk.no b true)]
def qy0(a:Int)(b:List Int)(c d:Int)(e:aD):St:=bq 83 [(1,AV.addr 1 []),(3,AV.val ah a),(22,AV.val bG b),(23,AV.val ah c),(24,AV.val ah d)] [(1,aC.mk cK Mk.no e true)]
def q6p(a:Bool)(b:Int)(c:aD):St:=bq 83 [(1,AV.addr 1 []),(2,AV.val Ty.bool a),(3,AV.val ah b)] [(1,aC.mk cK Mk.no c true)]
def q6q(a:Int)(b:aD):St:=bq 83 [(1,AV.addr 1 []),(3,AV.val ah a)] [(1,aC.mk cK Mk.no b true)]
theorem aga(D:DX)(n:Nat)(K:KT 83):∀(m:Nat)(x0:Int)(x1:List bz)(x2 x3:Int)(x4:aD),LF D n 83 cz m (qyz x0 x1 x2 x3 x4) K=Tt D n (fun a b=>K (Ex.exit 0) (qus a b)) m x0 x1 x2 x3 x4:=oP (fun F=>qy1 D n F (fun a b=>K (Ex.exit 0) (qus a b)))
theorem agb(D:DX)(n:Nat)(K:KT 83):∀(m:Nat)(f:Int)(g:List Int)(h i:Int)(j:aD),LF D n 83 eM m (qy0 f g h i j) K=Tu D n (fun a b c=>K (Ex.ret) (q6p a b c)) (fun d e=>K (Ex.exit 2) (q6q d e)) m f g h i j:=oP (fun F=>qy2 D n F (fun a b c=>K (Ex.ret) (q6p a b c)) (fun d e=>K (Ex.exit 2) (q6q d e)))
theorem aeU(D:DX)(n:Nat)(a:Int)(b:List Int)(c d:Int)(e:aD):LF D n 83 eM n (qy0 a b c d e) (CF D n 83 [] eM (lF 83))=qwi D n a b c d e :=by rw[agb];kernel_rfl
theorem afi(D:DX)(n:Nat)(a:Int)(b:aD):(CF D n 83 [] cz (lF 83)) (Ex.exit 0) (qus a b)=qut D n (fun c d e f g=>LF D n 83 eM n (qy0 c d e f g) (CF D n 83 [] eM (lF 83))) a b:=by kernel_rfl
theorem aeT(D:DX)(n:Nat)(x0)(x1)(x2)(x3)(x4):LF D n 83 cz n (qyz x0 x1 x2 x3 x4) (CF D n 83 [] cz (lF 83))=qwh D n x0 x1 x2 x3 x4:=by rw[aga];simp only[afi,aeU];rfl
theorem ag4(D:DX)(n:Nat)(a0:aD):rF D n 83 (a0,())=YZ D n a0:=by
 have h:rF D n 83 (a0,())=Zr D n (fun x0 x1 x2 x3 x4=>LF D n 83 cz n (qyz x0 x1 x2 x3 x4) (CF D n 83 [] cz (lF 83))) a0:=by kernel_rfl
 rw[h];simp only[aeT];rfl
def O2(D:DX)(n:Nat)(a0:eO):Option ((eO×Unit)×Unit):=qd (SX D a0.2.1) fun b=>some (((a0.1,b.1.1,()),()),())
def YW(D:DX)(n:Nat)(a0:eO):Option ((eO×Unit)×Unit):=O2 D n a0
theorem ag1(D:DX)(n:Nat)(a0:eO):rF D n 85 (a0,())=YW D n a0:=by kernel_rfl
def ah2(D:DX)(n:Nat):Option lB:=some (((List.replicate (Int.toNat 4) 0,0,()),()),())
def OU(D:DX)(n:Nat):Option lB:=ah2 D n
theorem ahB(D:DX)(n:Nat):rF D n 90 ()=OU D n:=by kernel_rfl
def q5u(D:DX)(n:Nat)(go:Int->Int->aB->Option aH)(K0:Int->Option aH)(K1:Option aH)(x0 x1:Int)(x2:aB):Option aH:=br (decide (x1<(x2.1.length:Int))) (br (decide (0<=x1)&&decide (x1<(x2.1.length:Int))) (br (decide (List.getD x2.1 x1.toNat 0=x0)) (K0 x1) (go x0 (wrap .i64 (x1+1)) x2)) none) K1
def TQ(D:DX)(n:Nat)(K0:Int->Option aH)(K1:Option aH):Nat->Int->Int->aB->Option aH | 0=>(fun x0 x1 x2=>none) | m+1=>(fun x0 x1 x2=>q5u D n (TQ D n K0 K1 m) K0 K1 x0 x1 x2)
def Oh(D:DX)(n:Nat)(a:Int):Option aH:=some ((a,()),())
def Oi(D:DX)(n:Nat):Option aH:=some ((-1,()),())
def Za(D:DX)(n:Nat):(Int)->(Int)->aB->Option aH:=(fun x0 x1 x2=>TQ D n (fun a=>Oh D n a) (Oi D n) n x0 x1 x2)
def q9u(D:DX)(n:Nat)(cw:Int->Int->aB->Option aH)(a0:aB)(a1:Int):Option aH:=cw a1 0 a0
def q8c(D:DX)(n:Nat)(a0:aB)(a1:Int):Option aH:=q9u D n (Za D n) a0 a1
def q5t(x0 x1:Int)(x2:aB):St:=bq 21 [(1,AV.val ah x0),(2,AV.addr 2 []),(5,AV.val ah x1)] [(2,aC.mk bS Mk.no x2 true)]
def Of(a:Int):St:=bq 21 [(4,AV.val ah a)] []
def Og:St:=bq 21 [] []
theorem ahZ(D:DX)(n:Nat)(K:KT 91):∀(m:Nat)(x0 x1:Int)(x2:aB),LF D n 91 fe m (q5t x0 x1 x2) K=TQ D n (fun a=>K (Ex.ret) (Of a)) (K (Ex.exit 0) (Og)) m x0 x1 x2:=pH (fun F=>q5u D n F (fun a=>K (Ex.ret) (Of a)) (K (Ex.exit 0) (Og)))
theorem agP(D:DX)(n:Nat)(x0)(x1)(x2):LF D n 91 fe n (q5t x0 x1 x2) (CF D n 91 [] fe (lF 91))=Za D n x0 x1 x2 :=by rw[ahZ];kernel_rfl
theorem ajq(D:DX)(n:Nat)(a0:aB)(a1:Int):rF D n 91 (a0,(a1,()))=q8c D n a0 a1:=by
 have h:rF D n 91 (a0,(a1,()))=q9u D n (fun x0 x1 x2=>LF D n 91 fe n (q5t x0 x1 x2) (CF D n 91 [] fe (lF 91))) a0 a1:=by kernel_rfl
 rw[h];simp only[agP];rfl
def q93(D:DX)(n:Nat)(a0:bt)(a1:List Int):Option pg:=qd (rP D a0 (a1.length:Int)) fun b=>br (decide (0<=b.1.1)&&decide (b.1.1<(a1.length:Int))) (some ((List.getD a1 b.1.1.toNat 0,()),b.2.1,())) none
def qv3(D:DX)(n:Nat)(a0:bt)(a1:List Int):Option pg:=q93 D n a0 a1
theorem afT(D:DX)(n:Nat)(a0:bt)(a1:List Int):rF D n 92 (a0,(a1,()))=qv3 D n a0 a1:=by kernel_rfl
def q4a(D:DX)(n:Nat)(a0:bt):Option ((ak×Unit)×sP):=qd (VF D a0 (List.set (List.set (List.set (List.set (List.set (List.set (List.set (List.set (List.set (List.set (List.set (List.set (List.set (List.set (List.replicate 14 0) 0 1) 1 1) 2 1) 3 2) 4 2) 5 3) 6 4) 7 5) 8 6) 9 7) 10 8) 11 9) 12 9) 13 10)) fun p0=>qd (Wc D p0.1.1) fun jQ=>br jQ.1.1 (qd (rP D p0.2.1 4) fun p1=>br (decide (p0.1.1=6)) (qd (rP D p1.2.1 3) fun p2=>qd (Ci D p0.1.1) fun j_=>br j_.1.1 (qd (rP D p2.2.1 4) fun p6=>some (((p0.1.1,p2.1.1,wrap .i64 (1+p6.1.1),()),()),p6.2.1,())) (some (((p0.1.1,p2.1.1,0,()),()),p2.2.1,()))) (qd (Ci D p0.1.1) fun kY=>br kY.1.1 (qd (rP D p1.2.1 4) fun p7=>some (((p0.1.1,p1.1.1,wrap .i64 (1+p7.1.1),()),()),p7.2.1,())) (some (((p0.1.1,p1.1.1,0,()),()),p1.2.1,())))) (br (decide (p0.1.1=6)) (qd (rP D p0.2.1 3) fun p3=>qd (Ci D p0.1.1) fun p8=>br p8.1.1 (qd (rP D p3.2.1 4) fun p4=>some (((p0.1.1,p3.1.1,wrap .i64 (1+p4.1.1),()),()),p4.2.1,())) (some (((p0.1.1,p3.1.1,0,()),()),p3.2.1,()))) (qd (Ci D p0.1.1) fun p9=>br p9.1.1 (qd (rP D p0.2.1 4) fun p5=>some (((p0.1.1,0,wrap .i64 (1+p5.1.1),()),()),p5.2.1,())) (some (((p0.1.1,0,0,()),()),p0.2.1,()))))
def qry(D:DX)(n:Nat)(a0:bt):Option ((ak×Unit)×sP):=q4a D n a0
theorem aer(D:DX)(n:Nat)(a0:bt):rF D n 93 (a0,())=qry D n a0:=by kernel_rfl
def Pj(D:DX)(n:Nat)(a0:bt):Option pg:=let y1:=wrap .i64 (a0.2.2.1 * 6364136223846793005)+1442695040888963407;let y0:=wrap .i64 (↑(BitVec.toNat (BitVec.xor (BitVec.ofInt (IntKind.bits IntKind.i64) (Int.fdiv (wrap .i64 y1) (Int.pow 2 (if Int.toNat 33<=IntKind.bits IntKind.i64 then Int.toNat 33 else IntKind.bits IntKind.i64)))) (BitVec.ofInt (IntKind.bits IntKind.i64) (Int.fdiv (wrap .i64 y1) (Int.pow 2 (if Int.toNat 45<=IntKind.bits IntKind.i64 then Int.toNat 45 else IntKind.bits IntKind.i64)))))):Int);br (decide (a0.2.1<(a0.1.length:Int))) (br (decide (0<=a0.2.1)&&decide (a0.2.1<(a0.1.length:Int))) (some ((wrap .i64 (↑(BitVec.toNat (BitVec.and (BitVec.ofInt (IntKind.bits IntKind.i64) (wrap .i64 (wrap .i64 (↑(BitVec.toNat (BitVec.and (BitVec.ofInt (IntKind.bits IntKind.i64) y0) (BitVec.ofInt (IntKind.bits IntKind.i64) 255))):Int)+wrap .i64 (List.getD a0.1 a0.2.1.toNat 0)))) (BitVec.ofInt (IntKind.bits IntKind.i64) 255))):Int),()),(a0.1,wrap .i64 (a0.2.1+1),wrap .i64 y1,a0.2.2.2),())) none) (some ((wrap .i64 (↑(BitVec.toNat (BitVec.and (BitVec.ofInt (IntKind.bits IntKind.i64) y0) (BitVec.ofInt (IntKind.bits IntKind.i64) 255))):Int),()),(a0.1,a0.2.1,wrap .i64 y1,a0.2.2.2),()))
def ZG(D:DX)(n:Nat)(a0:bt):Option pg:=Pj D n a0
theorem aiJ(D:DX)(n:Nat)(a0:bt):rF D n 94 (a0,())=ZG D n a0:=by kernel_rfl
def qmm(D:DX)(n:Nat)(a0:List ak):Option mO:=br (decide (Int.toNat (a0.length:Int)=0)) (both (some (([],()),())) (br (decide (0+a0.length<=ga)) (some (([]++a0,()),())) none)) (br (decide (0+a0.length<=ga)) (some (([]++a0,()),())) none)
def qh2(D:DX)(n:Nat)(a0:List ak):Option mO:=qmm D n a0
theorem qxu(D:DX)(n:Nat)(a0:List ak):rF D n 95 (a0,())=qh2 D n a0:=by kernel_rfl
def qzs(D:DX)(n:Nat)(go:Int->aB->List Int->Option dc)(K0:aB->List Int->Option dc)(x0:Int)(x1:aB)(x2:List Int):Option dc:=let y0:=List.getD x1.1 x0.toNat 0;let y1:=wrap .i64 (x0+1);br (decide (x0<4)) (br (decide (0<=x0)&&decide (x0<(x1.1.length:Int))) (qd (q7w D x0) fun p0=>let y2:=List.set x2 p0.1.1.toNat y0;br (decide (0<=p0.1.1)&&decide (p0.1.1<(x2.length:Int))) (br (decide (y0=0)) (go y1 x1 y2) (qd (YD D y0) fun p1=>let y3:=List.set y2 p1.1.1.toNat y1;br (decide (0<=p1.1.1)&&decide (p1.1.1<(y2.length:Int))) (br (decide (x0<wrap .i64 (x1.2.1-1))) (qd (q7y D y0) fun p2=>br (decide (0<=p2.1.1)&&decide (p2.1.1<(y3.length:Int))) (go y1 x1 (List.set y3 p2.1.1.toNat y1)) none) (go y1 x1 y3)) none)) none) none) (K0 x1 x2)
def Tx(D:DX)(n:Nat)(K0:aB->List Int->Option dc):Nat->Int->aB->(List Int)->Option dc | 0=>(fun x0 x1 x2=>none) | m+1=>(fun x0 x1 x2=>qzs D n (Tx D n K0 m) K0 x0 x1 x2)
def qzt(D:DX)(n:Nat)(go:Int->aB->List Int->Option dc)(K0:aB->List Int->Option dc)(a:Int)(c:aB)(d:List Int):Option dc:=br (decide (a<3)) (qd (YB D a) fun b=>qd (YC D c a) fun b_1=>br (decide (0<=b.1.1)&&decide (b.1.1<(d.length:Int))) (go (wrap .i64 (a+1)) c (List.set d b.1.1.toNat b_1.1.1)) none) (K0 c d)
def Tz(D:DX)(n:Nat)(K0:aB->List Int->Option dc):Nat->Int->aB->(List Int)->Option dc | 0=>(fun a b c=>none) | m+1=>(fun a b c=>qzt D n (Tz D n K0 m) K0 a b c)
def qu1(D:DX)(n:Nat)(c:aB)(a:List Int):Option dc:=qd (VV D) fun b=>br (decide (0<=b.1.1)&&decide (b.1.1<(a.length:Int))) (some ((List.set a b.1.1.toNat c.2.1,()),())) none
def VM(D:DX)(n:Nat):(Int)->aB->(List Int)->Option dc:=(fun a d e=>Tz D n (fun b c=>qu1 D n b c) n a d e)
def VC(D:DX)(n:Nat)(mJ:Int->aB->List Int->Option dc)(a:aB)(b:List Int):Option dc:=mJ 0 a b
def qwx(D:DX)(n:Nat):(Int)->aB->(List Int)->Option dc:=(fun x0 x1 x2=>Tx D n (fun a b=>VC D n (VM D n) a b) n x0 x1 x2)
def Zu(D:DX)(n:Nat)(cw:Int->aB->List Int->Option dc)(a0:aB):Option dc:=qd (VZ D a0) fun b=>br (!b.1.1) (some (([],()),())) (cw 0 a0 (List.replicate (Int.toNat 20) 0))
def Y5(D:DX)(n:Nat)(a0:aB):Option dc:=Zu D n (qwx D n) a0
def qzq(x0:Int)(x1:aB)(x2:List Int):St:=bq 62 [(1,AV.addr 1 []),(3,AV.b9 3 [] 0),(4,AV.val ah x0)] [(1,aC.mk bS Mk.no x1 true),(3,aC.mk bG fl x2 false)]
def qu0(a:aB)(b:List Int):St:=bq 62 [(1,AV.addr 1 []),(3,AV.b9 3 [] 0)] [(1,aC.mk bS Mk.no a true),(3,aC.mk bG fl b false)]
def qzr(a:Int)(b:aB)(c:List Int):St:=bq 62 [(1,AV.addr 1 []),(3,AV.b9 3 [] 0),(6,AV.val ah a)] [(1,aC.mk bS Mk.no b true),(3,aC.mk bG fl c false)]
def q6x(a:aB)(b:List Int):St:=bq 62 [(1,AV.addr 1 []),(3,AV.b9 3 [] 0)] [(1,aC.mk bS Mk.no a true),(3,aC.mk bG fl b false)]
theorem agm(D:DX)(n:Nat)(K:KT 96):∀(m:Nat)(x0:Int)(x1:aB)(x2:List Int),LF D n 96 eM m (qzq x0 x1 x2) K=Tx D n (fun a b=>K (Ex.exit 0) (qu0 a b)) m x0 x1 x2:=pH (fun F=>qzs D n F (fun a b=>K (Ex.exit 0) (qu0 a b)))
theorem agn(D:DX)(n:Nat)(K:KT 96):∀(m:Nat)(c:Int)(d:aB)(e:List Int),LF D n 96 ji m (qzr c d e) K=Tz D n (fun a b=>K (Ex.exit 2) (q6x a b)) m c d e:=pH (fun F=>qzt D n F (fun a b=>K (Ex.exit 2) (q6x a b)))
theorem afs(D:DX)(n:Nat)(a:Int)(b:aB)(c:List Int):LF D n 96 ji n (qzr a b c) (CF D n 96 [] ji (lF 96))=VM D n a b c :=by rw[agn];kernel_rfl
theorem aft(D:DX)(n:Nat)(a:aB)(b:List Int):(CF D n 96 [] eM (lF 96)) (Ex.exit 0) (qu0 a b)=VC D n (fun c d e=>LF D n 96 ji n (qzr c d e) (CF D n 96 [] ji (lF 96))) a b:=by kernel_rfl
theorem afr(D:DX)(n:Nat)(x0)(x1)(x2):LF D n 96 eM n (qzq x0 x1 x2) (CF D n 96 [] eM (lF 96))=qwx D n x0 x1 x2:=by rw[agm];simp only[aft,afs];rfl
theorem ahD(D:DX)(n:Nat)(a0:aB):rF D n 96 (a0,())=Y5 D n a0:=by
 have h:rF D n 96 (a0,())=Zu D n (fun x0 x1 x2=>LF D n 96 eM n (qzq x0 x1 x2) (CF D n 96 [] eM (lF 96))) a0:=by kernel_rfl
 rw[h];simp only[afr];rfl
def aao(D:DX)(n:Nat)(a0 a1 a2:Int):Option ag:=some ((bif decide (a0>=a1) then decide (a0<=a2) else false,()),())
def PO(D:DX)(n:Nat)(a0 a1 a2:Int):Option ag:=aao D n a0 a1 a2
theorem aaj(D:DX)(n:Nat)(a0 a1 a2:Int):rF D n 97 (a0,(a1,(a2,())))=PO D n a0 a1 a2:=by kernel_rfl
def q5y(D:DX)(n:Nat)(go:Int->aU->Option ag)(K0:Bool->aU->Option ag)(K1:aU->Option ag)(x0:Int)(x1:aU):Option ag:=br (decide (x0<(x1.2.1.length:Int))) (br (decide (0<=x0)&&decide (x0<(x1.2.1.length:Int))) (qd (ZQ D (List.getD x1.2.1 x0.toNat (0,0,[],(0,[],()),()))) fun b=>br (!b.1.1) (K0 false x1) (go (wrap .i64 (x0+1)) x1)) none) (K1 x1)
def TR(D:DX)(n:Nat)(K0:Bool->aU->Option ag)(K1:aU->Option ag):Nat->Int->aU->Option ag | 0=>(fun x0 x1=>none) | m+1=>(fun x0 x1=>q5y D n (TR D n K0 K1 m) K0 K1 x0 x1)
def Ol(D:DX)(n:Nat)(a:Bool)(b:aU):Option ag:=some ((a,()),())
def q5z(D:DX)(n:Nat)(go:Int->aU->Option ag)(K0:Bool->Option ag)(K1:Option ag)(b:Int)(a:aU):Option ag:=let y0:=List.getD a.1 b.toNat (0,0,0,());let y1:=List.getD a.2.1 (Int.toNat (wrap .i64 (y0.2.1-1))) (0,0,[],(0,[],()),());br (decide (b<(a.1.length:Int))) (br (decide (0<=b)&&decide (b<(a.1.length:Int))) (qd (O_ D y0 (a.2.1.length:Int)) fun p0=>br (!p0.1.1) (K0 false) (br (decide (y0.2.1>0)) (br (decide (0<=wrap .i64 (y0.2.1-1))&&decide (wrap .i64 (y0.2.1-1)<(a.2.1.length:Int))) (qd (ag_ D y1 b) fun p1=>br (!p1.1.2.1) (K0 false) (br (decide (0<=wrap .i64 (y0.2.1-1))&&decide (wrap .i64 (y0.2.1-1)<(a.2.1.length:Int))) (br (y1.1 != y0.2.2.1) (K0 false) (go (wrap .i64 (b+1)) a)) none)) none) (go (wrap .i64 (b+1)) a))) none) K1
def TS(D:DX)(n:Nat)(K0:Bool->Option ag)(K1:Option ag):Nat->Int->aU->Option ag | 0=>(fun a b=>none) | m+1=>(fun a b=>q5z D n (TS D n K0 K1 m) K0 K1 a b)
def agV(D:DX)(n:Nat)(a:Bool):Option ag:=some ((a,()),())
def agW(D:DX)(n:Nat):Option ag:=some ((true,()),())
def Ze(D:DX)(n:Nat):(Int)->aU->Option ag:=(fun a b=>TS D n (fun c=>agV D n c) (agW D n) n a b)
def qzn(D:DX)(n:Nat)(mJ:Int->aU->Option ag)(a:aU):Option ag:=mJ 0 a
def Zd(D:DX)(n:Nat):(Int)->aU->Option ag:=(fun x0 x1=>TR D n (fun a b=>Ol D n a b) (fun c=>qzn D n (Ze D n) c) n x0 x1)
def q9x(D:DX)(n:Nat)(cw:Int->aU->Option ag)(a0:aU):Option ag:=br ((a0.1.length:Int) != 20) (some ((false,()),())) (qd (lY D (a0.2.1.length:Int) 1 4) fun b=>br (!b.1.1) (some ((false,()),())) (cw 0 a0))
def q8e(D:DX)(n:Nat)(a0:aU):Option ag:=q9x D n (Zd D n) a0
def q5w(x0:Int)(x1:aU):St:=bq 81 [(1,AV.addr 1 []),(3,AV.val ah x0)] [(1,aC.mk jY Mk.no x1 true)]
def qzl(a:Bool)(b:aU):St:=bq 81 [(1,AV.addr 1 []),(2,AV.val Ty.bool a)] [(1,aC.mk jY Mk.no b true)]
def qzm(a:aU):St:=bq 81 [(1,AV.addr 1 [])] [(1,aC.mk jY Mk.no a true)]
def q5x(a:Int)(b:aU):St:=bq 81 [(1,AV.addr 1 []),(4,AV.val ah a)] [(1,aC.mk jY Mk.no b true)]
def Oj(a:Bool):St:=bq 81 [(2,AV.val Ty.bool a)] []
def Ok:St:=bq 81 [] []
theorem ah0(D:DX)(n:Nat)(K:KT 98):∀(m:Nat)(x0:Int)(x1:aU),LF D n 98 cz m (q5w x0 x1) K=TR D n (fun a b=>K (Ex.ret) (qzl a b)) (fun c=>K (Ex.exit 0) (qzm c)) m x0 x1:=DW (fun F=>q5y D n F (fun a b=>K (Ex.ret) (qzl a b)) (fun c=>K (Ex.exit 0) (qzm c)))
theorem ah1(D:DX)(n:Nat)(K:KT 98):∀(m:Nat)(b:Int)(c:aU),LF D n 98 eM m (q5x b c) K=TS D n (fun a=>K (Ex.ret) (Oj a)) (K (Ex.exit 2) (Ok)) m b c:=DW (fun F=>q5z D n F (fun a=>K (Ex.ret) (Oj a)) (K (Ex.exit 2) (Ok)))
theorem agS(D:DX)(n:Nat)(a:Int)(b:aU):LF D n 98 eM n (q5x a b) (CF D n 98 [] eM (lF 98))=Ze D n a b :=by rw[ah1];kernel_rfl
theorem agT(D:DX)(n:Nat)(a:Bool)(b:aU):(CF D n 98 [] cz (lF 98)) (Ex.ret) (qzl a b)=Ol D n a b:=by kernel_rfl
theorem agU(D:DX)(n:Nat)(a:aU):(CF D n 98 [] cz (lF 98)) (Ex.exit 0) (qzm a)=qzn D n (fun b c=>LF D n 98 eM n (q5x b c) (CF D n 98 [] eM (lF 98))) a:=by kernel_rfl
theorem agR(D:DX)(n:Nat)(x0)(x1):LF D n 98 cz n (q5w x0 x1) (CF D n 98 [] cz (lF 98))=Zd D n x0 x1:=by rw[ah0];simp only[agT,agU,agS];rfl
theorem ajs(D:DX)(n:Nat)(a0:aU):rF D n 98 (a0,())=q8e D n a0:=by
 have h:rF D n 98 (a0,())=q9x D n (fun x0 x1=>LF D n 98 cz n (q5w x0 x1) (CF D n 98 [] cz (lF 98))) a0:=by kernel_rfl
 rw[h];simp only[agR];rfl
def Zg(D:DX)(n:Nat)(go:Int->aB->Option ag)(K0:Bool->aB->Option ag)(K1:aB->Option ag)(x0:Int)(x1:aB):Option ag:=br (decide (x0<(x1.1.length:Int))) (br (decide (0<=x0)&&decide (x0<(x1.1.length:Int))) (br (List.getD x1.1 x0.toNat 0 != 0) (br (decide (0<=x0)&&decide (x0<(x1.1.length:Int))) (qd (Dq D (List.getD x1.1 x0.toNat 0)) fun p0=>br (!p0.1.1) (K0 false x1) (br (decide (0<=x0)&&decide (x0<(x1.1.length:Int))) (qd (Wa D x1 (List.getD x1.1 x0.toNat 0)) fun p1=>br (p1.1.1 != x0) (K0 false x1) (go (wrap .i64 (x0+1)) x1)) none)) none) (go (wrap .i64 (x0+1)) x1)) none) (K1 x1)
def TB(D:DX)(n:Nat)(K0:Bool->aB->Option ag)(K1:aB->Option ag):Nat->Int->aB->Option ag | 0=>(fun x0 x1=>none) | m+1=>(fun x0 x1=>Zg D n (TB D n K0 K1 m) K0 K1 x0 x1)
def q90(D:DX)(n:Nat)(a:Bool)(b:aB):Option ag:=some ((a,()),())
def qwq(D:DX)(n:Nat)(a:aB):Option ag:=br (decide ((a.1.length:Int)=4)) (qd (lY D a.2.1 0 5) fun b=>some ((b.1.1,()),())) (some ((false,()),()))
def qzo(D:DX)(n:Nat):(Int)->aB->Option ag:=(fun x0 x1=>TB D n (fun a b=>q90 D n a b) (fun c=>qwq D n c) n x0 x1)
def Z2(D:DX)(n:Nat)(cw:Int->aB->Option ag)(a0:aB):Option ag:=cw 0 a0
def ZE(D:DX)(n:Nat)(a0:aB):Option ag:=Z2 D n (qzo D n) a0
def Zf(x0:Int)(x1:aB):St:=bq 46 [(1,AV.addr 1 []),(3,AV.val ah x0)] [(1,aC.mk bS Mk.no x1 true)]
def q9y(a:Bool)(b:aB):St:=bq 46 [(1,AV.addr 1 []),(2,AV.val Ty.bool a)] [(1,aC.mk bS Mk.no b true)]
def q9z(a:aB):St:=bq 46 [(1,AV.addr 1 [])] [(1,aC.mk bS Mk.no a true)]
theorem agX(D:DX)(n:Nat)(K:KT 99):∀(m:Nat)(x0:Int)(x1:aB),LF D n 99 fe m (Zf x0 x1) K=TB D n (fun a b=>K (Ex.ret) (q9y a b)) (fun c=>K (Ex.exit 0) (q9z c)) m x0 x1:=DW (fun F=>Zg D n F (fun a b=>K (Ex.ret) (q9y a b)) (fun c=>K (Ex.exit 0) (q9z c)))
theorem agl(D:DX)(n:Nat)(x0)(x1):LF D n 99 fe n (Zf x0 x1) (CF D n 99 [] fe (lF 99))=qzo D n x0 x1 :=by rw[agX];kernel_rfl
theorem aiH(D:DX)(n:Nat)(a0:aB):rF D n 99 (a0,())=ZE D n a0:=by
 have h:rF D n 99 (a0,())=Z2 D n (fun x0 x1=>LF D n 99 fe n (Zf x0 x1) (CF D n 99 [] fe (lF 99))) a0:=by kernel_rfl
 rw[h];simp only[agl];rfl
def qzx(D:DX)(n:Nat)(go:Int->Int->aD->Option ag)(K0:Bool->Int->aD->Option ag)(K1:Int->aD->Option ag)(x0 x1:Int)(x2:aD):Option ag:=let y0:=List.getD x2.2.2.2.1 x1.toNat (0,(0,0,0,()),0,0,0,(0,[],()),());br (decide (x1<(x2.2.2.2.1.length:Int))) (br (decide (0<=x1)&&decide (x1<(x2.2.2.2.1.length:Int))) (qd (aik D x2 y0) fun p0=>br (!p0.1.1) (K0 false x0 x2) (br (decide (0<=x1)&&decide (x1<(x2.2.2.2.1.length:Int))) (qd (TW D (decide (y0.2.2.2.1>=0))) fun p1=>go (wrap .i64 (x0+p1.1.1)) (wrap .i64 (x1+1)) x2) none)) none) (K1 x0 x2)
def VP(D:DX)(n:Nat)(K0:Bool->Int->aD->Option ag)(K1:Int->aD->Option ag):Nat->Int->Int->aD->Option ag | 0=>(fun x0 x1 x2=>none) | m+1=>(fun x0 x1 x2=>qzx D n (VP D n K0 K1 m) K0 K1 x0 x1 x2)
def q60(D:DX)(n:Nat)(a:Bool)(b:Int)(c:aD):Option ag:=some ((a,()),())
def OF(D:DX)(n:Nat)(go:Int->Int->Int->Int->aD->Option ag)(K0:Bool->Int->Int->aD->Option ag)(K1:Int->Int->aD->Option ag)(d c e a:Int)(b:aD):Option ag:=br (decide (a<c)) (br (decide (0<=a)&&decide (a<(b.2.2.2.2.1.length:Int))) (br (decide (List.getD b.2.2.2.2.1 a.toNat 0=e)) (K0 false d c b) (go d c e (wrap .i64 (a+1)) b)) none) (K1 d c b)
def qzu(D:DX)(n:Nat)(K0:Bool->Int->Int->aD->Option ag)(K1:Int->Int->aD->Option ag):Nat->Int->Int->Int->Int->aD->Option ag | 0=>(fun a b c d e=>none) | m+1=>(fun a b c d e=>OF D n (qzu D n K0 K1 m) K0 K1 a b c d e)
def afA(D:DX)(n:Nat)(go:Int->Int->aD->Option ag)(K0:Bool->Int->aD->Option ag)(K1:Int->aD->Option ag)(a:Bool)(b d:Int)(c:aD):Option ag:=K0 a b c
def afB(D:DX)(n:Nat)(go:Int->Int->aD->Option ag)(K0:Bool->Int->aD->Option ag)(K1:Int->aD->Option ag)(a b:Int)(c:aD):Option ag:=go a (wrap .i64 (b+1)) c
def q95(D:DX)(n:Nat)(go:Int->Int->aD->Option ag)(K0:Bool->Int->aD->Option ag)(K1:Int->aD->Option ag):(Int)->(Int)->(Int)->(Int)->aD->Option ag:=(fun a b j k l=>qzu D n (fun c d e f=>afA D n go K0 K1 c d e f) (fun g h i=>afB D n go K0 K1 g h i) n a b j k l)
def qzy(D:DX)(n:Nat)(go:Int->Int->aD->Option ag)(K0:Bool->Int->aD->Option ag)(K1:Int->aD->Option ag)(Js:Int->Int->Int->Int->aD->Option ag)(c b:Int)(a:aD):Option ag:=let y0:=List.getD a.2.2.2.2.1 b.toNat 0;let y1:=List.getD a.2.2.2.1 (Int.toNat y0) (0,(0,0,0,()),0,0,0,(0,[],()),());let y2:=Int.toNat (wrap .i64 (b-1));br (decide (b<(a.2.2.2.2.1.length:Int))) (br (decide (0<=b)&&decide (b<(a.2.2.2.2.1.length:Int))) (qd (lY D y0 0 (wrap .i64 ((a.2.2.2.1.length:Int)-1))) fun p0=>br (!p0.1.1) (K0 false c a) (br (decide (0<=y0)&&decide (y0<(a.2.2.2.1.length:Int))) (br (decide (y1.2.2.2.1<0)) (K0 false c a) (br (decide (b>0)) (br (decide (0<=wrap .i64 (b-1))&&decide (wrap .i64 (b-1)<(a.2.2.2.2.1.length:Int))) (br (decide (0<=List.getD a.2.2.2.2.1 y2 0)&&decide (List.getD a.2.2.2.2.1 y2 0<(a.2.2.2.1.length:Int))) (br (decide (0<=y0)&&decide (y0<(a.2.2.2.1.length:Int))) (br (decide ((List.getD a.2.2.2.1 (Int.toNat (List.getD a.2.2.2.2.1 y2 0)) (0,(0,0,0,()),0,0,0,(0,[],()),())).2.2.2.1>y1.2.2.2.1)) (K0 false c a) (Js c b y0 0 a)) none) none) none) (Js c b y0 0 a))) none)) none) (K1 c a)
def J0(D:DX)(n:Nat)(K0:Bool->Int->aD->Option ag)(K1:Int->aD->Option ag):Nat->Int->Int->aD->Option ag | 0=>(fun a b c=>none) | m+1=>(fun a b c=>qzy D n (J0 D n K0 K1 m) K0 K1 (q95 D n (J0 D n K0 K1 m) K0 K1) a b c)
def afz(D:DX)(n:Nat)(a:Bool)(b:Int)(c:aD):Option ag:=some ((a,()),())
def q61(D:DX)(n:Nat)(b:Int)(a:aD):Option ag:=some ((bif decide ((a.2.2.2.1.length:Int)<=40) then decide (b=(a.2.2.2.2.1.length:Int)) else false,()),())
def qwz(D:DX)(n:Nat):(Int)->(Int)->aD->Option ag:=(fun a b h=>J0 D n (fun c d e=>afz D n c d e) (fun f g=>q61 D n f g) n a b h)
def qu4(D:DX)(n:Nat)(mJ:Int->Int->aD->Option ag)(a:Int)(b:aD):Option ag:=mJ a 0 b
def qwy(D:DX)(n:Nat):(Int)->(Int)->aD->Option ag:=(fun x0 x1 x2=>VP D n (fun a b c=>q60 D n a b c) (fun d e=>qu4 D n (qwz D n) d e) n x0 x1 x2)
def Zw(D:DX)(n:Nat)(cw:Int->Int->aD->Option ag)(a0:aD):Option ag:=cw 0 0 a0
def Y7(D:DX)(n:Nat)(a0:aD):Option ag:=Zw D n (qwy D n) a0
def qzv(x0 x1:Int)(x2:aD):St:=bq 108 [(1,AV.addr 1 []),(3,AV.val ah x0),(4,AV.val ah x1)] [(1,aC.mk cK Mk.no x2 true)]
def qu2(a:Bool)(b:Int)(c:aD):St:=bq 108 [(1,AV.addr 1 []),(2,AV.val Ty.bool a),(3,AV.val ah b)] [(1,aC.mk cK Mk.no c true)]
def qu3(a:Int)(b:aD):St:=bq 108 [(1,AV.addr 1 []),(3,AV.val ah a)] [(1,aC.mk cK Mk.no b true)]
def IG(a b:Int)(c:aD):St:=bq 108 [(1,AV.addr 1 []),(3,AV.val ah a),(5,AV.val ah b)] [(1,aC.mk cK Mk.no c true)]
def VD(a:Bool)(b:Int)(c:aD):St:=bq 108 [(1,AV.addr 1 []),(2,AV.val Ty.bool a),(3,AV.val ah b)] [(1,aC.mk cK Mk.no c true)]
def VE(a:Int)(b:aD):St:=bq 108 [(1,AV.addr 1 []),(3,AV.val ah a)] [(1,aC.mk cK Mk.no b true)]
def qzw(a b c d:Int)(e:aD):St:=bq 108 [(1,AV.addr 1 []),(3,AV.val ah a),(5,AV.val ah b),(6,AV.val ah c),(7,AV.val ah d)] [(1,aC.mk cK Mk.no e true)]
def q6y(a:Bool)(b c:Int)(d:aD):St:=bq 108 [(1,AV.addr 1 []),(2,AV.val Ty.bool a),(3,AV.val ah b),(5,AV.val ah c)] [(1,aC.mk cK Mk.no d true)]
def q6z(a b:Int)(c:aD):St:=bq 108 [(1,AV.addr 1 []),(3,AV.val ah a),(5,AV.val ah b)] [(1,aC.mk cK Mk.no c true)]
theorem ago(D:DX)(n:Nat)(K:KT 100):∀(m:Nat)(x0 x1:Int)(x2:aD),LF D n 100 cz m (qzv x0 x1 x2) K=VP D n (fun a b c=>K (Ex.ret) (qu2 a b c)) (fun d e=>K (Ex.exit 0) (qu3 d e)) m x0 x1 x2:=pH (fun F=>qzx D n F (fun a b c=>K (Ex.ret) (qu2 a b c)) (fun d e=>K (Ex.exit 0) (qu3 d e)))
theorem agp(D:DX)(n:Nat)(K:KT 100):∀(m:Nat)(h i j k:Int)(l:aD),LF D n 100 EP m (qzw h i j k l) K=qzu D n (fun a b c d=>K (Ex.ret) (q6y a b c d)) (fun e f g=>K (Ex.exit 4) (q6z e f g)) m h i j k l:=oP (fun F=>OF D n F (fun a b c d=>K (Ex.ret) (q6y a b c d)) (fun e f g=>K (Ex.exit 4) (q6z e f g)))
theorem afw(D:DX)(n:Nat)(m:Nat)(K:KT 100)(a b c d:Int)(e:aD):LF D n 100 EP n (qzw a b c d e) (CF D n 100 [.r,.r,.r,.l,.r,.l,.l] [.r,.l,.l,.r,.r,.r,.l] (KF D n 100 eM m K))=q95 D n (fun k o p=>LF D n 100 eM m (IG k o p) K) (fun f g h=>K (Ex.ret) (VD f g h)) (fun i j=>K (Ex.exit 2) (VE i j)) a b c d e :=by rw[agp];kernel_rfl
theorem agq(D:DX)(n:Nat)(m:Nat)(K:KT 100)(a b:Int)(c:aD):LF D n 100 eM (m+1) (IG a b c) K=qzy D n (fun a b c=>LF D n 100 eM m (IG a b c) K) (fun d e f=>K (Ex.ret) (VD d e f)) (fun g h=>K (Ex.exit 2) (VE g h)) (fun i j k o p=>LF D n 100 EP n (qzw i j k o p) (CF D n 100 [.r,.r,.r,.l,.r,.l,.l] [.r,.l,.l,.r,.r,.r,.l] (KF D n 100 eM m K))) a b c:=by kernel_rfl
theorem q94(D:DX)(n:Nat)(K:KT 100):∀(m:Nat)(a b:Int)(c:aD),LF D n 100 eM m (IG a b c) K=J0 D n (fun d e f=>K (Ex.ret) (VD d e f)) (fun g h=>K (Ex.exit 2) (VE g h)) m a b c
 | 0,a,b,c=>sH ..
 | m+1,a,b,c=>by
  have ih:(fun a b c=>LF D n 100 eM m (IG a b c) K)=J0 D n (fun d e f=>K (Ex.ret) (VD d e f)) (fun g h=>K (Ex.exit 2) (VE g h)) m:=by funext a b c;exact q94 D n K m a b c
  rw[agq];simp only[afw];rw[ih];rfl
theorem afv(D:DX)(n:Nat)(a b:Int)(c:aD):LF D n 100 eM n (IG a b c) (CF D n 100 [] eM (lF 100))=qwz D n a b c :=by rw[q94];kernel_rfl
theorem afx(D:DX)(n:Nat)(a:Bool)(b:Int)(c:aD):(CF D n 100 [] cz (lF 100)) (Ex.ret) (qu2 a b c)=q60 D n a b c:=by kernel_rfl
theorem afy(D:DX)(n:Nat)(a:Int)(b:aD):(CF D n 100 [] cz (lF 100)) (Ex.exit 0) (qu3 a b)=qu4 D n (fun c d e=>LF D n 100 eM n (IG c d e) (CF D n 100 [] eM (lF 100))) a b:=by kernel_rfl
theorem afu(D:DX)(n:Nat)(x0)(x1)(x2):LF D n 100 cz n (qzv x0 x1 x2) (CF D n 100 [] cz (lF 100))=qwy D n x0 x1 x2:=by rw[ago];simp only[afx,afy,afv];rfl
theorem ahF(D:DX)(n:Nat)(a0:aD):rF D n 100 (a0,())=Y7 D n a0:=by
 have h:rF D n 100 (a0,())=Zw D n (fun x0 x1 x2=>LF D n 100 cz n (qzv x0 x1 x2) (CF D n 100 [] cz (lF 100))) a0:=by kernel_rfl
 rw[h];simp only[afu];rfl
def qwu(D:DX)(n:Nat)(go:Int->Int->aR->Option ag)(K0:Int->Bool->aR->Option ag)(K1:Int->aR->Option ag)(x0 x1:Int)(x2:aR):Option ag:=br (decide (x1<(x2.1.length:Int))) (br (decide (0<=x1)&&decide (x1<(x2.1.length:Int))) (qd (UX D (List.getD x2.1 x1.toNat (0,0,0,()))) fun b=>br (!b.1.1) (K0 x0 false x2) (go x0 (wrap .i64 (x1+1)) x2)) none) (K1 x0 x2)
def Tm(D:DX)(n:Nat)(K0:Int->Bool->aR->Option ag)(K1:Int->aR->Option ag):Nat->Int->Int->aR->Option ag | 0=>(fun x0 x1 x2=>none) | m+1=>(fun x0 x1 x2=>qwu D n (Tm D n K0 K1 m) K0 K1 x0 x1 x2)
def q38(D:DX)(n:Nat)(b:Int)(a:Bool)(c:aR):Option ag:=some ((a,()),())
def qwv(D:DX)(n:Nat)(go:Int->Int->aR->Option ag)(K0:Int->Bool->aR->Option ag)(K1:Int->aR->Option ag)(c b:Int)(a:aR):Option ag:=let y0:=List.getD a.2.2.2.1 b.toNat (0,0,());br (decide (b<(a.2.2.2.1.length:Int))) (br (decide (0<=b)&&decide (b<(a.2.2.2.1.length:Int))) (qd (lY D y0.1 0 19) fun p0=>br (!p0.1.1) (K0 c false a) (br (decide (0<=b)&&decide (b<(a.2.2.2.1.length:Int))) (qd (lY D y0.2.1 0 1000) fun p1=>br (!p1.1.1) (K0 c false a) (go c (wrap .i64 (b+1)) a)) none)) none) (K1 c a)
def VK(D:DX)(n:Nat)(K0:Int->Bool->aR->Option ag)(K1:Int->aR->Option ag):Nat->Int->Int->aR->Option ag | 0=>(fun a b c=>none) | m+1=>(fun a b c=>qwv D n (VK D n K0 K1 m) K0 K1 a b c)
def q39(D:DX)(n:Nat)(b:Int)(a:Bool)(c:aR):Option ag:=some ((a,()),())
def qww(D:DX)(n:Nat)(go:Int->Int->aR->Option ag)(K0:Bool->Option ag)(K1:Option ag)(c a:Int)(b:aR):Option ag:=let y0:=List.getD b.2.2.2.2.1 a.toNat (0,0,0,0,());br (decide (a<(b.2.2.2.2.1.length:Int))) (br (decide (0<=a)&&decide (a<(b.2.2.2.2.1.length:Int))) (br (bif decide (y0.1<0) then true else decide (y0.1>=c)) (K0 false) (qd (lY D y0.2.1 1 1000000) fun p0=>br (!p0.1.1) (K0 false) (qd (lY D y0.2.2.1 0 20) fun p1=>br (!p1.1.1) (K0 false) (qd (lY D y0.2.2.2.1 0 20) fun p2=>br (!p2.1.1) (K0 false) (go c (wrap .i64 (a+1)) b))))) none) K1
def VL(D:DX)(n:Nat)(K0:Bool->Option ag)(K1:Option ag):Nat->Int->Int->aR->Option ag | 0=>(fun a b c=>none) | m+1=>(fun a b c=>qww D n (VL D n K0 K1 m) K0 K1 a b c)
def aeB(D:DX)(n:Nat)(a:Bool):Option ag:=some ((a,()),())
def aeC(D:DX)(n:Nat):Option ag:=some ((true,()),())
def quz(D:DX)(n:Nat):(Int)->(Int)->aR->Option ag:=(fun a b d=>VL D n (fun c=>aeB D n c) (aeC D n) n a b d)
def qs1(D:DX)(n:Nat)(Js:Int->Int->aR->Option ag)(a:Int)(b:aR):Option ag:=Js a 0 b
def quy(D:DX)(n:Nat):(Int)->(Int)->aR->Option ag:=(fun a b h=>VK D n (fun c d e=>q39 D n c d e) (fun f g=>qs1 D n (quz D n) f g) n a b h)
def qs0(D:DX)(n:Nat)(mJ:Int->Int->aR->Option ag)(a:Int)(b:aR):Option ag:=mJ a 0 b
def qux(D:DX)(n:Nat):(Int)->(Int)->aR->Option ag:=(fun x0 x1 x2=>Tm D n (fun a b c=>q38 D n a b c) (fun d e=>qs0 D n (quy D n) d e) n x0 x1 x2)
def qzp(D:DX)(n:Nat)(cw:Int->Int->aR->Option ag)(a0:aR)(a1:Int):Option ag:=br (decide ((a0.1.length:Int)>8)) (some ((false,()),())) (qd (lY D a0.2.1 0 (a0.1.length:Int)) fun p0=>br (bif !p0.1.1 then true else bif a0.2.2.1 then decide (a0.2.1>=(a0.1.length:Int)) else false) (some ((false,()),())) (br (!a0.2.2.1) (br (bif bif decide (wrap .i64 ((a0.2.2.2.1.length:Int)+(a0.2.2.2.2.1.length:Int))>0) then true else decide ((a0.2.2.2.1.length:Int)>12) then true else decide ((a0.2.2.2.2.1.length:Int)>2)) (some ((false,()),())) (cw a1 0 a0)) (br (bif bif false then true else decide ((a0.2.2.2.1.length:Int)>12) then true else decide ((a0.2.2.2.2.1.length:Int)>2)) (some ((false,()),())) (cw a1 0 a0))))
def qx0(D:DX)(n:Nat)(a0:aR)(a1:Int):Option ag:=qzp D n (qux D n) a0 a1
def qwr(x0 x1:Int)(x2:aR):St:=bq 139 [(1,AV.val ah x0),(2,AV.addr 2 []),(5,AV.val ah x1)] [(2,aC.mk jZ Mk.no x2 true)]
def qsw(a:Int)(b:Bool)(c:aR):St:=bq 139 [(1,AV.val ah a),(2,AV.addr 2 []),(4,AV.val Ty.bool b)] [(2,aC.mk jZ Mk.no c true)]
def qsx(a:Int)(b:aR):St:=bq 139 [(1,AV.val ah a),(2,AV.addr 2 [])] [(2,aC.mk jZ Mk.no b true)]
def qws(a b:Int)(c:aR):St:=bq 139 [(1,AV.val ah a),(2,AV.addr 2 []),(6,AV.val ah b)] [(2,aC.mk jZ Mk.no c true)]
def qsy(a:Int)(b:Bool)(c:aR):St:=bq 139 [(1,AV.val ah a),(2,AV.addr 2 []),(4,AV.val Ty.bool b)] [(2,aC.mk jZ Mk.no c true)]
def qsz(a:Int)(b:aR):St:=bq 139 [(1,AV.val ah a),(2,AV.addr 2 [])] [(2,aC.mk jZ Mk.no b true)]
def qwt(a b:Int)(c:aR):St:=bq 139 [(1,AV.val ah a),(2,AV.addr 2 []),(7,AV.val ah b)] [(2,aC.mk jZ Mk.no c true)]
def q36(a:Bool):St:=bq 139 [(4,AV.val Ty.bool a)] []
def q37:St:=bq 139 [] []
theorem afo(D:DX)(n:Nat)(K:KT 101):∀(m:Nat)(x0 x1:Int)(x2:aR),LF D n 101 cz m (qwr x0 x1 x2) K=Tm D n (fun a b c=>K (Ex.ret) (qsw a b c)) (fun d e=>K (Ex.exit 0) (qsx d e)) m x0 x1 x2:=pH (fun F=>qwu D n F (fun a b c=>K (Ex.ret) (qsw a b c)) (fun d e=>K (Ex.exit 0) (qsx d e)))
theorem afp(D:DX)(n:Nat)(K:KT 101):∀(m:Nat)(f g:Int)(h:aR),LF D n 101 eM m (qws f g h) K=VK D n (fun a b c=>K (Ex.ret) (qsy a b c)) (fun d e=>K (Ex.exit 2) (qsz d e)) m f g h:=pH (fun F=>qwv D n F (fun a b c=>K (Ex.ret) (qsy a b c)) (fun d e=>K (Ex.exit 2) (qsz d e)))
theorem afq(D:DX)(n:Nat)(K:KT 101):∀(m:Nat)(b c:Int)(d:aR),LF D n 101 ji m (qwt b c d) K=VL D n (fun a=>K (Ex.ret) (q36 a)) (K (Ex.exit 4) (q37)) m b c d:=pH (fun F=>qww D n F (fun a=>K (Ex.ret) (q36 a)) (K (Ex.exit 4) (q37)))
theorem aeH(D:DX)(n:Nat)(a b:Int)(c:aR):LF D n 101 ji n (qwt a b c) (CF D n 101 [] ji (lF 101))=quz D n a b c :=by rw[afq];kernel_rfl
theorem aez(D:DX)(n:Nat)(a:Int)(b:Bool)(c:aR):(CF D n 101 [] eM (lF 101)) (Ex.ret) (qsy a b c)=q39 D n a b c:=by kernel_rfl
theorem aeA(D:DX)(n:Nat)(a:Int)(b:aR):(CF D n 101 [] eM (lF 101)) (Ex.exit 2) (qsz a b)=qs1 D n (fun c d e=>LF D n 101 ji n (qwt c d e) (CF D n 101 [] ji (lF 101))) a b:=by kernel_rfl
theorem aeG(D:DX)(n:Nat)(a b:Int)(c:aR):LF D n 101 eM n (qws a b c) (CF D n 101 [] eM (lF 101))=quy D n a b c:=by rw[afp];simp only[aez,aeA,aeH];rfl
theorem aex(D:DX)(n:Nat)(a:Int)(b:Bool)(c:aR):(CF D n 101 [] cz (lF 101)) (Ex.ret) (qsw a b c)=q38 D n a b c:=by kernel_rfl
theorem aey(D:DX)(n:Nat)(a:Int)(b:aR):(CF D n 101 [] cz (lF 101)) (Ex.exit 0) (qsx a b)=qs0 D n (fun c d e=>LF D n 101 eM n (qws c d e) (CF D n 101 [] eM (lF 101))) a b:=by kernel_rfl
theorem aeF(D:DX)(n:Nat)(x0)(x1)(x2):LF D n 101 cz n (qwr x0 x1 x2) (CF D n 101 [] cz (lF 101))=qux D n x0 x1 x2:=by rw[afo];simp only[aex,aey,aeG];rfl
theorem agz(D:DX)(n:Nat)(a0:aR)(a1:Int):rF D n 101 (a0,(a1,()))=qx0 D n a0 a1:=by
 have h:rF D n 101 (a0,(a1,()))=qzp D n (fun x0 x1 x2=>LF D n 101 cz n (qwr x0 x1 x2) (CF D n 101 [] cz (lF 101))) a0 a1:=by kernel_rfl
 rw[h];simp only[aeF];rfl
def qw2(D:DX)(n:Nat)(go:Int->Int->Int->Int->aD->aR->Option ag)(K0:Bool->Int->Int->aD->aR->Option ag)(K1:Int->Int->aD->aR->Option ag)(x0 x1 x2 x3:Int)(x4:aD)(x5:aR):Option ag:=let y0:=List.getD x4.2.2.2.1 x3.toNat (0,(0,0,0,()),0,0,0,(0,[],()),());let y1:=wrap .i64 (x3+1);br (decide (x3<(x4.2.2.2.1.length:Int))) (br (decide (0<=x3)&&decide (x3<(x4.2.2.2.1.length:Int))) (br (y0.1 != x0) (go x0 x1 x2 y1 x4 x5) (br (decide (0<=x3)&&decide (x3<(x4.2.2.2.1.length:Int))) (br (decide (y0.2.2.2.2.1>=0)) (go x0 x1 (wrap .i64 (x2+1)) y1 x4 x5) (br (bif !x5.2.2.1 then true else x3 != x1) (K0 false x1 x2 x4 x5) (go x0 x1 x2 y1 x4 x5))) none)) none) (K1 x1 x2 x4 x5)
def VN(D:DX)(n:Nat)(K0:Bool->Int->Int->aD->aR->Option ag)(K1:Int->Int->aD->aR->Option ag):Nat->Int->Int->Int->Int->aD->aR->Option ag | 0=>(fun x0 x1 x2 x3 x4 x5=>none) | m+1=>(fun x0 x1 x2 x3 x4 x5=>qw2 D n (VN D n K0 K1 m) K0 K1 x0 x1 x2 x3 x4 x5)
def aeK(D:DX)(n:Nat)(a:Bool)(b c:Int)(d:aD)(e:aR):Option ag:=some ((a,()),())
def q4e(D:DX)(n:Nat)(b d:Int)(c:aD)(a:aR):Option ag:=let y0:=List.getD c.2.2.2.1 b.toNat (0,(0,0,0,()),0,0,0,(0,[],()),());br (d != a.2.1) (some ((false,()),())) (br (!a.2.2.1) (some ((true,()),())) (br (decide (b>=0)) (br (decide (0<=b)&&decide (b<(c.2.2.2.1.length:Int))) (br (decide (y0.2.2.2.2.1 = -1)) (br (decide (0<=b)&&decide (b<(c.2.2.2.1.length:Int))) (br (decide (0<=a.2.1)&&decide (a.2.1<(a.1.length:Int))) (some ((pN bV y0.2.1 (List.getD a.1 a.2.1.toNat (0,0,0,())),()),())) none) none) (some ((false,()),()))) none) (some ((false,()),()))))
def qu8(D:DX)(n:Nat):(Int)->(Int)->(Int)->(Int)->aD->aR->Option ag:=(fun x0 x1 x2 x3 x4 x5=>VN D n (fun a b c d e=>aeK D n a b c d e) (fun f g h i=>q4e D n f g h i) n x0 x1 x2 x3 x4 x5)
def qz0(D:DX)(n:Nat)(cw:Int->Int->Int->Int->aD->aR->Option ag)(a0:aD)(a1:Int):Option ag:=br (decide (0<=a1)&&decide (a1<(a0.2.1.length:Int))) (qd (ZU D a0 a1) fun b=>cw a1 b.1.1 0 0 a0 (List.getD a0.2.1 a1.toNat ([],0,false,[],[],()))) none
def qx1(D:DX)(n:Nat)(a0:aD)(a1:Int):Option ag:=qz0 D n (qu8 D n) a0 a1
def qw1(x0 x1 x2 x3:Int)(x4:aD)(x5:aR):St:=bq 84 [(1,AV.val ah x0),(2,AV.addr 2 []),(5,AV.addr 5 []),(6,AV.val ah x1),(7,AV.val ah x2),(8,AV.val ah x3)] [(2,aC.mk cK Mk.no x4 true),(5,aC.mk jZ Mk.no x5 true)]
def q4c(a:Bool)(b c:Int)(d:aD)(e:aR):St:=bq 84 [(2,AV.addr 2 []),(4,AV.val Ty.bool a),(5,AV.addr 5 []),(6,AV.val ah b),(7,AV.val ah c)] [(2,aC.mk cK Mk.no d true),(5,aC.mk jZ Mk.no e true)]
def q4d(a b:Int)(c:aD)(d:aR):St:=bq 84 [(2,AV.addr 2 []),(5,AV.addr 5 []),(6,AV.val ah a),(7,AV.val ah b)] [(2,aC.mk cK Mk.no c true),(5,aC.mk jZ Mk.no d true)]
theorem afC(D:DX)(n:Nat)(K:KT 102):∀(m:Nat)(x0 x1 x2 x3:Int)(x4:aD)(x5:aR),LF D n 102 ji m (qw1 x0 x1 x2 x3 x4 x5) K=VN D n (fun a b c d e=>K (Ex.ret) (q4c a b c d e)) (fun f g h i=>K (Ex.exit 0) (q4d f g h i)) m x0 x1 x2 x3 x4 x5:=DY (fun F=>qw2 D n F (fun a b c d e=>K (Ex.ret) (q4c a b c d e)) (fun f g h i=>K (Ex.exit 0) (q4d f g h i)))
theorem aeJ(D:DX)(n:Nat)(x0)(x1)(x2)(x3)(x4)(x5):LF D n 102 ji n (qw1 x0 x1 x2 x3 x4 x5) (CF D n 102 [] ji (lF 102))=qu8 D n x0 x1 x2 x3 x4 x5 :=by rw[afC];kernel_rfl
theorem agA(D:DX)(n:Nat)(a0:aD)(a1:Int):rF D n 102 (a0,(a1,()))=qx1 D n a0 a1:=by
 have h:rF D n 102 (a0,(a1,()))=qz0 D n (fun x0 x1 x2 x3 x4 x5=>LF D n 102 ji n (qw1 x0 x1 x2 x3 x4 x5) (CF D n 102 [] ji (lF 102))) a0 a1:=by kernel_rfl
 rw[h];simp only[aeJ];rfl
def qyy(D:DX)(n:Nat)(go:List bE->Int->Int->aU->aU->Option ny)(K0:aU->aU->Option ny)(x0:List bE)(x1 x2:Int)(x3 x4:aU):Option ny:=let y0:=List.getD x0 x2.toNat (0,0,[],(0,[],()),());br (decide (x2<x1)) (br (decide (0<=x2)&&decide (x2<(x0.length:Int))) (qd (Vg D y0.2.2.1) fun p1=>qd (II D y0.2.2.2.1) fun p0=>br (decide (x4.2.1.length+1<=ga)) (go x0 x1 (wrap .i64 (x2+1)) x3 (x4.1,x4.2.1++[(y0.1,y0.2.1,p1.1.1,(p0.1.1.1,p0.1.1.2.1,()),())],x4.2.2)) none) none) (K0 x3 x4)
def Tq(D:DX)(n:Nat)(K0:aU->aU->Option ny):Nat->(List bE)->Int->Int->aU->aU->Option ny | 0=>(fun x0 x1 x2 x3 x4=>none) | m+1=>(fun x0 x1 x2 x3 x4=>qyy D n (Tq D n K0 m) K0 x0 x1 x2 x3 x4)
def aeS(D:DX)(n:Nat)(b a:aU):Option ny:=some (((a.1,a.2.1,()),()),())
def qwg(D:DX)(n:Nat):(List bE)->(Int)->(Int)->aU->aU->Option ny:=(fun x0 x1 x2 x3 x4=>Tq D n (fun a b=>aeS D n a b) n x0 x1 x2 x3 x4)
def Zq(D:DX)(n:Nat)(cw:List bE->Int->Int->aU->aU->Option ny)(a0:aU):Option ny:=qd (qgi D a0.1) fun b=>cw a0.2.1 (a0.2.1.length:Int) 0 ([],[],()) (b.1.1,[],())
def YV(D:DX)(n:Nat)(a0:aU):Option ny:=Zq D n (qwg D n) a0
def qyx(x0:List bE)(x1 x2:Int)(x3 x4:aU):St:=bq 33 [(2,AV.addr 2 []),(3,AV.addr 3 []),(11,AV.val CM x0),(12,AV.val ah x1),(13,AV.val ah x2)] [(2,aC.mk jY lU x3 true),(3,aC.mk jY lU x4 true)]
def q6n(a b:aU):St:=bq 33 [(2,AV.addr 2 []),(3,AV.addr 3 [])] [(2,aC.mk jY lU a true),(3,aC.mk jY lU b true)]
theorem af_(D:DX)(n:Nat)(K:KT 103):∀(m:Nat)(x0:List bE)(x1 x2:Int)(x3 x4:aU),LF D n 103 cz m (qyx x0 x1 x2 x3 x4) K=Tq D n (fun a b=>K (Ex.exit 0) (q6n a b)) m x0 x1 x2 x3 x4:=oP (fun F=>qyy D n F (fun a b=>K (Ex.exit 0) (q6n a b)))
theorem aeR(D:DX)(n:Nat)(x0)(x1)(x2)(x3)(x4):LF D n 103 cz n (qyx x0 x1 x2 x3 x4) (CF D n 103 [] cz (lF 103))=qwg D n x0 x1 x2 x3 x4 :=by rw[af_];kernel_rfl
theorem ag0(D:DX)(n:Nat)(a0:aU):rF D n 103 (a0,())=YV D n a0:=by
 have h:rF D n 103 (a0,())=Zq D n (fun x0 x1 x2 x3 x4=>LF D n 103 cz n (qyx x0 x1 x2 x3 x4) (CF D n 103 [] cz (lF 103))) a0:=by kernel_rfl
 rw[h];simp only[aeR];rfl
def q6o(D:DX)(n:Nat)(a0:aR):Option jm:=qd (Vk D a0.1) fun b=>qd (qgh D a0.2.2.2.1) fun b_1=>qd (qgg D a0.2.2.2.2.1) fun b_2=>some (((b.1.1,a0.2.1,a0.2.2.1,b_1.1.1,b_2.1.1,()),()),())
def qt9(D:DX)(n:Nat)(a0:aR):Option jm:=q6o D n a0
theorem ae4(D:DX)(n:Nat)(a0:aR):rF D n 104 (a0,())=qt9 D n a0:=by kernel_rfl
def qw8(D:DX)(n:Nat)(a0:aD)(a1:Int):Option wq:=let y0:=List.getD a0.2.1 a1.toNat ([],0,false,[],[],());br (decide (0<=a1)&&decide (a1<(a0.2.1.length:Int))) (qd (GI D y0) fun p2=>qd (ZK D (a0.1.1,a0.1.2.1,()) p2.1.1) fun p0=>let y1:=List.getD p0.1.1.2.1 a1.toNat (0,0,[],(0,[],()),());br (decide (p0.1.2.2.2.1=1)) (br (bif decide (p2.1.1.1=a1) then decide ((y0.2.2.2.2.1.length:Int)=1) else false) (qd (J7 D y0 p0.1.2.2.1) fun p3=>br (decide (0<=a1)&&decide (a1<(a0.2.1.length:Int))) (some ((),((p0.1.1.1,p0.1.1.2.1,()),List.set a0.2.1 a1.toNat (p3.1.1.1,p3.1.1.2.1,p3.1.1.2.2.1,p3.1.1.2.2.2.1,p3.1.1.2.2.2.2.1,()),a0.2.2),())) none) (qd (T4 D y0 p0.1.2.2.1) fun p4=>br (decide (0<=a1)&&decide (a1<(a0.2.1.length:Int))) (some ((),((p0.1.1.1,p0.1.1.2.1,()),List.set a0.2.1 a1.toNat (p4.1.1.1,p4.1.1.2.1,p4.1.1.2.2.1,p4.1.1.2.2.2.1,p4.1.1.2.2.2.2.1,()),a0.2.2),())) none)) (br (decide (p0.1.2.2.2.1=2)) (qd (GH D y0) fun p1=>let y4:=List.set a0.2.1 a1.toNat (p1.1.1.1,p1.1.1.2.1,p1.1.1.2.2.1,p1.1.1.2.2.2.1,p1.1.1.2.2.2.2.1,());let y2:=List.getD y4 a1.toNat ([],0,false,[],[],());let y3:=List.set y4 a1.toNat (y2.1,y2.2.1,y2.2.2.1,y2.2.2.2.1,[],y2.2.2.2.2.2);let y5:=List.getD y3 a1.toNat ([],0,false,[],[],());br (decide (0<=a1)&&decide (a1<(a0.2.1.length:Int))) (br (p2.1.1.1 != a1) (some ((),((p0.1.1.1,p0.1.1.2.1,()),List.set a0.2.1 a1.toNat (p1.1.1.1,p1.1.1.2.1,p1.1.1.2.2.1,p1.1.1.2.2.2.1,p1.1.1.2.2.2.2.1,()),a0.2.2),())) (br (decide (0<=a1)&&decide (a1<(y4.length:Int))) (br (decide (0<=a1)&&decide (a1<(p0.1.1.2.1.length:Int))) (br (decide (y1.2.1=2)) (qd (S_ D ((p0.1.1.1,p0.1.1.2.1,()),List.set y4 a1.toNat (y2.1,y2.2.1,y2.2.2.1,y2.2.2.2.1,[],y2.2.2.2.2.2),a0.2.2) a1 y1.2.2.2.1) fun p8=>some ((),p8.2.1,())) (br (decide (0<=a1)&&decide (a1<(y3.length:Int))) (some ((),((p0.1.1.1,p0.1.1.2.1,()),List.set y3 a1.toNat (y5.1,y5.2.1,y5.2.2.1,[],y5.2.2.2.2),a0.2.2),())) none)) none) none)) none) (br (decide (p0.1.2.2.2.1=3)) (br (decide (0<=p2.1.1.1)&&decide (p2.1.1.1<(p0.1.1.2.1.length:Int))) (qd (S8 D ((p0.1.1.1,p0.1.1.2.1,()),a0.2) p2.1.1.1 (List.getD p0.1.1.2.1 p2.1.1.1.toNat (0,0,[],(0,[],()),())).2.2.2.1) fun p7=>qd (T4 D y0 p0.1.2.1) fun p5=>br (decide (0<=a1)&&decide (a1<(p7.2.1.2.1.length:Int))) (some ((),(p7.2.1.1,List.set p7.2.1.2.1 a1.toNat (p5.1.1.1,p5.1.1.2.1,p5.1.1.2.2.1,p5.1.1.2.2.2.1,p5.1.1.2.2.2.2.1,()),p7.2.1.2.2),())) none) none) (qd (T4 D y0 p0.1.2.1) fun p6=>br (decide (0<=a1)&&decide (a1<(a0.2.1.length:Int))) (some ((),((p0.1.1.1,p0.1.1.2.1,()),List.set a0.2.1 a1.toNat (p6.1.1.1,p6.1.1.2.1,p6.1.1.2.2.1,p6.1.1.2.2.2.1,p6.1.1.2.2.2.2.1,()),a0.2.2),())) none)))) none
def qni(D:DX)(n:Nat)(a0:aD)(a1:Int):Option wq:=qw8 D n a0 a1
theorem adD(D:DX)(n:Nat)(a0:aD)(a1:Int):rF D n 105 (a0,(a1,()))=qni D n a0 a1:=by kernel_rfl
def q0c(D:DX)(n:Nat)(a0:aD)(a1:Int):Option tq1:=let y1:=List.getD a0.2.1 a1.toNat ([],0,false,[],[],());let y0:=List.set a0.2.1 a1.toNat (y1.1,y1.2.1,y1.2.2.1,y1.2.2.2.1,y1.2.2.2.2);let y2:=List.getD y0 a1.toNat ([],0,false,[],[],());let y3:=List.getD y1.1 (Int.toNat y1.2.1) (0,0,0,());br (decide (0<=a1)&&decide (a1<(a0.2.1.length:Int))) (br (decide (0<=y1.2.1)&&decide (y1.2.1<(y1.1.length:Int))) (qd (Gv D y3 y1.2.2.2.1) fun p2=>let y4:=List.getD a0.1.1 p2.1.1.toNat (0,0,0,());let y5:=List.set y0 a1.toNat (y2.1,y2.2.1,y2.2.2.1,y1.2.2.2.1++[(p2.1.1,y4.1,())],y2.2.2.2.2);let y6:=List.getD y5 a1.toNat ([],0,false,[],[],());br (decide (p2.1.1>=0)) (br (decide (0<=p2.1.1)&&decide (p2.1.1<(a0.1.1.length:Int))) (br (y4.2.1 != 0) (qd (J7 D (y1.1,y1.2.1,y1.2.2.1,y1.2.2.2.1,y1.2.2.2.2) (wrap .i64 (y4.2.1-1),y4.2.2.1,0,0,())) fun p5=>some ((true,()),(a0.1,List.set a0.2.1 a1.toNat (p5.1.1.1,p5.1.1.2.1,p5.1.1.2.2.1,p5.1.1.2.2.2.1,p5.1.1.2.2.2.2.1,()),a0.2.2),())) (br (decide (y1.2.2.2.1.length+1<=ga)) (qd (VX D y3 y6.2.2.2.1) fun p0=>br (!p0.1.2.1) (some ((true,()),(a0.1,List.set y0 a1.toNat (y2.1,y2.2.1,y2.2.2.1,y1.2.2.2.1++[(p2.1.1,y4.1,())],y2.2.2.2.2),a0.2.2),())) (br p0.1.1.1 (qd (S8 D (a0.1,List.set y0 a1.toNat (y2.1,y2.2.1,y2.2.2.1,y1.2.2.2.1++[(p2.1.1,y4.1,())],y2.2.2.2.2),a0.2.2) a1 (p0.1.1.2.1.1,p0.1.1.2.1.2.1,())) fun p9=>qd (S_ D p9.2.1 a1 (p0.1.1.2.1.1,p0.1.1.2.1.2.1,())) fun jQ=>some ((true,()),jQ.2.1,())) (qd (V8 D (a0.1.1,a0.1.2.1,()) a1 p0.1.1.2.2.1 (p0.1.1.2.1.1,p0.1.1.2.1.2.1,())) fun p6=>br p6.1.2.2.1 (qd (J7 D y6 p6.1.2.1) fun p7=>some ((p6.1.2.2.1,()),((p6.1.1.1,p6.1.1.2.1,()),List.set y5 a1.toNat (p7.1.1.1,p7.1.1.2.1,p7.1.1.2.2.1,p7.1.1.2.2.2.1,p7.1.1.2.2.2.2.1,()),a0.2.2),())) none))) none)) none) (qd (VX D y3 y1.2.2.2.1) fun p1=>br (!p1.1.2.1) (some ((true,()),a0,())) (br p1.1.1.1 (qd (S8 D a0 a1 (p1.1.1.2.1.1,p1.1.1.2.1.2.1,())) fun j_=>qd (S_ D j_.2.1 a1 (p1.1.1.2.1.1,p1.1.1.2.1.2.1,())) fun p8=>some ((true,()),p8.2.1,())) (qd (V8 D (a0.1.1,a0.1.2.1,()) a1 p1.1.1.2.2.1 (p1.1.1.2.1.1,p1.1.1.2.1.2.1,())) fun p3=>br p3.1.2.2.1 (qd (J7 D (y1.1,y1.2.1,y1.2.2.1,y1.2.2.2.1,y1.2.2.2.2) p3.1.2.1) fun p4=>some ((p3.1.2.2.1,()),((p3.1.1.1,p3.1.1.2.1,()),List.set a0.2.1 a1.toNat (p4.1.1.1,p4.1.1.2.1,p4.1.1.2.2.1,p4.1.1.2.2.2.1,p4.1.1.2.2.2.2.1,()),a0.2.2),())) none)))) none) none
def qqg(D:DX)(n:Nat)(a0:aD)(a1:Int):Option tq1:=q0c D n a0 a1
theorem ad_(D:DX)(n:Nat)(a0:aD)(a1:Int):rF D n 106 (a0,(a1,()))=qqg D n a0 a1:=by kernel_rfl
def qye(D:DX)(n:Nat)(go:Int->List ak->Int->Int->ak->Option ko)(K0:Bool->ak->Option ko)(K1:ak->Option ko)(x0:Int)(x1:List ak)(x2 x3:Int)(x4:ak):Option ko:=br (decide (x3<x2)) (br (decide (0<=x3)&&decide (x3<(x1.length:Int))) (br (decide ((List.getD x1 x3.toNat (0,0,0,())).1=x0)) (K0 true (List.getD x1 x3.toNat (0,0,0,()))) (go x0 x1 x2 (wrap .i64 (x3+1)) x4)) none) (K1 x4)
def Ti(D:DX)(n:Nat)(K0:Bool->ak->Option ko)(K1:ak->Option ko):Nat->Int->(List ak)->Int->Int->ak->Option ko | 0=>(fun x0 x1 x2 x3 x4=>none) | m+1=>(fun x0 x1 x2 x3 x4=>qye D n (Ti D n K0 K1 m) K0 K1 x0 x1 x2 x3 x4)
def q6b(D:DX)(n:Nat)(a:Bool)(b:ak):Option ko:=some ((b,a,()),())
def q6c(D:DX)(n:Nat)(a:ak):Option ko:=some (((0,0,0,()),false,()),())
def qv9(D:DX)(n:Nat):(Int)->(List ak)->(Int)->(Int)->ak->Option ko:=(fun x0 x1 x2 x3 x4=>Ti D n (fun a b=>q6b D n a b) (fun c=>q6c D n c) n x0 x1 x2 x3 x4)
def YN(D:DX)(n:Nat)(cw:Int->List ak->Int->Int->ak->Option ko)(a0:bE)(a1:Int):Option ko:=cw a1 a0.2.2.1 (a0.2.2.1.length:Int) 0 (0,0,0,())
def Yl(D:DX)(n:Nat)(a0:bE)(a1:Int):Option ko:=YN D n (qv9 D n) a0 a1
def qyd(x0:Int)(x1:List ak)(x2 x3:Int)(x4:ak):St:=bq 22 [(1,AV.val ah x0),(4,AV.addr 4 []),(9,AV.val bU x1),(10,AV.val ah x2),(11,AV.val ah x3)] [(4,aC.mk bV Mk.no x4 true)]
def q59(a:Bool)(b:ak):St:=bq 22 [(4,AV.addr 4 []),(5,AV.val Ty.bool a)] [(4,aC.mk bV Mk.no b true)]
def q6a(a:ak):St:=bq 22 [(4,AV.addr 4 [])] [(4,aC.mk bV Mk.no a true)]
theorem af0(D:DX)(n:Nat)(K:KT 107):∀(m:Nat)(x0:Int)(x1:List ak)(x2 x3:Int)(x4:ak),LF D n 107 fe m (qyd x0 x1 x2 x3 x4) K=Ti D n (fun a b=>K (Ex.ret) (q59 a b)) (fun c=>K (Ex.exit 0) (q6a c)) m x0 x1 x2 x3 x4:=oP (fun F=>qye D n F (fun a b=>K (Ex.ret) (q59 a b)) (fun c=>K (Ex.exit 0) (q6a c)))
theorem afh(D:DX)(n:Nat)(x0)(x1)(x2)(x3)(x4):LF D n 107 fe n (qyd x0 x1 x2 x3 x4) (CF D n 107 [] fe (lF 107))=qv9 D n x0 x1 x2 x3 x4 :=by rw[af0];kernel_rfl
theorem ahf(D:DX)(n:Nat)(a0:bE)(a1:Int):rF D n 107 (a0,(a1,()))=Yl D n a0 a1:=by
 have h:rF D n 107 (a0,(a1,()))=YN D n (fun x0 x1 x2 x3 x4=>LF D n 107 fe n (qyd x0 x1 x2 x3 x4) (CF D n 107 [] fe (lF 107))) a0 a1:=by kernel_rfl
 rw[h];simp only[afh];rfl
def qhm(D:DX)(n:Nat)(a1:bk)(a0:List bE):Option ag:=qd (qin D a0 a1) fun b=>some ((decide (b.1.1>=0),()),())
def qd5(D:DX)(n:Nat)(a0:List bE)(a1:bk):Option ag:=qhm D n a1 a0
theorem qn9(D:DX)(n:Nat)(a0:List bE)(a1:bk):rF D n 109 (a0,(a1,()))=qd5 D n a0 a1:=by kernel_rfl
def OH(D:DX)(n:Nat)(a0:bE):Option ag:=qd (ZL D a0) fun b=>some ((!b.1.1,()),())
def Yp(D:DX)(n:Nat)(a0:bE):Option ag:=OH D n a0
theorem ahj(D:DX)(n:Nat)(a0:bE):rF D n 110 (a0,())=Yp D n a0:=by kernel_rfl
def YM(D:DX)(n:Nat)(go:List ak->Int->Int->bE->Option ag)(K0:Bool->bE->Option ag)(K1:bE->Option ag)(x0:List ak)(x1 x2:Int)(x3:bE):Option ag:=let y0:=List.getD x0 x2.toNat (0,0,0,());br (decide (x2<x1)) (br (decide (0<=x2)&&decide (x2<(x0.length:Int))) (qd (VU D y0.1) fun p0=>br (!p0.1.1) (K0 false x3) (qd (JY D y0.2.1) fun p1=>br (!p1.1.1) (K0 false x3) (qd (JY D y0.2.2.1) fun p2=>br (!p2.1.1) (K0 false x3) (br (decide (x2>0)) (br (decide (0<=wrap .i64 (x2-1))&&decide (wrap .i64 (x2-1)<(x3.2.2.1.length:Int))) (br (decide ((List.getD x3.2.2.1 (Int.toNat (wrap .i64 (x2-1))) (0,0,0,())).1>=y0.1)) (K0 false x3) (go x0 x1 (wrap .i64 (x2+1)) x3)) none) (go x0 x1 (wrap .i64 (x2+1)) x3))))) none) (K1 x3)
def TF(D:DX)(n:Nat)(K0:Bool->bE->Option ag)(K1:bE->Option ag):Nat->(List ak)->Int->Int->bE->Option ag | 0=>(fun x0 x1 x2 x3=>none) | m+1=>(fun x0 x1 x2 x3=>YM D n (TF D n K0 K1 m) K0 K1 x0 x1 x2 x3)
def q8w(D:DX)(n:Nat)(a:Bool)(b:bE):Option ag:=some ((a,()),())
def qv8(D:DX)(n:Nat)(a:bE):Option ag:=qd (kE D a.1 1 1000000) fun b=>br b.1.1 (qd (kE D a.2.1 1 3) fun b=>some ((bif b.1.1 then decide ((a.2.2.1.length:Int)<=20) else false,()),())) (some ((false,()),()))
def qyc(D:DX)(n:Nat):(List ak)->(Int)->(Int)->bE->Option ag:=(fun x0 x1 x2 x3=>TF D n (fun a b=>q8w D n a b) (fun c=>qv8 D n c) n x0 x1 x2 x3)
def Z8(D:DX)(n:Nat)(cw:List ak->Int->Int->bE->Option ag)(a0:bE):Option ag:=br (decide (a0.1=0)) (some ((bif bif bif decide (a0.2.1=0) then decide ((a0.2.2.1.length:Int)=0) else false then decide (a0.2.2.2.1.1=0) else false then decide ((a0.2.2.2.1.2.1.length:Int)=0) else false,()),())) (cw a0.2.2.1 (a0.2.2.1.length:Int) 0 a0)
def ZW(D:DX)(n:Nat)(a0:bE):Option ag:=Z8 D n (qyc D n) a0
def YL(x0:List ak)(x1 x2:Int)(x3:bE):St:=bq 85 [(1,AV.addr 1 []),(31,AV.val bU x0),(32,AV.val ah x1),(33,AV.val ah x2)] [(1,aC.mk wv Mk.no x3 true)]
def q8u(a:Bool)(b:bE):St:=bq 85 [(1,AV.addr 1 []),(2,AV.val Ty.bool a)] [(1,aC.mk wv Mk.no b true)]
def q8v(a:bE):St:=bq 85 [(1,AV.addr 1 [])] [(1,aC.mk wv Mk.no a true)]
theorem agH(D:DX)(n:Nat)(K:KT 111):∀(m:Nat)(x0:List ak)(x1 x2:Int)(x3:bE),LF D n 111 cz m (YL x0 x1 x2 x3) K=TF D n (fun a b=>K (Ex.ret) (q8u a b)) (fun c=>K (Ex.exit 0) (q8v c)) m x0 x1 x2 x3:=zn (fun F=>YM D n F (fun a b=>K (Ex.ret) (q8u a b)) (fun c=>K (Ex.exit 0) (q8v c)))
theorem afZ(D:DX)(n:Nat)(x0)(x1)(x2)(x3):LF D n 111 cz n (YL x0 x1 x2 x3) (CF D n 111 [] cz (lF 111))=qyc D n x0 x1 x2 x3 :=by rw[agH];kernel_rfl
theorem aim(D:DX)(n:Nat)(a0:bE):rF D n 111 (a0,())=ZW D n a0:=by
 have h:rF D n 111 (a0,())=Z8 D n (fun x0 x1 x2 x3=>LF D n 111 cz n (YL x0 x1 x2 x3) (CF D n 111 [] cz (lF 111))) a0:=by kernel_rfl
 rw[h];simp only[afZ];rfl
def Pd(D:DX)(n:Nat)(a0:ak)(a1:Int):Option ag:=br (decide (a0.2.1=0)) (qd (JY D a0.1) fun p0=>some ((bif p0.1.1 then decide (a0.2.2.1=0) else false,()),())) (br (decide (a0.1=0)) (qd (kE D a0.2.1 1 a1) fun p1=>br p1.1.1 (qd (kE D a0.2.2.1 1 1000000) fun p2=>some ((p2.1.1,()),())) (some ((false,()),()))) (some ((false,()),())))
def Z1(D:DX)(n:Nat)(a0:ak)(a1:Int):Option ag:=Pd D n a0 a1
theorem aiB(D:DX)(n:Nat)(a0:ak)(a1:Int):rF D n 112 (a0,(a1,()))=Z1 D n a0 a1:=by kernel_rfl
def qe5(D:DX)(n:Nat)(a1:bk)(go:List ak->Int->Int->Option aH)(K0:Int->Option aH)(K1:Option aH)(x0:List ak)(x1 x2:Int):Option aH:=br (decide (x2<x1)) (br (decide (0<=x2)&&decide (x2<(x0.length:Int))) (qd (iM ctx D a1 [bL.val bV (List.getD x0 x2.toNat (0,0,0,()))] Ty.bool) fun b=>br b (K0 x2) (go x0 x1 (wrap .i64 (x2+1)))) none) K1
def JS(D:DX)(n:Nat)(a1:bk)(K0:Int->Option aH)(K1:Option aH):Nat->(List ak)->Int->Int->Option aH | 0=>(fun x0 x1 x2=>none) | m+1=>(fun x0 x1 x2=>qe5 D n a1 (JS D n a1 K0 K1 m) K0 K1 x0 x1 x2)
def qef(D:DX)(n:Nat)(a1:bk)(a:Int):Option aH:=some ((a,()),())
def qeg(D:DX)(n:Nat)(a1:bk):Option aH:=some ((-1,()),())
def qes(D:DX)(n:Nat)(a1:bk):(List ak)->(Int)->(Int)->Option aH:=(fun x0 x1 x2=>JS D n a1 (fun a=>qef D n a1 a) (qeg D n a1) n x0 x1 x2)
def qfi(D:DX)(n:Nat)(a1:bk)(cw:List ak->Int->Int->Option aH)(a0:List ak):Option aH:=cw a0 (a0.length:Int) 0
def qfd(D:DX)(n:Nat)(a0:List ak)(a1:bk):Option aH:=qfi D n a1 (qes D n a1) a0
def qe4(a1:bk)(x0:List ak)(x1 x2:Int):St:=bq 19 [(0,AV.val bU x0),(1,AV.eA a1),(7,AV.val ah x1),(8,AV.val ah x2)] []
def qhw(a1:bk)(a:Int):St:=bq 19 [(4,AV.val ah a)] []
def qhx(a1:bk):St:=bq 19 [] []
theorem qo6(D:DX)(n:Nat)(a1:bk)(K:KT 113):∀(m:Nat)(x0:List ak)(x1 x2:Int),LF D n 113 fe m (qe4 a1 x0 x1 x2) K=JS D n a1 (fun a=>K (Ex.ret) (qhw a1 a)) (K (Ex.exit 0) (qhx a1)) m x0 x1 x2:=pH (fun F=>qe5 D n a1 F (fun a=>K (Ex.ret) (qhw a1 a)) (K (Ex.exit 0) (qhx a1)))
theorem qok(D:DX)(n:Nat)(a1:bk)(x0)(x1)(x2):LF D n 113 fe n (qe4 a1 x0 x1 x2) (CF D n 113 [] fe (lF 113))=qes D n a1 x0 x1 x2 :=by rw[qo6];kernel_rfl
theorem qqf(D:DX)(n:Nat)(a0:List ak)(a1:bk):rF D n 113 (a0,(a1,()))=qfd D n a0 a1:=by
 have h:rF D n 113 (a0,(a1,()))=qfi D n a1 (fun x0 x1 x2=>LF D n 113 fe n (qe4 a1 x0 x1 x2) (CF D n 113 [] fe (lF 113))) a0:=by kernel_rfl
 rw[h];simp only[qok];rfl
def qq8(D:DX)(n:Nat)(a0:List Int)(a1:Int):Option ag:=qd (Vr D a0 a1) fun b=>some ((decide (b.1.1>=0),()),())
def qkg(D:DX)(n:Nat)(a0:List Int)(a1:Int):Option ag:=qq8 D n a0 a1
theorem q63(D:DX)(n:Nat)(a0:List Int)(a1:Int):rF D n 114 (a0,(a1,()))=qkg D n a0 a1:=by kernel_rfl
def O0(D:DX)(n:Nat)(a0:Int):Option aH:=qd (VT D a0) fun b=>qd (J4 D b.1.1 (wrap .i64 (10+a0))) fun b=>some ((b.1.1,()),())
def Yk(D:DX)(n:Nat)(a0:Int):Option aH:=O0 D n a0
theorem ahe(D:DX)(n:Nat)(a0:Int):rF D n 115 (a0,())=Yk D n a0:=by kernel_rfl
def vP(D:DX)(n:Nat)(a0:aB)(a1:ak)(a2:Int):Option ag:=let y0:Option ag:=(qd (J9 D a0) fun p1=>some ((p1.1.1,()),()));qd (V9 D a0 a1.2.2.1) fun p0=>br (decide (a2=1)) (br (decide (a1.1=1)) (br (decide (0<=a1.2.1)&&decide (a1.2.1<(a0.1.length:Int))) (some ((List.getD a0.1 a1.2.1.toNat 0 != 0,()),())) none) (some ((false,()),()))) (br (decide (a2=2)) (some ((bif bif decide (a1.1=1) then true else decide (a1.1=2) then decide (p0.1.1>=0) else false,()),())) (br (bif decide (a2=3) then bif bif decide (a1.1=2) then true else decide (a1.1=3) then true else decide (a1.1=4) else false) (br (decide (0<=a1.2.1)&&decide (a1.2.1<(a0.1.length:Int))) (some ((decide (List.getD a0.1 a1.2.1.toNat 0=0),()),())) none) (br (decide (a2=3)) (br (decide (p0.1.1<0)) (br (decide (a1.1=5)) (some ((true,()),())) (br (decide (a1.1=10)) y0 (some ((false,()),())))) (some ((false,()),()))) (br (bif decide (a2=4) then decide (a1.1=8) else false) (some ((a0.2.1 != 0,()),())) (br (bif decide (a2=4) then decide (a1.1=9) else false) (br (decide (a0.2.1=0)) (some ((true,()),())) y0) (br (bif decide (a2=4) then decide (a1.1=10) else false) (qd (J9 D a0) fun p2=>some ((!p2.1.1,()),())) (some ((false,()),()))))))))
def uQ(D:DX)(n:Nat)(a0:aB)(a1:ak)(a2:Int):Option ag:=vP D n a0 a1 a2
theorem ag5(D:DX)(n:Nat)(a0:aB)(a1:ak)(a2:Int):rF D n 116 (a0,(a1,(a2,())))=uQ D n a0 a1 a2:=by kernel_rfl
def vQ(D:DX)(n:Nat)(a0:aB)(a1:ak):Option ((List Int×gQ)×Unit):=qd (V9 D a0 a1.2.2.1) fun p0=>br (decide (a1.1=1)) (br (decide (0<=a1.2.1)&&decide (a1.2.1<(a0.1.length:Int))) (some (([],bif decide (List.getD a0.1 a1.2.1.toNat 0=0) then decide (p0.1.1<0) else false,()),())) none) (br (decide (a1.1=2)) (br (decide (0<=a1.2.1)&&decide (a1.2.1<(a0.1.length:Int))) (some (([],bif List.getD a0.1 a1.2.1.toNat 0 != 0 then bif decide (p0.1.1<0) then true else decide (p0.1.1=a1.2.1) else false,()),())) none) (br (decide (a1.1=3)) (br (decide (0<=a1.2.1)&&decide (a1.2.1<(a0.1.length:Int))) (some (([],List.getD a0.1 a1.2.1.toNat 0 != 0,()),())) none) (br (decide (a1.1=4)) (br (decide (0<=a1.2.1)&&decide (a1.2.1<(a0.1.length:Int))) (br (decide (0<=a1.2.1)&&decide (a1.2.1<(a0.1.length:Int))) (some (([List.getD a0.1 a1.2.1.toNat 0],List.getD a0.1 a1.2.1.toNat 0 != 0,()),())) none) none) (br (decide (a1.1=5)) (some (([p0.1.1],decide (p0.1.1>=0),()),())) (br (decide (a1.1=6)) (qd (Yt D a0 a1.2.1) fun p1=>some (([p1.1.1],true,()),())) (br (decide (a1.1=7)) (some ((a0.1,true,()),())) (br (decide (a1.1=8)) (some (([],decide (a0.2.1=0),()),())) (br (decide (a1.1=9)) (br (a0.2.1 != 0) (qd (J9 D a0) fun p2=>some (([],!p2.1.1,()),())) (some (([],false,()),()))) (br (decide (p0.1.1>=0)) (qd (J9 D a0) fun p3=>some (([p0.1.1],p3.1.1,()),())) (some (([p0.1.1],false,()),())))))))))))
def uR(D:DX)(n:Nat)(a0:aB)(a1:ak):Option ((List Int×gQ)×Unit):=vQ D n a0 a1
theorem ag6(D:DX)(n:Nat)(a0:aB)(a1:ak):rF D n 117 (a0,(a1,()))=uR D n a0 a1:=by kernel_rfl
def Pt(D:DX)(n:Nat)(a0:Int):Option ag:=qd (kE D a0 0 3) fun b=>some ((b.1.1,()),())
def q76(D:DX)(n:Nat)(a0:Int):Option ag:=Pt D n a0
theorem ajk(D:DX)(n:Nat)(a0:Int):rF D n 118 (a0,())=q76 D n a0:=by kernel_rfl
def O3(D:DX)(n:Nat)(a0:Int):Option ag:=qd (kE D a0 0 2) fun b=>some ((b.1.1,()),())
def YX(D:DX)(n:Nat)(a0:Int):Option ag:=O3 D n a0
theorem ag2(D:DX)(n:Nat)(a0:Int):rF D n 119 (a0,())=YX D n a0:=by kernel_rfl
def qi8(D:DX)(n:Nat)(a1:bk)(a0:List ak):Option ag:=qd (qj8 D a0 a1) fun b=>some ((decide (b.1.1>=0),()),())
def qfo(D:DX)(n:Nat)(a0:List ak)(a1:bk):Option ag:=qi8 D n a1 a0
theorem qri(D:DX)(n:Nat)(a0:List ak)(a1:bk):rF D n 120 (a0,(a1,()))=qfo D n a0 a1:=by kernel_rfl
def q6i(D:DX)(n:Nat)(a0:ak):Option ag:=qd (Ds D a0) fun b=>some ((!b.1.1,()),())
def qt6(D:DX)(n:Nat)(a0:ak):Option ag:=q6i D n a0
theorem ae0(D:DX)(n:Nat)(a0:ak):rF D n 121 (a0,())=qt6 D n a0:=by kernel_rfl
def qho(D:DX)(n:Nat)(a1:bk)(a0:List bD):Option ag:=qd (qip D a0 a1) fun b=>some ((decide (b.1.1>=0),()),())
def qd7(D:DX)(n:Nat)(a0:List bD)(a1:bk):Option ag:=qho D n a1 a0
theorem qob(D:DX)(n:Nat)(a0:List bD)(a1:bk):rF D n 122 (a0,(a1,()))=qd7 D n a0 a1:=by kernel_rfl
def q6j(D:DX)(n:Nat)(a0:bD):Option ag:=qd (VU D a0.1) fun b=>br (!b.1.1) (some ((true,()),())) (qd (JY D a0.2.1) fun b=>some ((!b.1.1,()),()))
def qt7(D:DX)(n:Nat)(a0:bD):Option ag:=q6j D n a0
theorem ae1(D:DX)(n:Nat)(a0:bD):rF D n 123 (a0,())=qt7 D n a0:=by kernel_rfl
def O4(D:DX)(n:Nat)(a0:Int):Option ag:=qd (kE D a0 0 19) fun b=>some ((b.1.1,()),())
def YY(D:DX)(n:Nat)(a0:Int):Option ag:=O4 D n a0
theorem ag3(D:DX)(n:Nat)(a0:Int):rF D n 124 (a0,())=YY D n a0:=by kernel_rfl
def q9c(D:DX)(n:Nat)(a0:Int):Option ag:=qd (kE D a0 0 1000) fun b=>some ((b.1.1,()),())
def qv0(D:DX)(n:Nat)(a0:Int):Option ag:=q9c D n a0
theorem afQ(D:DX)(n:Nat)(a0:Int):rF D n 125 (a0,())=qv0 D n a0:=by kernel_rfl
def qhn(D:DX)(n:Nat)(a1:bk)(a0:List cE):Option ag:=qd (qio D a0 a1) fun b=>some ((decide (b.1.1>=0),()),())
def qd6(D:DX)(n:Nat)(a0:List cE)(a1:bk):Option ag:=qhn D n a1 a0
theorem qoa(D:DX)(n:Nat)(a0:List cE)(a1:bk):rF D n 126 (a0,(a1,()))=qd6 D n a0 a1:=by kernel_rfl
def q6k(D:DX)(n:Nat)(a0:cE)(a1:Int):Option ag:=qd (kE D a0.1 0 (wrap .i64 (a1-1))) fun p0=>br (!p0.1.1) (some ((true,()),())) (qd (kE D a0.2.1 1 1000000) fun p1=>br (!p1.1.1) (some ((true,()),())) (qd (kE D a0.2.2.1 0 20) fun p2=>br (!p2.1.1) (some ((true,()),())) (qd (kE D a0.2.2.2.1 0 20) fun p3=>some ((!p3.1.1,()),()))))
def qt8(D:DX)(n:Nat)(a0:cE)(a1:Int):Option ag:=q6k D n a0 a1
theorem ae2(D:DX)(n:Nat)(a0:cE)(a1:Int):rF D n 127 (a0,(a1,()))=qt8 D n a0 a1:=by kernel_rfl
def PF(D:DX)(n:Nat)(a0:Int):Option ag:=qd (lY D a0 1 4) fun b=>some ((b.1.1,()),())
def q8j(D:DX)(n:Nat)(a0:Int):Option ag:=PF D n a0
theorem ajy(D:DX)(n:Nat)(a0:Int):rF D n 132 (a0,())=q8j D n a0:=by kernel_rfl
def aal(D:DX)(n:Nat)(a0:Int):Option ag:=some ((bif bif bif decide (a0=1) then true else decide (a0=2) then true else decide (a0=5) then true else decide (a0=10),()),())
def Pz(D:DX)(n:Nat)(a0:Int):Option ag:=aal D n a0
theorem ajz(D:DX)(n:Nat)(a0:Int):rF D n 133 (a0,())=Pz D n a0:=by kernel_rfl
def PN(D:DX)(n:Nat)(a0:Int):Option aH:=qd (Wb D a0) fun b=>br (!b.1.1) (some ((-1,()),())) (some ((a0,()),()))
def q8f(D:DX)(n:Nat)(a0:Int):Option aH:=PN D n a0
theorem ajt(D:DX)(n:Nat)(a0:Int):rF D n 134 (a0,())=q8f D n a0:=by kernel_rfl
def O8(D:DX)(n:Nat)(a0:Int):Option aH:=qd (Dq D a0) fun b=>br (!b.1.1) (some ((-1,()),())) (some ((wrap .i64 (3+a0),()),()))
def Y4(D:DX)(n:Nat)(a0:Int):Option aH:=O8 D n a0
theorem ahA(D:DX)(n:Nat)(a0:Int):rF D n 135 (a0,())=Y4 D n a0:=by kernel_rfl
def PE(D:DX)(n:Nat)(a0:Int):Option aH:=qd (Dq D a0) fun b=>br (!b.1.1) (some ((-1,()),())) (qd (VV D) fun b=>some ((wrap .i64 (b.1.1+a0),()),()))
def q8h(D:DX)(n:Nat)(a0:Int):Option aH:=PE D n a0
theorem ajv(D:DX)(n:Nat)(a0:Int):rF D n 136 (a0,())=q8h D n a0:=by kernel_rfl
def qzh(D:DX)(n:Nat)(go:Int->Int->Int->aB->Option aH)(K0:Int->Option aH)(x0 x1 x2:Int)(x3:aB):Option aH:=br (decide (x2<(x3.1.length:Int))) (br (decide (0<=x2)&&decide (x2<(x3.1.length:Int))) (qd (Dq D (List.getD x3.1 x2.toNat 0)) fun p0=>br p0.1.1 (br (decide (0<=x2)&&decide (x2<(x3.1.length:Int))) (qd (YA D (List.getD x3.1 x2.toNat 0)) fun p1=>qd (TW D (decide (p1.1.1=x0))) fun p2=>go x0 (wrap .i64 (x1+p2.1.1)) (wrap .i64 (x2+1)) x3) none) (qd (TW D false) fun p3=>go x0 (wrap .i64 (x1+p3.1.1)) (wrap .i64 (x2+1)) x3)) none) (K0 x1)
def Tw(D:DX)(n:Nat)(K0:Int->Option aH):Nat->Int->Int->Int->aB->Option aH | 0=>(fun x0 x1 x2 x3=>none) | m+1=>(fun x0 x1 x2 x3=>qzh D n (Tw D n K0 m) K0 x0 x1 x2 x3)
def q6w(D:DX)(n:Nat)(a:Int):Option aH:=some ((a,()),())
def qwo(D:DX)(n:Nat):(Int)->(Int)->(Int)->aB->Option aH:=(fun x0 x1 x2 x3=>Tw D n (fun a=>q6w D n a) n x0 x1 x2 x3)
def Y_(D:DX)(n:Nat)(cw:Int->Int->Int->aB->Option aH)(a0:aB)(a1:Int):Option aH:=cw a1 0 0 a0
def Y3(D:DX)(n:Nat)(a0:aB)(a1:Int):Option aH:=Y_ D n (qwo D n) a0 a1
def qzg(x0 x1 x2:Int)(x3:aB):St:=bq 34 [(1,AV.val ah x0),(2,AV.addr 2 []),(5,AV.val ah x1),(6,AV.val ah x2)] [(2,aC.mk bS Mk.no x3 true)]
def q6v(a:Int):St:=bq 34 [(5,AV.val ah a)] []
theorem agj(D:DX)(n:Nat)(K:KT 137):∀(m:Nat)(x0 x1 x2:Int)(x3:aB),LF D n 137 cz m (qzg x0 x1 x2 x3) K=Tw D n (fun a=>K (Ex.exit 0) (q6v a)) m x0 x1 x2 x3:=zn (fun F=>qzh D n F (fun a=>K (Ex.exit 0) (q6v a)))
theorem afn(D:DX)(n:Nat)(x0)(x1)(x2)(x3):LF D n 137 cz n (qzg x0 x1 x2 x3) (CF D n 137 [] cz (lF 137))=qwo D n x0 x1 x2 x3 :=by rw[agj];kernel_rfl
theorem ahz(D:DX)(n:Nat)(a0:aB)(a1:Int):rF D n 137 (a0,(a1,()))=Y3 D n a0 a1:=by
 have h:rF D n 137 (a0,(a1,()))=Y_ D n (fun x0 x1 x2 x3=>LF D n 137 cz n (qzg x0 x1 x2 x3) (CF D n 137 [] cz (lF 137))) a0 a1:=by kernel_rfl
 rw[h];simp only[afn];rfl
def O6(D:DX)(n:Nat)(a0:Int):Option aH:=qd (lY D a0 0 2) fun b=>br (!b.1.1) (some ((-1,()),())) (some ((wrap .i64 (10+a0),()),()))
def Y2(D:DX)(n:Nat)(a0:Int):Option aH:=O6 D n a0
theorem ag9(D:DX)(n:Nat)(a0:Int):rF D n 138 (a0,())=Y2 D n a0:=by kernel_rfl
def aih(D:DX)(n:Nat):Option aH:=some ((13,()),())
def OV(D:DX)(n:Nat):Option aH:=aih D n
theorem ahC(D:DX)(n:Nat):rF D n 139 ()=OV D n:=by kernel_rfl
def O7(D:DX)(n:Nat)(go:Int->bE->Option ag)(K0:Bool->Option ag)(K1:Option ag)(x0:Int)(x1:bE):Option ag:=let y0:=List.getD x1.2.2.1 x0.toNat (0,0,0,());br (decide (x0<(x1.2.2.1.length:Int))) (br (decide (0<=x0)&&decide (x0<(x1.2.2.1.length:Int))) (qd (lY D y0.1 0 19) fun p0=>br (!p0.1.1) (K0 false) (qd (lY D y0.2.1 0 1000) fun p1=>br (!p1.1.1) (K0 false) (qd (lY D y0.2.2.1 0 1000) fun p2=>br (!p2.1.1) (K0 false) (br (decide (x0>0)) (br (decide (0<=wrap .i64 (x0-1))&&decide (wrap .i64 (x0-1)<(x1.2.2.1.length:Int))) (br (decide ((List.getD x1.2.2.1 (Int.toNat (wrap .i64 (x0-1))) (0,0,0,())).1>=y0.1)) (K0 false) (go (wrap .i64 (x0+1)) x1)) none) (go (wrap .i64 (x0+1)) x1))))) none) K1
def Y8(D:DX)(n:Nat)(K0:Bool->Option ag)(K1:Option ag):Nat->Int->bE->Option ag | 0=>(fun x0 x1=>none) | m+1=>(fun x0 x1=>O7 D n (Y8 D n K0 K1 m) K0 K1 x0 x1)
def afX(D:DX)(n:Nat)(a:Bool):Option ag:=some ((a,()),())
def afY(D:DX)(n:Nat):Option ag:=some ((true,()),())
def Oe(D:DX)(n:Nat):(Int)->bE->Option ag:=(fun x0 x1=>Y8 D n (fun a=>afX D n a) (afY D n) n x0 x1)
def q5s(D:DX)(n:Nat)(cw:Int->bE->Option ag)(a0:bE):Option ag:=br (decide (a0.1=0)) (some ((bif bif bif decide (a0.2.1=0) then decide ((a0.2.2.1.length:Int)=0) else false then decide (a0.2.2.2.1.1=0) else false then decide ((a0.2.2.2.1.2.1.length:Int)=0) else false,()),())) (qd (lY D a0.1 1 1000000) fun p0=>br (!p0.1.1) (some ((false,()),())) (qd (lY D a0.2.1 1 3) fun p1=>br (bif !p1.1.1 then true else decide ((a0.2.2.1.length:Int)>20)) (some ((false,()),())) (cw 0 a0)))
def ZC(D:DX)(n:Nat)(a0:bE):Option ag:=q5s D n (Oe D n) a0
def Y9(x0:Int)(x1:bE):St:=bq 90 [(1,AV.addr 1 []),(3,AV.val ah x0)] [(1,aC.mk wv Mk.no x1 true)]
def q9s(a:Bool):St:=bq 90 [(2,AV.val Ty.bool a)] []
def q9t:St:=bq 90 [] []
theorem agO(D:DX)(n:Nat)(K:KT 140):∀(m:Nat)(x0:Int)(x1:bE),LF D n 140 eM m (Y9 x0 x1) K=Y8 D n (fun a=>K (Ex.ret) (q9s a)) (K (Ex.exit 0) (q9t)) m x0 x1:=DW (fun F=>O7 D n F (fun a=>K (Ex.ret) (q9s a)) (K (Ex.exit 0) (q9t)))
theorem afW(D:DX)(n:Nat)(x0)(x1):LF D n 140 eM n (Y9 x0 x1) (CF D n 140 [] eM (lF 140))=Oe D n x0 x1 :=by rw[agO];kernel_rfl
theorem aiF(D:DX)(n:Nat)(a0:bE):rF D n 140 (a0,())=ZC D n a0:=by
 have h:rF D n 140 (a0,())=q5s D n (fun x0 x1=>LF D n 140 eM n (Y9 x0 x1) (CF D n 140 [] eM (lF 140))) a0:=by kernel_rfl
 rw[h];simp only[afW];rfl
def Ph(D:DX)(n:Nat)(a0:ak)(a1:Int):Option ag:=br (decide (a0.2.1=0)) (br (decide (a0.2.2.1=0)) (qd (lY D a0.1 0 1000) fun p0=>some ((p0.1.1,()),())) (some ((false,()),()))) (br (decide (a0.1=0)) (qd (lY D a0.2.1 1 a1) fun p1=>br p1.1.1 (qd (lY D a0.2.2.1 1 1000000) fun p2=>some ((p2.1.1,()),())) (some ((false,()),()))) (some ((false,()),())))
def ZF(D:DX)(n:Nat)(a0:ak)(a1:Int):Option ag:=Ph D n a0 a1
theorem aiI(D:DX)(n:Nat)(a0:ak)(a1:Int):rF D n 141 (a0,(a1,()))=ZF D n a0 a1:=by kernel_rfl
def PD(D:DX)(n:Nat)(a0:Int):Option ag:=qd (lY D a0 1 6) fun b=>some ((b.1.1,()),())
def q8g(D:DX)(n:Nat)(a0:Int):Option ag:=PD D n a0
theorem aju(D:DX)(n:Nat)(a0:Int):rF D n 143 (a0,())=q8g D n a0:=by kernel_rfl
def aak(D:DX)(n:Nat)(a0:Bool):Option aH:=br a0 (some ((1,()),())) (some ((0,()),()))
def Py(D:DX)(n:Nat)(a0:Bool):Option aH:=aak D n a0
theorem ajw(D:DX)(n:Nat)(a0:Bool):rF D n 145 (a0,())=Py D n a0:=by kernel_rfl
def Qi(D:DX)(n:Nat)(a0:ak):Option ag:=let y1:Option ag:=(qd (Dq D a0.2.2.1) fun p7=>some ((p7.1.1,()),()));let y0:Option ag:=(qd (lY D a0.2.1 0 2) fun p1=>qd (Ci D a0.1) fun p5=>br p5.1.1 (br p1.1.1 y1 (some ((false,()),()))) (some ((bif p1.1.1 then decide (a0.2.2.1=0) else false,()),())));qd (lY D a0.1 1 10) fun p3=>br (!p3.1.1) (some ((false,()),())) (qd (Wc D a0.1) fun p4=>br p4.1.1 (qd (Wb D a0.2.1) fun p0=>br (decide (a0.1=6)) y0 (qd (Ci D a0.1) fun p6=>br p6.1.1 (br p0.1.1 y1 (some ((false,()),()))) (some ((bif p0.1.1 then decide (a0.2.2.1=0) else false,()),())))) (br (decide (a0.1=6)) y0 (qd (Ci D a0.1) fun p2=>br p2.1.1 (br (decide (a0.2.1=0)) y1 (some ((false,()),()))) (some ((bif decide (a0.2.1=0) then decide (a0.2.2.1=0) else false,()),())))))
def GD(D:DX)(n:Nat)(a0:ak):Option ag:=Qi D n a0
theorem aai(D:DX)(n:Nat)(a0:ak):rF D n 146 (a0,())=GD D n a0:=by kernel_rfl
def Zy(D:DX)(n:Nat)(go:Int->Int->aD->Option aH)(K0:Int->Option aH)(K1:Option aH)(x0 x1:Int)(x2:aD):Option aH:=br (decide (x1>=0)) (br (decide (0<=x1)&&decide (x1<(x2.2.2.2.1.length:Int))) (br (decide ((List.getD x2.2.2.2.1 x1.toNat (0,(0,0,0,()),0,0,0,(0,[],()),())).1=x0)) (K0 x1) (go x0 (wrap .i64 (x1-1)) x2)) none) K1
def VW(D:DX)(n:Nat)(K0:Int->Option aH)(K1:Option aH):Nat->Int->Int->aD->Option aH | 0=>(fun x0 x1 x2=>none) | m+1=>(fun x0 x1 x2=>Zy D n (VW D n K0 K1 m) K0 K1 x0 x1 x2)
def ags(D:DX)(n:Nat)(a:Int):Option aH:=some ((a,()),())
def agt(D:DX)(n:Nat):Option aH:=some ((-1,()),())
def qzz(D:DX)(n:Nat):(Int)->(Int)->aD->Option aH:=(fun x0 x1 x2=>VW D n (fun a=>ags D n a) (agt D n) n x0 x1 x2)
def Z5(D:DX)(n:Nat)(cw:Int->Int->aD->Option aH)(a0:aD)(a1:Int):Option aH:=cw a1 (wrap .i64 ((a0.2.2.2.1.length:Int)-1)) a0
def ZJ(D:DX)(n:Nat)(a0:aD)(a1:Int):Option aH:=Z5 D n (qzz D n) a0 a1
def Zx(x0 x1:Int)(x2:aD):St:=bq 23 [(1,AV.val ah x0),(2,AV.addr 2 []),(5,AV.val ah x1)] [(2,aC.mk cK Mk.no x2 true)]
def q96(a:Int):St:=bq 23 [(4,AV.val ah a)] []
def q97:St:=bq 23 [] []
theorem agZ(D:DX)(n:Nat)(K:KT 147):∀(m:Nat)(x0 x1:Int)(x2:aD),LF D n 147 fe m (Zx x0 x1 x2) K=VW D n (fun a=>K (Ex.ret) (q96 a)) (K (Ex.exit 0) (q97)) m x0 x1 x2:=pH (fun F=>Zy D n F (fun a=>K (Ex.ret) (q96 a)) (K (Ex.exit 0) (q97)))
theorem agr(D:DX)(n:Nat)(x0)(x1)(x2):LF D n 147 fe n (Zx x0 x1 x2) (CF D n 147 [] fe (lF 147))=qzz D n x0 x1 x2 :=by rw[agZ];kernel_rfl
theorem aiM(D:DX)(n:Nat)(a0:aD)(a1:Int):rF D n 147 (a0,(a1,()))=ZJ D n a0 a1:=by
 have h:rF D n 147 (a0,(a1,()))=Z5 D n (fun x0 x1 x2=>LF D n 147 fe n (Zx x0 x1 x2) (CF D n 147 [] fe (lF 147))) a0 a1:=by kernel_rfl
 rw[h];simp only[agr];rfl
def qkd(D:DX)(n:Nat)(a0:List ak):Option mO:=br (decide (Int.toNat (a0.length:Int)=0)) (both (some (([],()),())) (br (decide (0+a0.length<=ga)) (some (([]++a0,()),())) none)) (br (decide (0+a0.length<=ga)) (some (([]++a0,()),())) none)
def qgl(D:DX)(n:Nat)(a0:List ak):Option mO:=qkd D n a0
theorem qtz(D:DX)(n:Nat)(a0:List ak):rF D n 148 (a0,())=qgl D n a0:=by kernel_rfl
end
end Go.G

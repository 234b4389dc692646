import Derived.Test.YtpmimbgkiindbaaGreatAPFnAlone0
set_option maxRecDepth 100000
set_option linter.unusedVariables false
set_option linter.unusedSimpArgs false
set_option linter.unusedSectionVars false
open Go.IntKind (wrap)
namespace Go.G
set_option maxHeartbeats 0
open Go Go.V
noncomputable section
def qkb(D:DX)(n:Nat)(a0:List cE):Option ((List cE×Unit)×Unit):=br (decide (Int.toNat (a0.length:Int)=0)) (both (some (([],()),())) (br (decide (0+a0.length<=f9)) (some (([]++a0,()),())) none)) (br (decide (0+a0.length<=f9)) (some (([]++a0,()),())) none)
def qgj(D:DX)(n:Nat)(a0:List cE):Option ((List cE×Unit)×Unit):=qkb D n a0
theorem qtx(D:DX)(n:Nat)(a0:List cE):rF D n 151 (a0,())=qgj D n a0:=by kernel_rfl
def Qs(D:DX)(n:Nat)(a0:aR):Option ((cE×gO)×Unit):=br (decide ((a0.2.2.2.2.1.length:Int)=0)) (some (((0,0,0,0,()),false,()),())) (br (decide (0<=wrap .i64 ((a0.2.2.2.2.1.length:Int)-1))&&decide (wrap .i64 ((a0.2.2.2.2.1.length:Int)-1)<(a0.2.2.2.2.1.length:Int))) (some ((List.getD a0.2.2.2.2.1 (Int.toNat (wrap .i64 ((a0.2.2.2.2.1.length:Int)-1))) (0,0,0,0,()),true,()),())) none)
def GD(D:DX)(n:Nat)(a0:aR):Option ((cE×gO)×Unit):=Qs D n a0
theorem aaZ(D:DX)(n:Nat)(a0:aR):rF D n 152 (a0,())=GD D n a0:=by kernel_rfl
def O6(D:DX)(n:Nat)(a0:aU)(a1:cE):Option tq6:=let y0:=Int.toNat (if 0>a1.2.2.2.1 then 0 else a1.2.2.2.1);qd (JT D a0) fun p0=>let y1:=List.getD p0.1.1.2.1 a1.1.toNat (0,0,[],(0,[],()),());let y2:=List.getD y1.2.2.1 a1.2.2.2.1.toNat (0,0,0,());let y3:=List.getD y1.2.2.1 y0 (0,0,0,());let y4:=Int.toNat y3.1;let y5:=Int.toNat y2.1;let y6:=List.set p0.1.1.1 y4 (y3.2.1,0,0,());let y7:=List.set p0.1.1.1 y5 (y2.2.1,0,0,());qd (IB D (p0.1.1.1,p0.1.1.2.1,())) fun p3=>br (!p3.1.1) (some (((p0.1.1.1,p0.1.1.2.1,()),a1,(0,0,0,0,()),2,()),())) (qd (kC D a1.1 0 (wrap .i64 ((p0.1.1.2.1.length:Int)-1))) fun p4=>br (bif !p4.1.1 then true else decide (a1.2.1<1)) (some (((p0.1.1.1,p0.1.1.2.1,()),a1,(0,0,0,0,()),2,()),())) (br (decide (0<=a1.1)&&decide (a1.1<(p0.1.1.2.1.length:Int))) (br (y1.1 != a1.2.1) (some (((p0.1.1.1,p0.1.1.2.1,()),a1,(0,0,0,0,()),2,()),())) (br (decide (0<=a1.1)&&decide (a1.1<(p0.1.1.2.1.length:Int))) (br (bif y1.2.1 != 0 then bif decide (y1.2.1=1) then true else decide (a1.2.2.2.1<(y1.2.2.1.length:Int)) else false) (br (decide (y1.2.1=1)) (qd (UJ D (p0.1.1.1,p0.1.1.2.1,()) (a1.1,a1.2.1,if 0>a1.2.2.1 then 0 else a1.2.2.1,if 0>a1.2.2.2.1 then 0 else a1.2.2.2.1,a1.2.2.2.2)) fun p1=>some (((p1.2.1.1,p1.2.1.2.1,()),p1.1.1,p1.1.2.1,p1.1.2.2.1,()),())) (br (bif decide (y1.2.1=0) then true else decide ((if 0>a1.2.2.2.1 then 0 else a1.2.2.2.1)>=(y1.2.2.1.length:Int))) (some (((p0.1.1.1,p0.1.1.2.1,()),(a1.1,a1.2.1,if 0>a1.2.2.1 then 0 else a1.2.2.1,if 0>a1.2.2.2.1 then 0 else a1.2.2.2.1,a1.2.2.2.2),(0,0,0,0,()),2,()),())) (br (decide (0<=if 0>a1.2.2.2.1 then 0 else a1.2.2.2.1)&&decide ((if 0>a1.2.2.2.1 then 0 else a1.2.2.2.1)<(y1.2.2.1.length:Int))) (br (decide (0<=y3.1)&&decide (y3.1<(p0.1.1.1.length:Int))) (br (pK bU (List.getD p0.1.1.1 y4 (0,0,0,())) (0,wrap .i64 (a1.1+1),a1.2.1,())) (br (decide (y1.2.1=2)) (some (((List.set y6 y4 (y3.2.2.1,(List.getD y6 y4 (0,0,0,())).2),p0.1.1.2.1,()),(a1.1,a1.2.1,if 0>a1.2.2.1 then 0 else a1.2.2.1,wrap .i64 ((if 0>a1.2.2.2.1 then 0 else a1.2.2.2.1)+1),a1.2.2.2.2),(0,0,0,0,()),0,()),())) (some (((y6,p0.1.1.2.1,()),(a1.1,a1.2.1,if 0>a1.2.2.1 then 0 else a1.2.2.1,wrap .i64 ((if 0>a1.2.2.2.1 then 0 else a1.2.2.2.1)+1),a1.2.2.2.2),(0,0,0,0,()),0,()),()))) (some (((p0.1.1.1,p0.1.1.2.1,()),(a1.1,a1.2.1,if 0>a1.2.2.1 then 0 else a1.2.2.1,wrap .i64 ((if 0>a1.2.2.2.1 then 0 else a1.2.2.2.1)+1),a1.2.2.2.2),(0,0,0,0,()),0,()),()))) none) none))) (br (decide (y1.2.1=1)) (qd (UJ D (p0.1.1.1,p0.1.1.2.1,()) a1) fun p2=>some (((p2.2.1.1,p2.2.1.2.1,()),p2.1.1,p2.1.2.1,p2.1.2.2.1,()),())) (br (bif decide (y1.2.1=0) then true else decide (a1.2.2.2.1>=(y1.2.2.1.length:Int))) (some (((p0.1.1.1,p0.1.1.2.1,()),a1,(0,0,0,0,()),2,()),())) (br (decide (0<=a1.2.2.2.1)&&decide (a1.2.2.2.1<(y1.2.2.1.length:Int))) (br (decide (0<=y2.1)&&decide (y2.1<(p0.1.1.1.length:Int))) (br (pK bU (List.getD p0.1.1.1 y5 (0,0,0,())) (0,wrap .i64 (a1.1+1),a1.2.1,())) (br (decide (y1.2.1=2)) (some (((List.set y7 y5 (y2.2.2.1,(List.getD y7 y5 (0,0,0,())).2),p0.1.1.2.1,()),(a1.1,a1.2.1,a1.2.2.1,wrap .i64 (a1.2.2.2.1+1),a1.2.2.2.2),(0,0,0,0,()),0,()),())) (some (((y7,p0.1.1.2.1,()),(a1.1,a1.2.1,a1.2.2.1,wrap .i64 (a1.2.2.2.1+1),a1.2.2.2.2),(0,0,0,0,()),0,()),()))) (some (((p0.1.1.1,p0.1.1.2.1,()),(a1.1,a1.2.1,a1.2.2.1,wrap .i64 (a1.2.2.2.1+1),a1.2.2.2.2),(0,0,0,0,()),0,()),()))) none) none)))) none)) none))
def ZF(D:DX)(n:Nat)(a0:aU)(a1:cE):Option tq6:=O6 D n a0 a1
theorem ain(D:DX)(n:Nat)(a0:aU)(a1:cE):rF D n 153 (a0,(a1,()))=ZF D n a0 a1:=by kernel_rfl
def PY(D:DX)(n:Nat)(a0:aR)(a1:cE):Option ji:=qd (JO D a0) fun b=>br (decide (b.1.1.2.2.2.2.1.length+1<=f9)) (some (((b.1.1.1,b.1.1.2.1,b.1.1.2.2.1,b.1.1.2.2.2.1,b.1.1.2.2.2.2.1++[a1],()),()),())) none
def Gt(D:DX)(n:Nat)(a0:aR)(a1:cE):Option ji:=PY D n a0 a1
theorem aac(D:DX)(n:Nat)(a0:aR)(a1:cE):rF D n 154 (a0,(a1,()))=Gt D n a0 a1:=by kernel_rfl
def PZ(D:DX)(n:Nat)(a0:aR)(a1:cE):Option ji:=qd (JO D a0) fun p0=>br (decide ((p0.1.1.2.2.2.2.1.length:Int)>0)) (br (decide (0<=wrap .i64 ((p0.1.1.2.2.2.2.1.length:Int)-1))&&decide (wrap .i64 ((p0.1.1.2.2.2.2.1.length:Int)-1)<(p0.1.1.2.2.2.2.1.length:Int))) (some (((p0.1.1.1,p0.1.1.2.1,p0.1.1.2.2.1,p0.1.1.2.2.2.1,List.set p0.1.1.2.2.2.2.1 (Int.toNat (wrap .i64 ((p0.1.1.2.2.2.2.1.length:Int)-1))) a1,()),()),())) none) (some (((p0.1.1.1,p0.1.1.2.1,p0.1.1.2.2.1,p0.1.1.2.2.2.1,p0.1.1.2.2.2.2.1,()),()),()))
def Gv(D:DX)(n:Nat)(a0:aR)(a1:cE):Option ji:=PZ D n a0 a1
theorem aaf(D:DX)(n:Nat)(a0:aR)(a1:cE):rF D n 155 (a0,(a1,()))=Gv D n a0 a1:=by kernel_rfl
def Qr(D:DX)(n:Nat)(a0:aR):Option ji:=qd (JO D a0) fun p0=>br (decide ((p0.1.1.2.2.2.2.1.length:Int)>0)) (br (decide (0<=wrap .i64 ((p0.1.1.2.2.2.2.1.length:Int)-1))&&decide (wrap .i64 ((p0.1.1.2.2.2.2.1.length:Int)-1)<=(p0.1.1.2.2.2.2.1.length:Int))) (some (((p0.1.1.1,p0.1.1.2.1,p0.1.1.2.2.1,p0.1.1.2.2.2.1,List.take (Int.toNat (wrap .i64 ((p0.1.1.2.2.2.2.1.length:Int)-1))) p0.1.1.2.2.2.2.1,()),()),())) none) (some (((p0.1.1.1,p0.1.1.2.1,p0.1.1.2.2.1,p0.1.1.2.2.2.1,p0.1.1.2.2.2.2.1,()),()),()))
def GC(D:DX)(n:Nat)(a0:aR):Option ji:=Qr D n a0
theorem aaY(D:DX)(n:Nat)(a0:aR):rF D n 156 (a0,())=GC D n a0:=by kernel_rfl
def q0b(D:DX)(n:Nat)(z0:Int)(z1:aD):Option wg:=let y5:=List.getD z1.2.1 z0.toNat ([],0,false,[],[],());let y2:=List.set z1.2.1 z0.toNat (y5.1,wrap .i64 (y5.2.1+1),y5.2.2);let y6:=List.getD y2 z0.toNat ([],0,false,[],[],());let y0:=List.set y2 z0.toNat (y6.1,y6.2.1,false,y6.2.2.2);let y4:=List.getD y0 z0.toNat ([],0,false,[],[],());let y1:=List.set y0 z0.toNat (y4.1,y4.2.1,y4.2.2.1,[],y4.2.2.2.2);let y3:=List.getD y1 z0.toNat ([],0,false,[],[],());br (decide (0<=z0)&&decide (z0<(z1.2.1.length:Int))) (some ((),(z1.1,List.set y1 z0.toNat (y3.1,y3.2.1,y3.2.2.1,y3.2.2.2.1,[],y3.2.2.2.2.2),z1.2.2),())) none
def qqt(D:DX)(n:Nat)(z0:Int)(z1:aD):Option wg:=q0b D n z0 z1
def qsf(D:DX)(n:Nat)(j0:Int->aD->Option wg)(a0:aD)(a1:Int)(a2:eN):Option wg:=qd (U6 D a0 a1) fun p0=>let y2:=List.getD p0.2.1.2.2.2.1 p0.1.1.toNat (0,(0,0,0,()),0,0,0,(0,[],()),());let y0:=List.set p0.2.1.2.2.2.1 p0.1.1.toNat (y2.1,y2.2.1,y2.2.2.1,y2.2.2.2.1,p0.2.1.2.2.1,y2.2.2.2.2.2);let y1:=List.getD y0 p0.1.1.toNat (0,(0,0,0,()),0,0,0,(0,[],()),());br (decide (p0.1.1>=0)) (br (decide (0<=p0.1.1)&&decide (p0.1.1<(p0.2.1.2.2.2.1.length:Int))) (qd (Iz D a2) fun p1=>br (decide (0<=p0.1.1)&&decide (p0.1.1<(y0.length:Int))) (j0 a1 (p0.2.1.1,p0.2.1.2.1,p0.2.1.2.2.1,List.set y0 p0.1.1.toNat (y1.1,y1.2.1,y1.2.2.1,y1.2.2.2.1,y1.2.2.2.2.1,(p1.1.1.1,p1.1.1.2.1,()),y1.2.2.2.2.2.2),p0.2.1.2.2.2.2)) none) none) (j0 a1 p0.2.1)
def qrv(D:DX)(n:Nat)(a0:aD)(a1:Int)(a2:eN):Option wg:=qsf D n (fun z0 z1=>qqt D n z0 z1) a0 a1 a2
def qym(z0:Int)(z1:aD):St:=bq 55 [(0,AV.addr 0 []),(1,AV.val ah z0)] [(0,aC.mk cN As z1 true)]
theorem adA(D:DX)(n:Nat)(z0)(z1):mW ctx D (ctx.hints 157) n (tD (bF 157) [.r,.r]) (qym z0 z1) (lF 157)=qqt D n z0 z1:=by kernel_rfl
theorem ad3(D:DX)(n:Nat)(K:St->Option (Out ctx 157))(a0:aD)(a1:Int)(a2:eN):ux ctx D (ctx.hints 157) n 2 (bF 157) (H8 (C:=ctx) vR 157 (a0,(a1,(a2,())))) K (lF 157)=qsf D n (fun z0 z1=>K (qym z0 z1)) a0 a1 a2:=by kernel_rfl
theorem aem(D:DX)(n:Nat)(a0:aD)(a1:Int)(a2:eN):rF D n 157 (a0,(a1,(a2,())))=qrv D n a0 a1 a2:=
 (adf vR D n 157 _ (by kernel_rfl)).trans ((acS ctx D (ctx.hints 157) n 2 (lF 157) (bF 157) [.r,.r] _ rfl (by kernel_rfl)).symm.trans ((ad3 D n (fun S=>mW ctx D (ctx.hints 157) n (tD (bF 157) [.r,.r]) S (lF 157)) a0 a1 a2).trans (by simp only[adA];rfl)))
def q6g(D:DX)(n:Nat)(a0:aD)(a1:Int)(a2:eN):Option wg:=qd (U6 D a0 a1) fun p0=>let y2:=List.getD p0.2.1.2.2.2.1 p0.1.1.toNat (0,(0,0,0,()),0,0,0,(0,[],()),());let y0:=List.set p0.2.1.2.2.2.1 p0.1.1.toNat (y2.1,y2.2.1,y2.2.2.1,p0.2.1.2.2.1,y2.2.2.2.2);let y1:=List.getD y0 p0.1.1.toNat (0,(0,0,0,()),0,0,0,(0,[],()),());br (decide (p0.1.1<0)) (some ((),p0.2.1,())) (br (decide (0<=p0.1.1)&&decide (p0.1.1<(p0.2.1.2.2.2.1.length:Int))) (qd (Iz D a2) fun p1=>br (decide (0<=p0.1.1)&&decide (p0.1.1<(y0.length:Int))) (br (decide (p0.2.1.2.2.2.2.1.length+1<=f9)) (some ((),(p0.2.1.1,p0.2.1.2.1,p0.2.1.2.2.1,List.set y0 p0.1.1.toNat (y1.1,y1.2.1,y1.2.2.1,y1.2.2.2.1,y1.2.2.2.2.1,(p1.1.1.1,p1.1.1.2.1,()),y1.2.2.2.2.2.2),p0.2.1.2.2.2.2.1++[p0.1.1],p0.2.1.2.2.2.2.2),())) none) none) none)
def qt5(D:DX)(n:Nat)(a0:aD)(a1:Int)(a2:eN):Option wg:=q6g D n a0 a1 a2
theorem aeW(D:DX)(n:Nat)(a0:aD)(a1:Int)(a2:eN):rF D n 158 (a0,(a1,(a2,())))=qt5 D n a0 a1 a2:=by kernel_rfl
def PW(D:DX)(n:Nat)(a0:ak)(a1:List bD):Option aH:=qd (Dk D a0) fun b=>br (!b.1.1) (some ((-1,()),())) (qd (VT D a0 a1) fun b=>some ((b.1.1.2.2.1,()),()))
def Gp(D:DX)(n:Nat)(a0:ak)(a1:List bD):Option aH:=PW D n a0 a1
theorem aam(D:DX)(n:Nat)(a0:ak)(a1:List bD):rF D n 159 (a0,(a1,()))=Gp D n a0 a1:=by kernel_rfl
def Y3(D:DX)(n:Nat)(go:List bD->Int->Int->Int->Int->ak->jj->jj->cV->Option nx)(K0:List bD->ak->jj->jj->Option nx)(x0:List bD)(x1 x2 x3 x4:Int)(x5:ak)(x6 x7:jj)(x8:cV):Option nx:=br (decide (x4<x3)) (br (decide (0<=x4)&&decide (x4<(x8.2.1.length:Int))) (qd (uO D x0 (List.getD x8.2.1 x4.toNat 0)) fun p0=>qd (Zz D x5 (List.getD x8.2.1 x4.toNat 0) p0.1.1 x2 x1) fun p1=>br (decide (x7.2.2.1.length+1<=f9)) (br (decide (x5.1=7)) (br (decide (x7.2.1.2.1.length+1<=f9)) (go x0 x1 x2 x3 (wrap .i64 (x4+1)) x5 x6 (x7.1,(x7.2.1.1,x7.2.1.2.1++[p0.1.1],x7.2.1.2.2),x7.2.2.1++[(List.getD x8.2.1 x4.toNat 0,p0.1.1,p1.1.1,())],x7.2.2.2) x8) none) (go x0 x1 x2 x3 (wrap .i64 (x4+1)) x5 x6 (x7.1,x7.2.1,x7.2.2.1++[(List.getD x8.2.1 x4.toNat 0,p0.1.1,p1.1.1,())],x7.2.2.2) x8)) none) none) (K0 x0 x5 x6 x7)
def JU(D:DX)(n:Nat)(K0:List bD->ak->jj->jj->Option nx):Nat->(List bD)->Int->Int->Int->Int->ak->jj->jj->cV->Option nx | 0=>(fun x0 x1 x2 x3 x4 x5 x6 x7 x8=>none) | m+1=>(fun x0 x1 x2 x3 x4 x5 x6 x7 x8=>Y3 D n (JU D n K0 m) K0 x0 x1 x2 x3 x4 x5 x6 x7 x8)
def S7(D:DX)(n:Nat)(c:List bD)(b:ak)(d a:jj):Option nx:=br (decide (b.1=10)) (qd (vN D b.2.2.1) fun p1=>qd (uO D c p1.1.1) fun p0=>br (p0.1.1 != 0) (some (((a.1,(0,[wrap .i64 (p0.1.1-1)],()),a.2.2.1,()),true,()),())) (some (((a.1,(3,a.2.1.2.1,()),a.2.2.1,()),true,()),()))) (some (((a.1,(a.2.1.1,a.2.1.2.1,()),a.2.2.1,()),true,()),()))
def qyq(D:DX)(n:Nat):(List bD)->(Int)->(Int)->(Int)->(Int)->ak->jj->jj->cV->Option nx:=(fun x0 x1 x2 x3 x4 x5 x6 x7 x8=>JU D n (fun a b c d=>S7 D n a b c d) n x0 x1 x2 x3 x4 x5 x6 x7 x8)
def ZW(D:DX)(n:Nat)(cw:List bD->Int->Int->Int->Int->ak->jj->jj->cV->Option nx)(a0:ak)(a1:List bD):Option nx:=qd (Dk D a0) fun p9=>br (!p9.1.1) (some (((false,(0,[],()),[],()),false,()),())) (qd (VT D a0 a1) fun p0=>br (decide (p0.1.1.2.2.1>=0)) (some (((false,(0,[],()),[],()),false,()),())) (qd (Zy D a0 a1) fun p2=>br p2.1.2.1 (some (((true,(p2.1.1.1,p2.1.1.2.1,()),[],()),true,()),())) (qd (tw D) fun jO=>qd (uO D a1 jO.1.1) fun p1=>qd (yA D a0.2.1) fun j8=>qd (uO D a1 j8.1.1) fun p5=>br (decide (a0.1=9)) (qd (yA D (wrap .i64 (p1.1.1-1))) fun kW=>qd (uO D a1 kW.1.1) fun p6=>br (bif bif decide (a0.1=1) then true else decide (a0.1=2) then true else decide (a0.1=3)) (qd (VC D a0 a1 p6.1.1 p1.1.1) fun p7=>some (((false,(0,[],()),p7.1.1,()),true,()),())) (qd (U7 D p0.1.1.2.1) fun p3=>cw a1 p1.1.1 p6.1.1 (p3.2.1.length:Int) 0 a0 (false,(0,[],()),[],()) (false,(0,[],()),[],()) (p0.1.1.1,p3.2.1,p0.1.1.2.2))) (br (bif bif decide (a0.1=1) then true else decide (a0.1=2) then true else decide (a0.1=3)) (qd (VC D a0 a1 p5.1.1 p1.1.1) fun p8=>some (((false,(0,[],()),p8.1.1,()),true,()),())) (qd (U7 D p0.1.1.2.1) fun p4=>cw a1 p1.1.1 p5.1.1 (p4.2.1.length:Int) 0 a0 (false,(0,[],()),[],()) (false,(0,[],()),[],()) (p0.1.1.1,p4.2.1,p0.1.1.2.2))))))
def ZI(D:DX)(n:Nat)(a0:ak)(a1:List bD):Option nx:=ZW D n (qyq D n) a0 a1
def Y2(x0:List bD)(x1 x2 x3 x4:Int)(x5:ak)(x6 x7:jj)(x8:cV):St:=bq 154 [(1,AV.val iW x0),(2,AV.addr 2 []),(4,AV.addr 4 []),(9,AV.val ah x1),(11,AV.val ah x2),(13,AV.addr 13 []),(95,AV.b9 26 [om.snd,om.fst] 0),(96,AV.val ah x3),(97,AV.val ah x4)] [(2,aC.mk bU Mk.no x5 true),(4,aC.mk rm At x6 true),(13,aC.mk rm At x7 true),(26,aC.mk mN oU x8 true)]
def q80(a:List bD)(b:ak)(c d:jj):St:=bq 154 [(1,AV.val iW a),(2,AV.addr 2 []),(4,AV.addr 4 []),(13,AV.addr 13 [])] [(2,aC.mk bU Mk.no b true),(4,aC.mk rm At c true),(13,aC.mk rm At d true)]
theorem agL(D:DX)(n:Nat)(K:KT 160):∀(m:Nat)(x0:List bD)(x1 x2 x3 x4:Int)(x5:ak)(x6 x7:jj)(x8:cV),LF D n 160 LI m (Y2 x0 x1 x2 x3 x4 x5 x6 x7 x8) K=JU D n (fun a b c d=>K (Ex.exit 0) (q80 a b c d)) m x0 x1 x2 x3 x4 x5 x6 x7 x8:=T7 (fun F=>Y3 D n F (fun a b c d=>K (Ex.exit 0) (q80 a b c d)))
theorem af5(D:DX)(n:Nat)(x0)(x1)(x2)(x3)(x4)(x5)(x6)(x7)(x8):LF D n 160 LI n (Y2 x0 x1 x2 x3 x4 x5 x6 x7 x8) (CF D n 160 [] LI (lF 160))=qyq D n x0 x1 x2 x3 x4 x5 x6 x7 x8 :=by rw[agL];kernel_rfl
theorem aiq(D:DX)(n:Nat)(a0:ak)(a1:List bD):rF D n 160 (a0,(a1,()))=ZI D n a0 a1:=by
 have h:rF D n 160 (a0,(a1,()))=ZW D n (fun x0 x1 x2 x3 x4 x5 x6 x7 x8=>LF D n 160 LI n (Y2 x0 x1 x2 x3 x4 x5 x6 x7 x8) (CF D n 160 [] LI (lF 160))) a0 a1:=by kernel_rfl
 rw[h];simp only[af5];rfl
def Pf(D:DX)(n:Nat)(a0:aU)(a1:Int)(a2:List ak)(a3:eN):Option tq8:=let y0:=List.getD a0.2.1 a1.toNat (0,0,[],(0,[],()),());qd (JT D a0) fun p0=>qd (IB D a0) fun p4=>br (!p4.1.1) (some (((p0.1.1.1,p0.1.1.2.1,()),(0,0,0,0,()),false,()),())) (qd (kC D a1 0 (wrap .i64 ((a0.2.1.length:Int)-1))) fun p5=>br (!p5.1.1) (some (((p0.1.1.1,p0.1.1.2.1,()),(0,0,0,0,()),false,()),())) (qd (qd4 D a0.1 (bk.mk 177 [bL.cm ah a1])) fun p6=>br p6.1.1 (some (((p0.1.1.1,p0.1.1.2.1,()),(0,0,0,0,()),false,()),())) (br (decide (0<=a1)&&decide (a1<(a0.2.1.length:Int))) (qd (JT D a0) fun p1=>qd (UY D a2) fun p3=>qd (Iz D a3) fun p2=>br (decide (0<=a1)&&decide (a1<(p1.1.1.2.1.length:Int))) (qd (IB D (p1.1.1.1,List.set p1.1.1.2.1 a1.toNat (wrap .i64 (y0.1+1),1,p3.1.1,(p2.1.1.1,p2.1.1.2.1,()),()),())) fun p7=>br (!p7.1.1) (some (((p0.1.1.1,p0.1.1.2.1,()),(0,0,0,0,()),false,()),())) (some (((p1.1.1.1,List.set p1.1.1.2.1 a1.toNat (wrap .i64 (y0.1+1),1,p3.1.1,(p2.1.1.1,p2.1.1.2.1,()),()),()),(a1,wrap .i64 (y0.1+1),0,0,()),true,()),()))) none) none)))
def q73(D:DX)(n:Nat)(a0:aU)(a1:Int)(a2:List ak)(a3:eN):Option tq8:=Pf D n a0 a1 a2 a3
theorem ai4(D:DX)(n:Nat)(a0:aU)(a1:Int)(a2:List ak)(a3:eN):rF D n 161 (a0,(a1,(a2,(a3,()))))=q73 D n a0 a1 a2 a3:=by kernel_rfl
def qez(D:DX)(n:Nat)(a1:bk)(go:List bE->Int->Int->Option aH)(K0:Int->Option aH)(K1:Option aH)(x0:List bE)(x1 x2:Int):Option aH:=br (decide (x2<x1)) (br (decide (0<=x2)&&decide (x2<(x0.length:Int))) (qd (iK ctx D a1 [bL.val wj (List.getD x0 x2.toNat (0,0,[],(0,[],()),()))] Ty.bool) fun b=>br b (K0 x2) (go x0 x1 (wrap .i64 (x2+1)))) none) K1
def JG(D:DX)(n:Nat)(a1:bk)(K0:Int->Option aH)(K1:Option aH):Nat->(List bE)->Int->Int->Option aH | 0=>(fun x0 x1 x2=>none) | m+1=>(fun x0 x1 x2=>qez D n a1 (JG D n a1 K0 K1 m) K0 K1 x0 x1 x2)
def qd9(D:DX)(n:Nat)(a1:bk)(a:Int):Option aH:=some ((a,()),())
def qea(D:DX)(n:Nat)(a1:bk):Option aH:=some ((-1,()),())
def qep(D:DX)(n:Nat)(a1:bk):(List bE)->(Int)->(Int)->Option aH:=(fun x0 x1 x2=>JG D n a1 (fun a=>qd9 D n a1 a) (qea D n a1) n x0 x1 x2)
def qff(D:DX)(n:Nat)(a1:bk)(cw:List bE->Int->Int->Option aH)(a0:List bE):Option aH:=cw a0 (a0.length:Int) 0
def qfa(D:DX)(n:Nat)(a0:List bE)(a1:bk):Option aH:=qff D n a1 (qep D n a1) a0
def qey(a1:bk)(x0:List bE)(x1 x2:Int):St:=bq 19 [(0,AV.val CH x0),(1,AV.ew a1),(7,AV.val ah x1),(8,AV.val ah x2)] []
def qhq(a1:bk)(a:Int):St:=bq 19 [(4,AV.val ah a)] []
def qhr(a1:bk):St:=bq 19 [] []
theorem qo3(D:DX)(n:Nat)(a1:bk)(K:KT 162):∀(m:Nat)(x0:List bE)(x1 x2:Int),LF D n 162 fc m (qey a1 x0 x1 x2) K=JG D n a1 (fun a=>K (Ex.ret) (qhq a1 a)) (K (Ex.exit 0) (qhr a1)) m x0 x1 x2:=pQ (fun F=>qez D n a1 F (fun a=>K (Ex.ret) (qhq a1 a)) (K (Ex.exit 0) (qhr a1)))
theorem qoh(D:DX)(n:Nat)(a1:bk)(x0)(x1)(x2):LF D n 162 fc n (qey a1 x0 x1 x2) (CF D n 162 [] fc (lF 162))=qep D n a1 x0 x1 x2 :=by rw[qo3];kernel_rfl
theorem qqc(D:DX)(n:Nat)(a0:List bE)(a1:bk):rF D n 162 (a0,(a1,()))=qfa D n a0 a1:=by
 have h:rF D n 162 (a0,(a1,()))=qff D n a1 (fun x0 x1 x2=>LF D n 162 fc n (qey a1 x0 x1 x2) (CF D n 162 [] fc (lF 162))) a0:=by kernel_rfl
 rw[h];simp only[qoh];rfl
def qf7(D:DX)(n:Nat)(a1:bk)(go:List ak->Int->Int->Option aH)(K0:Int->Option aH)(K1:Option aH)(x0:List ak)(x1 x2:Int):Option aH:=br (decide (x2<x1)) (br (decide (0<=x2)&&decide (x2<(x0.length:Int))) (qd (iK ctx D a1 [bL.val bU (List.getD x0 x2.toNat (0,0,0,()))] Ty.bool) fun b=>br b (K0 x2) (go x0 x1 (wrap .i64 (x2+1)))) none) K1
def JK(D:DX)(n:Nat)(a1:bk)(K0:Int->Option aH)(K1:Option aH):Nat->(List ak)->Int->Int->Option aH | 0=>(fun x0 x1 x2=>none) | m+1=>(fun x0 x1 x2=>qf7 D n a1 (JK D n a1 K0 K1 m) K0 K1 x0 x1 x2)
def qfp(D:DX)(n:Nat)(a1:bk)(a:Int):Option aH:=some ((a,()),())
def qfq(D:DX)(n:Nat)(a1:bk):Option aH:=some ((-1,()),())
def qfz(D:DX)(n:Nat)(a1:bk):(List ak)->(Int)->(Int)->Option aH:=(fun x0 x1 x2=>JK D n a1 (fun a=>qfp D n a1 a) (qfq D n a1) n x0 x1 x2)
def qgp(D:DX)(n:Nat)(a1:bk)(cw:List ak->Int->Int->Option aH)(a0:List ak):Option aH:=cw a0 (a0.length:Int) 0
def qgm(D:DX)(n:Nat)(a0:List ak)(a1:bk):Option aH:=qgp D n a1 (qfz D n a1) a0
def qf6(a1:bk)(x0:List ak)(x1 x2:Int):St:=bq 19 [(0,AV.val bT x0),(1,AV.ew a1),(7,AV.val ah x1),(8,AV.val ah x2)] []
def qi9(a1:bk)(a:Int):St:=bq 19 [(4,AV.val ah a)] []
def qja(a1:bk):St:=bq 19 [] []
theorem qsp(D:DX)(n:Nat)(a1:bk)(K:KT 163):∀(m:Nat)(x0:List ak)(x1 x2:Int),LF D n 163 fc m (qf6 a1 x0 x1 x2) K=JK D n a1 (fun a=>K (Ex.ret) (qi9 a1 a)) (K (Ex.exit 0) (qja a1)) m x0 x1 x2:=pQ (fun F=>qf7 D n a1 F (fun a=>K (Ex.ret) (qi9 a1 a)) (K (Ex.exit 0) (qja a1)))
theorem qrk(D:DX)(n:Nat)(a1:bk)(x0)(x1)(x2):LF D n 163 fc n (qf6 a1 x0 x1 x2) (CF D n 163 [] fc (lF 163))=qfz D n a1 x0 x1 x2 :=by rw[qsp];kernel_rfl
theorem qt0(D:DX)(n:Nat)(a0:List ak)(a1:bk):rF D n 163 (a0,(a1,()))=qgm D n a0 a1:=by
 have h:rF D n 163 (a0,(a1,()))=qgp D n a1 (fun x0 x1 x2=>LF D n 163 fc n (qf6 a1 x0 x1 x2) (CF D n 163 [] fc (lF 163))) a0:=by kernel_rfl
 rw[h];simp only[qrk];rfl
def qe3(D:DX)(n:Nat)(a1:bk)(go:List bD->Int->Int->Option aH)(K0:Int->Option aH)(K1:Option aH)(x0:List bD)(x1 x2:Int):Option aH:=br (decide (x2<x1)) (br (decide (0<=x2)&&decide (x2<(x0.length:Int))) (qd (iK ctx D a1 [bL.val sN (List.getD x0 x2.toNat (0,0,()))] Ty.bool) fun b=>br b (K0 x2) (go x0 x1 (wrap .i64 (x2+1)))) none) K1
def JI(D:DX)(n:Nat)(a1:bk)(K0:Int->Option aH)(K1:Option aH):Nat->(List bD)->Int->Int->Option aH | 0=>(fun x0 x1 x2=>none) | m+1=>(fun x0 x1 x2=>qe3 D n a1 (JI D n a1 K0 K1 m) K0 K1 x0 x1 x2)
def qed(D:DX)(n:Nat)(a1:bk)(a:Int):Option aH:=some ((a,()),())
def qee(D:DX)(n:Nat)(a1:bk):Option aH:=some ((-1,()),())
def qer(D:DX)(n:Nat)(a1:bk):(List bD)->(Int)->(Int)->Option aH:=(fun x0 x1 x2=>JI D n a1 (fun a=>qed D n a1 a) (qee D n a1) n x0 x1 x2)
def qfh(D:DX)(n:Nat)(a1:bk)(cw:List bD->Int->Int->Option aH)(a0:List bD):Option aH:=cw a0 (a0.length:Int) 0
def qfc(D:DX)(n:Nat)(a0:List bD)(a1:bk):Option aH:=qfh D n a1 (qer D n a1) a0
def qe2(a1:bk)(x0:List bD)(x1 x2:Int):St:=bq 19 [(0,AV.val iW x0),(1,AV.ew a1),(7,AV.val ah x1),(8,AV.val ah x2)] []
def qhu(a1:bk)(a:Int):St:=bq 19 [(4,AV.val ah a)] []
def qhv(a1:bk):St:=bq 19 [] []
theorem qo5(D:DX)(n:Nat)(a1:bk)(K:KT 164):∀(m:Nat)(x0:List bD)(x1 x2:Int),LF D n 164 fc m (qe2 a1 x0 x1 x2) K=JI D n a1 (fun a=>K (Ex.ret) (qhu a1 a)) (K (Ex.exit 0) (qhv a1)) m x0 x1 x2:=pQ (fun F=>qe3 D n a1 F (fun a=>K (Ex.ret) (qhu a1 a)) (K (Ex.exit 0) (qhv a1)))
theorem qoj(D:DX)(n:Nat)(a1:bk)(x0)(x1)(x2):LF D n 164 fc n (qe2 a1 x0 x1 x2) (CF D n 164 [] fc (lF 164))=qer D n a1 x0 x1 x2 :=by rw[qo5];kernel_rfl
theorem qqe(D:DX)(n:Nat)(a0:List bD)(a1:bk):rF D n 164 (a0,(a1,()))=qfc D n a0 a1:=by
 have h:rF D n 164 (a0,(a1,()))=qfh D n a1 (fun x0 x1 x2=>LF D n 164 fc n (qe2 a1 x0 x1 x2) (CF D n 164 [] fc (lF 164))) a0:=by kernel_rfl
 rw[h];simp only[qoj];rfl
def qe1(D:DX)(n:Nat)(a1:bk)(go:List cE->Int->Int->Option aH)(K0:Int->Option aH)(K1:Option aH)(x0:List cE)(x1 x2:Int):Option aH:=br (decide (x2<x1)) (br (decide (0<=x2)&&decide (x2<(x0.length:Int))) (qd (iK ctx D a1 [bL.val iM (List.getD x0 x2.toNat (0,0,0,0,()))] Ty.bool) fun b=>br b (K0 x2) (go x0 x1 (wrap .i64 (x2+1)))) none) K1
def JH(D:DX)(n:Nat)(a1:bk)(K0:Int->Option aH)(K1:Option aH):Nat->(List cE)->Int->Int->Option aH | 0=>(fun x0 x1 x2=>none) | m+1=>(fun x0 x1 x2=>qe1 D n a1 (JH D n a1 K0 K1 m) K0 K1 x0 x1 x2)
def qeb(D:DX)(n:Nat)(a1:bk)(a:Int):Option aH:=some ((a,()),())
def qec(D:DX)(n:Nat)(a1:bk):Option aH:=some ((-1,()),())
def qeq(D:DX)(n:Nat)(a1:bk):(List cE)->(Int)->(Int)->Option aH:=(fun x0 x1 x2=>JH D n a1 (fun a=>qeb D n a1 a) (qec D n a1) n x0 x1 x2)
def qfg(D:DX)(n:Nat)(a1:bk)(cw:List cE->Int->Int->Option aH)(a0:List cE):Option aH:=cw a0 (a0.length:Int) 0
def qfb(D:DX)(n:Nat)(a0:List cE)(a1:bk):Option aH:=qfg D n a1 (qeq D n a1) a0
def qe0(a1:bk)(x0:List cE)(x1 x2:Int):St:=bq 19 [(0,AV.val rq x0),(1,AV.ew a1),(7,AV.val ah x1),(8,AV.val ah x2)] []
def qhs(a1:bk)(a:Int):St:=bq 19 [(4,AV.val ah a)] []
def qht(a1:bk):St:=bq 19 [] []
theorem qo4(D:DX)(n:Nat)(a1:bk)(K:KT 165):∀(m:Nat)(x0:List cE)(x1 x2:Int),LF D n 165 fc m (qe0 a1 x0 x1 x2) K=JH D n a1 (fun a=>K (Ex.ret) (qhs a1 a)) (K (Ex.exit 0) (qht a1)) m x0 x1 x2:=pQ (fun F=>qe1 D n a1 F (fun a=>K (Ex.ret) (qhs a1 a)) (K (Ex.exit 0) (qht a1)))
theorem qoi(D:DX)(n:Nat)(a1:bk)(x0)(x1)(x2):LF D n 165 fc n (qe0 a1 x0 x1 x2) (CF D n 165 [] fc (lF 165))=qeq D n a1 x0 x1 x2 :=by rw[qo4];kernel_rfl
theorem qqd(D:DX)(n:Nat)(a0:List cE)(a1:bk):rF D n 165 (a0,(a1,()))=qfb D n a0 a1:=by
 have h:rF D n 165 (a0,(a1,()))=qfg D n a1 (fun x0 x1 x2=>LF D n 165 fc n (qe0 a1 x0 x1 x2) (CF D n 165 [] fc (lF 165))) a0:=by kernel_rfl
 rw[h];simp only[qoi];rfl
def PC(D:DX)(n:Nat)(a0:Int):Option ag:=qd (lU D a0 0 3) fun b=>some ((b.1.1,()),())
def q8d(D:DX)(n:Nat)(a0:Int):Option ag:=PC D n a0
theorem aju(D:DX)(n:Nat)(a0:Int):rF D n 166 (a0,())=q8d D n a0:=by kernel_rfl
def OY(D:DX)(n:Nat)(a0:Int):Option aH:=qd (Di D a0) fun b=>br (!b.1.1) (some ((-1,()),())) (some ((Int.tmod a0 3,()),()))
def YL(D:DX)(n:Nat)(a0:Int):Option aH:=OY D n a0
theorem ag9(D:DX)(n:Nat)(a0:Int):rF D n 167 (a0,())=YL D n a0:=by kernel_rfl
def Qt(D:DX)(n:Nat)(a0:aU)(a1:cE):Option tq7:=let y1:=List.getD a0.2.1 a1.1.toNat (0,0,[],(0,[],()),());let y0:=List.getD y1.2.2.1 a1.2.2.1.toNat (0,0,0,());let y2:=List.getD a0.1 (Int.toNat y0.1) (0,0,0,());br (decide (0<=a1.1)&&decide (a1.1<(a0.2.1.length:Int))) (br (decide (a1.2.2.1>=(y1.2.2.1.length:Int))) (some ((a1,(0,0,0,0,()),3,()),(a0.1,List.set a0.2.1 a1.1.toNat (y1.1,2,y1.2.2),a0.2.2),())) (br (decide (0<=a1.2.2.1)&&decide (a1.2.2.1<(y1.2.2.1.length:Int))) (br (decide (0<=y0.1)&&decide (y0.1<(a0.1.length:Int))) (br (pK bU y2 (0,wrap .i64 (a1.1+1),a1.2.1,())) (some (((a1.1,a1.2.1,wrap .i64 (a1.2.2.1+1),a1.2.2.2),(0,0,0,0,()),0,()),a0,())) (br (y2.2.1 != 0) (some ((a1,(wrap .i64 (y2.2.1-1),y2.2.2.1,0,0,()),1,()),a0,())) (br (decide (y2.1=y0.2.1)) (some (((a1.1,a1.2.1,wrap .i64 (a1.2.2.1+1),a1.2.2.2),(0,0,0,0,()),0,()),(List.set a0.1 (Int.toNat y0.1) (0,wrap .i64 (a1.1+1),a1.2.1,()),a0.2),())) (some ((a1,(0,0,0,0,()),0,()),(a0.1,List.set a0.2.1 a1.1.toNat (y1.1,3,y1.2.2),a0.2.2),()))))) none) none)) none
def GF(D:DX)(n:Nat)(a0:aU)(a1:cE):Option tq7:=Qt D n a0 a1
theorem aa0(D:DX)(n:Nat)(a0:aU)(a1:cE):rF D n 168 (a0,(a1,()))=GF D n a0 a1:=by kernel_rfl
def U4(D:DX)(n:Nat)(go:Int->Int->aD->Option tN)(K0:Int->aD->Option tN)(K1:aD->Option tN)(x0 x1:Int)(x2:aD):Option tN:=let y0:=List.getD x2.2.2.2.1 x1.toNat (0,(0,0,0,()),0,0,0,(0,[],()),());br (decide (x1>=0)) (br (decide (0<=x1)&&decide (x1<(x2.2.2.2.1.length:Int))) (br (decide (y0.1=x0)) (br (decide (0<=x1)&&decide (x1<(x2.2.2.2.1.length:Int))) (br (decide (y0.2.2.2.2.1<0)) (K0 x1 x2) (go x0 (wrap .i64 (x1-1)) x2)) none) (go x0 (wrap .i64 (x1-1)) x2)) none) (K1 x2)
def JM(D:DX)(n:Nat)(K0:Int->aD->Option tN)(K1:aD->Option tN):Nat->Int->Int->aD->Option tN | 0=>(fun x0 x1 x2=>none) | m+1=>(fun x0 x1 x2=>U4 D n (JM D n K0 K1 m) K0 K1 x0 x1 x2)
def q5e(D:DX)(n:Nat)(a:Int)(b:aD):Option tN:=some ((a,()),b,())
def q5f(D:DX)(n:Nat)(a:aD):Option tN:=some ((-1,()),a,())
def qkk(D:DX)(n:Nat):(Int)->(Int)->aD->Option tN:=(fun x0 x1 x2=>JM D n (fun a b=>q5e D n a b) (fun c=>q5f D n c) n x0 x1 x2)
def qln(D:DX)(n:Nat)(cw:Int->Int->aD->Option tN)(a0:aD)(a1:Int):Option tN:=cw a1 (wrap .i64 ((a0.2.2.2.1.length:Int)-1)) a0
def qlm(D:DX)(n:Nat)(a0:aD)(a1:Int):Option tN:=qln D n (qkk D n) a0 a1
def qlb(x0 x1:Int)(x2:aD):St:=bq 38 [(0,AV.addr 0 []),(1,AV.val ah x0),(5,AV.val ah x1)] [(0,aC.mk cN As x2 true)]
def qpr(a:Int)(b:aD):St:=bq 38 [(0,AV.addr 0 []),(4,AV.val ah a)] [(0,aC.mk cN As b true)]
def qps(a:aD):St:=bq 38 [(0,AV.addr 0 [])] [(0,aC.mk cN As a true)]
theorem q7a(D:DX)(n:Nat)(K:KT 169):∀(m:Nat)(x0 x1:Int)(x2:aD),LF D n 169 fc m (qlb x0 x1 x2) K=JM D n (fun a b=>K (Ex.ret) (qpr a b)) (fun c=>K (Ex.exit 0) (qps c)) m x0 x1 x2:=pQ (fun F=>U4 D n F (fun a b=>K (Ex.ret) (qpr a b)) (fun c=>K (Ex.exit 0) (qps c)))
theorem q5d(D:DX)(n:Nat)(x0)(x1)(x2):LF D n 169 fc n (qlb x0 x1 x2) (CF D n 169 [] fc (lF 169))=qkk D n x0 x1 x2 :=by rw[q7a];kernel_rfl
theorem adr(D:DX)(n:Nat)(a0:aD)(a1:Int):rF D n 169 (a0,(a1,()))=qlm D n a0 a1:=by
 have h:rF D n 169 (a0,(a1,()))=qln D n (fun x0 x1 x2=>LF D n 169 fc n (qlb x0 x1 x2) (CF D n 169 [] fc (lF 169))) a0 a1:=by kernel_rfl
 rw[h];simp only[q5d];rfl
def Tu(D:DX)(n:Nat)(go:Int->cV->Option lY)(K0:cV->Option lY)(x0:Int)(x1:cV):Option lY:=br (decide (x0<4)) (qd (yA D x0) fun b=>qd (qy D x1 b.1.1) fun b=>go (wrap .i64 (x0+1)) b.2.1) (K0 x1)
def Dh(D:DX)(n:Nat)(K0:cV->Option lY):Nat->Int->cV->Option lY | 0=>(fun x0 x1=>none) | m+1=>(fun x0 x1=>Tu D n (Dh D n K0 m) K0 x0 x1)
def Oq(D:DX)(n:Nat)(a:cV):Option lY:=some ((a,()),())
def Y9(D:DX)(n:Nat):(Int)->cV->Option lY:=(fun x0 x1=>Dh D n (fun a=>Oq D n a) n x0 x1)
def q9a(D:DX)(n:Nat)(cw:Int->cV->Option lY)(a0:ak)(a1:List bD):Option lY:=let y0:Option lY:=(br (decide (a0.1=4)) (qd (yA D a0.2.1) fun nY=>qd (qy D (a1,[],-1,false,()) nY.1.1) fun nZ=>some ((nZ.2.1,()),())) (br (decide (a0.1=5)) (qd (yw D a0.2.2.1) fun xy=>qd (qy D (a1,[],-1,false,()) xy.1.1) fun xz=>some ((xz.2.1,()),())) (br (decide (a0.1=6)) (qd (yu D a0.2.1) fun xA=>qd (qy D (a1,[],-1,false,()) xA.1.1) fun xB=>some ((xB.2.1,()),())) (br (decide (a0.1=7)) (cw 0 (a1,[],-1,false,())) (br (decide (a0.1=8)) (qd (tw D) fun xC=>qd (qy D (a1,[],-1,false,()) xC.1.1) fun Ax=>some ((Ax.2.1,()),())) (br (decide (a0.1=9)) (qd (tw D) fun p3=>qd (qy D (a1,[],-1,false,()) p3.1.1) fun p0=>qd (tr D p0.2.1 (bif decide (p0.1.1<1) then true else decide (p0.1.1>4))) fun p4=>qd (yA D (wrap .i64 (p0.1.1-1))) fun p5=>qd (qy D p4.2.1 p5.1.1) fun p1=>qd (zJ D p1.1.1) fun p6=>qd (tr D p1.2.1 !p6.1.1) fun p7=>qd (vN D p1.1.1) fun p8=>qd (qy D p7.2.1 p8.1.1) fun p9=>some ((p9.2.1,()),())) (br (decide (a0.1=10)) (qd (tw D) fun jO=>qd (qy D (a1,[],-1,false,()) jO.1.1) fun p2=>qd (tr D p2.2.1 (p2.1.1 != 5)) fun kW=>qd (vN D a0.2.2.1) fun nj=>qd (qy D kW.2.1 nj.1.1) fun nk=>some ((nk.2.1,()),())) (some (((a1,[],-1,false,()),()),())))))))));let y1:Option lY:=(qd (SJ D (a1,[],-1,false,()) a0) fun j8=>some ((j8.2.1,()),()));br (decide (a0.1=1)) (br (decide (a0.1=1)) y1 y0) (br (decide (a0.1=2)) (br (decide (a0.1=2)) y1 y0) (br (decide (a0.1=3)) y1 y0))
def q8b(D:DX)(n:Nat)(a0:ak)(a1:List bD):Option lY:=q9a D n (Y9 D n) a0 a1
def Z1(x0:Int)(x1:cV):St:=bq 100 [(5,AV.addr 12 []),(45,AV.val ah x0)] [(12,aC.mk mN oU x1 true)]
def Oo(a:cV):St:=bq 100 [(5,AV.addr 12 [])] [(12,aC.mk mN oU a true)]
theorem aii(D:DX)(n:Nat)(K:KT 170):∀(m:Nat)(x0:Int)(x1:cV),LF D n 170 LH m (Z1 x0 x1) K=Dh D n (fun a=>K (Ex.exit 1) (Oo a)) m x0 x1:=DQ (fun F=>Tu D n F (fun a=>K (Ex.exit 1) (Oo a)))
theorem agO(D:DX)(n:Nat)(x0)(x1):LF D n 170 LH n (Z1 x0 x1) (CF D n 170 [] LH (lF 170))=Y9 D n x0 x1 :=by rw[aii];kernel_rfl
theorem ajs(D:DX)(n:Nat)(a0:ak)(a1:List bD):rF D n 170 (a0,(a1,()))=q8b D n a0 a1:=by
 have h:rF D n 170 (a0,(a1,()))=q9a D n (fun x0 x1=>LF D n 170 LH n (Z1 x0 x1) (CF D n 170 [] LH (lF 170))) a0 a1:=by kernel_rfl
 rw[h];simp only[agO];rfl
def O8(D:DX)(n:Nat)(a0:ak)(a1:List bD):Option ((eN×gO)×Unit):=qd (yA D a0.2.1) fun p3=>qd (uO D a1 p3.1.1) fun p1=>qd (yw D a0.2.2.1) fun p4=>qd (uO D a1 p4.1.1) fun p2=>qd (tw D) fun p5=>qd (uO D a1 p5.1.1) fun p0=>br (bif decide (a0.1=1) then p1.1.1 != 0 else false) (some (((1,[],()),true,()),())) (br (bif decide (a0.1=1) then p2.1.1 != 0 else false) (some (((2,[],()),true,()),())) (br (bif bif bif decide (a0.1=2) then true else decide (a0.1=3) then true else decide (a0.1=4) then decide (p1.1.1=0) else false) (some (((3,[],()),true,()),())) (br (bif decide (a0.1=2) then decide (p1.1.1=a0.2.2.1) else false) (some (((0,[],()),true,()),())) (br (bif decide (a0.1=2) then p2.1.1 != 0 else false) (some (((2,[],()),true,()),())) (br (decide (a0.1=4)) (some (((0,[p1.1.1],()),true,()),())) (br (bif decide (a0.1=5) then decide (p2.1.1=0) else false) (some (((3,[],()),true,()),())) (br (decide (a0.1=5)) (some (((0,[wrap .i64 (p2.1.1-1)],()),true,()),())) (br (decide (a0.1=6)) (qd (yu D a0.2.1) fun p6=>qd (uO D a1 p6.1.1) fun p7=>some (((0,[p7.1.1],()),true,()),())) (br (bif decide (a0.1=8) then p0.1.1 != 0 else false) (br (bif decide (a0.1=8) then p0.1.1 != 0 else false) (some (((4,[],()),true,()),())) (some (((0,[],()),false,()),()))) (br (bif decide (a0.1=9) then bif decide (p0.1.1<1) then true else decide (p0.1.1>4) else false) (br (bif decide (a0.1=9) then bif decide (p0.1.1<1) then true else decide (p0.1.1>4) else false) (some (((4,[],()),true,()),())) (some (((0,[],()),false,()),()))) (br (bif decide (a0.1=10) then p0.1.1 != 5 else false) (some (((4,[],()),true,()),())) (some (((0,[],()),false,()),())))))))))))))
def Zk(D:DX)(n:Nat)(a0:ak)(a1:List bD):Option ((eN×gO)×Unit):=O8 D n a0 a1
theorem aiE(D:DX)(n:Nat)(a0:ak)(a1:List bD):rF D n 171 (a0,(a1,()))=Zk D n a0 a1:=by kernel_rfl
def q84(D:DX)(n:Nat)(go:List bD->Int->Int->Option lA)(K0:Int->Bool->Option lA)(K1:Option lA)(x0:List bD)(x1 x2:Int):Option lA:=br (decide (x2>=0)) (br (decide (0<=x2)&&decide (x2<(x0.length:Int))) (br (decide ((List.getD x0 x2.toNat (0,0,())).1=x1)) (br (decide (0<=x2)&&decide (x2<(x0.length:Int))) (K0 (List.getD x0 x2.toNat (0,0,())).2.1 true) none) (go x0 x1 (wrap .i64 (x2-1)))) none) K1
def TF(D:DX)(n:Nat)(K0:Int->Bool->Option lA)(K1:Option lA):Nat->(List bD)->Int->Int->Option lA | 0=>(fun x0 x1 x2=>none) | m+1=>(fun x0 x1 x2=>q84 D n (TF D n K0 K1 m) K0 K1 x0 x1 x2)
def OF(D:DX)(n:Nat)(a:Int)(b:Bool):Option lA:=some ((a,b,()),())
def OG(D:DX)(n:Nat):Option lA:=some ((0,false,()),())
def ZY(D:DX)(n:Nat):(List bD)->(Int)->(Int)->Option lA:=(fun x0 x1 x2=>TF D n (fun a b=>OF D n a b) (OG D n) n x0 x1 x2)
def Gy(D:DX)(n:Nat)(cw:List bD->Int->Int->Option lA)(a0:List bD)(a1:Int):Option lA:=cw a0 a1 (wrap .i64 ((a0.length:Int)-1))
def Gu(D:DX)(n:Nat)(a0:List bD)(a1:Int):Option lA:=Gy D n (ZY D n) a0 a1
def q83(x0:List bD)(x1 x2:Int):St:=bq 26 [(0,AV.val iW x0),(1,AV.val ah x1),(6,AV.val ah x2)] []
def OD(a:Int)(b:Bool):St:=bq 26 [(4,AV.val ah a),(5,AV.val Ty.bool b)] []
def OE:St:=bq 26 [] []
theorem aja(D:DX)(n:Nat)(K:KT 172):∀(m:Nat)(x0:List bD)(x1 x2:Int),LF D n 172 fc m (q83 x0 x1 x2) K=TF D n (fun a b=>K (Ex.ret) (OD a b)) (K (Ex.exit 0) (OE)) m x0 x1 x2:=pQ (fun F=>q84 D n F (fun a b=>K (Ex.ret) (OD a b)) (K (Ex.exit 0) (OE)))
theorem aif(D:DX)(n:Nat)(x0)(x1)(x2):LF D n 172 fc n (q83 x0 x1 x2) (CF D n 172 [] fc (lF 172))=ZY D n x0 x1 x2 :=by rw[aja];kernel_rfl
theorem aad(D:DX)(n:Nat)(a0:List bD)(a1:Int):rF D n 172 (a0,(a1,()))=Gu D n a0 a1:=by
 have h:rF D n 172 (a0,(a1,()))=Gy D n (fun x0 x1 x2=>LF D n 172 fc n (q83 x0 x1 x2) (CF D n 172 [] fc (lF 172))) a0 a1:=by kernel_rfl
 rw[h];simp only[aif];rfl
def Pk(D:DX)(n:Nat)(a0:Int):Option aH:=qd (TB D a0) fun b=>qd (JV D b.1.1 a0) fun b=>some ((b.1.1,()),())
def q78(D:DX)(n:Nat)(a0:Int):Option aH:=Pk D n a0
theorem ajp(D:DX)(n:Nat)(a0:Int):rF D n 173 (a0,())=q78 D n a0:=by kernel_rfl
def OU(D:DX)(n:Nat)(a0:ak)(a1:List bD)(a2 a3:Int):Option mL:=qd (yA D a0.2.1) fun jO=>qd (vJ D jO.1.1 a0.2.2.1 0 a1 []) fun nk=>qd (tw D) fun nY=>qd (vJ D nY.1.1 a3 0 a1 nk.2.1) fun nZ=>qd (yw D a2) fun xy=>qd (vJ D xy.1.1 0 0 a1 nZ.2.1) fun xz=>qd (vN D a2) fun xA=>qd (vJ D xA.1.1 0 0 a1 xz.2.1) fun xB=>qd (yw D a0.2.2.1) fun xC=>qd (vJ D xC.1.1 (wrap .i64 (a0.2.1+1)) 0 a1 xB.2.1) fun p1=>qd (vN D a0.2.2.1) fun p2=>qd (vJ D p2.1.1 (wrap .i64 (a0.2.1+1)) 0 a1 p1.2.1) fun p0=>qd (tv D a2) fun p3=>qd (tv D a0.2.2.1) fun p4=>br (p3.1.1 != p4.1.1) (qd (tv D a2) fun p5=>qd (yu D p5.1.1) fun p6=>qd (vJ D p6.1.1 0 (-1) a1 p0.2.1) fun p7=>qd (tv D a0.2.2.1) fun p8=>qd (yu D p8.1.1) fun p9=>qd (vJ D p9.1.1 0 1 a1 p7.2.1) fun j8=>qd (UX D j8.2.1 (bk.mk 183 [])) fun kW=>some ((kW.2.1,()),())) (qd (UX D p0.2.1 (bk.mk 183 [])) fun nj=>some ((nj.2.1,()),()))
def YE(D:DX)(n:Nat)(a0:ak)(a1:List bD)(a2 a3:Int):Option mL:=OU D n a0 a1 a2 a3
theorem ahq(D:DX)(n:Nat)(a0:ak)(a1:List bD)(a2 a3:Int):rF D n 174 (a0,(a1,(a2,(a3,()))))=YE D n a0 a1 a2 a3:=by kernel_rfl
def qxd(D:DX)(n:Nat)(a0:List Int):Option cQ:=qd (Vy D (wrap .u64 (a0.length:Int))) fun b=>qd (qz D a0 0 (a0.length:Int) b.1.1) fun b=>some ((),b.2.1,())
def qnj(D:DX)(n:Nat)(a0:List Int):Option cQ:=qxd D n a0
theorem adC(D:DX)(n:Nat)(a0:List Int):rF D n 175 (a0,())=qnj D n a0:=by kernel_rfl
def O9(D:DX)(n:Nat)(a0:ak)(a1 a2 a3 a4:Int):Option aH:=br (decide (a0.1=8)) (some ((wrap .i64 (a2+1),()),())) (br (decide (a0.1=9)) (qd (tw D) fun p0=>br (decide (a1=p0.1.1)) (some ((wrap .i64 (a2+1),()),())) (qd (vN D a3) fun p1=>br (decide (a1=p1.1.1)) (some ((a4,()),())) (some ((a2,()),())))) (some ((a2,()),())))
def Zl(D:DX)(n:Nat)(a0:ak)(a1 a2 a3 a4:Int):Option aH:=O9 D n a0 a1 a2 a3 a4
theorem aiF(D:DX)(n:Nat)(a0:ak)(a1 a2 a3 a4:Int):rF D n 176 (a0,(a1,(a2,(a3,(a4,())))))=Zl D n a0 a1 a2 a3 a4:=by kernel_rfl
def OR(D:DX)(n:Nat)(a0:ak)(a1:Int):Option ag:=some ((decide (a0.2.1=wrap .i64 (a1+1)),()),())
def Ys(D:DX)(n:Nat)(a0:ak)(a1:Int):Option ag:=OR D n a0 a1
theorem ahd(D:DX)(n:Nat)(a0:ak)(a1:Int):rF D n 177 (a0,(a1,()))=Ys D n a0 a1:=by kernel_rfl
def Ve(D:DX)(n:Nat)(a0:cV)(a1:ak):Option jx:=qd (yA D a1.2.1) fun kW=>qd (qy D a0 kW.1.1) fun p0=>br (decide (a1.1=1)) (qd (tr D p0.2.1 (p0.1.1 != 0)) fun Ly=>qd (yw D a1.2.2.1) fun Lz=>qd (qy D Ly.2.1 Lz.1.1) fun p3=>qd (tr D p3.2.1 (p3.1.1 != 0)) fun LA=>qd (tv D a1.2.2.1) fun LB=>qd (yu D LB.1.1) fun LC=>qd (qy D LA.2.1 LC.1.1) fun LD=>qd (It D LD.2.1 a1.2.1 [a1.2.2.1]) fun p4=>some ((),p4.2.1,())) (br (decide (a1.1=2)) (qd (tr D p0.2.1 (bif decide (p0.1.1=0) then true else decide (p0.1.1=a1.2.2.1))) fun p5=>qd (yw D a1.2.2.1) fun p6=>qd (qy D p5.2.1 p6.1.1) fun p1=>qd (tr D p1.2.1 (p1.1.1 != 0)) fun p7=>qd (yw D p0.1.1) fun p8=>qd (qy D p7.2.1 p8.1.1) fun p2=>qd (tv D p0.1.1) fun p9=>qd (tv D a1.2.2.1) fun jO=>br (p9.1.1 != jO.1.1) (qd (tv D p0.1.1) fun j8=>qd (yu D j8.1.1) fun nj=>qd (qy D p2.2.1 nj.1.1) fun nk=>qd (tv D a1.2.2.1) fun nY=>qd (yu D nY.1.1) fun nZ=>qd (qy D nk.2.1 nZ.1.1) fun xy=>qd (It D xy.2.1 a1.2.1 [p0.1.1,a1.2.2.1]) fun xz=>some ((),xz.2.1,())) (qd (It D p2.2.1 a1.2.1 [p0.1.1,a1.2.2.1]) fun xA=>some ((),xA.2.1,()))) (qd (tr D p0.2.1 (decide (p0.1.1=0))) fun xB=>qd (yw D p0.1.1) fun xC=>qd (qy D xB.2.1 xC.1.1) fun Ax=>qd (tv D p0.1.1) fun EE=>qd (yu D EE.1.1) fun EF=>qd (qy D Ax.2.1 EF.1.1) fun Lw=>qd (It D Lw.2.1 a1.2.1 [p0.1.1]) fun Lx=>some ((),Lx.2.1,())))
def SK(D:DX)(n:Nat)(a0:cV)(a1:ak):Option jx:=Ve D n a0 a1
theorem ad9(D:DX)(n:Nat)(a0:cV)(a1:ak):rF D n 178 (a0,(a1,()))=SK D n a0 a1:=by kernel_rfl
def Vr(D:DX)(n:Nat)(a0:cV)(a1:Int):Option ((Int×Unit)×y_):=br a0.2.2.2.1 (some ((0,()),a0,())) (qd (uO D a0.1 a1) fun b=>br (bif decide (a1<0) then true else !b.1.2.1) (some ((0,()),(a0.1,a0.2.1,a1,true,a0.2.2.2.2),())) (br (decide (a0.2.1.length+1<=f9)) (some ((b.1.1,()),(a0.1,a0.2.1++[a1],a0.2.2),())) none))
def SW(D:DX)(n:Nat)(a0:cV)(a1:Int):Option ((Int×Unit)×y_):=Vr D n a0 a1
theorem afN(D:DX)(n:Nat)(a0:cV)(a1:Int):rF D n 179 (a0,(a1,()))=SW D n a0 a1:=by kernel_rfl
def aeN(D:DX)(n:Nat)(a0:cV)(a1:Bool):Option jx:=some ((),(a0.1,a0.2.1,a0.2.2.1,bif a0.2.2.2.1 then true else a1,a0.2.2.2.2),())
def q58(D:DX)(n:Nat)(a0:cV)(a1:Bool):Option jx:=aeN D n a0 a1
theorem ae1(D:DX)(n:Nat)(a0:cV)(a1:Bool):rF D n 180 (a0,(a1,()))=q58 D n a0 a1:=by kernel_rfl
def Vt(D:DX)(n:Nat)(a0 a1 a2:Int)(a3:List bD)(a4:List ak):Option cD:=qd (uO D a3 a0) fun p0=>br (bif decide (a0<0) then true else !p0.1.2.1) (some ((),a4,())) (br (decide (a2=1)) (br (decide (a4.length+1<=f9)) (some ((),a4++[(a0,p0.1.1,wrap .i64 (p0.1.1+1),())],())) none) (br (decide (a2 = -1)) (br (decide (a4.length+1<=f9)) (some ((),a4++[(a0,p0.1.1,if wrap .i64 (p0.1.1-1)>0 then wrap .i64 (p0.1.1-1) else 0,())],())) none) (br (decide (a4.length+1<=f9)) (some ((),a4++[(a0,p0.1.1,a1,())],())) none)))
def SX(D:DX)(n:Nat)(a0 a1 a2:Int)(a3:List bD)(a4:List ak):Option cD:=Vt D n a0 a1 a2 a3 a4
theorem afP(D:DX)(n:Nat)(a0 a1 a2:Int)(a3:List bD)(a4:List ak):rF D n 181 (a0,(a1,(a2,(a3,(a4,())))))=SX D n a0 a1 a2 a3 a4:=by kernel_rfl
def qii(D:DX)(n:Nat)(a1:bk)(a0:List ak):Option cD:=qd (Vy D (wrap .u64 (a0.length:Int))) fun b=>qd (qo D a0 0 (a0.length:Int) b.1.1 a1) fun b=>some ((),b.2.1,())
def qex(D:DX)(n:Nat)(a0:List ak)(a1:bk):Option cD:=qii D n a1 a0
theorem qpk(D:DX)(n:Nat)(a0:List ak)(a1:bk):rF D n 182 (a0,(a1,()))=qex D n a0 a1:=by kernel_rfl
def q9b(D:DX)(n:Nat)(a0 a1:ak):Option aH:=some ((wrap .i64 (a0.1-a1.1),()),())
def qvz(D:DX)(n:Nat)(a0 a1:ak):Option aH:=q9b D n a0 a1
theorem afQ(D:DX)(n:Nat)(a0 a1:ak):rF D n 183 (a0,(a1,()))=qvz D n a0 a1:=by kernel_rfl
def qi7(D:DX)(n:Nat)(go:Int->Int->Int->Bool->Bool->List Int->Option cQ)(K0:List Int->Option cQ)(x0 x1 x2:Int)(x3 x4:Bool)(x5:List Int):Option cQ:=let y0:=wrap .i64 (x2-1);let y1:=wrap .i64 (x1-x0);let y2:=Int.toNat (wrap .i64 (x0-1));br (decide (y1<=12)) (qd (qkn D x5 x0 x1) fun LB=>K0 LB.2.1) (br (decide (x2=0)) (qd (q0o D x5 x0 x1) fun XM=>K0 XM.2.1) (br (!x3) (qd (qva D x5 x0 x1) fun jO=>qd (qll D jO.2.1 x0 x1) fun p1=>let y3:Option cQ:=(qd (De D jO.2.1 x0 x1 p1.1.1) fun p4=>br (decide (wrap .i64 (p4.1.1-x0)<wrap .i64 (x1-p4.1.1))) (qd (qz D p4.2.1 x0 p4.1.1 y0) fun XO=>go (wrap .i64 (p4.1.1+1)) x1 y0 (decide (wrap .i64 (p4.1.1-x0)>=wrap .i64 (Int.tdiv y1 8))) p4.1.2.1 XO.2.1) (qd (qz D p4.2.1 (wrap .i64 (p4.1.1+1)) x1 y0) fun XP=>go x0 p4.1.1 y0 (decide (wrap .i64 (x1-p4.1.1)>=wrap .i64 (Int.tdiv y1 8))) p4.1.2.1 XP.2.1));let y4:=wrap .i64 (x1-1)-wrap .i64 (p1.1.1-x0);br (decide (p1.1.2.1=2)) (qd (qk7 D jO.2.1 x0 x1) fun nZ=>let y5:Option cQ:=(qd (De D nZ.2.1 x0 x1 (wrap .i64 y4)) fun p2=>br (decide (wrap .i64 (p2.1.1-x0)<wrap .i64 (x1-p2.1.1))) (qd (qz D p2.2.1 x0 p2.1.1 y0) fun Lz=>go (wrap .i64 (p2.1.1+1)) x1 y0 (decide (wrap .i64 (p2.1.1-x0)>=wrap .i64 (Int.tdiv y1 8))) p2.1.2.1 Lz.2.1) (qd (qz D p2.2.1 (wrap .i64 (p2.1.1+1)) x1 y0) fun LA=>go x0 p2.1.1 y0 (decide (wrap .i64 (x1-p2.1.1)>=wrap .i64 (Int.tdiv y1 8))) p2.1.2.1 LA.2.1));br (bif bif x3 then x4 else false then true else false) (qd (UT D nZ.2.1 x0 x1) fun nk=>let y6:Option cQ:=(qd (De D nk.2.1 x0 x1 (wrap .i64 y4)) fun p9=>br (decide (wrap .i64 (p9.1.1-x0)<wrap .i64 (x1-p9.1.1))) (qd (qz D p9.2.1 x0 p9.1.1 y0) fun Lw=>go (wrap .i64 (p9.1.1+1)) x1 y0 (decide (wrap .i64 (p9.1.1-x0)>=wrap .i64 (Int.tdiv y1 8))) p9.1.2.1 Lw.2.1) (qd (qz D p9.2.1 (wrap .i64 (p9.1.1+1)) x1 y0) fun Lx=>go x0 p9.1.1 y0 (decide (wrap .i64 (x1-p9.1.1)>=wrap .i64 (Int.tdiv y1 8))) p9.1.2.1 Lx.2.1));br nk.1.1 (K0 nk.2.1) (br (decide (x0>0)) (br (decide (0<=wrap .i64 (x0-1))&&decide (wrap .i64 (x0-1)<(nk.2.1.length:Int))) (br (decide (0<=wrap .i64 y4)&&decide (wrap .i64 y4<(nk.2.1.length:Int))) (qd (yt D (List.getD nk.2.1 y2 0) (List.getD nk.2.1 (Int.toNat (wrap .i64 y4)) 0)) fun X2=>br (!X2.1.1) (qd (Dc D nk.2.1 x0 x1 (wrap .i64 y4)) fun EF=>go EF.1.1 x1 y0 x3 x4 EF.2.1) y6) none) none) y6)) (br (decide (x0>0)) (br (decide (0<=wrap .i64 (x0-1))&&decide (wrap .i64 (x0-1)<(nZ.2.1.length:Int))) (br (decide (0<=wrap .i64 y4)&&decide (wrap .i64 y4<(nZ.2.1.length:Int))) (qd (yt D (List.getD nZ.2.1 y2 0) (List.getD nZ.2.1 (Int.toNat (wrap .i64 y4)) 0)) fun Ly=>br (!Ly.1.1) (qd (Dc D nZ.2.1 x0 x1 (wrap .i64 y4)) fun xy=>go xy.1.1 x1 y0 x3 x4 xy.2.1) y5) none) none) y5)) (br (bif bif x3 then x4 else false then decide (p1.1.2.1=1) else false) (qd (UT D jO.2.1 x0 x1) fun j8=>let y7:Option cQ:=(qd (De D j8.2.1 x0 x1 p1.1.1) fun p3=>br (decide (wrap .i64 (p3.1.1-x0)<wrap .i64 (x1-p3.1.1))) (qd (qz D p3.2.1 x0 p3.1.1 y0) fun LD=>go (wrap .i64 (p3.1.1+1)) x1 y0 (decide (wrap .i64 (p3.1.1-x0)>=wrap .i64 (Int.tdiv y1 8))) p3.1.2.1 LD.2.1) (qd (qz D p3.2.1 (wrap .i64 (p3.1.1+1)) x1 y0) fun XL=>go x0 p3.1.1 y0 (decide (wrap .i64 (x1-p3.1.1)>=wrap .i64 (Int.tdiv y1 8))) p3.1.2.1 XL.2.1));br j8.1.1 (K0 j8.2.1) (br (decide (x0>0)) (br (decide (0<=wrap .i64 (x0-1))&&decide (wrap .i64 (x0-1)<(j8.2.1.length:Int))) (br (decide (0<=p1.1.1)&&decide (p1.1.1<(j8.2.1.length:Int))) (qd (yt D (List.getD j8.2.1 y2 0) (List.getD j8.2.1 p1.1.1.toNat 0)) fun LC=>br (!LC.1.1) (qd (Dc D j8.2.1 x0 x1 p1.1.1) fun xz=>go xz.1.1 x1 y0 x3 x4 xz.2.1) y7) none) none) y7)) (br (decide (x0>0)) (br (decide (0<=wrap .i64 (x0-1))&&decide (wrap .i64 (x0-1)<(jO.2.1.length:Int))) (br (decide (0<=p1.1.1)&&decide (p1.1.1<(jO.2.1.length:Int))) (qd (yt D (List.getD jO.2.1 y2 0) (List.getD jO.2.1 p1.1.1.toNat 0)) fun XN=>br (!XN.1.1) (qd (Dc D jO.2.1 x0 x1 p1.1.1) fun xA=>go xA.1.1 x1 y0 x3 x4 xA.2.1) y3) none) none) y3))) (qd (qll D x5 x0 x1) fun p0=>let y8:Option cQ:=(qd (De D x5 x0 x1 p0.1.1) fun p8=>br (decide (wrap .i64 (p8.1.1-x0)<wrap .i64 (x1-p8.1.1))) (qd (qz D p8.2.1 x0 p8.1.1 x2) fun X0=>go (wrap .i64 (p8.1.1+1)) x1 x2 (decide (wrap .i64 (p8.1.1-x0)>=wrap .i64 (Int.tdiv y1 8))) p8.1.2.1 X0.2.1) (qd (qz D p8.2.1 (wrap .i64 (p8.1.1+1)) x1 x2) fun X1=>go x0 p8.1.1 x2 (decide (wrap .i64 (x1-p8.1.1)>=wrap .i64 (Int.tdiv y1 8))) p8.1.2.1 X1.2.1));let y9:=wrap .i64 (x1-1)-wrap .i64 (p0.1.1-x0);br (decide (p0.1.2.1=2)) (qd (qk7 D x5 x0 x1) fun nY=>let TW:Option cQ:=(qd (De D nY.2.1 x0 x1 (wrap .i64 y9)) fun p6=>br (decide (wrap .i64 (p6.1.1-x0)<wrap .i64 (x1-p6.1.1))) (qd (qz D p6.2.1 x0 p6.1.1 x2) fun XU=>go (wrap .i64 (p6.1.1+1)) x1 x2 (decide (wrap .i64 (p6.1.1-x0)>=wrap .i64 (Int.tdiv y1 8))) p6.1.2.1 XU.2.1) (qd (qz D p6.2.1 (wrap .i64 (p6.1.1+1)) x1 x2) fun XV=>go x0 p6.1.1 x2 (decide (wrap .i64 (x1-p6.1.1)>=wrap .i64 (Int.tdiv y1 8))) p6.1.2.1 XV.2.1));br (bif bif x3 then x4 else false then true else false) (qd (UT D nY.2.1 x0 x1) fun kW=>let TX:Option cQ:=(qd (De D kW.2.1 x0 x1 (wrap .i64 y9)) fun p5=>br (decide (wrap .i64 (p5.1.1-x0)<wrap .i64 (x1-p5.1.1))) (qd (qz D p5.2.1 x0 p5.1.1 x2) fun XR=>go (wrap .i64 (p5.1.1+1)) x1 x2 (decide (wrap .i64 (p5.1.1-x0)>=wrap .i64 (Int.tdiv y1 8))) p5.1.2.1 XR.2.1) (qd (qz D p5.2.1 (wrap .i64 (p5.1.1+1)) x1 x2) fun XS=>go x0 p5.1.1 x2 (decide (wrap .i64 (x1-p5.1.1)>=wrap .i64 (Int.tdiv y1 8))) p5.1.2.1 XS.2.1));br kW.1.1 (K0 kW.2.1) (br (decide (x0>0)) (br (decide (0<=wrap .i64 (x0-1))&&decide (wrap .i64 (x0-1)<(kW.2.1.length:Int))) (br (decide (0<=wrap .i64 y9)&&decide (wrap .i64 y9<(kW.2.1.length:Int))) (qd (yt D (List.getD kW.2.1 y2 0) (List.getD kW.2.1 (Int.toNat (wrap .i64 y9)) 0)) fun XQ=>br (!XQ.1.1) (qd (Dc D kW.2.1 x0 x1 (wrap .i64 y9)) fun xB=>go xB.1.1 x1 x2 x3 x4 xB.2.1) TX) none) none) TX)) (br (decide (x0>0)) (br (decide (0<=wrap .i64 (x0-1))&&decide (wrap .i64 (x0-1)<(nY.2.1.length:Int))) (br (decide (0<=wrap .i64 y9)&&decide (wrap .i64 y9<(nY.2.1.length:Int))) (qd (yt D (List.getD nY.2.1 y2 0) (List.getD nY.2.1 (Int.toNat (wrap .i64 y9)) 0)) fun XT=>br (!XT.1.1) (qd (Dc D nY.2.1 x0 x1 (wrap .i64 y9)) fun xC=>go xC.1.1 x1 x2 x3 x4 xC.2.1) TW) none) none) TW)) (br (bif bif x3 then x4 else false then decide (p0.1.2.1=1) else false) (qd (UT D x5 x0 x1) fun nj=>let TY:Option cQ:=(qd (De D nj.2.1 x0 x1 p0.1.1) fun p7=>br (decide (wrap .i64 (p7.1.1-x0)<wrap .i64 (x1-p7.1.1))) (qd (qz D p7.2.1 x0 p7.1.1 x2) fun XX=>go (wrap .i64 (p7.1.1+1)) x1 x2 (decide (wrap .i64 (p7.1.1-x0)>=wrap .i64 (Int.tdiv y1 8))) p7.1.2.1 XX.2.1) (qd (qz D p7.2.1 (wrap .i64 (p7.1.1+1)) x1 x2) fun XY=>go x0 p7.1.1 x2 (decide (wrap .i64 (x1-p7.1.1)>=wrap .i64 (Int.tdiv y1 8))) p7.1.2.1 XY.2.1));br nj.1.1 (K0 nj.2.1) (br (decide (x0>0)) (br (decide (0<=wrap .i64 (x0-1))&&decide (wrap .i64 (x0-1)<(nj.2.1.length:Int))) (br (decide (0<=p0.1.1)&&decide (p0.1.1<(nj.2.1.length:Int))) (qd (yt D (List.getD nj.2.1 y2 0) (List.getD nj.2.1 p0.1.1.toNat 0)) fun XW=>br (!XW.1.1) (qd (Dc D nj.2.1 x0 x1 p0.1.1) fun Ax=>go Ax.1.1 x1 x2 x3 x4 Ax.2.1) TY) none) none) TY)) (br (decide (x0>0)) (br (decide (0<=wrap .i64 (x0-1))&&decide (wrap .i64 (x0-1)<(x5.length:Int))) (br (decide (0<=p0.1.1)&&decide (p0.1.1<(x5.length:Int))) (qd (yt D (List.getD x5 y2 0) (List.getD x5 p0.1.1.toNat 0)) fun XZ=>br (!XZ.1.1) (qd (Dc D x5 x0 x1 p0.1.1) fun EE=>go EE.1.1 x1 x2 x3 x4 EE.2.1) y8) none) none) y8)))))
def U3(D:DX)(n:Nat)(K0:List Int->Option cQ):Nat->Int->Int->Int->Bool->Bool->(List Int)->Option cQ | 0=>(fun x0 x1 x2 x3 x4 x5=>none) | m+1=>(fun x0 x1 x2 x3 x4 x5=>qi7 D n (U3 D n K0 m) K0 x0 x1 x2 x3 x4 x5)
def qzf(D:DX)(n:Nat)(a:List Int):Option cQ:=some ((),a,())
def qij(D:DX)(n:Nat):(Int)->(Int)->(Int)->(Bool)->(Bool)->(List Int)->Option cQ:=(fun x0 x1 x2 x3 x4 x5=>U3 D n (fun a=>qzf D n a) n x0 x1 x2 x3 x4 x5)
def qjy(D:DX)(n:Nat)(cw:Int->Int->Int->Bool->Bool->List Int->Option cQ)(a0:List Int)(a1 a2 a3:Int):Option cQ:=cw a1 a2 a3 true true a0
def qjo(D:DX)(n:Nat)(a0:List Int)(a1 a2 a3:Int):Option cQ:=qjy D n (qij D n) a0 a1 a2 a3
def qi6(x0 x1 x2:Int)(x3 x4:Bool)(x5:List Int):St:=bq 134 [(0,AV.b9 0 [] 1048576),(1,AV.val ah x0),(2,AV.val ah x1),(3,AV.val ah x2),(8,AV.val Ty.bool x3),(9,AV.val Ty.bool x4)] [(0,aC.mk bG mF x5 false)]
def qmn(a:List Int):St:=bq 134 [(0,AV.b9 0 [] 1048576)] [(0,aC.mk bG mF a false)]
theorem qz5(D:DX)(n:Nat)(K:KT 184):∀(m:Nat)(x0 x1 x2:Int)(x3 x4:Bool)(x5:List Int),LF D n 184 n4 m (qi6 x0 x1 x2 x3 x4 x5) K=U3 D n (fun a=>K (Ex.ret) (qmn a)) m x0 x1 x2 x3 x4 x5:=DR (fun F=>qi7 D n F (fun a=>K (Ex.ret) (qmn a)))
theorem qze(D:DX)(n:Nat)(x0)(x1)(x2)(x3)(x4)(x5):LF D n 184 n4 n (qi6 x0 x1 x2 x3 x4 x5) (CF D n 184 [] n4 (lF 184))=qij D n x0 x1 x2 x3 x4 x5 :=by rw[qz5];kernel_rfl
theorem q3q(D:DX)(n:Nat)(a0:List Int)(a1 a2 a3:Int):rF D n 184 (a0,(a1,(a2,(a3,()))))=qjo D n a0 a1 a2 a3:=by
 have h:rF D n 184 (a0,(a1,(a2,(a3,()))))=qjy D n (fun x0 x1 x2 x3 x4 x5=>LF D n 184 n4 n (qi6 x0 x1 x2 x3 x4 x5) (CF D n 184 [] n4 (lF 184))) a0 a1 a2 a3:=by kernel_rfl
 rw[h];simp only[qze];rfl
def Ou(D:DX)(n:Nat)(a0:Int):Option aH:=qd (q57 D a0) fun b=>some ((b.1.1,()),())
def qxz(D:DX)(n:Nat)(a0:Int):Option aH:=Ou D n a0
theorem agz(D:DX)(n:Nat)(a0:Int):rF D n 185 (a0,())=qxz D n a0:=by kernel_rfl
def Vj(D:DX)(n:Nat)(go:List Int->Int->Int->cV->Option jx)(K0:cV->Option jx)(x0:List Int)(x1 x2:Int)(x3:cV):Option jx:=br (decide (x2<x1)) (br (decide (0<=x2)&&decide (x2<(x0.length:Int))) (qd (vN D (List.getD x0 x2.toNat 0)) fun b=>qd (qy D x3 b.1.1) fun b=>go x0 x1 (wrap .i64 (x2+1)) b.2.1) none) (K0 x3)
def Iu(D:DX)(n:Nat)(K0:cV->Option jx):Nat->(List Int)->Int->Int->cV->Option jx | 0=>(fun x0 x1 x2 x3=>none) | m+1=>(fun x0 x1 x2 x3=>Vj D n (Iu D n K0 m) K0 x0 x1 x2 x3)
def SL(D:DX)(n:Nat)(a:cV):Option jx:=some ((),a,())
def Vi(D:DX)(n:Nat):(List Int)->(Int)->(Int)->cV->Option jx:=(fun x0 x1 x2 x3=>Iu D n (fun a=>SL D n a) n x0 x1 x2 x3)
def Vs(D:DX)(n:Nat)(cw:List Int->Int->Int->cV->Option jx)(a0:cV)(a1:Int)(a2:List Int):Option jx:=qd (tw D) fun b=>qd (qy D a0 b.1.1) fun b=>qd (tr D b.2.1 (decide (b.1.1<=wrap .i64 (a1+1)))) fun b=>cw a2 (a2.length:Int) 0 b.2.1
def Vq(D:DX)(n:Nat)(a0:cV)(a1:Int)(a2:List Int):Option jx:=Vs D n (Vi D n) a0 a1 a2
def quq(x0:List Int)(x1 x2:Int)(x3:cV):St:=bq 29 [(0,AV.addr 0 []),(18,AV.val bG x0),(19,AV.val ah x1),(20,AV.val ah x2)] [(0,aC.mk mN oU x3 true)]
def q0d(a:cV):St:=bq 29 [(0,AV.addr 0 [])] [(0,aC.mk mN oU a true)]
theorem aeh(D:DX)(n:Nat)(K:KT 186):∀(m:Nat)(x0:List Int)(x1 x2:Int)(x3:cV),LF D n 186 [.r,.r,.r,.l] m (quq x0 x1 x2 x3) K=Iu D n (fun a=>K (Ex.exit 0) (q0d a)) m x0 x1 x2 x3:=zk (fun F=>Vj D n F (fun a=>K (Ex.exit 0) (q0d a)))
theorem ad4(D:DX)(n:Nat)(x0)(x1)(x2)(x3):LF D n 186 [.r,.r,.r,.l] n (quq x0 x1 x2 x3) (CF D n 186 [] [.r,.r,.r,.l] (lF 186))=Vi D n x0 x1 x2 x3 :=by rw[aeh];kernel_rfl
theorem afO(D:DX)(n:Nat)(a0:cV)(a1:Int)(a2:List Int):rF D n 186 (a0,(a1,(a2,())))=Vq D n a0 a1 a2:=by
 have h:rF D n 186 (a0,(a1,(a2,())))=Vs D n (fun x0 x1 x2 x3=>LF D n 186 [.r,.r,.r,.l] n (quq x0 x1 x2 x3) (CF D n 186 [] [.r,.r,.r,.l] (lF 186))) a0 a1 a2:=by kernel_rfl
 rw[h];simp only[ad4];rfl
def qgb(D:DX)(n:Nat)(a4:bk)(go:Int->Int->Int->Bool->Bool->List ak->Option cD)(K0:List ak->Option cD)(x0 x1 x2:Int)(x3 x4:Bool)(x5:List ak):Option cD:=let y0:=wrap .i64 (x2-1);let y1:=wrap .i64 (x1-x0);let y2:=Int.toNat (wrap .i64 (x0-1));br (decide (y1<=12)) (qd (qhy D x5 x0 x1 a4) fun LB=>K0 LB.2.1) (br (decide (x2=0)) (qd (qtb D x5 x0 x1 a4) fun XM=>K0 XM.2.1) (br (!x3) (qd (qoo D x5 x0 x1 a4) fun jO=>qd (qir D jO.2.1 x0 x1 a4) fun p1=>let y3:Option cD:=(qd (Db D jO.2.1 x0 x1 p1.1.1 a4) fun p4=>br (decide (wrap .i64 (p4.1.1-x0)<wrap .i64 (x1-p4.1.1))) (qd (qo D p4.2.1 x0 p4.1.1 y0 a4) fun XO=>go (wrap .i64 (p4.1.1+1)) x1 y0 (decide (wrap .i64 (p4.1.1-x0)>=wrap .i64 (Int.tdiv y1 8))) p4.1.2.1 XO.2.1) (qd (qo D p4.2.1 (wrap .i64 (p4.1.1+1)) x1 y0 a4) fun XP=>go x0 p4.1.1 y0 (decide (wrap .i64 (x1-p4.1.1)>=wrap .i64 (Int.tdiv y1 8))) p4.1.2.1 XP.2.1));let y4:=wrap .i64 (x1-1)-wrap .i64 (p1.1.1-x0);br (decide (p1.1.2.1=2)) (qd (qig D jO.2.1 x0 x1 a4) fun nZ=>let y5:Option cD:=(qd (Db D nZ.2.1 x0 x1 (wrap .i64 y4) a4) fun p2=>br (decide (wrap .i64 (p2.1.1-x0)<wrap .i64 (x1-p2.1.1))) (qd (qo D p2.2.1 x0 p2.1.1 y0 a4) fun Lz=>go (wrap .i64 (p2.1.1+1)) x1 y0 (decide (wrap .i64 (p2.1.1-x0)>=wrap .i64 (Int.tdiv y1 8))) p2.1.2.1 Lz.2.1) (qd (qo D p2.2.1 (wrap .i64 (p2.1.1+1)) x1 y0 a4) fun LA=>go x0 p2.1.1 y0 (decide (wrap .i64 (x1-p2.1.1)>=wrap .i64 (Int.tdiv y1 8))) p2.1.2.1 LA.2.1));br (bif bif x3 then x4 else false then true else false) (qd (UU D nZ.2.1 x0 x1 a4) fun nk=>let y6:Option cD:=(qd (Db D nk.2.1 x0 x1 (wrap .i64 y4) a4) fun p9=>br (decide (wrap .i64 (p9.1.1-x0)<wrap .i64 (x1-p9.1.1))) (qd (qo D p9.2.1 x0 p9.1.1 y0 a4) fun Lw=>go (wrap .i64 (p9.1.1+1)) x1 y0 (decide (wrap .i64 (p9.1.1-x0)>=wrap .i64 (Int.tdiv y1 8))) p9.1.2.1 Lw.2.1) (qd (qo D p9.2.1 (wrap .i64 (p9.1.1+1)) x1 y0 a4) fun Lx=>go x0 p9.1.1 y0 (decide (wrap .i64 (x1-p9.1.1)>=wrap .i64 (Int.tdiv y1 8))) p9.1.2.1 Lx.2.1));br nk.1.1 (K0 nk.2.1) (br (decide (x0>0)) (br (decide (0<=wrap .i64 (x0-1))&&decide (wrap .i64 (x0-1)<(nk.2.1.length:Int))) (br (decide (0<=wrap .i64 y4)&&decide (wrap .i64 y4<(nk.2.1.length:Int))) (qd (iK ctx D a4 [bL.val bU (List.getD nk.2.1 y2 (0,0,0,())),bL.val bU (List.getD nk.2.1 (Int.toNat (wrap .i64 y4)) (0,0,0,()))] ah) fun X2=>br (!decide (X2<0)) (qd (Da D nk.2.1 x0 x1 (wrap .i64 y4) a4) fun EF=>go EF.1.1 x1 y0 x3 x4 EF.2.1) y6) none) none) y6)) (br (decide (x0>0)) (br (decide (0<=wrap .i64 (x0-1))&&decide (wrap .i64 (x0-1)<(nZ.2.1.length:Int))) (br (decide (0<=wrap .i64 y4)&&decide (wrap .i64 y4<(nZ.2.1.length:Int))) (qd (iK ctx D a4 [bL.val bU (List.getD nZ.2.1 y2 (0,0,0,())),bL.val bU (List.getD nZ.2.1 (Int.toNat (wrap .i64 y4)) (0,0,0,()))] ah) fun Ly=>br (!decide (Ly<0)) (qd (Da D nZ.2.1 x0 x1 (wrap .i64 y4) a4) fun xy=>go xy.1.1 x1 y0 x3 x4 xy.2.1) y5) none) none) y5)) (br (bif bif x3 then x4 else false then decide (p1.1.2.1=1) else false) (qd (UU D jO.2.1 x0 x1 a4) fun j8=>let y7:Option cD:=(qd (Db D j8.2.1 x0 x1 p1.1.1 a4) fun p3=>br (decide (wrap .i64 (p3.1.1-x0)<wrap .i64 (x1-p3.1.1))) (qd (qo D p3.2.1 x0 p3.1.1 y0 a4) fun LD=>go (wrap .i64 (p3.1.1+1)) x1 y0 (decide (wrap .i64 (p3.1.1-x0)>=wrap .i64 (Int.tdiv y1 8))) p3.1.2.1 LD.2.1) (qd (qo D p3.2.1 (wrap .i64 (p3.1.1+1)) x1 y0 a4) fun XL=>go x0 p3.1.1 y0 (decide (wrap .i64 (x1-p3.1.1)>=wrap .i64 (Int.tdiv y1 8))) p3.1.2.1 XL.2.1));br j8.1.1 (K0 j8.2.1) (br (decide (x0>0)) (br (decide (0<=wrap .i64 (x0-1))&&decide (wrap .i64 (x0-1)<(j8.2.1.length:Int))) (br (decide (0<=p1.1.1)&&decide (p1.1.1<(j8.2.1.length:Int))) (qd (iK ctx D a4 [bL.val bU (List.getD j8.2.1 y2 (0,0,0,())),bL.val bU (List.getD j8.2.1 p1.1.1.toNat (0,0,0,()))] ah) fun LC=>br (!decide (LC<0)) (qd (Da D j8.2.1 x0 x1 p1.1.1 a4) fun xz=>go xz.1.1 x1 y0 x3 x4 xz.2.1) y7) none) none) y7)) (br (decide (x0>0)) (br (decide (0<=wrap .i64 (x0-1))&&decide (wrap .i64 (x0-1)<(jO.2.1.length:Int))) (br (decide (0<=p1.1.1)&&decide (p1.1.1<(jO.2.1.length:Int))) (qd (iK ctx D a4 [bL.val bU (List.getD jO.2.1 y2 (0,0,0,())),bL.val bU (List.getD jO.2.1 p1.1.1.toNat (0,0,0,()))] ah) fun XN=>br (!decide (XN<0)) (qd (Da D jO.2.1 x0 x1 p1.1.1 a4) fun xA=>go xA.1.1 x1 y0 x3 x4 xA.2.1) y3) none) none) y3))) (qd (qir D x5 x0 x1 a4) fun p0=>let y8:Option cD:=(qd (Db D x5 x0 x1 p0.1.1 a4) fun p8=>br (decide (wrap .i64 (p8.1.1-x0)<wrap .i64 (x1-p8.1.1))) (qd (qo D p8.2.1 x0 p8.1.1 x2 a4) fun X0=>go (wrap .i64 (p8.1.1+1)) x1 x2 (decide (wrap .i64 (p8.1.1-x0)>=wrap .i64 (Int.tdiv y1 8))) p8.1.2.1 X0.2.1) (qd (qo D p8.2.1 (wrap .i64 (p8.1.1+1)) x1 x2 a4) fun X1=>go x0 p8.1.1 x2 (decide (wrap .i64 (x1-p8.1.1)>=wrap .i64 (Int.tdiv y1 8))) p8.1.2.1 X1.2.1));let y9:=wrap .i64 (x1-1)-wrap .i64 (p0.1.1-x0);br (decide (p0.1.2.1=2)) (qd (qig D x5 x0 x1 a4) fun nY=>let TW:Option cD:=(qd (Db D nY.2.1 x0 x1 (wrap .i64 y9) a4) fun p6=>br (decide (wrap .i64 (p6.1.1-x0)<wrap .i64 (x1-p6.1.1))) (qd (qo D p6.2.1 x0 p6.1.1 x2 a4) fun XU=>go (wrap .i64 (p6.1.1+1)) x1 x2 (decide (wrap .i64 (p6.1.1-x0)>=wrap .i64 (Int.tdiv y1 8))) p6.1.2.1 XU.2.1) (qd (qo D p6.2.1 (wrap .i64 (p6.1.1+1)) x1 x2 a4) fun XV=>go x0 p6.1.1 x2 (decide (wrap .i64 (x1-p6.1.1)>=wrap .i64 (Int.tdiv y1 8))) p6.1.2.1 XV.2.1));br (bif bif x3 then x4 else false then true else false) (qd (UU D nY.2.1 x0 x1 a4) fun kW=>let TX:Option cD:=(qd (Db D kW.2.1 x0 x1 (wrap .i64 y9) a4) fun p5=>br (decide (wrap .i64 (p5.1.1-x0)<wrap .i64 (x1-p5.1.1))) (qd (qo D p5.2.1 x0 p5.1.1 x2 a4) fun XR=>go (wrap .i64 (p5.1.1+1)) x1 x2 (decide (wrap .i64 (p5.1.1-x0)>=wrap .i64 (Int.tdiv y1 8))) p5.1.2.1 XR.2.1) (qd (qo D p5.2.1 (wrap .i64 (p5.1.1+1)) x1 x2 a4) fun XS=>go x0 p5.1.1 x2 (decide (wrap .i64 (x1-p5.1.1)>=wrap .i64 (Int.tdiv y1 8))) p5.1.2.1 XS.2.1));br kW.1.1 (K0 kW.2.1) (br (decide (x0>0)) (br (decide (0<=wrap .i64 (x0-1))&&decide (wrap .i64 (x0-1)<(kW.2.1.length:Int))) (br (decide (0<=wrap .i64 y9)&&decide (wrap .i64 y9<(kW.2.1.length:Int))) (qd (iK ctx D a4 [bL.val bU (List.getD kW.2.1 y2 (0,0,0,())),bL.val bU (List.getD kW.2.1 (Int.toNat (wrap .i64 y9)) (0,0,0,()))] ah) fun XQ=>br (!decide (XQ<0)) (qd (Da D kW.2.1 x0 x1 (wrap .i64 y9) a4) fun xB=>go xB.1.1 x1 x2 x3 x4 xB.2.1) TX) none) none) TX)) (br (decide (x0>0)) (br (decide (0<=wrap .i64 (x0-1))&&decide (wrap .i64 (x0-1)<(nY.2.1.length:Int))) (br (decide (0<=wrap .i64 y9)&&decide (wrap .i64 y9<(nY.2.1.length:Int))) (qd (iK ctx D a4 [bL.val bU (List.getD nY.2.1 y2 (0,0,0,())),bL.val bU (List.getD nY.2.1 (Int.toNat (wrap .i64 y9)) (0,0,0,()))] ah) fun XT=>br (!decide (XT<0)) (qd (Da D nY.2.1 x0 x1 (wrap .i64 y9) a4) fun xC=>go xC.1.1 x1 x2 x3 x4 xC.2.1) TW) none) none) TW)) (br (bif bif x3 then x4 else false then decide (p0.1.2.1=1) else false) (qd (UU D x5 x0 x1 a4) fun nj=>let TY:Option cD:=(qd (Db D nj.2.1 x0 x1 p0.1.1 a4) fun p7=>br (decide (wrap .i64 (p7.1.1-x0)<wrap .i64 (x1-p7.1.1))) (qd (qo D p7.2.1 x0 p7.1.1 x2 a4) fun XX=>go (wrap .i64 (p7.1.1+1)) x1 x2 (decide (wrap .i64 (p7.1.1-x0)>=wrap .i64 (Int.tdiv y1 8))) p7.1.2.1 XX.2.1) (qd (qo D p7.2.1 (wrap .i64 (p7.1.1+1)) x1 x2 a4) fun XY=>go x0 p7.1.1 x2 (decide (wrap .i64 (x1-p7.1.1)>=wrap .i64 (Int.tdiv y1 8))) p7.1.2.1 XY.2.1));br nj.1.1 (K0 nj.2.1) (br (decide (x0>0)) (br (decide (0<=wrap .i64 (x0-1))&&decide (wrap .i64 (x0-1)<(nj.2.1.length:Int))) (br (decide (0<=p0.1.1)&&decide (p0.1.1<(nj.2.1.length:Int))) (qd (iK ctx D a4 [bL.val bU (List.getD nj.2.1 y2 (0,0,0,())),bL.val bU (List.getD nj.2.1 p0.1.1.toNat (0,0,0,()))] ah) fun XW=>br (!decide (XW<0)) (qd (Da D nj.2.1 x0 x1 p0.1.1 a4) fun Ax=>go Ax.1.1 x1 x2 x3 x4 Ax.2.1) TY) none) none) TY)) (br (decide (x0>0)) (br (decide (0<=wrap .i64 (x0-1))&&decide (wrap .i64 (x0-1)<(x5.length:Int))) (br (decide (0<=p0.1.1)&&decide (p0.1.1<(x5.length:Int))) (qd (iK ctx D a4 [bL.val bU (List.getD x5 y2 (0,0,0,())),bL.val bU (List.getD x5 p0.1.1.toNat (0,0,0,()))] ah) fun XZ=>br (!decide (XZ<0)) (qd (Da D x5 x0 x1 p0.1.1 a4) fun EE=>go EE.1.1 x1 x2 x3 x4 EE.2.1) y8) none) none) y8)))))
def U0(D:DX)(n:Nat)(a4:bk)(K0:List ak->Option cD):Nat->Int->Int->Int->Bool->Bool->(List ak)->Option cD | 0=>(fun x0 x1 x2 x3 x4 x5=>none) | m+1=>(fun x0 x1 x2 x3 x4 x5=>qgb D n a4 (U0 D n a4 K0 m) K0 x0 x1 x2 x3 x4 x5)
def qrm(D:DX)(n:Nat)(a4:bk)(a:List ak):Option cD:=some ((),a,())
def qf1(D:DX)(n:Nat)(a4:bk):(Int)->(Int)->(Int)->(Bool)->(Bool)->(List ak)->Option cD:=(fun x0 x1 x2 x3 x4 x5=>U0 D n a4 (fun a=>qrm D n a4 a) n x0 x1 x2 x3 x4 x5)
def qgr(D:DX)(n:Nat)(a4:bk)(cw:Int->Int->Int->Bool->Bool->List ak->Option cD)(a0:List ak)(a1 a2 a3:Int):Option cD:=cw a1 a2 a3 true true a0
def qgn(D:DX)(n:Nat)(a0:List ak)(a1 a2 a3:Int)(a4:bk):Option cD:=qgr D n a4 (qf1 D n a4) a0 a1 a2 a3
def qga(a4:bk)(x0 x1 x2:Int)(x3 x4:Bool)(x5:List ak):St:=bq 148 [(0,AV.b9 0 [] 1048576),(1,AV.val ah x0),(2,AV.val ah x1),(3,AV.val ah x2),(4,AV.ew a4),(10,AV.val Ty.bool x3),(11,AV.val Ty.bool x4)] [(0,aC.mk bT mF x5 false)]
def qjb(a4:bk)(a:List ak):St:=bq 148 [(0,AV.b9 0 [] 1048576)] [(0,aC.mk bT mF a false)]
theorem qss(D:DX)(n:Nat)(a4:bk)(K:KT 187):∀(m:Nat)(x0 x1 x2:Int)(x3 x4:Bool)(x5:List ak),LF D n 187 n4 m (qga a4 x0 x1 x2 x3 x4 x5) K=U0 D n a4 (fun a=>K (Ex.ret) (qjb a4 a)) m x0 x1 x2 x3 x4 x5:=DR (fun F=>qgb D n a4 F (fun a=>K (Ex.ret) (qjb a4 a)))
theorem qrl(D:DX)(n:Nat)(a4:bk)(x0)(x1)(x2)(x3)(x4)(x5):LF D n 187 n4 n (qga a4 x0 x1 x2 x3 x4 x5) (CF D n 187 [] n4 (lF 187))=qf1 D n a4 x0 x1 x2 x3 x4 x5 :=by rw[qss];kernel_rfl
theorem qt1(D:DX)(n:Nat)(a0:List ak)(a1 a2 a3:Int)(a4:bk):rF D n 187 (a0,(a1,(a2,(a3,(a4,())))))=qgn D n a0 a1 a2 a3 a4:=by
 have h:rF D n 187 (a0,(a1,(a2,(a3,(a4,())))))=qgr D n a4 (fun x0 x1 x2 x3 x4 x5=>LF D n 187 n4 n (qga a4 x0 x1 x2 x3 x4 x5) (CF D n 187 [] n4 (lF 187))) a0 a1 a2 a3:=by kernel_rfl
 rw[h];simp only[qrl];rfl
def U1(D:DX)(n:Nat)(go:Int->Int->Int->Int->List Int->Option cQ)(K0:Int->Int->Int->List Int->Option cQ)(c d e a:Int)(b:List Int):Option cQ:=let y1:=wrap .i64 (a-1);let y0:=List.getD b (Int.toNat y1) 0;br (decide (a>c)) (br (decide (0<=a)&&decide (a<(b.length:Int))) (br (decide (0<=y1)&&decide (y1<(b.length:Int))) (qd (yt D (List.getD b a.toNat 0) y0) fun p0=>br p0.1.1 (br (decide (0<=y1)&&decide (y1<(b.length:Int))) (br (decide (0<=a)&&decide (a<(b.length:Int))) (br (decide (0<=a)&&decide (a<(b.length:Int))) (br (decide (0<=y1)&&decide (y1<((List.set b a.toNat y0).length:Int))) (go c d e y1 (List.set (List.set b a.toNat y0) (Int.toNat y1) (List.getD b a.toNat 0))) none) none) none) none) (K0 c d e b)) none) none) (K0 c d e b)
def JL(D:DX)(n:Nat)(K0:Int->Int->Int->List Int->Option cQ):Nat->Int->Int->Int->Int->(List Int)->Option cQ | 0=>(fun a b c d e=>none) | m+1=>(fun a b c d e=>U1 D n (JL D n K0 m) K0 a b c d e)
def qf0(D:DX)(n:Nat)(go:Int->Int->Int->List Int->Option cQ)(K0:List Int->Option cQ)(a b c:Int)(d:List Int):Option cQ:=go a b (wrap .i64 (c+1)) d
def qf9(D:DX)(n:Nat)(go:Int->Int->Int->List Int->Option cQ)(K0:List Int->Option cQ):(Int)->(Int)->(Int)->(Int)->(List Int)->Option cQ:=(fun a f g h i=>JL D n (fun b c d e=>qf0 D n go K0 b c d e) n a f g h i)
def Ss(D:DX)(n:Nat)(go:Int->Int->Int->List Int->Option cQ)(K0:List Int->Option cQ)(mG:Int->Int->Int->Int->List Int->Option cQ)(x0 x1 x2:Int)(x3:List Int):Option cQ:=br (decide (x2<x1)) (mG x0 x1 x2 x2 x3) (K0 x3)
def zH(D:DX)(n:Nat)(K0:List Int->Option cQ):Nat->Int->Int->Int->(List Int)->Option cQ | 0=>(fun x0 x1 x2 x3=>none) | m+1=>(fun x0 x1 x2 x3=>Ss D n (zH D n K0 m) K0 (qf9 D n (zH D n K0 m) K0) x0 x1 x2 x3)
def qjx(D:DX)(n:Nat)(a:List Int):Option cQ:=some ((),a,())
def qf8(D:DX)(n:Nat):(Int)->(Int)->(Int)->(List Int)->Option cQ:=(fun x0 x1 x2 x3=>zH D n (fun a=>qjx D n a) n x0 x1 x2 x3)
def qg3(D:DX)(n:Nat)(cw:Int->Int->Int->List Int->Option cQ)(a0:List Int)(a1 a2:Int):Option cQ:=cw a1 a2 (wrap .i64 (a1+1)) a0
def qgy(D:DX)(n:Nat)(a0:List Int)(a1 a2:Int):Option cQ:=qg3 D n (qf8 D n) a0 a1 a2
def Gf(x0 x1 x2:Int)(x3:List Int):St:=bq 49 [(0,AV.b9 0 [] 1048576),(1,AV.val ah x0),(2,AV.val ah x1),(6,AV.val ah x2)] [(0,aC.mk bG mF x3 false)]
def UZ(a:List Int):St:=bq 49 [(0,AV.b9 0 [] 1048576)] [(0,aC.mk bG mF a false)]
def qgq(a b c d:Int)(e:List Int):St:=bq 49 [(0,AV.b9 0 [] 1048576),(1,AV.val ah a),(2,AV.val ah b),(6,AV.val ah c),(7,AV.val ah d)] [(0,aC.mk bG mF e false)]
def qjw(a b c:Int)(d:List Int):St:=bq 49 [(0,AV.b9 0 [] 1048576),(1,AV.val ah a),(2,AV.val ah b),(6,AV.val ah c)] [(0,aC.mk bG mF d false)]
theorem qtm(D:DX)(n:Nat)(K:KT 188):∀(m:Nat)(e f g h:Int)(i:List Int),LF D n 188 uq m (qgq e f g h i) K=JL D n (fun a b c d=>K (Ex.exit 2) (qjw a b c d)) m e f g h i:=oM (fun F=>U1 D n F (fun a b c d=>K (Ex.exit 2) (qjw a b c d)))
theorem qsr(D:DX)(n:Nat)(m:Nat)(K:KT 188)(a b c d:Int)(e:List Int):LF D n 188 uq n (qgq a b c d e) (CF D n 188 [.r,.l,.l] [.r,.l,.l,.r,.l] (KF D n 188 g9 m K))=qf9 D n (fun x0 x1 x2 x3=>LF D n 188 g9 m (Gf x0 x1 x2 x3) K) (fun f=>K (Ex.exit 0) (UZ f)) a b c d e :=by rw[qtm];kernel_rfl
theorem qtn(D:DX)(n:Nat)(m:Nat)(K:KT 188)(x0)(x1)(x2)(x3):LF D n 188 g9 (m+1) (Gf x0 x1 x2 x3) K=Ss D n (fun x0 x1 x2 x3=>LF D n 188 g9 m (Gf x0 x1 x2 x3) K) (fun a=>K (Ex.exit 0) (UZ a)) (fun b c d e f=>LF D n 188 uq n (qgq b c d e f) (CF D n 188 [.r,.l,.l] [.r,.l,.l,.r,.l] (KF D n 188 g9 m K))) x0 x1 x2 x3:=by kernel_rfl
theorem qj3(D:DX)(n:Nat)(K:KT 188):∀(m:Nat)(x0 x1 x2:Int)(x3:List Int),LF D n 188 g9 m (Gf x0 x1 x2 x3) K=zH D n (fun a=>K (Ex.exit 0) (UZ a)) m x0 x1 x2 x3
 | 0,x0,x1,x2,x3=>sD ..
 | m+1,x0,x1,x2,x3=>by
  have ih:(fun x0 x1 x2 x3=>LF D n 188 g9 m (Gf x0 x1 x2 x3) K)=zH D n (fun a=>K (Ex.exit 0) (UZ a)) m:=by funext x0 x1 x2 x3;exact qj3 D n K m x0 x1 x2 x3
  rw[qtn];simp only[qsr];rw[ih];rfl
theorem qsq(D:DX)(n:Nat)(x0)(x1)(x2)(x3):LF D n 188 g9 n (Gf x0 x1 x2 x3) (CF D n 188 [] g9 (lF 188))=qf8 D n x0 x1 x2 x3 :=by rw[qj3];kernel_rfl
theorem qvb(D:DX)(n:Nat)(a0:List Int)(a1 a2:Int):rF D n 188 (a0,(a1,(a2,())))=qgy D n a0 a1 a2:=by
 have h:rF D n 188 (a0,(a1,(a2,())))=qg3 D n (fun x0 x1 x2 x3=>LF D n 188 g9 n (Gf x0 x1 x2 x3) (CF D n 188 [] g9 (lF 188))) a0 a1 a2:=by kernel_rfl
 rw[h];simp only[qsq];rfl
def OP(D:DX)(n:Nat)(a0 a1:Int):Option ag:=qd (qxh D a0) fun b=>br b.1.1 (qd (qxh D a1) fun b=>some ((bif !b.1.1 then true else decide (a0<a1),()),())) (some ((bif false then true else decide (a0<a1),()),()))
def Yq(D:DX)(n:Nat)(a0 a1:Int):Option ag:=OP D n a0 a1
theorem ahb(D:DX)(n:Nat)(a0 a1:Int):rF D n 194 (a0,(a1,()))=Yq D n a0 a1:=by kernel_rfl
def afn(D:DX)(n:Nat)(a0:Int):Option aH:=let y0:=List.toArray ([UInt8.ofNat 0,UInt8.ofNat 1,UInt8.ofNat 2,UInt8.ofNat 2,UInt8.ofNat 3,UInt8.ofNat 3,UInt8.ofNat 3,UInt8.ofNat 3,UInt8.ofNat 4,UInt8.ofNat 4,UInt8.ofNat 4,UInt8.ofNat 4,UInt8.ofNat 4,UInt8.ofNat 4,UInt8.ofNat 4,UInt8.ofNat 4,UInt8.ofNat 5,UInt8.ofNat 5,UInt8.ofNat 5,UInt8.ofNat 5,UInt8.ofNat 5,UInt8.ofNat 5,UInt8.ofNat 5,UInt8.ofNat 5,UInt8.ofNat 5,UInt8.ofNat 5,UInt8.ofNat 5,UInt8.ofNat 5,UInt8.ofNat 5,UInt8.ofNat 5,UInt8.ofNat 5,UInt8.ofNat 5,UInt8.ofNat 6,UInt8.ofNat 6,UInt8.ofNat 6,UInt8.ofNat 6,UInt8.ofNat 6,UInt8.ofNat 6,UInt8.ofNat 6,UInt8.ofNat 6,UInt8.ofNat 6,UInt8.ofNat 6,UInt8.ofNat 6,UInt8.ofNat 6,UInt8.ofNat 6,UInt8.ofNat 6,UInt8.ofNat 6,UInt8.ofNat 6,UInt8.ofNat 6,UInt8.ofNat 6,UInt8.ofNat 6,UInt8.ofNat 6,UInt8.ofNat 6,UInt8.ofNat 6,UInt8.ofNat 6,UInt8.ofNat 6,UInt8.ofNat 6,UInt8.ofNat 6,UInt8.ofNat 6,UInt8.ofNat 6,UInt8.ofNat 6,UInt8.ofNat 6,UInt8.ofNat 6,UInt8.ofNat 6]++[UInt8.ofNat 7,UInt8.ofNat 7,UInt8.ofNat 7,UInt8.ofNat 7,UInt8.ofNat 7,UInt8.ofNat 7,UInt8.ofNat 7,UInt8.ofNat 7,UInt8.ofNat 7,UInt8.ofNat 7,UInt8.ofNat 7,UInt8.ofNat 7,UInt8.ofNat 7,UInt8.ofNat 7,UInt8.ofNat 7,UInt8.ofNat 7,UInt8.ofNat 7,UInt8.ofNat 7,UInt8.ofNat 7,UInt8.ofNat 7,UInt8.ofNat 7,UInt8.ofNat 7,UInt8.ofNat 7,UInt8.ofNat 7,UInt8.ofNat 7,UInt8.ofNat 7,UInt8.ofNat 7,UInt8.ofNat 7,UInt8.ofNat 7,UInt8.ofNat 7,UInt8.ofNat 7,UInt8.ofNat 7,UInt8.ofNat 7,UInt8.ofNat 7,UInt8.ofNat 7,UInt8.ofNat 7,UInt8.ofNat 7,UInt8.ofNat 7,UInt8.ofNat 7,UInt8.ofNat 7,UInt8.ofNat 7,UInt8.ofNat 7,UInt8.ofNat 7,UInt8.ofNat 7,UInt8.ofNat 7,UInt8.ofNat 7,UInt8.ofNat 7,UInt8.ofNat 7,UInt8.ofNat 7,UInt8.ofNat 7,UInt8.ofNat 7,UInt8.ofNat 7,UInt8.ofNat 7,UInt8.ofNat 7,UInt8.ofNat 7,UInt8.ofNat 7,UInt8.ofNat 7,UInt8.ofNat 7,UInt8.ofNat 7,UInt8.ofNat 7,UInt8.ofNat 7,UInt8.ofNat 7,UInt8.ofNat 7,UInt8.ofNat 7]++([UInt8.ofNat 8,UInt8.ofNat 8,UInt8.ofNat 8,UInt8.ofNat 8,UInt8.ofNat 8,UInt8.ofNat 8,UInt8.ofNat 8,UInt8.ofNat 8,UInt8.ofNat 8,UInt8.ofNat 8,UInt8.ofNat 8,UInt8.ofNat 8,UInt8.ofNat 8,UInt8.ofNat 8,UInt8.ofNat 8,UInt8.ofNat 8,UInt8.ofNat 8,UInt8.ofNat 8,UInt8.ofNat 8,UInt8.ofNat 8,UInt8.ofNat 8,UInt8.ofNat 8,UInt8.ofNat 8,UInt8.ofNat 8,UInt8.ofNat 8,UInt8.ofNat 8,UInt8.ofNat 8,UInt8.ofNat 8,UInt8.ofNat 8,UInt8.ofNat 8,UInt8.ofNat 8,UInt8.ofNat 8,UInt8.ofNat 8,UInt8.ofNat 8,UInt8.ofNat 8,UInt8.ofNat 8,UInt8.ofNat 8,UInt8.ofNat 8,UInt8.ofNat 8,UInt8.ofNat 8,UInt8.ofNat 8,UInt8.ofNat 8,UInt8.ofNat 8,UInt8.ofNat 8,UInt8.ofNat 8,UInt8.ofNat 8,UInt8.ofNat 8,UInt8.ofNat 8,UInt8.ofNat 8,UInt8.ofNat 8,UInt8.ofNat 8,UInt8.ofNat 8,UInt8.ofNat 8,UInt8.ofNat 8,UInt8.ofNat 8,UInt8.ofNat 8,UInt8.ofNat 8,UInt8.ofNat 8,UInt8.ofNat 8,UInt8.ofNat 8,UInt8.ofNat 8,UInt8.ofNat 8,UInt8.ofNat 8,UInt8.ofNat 8]++[UInt8.ofNat 8,UInt8.ofNat 8,UInt8.ofNat 8,UInt8.ofNat 8,UInt8.ofNat 8,UInt8.ofNat 8,UInt8.ofNat 8,UInt8.ofNat 8,UInt8.ofNat 8,UInt8.ofNat 8,UInt8.ofNat 8,UInt8.ofNat 8,UInt8.ofNat 8,UInt8.ofNat 8,UInt8.ofNat 8,UInt8.ofNat 8,UInt8.ofNat 8,UInt8.ofNat 8,UInt8.ofNat 8,UInt8.ofNat 8,UInt8.ofNat 8,UInt8.ofNat 8,UInt8.ofNat 8,UInt8.ofNat 8,UInt8.ofNat 8,UInt8.ofNat 8,UInt8.ofNat 8,UInt8.ofNat 8,UInt8.ofNat 8,UInt8.ofNat 8,UInt8.ofNat 8,UInt8.ofNat 8,UInt8.ofNat 8,UInt8.ofNat 8,UInt8.ofNat 8,UInt8.ofNat 8,UInt8.ofNat 8,UInt8.ofNat 8,UInt8.ofNat 8,UInt8.ofNat 8,UInt8.ofNat 8,UInt8.ofNat 8,UInt8.ofNat 8,UInt8.ofNat 8,UInt8.ofNat 8,UInt8.ofNat 8,UInt8.ofNat 8,UInt8.ofNat 8,UInt8.ofNat 8,UInt8.ofNat 8,UInt8.ofNat 8,UInt8.ofNat 8,UInt8.ofNat 8,UInt8.ofNat 8,UInt8.ofNat 8,UInt8.ofNat 8,UInt8.ofNat 8,UInt8.ofNat 8,UInt8.ofNat 8,UInt8.ofNat 8,UInt8.ofNat 8,UInt8.ofNat 8,UInt8.ofNat 8,UInt8.ofNat 8]));let y1:=Int.pow 2 (if Int.toNat 32<=IntKind.bits .u64 then Int.toNat 32 else IntKind.bits .u64);let y2:=Int.pow 2 (if Int.toNat 16<=IntKind.bits .u64 then Int.toNat 16 else IntKind.bits .u64);let y3:=Int.pow 2 (if Int.toNat 8<=IntKind.bits .u64 then Int.toNat 8 else IntKind.bits .u64);let y4:=Int.fdiv a0 y1;let y5:=ByteArray.mk y0;let y6:=Int.fdiv y4 y2;let y7:=Int.fdiv a0 y2;br (decide (a0>=4294967296)) (br (decide (y4>=65536)) (br (decide (y6>=256)) (br (decide (0<=wrap .u8 (Int.fdiv y6 y3))&&decide (wrap .u8 (Int.fdiv y6 y3)<(↑(ByteArray.size y5):Int))) (some ((wrap .i64 (wrap .i64 (wrap .i64 (32+16)+8)+wrap .i64 (↑(UInt8.toNat (Array.getD y0 (Int.toNat (wrap .u8 (Int.fdiv y6 y3))) (UInt8.ofNat 0))):Int)),()),())) none) (br (decide (0<=wrap .u8 y6)&&decide (wrap .u8 y6<(↑(ByteArray.size y5):Int))) (some ((wrap .i64 (wrap .i64 (32+16)+wrap .i64 (↑(UInt8.toNat (Array.getD y0 (Int.toNat (wrap .u8 y6)) (UInt8.ofNat 0))):Int)),()),())) none)) (br (decide (y4>=256)) (br (decide (0<=wrap .u8 (Int.fdiv y4 y3))&&decide (wrap .u8 (Int.fdiv y4 y3)<(↑(ByteArray.size y5):Int))) (some ((wrap .i64 (wrap .i64 (32+8)+wrap .i64 (↑(UInt8.toNat (Array.getD y0 (Int.toNat (wrap .u8 (Int.fdiv y4 y3))) (UInt8.ofNat 0))):Int)),()),())) none) (br (decide (0<=wrap .u8 y4)&&decide (wrap .u8 y4<(↑(ByteArray.size y5):Int))) (some ((wrap .i64 (32+wrap .i64 (↑(UInt8.toNat (Array.getD y0 (Int.toNat (wrap .u8 y4)) (UInt8.ofNat 0))):Int)),()),())) none))) (br (decide (a0>=65536)) (br (decide (y7>=256)) (br (decide (0<=wrap .u8 (Int.fdiv y7 y3))&&decide (wrap .u8 (Int.fdiv y7 y3)<(↑(ByteArray.size y5):Int))) (some ((wrap .i64 (wrap .i64 (wrap .i64 (0+16)+8)+wrap .i64 (↑(UInt8.toNat (Array.getD y0 (Int.toNat (wrap .u8 (Int.fdiv y7 y3))) (UInt8.ofNat 0))):Int)),()),())) none) (br (decide (0<=wrap .u8 y7)&&decide (wrap .u8 y7<(↑(ByteArray.size y5):Int))) (some ((wrap .i64 (wrap .i64 (0+16)+wrap .i64 (↑(UInt8.toNat (Array.getD y0 (Int.toNat (wrap .u8 y7)) (UInt8.ofNat 0))):Int)),()),())) none)) (br (decide (a0>=256)) (br (decide (0<=wrap .u8 (Int.fdiv a0 y3))&&decide (wrap .u8 (Int.fdiv a0 y3)<(↑(ByteArray.size y5):Int))) (some ((wrap .i64 (wrap .i64 (0+8)+wrap .i64 (↑(UInt8.toNat (Array.getD y0 (Int.toNat (wrap .u8 (Int.fdiv a0 y3))) (UInt8.ofNat 0))):Int)),()),())) none) (br (decide (0<=wrap .u8 a0)&&decide (wrap .u8 a0<(↑(ByteArray.size y5):Int))) (some ((wrap .i64 (0+wrap .i64 (↑(UInt8.toNat (Array.getD y0 (Int.toNat (wrap .u8 a0)) (UInt8.ofNat 0))):Int)),()),())) none)))
def rM(D:DX)(n:Nat)(a0:Int):Option aH:=afn D n a0
theorem ae3(D:DX)(n:Nat)(a0:Int):rF D n 198 (a0,())=rM D n a0:=by kernel_rfl
def US(D:DX)(n:Nat)(a3:bk)(go:Int->Int->Int->Int->List ak->Option cD)(K0:Int->Int->Int->List ak->Option cD)(c d e a:Int)(b:List ak):Option cD:=let y2:=wrap .i64 (a-1);let y0:=List.getD b (Int.toNat y2) (0,0,0,());let y1:=List.getD b a.toNat (0,0,0,());br (decide (a>c)) (br (decide (0<=a)&&decide (a<(b.length:Int))) (br (decide (0<=y2)&&decide (y2<(b.length:Int))) (qd (iK ctx D a3 [bL.val bU y1,bL.val bU y0] ah) fun p0=>br (decide (p0<0)) (br (decide (0<=y2)&&decide (y2<(b.length:Int))) (br (decide (0<=a)&&decide (a<(b.length:Int))) (br (decide (0<=a)&&decide (a<(b.length:Int))) (br (decide (0<=y2)&&decide (y2<((List.set b a.toNat y0).length:Int))) (go c d e y2 (List.set (List.set b a.toNat y0) (Int.toNat y2) y1)) none) none) none) none) (K0 c d e b)) none) none) (K0 c d e b)
def JF(D:DX)(n:Nat)(a3:bk)(K0:Int->Int->Int->List ak->Option cD):Nat->Int->Int->Int->Int->(List ak)->Option cD | 0=>(fun a b c d e=>none) | m+1=>(fun a b c d e=>US D n a3 (JF D n a3 K0 m) K0 a b c d e)
def qdp(D:DX)(n:Nat)(a3:bk)(go:Int->Int->Int->List ak->Option cD)(K0:List ak->Option cD)(a b c:Int)(d:List ak):Option cD:=go a b (wrap .i64 (c+1)) d
def qd1(D:DX)(n:Nat)(a3:bk)(go:Int->Int->Int->List ak->Option cD)(K0:List ak->Option cD):(Int)->(Int)->(Int)->(Int)->(List ak)->Option cD:=(fun a f g h i=>JF D n a3 (fun b c d e=>qdp D n a3 go K0 b c d e) n a f g h i)
def SE(D:DX)(n:Nat)(a3:bk)(go:Int->Int->Int->List ak->Option cD)(K0:List ak->Option cD)(mG:Int->Int->Int->Int->List ak->Option cD)(x0 x1 x2:Int)(x3:List ak):Option cD:=br (decide (x2<x1)) (mG x0 x1 x2 x2 x3) (K0 x3)
def zG(D:DX)(n:Nat)(a3:bk)(K0:List ak->Option cD):Nat->Int->Int->Int->(List ak)->Option cD | 0=>(fun x0 x1 x2 x3=>none) | m+1=>(fun x0 x1 x2 x3=>SE D n a3 (zG D n a3 K0 m) K0 (qd1 D n a3 (zG D n a3 K0 m) K0) x0 x1 x2 x3)
def qg7(D:DX)(n:Nat)(a3:bk)(a:List ak):Option cD:=some ((),a,())
def qd0(D:DX)(n:Nat)(a3:bk):(Int)->(Int)->(Int)->(List ak)->Option cD:=(fun x0 x1 x2 x3=>zG D n a3 (fun a=>qg7 D n a3 a) n x0 x1 x2 x3)
def qet(D:DX)(n:Nat)(a3:bk)(cw:Int->Int->Int->List ak->Option cD)(a0:List ak)(a1 a2:Int):Option cD:=cw a1 a2 (wrap .i64 (a1+1)) a0
def qem(D:DX)(n:Nat)(a0:List ak)(a1 a2:Int)(a3:bk):Option cD:=qet D n a3 (qd0 D n a3) a0 a1 a2
def HJ(a3:bk)(x0 x1 x2:Int)(x3:List ak):St:=bq 53 [(0,AV.b9 0 [] 1048576),(1,AV.val ah x0),(2,AV.val ah x1),(3,AV.ew a3),(8,AV.val ah x2)] [(0,aC.mk bT mF x3 false)]
def UW(a3:bk)(a:List ak):St:=bq 53 [(0,AV.b9 0 [] 1048576)] [(0,aC.mk bT mF a false)]
def qeh(a3:bk)(a b c d:Int)(e:List ak):St:=bq 53 [(0,AV.b9 0 [] 1048576),(1,AV.val ah a),(2,AV.val ah b),(3,AV.ew a3),(8,AV.val ah c),(9,AV.val ah d)] [(0,aC.mk bT mF e false)]
def qg6(a3:bk)(a b c:Int)(d:List ak):St:=bq 53 [(0,AV.b9 0 [] 1048576),(1,AV.val ah a),(2,AV.val ah b),(3,AV.ew a3),(8,AV.val ah c)] [(0,aC.mk bT mF d false)]
theorem qn1(D:DX)(n:Nat)(a3:bk)(K:KT 199):∀(m:Nat)(e f g h:Int)(i:List ak),LF D n 199 uq m (qeh a3 e f g h i) K=JF D n a3 (fun a b c d=>K (Ex.exit 2) (qg6 a3 a b c d)) m e f g h i:=oM (fun F=>US D n a3 F (fun a b c d=>K (Ex.exit 2) (qg6 a3 a b c d)))
theorem qm6(D:DX)(n:Nat)(a3:bk)(m:Nat)(K:KT 199)(a b c d:Int)(e:List ak):LF D n 199 uq n (qeh a3 a b c d e) (CF D n 199 [.r,.l,.l] [.r,.l,.l,.r,.l] (KF D n 199 g9 m K))=qd1 D n a3 (fun x0 x1 x2 x3=>LF D n 199 g9 m (HJ a3 x0 x1 x2 x3) K) (fun f=>K (Ex.exit 0) (UW a3 f)) a b c d e :=by rw[qn1];kernel_rfl
theorem qn2(D:DX)(n:Nat)(a3:bk)(m:Nat)(K:KT 199)(x0)(x1)(x2)(x3):LF D n 199 g9 (m+1) (HJ a3 x0 x1 x2 x3) K=SE D n a3 (fun x0 x1 x2 x3=>LF D n 199 g9 m (HJ a3 x0 x1 x2 x3) K) (fun a=>K (Ex.exit 0) (UW a3 a)) (fun b c d e f=>LF D n 199 uq n (qeh a3 b c d e f) (CF D n 199 [.r,.l,.l] [.r,.l,.l,.r,.l] (KF D n 199 g9 m K))) x0 x1 x2 x3:=by kernel_rfl
theorem qhh(D:DX)(n:Nat)(a3:bk)(K:KT 199):∀(m:Nat)(x0 x1 x2:Int)(x3:List ak),LF D n 199 g9 m (HJ a3 x0 x1 x2 x3) K=zG D n a3 (fun a=>K (Ex.exit 0) (UW a3 a)) m x0 x1 x2 x3
 | 0,x0,x1,x2,x3=>sD ..
 | m+1,x0,x1,x2,x3=>by
  have ih:(fun x0 x1 x2 x3=>LF D n 199 g9 m (HJ a3 x0 x1 x2 x3) K)=zG D n a3 (fun a=>K (Ex.exit 0) (UW a3 a)) m:=by funext x0 x1 x2 x3;exact qhh D n a3 K m x0 x1 x2 x3
  rw[qn2];simp only[qm6];rw[ih];rfl
theorem qm5(D:DX)(n:Nat)(a3:bk)(x0)(x1)(x2)(x3):LF D n 199 g9 n (HJ a3 x0 x1 x2 x3) (CF D n 199 [] g9 (lF 199))=qd0 D n a3 x0 x1 x2 x3 :=by rw[qhh];kernel_rfl
theorem qoq(D:DX)(n:Nat)(a0:List ak)(a1 a2:Int)(a3:bk):rF D n 199 (a0,(a1,(a2,(a3,()))))=qem D n a0 a1 a2 a3:=by
 have h:rF D n 199 (a0,(a1,(a2,(a3,()))))=qet D n a3 (fun x0 x1 x2 x3=>LF D n 199 g9 n (HJ a3 x0 x1 x2 x3) (CF D n 199 [] g9 (lF 199))) a0 a1 a2:=by kernel_rfl
 rw[h];simp only[qm5];rfl
def Og(D:DX)(n:Nat)(a0:Int):Option ag:=some ((a0 != a0,()),())
def qxv(D:DX)(n:Nat)(a0:Int):Option ag:=Og D n a0
theorem agv(D:DX)(n:Nat)(a0:Int):rF D n 212 (a0,())=qxv D n a0:=by kernel_rfl
end
open Go.Proofs
def f4(X:Ext):Prop:=∀k:Nat,(Nat.beq k 128)=false->X.is k=false
theorem Sr:f4 xY:=fun _ _=>rfl
section
variable {X:Ext}(hX:f4 X)(n:Nat)
include hX
theorem sQ{g:FuncId}{fn:Func}{a:ga (ctx.sig g).params}{r:Option (Out ctx g)}(hf:Tryz.prog.funcs[g]?=some fn)(ht:vR g=some fn)(hg:Nat.beq g 128=false)(e:rF (DD X n) n g a=r):DD X (n+1) g a=r:=(akd X hf ht (hX g hg) n a).trans e
theorem aht(a0):OL (DD X (n+1)) a0=YK (DD X n) n a0:=sQ hX n Tryz.func3 (by kernel_rfl) rfl (ag8 ..)
theorem aa5(a0):GB (DD X (n+1)) a0=Qc (DD X n) n a0:=sQ hX n Tryz.func12 (by kernel_rfl) rfl (aa1 ..)
theorem aeb(a0):qqb (DD X (n+1)) a0=qqh (DD X n) n a0:=sQ hX n Tryz.func13 (by kernel_rfl) rfl (ad_ ..)
theorem ae7(a0 a1):qtv (DD X (n+1)) a0 a1=qt4 (DD X n) n a0 a1:=sQ hX n Tryz.func14 (by kernel_rfl) rfl (aeV ..)
theorem afe(a0 a1):qtw (DD X (n+1)) a0 a1=qua (DD X n) n a0 a1:=sQ hX n Tryz.func15 (by kernel_rfl) rfl (ae4 ..)
theorem aar(a0 a1):Gn (DD X (n+1)) a0 a1=Gr (DD X n) n a0 a1:=sQ hX n Tryz.func16 (by kernel_rfl) rfl (aab ..)
theorem qub(a0):Vg (DD X (n+1)) a0=Vh (DD X n) n a0:=sQ hX n Tryz.func17 (by kernel_rfl) rfl (aeX ..)
theorem ajF(a0 a1 a2):q7t (DD X (n+1)) a0 a1 a2=q72 (DD X n) n a0 a1 a2:=sQ hX n Tryz.func18 (by kernel_rfl) rfl (ai3 ..)
theorem ajH(a0):VR (DD X (n+1)) a0=q74 (DD X n) n a0:=sQ hX n Tryz.func19 (by kernel_rfl) rfl (ai5 ..)
theorem agD(a0):qxl (DD X (n+1)) a0=qxw (DD X n) n a0:=sQ hX n Tryz.func20 (by kernel_rfl) rfl (agw ..)
theorem ahQ(a0 a1):Yf (DD X (n+1)) a0 a1=X9 (DD X n) n a0 a1:=sQ hX n Tryz.func23 (by kernel_rfl) rfl (ahj ..)
theorem ajE(a0 a1):Po (DD X (n+1)) a0 a1=q71 (DD X n) n a0 a1:=sQ hX n Tryz.func29 (by kernel_rfl) rfl (ai2 ..)
theorem ae5(a0):qtt (DD X (n+1)) a0=qt2 (DD X n) n a0:=sQ hX n Tryz.func30 (by kernel_rfl) rfl (aeT ..)
theorem ajI(a0 a1):VS (DD X (n+1)) a0 a1=q75 (DD X n) n a0 a1:=sQ hX n Tryz.func34 (by kernel_rfl) rfl (ai6 ..)
theorem ajd(a0):vN (DD X (n+1)) a0=q8a (DD X n) n a0:=sQ hX n Tryz.func35 (by kernel_rfl) rfl (ajr ..)
theorem ahO(a0 a1):Yd (DD X (n+1)) a0 a1=X7 (DD X n) n a0 a1:=sQ hX n Tryz.func37 (by kernel_rfl) rfl (ahh ..)
theorem ajD(a0 a1 a2):VP (DD X (n+1)) a0 a1 a2=q70 (DD X n) n a0 a1 a2:=sQ hX n Tryz.func38 (by kernel_rfl) rfl (ai1 ..)
theorem aiT(a0):VI (DD X (n+1)) a0=ZJ (DD X n) n a0:=sQ hX n Tryz.func39 (by kernel_rfl) rfl (aiB ..)
theorem afW(a0):zI (DD X (n+1)) a0=qvx (DD X n) n a0:=sQ hX n Tryz.func40 (by kernel_rfl) rfl (afL ..)
theorem ahP(a0):Ye (DD X (n+1)) a0=X8 (DD X n) n a0:=sQ hX n Tryz.func42 (by kernel_rfl) rfl (ahi ..)
theorem ajm(a0):q7z (DD X (n+1)) a0=q8i (DD X n) n a0:=sQ hX n Tryz.func44 (by kernel_rfl) rfl (ajA ..)
theorem aet(a0):qrr (DD X (n+1)) a0=qrx (DD X n) n a0:=sQ hX n Tryz.func45 (by kernel_rfl) rfl (aeo ..)
theorem afK(a0):qvw (DD X (n+1)) a0=qv4 (DD X n) n a0:=sQ hX n Tryz.func46 (by kernel_rfl) rfl (afV ..)
theorem ah5(a0 a1):rN (DD X (n+1)) a0 a1=YQ (DD X n) n a0 a1:=sQ hX n Tryz.func47 (by kernel_rfl) rfl (ahG ..)
theorem aiu(a0 a1 a2):ZC (DD X (n+1)) a0 a1 a2=Zr (DD X n) n a0 a1 a2:=sQ hX n Tryz.func48 (by kernel_rfl) rfl (aiM ..)
theorem aiR(a0 a1):Zw (DD X (n+1)) a0 a1=ZH (DD X n) n a0 a1:=sQ hX n Tryz.func49 (by kernel_rfl) rfl (aip ..)
theorem agf(a0):JQ (DD X (n+1)) a0=qxy (DD X n) n a0:=sQ hX n Tryz.func50 (by kernel_rfl) rfl (agy ..)
theorem afE(a0):q7u (DD X (n+1)) a0=qvy (DD X n) n a0:=sQ hX n Tryz.func51 (by kernel_rfl) rfl (afM ..)
theorem ai0(a0 a1):ZB (DD X (n+1)) a0 a1=Zn (DD X n) n a0 a1:=sQ hX n Tryz.func52 (by kernel_rfl) rfl (aiI ..)
theorem aiv(a0):ZD (DD X (n+1)) a0=Zs (DD X n) n a0:=sQ hX n Tryz.func53 (by kernel_rfl) rfl (aiN ..)
theorem afI(a0):q7x (DD X (n+1)) a0=qv2 (DD X n) n a0:=sQ hX n Tryz.func54 (by kernel_rfl) rfl (afT ..)
theorem afH(a0):qvv (DD X (n+1)) a0=qv1 (DD X n) n a0:=sQ hX n Tryz.func55 (by kernel_rfl) rfl (afS ..)
theorem aes(a0):JN (DD X (n+1)) a0=qrw (DD X n) n a0:=sQ hX n Tryz.func56 (by kernel_rfl) rfl (aen ..)
theorem PF(a0 a1):JZ (DD X (n+1)) a0 a1=UE (DD X n) n a0 a1:=sQ hX n Tryz.func57 (by kernel_rfl) rfl (aae ..)
theorem aav(a0 a1 a2):kC (DD X (n+1)) a0 a1 a2=PU (DD X n) n a0 a1 a2:=sQ hX n Tryz.func58 (by kernel_rfl) rfl (aag ..)
theorem ae6(a0):qtu (DD X (n+1)) a0=qt3 (DD X n) n a0:=sQ hX n Tryz.func59 (by kernel_rfl) rfl (aeU ..)
theorem ahU(a0 a1 a2):Yg (DD X (n+1)) a0 a1 a2=Yb (DD X n) n a0 a1 a2:=sQ hX n Tryz.func60 (by kernel_rfl) rfl (ahn ..)
theorem ajK(a0):IB (DD X (n+1)) a0=q77 (DD X n) n a0:=sQ hX n Tryz.func63 (by kernel_rfl) rfl (ajo ..)
theorem qog(a0 a1):qd4 (DD X (n+1)) a0 a1=qd8 (DD X n) n a0 a1:=sQ hX n Tryz.func64 (by kernel_rfl) rfl (qoc ..)
theorem aiU(a0):Tp (DD X (n+1)) a0=ZK (DD X n) n a0:=sQ hX n Tryz.func66 (by kernel_rfl) rfl (aiC ..)
theorem ady(a0 a1):U8 (DD X (n+1)) a0 a1=qms (DD X n) n a0 a1:=sQ hX n Tryz.func67 (by kernel_rfl) rfl (adw ..)
theorem ahV(a0):Tj (DD X (n+1)) a0=Yc (DD X n) n a0:=sQ hX n Tryz.func68 (by kernel_rfl) rfl (aho ..)
theorem qvc(a0):SH (DD X (n+1)) a0=U_ (DD X n) n a0:=sQ hX n Tryz.func69 (by kernel_rfl) rfl (adv ..)
theorem ahT:tw (DD X (n+1))=OM (DD X n) n:=sQ hX n Tryz.func70 (by kernel_rfl) rfl (ahm ..)
theorem aaw(a0):J0 (DD X (n+1)) a0=PV (DD X n) n a0:=sQ hX n Tryz.func71 (by kernel_rfl) rfl (aah ..)
theorem ahS(a0):yw (DD X (n+1)) a0=Ya (DD X n) n a0:=sQ hX n Tryz.func73 (by kernel_rfl) rfl (ahl ..)
theorem adz(a0 a1):U9 (DD X (n+1)) a0 a1=qmt (DD X n) n a0 a1:=sQ hX n Tryz.func74 (by kernel_rfl) rfl (adx ..)
theorem aiY(a0 a1):JV (DD X (n+1)) a0 a1=O4 (DD X n) n a0 a1:=sQ hX n Tryz.func75 (by kernel_rfl) rfl (aiG ..)
theorem ajM(a0):zJ (DD X (n+1)) a0=q79 (DD X n) n a0:=sQ hX n Tryz.func76 (by kernel_rfl) rfl (ajq ..)
theorem ahL(a0):tv (DD X (n+1)) a0=X4 (DD X n) n a0:=sQ hX n Tryz.func77 (by kernel_rfl) rfl (ahe ..)
theorem ahJ(a0 a1 a2):VA (DD X (n+1)) a0 a1 a2=Yr (DD X n) n a0 a1 a2:=sQ hX n Tryz.func78 (by kernel_rfl) rfl (ahc ..)
theorem aeq(a0 a1 a2):Vd (DD X (n+1)) a0 a1 a2=qru (DD X n) n a0 a1 a2:=sQ hX n Tryz.func79 (by kernel_rfl) rfl (ael ..)
theorem aaq(a0):Dk (DD X (n+1)) a0=Gq (DD X n) n a0:=sQ hX n Tryz.func80 (by kernel_rfl) rfl (aaa ..)
theorem agE(a0 a1):qxn (DD X (n+1)) a0 a1=qxx (DD X n) n a0 a1:=sQ hX n Tryz.func81 (by kernel_rfl) rfl (agx ..)
theorem ahW(a0 a1):Yh (DD X (n+1)) a0 a1=YD (DD X n) n a0 a1:=sQ hX n Tryz.func82 (by kernel_rfl) rfl (ahp ..)
theorem ahs(a0):Yi (DD X (n+1)) a0=YJ (DD X n) n a0:=sQ hX n Tryz.func83 (by kernel_rfl) rfl (ag5 ..)
theorem ahZ(a0):Iz (DD X (n+1)) a0=YG (DD X n) n a0:=sQ hX n Tryz.func85 (by kernel_rfl) rfl (ag2 ..)
theorem ahy:Yn (DD X (n+1))=ON (DD X n) n:=sQ hX n Tryz.func90 (by kernel_rfl) rfl (ahD ..)
theorem ajf(a0 a1):VU (DD X (n+1)) a0 a1=q8c (DD X n) n a0 a1:=sQ hX n Tryz.func91 (by kernel_rfl) rfl (ajt ..)
theorem afJ(a0 a1):Vp (DD X (n+1)) a0 a1=qv3 (DD X n) n a0 a1:=sQ hX n Tryz.func92 (by kernel_rfl) rfl (afU ..)
theorem aeu(a0):qrs (DD X (n+1)) a0=qry (DD X n) n a0:=sQ hX n Tryz.func93 (by kernel_rfl) rfl (aep ..)
theorem ait(a0):IA (DD X (n+1)) a0=Zq (DD X n) n a0:=sQ hX n Tryz.func94 (by kernel_rfl) rfl (aiL ..)
theorem qx3(a0):U2 (DD X (n+1)) a0=qh2 (DD X n) n a0:=sQ hX n Tryz.func95 (by kernel_rfl) rfl (qxu ..)
theorem ahA(a0):Yo (DD X (n+1)) a0=YP (DD X n) n a0:=sQ hX n Tryz.func96 (by kernel_rfl) rfl (ahF ..)
theorem aay(a0 a1 a2):lU (DD X (n+1)) a0 a1 a2=PE (DD X n) n a0 a1 a2:=sQ hX n Tryz.func97 (by kernel_rfl) rfl (aaj ..)
theorem ajh(a0):TC (DD X (n+1)) a0=q8e (DD X n) n a0:=sQ hX n Tryz.func98 (by kernel_rfl) rfl (ajv ..)
theorem air(a0):VJ (DD X (n+1)) a0=Zo (DD X n) n a0:=sQ hX n Tryz.func99 (by kernel_rfl) rfl (aiJ ..)
theorem ah6(a0):Yp (DD X (n+1)) a0=YR (DD X n) n a0:=sQ hX n Tryz.func100 (by kernel_rfl) rfl (ahH ..)
theorem agi(a0 a1):qxr (DD X (n+1)) a0 a1=qx0 (DD X n) n a0 a1:=sQ hX n Tryz.func101 (by kernel_rfl) rfl (agA ..)
theorem agj(a0 a1):qxt (DD X (n+1)) a0 a1=qx1 (DD X n) n a0 a1:=sQ hX n Tryz.func102 (by kernel_rfl) rfl (agB ..)
theorem ahY(a0):JT (DD X (n+1)) a0=YF (DD X n) n a0:=sQ hX n Tryz.func103 (by kernel_rfl) rfl (ag1 ..)
theorem afc(a0):JO (DD X (n+1)) a0=qt9 (DD X n) n a0:=sQ hX n Tryz.func104 (by kernel_rfl) rfl (ae2 ..)
theorem adD(a0 a1):qng (DD X (n+1)) a0 a1=qni (DD X n) n a0 a1:=sQ hX n Tryz.func105 (by kernel_rfl) rfl (adB ..)
theorem aea(a0 a1):qqa (DD X (n+1)) a0 a1=qqg (DD X n) n a0 a1:=sQ hX n Tryz.func106 (by kernel_rfl) rfl (ad8 ..)
theorem ahN(a0 a1):VB (DD X (n+1)) a0 a1=X6 (DD X n) n a0 a1:=sQ hX n Tryz.func107 (by kernel_rfl) rfl (ahg ..)
theorem qod(a0 a1):qd3 (DD X (n+1)) a0 a1=qd5 (DD X n) n a0 a1:=sQ hX n Tryz.func109 (by kernel_rfl) rfl (qn9 ..)
theorem ahR(a0):OI (DD X (n+1)) a0=X_ (DD X n) n a0:=sQ hX n Tryz.func110 (by kernel_rfl) rfl (ahk ..)
theorem aiQ(a0):Zv (DD X (n+1)) a0=ZG (DD X n) n a0:=sQ hX n Tryz.func111 (by kernel_rfl) rfl (aio ..)
theorem aiV(a0 a1):Zx (DD X (n+1)) a0 a1=ZL (DD X n) n a0 a1:=sQ hX n Tryz.func112 (by kernel_rfl) rfl (aiD ..)
theorem qqm(a0 a1):qiq (DD X (n+1)) a0 a1=qfd (DD X n) n a0 a1:=sQ hX n Tryz.func113 (by kernel_rfl) rfl (qqf ..)
theorem q65(a0 a1):U5 (DD X (n+1)) a0 a1=qkg (DD X n) n a0 a1:=sQ hX n Tryz.func114 (by kernel_rfl) rfl (q63 ..)
theorem ahM(a0):yu (DD X (n+1)) a0=X5 (DD X n) n a0:=sQ hX n Tryz.func115 (by kernel_rfl) rfl (ahf ..)
theorem yx(a0 a1 a2):OJ (DD X (n+1)) a0 a1 a2=uM (DD X n) n a0 a1 a2:=sQ hX n Tryz.func116 (by kernel_rfl) rfl (ag6 ..)
theorem yz(a0 a1):OK (DD X (n+1)) a0 a1=uN (DD X n) n a0 a1:=sQ hX n Tryz.func117 (by kernel_rfl) rfl (ag7 ..)
theorem ajJ(a0):TB (DD X (n+1)) a0=q76 (DD X n) n a0:=sQ hX n Tryz.func118 (by kernel_rfl) rfl (ajn ..)
theorem ah0(a0):VD (DD X (n+1)) a0=YH (DD X n) n a0:=sQ hX n Tryz.func119 (by kernel_rfl) rfl (ag3 ..)
theorem qrj(a0 a1):qfn (DD X (n+1)) a0 a1=qfo (DD X n) n a0 a1:=sQ hX n Tryz.func120 (by kernel_rfl) rfl (qri ..)
theorem ae9(a0):q54 (DD X (n+1)) a0=qt6 (DD X n) n a0:=sQ hX n Tryz.func121 (by kernel_rfl) rfl (aeY ..)
theorem qof(a0 a1):UR (DD X (n+1)) a0 a1=qd7 (DD X n) n a0 a1:=sQ hX n Tryz.func122 (by kernel_rfl) rfl (qob ..)
theorem ae_(a0):q55 (DD X (n+1)) a0=qt7 (DD X n) n a0:=sQ hX n Tryz.func123 (by kernel_rfl) rfl (aeZ ..)
theorem ahr(a0):VE (DD X (n+1)) a0=YI (DD X n) n a0:=sQ hX n Tryz.func124 (by kernel_rfl) rfl (ag4 ..)
theorem afG(a0):JP (DD X (n+1)) a0=qv0 (DD X n) n a0:=sQ hX n Tryz.func125 (by kernel_rfl) rfl (afR ..)
theorem qoe(a0 a1):UQ (DD X (n+1)) a0 a1=qd6 (DD X n) n a0 a1:=sQ hX n Tryz.func126 (by kernel_rfl) rfl (qoa ..)
theorem afa(a0 a1):q56 (DD X (n+1)) a0 a1=qt8 (DD X n) n a0 a1:=sQ hX n Tryz.func127 (by kernel_rfl) rfl (ae0 ..)
theorem ajP(a0):VW (DD X (n+1)) a0=q8j (DD X n) n a0:=sQ hX n Tryz.func132 (by kernel_rfl) rfl (ajB ..)
theorem ajQ(a0):Cd (DD X (n+1)) a0=Pq (DD X n) n a0:=sQ hX n Tryz.func133 (by kernel_rfl) rfl (ajC ..)
theorem aji(a0):q7w (DD X (n+1)) a0=q8f (DD X n) n a0:=sQ hX n Tryz.func134 (by kernel_rfl) rfl (ajw ..)
theorem ahx(a0):Ym (DD X (n+1)) a0=YO (DD X n) n a0:=sQ hX n Tryz.func135 (by kernel_rfl) rfl (ahC ..)
theorem ajk(a0):q7y (DD X (n+1)) a0=q8h (DD X n) n a0:=sQ hX n Tryz.func136 (by kernel_rfl) rfl (ajy ..)
theorem ahw(a0 a1):Yl (DD X (n+1)) a0 a1=YN (DD X n) n a0 a1:=sQ hX n Tryz.func137 (by kernel_rfl) rfl (ahB ..)
theorem ahv(a0):Yk (DD X (n+1)) a0=YM (DD X n) n a0:=sQ hX n Tryz.func138 (by kernel_rfl) rfl (ag_ ..)
theorem ahz:VF (DD X (n+1))=OO (DD X n) n:=sQ hX n Tryz.func139 (by kernel_rfl) rfl (ahE ..)
theorem aiZ(a0):ZA (DD X (n+1)) a0=Zm (DD X n) n a0:=sQ hX n Tryz.func140 (by kernel_rfl) rfl (aiH ..)
theorem ais(a0 a1):O3 (DD X (n+1)) a0 a1=Zp (DD X n) n a0 a1:=sQ hX n Tryz.func141 (by kernel_rfl) rfl (aiK ..)
theorem ajj(a0):Di (DD X (n+1)) a0=q8g (DD X n) n a0:=sQ hX n Tryz.func143 (by kernel_rfl) rfl (ajx ..)
theorem ajl(a0):TD (DD X (n+1)) a0=Pp (DD X n) n a0:=sQ hX n Tryz.func145 (by kernel_rfl) rfl (ajz ..)
theorem aax(a0):UD (DD X (n+1)) a0=Gw (DD X n) n a0:=sQ hX n Tryz.func146 (by kernel_rfl) rfl (aai ..)
theorem aiw(a0 a1):ZE (DD X (n+1)) a0 a1=Zt (DD X n) n a0 a1:=sQ hX n Tryz.func147 (by kernel_rfl) rfl (aiO ..)
theorem que(a0):qgi (DD X (n+1)) a0=qgl (DD X n) n a0:=sQ hX n Tryz.func148 (by kernel_rfl) rfl (qtz ..)
theorem qrz(a0):UY (DD X (n+1)) a0=qfw (DD X n) n a0:=sQ hX n Tryz.func149 (by kernel_rfl) rfl (qrt ..)
theorem qud(a0):qgh (DD X (n+1)) a0=qgk (DD X n) n a0:=sQ hX n Tryz.func150 (by kernel_rfl) rfl (qty ..)
theorem quc(a0):qgg (DD X (n+1)) a0=qgj (DD X n) n a0:=sQ hX n Tryz.func151 (by kernel_rfl) rfl (qtx ..)
theorem aa3(a0):GA (DD X (n+1)) a0=GD (DD X n) n a0:=sQ hX n Tryz.func152 (by kernel_rfl) rfl (aaZ ..)
theorem aiP(a0 a1):Zu (DD X (n+1)) a0 a1=ZF (DD X n) n a0 a1:=sQ hX n Tryz.func153 (by kernel_rfl) rfl (ain ..)
theorem aas(a0 a1):JY (DD X (n+1)) a0 a1=Gt (DD X n) n a0 a1:=sQ hX n Tryz.func154 (by kernel_rfl) rfl (aac ..)
theorem aau(a0 a1):TH (DD X (n+1)) a0 a1=Gv (DD X n) n a0 a1:=sQ hX n Tryz.func155 (by kernel_rfl) rfl (aaf ..)
theorem aa2(a0):Gz (DD X (n+1)) a0=GC (DD X n) n a0:=sQ hX n Tryz.func156 (by kernel_rfl) rfl (aaY ..)
theorem aer(a0 a1 a2):SR (DD X (n+1)) a0 a1 a2=qrv (DD X n) n a0 a1 a2:=sQ hX n Tryz.func157 (by kernel_rfl) rfl (aem ..)
theorem ae8(a0 a1 a2):SP (DD X (n+1)) a0 a1 a2=qt5 (DD X n) n a0 a1 a2:=sQ hX n Tryz.func158 (by kernel_rfl) rfl (aeW ..)
theorem aap(a0 a1):Gm (DD X (n+1)) a0 a1=Gp (DD X n) n a0 a1:=sQ hX n Tryz.func159 (by kernel_rfl) rfl (aam ..)
theorem aiS(a0 a1):VH (DD X (n+1)) a0 a1=ZI (DD X n) n a0 a1:=sQ hX n Tryz.func160 (by kernel_rfl) rfl (aiq ..)
theorem ajG(a0 a1 a2 a3):VQ (DD X (n+1)) a0 a1 a2 a3=q73 (DD X n) n a0 a1 a2 a3:=sQ hX n Tryz.func161 (by kernel_rfl) rfl (ai4 ..)
theorem qqj(a0 a1):qin (DD X (n+1)) a0 a1=qfa (DD X n) n a0 a1:=sQ hX n Tryz.func162 (by kernel_rfl) rfl (qqc ..)
theorem quf(a0 a1):qj8 (DD X (n+1)) a0 a1=qgm (DD X n) n a0 a1:=sQ hX n Tryz.func163 (by kernel_rfl) rfl (qt0 ..)
theorem qql(a0 a1):qip (DD X (n+1)) a0 a1=qfc (DD X n) n a0 a1:=sQ hX n Tryz.func164 (by kernel_rfl) rfl (qqe ..)
theorem qqk(a0 a1):qio (DD X (n+1)) a0 a1=qfb (DD X n) n a0 a1:=sQ hX n Tryz.func165 (by kernel_rfl) rfl (qqd ..)
theorem ajg(a0):VV (DD X (n+1)) a0=q8d (DD X n) n a0:=sQ hX n Tryz.func166 (by kernel_rfl) rfl (aju ..)
theorem ahu(a0):Yj (DD X (n+1)) a0=YL (DD X n) n a0:=sQ hX n Tryz.func167 (by kernel_rfl) rfl (ag9 ..)
theorem aa4(a0 a1):UJ (DD X (n+1)) a0 a1=GF (DD X n) n a0 a1:=sQ hX n Tryz.func168 (by kernel_rfl) rfl (aa0 ..)
theorem ads(a0 a1):U6 (DD X (n+1)) a0 a1=qlm (DD X n) n a0 a1:=sQ hX n Tryz.func169 (by kernel_rfl) rfl (adr ..)
theorem aje(a0 a1):VT (DD X (n+1)) a0 a1=q8b (DD X n) n a0 a1:=sQ hX n Tryz.func170 (by kernel_rfl) rfl (ajs ..)
theorem aiW(a0 a1):Zy (DD X (n+1)) a0 a1=Zk (DD X n) n a0 a1:=sQ hX n Tryz.func171 (by kernel_rfl) rfl (aiE ..)
theorem aat(a0 a1):uO (DD X (n+1)) a0 a1=Gu (DD X n) n a0 a1:=sQ hX n Tryz.func172 (by kernel_rfl) rfl (aad ..)
theorem ajL(a0):yA (DD X (n+1)) a0=q78 (DD X n) n a0:=sQ hX n Tryz.func173 (by kernel_rfl) rfl (ajp ..)
theorem ahX(a0 a1 a2 a3):VC (DD X (n+1)) a0 a1 a2 a3=YE (DD X n) n a0 a1 a2 a3:=sQ hX n Tryz.func174 (by kernel_rfl) rfl (ahq ..)
theorem adE(a0):U7 (DD X (n+1)) a0=qnj (DD X n) n a0:=sQ hX n Tryz.func175 (by kernel_rfl) rfl (adC ..)
theorem aiX(a0 a1 a2 a3 a4):Zz (DD X (n+1)) a0 a1 a2 a3 a4=Zl (DD X n) n a0 a1 a2 a3 a4:=sQ hX n Tryz.func176 (by kernel_rfl) rfl (aiF ..)
theorem ahK(a0 a1):Ov (DD X (n+1)) a0 a1=Ys (DD X n) n a0 a1:=sQ hX n Tryz.func177 (by kernel_rfl) rfl (ahd ..)
theorem qqi(a0 a1):SJ (DD X (n+1)) a0 a1=SK (DD X n) n a0 a1:=sQ hX n Tryz.func178 (by kernel_rfl) rfl (ad9 ..)
theorem qv5(a0 a1):qy (DD X (n+1)) a0 a1=SW (DD X n) n a0 a1:=sQ hX n Tryz.func179 (by kernel_rfl) rfl (afN ..)
theorem afb(a0 a1):tr (DD X (n+1)) a0 a1=q58 (DD X n) n a0 a1:=sQ hX n Tryz.func180 (by kernel_rfl) rfl (ae1 ..)
theorem qv6(a0 a1 a2 a3 a4):vJ (DD X (n+1)) a0 a1 a2 a3 a4=SX (DD X n) n a0 a1 a2 a3 a4:=sQ hX n Tryz.func181 (by kernel_rfl) rfl (afP ..)
theorem qpm(a0 a1):UX (DD X (n+1)) a0 a1=qex (DD X n) n a0 a1:=sQ hX n Tryz.func182 (by kernel_rfl) rfl (qpk ..)
theorem afF(a0 a1):q7v (DD X (n+1)) a0 a1=qvz (DD X n) n a0 a1:=sQ hX n Tryz.func183 (by kernel_rfl) rfl (afQ ..)
theorem q3r(a0 a1 a2 a3):qz (DD X (n+1)) a0 a1 a2 a3=qjo (DD X n) n a0 a1 a2 a3:=sQ hX n Tryz.func184 (by kernel_rfl) rfl (q3q ..)
theorem q8k(a0 a1 a2):It (DD X (n+1)) a0 a1 a2=Vq (DD X n) n a0 a1 a2:=sQ hX n Tryz.func186 (by kernel_rfl) rfl (afO ..)
theorem qug(a0 a1 a2 a3 a4):qo (DD X (n+1)) a0 a1 a2 a3 a4=qgn (DD X n) n a0 a1 a2 a3 a4:=sQ hX n Tryz.func187 (by kernel_rfl) rfl (qt1 ..)
theorem qvd(a0 a1 a2):qkn (DD X (n+1)) a0 a1 a2=qgy (DD X n) n a0 a1 a2:=sQ hX n Tryz.func188 (by kernel_rfl) rfl (qvb ..)
theorem ahI(a0 a1):yt (DD X (n+1)) a0 a1=Yq (DD X n) n a0 a1:=sQ hX n Tryz.func194 (by kernel_rfl) rfl (ahb ..)
theorem qos(a0 a1 a2 a3):qhy (DD X (n+1)) a0 a1 a2 a3=qem (DD X n) n a0 a1 a2 a3:=sQ hX n Tryz.func199 (by kernel_rfl) rfl (qoq ..)
theorem agC(a0):qxh (DD X (n+1)) a0=qxv (DD X n) n a0:=sQ hX n Tryz.func212 (by kernel_rfl) rfl (agv ..)
theorem agh(a0):Vy (DD X (n+1)) a0=qxz (DD X n) n a0:=sQ hX n Tryz.func185 (by kernel_rfl) rfl (agz ..)
theorem afd(a0):q57 (DD X (n+1)) a0=rM (DD X n) n a0:=sQ hX n Tryz.func198 (by kernel_rfl) rfl (ae3 ..)
end
end Go.G

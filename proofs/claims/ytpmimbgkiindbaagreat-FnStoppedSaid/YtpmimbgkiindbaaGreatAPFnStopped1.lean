import Derived.Test.YtpmimbgkiindbaaGreatAPFnStopped0
set_option maxRecDepth 100000
set_option linter.unusedVariables false
set_option linter.unusedSimpArgs false
set_option linter.unusedSectionVars false
open Go.IntKind (wrap)
namespace Go.G
set_option maxHeartbeats 0
open Go Go.V
noncomputable section
def qjv(D:DX)(n:Nat)(a0:List ak):Option mO:=br (decide (Int.toNat (a0.length:Int)=0)) (both (some (([],()),())) (br (decide (0+a0.length<=ga)) (some (([]++a0,()),())) none)) (br (decide (0+a0.length<=ga)) (some (([]++a0,()),())) none)
def qfw(D:DX)(n:Nat)(a0:List ak):Option mO:=qjv D n a0
theorem qrt(D:DX)(n:Nat)(a0:List ak):rF D n 149 (a0,())=qfw D n a0:=by kernel_rfl
def qkc(D:DX)(n:Nat)(a0:List bD):Option ((List bD×Unit)×Unit):=br (decide (Int.toNat (a0.length:Int)=0)) (both (some (([],()),())) (br (decide (0+a0.length<=ga)) (some (([]++a0,()),())) none)) (br (decide (0+a0.length<=ga)) (some (([]++a0,()),())) none)
def qgk(D:DX)(n:Nat)(a0:List bD):Option ((List bD×Unit)×Unit):=qkc D n a0
theorem qty(D:DX)(n:Nat)(a0:List bD):rF D n 150 (a0,())=qgk D n a0:=by kernel_rfl
def qkb(D:DX)(n:Nat)(a0:List cE):Option ((List cE×Unit)×Unit):=br (decide (Int.toNat (a0.length:Int)=0)) (both (some (([],()),())) (br (decide (0+a0.length<=ga)) (some (([]++a0,()),())) none)) (br (decide (0+a0.length<=ga)) (some (([]++a0,()),())) none)
def qgj(D:DX)(n:Nat)(a0:List cE):Option ((List cE×Unit)×Unit):=qkb D n a0
theorem qtx(D:DX)(n:Nat)(a0:List cE):rF D n 151 (a0,())=qgj D n a0:=by kernel_rfl
def QC(D:DX)(n:Nat)(a0:aR):Option ((cE×gQ)×Unit):=br (decide ((a0.2.2.2.2.1.length:Int)=0)) (some (((0,0,0,0,()),false,()),())) (br (decide (0<=wrap .i64 ((a0.2.2.2.2.1.length:Int)-1))&&decide (wrap .i64 ((a0.2.2.2.2.1.length:Int)-1)<(a0.2.2.2.2.1.length:Int))) (some ((List.getD a0.2.2.2.2.1 (Int.toNat (wrap .i64 ((a0.2.2.2.2.1.length:Int)-1))) (0,0,0,0,()),true,()),())) none)
def GL(D:DX)(n:Nat)(a0:aR):Option ((cE×gQ)×Unit):=QC D n a0
theorem aaZ(D:DX)(n:Nat)(a0:aR):rF D n 152 (a0,())=GL D n a0:=by kernel_rfl
def Pc(D:DX)(n:Nat)(a0:aU)(a1:cE):Option tq6:=let y0:=Int.toNat (if 0>a1.2.2.2.1 then 0 else a1.2.2.2.1);qd (J2 D a0) fun p0=>let y1:=List.getD p0.1.1.2.1 a1.1.toNat (0,0,[],(0,[],()),());let y2:=List.getD y1.2.2.1 a1.2.2.2.1.toNat (0,0,0,());let y3:=List.getD y1.2.2.1 y0 (0,0,0,());let y4:=Int.toNat y3.1;let y5:=Int.toNat y2.1;let y6:=List.set p0.1.1.1 y4 (y3.2.1,0,0,());let y7:=List.set p0.1.1.1 y5 (y2.2.1,0,0,());qd (IK D (p0.1.1.1,p0.1.1.2.1,())) fun p3=>br (!p3.1.1) (some (((p0.1.1.1,p0.1.1.2.1,()),a1,(0,0,0,0,()),2,()),())) (qd (kE D a1.1 0 (wrap .i64 ((p0.1.1.2.1.length:Int)-1))) fun p4=>br (bif !p4.1.1 then true else decide (a1.2.1<1)) (some (((p0.1.1.1,p0.1.1.2.1,()),a1,(0,0,0,0,()),2,()),())) (br (decide (0<=a1.1)&&decide (a1.1<(p0.1.1.2.1.length:Int))) (br (y1.1 != a1.2.1) (some (((p0.1.1.1,p0.1.1.2.1,()),a1,(0,0,0,0,()),2,()),())) (br (decide (0<=a1.1)&&decide (a1.1<(p0.1.1.2.1.length:Int))) (br (bif y1.2.1 != 0 then bif decide (y1.2.1=1) then true else decide (a1.2.2.2.1<(y1.2.2.1.length:Int)) else false) (br (decide (y1.2.1=1)) (qd (U3 D (p0.1.1.1,p0.1.1.2.1,()) (a1.1,a1.2.1,if 0>a1.2.2.1 then 0 else a1.2.2.1,if 0>a1.2.2.2.1 then 0 else a1.2.2.2.1,a1.2.2.2.2)) fun p1=>some (((p1.2.1.1,p1.2.1.2.1,()),p1.1.1,p1.1.2.1,p1.1.2.2.1,()),())) (br (bif decide (y1.2.1=0) then true else decide ((if 0>a1.2.2.2.1 then 0 else a1.2.2.2.1)>=(y1.2.2.1.length:Int))) (some (((p0.1.1.1,p0.1.1.2.1,()),(a1.1,a1.2.1,if 0>a1.2.2.1 then 0 else a1.2.2.1,if 0>a1.2.2.2.1 then 0 else a1.2.2.2.1,a1.2.2.2.2),(0,0,0,0,()),2,()),())) (br (decide (0<=if 0>a1.2.2.2.1 then 0 else a1.2.2.2.1)&&decide ((if 0>a1.2.2.2.1 then 0 else a1.2.2.2.1)<(y1.2.2.1.length:Int))) (br (decide (0<=y3.1)&&decide (y3.1<(p0.1.1.1.length:Int))) (br (pN bV (List.getD p0.1.1.1 y4 (0,0,0,())) (0,wrap .i64 (a1.1+1),a1.2.1,())) (br (decide (y1.2.1=2)) (some (((List.set y6 y4 (y3.2.2.1,(List.getD y6 y4 (0,0,0,())).2),p0.1.1.2.1,()),(a1.1,a1.2.1,if 0>a1.2.2.1 then 0 else a1.2.2.1,wrap .i64 ((if 0>a1.2.2.2.1 then 0 else a1.2.2.2.1)+1),a1.2.2.2.2),(0,0,0,0,()),0,()),())) (some (((y6,p0.1.1.2.1,()),(a1.1,a1.2.1,if 0>a1.2.2.1 then 0 else a1.2.2.1,wrap .i64 ((if 0>a1.2.2.2.1 then 0 else a1.2.2.2.1)+1),a1.2.2.2.2),(0,0,0,0,()),0,()),()))) (some (((p0.1.1.1,p0.1.1.2.1,()),(a1.1,a1.2.1,if 0>a1.2.2.1 then 0 else a1.2.2.1,wrap .i64 ((if 0>a1.2.2.2.1 then 0 else a1.2.2.2.1)+1),a1.2.2.2.2),(0,0,0,0,()),0,()),()))) none) none))) (br (decide (y1.2.1=1)) (qd (U3 D (p0.1.1.1,p0.1.1.2.1,()) a1) fun p2=>some (((p2.2.1.1,p2.2.1.2.1,()),p2.1.1,p2.1.2.1,p2.1.2.2.1,()),())) (br (bif decide (y1.2.1=0) then true else decide (a1.2.2.2.1>=(y1.2.2.1.length:Int))) (some (((p0.1.1.1,p0.1.1.2.1,()),a1,(0,0,0,0,()),2,()),())) (br (decide (0<=a1.2.2.2.1)&&decide (a1.2.2.2.1<(y1.2.2.1.length:Int))) (br (decide (0<=y2.1)&&decide (y2.1<(p0.1.1.1.length:Int))) (br (pN bV (List.getD p0.1.1.1 y5 (0,0,0,())) (0,wrap .i64 (a1.1+1),a1.2.1,())) (br (decide (y1.2.1=2)) (some (((List.set y7 y5 (y2.2.2.1,(List.getD y7 y5 (0,0,0,())).2),p0.1.1.2.1,()),(a1.1,a1.2.1,a1.2.2.1,wrap .i64 (a1.2.2.2.1+1),a1.2.2.2.2),(0,0,0,0,()),0,()),())) (some (((y7,p0.1.1.2.1,()),(a1.1,a1.2.1,a1.2.2.1,wrap .i64 (a1.2.2.2.1+1),a1.2.2.2.2),(0,0,0,0,()),0,()),()))) (some (((p0.1.1.1,p0.1.1.2.1,()),(a1.1,a1.2.1,a1.2.2.1,wrap .i64 (a1.2.2.2.1+1),a1.2.2.2.2),(0,0,0,0,()),0,()),()))) none) none)))) none)) none))
def ZV(D:DX)(n:Nat)(a0:aU)(a1:cE):Option tq6:=Pc D n a0 a1
theorem ail(D:DX)(n:Nat)(a0:aU)(a1:cE):rF D n 153 (a0,(a1,()))=ZV D n a0 a1:=by kernel_rfl
def P9(D:DX)(n:Nat)(a0:aR)(a1:cE):Option jm:=qd (JX D a0) fun b=>br (decide (b.1.1.2.2.2.2.1.length+1<=ga)) (some (((b.1.1.1,b.1.1.2.1,b.1.1.2.2.1,b.1.1.2.2.2.1,b.1.1.2.2.2.2.1++[a1],()),()),())) none
def GA(D:DX)(n:Nat)(a0:aR)(a1:cE):Option jm:=P9 D n a0 a1
theorem aac(D:DX)(n:Nat)(a0:aR)(a1:cE):rF D n 154 (a0,(a1,()))=GA D n a0 a1:=by kernel_rfl
def P_(D:DX)(n:Nat)(a0:aR)(a1:cE):Option jm:=qd (JX D a0) fun p0=>br (decide ((p0.1.1.2.2.2.2.1.length:Int)>0)) (br (decide (0<=wrap .i64 ((p0.1.1.2.2.2.2.1.length:Int)-1))&&decide (wrap .i64 ((p0.1.1.2.2.2.2.1.length:Int)-1)<(p0.1.1.2.2.2.2.1.length:Int))) (some (((p0.1.1.1,p0.1.1.2.1,p0.1.1.2.2.1,p0.1.1.2.2.2.1,List.set p0.1.1.2.2.2.2.1 (Int.toNat (wrap .i64 ((p0.1.1.2.2.2.2.1.length:Int)-1))) a1,()),()),())) none) (some (((p0.1.1.1,p0.1.1.2.1,p0.1.1.2.2.1,p0.1.1.2.2.2.1,p0.1.1.2.2.2.2.1,()),()),()))
def GC(D:DX)(n:Nat)(a0:aR)(a1:cE):Option jm:=P_ D n a0 a1
theorem aaf(D:DX)(n:Nat)(a0:aR)(a1:cE):rF D n 155 (a0,(a1,()))=GC D n a0 a1:=by kernel_rfl
def QB(D:DX)(n:Nat)(a0:aR):Option jm:=qd (JX D a0) fun p0=>br (decide ((p0.1.1.2.2.2.2.1.length:Int)>0)) (br (decide (0<=wrap .i64 ((p0.1.1.2.2.2.2.1.length:Int)-1))&&decide (wrap .i64 ((p0.1.1.2.2.2.2.1.length:Int)-1)<=(p0.1.1.2.2.2.2.1.length:Int))) (some (((p0.1.1.1,p0.1.1.2.1,p0.1.1.2.2.1,p0.1.1.2.2.2.1,List.take (Int.toNat (wrap .i64 ((p0.1.1.2.2.2.2.1.length:Int)-1))) p0.1.1.2.2.2.2.1,()),()),())) none) (some (((p0.1.1.1,p0.1.1.2.1,p0.1.1.2.2.1,p0.1.1.2.2.2.1,p0.1.1.2.2.2.2.1,()),()),()))
def GK(D:DX)(n:Nat)(a0:aR):Option jm:=QB D n a0
theorem aaY(D:DX)(n:Nat)(a0:aR):rF D n 156 (a0,())=GK D n a0:=by kernel_rfl
def q0b(D:DX)(n:Nat)(z0:Int)(z1:aD):Option wq:=let y5:=List.getD z1.2.1 z0.toNat ([],0,false,[],[],());let y2:=List.set z1.2.1 z0.toNat (y5.1,wrap .i64 (y5.2.1+1),y5.2.2);let y6:=List.getD y2 z0.toNat ([],0,false,[],[],());let y0:=List.set y2 z0.toNat (y6.1,y6.2.1,false,y6.2.2.2);let y4:=List.getD y0 z0.toNat ([],0,false,[],[],());let y1:=List.set y0 z0.toNat (y4.1,y4.2.1,y4.2.2.1,[],y4.2.2.2.2);let y3:=List.getD y1 z0.toNat ([],0,false,[],[],());br (decide (0<=z0)&&decide (z0<(z1.2.1.length:Int))) (some ((),(z1.1,List.set y1 z0.toNat (y3.1,y3.2.1,y3.2.2.1,y3.2.2.2.1,[],y3.2.2.2.2.2),z1.2.2),())) none
def qqt(D:DX)(n:Nat)(z0:Int)(z1:aD):Option wq:=q0b D n z0 z1
def qsf(D:DX)(n:Nat)(j0:Int->aD->Option wq)(a0:aD)(a1:Int)(a2:eO):Option wq:=qd (Vo D a0 a1) fun p0=>let y2:=List.getD p0.2.1.2.2.2.1 p0.1.1.toNat (0,(0,0,0,()),0,0,0,(0,[],()),());let y0:=List.set p0.2.1.2.2.2.1 p0.1.1.toNat (y2.1,y2.2.1,y2.2.2.1,y2.2.2.2.1,p0.2.1.2.2.1,y2.2.2.2.2.2);let y1:=List.getD y0 p0.1.1.toNat (0,(0,0,0,()),0,0,0,(0,[],()),());br (decide (p0.1.1>=0)) (br (decide (0<=p0.1.1)&&decide (p0.1.1<(p0.2.1.2.2.2.1.length:Int))) (qd (II D a2) fun p1=>br (decide (0<=p0.1.1)&&decide (p0.1.1<(y0.length:Int))) (j0 a1 (p0.2.1.1,p0.2.1.2.1,p0.2.1.2.2.1,List.set y0 p0.1.1.toNat (y1.1,y1.2.1,y1.2.2.1,y1.2.2.2.1,y1.2.2.2.2.1,(p1.1.1.1,p1.1.1.2.1,()),y1.2.2.2.2.2.2),p0.2.1.2.2.2.2)) none) none) (j0 a1 p0.2.1)
def qrv(D:DX)(n:Nat)(a0:aD)(a1:Int)(a2:eO):Option wq:=qsf D n (fun z0 z1=>qqt D n z0 z1) a0 a1 a2
def qym(z0:Int)(z1:aD):St:=bq 55 [(0,AV.addr 0 []),(1,AV.val ah z0)] [(0,aC.mk cK Av z1 true)]
theorem adC(D:DX)(n:Nat)(z0)(z1):mZ ctx D (ctx.hints 157) n (tH (bF 157) [.r,.r]) (qym z0 z1) (lF 157)=qqt D n z0 z1:=by kernel_rfl
theorem ad5(D:DX)(n:Nat)(K:St->Option (Out ctx 157))(a0:aD)(a1:Int)(a2:eO):uB ctx D (ctx.hints 157) n 2 (bF 157) (Ih (C:=ctx) vX 157 (a0,(a1,(a2,())))) K (lF 157)=qsf D n (fun z0 z1=>K (qym z0 z1)) a0 a1 a2:=by kernel_rfl
theorem aeo(D:DX)(n:Nat)(a0:aD)(a1:Int)(a2:eO):rF D n 157 (a0,(a1,(a2,())))=qrv D n a0 a1 a2:=
 (adh vX D n 157 _ (by kernel_rfl)).trans ((acS ctx D (ctx.hints 157) n 2 (lF 157) (bF 157) [.r,.r] _ rfl (by kernel_rfl)).symm.trans ((ad5 D n (fun S=>mZ ctx D (ctx.hints 157) n (tH (bF 157) [.r,.r]) S (lF 157)) a0 a1 a2).trans (by simp only[adC];rfl)))
def q6g(D:DX)(n:Nat)(a0:aD)(a1:Int)(a2:eO):Option wq:=qd (Vo D a0 a1) fun p0=>let y2:=List.getD p0.2.1.2.2.2.1 p0.1.1.toNat (0,(0,0,0,()),0,0,0,(0,[],()),());let y0:=List.set p0.2.1.2.2.2.1 p0.1.1.toNat (y2.1,y2.2.1,y2.2.2.1,p0.2.1.2.2.1,y2.2.2.2.2);let y1:=List.getD y0 p0.1.1.toNat (0,(0,0,0,()),0,0,0,(0,[],()),());br (decide (p0.1.1<0)) (some ((),p0.2.1,())) (br (decide (0<=p0.1.1)&&decide (p0.1.1<(p0.2.1.2.2.2.1.length:Int))) (qd (II D a2) fun p1=>br (decide (0<=p0.1.1)&&decide (p0.1.1<(y0.length:Int))) (br (decide (p0.2.1.2.2.2.2.1.length+1<=ga)) (some ((),(p0.2.1.1,p0.2.1.2.1,p0.2.1.2.2.1,List.set y0 p0.1.1.toNat (y1.1,y1.2.1,y1.2.2.1,y1.2.2.2.1,y1.2.2.2.2.1,(p1.1.1.1,p1.1.1.2.1,()),y1.2.2.2.2.2.2),p0.2.1.2.2.2.2.1++[p0.1.1],p0.2.1.2.2.2.2.2),())) none) none) none)
def qt5(D:DX)(n:Nat)(a0:aD)(a1:Int)(a2:eO):Option wq:=q6g D n a0 a1 a2
theorem aeY(D:DX)(n:Nat)(a0:aD)(a1:Int)(a2:eO):rF D n 158 (a0,(a1,(a2,())))=qt5 D n a0 a1 a2:=by kernel_rfl
def P7(D:DX)(n:Nat)(a0:ak)(a1:List bD):Option aH:=qd (Ds D a0) fun b=>br (!b.1.1) (some ((-1,()),())) (qd (V_ D a0 a1) fun b=>some ((b.1.1.2.2.1,()),()))
def Gx(D:DX)(n:Nat)(a0:ak)(a1:List bD):Option aH:=P7 D n a0 a1
theorem aam(D:DX)(n:Nat)(a0:ak)(a1:List bD):rF D n 159 (a0,(a1,()))=Gx D n a0 a1:=by kernel_rfl
def Zi(D:DX)(n:Nat)(go:List bD->Int->Int->Int->Int->ak->jn->jn->cV->Option nA)(K0:List bD->ak->jn->jn->Option nA)(x0:List bD)(x1 x2 x3 x4:Int)(x5:ak)(x6 x7:jn)(x8:cV):Option nA:=br (decide (x4<x3)) (br (decide (0<=x4)&&decide (x4<(x8.2.1.length:Int))) (qd (uS D x0 (List.getD x8.2.1 x4.toNat 0)) fun p0=>qd (ZP D x5 (List.getD x8.2.1 x4.toNat 0) p0.1.1 x2 x1) fun p1=>br (decide (x7.2.2.1.length+1<=ga)) (br (decide (x5.1=7)) (br (decide (x7.2.1.2.1.length+1<=ga)) (go x0 x1 x2 x3 (wrap .i64 (x4+1)) x5 x6 (x7.1,(x7.2.1.1,x7.2.1.2.1++[p0.1.1],x7.2.1.2.2),x7.2.2.1++[(List.getD x8.2.1 x4.toNat 0,p0.1.1,p1.1.1,())],x7.2.2.2) x8) none) (go x0 x1 x2 x3 (wrap .i64 (x4+1)) x5 x6 (x7.1,x7.2.1,x7.2.2.1++[(List.getD x8.2.1 x4.toNat 0,p0.1.1,p1.1.1,())],x7.2.2.2) x8)) none) none) (K0 x0 x5 x6 x7)
def J3(D:DX)(n:Nat)(K0:List bD->ak->jn->jn->Option nA):Nat->(List bD)->Int->Int->Int->Int->ak->jn->jn->cV->Option nA | 0=>(fun x0 x1 x2 x3 x4 x5 x6 x7 x8=>none) | m+1=>(fun x0 x1 x2 x3 x4 x5 x6 x7 x8=>Zi D n (J3 D n K0 m) K0 x0 x1 x2 x3 x4 x5 x6 x7 x8)
def Tl(D:DX)(n:Nat)(c:List bD)(b:ak)(d a:jn):Option nA:=br (decide (b.1=10)) (qd (vS D b.2.2.1) fun p1=>qd (uS D c p1.1.1) fun p0=>br (p0.1.1 != 0) (some (((a.1,(0,[wrap .i64 (p0.1.1-1)],()),a.2.2.1,()),true,()),())) (some (((a.1,(3,a.2.1.2.1,()),a.2.2.1,()),true,()),()))) (some (((a.1,(a.2.1.1,a.2.1.2.1,()),a.2.2.1,()),true,()),()))
def qyq(D:DX)(n:Nat):(List bD)->(Int)->(Int)->(Int)->(Int)->ak->jn->jn->cV->Option nA:=(fun x0 x1 x2 x3 x4 x5 x6 x7 x8=>J3 D n (fun a b c d=>Tl D n a b c d) n x0 x1 x2 x3 x4 x5 x6 x7 x8)
def q5j(D:DX)(n:Nat)(cw:List bD->Int->Int->Int->Int->ak->jn->jn->cV->Option nA)(a0:ak)(a1:List bD):Option nA:=qd (Ds D a0) fun p9=>br (!p9.1.1) (some (((false,(0,[],()),[],()),false,()),())) (qd (V_ D a0 a1) fun p0=>br (decide (p0.1.1.2.2.1>=0)) (some (((false,(0,[],()),[],()),false,()),())) (qd (ZO D a0 a1) fun p2=>br p2.1.2.1 (some (((true,(p2.1.1.1,p2.1.1.2.1,()),[],()),true,()),())) (qd (tD D) fun jQ=>qd (uS D a1 jQ.1.1) fun p1=>qd (yD D a0.2.1) fun j_=>qd (uS D a1 j_.1.1) fun p5=>br (decide (a0.1=9)) (qd (yD D (wrap .i64 (p1.1.1-1))) fun kY=>qd (uS D a1 kY.1.1) fun p6=>br (bif bif decide (a0.1=1) then true else decide (a0.1=2) then true else decide (a0.1=3)) (qd (VS D a0 a1 p6.1.1 p1.1.1) fun p7=>some (((false,(0,[],()),p7.1.1,()),true,()),())) (qd (Vp D p0.1.1.2.1) fun p3=>cw a1 p1.1.1 p6.1.1 (p3.2.1.length:Int) 0 a0 (false,(0,[],()),[],()) (false,(0,[],()),[],()) (p0.1.1.1,p3.2.1,p0.1.1.2.2))) (br (bif bif decide (a0.1=1) then true else decide (a0.1=2) then true else decide (a0.1=3)) (qd (VS D a0 a1 p5.1.1 p1.1.1) fun p8=>some (((false,(0,[],()),p8.1.1,()),true,()),())) (qd (Vp D p0.1.1.2.1) fun p4=>cw a1 p1.1.1 p5.1.1 (p4.2.1.length:Int) 0 a0 (false,(0,[],()),[],()) (false,(0,[],()),[],()) (p0.1.1.1,p4.2.1,p0.1.1.2.2))))))
def ZY(D:DX)(n:Nat)(a0:ak)(a1:List bD):Option nA:=q5j D n (qyq D n) a0 a1
def Zh(x0:List bD)(x1 x2 x3 x4:Int)(x5:ak)(x6 x7:jn)(x8:cV):St:=bq 154 [(1,AV.val iZ x0),(2,AV.addr 2 []),(4,AV.addr 4 []),(9,AV.val ah x1),(11,AV.val ah x2),(13,AV.addr 13 []),(95,AV.b9 26 [ov.snd,ov.fst] 0),(96,AV.val ah x3),(97,AV.val ah x4)] [(2,aC.mk bV Mk.no x5 true),(4,aC.mk ru Aw x6 true),(13,aC.mk ru Aw x7 true),(26,aC.mk mQ oX x8 true)]
def q80(a:List bD)(b:ak)(c d:jn):St:=bq 154 [(1,AV.val iZ a),(2,AV.addr 2 []),(4,AV.addr 4 []),(13,AV.addr 13 [])] [(2,aC.mk bV Mk.no b true),(4,aC.mk ru Aw c true),(13,aC.mk ru Aw d true)]
theorem agK(D:DX)(n:Nat)(K:KT 160):∀(m:Nat)(x0:List bD)(x1 x2 x3 x4:Int)(x5:ak)(x6 x7:jn)(x8:cV),LF D n 160 LU m (Zh x0 x1 x2 x3 x4 x5 x6 x7 x8) K=J3 D n (fun a b c d=>K (Ex.exit 0) (q80 a b c d)) m x0 x1 x2 x3 x4 x5 x6 x7 x8:=Uq (fun F=>Zi D n F (fun a b c d=>K (Ex.exit 0) (q80 a b c d)))
theorem af4(D:DX)(n:Nat)(x0)(x1)(x2)(x3)(x4)(x5)(x6)(x7)(x8):LF D n 160 LU n (Zh x0 x1 x2 x3 x4 x5 x6 x7 x8) (CF D n 160 [] LU (lF 160))=qyq D n x0 x1 x2 x3 x4 x5 x6 x7 x8 :=by rw[agK];kernel_rfl
theorem aio(D:DX)(n:Nat)(a0:ak)(a1:List bD):rF D n 160 (a0,(a1,()))=ZY D n a0 a1:=by
 have h:rF D n 160 (a0,(a1,()))=q5j D n (fun x0 x1 x2 x3 x4 x5 x6 x7 x8=>LF D n 160 LU n (Zh x0 x1 x2 x3 x4 x5 x6 x7 x8) (CF D n 160 [] LU (lF 160))) a0 a1:=by kernel_rfl
 rw[h];simp only[af4];rfl
def Po(D:DX)(n:Nat)(a0:aU)(a1:Int)(a2:List ak)(a3:eO):Option tq8:=let y0:=List.getD a0.2.1 a1.toNat (0,0,[],(0,[],()),());qd (J2 D a0) fun p0=>qd (IK D a0) fun p4=>br (!p4.1.1) (some (((p0.1.1.1,p0.1.1.2.1,()),(0,0,0,0,()),false,()),())) (qd (kE D a1 0 (wrap .i64 ((a0.2.1.length:Int)-1))) fun p5=>br (!p5.1.1) (some (((p0.1.1.1,p0.1.1.2.1,()),(0,0,0,0,()),false,()),())) (qd (qd4 D a0.1 (bk.mk 177 [bL.cm ah a1])) fun p6=>br p6.1.1 (some (((p0.1.1.1,p0.1.1.2.1,()),(0,0,0,0,()),false,()),())) (br (decide (0<=a1)&&decide (a1<(a0.2.1.length:Int))) (qd (J2 D a0) fun p1=>qd (Vg D a2) fun p3=>qd (II D a3) fun p2=>br (decide (0<=a1)&&decide (a1<(p1.1.1.2.1.length:Int))) (qd (IK D (p1.1.1.1,List.set p1.1.1.2.1 a1.toNat (wrap .i64 (y0.1+1),1,p3.1.1,(p2.1.1.1,p2.1.1.2.1,()),()),())) fun p7=>br (!p7.1.1) (some (((p0.1.1.1,p0.1.1.2.1,()),(0,0,0,0,()),false,()),())) (some (((p1.1.1.1,List.set p1.1.1.2.1 a1.toNat (wrap .i64 (y0.1+1),1,p3.1.1,(p2.1.1.1,p2.1.1.2.1,()),()),()),(a1,wrap .i64 (y0.1+1),0,0,()),true,()),()))) none) none)))
def q73(D:DX)(n:Nat)(a0:aU)(a1:Int)(a2:List ak)(a3:eO):Option tq8:=Po D n a0 a1 a2 a3
theorem ai2(D:DX)(n:Nat)(a0:aU)(a1:Int)(a2:List ak)(a3:eO):rF D n 161 (a0,(a1,(a2,(a3,()))))=q73 D n a0 a1 a2 a3:=by kernel_rfl
def qez(D:DX)(n:Nat)(a1:bk)(go:List bE->Int->Int->Option aH)(K0:Int->Option aH)(K1:Option aH)(x0:List bE)(x1 x2:Int):Option aH:=br (decide (x2<x1)) (br (decide (0<=x2)&&decide (x2<(x0.length:Int))) (qd (iM ctx D a1 [bL.val wv (List.getD x0 x2.toNat (0,0,[],(0,[],()),()))] Ty.bool) fun b=>br b (K0 x2) (go x0 x1 (wrap .i64 (x2+1)))) none) K1
def JP(D:DX)(n:Nat)(a1:bk)(K0:Int->Option aH)(K1:Option aH):Nat->(List bE)->Int->Int->Option aH | 0=>(fun x0 x1 x2=>none) | m+1=>(fun x0 x1 x2=>qez D n a1 (JP D n a1 K0 K1 m) K0 K1 x0 x1 x2)
def qd9(D:DX)(n:Nat)(a1:bk)(a:Int):Option aH:=some ((a,()),())
def qea(D:DX)(n:Nat)(a1:bk):Option aH:=some ((-1,()),())
def qep(D:DX)(n:Nat)(a1:bk):(List bE)->(Int)->(Int)->Option aH:=(fun x0 x1 x2=>JP D n a1 (fun a=>qd9 D n a1 a) (qea D n a1) n x0 x1 x2)
def qff(D:DX)(n:Nat)(a1:bk)(cw:List bE->Int->Int->Option aH)(a0:List bE):Option aH:=cw a0 (a0.length:Int) 0
def qfa(D:DX)(n:Nat)(a0:List bE)(a1:bk):Option aH:=qff D n a1 (qep D n a1) a0
def qey(a1:bk)(x0:List bE)(x1 x2:Int):St:=bq 19 [(0,AV.val CM x0),(1,AV.eA a1),(7,AV.val ah x1),(8,AV.val ah x2)] []
def qhq(a1:bk)(a:Int):St:=bq 19 [(4,AV.val ah a)] []
def qhr(a1:bk):St:=bq 19 [] []
theorem qo3(D:DX)(n:Nat)(a1:bk)(K:KT 162):∀(m:Nat)(x0:List bE)(x1 x2:Int),LF D n 162 fe m (qey a1 x0 x1 x2) K=JP D n a1 (fun a=>K (Ex.ret) (qhq a1 a)) (K (Ex.exit 0) (qhr a1)) m x0 x1 x2:=pH (fun F=>qez D n a1 F (fun a=>K (Ex.ret) (qhq a1 a)) (K (Ex.exit 0) (qhr a1)))
theorem qoh(D:DX)(n:Nat)(a1:bk)(x0)(x1)(x2):LF D n 162 fe n (qey a1 x0 x1 x2) (CF D n 162 [] fe (lF 162))=qep D n a1 x0 x1 x2 :=by rw[qo3];kernel_rfl
theorem qqc(D:DX)(n:Nat)(a0:List bE)(a1:bk):rF D n 162 (a0,(a1,()))=qfa D n a0 a1:=by
 have h:rF D n 162 (a0,(a1,()))=qff D n a1 (fun x0 x1 x2=>LF D n 162 fe n (qey a1 x0 x1 x2) (CF D n 162 [] fe (lF 162))) a0:=by kernel_rfl
 rw[h];simp only[qoh];rfl
def qf7(D:DX)(n:Nat)(a1:bk)(go:List ak->Int->Int->Option aH)(K0:Int->Option aH)(K1:Option aH)(x0:List ak)(x1 x2:Int):Option aH:=br (decide (x2<x1)) (br (decide (0<=x2)&&decide (x2<(x0.length:Int))) (qd (iM ctx D a1 [bL.val bV (List.getD x0 x2.toNat (0,0,0,()))] Ty.bool) fun b=>br b (K0 x2) (go x0 x1 (wrap .i64 (x2+1)))) none) K1
def JT(D:DX)(n:Nat)(a1:bk)(K0:Int->Option aH)(K1:Option aH):Nat->(List ak)->Int->Int->Option aH | 0=>(fun x0 x1 x2=>none) | m+1=>(fun x0 x1 x2=>qf7 D n a1 (JT D n a1 K0 K1 m) K0 K1 x0 x1 x2)
def qfp(D:DX)(n:Nat)(a1:bk)(a:Int):Option aH:=some ((a,()),())
def qfq(D:DX)(n:Nat)(a1:bk):Option aH:=some ((-1,()),())
def qfz(D:DX)(n:Nat)(a1:bk):(List ak)->(Int)->(Int)->Option aH:=(fun x0 x1 x2=>JT D n a1 (fun a=>qfp D n a1 a) (qfq D n a1) n x0 x1 x2)
def qgp(D:DX)(n:Nat)(a1:bk)(cw:List ak->Int->Int->Option aH)(a0:List ak):Option aH:=cw a0 (a0.length:Int) 0
def qgm(D:DX)(n:Nat)(a0:List ak)(a1:bk):Option aH:=qgp D n a1 (qfz D n a1) a0
def qf6(a1:bk)(x0:List ak)(x1 x2:Int):St:=bq 19 [(0,AV.val bU x0),(1,AV.eA a1),(7,AV.val ah x1),(8,AV.val ah x2)] []
def qi9(a1:bk)(a:Int):St:=bq 19 [(4,AV.val ah a)] []
def qja(a1:bk):St:=bq 19 [] []
theorem qsp(D:DX)(n:Nat)(a1:bk)(K:KT 163):∀(m:Nat)(x0:List ak)(x1 x2:Int),LF D n 163 fe m (qf6 a1 x0 x1 x2) K=JT D n a1 (fun a=>K (Ex.ret) (qi9 a1 a)) (K (Ex.exit 0) (qja a1)) m x0 x1 x2:=pH (fun F=>qf7 D n a1 F (fun a=>K (Ex.ret) (qi9 a1 a)) (K (Ex.exit 0) (qja a1)))
theorem qrk(D:DX)(n:Nat)(a1:bk)(x0)(x1)(x2):LF D n 163 fe n (qf6 a1 x0 x1 x2) (CF D n 163 [] fe (lF 163))=qfz D n a1 x0 x1 x2 :=by rw[qsp];kernel_rfl
theorem qt0(D:DX)(n:Nat)(a0:List ak)(a1:bk):rF D n 163 (a0,(a1,()))=qgm D n a0 a1:=by
 have h:rF D n 163 (a0,(a1,()))=qgp D n a1 (fun x0 x1 x2=>LF D n 163 fe n (qf6 a1 x0 x1 x2) (CF D n 163 [] fe (lF 163))) a0:=by kernel_rfl
 rw[h];simp only[qrk];rfl
def qe3(D:DX)(n:Nat)(a1:bk)(go:List bD->Int->Int->Option aH)(K0:Int->Option aH)(K1:Option aH)(x0:List bD)(x1 x2:Int):Option aH:=br (decide (x2<x1)) (br (decide (0<=x2)&&decide (x2<(x0.length:Int))) (qd (iM ctx D a1 [bL.val sS (List.getD x0 x2.toNat (0,0,()))] Ty.bool) fun b=>br b (K0 x2) (go x0 x1 (wrap .i64 (x2+1)))) none) K1
def JR(D:DX)(n:Nat)(a1:bk)(K0:Int->Option aH)(K1:Option aH):Nat->(List bD)->Int->Int->Option aH | 0=>(fun x0 x1 x2=>none) | m+1=>(fun x0 x1 x2=>qe3 D n a1 (JR D n a1 K0 K1 m) K0 K1 x0 x1 x2)
def qed(D:DX)(n:Nat)(a1:bk)(a:Int):Option aH:=some ((a,()),())
def qee(D:DX)(n:Nat)(a1:bk):Option aH:=some ((-1,()),())
def qer(D:DX)(n:Nat)(a1:bk):(List bD)->(Int)->(Int)->Option aH:=(fun x0 x1 x2=>JR D n a1 (fun a=>qed D n a1 a) (qee D n a1) n x0 x1 x2)
def qfh(D:DX)(n:Nat)(a1:bk)(cw:List bD->Int->Int->Option aH)(a0:List bD):Option aH:=cw a0 (a0.length:Int) 0
def qfc(D:DX)(n:Nat)(a0:List bD)(a1:bk):Option aH:=qfh D n a1 (qer D n a1) a0
def qe2(a1:bk)(x0:List bD)(x1 x2:Int):St:=bq 19 [(0,AV.val iZ x0),(1,AV.eA a1),(7,AV.val ah x1),(8,AV.val ah x2)] []
def qhu(a1:bk)(a:Int):St:=bq 19 [(4,AV.val ah a)] []
def qhv(a1:bk):St:=bq 19 [] []
theorem qo5(D:DX)(n:Nat)(a1:bk)(K:KT 164):∀(m:Nat)(x0:List bD)(x1 x2:Int),LF D n 164 fe m (qe2 a1 x0 x1 x2) K=JR D n a1 (fun a=>K (Ex.ret) (qhu a1 a)) (K (Ex.exit 0) (qhv a1)) m x0 x1 x2:=pH (fun F=>qe3 D n a1 F (fun a=>K (Ex.ret) (qhu a1 a)) (K (Ex.exit 0) (qhv a1)))
theorem qoj(D:DX)(n:Nat)(a1:bk)(x0)(x1)(x2):LF D n 164 fe n (qe2 a1 x0 x1 x2) (CF D n 164 [] fe (lF 164))=qer D n a1 x0 x1 x2 :=by rw[qo5];kernel_rfl
theorem qqe(D:DX)(n:Nat)(a0:List bD)(a1:bk):rF D n 164 (a0,(a1,()))=qfc D n a0 a1:=by
 have h:rF D n 164 (a0,(a1,()))=qfh D n a1 (fun x0 x1 x2=>LF D n 164 fe n (qe2 a1 x0 x1 x2) (CF D n 164 [] fe (lF 164))) a0:=by kernel_rfl
 rw[h];simp only[qoj];rfl
def qe1(D:DX)(n:Nat)(a1:bk)(go:List cE->Int->Int->Option aH)(K0:Int->Option aH)(K1:Option aH)(x0:List cE)(x1 x2:Int):Option aH:=br (decide (x2<x1)) (br (decide (0<=x2)&&decide (x2<(x0.length:Int))) (qd (iM ctx D a1 [bL.val iO (List.getD x0 x2.toNat (0,0,0,0,()))] Ty.bool) fun b=>br b (K0 x2) (go x0 x1 (wrap .i64 (x2+1)))) none) K1
def JQ(D:DX)(n:Nat)(a1:bk)(K0:Int->Option aH)(K1:Option aH):Nat->(List cE)->Int->Int->Option aH | 0=>(fun x0 x1 x2=>none) | m+1=>(fun x0 x1 x2=>qe1 D n a1 (JQ D n a1 K0 K1 m) K0 K1 x0 x1 x2)
def qeb(D:DX)(n:Nat)(a1:bk)(a:Int):Option aH:=some ((a,()),())
def qec(D:DX)(n:Nat)(a1:bk):Option aH:=some ((-1,()),())
def qeq(D:DX)(n:Nat)(a1:bk):(List cE)->(Int)->(Int)->Option aH:=(fun x0 x1 x2=>JQ D n a1 (fun a=>qeb D n a1 a) (qec D n a1) n x0 x1 x2)
def qfg(D:DX)(n:Nat)(a1:bk)(cw:List cE->Int->Int->Option aH)(a0:List cE):Option aH:=cw a0 (a0.length:Int) 0
def qfb(D:DX)(n:Nat)(a0:List cE)(a1:bk):Option aH:=qfg D n a1 (qeq D n a1) a0
def qe0(a1:bk)(x0:List cE)(x1 x2:Int):St:=bq 19 [(0,AV.val rz x0),(1,AV.eA a1),(7,AV.val ah x1),(8,AV.val ah x2)] []
def qhs(a1:bk)(a:Int):St:=bq 19 [(4,AV.val ah a)] []
def qht(a1:bk):St:=bq 19 [] []
theorem qo4(D:DX)(n:Nat)(a1:bk)(K:KT 165):∀(m:Nat)(x0:List cE)(x1 x2:Int),LF D n 165 fe m (qe0 a1 x0 x1 x2) K=JQ D n a1 (fun a=>K (Ex.ret) (qhs a1 a)) (K (Ex.exit 0) (qht a1)) m x0 x1 x2:=pH (fun F=>qe1 D n a1 F (fun a=>K (Ex.ret) (qhs a1 a)) (K (Ex.exit 0) (qht a1)))
theorem qoi(D:DX)(n:Nat)(a1:bk)(x0)(x1)(x2):LF D n 165 fe n (qe0 a1 x0 x1 x2) (CF D n 165 [] fe (lF 165))=qeq D n a1 x0 x1 x2 :=by rw[qo4];kernel_rfl
theorem qqd(D:DX)(n:Nat)(a0:List cE)(a1:bk):rF D n 165 (a0,(a1,()))=qfb D n a0 a1:=by
 have h:rF D n 165 (a0,(a1,()))=qfg D n a1 (fun x0 x1 x2=>LF D n 165 fe n (qe0 a1 x0 x1 x2) (CF D n 165 [] fe (lF 165))) a0:=by kernel_rfl
 rw[h];simp only[qoi];rfl
def PM(D:DX)(n:Nat)(a0:Int):Option ag:=qd (lY D a0 0 3) fun b=>some ((b.1.1,()),())
def q8d(D:DX)(n:Nat)(a0:Int):Option ag:=PM D n a0
theorem ajr(D:DX)(n:Nat)(a0:Int):rF D n 166 (a0,())=q8d D n a0:=by kernel_rfl
def O5(D:DX)(n:Nat)(a0:Int):Option aH:=qd (Dq D a0) fun b=>br (!b.1.1) (some ((-1,()),())) (some ((Int.tmod a0 3,()),()))
def Y1(D:DX)(n:Nat)(a0:Int):Option aH:=O5 D n a0
theorem ag8(D:DX)(n:Nat)(a0:Int):rF D n 167 (a0,())=Y1 D n a0:=by kernel_rfl
def QD(D:DX)(n:Nat)(a0:aU)(a1:cE):Option tq7:=let y1:=List.getD a0.2.1 a1.1.toNat (0,0,[],(0,[],()),());let y0:=List.getD y1.2.2.1 a1.2.2.1.toNat (0,0,0,());let y2:=List.getD a0.1 (Int.toNat y0.1) (0,0,0,());br (decide (0<=a1.1)&&decide (a1.1<(a0.2.1.length:Int))) (br (decide (a1.2.2.1>=(y1.2.2.1.length:Int))) (some ((a1,(0,0,0,0,()),3,()),(a0.1,List.set a0.2.1 a1.1.toNat (y1.1,2,y1.2.2),a0.2.2),())) (br (decide (0<=a1.2.2.1)&&decide (a1.2.2.1<(y1.2.2.1.length:Int))) (br (decide (0<=y0.1)&&decide (y0.1<(a0.1.length:Int))) (br (pN bV y2 (0,wrap .i64 (a1.1+1),a1.2.1,())) (some (((a1.1,a1.2.1,wrap .i64 (a1.2.2.1+1),a1.2.2.2),(0,0,0,0,()),0,()),a0,())) (br (y2.2.1 != 0) (some ((a1,(wrap .i64 (y2.2.1-1),y2.2.2.1,0,0,()),1,()),a0,())) (br (decide (y2.1=y0.2.1)) (some (((a1.1,a1.2.1,wrap .i64 (a1.2.2.1+1),a1.2.2.2),(0,0,0,0,()),0,()),(List.set a0.1 (Int.toNat y0.1) (0,wrap .i64 (a1.1+1),a1.2.1,()),a0.2),())) (some ((a1,(0,0,0,0,()),0,()),(a0.1,List.set a0.2.1 a1.1.toNat (y1.1,3,y1.2.2),a0.2.2),()))))) none) none)) none
def GM(D:DX)(n:Nat)(a0:aU)(a1:cE):Option tq7:=QD D n a0 a1
theorem aa0(D:DX)(n:Nat)(a0:aU)(a1:cE):rF D n 168 (a0,(a1,()))=GM D n a0 a1:=by kernel_rfl
def Vm(D:DX)(n:Nat)(go:Int->Int->aD->Option tQ)(K0:Int->aD->Option tQ)(K1:aD->Option tQ)(x0 x1:Int)(x2:aD):Option tQ:=let y0:=List.getD x2.2.2.2.1 x1.toNat (0,(0,0,0,()),0,0,0,(0,[],()),());br (decide (x1>=0)) (br (decide (0<=x1)&&decide (x1<(x2.2.2.2.1.length:Int))) (br (decide (y0.1=x0)) (br (decide (0<=x1)&&decide (x1<(x2.2.2.2.1.length:Int))) (br (decide (y0.2.2.2.2.1<0)) (K0 x1 x2) (go x0 (wrap .i64 (x1-1)) x2)) none) (go x0 (wrap .i64 (x1-1)) x2)) none) (K1 x2)
def JV(D:DX)(n:Nat)(K0:Int->aD->Option tQ)(K1:aD->Option tQ):Nat->Int->Int->aD->Option tQ | 0=>(fun x0 x1 x2=>none) | m+1=>(fun x0 x1 x2=>Vm D n (JV D n K0 K1 m) K0 K1 x0 x1 x2)
def q5e(D:DX)(n:Nat)(a:Int)(b:aD):Option tQ:=some ((a,()),b,())
def q5f(D:DX)(n:Nat)(a:aD):Option tQ:=some ((-1,()),a,())
def qkk(D:DX)(n:Nat):(Int)->(Int)->aD->Option tQ:=(fun x0 x1 x2=>JV D n (fun a b=>q5e D n a b) (fun c=>q5f D n c) n x0 x1 x2)
def qln(D:DX)(n:Nat)(cw:Int->Int->aD->Option tQ)(a0:aD)(a1:Int):Option tQ:=cw a1 (wrap .i64 ((a0.2.2.2.1.length:Int)-1)) a0
def qlm(D:DX)(n:Nat)(a0:aD)(a1:Int):Option tQ:=qln D n (qkk D n) a0 a1
def qlb(x0 x1:Int)(x2:aD):St:=bq 38 [(0,AV.addr 0 []),(1,AV.val ah x0),(5,AV.val ah x1)] [(0,aC.mk cK Av x2 true)]
def qpr(a:Int)(b:aD):St:=bq 38 [(0,AV.addr 0 []),(4,AV.val ah a)] [(0,aC.mk cK Av b true)]
def qps(a:aD):St:=bq 38 [(0,AV.addr 0 [])] [(0,aC.mk cK Av a true)]
theorem q7a(D:DX)(n:Nat)(K:KT 169):∀(m:Nat)(x0 x1:Int)(x2:aD),LF D n 169 fe m (qlb x0 x1 x2) K=JV D n (fun a b=>K (Ex.ret) (qpr a b)) (fun c=>K (Ex.exit 0) (qps c)) m x0 x1 x2:=pH (fun F=>Vm D n F (fun a b=>K (Ex.ret) (qpr a b)) (fun c=>K (Ex.exit 0) (qps c)))
theorem q5d(D:DX)(n:Nat)(x0)(x1)(x2):LF D n 169 fe n (qlb x0 x1 x2) (CF D n 169 [] fe (lF 169))=qkk D n x0 x1 x2 :=by rw[q7a];kernel_rfl
theorem adt(D:DX)(n:Nat)(a0:aD)(a1:Int):rF D n 169 (a0,(a1,()))=qlm D n a0 a1:=by
 have h:rF D n 169 (a0,(a1,()))=qln D n (fun x0 x1 x2=>LF D n 169 fe n (qlb x0 x1 x2) (CF D n 169 [] fe (lF 169))) a0 a1:=by kernel_rfl
 rw[h];simp only[q5d];rfl
def TO(D:DX)(n:Nat)(go:Int->cV->Option mb)(K0:cV->Option mb)(x0:Int)(x1:cV):Option mb:=br (decide (x0<4)) (qd (yD D x0) fun b=>qd (qy D x1 b.1.1) fun b=>go (wrap .i64 (x0+1)) b.2.1) (K0 x1)
def Dp(D:DX)(n:Nat)(K0:cV->Option mb):Nat->Int->cV->Option mb | 0=>(fun x0 x1=>none) | m+1=>(fun x0 x1=>TO D n (Dp D n K0 m) K0 x0 x1)
def Oz(D:DX)(n:Nat)(a:cV):Option mb:=some ((a,()),())
def Zo(D:DX)(n:Nat):(Int)->cV->Option mb:=(fun x0 x1=>Dp D n (fun a=>Oz D n a) n x0 x1)
def q9a(D:DX)(n:Nat)(cw:Int->cV->Option mb)(a0:ak)(a1:List bD):Option mb:=let y0:Option mb:=(br (decide (a0.1=4)) (qd (yD D a0.2.1) fun n4=>qd (qy D (a1,[],-1,false,()) n4.1.1) fun n5=>some ((n5.2.1,()),())) (br (decide (a0.1=5)) (qd (yA D a0.2.2.1) fun xD=>qd (qy D (a1,[],-1,false,()) xD.1.1) fun xE=>some ((xE.2.1,()),())) (br (decide (a0.1=6)) (qd (yz D a0.2.1) fun xF=>qd (qy D (a1,[],-1,false,()) xF.1.1) fun xG=>some ((xG.2.1,()),())) (br (decide (a0.1=7)) (cw 0 (a1,[],-1,false,())) (br (decide (a0.1=8)) (qd (tD D) fun xH=>qd (qy D (a1,[],-1,false,()) xH.1.1) fun AB=>some ((AB.2.1,()),())) (br (decide (a0.1=9)) (qd (tD D) fun p3=>qd (qy D (a1,[],-1,false,()) p3.1.1) fun p0=>qd (tB D p0.2.1 (bif decide (p0.1.1<1) then true else decide (p0.1.1>4))) fun p4=>qd (yD D (wrap .i64 (p0.1.1-1))) fun p5=>qd (qy D p4.2.1 p5.1.1) fun p1=>qd (zM D p1.1.1) fun p6=>qd (tB D p1.2.1 !p6.1.1) fun p7=>qd (vS D p1.1.1) fun p8=>qd (qy D p7.2.1 p8.1.1) fun p9=>some ((p9.2.1,()),())) (br (decide (a0.1=10)) (qd (tD D) fun jQ=>qd (qy D (a1,[],-1,false,()) jQ.1.1) fun p2=>qd (tB D p2.2.1 (p2.1.1 != 5)) fun kY=>qd (vS D a0.2.2.1) fun nq=>qd (qy D kY.2.1 nq.1.1) fun nr=>some ((nr.2.1,()),())) (some (((a1,[],-1,false,()),()),())))))))));let y1:Option mb:=(qd (SZ D (a1,[],-1,false,()) a0) fun j_=>some ((j_.2.1,()),()));br (decide (a0.1=1)) (br (decide (a0.1=1)) y1 y0) (br (decide (a0.1=2)) (br (decide (a0.1=2)) y1 y0) (br (decide (a0.1=3)) y1 y0))
def q8b(D:DX)(n:Nat)(a0:ak)(a1:List bD):Option mb:=q9a D n (Zo D n) a0 a1
def q5o(x0:Int)(x1:cV):St:=bq 100 [(5,AV.addr 12 []),(45,AV.val ah x0)] [(12,aC.mk mQ oX x1 true)]
def Oy(a:cV):St:=bq 100 [(5,AV.addr 12 [])] [(12,aC.mk mQ oX a true)]
theorem aif(D:DX)(n:Nat)(K:KT 170):∀(m:Nat)(x0:Int)(x1:cV),LF D n 170 LS m (q5o x0 x1) K=Dp D n (fun a=>K (Ex.exit 1) (Oy a)) m x0 x1:=DW (fun F=>TO D n F (fun a=>K (Ex.exit 1) (Oy a)))
theorem agN(D:DX)(n:Nat)(x0)(x1):LF D n 170 LS n (q5o x0 x1) (CF D n 170 [] LS (lF 170))=Zo D n x0 x1 :=by rw[aif];kernel_rfl
theorem ajp(D:DX)(n:Nat)(a0:ak)(a1:List bD):rF D n 170 (a0,(a1,()))=q8b D n a0 a1:=by
 have h:rF D n 170 (a0,(a1,()))=q9a D n (fun x0 x1=>LF D n 170 LS n (q5o x0 x1) (CF D n 170 [] LS (lF 170))) a0 a1:=by kernel_rfl
 rw[h];simp only[agN];rfl
def Pe(D:DX)(n:Nat)(a0:ak)(a1:List bD):Option ((eO×gQ)×Unit):=qd (yD D a0.2.1) fun p3=>qd (uS D a1 p3.1.1) fun p1=>qd (yA D a0.2.2.1) fun p4=>qd (uS D a1 p4.1.1) fun p2=>qd (tD D) fun p5=>qd (uS D a1 p5.1.1) fun p0=>br (bif decide (a0.1=1) then p1.1.1 != 0 else false) (some (((1,[],()),true,()),())) (br (bif decide (a0.1=1) then p2.1.1 != 0 else false) (some (((2,[],()),true,()),())) (br (bif bif bif decide (a0.1=2) then true else decide (a0.1=3) then true else decide (a0.1=4) then decide (p1.1.1=0) else false) (some (((3,[],()),true,()),())) (br (bif decide (a0.1=2) then decide (p1.1.1=a0.2.2.1) else false) (some (((0,[],()),true,()),())) (br (bif decide (a0.1=2) then p2.1.1 != 0 else false) (some (((2,[],()),true,()),())) (br (decide (a0.1=4)) (some (((0,[p1.1.1],()),true,()),())) (br (bif decide (a0.1=5) then decide (p2.1.1=0) else false) (some (((3,[],()),true,()),())) (br (decide (a0.1=5)) (some (((0,[wrap .i64 (p2.1.1-1)],()),true,()),())) (br (decide (a0.1=6)) (qd (yz D a0.2.1) fun p6=>qd (uS D a1 p6.1.1) fun p7=>some (((0,[p7.1.1],()),true,()),())) (br (bif decide (a0.1=8) then p0.1.1 != 0 else false) (br (bif decide (a0.1=8) then p0.1.1 != 0 else false) (some (((4,[],()),true,()),())) (some (((0,[],()),false,()),()))) (br (bif decide (a0.1=9) then bif decide (p0.1.1<1) then true else decide (p0.1.1>4) else false) (br (bif decide (a0.1=9) then bif decide (p0.1.1<1) then true else decide (p0.1.1>4) else false) (some (((4,[],()),true,()),())) (some (((0,[],()),false,()),()))) (br (bif decide (a0.1=10) then p0.1.1 != 5 else false) (some (((4,[],()),true,()),())) (some (((0,[],()),false,()),())))))))))))))
def ZA(D:DX)(n:Nat)(a0:ak)(a1:List bD):Option ((eO×gQ)×Unit):=Pe D n a0 a1
theorem aiC(D:DX)(n:Nat)(a0:ak)(a1:List bD):rF D n 171 (a0,(a1,()))=ZA D n a0 a1:=by kernel_rfl
def q84(D:DX)(n:Nat)(go:List bD->Int->Int->Option lC)(K0:Int->Bool->Option lC)(K1:Option lC)(x0:List bD)(x1 x2:Int):Option lC:=br (decide (x2>=0)) (br (decide (0<=x2)&&decide (x2<(x0.length:Int))) (br (decide ((List.getD x0 x2.toNat (0,0,())).1=x1)) (br (decide (0<=x2)&&decide (x2<(x0.length:Int))) (K0 (List.getD x0 x2.toNat (0,0,())).2.1 true) none) (go x0 x1 (wrap .i64 (x2-1)))) none) K1
def TY(D:DX)(n:Nat)(K0:Int->Bool->Option lC)(K1:Option lC):Nat->(List bD)->Int->Int->Option lC | 0=>(fun x0 x1 x2=>none) | m+1=>(fun x0 x1 x2=>q84 D n (TY D n K0 K1 m) K0 K1 x0 x1 x2)
def OM(D:DX)(n:Nat)(a:Int)(b:Bool):Option lC:=some ((a,b,()),())
def ON(D:DX)(n:Nat):Option lC:=some ((0,false,()),())
def q5l(D:DX)(n:Nat):(List bD)->(Int)->(Int)->Option lC:=(fun x0 x1 x2=>TY D n (fun a b=>OM D n a b) (ON D n) n x0 x1 x2)
def GG(D:DX)(n:Nat)(cw:List bD->Int->Int->Option lC)(a0:List bD)(a1:Int):Option lC:=cw a0 a1 (wrap .i64 ((a0.length:Int)-1))
def GB(D:DX)(n:Nat)(a0:List bD)(a1:Int):Option lC:=GG D n (q5l D n) a0 a1
def q83(x0:List bD)(x1 x2:Int):St:=bq 26 [(0,AV.val iZ x0),(1,AV.val ah x1),(6,AV.val ah x2)] []
def OK(a:Int)(b:Bool):St:=bq 26 [(4,AV.val ah a),(5,AV.val Ty.bool b)] []
def OL:St:=bq 26 [] []
theorem ai8(D:DX)(n:Nat)(K:KT 172):∀(m:Nat)(x0:List bD)(x1 x2:Int),LF D n 172 fe m (q83 x0 x1 x2) K=TY D n (fun a b=>K (Ex.ret) (OK a b)) (K (Ex.exit 0) (OL)) m x0 x1 x2:=pH (fun F=>q84 D n F (fun a b=>K (Ex.ret) (OK a b)) (K (Ex.exit 0) (OL)))
theorem aid(D:DX)(n:Nat)(x0)(x1)(x2):LF D n 172 fe n (q83 x0 x1 x2) (CF D n 172 [] fe (lF 172))=q5l D n x0 x1 x2 :=by rw[ai8];kernel_rfl
theorem aad(D:DX)(n:Nat)(a0:List bD)(a1:Int):rF D n 172 (a0,(a1,()))=GB D n a0 a1:=by
 have h:rF D n 172 (a0,(a1,()))=GG D n (fun x0 x1 x2=>LF D n 172 fe n (q83 x0 x1 x2) (CF D n 172 [] fe (lF 172))) a0 a1:=by kernel_rfl
 rw[h];simp only[aid];rfl
def Pu(D:DX)(n:Nat)(a0:Int):Option aH:=qd (TU D a0) fun b=>qd (J4 D b.1.1 a0) fun b=>some ((b.1.1,()),())
def q78(D:DX)(n:Nat)(a0:Int):Option aH:=Pu D n a0
theorem ajm(D:DX)(n:Nat)(a0:Int):rF D n 173 (a0,())=q78 D n a0:=by kernel_rfl
def O1(D:DX)(n:Nat)(a0:ak)(a1:List bD)(a2 a3:Int):Option mO:=qd (yD D a0.2.1) fun jQ=>qd (vO D jQ.1.1 a0.2.2.1 0 a1 []) fun nr=>qd (tD D) fun n4=>qd (vO D n4.1.1 a3 0 a1 nr.2.1) fun n5=>qd (yA D a2) fun xD=>qd (vO D xD.1.1 0 0 a1 n5.2.1) fun xE=>qd (vS D a2) fun xF=>qd (vO D xF.1.1 0 0 a1 xE.2.1) fun xG=>qd (yA D a0.2.2.1) fun xH=>qd (vO D xH.1.1 (wrap .i64 (a0.2.1+1)) 0 a1 xG.2.1) fun p1=>qd (vS D a0.2.2.1) fun p2=>qd (vO D p2.1.1 (wrap .i64 (a0.2.1+1)) 0 a1 p1.2.1) fun p0=>qd (tC D a2) fun p3=>qd (tC D a0.2.2.1) fun p4=>br (p3.1.1 != p4.1.1) (qd (tC D a2) fun p5=>qd (yz D p5.1.1) fun p6=>qd (vO D p6.1.1 0 (-1) a1 p0.2.1) fun p7=>qd (tC D a0.2.2.1) fun p8=>qd (yz D p8.1.1) fun p9=>qd (vO D p9.1.1 0 1 a1 p7.2.1) fun j_=>qd (Vf D j_.2.1 (bk.mk 183 [])) fun kY=>some ((kY.2.1,()),())) (qd (Vf D p0.2.1 (bk.mk 183 [])) fun nq=>some ((nq.2.1,()),()))
def YU(D:DX)(n:Nat)(a0:ak)(a1:List bD)(a2 a3:Int):Option mO:=O1 D n a0 a1 a2 a3
theorem ahp(D:DX)(n:Nat)(a0:ak)(a1:List bD)(a2 a3:Int):rF D n 174 (a0,(a1,(a2,(a3,()))))=YU D n a0 a1 a2 a3:=by kernel_rfl
def qxd(D:DX)(n:Nat)(a0:List Int):Option cQ:=qd (VO D (wrap .u64 (a0.length:Int))) fun b=>qd (qz D a0 0 (a0.length:Int) b.1.1) fun b=>some ((),b.2.1,())
def qnj(D:DX)(n:Nat)(a0:List Int):Option cQ:=qxd D n a0
theorem adE(D:DX)(n:Nat)(a0:List Int):rF D n 175 (a0,())=qnj D n a0:=by kernel_rfl
def Pf(D:DX)(n:Nat)(a0:ak)(a1 a2 a3 a4:Int):Option aH:=br (decide (a0.1=8)) (some ((wrap .i64 (a2+1),()),())) (br (decide (a0.1=9)) (qd (tD D) fun p0=>br (decide (a1=p0.1.1)) (some ((wrap .i64 (a2+1),()),())) (qd (vS D a3) fun p1=>br (decide (a1=p1.1.1)) (some ((a4,()),())) (some ((a2,()),())))) (some ((a2,()),())))
def ZB(D:DX)(n:Nat)(a0:ak)(a1 a2 a3 a4:Int):Option aH:=Pf D n a0 a1 a2 a3 a4
theorem aiD(D:DX)(n:Nat)(a0:ak)(a1 a2 a3 a4:Int):rF D n 176 (a0,(a1,(a2,(a3,(a4,())))))=ZB D n a0 a1 a2 a3 a4:=by kernel_rfl
def OY(D:DX)(n:Nat)(a0:ak)(a1:Int):Option ag:=some ((decide (a0.2.1=wrap .i64 (a1+1)),()),())
def YJ(D:DX)(n:Nat)(a0:ak)(a1:Int):Option ag:=OY D n a0 a1
theorem ahc(D:DX)(n:Nat)(a0:ak)(a1:Int):rF D n 177 (a0,(a1,()))=YJ D n a0 a1:=by kernel_rfl
def Vx(D:DX)(n:Nat)(a0:cV)(a1:ak):Option jA:=qd (yD D a1.2.1) fun kY=>qd (qy D a0 kY.1.1) fun p0=>br (decide (a1.1=1)) (qd (tB D p0.2.1 (p0.1.1 != 0)) fun LJ=>qd (yA D a1.2.2.1) fun LM=>qd (qy D LJ.2.1 LM.1.1) fun p3=>qd (tB D p3.2.1 (p3.1.1 != 0)) fun LN=>qd (tC D a1.2.2.1) fun LO=>qd (yz D LO.1.1) fun LP=>qd (qy D LN.2.1 LP.1.1) fun LR=>qd (IC D LR.2.1 a1.2.1 [a1.2.2.1]) fun p4=>some ((),p4.2.1,())) (br (decide (a1.1=2)) (qd (tB D p0.2.1 (bif decide (p0.1.1=0) then true else decide (p0.1.1=a1.2.2.1))) fun p5=>qd (yA D a1.2.2.1) fun p6=>qd (qy D p5.2.1 p6.1.1) fun p1=>qd (tB D p1.2.1 (p1.1.1 != 0)) fun p7=>qd (yA D p0.1.1) fun p8=>qd (qy D p7.2.1 p8.1.1) fun p2=>qd (tC D p0.1.1) fun p9=>qd (tC D a1.2.2.1) fun jQ=>br (p9.1.1 != jQ.1.1) (qd (tC D p0.1.1) fun j_=>qd (yz D j_.1.1) fun nq=>qd (qy D p2.2.1 nq.1.1) fun nr=>qd (tC D a1.2.2.1) fun n4=>qd (yz D n4.1.1) fun n5=>qd (qy D nr.2.1 n5.1.1) fun xD=>qd (IC D xD.2.1 a1.2.1 [p0.1.1,a1.2.2.1]) fun xE=>some ((),xE.2.1,())) (qd (IC D p2.2.1 a1.2.1 [p0.1.1,a1.2.2.1]) fun xF=>some ((),xF.2.1,()))) (qd (tB D p0.2.1 (decide (p0.1.1=0))) fun xG=>qd (yA D p0.1.1) fun xH=>qd (qy D xG.2.1 xH.1.1) fun AB=>qd (tC D p0.1.1) fun EK=>qd (yz D EK.1.1) fun EL=>qd (qy D AB.2.1 EL.1.1) fun LH=>qd (IC D LH.2.1 a1.2.1 [p0.1.1]) fun LI=>some ((),LI.2.1,())))
def S0(D:DX)(n:Nat)(a0:cV)(a1:ak):Option jA:=Vx D n a0 a1
theorem aea(D:DX)(n:Nat)(a0:cV)(a1:ak):rF D n 178 (a0,(a1,()))=S0 D n a0 a1:=by kernel_rfl
def VH(D:DX)(n:Nat)(a0:cV)(a1:Int):Option ((Int×Unit)×zd):=br a0.2.2.2.1 (some ((0,()),a0,())) (qd (uS D a0.1 a1) fun b=>br (bif decide (a1<0) then true else !b.1.2.1) (some ((0,()),(a0.1,a0.2.1,a1,true,a0.2.2.2.2),())) (br (decide (a0.2.1.length+1<=ga)) (some ((b.1.1,()),(a0.1,a0.2.1++[a1],a0.2.2),())) none))
def Td(D:DX)(n:Nat)(a0:cV)(a1:Int):Option ((Int×Unit)×zd):=VH D n a0 a1
theorem afM(D:DX)(n:Nat)(a0:cV)(a1:Int):rF D n 179 (a0,(a1,()))=Td D n a0 a1:=by kernel_rfl
def aeP(D:DX)(n:Nat)(a0:cV)(a1:Bool):Option jA:=some ((),(a0.1,a0.2.1,a0.2.2.1,bif a0.2.2.2.1 then true else a1,a0.2.2.2.2),())
def q58(D:DX)(n:Nat)(a0:cV)(a1:Bool):Option jA:=aeP D n a0 a1
theorem ae3(D:DX)(n:Nat)(a0:cV)(a1:Bool):rF D n 180 (a0,(a1,()))=q58 D n a0 a1:=by kernel_rfl
def VJ(D:DX)(n:Nat)(a0 a1 a2:Int)(a3:List bD)(a4:List ak):Option cD:=qd (uS D a3 a0) fun p0=>br (bif decide (a0<0) then true else !p0.1.2.1) (some ((),a4,())) (br (decide (a2=1)) (br (decide (a4.length+1<=ga)) (some ((),a4++[(a0,p0.1.1,wrap .i64 (p0.1.1+1),())],())) none) (br (decide (a2 = -1)) (br (decide (a4.length+1<=ga)) (some ((),a4++[(a0,p0.1.1,if wrap .i64 (p0.1.1-1)>0 then wrap .i64 (p0.1.1-1) else 0,())],())) none) (br (decide (a4.length+1<=ga)) (some ((),a4++[(a0,p0.1.1,a1,())],())) none)))
def Te(D:DX)(n:Nat)(a0 a1 a2:Int)(a3:List bD)(a4:List ak):Option cD:=VJ D n a0 a1 a2 a3 a4
theorem afO(D:DX)(n:Nat)(a0 a1 a2:Int)(a3:List bD)(a4:List ak):rF D n 181 (a0,(a1,(a2,(a3,(a4,())))))=Te D n a0 a1 a2 a3 a4:=by kernel_rfl
def qii(D:DX)(n:Nat)(a1:bk)(a0:List ak):Option cD:=qd (VO D (wrap .u64 (a0.length:Int))) fun b=>qd (qo D a0 0 (a0.length:Int) b.1.1 a1) fun b=>some ((),b.2.1,())
def qex(D:DX)(n:Nat)(a0:List ak)(a1:bk):Option cD:=qii D n a1 a0
theorem qpk(D:DX)(n:Nat)(a0:List ak)(a1:bk):rF D n 182 (a0,(a1,()))=qex D n a0 a1:=by kernel_rfl
def q9b(D:DX)(n:Nat)(a0 a1:ak):Option aH:=some ((wrap .i64 (a0.1-a1.1),()),())
def qvz(D:DX)(n:Nat)(a0 a1:ak):Option aH:=q9b D n a0 a1
theorem afP(D:DX)(n:Nat)(a0 a1:ak):rF D n 183 (a0,(a1,()))=qvz D n a0 a1:=by kernel_rfl
def qi7(D:DX)(n:Nat)(go:Int->Int->Int->Bool->Bool->List Int->Option cQ)(K0:List Int->Option cQ)(x0 x1 x2:Int)(x3 x4:Bool)(x5:List Int):Option cQ:=let y0:=wrap .i64 (x2-1);let y1:=wrap .i64 (x1-x0);let y2:=Int.toNat (wrap .i64 (x0-1));br (decide (y1<=12)) (qd (qkn D x5 x0 x1) fun LO=>K0 LO.2.1) (br (decide (x2=0)) (qd (q0o D x5 x0 x1) fun X3=>K0 X3.2.1) (br (!x3) (qd (qva D x5 x0 x1) fun jQ=>qd (qll D jQ.2.1 x0 x1) fun p1=>let y3:Option cQ:=(qd (Dj D jQ.2.1 x0 x1 p1.1.1) fun p4=>br (decide (wrap .i64 (p4.1.1-x0)<wrap .i64 (x1-p4.1.1))) (qd (qz D p4.2.1 x0 p4.1.1 y0) fun X5=>go (wrap .i64 (p4.1.1+1)) x1 y0 (decide (wrap .i64 (p4.1.1-x0)>=wrap .i64 (Int.tdiv y1 8))) p4.1.2.1 X5.2.1) (qd (qz D p4.2.1 (wrap .i64 (p4.1.1+1)) x1 y0) fun X6=>go x0 p4.1.1 y0 (decide (wrap .i64 (x1-p4.1.1)>=wrap .i64 (Int.tdiv y1 8))) p4.1.2.1 X6.2.1));let y4:=wrap .i64 (x1-1)-wrap .i64 (p1.1.1-x0);br (decide (p1.1.2.1=2)) (qd (qk7 D jQ.2.1 x0 x1) fun n5=>let y5:Option cQ:=(qd (Dj D n5.2.1 x0 x1 (wrap .i64 y4)) fun p2=>br (decide (wrap .i64 (p2.1.1-x0)<wrap .i64 (x1-p2.1.1))) (qd (qz D p2.2.1 x0 p2.1.1 y0) fun LM=>go (wrap .i64 (p2.1.1+1)) x1 y0 (decide (wrap .i64 (p2.1.1-x0)>=wrap .i64 (Int.tdiv y1 8))) p2.1.2.1 LM.2.1) (qd (qz D p2.2.1 (wrap .i64 (p2.1.1+1)) x1 y0) fun LN=>go x0 p2.1.1 y0 (decide (wrap .i64 (x1-p2.1.1)>=wrap .i64 (Int.tdiv y1 8))) p2.1.2.1 LN.2.1));br (bif bif x3 then x4 else false then true else false) (qd (Vc D n5.2.1 x0 x1) fun nr=>let y6:Option cQ:=(qd (Dj D nr.2.1 x0 x1 (wrap .i64 y4)) fun p9=>br (decide (wrap .i64 (p9.1.1-x0)<wrap .i64 (x1-p9.1.1))) (qd (qz D p9.2.1 x0 p9.1.1 y0) fun LH=>go (wrap .i64 (p9.1.1+1)) x1 y0 (decide (wrap .i64 (p9.1.1-x0)>=wrap .i64 (Int.tdiv y1 8))) p9.1.2.1 LH.2.1) (qd (qz D p9.2.1 (wrap .i64 (p9.1.1+1)) x1 y0) fun LI=>go x0 p9.1.1 y0 (decide (wrap .i64 (x1-p9.1.1)>=wrap .i64 (Int.tdiv y1 8))) p9.1.2.1 LI.2.1));br nr.1.1 (K0 nr.2.1) (br (decide (x0>0)) (br (decide (0<=wrap .i64 (x0-1))&&decide (wrap .i64 (x0-1)<(nr.2.1.length:Int))) (br (decide (0<=wrap .i64 y4)&&decide (wrap .i64 y4<(nr.2.1.length:Int))) (qd (yx D (List.getD nr.2.1 y2 0) (List.getD nr.2.1 (Int.toNat (wrap .i64 y4)) 0)) fun Yi=>br (!Yi.1.1) (qd (Di D nr.2.1 x0 x1 (wrap .i64 y4)) fun EL=>go EL.1.1 x1 y0 x3 x4 EL.2.1) y6) none) none) y6)) (br (decide (x0>0)) (br (decide (0<=wrap .i64 (x0-1))&&decide (wrap .i64 (x0-1)<(n5.2.1.length:Int))) (br (decide (0<=wrap .i64 y4)&&decide (wrap .i64 y4<(n5.2.1.length:Int))) (qd (yx D (List.getD n5.2.1 y2 0) (List.getD n5.2.1 (Int.toNat (wrap .i64 y4)) 0)) fun LJ=>br (!LJ.1.1) (qd (Di D n5.2.1 x0 x1 (wrap .i64 y4)) fun xD=>go xD.1.1 x1 y0 x3 x4 xD.2.1) y5) none) none) y5)) (br (bif bif x3 then x4 else false then decide (p1.1.2.1=1) else false) (qd (Vc D jQ.2.1 x0 x1) fun j_=>let y7:Option cQ:=(qd (Dj D j_.2.1 x0 x1 p1.1.1) fun p3=>br (decide (wrap .i64 (p3.1.1-x0)<wrap .i64 (x1-p3.1.1))) (qd (qz D p3.2.1 x0 p3.1.1 y0) fun LR=>go (wrap .i64 (p3.1.1+1)) x1 y0 (decide (wrap .i64 (p3.1.1-x0)>=wrap .i64 (Int.tdiv y1 8))) p3.1.2.1 LR.2.1) (qd (qz D p3.2.1 (wrap .i64 (p3.1.1+1)) x1 y0) fun X2=>go x0 p3.1.1 y0 (decide (wrap .i64 (x1-p3.1.1)>=wrap .i64 (Int.tdiv y1 8))) p3.1.2.1 X2.2.1));br j_.1.1 (K0 j_.2.1) (br (decide (x0>0)) (br (decide (0<=wrap .i64 (x0-1))&&decide (wrap .i64 (x0-1)<(j_.2.1.length:Int))) (br (decide (0<=p1.1.1)&&decide (p1.1.1<(j_.2.1.length:Int))) (qd (yx D (List.getD j_.2.1 y2 0) (List.getD j_.2.1 p1.1.1.toNat 0)) fun LP=>br (!LP.1.1) (qd (Di D j_.2.1 x0 x1 p1.1.1) fun xE=>go xE.1.1 x1 y0 x3 x4 xE.2.1) y7) none) none) y7)) (br (decide (x0>0)) (br (decide (0<=wrap .i64 (x0-1))&&decide (wrap .i64 (x0-1)<(jQ.2.1.length:Int))) (br (decide (0<=p1.1.1)&&decide (p1.1.1<(jQ.2.1.length:Int))) (qd (yx D (List.getD jQ.2.1 y2 0) (List.getD jQ.2.1 p1.1.1.toNat 0)) fun X4=>br (!X4.1.1) (qd (Di D jQ.2.1 x0 x1 p1.1.1) fun xF=>go xF.1.1 x1 y0 x3 x4 xF.2.1) y3) none) none) y3))) (qd (qll D x5 x0 x1) fun p0=>let y8:Option cQ:=(qd (Dj D x5 x0 x1 p0.1.1) fun p8=>br (decide (wrap .i64 (p8.1.1-x0)<wrap .i64 (x1-p8.1.1))) (qd (qz D p8.2.1 x0 p8.1.1 x2) fun Yg=>go (wrap .i64 (p8.1.1+1)) x1 x2 (decide (wrap .i64 (p8.1.1-x0)>=wrap .i64 (Int.tdiv y1 8))) p8.1.2.1 Yg.2.1) (qd (qz D p8.2.1 (wrap .i64 (p8.1.1+1)) x1 x2) fun Yh=>go x0 p8.1.1 x2 (decide (wrap .i64 (x1-p8.1.1)>=wrap .i64 (Int.tdiv y1 8))) p8.1.2.1 Yh.2.1));let y9:=wrap .i64 (x1-1)-wrap .i64 (p0.1.1-x0);br (decide (p0.1.2.1=2)) (qd (qk7 D x5 x0 x1) fun n4=>let Ui:Option cQ:=(qd (Dj D n4.2.1 x0 x1 (wrap .i64 y9)) fun p6=>br (decide (wrap .i64 (p6.1.1-x0)<wrap .i64 (x1-p6.1.1))) (qd (qz D p6.2.1 x0 p6.1.1 x2) fun Ya=>go (wrap .i64 (p6.1.1+1)) x1 x2 (decide (wrap .i64 (p6.1.1-x0)>=wrap .i64 (Int.tdiv y1 8))) p6.1.2.1 Ya.2.1) (qd (qz D p6.2.1 (wrap .i64 (p6.1.1+1)) x1 x2) fun Yb=>go x0 p6.1.1 x2 (decide (wrap .i64 (x1-p6.1.1)>=wrap .i64 (Int.tdiv y1 8))) p6.1.2.1 Yb.2.1));br (bif bif x3 then x4 else false then true else false) (qd (Vc D n4.2.1 x0 x1) fun kY=>let Uj:Option cQ:=(qd (Dj D kY.2.1 x0 x1 (wrap .i64 y9)) fun p5=>br (decide (wrap .i64 (p5.1.1-x0)<wrap .i64 (x1-p5.1.1))) (qd (qz D p5.2.1 x0 p5.1.1 x2) fun X8=>go (wrap .i64 (p5.1.1+1)) x1 x2 (decide (wrap .i64 (p5.1.1-x0)>=wrap .i64 (Int.tdiv y1 8))) p5.1.2.1 X8.2.1) (qd (qz D p5.2.1 (wrap .i64 (p5.1.1+1)) x1 x2) fun X9=>go x0 p5.1.1 x2 (decide (wrap .i64 (x1-p5.1.1)>=wrap .i64 (Int.tdiv y1 8))) p5.1.2.1 X9.2.1));br kY.1.1 (K0 kY.2.1) (br (decide (x0>0)) (br (decide (0<=wrap .i64 (x0-1))&&decide (wrap .i64 (x0-1)<(kY.2.1.length:Int))) (br (decide (0<=wrap .i64 y9)&&decide (wrap .i64 y9<(kY.2.1.length:Int))) (qd (yx D (List.getD kY.2.1 y2 0) (List.getD kY.2.1 (Int.toNat (wrap .i64 y9)) 0)) fun X7=>br (!X7.1.1) (qd (Di D kY.2.1 x0 x1 (wrap .i64 y9)) fun xG=>go xG.1.1 x1 x2 x3 x4 xG.2.1) Uj) none) none) Uj)) (br (decide (x0>0)) (br (decide (0<=wrap .i64 (x0-1))&&decide (wrap .i64 (x0-1)<(n4.2.1.length:Int))) (br (decide (0<=wrap .i64 y9)&&decide (wrap .i64 y9<(n4.2.1.length:Int))) (qd (yx D (List.getD n4.2.1 y2 0) (List.getD n4.2.1 (Int.toNat (wrap .i64 y9)) 0)) fun X_=>br (!X_.1.1) (qd (Di D n4.2.1 x0 x1 (wrap .i64 y9)) fun xH=>go xH.1.1 x1 x2 x3 x4 xH.2.1) Ui) none) none) Ui)) (br (bif bif x3 then x4 else false then decide (p0.1.2.1=1) else false) (qd (Vc D x5 x0 x1) fun nq=>let Uk:Option cQ:=(qd (Dj D nq.2.1 x0 x1 p0.1.1) fun p7=>br (decide (wrap .i64 (p7.1.1-x0)<wrap .i64 (x1-p7.1.1))) (qd (qz D p7.2.1 x0 p7.1.1 x2) fun Yd=>go (wrap .i64 (p7.1.1+1)) x1 x2 (decide (wrap .i64 (p7.1.1-x0)>=wrap .i64 (Int.tdiv y1 8))) p7.1.2.1 Yd.2.1) (qd (qz D p7.2.1 (wrap .i64 (p7.1.1+1)) x1 x2) fun Ye=>go x0 p7.1.1 x2 (decide (wrap .i64 (x1-p7.1.1)>=wrap .i64 (Int.tdiv y1 8))) p7.1.2.1 Ye.2.1));br nq.1.1 (K0 nq.2.1) (br (decide (x0>0)) (br (decide (0<=wrap .i64 (x0-1))&&decide (wrap .i64 (x0-1)<(nq.2.1.length:Int))) (br (decide (0<=p0.1.1)&&decide (p0.1.1<(nq.2.1.length:Int))) (qd (yx D (List.getD nq.2.1 y2 0) (List.getD nq.2.1 p0.1.1.toNat 0)) fun Yc=>br (!Yc.1.1) (qd (Di D nq.2.1 x0 x1 p0.1.1) fun AB=>go AB.1.1 x1 x2 x3 x4 AB.2.1) Uk) none) none) Uk)) (br (decide (x0>0)) (br (decide (0<=wrap .i64 (x0-1))&&decide (wrap .i64 (x0-1)<(x5.length:Int))) (br (decide (0<=p0.1.1)&&decide (p0.1.1<(x5.length:Int))) (qd (yx D (List.getD x5 y2 0) (List.getD x5 p0.1.1.toNat 0)) fun Yf=>br (!Yf.1.1) (qd (Di D x5 x0 x1 p0.1.1) fun EK=>go EK.1.1 x1 x2 x3 x4 EK.2.1) y8) none) none) y8)))))
def Vl(D:DX)(n:Nat)(K0:List Int->Option cQ):Nat->Int->Int->Int->Bool->Bool->(List Int)->Option cQ | 0=>(fun x0 x1 x2 x3 x4 x5=>none) | m+1=>(fun x0 x1 x2 x3 x4 x5=>qi7 D n (Vl D n K0 m) K0 x0 x1 x2 x3 x4 x5)
def qzf(D:DX)(n:Nat)(a:List Int):Option cQ:=some ((),a,())
def qij(D:DX)(n:Nat):(Int)->(Int)->(Int)->(Bool)->(Bool)->(List Int)->Option cQ:=(fun x0 x1 x2 x3 x4 x5=>Vl D n (fun a=>qzf D n a) n x0 x1 x2 x3 x4 x5)
def qjy(D:DX)(n:Nat)(cw:Int->Int->Int->Bool->Bool->List Int->Option cQ)(a0:List Int)(a1 a2 a3:Int):Option cQ:=cw a1 a2 a3 true true a0
def qjo(D:DX)(n:Nat)(a0:List Int)(a1 a2 a3:Int):Option cQ:=qjy D n (qij D n) a0 a1 a2 a3
def qi6(x0 x1 x2:Int)(x3 x4:Bool)(x5:List Int):St:=bq 134 [(0,AV.b9 0 [] 1048576),(1,AV.val ah x0),(2,AV.val ah x1),(3,AV.val ah x2),(8,AV.val Ty.bool x3),(9,AV.val Ty.bool x4)] [(0,aC.mk bG mI x5 false)]
def qmn(a:List Int):St:=bq 134 [(0,AV.b9 0 [] 1048576)] [(0,aC.mk bG mI a false)]
theorem qz5(D:DX)(n:Nat)(K:KT 184):∀(m:Nat)(x0 x1 x2:Int)(x3 x4:Bool)(x5:List Int),LF D n 184 n6 m (qi6 x0 x1 x2 x3 x4 x5) K=Vl D n (fun a=>K (Ex.ret) (qmn a)) m x0 x1 x2 x3 x4 x5:=DY (fun F=>qi7 D n F (fun a=>K (Ex.ret) (qmn a)))
theorem qze(D:DX)(n:Nat)(x0)(x1)(x2)(x3)(x4)(x5):LF D n 184 n6 n (qi6 x0 x1 x2 x3 x4 x5) (CF D n 184 [] n6 (lF 184))=qij D n x0 x1 x2 x3 x4 x5 :=by rw[qz5];kernel_rfl
theorem q3q(D:DX)(n:Nat)(a0:List Int)(a1 a2 a3:Int):rF D n 184 (a0,(a1,(a2,(a3,()))))=qjo D n a0 a1 a2 a3:=by
 have h:rF D n 184 (a0,(a1,(a2,(a3,()))))=qjy D n (fun x0 x1 x2 x3 x4 x5=>LF D n 184 n6 n (qi6 x0 x1 x2 x3 x4 x5) (CF D n 184 [] n6 (lF 184))) a0 a1 a2 a3:=by kernel_rfl
 rw[h];simp only[qze];rfl
def OB(D:DX)(n:Nat)(a0:Int):Option aH:=qd (q57 D a0) fun b=>some ((b.1.1,()),())
def qxz(D:DX)(n:Nat)(a0:Int):Option aH:=OB D n a0
theorem agy(D:DX)(n:Nat)(a0:Int):rF D n 185 (a0,())=qxz D n a0:=by kernel_rfl
def VB(D:DX)(n:Nat)(go:List Int->Int->Int->cV->Option jA)(K0:cV->Option jA)(x0:List Int)(x1 x2:Int)(x3:cV):Option jA:=br (decide (x2<x1)) (br (decide (0<=x2)&&decide (x2<(x0.length:Int))) (qd (vS D (List.getD x0 x2.toNat 0)) fun b=>qd (qy D x3 b.1.1) fun b=>go x0 x1 (wrap .i64 (x2+1)) b.2.1) none) (K0 x3)
def ID(D:DX)(n:Nat)(K0:cV->Option jA):Nat->(List Int)->Int->Int->cV->Option jA | 0=>(fun x0 x1 x2 x3=>none) | m+1=>(fun x0 x1 x2 x3=>VB D n (ID D n K0 m) K0 x0 x1 x2 x3)
def S4(D:DX)(n:Nat)(a:cV):Option jA:=some ((),a,())
def VA(D:DX)(n:Nat):(List Int)->(Int)->(Int)->cV->Option jA:=(fun x0 x1 x2 x3=>ID D n (fun a=>S4 D n a) n x0 x1 x2 x3)
def VI(D:DX)(n:Nat)(cw:List Int->Int->Int->cV->Option jA)(a0:cV)(a1:Int)(a2:List Int):Option jA:=qd (tD D) fun b=>qd (qy D a0 b.1.1) fun b=>qd (tB D b.2.1 (decide (b.1.1<=wrap .i64 (a1+1)))) fun b=>cw a2 (a2.length:Int) 0 b.2.1
def VG(D:DX)(n:Nat)(a0:cV)(a1:Int)(a2:List Int):Option jA:=VI D n (VA D n) a0 a1 a2
def quq(x0:List Int)(x1 x2:Int)(x3:cV):St:=bq 29 [(0,AV.addr 0 []),(18,AV.val bG x0),(19,AV.val ah x1),(20,AV.val ah x2)] [(0,aC.mk mQ oX x3 true)]
def q0d(a:cV):St:=bq 29 [(0,AV.addr 0 [])] [(0,aC.mk mQ oX a true)]
theorem aej(D:DX)(n:Nat)(K:KT 186):∀(m:Nat)(x0:List Int)(x1 x2:Int)(x3:cV),LF D n 186 [.r,.r,.r,.l] m (quq x0 x1 x2 x3) K=ID D n (fun a=>K (Ex.exit 0) (q0d a)) m x0 x1 x2 x3:=zn (fun F=>VB D n F (fun a=>K (Ex.exit 0) (q0d a)))
theorem ad6(D:DX)(n:Nat)(x0)(x1)(x2)(x3):LF D n 186 [.r,.r,.r,.l] n (quq x0 x1 x2 x3) (CF D n 186 [] [.r,.r,.r,.l] (lF 186))=VA D n x0 x1 x2 x3 :=by rw[aej];kernel_rfl
theorem afN(D:DX)(n:Nat)(a0:cV)(a1:Int)(a2:List Int):rF D n 186 (a0,(a1,(a2,())))=VG D n a0 a1 a2:=by
 have h:rF D n 186 (a0,(a1,(a2,())))=VI D n (fun x0 x1 x2 x3=>LF D n 186 [.r,.r,.r,.l] n (quq x0 x1 x2 x3) (CF D n 186 [] [.r,.r,.r,.l] (lF 186))) a0 a1 a2:=by kernel_rfl
 rw[h];simp only[ad6];rfl
def qgb(D:DX)(n:Nat)(a4:bk)(go:Int->Int->Int->Bool->Bool->List ak->Option cD)(K0:List ak->Option cD)(x0 x1 x2:Int)(x3 x4:Bool)(x5:List ak):Option cD:=let y0:=wrap .i64 (x2-1);let y1:=wrap .i64 (x1-x0);let y2:=Int.toNat (wrap .i64 (x0-1));br (decide (y1<=12)) (qd (qhy D x5 x0 x1 a4) fun LO=>K0 LO.2.1) (br (decide (x2=0)) (qd (qtb D x5 x0 x1 a4) fun X3=>K0 X3.2.1) (br (!x3) (qd (qoo D x5 x0 x1 a4) fun jQ=>qd (qir D jQ.2.1 x0 x1 a4) fun p1=>let y3:Option cD:=(qd (Dh D jQ.2.1 x0 x1 p1.1.1 a4) fun p4=>br (decide (wrap .i64 (p4.1.1-x0)<wrap .i64 (x1-p4.1.1))) (qd (qo D p4.2.1 x0 p4.1.1 y0 a4) fun X5=>go (wrap .i64 (p4.1.1+1)) x1 y0 (decide (wrap .i64 (p4.1.1-x0)>=wrap .i64 (Int.tdiv y1 8))) p4.1.2.1 X5.2.1) (qd (qo D p4.2.1 (wrap .i64 (p4.1.1+1)) x1 y0 a4) fun X6=>go x0 p4.1.1 y0 (decide (wrap .i64 (x1-p4.1.1)>=wrap .i64 (Int.tdiv y1 8))) p4.1.2.1 X6.2.1));let y4:=wrap .i64 (x1-1)-wrap .i64 (p1.1.1-x0);br (decide (p1.1.2.1=2)) (qd (qig D jQ.2.1 x0 x1 a4) fun n5=>let y5:Option cD:=(qd (Dh D n5.2.1 x0 x1 (wrap .i64 y4) a4) fun p2=>br (decide (wrap .i64 (p2.1.1-x0)<wrap .i64 (x1-p2.1.1))) (qd (qo D p2.2.1 x0 p2.1.1 y0 a4) fun LM=>go (wrap .i64 (p2.1.1+1)) x1 y0 (decide (wrap .i64 (p2.1.1-x0)>=wrap .i64 (Int.tdiv y1 8))) p2.1.2.1 LM.2.1) (qd (qo D p2.2.1 (wrap .i64 (p2.1.1+1)) x1 y0 a4) fun LN=>go x0 p2.1.1 y0 (decide (wrap .i64 (x1-p2.1.1)>=wrap .i64 (Int.tdiv y1 8))) p2.1.2.1 LN.2.1));br (bif bif x3 then x4 else false then true else false) (qd (Vd D n5.2.1 x0 x1 a4) fun nr=>let y6:Option cD:=(qd (Dh D nr.2.1 x0 x1 (wrap .i64 y4) a4) fun p9=>br (decide (wrap .i64 (p9.1.1-x0)<wrap .i64 (x1-p9.1.1))) (qd (qo D p9.2.1 x0 p9.1.1 y0 a4) fun LH=>go (wrap .i64 (p9.1.1+1)) x1 y0 (decide (wrap .i64 (p9.1.1-x0)>=wrap .i64 (Int.tdiv y1 8))) p9.1.2.1 LH.2.1) (qd (qo D p9.2.1 (wrap .i64 (p9.1.1+1)) x1 y0 a4) fun LI=>go x0 p9.1.1 y0 (decide (wrap .i64 (x1-p9.1.1)>=wrap .i64 (Int.tdiv y1 8))) p9.1.2.1 LI.2.1));br nr.1.1 (K0 nr.2.1) (br (decide (x0>0)) (br (decide (0<=wrap .i64 (x0-1))&&decide (wrap .i64 (x0-1)<(nr.2.1.length:Int))) (br (decide (0<=wrap .i64 y4)&&decide (wrap .i64 y4<(nr.2.1.length:Int))) (qd (iM ctx D a4 [bL.val bV (List.getD nr.2.1 y2 (0,0,0,())),bL.val bV (List.getD nr.2.1 (Int.toNat (wrap .i64 y4)) (0,0,0,()))] ah) fun Yi=>br (!decide (Yi<0)) (qd (Dg D nr.2.1 x0 x1 (wrap .i64 y4) a4) fun EL=>go EL.1.1 x1 y0 x3 x4 EL.2.1) y6) none) none) y6)) (br (decide (x0>0)) (br (decide (0<=wrap .i64 (x0-1))&&decide (wrap .i64 (x0-1)<(n5.2.1.length:Int))) (br (decide (0<=wrap .i64 y4)&&decide (wrap .i64 y4<(n5.2.1.length:Int))) (qd (iM ctx D a4 [bL.val bV (List.getD n5.2.1 y2 (0,0,0,())),bL.val bV (List.getD n5.2.1 (Int.toNat (wrap .i64 y4)) (0,0,0,()))] ah) fun LJ=>br (!decide (LJ<0)) (qd (Dg D n5.2.1 x0 x1 (wrap .i64 y4) a4) fun xD=>go xD.1.1 x1 y0 x3 x4 xD.2.1) y5) none) none) y5)) (br (bif bif x3 then x4 else false then decide (p1.1.2.1=1) else false) (qd (Vd D jQ.2.1 x0 x1 a4) fun j_=>let y7:Option cD:=(qd (Dh D j_.2.1 x0 x1 p1.1.1 a4) fun p3=>br (decide (wrap .i64 (p3.1.1-x0)<wrap .i64 (x1-p3.1.1))) (qd (qo D p3.2.1 x0 p3.1.1 y0 a4) fun LR=>go (wrap .i64 (p3.1.1+1)) x1 y0 (decide (wrap .i64 (p3.1.1-x0)>=wrap .i64 (Int.tdiv y1 8))) p3.1.2.1 LR.2.1) (qd (qo D p3.2.1 (wrap .i64 (p3.1.1+1)) x1 y0 a4) fun X2=>go x0 p3.1.1 y0 (decide (wrap .i64 (x1-p3.1.1)>=wrap .i64 (Int.tdiv y1 8))) p3.1.2.1 X2.2.1));br j_.1.1 (K0 j_.2.1) (br (decide (x0>0)) (br (decide (0<=wrap .i64 (x0-1))&&decide (wrap .i64 (x0-1)<(j_.2.1.length:Int))) (br (decide (0<=p1.1.1)&&decide (p1.1.1<(j_.2.1.length:Int))) (qd (iM ctx D a4 [bL.val bV (List.getD j_.2.1 y2 (0,0,0,())),bL.val bV (List.getD j_.2.1 p1.1.1.toNat (0,0,0,()))] ah) fun LP=>br (!decide (LP<0)) (qd (Dg D j_.2.1 x0 x1 p1.1.1 a4) fun xE=>go xE.1.1 x1 y0 x3 x4 xE.2.1) y7) none) none) y7)) (br (decide (x0>0)) (br (decide (0<=wrap .i64 (x0-1))&&decide (wrap .i64 (x0-1)<(jQ.2.1.length:Int))) (br (decide (0<=p1.1.1)&&decide (p1.1.1<(jQ.2.1.length:Int))) (qd (iM ctx D a4 [bL.val bV (List.getD jQ.2.1 y2 (0,0,0,())),bL.val bV (List.getD jQ.2.1 p1.1.1.toNat (0,0,0,()))] ah) fun X4=>br (!decide (X4<0)) (qd (Dg D jQ.2.1 x0 x1 p1.1.1 a4) fun xF=>go xF.1.1 x1 y0 x3 x4 xF.2.1) y3) none) none) y3))) (qd (qir D x5 x0 x1 a4) fun p0=>let y8:Option cD:=(qd (Dh D x5 x0 x1 p0.1.1 a4) fun p8=>br (decide (wrap .i64 (p8.1.1-x0)<wrap .i64 (x1-p8.1.1))) (qd (qo D p8.2.1 x0 p8.1.1 x2 a4) fun Yg=>go (wrap .i64 (p8.1.1+1)) x1 x2 (decide (wrap .i64 (p8.1.1-x0)>=wrap .i64 (Int.tdiv y1 8))) p8.1.2.1 Yg.2.1) (qd (qo D p8.2.1 (wrap .i64 (p8.1.1+1)) x1 x2 a4) fun Yh=>go x0 p8.1.1 x2 (decide (wrap .i64 (x1-p8.1.1)>=wrap .i64 (Int.tdiv y1 8))) p8.1.2.1 Yh.2.1));let y9:=wrap .i64 (x1-1)-wrap .i64 (p0.1.1-x0);br (decide (p0.1.2.1=2)) (qd (qig D x5 x0 x1 a4) fun n4=>let Ui:Option cD:=(qd (Dh D n4.2.1 x0 x1 (wrap .i64 y9) a4) fun p6=>br (decide (wrap .i64 (p6.1.1-x0)<wrap .i64 (x1-p6.1.1))) (qd (qo D p6.2.1 x0 p6.1.1 x2 a4) fun Ya=>go (wrap .i64 (p6.1.1+1)) x1 x2 (decide (wrap .i64 (p6.1.1-x0)>=wrap .i64 (Int.tdiv y1 8))) p6.1.2.1 Ya.2.1) (qd (qo D p6.2.1 (wrap .i64 (p6.1.1+1)) x1 x2 a4) fun Yb=>go x0 p6.1.1 x2 (decide (wrap .i64 (x1-p6.1.1)>=wrap .i64 (Int.tdiv y1 8))) p6.1.2.1 Yb.2.1));br (bif bif x3 then x4 else false then true else false) (qd (Vd D n4.2.1 x0 x1 a4) fun kY=>let Uj:Option cD:=(qd (Dh D kY.2.1 x0 x1 (wrap .i64 y9) a4) fun p5=>br (decide (wrap .i64 (p5.1.1-x0)<wrap .i64 (x1-p5.1.1))) (qd (qo D p5.2.1 x0 p5.1.1 x2 a4) fun X8=>go (wrap .i64 (p5.1.1+1)) x1 x2 (decide (wrap .i64 (p5.1.1-x0)>=wrap .i64 (Int.tdiv y1 8))) p5.1.2.1 X8.2.1) (qd (qo D p5.2.1 (wrap .i64 (p5.1.1+1)) x1 x2 a4) fun X9=>go x0 p5.1.1 x2 (decide (wrap .i64 (x1-p5.1.1)>=wrap .i64 (Int.tdiv y1 8))) p5.1.2.1 X9.2.1));br kY.1.1 (K0 kY.2.1) (br (decide (x0>0)) (br (decide (0<=wrap .i64 (x0-1))&&decide (wrap .i64 (x0-1)<(kY.2.1.length:Int))) (br (decide (0<=wrap .i64 y9)&&decide (wrap .i64 y9<(kY.2.1.length:Int))) (qd (iM ctx D a4 [bL.val bV (List.getD kY.2.1 y2 (0,0,0,())),bL.val bV (List.getD kY.2.1 (Int.toNat (wrap .i64 y9)) (0,0,0,()))] ah) fun X7=>br (!decide (X7<0)) (qd (Dg D kY.2.1 x0 x1 (wrap .i64 y9) a4) fun xG=>go xG.1.1 x1 x2 x3 x4 xG.2.1) Uj) none) none) Uj)) (br (decide (x0>0)) (br (decide (0<=wrap .i64 (x0-1))&&decide (wrap .i64 (x0-1)<(n4.2.1.length:Int))) (br (decide (0<=wrap .i64 y9)&&decide (wrap .i64 y9<(n4.2.1.length:Int))) (qd (iM ctx D a4 [bL.val bV (List.getD n4.2.1 y2 (0,0,0,())),bL.val bV (List.getD n4.2.1 (Int.toNat (wrap .i64 y9)) (0,0,0,()))] ah) fun X_=>br (!decide (X_<0)) (qd (Dg D n4.2.1 x0 x1 (wrap .i64 y9) a4) fun xH=>go xH.1.1 x1 x2 x3 x4 xH.2.1) Ui) none) none) Ui)) (br (bif bif x3 then x4 else false then decide (p0.1.2.1=1) else false) (qd (Vd D x5 x0 x1 a4) fun nq=>let Uk:Option cD:=(qd (Dh D nq.2.1 x0 x1 p0.1.1 a4) fun p7=>br (decide (wrap .i64 (p7.1.1-x0)<wrap .i64 (x1-p7.1.1))) (qd (qo D p7.2.1 x0 p7.1.1 x2 a4) fun Yd=>go (wrap .i64 (p7.1.1+1)) x1 x2 (decide (wrap .i64 (p7.1.1-x0)>=wrap .i64 (Int.tdiv y1 8))) p7.1.2.1 Yd.2.1) (qd (qo D p7.2.1 (wrap .i64 (p7.1.1+1)) x1 x2 a4) fun Ye=>go x0 p7.1.1 x2 (decide (wrap .i64 (x1-p7.1.1)>=wrap .i64 (Int.tdiv y1 8))) p7.1.2.1 Ye.2.1));br nq.1.1 (K0 nq.2.1) (br (decide (x0>0)) (br (decide (0<=wrap .i64 (x0-1))&&decide (wrap .i64 (x0-1)<(nq.2.1.length:Int))) (br (decide (0<=p0.1.1)&&decide (p0.1.1<(nq.2.1.length:Int))) (qd (iM ctx D a4 [bL.val bV (List.getD nq.2.1 y2 (0,0,0,())),bL.val bV (List.getD nq.2.1 p0.1.1.toNat (0,0,0,()))] ah) fun Yc=>br (!decide (Yc<0)) (qd (Dg D nq.2.1 x0 x1 p0.1.1 a4) fun AB=>go AB.1.1 x1 x2 x3 x4 AB.2.1) Uk) none) none) Uk)) (br (decide (x0>0)) (br (decide (0<=wrap .i64 (x0-1))&&decide (wrap .i64 (x0-1)<(x5.length:Int))) (br (decide (0<=p0.1.1)&&decide (p0.1.1<(x5.length:Int))) (qd (iM ctx D a4 [bL.val bV (List.getD x5 y2 (0,0,0,())),bL.val bV (List.getD x5 p0.1.1.toNat (0,0,0,()))] ah) fun Yf=>br (!decide (Yf<0)) (qd (Dg D x5 x0 x1 p0.1.1 a4) fun EK=>go EK.1.1 x1 x2 x3 x4 EK.2.1) y8) none) none) y8)))))
def Vi(D:DX)(n:Nat)(a4:bk)(K0:List ak->Option cD):Nat->Int->Int->Int->Bool->Bool->(List ak)->Option cD | 0=>(fun x0 x1 x2 x3 x4 x5=>none) | m+1=>(fun x0 x1 x2 x3 x4 x5=>qgb D n a4 (Vi D n a4 K0 m) K0 x0 x1 x2 x3 x4 x5)
def qrm(D:DX)(n:Nat)(a4:bk)(a:List ak):Option cD:=some ((),a,())
def qf1(D:DX)(n:Nat)(a4:bk):(Int)->(Int)->(Int)->(Bool)->(Bool)->(List ak)->Option cD:=(fun x0 x1 x2 x3 x4 x5=>Vi D n a4 (fun a=>qrm D n a4 a) n x0 x1 x2 x3 x4 x5)
def qgr(D:DX)(n:Nat)(a4:bk)(cw:Int->Int->Int->Bool->Bool->List ak->Option cD)(a0:List ak)(a1 a2 a3:Int):Option cD:=cw a1 a2 a3 true true a0
def qgn(D:DX)(n:Nat)(a0:List ak)(a1 a2 a3:Int)(a4:bk):Option cD:=qgr D n a4 (qf1 D n a4) a0 a1 a2 a3
def qga(a4:bk)(x0 x1 x2:Int)(x3 x4:Bool)(x5:List ak):St:=bq 148 [(0,AV.b9 0 [] 1048576),(1,AV.val ah x0),(2,AV.val ah x1),(3,AV.val ah x2),(4,AV.eA a4),(10,AV.val Ty.bool x3),(11,AV.val Ty.bool x4)] [(0,aC.mk bU mI x5 false)]
def qjb(a4:bk)(a:List ak):St:=bq 148 [(0,AV.b9 0 [] 1048576)] [(0,aC.mk bU mI a false)]
theorem qss(D:DX)(n:Nat)(a4:bk)(K:KT 187):∀(m:Nat)(x0 x1 x2:Int)(x3 x4:Bool)(x5:List ak),LF D n 187 n6 m (qga a4 x0 x1 x2 x3 x4 x5) K=Vi D n a4 (fun a=>K (Ex.ret) (qjb a4 a)) m x0 x1 x2 x3 x4 x5:=DY (fun F=>qgb D n a4 F (fun a=>K (Ex.ret) (qjb a4 a)))
theorem qrl(D:DX)(n:Nat)(a4:bk)(x0)(x1)(x2)(x3)(x4)(x5):LF D n 187 n6 n (qga a4 x0 x1 x2 x3 x4 x5) (CF D n 187 [] n6 (lF 187))=qf1 D n a4 x0 x1 x2 x3 x4 x5 :=by rw[qss];kernel_rfl
theorem qt1(D:DX)(n:Nat)(a0:List ak)(a1 a2 a3:Int)(a4:bk):rF D n 187 (a0,(a1,(a2,(a3,(a4,())))))=qgn D n a0 a1 a2 a3 a4:=by
 have h:rF D n 187 (a0,(a1,(a2,(a3,(a4,())))))=qgr D n a4 (fun x0 x1 x2 x3 x4 x5=>LF D n 187 n6 n (qga a4 x0 x1 x2 x3 x4 x5) (CF D n 187 [] n6 (lF 187))) a0 a1 a2 a3:=by kernel_rfl
 rw[h];simp only[qrl];rfl
def Vj(D:DX)(n:Nat)(go:Int->Int->Int->Int->List Int->Option cQ)(K0:Int->Int->Int->List Int->Option cQ)(c d e a:Int)(b:List Int):Option cQ:=let y1:=wrap .i64 (a-1);let y0:=List.getD b (Int.toNat y1) 0;br (decide (a>c)) (br (decide (0<=a)&&decide (a<(b.length:Int))) (br (decide (0<=y1)&&decide (y1<(b.length:Int))) (qd (yx D (List.getD b a.toNat 0) y0) fun p0=>br p0.1.1 (br (decide (0<=y1)&&decide (y1<(b.length:Int))) (br (decide (0<=a)&&decide (a<(b.length:Int))) (br (decide (0<=a)&&decide (a<(b.length:Int))) (br (decide (0<=y1)&&decide (y1<((List.set b a.toNat y0).length:Int))) (go c d e y1 (List.set (List.set b a.toNat y0) (Int.toNat y1) (List.getD b a.toNat 0))) none) none) none) none) (K0 c d e b)) none) none) (K0 c d e b)
def JU(D:DX)(n:Nat)(K0:Int->Int->Int->List Int->Option cQ):Nat->Int->Int->Int->Int->(List Int)->Option cQ | 0=>(fun a b c d e=>none) | m+1=>(fun a b c d e=>Vj D n (JU D n K0 m) K0 a b c d e)
def qf0(D:DX)(n:Nat)(go:Int->Int->Int->List Int->Option cQ)(K0:List Int->Option cQ)(a b c:Int)(d:List Int):Option cQ:=go a b (wrap .i64 (c+1)) d
def qf9(D:DX)(n:Nat)(go:Int->Int->Int->List Int->Option cQ)(K0:List Int->Option cQ):(Int)->(Int)->(Int)->(Int)->(List Int)->Option cQ:=(fun a f g h i=>JU D n (fun b c d e=>qf0 D n go K0 b c d e) n a f g h i)
def SE(D:DX)(n:Nat)(go:Int->Int->Int->List Int->Option cQ)(K0:List Int->Option cQ)(mJ:Int->Int->Int->Int->List Int->Option cQ)(x0 x1 x2:Int)(x3:List Int):Option cQ:=br (decide (x2<x1)) (mJ x0 x1 x2 x2 x3) (K0 x3)
def zK(D:DX)(n:Nat)(K0:List Int->Option cQ):Nat->Int->Int->Int->(List Int)->Option cQ | 0=>(fun x0 x1 x2 x3=>none) | m+1=>(fun x0 x1 x2 x3=>SE D n (zK D n K0 m) K0 (qf9 D n (zK D n K0 m) K0) x0 x1 x2 x3)
def qjx(D:DX)(n:Nat)(a:List Int):Option cQ:=some ((),a,())
def qf8(D:DX)(n:Nat):(Int)->(Int)->(Int)->(List Int)->Option cQ:=(fun x0 x1 x2 x3=>zK D n (fun a=>qjx D n a) n x0 x1 x2 x3)
def qg3(D:DX)(n:Nat)(cw:Int->Int->Int->List Int->Option cQ)(a0:List Int)(a1 a2:Int):Option cQ:=cw a1 a2 (wrap .i64 (a1+1)) a0
def qgy(D:DX)(n:Nat)(a0:List Int)(a1 a2:Int):Option cQ:=qg3 D n (qf8 D n) a0 a1 a2
def Gm(x0 x1 x2:Int)(x3:List Int):St:=bq 49 [(0,AV.b9 0 [] 1048576),(1,AV.val ah x0),(2,AV.val ah x1),(6,AV.val ah x2)] [(0,aC.mk bG mI x3 false)]
def Vh(a:List Int):St:=bq 49 [(0,AV.b9 0 [] 1048576)] [(0,aC.mk bG mI a false)]
def qgq(a b c d:Int)(e:List Int):St:=bq 49 [(0,AV.b9 0 [] 1048576),(1,AV.val ah a),(2,AV.val ah b),(6,AV.val ah c),(7,AV.val ah d)] [(0,aC.mk bG mI e false)]
def qjw(a b c:Int)(d:List Int):St:=bq 49 [(0,AV.b9 0 [] 1048576),(1,AV.val ah a),(2,AV.val ah b),(6,AV.val ah c)] [(0,aC.mk bG mI d false)]
theorem qtm(D:DX)(n:Nat)(K:KT 188):∀(m:Nat)(e f g h:Int)(i:List Int),LF D n 188 uv m (qgq e f g h i) K=JU D n (fun a b c d=>K (Ex.exit 2) (qjw a b c d)) m e f g h i:=oP (fun F=>Vj D n F (fun a b c d=>K (Ex.exit 2) (qjw a b c d)))
theorem qsr(D:DX)(n:Nat)(m:Nat)(K:KT 188)(a b c d:Int)(e:List Int):LF D n 188 uv n (qgq a b c d e) (CF D n 188 [.r,.l,.l] uw (KF D n 188 hJ m K))=qf9 D n (fun x0 x1 x2 x3=>LF D n 188 hJ m (Gm x0 x1 x2 x3) K) (fun f=>K (Ex.exit 0) (Vh f)) a b c d e :=by rw[qtm];kernel_rfl
theorem qtn(D:DX)(n:Nat)(m:Nat)(K:KT 188)(x0)(x1)(x2)(x3):LF D n 188 hJ (m+1) (Gm x0 x1 x2 x3) K=SE D n (fun x0 x1 x2 x3=>LF D n 188 hJ m (Gm x0 x1 x2 x3) K) (fun a=>K (Ex.exit 0) (Vh a)) (fun b c d e f=>LF D n 188 uv n (qgq b c d e f) (CF D n 188 [.r,.l,.l] uw (KF D n 188 hJ m K))) x0 x1 x2 x3:=by kernel_rfl
theorem qj3(D:DX)(n:Nat)(K:KT 188):∀(m:Nat)(x0 x1 x2:Int)(x3:List Int),LF D n 188 hJ m (Gm x0 x1 x2 x3) K=zK D n (fun a=>K (Ex.exit 0) (Vh a)) m x0 x1 x2 x3
 | 0,x0,x1,x2,x3=>sH ..
 | m+1,x0,x1,x2,x3=>by
  have ih:(fun x0 x1 x2 x3=>LF D n 188 hJ m (Gm x0 x1 x2 x3) K)=zK D n (fun a=>K (Ex.exit 0) (Vh a)) m:=by funext x0 x1 x2 x3;exact qj3 D n K m x0 x1 x2 x3
  rw[qtn];simp only[qsr];rw[ih];rfl
theorem qsq(D:DX)(n:Nat)(x0)(x1)(x2)(x3):LF D n 188 hJ n (Gm x0 x1 x2 x3) (CF D n 188 [] hJ (lF 188))=qf8 D n x0 x1 x2 x3 :=by rw[qj3];kernel_rfl
theorem qvb(D:DX)(n:Nat)(a0:List Int)(a1 a2:Int):rF D n 188 (a0,(a1,(a2,())))=qgy D n a0 a1 a2:=by
 have h:rF D n 188 (a0,(a1,(a2,())))=qg3 D n (fun x0 x1 x2 x3=>LF D n 188 hJ n (Gm x0 x1 x2 x3) (CF D n 188 [] hJ (lF 188))) a0 a1 a2:=by kernel_rfl
 rw[h];simp only[qsq];rfl
def OW(D:DX)(n:Nat)(a0 a1:Int):Option ag:=qd (qxh D a0) fun b=>br b.1.1 (qd (qxh D a1) fun b=>some ((bif !b.1.1 then true else decide (a0<a1),()),())) (some ((bif false then true else decide (a0<a1),()),()))
def YH(D:DX)(n:Nat)(a0 a1:Int):Option ag:=OW D n a0 a1
theorem aha(D:DX)(n:Nat)(a0 a1:Int):rF D n 194 (a0,(a1,()))=YH D n a0 a1:=by kernel_rfl
def afm(D:DX)(n:Nat)(a0:Int):Option aH:=let y0:=List.toArray ([UInt8.ofNat 0,UInt8.ofNat 1,UInt8.ofNat 2,UInt8.ofNat 2,UInt8.ofNat 3,UInt8.ofNat 3,UInt8.ofNat 3,UInt8.ofNat 3,UInt8.ofNat 4,UInt8.ofNat 4,UInt8.ofNat 4,UInt8.ofNat 4,UInt8.ofNat 4,UInt8.ofNat 4,UInt8.ofNat 4,UInt8.ofNat 4,UInt8.ofNat 5,UInt8.ofNat 5,UInt8.ofNat 5,UInt8.ofNat 5,UInt8.ofNat 5,UInt8.ofNat 5,UInt8.ofNat 5,UInt8.ofNat 5,UInt8.ofNat 5,UInt8.ofNat 5,UInt8.ofNat 5,UInt8.ofNat 5,UInt8.ofNat 5,UInt8.ofNat 5,UInt8.ofNat 5,UInt8.ofNat 5,UInt8.ofNat 6,UInt8.ofNat 6,UInt8.ofNat 6,UInt8.ofNat 6,UInt8.ofNat 6,UInt8.ofNat 6,UInt8.ofNat 6,UInt8.ofNat 6,UInt8.ofNat 6,UInt8.ofNat 6,UInt8.ofNat 6,UInt8.ofNat 6,UInt8.ofNat 6,UInt8.ofNat 6,UInt8.ofNat 6,UInt8.ofNat 6,UInt8.ofNat 6,UInt8.ofNat 6,UInt8.ofNat 6,UInt8.ofNat 6,UInt8.ofNat 6,UInt8.ofNat 6,UInt8.ofNat 6,UInt8.ofNat 6,UInt8.ofNat 6,UInt8.ofNat 6,UInt8.ofNat 6,UInt8.ofNat 6,UInt8.ofNat 6,UInt8.ofNat 6,UInt8.ofNat 6,UInt8.ofNat 6]++[UInt8.ofNat 7,UInt8.ofNat 7,UInt8.ofNat 7,UInt8.ofNat 7,UInt8.ofNat 7,UInt8.ofNat 7,UInt8.ofNat 7,UInt8.ofNat 7,UInt8.ofNat 7,UInt8.ofNat 7,UInt8.ofNat 7,UInt8.ofNat 7,UInt8.ofNat 7,UInt8.ofNat 7,UInt8.ofNat 7,UInt8.ofNat 7,UInt8.ofNat 7,UInt8.ofNat 7,UInt8.ofNat 7,UInt8.ofNat 7,UInt8.ofNat 7,UInt8.ofNat 7,UInt8.ofNat 7,UInt8.ofNat 7,UInt8.ofNat 7,UInt8.ofNat 7,UInt8.ofNat 7,UInt8.ofNat 7,UInt8.ofNat 7,UInt8.ofNat 7,UInt8.ofNat 7,UInt8.ofNat 7,UInt8.ofNat 7,UInt8.ofNat 7,UInt8.ofNat 7,UInt8.ofNat 7,UInt8.ofNat 7,UInt8.ofNat 7,UInt8.ofNat 7,UInt8.ofNat 7,UInt8.ofNat 7,UInt8.ofNat 7,UInt8.ofNat 7,UInt8.ofNat 7,UInt8.ofNat 7,UInt8.ofNat 7,UInt8.ofNat 7,UInt8.ofNat 7,UInt8.ofNat 7,UInt8.ofNat 7,UInt8.ofNat 7,UInt8.ofNat 7,UInt8.ofNat 7,UInt8.ofNat 7,UInt8.ofNat 7,UInt8.ofNat 7,UInt8.ofNat 7,UInt8.ofNat 7,UInt8.ofNat 7,UInt8.ofNat 7,UInt8.ofNat 7,UInt8.ofNat 7,UInt8.ofNat 7,UInt8.ofNat 7]++([UInt8.ofNat 8,UInt8.ofNat 8,UInt8.ofNat 8,UInt8.ofNat 8,UInt8.ofNat 8,UInt8.ofNat 8,UInt8.ofNat 8,UInt8.ofNat 8,UInt8.ofNat 8,UInt8.ofNat 8,UInt8.ofNat 8,UInt8.ofNat 8,UInt8.ofNat 8,UInt8.ofNat 8,UInt8.ofNat 8,UInt8.ofNat 8,UInt8.ofNat 8,UInt8.ofNat 8,UInt8.ofNat 8,UInt8.ofNat 8,UInt8.ofNat 8,UInt8.ofNat 8,UInt8.ofNat 8,UInt8.ofNat 8,UInt8.ofNat 8,UInt8.ofNat 8,UInt8.ofNat 8,UInt8.ofNat 8,UInt8.ofNat 8,UInt8.ofNat 8,UInt8.ofNat 8,UInt8.ofNat 8,UInt8.ofNat 8,UInt8.ofNat 8,UInt8.ofNat 8,UInt8.ofNat 8,UInt8.ofNat 8,UInt8.ofNat 8,UInt8.ofNat 8,UInt8.ofNat 8,UInt8.ofNat 8,UInt8.ofNat 8,UInt8.ofNat 8,UInt8.ofNat 8,UInt8.ofNat 8,UInt8.ofNat 8,UInt8.ofNat 8,UInt8.ofNat 8,UInt8.ofNat 8,UInt8.ofNat 8,UInt8.ofNat 8,UInt8.ofNat 8,UInt8.ofNat 8,UInt8.ofNat 8,UInt8.ofNat 8,UInt8.ofNat 8,UInt8.ofNat 8,UInt8.ofNat 8,UInt8.ofNat 8,UInt8.ofNat 8,UInt8.ofNat 8,UInt8.ofNat 8,UInt8.ofNat 8,UInt8.ofNat 8]++[UInt8.ofNat 8,UInt8.ofNat 8,UInt8.ofNat 8,UInt8.ofNat 8,UInt8.ofNat 8,UInt8.ofNat 8,UInt8.ofNat 8,UInt8.ofNat 8,UInt8.ofNat 8,UInt8.ofNat 8,UInt8.ofNat 8,UInt8.ofNat 8,UInt8.ofNat 8,UInt8.ofNat 8,UInt8.ofNat 8,UInt8.ofNat 8,UInt8.ofNat 8,UInt8.ofNat 8,UInt8.ofNat 8,UInt8.ofNat 8,UInt8.ofNat 8,UInt8.ofNat 8,UInt8.ofNat 8,UInt8.ofNat 8,UInt8.ofNat 8,UInt8.ofNat 8,UInt8.ofNat 8,UInt8.ofNat 8,UInt8.ofNat 8,UInt8.ofNat 8,UInt8.ofNat 8,UInt8.ofNat 8,UInt8.ofNat 8,UInt8.ofNat 8,UInt8.ofNat 8,UInt8.ofNat 8,UInt8.ofNat 8,UInt8.ofNat 8,UInt8.ofNat 8,UInt8.ofNat 8,UInt8.ofNat 8,UInt8.ofNat 8,UInt8.ofNat 8,UInt8.ofNat 8,UInt8.ofNat 8,UInt8.ofNat 8,UInt8.ofNat 8,UInt8.ofNat 8,UInt8.ofNat 8,UInt8.ofNat 8,UInt8.ofNat 8,UInt8.ofNat 8,UInt8.ofNat 8,UInt8.ofNat 8,UInt8.ofNat 8,UInt8.ofNat 8,UInt8.ofNat 8,UInt8.ofNat 8,UInt8.ofNat 8,UInt8.ofNat 8,UInt8.ofNat 8,UInt8.ofNat 8,UInt8.ofNat 8,UInt8.ofNat 8]));let y1:=Int.pow 2 (if Int.toNat 32<=IntKind.bits .u64 then Int.toNat 32 else IntKind.bits .u64);let y2:=Int.pow 2 (if Int.toNat 16<=IntKind.bits .u64 then Int.toNat 16 else IntKind.bits .u64);let y3:=Int.pow 2 (if Int.toNat 8<=IntKind.bits .u64 then Int.toNat 8 else IntKind.bits .u64);let y4:=Int.fdiv a0 y1;let y5:=ByteArray.mk y0;let y6:=Int.fdiv y4 y2;let y7:=Int.fdiv a0 y2;br (decide (a0>=4294967296)) (br (decide (y4>=65536)) (br (decide (y6>=256)) (br (decide (0<=wrap .u8 (Int.fdiv y6 y3))&&decide (wrap .u8 (Int.fdiv y6 y3)<(↑(ByteArray.size y5):Int))) (some ((wrap .i64 (wrap .i64 (wrap .i64 (32+16)+8)+wrap .i64 (↑(UInt8.toNat (Array.getD y0 (Int.toNat (wrap .u8 (Int.fdiv y6 y3))) (UInt8.ofNat 0))):Int)),()),())) none) (br (decide (0<=wrap .u8 y6)&&decide (wrap .u8 y6<(↑(ByteArray.size y5):Int))) (some ((wrap .i64 (wrap .i64 (32+16)+wrap .i64 (↑(UInt8.toNat (Array.getD y0 (Int.toNat (wrap .u8 y6)) (UInt8.ofNat 0))):Int)),()),())) none)) (br (decide (y4>=256)) (br (decide (0<=wrap .u8 (Int.fdiv y4 y3))&&decide (wrap .u8 (Int.fdiv y4 y3)<(↑(ByteArray.size y5):Int))) (some ((wrap .i64 (wrap .i64 (32+8)+wrap .i64 (↑(UInt8.toNat (Array.getD y0 (Int.toNat (wrap .u8 (Int.fdiv y4 y3))) (UInt8.ofNat 0))):Int)),()),())) none) (br (decide (0<=wrap .u8 y4)&&decide (wrap .u8 y4<(↑(ByteArray.size y5):Int))) (some ((wrap .i64 (32+wrap .i64 (↑(UInt8.toNat (Array.getD y0 (Int.toNat (wrap .u8 y4)) (UInt8.ofNat 0))):Int)),()),())) none))) (br (decide (a0>=65536)) (br (decide (y7>=256)) (br (decide (0<=wrap .u8 (Int.fdiv y7 y3))&&decide (wrap .u8 (Int.fdiv y7 y3)<(↑(ByteArray.size y5):Int))) (some ((wrap .i64 (wrap .i64 (wrap .i64 (0+16)+8)+wrap .i64 (↑(UInt8.toNat (Array.getD y0 (Int.toNat (wrap .u8 (Int.fdiv y7 y3))) (UInt8.ofNat 0))):Int)),()),())) none) (br (decide (0<=wrap .u8 y7)&&decide (wrap .u8 y7<(↑(ByteArray.size y5):Int))) (some ((wrap .i64 (wrap .i64 (0+16)+wrap .i64 (↑(UInt8.toNat (Array.getD y0 (Int.toNat (wrap .u8 y7)) (UInt8.ofNat 0))):Int)),()),())) none)) (br (decide (a0>=256)) (br (decide (0<=wrap .u8 (Int.fdiv a0 y3))&&decide (wrap .u8 (Int.fdiv a0 y3)<(↑(ByteArray.size y5):Int))) (some ((wrap .i64 (wrap .i64 (0+8)+wrap .i64 (↑(UInt8.toNat (Array.getD y0 (Int.toNat (wrap .u8 (Int.fdiv a0 y3))) (UInt8.ofNat 0))):Int)),()),())) none) (br (decide (0<=wrap .u8 a0)&&decide (wrap .u8 a0<(↑(ByteArray.size y5):Int))) (some ((wrap .i64 (0+wrap .i64 (↑(UInt8.toNat (Array.getD y0 (Int.toNat (wrap .u8 a0)) (UInt8.ofNat 0))):Int)),()),())) none)))
def rO(D:DX)(n:Nat)(a0:Int):Option aH:=afm D n a0
theorem ae5(D:DX)(n:Nat)(a0:Int):rF D n 198 (a0,())=rO D n a0:=by kernel_rfl
def Vb(D:DX)(n:Nat)(a3:bk)(go:Int->Int->Int->Int->List ak->Option cD)(K0:Int->Int->Int->List ak->Option cD)(c d e a:Int)(b:List ak):Option cD:=let y2:=wrap .i64 (a-1);let y0:=List.getD b (Int.toNat y2) (0,0,0,());let y1:=List.getD b a.toNat (0,0,0,());br (decide (a>c)) (br (decide (0<=a)&&decide (a<(b.length:Int))) (br (decide (0<=y2)&&decide (y2<(b.length:Int))) (qd (iM ctx D a3 [bL.val bV y1,bL.val bV y0] ah) fun p0=>br (decide (p0<0)) (br (decide (0<=y2)&&decide (y2<(b.length:Int))) (br (decide (0<=a)&&decide (a<(b.length:Int))) (br (decide (0<=a)&&decide (a<(b.length:Int))) (br (decide (0<=y2)&&decide (y2<((List.set b a.toNat y0).length:Int))) (go c d e y2 (List.set (List.set b a.toNat y0) (Int.toNat y2) y1)) none) none) none) none) (K0 c d e b)) none) none) (K0 c d e b)
def JO(D:DX)(n:Nat)(a3:bk)(K0:Int->Int->Int->List ak->Option cD):Nat->Int->Int->Int->Int->(List ak)->Option cD | 0=>(fun a b c d e=>none) | m+1=>(fun a b c d e=>Vb D n a3 (JO D n a3 K0 m) K0 a b c d e)
def qdp(D:DX)(n:Nat)(a3:bk)(go:Int->Int->Int->List ak->Option cD)(K0:List ak->Option cD)(a b c:Int)(d:List ak):Option cD:=go a b (wrap .i64 (c+1)) d
def qd1(D:DX)(n:Nat)(a3:bk)(go:Int->Int->Int->List ak->Option cD)(K0:List ak->Option cD):(Int)->(Int)->(Int)->(Int)->(List ak)->Option cD:=(fun a f g h i=>JO D n a3 (fun b c d e=>qdp D n a3 go K0 b c d e) n a f g h i)
def SU(D:DX)(n:Nat)(a3:bk)(go:Int->Int->Int->List ak->Option cD)(K0:List ak->Option cD)(mJ:Int->Int->Int->Int->List ak->Option cD)(x0 x1 x2:Int)(x3:List ak):Option cD:=br (decide (x2<x1)) (mJ x0 x1 x2 x2 x3) (K0 x3)
def zJ(D:DX)(n:Nat)(a3:bk)(K0:List ak->Option cD):Nat->Int->Int->Int->(List ak)->Option cD | 0=>(fun x0 x1 x2 x3=>none) | m+1=>(fun x0 x1 x2 x3=>SU D n a3 (zJ D n a3 K0 m) K0 (qd1 D n a3 (zJ D n a3 K0 m) K0) x0 x1 x2 x3)
def qg7(D:DX)(n:Nat)(a3:bk)(a:List ak):Option cD:=some ((),a,())
def qd0(D:DX)(n:Nat)(a3:bk):(Int)->(Int)->(Int)->(List ak)->Option cD:=(fun x0 x1 x2 x3=>zJ D n a3 (fun a=>qg7 D n a3 a) n x0 x1 x2 x3)
def qet(D:DX)(n:Nat)(a3:bk)(cw:Int->Int->Int->List ak->Option cD)(a0:List ak)(a1 a2:Int):Option cD:=cw a1 a2 (wrap .i64 (a1+1)) a0
def qem(D:DX)(n:Nat)(a0:List ak)(a1 a2:Int)(a3:bk):Option cD:=qet D n a3 (qd0 D n a3) a0 a1 a2
def HQ(a3:bk)(x0 x1 x2:Int)(x3:List ak):St:=bq 53 [(0,AV.b9 0 [] 1048576),(1,AV.val ah x0),(2,AV.val ah x1),(3,AV.eA a3),(8,AV.val ah x2)] [(0,aC.mk bU mI x3 false)]
def Ve(a3:bk)(a:List ak):St:=bq 53 [(0,AV.b9 0 [] 1048576)] [(0,aC.mk bU mI a false)]
def qeh(a3:bk)(a b c d:Int)(e:List ak):St:=bq 53 [(0,AV.b9 0 [] 1048576),(1,AV.val ah a),(2,AV.val ah b),(3,AV.eA a3),(8,AV.val ah c),(9,AV.val ah d)] [(0,aC.mk bU mI e false)]
def qg6(a3:bk)(a b c:Int)(d:List ak):St:=bq 53 [(0,AV.b9 0 [] 1048576),(1,AV.val ah a),(2,AV.val ah b),(3,AV.eA a3),(8,AV.val ah c)] [(0,aC.mk bU mI d false)]
theorem qn1(D:DX)(n:Nat)(a3:bk)(K:KT 199):∀(m:Nat)(e f g h:Int)(i:List ak),LF D n 199 uv m (qeh a3 e f g h i) K=JO D n a3 (fun a b c d=>K (Ex.exit 2) (qg6 a3 a b c d)) m e f g h i:=oP (fun F=>Vb D n a3 F (fun a b c d=>K (Ex.exit 2) (qg6 a3 a b c d)))
theorem qm6(D:DX)(n:Nat)(a3:bk)(m:Nat)(K:KT 199)(a b c d:Int)(e:List ak):LF D n 199 uv n (qeh a3 a b c d e) (CF D n 199 [.r,.l,.l] uw (KF D n 199 hJ m K))=qd1 D n a3 (fun x0 x1 x2 x3=>LF D n 199 hJ m (HQ a3 x0 x1 x2 x3) K) (fun f=>K (Ex.exit 0) (Ve a3 f)) a b c d e :=by rw[qn1];kernel_rfl
theorem qn2(D:DX)(n:Nat)(a3:bk)(m:Nat)(K:KT 199)(x0)(x1)(x2)(x3):LF D n 199 hJ (m+1) (HQ a3 x0 x1 x2 x3) K=SU D n a3 (fun x0 x1 x2 x3=>LF D n 199 hJ m (HQ a3 x0 x1 x2 x3) K) (fun a=>K (Ex.exit 0) (Ve a3 a)) (fun b c d e f=>LF D n 199 uv n (qeh a3 b c d e f) (CF D n 199 [.r,.l,.l] uw (KF D n 199 hJ m K))) x0 x1 x2 x3:=by kernel_rfl
theorem qhh(D:DX)(n:Nat)(a3:bk)(K:KT 199):∀(m:Nat)(x0 x1 x2:Int)(x3:List ak),LF D n 199 hJ m (HQ a3 x0 x1 x2 x3) K=zJ D n a3 (fun a=>K (Ex.exit 0) (Ve a3 a)) m x0 x1 x2 x3
 | 0,x0,x1,x2,x3=>sH ..
 | m+1,x0,x1,x2,x3=>by
  have ih:(fun x0 x1 x2 x3=>LF D n 199 hJ m (HQ a3 x0 x1 x2 x3) K)=zJ D n a3 (fun a=>K (Ex.exit 0) (Ve a3 a)) m:=by funext x0 x1 x2 x3;exact qhh D n a3 K m x0 x1 x2 x3
  rw[qn2];simp only[qm6];rw[ih];rfl
theorem qm5(D:DX)(n:Nat)(a3:bk)(x0)(x1)(x2)(x3):LF D n 199 hJ n (HQ a3 x0 x1 x2 x3) (CF D n 199 [] hJ (lF 199))=qd0 D n a3 x0 x1 x2 x3 :=by rw[qhh];kernel_rfl
theorem qoq(D:DX)(n:Nat)(a0:List ak)(a1 a2:Int)(a3:bk):rF D n 199 (a0,(a1,(a2,(a3,()))))=qem D n a0 a1 a2 a3:=by
 have h:rF D n 199 (a0,(a1,(a2,(a3,()))))=qet D n a3 (fun x0 x1 x2 x3=>LF D n 199 hJ n (HQ a3 x0 x1 x2 x3) (CF D n 199 [] hJ (lF 199))) a0 a1 a2:=by kernel_rfl
 rw[h];simp only[qm5];rfl
def On(D:DX)(n:Nat)(a0:Int):Option ag:=some ((a0 != a0,()),())
def qxv(D:DX)(n:Nat)(a0:Int):Option ag:=On D n a0
theorem agu(D:DX)(n:Nat)(a0:Int):rF D n 212 (a0,())=qxv D n a0:=by kernel_rfl
end
open Go.Proofs
def fW(X:Ext):Prop:=∀k:Nat,(Nat.beq k 128)=false->X.is k=false
theorem SD:fW sE:=fun _ _=>rfl
section
variable {X:Ext}(hX:fW X)(n:Nat)
include hX
theorem sQ{g:FuncId}{fn:Func}{a:gf (ctx.sig g).params}{r:Option (Out ctx g)}(hf:Tryz.prog.funcs[g]?=some fn)(ht:vX g=some fn)(hg:Nat.beq g 128=false)(e:rF (DD X n) n g a=r):DD X (n+1) g a=r:=(aka X hf ht (hX g hg) n a).trans e
theorem akj(a0):P4 (DD X (n+1)) a0=q6u (DD X n) n a0:=sQ hX n Tryz.func4 (by kernel_rfl) rfl (ac9 ..)
theorem aa5(a0):GJ (DD X (n+1)) a0=Qm (DD X n) n a0:=sQ hX n Tryz.func12 (by kernel_rfl) rfl (aa1 ..)
theorem aed(a0):qqb (DD X (n+1)) a0=qqh (DD X n) n a0:=sQ hX n Tryz.func13 (by kernel_rfl) rfl (aeb ..)
theorem ae9(a0 a1):qtv (DD X (n+1)) a0 a1=qt4 (DD X n) n a0 a1:=sQ hX n Tryz.func14 (by kernel_rfl) rfl (aeX ..)
theorem afg(a0 a1):qtw (DD X (n+1)) a0 a1=qua (DD X n) n a0 a1:=sQ hX n Tryz.func15 (by kernel_rfl) rfl (ae6 ..)
theorem aar(a0 a1):Gw (DD X (n+1)) a0 a1=Gz (DD X n) n a0 a1:=sQ hX n Tryz.func16 (by kernel_rfl) rfl (aab ..)
theorem qub(a0):Tn (DD X (n+1)) a0=Vz (DD X n) n a0:=sQ hX n Tryz.func17 (by kernel_rfl) rfl (aeZ ..)
theorem ajC(a0 a1 a2):q7t (DD X (n+1)) a0 a1 a2=q72 (DD X n) n a0 a1 a2:=sQ hX n Tryz.func18 (by kernel_rfl) rfl (ai1 ..)
theorem agC(a0):qxl (DD X (n+1)) a0=qxw (DD X n) n a0:=sQ hX n Tryz.func20 (by kernel_rfl) rfl (agv ..)
theorem alO(a0 a1):HR (DD X (n+1)) a0 a1=Ir (DD X n) n a0 a1:=sQ hX n Tryz.func21 (by kernel_rfl) rfl (alN ..)
theorem ahO(a0 a1):Yw (DD X (n+1)) a0 a1=Yo (DD X n) n a0 a1:=sQ hX n Tryz.func23 (by kernel_rfl) rfl (ahi ..)
theorem ajB(a0 a1):Px (DD X (n+1)) a0 a1=q71 (DD X n) n a0 a1:=sQ hX n Tryz.func29 (by kernel_rfl) rfl (ai0 ..)
theorem ae7(a0):qtt (DD X (n+1)) a0=qt2 (DD X n) n a0:=sQ hX n Tryz.func30 (by kernel_rfl) rfl (aeV ..)
theorem ajF(a0 a1):V9 (DD X (n+1)) a0 a1=q75 (DD X n) n a0 a1:=sQ hX n Tryz.func34 (by kernel_rfl) rfl (ai3 ..)
theorem aja(a0):vS (DD X (n+1)) a0=q8a (DD X n) n a0:=sQ hX n Tryz.func35 (by kernel_rfl) rfl (ajo ..)
theorem ahM(a0 a1):Yt (DD X (n+1)) a0 a1=Ym (DD X n) n a0 a1:=sQ hX n Tryz.func37 (by kernel_rfl) rfl (ahg ..)
theorem ajA(a0 a1 a2):V7 (DD X (n+1)) a0 a1 a2=q70 (DD X n) n a0 a1 a2:=sQ hX n Tryz.func38 (by kernel_rfl) rfl (aiZ ..)
theorem aiR(a0):VY (DD X (n+1)) a0=ZZ (DD X n) n a0:=sQ hX n Tryz.func39 (by kernel_rfl) rfl (aiz ..)
theorem afV(a0):zL (DD X (n+1)) a0=qvx (DD X n) n a0:=sQ hX n Tryz.func40 (by kernel_rfl) rfl (afK ..)
theorem ahN(a0):Yu (DD X (n+1)) a0=Yn (DD X n) n a0:=sQ hX n Tryz.func42 (by kernel_rfl) rfl (ahh ..)
theorem ajj(a0):q7z (DD X (n+1)) a0=q8i (DD X n) n a0:=sQ hX n Tryz.func44 (by kernel_rfl) rfl (ajx ..)
theorem aev(a0):qrr (DD X (n+1)) a0=qrx (DD X n) n a0:=sQ hX n Tryz.func45 (by kernel_rfl) rfl (aeq ..)
theorem afJ(a0):qvw (DD X (n+1)) a0=qv4 (DD X n) n a0:=sQ hX n Tryz.func46 (by kernel_rfl) rfl (afU ..)
theorem ah3(a0 a1):rP (DD X (n+1)) a0 a1=Y6 (DD X n) n a0 a1:=sQ hX n Tryz.func47 (by kernel_rfl) rfl (ahE ..)
theorem ais(a0 a1 a2):ZS (DD X (n+1)) a0 a1 a2=ZH (DD X n) n a0 a1 a2:=sQ hX n Tryz.func48 (by kernel_rfl) rfl (aiK ..)
theorem aiP(a0 a1):ZM (DD X (n+1)) a0 a1=ZX (DD X n) n a0 a1:=sQ hX n Tryz.func49 (by kernel_rfl) rfl (ain ..)
theorem age(a0):JZ (DD X (n+1)) a0=qxy (DD X n) n a0:=sQ hX n Tryz.func50 (by kernel_rfl) rfl (agx ..)
theorem afD(a0):q7u (DD X (n+1)) a0=qvy (DD X n) n a0:=sQ hX n Tryz.func51 (by kernel_rfl) rfl (afL ..)
theorem aiY(a0 a1):ZR (DD X (n+1)) a0 a1=ZD (DD X n) n a0 a1:=sQ hX n Tryz.func52 (by kernel_rfl) rfl (aiG ..)
theorem ait(a0):ZT (DD X (n+1)) a0=ZI (DD X n) n a0:=sQ hX n Tryz.func53 (by kernel_rfl) rfl (aiL ..)
theorem afH(a0):q7x (DD X (n+1)) a0=qv2 (DD X n) n a0:=sQ hX n Tryz.func54 (by kernel_rfl) rfl (afS ..)
theorem afG(a0):qvv (DD X (n+1)) a0=qv1 (DD X n) n a0:=sQ hX n Tryz.func55 (by kernel_rfl) rfl (afR ..)
theorem aeu(a0):JW (DD X (n+1)) a0=qrw (DD X n) n a0:=sQ hX n Tryz.func56 (by kernel_rfl) rfl (aep ..)
theorem PS(a0 a1):J8 (DD X (n+1)) a0 a1=UY (DD X n) n a0 a1:=sQ hX n Tryz.func57 (by kernel_rfl) rfl (aae ..)
theorem aav(a0 a1 a2):kE (DD X (n+1)) a0 a1 a2=P5 (DD X n) n a0 a1 a2:=sQ hX n Tryz.func58 (by kernel_rfl) rfl (aag ..)
theorem ae8(a0):qtu (DD X (n+1)) a0=qt3 (DD X n) n a0:=sQ hX n Tryz.func59 (by kernel_rfl) rfl (aeW ..)
theorem ahS(a0 a1 a2):Yx (DD X (n+1)) a0 a1 a2=Yr (DD X n) n a0 a1 a2:=sQ hX n Tryz.func60 (by kernel_rfl) rfl (ahm ..)
theorem ajH(a0):IK (DD X (n+1)) a0=q77 (DD X n) n a0:=sQ hX n Tryz.func63 (by kernel_rfl) rfl (ajl ..)
theorem qog(a0 a1):qd4 (DD X (n+1)) a0 a1=qd8 (DD X n) n a0 a1:=sQ hX n Tryz.func64 (by kernel_rfl) rfl (qoc ..)
theorem aiS(a0):TK (DD X (n+1)) a0=Z0 (DD X n) n a0:=sQ hX n Tryz.func66 (by kernel_rfl) rfl (aiA ..)
theorem adA(a0 a1):Vq (DD X (n+1)) a0 a1=qms (DD X n) n a0 a1:=sQ hX n Tryz.func67 (by kernel_rfl) rfl (ady ..)
theorem ahT(a0):TE (DD X (n+1)) a0=Ys (DD X n) n a0:=sQ hX n Tryz.func68 (by kernel_rfl) rfl (ahn ..)
theorem qvc(a0):SX (DD X (n+1)) a0=Vs (DD X n) n a0:=sQ hX n Tryz.func69 (by kernel_rfl) rfl (adx ..)
theorem ahR:tD (DD X (n+1))=OT (DD X n) n:=sQ hX n Tryz.func70 (by kernel_rfl) rfl (ahl ..)
theorem aaw(a0):J9 (DD X (n+1)) a0=P6 (DD X n) n a0:=sQ hX n Tryz.func71 (by kernel_rfl) rfl (aah ..)
theorem ahQ(a0):yA (DD X (n+1)) a0=Yq (DD X n) n a0:=sQ hX n Tryz.func73 (by kernel_rfl) rfl (ahk ..)
theorem adB(a0 a1):Vr (DD X (n+1)) a0 a1=qmt (DD X n) n a0 a1:=sQ hX n Tryz.func74 (by kernel_rfl) rfl (adz ..)
theorem aiW(a0 a1):J4 (DD X (n+1)) a0 a1=Pa (DD X n) n a0 a1:=sQ hX n Tryz.func75 (by kernel_rfl) rfl (aiE ..)
theorem ajJ(a0):zM (DD X (n+1)) a0=q79 (DD X n) n a0:=sQ hX n Tryz.func76 (by kernel_rfl) rfl (ajn ..)
theorem ahJ(a0):tC (DD X (n+1)) a0=Yj (DD X n) n a0:=sQ hX n Tryz.func77 (by kernel_rfl) rfl (ahd ..)
theorem ahH(a0 a1 a2):VQ (DD X (n+1)) a0 a1 a2=YI (DD X n) n a0 a1 a2:=sQ hX n Tryz.func78 (by kernel_rfl) rfl (ahb ..)
theorem aes(a0 a1 a2):Vw (DD X (n+1)) a0 a1 a2=qru (DD X n) n a0 a1 a2:=sQ hX n Tryz.func79 (by kernel_rfl) rfl (aen ..)
theorem aaq(a0):Ds (DD X (n+1)) a0=Gy (DD X n) n a0:=sQ hX n Tryz.func80 (by kernel_rfl) rfl (aaa ..)
theorem agD(a0 a1):qxn (DD X (n+1)) a0 a1=qxx (DD X n) n a0 a1:=sQ hX n Tryz.func81 (by kernel_rfl) rfl (agw ..)
theorem ahU(a0 a1):Yy (DD X (n+1)) a0 a1=YT (DD X n) n a0 a1:=sQ hX n Tryz.func82 (by kernel_rfl) rfl (aho ..)
theorem ahr(a0):Yz (DD X (n+1)) a0=YZ (DD X n) n a0:=sQ hX n Tryz.func83 (by kernel_rfl) rfl (ag4 ..)
theorem ahX(a0):II (DD X (n+1)) a0=YW (DD X n) n a0:=sQ hX n Tryz.func85 (by kernel_rfl) rfl (ag1 ..)
theorem ahw:YE (DD X (n+1))=OU (DD X n) n:=sQ hX n Tryz.func90 (by kernel_rfl) rfl (ahB ..)
theorem ajc(a0 a1):Wa (DD X (n+1)) a0 a1=q8c (DD X n) n a0 a1:=sQ hX n Tryz.func91 (by kernel_rfl) rfl (ajq ..)
theorem afI(a0 a1):VF (DD X (n+1)) a0 a1=qv3 (DD X n) n a0 a1:=sQ hX n Tryz.func92 (by kernel_rfl) rfl (afT ..)
theorem aew(a0):qrs (DD X (n+1)) a0=qry (DD X n) n a0:=sQ hX n Tryz.func93 (by kernel_rfl) rfl (aer ..)
theorem air(a0):IJ (DD X (n+1)) a0=ZG (DD X n) n a0:=sQ hX n Tryz.func94 (by kernel_rfl) rfl (aiJ ..)
theorem qx3(a0):Vk (DD X (n+1)) a0=qh2 (DD X n) n a0:=sQ hX n Tryz.func95 (by kernel_rfl) rfl (qxu ..)
theorem ahy(a0):YF (DD X (n+1)) a0=Y5 (DD X n) n a0:=sQ hX n Tryz.func96 (by kernel_rfl) rfl (ahD ..)
theorem aay(a0 a1 a2):lY (DD X (n+1)) a0 a1 a2=PO (DD X n) n a0 a1 a2:=sQ hX n Tryz.func97 (by kernel_rfl) rfl (aaj ..)
theorem aje(a0):TV (DD X (n+1)) a0=q8e (DD X n) n a0:=sQ hX n Tryz.func98 (by kernel_rfl) rfl (ajs ..)
theorem aip(a0):VZ (DD X (n+1)) a0=ZE (DD X n) n a0:=sQ hX n Tryz.func99 (by kernel_rfl) rfl (aiH ..)
theorem ah4(a0):YG (DD X (n+1)) a0=Y7 (DD X n) n a0:=sQ hX n Tryz.func100 (by kernel_rfl) rfl (ahF ..)
theorem agh(a0 a1):qxr (DD X (n+1)) a0 a1=qx0 (DD X n) n a0 a1:=sQ hX n Tryz.func101 (by kernel_rfl) rfl (agz ..)
theorem agi(a0 a1):qxt (DD X (n+1)) a0 a1=qx1 (DD X n) n a0 a1:=sQ hX n Tryz.func102 (by kernel_rfl) rfl (agA ..)
theorem ahW(a0):J2 (DD X (n+1)) a0=YV (DD X n) n a0:=sQ hX n Tryz.func103 (by kernel_rfl) rfl (ag0 ..)
theorem afe(a0):JX (DD X (n+1)) a0=qt9 (DD X n) n a0:=sQ hX n Tryz.func104 (by kernel_rfl) rfl (ae4 ..)
theorem adF(a0 a1):qng (DD X (n+1)) a0 a1=qni (DD X n) n a0 a1:=sQ hX n Tryz.func105 (by kernel_rfl) rfl (adD ..)
theorem aec(a0 a1):qqa (DD X (n+1)) a0 a1=qqg (DD X n) n a0 a1:=sQ hX n Tryz.func106 (by kernel_rfl) rfl (ad_ ..)
theorem ahL(a0 a1):VR (DD X (n+1)) a0 a1=Yl (DD X n) n a0 a1:=sQ hX n Tryz.func107 (by kernel_rfl) rfl (ahf ..)
theorem qod(a0 a1):qd3 (DD X (n+1)) a0 a1=qd5 (DD X n) n a0 a1:=sQ hX n Tryz.func109 (by kernel_rfl) rfl (qn9 ..)
theorem ahP(a0):OP (DD X (n+1)) a0=Yp (DD X n) n a0:=sQ hX n Tryz.func110 (by kernel_rfl) rfl (ahj ..)
theorem aiO(a0):ZL (DD X (n+1)) a0=ZW (DD X n) n a0:=sQ hX n Tryz.func111 (by kernel_rfl) rfl (aim ..)
theorem aiT(a0 a1):ZN (DD X (n+1)) a0 a1=Z1 (DD X n) n a0 a1:=sQ hX n Tryz.func112 (by kernel_rfl) rfl (aiB ..)
theorem qqm(a0 a1):qiq (DD X (n+1)) a0 a1=qfd (DD X n) n a0 a1:=sQ hX n Tryz.func113 (by kernel_rfl) rfl (qqf ..)
theorem q65(a0 a1):Vn (DD X (n+1)) a0 a1=qkg (DD X n) n a0 a1:=sQ hX n Tryz.func114 (by kernel_rfl) rfl (q63 ..)
theorem ahK(a0):yz (DD X (n+1)) a0=Yk (DD X n) n a0:=sQ hX n Tryz.func115 (by kernel_rfl) rfl (ahe ..)
theorem yB(a0 a1 a2):OQ (DD X (n+1)) a0 a1 a2=uQ (DD X n) n a0 a1 a2:=sQ hX n Tryz.func116 (by kernel_rfl) rfl (ag5 ..)
theorem yC(a0 a1):OR (DD X (n+1)) a0 a1=uR (DD X n) n a0 a1:=sQ hX n Tryz.func117 (by kernel_rfl) rfl (ag6 ..)
theorem ajG(a0):TU (DD X (n+1)) a0=q76 (DD X n) n a0:=sQ hX n Tryz.func118 (by kernel_rfl) rfl (ajk ..)
theorem ahY(a0):VT (DD X (n+1)) a0=YX (DD X n) n a0:=sQ hX n Tryz.func119 (by kernel_rfl) rfl (ag2 ..)
theorem qrj(a0 a1):qfn (DD X (n+1)) a0 a1=qfo (DD X n) n a0 a1:=sQ hX n Tryz.func120 (by kernel_rfl) rfl (qri ..)
theorem afa(a0):q54 (DD X (n+1)) a0=qt6 (DD X n) n a0:=sQ hX n Tryz.func121 (by kernel_rfl) rfl (ae0 ..)
theorem qof(a0 a1):Va (DD X (n+1)) a0 a1=qd7 (DD X n) n a0 a1:=sQ hX n Tryz.func122 (by kernel_rfl) rfl (qob ..)
theorem afb(a0):q55 (DD X (n+1)) a0=qt7 (DD X n) n a0:=sQ hX n Tryz.func123 (by kernel_rfl) rfl (ae1 ..)
theorem ahq(a0):VU (DD X (n+1)) a0=YY (DD X n) n a0:=sQ hX n Tryz.func124 (by kernel_rfl) rfl (ag3 ..)
theorem afF(a0):JY (DD X (n+1)) a0=qv0 (DD X n) n a0:=sQ hX n Tryz.func125 (by kernel_rfl) rfl (afQ ..)
theorem qoe(a0 a1):U_ (DD X (n+1)) a0 a1=qd6 (DD X n) n a0 a1:=sQ hX n Tryz.func126 (by kernel_rfl) rfl (qoa ..)
theorem afc(a0 a1):q56 (DD X (n+1)) a0 a1=qt8 (DD X n) n a0 a1:=sQ hX n Tryz.func127 (by kernel_rfl) rfl (ae2 ..)
theorem ajM(a0):Wc (DD X (n+1)) a0=q8j (DD X n) n a0:=sQ hX n Tryz.func132 (by kernel_rfl) rfl (ajy ..)
theorem ajN(a0):Ci (DD X (n+1)) a0=Pz (DD X n) n a0:=sQ hX n Tryz.func133 (by kernel_rfl) rfl (ajz ..)
theorem ajf(a0):q7w (DD X (n+1)) a0=q8f (DD X n) n a0:=sQ hX n Tryz.func134 (by kernel_rfl) rfl (ajt ..)
theorem ahv(a0):YD (DD X (n+1)) a0=Y4 (DD X n) n a0:=sQ hX n Tryz.func135 (by kernel_rfl) rfl (ahA ..)
theorem ajh(a0):q7y (DD X (n+1)) a0=q8h (DD X n) n a0:=sQ hX n Tryz.func136 (by kernel_rfl) rfl (ajv ..)
theorem ahu(a0 a1):YC (DD X (n+1)) a0 a1=Y3 (DD X n) n a0 a1:=sQ hX n Tryz.func137 (by kernel_rfl) rfl (ahz ..)
theorem aht(a0):YB (DD X (n+1)) a0=Y2 (DD X n) n a0:=sQ hX n Tryz.func138 (by kernel_rfl) rfl (ag9 ..)
theorem ahx:VV (DD X (n+1))=OV (DD X n) n:=sQ hX n Tryz.func139 (by kernel_rfl) rfl (ahC ..)
theorem aiX(a0):ZQ (DD X (n+1)) a0=ZC (DD X n) n a0:=sQ hX n Tryz.func140 (by kernel_rfl) rfl (aiF ..)
theorem aiq(a0 a1):O_ (DD X (n+1)) a0 a1=ZF (DD X n) n a0 a1:=sQ hX n Tryz.func141 (by kernel_rfl) rfl (aiI ..)
theorem ajg(a0):Dq (DD X (n+1)) a0=q8g (DD X n) n a0:=sQ hX n Tryz.func143 (by kernel_rfl) rfl (aju ..)
theorem aji(a0):TW (DD X (n+1)) a0=Py (DD X n) n a0:=sQ hX n Tryz.func145 (by kernel_rfl) rfl (ajw ..)
theorem aax(a0):UX (DD X (n+1)) a0=GD (DD X n) n a0:=sQ hX n Tryz.func146 (by kernel_rfl) rfl (aai ..)
theorem aiu(a0 a1):ZU (DD X (n+1)) a0 a1=ZJ (DD X n) n a0 a1:=sQ hX n Tryz.func147 (by kernel_rfl) rfl (aiM ..)
theorem que(a0):qgi (DD X (n+1)) a0=qgl (DD X n) n a0:=sQ hX n Tryz.func148 (by kernel_rfl) rfl (qtz ..)
theorem qrz(a0):Vg (DD X (n+1)) a0=qfw (DD X n) n a0:=sQ hX n Tryz.func149 (by kernel_rfl) rfl (qrt ..)
theorem qud(a0):qgh (DD X (n+1)) a0=qgk (DD X n) n a0:=sQ hX n Tryz.func150 (by kernel_rfl) rfl (qty ..)
theorem quc(a0):qgg (DD X (n+1)) a0=qgj (DD X n) n a0:=sQ hX n Tryz.func151 (by kernel_rfl) rfl (qtx ..)
theorem aa3(a0):GI (DD X (n+1)) a0=GL (DD X n) n a0:=sQ hX n Tryz.func152 (by kernel_rfl) rfl (aaZ ..)
theorem aiN(a0 a1):ZK (DD X (n+1)) a0 a1=ZV (DD X n) n a0 a1:=sQ hX n Tryz.func153 (by kernel_rfl) rfl (ail ..)
theorem aas(a0 a1):J7 (DD X (n+1)) a0 a1=GA (DD X n) n a0 a1:=sQ hX n Tryz.func154 (by kernel_rfl) rfl (aac ..)
theorem aau(a0 a1):T4 (DD X (n+1)) a0 a1=GC (DD X n) n a0 a1:=sQ hX n Tryz.func155 (by kernel_rfl) rfl (aaf ..)
theorem aa2(a0):GH (DD X (n+1)) a0=GK (DD X n) n a0:=sQ hX n Tryz.func156 (by kernel_rfl) rfl (aaY ..)
theorem aet(a0 a1 a2):S_ (DD X (n+1)) a0 a1 a2=qrv (DD X n) n a0 a1 a2:=sQ hX n Tryz.func157 (by kernel_rfl) rfl (aeo ..)
theorem ae_(a0 a1 a2):S8 (DD X (n+1)) a0 a1 a2=qt5 (DD X n) n a0 a1 a2:=sQ hX n Tryz.func158 (by kernel_rfl) rfl (aeY ..)
theorem aap(a0 a1):Gv (DD X (n+1)) a0 a1=Gx (DD X n) n a0 a1:=sQ hX n Tryz.func159 (by kernel_rfl) rfl (aam ..)
theorem aiQ(a0 a1):VX (DD X (n+1)) a0 a1=ZY (DD X n) n a0 a1:=sQ hX n Tryz.func160 (by kernel_rfl) rfl (aio ..)
theorem ajD(a0 a1 a2 a3):V8 (DD X (n+1)) a0 a1 a2 a3=q73 (DD X n) n a0 a1 a2 a3:=sQ hX n Tryz.func161 (by kernel_rfl) rfl (ai2 ..)
theorem qqj(a0 a1):qin (DD X (n+1)) a0 a1=qfa (DD X n) n a0 a1:=sQ hX n Tryz.func162 (by kernel_rfl) rfl (qqc ..)
theorem quf(a0 a1):qj8 (DD X (n+1)) a0 a1=qgm (DD X n) n a0 a1:=sQ hX n Tryz.func163 (by kernel_rfl) rfl (qt0 ..)
theorem qql(a0 a1):qip (DD X (n+1)) a0 a1=qfc (DD X n) n a0 a1:=sQ hX n Tryz.func164 (by kernel_rfl) rfl (qqe ..)
theorem qqk(a0 a1):qio (DD X (n+1)) a0 a1=qfb (DD X n) n a0 a1:=sQ hX n Tryz.func165 (by kernel_rfl) rfl (qqd ..)
theorem ajd(a0):Wb (DD X (n+1)) a0=q8d (DD X n) n a0:=sQ hX n Tryz.func166 (by kernel_rfl) rfl (ajr ..)
theorem ahs(a0):YA (DD X (n+1)) a0=Y1 (DD X n) n a0:=sQ hX n Tryz.func167 (by kernel_rfl) rfl (ag8 ..)
theorem aa4(a0 a1):U3 (DD X (n+1)) a0 a1=GM (DD X n) n a0 a1:=sQ hX n Tryz.func168 (by kernel_rfl) rfl (aa0 ..)
theorem adu(a0 a1):Vo (DD X (n+1)) a0 a1=qlm (DD X n) n a0 a1:=sQ hX n Tryz.func169 (by kernel_rfl) rfl (adt ..)
theorem ajb(a0 a1):V_ (DD X (n+1)) a0 a1=q8b (DD X n) n a0 a1:=sQ hX n Tryz.func170 (by kernel_rfl) rfl (ajp ..)
theorem aiU(a0 a1):ZO (DD X (n+1)) a0 a1=ZA (DD X n) n a0 a1:=sQ hX n Tryz.func171 (by kernel_rfl) rfl (aiC ..)
theorem aat(a0 a1):uS (DD X (n+1)) a0 a1=GB (DD X n) n a0 a1:=sQ hX n Tryz.func172 (by kernel_rfl) rfl (aad ..)
theorem ajI(a0):yD (DD X (n+1)) a0=q78 (DD X n) n a0:=sQ hX n Tryz.func173 (by kernel_rfl) rfl (ajm ..)
theorem ahV(a0 a1 a2 a3):VS (DD X (n+1)) a0 a1 a2 a3=YU (DD X n) n a0 a1 a2 a3:=sQ hX n Tryz.func174 (by kernel_rfl) rfl (ahp ..)
theorem adG(a0):Vp (DD X (n+1)) a0=qnj (DD X n) n a0:=sQ hX n Tryz.func175 (by kernel_rfl) rfl (adE ..)
theorem aiV(a0 a1 a2 a3 a4):ZP (DD X (n+1)) a0 a1 a2 a3 a4=ZB (DD X n) n a0 a1 a2 a3 a4:=sQ hX n Tryz.func176 (by kernel_rfl) rfl (aiD ..)
theorem ahI(a0 a1):OC (DD X (n+1)) a0 a1=YJ (DD X n) n a0 a1:=sQ hX n Tryz.func177 (by kernel_rfl) rfl (ahc ..)
theorem qqi(a0 a1):SZ (DD X (n+1)) a0 a1=S0 (DD X n) n a0 a1:=sQ hX n Tryz.func178 (by kernel_rfl) rfl (aea ..)
theorem qv5(a0 a1):qy (DD X (n+1)) a0 a1=Td (DD X n) n a0 a1:=sQ hX n Tryz.func179 (by kernel_rfl) rfl (afM ..)
theorem afd(a0 a1):tB (DD X (n+1)) a0 a1=q58 (DD X n) n a0 a1:=sQ hX n Tryz.func180 (by kernel_rfl) rfl (ae3 ..)
theorem qv6(a0 a1 a2 a3 a4):vO (DD X (n+1)) a0 a1 a2 a3 a4=Te (DD X n) n a0 a1 a2 a3 a4:=sQ hX n Tryz.func181 (by kernel_rfl) rfl (afO ..)
theorem qpm(a0 a1):Vf (DD X (n+1)) a0 a1=qex (DD X n) n a0 a1:=sQ hX n Tryz.func182 (by kernel_rfl) rfl (qpk ..)
theorem afE(a0 a1):q7v (DD X (n+1)) a0 a1=qvz (DD X n) n a0 a1:=sQ hX n Tryz.func183 (by kernel_rfl) rfl (afP ..)
theorem q3r(a0 a1 a2 a3):qz (DD X (n+1)) a0 a1 a2 a3=qjo (DD X n) n a0 a1 a2 a3:=sQ hX n Tryz.func184 (by kernel_rfl) rfl (q3q ..)
theorem q8k(a0 a1 a2):IC (DD X (n+1)) a0 a1 a2=VG (DD X n) n a0 a1 a2:=sQ hX n Tryz.func186 (by kernel_rfl) rfl (afN ..)
theorem qug(a0 a1 a2 a3 a4):qo (DD X (n+1)) a0 a1 a2 a3 a4=qgn (DD X n) n a0 a1 a2 a3 a4:=sQ hX n Tryz.func187 (by kernel_rfl) rfl (qt1 ..)
theorem qvd(a0 a1 a2):qkn (DD X (n+1)) a0 a1 a2=qgy (DD X n) n a0 a1 a2:=sQ hX n Tryz.func188 (by kernel_rfl) rfl (qvb ..)
theorem ahG(a0 a1):yx (DD X (n+1)) a0 a1=YH (DD X n) n a0 a1:=sQ hX n Tryz.func194 (by kernel_rfl) rfl (aha ..)
theorem qos(a0 a1 a2 a3):qhy (DD X (n+1)) a0 a1 a2 a3=qem (DD X n) n a0 a1 a2 a3:=sQ hX n Tryz.func199 (by kernel_rfl) rfl (qoq ..)
theorem agB(a0):qxh (DD X (n+1)) a0=qxv (DD X n) n a0:=sQ hX n Tryz.func212 (by kernel_rfl) rfl (agu ..)
theorem agf(a0):VO (DD X (n+1)) a0=qxz (DD X n) n a0:=sQ hX n Tryz.func185 (by kernel_rfl) rfl (agy ..)
theorem aff(a0):q57 (DD X (n+1)) a0=rO (DD X n) n a0:=sQ hX n Tryz.func198 (by kernel_rfl) rfl (ae5 ..)
end
end Go.G

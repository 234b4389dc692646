import Derived.Test.YtpmimbgkiindbaaGreatAPFnAllDone0
set_option maxRecDepth 100000
set_option linter.unusedVariables false
set_option linter.unusedSimpArgs false
set_option linter.unusedSectionVars false
open Go.IntKind (wrap)
namespace Go.G
set_option maxHeartbeats 0
open Go Go.V
noncomputable section
def PU(D:DX)(n:Nat)(a0:aj)(a1:Int):Option ag:=br (decide (a0.2.1=0)) (br (decide (a0.2.2.1=0)) (qd (lZ D a0.1 0 1000) fun p0=>some ((p0.1.1,()),())) (some ((false,()),()))) (br (decide (a0.1=0)) (qd (lZ D a0.2.1 1 a1) fun p1=>br p1.1.1 (qd (lZ D a0.2.2.1 1 1000000) fun p2=>some ((p2.1.1,()),())) (some ((false,()),()))) (some ((false,()),())))
def q45(D:DX)(n:Nat)(a0:aj)(a1:Int):Option ag:=PU D n a0 a1
theorem aiu(D:DX)(n:Nat)(a0:aj)(a1:Int):rF D n 141 (a0,(a1,()))=q45 D n a0 a1:=by kernel_rfl
def Qb(D:DX)(n:Nat)(a0:Int):Option ag:=qd (lZ D a0 1 6) fun b=>some ((b.1.1,()),())
def q8g(D:DX)(n:Nat)(a0:Int):Option ag:=Qb D n a0
theorem ajf(D:DX)(n:Nat)(a0:Int):rF D n 143 (a0,())=q8g D n a0:=by kernel_rfl
def aak(D:DX)(n:Nat)(a0:Bool):Option aF:=br a0 (some ((1,()),())) (some ((0,()),()))
def P7(D:DX)(n:Nat)(a0:Bool):Option aF:=aak D n a0
theorem ajh(D:DX)(n:Nat)(a0:Bool):rF D n 145 (a0,())=P7 D n a0:=by kernel_rfl
def QH(D:DX)(n:Nat)(a0:aj):Option ag:=let y1:Option ag:=(qd (Dl D a0.2.2.1) fun p7=>some ((p7.1.1,()),()));let y0:Option ag:=(qd (lZ D a0.2.1 0 2) fun p1=>qd (Cf D a0.1) fun p5=>br p5.1.1 (br p1.1.1 y1 (some ((false,()),()))) (some ((bif p1.1.1 then decide (a0.2.2.1=0) else false,()),())));qd (lZ D a0.1 1 10) fun p3=>br (!p3.1.1) (some ((false,()),())) (qd (WR D a0.1) fun p4=>br p4.1.1 (qd (WQ D a0.2.1) fun p0=>br (decide (a0.1=6)) y0 (qd (Cf D a0.1) fun p6=>br p6.1.1 (br p0.1.1 y1 (some ((false,()),()))) (some ((bif p0.1.1 then decide (a0.2.2.1=0) else false,()),())))) (br (decide (a0.1=6)) y0 (qd (Cf D a0.1) fun p2=>br p2.1.1 (br (decide (a0.2.1=0)) y1 (some ((false,()),()))) (some ((bif decide (a0.2.1=0) then decide (a0.2.2.1=0) else false,()),())))))
def Gq(D:DX)(n:Nat)(a0:aj):Option ag:=QH D n a0
theorem aai(D:DX)(n:Nat)(a0:aj):rF D n 146 (a0,())=Gq D n a0:=by kernel_rfl
def Z5(D:DX)(n:Nat)(go:Int->Int->aD->Option aF)(K0:Int->Option aF)(K1:Option aF)(x0 x1:Int)(x2:aD):Option aF:=br (decide (x1>=0)) (br (decide (0<=x1)&&decide (x1<(x2.2.2.2.1.length:Int))) (br (decide ((List.getD x2.2.2.2.1 x1.toNat (0,(0,0,0,()),0,0,0,(0,[],()),())).1=x0)) (K0 x1) (go x0 (wrap .i64 (x1-1)) x2)) none) K1
def WA(D:DX)(n:Nat)(K0:Int->Option aF)(K1:Option aF):Nat->Int->Int->aD->Option aF | 0=>(fun x0 x1 x2=>none) | m+1=>(fun x0 x1 x2=>Z5 D n (WA D n K0 K1 m) K0 K1 x0 x1 x2)
def agl(D:DX)(n:Nat)(a:Int):Option aF:=some ((a,()),())
def agm(D:DX)(n:Nat):Option aF:=some ((-1,()),())
def qzz(D:DX)(n:Nat):(Int)->(Int)->aD->Option aF:=(fun x0 x1 x2=>WA D n (fun a=>agl D n a) (agm D n) n x0 x1 x2)
def q53(D:DX)(n:Nat)(cz:Int->Int->aD->Option aF)(a0:aD)(a1:Int):Option aF:=cz a1 (wrap .i64 ((a0.2.2.2.1.length:Int)-1)) a0
def q49(D:DX)(n:Nat)(a0:aD)(a1:Int):Option aF:=q53 D n (qzz D n) a0 a1
def Z4(x0 x1:Int)(x2:aD):St:=bq 23 [(1,AV.val ah x0),(2,AV.addr 2 []),(5,AV.val ah x1)] [(2,aC.mk cP Mk.no x2 true)]
def q96(a:Int):St:=bq 23 [(4,AV.val ah a)] []
def q97:St:=bq 23 [] []
theorem agQ(D:DX)(n:Nat)(K:KT 147):∀(m:Nat)(x0 x1:Int)(x2:aD),LF D n 147 eJ m (Z4 x0 x1 x2) K=WA D n (fun a=>K (Ex.ret) (q96 a)) (K (Ex.exit 0) (q97)) m x0 x1 x2:=pJ (fun F=>Z5 D n F (fun a=>K (Ex.ret) (q96 a)) (K (Ex.exit 0) (q97)))
theorem agk(D:DX)(n:Nat)(x0)(x1)(x2):LF D n 147 eJ n (Z4 x0 x1 x2) (CF D n 147 [] eJ (lF 147))=qzz D n x0 x1 x2 :=by rw[agQ];kernel_rfl
theorem aiy(D:DX)(n:Nat)(a0:aD)(a1:Int):rF D n 147 (a0,(a1,()))=q49 D n a0 a1:=by
 have h:rF D n 147 (a0,(a1,()))=q53 D n (fun x0 x1 x2=>LF D n 147 eJ n (Z4 x0 x1 x2) (CF D n 147 [] eJ (lF 147))) a0 a1:=by kernel_rfl
 rw[h];simp only[agk];rfl
def qkd(D:DX)(n:Nat)(a0:List aj):Option mO:=br (decide (Int.toNat (a0.length:Int)=0)) (both (some (([],()),())) (br (decide (0+a0.length<=f_)) (some (([]++a0,()),())) none)) (br (decide (0+a0.length<=f_)) (some (([]++a0,()),())) none)
def qgl(D:DX)(n:Nat)(a0:List aj):Option mO:=qkd D n a0
theorem qtz(D:DX)(n:Nat)(a0:List aj):rF D n 148 (a0,())=qgl D n a0:=by kernel_rfl
def qjv(D:DX)(n:Nat)(a0:List aj):Option mO:=br (decide (Int.toNat (a0.length:Int)=0)) (both (some (([],()),())) (br (decide (0+a0.length<=f_)) (some (([]++a0,()),())) none)) (br (decide (0+a0.length<=f_)) (some (([]++a0,()),())) none)
def qfw(D:DX)(n:Nat)(a0:List aj):Option mO:=qjv D n a0
theorem qrt(D:DX)(n:Nat)(a0:List aj):rF D n 149 (a0,())=qfw D n a0:=by kernel_rfl
def qkc(D:DX)(n:Nat)(a0:List bE):Option ((List bE×Unit)×Unit):=br (decide (Int.toNat (a0.length:Int)=0)) (both (some (([],()),())) (br (decide (0+a0.length<=f_)) (some (([]++a0,()),())) none)) (br (decide (0+a0.length<=f_)) (some (([]++a0,()),())) none)
def qgk(D:DX)(n:Nat)(a0:List bE):Option ((List bE×Unit)×Unit):=qkc D n a0
theorem qty(D:DX)(n:Nat)(a0:List bE):rF D n 150 (a0,())=qgk D n a0:=by kernel_rfl
def qkb(D:DX)(n:Nat)(a0:List cF):Option ((List cF×Unit)×Unit):=br (decide (Int.toNat (a0.length:Int)=0)) (both (some (([],()),())) (br (decide (0+a0.length<=f_)) (some (([]++a0,()),())) none)) (br (decide (0+a0.length<=f_)) (some (([]++a0,()),())) none)
def qgj(D:DX)(n:Nat)(a0:List cF):Option ((List cF×Unit)×Unit):=qkb D n a0
theorem qtx(D:DX)(n:Nat)(a0:List cF):rF D n 151 (a0,())=qgj D n a0:=by kernel_rfl
def Q5(D:DX)(n:Nat)(a0:aN):Option ((cF×gR)×Unit):=br (decide ((a0.2.2.2.2.1.length:Int)=0)) (some (((0,0,0,0,()),false,()),())) (br (decide (0<=wrap .i64 ((a0.2.2.2.2.1.length:Int)-1))&&decide (wrap .i64 ((a0.2.2.2.2.1.length:Int)-1)<(a0.2.2.2.2.1.length:Int))) (some ((List.getD a0.2.2.2.2.1 (Int.toNat (wrap .i64 ((a0.2.2.2.2.1.length:Int)-1))) (0,0,0,0,()),true,()),())) none)
def Gz(D:DX)(n:Nat)(a0:aN):Option ((cF×gR)×Unit):=Q5 D n a0
theorem aaY(D:DX)(n:Nat)(a0:aN):rF D n 152 (a0,())=Gz D n a0:=by kernel_rfl
def PM(D:DX)(n:Nat)(a0:aT)(a1:cF):Option tq6:=let y0:=Int.toNat (if 0>a1.2.2.2.1 then 0 else a1.2.2.2.1);qd (Kv D a0) fun p0=>let y1:=List.getD p0.1.1.2.1 a1.1.toNat (0,0,[],(0,[],()),());let y2:=List.getD y1.2.2.1 a1.2.2.2.1.toNat (0,0,0,());let y3:=List.getD y1.2.2.1 y0 (0,0,0,());let y4:=Int.toNat y3.1;let y5:=Int.toNat y2.1;let y6:=List.set p0.1.1.1 y4 (y3.2.1,0,0,());let y7:=List.set p0.1.1.1 y5 (y2.2.1,0,0,());qd (Dp D (p0.1.1.1,p0.1.1.2.1,())) fun p3=>br (!p3.1.1) (some (((p0.1.1.1,p0.1.1.2.1,()),a1,(0,0,0,0,()),2,()),())) (qd (k_ D a1.1 0 (wrap .i64 ((p0.1.1.2.1.length:Int)-1))) fun p4=>br (bif !p4.1.1 then true else decide (a1.2.1<1)) (some (((p0.1.1.1,p0.1.1.2.1,()),a1,(0,0,0,0,()),2,()),())) (br (decide (0<=a1.1)&&decide (a1.1<(p0.1.1.2.1.length:Int))) (br (y1.1 != a1.2.1) (some (((p0.1.1.1,p0.1.1.2.1,()),a1,(0,0,0,0,()),2,()),())) (br (decide (0<=a1.1)&&decide (a1.1<(p0.1.1.2.1.length:Int))) (br (bif y1.2.1 != 0 then bif decide (y1.2.1=1) then true else decide (a1.2.2.2.1<(y1.2.2.1.length:Int)) else false) (br (decide (y1.2.1=1)) (qd (VC D (p0.1.1.1,p0.1.1.2.1,()) (a1.1,a1.2.1,if 0>a1.2.2.1 then 0 else a1.2.2.1,if 0>a1.2.2.2.1 then 0 else a1.2.2.2.1,a1.2.2.2.2)) fun p1=>some (((p1.2.1.1,p1.2.1.2.1,()),p1.1.1,p1.1.2.1,p1.1.2.2.1,()),())) (br (bif decide (y1.2.1=0) then true else decide ((if 0>a1.2.2.2.1 then 0 else a1.2.2.2.1)>=(y1.2.2.1.length:Int))) (some (((p0.1.1.1,p0.1.1.2.1,()),(a1.1,a1.2.1,if 0>a1.2.2.1 then 0 else a1.2.2.1,if 0>a1.2.2.2.1 then 0 else a1.2.2.2.1,a1.2.2.2.2),(0,0,0,0,()),2,()),())) (br (decide (0<=if 0>a1.2.2.2.1 then 0 else a1.2.2.2.1)&&decide ((if 0>a1.2.2.2.1 then 0 else a1.2.2.2.1)<(y1.2.2.1.length:Int))) (br (decide (0<=y3.1)&&decide (y3.1<(p0.1.1.1.length:Int))) (br (pP bT (List.getD p0.1.1.1 y4 (0,0,0,())) (0,wrap .i64 (a1.1+1),a1.2.1,())) (br (decide (y1.2.1=2)) (some (((List.set y6 y4 (y3.2.2.1,(List.getD y6 y4 (0,0,0,())).2),p0.1.1.2.1,()),(a1.1,a1.2.1,if 0>a1.2.2.1 then 0 else a1.2.2.1,wrap .i64 ((if 0>a1.2.2.2.1 then 0 else a1.2.2.2.1)+1),a1.2.2.2.2),(0,0,0,0,()),0,()),())) (some (((y6,p0.1.1.2.1,()),(a1.1,a1.2.1,if 0>a1.2.2.1 then 0 else a1.2.2.1,wrap .i64 ((if 0>a1.2.2.2.1 then 0 else a1.2.2.2.1)+1),a1.2.2.2.2),(0,0,0,0,()),0,()),()))) (some (((p0.1.1.1,p0.1.1.2.1,()),(a1.1,a1.2.1,if 0>a1.2.2.1 then 0 else a1.2.2.1,wrap .i64 ((if 0>a1.2.2.2.1 then 0 else a1.2.2.2.1)+1),a1.2.2.2.2),(0,0,0,0,()),0,()),()))) none) none))) (br (decide (y1.2.1=1)) (qd (VC D (p0.1.1.1,p0.1.1.2.1,()) a1) fun p2=>some (((p2.2.1.1,p2.2.1.2.1,()),p2.1.1,p2.1.2.1,p2.1.2.2.1,()),())) (br (bif decide (y1.2.1=0) then true else decide (a1.2.2.2.1>=(y1.2.2.1.length:Int))) (some (((p0.1.1.1,p0.1.1.2.1,()),a1,(0,0,0,0,()),2,()),())) (br (decide (0<=a1.2.2.2.1)&&decide (a1.2.2.2.1<(y1.2.2.1.length:Int))) (br (decide (0<=y2.1)&&decide (y2.1<(p0.1.1.1.length:Int))) (br (pP bT (List.getD p0.1.1.1 y5 (0,0,0,())) (0,wrap .i64 (a1.1+1),a1.2.1,())) (br (decide (y1.2.1=2)) (some (((List.set y7 y5 (y2.2.2.1,(List.getD y7 y5 (0,0,0,())).2),p0.1.1.2.1,()),(a1.1,a1.2.1,a1.2.2.1,wrap .i64 (a1.2.2.2.1+1),a1.2.2.2.2),(0,0,0,0,()),0,()),())) (some (((y7,p0.1.1.2.1,()),(a1.1,a1.2.1,a1.2.2.1,wrap .i64 (a1.2.2.2.1+1),a1.2.2.2.2),(0,0,0,0,()),0,()),()))) (some (((p0.1.1.1,p0.1.1.2.1,()),(a1.1,a1.2.1,a1.2.2.1,wrap .i64 (a1.2.2.2.1+1),a1.2.2.2.2),(0,0,0,0,()),0,()),()))) none) none)))) none)) none))
def q4t(D:DX)(n:Nat)(a0:aT)(a1:cF):Option tq6:=PM D n a0 a1
theorem ah7(D:DX)(n:Nat)(a0:aT)(a1:cF):rF D n 153 (a0,(a1,()))=q4t D n a0 a1:=by kernel_rfl
def Qx(D:DX)(n:Nat)(a0:aN)(a1:cF):Option jk:=qd (Kq D a0) fun b=>br (decide (b.1.1.2.2.2.2.1.length+1<=f_)) (some (((b.1.1.1,b.1.1.2.1,b.1.1.2.2.1,b.1.1.2.2.2.1,b.1.1.2.2.2.2.1++[a1],()),()),())) none
def Gm(D:DX)(n:Nat)(a0:aN)(a1:cF):Option jk:=Qx D n a0 a1
theorem aac(D:DX)(n:Nat)(a0:aN)(a1:cF):rF D n 154 (a0,(a1,()))=Gm D n a0 a1:=by kernel_rfl
def Qy(D:DX)(n:Nat)(a0:aN)(a1:cF):Option jk:=qd (Kq D a0) fun p0=>br (decide ((p0.1.1.2.2.2.2.1.length:Int)>0)) (br (decide (0<=wrap .i64 ((p0.1.1.2.2.2.2.1.length:Int)-1))&&decide (wrap .i64 ((p0.1.1.2.2.2.2.1.length:Int)-1)<(p0.1.1.2.2.2.2.1.length:Int))) (some (((p0.1.1.1,p0.1.1.2.1,p0.1.1.2.2.1,p0.1.1.2.2.2.1,List.set p0.1.1.2.2.2.2.1 (Int.toNat (wrap .i64 ((p0.1.1.2.2.2.2.1.length:Int)-1))) a1,()),()),())) none) (some (((p0.1.1.1,p0.1.1.2.1,p0.1.1.2.2.1,p0.1.1.2.2.2.1,p0.1.1.2.2.2.2.1,()),()),()))
def Gp(D:DX)(n:Nat)(a0:aN)(a1:cF):Option jk:=Qy D n a0 a1
theorem aaf(D:DX)(n:Nat)(a0:aN)(a1:cF):rF D n 155 (a0,(a1,()))=Gp D n a0 a1:=by kernel_rfl
def Q4(D:DX)(n:Nat)(a0:aN):Option jk:=qd (Kq D a0) fun p0=>br (decide ((p0.1.1.2.2.2.2.1.length:Int)>0)) (br (decide (0<=wrap .i64 ((p0.1.1.2.2.2.2.1.length:Int)-1))&&decide (wrap .i64 ((p0.1.1.2.2.2.2.1.length:Int)-1)<=(p0.1.1.2.2.2.2.1.length:Int))) (some (((p0.1.1.1,p0.1.1.2.1,p0.1.1.2.2.1,p0.1.1.2.2.2.1,List.take (Int.toNat (wrap .i64 ((p0.1.1.2.2.2.2.1.length:Int)-1))) p0.1.1.2.2.2.2.1,()),()),())) none) (some (((p0.1.1.1,p0.1.1.2.1,p0.1.1.2.2.1,p0.1.1.2.2.2.1,p0.1.1.2.2.2.2.1,()),()),()))
def Gy(D:DX)(n:Nat)(a0:aN):Option jk:=Q4 D n a0
theorem aaX(D:DX)(n:Nat)(a0:aN):rF D n 156 (a0,())=Gy D n a0:=by kernel_rfl
def q0b(D:DX)(n:Nat)(z0:Int)(z1:aD):Option wE:=let y5:=List.getD z1.2.1 z0.toNat ([],0,false,[],[],());let y2:=List.set z1.2.1 z0.toNat (y5.1,wrap .i64 (y5.2.1+1),y5.2.2);let y6:=List.getD y2 z0.toNat ([],0,false,[],[],());let y0:=List.set y2 z0.toNat (y6.1,y6.2.1,false,y6.2.2.2);let y4:=List.getD y0 z0.toNat ([],0,false,[],[],());let y1:=List.set y0 z0.toNat (y4.1,y4.2.1,y4.2.2.1,[],y4.2.2.2.2);let y3:=List.getD y1 z0.toNat ([],0,false,[],[],());br (decide (0<=z0)&&decide (z0<(z1.2.1.length:Int))) (some ((),(z1.1,List.set y1 z0.toNat (y3.1,y3.2.1,y3.2.2.1,y3.2.2.2.1,[],y3.2.2.2.2.2),z1.2.2),())) none
def qqt(D:DX)(n:Nat)(z0:Int)(z1:aD):Option wE:=q0b D n z0 z1
def qsf(D:DX)(n:Nat)(j0:Int->aD->Option wE)(a0:aD)(a1:Int)(a2:eP):Option wE:=qd (V2 D a0 a1) fun p0=>let y2:=List.getD p0.2.1.2.2.2.1 p0.1.1.toNat (0,(0,0,0,()),0,0,0,(0,[],()),());let y0:=List.set p0.2.1.2.2.2.1 p0.1.1.toNat (y2.1,y2.2.1,y2.2.2.1,y2.2.2.2.1,p0.2.1.2.2.1,y2.2.2.2.2.2);let y1:=List.getD y0 p0.1.1.toNat (0,(0,0,0,()),0,0,0,(0,[],()),());br (decide (p0.1.1>=0)) (br (decide (0<=p0.1.1)&&decide (p0.1.1<(p0.2.1.2.2.2.1.length:Int))) (qd (I_ D a2) fun p1=>br (decide (0<=p0.1.1)&&decide (p0.1.1<(y0.length:Int))) (j0 a1 (p0.2.1.1,p0.2.1.2.1,p0.2.1.2.2.1,List.set y0 p0.1.1.toNat (y1.1,y1.2.1,y1.2.2.1,y1.2.2.2.1,y1.2.2.2.2.1,(p1.1.1.1,p1.1.1.2.1,()),y1.2.2.2.2.2.2),p0.2.1.2.2.2.2)) none) none) (j0 a1 p0.2.1)
def qrv(D:DX)(n:Nat)(a0:aD)(a1:Int)(a2:eP):Option wE:=qsf D n (fun z0 z1=>qqt D n z0 z1) a0 a1 a2
def qym(z0:Int)(z1:aD):St:=bq 55 [(0,AV.addr 0 []),(1,AV.val ah z0)] [(0,aC.mk cP Aw z1 true)]
theorem adz(D:DX)(n:Nat)(z0)(z1):m3 ctx D (ctx.hints 157) n (tL (bF 157) [.r,.r]) (qym z0 z1) (lF 157)=qqt D n z0 z1:=by kernel_rfl
theorem ad0(D:DX)(n:Nat)(K:St->Option (Out ctx 157))(a0:aD)(a1:Int)(a2:eP):uN ctx D (ctx.hints 157) n 2 (bF 157) (Ip (C:=ctx) v_ 157 (a0,(a1,(a2,())))) K (lF 157)=qsf D n (fun z0 z1=>K (qym z0 z1)) a0 a1 a2:=by kernel_rfl
theorem ael(D:DX)(n:Nat)(a0:aD)(a1:Int)(a2:eP):rF D n 157 (a0,(a1,(a2,())))=qrv D n a0 a1 a2:=
 (ade v_ D n 157 _ (by kernel_rfl)).trans ((acR ctx D (ctx.hints 157) n 2 (lF 157) (bF 157) [.r,.r] _ rfl (by kernel_rfl)).symm.trans ((ad0 D n (fun S=>m3 ctx D (ctx.hints 157) n (tL (bF 157) [.r,.r]) S (lF 157)) a0 a1 a2).trans (by simp only[adz];rfl)))
def q6g(D:DX)(n:Nat)(a0:aD)(a1:Int)(a2:eP):Option wE:=qd (V2 D a0 a1) fun p0=>let y2:=List.getD p0.2.1.2.2.2.1 p0.1.1.toNat (0,(0,0,0,()),0,0,0,(0,[],()),());let y0:=List.set p0.2.1.2.2.2.1 p0.1.1.toNat (y2.1,y2.2.1,y2.2.2.1,p0.2.1.2.2.1,y2.2.2.2.2);let y1:=List.getD y0 p0.1.1.toNat (0,(0,0,0,()),0,0,0,(0,[],()),());br (decide (p0.1.1<0)) (some ((),p0.2.1,())) (br (decide (0<=p0.1.1)&&decide (p0.1.1<(p0.2.1.2.2.2.1.length:Int))) (qd (I_ D a2) fun p1=>br (decide (0<=p0.1.1)&&decide (p0.1.1<(y0.length:Int))) (br (decide (p0.2.1.2.2.2.2.1.length+1<=f_)) (some ((),(p0.2.1.1,p0.2.1.2.1,p0.2.1.2.2.1,List.set y0 p0.1.1.toNat (y1.1,y1.2.1,y1.2.2.1,y1.2.2.2.1,y1.2.2.2.2.1,(p1.1.1.1,p1.1.1.2.1,()),y1.2.2.2.2.2.2),p0.2.1.2.2.2.2.1++[p0.1.1],p0.2.1.2.2.2.2.2),())) none) none) none)
def qt5(D:DX)(n:Nat)(a0:aD)(a1:Int)(a2:eP):Option wE:=q6g D n a0 a1 a2
theorem aeV(D:DX)(n:Nat)(a0:aD)(a1:Int)(a2:eP):rF D n 158 (a0,(a1,(a2,())))=qt5 D n a0 a1 a2:=by kernel_rfl
def Qv(D:DX)(n:Nat)(a0:aj)(a1:List bE):Option aF:=qd (Dq D a0) fun b=>br (!b.1.1) (some ((-1,()),())) (qd (WN D a0 a1) fun b=>some ((b.1.1.2.2.1,()),()))
def Gj(D:DX)(n:Nat)(a0:aj)(a1:List bE):Option aF:=Qv D n a0 a1
theorem aam(D:DX)(n:Nat)(a0:aj)(a1:List bE):rF D n 159 (a0,(a1,()))=Gj D n a0 a1:=by kernel_rfl
def ZQ(D:DX)(n:Nat)(go:List bE->Int->Int->Int->Int->aj->jl->jl->cW->Option nD)(K0:List bE->aj->jl->jl->Option nD)(x0:List bE)(x1 x2 x3 x4:Int)(x5:aj)(x6 x7:jl)(x8:cW):Option nD:=br (decide (x4<x3)) (br (decide (0<=x4)&&decide (x4<(x8.2.1.length:Int))) (qd (u_ D x0 (List.getD x8.2.1 x4.toNat 0)) fun p0=>qd (q4n D x5 (List.getD x8.2.1 x4.toNat 0) p0.1.1 x2 x1) fun p1=>br (decide (x7.2.2.1.length+1<=f_)) (br (decide (x5.1=7)) (br (decide (x7.2.1.2.1.length+1<=f_)) (go x0 x1 x2 x3 (wrap .i64 (x4+1)) x5 x6 (x7.1,(x7.2.1.1,x7.2.1.2.1++[p0.1.1],x7.2.1.2.2),x7.2.2.1++[(List.getD x8.2.1 x4.toNat 0,p0.1.1,p1.1.1,())],x7.2.2.2) x8) none) (go x0 x1 x2 x3 (wrap .i64 (x4+1)) x5 x6 (x7.1,x7.2.1,x7.2.2.1++[(List.getD x8.2.1 x4.toNat 0,p0.1.1,p1.1.1,())],x7.2.2.2) x8)) none) none) (K0 x0 x5 x6 x7)
def Kw(D:DX)(n:Nat)(K0:List bE->aj->jl->jl->Option nD):Nat->(List bE)->Int->Int->Int->Int->aj->jl->jl->cW->Option nD | 0=>(fun x0 x1 x2 x3 x4 x5 x6 x7 x8=>none) | m+1=>(fun x0 x1 x2 x3 x4 x5 x6 x7 x8=>ZQ D n (Kw D n K0 m) K0 x0 x1 x2 x3 x4 x5 x6 x7 x8)
def T5(D:DX)(n:Nat)(c:List bE)(b:aj)(d a:jl):Option nD:=br (decide (b.1=10)) (qd (v5 D b.2.2.1) fun p1=>qd (u_ D c p1.1.1) fun p0=>br (p0.1.1 != 0) (some (((a.1,(0,[wrap .i64 (p0.1.1-1)],()),a.2.2.1,()),true,()),())) (some (((a.1,(3,a.2.1.2.1,()),a.2.2.1,()),true,()),()))) (some (((a.1,(a.2.1.1,a.2.1.2.1,()),a.2.2.1,()),true,()),()))
def qyq(D:DX)(n:Nat):(List bE)->(Int)->(Int)->(Int)->(Int)->aj->jl->jl->cW->Option nD:=(fun x0 x1 x2 x3 x4 x5 x6 x7 x8=>Kw D n (fun a b c d=>T5 D n a b c d) n x0 x1 x2 x3 x4 x5 x6 x7 x8)
def q5j(D:DX)(n:Nat)(cz:List bE->Int->Int->Int->Int->aj->jl->jl->cW->Option nD)(a0:aj)(a1:List bE):Option nD:=qd (Dq D a0) fun p9=>br (!p9.1.1) (some (((false,(0,[],()),[],()),false,()),())) (qd (WN D a0 a1) fun p0=>br (decide (p0.1.1.2.2.1>=0)) (some (((false,(0,[],()),[],()),false,()),())) (qd (q4m D a0 a1) fun p2=>br p2.1.2.1 (some (((true,(p2.1.1.1,p2.1.1.2.1,()),[],()),true,()),())) (qd (sH D) fun jx=>qd (u_ D a1 jx.1.1) fun p1=>qd (yG D a0.2.1) fun jR=>qd (u_ D a1 jR.1.1) fun p5=>br (decide (a0.1=9)) (qd (yG D (wrap .i64 (p1.1.1-1))) fun kY=>qd (u_ D a1 kY.1.1) fun p6=>br (bif bif decide (a0.1=1) then true else decide (a0.1=2) then true else decide (a0.1=3)) (qd (Ww D a0 a1 p6.1.1 p1.1.1) fun p7=>some (((false,(0,[],()),p7.1.1,()),true,()),())) (qd (V3 D p0.1.1.2.1) fun p3=>cz a1 p1.1.1 p6.1.1 (p3.2.1.length:Int) 0 a0 (false,(0,[],()),[],()) (false,(0,[],()),[],()) (p0.1.1.1,p3.2.1,p0.1.1.2.2))) (br (bif bif decide (a0.1=1) then true else decide (a0.1=2) then true else decide (a0.1=3)) (qd (Ww D a0 a1 p5.1.1 p1.1.1) fun p8=>some (((false,(0,[],()),p8.1.1,()),true,()),())) (qd (V3 D p0.1.1.2.1) fun p4=>cz a1 p1.1.1 p5.1.1 (p4.2.1.length:Int) 0 a0 (false,(0,[],()),[],()) (false,(0,[],()),[],()) (p0.1.1.1,p4.2.1,p0.1.1.2.2))))))
def q4w(D:DX)(n:Nat)(a0:aj)(a1:List bE):Option nD:=q5j D n (qyq D n) a0 a1
def ZP(x0:List bE)(x1 x2 x3 x4:Int)(x5:aj)(x6 x7:jl)(x8:cW):St:=bq 154 [(1,AV.val iZ x0),(2,AV.addr 2 []),(4,AV.addr 4 []),(9,AV.val ah x1),(11,AV.val ah x2),(13,AV.addr 13 []),(95,AV.b8 26 [ox.snd,ox.fst] 0),(96,AV.val ah x3),(97,AV.val ah x4)] [(2,aC.mk bT Mk.no x5 true),(4,aC.mk rD Ax x6 true),(13,aC.mk rD Ax x7 true),(26,aC.mk mQ oZ x8 true)]
def q80(a:List bE)(b:aj)(c d:jl):St:=bq 154 [(1,AV.val iZ a),(2,AV.addr 2 []),(4,AV.addr 4 []),(13,AV.addr 13 [])] [(2,aC.mk bT Mk.no b true),(4,aC.mk rD Ax c true),(13,aC.mk rD Ax d true)]
theorem agB(D:DX)(n:Nat)(K:KT 160):∀(m:Nat)(x0:List bE)(x1 x2 x3 x4:Int)(x5:aj)(x6 x7:jl)(x8:cW),LF D n 160 Mo m (ZP x0 x1 x2 x3 x4 x5 x6 x7 x8) K=Kw D n (fun a b c d=>K (Ex.exit 0) (q80 a b c d)) m x0 x1 x2 x3 x4 x5 x6 x7 x8:=UX (fun F=>ZQ D n F (fun a b c d=>K (Ex.exit 0) (q80 a b c d)))
theorem afZ(D:DX)(n:Nat)(x0)(x1)(x2)(x3)(x4)(x5)(x6)(x7)(x8):LF D n 160 Mo n (ZP x0 x1 x2 x3 x4 x5 x6 x7 x8) (CF D n 160 [] Mo (lF 160))=qyq D n x0 x1 x2 x3 x4 x5 x6 x7 x8 :=by rw[agB];kernel_rfl
theorem ah_(D:DX)(n:Nat)(a0:aj)(a1:List bE):rF D n 160 (a0,(a1,()))=q4w D n a0 a1:=by
 have h:rF D n 160 (a0,(a1,()))=q5j D n (fun x0 x1 x2 x3 x4 x5 x6 x7 x8=>LF D n 160 Mo n (ZP x0 x1 x2 x3 x4 x5 x6 x7 x8) (CF D n 160 [] Mo (lF 160))) a0 a1:=by kernel_rfl
 rw[h];simp only[afZ];rfl
def PZ(D:DX)(n:Nat)(a0:aT)(a1:Int)(a2:List aj)(a3:eP):Option tq8:=let y0:=List.getD a0.2.1 a1.toNat (0,0,[],(0,[],()),());qd (Kv D a0) fun p0=>qd (Dp D a0) fun p4=>br (!p4.1.1) (some (((p0.1.1.1,p0.1.1.2.1,()),(0,0,0,0,()),false,()),())) (qd (k_ D a1 0 (wrap .i64 ((a0.2.1.length:Int)-1))) fun p5=>br (!p5.1.1) (some (((p0.1.1.1,p0.1.1.2.1,()),(0,0,0,0,()),false,()),())) (qd (VS D a0.1 (a_.mk 177 [bC.cq ah a1])) fun p6=>br p6.1.1 (some (((p0.1.1.1,p0.1.1.2.1,()),(0,0,0,0,()),false,()),())) (br (decide (0<=a1)&&decide (a1<(a0.2.1.length:Int))) (qd (Kv D a0) fun p1=>qd (VU D a2) fun p3=>qd (I_ D a3) fun p2=>br (decide (0<=a1)&&decide (a1<(p1.1.1.2.1.length:Int))) (qd (Dp D (p1.1.1.1,List.set p1.1.1.2.1 a1.toNat (wrap .i64 (y0.1+1),1,p3.1.1,(p2.1.1.1,p2.1.1.2.1,()),()),())) fun p7=>br (!p7.1.1) (some (((p0.1.1.1,p0.1.1.2.1,()),(0,0,0,0,()),false,()),())) (some (((p1.1.1.1,List.set p1.1.1.2.1 a1.toNat (wrap .i64 (y0.1+1),1,p3.1.1,(p2.1.1.1,p2.1.1.2.1,()),()),()),(a1,wrap .i64 (y0.1+1),0,0,()),true,()),()))) none) none)))
def q73(D:DX)(n:Nat)(a0:aT)(a1:Int)(a2:List aj)(a3:eP):Option tq8:=PZ D n a0 a1 a2 a3
theorem aiN(D:DX)(n:Nat)(a0:aT)(a1:Int)(a2:List aj)(a3:eP):rF D n 161 (a0,(a1,(a2,(a3,()))))=q73 D n a0 a1 a2 a3:=by kernel_rfl
def qez(D:DX)(n:Nat)(a1:a_)(go:List bH->Int->Int->Option aF)(K0:Int->Option aF)(K1:Option aF)(x0:List bH)(x1 x2:Int):Option aF:=br (decide (x2<x1)) (br (decide (0<=x2)&&decide (x2<(x0.length:Int))) (qd (gF ctx D a1 [bC.val wF (List.getD x0 x2.toNat (0,0,[],(0,[],()),()))] Ty.bool) fun b=>br b (K0 x2) (go x0 x1 (wrap .i64 (x2+1)))) none) K1
def Kf(D:DX)(n:Nat)(a1:a_)(K0:Int->Option aF)(K1:Option aF):Nat->(List bH)->Int->Int->Option aF | 0=>(fun x0 x1 x2=>none) | m+1=>(fun x0 x1 x2=>qez D n a1 (Kf D n a1 K0 K1 m) K0 K1 x0 x1 x2)
def qd9(D:DX)(n:Nat)(a1:a_)(a:Int):Option aF:=some ((a,()),())
def qea(D:DX)(n:Nat)(a1:a_):Option aF:=some ((-1,()),())
def qep(D:DX)(n:Nat)(a1:a_):(List bH)->(Int)->(Int)->Option aF:=(fun x0 x1 x2=>Kf D n a1 (fun a=>qd9 D n a1 a) (qea D n a1) n x0 x1 x2)
def qff(D:DX)(n:Nat)(a1:a_)(cz:List bH->Int->Int->Option aF)(a0:List bH):Option aF:=cz a0 (a0.length:Int) 0
def qfa(D:DX)(n:Nat)(a0:List bH)(a1:a_):Option aF:=qff D n a1 (qep D n a1) a0
def qey(a1:a_)(x0:List bH)(x1 x2:Int):St:=bq 19 [(0,AV.val CJ x0),(1,AV.ep a1),(7,AV.val ah x1),(8,AV.val ah x2)] []
def qhq(a1:a_)(a:Int):St:=bq 19 [(4,AV.val ah a)] []
def qhr(a1:a_):St:=bq 19 [] []
theorem qo3(D:DX)(n:Nat)(a1:a_)(K:KT 162):∀(m:Nat)(x0:List bH)(x1 x2:Int),LF D n 162 eJ m (qey a1 x0 x1 x2) K=Kf D n a1 (fun a=>K (Ex.ret) (qhq a1 a)) (K (Ex.exit 0) (qhr a1)) m x0 x1 x2:=pJ (fun F=>qez D n a1 F (fun a=>K (Ex.ret) (qhq a1 a)) (K (Ex.exit 0) (qhr a1)))
theorem qoh(D:DX)(n:Nat)(a1:a_)(x0)(x1)(x2):LF D n 162 eJ n (qey a1 x0 x1 x2) (CF D n 162 [] eJ (lF 162))=qep D n a1 x0 x1 x2 :=by rw[qo3];kernel_rfl
theorem qqc(D:DX)(n:Nat)(a0:List bH)(a1:a_):rF D n 162 (a0,(a1,()))=qfa D n a0 a1:=by
 have h:rF D n 162 (a0,(a1,()))=qff D n a1 (fun x0 x1 x2=>LF D n 162 eJ n (qey a1 x0 x1 x2) (CF D n 162 [] eJ (lF 162))) a0:=by kernel_rfl
 rw[h];simp only[qoh];rfl
def qf7(D:DX)(n:Nat)(a1:a_)(go:List aj->Int->Int->Option aF)(K0:Int->Option aF)(K1:Option aF)(x0:List aj)(x1 x2:Int):Option aF:=br (decide (x2<x1)) (br (decide (0<=x2)&&decide (x2<(x0.length:Int))) (qd (gF ctx D a1 [bC.val bT (List.getD x0 x2.toNat (0,0,0,()))] Ty.bool) fun b=>br b (K0 x2) (go x0 x1 (wrap .i64 (x2+1)))) none) K1
def Kj(D:DX)(n:Nat)(a1:a_)(K0:Int->Option aF)(K1:Option aF):Nat->(List aj)->Int->Int->Option aF | 0=>(fun x0 x1 x2=>none) | m+1=>(fun x0 x1 x2=>qf7 D n a1 (Kj D n a1 K0 K1 m) K0 K1 x0 x1 x2)
def qfp(D:DX)(n:Nat)(a1:a_)(a:Int):Option aF:=some ((a,()),())
def qfq(D:DX)(n:Nat)(a1:a_):Option aF:=some ((-1,()),())
def qfz(D:DX)(n:Nat)(a1:a_):(List aj)->(Int)->(Int)->Option aF:=(fun x0 x1 x2=>Kj D n a1 (fun a=>qfp D n a1 a) (qfq D n a1) n x0 x1 x2)
def qgp(D:DX)(n:Nat)(a1:a_)(cz:List aj->Int->Int->Option aF)(a0:List aj):Option aF:=cz a0 (a0.length:Int) 0
def qgm(D:DX)(n:Nat)(a0:List aj)(a1:a_):Option aF:=qgp D n a1 (qfz D n a1) a0
def qf6(a1:a_)(x0:List aj)(x1 x2:Int):St:=bq 19 [(0,AV.val bV x0),(1,AV.ep a1),(7,AV.val ah x1),(8,AV.val ah x2)] []
def qi9(a1:a_)(a:Int):St:=bq 19 [(4,AV.val ah a)] []
def qja(a1:a_):St:=bq 19 [] []
theorem qsp(D:DX)(n:Nat)(a1:a_)(K:KT 163):∀(m:Nat)(x0:List aj)(x1 x2:Int),LF D n 163 eJ m (qf6 a1 x0 x1 x2) K=Kj D n a1 (fun a=>K (Ex.ret) (qi9 a1 a)) (K (Ex.exit 0) (qja a1)) m x0 x1 x2:=pJ (fun F=>qf7 D n a1 F (fun a=>K (Ex.ret) (qi9 a1 a)) (K (Ex.exit 0) (qja a1)))
theorem qrk(D:DX)(n:Nat)(a1:a_)(x0)(x1)(x2):LF D n 163 eJ n (qf6 a1 x0 x1 x2) (CF D n 163 [] eJ (lF 163))=qfz D n a1 x0 x1 x2 :=by rw[qsp];kernel_rfl
theorem qt0(D:DX)(n:Nat)(a0:List aj)(a1:a_):rF D n 163 (a0,(a1,()))=qgm D n a0 a1:=by
 have h:rF D n 163 (a0,(a1,()))=qgp D n a1 (fun x0 x1 x2=>LF D n 163 eJ n (qf6 a1 x0 x1 x2) (CF D n 163 [] eJ (lF 163))) a0:=by kernel_rfl
 rw[h];simp only[qrk];rfl
def qe3(D:DX)(n:Nat)(a1:a_)(go:List bE->Int->Int->Option aF)(K0:Int->Option aF)(K1:Option aF)(x0:List bE)(x1 x2:Int):Option aF:=br (decide (x2<x1)) (br (decide (0<=x2)&&decide (x2<(x0.length:Int))) (qd (gF ctx D a1 [bC.val sW (List.getD x0 x2.toNat (0,0,()))] Ty.bool) fun b=>br b (K0 x2) (go x0 x1 (wrap .i64 (x2+1)))) none) K1
def Kh(D:DX)(n:Nat)(a1:a_)(K0:Int->Option aF)(K1:Option aF):Nat->(List bE)->Int->Int->Option aF | 0=>(fun x0 x1 x2=>none) | m+1=>(fun x0 x1 x2=>qe3 D n a1 (Kh D n a1 K0 K1 m) K0 K1 x0 x1 x2)
def qed(D:DX)(n:Nat)(a1:a_)(a:Int):Option aF:=some ((a,()),())
def qee(D:DX)(n:Nat)(a1:a_):Option aF:=some ((-1,()),())
def qer(D:DX)(n:Nat)(a1:a_):(List bE)->(Int)->(Int)->Option aF:=(fun x0 x1 x2=>Kh D n a1 (fun a=>qed D n a1 a) (qee D n a1) n x0 x1 x2)
def qfh(D:DX)(n:Nat)(a1:a_)(cz:List bE->Int->Int->Option aF)(a0:List bE):Option aF:=cz a0 (a0.length:Int) 0
def qfc(D:DX)(n:Nat)(a0:List bE)(a1:a_):Option aF:=qfh D n a1 (qer D n a1) a0
def qe2(a1:a_)(x0:List bE)(x1 x2:Int):St:=bq 19 [(0,AV.val iZ x0),(1,AV.ep a1),(7,AV.val ah x1),(8,AV.val ah x2)] []
def qhu(a1:a_)(a:Int):St:=bq 19 [(4,AV.val ah a)] []
def qhv(a1:a_):St:=bq 19 [] []
theorem qo5(D:DX)(n:Nat)(a1:a_)(K:KT 164):∀(m:Nat)(x0:List bE)(x1 x2:Int),LF D n 164 eJ m (qe2 a1 x0 x1 x2) K=Kh D n a1 (fun a=>K (Ex.ret) (qhu a1 a)) (K (Ex.exit 0) (qhv a1)) m x0 x1 x2:=pJ (fun F=>qe3 D n a1 F (fun a=>K (Ex.ret) (qhu a1 a)) (K (Ex.exit 0) (qhv a1)))
theorem qoj(D:DX)(n:Nat)(a1:a_)(x0)(x1)(x2):LF D n 164 eJ n (qe2 a1 x0 x1 x2) (CF D n 164 [] eJ (lF 164))=qer D n a1 x0 x1 x2 :=by rw[qo5];kernel_rfl
theorem qqe(D:DX)(n:Nat)(a0:List bE)(a1:a_):rF D n 164 (a0,(a1,()))=qfc D n a0 a1:=by
 have h:rF D n 164 (a0,(a1,()))=qfh D n a1 (fun x0 x1 x2=>LF D n 164 eJ n (qe2 a1 x0 x1 x2) (CF D n 164 [] eJ (lF 164))) a0:=by kernel_rfl
 rw[h];simp only[qoj];rfl
def qe1(D:DX)(n:Nat)(a1:a_)(go:List cF->Int->Int->Option aF)(K0:Int->Option aF)(K1:Option aF)(x0:List cF)(x1 x2:Int):Option aF:=br (decide (x2<x1)) (br (decide (0<=x2)&&decide (x2<(x0.length:Int))) (qd (gF ctx D a1 [bC.val iN (List.getD x0 x2.toNat (0,0,0,0,()))] Ty.bool) fun b=>br b (K0 x2) (go x0 x1 (wrap .i64 (x2+1)))) none) K1
def Kg(D:DX)(n:Nat)(a1:a_)(K0:Int->Option aF)(K1:Option aF):Nat->(List cF)->Int->Int->Option aF | 0=>(fun x0 x1 x2=>none) | m+1=>(fun x0 x1 x2=>qe1 D n a1 (Kg D n a1 K0 K1 m) K0 K1 x0 x1 x2)
def qeb(D:DX)(n:Nat)(a1:a_)(a:Int):Option aF:=some ((a,()),())
def qec(D:DX)(n:Nat)(a1:a_):Option aF:=some ((-1,()),())
def qeq(D:DX)(n:Nat)(a1:a_):(List cF)->(Int)->(Int)->Option aF:=(fun x0 x1 x2=>Kg D n a1 (fun a=>qeb D n a1 a) (qec D n a1) n x0 x1 x2)
def qfg(D:DX)(n:Nat)(a1:a_)(cz:List cF->Int->Int->Option aF)(a0:List cF):Option aF:=cz a0 (a0.length:Int) 0
def qfb(D:DX)(n:Nat)(a0:List cF)(a1:a_):Option aF:=qfg D n a1 (qeq D n a1) a0
def qe0(a1:a_)(x0:List cF)(x1 x2:Int):St:=bq 19 [(0,AV.val rE x0),(1,AV.ep a1),(7,AV.val ah x1),(8,AV.val ah x2)] []
def qhs(a1:a_)(a:Int):St:=bq 19 [(4,AV.val ah a)] []
def qht(a1:a_):St:=bq 19 [] []
theorem qo4(D:DX)(n:Nat)(a1:a_)(K:KT 165):∀(m:Nat)(x0:List cF)(x1 x2:Int),LF D n 165 eJ m (qe0 a1 x0 x1 x2) K=Kg D n a1 (fun a=>K (Ex.ret) (qhs a1 a)) (K (Ex.exit 0) (qht a1)) m x0 x1 x2:=pJ (fun F=>qe1 D n a1 F (fun a=>K (Ex.ret) (qhs a1 a)) (K (Ex.exit 0) (qht a1)))
theorem qoi(D:DX)(n:Nat)(a1:a_)(x0)(x1)(x2):LF D n 165 eJ n (qe0 a1 x0 x1 x2) (CF D n 165 [] eJ (lF 165))=qeq D n a1 x0 x1 x2 :=by rw[qo4];kernel_rfl
theorem qqd(D:DX)(n:Nat)(a0:List cF)(a1:a_):rF D n 165 (a0,(a1,()))=qfb D n a0 a1:=by
 have h:rF D n 165 (a0,(a1,()))=qfg D n a1 (fun x0 x1 x2=>LF D n 165 eJ n (qe0 a1 x0 x1 x2) (CF D n 165 [] eJ (lF 165))) a0:=by kernel_rfl
 rw[h];simp only[qoi];rfl
def Qh(D:DX)(n:Nat)(a0:Int):Option ag:=qd (lZ D a0 0 3) fun b=>some ((b.1.1,()),())
def q8d(D:DX)(n:Nat)(a0:Int):Option ag:=Qh D n a0
theorem ajc(D:DX)(n:Nat)(a0:Int):rF D n 166 (a0,())=q8d D n a0:=by kernel_rfl
def PB(D:DX)(n:Nat)(a0:Int):Option aF:=qd (Dl D a0) fun b=>br (!b.1.1) (some ((-1,()),())) (some ((Int.tmod a0 3,()),()))
def Zy(D:DX)(n:Nat)(a0:Int):Option aF:=PB D n a0
theorem agY(D:DX)(n:Nat)(a0:Int):rF D n 167 (a0,())=Zy D n a0:=by kernel_rfl
def Q6(D:DX)(n:Nat)(a0:aT)(a1:cF):Option tq7:=let y1:=List.getD a0.2.1 a1.1.toNat (0,0,[],(0,[],()),());let y0:=List.getD y1.2.2.1 a1.2.2.1.toNat (0,0,0,());let y2:=List.getD a0.1 (Int.toNat y0.1) (0,0,0,());br (decide (0<=a1.1)&&decide (a1.1<(a0.2.1.length:Int))) (br (decide (a1.2.2.1>=(y1.2.2.1.length:Int))) (some ((a1,(0,0,0,0,()),3,()),(a0.1,List.set a0.2.1 a1.1.toNat (y1.1,2,y1.2.2),a0.2.2),())) (br (decide (0<=a1.2.2.1)&&decide (a1.2.2.1<(y1.2.2.1.length:Int))) (br (decide (0<=y0.1)&&decide (y0.1<(a0.1.length:Int))) (br (pP bT y2 (0,wrap .i64 (a1.1+1),a1.2.1,())) (some (((a1.1,a1.2.1,wrap .i64 (a1.2.2.1+1),a1.2.2.2),(0,0,0,0,()),0,()),a0,())) (br (y2.2.1 != 0) (some ((a1,(wrap .i64 (y2.2.1-1),y2.2.2.1,0,0,()),1,()),a0,())) (br (decide (y2.1=y0.2.1)) (some (((a1.1,a1.2.1,wrap .i64 (a1.2.2.1+1),a1.2.2.2),(0,0,0,0,()),0,()),(List.set a0.1 (Int.toNat y0.1) (0,wrap .i64 (a1.1+1),a1.2.1,()),a0.2),())) (some ((a1,(0,0,0,0,()),0,()),(a0.1,List.set a0.2.1 a1.1.toNat (y1.1,3,y1.2.2),a0.2.2),()))))) none) none)) none
def GA(D:DX)(n:Nat)(a0:aT)(a1:cF):Option tq7:=Q6 D n a0 a1
theorem aaZ(D:DX)(n:Nat)(a0:aT)(a1:cF):rF D n 168 (a0,(a1,()))=GA D n a0 a1:=by kernel_rfl
def V0(D:DX)(n:Nat)(go:Int->Int->aD->Option tV)(K0:Int->aD->Option tV)(K1:aD->Option tV)(x0 x1:Int)(x2:aD):Option tV:=let y0:=List.getD x2.2.2.2.1 x1.toNat (0,(0,0,0,()),0,0,0,(0,[],()),());br (decide (x1>=0)) (br (decide (0<=x1)&&decide (x1<(x2.2.2.2.1.length:Int))) (br (decide (y0.1=x0)) (br (decide (0<=x1)&&decide (x1<(x2.2.2.2.1.length:Int))) (br (decide (y0.2.2.2.2.1<0)) (K0 x1 x2) (go x0 (wrap .i64 (x1-1)) x2)) none) (go x0 (wrap .i64 (x1-1)) x2)) none) (K1 x2)
def Kl(D:DX)(n:Nat)(K0:Int->aD->Option tV)(K1:aD->Option tV):Nat->Int->Int->aD->Option tV | 0=>(fun x0 x1 x2=>none) | m+1=>(fun x0 x1 x2=>V0 D n (Kl D n K0 K1 m) K0 K1 x0 x1 x2)
def q5e(D:DX)(n:Nat)(a:Int)(b:aD):Option tV:=some ((a,()),b,())
def q5f(D:DX)(n:Nat)(a:aD):Option tV:=some ((-1,()),a,())
def qkk(D:DX)(n:Nat):(Int)->(Int)->aD->Option tV:=(fun x0 x1 x2=>Kl D n (fun a b=>q5e D n a b) (fun c=>q5f D n c) n x0 x1 x2)
def qln(D:DX)(n:Nat)(cz:Int->Int->aD->Option tV)(a0:aD)(a1:Int):Option tV:=cz a1 (wrap .i64 ((a0.2.2.2.1.length:Int)-1)) a0
def qlm(D:DX)(n:Nat)(a0:aD)(a1:Int):Option tV:=qln D n (qkk D n) a0 a1
def qlb(x0 x1:Int)(x2:aD):St:=bq 38 [(0,AV.addr 0 []),(1,AV.val ah x0),(5,AV.val ah x1)] [(0,aC.mk cP Aw x2 true)]
def qpr(a:Int)(b:aD):St:=bq 38 [(0,AV.addr 0 []),(4,AV.val ah a)] [(0,aC.mk cP Aw b true)]
def qps(a:aD):St:=bq 38 [(0,AV.addr 0 [])] [(0,aC.mk cP Aw a true)]
theorem q7a(D:DX)(n:Nat)(K:KT 169):∀(m:Nat)(x0 x1:Int)(x2:aD),LF D n 169 eJ m (qlb x0 x1 x2) K=Kl D n (fun a b=>K (Ex.ret) (qpr a b)) (fun c=>K (Ex.exit 0) (qps c)) m x0 x1 x2:=pJ (fun F=>V0 D n F (fun a b=>K (Ex.ret) (qpr a b)) (fun c=>K (Ex.exit 0) (qps c)))
theorem q5d(D:DX)(n:Nat)(x0)(x1)(x2):LF D n 169 eJ n (qlb x0 x1 x2) (CF D n 169 [] eJ (lF 169))=qkk D n x0 x1 x2 :=by rw[q7a];kernel_rfl
theorem adq(D:DX)(n:Nat)(a0:aD)(a1:Int):rF D n 169 (a0,(a1,()))=qlm D n a0 a1:=by
 have h:rF D n 169 (a0,(a1,()))=qln D n (fun x0 x1 x2=>LF D n 169 eJ n (qlb x0 x1 x2) (CF D n 169 [] eJ (lF 169))) a0 a1:=by kernel_rfl
 rw[h];simp only[q5d];rfl
def Uo(D:DX)(n:Nat)(go:Int->cW->Option mb)(K0:cW->Option mb)(x0:Int)(x1:cW):Option mb:=br (decide (x0<4)) (qd (yG D x0) fun b=>qd (qy D x1 b.1.1) fun b=>go (wrap .i64 (x0+1)) b.2.1) (K0 x1)
def Dk(D:DX)(n:Nat)(K0:cW->Option mb):Nat->Int->cW->Option mb | 0=>(fun x0 x1=>none) | m+1=>(fun x0 x1=>Uo D n (Dk D n K0 m) K0 x0 x1)
def O4(D:DX)(n:Nat)(a:cW):Option mb:=some ((a,()),())
def ZW(D:DX)(n:Nat):(Int)->cW->Option mb:=(fun x0 x1=>Dk D n (fun a=>O4 D n a) n x0 x1)
def q9a(D:DX)(n:Nat)(cz:Int->cW->Option mb)(a0:aj)(a1:List bE):Option mb:=let y0:Option mb:=(br (decide (a0.1=4)) (qd (yG D a0.2.1) fun n6=>qd (qy D (a1,[],-1,false,()) n6.1.1) fun n7=>some ((n7.2.1,()),())) (br (decide (a0.1=5)) (qd (yD D a0.2.2.1) fun xI=>qd (qy D (a1,[],-1,false,()) xI.1.1) fun xJ=>some ((xJ.2.1,()),())) (br (decide (a0.1=6)) (qd (yC D a0.2.1) fun xK=>qd (qy D (a1,[],-1,false,()) xK.1.1) fun xL=>some ((xL.2.1,()),())) (br (decide (a0.1=7)) (cz 0 (a1,[],-1,false,())) (br (decide (a0.1=8)) (qd (sH D) fun xM=>qd (qy D (a1,[],-1,false,()) xM.1.1) fun AB=>some ((AB.2.1,()),())) (br (decide (a0.1=9)) (qd (sH D) fun p3=>qd (qy D (a1,[],-1,false,()) p3.1.1) fun p0=>qd (tD D p0.2.1 (bif decide (p0.1.1<1) then true else decide (p0.1.1>4))) fun p4=>qd (yG D (wrap .i64 (p0.1.1-1))) fun p5=>qd (qy D p4.2.1 p5.1.1) fun p1=>qd (zN D p1.1.1) fun p6=>qd (tD D p1.2.1 !p6.1.1) fun p7=>qd (v5 D p1.1.1) fun p8=>qd (qy D p7.2.1 p8.1.1) fun p9=>some ((p9.2.1,()),())) (br (decide (a0.1=10)) (qd (sH D) fun jx=>qd (qy D (a1,[],-1,false,()) jx.1.1) fun p2=>qd (tD D p2.2.1 (p2.1.1 != 5)) fun kY=>qd (v5 D a0.2.2.1) fun nu=>qd (qy D kY.2.1 nu.1.1) fun nv=>some ((nv.2.1,()),())) (some (((a1,[],-1,false,()),()),())))))))));let y1:Option mb:=(qd (TG D (a1,[],-1,false,()) a0) fun jR=>some ((jR.2.1,()),()));br (decide (a0.1=1)) (br (decide (a0.1=1)) y1 y0) (br (decide (a0.1=2)) (br (decide (a0.1=2)) y1 y0) (br (decide (a0.1=3)) y1 y0))
def q8b(D:DX)(n:Nat)(a0:aj)(a1:List bE):Option mb:=q9a D n (ZW D n) a0 a1
def q5o(x0:Int)(x1:cW):St:=bq 100 [(5,AV.addr 12 []),(45,AV.val ah x0)] [(12,aC.mk mQ oZ x1 true)]
def O3(a:cW):St:=bq 100 [(5,AV.addr 12 [])] [(12,aC.mk mQ oZ a true)]
theorem ah2(D:DX)(n:Nat)(K:KT 170):∀(m:Nat)(x0:Int)(x1:cW),LF D n 170 Mn m (q5o x0 x1) K=Dk D n (fun a=>K (Ex.exit 1) (O3 a)) m x0 x1:=DV (fun F=>Uo D n F (fun a=>K (Ex.exit 1) (O3 a)))
theorem agE(D:DX)(n:Nat)(x0)(x1):LF D n 170 Mn n (q5o x0 x1) (CF D n 170 [] Mn (lF 170))=ZW D n x0 x1 :=by rw[ah2];kernel_rfl
theorem aja(D:DX)(n:Nat)(a0:aj)(a1:List bE):rF D n 170 (a0,(a1,()))=q8b D n a0 a1:=by
 have h:rF D n 170 (a0,(a1,()))=q9a D n (fun x0 x1=>LF D n 170 Mn n (q5o x0 x1) (CF D n 170 [] Mn (lF 170))) a0 a1:=by kernel_rfl
 rw[h];simp only[agE];rfl
def PO(D:DX)(n:Nat)(a0:aj)(a1:List bE):Option ((eP×gR)×Unit):=qd (yG D a0.2.1) fun p3=>qd (u_ D a1 p3.1.1) fun p1=>qd (yD D a0.2.2.1) fun p4=>qd (u_ D a1 p4.1.1) fun p2=>qd (sH D) fun p5=>qd (u_ D a1 p5.1.1) fun p0=>br (bif decide (a0.1=1) then p1.1.1 != 0 else false) (some (((1,[],()),true,()),())) (br (bif decide (a0.1=1) then p2.1.1 != 0 else false) (some (((2,[],()),true,()),())) (br (bif bif bif decide (a0.1=2) then true else decide (a0.1=3) then true else decide (a0.1=4) then decide (p1.1.1=0) else false) (some (((3,[],()),true,()),())) (br (bif decide (a0.1=2) then decide (p1.1.1=a0.2.2.1) else false) (some (((0,[],()),true,()),())) (br (bif decide (a0.1=2) then p2.1.1 != 0 else false) (some (((2,[],()),true,()),())) (br (decide (a0.1=4)) (some (((0,[p1.1.1],()),true,()),())) (br (bif decide (a0.1=5) then decide (p2.1.1=0) else false) (some (((3,[],()),true,()),())) (br (decide (a0.1=5)) (some (((0,[wrap .i64 (p2.1.1-1)],()),true,()),())) (br (decide (a0.1=6)) (qd (yC D a0.2.1) fun p6=>qd (u_ D a1 p6.1.1) fun p7=>some (((0,[p7.1.1],()),true,()),())) (br (bif decide (a0.1=8) then p0.1.1 != 0 else false) (br (bif decide (a0.1=8) then p0.1.1 != 0 else false) (some (((4,[],()),true,()),())) (some (((0,[],()),false,()),()))) (br (bif decide (a0.1=9) then bif decide (p0.1.1<1) then true else decide (p0.1.1>4) else false) (br (bif decide (a0.1=9) then bif decide (p0.1.1<1) then true else decide (p0.1.1>4) else false) (some (((4,[],()),true,()),())) (some (((0,[],()),false,()),()))) (br (bif decide (a0.1=10) then p0.1.1 != 5 else false) (some (((4,[],()),true,()),())) (some (((0,[],()),false,()),())))))))))))))
def Z8(D:DX)(n:Nat)(a0:aj)(a1:List bE):Option ((eP×gR)×Unit):=PO D n a0 a1
theorem aio(D:DX)(n:Nat)(a0:aj)(a1:List bE):rF D n 171 (a0,(a1,()))=Z8 D n a0 a1:=by kernel_rfl
def q84(D:DX)(n:Nat)(go:List bE->Int->Int->Option lB)(K0:Int->Bool->Option lB)(K1:Option lB)(x0:List bE)(x1 x2:Int):Option lB:=br (decide (x2>=0)) (br (decide (0<=x2)&&decide (x2<(x0.length:Int))) (br (decide ((List.getD x0 x2.toNat (0,0,())).1=x1)) (br (decide (0<=x2)&&decide (x2<(x0.length:Int))) (K0 (List.getD x0 x2.toNat (0,0,())).2.1 true) none) (go x0 x1 (wrap .i64 (x2-1)))) none) K1
def Uy(D:DX)(n:Nat)(K0:Int->Bool->Option lB)(K1:Option lB):Nat->(List bE)->Int->Int->Option lB | 0=>(fun x0 x1 x2=>none) | m+1=>(fun x0 x1 x2=>q84 D n (Uy D n K0 K1 m) K0 K1 x0 x1 x2)
def Pg(D:DX)(n:Nat)(a:Int)(b:Bool):Option lB:=some ((a,b,()),())
def Ph(D:DX)(n:Nat):Option lB:=some ((0,false,()),())
def q5l(D:DX)(n:Nat):(List bE)->(Int)->(Int)->Option lB:=(fun x0 x1 x2=>Uy D n (fun a b=>Pg D n a b) (Ph D n) n x0 x1 x2)
def Gt(D:DX)(n:Nat)(cz:List bE->Int->Int->Option lB)(a0:List bE)(a1:Int):Option lB:=cz a0 a1 (wrap .i64 ((a0.length:Int)-1))
def Gn(D:DX)(n:Nat)(a0:List bE)(a1:Int):Option lB:=Gt D n (q5l D n) a0 a1
def q83(x0:List bE)(x1 x2:Int):St:=bq 26 [(0,AV.val iZ x0),(1,AV.val ah x1),(6,AV.val ah x2)] []
def Pe(a:Int)(b:Bool):St:=bq 26 [(4,AV.val ah a),(5,AV.val Ty.bool b)] []
def Pf:St:=bq 26 [] []
theorem aiT(D:DX)(n:Nat)(K:KT 172):∀(m:Nat)(x0:List bE)(x1 x2:Int),LF D n 172 eJ m (q83 x0 x1 x2) K=Uy D n (fun a b=>K (Ex.ret) (Pe a b)) (K (Ex.exit 0) (Pf)) m x0 x1 x2:=pJ (fun F=>q84 D n F (fun a b=>K (Ex.ret) (Pe a b)) (K (Ex.exit 0) (Pf)))
theorem ah1(D:DX)(n:Nat)(x0)(x1)(x2):LF D n 172 eJ n (q83 x0 x1 x2) (CF D n 172 [] eJ (lF 172))=q5l D n x0 x1 x2 :=by rw[aiT];kernel_rfl
theorem aad(D:DX)(n:Nat)(a0:List bE)(a1:Int):rF D n 172 (a0,(a1,()))=Gn D n a0 a1:=by
 have h:rF D n 172 (a0,(a1,()))=Gt D n (fun x0 x1 x2=>LF D n 172 eJ n (q83 x0 x1 x2) (CF D n 172 [] eJ (lF 172))) a0 a1:=by kernel_rfl
 rw[h];simp only[ah1];rfl
def P3(D:DX)(n:Nat)(a0:Int):Option aF:=qd (Uu D a0) fun b=>qd (Kx D b.1.1 a0) fun b=>some ((b.1.1,()),())
def q78(D:DX)(n:Nat)(a0:Int):Option aF:=P3 D n a0
theorem ai8(D:DX)(n:Nat)(a0:Int):rF D n 173 (a0,())=q78 D n a0:=by kernel_rfl
def Px(D:DX)(n:Nat)(a0:aj)(a1:List bE)(a2 a3:Int):Option mO:=qd (yG D a0.2.1) fun jx=>qd (vW D jx.1.1 a0.2.2.1 0 a1 []) fun nv=>qd (sH D) fun n6=>qd (vW D n6.1.1 a3 0 a1 nv.2.1) fun n7=>qd (yD D a2) fun xI=>qd (vW D xI.1.1 0 0 a1 n7.2.1) fun xJ=>qd (v5 D a2) fun xK=>qd (vW D xK.1.1 0 0 a1 xJ.2.1) fun xL=>qd (yD D a0.2.2.1) fun xM=>qd (vW D xM.1.1 (wrap .i64 (a0.2.1+1)) 0 a1 xL.2.1) fun p1=>qd (v5 D a0.2.2.1) fun p2=>qd (vW D p2.1.1 (wrap .i64 (a0.2.1+1)) 0 a1 p1.2.1) fun p0=>qd (tE D a2) fun p3=>qd (tE D a0.2.2.1) fun p4=>br (p3.1.1 != p4.1.1) (qd (tE D a2) fun p5=>qd (yC D p5.1.1) fun p6=>qd (vW D p6.1.1 0 (-1) a1 p0.2.1) fun p7=>qd (tE D a0.2.2.1) fun p8=>qd (yC D p8.1.1) fun p9=>qd (vW D p9.1.1 0 1 a1 p7.2.1) fun jR=>qd (VT D jR.2.1 (a_.mk 183 [])) fun kY=>some ((kY.2.1,()),())) (qd (VT D p0.2.1 (a_.mk 183 [])) fun nu=>some ((nu.2.1,()),()))
def Zs(D:DX)(n:Nat)(a0:aj)(a1:List bE)(a2 a3:Int):Option mO:=Px D n a0 a1 a2 a3
theorem ahf(D:DX)(n:Nat)(a0:aj)(a1:List bE)(a2 a3:Int):rF D n 174 (a0,(a1,(a2,(a3,()))))=Zs D n a0 a1 a2 a3:=by kernel_rfl
def qxd(D:DX)(n:Nat)(a0:List Int):Option cS:=qd (Ws D (wrap .u64 (a0.length:Int))) fun b=>qd (qz D a0 0 (a0.length:Int) b.1.1) fun b=>some ((),b.2.1,())
def qnj(D:DX)(n:Nat)(a0:List Int):Option cS:=qxd D n a0
theorem adB(D:DX)(n:Nat)(a0:List Int):rF D n 175 (a0,())=qnj D n a0:=by kernel_rfl
def PS(D:DX)(n:Nat)(a0:aj)(a1 a2 a3 a4:Int):Option aF:=br (decide (a0.1=8)) (some ((wrap .i64 (a2+1),()),())) (br (decide (a0.1=9)) (qd (sH D) fun p0=>br (decide (a1=p0.1.1)) (some ((wrap .i64 (a2+1),()),())) (qd (v5 D a3) fun p1=>br (decide (a1=p1.1.1)) (some ((a4,()),())) (some ((a2,()),())))) (some ((a2,()),())))
def Z9(D:DX)(n:Nat)(a0:aj)(a1 a2 a3 a4:Int):Option aF:=PS D n a0 a1 a2 a3 a4
theorem aip(D:DX)(n:Nat)(a0:aj)(a1 a2 a3 a4:Int):rF D n 176 (a0,(a1,(a2,(a3,(a4,())))))=Z9 D n a0 a1 a2 a3 a4:=by kernel_rfl
def Pu(D:DX)(n:Nat)(a0:aj)(a1:Int):Option ag:=some ((decide (a0.2.1=wrap .i64 (a1+1)),()),())
def Zi(D:DX)(n:Nat)(a0:aj)(a1:Int):Option ag:=Pu D n a0 a1
theorem ag3(D:DX)(n:Nat)(a0:aj)(a1:Int):rF D n 177 (a0,(a1,()))=Zi D n a0 a1:=by kernel_rfl
def V_(D:DX)(n:Nat)(a0:cW)(a1:aj):Option jz:=qd (yG D a1.2.1) fun kY=>qd (qy D a0 kY.1.1) fun p0=>br (decide (a1.1=1)) (qd (tD D p0.2.1 (p0.1.1 != 0)) fun Mg=>qd (yD D a1.2.2.1) fun Mh=>qd (qy D Mg.2.1 Mh.1.1) fun p3=>qd (tD D p3.2.1 (p3.1.1 != 0)) fun Mi=>qd (tE D a1.2.2.1) fun Mj=>qd (yC D Mj.1.1) fun Ml=>qd (qy D Mi.2.1 Ml.1.1) fun Mm=>qd (I6 D Mm.2.1 a1.2.1 [a1.2.2.1]) fun p4=>some ((),p4.2.1,())) (br (decide (a1.1=2)) (qd (tD D p0.2.1 (bif decide (p0.1.1=0) then true else decide (p0.1.1=a1.2.2.1))) fun p5=>qd (yD D a1.2.2.1) fun p6=>qd (qy D p5.2.1 p6.1.1) fun p1=>qd (tD D p1.2.1 (p1.1.1 != 0)) fun p7=>qd (yD D p0.1.1) fun p8=>qd (qy D p7.2.1 p8.1.1) fun p2=>qd (tE D p0.1.1) fun p9=>qd (tE D a1.2.2.1) fun jx=>br (p9.1.1 != jx.1.1) (qd (tE D p0.1.1) fun jR=>qd (yC D jR.1.1) fun nu=>qd (qy D p2.2.1 nu.1.1) fun nv=>qd (tE D a1.2.2.1) fun n6=>qd (yC D n6.1.1) fun n7=>qd (qy D nv.2.1 n7.1.1) fun xI=>qd (I6 D xI.2.1 a1.2.1 [p0.1.1,a1.2.2.1]) fun xJ=>some ((),xJ.2.1,())) (qd (I6 D p2.2.1 a1.2.1 [p0.1.1,a1.2.2.1]) fun xK=>some ((),xK.2.1,()))) (qd (tD D p0.2.1 (decide (p0.1.1=0))) fun xL=>qd (yD D p0.1.1) fun xM=>qd (qy D xL.2.1 xM.1.1) fun AB=>qd (tE D p0.1.1) fun EJ=>qd (yC D EJ.1.1) fun EK=>qd (qy D AB.2.1 EK.1.1) fun Me=>qd (I6 D Me.2.1 a1.2.1 [p0.1.1]) fun Mf=>some ((),Mf.2.1,())))
def TH(D:DX)(n:Nat)(a0:cW)(a1:aj):Option jz:=V_ D n a0 a1
theorem ad8(D:DX)(n:Nat)(a0:cW)(a1:aj):rF D n 178 (a0,(a1,()))=TH D n a0 a1:=by kernel_rfl
def Wl(D:DX)(n:Nat)(a0:cW)(a1:Int):Option ((Int×Unit)×zg):=br a0.2.2.2.1 (some ((0,()),a0,())) (qd (u_ D a0.1 a1) fun b=>br (bif decide (a1<0) then true else !b.1.2.1) (some ((0,()),(a0.1,a0.2.1,a1,true,a0.2.2.2.2),())) (br (decide (a0.2.1.length+1<=f_)) (some ((b.1.1,()),(a0.1,a0.2.1++[a1],a0.2.2),())) none))
def TT(D:DX)(n:Nat)(a0:cW)(a1:Int):Option ((Int×Unit)×zg):=Wl D n a0 a1
theorem afH(D:DX)(n:Nat)(a0:cW)(a1:Int):rF D n 179 (a0,(a1,()))=TT D n a0 a1:=by kernel_rfl
def aeM(D:DX)(n:Nat)(a0:cW)(a1:Bool):Option jz:=some ((),(a0.1,a0.2.1,a0.2.2.1,bif a0.2.2.2.1 then true else a1,a0.2.2.2.2),())
def q58(D:DX)(n:Nat)(a0:cW)(a1:Bool):Option jz:=aeM D n a0 a1
theorem ae0(D:DX)(n:Nat)(a0:cW)(a1:Bool):rF D n 180 (a0,(a1,()))=q58 D n a0 a1:=by kernel_rfl
def Wn(D:DX)(n:Nat)(a0 a1 a2:Int)(a3:List bE)(a4:List aj):Option cE:=qd (u_ D a3 a0) fun p0=>br (bif decide (a0<0) then true else !p0.1.2.1) (some ((),a4,())) (br (decide (a2=1)) (br (decide (a4.length+1<=f_)) (some ((),a4++[(a0,p0.1.1,wrap .i64 (p0.1.1+1),())],())) none) (br (decide (a2 = -1)) (br (decide (a4.length+1<=f_)) (some ((),a4++[(a0,p0.1.1,if wrap .i64 (p0.1.1-1)>0 then wrap .i64 (p0.1.1-1) else 0,())],())) none) (br (decide (a4.length+1<=f_)) (some ((),a4++[(a0,p0.1.1,a1,())],())) none)))
def TU(D:DX)(n:Nat)(a0 a1 a2:Int)(a3:List bE)(a4:List aj):Option cE:=Wn D n a0 a1 a2 a3 a4
theorem afJ(D:DX)(n:Nat)(a0 a1 a2:Int)(a3:List bE)(a4:List aj):rF D n 181 (a0,(a1,(a2,(a3,(a4,())))))=TU D n a0 a1 a2 a3 a4:=by kernel_rfl
def qii(D:DX)(n:Nat)(a1:a_)(a0:List aj):Option cE:=qd (Ws D (wrap .u64 (a0.length:Int))) fun b=>qd (qo D a0 0 (a0.length:Int) b.1.1 a1) fun b=>some ((),b.2.1,())
def qex(D:DX)(n:Nat)(a0:List aj)(a1:a_):Option cE:=qii D n a1 a0
theorem qpk(D:DX)(n:Nat)(a0:List aj)(a1:a_):rF D n 182 (a0,(a1,()))=qex D n a0 a1:=by kernel_rfl
def q9b(D:DX)(n:Nat)(a0 a1:aj):Option aF:=some ((wrap .i64 (a0.1-a1.1),()),())
def qvz(D:DX)(n:Nat)(a0 a1:aj):Option aF:=q9b D n a0 a1
theorem afK(D:DX)(n:Nat)(a0 a1:aj):rF D n 183 (a0,(a1,()))=qvz D n a0 a1:=by kernel_rfl
def qi7(D:DX)(n:Nat)(go:Int->Int->Int->Bool->Bool->List Int->Option cS)(K0:List Int->Option cS)(x0 x1 x2:Int)(x3 x4:Bool)(x5:List Int):Option cS:=let y0:=wrap .i64 (x2-1);let y1:=wrap .i64 (x1-x0);let y2:=Int.toNat (wrap .i64 (x0-1));br (decide (y1<=12)) (qd (qkn D x5 x0 x1) fun Mj=>K0 Mj.2.1) (br (decide (x2=0)) (qd (q0o D x5 x0 x1) fun YD=>K0 YD.2.1) (br (!x3) (qd (qva D x5 x0 x1) fun jx=>qd (qll D jx.2.1 x0 x1) fun p1=>let y3:Option cS:=(qd (Dh D jx.2.1 x0 x1 p1.1.1) fun p4=>br (decide (wrap .i64 (p4.1.1-x0)<wrap .i64 (x1-p4.1.1))) (qd (qz D p4.2.1 x0 p4.1.1 y0) fun YF=>go (wrap .i64 (p4.1.1+1)) x1 y0 (decide (wrap .i64 (p4.1.1-x0)>=wrap .i64 (Int.tdiv y1 8))) p4.1.2.1 YF.2.1) (qd (qz D p4.2.1 (wrap .i64 (p4.1.1+1)) x1 y0) fun YG=>go x0 p4.1.1 y0 (decide (wrap .i64 (x1-p4.1.1)>=wrap .i64 (Int.tdiv y1 8))) p4.1.2.1 YG.2.1));let y4:=wrap .i64 (x1-1)-wrap .i64 (p1.1.1-x0);br (decide (p1.1.2.1=2)) (qd (qk7 D jx.2.1 x0 x1) fun n7=>let y5:Option cS:=(qd (Dh D n7.2.1 x0 x1 (wrap .i64 y4)) fun p2=>br (decide (wrap .i64 (p2.1.1-x0)<wrap .i64 (x1-p2.1.1))) (qd (qz D p2.2.1 x0 p2.1.1 y0) fun Mh=>go (wrap .i64 (p2.1.1+1)) x1 y0 (decide (wrap .i64 (p2.1.1-x0)>=wrap .i64 (Int.tdiv y1 8))) p2.1.2.1 Mh.2.1) (qd (qz D p2.2.1 (wrap .i64 (p2.1.1+1)) x1 y0) fun Mi=>go x0 p2.1.1 y0 (decide (wrap .i64 (x1-p2.1.1)>=wrap .i64 (Int.tdiv y1 8))) p2.1.2.1 Mi.2.1));br (bif bif x3 then x4 else false then true else false) (qd (VP D n7.2.1 x0 x1) fun nv=>let y6:Option cS:=(qd (Dh D nv.2.1 x0 x1 (wrap .i64 y4)) fun p9=>br (decide (wrap .i64 (p9.1.1-x0)<wrap .i64 (x1-p9.1.1))) (qd (qz D p9.2.1 x0 p9.1.1 y0) fun Me=>go (wrap .i64 (p9.1.1+1)) x1 y0 (decide (wrap .i64 (p9.1.1-x0)>=wrap .i64 (Int.tdiv y1 8))) p9.1.2.1 Me.2.1) (qd (qz D p9.2.1 (wrap .i64 (p9.1.1+1)) x1 y0) fun Mf=>go x0 p9.1.1 y0 (decide (wrap .i64 (x1-p9.1.1)>=wrap .i64 (Int.tdiv y1 8))) p9.1.2.1 Mf.2.1));br nv.1.1 (K0 nv.2.1) (br (decide (x0>0)) (br (decide (0<=wrap .i64 (x0-1))&&decide (wrap .i64 (x0-1)<(nv.2.1.length:Int))) (br (decide (0<=wrap .i64 y4)&&decide (wrap .i64 y4<(nv.2.1.length:Int))) (qd (yB D (List.getD nv.2.1 y2 0) (List.getD nv.2.1 (Int.toNat (wrap .i64 y4)) 0)) fun YT=>br (!YT.1.1) (qd (Dg D nv.2.1 x0 x1 (wrap .i64 y4)) fun EK=>go EK.1.1 x1 y0 x3 x4 EK.2.1) y6) none) none) y6)) (br (decide (x0>0)) (br (decide (0<=wrap .i64 (x0-1))&&decide (wrap .i64 (x0-1)<(n7.2.1.length:Int))) (br (decide (0<=wrap .i64 y4)&&decide (wrap .i64 y4<(n7.2.1.length:Int))) (qd (yB D (List.getD n7.2.1 y2 0) (List.getD n7.2.1 (Int.toNat (wrap .i64 y4)) 0)) fun Mg=>br (!Mg.1.1) (qd (Dg D n7.2.1 x0 x1 (wrap .i64 y4)) fun xI=>go xI.1.1 x1 y0 x3 x4 xI.2.1) y5) none) none) y5)) (br (bif bif x3 then x4 else false then decide (p1.1.2.1=1) else false) (qd (VP D jx.2.1 x0 x1) fun jR=>let y7:Option cS:=(qd (Dh D jR.2.1 x0 x1 p1.1.1) fun p3=>br (decide (wrap .i64 (p3.1.1-x0)<wrap .i64 (x1-p3.1.1))) (qd (qz D p3.2.1 x0 p3.1.1 y0) fun Mm=>go (wrap .i64 (p3.1.1+1)) x1 y0 (decide (wrap .i64 (p3.1.1-x0)>=wrap .i64 (Int.tdiv y1 8))) p3.1.2.1 Mm.2.1) (qd (qz D p3.2.1 (wrap .i64 (p3.1.1+1)) x1 y0) fun YC=>go x0 p3.1.1 y0 (decide (wrap .i64 (x1-p3.1.1)>=wrap .i64 (Int.tdiv y1 8))) p3.1.2.1 YC.2.1));br jR.1.1 (K0 jR.2.1) (br (decide (x0>0)) (br (decide (0<=wrap .i64 (x0-1))&&decide (wrap .i64 (x0-1)<(jR.2.1.length:Int))) (br (decide (0<=p1.1.1)&&decide (p1.1.1<(jR.2.1.length:Int))) (qd (yB D (List.getD jR.2.1 y2 0) (List.getD jR.2.1 p1.1.1.toNat 0)) fun Ml=>br (!Ml.1.1) (qd (Dg D jR.2.1 x0 x1 p1.1.1) fun xJ=>go xJ.1.1 x1 y0 x3 x4 xJ.2.1) y7) none) none) y7)) (br (decide (x0>0)) (br (decide (0<=wrap .i64 (x0-1))&&decide (wrap .i64 (x0-1)<(jx.2.1.length:Int))) (br (decide (0<=p1.1.1)&&decide (p1.1.1<(jx.2.1.length:Int))) (qd (yB D (List.getD jx.2.1 y2 0) (List.getD jx.2.1 p1.1.1.toNat 0)) fun YE=>br (!YE.1.1) (qd (Dg D jx.2.1 x0 x1 p1.1.1) fun xK=>go xK.1.1 x1 y0 x3 x4 xK.2.1) y3) none) none) y3))) (qd (qll D x5 x0 x1) fun p0=>let y8:Option cS:=(qd (Dh D x5 x0 x1 p0.1.1) fun p8=>br (decide (wrap .i64 (p8.1.1-x0)<wrap .i64 (x1-p8.1.1))) (qd (qz D p8.2.1 x0 p8.1.1 x2) fun YR=>go (wrap .i64 (p8.1.1+1)) x1 x2 (decide (wrap .i64 (p8.1.1-x0)>=wrap .i64 (Int.tdiv y1 8))) p8.1.2.1 YR.2.1) (qd (qz D p8.2.1 (wrap .i64 (p8.1.1+1)) x1 x2) fun YS=>go x0 p8.1.1 x2 (decide (wrap .i64 (x1-p8.1.1)>=wrap .i64 (Int.tdiv y1 8))) p8.1.2.1 YS.2.1));let y9:=wrap .i64 (x1-1)-wrap .i64 (p0.1.1-x0);br (decide (p0.1.2.1=2)) (qd (qk7 D x5 x0 x1) fun n6=>let UP:Option cS:=(qd (Dh D n6.2.1 x0 x1 (wrap .i64 y9)) fun p6=>br (decide (wrap .i64 (p6.1.1-x0)<wrap .i64 (x1-p6.1.1))) (qd (qz D p6.2.1 x0 p6.1.1 x2) fun YL=>go (wrap .i64 (p6.1.1+1)) x1 x2 (decide (wrap .i64 (p6.1.1-x0)>=wrap .i64 (Int.tdiv y1 8))) p6.1.2.1 YL.2.1) (qd (qz D p6.2.1 (wrap .i64 (p6.1.1+1)) x1 x2) fun YM=>go x0 p6.1.1 x2 (decide (wrap .i64 (x1-p6.1.1)>=wrap .i64 (Int.tdiv y1 8))) p6.1.2.1 YM.2.1));br (bif bif x3 then x4 else false then true else false) (qd (VP D n6.2.1 x0 x1) fun kY=>let UQ:Option cS:=(qd (Dh D kY.2.1 x0 x1 (wrap .i64 y9)) fun p5=>br (decide (wrap .i64 (p5.1.1-x0)<wrap .i64 (x1-p5.1.1))) (qd (qz D p5.2.1 x0 p5.1.1 x2) fun YI=>go (wrap .i64 (p5.1.1+1)) x1 x2 (decide (wrap .i64 (p5.1.1-x0)>=wrap .i64 (Int.tdiv y1 8))) p5.1.2.1 YI.2.1) (qd (qz D p5.2.1 (wrap .i64 (p5.1.1+1)) x1 x2) fun YJ=>go x0 p5.1.1 x2 (decide (wrap .i64 (x1-p5.1.1)>=wrap .i64 (Int.tdiv y1 8))) p5.1.2.1 YJ.2.1));br kY.1.1 (K0 kY.2.1) (br (decide (x0>0)) (br (decide (0<=wrap .i64 (x0-1))&&decide (wrap .i64 (x0-1)<(kY.2.1.length:Int))) (br (decide (0<=wrap .i64 y9)&&decide (wrap .i64 y9<(kY.2.1.length:Int))) (qd (yB D (List.getD kY.2.1 y2 0) (List.getD kY.2.1 (Int.toNat (wrap .i64 y9)) 0)) fun YH=>br (!YH.1.1) (qd (Dg D kY.2.1 x0 x1 (wrap .i64 y9)) fun xL=>go xL.1.1 x1 x2 x3 x4 xL.2.1) UQ) none) none) UQ)) (br (decide (x0>0)) (br (decide (0<=wrap .i64 (x0-1))&&decide (wrap .i64 (x0-1)<(n6.2.1.length:Int))) (br (decide (0<=wrap .i64 y9)&&decide (wrap .i64 y9<(n6.2.1.length:Int))) (qd (yB D (List.getD n6.2.1 y2 0) (List.getD n6.2.1 (Int.toNat (wrap .i64 y9)) 0)) fun YK=>br (!YK.1.1) (qd (Dg D n6.2.1 x0 x1 (wrap .i64 y9)) fun xM=>go xM.1.1 x1 x2 x3 x4 xM.2.1) UP) none) none) UP)) (br (bif bif x3 then x4 else false then decide (p0.1.2.1=1) else false) (qd (VP D x5 x0 x1) fun nu=>let UR:Option cS:=(qd (Dh D nu.2.1 x0 x1 p0.1.1) fun p7=>br (decide (wrap .i64 (p7.1.1-x0)<wrap .i64 (x1-p7.1.1))) (qd (qz D p7.2.1 x0 p7.1.1 x2) fun YO=>go (wrap .i64 (p7.1.1+1)) x1 x2 (decide (wrap .i64 (p7.1.1-x0)>=wrap .i64 (Int.tdiv y1 8))) p7.1.2.1 YO.2.1) (qd (qz D p7.2.1 (wrap .i64 (p7.1.1+1)) x1 x2) fun YP=>go x0 p7.1.1 x2 (decide (wrap .i64 (x1-p7.1.1)>=wrap .i64 (Int.tdiv y1 8))) p7.1.2.1 YP.2.1));br nu.1.1 (K0 nu.2.1) (br (decide (x0>0)) (br (decide (0<=wrap .i64 (x0-1))&&decide (wrap .i64 (x0-1)<(nu.2.1.length:Int))) (br (decide (0<=p0.1.1)&&decide (p0.1.1<(nu.2.1.length:Int))) (qd (yB D (List.getD nu.2.1 y2 0) (List.getD nu.2.1 p0.1.1.toNat 0)) fun YN=>br (!YN.1.1) (qd (Dg D nu.2.1 x0 x1 p0.1.1) fun AB=>go AB.1.1 x1 x2 x3 x4 AB.2.1) UR) none) none) UR)) (br (decide (x0>0)) (br (decide (0<=wrap .i64 (x0-1))&&decide (wrap .i64 (x0-1)<(x5.length:Int))) (br (decide (0<=p0.1.1)&&decide (p0.1.1<(x5.length:Int))) (qd (yB D (List.getD x5 y2 0) (List.getD x5 p0.1.1.toNat 0)) fun YQ=>br (!YQ.1.1) (qd (Dg D x5 x0 x1 p0.1.1) fun EJ=>go EJ.1.1 x1 x2 x3 x4 EJ.2.1) y8) none) none) y8)))))
def VZ(D:DX)(n:Nat)(K0:List Int->Option cS):Nat->Int->Int->Int->Bool->Bool->(List Int)->Option cS | 0=>(fun x0 x1 x2 x3 x4 x5=>none) | m+1=>(fun x0 x1 x2 x3 x4 x5=>qi7 D n (VZ D n K0 m) K0 x0 x1 x2 x3 x4 x5)
def qzf(D:DX)(n:Nat)(a:List Int):Option cS:=some ((),a,())
def qij(D:DX)(n:Nat):(Int)->(Int)->(Int)->(Bool)->(Bool)->(List Int)->Option cS:=(fun x0 x1 x2 x3 x4 x5=>VZ D n (fun a=>qzf D n a) n x0 x1 x2 x3 x4 x5)
def qjy(D:DX)(n:Nat)(cz:Int->Int->Int->Bool->Bool->List Int->Option cS)(a0:List Int)(a1 a2 a3:Int):Option cS:=cz a1 a2 a3 true true a0
def qjo(D:DX)(n:Nat)(a0:List Int)(a1 a2 a3:Int):Option cS:=qjy D n (qij D n) a0 a1 a2 a3
def qi6(x0 x1 x2:Int)(x3 x4:Bool)(x5:List Int):St:=bq 134 [(0,AV.b8 0 [] 1048576),(1,AV.val ah x0),(2,AV.val ah x1),(3,AV.val ah x2),(8,AV.val Ty.bool x3),(9,AV.val Ty.bool x4)] [(0,aC.mk bu mI x5 false)]
def qmn(a:List Int):St:=bq 134 [(0,AV.b8 0 [] 1048576)] [(0,aC.mk bu mI a false)]
theorem qz5(D:DX)(n:Nat)(K:KT 184):∀(m:Nat)(x0 x1 x2:Int)(x3 x4:Bool)(x5:List Int),LF D n 184 n8 m (qi6 x0 x1 x2 x3 x4 x5) K=VZ D n (fun a=>K (Ex.ret) (qmn a)) m x0 x1 x2 x3 x4 x5:=JC (fun F=>qi7 D n F (fun a=>K (Ex.ret) (qmn a)))
theorem qze(D:DX)(n:Nat)(x0)(x1)(x2)(x3)(x4)(x5):LF D n 184 n8 n (qi6 x0 x1 x2 x3 x4 x5) (CF D n 184 [] n8 (lF 184))=qij D n x0 x1 x2 x3 x4 x5 :=by rw[qz5];kernel_rfl
theorem q3q(D:DX)(n:Nat)(a0:List Int)(a1 a2 a3:Int):rF D n 184 (a0,(a1,(a2,(a3,()))))=qjo D n a0 a1 a2 a3:=by
 have h:rF D n 184 (a0,(a1,(a2,(a3,()))))=qjy D n (fun x0 x1 x2 x3 x4 x5=>LF D n 184 n8 n (qi6 x0 x1 x2 x3 x4 x5) (CF D n 184 [] n8 (lF 184))) a0 a1 a2 a3:=by kernel_rfl
 rw[h];simp only[qze];rfl
def O6(D:DX)(n:Nat)(a0:Int):Option aF:=qd (q57 D a0) fun b=>some ((b.1.1,()),())
def qxz(D:DX)(n:Nat)(a0:Int):Option aF:=O6 D n a0
theorem agr(D:DX)(n:Nat)(a0:Int):rF D n 185 (a0,())=qxz D n a0:=by kernel_rfl
def We(D:DX)(n:Nat)(go:List Int->Int->Int->cW->Option jz)(K0:cW->Option jz)(x0:List Int)(x1 x2:Int)(x3:cW):Option jz:=br (decide (x2<x1)) (br (decide (0<=x2)&&decide (x2<(x0.length:Int))) (qd (v5 D (List.getD x0 x2.toNat 0)) fun b=>qd (qy D x3 b.1.1) fun b=>go x0 x1 (wrap .i64 (x2+1)) b.2.1) none) (K0 x3)
def I7(D:DX)(n:Nat)(K0:cW->Option jz):Nat->(List Int)->Int->Int->cW->Option jz | 0=>(fun x0 x1 x2 x3=>none) | m+1=>(fun x0 x1 x2 x3=>We D n (I7 D n K0 m) K0 x0 x1 x2 x3)
def TI(D:DX)(n:Nat)(a:cW):Option jz:=some ((),a,())
def Wd(D:DX)(n:Nat):(List Int)->(Int)->(Int)->cW->Option jz:=(fun x0 x1 x2 x3=>I7 D n (fun a=>TI D n a) n x0 x1 x2 x3)
def Wm(D:DX)(n:Nat)(cz:List Int->Int->Int->cW->Option jz)(a0:cW)(a1:Int)(a2:List Int):Option jz:=qd (sH D) fun b=>qd (qy D a0 b.1.1) fun b=>qd (tD D b.2.1 (decide (b.1.1<=wrap .i64 (a1+1)))) fun b=>cz a2 (a2.length:Int) 0 b.2.1
def Wk(D:DX)(n:Nat)(a0:cW)(a1:Int)(a2:List Int):Option jz:=Wm D n (Wd D n) a0 a1 a2
def quq(x0:List Int)(x1 x2:Int)(x3:cW):St:=bq 29 [(0,AV.addr 0 []),(18,AV.val bu x0),(19,AV.val ah x1),(20,AV.val ah x2)] [(0,aC.mk mQ oZ x3 true)]
def q0d(a:cW):St:=bq 29 [(0,AV.addr 0 [])] [(0,aC.mk mQ oZ a true)]
theorem aeg(D:DX)(n:Nat)(K:KT 186):∀(m:Nat)(x0:List Int)(x1 x2:Int)(x3:cW),LF D n 186 [.r,.r,.r,.l] m (quq x0 x1 x2 x3) K=I7 D n (fun a=>K (Ex.exit 0) (q0d a)) m x0 x1 x2 x3:=z9 (fun F=>We D n F (fun a=>K (Ex.exit 0) (q0d a)))
theorem ad3(D:DX)(n:Nat)(x0)(x1)(x2)(x3):LF D n 186 [.r,.r,.r,.l] n (quq x0 x1 x2 x3) (CF D n 186 [] [.r,.r,.r,.l] (lF 186))=Wd D n x0 x1 x2 x3 :=by rw[aeg];kernel_rfl
theorem afI(D:DX)(n:Nat)(a0:cW)(a1:Int)(a2:List Int):rF D n 186 (a0,(a1,(a2,())))=Wk D n a0 a1 a2:=by
 have h:rF D n 186 (a0,(a1,(a2,())))=Wm D n (fun x0 x1 x2 x3=>LF D n 186 [.r,.r,.r,.l] n (quq x0 x1 x2 x3) (CF D n 186 [] [.r,.r,.r,.l] (lF 186))) a0 a1 a2:=by kernel_rfl
 rw[h];simp only[ad3];rfl
def qgb(D:DX)(n:Nat)(a4:a_)(go:Int->Int->Int->Bool->Bool->List aj->Option cE)(K0:List aj->Option cE)(x0 x1 x2:Int)(x3 x4:Bool)(x5:List aj):Option cE:=let y0:=wrap .i64 (x2-1);let y1:=wrap .i64 (x1-x0);let y2:=Int.toNat (wrap .i64 (x0-1));br (decide (y1<=12)) (qd (qhy D x5 x0 x1 a4) fun Mj=>K0 Mj.2.1) (br (decide (x2=0)) (qd (qtb D x5 x0 x1 a4) fun YD=>K0 YD.2.1) (br (!x3) (qd (qoo D x5 x0 x1 a4) fun jx=>qd (qir D jx.2.1 x0 x1 a4) fun p1=>let y3:Option cE:=(qd (Df D jx.2.1 x0 x1 p1.1.1 a4) fun p4=>br (decide (wrap .i64 (p4.1.1-x0)<wrap .i64 (x1-p4.1.1))) (qd (qo D p4.2.1 x0 p4.1.1 y0 a4) fun YF=>go (wrap .i64 (p4.1.1+1)) x1 y0 (decide (wrap .i64 (p4.1.1-x0)>=wrap .i64 (Int.tdiv y1 8))) p4.1.2.1 YF.2.1) (qd (qo D p4.2.1 (wrap .i64 (p4.1.1+1)) x1 y0 a4) fun YG=>go x0 p4.1.1 y0 (decide (wrap .i64 (x1-p4.1.1)>=wrap .i64 (Int.tdiv y1 8))) p4.1.2.1 YG.2.1));let y4:=wrap .i64 (x1-1)-wrap .i64 (p1.1.1-x0);br (decide (p1.1.2.1=2)) (qd (qig D jx.2.1 x0 x1 a4) fun n7=>let y5:Option cE:=(qd (Df D n7.2.1 x0 x1 (wrap .i64 y4) a4) fun p2=>br (decide (wrap .i64 (p2.1.1-x0)<wrap .i64 (x1-p2.1.1))) (qd (qo D p2.2.1 x0 p2.1.1 y0 a4) fun Mh=>go (wrap .i64 (p2.1.1+1)) x1 y0 (decide (wrap .i64 (p2.1.1-x0)>=wrap .i64 (Int.tdiv y1 8))) p2.1.2.1 Mh.2.1) (qd (qo D p2.2.1 (wrap .i64 (p2.1.1+1)) x1 y0 a4) fun Mi=>go x0 p2.1.1 y0 (decide (wrap .i64 (x1-p2.1.1)>=wrap .i64 (Int.tdiv y1 8))) p2.1.2.1 Mi.2.1));br (bif bif x3 then x4 else false then true else false) (qd (VQ D n7.2.1 x0 x1 a4) fun nv=>let y6:Option cE:=(qd (Df D nv.2.1 x0 x1 (wrap .i64 y4) a4) fun p9=>br (decide (wrap .i64 (p9.1.1-x0)<wrap .i64 (x1-p9.1.1))) (qd (qo D p9.2.1 x0 p9.1.1 y0 a4) fun Me=>go (wrap .i64 (p9.1.1+1)) x1 y0 (decide (wrap .i64 (p9.1.1-x0)>=wrap .i64 (Int.tdiv y1 8))) p9.1.2.1 Me.2.1) (qd (qo D p9.2.1 (wrap .i64 (p9.1.1+1)) x1 y0 a4) fun Mf=>go x0 p9.1.1 y0 (decide (wrap .i64 (x1-p9.1.1)>=wrap .i64 (Int.tdiv y1 8))) p9.1.2.1 Mf.2.1));br nv.1.1 (K0 nv.2.1) (br (decide (x0>0)) (br (decide (0<=wrap .i64 (x0-1))&&decide (wrap .i64 (x0-1)<(nv.2.1.length:Int))) (br (decide (0<=wrap .i64 y4)&&decide (wrap .i64 y4<(nv.2.1.length:Int))) (qd (gF ctx D a4 [bC.val bT (List.getD nv.2.1 y2 (0,0,0,())),bC.val bT (List.getD nv.2.1 (Int.toNat (wrap .i64 y4)) (0,0,0,()))] ah) fun YT=>br (!decide (YT<0)) (qd (De D nv.2.1 x0 x1 (wrap .i64 y4) a4) fun EK=>go EK.1.1 x1 y0 x3 x4 EK.2.1) y6) none) none) y6)) (br (decide (x0>0)) (br (decide (0<=wrap .i64 (x0-1))&&decide (wrap .i64 (x0-1)<(n7.2.1.length:Int))) (br (decide (0<=wrap .i64 y4)&&decide (wrap .i64 y4<(n7.2.1.length:Int))) (qd (gF ctx D a4 [bC.val bT (List.getD n7.2.1 y2 (0,0,0,())),bC.val bT (List.getD n7.2.1 (Int.toNat (wrap .i64 y4)) (0,0,0,()))] ah) fun Mg=>br (!decide (Mg<0)) (qd (De D n7.2.1 x0 x1 (wrap .i64 y4) a4) fun xI=>go xI.1.1 x1 y0 x3 x4 xI.2.1) y5) none) none) y5)) (br (bif bif x3 then x4 else false then decide (p1.1.2.1=1) else false) (qd (VQ D jx.2.1 x0 x1 a4) fun jR=>let y7:Option cE:=(qd (Df D jR.2.1 x0 x1 p1.1.1 a4) fun p3=>br (decide (wrap .i64 (p3.1.1-x0)<wrap .i64 (x1-p3.1.1))) (qd (qo D p3.2.1 x0 p3.1.1 y0 a4) fun Mm=>go (wrap .i64 (p3.1.1+1)) x1 y0 (decide (wrap .i64 (p3.1.1-x0)>=wrap .i64 (Int.tdiv y1 8))) p3.1.2.1 Mm.2.1) (qd (qo D p3.2.1 (wrap .i64 (p3.1.1+1)) x1 y0 a4) fun YC=>go x0 p3.1.1 y0 (decide (wrap .i64 (x1-p3.1.1)>=wrap .i64 (Int.tdiv y1 8))) p3.1.2.1 YC.2.1));br jR.1.1 (K0 jR.2.1) (br (decide (x0>0)) (br (decide (0<=wrap .i64 (x0-1))&&decide (wrap .i64 (x0-1)<(jR.2.1.length:Int))) (br (decide (0<=p1.1.1)&&decide (p1.1.1<(jR.2.1.length:Int))) (qd (gF ctx D a4 [bC.val bT (List.getD jR.2.1 y2 (0,0,0,())),bC.val bT (List.getD jR.2.1 p1.1.1.toNat (0,0,0,()))] ah) fun Ml=>br (!decide (Ml<0)) (qd (De D jR.2.1 x0 x1 p1.1.1 a4) fun xJ=>go xJ.1.1 x1 y0 x3 x4 xJ.2.1) y7) none) none) y7)) (br (decide (x0>0)) (br (decide (0<=wrap .i64 (x0-1))&&decide (wrap .i64 (x0-1)<(jx.2.1.length:Int))) (br (decide (0<=p1.1.1)&&decide (p1.1.1<(jx.2.1.length:Int))) (qd (gF ctx D a4 [bC.val bT (List.getD jx.2.1 y2 (0,0,0,())),bC.val bT (List.getD jx.2.1 p1.1.1.toNat (0,0,0,()))] ah) fun YE=>br (!decide (YE<0)) (qd (De D jx.2.1 x0 x1 p1.1.1 a4) fun xK=>go xK.1.1 x1 y0 x3 x4 xK.2.1) y3) none) none) y3))) (qd (qir D x5 x0 x1 a4) fun p0=>let y8:Option cE:=(qd (Df D x5 x0 x1 p0.1.1 a4) fun p8=>br (decide (wrap .i64 (p8.1.1-x0)<wrap .i64 (x1-p8.1.1))) (qd (qo D p8.2.1 x0 p8.1.1 x2 a4) fun YR=>go (wrap .i64 (p8.1.1+1)) x1 x2 (decide (wrap .i64 (p8.1.1-x0)>=wrap .i64 (Int.tdiv y1 8))) p8.1.2.1 YR.2.1) (qd (qo D p8.2.1 (wrap .i64 (p8.1.1+1)) x1 x2 a4) fun YS=>go x0 p8.1.1 x2 (decide (wrap .i64 (x1-p8.1.1)>=wrap .i64 (Int.tdiv y1 8))) p8.1.2.1 YS.2.1));let y9:=wrap .i64 (x1-1)-wrap .i64 (p0.1.1-x0);br (decide (p0.1.2.1=2)) (qd (qig D x5 x0 x1 a4) fun n6=>let UP:Option cE:=(qd (Df D n6.2.1 x0 x1 (wrap .i64 y9) a4) fun p6=>br (decide (wrap .i64 (p6.1.1-x0)<wrap .i64 (x1-p6.1.1))) (qd (qo D p6.2.1 x0 p6.1.1 x2 a4) fun YL=>go (wrap .i64 (p6.1.1+1)) x1 x2 (decide (wrap .i64 (p6.1.1-x0)>=wrap .i64 (Int.tdiv y1 8))) p6.1.2.1 YL.2.1) (qd (qo D p6.2.1 (wrap .i64 (p6.1.1+1)) x1 x2 a4) fun YM=>go x0 p6.1.1 x2 (decide (wrap .i64 (x1-p6.1.1)>=wrap .i64 (Int.tdiv y1 8))) p6.1.2.1 YM.2.1));br (bif bif x3 then x4 else false then true else false) (qd (VQ D n6.2.1 x0 x1 a4) fun kY=>let UQ:Option cE:=(qd (Df D kY.2.1 x0 x1 (wrap .i64 y9) a4) fun p5=>br (decide (wrap .i64 (p5.1.1-x0)<wrap .i64 (x1-p5.1.1))) (qd (qo D p5.2.1 x0 p5.1.1 x2 a4) fun YI=>go (wrap .i64 (p5.1.1+1)) x1 x2 (decide (wrap .i64 (p5.1.1-x0)>=wrap .i64 (Int.tdiv y1 8))) p5.1.2.1 YI.2.1) (qd (qo D p5.2.1 (wrap .i64 (p5.1.1+1)) x1 x2 a4) fun YJ=>go x0 p5.1.1 x2 (decide (wrap .i64 (x1-p5.1.1)>=wrap .i64 (Int.tdiv y1 8))) p5.1.2.1 YJ.2.1));br kY.1.1 (K0 kY.2.1) (br (decide (x0>0)) (br (decide (0<=wrap .i64 (x0-1))&&decide (wrap .i64 (x0-1)<(kY.2.1.length:Int))) (br (decide (0<=wrap .i64 y9)&&decide (wrap .i64 y9<(kY.2.1.length:Int))) (qd (gF ctx D a4 [bC.val bT (List.getD kY.2.1 y2 (0,0,0,())),bC.val bT (List.getD kY.2.1 (Int.toNat (wrap .i64 y9)) (0,0,0,()))] ah) fun YH=>br (!decide (YH<0)) (qd (De D kY.2.1 x0 x1 (wrap .i64 y9) a4) fun xL=>go xL.1.1 x1 x2 x3 x4 xL.2.1) UQ) none) none) UQ)) (br (decide (x0>0)) (br (decide (0<=wrap .i64 (x0-1))&&decide (wrap .i64 (x0-1)<(n6.2.1.length:Int))) (br (decide (0<=wrap .i64 y9)&&decide (wrap .i64 y9<(n6.2.1.length:Int))) (qd (gF ctx D a4 [bC.val bT (List.getD n6.2.1 y2 (0,0,0,())),bC.val bT (List.getD n6.2.1 (Int.toNat (wrap .i64 y9)) (0,0,0,()))] ah) fun YK=>br (!decide (YK<0)) (qd (De D n6.2.1 x0 x1 (wrap .i64 y9) a4) fun xM=>go xM.1.1 x1 x2 x3 x4 xM.2.1) UP) none) none) UP)) (br (bif bif x3 then x4 else false then decide (p0.1.2.1=1) else false) (qd (VQ D x5 x0 x1 a4) fun nu=>let UR:Option cE:=(qd (Df D nu.2.1 x0 x1 p0.1.1 a4) fun p7=>br (decide (wrap .i64 (p7.1.1-x0)<wrap .i64 (x1-p7.1.1))) (qd (qo D p7.2.1 x0 p7.1.1 x2 a4) fun YO=>go (wrap .i64 (p7.1.1+1)) x1 x2 (decide (wrap .i64 (p7.1.1-x0)>=wrap .i64 (Int.tdiv y1 8))) p7.1.2.1 YO.2.1) (qd (qo D p7.2.1 (wrap .i64 (p7.1.1+1)) x1 x2 a4) fun YP=>go x0 p7.1.1 x2 (decide (wrap .i64 (x1-p7.1.1)>=wrap .i64 (Int.tdiv y1 8))) p7.1.2.1 YP.2.1));br nu.1.1 (K0 nu.2.1) (br (decide (x0>0)) (br (decide (0<=wrap .i64 (x0-1))&&decide (wrap .i64 (x0-1)<(nu.2.1.length:Int))) (br (decide (0<=p0.1.1)&&decide (p0.1.1<(nu.2.1.length:Int))) (qd (gF ctx D a4 [bC.val bT (List.getD nu.2.1 y2 (0,0,0,())),bC.val bT (List.getD nu.2.1 p0.1.1.toNat (0,0,0,()))] ah) fun YN=>br (!decide (YN<0)) (qd (De D nu.2.1 x0 x1 p0.1.1 a4) fun AB=>go AB.1.1 x1 x2 x3 x4 AB.2.1) UR) none) none) UR)) (br (decide (x0>0)) (br (decide (0<=wrap .i64 (x0-1))&&decide (wrap .i64 (x0-1)<(x5.length:Int))) (br (decide (0<=p0.1.1)&&decide (p0.1.1<(x5.length:Int))) (qd (gF ctx D a4 [bC.val bT (List.getD x5 y2 (0,0,0,())),bC.val bT (List.getD x5 p0.1.1.toNat (0,0,0,()))] ah) fun YQ=>br (!decide (YQ<0)) (qd (De D x5 x0 x1 p0.1.1 a4) fun EJ=>go EJ.1.1 x1 x2 x3 x4 EJ.2.1) y8) none) none) y8)))))
def VW(D:DX)(n:Nat)(a4:a_)(K0:List aj->Option cE):Nat->Int->Int->Int->Bool->Bool->(List aj)->Option cE | 0=>(fun x0 x1 x2 x3 x4 x5=>none) | m+1=>(fun x0 x1 x2 x3 x4 x5=>qgb D n a4 (VW D n a4 K0 m) K0 x0 x1 x2 x3 x4 x5)
def qrm(D:DX)(n:Nat)(a4:a_)(a:List aj):Option cE:=some ((),a,())
def qf1(D:DX)(n:Nat)(a4:a_):(Int)->(Int)->(Int)->(Bool)->(Bool)->(List aj)->Option cE:=(fun x0 x1 x2 x3 x4 x5=>VW D n a4 (fun a=>qrm D n a4 a) n x0 x1 x2 x3 x4 x5)
def qgr(D:DX)(n:Nat)(a4:a_)(cz:Int->Int->Int->Bool->Bool->List aj->Option cE)(a0:List aj)(a1 a2 a3:Int):Option cE:=cz a1 a2 a3 true true a0
def qgn(D:DX)(n:Nat)(a0:List aj)(a1 a2 a3:Int)(a4:a_):Option cE:=qgr D n a4 (qf1 D n a4) a0 a1 a2 a3
def qga(a4:a_)(x0 x1 x2:Int)(x3 x4:Bool)(x5:List aj):St:=bq 148 [(0,AV.b8 0 [] 1048576),(1,AV.val ah x0),(2,AV.val ah x1),(3,AV.val ah x2),(4,AV.ep a4),(10,AV.val Ty.bool x3),(11,AV.val Ty.bool x4)] [(0,aC.mk bV mI x5 false)]
def qjb(a4:a_)(a:List aj):St:=bq 148 [(0,AV.b8 0 [] 1048576)] [(0,aC.mk bV mI a false)]
theorem qss(D:DX)(n:Nat)(a4:a_)(K:KT 187):∀(m:Nat)(x0 x1 x2:Int)(x3 x4:Bool)(x5:List aj),LF D n 187 n8 m (qga a4 x0 x1 x2 x3 x4 x5) K=VW D n a4 (fun a=>K (Ex.ret) (qjb a4 a)) m x0 x1 x2 x3 x4 x5:=JC (fun F=>qgb D n a4 F (fun a=>K (Ex.ret) (qjb a4 a)))
theorem qrl(D:DX)(n:Nat)(a4:a_)(x0)(x1)(x2)(x3)(x4)(x5):LF D n 187 n8 n (qga a4 x0 x1 x2 x3 x4 x5) (CF D n 187 [] n8 (lF 187))=qf1 D n a4 x0 x1 x2 x3 x4 x5 :=by rw[qss];kernel_rfl
theorem qt1(D:DX)(n:Nat)(a0:List aj)(a1 a2 a3:Int)(a4:a_):rF D n 187 (a0,(a1,(a2,(a3,(a4,())))))=qgn D n a0 a1 a2 a3 a4:=by
 have h:rF D n 187 (a0,(a1,(a2,(a3,(a4,())))))=qgr D n a4 (fun x0 x1 x2 x3 x4 x5=>LF D n 187 n8 n (qga a4 x0 x1 x2 x3 x4 x5) (CF D n 187 [] n8 (lF 187))) a0 a1 a2 a3:=by kernel_rfl
 rw[h];simp only[qrl];rfl
def VX(D:DX)(n:Nat)(go:Int->Int->Int->Int->List Int->Option cS)(K0:Int->Int->Int->List Int->Option cS)(c d e a:Int)(b:List Int):Option cS:=let y1:=wrap .i64 (a-1);let y0:=List.getD b (Int.toNat y1) 0;br (decide (a>c)) (br (decide (0<=a)&&decide (a<(b.length:Int))) (br (decide (0<=y1)&&decide (y1<(b.length:Int))) (qd (yB D (List.getD b a.toNat 0) y0) fun p0=>br p0.1.1 (br (decide (0<=y1)&&decide (y1<(b.length:Int))) (br (decide (0<=a)&&decide (a<(b.length:Int))) (br (decide (0<=a)&&decide (a<(b.length:Int))) (br (decide (0<=y1)&&decide (y1<((List.set b a.toNat y0).length:Int))) (go c d e y1 (List.set (List.set b a.toNat y0) (Int.toNat y1) (List.getD b a.toNat 0))) none) none) none) none) (K0 c d e b)) none) none) (K0 c d e b)
def Kk(D:DX)(n:Nat)(K0:Int->Int->Int->List Int->Option cS):Nat->Int->Int->Int->Int->(List Int)->Option cS | 0=>(fun a b c d e=>none) | m+1=>(fun a b c d e=>VX D n (Kk D n K0 m) K0 a b c d e)
def qf0(D:DX)(n:Nat)(go:Int->Int->Int->List Int->Option cS)(K0:List Int->Option cS)(a b c:Int)(d:List Int):Option cS:=go a b (wrap .i64 (c+1)) d
def qf9(D:DX)(n:Nat)(go:Int->Int->Int->List Int->Option cS)(K0:List Int->Option cS):(Int)->(Int)->(Int)->(Int)->(List Int)->Option cS:=(fun a f g h i=>Kk D n (fun b c d e=>qf0 D n go K0 b c d e) n a f g h i)
def Te(D:DX)(n:Nat)(go:Int->Int->Int->List Int->Option cS)(K0:List Int->Option cS)(mJ:Int->Int->Int->Int->List Int->Option cS)(x0 x1 x2:Int)(x3:List Int):Option cS:=br (decide (x2<x1)) (mJ x0 x1 x2 x2 x3) (K0 x3)
def zM(D:DX)(n:Nat)(K0:List Int->Option cS):Nat->Int->Int->Int->(List Int)->Option cS | 0=>(fun x0 x1 x2 x3=>none) | m+1=>(fun x0 x1 x2 x3=>Te D n (zM D n K0 m) K0 (qf9 D n (zM D n K0 m) K0) x0 x1 x2 x3)
def qjx(D:DX)(n:Nat)(a:List Int):Option cS:=some ((),a,())
def qf8(D:DX)(n:Nat):(Int)->(Int)->(Int)->(List Int)->Option cS:=(fun x0 x1 x2 x3=>zM D n (fun a=>qjx D n a) n x0 x1 x2 x3)
def qg3(D:DX)(n:Nat)(cz:Int->Int->Int->List Int->Option cS)(a0:List Int)(a1 a2:Int):Option cS:=cz a1 a2 (wrap .i64 (a1+1)) a0
def qgy(D:DX)(n:Nat)(a0:List Int)(a1 a2:Int):Option cS:=qg3 D n (qf8 D n) a0 a1 a2
def F5(x0 x1 x2:Int)(x3:List Int):St:=bq 49 [(0,AV.b8 0 [] 1048576),(1,AV.val ah x0),(2,AV.val ah x1),(6,AV.val ah x2)] [(0,aC.mk bu mI x3 false)]
def VV(a:List Int):St:=bq 49 [(0,AV.b8 0 [] 1048576)] [(0,aC.mk bu mI a false)]
def qgq(a b c d:Int)(e:List Int):St:=bq 49 [(0,AV.b8 0 [] 1048576),(1,AV.val ah a),(2,AV.val ah b),(6,AV.val ah c),(7,AV.val ah d)] [(0,aC.mk bu mI e false)]
def qjw(a b c:Int)(d:List Int):St:=bq 49 [(0,AV.b8 0 [] 1048576),(1,AV.val ah a),(2,AV.val ah b),(6,AV.val ah c)] [(0,aC.mk bu mI d false)]
theorem qtm(D:DX)(n:Nat)(K:KT 188):∀(m:Nat)(e f g h:Int)(i:List Int),LF D n 188 uB m (qgq e f g h i) K=Kk D n (fun a b c d=>K (Ex.exit 2) (qjw a b c d)) m e f g h i:=oz (fun F=>VX D n F (fun a b c d=>K (Ex.exit 2) (qjw a b c d)))
theorem qsr(D:DX)(n:Nat)(m:Nat)(K:KT 188)(a b c d:Int)(e:List Int):LF D n 188 uB n (qgq a b c d e) (CF D n 188 [.r,.l,.l] [.r,.l,.l,.r,.l] (KF D n 188 h_ m K))=qf9 D n (fun x0 x1 x2 x3=>LF D n 188 h_ m (F5 x0 x1 x2 x3) K) (fun f=>K (Ex.exit 0) (VV f)) a b c d e :=by rw[qtm];kernel_rfl
theorem qtn(D:DX)(n:Nat)(m:Nat)(K:KT 188)(x0)(x1)(x2)(x3):LF D n 188 h_ (m+1) (F5 x0 x1 x2 x3) K=Te D n (fun x0 x1 x2 x3=>LF D n 188 h_ m (F5 x0 x1 x2 x3) K) (fun a=>K (Ex.exit 0) (VV a)) (fun b c d e f=>LF D n 188 uB n (qgq b c d e f) (CF D n 188 [.r,.l,.l] [.r,.l,.l,.r,.l] (KF D n 188 h_ m K))) x0 x1 x2 x3:=by kernel_rfl
theorem qj3(D:DX)(n:Nat)(K:KT 188):∀(m:Nat)(x0 x1 x2:Int)(x3:List Int),LF D n 188 h_ m (F5 x0 x1 x2 x3) K=zM D n (fun a=>K (Ex.exit 0) (VV a)) m x0 x1 x2 x3
 | 0,x0,x1,x2,x3=>sK ..
 | m+1,x0,x1,x2,x3=>by
  have ih:(fun x0 x1 x2 x3=>LF D n 188 h_ m (F5 x0 x1 x2 x3) K)=zM D n (fun a=>K (Ex.exit 0) (VV a)) m:=by funext x0 x1 x2 x3;exact qj3 D n K m x0 x1 x2 x3
  rw[qtn];simp only[qsr];rw[ih];rfl
theorem qsq(D:DX)(n:Nat)(x0)(x1)(x2)(x3):LF D n 188 h_ n (F5 x0 x1 x2 x3) (CF D n 188 [] h_ (lF 188))=qf8 D n x0 x1 x2 x3 :=by rw[qj3];kernel_rfl
theorem qvb(D:DX)(n:Nat)(a0:List Int)(a1 a2:Int):rF D n 188 (a0,(a1,(a2,())))=qgy D n a0 a1 a2:=by
 have h:rF D n 188 (a0,(a1,(a2,())))=qg3 D n (fun x0 x1 x2 x3=>LF D n 188 h_ n (F5 x0 x1 x2 x3) (CF D n 188 [] h_ (lF 188))) a0 a1 a2:=by kernel_rfl
 rw[h];simp only[qsq];rfl
def Pq(D:DX)(n:Nat)(a0 a1:Int):Option ag:=qd (qxh D a0) fun b=>br b.1.1 (qd (qxh D a1) fun b=>some ((bif !b.1.1 then true else decide (a0<a1),()),())) (some ((bif false then true else decide (a0<a1),()),()))
def Zg(D:DX)(n:Nat)(a0 a1:Int):Option ag:=Pq D n a0 a1
theorem ag1(D:DX)(n:Nat)(a0 a1:Int):rF D n 194 (a0,(a1,()))=Zg D n a0 a1:=by kernel_rfl
def afh(D:DX)(n:Nat)(a0:Int):Option aF:=let y0:=List.toArray ([UInt8.ofNat 0,UInt8.ofNat 1,UInt8.ofNat 2,UInt8.ofNat 2,UInt8.ofNat 3,UInt8.ofNat 3,UInt8.ofNat 3,UInt8.ofNat 3,UInt8.ofNat 4,UInt8.ofNat 4,UInt8.ofNat 4,UInt8.ofNat 4,UInt8.ofNat 4,UInt8.ofNat 4,UInt8.ofNat 4,UInt8.ofNat 4,UInt8.ofNat 5,UInt8.ofNat 5,UInt8.ofNat 5,UInt8.ofNat 5,UInt8.ofNat 5,UInt8.ofNat 5,UInt8.ofNat 5,UInt8.ofNat 5,UInt8.ofNat 5,UInt8.ofNat 5,UInt8.ofNat 5,UInt8.ofNat 5,UInt8.ofNat 5,UInt8.ofNat 5,UInt8.ofNat 5,UInt8.ofNat 5,UInt8.ofNat 6,UInt8.ofNat 6,UInt8.ofNat 6,UInt8.ofNat 6,UInt8.ofNat 6,UInt8.ofNat 6,UInt8.ofNat 6,UInt8.ofNat 6,UInt8.ofNat 6,UInt8.ofNat 6,UInt8.ofNat 6,UInt8.ofNat 6,UInt8.ofNat 6,UInt8.ofNat 6,UInt8.ofNat 6,UInt8.ofNat 6,UInt8.ofNat 6,UInt8.ofNat 6,UInt8.ofNat 6,UInt8.ofNat 6,UInt8.ofNat 6,UInt8.ofNat 6,UInt8.ofNat 6,UInt8.ofNat 6,UInt8.ofNat 6,UInt8.ofNat 6,UInt8.ofNat 6,UInt8.ofNat 6,UInt8.ofNat 6,UInt8.ofNat 6,UInt8.ofNat 6,UInt8.ofNat 6]++[UInt8.ofNat 7,UInt8.ofNat 7,UInt8.ofNat 7,UInt8.ofNat 7,UInt8.ofNat 7,UInt8.ofNat 7,UInt8.ofNat 7,UInt8.ofNat 7,UInt8.ofNat 7,UInt8.ofNat 7,UInt8.ofNat 7,UInt8.ofNat 7,UInt8.ofNat 7,UInt8.ofNat 7,UInt8.ofNat 7,UInt8.ofNat 7,UInt8.ofNat 7,UInt8.ofNat 7,UInt8.ofNat 7,UInt8.ofNat 7,UInt8.ofNat 7,UInt8.ofNat 7,UInt8.ofNat 7,UInt8.ofNat 7,UInt8.ofNat 7,UInt8.ofNat 7,UInt8.ofNat 7,UInt8.ofNat 7,UInt8.ofNat 7,UInt8.ofNat 7,UInt8.ofNat 7,UInt8.ofNat 7,UInt8.ofNat 7,UInt8.ofNat 7,UInt8.ofNat 7,UInt8.ofNat 7,UInt8.ofNat 7,UInt8.ofNat 7,UInt8.ofNat 7,UInt8.ofNat 7,UInt8.ofNat 7,UInt8.ofNat 7,UInt8.ofNat 7,UInt8.ofNat 7,UInt8.ofNat 7,UInt8.ofNat 7,UInt8.ofNat 7,UInt8.ofNat 7,UInt8.ofNat 7,UInt8.ofNat 7,UInt8.ofNat 7,UInt8.ofNat 7,UInt8.ofNat 7,UInt8.ofNat 7,UInt8.ofNat 7,UInt8.ofNat 7,UInt8.ofNat 7,UInt8.ofNat 7,UInt8.ofNat 7,UInt8.ofNat 7,UInt8.ofNat 7,UInt8.ofNat 7,UInt8.ofNat 7,UInt8.ofNat 7]++([UInt8.ofNat 8,UInt8.ofNat 8,UInt8.ofNat 8,UInt8.ofNat 8,UInt8.ofNat 8,UInt8.ofNat 8,UInt8.ofNat 8,UInt8.ofNat 8,UInt8.ofNat 8,UInt8.ofNat 8,UInt8.ofNat 8,UInt8.ofNat 8,UInt8.ofNat 8,UInt8.ofNat 8,UInt8.ofNat 8,UInt8.ofNat 8,UInt8.ofNat 8,UInt8.ofNat 8,UInt8.ofNat 8,UInt8.ofNat 8,UInt8.ofNat 8,UInt8.ofNat 8,UInt8.ofNat 8,UInt8.ofNat 8,UInt8.ofNat 8,UInt8.ofNat 8,UInt8.ofNat 8,UInt8.ofNat 8,UInt8.ofNat 8,UInt8.ofNat 8,UInt8.ofNat 8,UInt8.ofNat 8,UInt8.ofNat 8,UInt8.ofNat 8,UInt8.ofNat 8,UInt8.ofNat 8,UInt8.ofNat 8,UInt8.ofNat 8,UInt8.ofNat 8,UInt8.ofNat 8,UInt8.ofNat 8,UInt8.ofNat 8,UInt8.ofNat 8,UInt8.ofNat 8,UInt8.ofNat 8,UInt8.ofNat 8,UInt8.ofNat 8,UInt8.ofNat 8,UInt8.ofNat 8,UInt8.ofNat 8,UInt8.ofNat 8,UInt8.ofNat 8,UInt8.ofNat 8,UInt8.ofNat 8,UInt8.ofNat 8,UInt8.ofNat 8,UInt8.ofNat 8,UInt8.ofNat 8,UInt8.ofNat 8,UInt8.ofNat 8,UInt8.ofNat 8,UInt8.ofNat 8,UInt8.ofNat 8,UInt8.ofNat 8]++[UInt8.ofNat 8,UInt8.ofNat 8,UInt8.ofNat 8,UInt8.ofNat 8,UInt8.ofNat 8,UInt8.ofNat 8,UInt8.ofNat 8,UInt8.ofNat 8,UInt8.ofNat 8,UInt8.ofNat 8,UInt8.ofNat 8,UInt8.ofNat 8,UInt8.ofNat 8,UInt8.ofNat 8,UInt8.ofNat 8,UInt8.ofNat 8,UInt8.ofNat 8,UInt8.ofNat 8,UInt8.ofNat 8,UInt8.ofNat 8,UInt8.ofNat 8,UInt8.ofNat 8,UInt8.ofNat 8,UInt8.ofNat 8,UInt8.ofNat 8,UInt8.ofNat 8,UInt8.ofNat 8,UInt8.ofNat 8,UInt8.ofNat 8,UInt8.ofNat 8,UInt8.ofNat 8,UInt8.ofNat 8,UInt8.ofNat 8,UInt8.ofNat 8,UInt8.ofNat 8,UInt8.ofNat 8,UInt8.ofNat 8,UInt8.ofNat 8,UInt8.ofNat 8,UInt8.ofNat 8,UInt8.ofNat 8,UInt8.ofNat 8,UInt8.ofNat 8,UInt8.ofNat 8,UInt8.ofNat 8,UInt8.ofNat 8,UInt8.ofNat 8,UInt8.ofNat 8,UInt8.ofNat 8,UInt8.ofNat 8,UInt8.ofNat 8,UInt8.ofNat 8,UInt8.ofNat 8,UInt8.ofNat 8,UInt8.ofNat 8,UInt8.ofNat 8,UInt8.ofNat 8,UInt8.ofNat 8,UInt8.ofNat 8,UInt8.ofNat 8,UInt8.ofNat 8,UInt8.ofNat 8,UInt8.ofNat 8,UInt8.ofNat 8]));let y1:=Int.pow 2 (if Int.toNat 32<=IntKind.bits .u64 then Int.toNat 32 else IntKind.bits .u64);let y2:=Int.pow 2 (if Int.toNat 16<=IntKind.bits .u64 then Int.toNat 16 else IntKind.bits .u64);let y3:=Int.pow 2 (if Int.toNat 8<=IntKind.bits .u64 then Int.toNat 8 else IntKind.bits .u64);let y4:=Int.fdiv a0 y1;let y5:=ByteArray.mk y0;let y6:=Int.fdiv y4 y2;let y7:=Int.fdiv a0 y2;br (decide (a0>=4294967296)) (br (decide (y4>=65536)) (br (decide (y6>=256)) (br (decide (0<=wrap .u8 (Int.fdiv y6 y3))&&decide (wrap .u8 (Int.fdiv y6 y3)<(↑(ByteArray.size y5):Int))) (some ((wrap .i64 (wrap .i64 (wrap .i64 (32+16)+8)+wrap .i64 (↑(UInt8.toNat (Array.getD y0 (Int.toNat (wrap .u8 (Int.fdiv y6 y3))) (UInt8.ofNat 0))):Int)),()),())) none) (br (decide (0<=wrap .u8 y6)&&decide (wrap .u8 y6<(↑(ByteArray.size y5):Int))) (some ((wrap .i64 (wrap .i64 (32+16)+wrap .i64 (↑(UInt8.toNat (Array.getD y0 (Int.toNat (wrap .u8 y6)) (UInt8.ofNat 0))):Int)),()),())) none)) (br (decide (y4>=256)) (br (decide (0<=wrap .u8 (Int.fdiv y4 y3))&&decide (wrap .u8 (Int.fdiv y4 y3)<(↑(ByteArray.size y5):Int))) (some ((wrap .i64 (wrap .i64 (32+8)+wrap .i64 (↑(UInt8.toNat (Array.getD y0 (Int.toNat (wrap .u8 (Int.fdiv y4 y3))) (UInt8.ofNat 0))):Int)),()),())) none) (br (decide (0<=wrap .u8 y4)&&decide (wrap .u8 y4<(↑(ByteArray.size y5):Int))) (some ((wrap .i64 (32+wrap .i64 (↑(UInt8.toNat (Array.getD y0 (Int.toNat (wrap .u8 y4)) (UInt8.ofNat 0))):Int)),()),())) none))) (br (decide (a0>=65536)) (br (decide (y7>=256)) (br (decide (0<=wrap .u8 (Int.fdiv y7 y3))&&decide (wrap .u8 (Int.fdiv y7 y3)<(↑(ByteArray.size y5):Int))) (some ((wrap .i64 (wrap .i64 (wrap .i64 (0+16)+8)+wrap .i64 (↑(UInt8.toNat (Array.getD y0 (Int.toNat (wrap .u8 (Int.fdiv y7 y3))) (UInt8.ofNat 0))):Int)),()),())) none) (br (decide (0<=wrap .u8 y7)&&decide (wrap .u8 y7<(↑(ByteArray.size y5):Int))) (some ((wrap .i64 (wrap .i64 (0+16)+wrap .i64 (↑(UInt8.toNat (Array.getD y0 (Int.toNat (wrap .u8 y7)) (UInt8.ofNat 0))):Int)),()),())) none)) (br (decide (a0>=256)) (br (decide (0<=wrap .u8 (Int.fdiv a0 y3))&&decide (wrap .u8 (Int.fdiv a0 y3)<(↑(ByteArray.size y5):Int))) (some ((wrap .i64 (wrap .i64 (0+8)+wrap .i64 (↑(UInt8.toNat (Array.getD y0 (Int.toNat (wrap .u8 (Int.fdiv a0 y3))) (UInt8.ofNat 0))):Int)),()),())) none) (br (decide (0<=wrap .u8 a0)&&decide (wrap .u8 a0<(↑(ByteArray.size y5):Int))) (some ((wrap .i64 (0+wrap .i64 (↑(UInt8.toNat (Array.getD y0 (Int.toNat (wrap .u8 a0)) (UInt8.ofNat 0))):Int)),()),())) none)))
def rS(D:DX)(n:Nat)(a0:Int):Option aF:=afh D n a0
theorem ae2(D:DX)(n:Nat)(a0:Int):rF D n 198 (a0,())=rS D n a0:=by kernel_rfl
def VO(D:DX)(n:Nat)(a3:a_)(go:Int->Int->Int->Int->List aj->Option cE)(K0:Int->Int->Int->List aj->Option cE)(c d e a:Int)(b:List aj):Option cE:=let y2:=wrap .i64 (a-1);let y0:=List.getD b (Int.toNat y2) (0,0,0,());let y1:=List.getD b a.toNat (0,0,0,());br (decide (a>c)) (br (decide (0<=a)&&decide (a<(b.length:Int))) (br (decide (0<=y2)&&decide (y2<(b.length:Int))) (qd (gF ctx D a3 [bC.val bT y1,bC.val bT y0] ah) fun p0=>br (decide (p0<0)) (br (decide (0<=y2)&&decide (y2<(b.length:Int))) (br (decide (0<=a)&&decide (a<(b.length:Int))) (br (decide (0<=a)&&decide (a<(b.length:Int))) (br (decide (0<=y2)&&decide (y2<((List.set b a.toNat y0).length:Int))) (go c d e y2 (List.set (List.set b a.toNat y0) (Int.toNat y2) y1)) none) none) none) none) (K0 c d e b)) none) none) (K0 c d e b)
def Ke(D:DX)(n:Nat)(a3:a_)(K0:Int->Int->Int->List aj->Option cE):Nat->Int->Int->Int->Int->(List aj)->Option cE | 0=>(fun a b c d e=>none) | m+1=>(fun a b c d e=>VO D n a3 (Ke D n a3 K0 m) K0 a b c d e)
def qdp(D:DX)(n:Nat)(a3:a_)(go:Int->Int->Int->List aj->Option cE)(K0:List aj->Option cE)(a b c:Int)(d:List aj):Option cE:=go a b (wrap .i64 (c+1)) d
def qd1(D:DX)(n:Nat)(a3:a_)(go:Int->Int->Int->List aj->Option cE)(K0:List aj->Option cE):(Int)->(Int)->(Int)->(Int)->(List aj)->Option cE:=(fun a f g h i=>Ke D n a3 (fun b c d e=>qdp D n a3 go K0 b c d e) n a f g h i)
def TC(D:DX)(n:Nat)(a3:a_)(go:Int->Int->Int->List aj->Option cE)(K0:List aj->Option cE)(mJ:Int->Int->Int->Int->List aj->Option cE)(x0 x1 x2:Int)(x3:List aj):Option cE:=br (decide (x2<x1)) (mJ x0 x1 x2 x2 x3) (K0 x3)
def zL(D:DX)(n:Nat)(a3:a_)(K0:List aj->Option cE):Nat->Int->Int->Int->(List aj)->Option cE | 0=>(fun x0 x1 x2 x3=>none) | m+1=>(fun x0 x1 x2 x3=>TC D n a3 (zL D n a3 K0 m) K0 (qd1 D n a3 (zL D n a3 K0 m) K0) x0 x1 x2 x3)
def qg7(D:DX)(n:Nat)(a3:a_)(a:List aj):Option cE:=some ((),a,())
def qd0(D:DX)(n:Nat)(a3:a_):(Int)->(Int)->(Int)->(List aj)->Option cE:=(fun x0 x1 x2 x3=>zL D n a3 (fun a=>qg7 D n a3 a) n x0 x1 x2 x3)
def qet(D:DX)(n:Nat)(a3:a_)(cz:Int->Int->Int->List aj->Option cE)(a0:List aj)(a1 a2:Int):Option cE:=cz a1 a2 (wrap .i64 (a1+1)) a0
def qem(D:DX)(n:Nat)(a0:List aj)(a1 a2:Int)(a3:a_):Option cE:=qet D n a3 (qd0 D n a3) a0 a1 a2
def HV(a3:a_)(x0 x1 x2:Int)(x3:List aj):St:=bq 53 [(0,AV.b8 0 [] 1048576),(1,AV.val ah x0),(2,AV.val ah x1),(3,AV.ep a3),(8,AV.val ah x2)] [(0,aC.mk bV mI x3 false)]
def VR(a3:a_)(a:List aj):St:=bq 53 [(0,AV.b8 0 [] 1048576)] [(0,aC.mk bV mI a false)]
def qeh(a3:a_)(a b c d:Int)(e:List aj):St:=bq 53 [(0,AV.b8 0 [] 1048576),(1,AV.val ah a),(2,AV.val ah b),(3,AV.ep a3),(8,AV.val ah c),(9,AV.val ah d)] [(0,aC.mk bV mI e false)]
def qg6(a3:a_)(a b c:Int)(d:List aj):St:=bq 53 [(0,AV.b8 0 [] 1048576),(1,AV.val ah a),(2,AV.val ah b),(3,AV.ep a3),(8,AV.val ah c)] [(0,aC.mk bV mI d false)]
theorem qn1(D:DX)(n:Nat)(a3:a_)(K:KT 199):∀(m:Nat)(e f g h:Int)(i:List aj),LF D n 199 uB m (qeh a3 e f g h i) K=Ke D n a3 (fun a b c d=>K (Ex.exit 2) (qg6 a3 a b c d)) m e f g h i:=oz (fun F=>VO D n a3 F (fun a b c d=>K (Ex.exit 2) (qg6 a3 a b c d)))
theorem qm6(D:DX)(n:Nat)(a3:a_)(m:Nat)(K:KT 199)(a b c d:Int)(e:List aj):LF D n 199 uB n (qeh a3 a b c d e) (CF D n 199 [.r,.l,.l] [.r,.l,.l,.r,.l] (KF D n 199 h_ m K))=qd1 D n a3 (fun x0 x1 x2 x3=>LF D n 199 h_ m (HV a3 x0 x1 x2 x3) K) (fun f=>K (Ex.exit 0) (VR a3 f)) a b c d e :=by rw[qn1];kernel_rfl
theorem qn2(D:DX)(n:Nat)(a3:a_)(m:Nat)(K:KT 199)(x0)(x1)(x2)(x3):LF D n 199 h_ (m+1) (HV a3 x0 x1 x2 x3) K=TC D n a3 (fun x0 x1 x2 x3=>LF D n 199 h_ m (HV a3 x0 x1 x2 x3) K) (fun a=>K (Ex.exit 0) (VR a3 a)) (fun b c d e f=>LF D n 199 uB n (qeh a3 b c d e f) (CF D n 199 [.r,.l,.l] [.r,.l,.l,.r,.l] (KF D n 199 h_ m K))) x0 x1 x2 x3:=by kernel_rfl
theorem qhh(D:DX)(n:Nat)(a3:a_)(K:KT 199):∀(m:Nat)(x0 x1 x2:Int)(x3:List aj),LF D n 199 h_ m (HV a3 x0 x1 x2 x3) K=zL D n a3 (fun a=>K (Ex.exit 0) (VR a3 a)) m x0 x1 x2 x3
 | 0,x0,x1,x2,x3=>sK ..
 | m+1,x0,x1,x2,x3=>by
  have ih:(fun x0 x1 x2 x3=>LF D n 199 h_ m (HV a3 x0 x1 x2 x3) K)=zL D n a3 (fun a=>K (Ex.exit 0) (VR a3 a)) m:=by funext x0 x1 x2 x3;exact qhh D n a3 K m x0 x1 x2 x3
  rw[qn2];simp only[qm6];rw[ih];rfl
theorem qm5(D:DX)(n:Nat)(a3:a_)(x0)(x1)(x2)(x3):LF D n 199 h_ n (HV a3 x0 x1 x2 x3) (CF D n 199 [] h_ (lF 199))=qd0 D n a3 x0 x1 x2 x3 :=by rw[qhh];kernel_rfl
theorem qoq(D:DX)(n:Nat)(a0:List aj)(a1 a2:Int)(a3:a_):rF D n 199 (a0,(a1,(a2,(a3,()))))=qem D n a0 a1 a2 a3:=by
 have h:rF D n 199 (a0,(a1,(a2,(a3,()))))=qet D n a3 (fun x0 x1 x2 x3=>LF D n 199 h_ n (HV a3 x0 x1 x2 x3) (CF D n 199 [] h_ (lF 199))) a0 a1 a2:=by kernel_rfl
 rw[h];simp only[qm5];rfl
def OW(D:DX)(n:Nat)(a0:Int):Option ag:=some ((a0 != a0,()),())
def qxv(D:DX)(n:Nat)(a0:Int):Option ag:=OW D n a0
theorem agn(D:DX)(n:Nat)(a0:Int):rF D n 212 (a0,())=qxv D n a0:=by kernel_rfl
end
open Go.Proofs
def fO(X:Ext):Prop:=∀k:Nat,(Nat.beq k 128)=false->X.is k=false
theorem Td:fO yh:=fun _ _=>rfl
section
variable {X:Ext}(hX:fO X)(n:Nat)
include hX
theorem sQ{g:FuncId}{fn:Func}{a:gf (ctx.sig g).params}{r:Option (Out ctx g)}(hf:Tryz.prog.funcs[g]?=some fn)(ht:v_ g=some fn)(hg:Nat.beq g 128=false)(e:rF (DD X n) n g a=r):DD X (n+1) g a=r:=(ajU X hf ht (hX g hg) n a).trans e
theorem alj(a0):Sl (DD X (n+1)) a0=GP (DD X n) n a0:=sQ hX n Tryz.func5 (by kernel_rfl) rfl (ali ..)
theorem aa4(a0):Gx (DD X (n+1)) a0=QL (DD X n) n a0:=sQ hX n Tryz.func12 (by kernel_rfl) rfl (aa0 ..)
theorem aea(a0):qqb (DD X (n+1)) a0=qqh (DD X n) n a0:=sQ hX n Tryz.func13 (by kernel_rfl) rfl (ad9 ..)
theorem ae6(a0 a1):qtv (DD X (n+1)) a0 a1=qt4 (DD X n) n a0 a1:=sQ hX n Tryz.func14 (by kernel_rfl) rfl (aeU ..)
theorem afd(a0 a1):qtw (DD X (n+1)) a0 a1=qua (DD X n) n a0 a1:=sQ hX n Tryz.func15 (by kernel_rfl) rfl (ae3 ..)
theorem aar(a0 a1):Gi (DD X (n+1)) a0 a1=Gl (DD X n) n a0 a1:=sQ hX n Tryz.func16 (by kernel_rfl) rfl (aab ..)
theorem qub(a0):Wb (DD X (n+1)) a0=Wc (DD X n) n a0:=sQ hX n Tryz.func17 (by kernel_rfl) rfl (aeW ..)
theorem agv(a0):qxl (DD X (n+1)) a0=qxw (DD X n) n a0:=sQ hX n Tryz.func20 (by kernel_rfl) rfl (ago ..)
theorem al1(a0 a1):IX (DD X (n+1)) a0 a1=IY (DD X n) n a0 a1:=sQ hX n Tryz.func22 (by kernel_rfl) rfl (al0 ..)
theorem ahE(a0 a1):Vv (DD X (n+1)) a0 a1=Y0 (DD X n) n a0 a1:=sQ hX n Tryz.func23 (by kernel_rfl) rfl (ag9 ..)
theorem aln(a0):VH (DD X (n+1)) a0=Hq (DD X n) n a0:=sQ hX n Tryz.func24 (by kernel_rfl) rfl (alm ..)
theorem alX(a0):HY (DD X (n+1)) a0=IE (DD X n) n a0:=sQ hX n Tryz.func25 (by kernel_rfl) rfl (alU ..)
theorem alZ(a0):Iz (DD X (n+1)) a0=IG (DD X n) n a0:=sQ hX n Tryz.func26 (by kernel_rfl) rfl (alW ..)
theorem alY(a0):Im (DD X (n+1)) a0=IF (DD X n) n a0:=sQ hX n Tryz.func27 (by kernel_rfl) rfl (alV ..)
theorem ajm(a0 a1):P6 (DD X (n+1)) a0 a1=q71 (DD X n) n a0 a1:=sQ hX n Tryz.func29 (by kernel_rfl) rfl (aiM ..)
theorem ae4(a0):qtt (DD X (n+1)) a0=qt2 (DD X n) n a0:=sQ hX n Tryz.func30 (by kernel_rfl) rfl (aeS ..)
theorem alQ(a0):A3 (DD X (n+1)) a0=Ht (DD X n) n a0:=sQ hX n Tryz.func31 (by kernel_rfl) rfl (alP ..)
theorem ajo(a0 a1):WM (DD X (n+1)) a0 a1=q75 (DD X n) n a0 a1:=sQ hX n Tryz.func34 (by kernel_rfl) rfl (aiO ..)
theorem aiW(a0):v5 (DD X (n+1)) a0=q8a (DD X n) n a0:=sQ hX n Tryz.func35 (by kernel_rfl) rfl (ai_ ..)
theorem ahC(a0 a1):Y5 (DD X (n+1)) a0 a1=YY (DD X n) n a0 a1:=sQ hX n Tryz.func37 (by kernel_rfl) rfl (ag7 ..)
theorem ajl(a0 a1 a2):WK (DD X (n+1)) a0 a1 a2=q70 (DD X n) n a0 a1 a2:=sQ hX n Tryz.func38 (by kernel_rfl) rfl (aiL ..)
theorem aiD(a0):WC (DD X (n+1)) a0=q4x (DD X n) n a0:=sQ hX n Tryz.func39 (by kernel_rfl) rfl (ail ..)
theorem afQ(a0):yA (DD X (n+1)) a0=qvx (DD X n) n a0:=sQ hX n Tryz.func40 (by kernel_rfl) rfl (afF ..)
theorem ahD(a0):Y6 (DD X (n+1)) a0=YZ (DD X n) n a0:=sQ hX n Tryz.func42 (by kernel_rfl) rfl (ag8 ..)
theorem ai5(a0):q7z (DD X (n+1)) a0=q8i (DD X n) n a0:=sQ hX n Tryz.func44 (by kernel_rfl) rfl (aji ..)
theorem aes(a0):qrr (DD X (n+1)) a0=qrx (DD X n) n a0:=sQ hX n Tryz.func45 (by kernel_rfl) rfl (aen ..)
theorem afE(a0):qvw (DD X (n+1)) a0=qv4 (DD X n) n a0:=sQ hX n Tryz.func46 (by kernel_rfl) rfl (afP ..)
theorem ahS(a0 a1):rT (DD X (n+1)) a0 a1=ZD (DD X n) n a0 a1:=sQ hX n Tryz.func47 (by kernel_rfl) rfl (ahu ..)
theorem aid(a0 a1 a2):q4q (DD X (n+1)) a0 a1 a2=q47 (DD X n) n a0 a1 a2:=sQ hX n Tryz.func48 (by kernel_rfl) rfl (aiw ..)
theorem aiB(a0 a1):q4k (DD X (n+1)) a0 a1=q4v (DD X n) n a0 a1:=sQ hX n Tryz.func49 (by kernel_rfl) rfl (ah9 ..)
theorem af8(a0):Ks (DD X (n+1)) a0=qxy (DD X n) n a0:=sQ hX n Tryz.func50 (by kernel_rfl) rfl (agq ..)
theorem afy(a0):q7u (DD X (n+1)) a0=qvy (DD X n) n a0:=sQ hX n Tryz.func51 (by kernel_rfl) rfl (afG ..)
theorem aiK(a0 a1):q4p (DD X (n+1)) a0 a1=q43 (DD X n) n a0 a1:=sQ hX n Tryz.func52 (by kernel_rfl) rfl (ais ..)
theorem aie(a0):q4r (DD X (n+1)) a0=q48 (DD X n) n a0:=sQ hX n Tryz.func53 (by kernel_rfl) rfl (aix ..)
theorem afC(a0):q7x (DD X (n+1)) a0=qv2 (DD X n) n a0:=sQ hX n Tryz.func54 (by kernel_rfl) rfl (afN ..)
theorem afB(a0):qvv (DD X (n+1)) a0=qv1 (DD X n) n a0:=sQ hX n Tryz.func55 (by kernel_rfl) rfl (afM ..)
theorem aer(a0):Ko (DD X (n+1)) a0=qrw (DD X n) n a0:=sQ hX n Tryz.func56 (by kernel_rfl) rfl (aem ..)
theorem Qk(a0 a1):KB (DD X (n+1)) a0 a1=Vx (DD X n) n a0 a1:=sQ hX n Tryz.func57 (by kernel_rfl) rfl (aae ..)
theorem aav(a0 a1 a2):k_ (DD X (n+1)) a0 a1 a2=Qt (DD X n) n a0 a1 a2:=sQ hX n Tryz.func58 (by kernel_rfl) rfl (aag ..)
theorem ae5(a0):qtu (DD X (n+1)) a0=qt3 (DD X n) n a0:=sQ hX n Tryz.func59 (by kernel_rfl) rfl (aeT ..)
theorem ahH(a0 a1 a2):Y7 (DD X (n+1)) a0 a1 a2=Y3 (DD X n) n a0 a1 a2:=sQ hX n Tryz.func60 (by kernel_rfl) rfl (ahc ..)
theorem q5b(a0 a1):qh9 (DD X (n+1)) a0 a1=qmg (DD X n) n a0 a1:=sQ hX n Tryz.func61 (by kernel_rfl) rfl (q5a ..)
theorem alh(a0):Q3 (DD X (n+1)) a0=Ga (DD X n) n a0:=sQ hX n Tryz.func62 (by kernel_rfl) rfl (alg ..)
theorem ajq(a0):Dp (DD X (n+1)) a0=q77 (DD X n) n a0:=sQ hX n Tryz.func63 (by kernel_rfl) rfl (ai7 ..)
theorem qog(a0 a1):VS (DD X (n+1)) a0 a1=qd8 (DD X n) n a0 a1:=sQ hX n Tryz.func64 (by kernel_rfl) rfl (qoc ..)
theorem alK(a0):To (DD X (n+1)) a0=Tp (DD X n) n a0:=sQ hX n Tryz.func65 (by kernel_rfl) rfl (alJ ..)
theorem aiE(a0):KE (DD X (n+1)) a0=q4y (DD X n) n a0:=sQ hX n Tryz.func66 (by kernel_rfl) rfl (aim ..)
theorem adx(a0 a1):TO (DD X (n+1)) a0 a1=qms (DD X n) n a0 a1:=sQ hX n Tryz.func67 (by kernel_rfl) rfl (adv ..)
theorem ahI(a0):Jc (DD X (n+1)) a0=Y4 (DD X n) n a0:=sQ hX n Tryz.func68 (by kernel_rfl) rfl (ahd ..)
theorem qvc(a0):Km (DD X (n+1)) a0=V5 (DD X n) n a0:=sQ hX n Tryz.func69 (by kernel_rfl) rfl (adu ..)
theorem Rh:sH (DD X (n+1))=Gu (DD X n) n:=sQ hX n Tryz.func70 (by kernel_rfl) rfl (ahb ..)
theorem aaw(a0):KC (DD X (n+1)) a0=Qu (DD X n) n a0:=sQ hX n Tryz.func71 (by kernel_rfl) rfl (aah ..)
theorem ahG(a0):yD (DD X (n+1)) a0=Y2 (DD X n) n a0:=sQ hX n Tryz.func73 (by kernel_rfl) rfl (aha ..)
theorem ady(a0 a1):V4 (DD X (n+1)) a0 a1=qmt (DD X n) n a0 a1:=sQ hX n Tryz.func74 (by kernel_rfl) rfl (adw ..)
theorem aiI(a0 a1):Kx (DD X (n+1)) a0 a1=PJ (DD X n) n a0 a1:=sQ hX n Tryz.func75 (by kernel_rfl) rfl (aiq ..)
theorem ajs(a0):zN (DD X (n+1)) a0=q79 (DD X n) n a0:=sQ hX n Tryz.func76 (by kernel_rfl) rfl (ai9 ..)
theorem ahz(a0):tE (DD X (n+1)) a0=YV (DD X n) n a0:=sQ hX n Tryz.func77 (by kernel_rfl) rfl (ag4 ..)
theorem ahx(a0 a1 a2):Wu (DD X (n+1)) a0 a1 a2=Zh (DD X n) n a0 a1 a2:=sQ hX n Tryz.func78 (by kernel_rfl) rfl (ag2 ..)
theorem aep(a0 a1 a2):V9 (DD X (n+1)) a0 a1 a2=qru (DD X n) n a0 a1 a2:=sQ hX n Tryz.func79 (by kernel_rfl) rfl (aek ..)
theorem aaq(a0):Dq (DD X (n+1)) a0=Gk (DD X n) n a0:=sQ hX n Tryz.func80 (by kernel_rfl) rfl (aaa ..)
theorem agw(a0 a1):qxn (DD X (n+1)) a0 a1=qxx (DD X n) n a0 a1:=sQ hX n Tryz.func81 (by kernel_rfl) rfl (agp ..)
theorem ahJ(a0 a1):Y8 (DD X (n+1)) a0 a1=Zr (DD X n) n a0 a1:=sQ hX n Tryz.func82 (by kernel_rfl) rfl (ahe ..)
theorem ahh(a0):Y9 (DD X (n+1)) a0=Zx (DD X n) n a0:=sQ hX n Tryz.func83 (by kernel_rfl) rfl (agV ..)
theorem ahM(a0):I_ (DD X (n+1)) a0=Zu (DD X n) n a0:=sQ hX n Tryz.func85 (by kernel_rfl) rfl (agS ..)
theorem ahm:Zd (DD X (n+1))=Po (DD X n) n:=sQ hX n Tryz.func90 (by kernel_rfl) rfl (ahr ..)
theorem aiY(a0 a1):WO (DD X (n+1)) a0 a1=q8c (DD X n) n a0 a1:=sQ hX n Tryz.func91 (by kernel_rfl) rfl (ajb ..)
theorem afD(a0 a1):Wj (DD X (n+1)) a0 a1=qv3 (DD X n) n a0 a1:=sQ hX n Tryz.func92 (by kernel_rfl) rfl (afO ..)
theorem aet(a0):qrs (DD X (n+1)) a0=qry (DD X n) n a0:=sQ hX n Tryz.func93 (by kernel_rfl) rfl (aeo ..)
theorem aic(a0):Ja (DD X (n+1)) a0=q46 (DD X n) n a0:=sQ hX n Tryz.func94 (by kernel_rfl) rfl (aiv ..)
theorem qx3(a0):VY (DD X (n+1)) a0=qh2 (DD X n) n a0:=sQ hX n Tryz.func95 (by kernel_rfl) rfl (qxu ..)
theorem aho(a0):Ze (DD X (n+1)) a0=ZC (DD X n) n a0:=sQ hX n Tryz.func96 (by kernel_rfl) rfl (aht ..)
theorem aay(a0 a1 a2):lZ (DD X (n+1)) a0 a1 a2=Qj (DD X n) n a0 a1 a2:=sQ hX n Tryz.func97 (by kernel_rfl) rfl (aaj ..)
theorem ai0(a0):Uv (DD X (n+1)) a0=q8e (DD X n) n a0:=sQ hX n Tryz.func98 (by kernel_rfl) rfl (ajd ..)
theorem aia(a0):WD (DD X (n+1)) a0=q44 (DD X n) n a0:=sQ hX n Tryz.func99 (by kernel_rfl) rfl (ait ..)
theorem ahT(a0):Zf (DD X (n+1)) a0=ZE (DD X n) n a0:=sQ hX n Tryz.func100 (by kernel_rfl) rfl (ahv ..)
theorem af_(a0 a1):qxr (DD X (n+1)) a0 a1=qx0 (DD X n) n a0 a1:=sQ hX n Tryz.func101 (by kernel_rfl) rfl (ags ..)
theorem aga(a0 a1):qxt (DD X (n+1)) a0 a1=qx1 (DD X n) n a0 a1:=sQ hX n Tryz.func102 (by kernel_rfl) rfl (agt ..)
theorem ahL(a0):Kv (DD X (n+1)) a0=Zt (DD X n) n a0:=sQ hX n Tryz.func103 (by kernel_rfl) rfl (agR ..)
theorem afb(a0):Kq (DD X (n+1)) a0=qt9 (DD X n) n a0:=sQ hX n Tryz.func104 (by kernel_rfl) rfl (ae1 ..)
theorem adC(a0 a1):qng (DD X (n+1)) a0 a1=qni (DD X n) n a0 a1:=sQ hX n Tryz.func105 (by kernel_rfl) rfl (adA ..)
theorem ad_(a0 a1):qqa (DD X (n+1)) a0 a1=qqg (DD X n) n a0 a1:=sQ hX n Tryz.func106 (by kernel_rfl) rfl (ad7 ..)
theorem ahB(a0 a1):Wv (DD X (n+1)) a0 a1=YX (DD X n) n a0 a1:=sQ hX n Tryz.func107 (by kernel_rfl) rfl (ag6 ..)
theorem q7t(a0 a1):q1h (DD X (n+1)) a0 a1=qwl (DD X n) n a0 a1:=sQ hX n Tryz.func108 (by kernel_rfl) rfl (q6u ..)
theorem qod(a0 a1):qd3 (DD X (n+1)) a0 a1=qd5 (DD X n) n a0 a1:=sQ hX n Tryz.func109 (by kernel_rfl) rfl (qn9 ..)
theorem ahF(a0):Pk (DD X (n+1)) a0=Y1 (DD X n) n a0:=sQ hX n Tryz.func110 (by kernel_rfl) rfl (ag_ ..)
theorem aiA(a0):q4j (DD X (n+1)) a0=q4u (DD X n) n a0:=sQ hX n Tryz.func111 (by kernel_rfl) rfl (ah8 ..)
theorem aiF(a0 a1):q4l (DD X (n+1)) a0 a1=q4z (DD X n) n a0 a1:=sQ hX n Tryz.func112 (by kernel_rfl) rfl (ain ..)
theorem qqm(a0 a1):qiq (DD X (n+1)) a0 a1=qfd (DD X n) n a0 a1:=sQ hX n Tryz.func113 (by kernel_rfl) rfl (qqf ..)
theorem q65(a0 a1):V1 (DD X (n+1)) a0 a1=qkg (DD X n) n a0 a1:=sQ hX n Tryz.func114 (by kernel_rfl) rfl (q63 ..)
theorem ahA(a0):yC (DD X (n+1)) a0=YW (DD X n) n a0:=sQ hX n Tryz.func115 (by kernel_rfl) rfl (ag5 ..)
theorem yE(a0 a1 a2):Pm (DD X (n+1)) a0 a1 a2=u7 (DD X n) n a0 a1 a2:=sQ hX n Tryz.func116 (by kernel_rfl) rfl (agW ..)
theorem yF(a0 a1):Pn (DD X (n+1)) a0 a1=u9 (DD X n) n a0 a1:=sQ hX n Tryz.func117 (by kernel_rfl) rfl (agX ..)
theorem ajp(a0):Uu (DD X (n+1)) a0=q76 (DD X n) n a0:=sQ hX n Tryz.func118 (by kernel_rfl) rfl (ai6 ..)
theorem ahN(a0):Wx (DD X (n+1)) a0=Zv (DD X n) n a0:=sQ hX n Tryz.func119 (by kernel_rfl) rfl (agT ..)
theorem qrj(a0 a1):qfn (DD X (n+1)) a0 a1=qfo (DD X n) n a0 a1:=sQ hX n Tryz.func120 (by kernel_rfl) rfl (qri ..)
theorem ae8(a0):q54 (DD X (n+1)) a0=qt6 (DD X n) n a0:=sQ hX n Tryz.func121 (by kernel_rfl) rfl (aeX ..)
theorem qof(a0 a1):VN (DD X (n+1)) a0 a1=qd7 (DD X n) n a0 a1:=sQ hX n Tryz.func122 (by kernel_rfl) rfl (qob ..)
theorem ae9(a0):q55 (DD X (n+1)) a0=qt7 (DD X n) n a0:=sQ hX n Tryz.func123 (by kernel_rfl) rfl (aeY ..)
theorem ahg(a0):Wy (DD X (n+1)) a0=Zw (DD X n) n a0:=sQ hX n Tryz.func124 (by kernel_rfl) rfl (agU ..)
theorem afA(a0):Kr (DD X (n+1)) a0=qv0 (DD X n) n a0:=sQ hX n Tryz.func125 (by kernel_rfl) rfl (afL ..)
theorem qoe(a0 a1):VM (DD X (n+1)) a0 a1=qd6 (DD X n) n a0 a1:=sQ hX n Tryz.func126 (by kernel_rfl) rfl (qoa ..)
theorem ae_(a0 a1):q56 (DD X (n+1)) a0 a1=qt8 (DD X n) n a0 a1:=sQ hX n Tryz.func127 (by kernel_rfl) rfl (aeZ ..)
theorem ajv(a0):WR (DD X (n+1)) a0=q8j (DD X n) n a0:=sQ hX n Tryz.func132 (by kernel_rfl) rfl (ajj ..)
theorem ajw(a0):Cf (DD X (n+1)) a0=P8 (DD X n) n a0:=sQ hX n Tryz.func133 (by kernel_rfl) rfl (ajk ..)
theorem ai1(a0):q7w (DD X (n+1)) a0=q8f (DD X n) n a0:=sQ hX n Tryz.func134 (by kernel_rfl) rfl (aje ..)
theorem ahl(a0):Zc (DD X (n+1)) a0=ZB (DD X n) n a0:=sQ hX n Tryz.func135 (by kernel_rfl) rfl (ahq ..)
theorem ai3(a0):q7y (DD X (n+1)) a0=q8h (DD X n) n a0:=sQ hX n Tryz.func136 (by kernel_rfl) rfl (ajg ..)
theorem ahk(a0 a1):Zb (DD X (n+1)) a0 a1=ZA (DD X n) n a0 a1:=sQ hX n Tryz.func137 (by kernel_rfl) rfl (ahp ..)
theorem ahj(a0):Za (DD X (n+1)) a0=Zz (DD X n) n a0:=sQ hX n Tryz.func138 (by kernel_rfl) rfl (agZ ..)
theorem ahn:Wz (DD X (n+1))=Pp (DD X n) n:=sQ hX n Tryz.func139 (by kernel_rfl) rfl (ahs ..)
theorem aiJ(a0):q4o (DD X (n+1)) a0=Z_ (DD X n) n a0:=sQ hX n Tryz.func140 (by kernel_rfl) rfl (air ..)
theorem aib(a0 a1):PI (DD X (n+1)) a0 a1=q45 (DD X n) n a0 a1:=sQ hX n Tryz.func141 (by kernel_rfl) rfl (aiu ..)
theorem ai2(a0):Dl (DD X (n+1)) a0=q8g (DD X n) n a0:=sQ hX n Tryz.func143 (by kernel_rfl) rfl (ajf ..)
theorem ai4(a0):Uw (DD X (n+1)) a0=P7 (DD X n) n a0:=sQ hX n Tryz.func145 (by kernel_rfl) rfl (ajh ..)
theorem aax(a0):Vw (DD X (n+1)) a0=Gq (DD X n) n a0:=sQ hX n Tryz.func146 (by kernel_rfl) rfl (aai ..)
theorem aif(a0 a1):q4s (DD X (n+1)) a0 a1=q49 (DD X n) n a0 a1:=sQ hX n Tryz.func147 (by kernel_rfl) rfl (aiy ..)
theorem que(a0):qgi (DD X (n+1)) a0=qgl (DD X n) n a0:=sQ hX n Tryz.func148 (by kernel_rfl) rfl (qtz ..)
theorem qrz(a0):VU (DD X (n+1)) a0=qfw (DD X n) n a0:=sQ hX n Tryz.func149 (by kernel_rfl) rfl (qrt ..)
theorem qud(a0):qgh (DD X (n+1)) a0=qgk (DD X n) n a0:=sQ hX n Tryz.func150 (by kernel_rfl) rfl (qty ..)
theorem quc(a0):qgg (DD X (n+1)) a0=qgj (DD X n) n a0:=sQ hX n Tryz.func151 (by kernel_rfl) rfl (qtx ..)
theorem aa2(a0):Gw (DD X (n+1)) a0=Gz (DD X n) n a0:=sQ hX n Tryz.func152 (by kernel_rfl) rfl (aaY ..)
theorem aiz(a0 a1):q4i (DD X (n+1)) a0 a1=q4t (DD X n) n a0 a1:=sQ hX n Tryz.func153 (by kernel_rfl) rfl (ah7 ..)
theorem aas(a0 a1):KA (DD X (n+1)) a0 a1=Gm (DD X n) n a0 a1:=sQ hX n Tryz.func154 (by kernel_rfl) rfl (aac ..)
theorem aau(a0 a1):UA (DD X (n+1)) a0 a1=Gp (DD X n) n a0 a1:=sQ hX n Tryz.func155 (by kernel_rfl) rfl (aaf ..)
theorem aa1(a0):Gv (DD X (n+1)) a0=Gy (DD X n) n a0:=sQ hX n Tryz.func156 (by kernel_rfl) rfl (aaX ..)
theorem aeq(a0 a1 a2):TP (DD X (n+1)) a0 a1 a2=qrv (DD X n) n a0 a1 a2:=sQ hX n Tryz.func157 (by kernel_rfl) rfl (ael ..)
theorem ae7(a0 a1 a2):TM (DD X (n+1)) a0 a1 a2=qt5 (DD X n) n a0 a1 a2:=sQ hX n Tryz.func158 (by kernel_rfl) rfl (aeV ..)
theorem aap(a0 a1):Gh (DD X (n+1)) a0 a1=Gj (DD X n) n a0 a1:=sQ hX n Tryz.func159 (by kernel_rfl) rfl (aam ..)
theorem aiC(a0 a1):WB (DD X (n+1)) a0 a1=q4w (DD X n) n a0 a1:=sQ hX n Tryz.func160 (by kernel_rfl) rfl (ah_ ..)
theorem ajn(a0 a1 a2 a3):WL (DD X (n+1)) a0 a1 a2 a3=q73 (DD X n) n a0 a1 a2 a3:=sQ hX n Tryz.func161 (by kernel_rfl) rfl (aiN ..)
theorem qqj(a0 a1):qin (DD X (n+1)) a0 a1=qfa (DD X n) n a0 a1:=sQ hX n Tryz.func162 (by kernel_rfl) rfl (qqc ..)
theorem quf(a0 a1):qj8 (DD X (n+1)) a0 a1=qgm (DD X n) n a0 a1:=sQ hX n Tryz.func163 (by kernel_rfl) rfl (qt0 ..)
theorem qql(a0 a1):qip (DD X (n+1)) a0 a1=qfc (DD X n) n a0 a1:=sQ hX n Tryz.func164 (by kernel_rfl) rfl (qqe ..)
theorem qqk(a0 a1):qio (DD X (n+1)) a0 a1=qfb (DD X n) n a0 a1:=sQ hX n Tryz.func165 (by kernel_rfl) rfl (qqd ..)
theorem aiZ(a0):WQ (DD X (n+1)) a0=q8d (DD X n) n a0:=sQ hX n Tryz.func166 (by kernel_rfl) rfl (ajc ..)
theorem ahi(a0):Y_ (DD X (n+1)) a0=Zy (DD X n) n a0:=sQ hX n Tryz.func167 (by kernel_rfl) rfl (agY ..)
theorem aa3(a0 a1):VC (DD X (n+1)) a0 a1=GA (DD X n) n a0 a1:=sQ hX n Tryz.func168 (by kernel_rfl) rfl (aaZ ..)
theorem adr(a0 a1):V2 (DD X (n+1)) a0 a1=qlm (DD X n) n a0 a1:=sQ hX n Tryz.func169 (by kernel_rfl) rfl (adq ..)
theorem aiX(a0 a1):WN (DD X (n+1)) a0 a1=q8b (DD X n) n a0 a1:=sQ hX n Tryz.func170 (by kernel_rfl) rfl (aja ..)
theorem aiG(a0 a1):q4m (DD X (n+1)) a0 a1=Z8 (DD X n) n a0 a1:=sQ hX n Tryz.func171 (by kernel_rfl) rfl (aio ..)
theorem aat(a0 a1):u_ (DD X (n+1)) a0 a1=Gn (DD X n) n a0 a1:=sQ hX n Tryz.func172 (by kernel_rfl) rfl (aad ..)
theorem ajr(a0):yG (DD X (n+1)) a0=q78 (DD X n) n a0:=sQ hX n Tryz.func173 (by kernel_rfl) rfl (ai8 ..)
theorem ahK(a0 a1 a2 a3):Ww (DD X (n+1)) a0 a1 a2 a3=Zs (DD X n) n a0 a1 a2 a3:=sQ hX n Tryz.func174 (by kernel_rfl) rfl (ahf ..)
theorem adD(a0):V3 (DD X (n+1)) a0=qnj (DD X n) n a0:=sQ hX n Tryz.func175 (by kernel_rfl) rfl (adB ..)
theorem aiH(a0 a1 a2 a3 a4):q4n (DD X (n+1)) a0 a1 a2 a3 a4=Z9 (DD X n) n a0 a1 a2 a3 a4:=sQ hX n Tryz.func176 (by kernel_rfl) rfl (aip ..)
theorem ahy(a0 a1):O7 (DD X (n+1)) a0 a1=Zi (DD X n) n a0 a1:=sQ hX n Tryz.func177 (by kernel_rfl) rfl (ag3 ..)
theorem qqi(a0 a1):TG (DD X (n+1)) a0 a1=TH (DD X n) n a0 a1:=sQ hX n Tryz.func178 (by kernel_rfl) rfl (ad8 ..)
theorem qv5(a0 a1):qy (DD X (n+1)) a0 a1=TT (DD X n) n a0 a1:=sQ hX n Tryz.func179 (by kernel_rfl) rfl (afH ..)
theorem afa(a0 a1):tD (DD X (n+1)) a0 a1=q58 (DD X n) n a0 a1:=sQ hX n Tryz.func180 (by kernel_rfl) rfl (ae0 ..)
theorem qv6(a0 a1 a2 a3 a4):vW (DD X (n+1)) a0 a1 a2 a3 a4=TU (DD X n) n a0 a1 a2 a3 a4:=sQ hX n Tryz.func181 (by kernel_rfl) rfl (afJ ..)
theorem qpm(a0 a1):VT (DD X (n+1)) a0 a1=qex (DD X n) n a0 a1:=sQ hX n Tryz.func182 (by kernel_rfl) rfl (qpk ..)
theorem afz(a0 a1):q7v (DD X (n+1)) a0 a1=qvz (DD X n) n a0 a1:=sQ hX n Tryz.func183 (by kernel_rfl) rfl (afK ..)
theorem q3r(a0 a1 a2 a3):qz (DD X (n+1)) a0 a1 a2 a3=qjo (DD X n) n a0 a1 a2 a3:=sQ hX n Tryz.func184 (by kernel_rfl) rfl (q3q ..)
theorem q8k(a0 a1 a2):I6 (DD X (n+1)) a0 a1 a2=Wk (DD X n) n a0 a1 a2:=sQ hX n Tryz.func186 (by kernel_rfl) rfl (afI ..)
theorem qug(a0 a1 a2 a3 a4):qo (DD X (n+1)) a0 a1 a2 a3 a4=qgn (DD X n) n a0 a1 a2 a3 a4:=sQ hX n Tryz.func187 (by kernel_rfl) rfl (qt1 ..)
theorem qvd(a0 a1 a2):qkn (DD X (n+1)) a0 a1 a2=qgy (DD X n) n a0 a1 a2:=sQ hX n Tryz.func188 (by kernel_rfl) rfl (qvb ..)
theorem ahw(a0 a1):yB (DD X (n+1)) a0 a1=Zg (DD X n) n a0 a1:=sQ hX n Tryz.func194 (by kernel_rfl) rfl (ag1 ..)
theorem qos(a0 a1 a2 a3):qhy (DD X (n+1)) a0 a1 a2 a3=qem (DD X n) n a0 a1 a2 a3:=sQ hX n Tryz.func199 (by kernel_rfl) rfl (qoq ..)
theorem agu(a0):qxh (DD X (n+1)) a0=qxv (DD X n) n a0:=sQ hX n Tryz.func212 (by kernel_rfl) rfl (agn ..)
theorem af9(a0):Ws (DD X (n+1)) a0=qxz (DD X n) n a0:=sQ hX n Tryz.func185 (by kernel_rfl) rfl (agr ..)
theorem afc(a0):q57 (DD X (n+1)) a0=rS (DD X n) n a0:=sQ hX n Tryz.func198 (by kernel_rfl) rfl (ae2 ..)
end
end Go.G

import Derived.Test.YtpmimbgkiindbaaGreatAPFnFound0
set_option maxRecDepth 100000
set_option linter.unusedVariables false
set_option linter.unusedSimpArgs false
set_option linter.unusedSectionVars false
open Go.IntKind (wrap)
namespace Go.G
set_option maxHeartbeats 0
open Go Go.V
noncomputable section
def N_(D:DX)(n:Nat)(a0:aS)(a1:cC):Option iU:=qd (IF D a0) fun b=>br (decide (b.1.1.2.2.2.2.1.length+1<=fY)) (some (((b.1.1.1,b.1.1.2.1,b.1.1.2.2.1,b.1.1.2.2.2.1,b.1.1.2.2.2.2.1++[a1],()),()),())) none
def EV(D:DX)(n:Nat)(a0:aS)(a1:cC):Option iU:=N_ D n a0 a1
theorem Y8(D:DX)(n:Nat)(a0:aS)(a1:cC):rF D n 154 (a0,(a1,()))=EV D n a0 a1:=by kernel_rfl
def Oc(D:DX)(n:Nat)(a0:aS)(a1:cC):Option iU:=qd (IF D a0) fun p0=>br (decide ((p0.1.1.2.2.2.2.1.length:Int)>0)) (br (decide (0<=wrap .i64 ((p0.1.1.2.2.2.2.1.length:Int)-1))&&decide (wrap .i64 ((p0.1.1.2.2.2.2.1.length:Int)-1)<(p0.1.1.2.2.2.2.1.length:Int))) (some (((p0.1.1.1,p0.1.1.2.1,p0.1.1.2.2.1,p0.1.1.2.2.2.1,List.set p0.1.1.2.2.2.2.1 (Int.toNat (wrap .i64 ((p0.1.1.2.2.2.2.1.length:Int)-1))) a1,()),()),())) none) (some (((p0.1.1.1,p0.1.1.2.1,p0.1.1.2.2.1,p0.1.1.2.2.2.1,p0.1.1.2.2.2.2.1,()),()),()))
def EX(D:DX)(n:Nat)(a0:aS)(a1:cC):Option iU:=Oc D n a0 a1
theorem Za(D:DX)(n:Nat)(a0:aS)(a1:cC):rF D n 155 (a0,(a1,()))=EX D n a0 a1:=by kernel_rfl
def OL(D:DX)(n:Nat)(a0:aS):Option iU:=qd (IF D a0) fun p0=>br (decide ((p0.1.1.2.2.2.2.1.length:Int)>0)) (br (decide (0<=wrap .i64 ((p0.1.1.2.2.2.2.1.length:Int)-1))&&decide (wrap .i64 ((p0.1.1.2.2.2.2.1.length:Int)-1)<=(p0.1.1.2.2.2.2.1.length:Int))) (some (((p0.1.1.1,p0.1.1.2.1,p0.1.1.2.2.1,p0.1.1.2.2.2.1,List.take (Int.toNat (wrap .i64 ((p0.1.1.2.2.2.2.1.length:Int)-1))) p0.1.1.2.2.2.2.1,()),()),())) none) (some (((p0.1.1.1,p0.1.1.2.1,p0.1.1.2.2.1,p0.1.1.2.2.2.1,p0.1.1.2.2.2.2.1,()),()),()))
def Fg(D:DX)(n:Nat)(a0:aS):Option iU:=OL D n a0
theorem ZT(D:DX)(n:Nat)(a0:aS):rF D n 156 (a0,())=Fg D n a0:=by kernel_rfl
def q0b(D:DX)(n:Nat)(z0:Int)(z1:aH):Option vW:=let y5:=List.getD z1.2.1 z0.toNat ([],0,false,[],[],());let y2:=List.set z1.2.1 z0.toNat (y5.1,wrap .i64 (y5.2.1+1),y5.2.2);let y6:=List.getD y2 z0.toNat ([],0,false,[],[],());let y0:=List.set y2 z0.toNat (y6.1,y6.2.1,false,y6.2.2.2);let y4:=List.getD y0 z0.toNat ([],0,false,[],[],());let y1:=List.set y0 z0.toNat (y4.1,y4.2.1,y4.2.2.1,[],y4.2.2.2.2);let y3:=List.getD y1 z0.toNat ([],0,false,[],[],());br (decide (0<=z0)&&decide (z0<(z1.2.1.length:Int))) (some ((),(z1.1,List.set y1 z0.toNat (y3.1,y3.2.1,y3.2.2.1,y3.2.2.2.1,[],y3.2.2.2.2.2),z1.2.2),())) none
def qqt(D:DX)(n:Nat)(z0:Int)(z1:aH):Option vW:=q0b D n z0 z1
def qsf(D:DX)(n:Nat)(j0:Int->aH->Option vW)(a0:aH)(a1:Int)(a2:eJ):Option vW:=qd (Tt D a0 a1) fun p0=>let y2:=List.getD p0.2.1.2.2.2.1 p0.1.1.toNat (0,(0,0,0,()),0,0,0,(0,[],()),());let y0:=List.set p0.2.1.2.2.2.1 p0.1.1.toNat (y2.1,y2.2.1,y2.2.2.1,y2.2.2.2.1,p0.2.1.2.2.1,y2.2.2.2.2.2);let y1:=List.getD y0 p0.1.1.toNat (0,(0,0,0,()),0,0,0,(0,[],()),());br (decide (p0.1.1>=0)) (br (decide (0<=p0.1.1)&&decide (p0.1.1<(p0.2.1.2.2.2.1.length:Int))) (qd (CG D a2) fun p1=>br (decide (0<=p0.1.1)&&decide (p0.1.1<(y0.length:Int))) (j0 a1 (p0.2.1.1,p0.2.1.2.1,p0.2.1.2.2.1,List.set y0 p0.1.1.toNat (y1.1,y1.2.1,y1.2.2.1,y1.2.2.2.1,y1.2.2.2.2.1,(p1.1.1.1,p1.1.1.2.1,()),y1.2.2.2.2.2.2),p0.2.1.2.2.2.2)) none) none) (j0 a1 p0.2.1)
def qrv(D:DX)(n:Nat)(a0:aH)(a1:Int)(a2:eJ):Option vW:=qsf D n (fun z0 z1=>qqt D n z0 z1) a0 a1 a2
def qym(z0:Int)(z1:aH):St:=bz 55 [(0,AV.addr 0 []),(1,AV.val ah z0)] [(0,aB.mk dN zZ z1 true)]
theorem ab0(D:DX)(n:Nat)(z0)(z1):mI ctx D (ctx.hints 157) n (tE (bF 157) [.r,.r]) (qym z0 z1) (lF 157)=qqt D n z0 z1:=by kernel_rfl
theorem acD(D:DX)(n:Nat)(K:St->Option (Out ctx 157))(a0:aH)(a1:Int)(a2:eJ):ux ctx D (ctx.hints 157) n 2 (bF 157) (GL (C:=ctx) vK 157 (a0,(a1,(a2,())))) K (lF 157)=qsf D n (fun z0 z1=>K (qym z0 z1)) a0 a1 a2:=by kernel_rfl
theorem acZ(D:DX)(n:Nat)(a0:aH)(a1:Int)(a2:eJ):rF D n 157 (a0,(a1,(a2,())))=qrv D n a0 a1 a2:=
 (abG vK D n 157 _ (by kernel_rfl)).trans ((abn ctx D (ctx.hints 157) n 2 (lF 157) (bF 157) [.r,.r] _ rfl (by kernel_rfl)).symm.trans ((acD D n (fun S=>mI ctx D (ctx.hints 157) n (tE (bF 157) [.r,.r]) S (lF 157)) a0 a1 a2).trans (by simp only[ab0];rfl)))
def q6g(D:DX)(n:Nat)(a0:aH)(a1:Int)(a2:eJ):Option vW:=qd (Tt D a0 a1) fun p0=>let y2:=List.getD p0.2.1.2.2.2.1 p0.1.1.toNat (0,(0,0,0,()),0,0,0,(0,[],()),());let y0:=List.set p0.2.1.2.2.2.1 p0.1.1.toNat (y2.1,y2.2.1,y2.2.2.1,p0.2.1.2.2.1,y2.2.2.2.2);let y1:=List.getD y0 p0.1.1.toNat (0,(0,0,0,()),0,0,0,(0,[],()),());br (decide (p0.1.1<0)) (some ((),p0.2.1,())) (br (decide (0<=p0.1.1)&&decide (p0.1.1<(p0.2.1.2.2.2.1.length:Int))) (qd (CG D a2) fun p1=>br (decide (0<=p0.1.1)&&decide (p0.1.1<(y0.length:Int))) (br (decide (p0.2.1.2.2.2.2.1.length+1<=fY)) (some ((),(p0.2.1.1,p0.2.1.2.1,p0.2.1.2.2.1,List.set y0 p0.1.1.toNat (y1.1,y1.2.1,y1.2.2.1,y1.2.2.2.1,y1.2.2.2.2.1,(p1.1.1.1,p1.1.1.2.1,()),y1.2.2.2.2.2.2),p0.2.1.2.2.2.2.1++[p0.1.1],p0.2.1.2.2.2.2.2),())) none) none) none)
def qt5(D:DX)(n:Nat)(a0:aH)(a1:Int)(a2:eJ):Option vW:=q6g D n a0 a1 a2
theorem adF(D:DX)(n:Nat)(a0:aH)(a1:Int)(a2:eJ):rF D n 158 (a0,(a1,(a2,())))=qt5 D n a0 a1 a2:=by kernel_rfl
def N8(D:DX)(n:Nat)(a0:ai)(a1:List bB):Option aC:=qd (CK D a0) fun b=>br (!b.1.1) (some ((-1,()),())) (qd (Uj D a0 a1) fun b=>some ((b.1.1.2.2.1,()),()))
def ES(D:DX)(n:Nat)(a0:ai)(a1:List bB):Option aC:=N8 D n a0 a1
theorem Zi(D:DX)(n:Nat)(a0:ai)(a1:List bB):rF D n 159 (a0,(a1,()))=ES D n a0 a1:=by kernel_rfl
def Xq(D:DX)(n:Nat)(go:List bB->Int->Int->Int->Int->ai->iV->iV->cV->Option nj)(K0:List bB->ai->iV->iV->Option nj)(x0:List bB)(x1 x2 x3 x4:Int)(x5:ai)(x6 x7:iV)(x8:cV):Option nj:=br (decide (x4<x3)) (br (decide (0<=x4)&&decide (x4<(x8.2.1.length:Int))) (qd (uK D x0 (List.getD x8.2.1 x4.toNat 0)) fun p0=>qd (XY D x5 (List.getD x8.2.1 x4.toNat 0) p0.1.1 x2 x1) fun p1=>br (decide (x7.2.2.1.length+1<=fY)) (br (decide (x5.1=7)) (br (decide (x7.2.1.2.1.length+1<=fY)) (go x0 x1 x2 x3 (wrap .i64 (x4+1)) x5 x6 (x7.1,(x7.2.1.1,x7.2.1.2.1++[p0.1.1],x7.2.1.2.2),x7.2.2.1++[(List.getD x8.2.1 x4.toNat 0,p0.1.1,p1.1.1,())],x7.2.2.2) x8) none) (go x0 x1 x2 x3 (wrap .i64 (x4+1)) x5 x6 (x7.1,x7.2.1,x7.2.2.1++[(List.getD x8.2.1 x4.toNat 0,p0.1.1,p1.1.1,())],x7.2.2.2) x8)) none) none) (K0 x0 x5 x6 x7)
def IL(D:DX)(n:Nat)(K0:List bB->ai->iV->iV->Option nj):Nat->(List bB)->Int->Int->Int->Int->ai->iV->iV->cV->Option nj | 0=>(fun x0 x1 x2 x3 x4 x5 x6 x7 x8=>none) | m+1=>(fun x0 x1 x2 x3 x4 x5 x6 x7 x8=>Xq D n (IL D n K0 m) K0 x0 x1 x2 x3 x4 x5 x6 x7 x8)
def Ri(D:DX)(n:Nat)(c:List bB)(b:ai)(d a:iV):Option nj:=br (decide (b.1=10)) (qd (vE D b.2.2.1) fun p1=>qd (uK D c p1.1.1) fun p0=>br (p0.1.1 != 0) (some (((a.1,(0,[wrap .i64 (p0.1.1-1)],()),a.2.2.1,()),true,()),())) (some (((a.1,(3,a.2.1.2.1,()),a.2.2.1,()),true,()),()))) (some (((a.1,(a.2.1.1,a.2.1.2.1,()),a.2.2.1,()),true,()),()))
def qyq(D:DX)(n:Nat):(List bB)->(Int)->(Int)->(Int)->(Int)->ai->iV->iV->cV->Option nj:=(fun x0 x1 x2 x3 x4 x5 x6 x7 x8=>IL D n (fun a b c d=>Ri D n a b c d) n x0 x1 x2 x3 x4 x5 x6 x7 x8)
def Yj(D:DX)(n:Nat)(cz:List bB->Int->Int->Int->Int->ai->iV->iV->cV->Option nj)(a0:ai)(a1:List bB):Option nj:=qd (CK D a0) fun p9=>br (!p9.1.1) (some (((false,(0,[],()),[],()),false,()),())) (qd (Uj D a0 a1) fun p0=>br (decide (p0.1.1.2.2.1>=0)) (some (((false,(0,[],()),[],()),false,()),())) (qd (XX D a0 a1) fun p2=>br p2.1.2.1 (some (((true,(p2.1.1.1,p2.1.1.2.1,()),[],()),true,()),())) (qd (tv D) fun js=>qd (uK D a1 js.1.1) fun p1=>qd (yb D a0.2.1) fun jL=>qd (uK D a1 jL.1.1) fun p5=>br (decide (a0.1=9)) (qd (yb D (wrap .i64 (p1.1.1-1))) fun kC=>qd (uK D a1 kC.1.1) fun p6=>br (bif bif decide (a0.1=1) then true else decide (a0.1=2) then true else decide (a0.1=3)) (qd (TZ D a0 a1 p6.1.1 p1.1.1) fun p7=>some (((false,(0,[],()),p7.1.1,()),true,()),())) (qd (Tu D p0.1.1.2.1) fun p3=>cz a1 p1.1.1 p6.1.1 (p3.2.1.length:Int) 0 a0 (false,(0,[],()),[],()) (false,(0,[],()),[],()) (p0.1.1.1,p3.2.1,p0.1.1.2.2))) (br (bif bif decide (a0.1=1) then true else decide (a0.1=2) then true else decide (a0.1=3)) (qd (TZ D a0 a1 p5.1.1 p1.1.1) fun p8=>some (((false,(0,[],()),p8.1.1,()),true,()),())) (qd (Tu D p0.1.1.2.1) fun p4=>cz a1 p1.1.1 p5.1.1 (p4.2.1.length:Int) 0 a0 (false,(0,[],()),[],()) (false,(0,[],()),[],()) (p0.1.1.1,p4.2.1,p0.1.1.2.2))))))
def X7(D:DX)(n:Nat)(a0:ai)(a1:List bB):Option nj:=Yj D n (qyq D n) a0 a1
def Xp(x0:List bB)(x1 x2 x3 x4:Int)(x5:ai)(x6 x7:iV)(x8:cV):St:=bz 154 [(1,AV.val iK x0),(2,AV.addr 2 []),(4,AV.addr 4 []),(9,AV.val ah x1),(11,AV.val ah x2),(13,AV.addr 13 []),(95,AV.b5 26 [n9.snd,n9.fst] 0),(96,AV.val ah x3),(97,AV.val ah x4)] [(2,aB.mk bR Mk.no x5 true),(4,aB.mk qL z5 x6 true),(13,aB.mk qL z5 x7 true),(26,aB.mk mu pR x8 true)]
def q80(a:List bB)(b:ai)(c d:iV):St:=bz 154 [(1,AV.val iK a),(2,AV.addr 2 []),(4,AV.addr 4 []),(13,AV.addr 13 [])] [(2,aB.mk bR Mk.no b true),(4,aB.mk qL z5 c true),(13,aB.mk qL z5 d true)]
theorem afs(D:DX)(n:Nat)(K:KT 160):∀(m:Nat)(x0:List bB)(x1 x2 x3 x4:Int)(x5:ai)(x6 x7:iV)(x8:cV),LF D n 160 Kl m (Xp x0 x1 x2 x3 x4 x5 x6 x7 x8) K=IL D n (fun a b c d=>K (Ex.exit 0) (q80 a b c d)) m x0 x1 x2 x3 x4 x5 x6 x7 x8:=Sp (fun F=>Xq D n F (fun a b c d=>K (Ex.exit 0) (q80 a b c d)))
theorem aeN(D:DX)(n:Nat)(x0)(x1)(x2)(x3)(x4)(x5)(x6)(x7)(x8):LF D n 160 Kl n (Xp x0 x1 x2 x3 x4 x5 x6 x7 x8) (CF D n 160 [] Kl (lF 160))=qyq D n x0 x1 x2 x3 x4 x5 x6 x7 x8 :=by rw[afs];kernel_rfl
theorem ag9(D:DX)(n:Nat)(a0:ai)(a1:List bB):rF D n 160 (a0,(a1,()))=X7 D n a0 a1:=by
 have h:rF D n 160 (a0,(a1,()))=Yj D n (fun x0 x1 x2 x3 x4 x5 x6 x7 x8=>LF D n 160 Kl n (Xp x0 x1 x2 x3 x4 x5 x6 x7 x8) (CF D n 160 [] Kl (lF 160))) a0 a1:=by kernel_rfl
 rw[h];simp only[aeN];rfl
def NA(D:DX)(n:Nat)(a0:aU)(a1:Int)(a2:List ai)(a3:eJ):Option tq8:=let y0:=List.getD a0.2.1 a1.toNat (0,0,[],(0,[],()),());qd (IK D a0) fun p0=>qd (Hq D a0) fun p4=>br (!p4.1.1) (some (((p0.1.1.1,p0.1.1.2.1,()),(0,0,0,0,()),false,()),())) (qd (lz D a1 0 (wrap .i64 ((a0.2.1.length:Int)-1))) fun p5=>br (!p5.1.1) (some (((p0.1.1.1,p0.1.1.2.1,()),(0,0,0,0,()),false,()),())) (qd (qd4 D a0.1 (aZ.mk 177 [bt.bZ ah a1])) fun p6=>br p6.1.1 (some (((p0.1.1.1,p0.1.1.2.1,()),(0,0,0,0,()),false,()),())) (br (decide (0<=a1)&&decide (a1<(a0.2.1.length:Int))) (qd (IK D a0) fun p1=>qd (Tj D a2) fun p3=>qd (CG D a3) fun p2=>br (decide (0<=a1)&&decide (a1<(p1.1.1.2.1.length:Int))) (qd (Hq D (p1.1.1.1,List.set p1.1.1.2.1 a1.toNat (wrap .i64 (y0.1+1),1,p3.1.1,(p2.1.1.1,p2.1.1.2.1,()),()),())) fun p7=>br (!p7.1.1) (some (((p0.1.1.1,p0.1.1.2.1,()),(0,0,0,0,()),false,()),())) (some (((p1.1.1.1,List.set p1.1.1.2.1 a1.toNat (wrap .i64 (y0.1+1),1,p3.1.1,(p2.1.1.1,p2.1.1.2.1,()),()),()),(a1,wrap .i64 (y0.1+1),0,0,()),true,()),()))) none) none)))
def YB(D:DX)(n:Nat)(a0:aU)(a1:Int)(a2:List ai)(a3:eJ):Option tq8:=NA D n a0 a1 a2 a3
theorem ahN(D:DX)(n:Nat)(a0:aU)(a1:Int)(a2:List ai)(a3:eJ):rF D n 161 (a0,(a1,(a2,(a3,()))))=YB D n a0 a1 a2 a3:=by kernel_rfl
def qez(D:DX)(n:Nat)(a1:aZ)(go:List bW->Int->Int->Option aC)(K0:Int->Option aC)(K1:Option aC)(x0:List bW)(x1 x2:Int):Option aC:=br (decide (x2<x1)) (br (decide (0<=x2)&&decide (x2<(x0.length:Int))) (qd (gl ctx D a1 [bt.val vX (List.getD x0 x2.toNat (0,0,[],(0,[],()),()))] Ty.bool) fun b=>br b (K0 x2) (go x0 x1 (wrap .i64 (x2+1)))) none) K1
def Iw(D:DX)(n:Nat)(a1:aZ)(K0:Int->Option aC)(K1:Option aC):Nat->(List bW)->Int->Int->Option aC | 0=>(fun x0 x1 x2=>none) | m+1=>(fun x0 x1 x2=>qez D n a1 (Iw D n a1 K0 K1 m) K0 K1 x0 x1 x2)
def qd9(D:DX)(n:Nat)(a1:aZ)(a:Int):Option aC:=some ((a,()),())
def qea(D:DX)(n:Nat)(a1:aZ):Option aC:=some ((-1,()),())
def qep(D:DX)(n:Nat)(a1:aZ):(List bW)->(Int)->(Int)->Option aC:=(fun x0 x1 x2=>Iw D n a1 (fun a=>qd9 D n a1 a) (qea D n a1) n x0 x1 x2)
def qff(D:DX)(n:Nat)(a1:aZ)(cz:List bW->Int->Int->Option aC)(a0:List bW):Option aC:=cz a0 (a0.length:Int) 0
def qfa(D:DX)(n:Nat)(a0:List bW)(a1:aZ):Option aC:=qff D n a1 (qep D n a1) a0
def qey(a1:aZ)(x0:List bW)(x1 x2:Int):St:=bz 19 [(0,AV.val I6 x0),(1,AV.dZ a1),(7,AV.val ah x1),(8,AV.val ah x2)] []
def qhq(a1:aZ)(a:Int):St:=bz 19 [(4,AV.val ah a)] []
def qhr(a1:aZ):St:=bz 19 [] []
theorem qo3(D:DX)(n:Nat)(a1:aZ)(K:KT 162):∀(m:Nat)(x0:List bW)(x1 x2:Int),LF D n 162 eF m (qey a1 x0 x1 x2) K=Iw D n a1 (fun a=>K (Ex.ret) (qhq a1 a)) (K (Ex.exit 0) (qhr a1)) m x0 x1 x2:=oD (fun F=>qez D n a1 F (fun a=>K (Ex.ret) (qhq a1 a)) (K (Ex.exit 0) (qhr a1)))
theorem qoh(D:DX)(n:Nat)(a1:aZ)(x0)(x1)(x2):LF D n 162 eF n (qey a1 x0 x1 x2) (CF D n 162 [] eF (lF 162))=qep D n a1 x0 x1 x2 :=by rw[qo3];kernel_rfl
theorem qqc(D:DX)(n:Nat)(a0:List bW)(a1:aZ):rF D n 162 (a0,(a1,()))=qfa D n a0 a1:=by
 have h:rF D n 162 (a0,(a1,()))=qff D n a1 (fun x0 x1 x2=>LF D n 162 eF n (qey a1 x0 x1 x2) (CF D n 162 [] eF (lF 162))) a0:=by kernel_rfl
 rw[h];simp only[qoh];rfl
def qf7(D:DX)(n:Nat)(a1:aZ)(go:List ai->Int->Int->Option aC)(K0:Int->Option aC)(K1:Option aC)(x0:List ai)(x1 x2:Int):Option aC:=br (decide (x2<x1)) (br (decide (0<=x2)&&decide (x2<(x0.length:Int))) (qd (gl ctx D a1 [bt.val bR (List.getD x0 x2.toNat (0,0,0,()))] Ty.bool) fun b=>br b (K0 x2) (go x0 x1 (wrap .i64 (x2+1)))) none) K1
def IA(D:DX)(n:Nat)(a1:aZ)(K0:Int->Option aC)(K1:Option aC):Nat->(List ai)->Int->Int->Option aC | 0=>(fun x0 x1 x2=>none) | m+1=>(fun x0 x1 x2=>qf7 D n a1 (IA D n a1 K0 K1 m) K0 K1 x0 x1 x2)
def qfp(D:DX)(n:Nat)(a1:aZ)(a:Int):Option aC:=some ((a,()),())
def qfq(D:DX)(n:Nat)(a1:aZ):Option aC:=some ((-1,()),())
def qfz(D:DX)(n:Nat)(a1:aZ):(List ai)->(Int)->(Int)->Option aC:=(fun x0 x1 x2=>IA D n a1 (fun a=>qfp D n a1 a) (qfq D n a1) n x0 x1 x2)
def qgp(D:DX)(n:Nat)(a1:aZ)(cz:List ai->Int->Int->Option aC)(a0:List ai):Option aC:=cz a0 (a0.length:Int) 0
def qgm(D:DX)(n:Nat)(a0:List ai)(a1:aZ):Option aC:=qgp D n a1 (qfz D n a1) a0
def qf6(a1:aZ)(x0:List ai)(x1 x2:Int):St:=bz 19 [(0,AV.val bX x0),(1,AV.dZ a1),(7,AV.val ah x1),(8,AV.val ah x2)] []
def qi9(a1:aZ)(a:Int):St:=bz 19 [(4,AV.val ah a)] []
def qja(a1:aZ):St:=bz 19 [] []
theorem qsp(D:DX)(n:Nat)(a1:aZ)(K:KT 163):∀(m:Nat)(x0:List ai)(x1 x2:Int),LF D n 163 eF m (qf6 a1 x0 x1 x2) K=IA D n a1 (fun a=>K (Ex.ret) (qi9 a1 a)) (K (Ex.exit 0) (qja a1)) m x0 x1 x2:=oD (fun F=>qf7 D n a1 F (fun a=>K (Ex.ret) (qi9 a1 a)) (K (Ex.exit 0) (qja a1)))
theorem qrk(D:DX)(n:Nat)(a1:aZ)(x0)(x1)(x2):LF D n 163 eF n (qf6 a1 x0 x1 x2) (CF D n 163 [] eF (lF 163))=qfz D n a1 x0 x1 x2 :=by rw[qsp];kernel_rfl
theorem qt0(D:DX)(n:Nat)(a0:List ai)(a1:aZ):rF D n 163 (a0,(a1,()))=qgm D n a0 a1:=by
 have h:rF D n 163 (a0,(a1,()))=qgp D n a1 (fun x0 x1 x2=>LF D n 163 eF n (qf6 a1 x0 x1 x2) (CF D n 163 [] eF (lF 163))) a0:=by kernel_rfl
 rw[h];simp only[qrk];rfl
def qe3(D:DX)(n:Nat)(a1:aZ)(go:List bB->Int->Int->Option aC)(K0:Int->Option aC)(K1:Option aC)(x0:List bB)(x1 x2:Int):Option aC:=br (decide (x2<x1)) (br (decide (0<=x2)&&decide (x2<(x0.length:Int))) (qd (gl ctx D a1 [bt.val sG (List.getD x0 x2.toNat (0,0,()))] Ty.bool) fun b=>br b (K0 x2) (go x0 x1 (wrap .i64 (x2+1)))) none) K1
def Iy(D:DX)(n:Nat)(a1:aZ)(K0:Int->Option aC)(K1:Option aC):Nat->(List bB)->Int->Int->Option aC | 0=>(fun x0 x1 x2=>none) | m+1=>(fun x0 x1 x2=>qe3 D n a1 (Iy D n a1 K0 K1 m) K0 K1 x0 x1 x2)
def qed(D:DX)(n:Nat)(a1:aZ)(a:Int):Option aC:=some ((a,()),())
def qee(D:DX)(n:Nat)(a1:aZ):Option aC:=some ((-1,()),())
def qer(D:DX)(n:Nat)(a1:aZ):(List bB)->(Int)->(Int)->Option aC:=(fun x0 x1 x2=>Iy D n a1 (fun a=>qed D n a1 a) (qee D n a1) n x0 x1 x2)
def qfh(D:DX)(n:Nat)(a1:aZ)(cz:List bB->Int->Int->Option aC)(a0:List bB):Option aC:=cz a0 (a0.length:Int) 0
def qfc(D:DX)(n:Nat)(a0:List bB)(a1:aZ):Option aC:=qfh D n a1 (qer D n a1) a0
def qe2(a1:aZ)(x0:List bB)(x1 x2:Int):St:=bz 19 [(0,AV.val iK x0),(1,AV.dZ a1),(7,AV.val ah x1),(8,AV.val ah x2)] []
def qhu(a1:aZ)(a:Int):St:=bz 19 [(4,AV.val ah a)] []
def qhv(a1:aZ):St:=bz 19 [] []
theorem qo5(D:DX)(n:Nat)(a1:aZ)(K:KT 164):∀(m:Nat)(x0:List bB)(x1 x2:Int),LF D n 164 eF m (qe2 a1 x0 x1 x2) K=Iy D n a1 (fun a=>K (Ex.ret) (qhu a1 a)) (K (Ex.exit 0) (qhv a1)) m x0 x1 x2:=oD (fun F=>qe3 D n a1 F (fun a=>K (Ex.ret) (qhu a1 a)) (K (Ex.exit 0) (qhv a1)))
theorem qoj(D:DX)(n:Nat)(a1:aZ)(x0)(x1)(x2):LF D n 164 eF n (qe2 a1 x0 x1 x2) (CF D n 164 [] eF (lF 164))=qer D n a1 x0 x1 x2 :=by rw[qo5];kernel_rfl
theorem qqe(D:DX)(n:Nat)(a0:List bB)(a1:aZ):rF D n 164 (a0,(a1,()))=qfc D n a0 a1:=by
 have h:rF D n 164 (a0,(a1,()))=qfh D n a1 (fun x0 x1 x2=>LF D n 164 eF n (qe2 a1 x0 x1 x2) (CF D n 164 [] eF (lF 164))) a0:=by kernel_rfl
 rw[h];simp only[qoj];rfl
def qe1(D:DX)(n:Nat)(a1:aZ)(go:List cC->Int->Int->Option aC)(K0:Int->Option aC)(K1:Option aC)(x0:List cC)(x1 x2:Int):Option aC:=br (decide (x2<x1)) (br (decide (0<=x2)&&decide (x2<(x0.length:Int))) (qd (gl ctx D a1 [bt.val iC (List.getD x0 x2.toNat (0,0,0,0,()))] Ty.bool) fun b=>br b (K0 x2) (go x0 x1 (wrap .i64 (x2+1)))) none) K1
def Ix(D:DX)(n:Nat)(a1:aZ)(K0:Int->Option aC)(K1:Option aC):Nat->(List cC)->Int->Int->Option aC | 0=>(fun x0 x1 x2=>none) | m+1=>(fun x0 x1 x2=>qe1 D n a1 (Ix D n a1 K0 K1 m) K0 K1 x0 x1 x2)
def qeb(D:DX)(n:Nat)(a1:aZ)(a:Int):Option aC:=some ((a,()),())
def qec(D:DX)(n:Nat)(a1:aZ):Option aC:=some ((-1,()),())
def qeq(D:DX)(n:Nat)(a1:aZ):(List cC)->(Int)->(Int)->Option aC:=(fun x0 x1 x2=>Ix D n a1 (fun a=>qeb D n a1 a) (qec D n a1) n x0 x1 x2)
def qfg(D:DX)(n:Nat)(a1:aZ)(cz:List cC->Int->Int->Option aC)(a0:List cC):Option aC:=cz a0 (a0.length:Int) 0
def qfb(D:DX)(n:Nat)(a0:List cC)(a1:aZ):Option aC:=qfg D n a1 (qeq D n a1) a0
def qe0(a1:aZ)(x0:List cC)(x1 x2:Int):St:=bz 19 [(0,AV.val qM x0),(1,AV.dZ a1),(7,AV.val ah x1),(8,AV.val ah x2)] []
def qhs(a1:aZ)(a:Int):St:=bz 19 [(4,AV.val ah a)] []
def qht(a1:aZ):St:=bz 19 [] []
theorem qo4(D:DX)(n:Nat)(a1:aZ)(K:KT 165):∀(m:Nat)(x0:List cC)(x1 x2:Int),LF D n 165 eF m (qe0 a1 x0 x1 x2) K=Ix D n a1 (fun a=>K (Ex.ret) (qhs a1 a)) (K (Ex.exit 0) (qht a1)) m x0 x1 x2:=oD (fun F=>qe1 D n a1 F (fun a=>K (Ex.ret) (qhs a1 a)) (K (Ex.exit 0) (qht a1)))
theorem qoi(D:DX)(n:Nat)(a1:aZ)(x0)(x1)(x2):LF D n 165 eF n (qe0 a1 x0 x1 x2) (CF D n 165 [] eF (lF 165))=qeq D n a1 x0 x1 x2 :=by rw[qo4];kernel_rfl
theorem qqd(D:DX)(n:Nat)(a0:List cC)(a1:aZ):rF D n 165 (a0,(a1,()))=qfb D n a0 a1:=by
 have h:rF D n 165 (a0,(a1,()))=qfg D n a1 (fun x0 x1 x2=>LF D n 165 eF n (qe0 a1 x0 x1 x2) (CF D n 165 [] eF (lF 165))) a0:=by kernel_rfl
 rw[h];simp only[qoi];rfl
def NR(D:DX)(n:Nat)(a0:Int):Option ag:=qd (lA D a0 0 3) fun b=>some ((b.1.1,()),())
def YR(D:DX)(n:Nat)(a0:Int):Option ag:=NR D n a0
theorem aid(D:DX)(n:Nat)(a0:Int):rF D n 166 (a0,())=YR D n a0:=by kernel_rfl
def Ng(D:DX)(n:Nat)(a0:Int):Option aC:=qd (CH D a0) fun b=>br (!b.1.1) (some ((-1,()),())) (some ((Int.tmod a0 3,()),()))
def W9(D:DX)(n:Nat)(a0:Int):Option aC:=Ng D n a0
theorem afQ(D:DX)(n:Nat)(a0:Int):rF D n 167 (a0,())=W9 D n a0:=by kernel_rfl
def ON(D:DX)(n:Nat)(a0:aU)(a1:cC):Option tq7:=let y1:=List.getD a0.2.1 a1.1.toNat (0,0,[],(0,[],()),());let y0:=List.getD y1.2.2.1 a1.2.2.1.toNat (0,0,0,());let y2:=List.getD a0.1 (Int.toNat y0.1) (0,0,0,());br (decide (0<=a1.1)&&decide (a1.1<(a0.2.1.length:Int))) (br (decide (a1.2.2.1>=(y1.2.2.1.length:Int))) (some ((a1,(0,0,0,0,()),3,()),(a0.1,List.set a0.2.1 a1.1.toNat (y1.1,2,y1.2.2),a0.2.2),())) (br (decide (0<=a1.2.2.1)&&decide (a1.2.2.1<(y1.2.2.1.length:Int))) (br (decide (0<=y0.1)&&decide (y0.1<(a0.1.length:Int))) (br (pe bR y2 (0,wrap .i64 (a1.1+1),a1.2.1,())) (some (((a1.1,a1.2.1,wrap .i64 (a1.2.2.1+1),a1.2.2.2),(0,0,0,0,()),0,()),a0,())) (br (y2.2.1 != 0) (some ((a1,(wrap .i64 (y2.2.1-1),y2.2.2.1,0,0,()),1,()),a0,())) (br (decide (y2.1=y0.2.1)) (some (((a1.1,a1.2.1,wrap .i64 (a1.2.2.1+1),a1.2.2.2),(0,0,0,0,()),0,()),(List.set a0.1 (Int.toNat y0.1) (0,wrap .i64 (a1.1+1),a1.2.1,()),a0.2),())) (some ((a1,(0,0,0,0,()),0,()),(a0.1,List.set a0.2.1 a1.1.toNat (y1.1,3,y1.2.2),a0.2.2),()))))) none) none)) none
def Fi(D:DX)(n:Nat)(a0:aU)(a1:cC):Option tq7:=ON D n a0 a1
theorem ZV(D:DX)(n:Nat)(a0:aU)(a1:cC):rF D n 168 (a0,(a1,()))=Fi D n a0 a1:=by kernel_rfl
def Tq(D:DX)(n:Nat)(go:Int->Int->aH->Option tK)(K0:Int->aH->Option tK)(K1:aH->Option tK)(x0 x1:Int)(x2:aH):Option tK:=let y0:=List.getD x2.2.2.2.1 x1.toNat (0,(0,0,0,()),0,0,0,(0,[],()),());br (decide (x1>=0)) (br (decide (0<=x1)&&decide (x1<(x2.2.2.2.1.length:Int))) (br (decide (y0.1=x0)) (br (decide (0<=x1)&&decide (x1<(x2.2.2.2.1.length:Int))) (br (decide (y0.2.2.2.2.1<0)) (K0 x1 x2) (go x0 (wrap .i64 (x1-1)) x2)) none) (go x0 (wrap .i64 (x1-1)) x2)) none) (K1 x2)
def ID(D:DX)(n:Nat)(K0:Int->aH->Option tK)(K1:aH->Option tK):Nat->Int->Int->aH->Option tK | 0=>(fun x0 x1 x2=>none) | m+1=>(fun x0 x1 x2=>Tq D n (ID D n K0 K1 m) K0 K1 x0 x1 x2)
def q5e(D:DX)(n:Nat)(a:Int)(b:aH):Option tK:=some ((a,()),b,())
def q5f(D:DX)(n:Nat)(a:aH):Option tK:=some ((-1,()),a,())
def qkk(D:DX)(n:Nat):(Int)->(Int)->aH->Option tK:=(fun x0 x1 x2=>ID D n (fun a b=>q5e D n a b) (fun c=>q5f D n c) n x0 x1 x2)
def qln(D:DX)(n:Nat)(cz:Int->Int->aH->Option tK)(a0:aH)(a1:Int):Option tK:=cz a1 (wrap .i64 ((a0.2.2.2.1.length:Int)-1)) a0
def qlm(D:DX)(n:Nat)(a0:aH)(a1:Int):Option tK:=qln D n (qkk D n) a0 a1
def qlb(x0 x1:Int)(x2:aH):St:=bz 38 [(0,AV.addr 0 []),(1,AV.val ah x0),(5,AV.val ah x1)] [(0,aB.mk dN zZ x2 true)]
def qpr(a:Int)(b:aH):St:=bz 38 [(0,AV.addr 0 []),(4,AV.val ah a)] [(0,aB.mk dN zZ b true)]
def qps(a:aH):St:=bz 38 [(0,AV.addr 0 [])] [(0,aB.mk dN zZ a true)]
theorem q7a(D:DX)(n:Nat)(K:KT 169):∀(m:Nat)(x0 x1:Int)(x2:aH),LF D n 169 eF m (qlb x0 x1 x2) K=ID D n (fun a b=>K (Ex.ret) (qpr a b)) (fun c=>K (Ex.exit 0) (qps c)) m x0 x1 x2:=oD (fun F=>Tq D n F (fun a b=>K (Ex.ret) (qpr a b)) (fun c=>K (Ex.exit 0) (qps c)))
theorem q5d(D:DX)(n:Nat)(x0)(x1)(x2):LF D n 169 eF n (qlb x0 x1 x2) (CF D n 169 [] eF (lF 169))=qkk D n x0 x1 x2 :=by rw[q7a];kernel_rfl
theorem abR(D:DX)(n:Nat)(a0:aH)(a1:Int):rF D n 169 (a0,(a1,()))=qlm D n a0 a1:=by
 have h:rF D n 169 (a0,(a1,()))=qln D n (fun x0 x1 x2=>LF D n 169 eF n (qlb x0 x1 x2) (CF D n 169 [] eF (lF 169))) a0 a1:=by kernel_rfl
 rw[h];simp only[q5d];rfl
def RN(D:DX)(n:Nat)(go:Int->cV->Option lD)(K0:cV->Option lD)(x0:Int)(x1:cV):Option lD:=br (decide (x0<4)) (qd (yb D x0) fun b=>qd (qy D x1 b.1.1) fun b=>go (wrap .i64 (x0+1)) b.2.1) (K0 x1)
def CE(D:DX)(n:Nat)(K0:cV->Option lD):Nat->Int->cV->Option lD | 0=>(fun x0 x1=>none) | m+1=>(fun x0 x1=>RN D n (CE D n K0 m) K0 x0 x1)
def MN(D:DX)(n:Nat)(a:cV):Option lD:=some ((a,()),())
def Xv(D:DX)(n:Nat):(Int)->cV->Option lD:=(fun x0 x1=>CE D n (fun a=>MN D n a) n x0 x1)
def Y1(D:DX)(n:Nat)(cz:Int->cV->Option lD)(a0:ai)(a1:List bB):Option lD:=let y0:Option lD:=(br (decide (a0.1=4)) (qd (yb D a0.2.1) fun nN=>qd (qy D (a1,[],-1,false,()) nN.1.1) fun nO=>some ((nO.2.1,()),())) (br (decide (a0.1=5)) (qd (x_ D a0.2.2.1) fun xg=>qd (qy D (a1,[],-1,false,()) xg.1.1) fun xh=>some ((xh.2.1,()),())) (br (decide (a0.1=6)) (qd (x9 D a0.2.1) fun xj=>qd (qy D (a1,[],-1,false,()) xj.1.1) fun xk=>some ((xk.2.1,()),())) (br (decide (a0.1=7)) (cz 0 (a1,[],-1,false,())) (br (decide (a0.1=8)) (qd (tv D) fun xm=>qd (qy D (a1,[],-1,false,()) xm.1.1) fun z6=>some ((z6.2.1,()),())) (br (decide (a0.1=9)) (qd (tv D) fun p3=>qd (qy D (a1,[],-1,false,()) p3.1.1) fun p0=>qd (tq D p0.2.1 (bif decide (p0.1.1<1) then true else decide (p0.1.1>4))) fun p4=>qd (yb D (wrap .i64 (p0.1.1-1))) fun p5=>qd (qy D p4.2.1 p5.1.1) fun p1=>qd (zg D p1.1.1) fun p6=>qd (tq D p1.2.1 !p6.1.1) fun p7=>qd (vE D p1.1.1) fun p8=>qd (qy D p7.2.1 p8.1.1) fun p9=>some ((p9.2.1,()),())) (br (decide (a0.1=10)) (qd (tv D) fun js=>qd (qy D (a1,[],-1,false,()) js.1.1) fun p2=>qd (tq D p2.2.1 (p2.1.1 != 5)) fun kC=>qd (vE D a0.2.2.1) fun m5=>qd (qy D kC.2.1 m5.1.1) fun m6=>some ((m6.2.1,()),())) (some (((a1,[],-1,false,()),()),())))))))));let y1:Option lD:=(qd (Q2 D (a1,[],-1,false,()) a0) fun jL=>some ((jL.2.1,()),()));br (decide (a0.1=1)) (br (decide (a0.1=1)) y1 y0) (br (decide (a0.1=2)) (br (decide (a0.1=2)) y1 y0) (br (decide (a0.1=3)) y1 y0))
def YP(D:DX)(n:Nat)(a0:ai)(a1:List bB):Option lD:=Y1 D n (Xv D n) a0 a1
def Yo(x0:Int)(x1:cV):St:=bz 100 [(5,AV.addr 12 []),(45,AV.val ah x0)] [(12,aB.mk mu pR x1 true)]
def MM(a:cV):St:=bz 100 [(5,AV.addr 12 [])] [(12,aB.mk mu pR a true)]
theorem agW(D:DX)(n:Nat)(K:KT 170):∀(m:Nat)(x0:Int)(x1:cV),LF D n 170 Kk m (Yo x0 x1) K=CE D n (fun a=>K (Ex.exit 1) (MM a)) m x0 x1:=C6 (fun F=>RN D n F (fun a=>K (Ex.exit 1) (MM a)))
theorem afv(D:DX)(n:Nat)(x0)(x1):LF D n 170 Kk n (Yo x0 x1) (CF D n 170 [] Kk (lF 170))=Xv D n x0 x1 :=by rw[agW];kernel_rfl
theorem aib(D:DX)(n:Nat)(a0:ai)(a1:List bB):rF D n 170 (a0,(a1,()))=YP D n a0 a1:=by
 have h:rF D n 170 (a0,(a1,()))=Y1 D n (fun x0 x1=>LF D n 170 Kk n (Yo x0 x1) (CF D n 170 [] Kk (lF 170))) a0 a1:=by kernel_rfl
 rw[h];simp only[afv];rfl
def Ns(D:DX)(n:Nat)(a0:ai)(a1:List bB):Option ((eJ×gG)×Unit):=qd (yb D a0.2.1) fun p3=>qd (uK D a1 p3.1.1) fun p1=>qd (x_ D a0.2.2.1) fun p4=>qd (uK D a1 p4.1.1) fun p2=>qd (tv D) fun p5=>qd (uK D a1 p5.1.1) fun p0=>br (bif decide (a0.1=1) then p1.1.1 != 0 else false) (some (((1,[],()),true,()),())) (br (bif decide (a0.1=1) then p2.1.1 != 0 else false) (some (((2,[],()),true,()),())) (br (bif bif bif decide (a0.1=2) then true else decide (a0.1=3) then true else decide (a0.1=4) then decide (p1.1.1=0) else false) (some (((3,[],()),true,()),())) (br (bif decide (a0.1=2) then decide (p1.1.1=a0.2.2.1) else false) (some (((0,[],()),true,()),())) (br (bif decide (a0.1=2) then p2.1.1 != 0 else false) (some (((2,[],()),true,()),())) (br (decide (a0.1=4)) (some (((0,[p1.1.1],()),true,()),())) (br (bif decide (a0.1=5) then decide (p2.1.1=0) else false) (some (((3,[],()),true,()),())) (br (decide (a0.1=5)) (some (((0,[wrap .i64 (p2.1.1-1)],()),true,()),())) (br (decide (a0.1=6)) (qd (x9 D a0.2.1) fun p6=>qd (uK D a1 p6.1.1) fun p7=>some (((0,[p7.1.1],()),true,()),())) (br (bif decide (a0.1=8) then p0.1.1 != 0 else false) (br (bif decide (a0.1=8) then p0.1.1 != 0 else false) (some (((4,[],()),true,()),())) (some (((0,[],()),false,()),()))) (br (bif decide (a0.1=9) then bif decide (p0.1.1<1) then true else decide (p0.1.1>4) else false) (br (bif decide (a0.1=9) then bif decide (p0.1.1<1) then true else decide (p0.1.1>4) else false) (some (((4,[],()),true,()),())) (some (((0,[],()),false,()),()))) (br (bif decide (a0.1=10) then p0.1.1 != 5 else false) (some (((4,[],()),true,()),())) (some (((0,[],()),false,()),())))))))))))))
def XJ(D:DX)(n:Nat)(a0:ai)(a1:List bB):Option ((eJ×gG)×Unit):=Ns D n a0 a1
theorem aho(D:DX)(n:Nat)(a0:ai)(a1:List bB):rF D n 171 (a0,(a1,()))=XJ D n a0 a1:=by kernel_rfl
def YN(D:DX)(n:Nat)(go:List bB->Int->Int->Option kL)(K0:Int->Bool->Option kL)(K1:Option kL)(x0:List bB)(x1 x2:Int):Option kL:=br (decide (x2>=0)) (br (decide (0<=x2)&&decide (x2<(x0.length:Int))) (br (decide ((List.getD x0 x2.toNat (0,0,())).1=x1)) (br (decide (0<=x2)&&decide (x2<(x0.length:Int))) (K0 (List.getD x0 x2.toNat (0,0,())).2.1 true) none) (go x0 x1 (wrap .i64 (x2-1)))) none) K1
def RX(D:DX)(n:Nat)(K0:Int->Bool->Option kL)(K1:Option kL):Nat->(List bB)->Int->Int->Option kL | 0=>(fun x0 x1 x2=>none) | m+1=>(fun x0 x1 x2=>YN D n (RX D n K0 K1 m) K0 K1 x0 x1 x2)
def M0(D:DX)(n:Nat)(a:Int)(b:Bool):Option kL:=some ((a,b,()),())
def M1(D:DX)(n:Nat):Option kL:=some ((0,false,()),())
def Yl(D:DX)(n:Nat):(List bB)->(Int)->(Int)->Option kL:=(fun x0 x1 x2=>RX D n (fun a b=>M0 D n a b) (M1 D n) n x0 x1 x2)
def E0(D:DX)(n:Nat)(cz:List bB->Int->Int->Option kL)(a0:List bB)(a1:Int):Option kL:=cz a0 a1 (wrap .i64 ((a0.length:Int)-1))
def EW(D:DX)(n:Nat)(a0:List bB)(a1:Int):Option kL:=E0 D n (Yl D n) a0 a1
def YM(x0:List bB)(x1 x2:Int):St:=bz 26 [(0,AV.val iK x0),(1,AV.val ah x1),(6,AV.val ah x2)] []
def MY(a:Int)(b:Bool):St:=bz 26 [(4,AV.val ah a),(5,AV.val Ty.bool b)] []
def MZ:St:=bz 26 [] []
theorem ahU(D:DX)(n:Nat)(K:KT 172):∀(m:Nat)(x0:List bB)(x1 x2:Int),LF D n 172 eF m (YM x0 x1 x2) K=RX D n (fun a b=>K (Ex.ret) (MY a b)) (K (Ex.exit 0) (MZ)) m x0 x1 x2:=oD (fun F=>YN D n F (fun a b=>K (Ex.ret) (MY a b)) (K (Ex.exit 0) (MZ)))
theorem agU(D:DX)(n:Nat)(x0)(x1)(x2):LF D n 172 eF n (YM x0 x1 x2) (CF D n 172 [] eF (lF 172))=Yl D n x0 x1 x2 :=by rw[ahU];kernel_rfl
theorem Y9(D:DX)(n:Nat)(a0:List bB)(a1:Int):rF D n 172 (a0,(a1,()))=EW D n a0 a1:=by
 have h:rF D n 172 (a0,(a1,()))=E0 D n (fun x0 x1 x2=>LF D n 172 eF n (YM x0 x1 x2) (CF D n 172 [] eF (lF 172))) a0 a1:=by kernel_rfl
 rw[h];simp only[agU];rfl
def ND(D:DX)(n:Nat)(a0:Int):Option aC:=qd (RT D a0) fun b=>qd (IM D b.1.1 a0) fun b=>some ((b.1.1,()),())
def YF(D:DX)(n:Nat)(a0:Int):Option aC:=ND D n a0
theorem ah9(D:DX)(n:Nat)(a0:Int):rF D n 173 (a0,())=YF D n a0:=by kernel_rfl
def Nb(D:DX)(n:Nat)(a0:ai)(a1:List bB)(a2 a3:Int):Option mh:=qd (yb D a0.2.1) fun js=>qd (vB D js.1.1 a0.2.2.1 0 a1 []) fun m6=>qd (tv D) fun nN=>qd (vB D nN.1.1 a3 0 a1 m6.2.1) fun nO=>qd (x_ D a2) fun xg=>qd (vB D xg.1.1 0 0 a1 nO.2.1) fun xh=>qd (vE D a2) fun xj=>qd (vB D xj.1.1 0 0 a1 xh.2.1) fun xk=>qd (x_ D a0.2.2.1) fun xm=>qd (vB D xm.1.1 (wrap .i64 (a0.2.1+1)) 0 a1 xk.2.1) fun p1=>qd (vE D a0.2.2.1) fun p2=>qd (vB D p2.1.1 (wrap .i64 (a0.2.1+1)) 0 a1 p1.2.1) fun p0=>qd (tr D a2) fun p3=>qd (tr D a0.2.2.1) fun p4=>br (p3.1.1 != p4.1.1) (qd (tr D a2) fun p5=>qd (x9 D p5.1.1) fun p6=>qd (vB D p6.1.1 0 (-1) a1 p0.2.1) fun p7=>qd (tr D a0.2.2.1) fun p8=>qd (x9 D p8.1.1) fun p9=>qd (vB D p9.1.1 0 1 a1 p7.2.1) fun jL=>qd (Tg D jL.2.1 (aZ.mk 183 [])) fun kC=>some ((kC.2.1,()),())) (qd (Tg D p0.2.1 (aZ.mk 183 [])) fun m5=>some ((m5.2.1,()),()))
def W3(D:DX)(n:Nat)(a0:ai)(a1:List bB)(a2 a3:Int):Option mh:=Nb D n a0 a1 a2 a3
theorem af3(D:DX)(n:Nat)(a0:ai)(a1:List bB)(a2 a3:Int):rF D n 174 (a0,(a1,(a2,(a3,()))))=W3 D n a0 a1 a2 a3:=by kernel_rfl
def qxd(D:DX)(n:Nat)(a0:List Int):Option cQ:=qd (TX D (wrap .u64 (a0.length:Int))) fun b=>qd (qz D a0 0 (a0.length:Int) b.1.1) fun b=>some ((),b.2.1,())
def qnj(D:DX)(n:Nat)(a0:List Int):Option cQ:=qxd D n a0
theorem ab5(D:DX)(n:Nat)(a0:List Int):rF D n 175 (a0,())=qnj D n a0:=by kernel_rfl
def Nt(D:DX)(n:Nat)(a0:ai)(a1 a2 a3 a4:Int):Option aC:=br (decide (a0.1=8)) (some ((wrap .i64 (a2+1),()),())) (br (decide (a0.1=9)) (qd (tv D) fun p0=>br (decide (a1=p0.1.1)) (some ((wrap .i64 (a2+1),()),())) (qd (vE D a3) fun p1=>br (decide (a1=p1.1.1)) (some ((a4,()),())) (some ((a2,()),())))) (some ((a2,()),())))
def XK(D:DX)(n:Nat)(a0:ai)(a1 a2 a3 a4:Int):Option aC:=Nt D n a0 a1 a2 a3 a4
theorem ahp(D:DX)(n:Nat)(a0:ai)(a1 a2 a3 a4:Int):rF D n 176 (a0,(a1,(a2,(a3,(a4,())))))=XK D n a0 a1 a2 a3 a4:=by kernel_rfl
def M8(D:DX)(n:Nat)(a0:ai)(a1:Int):Option ag:=some ((decide (a0.2.1=wrap .i64 (a1+1)),()),())
def WU(D:DX)(n:Nat)(a0:ai)(a1:Int):Option ag:=M8 D n a0 a1
theorem afU(D:DX)(n:Nat)(a0:ai)(a1:Int):rF D n 177 (a0,(a1,()))=WU D n a0 a1:=by kernel_rfl
def TC(D:DX)(n:Nat)(a0:cV)(a1:ai):Option i_:=qd (yb D a1.2.1) fun kC=>qd (qy D a0 kC.1.1) fun p0=>br (decide (a1.1=1)) (qd (tq D p0.2.1 (p0.1.1 != 0)) fun Ke=>qd (x_ D a1.2.2.1) fun Kf=>qd (qy D Ke.2.1 Kf.1.1) fun p3=>qd (tq D p3.2.1 (p3.1.1 != 0)) fun Kg=>qd (tr D a1.2.2.1) fun Kh=>qd (x9 D Kh.1.1) fun Ki=>qd (qy D Kg.2.1 Ki.1.1) fun Kj=>qd (Hg D Kj.2.1 a1.2.1 [a1.2.2.1]) fun p4=>some ((),p4.2.1,())) (br (decide (a1.1=2)) (qd (tq D p0.2.1 (bif decide (p0.1.1=0) then true else decide (p0.1.1=a1.2.2.1))) fun p5=>qd (x_ D a1.2.2.1) fun p6=>qd (qy D p5.2.1 p6.1.1) fun p1=>qd (tq D p1.2.1 (p1.1.1 != 0)) fun p7=>qd (x_ D p0.1.1) fun p8=>qd (qy D p7.2.1 p8.1.1) fun p2=>qd (tr D p0.1.1) fun p9=>qd (tr D a1.2.2.1) fun js=>br (p9.1.1 != js.1.1) (qd (tr D p0.1.1) fun jL=>qd (x9 D jL.1.1) fun m5=>qd (qy D p2.2.1 m5.1.1) fun m6=>qd (tr D a1.2.2.1) fun nN=>qd (x9 D nN.1.1) fun nO=>qd (qy D m6.2.1 nO.1.1) fun xg=>qd (Hg D xg.2.1 a1.2.1 [p0.1.1,a1.2.2.1]) fun xh=>some ((),xh.2.1,())) (qd (Hg D p2.2.1 a1.2.1 [p0.1.1,a1.2.2.1]) fun xj=>some ((),xj.2.1,()))) (qd (tq D p0.2.1 (decide (p0.1.1=0))) fun xk=>qd (x_ D p0.1.1) fun xm=>qd (qy D xk.2.1 xm.1.1) fun z6=>qd (tr D p0.1.1) fun DJ=>qd (x9 D DJ.1.1) fun DK=>qd (qy D z6.2.1 DK.1.1) fun Kc=>qd (Hg D Kc.2.1 a1.2.1 [p0.1.1]) fun Kd=>some ((),Kd.2.1,())))
def Q3(D:DX)(n:Nat)(a0:cV)(a1:ai):Option i_:=TC D n a0 a1
theorem acJ(D:DX)(n:Nat)(a0:cV)(a1:ai):rF D n 178 (a0,(a1,()))=Q3 D n a0 a1:=by kernel_rfl
def TQ(D:DX)(n:Nat)(a0:cV)(a1:Int):Option ((Int×Unit)×yK):=br a0.2.2.2.1 (some ((0,()),a0,())) (qd (uK D a0.1 a1) fun b=>br (bif decide (a1<0) then true else !b.1.2.1) (some ((0,()),(a0.1,a0.2.1,a1,true,a0.2.2.2.2),())) (br (decide (a0.2.1.length+1<=fY)) (some ((b.1.1,()),(a0.1,a0.2.1++[a1],a0.2.2),())) none))
def Rc(D:DX)(n:Nat)(a0:cV)(a1:Int):Option ((Int×Unit)×yK):=TQ D n a0 a1
theorem aew(D:DX)(n:Nat)(a0:cV)(a1:Int):rF D n 179 (a0,(a1,()))=Rc D n a0 a1:=by kernel_rfl
def adw(D:DX)(n:Nat)(a0:cV)(a1:Bool):Option i_:=some ((),(a0.1,a0.2.1,a0.2.2.1,bif a0.2.2.2.1 then true else a1,a0.2.2.2.2),())
def q58(D:DX)(n:Nat)(a0:cV)(a1:Bool):Option i_:=adw D n a0 a1
theorem adK(D:DX)(n:Nat)(a0:cV)(a1:Bool):rF D n 180 (a0,(a1,()))=q58 D n a0 a1:=by kernel_rfl
def TS(D:DX)(n:Nat)(a0 a1 a2:Int)(a3:List bB)(a4:List ai):Option cB:=qd (uK D a3 a0) fun p0=>br (bif decide (a0<0) then true else !p0.1.2.1) (some ((),a4,())) (br (decide (a2=1)) (br (decide (a4.length+1<=fY)) (some ((),a4++[(a0,p0.1.1,wrap .i64 (p0.1.1+1),())],())) none) (br (decide (a2 = -1)) (br (decide (a4.length+1<=fY)) (some ((),a4++[(a0,p0.1.1,if wrap .i64 (p0.1.1-1)>0 then wrap .i64 (p0.1.1-1) else 0,())],())) none) (br (decide (a4.length+1<=fY)) (some ((),a4++[(a0,p0.1.1,a1,())],())) none)))
def Rd(D:DX)(n:Nat)(a0 a1 a2:Int)(a3:List bB)(a4:List ai):Option cB:=TS D n a0 a1 a2 a3 a4
theorem aey(D:DX)(n:Nat)(a0 a1 a2:Int)(a3:List bB)(a4:List ai):rF D n 181 (a0,(a1,(a2,(a3,(a4,())))))=Rd D n a0 a1 a2 a3 a4:=by kernel_rfl
def qii(D:DX)(n:Nat)(a1:aZ)(a0:List ai):Option cB:=qd (TX D (wrap .u64 (a0.length:Int))) fun b=>qd (qo D a0 0 (a0.length:Int) b.1.1 a1) fun b=>some ((),b.2.1,())
def qex(D:DX)(n:Nat)(a0:List ai)(a1:aZ):Option cB:=qii D n a1 a0
theorem qpk(D:DX)(n:Nat)(a0:List ai)(a1:aZ):rF D n 182 (a0,(a1,()))=qex D n a0 a1:=by kernel_rfl
def q9b(D:DX)(n:Nat)(a0 a1:ai):Option aC:=some ((wrap .i64 (a0.1-a1.1),()),())
def qvz(D:DX)(n:Nat)(a0 a1:ai):Option aC:=q9b D n a0 a1
theorem aez(D:DX)(n:Nat)(a0 a1:ai):rF D n 183 (a0,(a1,()))=qvz D n a0 a1:=by kernel_rfl
def qi7(D:DX)(n:Nat)(go:Int->Int->Int->Bool->Bool->List Int->Option cQ)(K0:List Int->Option cQ)(x0 x1 x2:Int)(x3 x4:Bool)(x5:List Int):Option cQ:=let y0:=wrap .i64 (x2-1);let y1:=wrap .i64 (x1-x0);let y2:=Int.toNat (wrap .i64 (x0-1));br (decide (y1<=12)) (qd (qkn D x5 x0 x1) fun Kh=>K0 Kh.2.1) (br (decide (x2=0)) (qd (q0o D x5 x0 x1) fun Wd=>K0 Wd.2.1) (br (!x3) (qd (qva D x5 x0 x1) fun js=>qd (qll D js.2.1 x0 x1) fun p1=>let y3:Option cQ:=(qd (CA D js.2.1 x0 x1 p1.1.1) fun p4=>br (decide (wrap .i64 (p4.1.1-x0)<wrap .i64 (x1-p4.1.1))) (qd (qz D p4.2.1 x0 p4.1.1 y0) fun Wg=>go (wrap .i64 (p4.1.1+1)) x1 y0 (decide (wrap .i64 (p4.1.1-x0)>=wrap .i64 (Int.tdiv y1 8))) p4.1.2.1 Wg.2.1) (qd (qz D p4.2.1 (wrap .i64 (p4.1.1+1)) x1 y0) fun Wh=>go x0 p4.1.1 y0 (decide (wrap .i64 (x1-p4.1.1)>=wrap .i64 (Int.tdiv y1 8))) p4.1.2.1 Wh.2.1));let y4:=wrap .i64 (x1-1)-wrap .i64 (p1.1.1-x0);br (decide (p1.1.2.1=2)) (qd (qk7 D js.2.1 x0 x1) fun nO=>let y5:Option cQ:=(qd (CA D nO.2.1 x0 x1 (wrap .i64 y4)) fun p2=>br (decide (wrap .i64 (p2.1.1-x0)<wrap .i64 (x1-p2.1.1))) (qd (qz D p2.2.1 x0 p2.1.1 y0) fun Kf=>go (wrap .i64 (p2.1.1+1)) x1 y0 (decide (wrap .i64 (p2.1.1-x0)>=wrap .i64 (Int.tdiv y1 8))) p2.1.2.1 Kf.2.1) (qd (qz D p2.2.1 (wrap .i64 (p2.1.1+1)) x1 y0) fun Kg=>go x0 p2.1.1 y0 (decide (wrap .i64 (x1-p2.1.1)>=wrap .i64 (Int.tdiv y1 8))) p2.1.2.1 Kg.2.1));br (bif bif x3 then x4 else false then true else false) (qd (Td D nO.2.1 x0 x1) fun m6=>let y6:Option cQ:=(qd (CA D m6.2.1 x0 x1 (wrap .i64 y4)) fun p9=>br (decide (wrap .i64 (p9.1.1-x0)<wrap .i64 (x1-p9.1.1))) (qd (qz D p9.2.1 x0 p9.1.1 y0) fun Kc=>go (wrap .i64 (p9.1.1+1)) x1 y0 (decide (wrap .i64 (p9.1.1-x0)>=wrap .i64 (Int.tdiv y1 8))) p9.1.2.1 Kc.2.1) (qd (qz D p9.2.1 (wrap .i64 (p9.1.1+1)) x1 y0) fun Kd=>go x0 p9.1.1 y0 (decide (wrap .i64 (x1-p9.1.1)>=wrap .i64 (Int.tdiv y1 8))) p9.1.2.1 Kd.2.1));br m6.1.1 (K0 m6.2.1) (br (decide (x0>0)) (br (decide (0<=wrap .i64 (x0-1))&&decide (wrap .i64 (x0-1)<(m6.2.1.length:Int))) (br (decide (0<=wrap .i64 y4)&&decide (wrap .i64 y4<(m6.2.1.length:Int))) (qd (xZ D (List.getD m6.2.1 y2 0) (List.getD m6.2.1 (Int.toNat (wrap .i64 y4)) 0)) fun Wu=>br (!Wu.1.1) (qd (Cz D m6.2.1 x0 x1 (wrap .i64 y4)) fun DK=>go DK.1.1 x1 y0 x3 x4 DK.2.1) y6) none) none) y6)) (br (decide (x0>0)) (br (decide (0<=wrap .i64 (x0-1))&&decide (wrap .i64 (x0-1)<(nO.2.1.length:Int))) (br (decide (0<=wrap .i64 y4)&&decide (wrap .i64 y4<(nO.2.1.length:Int))) (qd (xZ D (List.getD nO.2.1 y2 0) (List.getD nO.2.1 (Int.toNat (wrap .i64 y4)) 0)) fun Ke=>br (!Ke.1.1) (qd (Cz D nO.2.1 x0 x1 (wrap .i64 y4)) fun xg=>go xg.1.1 x1 y0 x3 x4 xg.2.1) y5) none) none) y5)) (br (bif bif x3 then x4 else false then decide (p1.1.2.1=1) else false) (qd (Td D js.2.1 x0 x1) fun jL=>let y7:Option cQ:=(qd (CA D jL.2.1 x0 x1 p1.1.1) fun p3=>br (decide (wrap .i64 (p3.1.1-x0)<wrap .i64 (x1-p3.1.1))) (qd (qz D p3.2.1 x0 p3.1.1 y0) fun Kj=>go (wrap .i64 (p3.1.1+1)) x1 y0 (decide (wrap .i64 (p3.1.1-x0)>=wrap .i64 (Int.tdiv y1 8))) p3.1.2.1 Kj.2.1) (qd (qz D p3.2.1 (wrap .i64 (p3.1.1+1)) x1 y0) fun Wc=>go x0 p3.1.1 y0 (decide (wrap .i64 (x1-p3.1.1)>=wrap .i64 (Int.tdiv y1 8))) p3.1.2.1 Wc.2.1));br jL.1.1 (K0 jL.2.1) (br (decide (x0>0)) (br (decide (0<=wrap .i64 (x0-1))&&decide (wrap .i64 (x0-1)<(jL.2.1.length:Int))) (br (decide (0<=p1.1.1)&&decide (p1.1.1<(jL.2.1.length:Int))) (qd (xZ D (List.getD jL.2.1 y2 0) (List.getD jL.2.1 p1.1.1.toNat 0)) fun Ki=>br (!Ki.1.1) (qd (Cz D jL.2.1 x0 x1 p1.1.1) fun xh=>go xh.1.1 x1 y0 x3 x4 xh.2.1) y7) none) none) y7)) (br (decide (x0>0)) (br (decide (0<=wrap .i64 (x0-1))&&decide (wrap .i64 (x0-1)<(js.2.1.length:Int))) (br (decide (0<=p1.1.1)&&decide (p1.1.1<(js.2.1.length:Int))) (qd (xZ D (List.getD js.2.1 y2 0) (List.getD js.2.1 p1.1.1.toNat 0)) fun We=>br (!We.1.1) (qd (Cz D js.2.1 x0 x1 p1.1.1) fun xj=>go xj.1.1 x1 y0 x3 x4 xj.2.1) y3) none) none) y3))) (qd (qll D x5 x0 x1) fun p0=>let y8:Option cQ:=(qd (CA D x5 x0 x1 p0.1.1) fun p8=>br (decide (wrap .i64 (p8.1.1-x0)<wrap .i64 (x1-p8.1.1))) (qd (qz D p8.2.1 x0 p8.1.1 x2) fun Ws=>go (wrap .i64 (p8.1.1+1)) x1 x2 (decide (wrap .i64 (p8.1.1-x0)>=wrap .i64 (Int.tdiv y1 8))) p8.1.2.1 Ws.2.1) (qd (qz D p8.2.1 (wrap .i64 (p8.1.1+1)) x1 x2) fun Wt=>go x0 p8.1.1 x2 (decide (wrap .i64 (x1-p8.1.1)>=wrap .i64 (Int.tdiv y1 8))) p8.1.2.1 Wt.2.1));let y9:=wrap .i64 (x1-1)-wrap .i64 (p0.1.1-x0);br (decide (p0.1.2.1=2)) (qd (qk7 D x5 x0 x1) fun nN=>let Sj:Option cQ:=(qd (CA D nN.2.1 x0 x1 (wrap .i64 y9)) fun p6=>br (decide (wrap .i64 (p6.1.1-x0)<wrap .i64 (x1-p6.1.1))) (qd (qz D p6.2.1 x0 p6.1.1 x2) fun Wm=>go (wrap .i64 (p6.1.1+1)) x1 x2 (decide (wrap .i64 (p6.1.1-x0)>=wrap .i64 (Int.tdiv y1 8))) p6.1.2.1 Wm.2.1) (qd (qz D p6.2.1 (wrap .i64 (p6.1.1+1)) x1 x2) fun Wn=>go x0 p6.1.1 x2 (decide (wrap .i64 (x1-p6.1.1)>=wrap .i64 (Int.tdiv y1 8))) p6.1.2.1 Wn.2.1));br (bif bif x3 then x4 else false then true else false) (qd (Td D nN.2.1 x0 x1) fun kC=>let Sk:Option cQ:=(qd (CA D kC.2.1 x0 x1 (wrap .i64 y9)) fun p5=>br (decide (wrap .i64 (p5.1.1-x0)<wrap .i64 (x1-p5.1.1))) (qd (qz D p5.2.1 x0 p5.1.1 x2) fun Wj=>go (wrap .i64 (p5.1.1+1)) x1 x2 (decide (wrap .i64 (p5.1.1-x0)>=wrap .i64 (Int.tdiv y1 8))) p5.1.2.1 Wj.2.1) (qd (qz D p5.2.1 (wrap .i64 (p5.1.1+1)) x1 x2) fun Wk=>go x0 p5.1.1 x2 (decide (wrap .i64 (x1-p5.1.1)>=wrap .i64 (Int.tdiv y1 8))) p5.1.2.1 Wk.2.1));br kC.1.1 (K0 kC.2.1) (br (decide (x0>0)) (br (decide (0<=wrap .i64 (x0-1))&&decide (wrap .i64 (x0-1)<(kC.2.1.length:Int))) (br (decide (0<=wrap .i64 y9)&&decide (wrap .i64 y9<(kC.2.1.length:Int))) (qd (xZ D (List.getD kC.2.1 y2 0) (List.getD kC.2.1 (Int.toNat (wrap .i64 y9)) 0)) fun Wi=>br (!Wi.1.1) (qd (Cz D kC.2.1 x0 x1 (wrap .i64 y9)) fun xk=>go xk.1.1 x1 x2 x3 x4 xk.2.1) Sk) none) none) Sk)) (br (decide (x0>0)) (br (decide (0<=wrap .i64 (x0-1))&&decide (wrap .i64 (x0-1)<(nN.2.1.length:Int))) (br (decide (0<=wrap .i64 y9)&&decide (wrap .i64 y9<(nN.2.1.length:Int))) (qd (xZ D (List.getD nN.2.1 y2 0) (List.getD nN.2.1 (Int.toNat (wrap .i64 y9)) 0)) fun Wl=>br (!Wl.1.1) (qd (Cz D nN.2.1 x0 x1 (wrap .i64 y9)) fun xm=>go xm.1.1 x1 x2 x3 x4 xm.2.1) Sj) none) none) Sj)) (br (bif bif x3 then x4 else false then decide (p0.1.2.1=1) else false) (qd (Td D x5 x0 x1) fun m5=>let Sl:Option cQ:=(qd (CA D m5.2.1 x0 x1 p0.1.1) fun p7=>br (decide (wrap .i64 (p7.1.1-x0)<wrap .i64 (x1-p7.1.1))) (qd (qz D p7.2.1 x0 p7.1.1 x2) fun Wp=>go (wrap .i64 (p7.1.1+1)) x1 x2 (decide (wrap .i64 (p7.1.1-x0)>=wrap .i64 (Int.tdiv y1 8))) p7.1.2.1 Wp.2.1) (qd (qz D p7.2.1 (wrap .i64 (p7.1.1+1)) x1 x2) fun Wq=>go x0 p7.1.1 x2 (decide (wrap .i64 (x1-p7.1.1)>=wrap .i64 (Int.tdiv y1 8))) p7.1.2.1 Wq.2.1));br m5.1.1 (K0 m5.2.1) (br (decide (x0>0)) (br (decide (0<=wrap .i64 (x0-1))&&decide (wrap .i64 (x0-1)<(m5.2.1.length:Int))) (br (decide (0<=p0.1.1)&&decide (p0.1.1<(m5.2.1.length:Int))) (qd (xZ D (List.getD m5.2.1 y2 0) (List.getD m5.2.1 p0.1.1.toNat 0)) fun Wo=>br (!Wo.1.1) (qd (Cz D m5.2.1 x0 x1 p0.1.1) fun z6=>go z6.1.1 x1 x2 x3 x4 z6.2.1) Sl) none) none) Sl)) (br (decide (x0>0)) (br (decide (0<=wrap .i64 (x0-1))&&decide (wrap .i64 (x0-1)<(x5.length:Int))) (br (decide (0<=p0.1.1)&&decide (p0.1.1<(x5.length:Int))) (qd (xZ D (List.getD x5 y2 0) (List.getD x5 p0.1.1.toNat 0)) fun Wr=>br (!Wr.1.1) (qd (Cz D x5 x0 x1 p0.1.1) fun DJ=>go DJ.1.1 x1 x2 x3 x4 DJ.2.1) y8) none) none) y8)))))
def Tp(D:DX)(n:Nat)(K0:List Int->Option cQ):Nat->Int->Int->Int->Bool->Bool->(List Int)->Option cQ | 0=>(fun x0 x1 x2 x3 x4 x5=>none) | m+1=>(fun x0 x1 x2 x3 x4 x5=>qi7 D n (Tp D n K0 m) K0 x0 x1 x2 x3 x4 x5)
def qzf(D:DX)(n:Nat)(a:List Int):Option cQ:=some ((),a,())
def qij(D:DX)(n:Nat):(Int)->(Int)->(Int)->(Bool)->(Bool)->(List Int)->Option cQ:=(fun x0 x1 x2 x3 x4 x5=>Tp D n (fun a=>qzf D n a) n x0 x1 x2 x3 x4 x5)
def qjy(D:DX)(n:Nat)(cz:Int->Int->Int->Bool->Bool->List Int->Option cQ)(a0:List Int)(a1 a2 a3:Int):Option cQ:=cz a1 a2 a3 true true a0
def qjo(D:DX)(n:Nat)(a0:List Int)(a1 a2 a3:Int):Option cQ:=qjy D n (qij D n) a0 a1 a2 a3
def qi6(x0 x1 x2:Int)(x3 x4:Bool)(x5:List Int):St:=bz 134 [(0,AV.b5 0 [] 1048576),(1,AV.val ah x0),(2,AV.val ah x1),(3,AV.val ah x2),(8,AV.val Ty.bool x3),(9,AV.val Ty.bool x4)] [(0,aB.mk bG l9 x5 false)]
def qmn(a:List Int):St:=bz 134 [(0,AV.b5 0 [] 1048576)] [(0,aB.mk bG l9 a false)]
theorem qz5(D:DX)(n:Nat)(K:KT 184):∀(m:Nat)(x0 x1 x2:Int)(x3 x4:Bool)(x5:List Int),LF D n 184 nQ m (qi6 x0 x1 x2 x3 x4 x5) K=Tp D n (fun a=>K (Ex.ret) (qmn a)) m x0 x1 x2 x3 x4 x5:=HR (fun F=>qi7 D n F (fun a=>K (Ex.ret) (qmn a)))
theorem qze(D:DX)(n:Nat)(x0)(x1)(x2)(x3)(x4)(x5):LF D n 184 nQ n (qi6 x0 x1 x2 x3 x4 x5) (CF D n 184 [] nQ (lF 184))=qij D n x0 x1 x2 x3 x4 x5 :=by rw[qz5];kernel_rfl
theorem q3q(D:DX)(n:Nat)(a0:List Int)(a1 a2 a3:Int):rF D n 184 (a0,(a1,(a2,(a3,()))))=qjo D n a0 a1 a2 a3:=by
 have h:rF D n 184 (a0,(a1,(a2,(a3,()))))=qjy D n (fun x0 x1 x2 x3 x4 x5=>LF D n 184 nQ n (qi6 x0 x1 x2 x3 x4 x5) (CF D n 184 [] nQ (lF 184))) a0 a1 a2 a3:=by kernel_rfl
 rw[h];simp only[qze];rfl
def MP(D:DX)(n:Nat)(a0:Int):Option aC:=qd (q57 D a0) fun b=>some ((b.1.1,()),())
def qxz(D:DX)(n:Nat)(a0:Int):Option aC:=MP D n a0
theorem afg(D:DX)(n:Nat)(a0:Int):rF D n 185 (a0,())=qxz D n a0:=by kernel_rfl
def TJ(D:DX)(n:Nat)(go:List Int->Int->Int->cV->Option i_)(K0:cV->Option i_)(x0:List Int)(x1 x2:Int)(x3:cV):Option i_:=br (decide (x2<x1)) (br (decide (0<=x2)&&decide (x2<(x0.length:Int))) (qd (vE D (List.getD x0 x2.toNat 0)) fun b=>qd (qy D x3 b.1.1) fun b=>go x0 x1 (wrap .i64 (x2+1)) b.2.1) none) (K0 x3)
def Hj(D:DX)(n:Nat)(K0:cV->Option i_):Nat->(List Int)->Int->Int->cV->Option i_ | 0=>(fun x0 x1 x2 x3=>none) | m+1=>(fun x0 x1 x2 x3=>TJ D n (Hj D n K0 m) K0 x0 x1 x2 x3)
def Q4(D:DX)(n:Nat)(a:cV):Option i_:=some ((),a,())
def TG(D:DX)(n:Nat):(List Int)->(Int)->(Int)->cV->Option i_:=(fun x0 x1 x2 x3=>Hj D n (fun a=>Q4 D n a) n x0 x1 x2 x3)
def TR(D:DX)(n:Nat)(cz:List Int->Int->Int->cV->Option i_)(a0:cV)(a1:Int)(a2:List Int):Option i_:=qd (tv D) fun b=>qd (qy D a0 b.1.1) fun b=>qd (tq D b.2.1 (decide (b.1.1<=wrap .i64 (a1+1)))) fun b=>cz a2 (a2.length:Int) 0 b.2.1
def TP(D:DX)(n:Nat)(a0:cV)(a1:Int)(a2:List Int):Option i_:=TR D n (TG D n) a0 a1 a2
def quq(x0:List Int)(x1 x2:Int)(x3:cV):St:=bz 29 [(0,AV.addr 0 []),(18,AV.val bG x0),(19,AV.val ah x1),(20,AV.val ah x2)] [(0,aB.mk mu pR x3 true)]
def q0d(a:cV):St:=bz 29 [(0,AV.addr 0 [])] [(0,aB.mk mu pR a true)]
theorem acT(D:DX)(n:Nat)(K:KT 186):∀(m:Nat)(x0:List Int)(x1 x2:Int)(x3:cV),LF D n 186 [.r,.r,.r,.l] m (quq x0 x1 x2 x3) K=Hj D n (fun a=>K (Ex.exit 0) (q0d a)) m x0 x1 x2 x3:=yR (fun F=>TJ D n F (fun a=>K (Ex.exit 0) (q0d a)))
theorem acE(D:DX)(n:Nat)(x0)(x1)(x2)(x3):LF D n 186 [.r,.r,.r,.l] n (quq x0 x1 x2 x3) (CF D n 186 [] [.r,.r,.r,.l] (lF 186))=TG D n x0 x1 x2 x3 :=by rw[acT];kernel_rfl
theorem aex(D:DX)(n:Nat)(a0:cV)(a1:Int)(a2:List Int):rF D n 186 (a0,(a1,(a2,())))=TP D n a0 a1 a2:=by
 have h:rF D n 186 (a0,(a1,(a2,())))=TR D n (fun x0 x1 x2 x3=>LF D n 186 [.r,.r,.r,.l] n (quq x0 x1 x2 x3) (CF D n 186 [] [.r,.r,.r,.l] (lF 186))) a0 a1 a2:=by kernel_rfl
 rw[h];simp only[acE];rfl
def qgb(D:DX)(n:Nat)(a4:aZ)(go:Int->Int->Int->Bool->Bool->List ai->Option cB)(K0:List ai->Option cB)(x0 x1 x2:Int)(x3 x4:Bool)(x5:List ai):Option cB:=let y0:=wrap .i64 (x2-1);let y1:=wrap .i64 (x1-x0);let y2:=Int.toNat (wrap .i64 (x0-1));br (decide (y1<=12)) (qd (qhy D x5 x0 x1 a4) fun Kh=>K0 Kh.2.1) (br (decide (x2=0)) (qd (qtb D x5 x0 x1 a4) fun Wd=>K0 Wd.2.1) (br (!x3) (qd (qoo D x5 x0 x1 a4) fun js=>qd (qir D js.2.1 x0 x1 a4) fun p1=>let y3:Option cB:=(qd (Cy D js.2.1 x0 x1 p1.1.1 a4) fun p4=>br (decide (wrap .i64 (p4.1.1-x0)<wrap .i64 (x1-p4.1.1))) (qd (qo D p4.2.1 x0 p4.1.1 y0 a4) fun Wg=>go (wrap .i64 (p4.1.1+1)) x1 y0 (decide (wrap .i64 (p4.1.1-x0)>=wrap .i64 (Int.tdiv y1 8))) p4.1.2.1 Wg.2.1) (qd (qo D p4.2.1 (wrap .i64 (p4.1.1+1)) x1 y0 a4) fun Wh=>go x0 p4.1.1 y0 (decide (wrap .i64 (x1-p4.1.1)>=wrap .i64 (Int.tdiv y1 8))) p4.1.2.1 Wh.2.1));let y4:=wrap .i64 (x1-1)-wrap .i64 (p1.1.1-x0);br (decide (p1.1.2.1=2)) (qd (qig D js.2.1 x0 x1 a4) fun nO=>let y5:Option cB:=(qd (Cy D nO.2.1 x0 x1 (wrap .i64 y4) a4) fun p2=>br (decide (wrap .i64 (p2.1.1-x0)<wrap .i64 (x1-p2.1.1))) (qd (qo D p2.2.1 x0 p2.1.1 y0 a4) fun Kf=>go (wrap .i64 (p2.1.1+1)) x1 y0 (decide (wrap .i64 (p2.1.1-x0)>=wrap .i64 (Int.tdiv y1 8))) p2.1.2.1 Kf.2.1) (qd (qo D p2.2.1 (wrap .i64 (p2.1.1+1)) x1 y0 a4) fun Kg=>go x0 p2.1.1 y0 (decide (wrap .i64 (x1-p2.1.1)>=wrap .i64 (Int.tdiv y1 8))) p2.1.2.1 Kg.2.1));br (bif bif x3 then x4 else false then true else false) (qd (Te D nO.2.1 x0 x1 a4) fun m6=>let y6:Option cB:=(qd (Cy D m6.2.1 x0 x1 (wrap .i64 y4) a4) fun p9=>br (decide (wrap .i64 (p9.1.1-x0)<wrap .i64 (x1-p9.1.1))) (qd (qo D p9.2.1 x0 p9.1.1 y0 a4) fun Kc=>go (wrap .i64 (p9.1.1+1)) x1 y0 (decide (wrap .i64 (p9.1.1-x0)>=wrap .i64 (Int.tdiv y1 8))) p9.1.2.1 Kc.2.1) (qd (qo D p9.2.1 (wrap .i64 (p9.1.1+1)) x1 y0 a4) fun Kd=>go x0 p9.1.1 y0 (decide (wrap .i64 (x1-p9.1.1)>=wrap .i64 (Int.tdiv y1 8))) p9.1.2.1 Kd.2.1));br m6.1.1 (K0 m6.2.1) (br (decide (x0>0)) (br (decide (0<=wrap .i64 (x0-1))&&decide (wrap .i64 (x0-1)<(m6.2.1.length:Int))) (br (decide (0<=wrap .i64 y4)&&decide (wrap .i64 y4<(m6.2.1.length:Int))) (qd (gl ctx D a4 [bt.val bR (List.getD m6.2.1 y2 (0,0,0,())),bt.val bR (List.getD m6.2.1 (Int.toNat (wrap .i64 y4)) (0,0,0,()))] ah) fun Wu=>br (!decide (Wu<0)) (qd (Cx D m6.2.1 x0 x1 (wrap .i64 y4) a4) fun DK=>go DK.1.1 x1 y0 x3 x4 DK.2.1) y6) none) none) y6)) (br (decide (x0>0)) (br (decide (0<=wrap .i64 (x0-1))&&decide (wrap .i64 (x0-1)<(nO.2.1.length:Int))) (br (decide (0<=wrap .i64 y4)&&decide (wrap .i64 y4<(nO.2.1.length:Int))) (qd (gl ctx D a4 [bt.val bR (List.getD nO.2.1 y2 (0,0,0,())),bt.val bR (List.getD nO.2.1 (Int.toNat (wrap .i64 y4)) (0,0,0,()))] ah) fun Ke=>br (!decide (Ke<0)) (qd (Cx D nO.2.1 x0 x1 (wrap .i64 y4) a4) fun xg=>go xg.1.1 x1 y0 x3 x4 xg.2.1) y5) none) none) y5)) (br (bif bif x3 then x4 else false then decide (p1.1.2.1=1) else false) (qd (Te D js.2.1 x0 x1 a4) fun jL=>let y7:Option cB:=(qd (Cy D jL.2.1 x0 x1 p1.1.1 a4) fun p3=>br (decide (wrap .i64 (p3.1.1-x0)<wrap .i64 (x1-p3.1.1))) (qd (qo D p3.2.1 x0 p3.1.1 y0 a4) fun Kj=>go (wrap .i64 (p3.1.1+1)) x1 y0 (decide (wrap .i64 (p3.1.1-x0)>=wrap .i64 (Int.tdiv y1 8))) p3.1.2.1 Kj.2.1) (qd (qo D p3.2.1 (wrap .i64 (p3.1.1+1)) x1 y0 a4) fun Wc=>go x0 p3.1.1 y0 (decide (wrap .i64 (x1-p3.1.1)>=wrap .i64 (Int.tdiv y1 8))) p3.1.2.1 Wc.2.1));br jL.1.1 (K0 jL.2.1) (br (decide (x0>0)) (br (decide (0<=wrap .i64 (x0-1))&&decide (wrap .i64 (x0-1)<(jL.2.1.length:Int))) (br (decide (0<=p1.1.1)&&decide (p1.1.1<(jL.2.1.length:Int))) (qd (gl ctx D a4 [bt.val bR (List.getD jL.2.1 y2 (0,0,0,())),bt.val bR (List.getD jL.2.1 p1.1.1.toNat (0,0,0,()))] ah) fun Ki=>br (!decide (Ki<0)) (qd (Cx D jL.2.1 x0 x1 p1.1.1 a4) fun xh=>go xh.1.1 x1 y0 x3 x4 xh.2.1) y7) none) none) y7)) (br (decide (x0>0)) (br (decide (0<=wrap .i64 (x0-1))&&decide (wrap .i64 (x0-1)<(js.2.1.length:Int))) (br (decide (0<=p1.1.1)&&decide (p1.1.1<(js.2.1.length:Int))) (qd (gl ctx D a4 [bt.val bR (List.getD js.2.1 y2 (0,0,0,())),bt.val bR (List.getD js.2.1 p1.1.1.toNat (0,0,0,()))] ah) fun We=>br (!decide (We<0)) (qd (Cx D js.2.1 x0 x1 p1.1.1 a4) fun xj=>go xj.1.1 x1 y0 x3 x4 xj.2.1) y3) none) none) y3))) (qd (qir D x5 x0 x1 a4) fun p0=>let y8:Option cB:=(qd (Cy D x5 x0 x1 p0.1.1 a4) fun p8=>br (decide (wrap .i64 (p8.1.1-x0)<wrap .i64 (x1-p8.1.1))) (qd (qo D p8.2.1 x0 p8.1.1 x2 a4) fun Ws=>go (wrap .i64 (p8.1.1+1)) x1 x2 (decide (wrap .i64 (p8.1.1-x0)>=wrap .i64 (Int.tdiv y1 8))) p8.1.2.1 Ws.2.1) (qd (qo D p8.2.1 (wrap .i64 (p8.1.1+1)) x1 x2 a4) fun Wt=>go x0 p8.1.1 x2 (decide (wrap .i64 (x1-p8.1.1)>=wrap .i64 (Int.tdiv y1 8))) p8.1.2.1 Wt.2.1));let y9:=wrap .i64 (x1-1)-wrap .i64 (p0.1.1-x0);br (decide (p0.1.2.1=2)) (qd (qig D x5 x0 x1 a4) fun nN=>let Sj:Option cB:=(qd (Cy D nN.2.1 x0 x1 (wrap .i64 y9) a4) fun p6=>br (decide (wrap .i64 (p6.1.1-x0)<wrap .i64 (x1-p6.1.1))) (qd (qo D p6.2.1 x0 p6.1.1 x2 a4) fun Wm=>go (wrap .i64 (p6.1.1+1)) x1 x2 (decide (wrap .i64 (p6.1.1-x0)>=wrap .i64 (Int.tdiv y1 8))) p6.1.2.1 Wm.2.1) (qd (qo D p6.2.1 (wrap .i64 (p6.1.1+1)) x1 x2 a4) fun Wn=>go x0 p6.1.1 x2 (decide (wrap .i64 (x1-p6.1.1)>=wrap .i64 (Int.tdiv y1 8))) p6.1.2.1 Wn.2.1));br (bif bif x3 then x4 else false then true else false) (qd (Te D nN.2.1 x0 x1 a4) fun kC=>let Sk:Option cB:=(qd (Cy D kC.2.1 x0 x1 (wrap .i64 y9) a4) fun p5=>br (decide (wrap .i64 (p5.1.1-x0)<wrap .i64 (x1-p5.1.1))) (qd (qo D p5.2.1 x0 p5.1.1 x2 a4) fun Wj=>go (wrap .i64 (p5.1.1+1)) x1 x2 (decide (wrap .i64 (p5.1.1-x0)>=wrap .i64 (Int.tdiv y1 8))) p5.1.2.1 Wj.2.1) (qd (qo D p5.2.1 (wrap .i64 (p5.1.1+1)) x1 x2 a4) fun Wk=>go x0 p5.1.1 x2 (decide (wrap .i64 (x1-p5.1.1)>=wrap .i64 (Int.tdiv y1 8))) p5.1.2.1 Wk.2.1));br kC.1.1 (K0 kC.2.1) (br (decide (x0>0)) (br (decide (0<=wrap .i64 (x0-1))&&decide (wrap .i64 (x0-1)<(kC.2.1.length:Int))) (br (decide (0<=wrap .i64 y9)&&decide (wrap .i64 y9<(kC.2.1.length:Int))) (qd (gl ctx D a4 [bt.val bR (List.getD kC.2.1 y2 (0,0,0,())),bt.val bR (List.getD kC.2.1 (Int.toNat (wrap .i64 y9)) (0,0,0,()))] ah) fun Wi=>br (!decide (Wi<0)) (qd (Cx D kC.2.1 x0 x1 (wrap .i64 y9) a4) fun xk=>go xk.1.1 x1 x2 x3 x4 xk.2.1) Sk) none) none) Sk)) (br (decide (x0>0)) (br (decide (0<=wrap .i64 (x0-1))&&decide (wrap .i64 (x0-1)<(nN.2.1.length:Int))) (br (decide (0<=wrap .i64 y9)&&decide (wrap .i64 y9<(nN.2.1.length:Int))) (qd (gl ctx D a4 [bt.val bR (List.getD nN.2.1 y2 (0,0,0,())),bt.val bR (List.getD nN.2.1 (Int.toNat (wrap .i64 y9)) (0,0,0,()))] ah) fun Wl=>br (!decide (Wl<0)) (qd (Cx D nN.2.1 x0 x1 (wrap .i64 y9) a4) fun xm=>go xm.1.1 x1 x2 x3 x4 xm.2.1) Sj) none) none) Sj)) (br (bif bif x3 then x4 else false then decide (p0.1.2.1=1) else false) (qd (Te D x5 x0 x1 a4) fun m5=>let Sl:Option cB:=(qd (Cy D m5.2.1 x0 x1 p0.1.1 a4) fun p7=>br (decide (wrap .i64 (p7.1.1-x0)<wrap .i64 (x1-p7.1.1))) (qd (qo D p7.2.1 x0 p7.1.1 x2 a4) fun Wp=>go (wrap .i64 (p7.1.1+1)) x1 x2 (decide (wrap .i64 (p7.1.1-x0)>=wrap .i64 (Int.tdiv y1 8))) p7.1.2.1 Wp.2.1) (qd (qo D p7.2.1 (wrap .i64 (p7.1.1+1)) x1 x2 a4) fun Wq=>go x0 p7.1.1 x2 (decide (wrap .i64 (x1-p7.1.1)>=wrap .i64 (Int.tdiv y1 8))) p7.1.2.1 Wq.2.1));br m5.1.1 (K0 m5.2.1) (br (decide (x0>0)) (br (decide (0<=wrap .i64 (x0-1))&&decide (wrap .i64 (x0-1)<(m5.2.1.length:Int))) (br (decide (0<=p0.1.1)&&decide (p0.1.1<(m5.2.1.length:Int))) (qd (gl ctx D a4 [bt.val bR (List.getD m5.2.1 y2 (0,0,0,())),bt.val bR (List.getD m5.2.1 p0.1.1.toNat (0,0,0,()))] ah) fun Wo=>br (!decide (Wo<0)) (qd (Cx D m5.2.1 x0 x1 p0.1.1 a4) fun z6=>go z6.1.1 x1 x2 x3 x4 z6.2.1) Sl) none) none) Sl)) (br (decide (x0>0)) (br (decide (0<=wrap .i64 (x0-1))&&decide (wrap .i64 (x0-1)<(x5.length:Int))) (br (decide (0<=p0.1.1)&&decide (p0.1.1<(x5.length:Int))) (qd (gl ctx D a4 [bt.val bR (List.getD x5 y2 (0,0,0,())),bt.val bR (List.getD x5 p0.1.1.toNat (0,0,0,()))] ah) fun Wr=>br (!decide (Wr<0)) (qd (Cx D x5 x0 x1 p0.1.1 a4) fun DJ=>go DJ.1.1 x1 x2 x3 x4 DJ.2.1) y8) none) none) y8)))))
def Tl(D:DX)(n:Nat)(a4:aZ)(K0:List ai->Option cB):Nat->Int->Int->Int->Bool->Bool->(List ai)->Option cB | 0=>(fun x0 x1 x2 x3 x4 x5=>none) | m+1=>(fun x0 x1 x2 x3 x4 x5=>qgb D n a4 (Tl D n a4 K0 m) K0 x0 x1 x2 x3 x4 x5)
def qrm(D:DX)(n:Nat)(a4:aZ)(a:List ai):Option cB:=some ((),a,())
def qf1(D:DX)(n:Nat)(a4:aZ):(Int)->(Int)->(Int)->(Bool)->(Bool)->(List ai)->Option cB:=(fun x0 x1 x2 x3 x4 x5=>Tl D n a4 (fun a=>qrm D n a4 a) n x0 x1 x2 x3 x4 x5)
def qgr(D:DX)(n:Nat)(a4:aZ)(cz:Int->Int->Int->Bool->Bool->List ai->Option cB)(a0:List ai)(a1 a2 a3:Int):Option cB:=cz a1 a2 a3 true true a0
def qgn(D:DX)(n:Nat)(a0:List ai)(a1 a2 a3:Int)(a4:aZ):Option cB:=qgr D n a4 (qf1 D n a4) a0 a1 a2 a3
def qga(a4:aZ)(x0 x1 x2:Int)(x3 x4:Bool)(x5:List ai):St:=bz 148 [(0,AV.b5 0 [] 1048576),(1,AV.val ah x0),(2,AV.val ah x1),(3,AV.val ah x2),(4,AV.dZ a4),(10,AV.val Ty.bool x3),(11,AV.val Ty.bool x4)] [(0,aB.mk bX l9 x5 false)]
def qjb(a4:aZ)(a:List ai):St:=bz 148 [(0,AV.b5 0 [] 1048576)] [(0,aB.mk bX l9 a false)]
theorem qss(D:DX)(n:Nat)(a4:aZ)(K:KT 187):∀(m:Nat)(x0 x1 x2:Int)(x3 x4:Bool)(x5:List ai),LF D n 187 nQ m (qga a4 x0 x1 x2 x3 x4 x5) K=Tl D n a4 (fun a=>K (Ex.ret) (qjb a4 a)) m x0 x1 x2 x3 x4 x5:=HR (fun F=>qgb D n a4 F (fun a=>K (Ex.ret) (qjb a4 a)))
theorem qrl(D:DX)(n:Nat)(a4:aZ)(x0)(x1)(x2)(x3)(x4)(x5):LF D n 187 nQ n (qga a4 x0 x1 x2 x3 x4 x5) (CF D n 187 [] nQ (lF 187))=qf1 D n a4 x0 x1 x2 x3 x4 x5 :=by rw[qss];kernel_rfl
theorem qt1(D:DX)(n:Nat)(a0:List ai)(a1 a2 a3:Int)(a4:aZ):rF D n 187 (a0,(a1,(a2,(a3,(a4,())))))=qgn D n a0 a1 a2 a3 a4:=by
 have h:rF D n 187 (a0,(a1,(a2,(a3,(a4,())))))=qgr D n a4 (fun x0 x1 x2 x3 x4 x5=>LF D n 187 nQ n (qga a4 x0 x1 x2 x3 x4 x5) (CF D n 187 [] nQ (lF 187))) a0 a1 a2 a3:=by kernel_rfl
 rw[h];simp only[qrl];rfl
def Tm(D:DX)(n:Nat)(go:Int->Int->Int->Int->List Int->Option cQ)(K0:Int->Int->Int->List Int->Option cQ)(c d e a:Int)(b:List Int):Option cQ:=let y1:=wrap .i64 (a-1);let y0:=List.getD b (Int.toNat y1) 0;br (decide (a>c)) (br (decide (0<=a)&&decide (a<(b.length:Int))) (br (decide (0<=y1)&&decide (y1<(b.length:Int))) (qd (xZ D (List.getD b a.toNat 0) y0) fun p0=>br p0.1.1 (br (decide (0<=y1)&&decide (y1<(b.length:Int))) (br (decide (0<=a)&&decide (a<(b.length:Int))) (br (decide (0<=a)&&decide (a<(b.length:Int))) (br (decide (0<=y1)&&decide (y1<((List.set b a.toNat y0).length:Int))) (go c d e y1 (List.set (List.set b a.toNat y0) (Int.toNat y1) (List.getD b a.toNat 0))) none) none) none) none) (K0 c d e b)) none) none) (K0 c d e b)
def IB(D:DX)(n:Nat)(K0:Int->Int->Int->List Int->Option cQ):Nat->Int->Int->Int->Int->(List Int)->Option cQ | 0=>(fun a b c d e=>none) | m+1=>(fun a b c d e=>Tm D n (IB D n K0 m) K0 a b c d e)
def qf0(D:DX)(n:Nat)(go:Int->Int->Int->List Int->Option cQ)(K0:List Int->Option cQ)(a b c:Int)(d:List Int):Option cQ:=go a b (wrap .i64 (c+1)) d
def qf9(D:DX)(n:Nat)(go:Int->Int->Int->List Int->Option cQ)(K0:List Int->Option cQ):(Int)->(Int)->(Int)->(Int)->(List Int)->Option cQ:=(fun a f g h i=>IB D n (fun b c d e=>qf0 D n go K0 b c d e) n a f g h i)
def QJ(D:DX)(n:Nat)(go:Int->Int->Int->List Int->Option cQ)(K0:List Int->Option cQ)(nM:Int->Int->Int->Int->List Int->Option cQ)(x0 x1 x2:Int)(x3:List Int):Option cQ:=br (decide (x2<x1)) (nM x0 x1 x2 x2 x3) (K0 x3)
def zf(D:DX)(n:Nat)(K0:List Int->Option cQ):Nat->Int->Int->Int->(List Int)->Option cQ | 0=>(fun x0 x1 x2 x3=>none) | m+1=>(fun x0 x1 x2 x3=>QJ D n (zf D n K0 m) K0 (qf9 D n (zf D n K0 m) K0) x0 x1 x2 x3)
def qjx(D:DX)(n:Nat)(a:List Int):Option cQ:=some ((),a,())
def qf8(D:DX)(n:Nat):(Int)->(Int)->(Int)->(List Int)->Option cQ:=(fun x0 x1 x2 x3=>zf D n (fun a=>qjx D n a) n x0 x1 x2 x3)
def qg3(D:DX)(n:Nat)(cz:Int->Int->Int->List Int->Option cQ)(a0:List Int)(a1 a2:Int):Option cQ:=cz a1 a2 (wrap .i64 (a1+1)) a0
def qgy(D:DX)(n:Nat)(a0:List Int)(a1 a2:Int):Option cQ:=qg3 D n (qf8 D n) a0 a1 a2
def ED(x0 x1 x2:Int)(x3:List Int):St:=bz 49 [(0,AV.b5 0 [] 1048576),(1,AV.val ah x0),(2,AV.val ah x1),(6,AV.val ah x2)] [(0,aB.mk bG l9 x3 false)]
def Tk(a:List Int):St:=bz 49 [(0,AV.b5 0 [] 1048576)] [(0,aB.mk bG l9 a false)]
def qgq(a b c d:Int)(e:List Int):St:=bz 49 [(0,AV.b5 0 [] 1048576),(1,AV.val ah a),(2,AV.val ah b),(6,AV.val ah c),(7,AV.val ah d)] [(0,aB.mk bG l9 e false)]
def qjw(a b c:Int)(d:List Int):St:=bz 49 [(0,AV.b5 0 [] 1048576),(1,AV.val ah a),(2,AV.val ah b),(6,AV.val ah c)] [(0,aB.mk bG l9 d false)]
theorem qtm(D:DX)(n:Nat)(K:KT 188):∀(m:Nat)(e f g h:Int)(i:List Int),LF D n 188 Ib m (qgq e f g h i) K=IB D n (fun a b c d=>K (Ex.exit 2) (qjw a b c d)) m e f g h i:=oE (fun F=>Tm D n F (fun a b c d=>K (Ex.exit 2) (qjw a b c d)))
theorem qsr(D:DX)(n:Nat)(m:Nat)(K:KT 188)(a b c d:Int)(e:List Int):LF D n 188 Ib n (qgq a b c d e) (CF D n 188 [.r,.l,.l] [.r,.l,.l,.r,.l] (KF D n 188 gV m K))=qf9 D n (fun x0 x1 x2 x3=>LF D n 188 gV m (ED x0 x1 x2 x3) K) (fun f=>K (Ex.exit 0) (Tk f)) a b c d e :=by rw[qtm];kernel_rfl
theorem qtn(D:DX)(n:Nat)(m:Nat)(K:KT 188)(x0)(x1)(x2)(x3):LF D n 188 gV (m+1) (ED x0 x1 x2 x3) K=QJ D n (fun x0 x1 x2 x3=>LF D n 188 gV m (ED x0 x1 x2 x3) K) (fun a=>K (Ex.exit 0) (Tk a)) (fun b c d e f=>LF D n 188 Ib n (qgq b c d e f) (CF D n 188 [.r,.l,.l] [.r,.l,.l,.r,.l] (KF D n 188 gV m K))) x0 x1 x2 x3:=by kernel_rfl
theorem qj3(D:DX)(n:Nat)(K:KT 188):∀(m:Nat)(x0 x1 x2:Int)(x3:List Int),LF D n 188 gV m (ED x0 x1 x2 x3) K=zf D n (fun a=>K (Ex.exit 0) (Tk a)) m x0 x1 x2 x3
 | 0,x0,x1,x2,x3=>vH ..
 | m+1,x0,x1,x2,x3=>by
  have ih:(fun x0 x1 x2 x3=>LF D n 188 gV m (ED x0 x1 x2 x3) K)=zf D n (fun a=>K (Ex.exit 0) (Tk a)) m:=by funext x0 x1 x2 x3;exact qj3 D n K m x0 x1 x2 x3
  rw[qtn];simp only[qsr];rw[ih];rfl
theorem qsq(D:DX)(n:Nat)(x0)(x1)(x2)(x3):LF D n 188 gV n (ED x0 x1 x2 x3) (CF D n 188 [] gV (lF 188))=qf8 D n x0 x1 x2 x3 :=by rw[qj3];kernel_rfl
theorem qvb(D:DX)(n:Nat)(a0:List Int)(a1 a2:Int):rF D n 188 (a0,(a1,(a2,())))=qgy D n a0 a1 a2:=by
 have h:rF D n 188 (a0,(a1,(a2,())))=qg3 D n (fun x0 x1 x2 x3=>LF D n 188 gV n (ED x0 x1 x2 x3) (CF D n 188 [] gV (lF 188))) a0 a1 a2:=by kernel_rfl
 rw[h];simp only[qsq];rfl
def M7(D:DX)(n:Nat)(a0 a1:Int):Option ag:=qd (qxh D a0) fun b=>br b.1.1 (qd (qxh D a1) fun b=>some ((bif !b.1.1 then true else decide (a0<a1),()),())) (some ((bif false then true else decide (a0<a1),()),()))
def WS(D:DX)(n:Nat)(a0 a1:Int):Option ag:=M7 D n a0 a1
theorem afT(D:DX)(n:Nat)(a0 a1:Int):rF D n 194 (a0,(a1,()))=WS D n a0 a1:=by kernel_rfl
def ad7(D:DX)(n:Nat)(a0:Int):Option aC:=let y0:=List.toArray ([UInt8.ofNat 0,UInt8.ofNat 1,UInt8.ofNat 2,UInt8.ofNat 2,UInt8.ofNat 3,UInt8.ofNat 3,UInt8.ofNat 3,UInt8.ofNat 3,UInt8.ofNat 4,UInt8.ofNat 4,UInt8.ofNat 4,UInt8.ofNat 4,UInt8.ofNat 4,UInt8.ofNat 4,UInt8.ofNat 4,UInt8.ofNat 4,UInt8.ofNat 5,UInt8.ofNat 5,UInt8.ofNat 5,UInt8.ofNat 5,UInt8.ofNat 5,UInt8.ofNat 5,UInt8.ofNat 5,UInt8.ofNat 5,UInt8.ofNat 5,UInt8.ofNat 5,UInt8.ofNat 5,UInt8.ofNat 5,UInt8.ofNat 5,UInt8.ofNat 5,UInt8.ofNat 5,UInt8.ofNat 5,UInt8.ofNat 6,UInt8.ofNat 6,UInt8.ofNat 6,UInt8.ofNat 6,UInt8.ofNat 6,UInt8.ofNat 6,UInt8.ofNat 6,UInt8.ofNat 6,UInt8.ofNat 6,UInt8.ofNat 6,UInt8.ofNat 6,UInt8.ofNat 6,UInt8.ofNat 6,UInt8.ofNat 6,UInt8.ofNat 6,UInt8.ofNat 6,UInt8.ofNat 6,UInt8.ofNat 6,UInt8.ofNat 6,UInt8.ofNat 6,UInt8.ofNat 6,UInt8.ofNat 6,UInt8.ofNat 6,UInt8.ofNat 6,UInt8.ofNat 6,UInt8.ofNat 6,UInt8.ofNat 6,UInt8.ofNat 6,UInt8.ofNat 6,UInt8.ofNat 6,UInt8.ofNat 6,UInt8.ofNat 6]++[UInt8.ofNat 7,UInt8.ofNat 7,UInt8.ofNat 7,UInt8.ofNat 7,UInt8.ofNat 7,UInt8.ofNat 7,UInt8.ofNat 7,UInt8.ofNat 7,UInt8.ofNat 7,UInt8.ofNat 7,UInt8.ofNat 7,UInt8.ofNat 7,UInt8.ofNat 7,UInt8.ofNat 7,UInt8.ofNat 7,UInt8.ofNat 7,UInt8.ofNat 7,UInt8.ofNat 7,UInt8.ofNat 7,UInt8.ofNat 7,UInt8.ofNat 7,UInt8.ofNat 7,UInt8.ofNat 7,UInt8.ofNat 7,UInt8.ofNat 7,UInt8.ofNat 7,UInt8.ofNat 7,UInt8.ofNat 7,UInt8.ofNat 7,UInt8.ofNat 7,UInt8.ofNat 7,UInt8.ofNat 7,UInt8.ofNat 7,UInt8.ofNat 7,UInt8.ofNat 7,UInt8.ofNat 7,UInt8.ofNat 7,UInt8.ofNat 7,UInt8.ofNat 7,UInt8.ofNat 7,UInt8.ofNat 7,UInt8.ofNat 7,UInt8.ofNat 7,UInt8.ofNat 7,UInt8.ofNat 7,UInt8.ofNat 7,UInt8.ofNat 7,UInt8.ofNat 7,UInt8.ofNat 7,UInt8.ofNat 7,UInt8.ofNat 7,UInt8.ofNat 7,UInt8.ofNat 7,UInt8.ofNat 7,UInt8.ofNat 7,UInt8.ofNat 7,UInt8.ofNat 7,UInt8.ofNat 7,UInt8.ofNat 7,UInt8.ofNat 7,UInt8.ofNat 7,UInt8.ofNat 7,UInt8.ofNat 7,UInt8.ofNat 7]++([UInt8.ofNat 8,UInt8.ofNat 8,UInt8.ofNat 8,UInt8.ofNat 8,UInt8.ofNat 8,UInt8.ofNat 8,UInt8.ofNat 8,UInt8.ofNat 8,UInt8.ofNat 8,UInt8.ofNat 8,UInt8.ofNat 8,UInt8.ofNat 8,UInt8.ofNat 8,UInt8.ofNat 8,UInt8.ofNat 8,UInt8.ofNat 8,UInt8.ofNat 8,UInt8.ofNat 8,UInt8.ofNat 8,UInt8.ofNat 8,UInt8.ofNat 8,UInt8.ofNat 8,UInt8.ofNat 8,UInt8.ofNat 8,UInt8.ofNat 8,UInt8.ofNat 8,UInt8.ofNat 8,UInt8.ofNat 8,UInt8.ofNat 8,UInt8.ofNat 8,UInt8.ofNat 8,UInt8.ofNat 8,UInt8.ofNat 8,UInt8.ofNat 8,UInt8.ofNat 8,UInt8.ofNat 8,UInt8.ofNat 8,UInt8.ofNat 8,UInt8.ofNat 8,UInt8.ofNat 8,UInt8.ofNat 8,UInt8.ofNat 8,UInt8.ofNat 8,UInt8.ofNat 8,UInt8.ofNat 8,UInt8.ofNat 8,UInt8.ofNat 8,UInt8.ofNat 8,UInt8.ofNat 8,UInt8.ofNat 8,UInt8.ofNat 8,UInt8.ofNat 8,UInt8.ofNat 8,UInt8.ofNat 8,UInt8.ofNat 8,UInt8.ofNat 8,UInt8.ofNat 8,UInt8.ofNat 8,UInt8.ofNat 8,UInt8.ofNat 8,UInt8.ofNat 8,UInt8.ofNat 8,UInt8.ofNat 8,UInt8.ofNat 8]++[UInt8.ofNat 8,UInt8.ofNat 8,UInt8.ofNat 8,UInt8.ofNat 8,UInt8.ofNat 8,UInt8.ofNat 8,UInt8.ofNat 8,UInt8.ofNat 8,UInt8.ofNat 8,UInt8.ofNat 8,UInt8.ofNat 8,UInt8.ofNat 8,UInt8.ofNat 8,UInt8.ofNat 8,UInt8.ofNat 8,UInt8.ofNat 8,UInt8.ofNat 8,UInt8.ofNat 8,UInt8.ofNat 8,UInt8.ofNat 8,UInt8.ofNat 8,UInt8.ofNat 8,UInt8.ofNat 8,UInt8.ofNat 8,UInt8.ofNat 8,UInt8.ofNat 8,UInt8.ofNat 8,UInt8.ofNat 8,UInt8.ofNat 8,UInt8.ofNat 8,UInt8.ofNat 8,UInt8.ofNat 8,UInt8.ofNat 8,UInt8.ofNat 8,UInt8.ofNat 8,UInt8.ofNat 8,UInt8.ofNat 8,UInt8.ofNat 8,UInt8.ofNat 8,UInt8.ofNat 8,UInt8.ofNat 8,UInt8.ofNat 8,UInt8.ofNat 8,UInt8.ofNat 8,UInt8.ofNat 8,UInt8.ofNat 8,UInt8.ofNat 8,UInt8.ofNat 8,UInt8.ofNat 8,UInt8.ofNat 8,UInt8.ofNat 8,UInt8.ofNat 8,UInt8.ofNat 8,UInt8.ofNat 8,UInt8.ofNat 8,UInt8.ofNat 8,UInt8.ofNat 8,UInt8.ofNat 8,UInt8.ofNat 8,UInt8.ofNat 8,UInt8.ofNat 8,UInt8.ofNat 8,UInt8.ofNat 8,UInt8.ofNat 8]));let y1:=Int.pow 2 (if Int.toNat 32<=IntKind.bits .u64 then Int.toNat 32 else IntKind.bits .u64);let y2:=Int.pow 2 (if Int.toNat 16<=IntKind.bits .u64 then Int.toNat 16 else IntKind.bits .u64);let y3:=Int.pow 2 (if Int.toNat 8<=IntKind.bits .u64 then Int.toNat 8 else IntKind.bits .u64);let y4:=Int.fdiv a0 y1;let y5:=ByteArray.mk y0;let y6:=Int.fdiv y4 y2;let y7:=Int.fdiv a0 y2;br (decide (a0>=4294967296)) (br (decide (y4>=65536)) (br (decide (y6>=256)) (br (decide (0<=wrap .u8 (Int.fdiv y6 y3))&&decide (wrap .u8 (Int.fdiv y6 y3)<(↑(ByteArray.size y5):Int))) (some ((wrap .i64 (wrap .i64 (wrap .i64 (32+16)+8)+wrap .i64 (↑(UInt8.toNat (Array.getD y0 (Int.toNat (wrap .u8 (Int.fdiv y6 y3))) (UInt8.ofNat 0))):Int)),()),())) none) (br (decide (0<=wrap .u8 y6)&&decide (wrap .u8 y6<(↑(ByteArray.size y5):Int))) (some ((wrap .i64 (wrap .i64 (32+16)+wrap .i64 (↑(UInt8.toNat (Array.getD y0 (Int.toNat (wrap .u8 y6)) (UInt8.ofNat 0))):Int)),()),())) none)) (br (decide (y4>=256)) (br (decide (0<=wrap .u8 (Int.fdiv y4 y3))&&decide (wrap .u8 (Int.fdiv y4 y3)<(↑(ByteArray.size y5):Int))) (some ((wrap .i64 (wrap .i64 (32+8)+wrap .i64 (↑(UInt8.toNat (Array.getD y0 (Int.toNat (wrap .u8 (Int.fdiv y4 y3))) (UInt8.ofNat 0))):Int)),()),())) none) (br (decide (0<=wrap .u8 y4)&&decide (wrap .u8 y4<(↑(ByteArray.size y5):Int))) (some ((wrap .i64 (32+wrap .i64 (↑(UInt8.toNat (Array.getD y0 (Int.toNat (wrap .u8 y4)) (UInt8.ofNat 0))):Int)),()),())) none))) (br (decide (a0>=65536)) (br (decide (y7>=256)) (br (decide (0<=wrap .u8 (Int.fdiv y7 y3))&&decide (wrap .u8 (Int.fdiv y7 y3)<(↑(ByteArray.size y5):Int))) (some ((wrap .i64 (wrap .i64 (wrap .i64 (0+16)+8)+wrap .i64 (↑(UInt8.toNat (Array.getD y0 (Int.toNat (wrap .u8 (Int.fdiv y7 y3))) (UInt8.ofNat 0))):Int)),()),())) none) (br (decide (0<=wrap .u8 y7)&&decide (wrap .u8 y7<(↑(ByteArray.size y5):Int))) (some ((wrap .i64 (wrap .i64 (0+16)+wrap .i64 (↑(UInt8.toNat (Array.getD y0 (Int.toNat (wrap .u8 y7)) (UInt8.ofNat 0))):Int)),()),())) none)) (br (decide (a0>=256)) (br (decide (0<=wrap .u8 (Int.fdiv a0 y3))&&decide (wrap .u8 (Int.fdiv a0 y3)<(↑(ByteArray.size y5):Int))) (some ((wrap .i64 (wrap .i64 (0+8)+wrap .i64 (↑(UInt8.toNat (Array.getD y0 (Int.toNat (wrap .u8 (Int.fdiv a0 y3))) (UInt8.ofNat 0))):Int)),()),())) none) (br (decide (0<=wrap .u8 a0)&&decide (wrap .u8 a0<(↑(ByteArray.size y5):Int))) (some ((wrap .i64 (0+wrap .i64 (↑(UInt8.toNat (Array.getD y0 (Int.toNat (wrap .u8 a0)) (UInt8.ofNat 0))):Int)),()),())) none)))
def qZ(D:DX)(n:Nat)(a0:Int):Option aC:=ad7 D n a0
theorem adM(D:DX)(n:Nat)(a0:Int):rF D n 198 (a0,())=qZ D n a0:=by kernel_rfl
def Tc(D:DX)(n:Nat)(a3:aZ)(go:Int->Int->Int->Int->List ai->Option cB)(K0:Int->Int->Int->List ai->Option cB)(c d e a:Int)(b:List ai):Option cB:=let y2:=wrap .i64 (a-1);let y0:=List.getD b (Int.toNat y2) (0,0,0,());let y1:=List.getD b a.toNat (0,0,0,());br (decide (a>c)) (br (decide (0<=a)&&decide (a<(b.length:Int))) (br (decide (0<=y2)&&decide (y2<(b.length:Int))) (qd (gl ctx D a3 [bt.val bR y1,bt.val bR y0] ah) fun p0=>br (decide (p0<0)) (br (decide (0<=y2)&&decide (y2<(b.length:Int))) (br (decide (0<=a)&&decide (a<(b.length:Int))) (br (decide (0<=a)&&decide (a<(b.length:Int))) (br (decide (0<=y2)&&decide (y2<((List.set b a.toNat y0).length:Int))) (go c d e y2 (List.set (List.set b a.toNat y0) (Int.toNat y2) y1)) none) none) none) none) (K0 c d e b)) none) none) (K0 c d e b)
def Iv(D:DX)(n:Nat)(a3:aZ)(K0:Int->Int->Int->List ai->Option cB):Nat->Int->Int->Int->Int->(List ai)->Option cB | 0=>(fun a b c d e=>none) | m+1=>(fun a b c d e=>Tc D n a3 (Iv D n a3 K0 m) K0 a b c d e)
def qdp(D:DX)(n:Nat)(a3:aZ)(go:Int->Int->Int->List ai->Option cB)(K0:List ai->Option cB)(a b c:Int)(d:List ai):Option cB:=go a b (wrap .i64 (c+1)) d
def qd1(D:DX)(n:Nat)(a3:aZ)(go:Int->Int->Int->List ai->Option cB)(K0:List ai->Option cB):(Int)->(Int)->(Int)->(Int)->(List ai)->Option cB:=(fun a f g h i=>Iv D n a3 (fun b c d e=>qdp D n a3 go K0 b c d e) n a f g h i)
def QX(D:DX)(n:Nat)(a3:aZ)(go:Int->Int->Int->List ai->Option cB)(K0:List ai->Option cB)(nM:Int->Int->Int->Int->List ai->Option cB)(x0 x1 x2:Int)(x3:List ai):Option cB:=br (decide (x2<x1)) (nM x0 x1 x2 x2 x3) (K0 x3)
def ze(D:DX)(n:Nat)(a3:aZ)(K0:List ai->Option cB):Nat->Int->Int->Int->(List ai)->Option cB | 0=>(fun x0 x1 x2 x3=>none) | m+1=>(fun x0 x1 x2 x3=>QX D n a3 (ze D n a3 K0 m) K0 (qd1 D n a3 (ze D n a3 K0 m) K0) x0 x1 x2 x3)
def qg7(D:DX)(n:Nat)(a3:aZ)(a:List ai):Option cB:=some ((),a,())
def qd0(D:DX)(n:Nat)(a3:aZ):(Int)->(Int)->(Int)->(List ai)->Option cB:=(fun x0 x1 x2 x3=>ze D n a3 (fun a=>qg7 D n a3 a) n x0 x1 x2 x3)
def qet(D:DX)(n:Nat)(a3:aZ)(cz:Int->Int->Int->List ai->Option cB)(a0:List ai)(a1 a2:Int):Option cB:=cz a1 a2 (wrap .i64 (a1+1)) a0
def qem(D:DX)(n:Nat)(a0:List ai)(a1 a2:Int)(a3:aZ):Option cB:=qet D n a3 (qd0 D n a3) a0 a1 a2
def Gk(a3:aZ)(x0 x1 x2:Int)(x3:List ai):St:=bz 53 [(0,AV.b5 0 [] 1048576),(1,AV.val ah x0),(2,AV.val ah x1),(3,AV.dZ a3),(8,AV.val ah x2)] [(0,aB.mk bX l9 x3 false)]
def Tf(a3:aZ)(a:List ai):St:=bz 53 [(0,AV.b5 0 [] 1048576)] [(0,aB.mk bX l9 a false)]
def qeh(a3:aZ)(a b c d:Int)(e:List ai):St:=bz 53 [(0,AV.b5 0 [] 1048576),(1,AV.val ah a),(2,AV.val ah b),(3,AV.dZ a3),(8,AV.val ah c),(9,AV.val ah d)] [(0,aB.mk bX l9 e false)]
def qg6(a3:aZ)(a b c:Int)(d:List ai):St:=bz 53 [(0,AV.b5 0 [] 1048576),(1,AV.val ah a),(2,AV.val ah b),(3,AV.dZ a3),(8,AV.val ah c)] [(0,aB.mk bX l9 d false)]
theorem qn1(D:DX)(n:Nat)(a3:aZ)(K:KT 199):∀(m:Nat)(e f g h:Int)(i:List ai),LF D n 199 Ib m (qeh a3 e f g h i) K=Iv D n a3 (fun a b c d=>K (Ex.exit 2) (qg6 a3 a b c d)) m e f g h i:=oE (fun F=>Tc D n a3 F (fun a b c d=>K (Ex.exit 2) (qg6 a3 a b c d)))
theorem qm6(D:DX)(n:Nat)(a3:aZ)(m:Nat)(K:KT 199)(a b c d:Int)(e:List ai):LF D n 199 Ib n (qeh a3 a b c d e) (CF D n 199 [.r,.l,.l] [.r,.l,.l,.r,.l] (KF D n 199 gV m K))=qd1 D n a3 (fun x0 x1 x2 x3=>LF D n 199 gV m (Gk a3 x0 x1 x2 x3) K) (fun f=>K (Ex.exit 0) (Tf a3 f)) a b c d e :=by rw[qn1];kernel_rfl
theorem qn2(D:DX)(n:Nat)(a3:aZ)(m:Nat)(K:KT 199)(x0)(x1)(x2)(x3):LF D n 199 gV (m+1) (Gk a3 x0 x1 x2 x3) K=QX D n a3 (fun x0 x1 x2 x3=>LF D n 199 gV m (Gk a3 x0 x1 x2 x3) K) (fun a=>K (Ex.exit 0) (Tf a3 a)) (fun b c d e f=>LF D n 199 Ib n (qeh a3 b c d e f) (CF D n 199 [.r,.l,.l] [.r,.l,.l,.r,.l] (KF D n 199 gV m K))) x0 x1 x2 x3:=by kernel_rfl
theorem qhh(D:DX)(n:Nat)(a3:aZ)(K:KT 199):∀(m:Nat)(x0 x1 x2:Int)(x3:List ai),LF D n 199 gV m (Gk a3 x0 x1 x2 x3) K=ze D n a3 (fun a=>K (Ex.exit 0) (Tf a3 a)) m x0 x1 x2 x3
 | 0,x0,x1,x2,x3=>vH ..
 | m+1,x0,x1,x2,x3=>by
  have ih:(fun x0 x1 x2 x3=>LF D n 199 gV m (Gk a3 x0 x1 x2 x3) K)=ze D n a3 (fun a=>K (Ex.exit 0) (Tf a3 a)) m:=by funext x0 x1 x2 x3;exact qhh D n a3 K m x0 x1 x2 x3
  rw[qn2];simp only[qm6];rw[ih];rfl
theorem qm5(D:DX)(n:Nat)(a3:aZ)(x0)(x1)(x2)(x3):LF D n 199 gV n (Gk a3 x0 x1 x2 x3) (CF D n 199 [] gV (lF 199))=qd0 D n a3 x0 x1 x2 x3 :=by rw[qhh];kernel_rfl
theorem qoq(D:DX)(n:Nat)(a0:List ai)(a1 a2:Int)(a3:aZ):rF D n 199 (a0,(a1,(a2,(a3,()))))=qem D n a0 a1 a2 a3:=by
 have h:rF D n 199 (a0,(a1,(a2,(a3,()))))=qet D n a3 (fun x0 x1 x2 x3=>LF D n 199 gV n (Gk a3 x0 x1 x2 x3) (CF D n 199 [] gV (lF 199))) a0 a1 a2:=by kernel_rfl
 rw[h];simp only[qm5];rfl
def MG(D:DX)(n:Nat)(a0:Int):Option ag:=some ((a0 != a0,()),())
def qxv(D:DX)(n:Nat)(a0:Int):Option ag:=MG D n a0
theorem afc(D:DX)(n:Nat)(a0:Int):rF D n 212 (a0,())=qxv D n a0:=by kernel_rfl
end
open Go.Proofs
def fR(X:Ext):Prop:=∀k:Nat,(Nat.beq k 128)=false->X.is k=false
theorem aiP:fR Oz:=fun _ _=>rfl
section
variable {X:Ext}(hX:fR X)(n:Nat)
include hX
theorem sQ{g:FuncId}{fn:Func}{a:eV (ctx.sig g).params}{r:Option (Out ctx g)}(hf:Tryz.prog.funcs[g]?=some fn)(ht:vK g=some fn)(hg:Nat.beq g 128=false)(e:rF (DD X n) n g a=r):DD X (n+1) g a=r:=(ai0 X hf ht (hX g hg) n a).trans e
theorem ac9(a0):q6f (DD X (n+1)) a0=qyr (DD X n) n a0:=sQ hX n Tryz.func11 (by kernel_rfl) rfl (acO ..)
theorem Z0(a0):Ff (DD X (n+1)) a0=Ov (DD X n) n a0:=sQ hX n Tryz.func12 (by kernel_rfl) rfl (ZW ..)
theorem acM(a0):qqb (DD X (n+1)) a0=qqh (DD X n) n a0:=sQ hX n Tryz.func13 (by kernel_rfl) rfl (acK ..)
theorem adP(a0 a1):qtv (DD X (n+1)) a0 a1=qt4 (DD X n) n a0 a1:=sQ hX n Tryz.func14 (by kernel_rfl) rfl (adE ..)
theorem adX(a0 a1):qtw (DD X (n+1)) a0 a1=qua (DD X n) n a0 a1:=sQ hX n Tryz.func15 (by kernel_rfl) rfl (adN ..)
theorem Zo(a0 a1):ER (DD X (n+1)) a0 a1=EU (DD X n) n a0 a1:=sQ hX n Tryz.func16 (by kernel_rfl) rfl (Y7 ..)
theorem qub(a0):qm7 (DD X (n+1)) a0=TF (DD X n) n a0:=sQ hX n Tryz.func17 (by kernel_rfl) rfl (adG ..)
theorem ad4(a0 a1):Xr (DD X (n+1)) a0 a1=q7t (DD X n) n a0 a1:=sQ hX n Tryz.func29 (by kernel_rfl) rfl (adt ..)
theorem ais(a0 a1):Ui (DD X (n+1)) a0 a1=YC (DD X n) n a0 a1:=sQ hX n Tryz.func34 (by kernel_rfl) rfl (ahP ..)
theorem ahX(a0):vE (DD X (n+1)) a0=YO (DD X n) n a0:=sQ hX n Tryz.func35 (by kernel_rfl) rfl (aia ..)
theorem acX(a0 a1):qyh (DD X (n+1)) a0 a1=qyj (DD X n) n a0 a1:=sQ hX n Tryz.func37 (by kernel_rfl) rfl (acp ..)
theorem ad3(a0 a1 a2):RZ (DD X (n+1)) a0 a1 a2=Xz (DD X n) n a0 a1 a2:=sQ hX n Tryz.func38 (by kernel_rfl) rfl (ads ..)
theorem adD(a0):WG (DD X (n+1)) a0=WT (DD X n) n a0:=sQ hX n Tryz.func39 (by kernel_rfl) rfl (adr ..)
theorem aeF(a0):CC (DD X (n+1)) a0=qvx (DD X n) n a0:=sQ hX n Tryz.func40 (by kernel_rfl) rfl (aeu ..)
theorem afd(a0):Yd (DD X (n+1)) a0=Ye (DD X n) n a0:=sQ hX n Tryz.func41 (by kernel_rfl) rfl (afb ..)
theorem ac8(a0):qyi (DD X (n+1)) a0=qyn (DD X n) n a0:=sQ hX n Tryz.func42 (by kernel_rfl) rfl (acq ..)
theorem adC(a0 a1):WE (DD X (n+1)) a0 a1=WH (DD X n) n a0 a1:=sQ hX n Tryz.func43 (by kernel_rfl) rfl (adq ..)
theorem ah6(a0):YJ (DD X (n+1)) a0=YW (DD X n) n a0:=sQ hX n Tryz.func44 (by kernel_rfl) rfl (aik ..)
theorem ac6(a0):qrr (DD X (n+1)) a0=qrx (DD X n) n a0:=sQ hX n Tryz.func45 (by kernel_rfl) rfl (ac1 ..)
theorem aet(a0):qvw (DD X (n+1)) a0=qv4 (DD X n) n a0:=sQ hX n Tryz.func46 (by kernel_rfl) rfl (aeE ..)
theorem agI(a0 a1):q_ (DD X (n+1)) a0 a1=Xd (DD X n) n a0 a1:=sQ hX n Tryz.func47 (by kernel_rfl) rfl (agj ..)
theorem ahg(a0 a1 a2):X1 (DD X (n+1)) a0 a1 a2=XQ (DD X n) n a0 a1 a2:=sQ hX n Tryz.func48 (by kernel_rfl) rfl (ahw ..)
theorem ahB(a0 a1):XV (DD X (n+1)) a0 a1=X6 (DD X n) n a0 a1:=sQ hX n Tryz.func49 (by kernel_rfl) rfl (ag8 ..)
theorem aeW(a0):II (DD X (n+1)) a0=qxy (DD X n) n a0:=sQ hX n Tryz.func50 (by kernel_rfl) rfl (aff ..)
theorem aen(a0):q7u (DD X (n+1)) a0=qvy (DD X n) n a0:=sQ hX n Tryz.func51 (by kernel_rfl) rfl (aev ..)
theorem ahJ(a0 a1):X0 (DD X (n+1)) a0 a1=XM (DD X n) n a0 a1:=sQ hX n Tryz.func52 (by kernel_rfl) rfl (ahs ..)
theorem ahh(a0):X2 (DD X (n+1)) a0=XR (DD X n) n a0:=sQ hX n Tryz.func53 (by kernel_rfl) rfl (ahx ..)
theorem aer(a0):q7x (DD X (n+1)) a0=qv2 (DD X n) n a0:=sQ hX n Tryz.func54 (by kernel_rfl) rfl (aeC ..)
theorem aeq(a0):qvv (DD X (n+1)) a0=qv1 (DD X n) n a0:=sQ hX n Tryz.func55 (by kernel_rfl) rfl (aeB ..)
theorem ac5(a0):Q0 (DD X (n+1)) a0=qrw (DD X n) n a0:=sQ hX n Tryz.func56 (by kernel_rfl) rfl (ac0 ..)
theorem NW(a0 a1):RI (DD X (n+1)) a0 a1=SV (DD X n) n a0 a1:=sQ hX n Tryz.func57 (by kernel_rfl) rfl (Y_ ..)
theorem Zs(a0 a1 a2):lz (DD X (n+1)) a0 a1 a2=N6 (DD X n) n a0 a1 a2:=sQ hX n Tryz.func58 (by kernel_rfl) rfl (Zb ..)
theorem aiu(a0):Hq (DD X (n+1)) a0=YE (DD X n) n a0:=sQ hX n Tryz.func63 (by kernel_rfl) rfl (ah8 ..)
theorem qog(a0 a1):qd4 (DD X (n+1)) a0 a1=qd8 (DD X n) n a0 a1:=sQ hX n Tryz.func64 (by kernel_rfl) rfl (qoc ..)
theorem ahD(a0):IW (DD X (n+1)) a0=X8 (DD X n) n a0:=sQ hX n Tryz.func66 (by kernel_rfl) rfl (ahm ..)
theorem MU(a0 a1):Tv (DD X (n+1)) a0 a1=TH (DD X n) n a0 a1:=sQ hX n Tryz.func67 (by kernel_rfl) rfl (abX ..)
theorem agw(a0):TN (DD X (n+1)) a0=WD (DD X n) n a0:=sQ hX n Tryz.func68 (by kernel_rfl) rfl (af1 ..)
theorem qvc(a0):QZ (DD X (n+1)) a0=Tx (DD X n) n a0:=sQ hX n Tryz.func69 (by kernel_rfl) rfl (abW ..)
theorem agu:tv (DD X (n+1))=M4 (DD X n) n:=sQ hX n Tryz.func70 (by kernel_rfl) rfl (af0 ..)
theorem Zt(a0):IU (DD X (n+1)) a0=N7 (DD X n) n a0:=sQ hX n Tryz.func71 (by kernel_rfl) rfl (Zc ..)
theorem agt(a0):x_ (DD X (n+1)) a0=WC (DD X n) n a0:=sQ hX n Tryz.func73 (by kernel_rfl) rfl (afZ ..)
theorem abZ(a0 a1):Tw (DD X (n+1)) a0 a1=qmt (DD X n) n a0 a1:=sQ hX n Tryz.func74 (by kernel_rfl) rfl (abY ..)
theorem ahH(a0 a1):IM (DD X (n+1)) a0 a1=Nn (DD X n) n a0 a1:=sQ hX n Tryz.func75 (by kernel_rfl) rfl (ahq ..)
theorem aiw(a0):zg (DD X (n+1)) a0=YG (DD X n) n a0:=sQ hX n Tryz.func76 (by kernel_rfl) rfl (ah_ ..)
theorem ago(a0):tr (DD X (n+1)) a0=Ww (DD X n) n a0:=sQ hX n Tryz.func77 (by kernel_rfl) rfl (afV ..)
theorem q6h(a0 a1 a2):IQ (DD X (n+1)) a0 a1 a2=T9 (DD X n) n a0 a1 a2:=sQ hX n Tryz.func78 (by kernel_rfl) rfl (aco ..)
theorem ac3(a0 a1 a2):TA (DD X (n+1)) a0 a1 a2=qru (DD X n) n a0 a1 a2:=sQ hX n Tryz.func79 (by kernel_rfl) rfl (acY ..)
theorem Zn(a0):CK (DD X (n+1)) a0=ET (DD X n) n a0:=sQ hX n Tryz.func80 (by kernel_rfl) rfl (Y6 ..)
theorem afl(a0 a1):qxn (DD X (n+1)) a0 a1=qxx (DD X n) n a0 a1:=sQ hX n Tryz.func81 (by kernel_rfl) rfl (afe ..)
theorem agx(a0 a1):WI (DD X (n+1)) a0 a1=W1 (DD X n) n a0 a1:=sQ hX n Tryz.func82 (by kernel_rfl) rfl (af2 ..)
theorem af5(a0):WJ (DD X (n+1)) a0=W8 (DD X n) n a0:=sQ hX n Tryz.func83 (by kernel_rfl) rfl (afM ..)
theorem ad5(a0):Ue (DD X (n+1)) a0=q70 (DD X n) n a0:=sQ hX n Tryz.func84 (by kernel_rfl) rfl (adu ..)
theorem agA(a0):CG (DD X (n+1)) a0=W5 (DD X n) n a0:=sQ hX n Tryz.func85 (by kernel_rfl) rfl (afJ ..)
theorem q6s(a0 a1):RL (DD X (n+1)) a0 a1=qyo (DD X n) n a0 a1:=sQ hX n Tryz.func86 (by kernel_rfl) rfl (acr ..)
theorem qtl(a0 a1):qh8 (DD X (n+1)) a0 a1=qh9 (DD X n) n a0 a1:=sQ hX n Tryz.func87 (by kernel_rfl) rfl (qtk ..)
theorem qvm(a0):Tn (DD X (n+1)) a0=qlt (DD X n) n a0:=sQ hX n Tryz.func88 (by kernel_rfl) rfl (qvf ..)
theorem ab9(a0):qwl (DD X (n+1)) a0=qxi (DD X n) n a0:=sQ hX n Tryz.func89 (by kernel_rfl) rfl (acg ..)
theorem aga:WO (DD X (n+1))=M5 (DD X n) n:=sQ hX n Tryz.func90 (by kernel_rfl) rfl (agf ..)
theorem ahZ(a0 a1):Uk (DD X (n+1)) a0 a1=YQ (DD X n) n a0 a1:=sQ hX n Tryz.func91 (by kernel_rfl) rfl (aic ..)
theorem aes(a0 a1):TO (DD X (n+1)) a0 a1=qv3 (DD X n) n a0 a1:=sQ hX n Tryz.func92 (by kernel_rfl) rfl (aeD ..)
theorem ac7(a0):qrs (DD X (n+1)) a0=qry (DD X n) n a0:=sQ hX n Tryz.func93 (by kernel_rfl) rfl (ac2 ..)
theorem ahf(a0):Hp (DD X (n+1)) a0=XP (DD X n) n a0:=sQ hX n Tryz.func94 (by kernel_rfl) rfl (ahv ..)
theorem qx3(a0):To (DD X (n+1)) a0=qh2 (DD X n) n a0:=sQ hX n Tryz.func95 (by kernel_rfl) rfl (qxu ..)
theorem agc(a0):WQ (DD X (n+1)) a0=Xc (DD X n) n a0:=sQ hX n Tryz.func96 (by kernel_rfl) rfl (agi ..)
theorem Zv(a0 a1 a2):lA (DD X (n+1)) a0 a1 a2=NV (DD X n) n a0 a1 a2:=sQ hX n Tryz.func97 (by kernel_rfl) rfl (Ze ..)
theorem ah1(a0):RU (DD X (n+1)) a0=YS (DD X n) n a0:=sQ hX n Tryz.func98 (by kernel_rfl) rfl (aie ..)
theorem ahd(a0):Ua (DD X (n+1)) a0=XN (DD X n) n a0:=sQ hX n Tryz.func99 (by kernel_rfl) rfl (aht ..)
theorem agJ(a0):WR (DD X (n+1)) a0=Xe (DD X n) n a0:=sQ hX n Tryz.func100 (by kernel_rfl) rfl (agk ..)
theorem aeY(a0 a1):qxr (DD X (n+1)) a0 a1=qx0 (DD X n) n a0 a1:=sQ hX n Tryz.func101 (by kernel_rfl) rfl (afh ..)
theorem aeZ(a0 a1):qxt (DD X (n+1)) a0 a1=qx1 (DD X n) n a0 a1:=sQ hX n Tryz.func102 (by kernel_rfl) rfl (afi ..)
theorem agz(a0):IK (DD X (n+1)) a0=W4 (DD X n) n a0:=sQ hX n Tryz.func103 (by kernel_rfl) rfl (afI ..)
theorem adV(a0):IF (DD X (n+1)) a0=qt9 (DD X n) n a0:=sQ hX n Tryz.func104 (by kernel_rfl) rfl (adL ..)
theorem ab6(a0 a1):qng (DD X (n+1)) a0 a1=qni (DD X n) n a0 a1:=sQ hX n Tryz.func105 (by kernel_rfl) rfl (ab4 ..)
theorem acL(a0 a1):qqa (DD X (n+1)) a0 a1=qqg (DD X n) n a0 a1:=sQ hX n Tryz.func106 (by kernel_rfl) rfl (acI ..)
theorem agq(a0 a1):qs7 (DD X (n+1)) a0 a1=Wy (DD X n) n a0 a1:=sQ hX n Tryz.func107 (by kernel_rfl) rfl (afX ..)
theorem qod(a0 a1):qd3 (DD X (n+1)) a0 a1=qd5 (DD X n) n a0 a1:=sQ hX n Tryz.func109 (by kernel_rfl) rfl (qn9 ..)
theorem ags(a0):M3 (DD X (n+1)) a0=WB (DD X n) n a0:=sQ hX n Tryz.func110 (by kernel_rfl) rfl (afY ..)
theorem ahA(a0):XU (DD X (n+1)) a0=X5 (DD X n) n a0:=sQ hX n Tryz.func111 (by kernel_rfl) rfl (ag7 ..)
theorem ahE(a0 a1):XW (DD X (n+1)) a0 a1=X9 (DD X n) n a0 a1:=sQ hX n Tryz.func112 (by kernel_rfl) rfl (ahn ..)
theorem qqm(a0 a1):qiq (DD X (n+1)) a0 a1=qfd (DD X n) n a0 a1:=sQ hX n Tryz.func113 (by kernel_rfl) rfl (qqf ..)
theorem q65(a0 a1):Ts (DD X (n+1)) a0 a1=qkg (DD X n) n a0 a1:=sQ hX n Tryz.func114 (by kernel_rfl) rfl (q63 ..)
theorem agp(a0):x9 (DD X (n+1)) a0=Wx (DD X n) n a0:=sQ hX n Tryz.func115 (by kernel_rfl) rfl (afW ..)
theorem vC(a0 a1 a2):q6d (DD X (n+1)) a0 a1 a2=qm (DD X n) n a0 a1 a2:=sQ hX n Tryz.func116 (by kernel_rfl) rfl (acw ..)
theorem vD(a0 a1):q6e (DD X (n+1)) a0 a1=qn (DD X n) n a0 a1:=sQ hX n Tryz.func117 (by kernel_rfl) rfl (acN ..)
theorem ait(a0):RT (DD X (n+1)) a0=YD (DD X n) n a0:=sQ hX n Tryz.func118 (by kernel_rfl) rfl (ah7 ..)
theorem agB(a0):T4 (DD X (n+1)) a0=W6 (DD X n) n a0:=sQ hX n Tryz.func119 (by kernel_rfl) rfl (afK ..)
theorem qrj(a0 a1):qfn (DD X (n+1)) a0 a1=qfo (DD X n) n a0 a1:=sQ hX n Tryz.func120 (by kernel_rfl) rfl (qri ..)
theorem adR(a0):q54 (DD X (n+1)) a0=qt6 (DD X n) n a0:=sQ hX n Tryz.func121 (by kernel_rfl) rfl (adH ..)
theorem qof(a0 a1):Tb (DD X (n+1)) a0 a1=qd7 (DD X n) n a0 a1:=sQ hX n Tryz.func122 (by kernel_rfl) rfl (qob ..)
theorem adS(a0):q55 (DD X (n+1)) a0=qt7 (DD X n) n a0:=sQ hX n Tryz.func123 (by kernel_rfl) rfl (adI ..)
theorem af4(a0):T6 (DD X (n+1)) a0=W7 (DD X n) n a0:=sQ hX n Tryz.func124 (by kernel_rfl) rfl (afL ..)
theorem aep(a0):IG (DD X (n+1)) a0=qv0 (DD X n) n a0:=sQ hX n Tryz.func125 (by kernel_rfl) rfl (aeA ..)
theorem qoe(a0 a1):Ta (DD X (n+1)) a0 a1=qd6 (DD X n) n a0 a1:=sQ hX n Tryz.func126 (by kernel_rfl) rfl (qoa ..)
theorem adT(a0 a1):q56 (DD X (n+1)) a0 a1=qt8 (DD X n) n a0 a1:=sQ hX n Tryz.func127 (by kernel_rfl) rfl (adJ ..)
theorem qr8(a0 a1):qft (DD X (n+1)) a0 a1=qfx (DD X n) n a0 a1:=sQ hX n Tryz.func129 (by kernel_rfl) rfl (qqo ..)
theorem q9i(a0 a1):qvs (DD X (n+1)) a0 a1=qwa (DD X n) n a0 a1:=sQ hX n Tryz.func130 (by kernel_rfl) rfl (q85 ..)
theorem qnc(a0 a1):qki (DD X (n+1)) a0 a1=Th (DD X n) n a0 a1:=sQ hX n Tryz.func131 (by kernel_rfl) rfl (qtu ..)
theorem aiz(a0):Um (DD X (n+1)) a0=YX (DD X n) n a0:=sQ hX n Tryz.func132 (by kernel_rfl) rfl (ail ..)
theorem aiA(a0):By (DD X (n+1)) a0=NI (DD X n) n a0:=sQ hX n Tryz.func133 (by kernel_rfl) rfl (aim ..)
theorem ah2(a0):YH (DD X (n+1)) a0=YT (DD X n) n a0:=sQ hX n Tryz.func134 (by kernel_rfl) rfl (aif ..)
theorem af_(a0):WN (DD X (n+1)) a0=Xb (DD X n) n a0:=sQ hX n Tryz.func135 (by kernel_rfl) rfl (age ..)
theorem ah4(a0):YI (DD X (n+1)) a0=YV (DD X n) n a0:=sQ hX n Tryz.func136 (by kernel_rfl) rfl (aii ..)
theorem af9(a0 a1):WM (DD X (n+1)) a0 a1=Xa (DD X n) n a0 a1:=sQ hX n Tryz.func137 (by kernel_rfl) rfl (agd ..)
theorem af8(a0):WL (DD X (n+1)) a0=W_ (DD X n) n a0:=sQ hX n Tryz.func138 (by kernel_rfl) rfl (afR ..)
theorem agb:T7 (DD X (n+1))=M6 (DD X n) n:=sQ hX n Tryz.func139 (by kernel_rfl) rfl (agh ..)
theorem ahI(a0):XZ (DD X (n+1)) a0=XL (DD X n) n a0:=sQ hX n Tryz.func140 (by kernel_rfl) rfl (ahr ..)
theorem ahe(a0 a1):Nm (DD X (n+1)) a0 a1=XO (DD X n) n a0 a1:=sQ hX n Tryz.func141 (by kernel_rfl) rfl (ahu ..)
theorem ah3(a0):CH (DD X (n+1)) a0=YU (DD X n) n a0:=sQ hX n Tryz.func143 (by kernel_rfl) rfl (aih ..)
theorem ah5(a0):RV (DD X (n+1)) a0=NH (DD X n) n a0:=sQ hX n Tryz.func145 (by kernel_rfl) rfl (aij ..)
theorem Zu(a0):SU (DD X (n+1)) a0=EY (DD X n) n a0:=sQ hX n Tryz.func146 (by kernel_rfl) rfl (Zd ..)
theorem ahi(a0 a1):X3 (DD X (n+1)) a0 a1=XS (DD X n) n a0 a1:=sQ hX n Tryz.func147 (by kernel_rfl) rfl (ahy ..)
theorem que(a0):qgi (DD X (n+1)) a0=qgl (DD X n) n a0:=sQ hX n Tryz.func148 (by kernel_rfl) rfl (qtz ..)
theorem qrz(a0):Tj (DD X (n+1)) a0=qfw (DD X n) n a0:=sQ hX n Tryz.func149 (by kernel_rfl) rfl (qrt ..)
theorem qud(a0):qgh (DD X (n+1)) a0=qgk (DD X n) n a0:=sQ hX n Tryz.func150 (by kernel_rfl) rfl (qty ..)
theorem quc(a0):qgg (DD X (n+1)) a0=qgj (DD X n) n a0:=sQ hX n Tryz.func151 (by kernel_rfl) rfl (qtx ..)
theorem ZY(a0):Fe (DD X (n+1)) a0=Fh (DD X n) n a0:=sQ hX n Tryz.func152 (by kernel_rfl) rfl (ZU ..)
theorem ahz(a0 a1):XT (DD X (n+1)) a0 a1=X4 (DD X n) n a0 a1:=sQ hX n Tryz.func153 (by kernel_rfl) rfl (ag6 ..)
theorem Zp(a0 a1):IT (DD X (n+1)) a0 a1=EV (DD X n) n a0 a1:=sQ hX n Tryz.func154 (by kernel_rfl) rfl (Y8 ..)
theorem Zr(a0 a1):R5 (DD X (n+1)) a0 a1=EX (DD X n) n a0 a1:=sQ hX n Tryz.func155 (by kernel_rfl) rfl (Za ..)
theorem ZX(a0):Fc (DD X (n+1)) a0=Fg (DD X n) n a0:=sQ hX n Tryz.func156 (by kernel_rfl) rfl (ZT ..)
theorem ac4(a0 a1 a2):Q_ (DD X (n+1)) a0 a1 a2=qrv (DD X n) n a0 a1 a2:=sQ hX n Tryz.func157 (by kernel_rfl) rfl (acZ ..)
theorem adQ(a0 a1 a2):Q8 (DD X (n+1)) a0 a1 a2=qt5 (DD X n) n a0 a1 a2:=sQ hX n Tryz.func158 (by kernel_rfl) rfl (adF ..)
theorem Zm(a0 a1):EP (DD X (n+1)) a0 a1=ES (DD X n) n a0 a1:=sQ hX n Tryz.func159 (by kernel_rfl) rfl (Zi ..)
theorem ahC(a0 a1):T_ (DD X (n+1)) a0 a1=X7 (DD X n) n a0 a1:=sQ hX n Tryz.func160 (by kernel_rfl) rfl (ag9 ..)
theorem aiq(a0 a1 a2 a3):Uh (DD X (n+1)) a0 a1 a2 a3=YB (DD X n) n a0 a1 a2 a3:=sQ hX n Tryz.func161 (by kernel_rfl) rfl (ahN ..)
theorem qqj(a0 a1):qin (DD X (n+1)) a0 a1=qfa (DD X n) n a0 a1:=sQ hX n Tryz.func162 (by kernel_rfl) rfl (qqc ..)
theorem quf(a0 a1):qj8 (DD X (n+1)) a0 a1=qgm (DD X n) n a0 a1:=sQ hX n Tryz.func163 (by kernel_rfl) rfl (qt0 ..)
theorem qql(a0 a1):qip (DD X (n+1)) a0 a1=qfc (DD X n) n a0 a1:=sQ hX n Tryz.func164 (by kernel_rfl) rfl (qqe ..)
theorem qqk(a0 a1):qio (DD X (n+1)) a0 a1=qfb (DD X n) n a0 a1:=sQ hX n Tryz.func165 (by kernel_rfl) rfl (qqd ..)
theorem ah0(a0):Ul (DD X (n+1)) a0=YR (DD X n) n a0:=sQ hX n Tryz.func166 (by kernel_rfl) rfl (aid ..)
theorem af7(a0):WK (DD X (n+1)) a0=W9 (DD X n) n a0:=sQ hX n Tryz.func167 (by kernel_rfl) rfl (afQ ..)
theorem ZZ(a0 a1):S0 (DD X (n+1)) a0 a1=Fi (DD X n) n a0 a1:=sQ hX n Tryz.func168 (by kernel_rfl) rfl (ZV ..)
theorem abS(a0 a1):Tt (DD X (n+1)) a0 a1=qlm (DD X n) n a0 a1:=sQ hX n Tryz.func169 (by kernel_rfl) rfl (abR ..)
theorem ahY(a0 a1):Uj (DD X (n+1)) a0 a1=YP (DD X n) n a0 a1:=sQ hX n Tryz.func170 (by kernel_rfl) rfl (aib ..)
theorem ahF(a0 a1):XX (DD X (n+1)) a0 a1=XJ (DD X n) n a0 a1:=sQ hX n Tryz.func171 (by kernel_rfl) rfl (aho ..)
theorem Zq(a0 a1):uK (DD X (n+1)) a0 a1=EW (DD X n) n a0 a1:=sQ hX n Tryz.func172 (by kernel_rfl) rfl (Y9 ..)
theorem aiv(a0):yb (DD X (n+1)) a0=YF (DD X n) n a0:=sQ hX n Tryz.func173 (by kernel_rfl) rfl (ah9 ..)
theorem agy(a0 a1 a2 a3):TZ (DD X (n+1)) a0 a1 a2 a3=W3 (DD X n) n a0 a1 a2 a3:=sQ hX n Tryz.func174 (by kernel_rfl) rfl (af3 ..)
theorem ab7(a0):Tu (DD X (n+1)) a0=qnj (DD X n) n a0:=sQ hX n Tryz.func175 (by kernel_rfl) rfl (ab5 ..)
theorem ahG(a0 a1 a2 a3 a4):XY (DD X (n+1)) a0 a1 a2 a3 a4=XK (DD X n) n a0 a1 a2 a3 a4:=sQ hX n Tryz.func176 (by kernel_rfl) rfl (ahp ..)
theorem agn(a0 a1):MQ (DD X (n+1)) a0 a1=WU (DD X n) n a0 a1:=sQ hX n Tryz.func177 (by kernel_rfl) rfl (afU ..)
theorem qqi(a0 a1):Q2 (DD X (n+1)) a0 a1=Q3 (DD X n) n a0 a1:=sQ hX n Tryz.func178 (by kernel_rfl) rfl (acJ ..)
theorem qv5(a0 a1):qy (DD X (n+1)) a0 a1=Rc (DD X n) n a0 a1:=sQ hX n Tryz.func179 (by kernel_rfl) rfl (aew ..)
theorem adU(a0 a1):tq (DD X (n+1)) a0 a1=q58 (DD X n) n a0 a1:=sQ hX n Tryz.func180 (by kernel_rfl) rfl (adK ..)
theorem qv6(a0 a1 a2 a3 a4):vB (DD X (n+1)) a0 a1 a2 a3 a4=Rd (DD X n) n a0 a1 a2 a3 a4:=sQ hX n Tryz.func181 (by kernel_rfl) rfl (aey ..)
theorem qpm(a0 a1):Tg (DD X (n+1)) a0 a1=qex (DD X n) n a0 a1:=sQ hX n Tryz.func182 (by kernel_rfl) rfl (qpk ..)
theorem aeo(a0 a1):q7v (DD X (n+1)) a0 a1=qvz (DD X n) n a0 a1:=sQ hX n Tryz.func183 (by kernel_rfl) rfl (aez ..)
theorem q3r(a0 a1 a2 a3):qz (DD X (n+1)) a0 a1 a2 a3=qjo (DD X n) n a0 a1 a2 a3:=sQ hX n Tryz.func184 (by kernel_rfl) rfl (q3q ..)
theorem q8k(a0 a1 a2):Hg (DD X (n+1)) a0 a1 a2=TP (DD X n) n a0 a1 a2:=sQ hX n Tryz.func186 (by kernel_rfl) rfl (aex ..)
theorem qug(a0 a1 a2 a3 a4):qo (DD X (n+1)) a0 a1 a2 a3 a4=qgn (DD X n) n a0 a1 a2 a3 a4:=sQ hX n Tryz.func187 (by kernel_rfl) rfl (qt1 ..)
theorem qvd(a0 a1 a2):qkn (DD X (n+1)) a0 a1 a2=qgy (DD X n) n a0 a1 a2:=sQ hX n Tryz.func188 (by kernel_rfl) rfl (qvb ..)
theorem agl(a0 a1):xZ (DD X (n+1)) a0 a1=WS (DD X n) n a0 a1:=sQ hX n Tryz.func194 (by kernel_rfl) rfl (afT ..)
theorem qos(a0 a1 a2 a3):qhy (DD X (n+1)) a0 a1 a2 a3=qem (DD X n) n a0 a1 a2 a3:=sQ hX n Tryz.func199 (by kernel_rfl) rfl (qoq ..)
theorem afj(a0):qxh (DD X (n+1)) a0=qxv (DD X n) n a0:=sQ hX n Tryz.func212 (by kernel_rfl) rfl (afc ..)
theorem aeX(a0):TX (DD X (n+1)) a0=qxz (DD X n) n a0:=sQ hX n Tryz.func185 (by kernel_rfl) rfl (afg ..)
theorem adW(a0):q57 (DD X (n+1)) a0=qZ (DD X n) n a0:=sQ hX n Tryz.func198 (by kernel_rfl) rfl (adM ..)
end
end Go.G

import Derived.Test.YtpmimbgkiindbaaGreatAPFnOtherWay0
set_option maxRecDepth 100000
set_option linter.unusedVariables false
set_option linter.unusedSimpArgs false
set_option linter.unusedSectionVars false
open Go.IntKind (wrap)
namespace Go.G
set_option maxHeartbeats 0
open Go Go.V
noncomputable section
def q6g(D:DX)(n:Nat)(a0:aE)(a1:Int)(a2:f9):Option wk:=qd (U9 D a0 a1) fun p0=>let y2:=List.getD p0.2.1.2.2.2.1 p0.1.1.toNat (0,(0,0,0,()),0,0,0,(0,[],()),());let y0:=List.set p0.2.1.2.2.2.1 p0.1.1.toNat (y2.1,y2.2.1,y2.2.2.1,p0.2.1.2.2.1,y2.2.2.2.2);let y1:=List.getD y0 p0.1.1.toNat (0,(0,0,0,()),0,0,0,(0,[],()),());br (decide (p0.1.1<0)) (some ((),p0.2.1,())) (br (decide (0<=p0.1.1)&&decide (p0.1.1<(p0.2.1.2.2.2.1.length:Int))) (qd (Iv D a2) fun p1=>br (decide (0<=p0.1.1)&&decide (p0.1.1<(y0.length:Int))) (br (decide (p0.2.1.2.2.2.2.1.length+1<=f_)) (some ((),(p0.2.1.1,p0.2.1.2.1,p0.2.1.2.2.1,List.set y0 p0.1.1.toNat (y1.1,y1.2.1,y1.2.2.1,y1.2.2.2.1,y1.2.2.2.2.1,(p1.1.1.1,p1.1.1.2.1,()),y1.2.2.2.2.2.2),p0.2.1.2.2.2.2.1++[p0.1.1],p0.2.1.2.2.2.2.2),())) none) none) none)
def qt5(D:DX)(n:Nat)(a0:aE)(a1:Int)(a2:f9):Option wk:=q6g D n a0 a1 a2
theorem aeL(D:DX)(n:Nat)(a0:aE)(a1:Int)(a2:f9):rF D n 158 (a0,(a1,(a2,())))=qt5 D n a0 a1 a2:=by kernel_rfl
def PE(D:DX)(n:Nat)(a0:ak)(a1:List bB):Option aF:=qd (Iy D a0) fun b=>br (!b.1.1) (some ((-1,()),())) (qd (VP D a0 a1) fun b=>some ((b.1.1.2.2.1,()),()))
def FY(D:DX)(n:Nat)(a0:ak)(a1:List bB):Option aF:=PE D n a0 a1
theorem aam(D:DX)(n:Nat)(a0:ak)(a1:List bB):rF D n 159 (a0,(a1,()))=FY D n a0 a1:=by kernel_rfl
def YM(D:DX)(n:Nat)(go:List bB->Int->Int->Int->Int->ak->jk->jk->cT->Option nB)(K0:List bB->ak->jk->jk->Option nB)(x0:List bB)(x1 x2 x3 x4:Int)(x5:ak)(x6 x7:jk)(x8:cT):Option nB:=br (decide (x4<x3)) (br (decide (0<=x4)&&decide (x4<(x8.2.1.length:Int))) (qd (uR D x0 (List.getD x8.2.1 x4.toNat 0)) fun p0=>qd (Zg D x5 (List.getD x8.2.1 x4.toNat 0) p0.1.1 x2 x1) fun p1=>br (decide (x7.2.2.1.length+1<=f_)) (br (decide (x5.1=7)) (br (decide (x7.2.1.2.1.length+1<=f_)) (go x0 x1 x2 x3 (wrap .i64 (x4+1)) x5 x6 (x7.1,(x7.2.1.1,x7.2.1.2.1++[p0.1.1],x7.2.1.2.2),x7.2.2.1++[(List.getD x8.2.1 x4.toNat 0,p0.1.1,p1.1.1,())],x7.2.2.2) x8) none) (go x0 x1 x2 x3 (wrap .i64 (x4+1)) x5 x6 (x7.1,x7.2.1,x7.2.2.1++[(List.getD x8.2.1 x4.toNat 0,p0.1.1,p1.1.1,())],x7.2.2.2) x8)) none) none) (K0 x0 x5 x6 x7)
def JS(D:DX)(n:Nat)(K0:List bB->ak->jk->jk->Option nB):Nat->(List bB)->Int->Int->Int->Int->ak->jk->jk->cT->Option nB | 0=>(fun x0 x1 x2 x3 x4 x5 x6 x7 x8=>none) | m+1=>(fun x0 x1 x2 x3 x4 x5 x6 x7 x8=>YM D n (JS D n K0 m) K0 x0 x1 x2 x3 x4 x5 x6 x7 x8)
def S7(D:DX)(n:Nat)(c:List bB)(b:ak)(d a:jk):Option nB:=br (decide (b.1=10)) (qd (sI D b.2.2.1) fun p1=>qd (uR D c p1.1.1) fun p0=>br (p0.1.1 != 0) (some (((a.1,(0,[wrap .i64 (p0.1.1-1)],()),a.2.2.1,()),true,()),())) (some (((a.1,(3,a.2.1.2.1,()),a.2.2.1,()),true,()),()))) (some (((a.1,(a.2.1.1,a.2.1.2.1,()),a.2.2.1,()),true,()),()))
def qyq(D:DX)(n:Nat):(List bB)->(Int)->(Int)->(Int)->(Int)->ak->jk->jk->cT->Option nB:=(fun x0 x1 x2 x3 x4 x5 x6 x7 x8=>JS D n (fun a b c d=>S7 D n a b c d) n x0 x1 x2 x3 x4 x5 x6 x7 x8)
def ZA(D:DX)(n:Nat)(cC:List bB->Int->Int->Int->Int->ak->jk->jk->cT->Option nB)(a0:ak)(a1:List bB):Option nB:=qd (Iy D a0) fun p9=>br (!p9.1.1) (some (((false,(0,[],()),[],()),false,()),())) (qd (VP D a0 a1) fun p0=>br (decide (p0.1.1.2.2.1>=0)) (some (((false,(0,[],()),[],()),false,()),())) (qd (Zf D a0 a1) fun p2=>br p2.1.2.1 (some (((true,(p2.1.1.1,p2.1.1.2.1,()),[],()),true,()),())) (qd (sH D) fun jO=>qd (uR D a1 jO.1.1) fun p1=>qd (ym D a0.2.1) fun j8=>qd (uR D a1 j8.1.1) fun p5=>br (decide (a0.1=9)) (qd (ym D (wrap .i64 (p1.1.1-1))) fun kX=>qd (uR D a1 kX.1.1) fun p6=>br (bif bif decide (a0.1=1) then true else decide (a0.1=2) then true else decide (a0.1=3)) (qd (VB D a0 a1 p6.1.1 p1.1.1) fun p7=>some (((false,(0,[],()),p7.1.1,()),true,()),())) (qd (Va D p0.1.1.2.1) fun p3=>cC a1 p1.1.1 p6.1.1 (p3.2.1.length:Int) 0 a0 (false,(0,[],()),[],()) (false,(0,[],()),[],()) (p0.1.1.1,p3.2.1,p0.1.1.2.2))) (br (bif bif decide (a0.1=1) then true else decide (a0.1=2) then true else decide (a0.1=3)) (qd (VB D a0 a1 p5.1.1 p1.1.1) fun p8=>some (((false,(0,[],()),p8.1.1,()),true,()),())) (qd (Va D p0.1.1.2.1) fun p4=>cC a1 p1.1.1 p5.1.1 (p4.2.1.length:Int) 0 a0 (false,(0,[],()),[],()) (false,(0,[],()),[],()) (p0.1.1.1,p4.2.1,p0.1.1.2.2))))))
def Zp(D:DX)(n:Nat)(a0:ak)(a1:List bB):Option nB:=ZA D n (qyq D n) a0 a1
def YL(x0:List bB)(x1 x2 x3 x4:Int)(x5:ak)(x6 x7:jk)(x8:cT):St:=bu 154 [(1,AV.val iY x0),(2,AV.addr 2 []),(4,AV.addr 4 []),(9,AV.val ag x1),(11,AV.val ag x2),(13,AV.addr 13 []),(95,AV.b7 26 [ov.snd,ov.fst] 0),(96,AV.val ag x3),(97,AV.val ag x4)] [(2,aB.mk bW Mk.no x5 true),(4,aB.mk rD Af x6 true),(13,aB.mk rD Af x7 true),(26,aB.mk mP oY x8 true)]
def q80(a:List bB)(b:ak)(c d:jk):St:=bu 154 [(1,AV.val iY a),(2,AV.addr 2 []),(4,AV.addr 4 []),(13,AV.addr 13 [])] [(2,aB.mk bW Mk.no b true),(4,aB.mk rD Af c true),(13,aB.mk rD Af d true)]
theorem agk(D:DX)(n:Nat)(K:KT 160):∀(m:Nat)(x0:List bB)(x1 x2 x3 x4:Int)(x5:ak)(x6 x7:jk)(x8:cT),LF D n 160 LR m (YL x0 x1 x2 x3 x4 x5 x6 x7 x8) K=JS D n (fun a b c d=>K (Ex.exit 0) (q80 a b c d)) m x0 x1 x2 x3 x4 x5 x6 x7 x8:=T8 (fun F=>YM D n F (fun a b c d=>K (Ex.exit 0) (q80 a b c d)))
theorem afM(D:DX)(n:Nat)(x0)(x1)(x2)(x3)(x4)(x5)(x6)(x7)(x8):LF D n 160 LR n (YL x0 x1 x2 x3 x4 x5 x6 x7 x8) (CF D n 160 [] LR (lF 160))=qyq D n x0 x1 x2 x3 x4 x5 x6 x7 x8 :=by rw[agk];kernel_rfl
theorem ahL(D:DX)(n:Nat)(a0:ak)(a1:List bB):rF D n 160 (a0,(a1,()))=Zp D n a0 a1:=by
 have h:rF D n 160 (a0,(a1,()))=ZA D n (fun x0 x1 x2 x3 x4 x5 x6 x7 x8=>LF D n 160 LR n (YL x0 x1 x2 x3 x4 x5 x6 x7 x8) (CF D n 160 [] LR (lF 160))) a0 a1:=by kernel_rfl
 rw[h];simp only[afM];rfl
def O8(D:DX)(n:Nat)(a0:aW)(a1:Int)(a2:List ak)(a3:f9):Option tq8:=let y0:=List.getD a0.2.1 a1.toNat (0,0,[],(0,[],()),());qd (JR D a0) fun p0=>qd (Ix D a0) fun p4=>br (!p4.1.1) (some (((p0.1.1.1,p0.1.1.2.1,()),(0,0,0,0,()),false,()),())) (qd (kZ D a1 0 (wrap .i64 ((a0.2.1.length:Int)-1))) fun p5=>br (!p5.1.1) (some (((p0.1.1.1,p0.1.1.2.1,()),(0,0,0,0,()),false,()),())) (qd (qd4 D a0.1 (bf.mk 177 [bD.cj ag a1])) fun p6=>br p6.1.1 (some (((p0.1.1.1,p0.1.1.2.1,()),(0,0,0,0,()),false,()),())) (br (decide (0<=a1)&&decide (a1<(a0.2.1.length:Int))) (qd (JR D a0) fun p1=>qd (UZ D a2) fun p3=>qd (Iv D a3) fun p2=>br (decide (0<=a1)&&decide (a1<(p1.1.1.2.1.length:Int))) (qd (Ix D (p1.1.1.1,List.set p1.1.1.2.1 a1.toNat (wrap .i64 (y0.1+1),1,p3.1.1,(p2.1.1.1,p2.1.1.2.1,()),()),())) fun p7=>br (!p7.1.1) (some (((p0.1.1.1,p0.1.1.2.1,()),(0,0,0,0,()),false,()),())) (some (((p1.1.1.1,List.set p1.1.1.2.1 a1.toNat (wrap .i64 (y0.1+1),1,p3.1.1,(p2.1.1.1,p2.1.1.2.1,()),()),()),(a1,wrap .i64 (y0.1+1),0,0,()),true,()),()))) none) none)))
def ZQ(D:DX)(n:Nat)(a0:aW)(a1:Int)(a2:List ak)(a3:f9):Option tq8:=O8 D n a0 a1 a2 a3
theorem aij(D:DX)(n:Nat)(a0:aW)(a1:Int)(a2:List ak)(a3:f9):rF D n 161 (a0,(a1,(a2,(a3,()))))=ZQ D n a0 a1 a2 a3:=by kernel_rfl
def qez(D:DX)(n:Nat)(a1:bf)(go:List bE->Int->Int->Option aF)(K0:Int->Option aF)(K1:Option aF)(x0:List bE)(x1 x2:Int):Option aF:=br (decide (x2<x1)) (br (decide (0<=x2)&&decide (x2<(x0.length:Int))) (qd (gZ ctx D a1 [bD.val wm (List.getD x0 x2.toNat (0,0,[],(0,[],()),()))] Ty.bool) fun b=>br b (K0 x2) (go x0 x1 (wrap .i64 (x2+1)))) none) K1
def JD(D:DX)(n:Nat)(a1:bf)(K0:Int->Option aF)(K1:Option aF):Nat->(List bE)->Int->Int->Option aF | 0=>(fun x0 x1 x2=>none) | m+1=>(fun x0 x1 x2=>qez D n a1 (JD D n a1 K0 K1 m) K0 K1 x0 x1 x2)
def qd9(D:DX)(n:Nat)(a1:bf)(a:Int):Option aF:=some ((a,()),())
def qea(D:DX)(n:Nat)(a1:bf):Option aF:=some ((-1,()),())
def qep(D:DX)(n:Nat)(a1:bf):(List bE)->(Int)->(Int)->Option aF:=(fun x0 x1 x2=>JD D n a1 (fun a=>qd9 D n a1 a) (qea D n a1) n x0 x1 x2)
def qff(D:DX)(n:Nat)(a1:bf)(cC:List bE->Int->Int->Option aF)(a0:List bE):Option aF:=cC a0 (a0.length:Int) 0
def qfa(D:DX)(n:Nat)(a0:List bE)(a1:bf):Option aF:=qff D n a1 (qep D n a1) a0
def qey(a1:bf)(x0:List bE)(x1 x2:Int):St:=bu 19 [(0,AV.val Co x0),(1,AV.d9 a1),(7,AV.val ag x1),(8,AV.val ag x2)] []
def qhq(a1:bf)(a:Int):St:=bu 19 [(4,AV.val ag a)] []
def qhr(a1:bf):St:=bu 19 [] []
theorem qo3(D:DX)(n:Nat)(a1:bf)(K:KT 162):∀(m:Nat)(x0:List bE)(x1 x2:Int),LF D n 162 eI m (qey a1 x0 x1 x2) K=JD D n a1 (fun a=>K (Ex.ret) (qhq a1 a)) (K (Ex.exit 0) (qhr a1)) m x0 x1 x2:=oP (fun F=>qez D n a1 F (fun a=>K (Ex.ret) (qhq a1 a)) (K (Ex.exit 0) (qhr a1)))
theorem qoh(D:DX)(n:Nat)(a1:bf)(x0)(x1)(x2):LF D n 162 eI n (qey a1 x0 x1 x2) (CF D n 162 [] eI (lF 162))=qep D n a1 x0 x1 x2 :=by rw[qo3];kernel_rfl
theorem qqc(D:DX)(n:Nat)(a0:List bE)(a1:bf):rF D n 162 (a0,(a1,()))=qfa D n a0 a1:=by
 have h:rF D n 162 (a0,(a1,()))=qff D n a1 (fun x0 x1 x2=>LF D n 162 eI n (qey a1 x0 x1 x2) (CF D n 162 [] eI (lF 162))) a0:=by kernel_rfl
 rw[h];simp only[qoh];rfl
def qf7(D:DX)(n:Nat)(a1:bf)(go:List ak->Int->Int->Option aF)(K0:Int->Option aF)(K1:Option aF)(x0:List ak)(x1 x2:Int):Option aF:=br (decide (x2<x1)) (br (decide (0<=x2)&&decide (x2<(x0.length:Int))) (qd (gZ ctx D a1 [bD.val bW (List.getD x0 x2.toNat (0,0,0,()))] Ty.bool) fun b=>br b (K0 x2) (go x0 x1 (wrap .i64 (x2+1)))) none) K1
def JH(D:DX)(n:Nat)(a1:bf)(K0:Int->Option aF)(K1:Option aF):Nat->(List ak)->Int->Int->Option aF | 0=>(fun x0 x1 x2=>none) | m+1=>(fun x0 x1 x2=>qf7 D n a1 (JH D n a1 K0 K1 m) K0 K1 x0 x1 x2)
def qfp(D:DX)(n:Nat)(a1:bf)(a:Int):Option aF:=some ((a,()),())
def qfq(D:DX)(n:Nat)(a1:bf):Option aF:=some ((-1,()),())
def qfz(D:DX)(n:Nat)(a1:bf):(List ak)->(Int)->(Int)->Option aF:=(fun x0 x1 x2=>JH D n a1 (fun a=>qfp D n a1 a) (qfq D n a1) n x0 x1 x2)
def qgp(D:DX)(n:Nat)(a1:bf)(cC:List ak->Int->Int->Option aF)(a0:List ak):Option aF:=cC a0 (a0.length:Int) 0
def qgm(D:DX)(n:Nat)(a0:List ak)(a1:bf):Option aF:=qgp D n a1 (qfz D n a1) a0
def qf6(a1:bf)(x0:List ak)(x1 x2:Int):St:=bu 19 [(0,AV.val bQ x0),(1,AV.d9 a1),(7,AV.val ag x1),(8,AV.val ag x2)] []
def qi9(a1:bf)(a:Int):St:=bu 19 [(4,AV.val ag a)] []
def qja(a1:bf):St:=bu 19 [] []
theorem qsp(D:DX)(n:Nat)(a1:bf)(K:KT 163):∀(m:Nat)(x0:List ak)(x1 x2:Int),LF D n 163 eI m (qf6 a1 x0 x1 x2) K=JH D n a1 (fun a=>K (Ex.ret) (qi9 a1 a)) (K (Ex.exit 0) (qja a1)) m x0 x1 x2:=oP (fun F=>qf7 D n a1 F (fun a=>K (Ex.ret) (qi9 a1 a)) (K (Ex.exit 0) (qja a1)))
theorem qrk(D:DX)(n:Nat)(a1:bf)(x0)(x1)(x2):LF D n 163 eI n (qf6 a1 x0 x1 x2) (CF D n 163 [] eI (lF 163))=qfz D n a1 x0 x1 x2 :=by rw[qsp];kernel_rfl
theorem qt0(D:DX)(n:Nat)(a0:List ak)(a1:bf):rF D n 163 (a0,(a1,()))=qgm D n a0 a1:=by
 have h:rF D n 163 (a0,(a1,()))=qgp D n a1 (fun x0 x1 x2=>LF D n 163 eI n (qf6 a1 x0 x1 x2) (CF D n 163 [] eI (lF 163))) a0:=by kernel_rfl
 rw[h];simp only[qrk];rfl
def qe3(D:DX)(n:Nat)(a1:bf)(go:List bB->Int->Int->Option aF)(K0:Int->Option aF)(K1:Option aF)(x0:List bB)(x1 x2:Int):Option aF:=br (decide (x2<x1)) (br (decide (0<=x2)&&decide (x2<(x0.length:Int))) (qd (gZ ctx D a1 [bD.val sW (List.getD x0 x2.toNat (0,0,()))] Ty.bool) fun b=>br b (K0 x2) (go x0 x1 (wrap .i64 (x2+1)))) none) K1
def JF(D:DX)(n:Nat)(a1:bf)(K0:Int->Option aF)(K1:Option aF):Nat->(List bB)->Int->Int->Option aF | 0=>(fun x0 x1 x2=>none) | m+1=>(fun x0 x1 x2=>qe3 D n a1 (JF D n a1 K0 K1 m) K0 K1 x0 x1 x2)
def qed(D:DX)(n:Nat)(a1:bf)(a:Int):Option aF:=some ((a,()),())
def qee(D:DX)(n:Nat)(a1:bf):Option aF:=some ((-1,()),())
def qer(D:DX)(n:Nat)(a1:bf):(List bB)->(Int)->(Int)->Option aF:=(fun x0 x1 x2=>JF D n a1 (fun a=>qed D n a1 a) (qee D n a1) n x0 x1 x2)
def qfh(D:DX)(n:Nat)(a1:bf)(cC:List bB->Int->Int->Option aF)(a0:List bB):Option aF:=cC a0 (a0.length:Int) 0
def qfc(D:DX)(n:Nat)(a0:List bB)(a1:bf):Option aF:=qfh D n a1 (qer D n a1) a0
def qe2(a1:bf)(x0:List bB)(x1 x2:Int):St:=bu 19 [(0,AV.val iY x0),(1,AV.d9 a1),(7,AV.val ag x1),(8,AV.val ag x2)] []
def qhu(a1:bf)(a:Int):St:=bu 19 [(4,AV.val ag a)] []
def qhv(a1:bf):St:=bu 19 [] []
theorem qo5(D:DX)(n:Nat)(a1:bf)(K:KT 164):∀(m:Nat)(x0:List bB)(x1 x2:Int),LF D n 164 eI m (qe2 a1 x0 x1 x2) K=JF D n a1 (fun a=>K (Ex.ret) (qhu a1 a)) (K (Ex.exit 0) (qhv a1)) m x0 x1 x2:=oP (fun F=>qe3 D n a1 F (fun a=>K (Ex.ret) (qhu a1 a)) (K (Ex.exit 0) (qhv a1)))
theorem qoj(D:DX)(n:Nat)(a1:bf)(x0)(x1)(x2):LF D n 164 eI n (qe2 a1 x0 x1 x2) (CF D n 164 [] eI (lF 164))=qer D n a1 x0 x1 x2 :=by rw[qo5];kernel_rfl
theorem qqe(D:DX)(n:Nat)(a0:List bB)(a1:bf):rF D n 164 (a0,(a1,()))=qfc D n a0 a1:=by
 have h:rF D n 164 (a0,(a1,()))=qfh D n a1 (fun x0 x1 x2=>LF D n 164 eI n (qe2 a1 x0 x1 x2) (CF D n 164 [] eI (lF 164))) a0:=by kernel_rfl
 rw[h];simp only[qoj];rfl
def qe1(D:DX)(n:Nat)(a1:bf)(go:List cA->Int->Int->Option aF)(K0:Int->Option aF)(K1:Option aF)(x0:List cA)(x1 x2:Int):Option aF:=br (decide (x2<x1)) (br (decide (0<=x2)&&decide (x2<(x0.length:Int))) (qd (gZ ctx D a1 [bD.val iL (List.getD x0 x2.toNat (0,0,0,0,()))] Ty.bool) fun b=>br b (K0 x2) (go x0 x1 (wrap .i64 (x2+1)))) none) K1
def JE(D:DX)(n:Nat)(a1:bf)(K0:Int->Option aF)(K1:Option aF):Nat->(List cA)->Int->Int->Option aF | 0=>(fun x0 x1 x2=>none) | m+1=>(fun x0 x1 x2=>qe1 D n a1 (JE D n a1 K0 K1 m) K0 K1 x0 x1 x2)
def qeb(D:DX)(n:Nat)(a1:bf)(a:Int):Option aF:=some ((a,()),())
def qec(D:DX)(n:Nat)(a1:bf):Option aF:=some ((-1,()),())
def qeq(D:DX)(n:Nat)(a1:bf):(List cA)->(Int)->(Int)->Option aF:=(fun x0 x1 x2=>JE D n a1 (fun a=>qeb D n a1 a) (qec D n a1) n x0 x1 x2)
def qfg(D:DX)(n:Nat)(a1:bf)(cC:List cA->Int->Int->Option aF)(a0:List cA):Option aF:=cC a0 (a0.length:Int) 0
def qfb(D:DX)(n:Nat)(a0:List cA)(a1:bf):Option aF:=qfg D n a1 (qeq D n a1) a0
def qe0(a1:bf)(x0:List cA)(x1 x2:Int):St:=bu 19 [(0,AV.val rE x0),(1,AV.d9 a1),(7,AV.val ag x1),(8,AV.val ag x2)] []
def qhs(a1:bf)(a:Int):St:=bu 19 [(4,AV.val ag a)] []
def qht(a1:bf):St:=bu 19 [] []
theorem qo4(D:DX)(n:Nat)(a1:bf)(K:KT 165):∀(m:Nat)(x0:List cA)(x1 x2:Int),LF D n 165 eI m (qe0 a1 x0 x1 x2) K=JE D n a1 (fun a=>K (Ex.ret) (qhs a1 a)) (K (Ex.exit 0) (qht a1)) m x0 x1 x2:=oP (fun F=>qe1 D n a1 F (fun a=>K (Ex.ret) (qhs a1 a)) (K (Ex.exit 0) (qht a1)))
theorem qoi(D:DX)(n:Nat)(a1:bf)(x0)(x1)(x2):LF D n 165 eI n (qe0 a1 x0 x1 x2) (CF D n 165 [] eI (lF 165))=qeq D n a1 x0 x1 x2 :=by rw[qo4];kernel_rfl
theorem qqd(D:DX)(n:Nat)(a0:List cA)(a1:bf):rF D n 165 (a0,(a1,()))=qfb D n a0 a1:=by
 have h:rF D n 165 (a0,(a1,()))=qfg D n a1 (fun x0 x1 x2=>LF D n 165 eI n (qe0 a1 x0 x1 x2) (CF D n 165 [] eI (lF 165))) a0:=by kernel_rfl
 rw[h];simp only[qoi];rfl
def Po(D:DX)(n:Nat)(a0:Int):Option ah:=qd (lU D a0 0 3) fun b=>some ((b.1.1,()),())
def Z7(D:DX)(n:Nat)(a0:Int):Option ah:=Po D n a0
theorem aiJ(D:DX)(n:Nat)(a0:Int):rF D n 166 (a0,())=Z7 D n a0:=by kernel_rfl
def OQ(D:DX)(n:Nat)(a0:Int):Option aF:=qd (C5 D a0) fun b=>br (!b.1.1) (some ((-1,()),())) (some ((Int.tmod a0 3,()),()))
def Yt(D:DX)(n:Nat)(a0:Int):Option aF:=OQ D n a0
theorem agE(D:DX)(n:Nat)(a0:Int):rF D n 167 (a0,())=Yt D n a0:=by kernel_rfl
def Qi(D:DX)(n:Nat)(a0:aW)(a1:cA):Option tq7:=let y1:=List.getD a0.2.1 a1.1.toNat (0,0,[],(0,[],()),());let y0:=List.getD y1.2.2.1 a1.2.2.1.toNat (0,0,0,());let y2:=List.getD a0.1 (Int.toNat y0.1) (0,0,0,());br (decide (0<=a1.1)&&decide (a1.1<(a0.2.1.length:Int))) (br (decide (a1.2.2.1>=(y1.2.2.1.length:Int))) (some ((a1,(0,0,0,0,()),3,()),(a0.1,List.set a0.2.1 a1.1.toNat (y1.1,2,y1.2.2),a0.2.2),())) (br (decide (0<=a1.2.2.1)&&decide (a1.2.2.1<(y1.2.2.1.length:Int))) (br (decide (0<=y0.1)&&decide (y0.1<(a0.1.length:Int))) (br (pP bW y2 (0,wrap .i64 (a1.1+1),a1.2.1,())) (some (((a1.1,a1.2.1,wrap .i64 (a1.2.2.1+1),a1.2.2.2),(0,0,0,0,()),0,()),a0,())) (br (y2.2.1 != 0) (some ((a1,(wrap .i64 (y2.2.1-1),y2.2.2.1,0,0,()),1,()),a0,())) (br (decide (y2.1=y0.2.1)) (some (((a1.1,a1.2.1,wrap .i64 (a1.2.2.1+1),a1.2.2.2),(0,0,0,0,()),0,()),(List.set a0.1 (Int.toNat y0.1) (0,wrap .i64 (a1.1+1),a1.2.1,()),a0.2),())) (some ((a1,(0,0,0,0,()),0,()),(a0.1,List.set a0.2.1 a1.1.toNat (y1.1,3,y1.2.2),a0.2.2),()))))) none) none)) none
def Gg(D:DX)(n:Nat)(a0:aW)(a1:cA):Option tq7:=Qi D n a0 a1
theorem aa0(D:DX)(n:Nat)(a0:aW)(a1:cA):rF D n 168 (a0,(a1,()))=Gg D n a0 a1:=by kernel_rfl
def U7(D:DX)(n:Nat)(go:Int->Int->aE->Option tR)(K0:Int->aE->Option tR)(K1:aE->Option tR)(x0 x1:Int)(x2:aE):Option tR:=let y0:=List.getD x2.2.2.2.1 x1.toNat (0,(0,0,0,()),0,0,0,(0,[],()),());br (decide (x1>=0)) (br (decide (0<=x1)&&decide (x1<(x2.2.2.2.1.length:Int))) (br (decide (y0.1=x0)) (br (decide (0<=x1)&&decide (x1<(x2.2.2.2.1.length:Int))) (br (decide (y0.2.2.2.2.1<0)) (K0 x1 x2) (go x0 (wrap .i64 (x1-1)) x2)) none) (go x0 (wrap .i64 (x1-1)) x2)) none) (K1 x2)
def JJ(D:DX)(n:Nat)(K0:Int->aE->Option tR)(K1:aE->Option tR):Nat->Int->Int->aE->Option tR | 0=>(fun x0 x1 x2=>none) | m+1=>(fun x0 x1 x2=>U7 D n (JJ D n K0 K1 m) K0 K1 x0 x1 x2)
def q5e(D:DX)(n:Nat)(a:Int)(b:aE):Option tR:=some ((a,()),b,())
def q5f(D:DX)(n:Nat)(a:aE):Option tR:=some ((-1,()),a,())
def qkk(D:DX)(n:Nat):(Int)->(Int)->aE->Option tR:=(fun x0 x1 x2=>JJ D n (fun a b=>q5e D n a b) (fun c=>q5f D n c) n x0 x1 x2)
def qln(D:DX)(n:Nat)(cC:Int->Int->aE->Option tR)(a0:aE)(a1:Int):Option tR:=cC a1 (wrap .i64 ((a0.2.2.2.1.length:Int)-1)) a0
def qlm(D:DX)(n:Nat)(a0:aE)(a1:Int):Option tR:=qln D n (qkk D n) a0 a1
def qlb(x0 x1:Int)(x2:aE):St:=bu 38 [(0,AV.addr 0 []),(1,AV.val ag x0),(5,AV.val ag x1)] [(0,aB.mk cU Ae x2 true)]
def qpr(a:Int)(b:aE):St:=bu 38 [(0,AV.addr 0 []),(4,AV.val ag a)] [(0,aB.mk cU Ae b true)]
def qps(a:aE):St:=bu 38 [(0,AV.addr 0 [])] [(0,aB.mk cU Ae a true)]
theorem q7a(D:DX)(n:Nat)(K:KT 169):∀(m:Nat)(x0 x1:Int)(x2:aE),LF D n 169 eI m (qlb x0 x1 x2) K=JJ D n (fun a b=>K (Ex.ret) (qpr a b)) (fun c=>K (Ex.exit 0) (qps c)) m x0 x1 x2:=oP (fun F=>U7 D n F (fun a b=>K (Ex.ret) (qpr a b)) (fun c=>K (Ex.exit 0) (qps c)))
theorem q5d(D:DX)(n:Nat)(x0)(x1)(x2):LF D n 169 eI n (qlb x0 x1 x2) (CF D n 169 [] eI (lF 169))=qkk D n x0 x1 x2 :=by rw[q7a];kernel_rfl
theorem adq(D:DX)(n:Nat)(a0:aE)(a1:Int):rF D n 169 (a0,(a1,()))=qlm D n a0 a1:=by
 have h:rF D n 169 (a0,(a1,()))=qln D n (fun x0 x1 x2=>LF D n 169 eI n (qlb x0 x1 x2) (CF D n 169 [] eI (lF 169))) a0 a1:=by kernel_rfl
 rw[h];simp only[q5d];rfl
def Ts(D:DX)(n:Nat)(go:Int->cT->Option lY)(K0:cT->Option lY)(x0:Int)(x1:cT):Option lY:=br (decide (x0<4)) (qd (ym D x0) fun b=>qd (qy D x1 b.1.1) fun b=>go (wrap .i64 (x0+1)) b.2.1) (K0 x1)
def C4(D:DX)(n:Nat)(K0:cT->Option lY):Nat->Int->cT->Option lY | 0=>(fun x0 x1=>none) | m+1=>(fun x0 x1=>Ts D n (C4 D n K0 m) K0 x0 x1)
def On(D:DX)(n:Nat)(a:cT):Option lY:=some ((a,()),())
def YQ(D:DX)(n:Nat):(Int)->cT->Option lY:=(fun x0 x1=>C4 D n (fun a=>On D n a) n x0 x1)
def q9a(D:DX)(n:Nat)(cC:Int->cT->Option lY)(a0:ak)(a1:List bB):Option lY:=let y0:Option lY:=(br (decide (a0.1=4)) (qd (ym D a0.2.1) fun nZ=>qd (qy D (a1,[],-1,false,()) nZ.1.1) fun n4=>some ((n4.2.1,()),())) (br (decide (a0.1=5)) (qd (vN D a0.2.2.1) fun xp=>qd (qy D (a1,[],-1,false,()) xp.1.1) fun xq=>some ((xq.2.1,()),())) (br (decide (a0.1=6)) (qd (yl D a0.2.1) fun xu=>qd (qy D (a1,[],-1,false,()) xu.1.1) fun xw=>some ((xw.2.1,()),())) (br (decide (a0.1=7)) (cC 0 (a1,[],-1,false,())) (br (decide (a0.1=8)) (qd (sH D) fun xx=>qd (qy D (a1,[],-1,false,()) xx.1.1) fun Ai=>some ((Ai.2.1,()),())) (br (decide (a0.1=9)) (qd (sH D) fun p3=>qd (qy D (a1,[],-1,false,()) p3.1.1) fun p0=>qd (tD D p0.2.1 (bif decide (p0.1.1<1) then true else decide (p0.1.1>4))) fun p4=>qd (ym D (wrap .i64 (p0.1.1-1))) fun p5=>qd (qy D p4.2.1 p5.1.1) fun p1=>qd (BT D p1.1.1) fun p6=>qd (tD D p1.2.1 !p6.1.1) fun p7=>qd (sI D p1.1.1) fun p8=>qd (qy D p7.2.1 p8.1.1) fun p9=>some ((p9.2.1,()),())) (br (decide (a0.1=10)) (qd (sH D) fun jO=>qd (qy D (a1,[],-1,false,()) jO.1.1) fun p2=>qd (tD D p2.2.1 (p2.1.1 != 5)) fun kX=>qd (sI D a0.2.2.1) fun nq=>qd (qy D kX.2.1 nq.1.1) fun nr=>some ((nr.2.1,()),())) (some (((a1,[],-1,false,()),()),())))))))));let y1:Option lY:=(qd (SL D (a1,[],-1,false,()) a0) fun j8=>some ((j8.2.1,()),()));br (decide (a0.1=1)) (br (decide (a0.1=1)) y1 y0) (br (decide (a0.1=2)) (br (decide (a0.1=2)) y1 y0) (br (decide (a0.1=3)) y1 y0))
def Z5(D:DX)(n:Nat)(a0:ak)(a1:List bB):Option lY:=q9a D n (YQ D n) a0 a1
def ZE(x0:Int)(x1:cT):St:=bu 100 [(5,AV.addr 12 []),(45,AV.val ag x0)] [(12,aB.mk mP oY x1 true)]
def Om(a:cT):St:=bu 100 [(5,AV.addr 12 [])] [(12,aB.mk mP oY a true)]
theorem ahD(D:DX)(n:Nat)(K:KT 170):∀(m:Nat)(x0:Int)(x1:cT),LF D n 170 LP m (ZE x0 x1) K=C4 D n (fun a=>K (Ex.exit 1) (Om a)) m x0 x1:=Dw (fun F=>Ts D n F (fun a=>K (Ex.exit 1) (Om a)))
theorem agm(D:DX)(n:Nat)(x0)(x1):LF D n 170 LP n (ZE x0 x1) (CF D n 170 [] LP (lF 170))=YQ D n x0 x1 :=by rw[ahD];kernel_rfl
theorem aiH(D:DX)(n:Nat)(a0:ak)(a1:List bB):rF D n 170 (a0,(a1,()))=Z5 D n a0 a1:=by
 have h:rF D n 170 (a0,(a1,()))=q9a D n (fun x0 x1=>LF D n 170 LP n (ZE x0 x1) (CF D n 170 [] LP (lF 170))) a0 a1:=by kernel_rfl
 rw[h];simp only[agm];rfl
def O0(D:DX)(n:Nat)(a0:ak)(a1:List bB):Option ((f9×iW)×Unit):=qd (ym D a0.2.1) fun p3=>qd (uR D a1 p3.1.1) fun p1=>qd (vN D a0.2.2.1) fun p4=>qd (uR D a1 p4.1.1) fun p2=>qd (sH D) fun p5=>qd (uR D a1 p5.1.1) fun p0=>br (bif decide (a0.1=1) then p1.1.1 != 0 else false) (some (((1,[],()),true,()),())) (br (bif decide (a0.1=1) then p2.1.1 != 0 else false) (some (((2,[],()),true,()),())) (br (bif bif bif decide (a0.1=2) then true else decide (a0.1=3) then true else decide (a0.1=4) then decide (p1.1.1=0) else false) (some (((3,[],()),true,()),())) (br (bif decide (a0.1=2) then decide (p1.1.1=a0.2.2.1) else false) (some (((0,[],()),true,()),())) (br (bif decide (a0.1=2) then p2.1.1 != 0 else false) (some (((2,[],()),true,()),())) (br (decide (a0.1=4)) (some (((0,[p1.1.1],()),true,()),())) (br (bif decide (a0.1=5) then decide (p2.1.1=0) else false) (some (((3,[],()),true,()),())) (br (decide (a0.1=5)) (some (((0,[wrap .i64 (p2.1.1-1)],()),true,()),())) (br (decide (a0.1=6)) (qd (yl D a0.2.1) fun p6=>qd (uR D a1 p6.1.1) fun p7=>some (((0,[p7.1.1],()),true,()),())) (br (bif decide (a0.1=8) then p0.1.1 != 0 else false) (br (bif decide (a0.1=8) then p0.1.1 != 0 else false) (some (((4,[],()),true,()),())) (some (((0,[],()),false,()),()))) (br (bif decide (a0.1=9) then bif decide (p0.1.1<1) then true else decide (p0.1.1>4) else false) (br (bif decide (a0.1=9) then bif decide (p0.1.1<1) then true else decide (p0.1.1>4) else false) (some (((4,[],()),true,()),())) (some (((0,[],()),false,()),()))) (br (bif decide (a0.1=10) then p0.1.1 != 5 else false) (some (((4,[],()),true,()),())) (some (((0,[],()),false,()),())))))))))))))
def Y2(D:DX)(n:Nat)(a0:ak)(a1:List bB):Option ((f9×iW)×Unit):=O0 D n a0 a1
theorem ahX(D:DX)(n:Nat)(a0:ak)(a1:List bB):rF D n 171 (a0,(a1,()))=Y2 D n a0 a1:=by kernel_rfl
def Z3(D:DX)(n:Nat)(go:List bB->Int->Int->Option gN)(K0:Int->Bool->Option gN)(K1:Option gN)(x0:List bB)(x1 x2:Int):Option gN:=br (decide (x2>=0)) (br (decide (0<=x2)&&decide (x2<(x0.length:Int))) (br (decide ((List.getD x0 x2.toNat (0,0,())).1=x1)) (br (decide (0<=x2)&&decide (x2<(x0.length:Int))) (K0 (List.getD x0 x2.toNat (0,0,())).2.1 true) none) (go x0 x1 (wrap .i64 (x2-1)))) none) K1
def TD(D:DX)(n:Nat)(K0:Int->Bool->Option gN)(K1:Option gN):Nat->(List bB)->Int->Int->Option gN | 0=>(fun x0 x1 x2=>none) | m+1=>(fun x0 x1 x2=>Z3 D n (TD D n K0 K1 m) K0 K1 x0 x1 x2)
def OC(D:DX)(n:Nat)(a:Int)(b:Bool):Option gN:=some ((a,b,()),())
def OD(D:DX)(n:Nat):Option gN:=some ((0,false,()),())
def ZC(D:DX)(n:Nat):(List bB)->(Int)->(Int)->Option gN:=(fun x0 x1 x2=>TD D n (fun a b=>OC D n a b) (OD D n) n x0 x1 x2)
def F_(D:DX)(n:Nat)(cC:List bB->Int->Int->Option gN)(a0:List bB)(a1:Int):Option gN:=cC a0 a1 (wrap .i64 ((a0.length:Int)-1))
def F6(D:DX)(n:Nat)(a0:List bB)(a1:Int):Option gN:=F_ D n (ZC D n) a0 a1
def Z2(x0:List bB)(x1 x2:Int):St:=bu 26 [(0,AV.val iY x0),(1,AV.val ag x1),(6,AV.val ag x2)] []
def OA(a:Int)(b:Bool):St:=bu 26 [(4,AV.val ag a),(5,AV.val Ty.bool b)] []
def OB:St:=bu 26 [] []
theorem aip(D:DX)(n:Nat)(K:KT 172):∀(m:Nat)(x0:List bB)(x1 x2:Int),LF D n 172 eI m (Z2 x0 x1 x2) K=TD D n (fun a b=>K (Ex.ret) (OA a b)) (K (Ex.exit 0) (OB)) m x0 x1 x2:=oP (fun F=>Z3 D n F (fun a b=>K (Ex.ret) (OA a b)) (K (Ex.exit 0) (OB)))
theorem ahC(D:DX)(n:Nat)(x0)(x1)(x2):LF D n 172 eI n (Z2 x0 x1 x2) (CF D n 172 [] eI (lF 172))=ZC D n x0 x1 x2 :=by rw[aip];kernel_rfl
theorem aad(D:DX)(n:Nat)(a0:List bB)(a1:Int):rF D n 172 (a0,(a1,()))=F6 D n a0 a1:=by
 have h:rF D n 172 (a0,(a1,()))=F_ D n (fun x0 x1 x2=>LF D n 172 eI n (Z2 x0 x1 x2) (CF D n 172 [] eI (lF 172))) a0 a1:=by kernel_rfl
 rw[h];simp only[ahC];rfl
def Pa(D:DX)(n:Nat)(a0:Int):Option aF:=qd (Tz D a0) fun b=>qd (JT D b.1.1 a0) fun b=>some ((b.1.1,()),())
def ZV(D:DX)(n:Nat)(a0:Int):Option aF:=Pa D n a0
theorem aiE(D:DX)(n:Nat)(a0:Int):rF D n 173 (a0,())=ZV D n a0:=by kernel_rfl
def OM(D:DX)(n:Nat)(a0:ak)(a1:List bB)(a2 a3:Int):Option mM:=qd (ym D a0.2.1) fun jO=>qd (vL D jO.1.1 a0.2.2.1 0 a1 []) fun nr=>qd (sH D) fun nZ=>qd (vL D nZ.1.1 a3 0 a1 nr.2.1) fun n4=>qd (vN D a2) fun xp=>qd (vL D xp.1.1 0 0 a1 n4.2.1) fun xq=>qd (sI D a2) fun xu=>qd (vL D xu.1.1 0 0 a1 xq.2.1) fun xw=>qd (vN D a0.2.2.1) fun xx=>qd (vL D xx.1.1 (wrap .i64 (a0.2.1+1)) 0 a1 xw.2.1) fun p1=>qd (sI D a0.2.2.1) fun p2=>qd (vL D p2.1.1 (wrap .i64 (a0.2.1+1)) 0 a1 p1.2.1) fun p0=>qd (uQ D a2) fun p3=>qd (uQ D a0.2.2.1) fun p4=>br (p3.1.1 != p4.1.1) (qd (uQ D a2) fun p5=>qd (yl D p5.1.1) fun p6=>qd (vL D p6.1.1 0 (-1) a1 p0.2.1) fun p7=>qd (uQ D a0.2.2.1) fun p8=>qd (yl D p8.1.1) fun p9=>qd (vL D p9.1.1 0 1 a1 p7.2.1) fun j8=>qd (UY D j8.2.1 (bf.mk 183 [])) fun kX=>some ((kX.2.1,()),())) (qd (UY D p0.2.1 (bf.mk 183 [])) fun nq=>some ((nq.2.1,()),()))
def Yn(D:DX)(n:Nat)(a0:ak)(a1:List bB)(a2 a3:Int):Option mM:=OM D n a0 a1 a2 a3
theorem agT(D:DX)(n:Nat)(a0:ak)(a1:List bB)(a2 a3:Int):rF D n 174 (a0,(a1,(a2,(a3,()))))=Yn D n a0 a1 a2 a3:=by kernel_rfl
def qxd(D:DX)(n:Nat)(a0:List Int):Option cP:=qd (Vx D (wrap .u64 (a0.length:Int))) fun b=>qd (qz D a0 0 (a0.length:Int) b.1.1) fun b=>some ((),b.2.1,())
def qnj(D:DX)(n:Nat)(a0:List Int):Option cP:=qxd D n a0
theorem adB(D:DX)(n:Nat)(a0:List Int):rF D n 175 (a0,())=qnj D n a0:=by kernel_rfl
def O1(D:DX)(n:Nat)(a0:ak)(a1 a2 a3 a4:Int):Option aF:=br (decide (a0.1=8)) (some ((wrap .i64 (a2+1),()),())) (br (decide (a0.1=9)) (qd (sH D) fun p0=>br (decide (a1=p0.1.1)) (some ((wrap .i64 (a2+1),()),())) (qd (sI D a3) fun p1=>br (decide (a1=p1.1.1)) (some ((a4,()),())) (some ((a2,()),())))) (some ((a2,()),())))
def Y3(D:DX)(n:Nat)(a0:ak)(a1 a2 a3 a4:Int):Option aF:=O1 D n a0 a1 a2 a3 a4
theorem ahY(D:DX)(n:Nat)(a0:ak)(a1 a2 a3 a4:Int):rF D n 176 (a0,(a1,(a2,(a3,(a4,())))))=Y3 D n a0 a1 a2 a3 a4:=by kernel_rfl
def OJ(D:DX)(n:Nat)(a0:ak)(a1:Int):Option ah:=some ((decide (a0.2.1=wrap .i64 (a1+1)),()),())
def Ye(D:DX)(n:Nat)(a0:ak)(a1:Int):Option ah:=OJ D n a0 a1
theorem agI(D:DX)(n:Nat)(a0:ak)(a1:Int):rF D n 177 (a0,(a1,()))=Ye D n a0 a1:=by kernel_rfl
def Vf(D:DX)(n:Nat)(a0:cT)(a1:ak):Option jv:=qd (ym D a1.2.1) fun kX=>qd (qy D a0 kX.1.1) fun p0=>br (decide (a1.1=1)) (qd (tD D p0.2.1 (p0.1.1 != 0)) fun LH=>qd (vN D a1.2.2.1) fun LI=>qd (qy D LH.2.1 LI.1.1) fun p3=>qd (tD D p3.2.1 (p3.1.1 != 0)) fun LJ=>qd (uQ D a1.2.2.1) fun LM=>qd (yl D LM.1.1) fun LN=>qd (qy D LJ.2.1 LN.1.1) fun LO=>qd (Ir D LO.2.1 a1.2.1 [a1.2.2.1]) fun p4=>some ((),p4.2.1,())) (br (decide (a1.1=2)) (qd (tD D p0.2.1 (bif decide (p0.1.1=0) then true else decide (p0.1.1=a1.2.2.1))) fun p5=>qd (vN D a1.2.2.1) fun p6=>qd (qy D p5.2.1 p6.1.1) fun p1=>qd (tD D p1.2.1 (p1.1.1 != 0)) fun p7=>qd (vN D p0.1.1) fun p8=>qd (qy D p7.2.1 p8.1.1) fun p2=>qd (uQ D p0.1.1) fun p9=>qd (uQ D a1.2.2.1) fun jO=>br (p9.1.1 != jO.1.1) (qd (uQ D p0.1.1) fun j8=>qd (yl D j8.1.1) fun nq=>qd (qy D p2.2.1 nq.1.1) fun nr=>qd (uQ D a1.2.2.1) fun nZ=>qd (yl D nZ.1.1) fun n4=>qd (qy D nr.2.1 n4.1.1) fun xp=>qd (Ir D xp.2.1 a1.2.1 [p0.1.1,a1.2.2.1]) fun xq=>some ((),xq.2.1,())) (qd (Ir D p2.2.1 a1.2.1 [p0.1.1,a1.2.2.1]) fun xu=>some ((),xu.2.1,()))) (qd (tD D p0.2.1 (decide (p0.1.1=0))) fun xw=>qd (vN D p0.1.1) fun xx=>qd (qy D xw.2.1 xx.1.1) fun Ai=>qd (uQ D p0.1.1) fun Ei=>qd (yl D Ei.1.1) fun Ej=>qd (qy D Ai.2.1 Ej.1.1) fun LC=>qd (Ir D LC.2.1 a1.2.1 [p0.1.1]) fun LD=>some ((),LD.2.1,())))
def SM(D:DX)(n:Nat)(a0:cT)(a1:ak):Option jv:=Vf D n a0 a1
theorem ad3(D:DX)(n:Nat)(a0:cT)(a1:ak):rF D n 178 (a0,(a1,()))=SM D n a0 a1:=by kernel_rfl
def Vq(D:DX)(n:Nat)(a0:cT)(a1:Int):Option ((Int×Unit)×yQ):=br a0.2.2.2.1 (some ((0,()),a0,())) (qd (uR D a0.1 a1) fun b=>br (bif decide (a1<0) then true else !b.1.2.1) (some ((0,()),(a0.1,a0.2.1,a1,true,a0.2.2.2.2),())) (br (decide (a0.2.1.length+1<=f_)) (some ((b.1.1,()),(a0.1,a0.2.1++[a1],a0.2.2),())) none))
def SX(D:DX)(n:Nat)(a0:cT)(a1:Int):Option ((Int×Unit)×yQ):=Vq D n a0 a1
theorem afv(D:DX)(n:Nat)(a0:cT)(a1:Int):rF D n 179 (a0,(a1,()))=SX D n a0 a1:=by kernel_rfl
def aeE(D:DX)(n:Nat)(a0:cT)(a1:Bool):Option jv:=some ((),(a0.1,a0.2.1,a0.2.2.1,bif a0.2.2.2.1 then true else a1,a0.2.2.2.2),())
def q58(D:DX)(n:Nat)(a0:cT)(a1:Bool):Option jv:=aeE D n a0 a1
theorem aeQ(D:DX)(n:Nat)(a0:cT)(a1:Bool):rF D n 180 (a0,(a1,()))=q58 D n a0 a1:=by kernel_rfl
def Vs(D:DX)(n:Nat)(a0 a1 a2:Int)(a3:List bB)(a4:List ak):Option cz:=qd (uR D a3 a0) fun p0=>br (bif decide (a0<0) then true else !p0.1.2.1) (some ((),a4,())) (br (decide (a2=1)) (br (decide (a4.length+1<=f_)) (some ((),a4++[(a0,p0.1.1,wrap .i64 (p0.1.1+1),())],())) none) (br (decide (a2 = -1)) (br (decide (a4.length+1<=f_)) (some ((),a4++[(a0,p0.1.1,if wrap .i64 (p0.1.1-1)>0 then wrap .i64 (p0.1.1-1) else 0,())],())) none) (br (decide (a4.length+1<=f_)) (some ((),a4++[(a0,p0.1.1,a1,())],())) none)))
def SY(D:DX)(n:Nat)(a0 a1 a2:Int)(a3:List bB)(a4:List ak):Option cz:=Vs D n a0 a1 a2 a3 a4
theorem afx(D:DX)(n:Nat)(a0 a1 a2:Int)(a3:List bB)(a4:List ak):rF D n 181 (a0,(a1,(a2,(a3,(a4,())))))=SY D n a0 a1 a2 a3 a4:=by kernel_rfl
def qii(D:DX)(n:Nat)(a1:bf)(a0:List ak):Option cz:=qd (Vx D (wrap .u64 (a0.length:Int))) fun b=>qd (qo D a0 0 (a0.length:Int) b.1.1 a1) fun b=>some ((),b.2.1,())
def qex(D:DX)(n:Nat)(a0:List ak)(a1:bf):Option cz:=qii D n a1 a0
theorem qpk(D:DX)(n:Nat)(a0:List ak)(a1:bf):rF D n 182 (a0,(a1,()))=qex D n a0 a1:=by kernel_rfl
def q9b(D:DX)(n:Nat)(a0 a1:ak):Option aF:=some ((wrap .i64 (a0.1-a1.1),()),())
def qvz(D:DX)(n:Nat)(a0 a1:ak):Option aF:=q9b D n a0 a1
theorem afy(D:DX)(n:Nat)(a0 a1:ak):rF D n 183 (a0,(a1,()))=qvz D n a0 a1:=by kernel_rfl
def qi7(D:DX)(n:Nat)(go:Int->Int->Int->Bool->Bool->List Int->Option cP)(K0:List Int->Option cP)(x0 x1 x2:Int)(x3 x4:Bool)(x5:List Int):Option cP:=let y0:=wrap .i64 (x2-1);let y1:=wrap .i64 (x1-x0);let y2:=Int.toNat (wrap .i64 (x0-1));br (decide (y1<=12)) (qd (qkn D x5 x0 x1) fun LM=>K0 LM.2.1) (br (decide (x2=0)) (qd (q0o D x5 x0 x1) fun XE=>K0 XE.2.1) (br (!x3) (qd (qva D x5 x0 x1) fun jO=>qd (qll D jO.2.1 x0 x1) fun p1=>let y3:Option cP:=(qd (C0 D jO.2.1 x0 x1 p1.1.1) fun p4=>br (decide (wrap .i64 (p4.1.1-x0)<wrap .i64 (x1-p4.1.1))) (qd (qz D p4.2.1 x0 p4.1.1 y0) fun XG=>go (wrap .i64 (p4.1.1+1)) x1 y0 (decide (wrap .i64 (p4.1.1-x0)>=wrap .i64 (Int.tdiv y1 8))) p4.1.2.1 XG.2.1) (qd (qz D p4.2.1 (wrap .i64 (p4.1.1+1)) x1 y0) fun XH=>go x0 p4.1.1 y0 (decide (wrap .i64 (x1-p4.1.1)>=wrap .i64 (Int.tdiv y1 8))) p4.1.2.1 XH.2.1));let y4:=wrap .i64 (x1-1)-wrap .i64 (p1.1.1-x0);br (decide (p1.1.2.1=2)) (qd (qk7 D jO.2.1 x0 x1) fun n4=>let y5:Option cP:=(qd (C0 D n4.2.1 x0 x1 (wrap .i64 y4)) fun p2=>br (decide (wrap .i64 (p2.1.1-x0)<wrap .i64 (x1-p2.1.1))) (qd (qz D p2.2.1 x0 p2.1.1 y0) fun LI=>go (wrap .i64 (p2.1.1+1)) x1 y0 (decide (wrap .i64 (p2.1.1-x0)>=wrap .i64 (Int.tdiv y1 8))) p2.1.2.1 LI.2.1) (qd (qz D p2.2.1 (wrap .i64 (p2.1.1+1)) x1 y0) fun LJ=>go x0 p2.1.1 y0 (decide (wrap .i64 (x1-p2.1.1)>=wrap .i64 (Int.tdiv y1 8))) p2.1.2.1 LJ.2.1));br (bif bif x3 then x4 else false then true else false) (qd (UU D n4.2.1 x0 x1) fun nr=>let y6:Option cP:=(qd (C0 D nr.2.1 x0 x1 (wrap .i64 y4)) fun p9=>br (decide (wrap .i64 (p9.1.1-x0)<wrap .i64 (x1-p9.1.1))) (qd (qz D p9.2.1 x0 p9.1.1 y0) fun LC=>go (wrap .i64 (p9.1.1+1)) x1 y0 (decide (wrap .i64 (p9.1.1-x0)>=wrap .i64 (Int.tdiv y1 8))) p9.1.2.1 LC.2.1) (qd (qz D p9.2.1 (wrap .i64 (p9.1.1+1)) x1 y0) fun LD=>go x0 p9.1.1 y0 (decide (wrap .i64 (x1-p9.1.1)>=wrap .i64 (Int.tdiv y1 8))) p9.1.2.1 LD.2.1));br nr.1.1 (K0 nr.2.1) (br (decide (x0>0)) (br (decide (0<=wrap .i64 (x0-1))&&decide (wrap .i64 (x0-1)<(nr.2.1.length:Int))) (br (decide (0<=wrap .i64 y4)&&decide (wrap .i64 y4<(nr.2.1.length:Int))) (qd (yj D (List.getD nr.2.1 y2 0) (List.getD nr.2.1 (Int.toNat (wrap .i64 y4)) 0)) fun XU=>br (!XU.1.1) (qd (CZ D nr.2.1 x0 x1 (wrap .i64 y4)) fun Ej=>go Ej.1.1 x1 y0 x3 x4 Ej.2.1) y6) none) none) y6)) (br (decide (x0>0)) (br (decide (0<=wrap .i64 (x0-1))&&decide (wrap .i64 (x0-1)<(n4.2.1.length:Int))) (br (decide (0<=wrap .i64 y4)&&decide (wrap .i64 y4<(n4.2.1.length:Int))) (qd (yj D (List.getD n4.2.1 y2 0) (List.getD n4.2.1 (Int.toNat (wrap .i64 y4)) 0)) fun LH=>br (!LH.1.1) (qd (CZ D n4.2.1 x0 x1 (wrap .i64 y4)) fun xp=>go xp.1.1 x1 y0 x3 x4 xp.2.1) y5) none) none) y5)) (br (bif bif x3 then x4 else false then decide (p1.1.2.1=1) else false) (qd (UU D jO.2.1 x0 x1) fun j8=>let y7:Option cP:=(qd (C0 D j8.2.1 x0 x1 p1.1.1) fun p3=>br (decide (wrap .i64 (p3.1.1-x0)<wrap .i64 (x1-p3.1.1))) (qd (qz D p3.2.1 x0 p3.1.1 y0) fun LO=>go (wrap .i64 (p3.1.1+1)) x1 y0 (decide (wrap .i64 (p3.1.1-x0)>=wrap .i64 (Int.tdiv y1 8))) p3.1.2.1 LO.2.1) (qd (qz D p3.2.1 (wrap .i64 (p3.1.1+1)) x1 y0) fun XD=>go x0 p3.1.1 y0 (decide (wrap .i64 (x1-p3.1.1)>=wrap .i64 (Int.tdiv y1 8))) p3.1.2.1 XD.2.1));br j8.1.1 (K0 j8.2.1) (br (decide (x0>0)) (br (decide (0<=wrap .i64 (x0-1))&&decide (wrap .i64 (x0-1)<(j8.2.1.length:Int))) (br (decide (0<=p1.1.1)&&decide (p1.1.1<(j8.2.1.length:Int))) (qd (yj D (List.getD j8.2.1 y2 0) (List.getD j8.2.1 p1.1.1.toNat 0)) fun LN=>br (!LN.1.1) (qd (CZ D j8.2.1 x0 x1 p1.1.1) fun xq=>go xq.1.1 x1 y0 x3 x4 xq.2.1) y7) none) none) y7)) (br (decide (x0>0)) (br (decide (0<=wrap .i64 (x0-1))&&decide (wrap .i64 (x0-1)<(jO.2.1.length:Int))) (br (decide (0<=p1.1.1)&&decide (p1.1.1<(jO.2.1.length:Int))) (qd (yj D (List.getD jO.2.1 y2 0) (List.getD jO.2.1 p1.1.1.toNat 0)) fun XF=>br (!XF.1.1) (qd (CZ D jO.2.1 x0 x1 p1.1.1) fun xu=>go xu.1.1 x1 y0 x3 x4 xu.2.1) y3) none) none) y3))) (qd (qll D x5 x0 x1) fun p0=>let y8:Option cP:=(qd (C0 D x5 x0 x1 p0.1.1) fun p8=>br (decide (wrap .i64 (p8.1.1-x0)<wrap .i64 (x1-p8.1.1))) (qd (qz D p8.2.1 x0 p8.1.1 x2) fun XS=>go (wrap .i64 (p8.1.1+1)) x1 x2 (decide (wrap .i64 (p8.1.1-x0)>=wrap .i64 (Int.tdiv y1 8))) p8.1.2.1 XS.2.1) (qd (qz D p8.2.1 (wrap .i64 (p8.1.1+1)) x1 x2) fun XT=>go x0 p8.1.1 x2 (decide (wrap .i64 (x1-p8.1.1)>=wrap .i64 (Int.tdiv y1 8))) p8.1.2.1 XT.2.1));let y9:=wrap .i64 (x1-1)-wrap .i64 (p0.1.1-x0);br (decide (p0.1.2.1=2)) (qd (qk7 D x5 x0 x1) fun nZ=>let TW:Option cP:=(qd (C0 D nZ.2.1 x0 x1 (wrap .i64 y9)) fun p6=>br (decide (wrap .i64 (p6.1.1-x0)<wrap .i64 (x1-p6.1.1))) (qd (qz D p6.2.1 x0 p6.1.1 x2) fun XM=>go (wrap .i64 (p6.1.1+1)) x1 x2 (decide (wrap .i64 (p6.1.1-x0)>=wrap .i64 (Int.tdiv y1 8))) p6.1.2.1 XM.2.1) (qd (qz D p6.2.1 (wrap .i64 (p6.1.1+1)) x1 x2) fun XN=>go x0 p6.1.1 x2 (decide (wrap .i64 (x1-p6.1.1)>=wrap .i64 (Int.tdiv y1 8))) p6.1.2.1 XN.2.1));br (bif bif x3 then x4 else false then true else false) (qd (UU D nZ.2.1 x0 x1) fun kX=>let TX:Option cP:=(qd (C0 D kX.2.1 x0 x1 (wrap .i64 y9)) fun p5=>br (decide (wrap .i64 (p5.1.1-x0)<wrap .i64 (x1-p5.1.1))) (qd (qz D p5.2.1 x0 p5.1.1 x2) fun XJ=>go (wrap .i64 (p5.1.1+1)) x1 x2 (decide (wrap .i64 (p5.1.1-x0)>=wrap .i64 (Int.tdiv y1 8))) p5.1.2.1 XJ.2.1) (qd (qz D p5.2.1 (wrap .i64 (p5.1.1+1)) x1 x2) fun XK=>go x0 p5.1.1 x2 (decide (wrap .i64 (x1-p5.1.1)>=wrap .i64 (Int.tdiv y1 8))) p5.1.2.1 XK.2.1));br kX.1.1 (K0 kX.2.1) (br (decide (x0>0)) (br (decide (0<=wrap .i64 (x0-1))&&decide (wrap .i64 (x0-1)<(kX.2.1.length:Int))) (br (decide (0<=wrap .i64 y9)&&decide (wrap .i64 y9<(kX.2.1.length:Int))) (qd (yj D (List.getD kX.2.1 y2 0) (List.getD kX.2.1 (Int.toNat (wrap .i64 y9)) 0)) fun XI=>br (!XI.1.1) (qd (CZ D kX.2.1 x0 x1 (wrap .i64 y9)) fun xw=>go xw.1.1 x1 x2 x3 x4 xw.2.1) TX) none) none) TX)) (br (decide (x0>0)) (br (decide (0<=wrap .i64 (x0-1))&&decide (wrap .i64 (x0-1)<(nZ.2.1.length:Int))) (br (decide (0<=wrap .i64 y9)&&decide (wrap .i64 y9<(nZ.2.1.length:Int))) (qd (yj D (List.getD nZ.2.1 y2 0) (List.getD nZ.2.1 (Int.toNat (wrap .i64 y9)) 0)) fun XL=>br (!XL.1.1) (qd (CZ D nZ.2.1 x0 x1 (wrap .i64 y9)) fun xx=>go xx.1.1 x1 x2 x3 x4 xx.2.1) TW) none) none) TW)) (br (bif bif x3 then x4 else false then decide (p0.1.2.1=1) else false) (qd (UU D x5 x0 x1) fun nq=>let TY:Option cP:=(qd (C0 D nq.2.1 x0 x1 p0.1.1) fun p7=>br (decide (wrap .i64 (p7.1.1-x0)<wrap .i64 (x1-p7.1.1))) (qd (qz D p7.2.1 x0 p7.1.1 x2) fun XP=>go (wrap .i64 (p7.1.1+1)) x1 x2 (decide (wrap .i64 (p7.1.1-x0)>=wrap .i64 (Int.tdiv y1 8))) p7.1.2.1 XP.2.1) (qd (qz D p7.2.1 (wrap .i64 (p7.1.1+1)) x1 x2) fun XQ=>go x0 p7.1.1 x2 (decide (wrap .i64 (x1-p7.1.1)>=wrap .i64 (Int.tdiv y1 8))) p7.1.2.1 XQ.2.1));br nq.1.1 (K0 nq.2.1) (br (decide (x0>0)) (br (decide (0<=wrap .i64 (x0-1))&&decide (wrap .i64 (x0-1)<(nq.2.1.length:Int))) (br (decide (0<=p0.1.1)&&decide (p0.1.1<(nq.2.1.length:Int))) (qd (yj D (List.getD nq.2.1 y2 0) (List.getD nq.2.1 p0.1.1.toNat 0)) fun XO=>br (!XO.1.1) (qd (CZ D nq.2.1 x0 x1 p0.1.1) fun Ai=>go Ai.1.1 x1 x2 x3 x4 Ai.2.1) TY) none) none) TY)) (br (decide (x0>0)) (br (decide (0<=wrap .i64 (x0-1))&&decide (wrap .i64 (x0-1)<(x5.length:Int))) (br (decide (0<=p0.1.1)&&decide (p0.1.1<(x5.length:Int))) (qd (yj D (List.getD x5 y2 0) (List.getD x5 p0.1.1.toNat 0)) fun XR=>br (!XR.1.1) (qd (CZ D x5 x0 x1 p0.1.1) fun Ei=>go Ei.1.1 x1 x2 x3 x4 Ei.2.1) y8) none) none) y8)))))
def U6(D:DX)(n:Nat)(K0:List Int->Option cP):Nat->Int->Int->Int->Bool->Bool->(List Int)->Option cP | 0=>(fun x0 x1 x2 x3 x4 x5=>none) | m+1=>(fun x0 x1 x2 x3 x4 x5=>qi7 D n (U6 D n K0 m) K0 x0 x1 x2 x3 x4 x5)
def qzf(D:DX)(n:Nat)(a:List Int):Option cP:=some ((),a,())
def qij(D:DX)(n:Nat):(Int)->(Int)->(Int)->(Bool)->(Bool)->(List Int)->Option cP:=(fun x0 x1 x2 x3 x4 x5=>U6 D n (fun a=>qzf D n a) n x0 x1 x2 x3 x4 x5)
def qjy(D:DX)(n:Nat)(cC:Int->Int->Int->Bool->Bool->List Int->Option cP)(a0:List Int)(a1 a2 a3:Int):Option cP:=cC a1 a2 a3 true true a0
def qjo(D:DX)(n:Nat)(a0:List Int)(a1 a2 a3:Int):Option cP:=qjy D n (qij D n) a0 a1 a2 a3
def qi6(x0 x1 x2:Int)(x3 x4:Bool)(x5:List Int):St:=bu 134 [(0,AV.b7 0 [] 1048576),(1,AV.val ag x0),(2,AV.val ag x1),(3,AV.val ag x2),(8,AV.val Ty.bool x3),(9,AV.val Ty.bool x4)] [(0,aB.mk bG mG x5 false)]
def qmn(a:List Int):St:=bu 134 [(0,AV.b7 0 [] 1048576)] [(0,aB.mk bG mG a false)]
theorem qz5(D:DX)(n:Nat)(K:KT 184):∀(m:Nat)(x0 x1 x2:Int)(x3 x4:Bool)(x5:List Int),LF D n 184 n5 m (qi6 x0 x1 x2 x3 x4 x5) K=U6 D n (fun a=>K (Ex.ret) (qmn a)) m x0 x1 x2 x3 x4 x5:=IW (fun F=>qi7 D n F (fun a=>K (Ex.ret) (qmn a)))
theorem qze(D:DX)(n:Nat)(x0)(x1)(x2)(x3)(x4)(x5):LF D n 184 n5 n (qi6 x0 x1 x2 x3 x4 x5) (CF D n 184 [] n5 (lF 184))=qij D n x0 x1 x2 x3 x4 x5 :=by rw[qz5];kernel_rfl
theorem q3q(D:DX)(n:Nat)(a0:List Int)(a1 a2 a3:Int):rF D n 184 (a0,(a1,(a2,(a3,()))))=qjo D n a0 a1 a2 a3:=by
 have h:rF D n 184 (a0,(a1,(a2,(a3,()))))=qjy D n (fun x0 x1 x2 x3 x4 x5=>LF D n 184 n5 n (qi6 x0 x1 x2 x3 x4 x5) (CF D n 184 [] n5 (lF 184))) a0 a1 a2 a3:=by kernel_rfl
 rw[h];simp only[qze];rfl
def Oq(D:DX)(n:Nat)(a0:Int):Option aF:=qd (q57 D a0) fun b=>some ((b.1.1,()),())
def qxz(D:DX)(n:Nat)(a0:Int):Option aF:=Oq D n a0
theorem aga(D:DX)(n:Nat)(a0:Int):rF D n 185 (a0,())=qxz D n a0:=by kernel_rfl
def Vk(D:DX)(n:Nat)(go:List Int->Int->Int->cT->Option jv)(K0:cT->Option jv)(x0:List Int)(x1 x2:Int)(x3:cT):Option jv:=br (decide (x2<x1)) (br (decide (0<=x2)&&decide (x2<(x0.length:Int))) (qd (sI D (List.getD x0 x2.toNat 0)) fun b=>qd (qy D x3 b.1.1) fun b=>go x0 x1 (wrap .i64 (x2+1)) b.2.1) none) (K0 x3)
def Is(D:DX)(n:Nat)(K0:cT->Option jv):Nat->(List Int)->Int->Int->cT->Option jv | 0=>(fun x0 x1 x2 x3=>none) | m+1=>(fun x0 x1 x2 x3=>Vk D n (Is D n K0 m) K0 x0 x1 x2 x3)
def SN(D:DX)(n:Nat)(a:cT):Option jv:=some ((),a,())
def Vj(D:DX)(n:Nat):(List Int)->(Int)->(Int)->cT->Option jv:=(fun x0 x1 x2 x3=>Is D n (fun a=>SN D n a) n x0 x1 x2 x3)
def Vr(D:DX)(n:Nat)(cC:List Int->Int->Int->cT->Option jv)(a0:cT)(a1:Int)(a2:List Int):Option jv:=qd (sH D) fun b=>qd (qy D a0 b.1.1) fun b=>qd (tD D b.2.1 (decide (b.1.1<=wrap .i64 (a1+1)))) fun b=>cC a2 (a2.length:Int) 0 b.2.1
def Vp(D:DX)(n:Nat)(a0:cT)(a1:Int)(a2:List Int):Option jv:=Vr D n (Vj D n) a0 a1 a2
def quq(x0:List Int)(x1 x2:Int)(x3:cT):St:=bu 29 [(0,AV.addr 0 []),(18,AV.val bG x0),(19,AV.val ag x1),(20,AV.val ag x2)] [(0,aB.mk mP oY x3 true)]
def q0d(a:cT):St:=bu 29 [(0,AV.addr 0 [])] [(0,aB.mk mP oY a true)]
theorem ad_(D:DX)(n:Nat)(K:KT 186):∀(m:Nat)(x0:List Int)(x1 x2:Int)(x3:cT),LF D n 186 [.r,.r,.r,.l] m (quq x0 x1 x2 x3) K=Is D n (fun a=>K (Ex.exit 0) (q0d a)) m x0 x1 x2 x3:=y_ (fun F=>Vk D n F (fun a=>K (Ex.exit 0) (q0d a)))
theorem adW(D:DX)(n:Nat)(x0)(x1)(x2)(x3):LF D n 186 [.r,.r,.r,.l] n (quq x0 x1 x2 x3) (CF D n 186 [] [.r,.r,.r,.l] (lF 186))=Vj D n x0 x1 x2 x3 :=by rw[ad_];kernel_rfl
theorem afw(D:DX)(n:Nat)(a0:cT)(a1:Int)(a2:List Int):rF D n 186 (a0,(a1,(a2,())))=Vp D n a0 a1 a2:=by
 have h:rF D n 186 (a0,(a1,(a2,())))=Vr D n (fun x0 x1 x2 x3=>LF D n 186 [.r,.r,.r,.l] n (quq x0 x1 x2 x3) (CF D n 186 [] [.r,.r,.r,.l] (lF 186))) a0 a1 a2:=by kernel_rfl
 rw[h];simp only[adW];rfl
def qgb(D:DX)(n:Nat)(a4:bf)(go:Int->Int->Int->Bool->Bool->List ak->Option cz)(K0:List ak->Option cz)(x0 x1 x2:Int)(x3 x4:Bool)(x5:List ak):Option cz:=let y0:=wrap .i64 (x2-1);let y1:=wrap .i64 (x1-x0);let y2:=Int.toNat (wrap .i64 (x0-1));br (decide (y1<=12)) (qd (qhy D x5 x0 x1 a4) fun LM=>K0 LM.2.1) (br (decide (x2=0)) (qd (qtb D x5 x0 x1 a4) fun XE=>K0 XE.2.1) (br (!x3) (qd (qoo D x5 x0 x1 a4) fun jO=>qd (qir D jO.2.1 x0 x1 a4) fun p1=>let y3:Option cz:=(qd (CY D jO.2.1 x0 x1 p1.1.1 a4) fun p4=>br (decide (wrap .i64 (p4.1.1-x0)<wrap .i64 (x1-p4.1.1))) (qd (qo D p4.2.1 x0 p4.1.1 y0 a4) fun XG=>go (wrap .i64 (p4.1.1+1)) x1 y0 (decide (wrap .i64 (p4.1.1-x0)>=wrap .i64 (Int.tdiv y1 8))) p4.1.2.1 XG.2.1) (qd (qo D p4.2.1 (wrap .i64 (p4.1.1+1)) x1 y0 a4) fun XH=>go x0 p4.1.1 y0 (decide (wrap .i64 (x1-p4.1.1)>=wrap .i64 (Int.tdiv y1 8))) p4.1.2.1 XH.2.1));let y4:=wrap .i64 (x1-1)-wrap .i64 (p1.1.1-x0);br (decide (p1.1.2.1=2)) (qd (qig D jO.2.1 x0 x1 a4) fun n4=>let y5:Option cz:=(qd (CY D n4.2.1 x0 x1 (wrap .i64 y4) a4) fun p2=>br (decide (wrap .i64 (p2.1.1-x0)<wrap .i64 (x1-p2.1.1))) (qd (qo D p2.2.1 x0 p2.1.1 y0 a4) fun LI=>go (wrap .i64 (p2.1.1+1)) x1 y0 (decide (wrap .i64 (p2.1.1-x0)>=wrap .i64 (Int.tdiv y1 8))) p2.1.2.1 LI.2.1) (qd (qo D p2.2.1 (wrap .i64 (p2.1.1+1)) x1 y0 a4) fun LJ=>go x0 p2.1.1 y0 (decide (wrap .i64 (x1-p2.1.1)>=wrap .i64 (Int.tdiv y1 8))) p2.1.2.1 LJ.2.1));br (bif bif x3 then x4 else false then true else false) (qd (UW D n4.2.1 x0 x1 a4) fun nr=>let y6:Option cz:=(qd (CY D nr.2.1 x0 x1 (wrap .i64 y4) a4) fun p9=>br (decide (wrap .i64 (p9.1.1-x0)<wrap .i64 (x1-p9.1.1))) (qd (qo D p9.2.1 x0 p9.1.1 y0 a4) fun LC=>go (wrap .i64 (p9.1.1+1)) x1 y0 (decide (wrap .i64 (p9.1.1-x0)>=wrap .i64 (Int.tdiv y1 8))) p9.1.2.1 LC.2.1) (qd (qo D p9.2.1 (wrap .i64 (p9.1.1+1)) x1 y0 a4) fun LD=>go x0 p9.1.1 y0 (decide (wrap .i64 (x1-p9.1.1)>=wrap .i64 (Int.tdiv y1 8))) p9.1.2.1 LD.2.1));br nr.1.1 (K0 nr.2.1) (br (decide (x0>0)) (br (decide (0<=wrap .i64 (x0-1))&&decide (wrap .i64 (x0-1)<(nr.2.1.length:Int))) (br (decide (0<=wrap .i64 y4)&&decide (wrap .i64 y4<(nr.2.1.length:Int))) (qd (gZ ctx D a4 [bD.val bW (List.getD nr.2.1 y2 (0,0,0,())),bD.val bW (List.getD nr.2.1 (Int.toNat (wrap .i64 y4)) (0,0,0,()))] ag) fun XU=>br (!decide (XU<0)) (qd (CX D nr.2.1 x0 x1 (wrap .i64 y4) a4) fun Ej=>go Ej.1.1 x1 y0 x3 x4 Ej.2.1) y6) none) none) y6)) (br (decide (x0>0)) (br (decide (0<=wrap .i64 (x0-1))&&decide (wrap .i64 (x0-1)<(n4.2.1.length:Int))) (br (decide (0<=wrap .i64 y4)&&decide (wrap .i64 y4<(n4.2.1.length:Int))) (qd (gZ ctx D a4 [bD.val bW (List.getD n4.2.1 y2 (0,0,0,())),bD.val bW (List.getD n4.2.1 (Int.toNat (wrap .i64 y4)) (0,0,0,()))] ag) fun LH=>br (!decide (LH<0)) (qd (CX D n4.2.1 x0 x1 (wrap .i64 y4) a4) fun xp=>go xp.1.1 x1 y0 x3 x4 xp.2.1) y5) none) none) y5)) (br (bif bif x3 then x4 else false then decide (p1.1.2.1=1) else false) (qd (UW D jO.2.1 x0 x1 a4) fun j8=>let y7:Option cz:=(qd (CY D j8.2.1 x0 x1 p1.1.1 a4) fun p3=>br (decide (wrap .i64 (p3.1.1-x0)<wrap .i64 (x1-p3.1.1))) (qd (qo D p3.2.1 x0 p3.1.1 y0 a4) fun LO=>go (wrap .i64 (p3.1.1+1)) x1 y0 (decide (wrap .i64 (p3.1.1-x0)>=wrap .i64 (Int.tdiv y1 8))) p3.1.2.1 LO.2.1) (qd (qo D p3.2.1 (wrap .i64 (p3.1.1+1)) x1 y0 a4) fun XD=>go x0 p3.1.1 y0 (decide (wrap .i64 (x1-p3.1.1)>=wrap .i64 (Int.tdiv y1 8))) p3.1.2.1 XD.2.1));br j8.1.1 (K0 j8.2.1) (br (decide (x0>0)) (br (decide (0<=wrap .i64 (x0-1))&&decide (wrap .i64 (x0-1)<(j8.2.1.length:Int))) (br (decide (0<=p1.1.1)&&decide (p1.1.1<(j8.2.1.length:Int))) (qd (gZ ctx D a4 [bD.val bW (List.getD j8.2.1 y2 (0,0,0,())),bD.val bW (List.getD j8.2.1 p1.1.1.toNat (0,0,0,()))] ag) fun LN=>br (!decide (LN<0)) (qd (CX D j8.2.1 x0 x1 p1.1.1 a4) fun xq=>go xq.1.1 x1 y0 x3 x4 xq.2.1) y7) none) none) y7)) (br (decide (x0>0)) (br (decide (0<=wrap .i64 (x0-1))&&decide (wrap .i64 (x0-1)<(jO.2.1.length:Int))) (br (decide (0<=p1.1.1)&&decide (p1.1.1<(jO.2.1.length:Int))) (qd (gZ ctx D a4 [bD.val bW (List.getD jO.2.1 y2 (0,0,0,())),bD.val bW (List.getD jO.2.1 p1.1.1.toNat (0,0,0,()))] ag) fun XF=>br (!decide (XF<0)) (qd (CX D jO.2.1 x0 x1 p1.1.1 a4) fun xu=>go xu.1.1 x1 y0 x3 x4 xu.2.1) y3) none) none) y3))) (qd (qir D x5 x0 x1 a4) fun p0=>let y8:Option cz:=(qd (CY D x5 x0 x1 p0.1.1 a4) fun p8=>br (decide (wrap .i64 (p8.1.1-x0)<wrap .i64 (x1-p8.1.1))) (qd (qo D p8.2.1 x0 p8.1.1 x2 a4) fun XS=>go (wrap .i64 (p8.1.1+1)) x1 x2 (decide (wrap .i64 (p8.1.1-x0)>=wrap .i64 (Int.tdiv y1 8))) p8.1.2.1 XS.2.1) (qd (qo D p8.2.1 (wrap .i64 (p8.1.1+1)) x1 x2 a4) fun XT=>go x0 p8.1.1 x2 (decide (wrap .i64 (x1-p8.1.1)>=wrap .i64 (Int.tdiv y1 8))) p8.1.2.1 XT.2.1));let y9:=wrap .i64 (x1-1)-wrap .i64 (p0.1.1-x0);br (decide (p0.1.2.1=2)) (qd (qig D x5 x0 x1 a4) fun nZ=>let TW:Option cz:=(qd (CY D nZ.2.1 x0 x1 (wrap .i64 y9) a4) fun p6=>br (decide (wrap .i64 (p6.1.1-x0)<wrap .i64 (x1-p6.1.1))) (qd (qo D p6.2.1 x0 p6.1.1 x2 a4) fun XM=>go (wrap .i64 (p6.1.1+1)) x1 x2 (decide (wrap .i64 (p6.1.1-x0)>=wrap .i64 (Int.tdiv y1 8))) p6.1.2.1 XM.2.1) (qd (qo D p6.2.1 (wrap .i64 (p6.1.1+1)) x1 x2 a4) fun XN=>go x0 p6.1.1 x2 (decide (wrap .i64 (x1-p6.1.1)>=wrap .i64 (Int.tdiv y1 8))) p6.1.2.1 XN.2.1));br (bif bif x3 then x4 else false then true else false) (qd (UW D nZ.2.1 x0 x1 a4) fun kX=>let TX:Option cz:=(qd (CY D kX.2.1 x0 x1 (wrap .i64 y9) a4) fun p5=>br (decide (wrap .i64 (p5.1.1-x0)<wrap .i64 (x1-p5.1.1))) (qd (qo D p5.2.1 x0 p5.1.1 x2 a4) fun XJ=>go (wrap .i64 (p5.1.1+1)) x1 x2 (decide (wrap .i64 (p5.1.1-x0)>=wrap .i64 (Int.tdiv y1 8))) p5.1.2.1 XJ.2.1) (qd (qo D p5.2.1 (wrap .i64 (p5.1.1+1)) x1 x2 a4) fun XK=>go x0 p5.1.1 x2 (decide (wrap .i64 (x1-p5.1.1)>=wrap .i64 (Int.tdiv y1 8))) p5.1.2.1 XK.2.1));br kX.1.1 (K0 kX.2.1) (br (decide (x0>0)) (br (decide (0<=wrap .i64 (x0-1))&&decide (wrap .i64 (x0-1)<(kX.2.1.length:Int))) (br (decide (0<=wrap .i64 y9)&&decide (wrap .i64 y9<(kX.2.1.length:Int))) (qd (gZ ctx D a4 [bD.val bW (List.getD kX.2.1 y2 (0,0,0,())),bD.val bW (List.getD kX.2.1 (Int.toNat (wrap .i64 y9)) (0,0,0,()))] ag) fun XI=>br (!decide (XI<0)) (qd (CX D kX.2.1 x0 x1 (wrap .i64 y9) a4) fun xw=>go xw.1.1 x1 x2 x3 x4 xw.2.1) TX) none) none) TX)) (br (decide (x0>0)) (br (decide (0<=wrap .i64 (x0-1))&&decide (wrap .i64 (x0-1)<(nZ.2.1.length:Int))) (br (decide (0<=wrap .i64 y9)&&decide (wrap .i64 y9<(nZ.2.1.length:Int))) (qd (gZ ctx D a4 [bD.val bW (List.getD nZ.2.1 y2 (0,0,0,())),bD.val bW (List.getD nZ.2.1 (Int.toNat (wrap .i64 y9)) (0,0,0,()))] ag) fun XL=>br (!decide (XL<0)) (qd (CX D nZ.2.1 x0 x1 (wrap .i64 y9) a4) fun xx=>go xx.1.1 x1 x2 x3 x4 xx.2.1) TW) none) none) TW)) (br (bif bif x3 then x4 else false then decide (p0.1.2.1=1) else false) (qd (UW D x5 x0 x1 a4) fun nq=>let TY:Option cz:=(qd (CY D nq.2.1 x0 x1 p0.1.1 a4) fun p7=>br (decide (wrap .i64 (p7.1.1-x0)<wrap .i64 (x1-p7.1.1))) (qd (qo D p7.2.1 x0 p7.1.1 x2 a4) fun XP=>go (wrap .i64 (p7.1.1+1)) x1 x2 (decide (wrap .i64 (p7.1.1-x0)>=wrap .i64 (Int.tdiv y1 8))) p7.1.2.1 XP.2.1) (qd (qo D p7.2.1 (wrap .i64 (p7.1.1+1)) x1 x2 a4) fun XQ=>go x0 p7.1.1 x2 (decide (wrap .i64 (x1-p7.1.1)>=wrap .i64 (Int.tdiv y1 8))) p7.1.2.1 XQ.2.1));br nq.1.1 (K0 nq.2.1) (br (decide (x0>0)) (br (decide (0<=wrap .i64 (x0-1))&&decide (wrap .i64 (x0-1)<(nq.2.1.length:Int))) (br (decide (0<=p0.1.1)&&decide (p0.1.1<(nq.2.1.length:Int))) (qd (gZ ctx D a4 [bD.val bW (List.getD nq.2.1 y2 (0,0,0,())),bD.val bW (List.getD nq.2.1 p0.1.1.toNat (0,0,0,()))] ag) fun XO=>br (!decide (XO<0)) (qd (CX D nq.2.1 x0 x1 p0.1.1 a4) fun Ai=>go Ai.1.1 x1 x2 x3 x4 Ai.2.1) TY) none) none) TY)) (br (decide (x0>0)) (br (decide (0<=wrap .i64 (x0-1))&&decide (wrap .i64 (x0-1)<(x5.length:Int))) (br (decide (0<=p0.1.1)&&decide (p0.1.1<(x5.length:Int))) (qd (gZ ctx D a4 [bD.val bW (List.getD x5 y2 (0,0,0,())),bD.val bW (List.getD x5 p0.1.1.toNat (0,0,0,()))] ag) fun XR=>br (!decide (XR<0)) (qd (CX D x5 x0 x1 p0.1.1 a4) fun Ei=>go Ei.1.1 x1 x2 x3 x4 Ei.2.1) y8) none) none) y8)))))
def U3(D:DX)(n:Nat)(a4:bf)(K0:List ak->Option cz):Nat->Int->Int->Int->Bool->Bool->(List ak)->Option cz | 0=>(fun x0 x1 x2 x3 x4 x5=>none) | m+1=>(fun x0 x1 x2 x3 x4 x5=>qgb D n a4 (U3 D n a4 K0 m) K0 x0 x1 x2 x3 x4 x5)
def qrm(D:DX)(n:Nat)(a4:bf)(a:List ak):Option cz:=some ((),a,())
def qf1(D:DX)(n:Nat)(a4:bf):(Int)->(Int)->(Int)->(Bool)->(Bool)->(List ak)->Option cz:=(fun x0 x1 x2 x3 x4 x5=>U3 D n a4 (fun a=>qrm D n a4 a) n x0 x1 x2 x3 x4 x5)
def qgr(D:DX)(n:Nat)(a4:bf)(cC:Int->Int->Int->Bool->Bool->List ak->Option cz)(a0:List ak)(a1 a2 a3:Int):Option cz:=cC a1 a2 a3 true true a0
def qgn(D:DX)(n:Nat)(a0:List ak)(a1 a2 a3:Int)(a4:bf):Option cz:=qgr D n a4 (qf1 D n a4) a0 a1 a2 a3
def qga(a4:bf)(x0 x1 x2:Int)(x3 x4:Bool)(x5:List ak):St:=bu 148 [(0,AV.b7 0 [] 1048576),(1,AV.val ag x0),(2,AV.val ag x1),(3,AV.val ag x2),(4,AV.d9 a4),(10,AV.val Ty.bool x3),(11,AV.val Ty.bool x4)] [(0,aB.mk bQ mG x5 false)]
def qjb(a4:bf)(a:List ak):St:=bu 148 [(0,AV.b7 0 [] 1048576)] [(0,aB.mk bQ mG a false)]
theorem qss(D:DX)(n:Nat)(a4:bf)(K:KT 187):∀(m:Nat)(x0 x1 x2:Int)(x3 x4:Bool)(x5:List ak),LF D n 187 n5 m (qga a4 x0 x1 x2 x3 x4 x5) K=U3 D n a4 (fun a=>K (Ex.ret) (qjb a4 a)) m x0 x1 x2 x3 x4 x5:=IW (fun F=>qgb D n a4 F (fun a=>K (Ex.ret) (qjb a4 a)))
theorem qrl(D:DX)(n:Nat)(a4:bf)(x0)(x1)(x2)(x3)(x4)(x5):LF D n 187 n5 n (qga a4 x0 x1 x2 x3 x4 x5) (CF D n 187 [] n5 (lF 187))=qf1 D n a4 x0 x1 x2 x3 x4 x5 :=by rw[qss];kernel_rfl
theorem qt1(D:DX)(n:Nat)(a0:List ak)(a1 a2 a3:Int)(a4:bf):rF D n 187 (a0,(a1,(a2,(a3,(a4,())))))=qgn D n a0 a1 a2 a3 a4:=by
 have h:rF D n 187 (a0,(a1,(a2,(a3,(a4,())))))=qgr D n a4 (fun x0 x1 x2 x3 x4 x5=>LF D n 187 n5 n (qga a4 x0 x1 x2 x3 x4 x5) (CF D n 187 [] n5 (lF 187))) a0 a1 a2 a3:=by kernel_rfl
 rw[h];simp only[qrl];rfl
def U4(D:DX)(n:Nat)(go:Int->Int->Int->Int->List Int->Option cP)(K0:Int->Int->Int->List Int->Option cP)(c d e a:Int)(b:List Int):Option cP:=let y1:=wrap .i64 (a-1);let y0:=List.getD b (Int.toNat y1) 0;br (decide (a>c)) (br (decide (0<=a)&&decide (a<(b.length:Int))) (br (decide (0<=y1)&&decide (y1<(b.length:Int))) (qd (yj D (List.getD b a.toNat 0) y0) fun p0=>br p0.1.1 (br (decide (0<=y1)&&decide (y1<(b.length:Int))) (br (decide (0<=a)&&decide (a<(b.length:Int))) (br (decide (0<=a)&&decide (a<(b.length:Int))) (br (decide (0<=y1)&&decide (y1<((List.set b a.toNat y0).length:Int))) (go c d e y1 (List.set (List.set b a.toNat y0) (Int.toNat y1) (List.getD b a.toNat 0))) none) none) none) none) (K0 c d e b)) none) none) (K0 c d e b)
def JI(D:DX)(n:Nat)(K0:Int->Int->Int->List Int->Option cP):Nat->Int->Int->Int->Int->(List Int)->Option cP | 0=>(fun a b c d e=>none) | m+1=>(fun a b c d e=>U4 D n (JI D n K0 m) K0 a b c d e)
def qf0(D:DX)(n:Nat)(go:Int->Int->Int->List Int->Option cP)(K0:List Int->Option cP)(a b c:Int)(d:List Int):Option cP:=go a b (wrap .i64 (c+1)) d
def qf9(D:DX)(n:Nat)(go:Int->Int->Int->List Int->Option cP)(K0:List Int->Option cP):(Int)->(Int)->(Int)->(Int)->(List Int)->Option cP:=(fun a f g h i=>JI D n (fun b c d e=>qf0 D n go K0 b c d e) n a f g h i)
def Sk(D:DX)(n:Nat)(go:Int->Int->Int->List Int->Option cP)(K0:List Int->Option cP)(mH:Int->Int->Int->Int->List Int->Option cP)(x0 x1 x2:Int)(x3:List Int):Option cP:=br (decide (x2<x1)) (mH x0 x1 x2 x2 x3) (K0 x3)
def zp(D:DX)(n:Nat)(K0:List Int->Option cP):Nat->Int->Int->Int->(List Int)->Option cP | 0=>(fun x0 x1 x2 x3=>none) | m+1=>(fun x0 x1 x2 x3=>Sk D n (zp D n K0 m) K0 (qf9 D n (zp D n K0 m) K0) x0 x1 x2 x3)
def qjx(D:DX)(n:Nat)(a:List Int):Option cP:=some ((),a,())
def qf8(D:DX)(n:Nat):(Int)->(Int)->(Int)->(List Int)->Option cP:=(fun x0 x1 x2 x3=>zp D n (fun a=>qjx D n a) n x0 x1 x2 x3)
def qg3(D:DX)(n:Nat)(cC:Int->Int->Int->List Int->Option cP)(a0:List Int)(a1 a2:Int):Option cP:=cC a1 a2 (wrap .i64 (a1+1)) a0
def qgy(D:DX)(n:Nat)(a0:List Int)(a1 a2:Int):Option cP:=qg3 D n (qf8 D n) a0 a1 a2
def FK(x0 x1 x2:Int)(x3:List Int):St:=bu 49 [(0,AV.b7 0 [] 1048576),(1,AV.val ag x0),(2,AV.val ag x1),(6,AV.val ag x2)] [(0,aB.mk bG mG x3 false)]
def U2(a:List Int):St:=bu 49 [(0,AV.b7 0 [] 1048576)] [(0,aB.mk bG mG a false)]
def qgq(a b c d:Int)(e:List Int):St:=bu 49 [(0,AV.b7 0 [] 1048576),(1,AV.val ag a),(2,AV.val ag b),(6,AV.val ag c),(7,AV.val ag d)] [(0,aB.mk bG mG e false)]
def qjw(a b c:Int)(d:List Int):St:=bu 49 [(0,AV.b7 0 [] 1048576),(1,AV.val ag a),(2,AV.val ag b),(6,AV.val ag c)] [(0,aB.mk bG mG d false)]
theorem qtm(D:DX)(n:Nat)(K:KT 188):∀(m:Nat)(e f g h:Int)(i:List Int),LF D n 188 uu m (qgq e f g h i) K=JI D n (fun a b c d=>K (Ex.exit 2) (qjw a b c d)) m e f g h i:=pJ (fun F=>U4 D n F (fun a b c d=>K (Ex.exit 2) (qjw a b c d)))
theorem qsr(D:DX)(n:Nat)(m:Nat)(K:KT 188)(a b c d:Int)(e:List Int):LF D n 188 uu n (qgq a b c d e) (CF D n 188 [.r,.l,.l] [.r,.l,.l,.r,.l] (KF D n 188 hJ m K))=qf9 D n (fun x0 x1 x2 x3=>LF D n 188 hJ m (FK x0 x1 x2 x3) K) (fun f=>K (Ex.exit 0) (U2 f)) a b c d e :=by rw[qtm];kernel_rfl
theorem qtn(D:DX)(n:Nat)(m:Nat)(K:KT 188)(x0)(x1)(x2)(x3):LF D n 188 hJ (m+1) (FK x0 x1 x2 x3) K=Sk D n (fun x0 x1 x2 x3=>LF D n 188 hJ m (FK x0 x1 x2 x3) K) (fun a=>K (Ex.exit 0) (U2 a)) (fun b c d e f=>LF D n 188 uu n (qgq b c d e f) (CF D n 188 [.r,.l,.l] [.r,.l,.l,.r,.l] (KF D n 188 hJ m K))) x0 x1 x2 x3:=by kernel_rfl
theorem qj3(D:DX)(n:Nat)(K:KT 188):∀(m:Nat)(x0 x1 x2:Int)(x3:List Int),LF D n 188 hJ m (FK x0 x1 x2 x3) K=zp D n (fun a=>K (Ex.exit 0) (U2 a)) m x0 x1 x2 x3
 | 0,x0,x1,x2,x3=>uU ..
 | m+1,x0,x1,x2,x3=>by
  have ih:(fun x0 x1 x2 x3=>LF D n 188 hJ m (FK x0 x1 x2 x3) K)=zp D n (fun a=>K (Ex.exit 0) (U2 a)) m:=by funext x0 x1 x2 x3;exact qj3 D n K m x0 x1 x2 x3
  rw[qtn];simp only[qsr];rw[ih];rfl
theorem qsq(D:DX)(n:Nat)(x0)(x1)(x2)(x3):LF D n 188 hJ n (FK x0 x1 x2 x3) (CF D n 188 [] hJ (lF 188))=qf8 D n x0 x1 x2 x3 :=by rw[qj3];kernel_rfl
theorem qvb(D:DX)(n:Nat)(a0:List Int)(a1 a2:Int):rF D n 188 (a0,(a1,(a2,())))=qgy D n a0 a1 a2:=by
 have h:rF D n 188 (a0,(a1,(a2,())))=qg3 D n (fun x0 x1 x2 x3=>LF D n 188 hJ n (FK x0 x1 x2 x3) (CF D n 188 [] hJ (lF 188))) a0 a1 a2:=by kernel_rfl
 rw[h];simp only[qsq];rfl
def OI(D:DX)(n:Nat)(a0 a1:Int):Option ah:=qd (qxh D a0) fun b=>br b.1.1 (qd (qxh D a1) fun b=>some ((bif !b.1.1 then true else decide (a0<a1),()),())) (some ((bif false then true else decide (a0<a1),()),()))
def Yd(D:DX)(n:Nat)(a0 a1:Int):Option ah:=OI D n a0 a1
theorem agH(D:DX)(n:Nat)(a0 a1:Int):rF D n 194 (a0,(a1,()))=Yd D n a0 a1:=by kernel_rfl
def ae6(D:DX)(n:Nat)(a0:Int):Option aF:=let y0:=List.toArray ([UInt8.ofNat 0,UInt8.ofNat 1,UInt8.ofNat 2,UInt8.ofNat 2,UInt8.ofNat 3,UInt8.ofNat 3,UInt8.ofNat 3,UInt8.ofNat 3,UInt8.ofNat 4,UInt8.ofNat 4,UInt8.ofNat 4,UInt8.ofNat 4,UInt8.ofNat 4,UInt8.ofNat 4,UInt8.ofNat 4,UInt8.ofNat 4,UInt8.ofNat 5,UInt8.ofNat 5,UInt8.ofNat 5,UInt8.ofNat 5,UInt8.ofNat 5,UInt8.ofNat 5,UInt8.ofNat 5,UInt8.ofNat 5,UInt8.ofNat 5,UInt8.ofNat 5,UInt8.ofNat 5,UInt8.ofNat 5,UInt8.ofNat 5,UInt8.ofNat 5,UInt8.ofNat 5,UInt8.ofNat 5,UInt8.ofNat 6,UInt8.ofNat 6,UInt8.ofNat 6,UInt8.ofNat 6,UInt8.ofNat 6,UInt8.ofNat 6,UInt8.ofNat 6,UInt8.ofNat 6,UInt8.ofNat 6,UInt8.ofNat 6,UInt8.ofNat 6,UInt8.ofNat 6,UInt8.ofNat 6,UInt8.ofNat 6,UInt8.ofNat 6,UInt8.ofNat 6,UInt8.ofNat 6,UInt8.ofNat 6,UInt8.ofNat 6,UInt8.ofNat 6,UInt8.ofNat 6,UInt8.ofNat 6,UInt8.ofNat 6,UInt8.ofNat 6,UInt8.ofNat 6,UInt8.ofNat 6,UInt8.ofNat 6,UInt8.ofNat 6,UInt8.ofNat 6,UInt8.ofNat 6,UInt8.ofNat 6,UInt8.ofNat 6]++[UInt8.ofNat 7,UInt8.ofNat 7,UInt8.ofNat 7,UInt8.ofNat 7,UInt8.ofNat 7,UInt8.ofNat 7,UInt8.ofNat 7,UInt8.ofNat 7,UInt8.ofNat 7,UInt8.ofNat 7,UInt8.ofNat 7,UInt8.ofNat 7,UInt8.ofNat 7,UInt8.ofNat 7,UInt8.ofNat 7,UInt8.ofNat 7,UInt8.ofNat 7,UInt8.ofNat 7,UInt8.ofNat 7,UInt8.ofNat 7,UInt8.ofNat 7,UInt8.ofNat 7,UInt8.ofNat 7,UInt8.ofNat 7,UInt8.ofNat 7,UInt8.ofNat 7,UInt8.ofNat 7,UInt8.ofNat 7,UInt8.ofNat 7,UInt8.ofNat 7,UInt8.ofNat 7,UInt8.ofNat 7,UInt8.ofNat 7,UInt8.ofNat 7,UInt8.ofNat 7,UInt8.ofNat 7,UInt8.ofNat 7,UInt8.ofNat 7,UInt8.ofNat 7,UInt8.ofNat 7,UInt8.ofNat 7,UInt8.ofNat 7,UInt8.ofNat 7,UInt8.ofNat 7,UInt8.ofNat 7,UInt8.ofNat 7,UInt8.ofNat 7,UInt8.ofNat 7,UInt8.ofNat 7,UInt8.ofNat 7,UInt8.ofNat 7,UInt8.ofNat 7,UInt8.ofNat 7,UInt8.ofNat 7,UInt8.ofNat 7,UInt8.ofNat 7,UInt8.ofNat 7,UInt8.ofNat 7,UInt8.ofNat 7,UInt8.ofNat 7,UInt8.ofNat 7,UInt8.ofNat 7,UInt8.ofNat 7,UInt8.ofNat 7]++([UInt8.ofNat 8,UInt8.ofNat 8,UInt8.ofNat 8,UInt8.ofNat 8,UInt8.ofNat 8,UInt8.ofNat 8,UInt8.ofNat 8,UInt8.ofNat 8,UInt8.ofNat 8,UInt8.ofNat 8,UInt8.ofNat 8,UInt8.ofNat 8,UInt8.ofNat 8,UInt8.ofNat 8,UInt8.ofNat 8,UInt8.ofNat 8,UInt8.ofNat 8,UInt8.ofNat 8,UInt8.ofNat 8,UInt8.ofNat 8,UInt8.ofNat 8,UInt8.ofNat 8,UInt8.ofNat 8,UInt8.ofNat 8,UInt8.ofNat 8,UInt8.ofNat 8,UInt8.ofNat 8,UInt8.ofNat 8,UInt8.ofNat 8,UInt8.ofNat 8,UInt8.ofNat 8,UInt8.ofNat 8,UInt8.ofNat 8,UInt8.ofNat 8,UInt8.ofNat 8,UInt8.ofNat 8,UInt8.ofNat 8,UInt8.ofNat 8,UInt8.ofNat 8,UInt8.ofNat 8,UInt8.ofNat 8,UInt8.ofNat 8,UInt8.ofNat 8,UInt8.ofNat 8,UInt8.ofNat 8,UInt8.ofNat 8,UInt8.ofNat 8,UInt8.ofNat 8,UInt8.ofNat 8,UInt8.ofNat 8,UInt8.ofNat 8,UInt8.ofNat 8,UInt8.ofNat 8,UInt8.ofNat 8,UInt8.ofNat 8,UInt8.ofNat 8,UInt8.ofNat 8,UInt8.ofNat 8,UInt8.ofNat 8,UInt8.ofNat 8,UInt8.ofNat 8,UInt8.ofNat 8,UInt8.ofNat 8,UInt8.ofNat 8]++[UInt8.ofNat 8,UInt8.ofNat 8,UInt8.ofNat 8,UInt8.ofNat 8,UInt8.ofNat 8,UInt8.ofNat 8,UInt8.ofNat 8,UInt8.ofNat 8,UInt8.ofNat 8,UInt8.ofNat 8,UInt8.ofNat 8,UInt8.ofNat 8,UInt8.ofNat 8,UInt8.ofNat 8,UInt8.ofNat 8,UInt8.ofNat 8,UInt8.ofNat 8,UInt8.ofNat 8,UInt8.ofNat 8,UInt8.ofNat 8,UInt8.ofNat 8,UInt8.ofNat 8,UInt8.ofNat 8,UInt8.ofNat 8,UInt8.ofNat 8,UInt8.ofNat 8,UInt8.ofNat 8,UInt8.ofNat 8,UInt8.ofNat 8,UInt8.ofNat 8,UInt8.ofNat 8,UInt8.ofNat 8,UInt8.ofNat 8,UInt8.ofNat 8,UInt8.ofNat 8,UInt8.ofNat 8,UInt8.ofNat 8,UInt8.ofNat 8,UInt8.ofNat 8,UInt8.ofNat 8,UInt8.ofNat 8,UInt8.ofNat 8,UInt8.ofNat 8,UInt8.ofNat 8,UInt8.ofNat 8,UInt8.ofNat 8,UInt8.ofNat 8,UInt8.ofNat 8,UInt8.ofNat 8,UInt8.ofNat 8,UInt8.ofNat 8,UInt8.ofNat 8,UInt8.ofNat 8,UInt8.ofNat 8,UInt8.ofNat 8,UInt8.ofNat 8,UInt8.ofNat 8,UInt8.ofNat 8,UInt8.ofNat 8,UInt8.ofNat 8,UInt8.ofNat 8,UInt8.ofNat 8,UInt8.ofNat 8,UInt8.ofNat 8]));let y1:=Int.pow 2 (if Int.toNat 32<=IntKind.bits .u64 then Int.toNat 32 else IntKind.bits .u64);let y2:=Int.pow 2 (if Int.toNat 16<=IntKind.bits .u64 then Int.toNat 16 else IntKind.bits .u64);let y3:=Int.pow 2 (if Int.toNat 8<=IntKind.bits .u64 then Int.toNat 8 else IntKind.bits .u64);let y4:=Int.fdiv a0 y1;let y5:=ByteArray.mk y0;let y6:=Int.fdiv y4 y2;let y7:=Int.fdiv a0 y2;br (decide (a0>=4294967296)) (br (decide (y4>=65536)) (br (decide (y6>=256)) (br (decide (0<=wrap .u8 (Int.fdiv y6 y3))&&decide (wrap .u8 (Int.fdiv y6 y3)<(↑(ByteArray.size y5):Int))) (some ((wrap .i64 (wrap .i64 (wrap .i64 (32+16)+8)+wrap .i64 (↑(UInt8.toNat (Array.getD y0 (Int.toNat (wrap .u8 (Int.fdiv y6 y3))) (UInt8.ofNat 0))):Int)),()),())) none) (br (decide (0<=wrap .u8 y6)&&decide (wrap .u8 y6<(↑(ByteArray.size y5):Int))) (some ((wrap .i64 (wrap .i64 (32+16)+wrap .i64 (↑(UInt8.toNat (Array.getD y0 (Int.toNat (wrap .u8 y6)) (UInt8.ofNat 0))):Int)),()),())) none)) (br (decide (y4>=256)) (br (decide (0<=wrap .u8 (Int.fdiv y4 y3))&&decide (wrap .u8 (Int.fdiv y4 y3)<(↑(ByteArray.size y5):Int))) (some ((wrap .i64 (wrap .i64 (32+8)+wrap .i64 (↑(UInt8.toNat (Array.getD y0 (Int.toNat (wrap .u8 (Int.fdiv y4 y3))) (UInt8.ofNat 0))):Int)),()),())) none) (br (decide (0<=wrap .u8 y4)&&decide (wrap .u8 y4<(↑(ByteArray.size y5):Int))) (some ((wrap .i64 (32+wrap .i64 (↑(UInt8.toNat (Array.getD y0 (Int.toNat (wrap .u8 y4)) (UInt8.ofNat 0))):Int)),()),())) none))) (br (decide (a0>=65536)) (br (decide (y7>=256)) (br (decide (0<=wrap .u8 (Int.fdiv y7 y3))&&decide (wrap .u8 (Int.fdiv y7 y3)<(↑(ByteArray.size y5):Int))) (some ((wrap .i64 (wrap .i64 (wrap .i64 (0+16)+8)+wrap .i64 (↑(UInt8.toNat (Array.getD y0 (Int.toNat (wrap .u8 (Int.fdiv y7 y3))) (UInt8.ofNat 0))):Int)),()),())) none) (br (decide (0<=wrap .u8 y7)&&decide (wrap .u8 y7<(↑(ByteArray.size y5):Int))) (some ((wrap .i64 (wrap .i64 (0+16)+wrap .i64 (↑(UInt8.toNat (Array.getD y0 (Int.toNat (wrap .u8 y7)) (UInt8.ofNat 0))):Int)),()),())) none)) (br (decide (a0>=256)) (br (decide (0<=wrap .u8 (Int.fdiv a0 y3))&&decide (wrap .u8 (Int.fdiv a0 y3)<(↑(ByteArray.size y5):Int))) (some ((wrap .i64 (wrap .i64 (0+8)+wrap .i64 (↑(UInt8.toNat (Array.getD y0 (Int.toNat (wrap .u8 (Int.fdiv a0 y3))) (UInt8.ofNat 0))):Int)),()),())) none) (br (decide (0<=wrap .u8 a0)&&decide (wrap .u8 a0<(↑(ByteArray.size y5):Int))) (some ((wrap .i64 (0+wrap .i64 (↑(UInt8.toNat (Array.getD y0 (Int.toNat (wrap .u8 a0)) (UInt8.ofNat 0))):Int)),()),())) none)))
def rS(D:DX)(n:Nat)(a0:Int):Option aF:=ae6 D n a0
theorem aeS(D:DX)(n:Nat)(a0:Int):rF D n 198 (a0,())=rS D n a0:=by kernel_rfl
def UT(D:DX)(n:Nat)(a3:bf)(go:Int->Int->Int->Int->List ak->Option cz)(K0:Int->Int->Int->List ak->Option cz)(c d e a:Int)(b:List ak):Option cz:=let y2:=wrap .i64 (a-1);let y0:=List.getD b (Int.toNat y2) (0,0,0,());let y1:=List.getD b a.toNat (0,0,0,());br (decide (a>c)) (br (decide (0<=a)&&decide (a<(b.length:Int))) (br (decide (0<=y2)&&decide (y2<(b.length:Int))) (qd (gZ ctx D a3 [bD.val bW y1,bD.val bW y0] ag) fun p0=>br (decide (p0<0)) (br (decide (0<=y2)&&decide (y2<(b.length:Int))) (br (decide (0<=a)&&decide (a<(b.length:Int))) (br (decide (0<=a)&&decide (a<(b.length:Int))) (br (decide (0<=y2)&&decide (y2<((List.set b a.toNat y0).length:Int))) (go c d e y2 (List.set (List.set b a.toNat y0) (Int.toNat y2) y1)) none) none) none) none) (K0 c d e b)) none) none) (K0 c d e b)
def JC(D:DX)(n:Nat)(a3:bf)(K0:Int->Int->Int->List ak->Option cz):Nat->Int->Int->Int->Int->(List ak)->Option cz | 0=>(fun a b c d e=>none) | m+1=>(fun a b c d e=>UT D n a3 (JC D n a3 K0 m) K0 a b c d e)
def qdp(D:DX)(n:Nat)(a3:bf)(go:Int->Int->Int->List ak->Option cz)(K0:List ak->Option cz)(a b c:Int)(d:List ak):Option cz:=go a b (wrap .i64 (c+1)) d
def qd1(D:DX)(n:Nat)(a3:bf)(go:Int->Int->Int->List ak->Option cz)(K0:List ak->Option cz):(Int)->(Int)->(Int)->(Int)->(List ak)->Option cz:=(fun a f g h i=>JC D n a3 (fun b c d e=>qdp D n a3 go K0 b c d e) n a f g h i)
def SG(D:DX)(n:Nat)(a3:bf)(go:Int->Int->Int->List ak->Option cz)(K0:List ak->Option cz)(mH:Int->Int->Int->Int->List ak->Option cz)(x0 x1 x2:Int)(x3:List ak):Option cz:=br (decide (x2<x1)) (mH x0 x1 x2 x2 x3) (K0 x3)
def zo(D:DX)(n:Nat)(a3:bf)(K0:List ak->Option cz):Nat->Int->Int->Int->(List ak)->Option cz | 0=>(fun x0 x1 x2 x3=>none) | m+1=>(fun x0 x1 x2 x3=>SG D n a3 (zo D n a3 K0 m) K0 (qd1 D n a3 (zo D n a3 K0 m) K0) x0 x1 x2 x3)
def qg7(D:DX)(n:Nat)(a3:bf)(a:List ak):Option cz:=some ((),a,())
def qd0(D:DX)(n:Nat)(a3:bf):(Int)->(Int)->(Int)->(List ak)->Option cz:=(fun x0 x1 x2 x3=>zo D n a3 (fun a=>qg7 D n a3 a) n x0 x1 x2 x3)
def qet(D:DX)(n:Nat)(a3:bf)(cC:Int->Int->Int->List ak->Option cz)(a0:List ak)(a1 a2:Int):Option cz:=cC a1 a2 (wrap .i64 (a1+1)) a0
def qem(D:DX)(n:Nat)(a0:List ak)(a1 a2:Int)(a3:bf):Option cz:=qet D n a3 (qd0 D n a3) a0 a1 a2
def Hw(a3:bf)(x0 x1 x2:Int)(x3:List ak):St:=bu 53 [(0,AV.b7 0 [] 1048576),(1,AV.val ag x0),(2,AV.val ag x1),(3,AV.d9 a3),(8,AV.val ag x2)] [(0,aB.mk bQ mG x3 false)]
def UX(a3:bf)(a:List ak):St:=bu 53 [(0,AV.b7 0 [] 1048576)] [(0,aB.mk bQ mG a false)]
def qeh(a3:bf)(a b c d:Int)(e:List ak):St:=bu 53 [(0,AV.b7 0 [] 1048576),(1,AV.val ag a),(2,AV.val ag b),(3,AV.d9 a3),(8,AV.val ag c),(9,AV.val ag d)] [(0,aB.mk bQ mG e false)]
def qg6(a3:bf)(a b c:Int)(d:List ak):St:=bu 53 [(0,AV.b7 0 [] 1048576),(1,AV.val ag a),(2,AV.val ag b),(3,AV.d9 a3),(8,AV.val ag c)] [(0,aB.mk bQ mG d false)]
theorem qn1(D:DX)(n:Nat)(a3:bf)(K:KT 199):∀(m:Nat)(e f g h:Int)(i:List ak),LF D n 199 uu m (qeh a3 e f g h i) K=JC D n a3 (fun a b c d=>K (Ex.exit 2) (qg6 a3 a b c d)) m e f g h i:=pJ (fun F=>UT D n a3 F (fun a b c d=>K (Ex.exit 2) (qg6 a3 a b c d)))
theorem qm6(D:DX)(n:Nat)(a3:bf)(m:Nat)(K:KT 199)(a b c d:Int)(e:List ak):LF D n 199 uu n (qeh a3 a b c d e) (CF D n 199 [.r,.l,.l] [.r,.l,.l,.r,.l] (KF D n 199 hJ m K))=qd1 D n a3 (fun x0 x1 x2 x3=>LF D n 199 hJ m (Hw a3 x0 x1 x2 x3) K) (fun f=>K (Ex.exit 0) (UX a3 f)) a b c d e :=by rw[qn1];kernel_rfl
theorem qn2(D:DX)(n:Nat)(a3:bf)(m:Nat)(K:KT 199)(x0)(x1)(x2)(x3):LF D n 199 hJ (m+1) (Hw a3 x0 x1 x2 x3) K=SG D n a3 (fun x0 x1 x2 x3=>LF D n 199 hJ m (Hw a3 x0 x1 x2 x3) K) (fun a=>K (Ex.exit 0) (UX a3 a)) (fun b c d e f=>LF D n 199 uu n (qeh a3 b c d e f) (CF D n 199 [.r,.l,.l] [.r,.l,.l,.r,.l] (KF D n 199 hJ m K))) x0 x1 x2 x3:=by kernel_rfl
theorem qhh(D:DX)(n:Nat)(a3:bf)(K:KT 199):∀(m:Nat)(x0 x1 x2:Int)(x3:List ak),LF D n 199 hJ m (Hw a3 x0 x1 x2 x3) K=zo D n a3 (fun a=>K (Ex.exit 0) (UX a3 a)) m x0 x1 x2 x3
 | 0,x0,x1,x2,x3=>uU ..
 | m+1,x0,x1,x2,x3=>by
  have ih:(fun x0 x1 x2 x3=>LF D n 199 hJ m (Hw a3 x0 x1 x2 x3) K)=zo D n a3 (fun a=>K (Ex.exit 0) (UX a3 a)) m:=by funext x0 x1 x2 x3;exact qhh D n a3 K m x0 x1 x2 x3
  rw[qn2];simp only[qm6];rw[ih];rfl
theorem qm5(D:DX)(n:Nat)(a3:bf)(x0)(x1)(x2)(x3):LF D n 199 hJ n (Hw a3 x0 x1 x2 x3) (CF D n 199 [] hJ (lF 199))=qd0 D n a3 x0 x1 x2 x3 :=by rw[qhh];kernel_rfl
theorem qoq(D:DX)(n:Nat)(a0:List ak)(a1 a2:Int)(a3:bf):rF D n 199 (a0,(a1,(a2,(a3,()))))=qem D n a0 a1 a2 a3:=by
 have h:rF D n 199 (a0,(a1,(a2,(a3,()))))=qet D n a3 (fun x0 x1 x2 x3=>LF D n 199 hJ n (Hw a3 x0 x1 x2 x3) (CF D n 199 [] hJ (lF 199))) a0 a1 a2:=by kernel_rfl
 rw[h];simp only[qm5];rfl
def Og(D:DX)(n:Nat)(a0:Int):Option ah:=some ((a0 != a0,()),())
def qxv(D:DX)(n:Nat)(a0:Int):Option ah:=Og D n a0
theorem af8(D:DX)(n:Nat)(a0:Int):rF D n 212 (a0,())=qxv D n a0:=by kernel_rfl
end
open Go.Proofs
def fI(X:Ext):Prop:=∀k:Nat,(Nat.beq k 128)=false->X.is k=false
theorem Sj:fI xV:=fun _ _=>rfl
section
variable {X:Ext}(hX:fI X)(n:Nat)
include hX
theorem sQ{g:FuncId}{fn:Func}{a:gb (ctx.sig g).params}{r:Option (Out ctx g)}(hf:Tryz.prog.funcs[g]?=some fn)(ht:vS g=some fn)(hg:Nat.beq g 128=false)(e:rF (DD X n) n g a=r):DD X (n+1) g a=r:=(ajm X hf ht (hX g hg) n a).trans e
theorem qyr(a0):qtt (DD X (n+1)) a0=ql8 (DD X n) n a0:=sQ hX n Tryz.func8 (by kernel_rfl) rfl (qyj ..)
theorem aa5(a0):Gd (DD X (n+1)) a0=P1 (DD X n) n a0:=sQ hX n Tryz.func12 (by kernel_rfl) rfl (aa1 ..)
theorem ad6(a0):qqb (DD X (n+1)) a0=qqh (DD X n) n a0:=sQ hX n Tryz.func13 (by kernel_rfl) rfl (ad4 ..)
theorem aeU(a0 a1):qtv (DD X (n+1)) a0 a1=qt4 (DD X n) n a0 a1:=sQ hX n Tryz.func14 (by kernel_rfl) rfl (aeK ..)
theorem ae2(a0 a1):qtw (DD X (n+1)) a0 a1=qua (DD X n) n a0 a1:=sQ hX n Tryz.func15 (by kernel_rfl) rfl (aeT ..)
theorem aas(a0 a1):FX (DD X (n+1)) a0 a1=F4 (DD X n) n a0 a1:=sQ hX n Tryz.func16 (by kernel_rfl) rfl (aab ..)
theorem qub(a0):Vh (DD X (n+1)) a0=Vi (DD X n) n a0:=sQ hX n Tryz.func17 (by kernel_rfl) rfl (aeM ..)
theorem ala(a0 a1):Ik (DD X (n+1)) a0 a1=Il (DD X n) n a0 a1:=sQ hX n Tryz.func22 (by kernel_rfl) rfl (ak_ ..)
theorem ahe(a0 a1):X3 (DD X (n+1)) a0 a1=XY (DD X n) n a0 a1:=sQ hX n Tryz.func23 (by kernel_rfl) rfl (agM ..)
theorem akL(a0):ZR (DD X (n+1)) a0=GR (DD X n) n a0:=sQ hX n Tryz.func24 (by kernel_rfl) rfl (akK ..)
theorem ak9(a0):HZ (DD X (n+1)) a0=H_ (DD X n) n a0:=sQ hX n Tryz.func26 (by kernel_rfl) rfl (ak8 ..)
theorem ak5(a0):xB (DD X (n+1)) a0=GU (DD X n) n a0:=sQ hX n Tryz.func31 (by kernel_rfl) rfl (ak4 ..)
theorem q0j(a0 a1):qsa (DD X (n+1)) a0 a1=qs6 (DD X n) n a0 a1:=sQ hX n Tryz.func32 (by kernel_rfl) rfl (q0i ..)
theorem q2c(a0 a1):qt2 (DD X (n+1)) a0 a1=qt3 (DD X n) n a0 a1:=sQ hX n Tryz.func33 (by kernel_rfl) rfl (q15 ..)
theorem aiT(a0 a1):qxm (DD X (n+1)) a0 a1=ZS (DD X n) n a0 a1:=sQ hX n Tryz.func34 (by kernel_rfl) rfl (aik ..)
theorem ais(a0):sI (DD X (n+1)) a0=Z4 (DD X n) n a0:=sQ hX n Tryz.func35 (by kernel_rfl) rfl (aiG ..)
theorem afE(a0):C2 (DD X (n+1)) a0=qvx (DD X n) n a0:=sQ hX n Tryz.func40 (by kernel_rfl) rfl (aft ..)
theorem aiB(a0):ZZ (DD X (n+1)) a0=q8i (DD X n) n a0:=sQ hX n Tryz.func44 (by kernel_rfl) rfl (aiP ..)
theorem ael(a0):qrr (DD X (n+1)) a0=qrx (DD X n) n a0:=sQ hX n Tryz.func45 (by kernel_rfl) rfl (aeg ..)
theorem afs(a0):qvw (DD X (n+1)) a0=qv4 (DD X n) n a0:=sQ hX n Tryz.func46 (by kernel_rfl) rfl (afD ..)
theorem ahs(a0 a1):rT (DD X (n+1)) a0 a1=Yz (DD X n) n a0 a1:=sQ hX n Tryz.func47 (by kernel_rfl) rfl (ag8 ..)
theorem ahP(a0 a1 a2):Zj (DD X (n+1)) a0 a1 a2=Y9 (DD X n) n a0 a1 a2:=sQ hX n Tryz.func48 (by kernel_rfl) rfl (ah5 ..)
theorem ah_(a0 a1):Zd (DD X (n+1)) a0 a1=Zo (DD X n) n a0 a1:=sQ hX n Tryz.func49 (by kernel_rfl) rfl (ahK ..)
theorem afT(a0):U_ (DD X (n+1)) a0=qxy (DD X n) n a0:=sQ hX n Tryz.func50 (by kernel_rfl) rfl (af_ ..)
theorem afm(a0):q7u (DD X (n+1)) a0=qvy (DD X n) n a0:=sQ hX n Tryz.func51 (by kernel_rfl) rfl (afu ..)
theorem aii(a0 a1):Zi (DD X (n+1)) a0 a1=Y5 (DD X n) n a0 a1:=sQ hX n Tryz.func52 (by kernel_rfl) rfl (ah1 ..)
theorem ahQ(a0):Zk (DD X (n+1)) a0=Y_ (DD X n) n a0:=sQ hX n Tryz.func53 (by kernel_rfl) rfl (ah6 ..)
theorem afq(a0):q7x (DD X (n+1)) a0=qv2 (DD X n) n a0:=sQ hX n Tryz.func54 (by kernel_rfl) rfl (afB ..)
theorem afp(a0):qvv (DD X (n+1)) a0=qv1 (DD X n) n a0:=sQ hX n Tryz.func55 (by kernel_rfl) rfl (afA ..)
theorem aek(a0):JM (DD X (n+1)) a0=qrw (DD X n) n a0:=sQ hX n Tryz.func56 (by kernel_rfl) rfl (aef ..)
theorem Pt(a0 a1):JY (DD X (n+1)) a0 a1=UG (DD X n) n a0 a1:=sQ hX n Tryz.func57 (by kernel_rfl) rfl (aae ..)
theorem aaw(a0 a1 a2):kZ (DD X (n+1)) a0 a1 a2=PC (DD X n) n a0 a1 a2:=sQ hX n Tryz.func58 (by kernel_rfl) rfl (aag ..)
theorem ahh(a0 a1 a2):X4 (DD X (n+1)) a0 a1 a2=X1 (DD X n) n a0 a1 a2:=sQ hX n Tryz.func60 (by kernel_rfl) rfl (agQ ..)
theorem q5b(a0 a1):qh9 (DD X (n+1)) a0 a1=qmg (DD X n) n a0 a1:=sQ hX n Tryz.func61 (by kernel_rfl) rfl (q5a ..)
theorem akI(a0):Qf (DD X (n+1)) a0=FO (DD X n) n a0:=sQ hX n Tryz.func62 (by kernel_rfl) rfl (akH ..)
theorem aiV(a0):Ix (DD X (n+1)) a0=ZU (DD X n) n a0:=sQ hX n Tryz.func63 (by kernel_rfl) rfl (aiD ..)
theorem qog(a0 a1):qd4 (DD X (n+1)) a0 a1=qd8 (DD X n) n a0 a1:=sQ hX n Tryz.func64 (by kernel_rfl) rfl (qoc ..)
theorem aib(a0):To (DD X (n+1)) a0=Zq (DD X n) n a0:=sQ hX n Tryz.func66 (by kernel_rfl) rfl (ahV ..)
theorem adx(a0 a1):qjc (DD X (n+1)) a0 a1=qms (DD X n) n a0 a1:=sQ hX n Tryz.func67 (by kernel_rfl) rfl (adv ..)
theorem ahi(a0):Tj (DD X (n+1)) a0=X2 (DD X n) n a0:=sQ hX n Tryz.func68 (by kernel_rfl) rfl (agR ..)
theorem qvc(a0):JK (DD X (n+1)) a0=Vc (DD X n) n a0:=sQ hX n Tryz.func69 (by kernel_rfl) rfl (adu ..)
theorem Qu:sH (DD X (n+1))=Ga (DD X n) n:=sQ hX n Tryz.func70 (by kernel_rfl) rfl (agP ..)
theorem aax(a0):qp3 (DD X (n+1)) a0=PD (DD X n) n a0:=sQ hX n Tryz.func71 (by kernel_rfl) rfl (aah ..)
theorem q04(a0 a1):Vy (DD X (n+1)) a0 a1=qtu (DD X n) n a0 a1:=sQ hX n Tryz.func72 (by kernel_rfl) rfl (q03 ..)
theorem ahg(a0):vN (DD X (n+1)) a0=X0 (DD X n) n a0:=sQ hX n Tryz.func73 (by kernel_rfl) rfl (agO ..)
theorem ady(a0 a1):Vb (DD X (n+1)) a0 a1=qmt (DD X n) n a0 a1:=sQ hX n Tryz.func74 (by kernel_rfl) rfl (adw ..)
theorem aif(a0 a1):JT (DD X (n+1)) a0 a1=OW (DD X n) n a0 a1:=sQ hX n Tryz.func75 (by kernel_rfl) rfl (ahZ ..)
theorem aiX(a0):BT (DD X (n+1)) a0=ZW (DD X n) n a0:=sQ hX n Tryz.func76 (by kernel_rfl) rfl (aiF ..)
theorem ahb(a0):uQ (DD X (n+1)) a0=XV (DD X n) n a0:=sQ hX n Tryz.func77 (by kernel_rfl) rfl (agJ ..)
theorem aei(a0 a1 a2):Ve (DD X (n+1)) a0 a1 a2=qru (DD X n) n a0 a1 a2:=sQ hX n Tryz.func79 (by kernel_rfl) rfl (aed ..)
theorem aar(a0):Iy (DD X (n+1)) a0=FZ (DD X n) n a0:=sQ hX n Tryz.func80 (by kernel_rfl) rfl (aaa ..)
theorem age(a0 a1):qxn (DD X (n+1)) a0 a1=qxx (DD X n) n a0 a1:=sQ hX n Tryz.func81 (by kernel_rfl) rfl (af9 ..)
theorem ahj(a0 a1):X5 (DD X (n+1)) a0 a1=Ym (DD X n) n a0 a1:=sQ hX n Tryz.func82 (by kernel_rfl) rfl (agS ..)
theorem agV(a0):X6 (DD X (n+1)) a0=Ys (DD X n) n a0:=sQ hX n Tryz.func83 (by kernel_rfl) rfl (agD ..)
theorem ahm(a0):Iv (DD X (n+1)) a0=Yp (DD X n) n a0:=sQ hX n Tryz.func85 (by kernel_rfl) rfl (agA ..)
theorem ag0:Ya (DD X (n+1))=OG (DD X n) n:=sQ hX n Tryz.func90 (by kernel_rfl) rfl (ag5 ..)
theorem aiu(a0 a1):VQ (DD X (n+1)) a0 a1=Z6 (DD X n) n a0 a1:=sQ hX n Tryz.func91 (by kernel_rfl) rfl (aiI ..)
theorem afr(a0 a1):Vo (DD X (n+1)) a0 a1=qv3 (DD X n) n a0 a1:=sQ hX n Tryz.func92 (by kernel_rfl) rfl (afC ..)
theorem aem(a0):qrs (DD X (n+1)) a0=qry (DD X n) n a0:=sQ hX n Tryz.func93 (by kernel_rfl) rfl (aeh ..)
theorem ahO(a0):Iw (DD X (n+1)) a0=Y8 (DD X n) n a0:=sQ hX n Tryz.func94 (by kernel_rfl) rfl (ah4 ..)
theorem qx3(a0):U5 (DD X (n+1)) a0=qh2 (DD X n) n a0:=sQ hX n Tryz.func95 (by kernel_rfl) rfl (qxu ..)
theorem ag2(a0):Yb (DD X (n+1)) a0=Yy (DD X n) n a0:=sQ hX n Tryz.func96 (by kernel_rfl) rfl (ag7 ..)
theorem aaz(a0 a1 a2):lU (DD X (n+1)) a0 a1 a2=Pq (DD X n) n a0 a1 a2:=sQ hX n Tryz.func97 (by kernel_rfl) rfl (aaj ..)
theorem aiw(a0):TA (DD X (n+1)) a0=Z8 (DD X n) n a0:=sQ hX n Tryz.func98 (by kernel_rfl) rfl (aiK ..)
theorem ahM(a0):VH (DD X (n+1)) a0=Y6 (DD X n) n a0:=sQ hX n Tryz.func99 (by kernel_rfl) rfl (ah2 ..)
theorem aht(a0):Yc (DD X (n+1)) a0=YA (DD X n) n a0:=sQ hX n Tryz.func100 (by kernel_rfl) rfl (ag9 ..)
theorem afV(a0 a1):qxr (DD X (n+1)) a0 a1=qx0 (DD X n) n a0 a1:=sQ hX n Tryz.func101 (by kernel_rfl) rfl (agb ..)
theorem afW(a0 a1):qxt (DD X (n+1)) a0 a1=qx1 (DD X n) n a0 a1:=sQ hX n Tryz.func102 (by kernel_rfl) rfl (agc ..)
theorem ahl(a0):JR (DD X (n+1)) a0=Yo (DD X n) n a0:=sQ hX n Tryz.func103 (by kernel_rfl) rfl (agz ..)
theorem ae0(a0):JN (DD X (n+1)) a0=qt9 (DD X n) n a0:=sQ hX n Tryz.func104 (by kernel_rfl) rfl (aeR ..)
theorem adC(a0 a1):qng (DD X (n+1)) a0 a1=qni (DD X n) n a0 a1:=sQ hX n Tryz.func105 (by kernel_rfl) rfl (adA ..)
theorem ad5(a0 a1):qqa (DD X (n+1)) a0 a1=qqg (DD X n) n a0 a1:=sQ hX n Tryz.func106 (by kernel_rfl) rfl (ad0 ..)
theorem ahd(a0 a1):VA (DD X (n+1)) a0 a1=XX (DD X n) n a0 a1:=sQ hX n Tryz.func107 (by kernel_rfl) rfl (agL ..)
theorem q7t(a0 a1):q1h (DD X (n+1)) a0 a1=qwl (DD X n) n a0 a1:=sQ hX n Tryz.func108 (by kernel_rfl) rfl (q6u ..)
theorem qod(a0 a1):qd3 (DD X (n+1)) a0 a1=qd5 (DD X n) n a0 a1:=sQ hX n Tryz.func109 (by kernel_rfl) rfl (qn9 ..)
theorem ahf(a0):OF (DD X (n+1)) a0=XZ (DD X n) n a0:=sQ hX n Tryz.func110 (by kernel_rfl) rfl (agN ..)
theorem ah9(a0):Zc (DD X (n+1)) a0=Zn (DD X n) n a0:=sQ hX n Tryz.func111 (by kernel_rfl) rfl (ahJ ..)
theorem aic(a0 a1):Ze (DD X (n+1)) a0 a1=Zr (DD X n) n a0 a1:=sQ hX n Tryz.func112 (by kernel_rfl) rfl (ahW ..)
theorem qqm(a0 a1):qiq (DD X (n+1)) a0 a1=qfd (DD X n) n a0 a1:=sQ hX n Tryz.func113 (by kernel_rfl) rfl (qqf ..)
theorem q65(a0 a1):U8 (DD X (n+1)) a0 a1=qkg (DD X n) n a0 a1:=sQ hX n Tryz.func114 (by kernel_rfl) rfl (q63 ..)
theorem ahc(a0):yl (DD X (n+1)) a0=XW (DD X n) n a0:=sQ hX n Tryz.func115 (by kernel_rfl) rfl (agK ..)
theorem aiU(a0):Tz (DD X (n+1)) a0=ZT (DD X n) n a0:=sQ hX n Tryz.func118 (by kernel_rfl) rfl (aiC ..)
theorem ahn(a0):VC (DD X (n+1)) a0=Yq (DD X n) n a0:=sQ hX n Tryz.func119 (by kernel_rfl) rfl (agB ..)
theorem qrj(a0 a1):qfn (DD X (n+1)) a0 a1=qfo (DD X n) n a0 a1:=sQ hX n Tryz.func120 (by kernel_rfl) rfl (qri ..)
theorem aeW(a0):q54 (DD X (n+1)) a0=qt6 (DD X n) n a0:=sQ hX n Tryz.func121 (by kernel_rfl) rfl (aeN ..)
theorem qof(a0 a1):US (DD X (n+1)) a0 a1=qd7 (DD X n) n a0 a1:=sQ hX n Tryz.func122 (by kernel_rfl) rfl (qob ..)
theorem aeX(a0):q55 (DD X (n+1)) a0=qt7 (DD X n) n a0:=sQ hX n Tryz.func123 (by kernel_rfl) rfl (aeO ..)
theorem agU(a0):VD (DD X (n+1)) a0=Yr (DD X n) n a0:=sQ hX n Tryz.func124 (by kernel_rfl) rfl (agC ..)
theorem afo(a0):JO (DD X (n+1)) a0=qv0 (DD X n) n a0:=sQ hX n Tryz.func125 (by kernel_rfl) rfl (afz ..)
theorem qoe(a0 a1):UR (DD X (n+1)) a0 a1=qd6 (DD X n) n a0 a1:=sQ hX n Tryz.func126 (by kernel_rfl) rfl (qoa ..)
theorem aeY(a0 a1):q56 (DD X (n+1)) a0 a1=qt8 (DD X n) n a0 a1:=sQ hX n Tryz.func127 (by kernel_rfl) rfl (aeP ..)
theorem ai0(a0):VS (DD X (n+1)) a0=q8j (DD X n) n a0:=sQ hX n Tryz.func132 (by kernel_rfl) rfl (aiQ ..)
theorem ai1(a0):BU (DD X (n+1)) a0=Pe (DD X n) n a0:=sQ hX n Tryz.func133 (by kernel_rfl) rfl (aiR ..)
theorem aix(a0):ZX (DD X (n+1)) a0=Z9 (DD X n) n a0:=sQ hX n Tryz.func134 (by kernel_rfl) rfl (aiL ..)
theorem agZ(a0):X_ (DD X (n+1)) a0=Yx (DD X n) n a0:=sQ hX n Tryz.func135 (by kernel_rfl) rfl (ag4 ..)
theorem aiz(a0):ZY (DD X (n+1)) a0=q8h (DD X n) n a0:=sQ hX n Tryz.func136 (by kernel_rfl) rfl (aiN ..)
theorem agY(a0 a1):X9 (DD X (n+1)) a0 a1=Yw (DD X n) n a0 a1:=sQ hX n Tryz.func137 (by kernel_rfl) rfl (ag3 ..)
theorem agX(a0):X8 (DD X (n+1)) a0=Yu (DD X n) n a0:=sQ hX n Tryz.func138 (by kernel_rfl) rfl (agF ..)
theorem ag1:VE (DD X (n+1))=OH (DD X n) n:=sQ hX n Tryz.func139 (by kernel_rfl) rfl (ag6 ..)
theorem aih(a0):Zh (DD X (n+1)) a0=Y4 (DD X n) n a0:=sQ hX n Tryz.func140 (by kernel_rfl) rfl (ah0 ..)
theorem ahN(a0 a1):OV (DD X (n+1)) a0 a1=Y7 (DD X n) n a0 a1:=sQ hX n Tryz.func141 (by kernel_rfl) rfl (ah3 ..)
theorem aiy(a0):C5 (DD X (n+1)) a0=Z_ (DD X n) n a0:=sQ hX n Tryz.func143 (by kernel_rfl) rfl (aiM ..)
theorem aiA(a0):TB (DD X (n+1)) a0=Pd (DD X n) n a0:=sQ hX n Tryz.func145 (by kernel_rfl) rfl (aiO ..)
theorem aay(a0):UF (DD X (n+1)) a0=F8 (DD X n) n a0:=sQ hX n Tryz.func146 (by kernel_rfl) rfl (aai ..)
theorem ahR(a0 a1):Zl (DD X (n+1)) a0 a1=Za (DD X n) n a0 a1:=sQ hX n Tryz.func147 (by kernel_rfl) rfl (ah7 ..)
theorem que(a0):qgi (DD X (n+1)) a0=qgl (DD X n) n a0:=sQ hX n Tryz.func148 (by kernel_rfl) rfl (qtz ..)
theorem qrz(a0):UZ (DD X (n+1)) a0=qfw (DD X n) n a0:=sQ hX n Tryz.func149 (by kernel_rfl) rfl (qrt ..)
theorem qud(a0):qgh (DD X (n+1)) a0=qgk (DD X n) n a0:=sQ hX n Tryz.func150 (by kernel_rfl) rfl (qty ..)
theorem quc(a0):qgg (DD X (n+1)) a0=qgj (DD X n) n a0:=sQ hX n Tryz.func151 (by kernel_rfl) rfl (qtx ..)
theorem aa3(a0):Gc (DD X (n+1)) a0=Gf (DD X n) n a0:=sQ hX n Tryz.func152 (by kernel_rfl) rfl (aaZ ..)
theorem ah8(a0 a1):Zb (DD X (n+1)) a0 a1=Zm (DD X n) n a0 a1:=sQ hX n Tryz.func153 (by kernel_rfl) rfl (ahI ..)
theorem aat(a0 a1):JX (DD X (n+1)) a0 a1=F5 (DD X n) n a0 a1:=sQ hX n Tryz.func154 (by kernel_rfl) rfl (aac ..)
theorem aav(a0 a1):TF (DD X (n+1)) a0 a1=F7 (DD X n) n a0 a1:=sQ hX n Tryz.func155 (by kernel_rfl) rfl (aaf ..)
theorem aa2(a0):Gb (DD X (n+1)) a0=Ge (DD X n) n a0:=sQ hX n Tryz.func156 (by kernel_rfl) rfl (aaY ..)
theorem aej(a0 a1 a2):SU (DD X (n+1)) a0 a1 a2=qrv (DD X n) n a0 a1 a2:=sQ hX n Tryz.func157 (by kernel_rfl) rfl (aee ..)
theorem aeV(a0 a1 a2):SR (DD X (n+1)) a0 a1 a2=qt5 (DD X n) n a0 a1 a2:=sQ hX n Tryz.func158 (by kernel_rfl) rfl (aeL ..)
theorem aaq(a0 a1):FW (DD X (n+1)) a0 a1=FY (DD X n) n a0 a1:=sQ hX n Tryz.func159 (by kernel_rfl) rfl (aam ..)
theorem aia(a0 a1):VG (DD X (n+1)) a0 a1=Zp (DD X n) n a0 a1:=sQ hX n Tryz.func160 (by kernel_rfl) rfl (ahL ..)
theorem aiS(a0 a1 a2 a3):VO (DD X (n+1)) a0 a1 a2 a3=ZQ (DD X n) n a0 a1 a2 a3:=sQ hX n Tryz.func161 (by kernel_rfl) rfl (aij ..)
theorem qqj(a0 a1):qin (DD X (n+1)) a0 a1=qfa (DD X n) n a0 a1:=sQ hX n Tryz.func162 (by kernel_rfl) rfl (qqc ..)
theorem quf(a0 a1):qj8 (DD X (n+1)) a0 a1=qgm (DD X n) n a0 a1:=sQ hX n Tryz.func163 (by kernel_rfl) rfl (qt0 ..)
theorem qql(a0 a1):qip (DD X (n+1)) a0 a1=qfc (DD X n) n a0 a1:=sQ hX n Tryz.func164 (by kernel_rfl) rfl (qqe ..)
theorem qqk(a0 a1):qio (DD X (n+1)) a0 a1=qfb (DD X n) n a0 a1:=sQ hX n Tryz.func165 (by kernel_rfl) rfl (qqd ..)
theorem aiv(a0):VR (DD X (n+1)) a0=Z7 (DD X n) n a0:=sQ hX n Tryz.func166 (by kernel_rfl) rfl (aiJ ..)
theorem agW(a0):X7 (DD X (n+1)) a0=Yt (DD X n) n a0:=sQ hX n Tryz.func167 (by kernel_rfl) rfl (agE ..)
theorem aa4(a0 a1):UL (DD X (n+1)) a0 a1=Gg (DD X n) n a0 a1:=sQ hX n Tryz.func168 (by kernel_rfl) rfl (aa0 ..)
theorem adr(a0 a1):U9 (DD X (n+1)) a0 a1=qlm (DD X n) n a0 a1:=sQ hX n Tryz.func169 (by kernel_rfl) rfl (adq ..)
theorem ait(a0 a1):VP (DD X (n+1)) a0 a1=Z5 (DD X n) n a0 a1:=sQ hX n Tryz.func170 (by kernel_rfl) rfl (aiH ..)
theorem aid(a0 a1):Zf (DD X (n+1)) a0 a1=Y2 (DD X n) n a0 a1:=sQ hX n Tryz.func171 (by kernel_rfl) rfl (ahX ..)
theorem aau(a0 a1):uR (DD X (n+1)) a0 a1=F6 (DD X n) n a0 a1:=sQ hX n Tryz.func172 (by kernel_rfl) rfl (aad ..)
theorem aiW(a0):ym (DD X (n+1)) a0=ZV (DD X n) n a0:=sQ hX n Tryz.func173 (by kernel_rfl) rfl (aiE ..)
theorem ahk(a0 a1 a2 a3):VB (DD X (n+1)) a0 a1 a2 a3=Yn (DD X n) n a0 a1 a2 a3:=sQ hX n Tryz.func174 (by kernel_rfl) rfl (agT ..)
theorem adD(a0):Va (DD X (n+1)) a0=qnj (DD X n) n a0:=sQ hX n Tryz.func175 (by kernel_rfl) rfl (adB ..)
theorem aie(a0 a1 a2 a3 a4):Zg (DD X (n+1)) a0 a1 a2 a3 a4=Y3 (DD X n) n a0 a1 a2 a3 a4:=sQ hX n Tryz.func176 (by kernel_rfl) rfl (ahY ..)
theorem aha(a0 a1):Ot (DD X (n+1)) a0 a1=Ye (DD X n) n a0 a1:=sQ hX n Tryz.func177 (by kernel_rfl) rfl (agI ..)
theorem qqi(a0 a1):SL (DD X (n+1)) a0 a1=SM (DD X n) n a0 a1:=sQ hX n Tryz.func178 (by kernel_rfl) rfl (ad3 ..)
theorem qv5(a0 a1):qy (DD X (n+1)) a0 a1=SX (DD X n) n a0 a1:=sQ hX n Tryz.func179 (by kernel_rfl) rfl (afv ..)
theorem aeZ(a0 a1):tD (DD X (n+1)) a0 a1=q58 (DD X n) n a0 a1:=sQ hX n Tryz.func180 (by kernel_rfl) rfl (aeQ ..)
theorem qv6(a0 a1 a2 a3 a4):vL (DD X (n+1)) a0 a1 a2 a3 a4=SY (DD X n) n a0 a1 a2 a3 a4:=sQ hX n Tryz.func181 (by kernel_rfl) rfl (afx ..)
theorem qpm(a0 a1):UY (DD X (n+1)) a0 a1=qex (DD X n) n a0 a1:=sQ hX n Tryz.func182 (by kernel_rfl) rfl (qpk ..)
theorem afn(a0 a1):q7v (DD X (n+1)) a0 a1=qvz (DD X n) n a0 a1:=sQ hX n Tryz.func183 (by kernel_rfl) rfl (afy ..)
theorem q3r(a0 a1 a2 a3):qz (DD X (n+1)) a0 a1 a2 a3=qjo (DD X n) n a0 a1 a2 a3:=sQ hX n Tryz.func184 (by kernel_rfl) rfl (q3q ..)
theorem q8k(a0 a1 a2):Ir (DD X (n+1)) a0 a1 a2=Vp (DD X n) n a0 a1 a2:=sQ hX n Tryz.func186 (by kernel_rfl) rfl (afw ..)
theorem qug(a0 a1 a2 a3 a4):qo (DD X (n+1)) a0 a1 a2 a3 a4=qgn (DD X n) n a0 a1 a2 a3 a4:=sQ hX n Tryz.func187 (by kernel_rfl) rfl (qt1 ..)
theorem qvd(a0 a1 a2):qkn (DD X (n+1)) a0 a1 a2=qgy (DD X n) n a0 a1 a2:=sQ hX n Tryz.func188 (by kernel_rfl) rfl (qvb ..)
theorem ag_(a0 a1):yj (DD X (n+1)) a0 a1=Yd (DD X n) n a0 a1:=sQ hX n Tryz.func194 (by kernel_rfl) rfl (agH ..)
theorem qos(a0 a1 a2 a3):qhy (DD X (n+1)) a0 a1 a2 a3=qem (DD X n) n a0 a1 a2 a3:=sQ hX n Tryz.func199 (by kernel_rfl) rfl (qoq ..)
theorem agd(a0):qxh (DD X (n+1)) a0=qxv (DD X n) n a0:=sQ hX n Tryz.func212 (by kernel_rfl) rfl (af8 ..)
theorem afU(a0):Vx (DD X (n+1)) a0=qxz (DD X n) n a0:=sQ hX n Tryz.func185 (by kernel_rfl) rfl (aga ..)
theorem ae1(a0):q57 (DD X (n+1)) a0=rS (DD X n) n a0:=sQ hX n Tryz.func198 (by kernel_rfl) rfl (aeS ..)
end
end Go.G

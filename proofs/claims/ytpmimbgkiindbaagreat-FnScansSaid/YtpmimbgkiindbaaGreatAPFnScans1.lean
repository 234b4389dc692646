import Derived.Test.YtpmimbgkiindbaaGreatAPFnScans0
set_option linter.unusedVariables false
set_option linter.unusedSimpArgs false
set_option linter.unusedSectionVars false
open Go.IntKind (wrap)
namespace Go.G
set_option maxRecDepth 100000
set_option maxHeartbeats 0
open Go Go.V
noncomputable section
def q3w (D:DX)(n:Nat) (a0:tq5) (a1:Int) (a2:tq41):Option tq4:=qd (qh0 D a0 a1) fun b↦br (decide (b.1.1<0)) (some ((),b.2.1,())) (br (decide (0≤b.1.1)&&decide (b.1.1<(b.2.1.2.2.2.1.length:Int))) (qd (qig D a2) fun b_1↦let c:=List.getD b.2.1.2.2.2.1 b.1.1.toNat (0,(0,0,0,()),0,0,0,(0,[],()),());let d:=List.set b.2.1.2.2.2.1 b.1.1.toNat (c.1,c.2.1,c.2.2.1,b.2.1.2.2.1,c.2.2.2.2);let a:=List.getD d b.1.1.toNat (0,(0,0,0,()),0,0,0,(0,[],()),());br (decide (0≤b.1.1)&&decide (b.1.1<(d.length:Int))) (br (decide (b.2.1.2.2.2.2.1.length+1≤qb7)) (some ((),(b.2.1.1,b.2.1.2.1,b.2.1.2.2.1,List.set d b.1.1.toNat (a.1,a.2.1,a.2.2.1,a.2.2.2.1,a.2.2.2.2.1,(b_1.1.1.1,b_1.1.1.2.1,()),a.2.2.2.2.2.2),b.2.1.2.2.2.2.1++[b.1.1],b.2.1.2.2.2.2.2),())) none) none) none)
def qs5 (D:DX)(n:Nat) (a0:tq5) (a1:Int) (a2:tq41):Option tq4:=q3w D n a0 a1 a2
theorem qbgq (D:DX)(n:Nat) (a0:tq5) (a1:Int) (a2:tq41):rF D n 158 (a0,(a1,(a2,())))=qs5 D n a0 a1 a2:=by kernel_rfl

def qbhl (D:DX)(n:Nat) (a0:tq38) (a1:List tq44):Option tq43:=qd (qj3 D a0) fun b↦br (!b.1.1) (some ((-1,()),())) (qd (qw5 D a0 a1) fun b↦some ((b.1.1.2.2.1,()),()))
def q82 (D:DX)(n:Nat) (a0:tq38) (a1:List tq44):Option tq43:=qbhl D n a0 a1
theorem qbvg (D:DX)(n:Nat) (a0:tq38) (a1:List tq44):rF D n 159 (a0,(a1,()))=q82 D n a0 a1:=by kernel_rfl

def qys (D:DX)(n:Nat) (go:List tq44→Int→Int→Int→Int→tq38→tq22→tq22→tq24→Option tq14) (K0:List tq44→tq38→tq22→tq22→Option tq14) (x0:List tq44) (x1 x2 x3 x4:Int) (x5:tq38) (x6 x7:tq22) (x8:tq24):Option tq14:=br (decide (x4<x3)) (br (decide (0≤x4)&&decide (x4<(x8.2.1.length:Int))) (qd (qev D x0 (List.getD x8.2.1 x4.toNat 0)) fun b↦qd (q3t D x5 (List.getD x8.2.1 x4.toNat 0) b.1.1 x2 x1) fun b_1↦br (decide (x7.2.2.1.length+1≤qb7)) (br (decide (x5.1=7)) (br (decide (x7.2.1.2.1.length+1≤qb7)) (go x0 x1 x2 x3 (wrap .i64 (x4+1)) x5 x6 (x7.1,(x7.2.1.1,x7.2.1.2.1++[b.1.1],x7.2.1.2.2),x7.2.2.1++[(List.getD x8.2.1 x4.toNat 0,b.1.1,b_1.1.1,())],x7.2.2.2) x8) none) (go x0 x1 x2 x3 (wrap .i64 (x4+1)) x5 x6 (x7.1,x7.2.1,x7.2.2.1++[(List.getD x8.2.1 x4.toNat 0,b.1.1,b_1.1.1,())],x7.2.2.2) x8)) none) none) (K0 x0 x5 x6 x7)
def qkf (D:DX)(n:Nat) (K0:List tq44→tq38→tq22→tq22→Option tq14):Nat→(List tq44)→Int→Int→Int→Int→tq38→tq22→tq22→tq24→Option tq14 | 0=>(fun x0 x1 x2 x3 x4 x5 x6 x7 x8=>none) | m+1=>(fun x0 x1 x2 x3 x4 x5 x6 x7 x8=>qys D n (qkf D n K0 m) K0 x0 x1 x2 x3 x4 x5 x6 x7 x8)
def qks (D:DX)(n:Nat) (d:List tq44) (c:tq38) (e a:tq22):Option tq14:=br (decide (c.1=10)) (qd (qeo D c.2.2.1) fun b↦qd (qev D d b.1.1) fun b↦br (b.1.1 != 0) (some (((a.1,(0,[wrap .i64 (b.1.1 - 1)],()),a.2.2.1,()),true,()),())) (some (((a.1,(3,a.2.1.2.1,()),a.2.2.1,()),true,()),()))) (some (((a.1,(a.2.1.1,a.2.1.2.1,()),a.2.2.1,()),true,()),()))
def qv1 (D:DX)(n:Nat):(List tq44)→(Int)→(Int)→(Int)→(Int)→tq38→tq22→tq22→tq24→Option tq14:=(fun x0 x1 x2 x3 x4 x5 x6 x7 x8=>qkf D n (fun a b c d=>qks D n a b c d) n x0 x1 x2 x3 x4 x5 x6 x7 x8)
def q24 (D:DX)(n:Nat) (lp0:List tq44→Int→Int→Int→Int→tq38→tq22→tq22→tq24→Option tq14) (a0:tq38) (a1:List tq44):Option tq14:=qd (qj3 D a0) fun b↦br (!b.1.1) (some (((false,(0,[],()),[],()),false,()),())) (qd (qw5 D a0 a1) fun b↦br (decide (b.1.1.2.2.1≥0)) (some (((false,(0,[],()),[],()),false,()),())) (qd (q3m D a0 a1) fun b_1↦br b_1.1.2.1 (some (((true,(b_1.1.1.1,b_1.1.1.2.1,()),[],()),true,()),())) (qd (qcp D) fun b_2↦qd (qev D a1 b_2.1.1) fun b_3↦qd (qfi D a0.2.1) fun b_4↦qd (qev D a1 b_4.1.1) fun b_5↦br (decide (a0.1=9)) (qd (qfi D (wrap .i64 (b_3.1.1 - 1))) fun b_6↦qd (qev D a1 b_6.1.1) fun b_7↦br (bif bif decide (a0.1=1) then true else decide (a0.1=2) then true else decide (a0.1=3)) (qd (qrx D a0 a1 b_7.1.1 b_3.1.1) fun b↦some (((false,(0,[],()),b.1.1,()),true,()),())) (qd (qjg D b.1.1.2.1) fun b_8↦lp0 a1 b_3.1.1 b_7.1.1 (b_8.2.1.length:Int) 0 a0 (false,(0,[],()),[],()) (false,(0,[],()),[],()) (b.1.1.1,b_8.2.1,b.1.1.2.2))) (br (bif bif decide (a0.1=1) then true else decide (a0.1=2) then true else decide (a0.1=3)) (qd (qrx D a0 a1 b_5.1.1 b_3.1.1) fun b↦some (((false,(0,[],()),b.1.1,()),true,()),())) (qd (qjg D b.1.1.2.1) fun b_6↦lp0 a1 b_3.1.1 b_5.1.1 (b_6.2.1.length:Int) 0 a0 (false,(0,[],()),[],()) (false,(0,[],()),[],()) (b.1.1.1,b_6.2.1,b.1.1.2.2))))))
def q3s (D:DX)(n:Nat) (a0:tq38) (a1:List tq44):Option tq14:=q24 D n (qv1 D n) a0 a1
def qyr (x0:List tq44) (x1 x2 x3 x4:Int) (x5:tq38) (x6 x7:tq22) (x8:tq24):St:=stq 154 [(1,AV.val yq24 x0),(2,AV.addr 2 []),(4,AV.addr 4 []),(9,AV.val yq34 x1),(11,AV.val yq34 x2),(13,AV.addr 13 []),(95,AV.brw 26 [Stp.snd,Stp.fst] 0),(96,AV.val yq34 x3),(97,AV.val yq34 x4)] [(2,Root.mk yq21 Mk.no x5 true),(4,Root.mk yq11 kq22 x6 true),(13,Root.mk yq11 kq22 x7 true),(26,Root.mk yq12 kq28 x8 true)]
def q7p (a:List tq44) (b:tq38) (c d:tq22):St:=stq 154 [(1,AV.val yq24 a),(2,AV.addr 2 []),(4,AV.addr 4 []),(13,AV.addr 13 [])] [(2,Root.mk yq21 Mk.no b true),(4,Root.mk yq11 kq22 c true),(13,Root.mk yq11 kq22 d true)]
theorem qblq (D:DX)(n:Nat) (K:KT 160):∀ (m:Nat) (x0:List tq44) (x1 x2 x3 x4:Int) (x5:tq38) (x6 x7:tq22) (x8:tq24),LF D n 160 pq7 m (qyr x0 x1 x2 x3 x4 x5 x6 x7 x8) K=qkf D n (fun a b c d=>K (Ex.exit 0) (q7p a b c d)) m x0 x1 x2 x3 x4 x5 x6 x7 x8:=eL9 (fun F=>qys D n F (fun a b c d=>K (Ex.exit 0) (q7p a b c d))) (fun _ _ _ _ _ _ _ _ _ =>q7 ..) (fun _ _ _ _ _ _ _ _ _ _ =>by kernel_rfl) (fun _ _ _ _ _ _ _ _ _ _ =>rfl)
theorem qbio (D:DX)(n:Nat) (x0) (x1) (x2) (x3) (x4) (x5) (x6) (x7) (x8):LF D n 160 pq7 n (qyr x0 x1 x2 x3 x4 x5 x6 x7 x8) (CF D n 160 [] pq7 (lF 160))=qv1 D n x0 x1 x2 x3 x4 x5 x6 x7 x8 :=by rw[qblq];kernel_rfl
theorem qbrn (D:DX)(n:Nat) (a0:tq38) (a1:List tq44):rF D n 160 (a0,(a1,()))=q3s D n a0 a1:=by
 have h:rF D n 160 (a0,(a1,()))=q24 D n (fun x0 x1 x2 x3 x4 x5 x6 x7 x8=>LF D n 160 pq7 n (qyr x0 x1 x2 x3 x4 x5 x6 x7 x8) (CF D n 160 [] pq7 (lF 160))) a0 a1:=by kernel_rfl
 rw[h]
 simp only[qbio]
 rfl

def qbew (D:DX)(n:Nat) (a0:tq12) (a1:Int) (a2:List tq38) (a3:tq41):Option tq8:=let y0:=List.getD a0.2.1 a1.toNat (0,0,[],(0,[],()),());qd (qke D a0) fun b↦qd (qki D a0) fun b_1↦br (!b_1.1.1) (some (((b.1.1.1,b.1.1.2.1,()),(0,0,0,0,()),false,()),())) (qd (qbp D a1 0 (wrap .i64 ((a0.2.1.length:Int) - 1))) fun b_2↦br (!b_2.1.1) (some (((b.1.1.1,b.1.1.2.1,()),(0,0,0,0,()),false,()),())) (qd (qdz D a0.1 (Clo.mk 177 [CapV.rptr yq34 a1])) fun b_3↦br b_3.1.1 (some (((b.1.1.1,b.1.1.2.1,()),(0,0,0,0,()),false,()),())) (br (decide (0≤a1)&&decide (a1<(a0.2.1.length:Int))) (qd (qke D a0) fun b_4↦qd (qda D a2) fun b_5↦qd (qig D a3) fun b_6↦br (decide (0≤a1)&&decide (a1<(b_4.1.1.2.1.length:Int))) (qd (qki D (b_4.1.1.1,List.set b_4.1.1.2.1 a1.toNat (wrap .i64 (y0.1+1),1,b_5.1.1,(b_6.1.1.1,b_6.1.1.2.1,()),()),())) fun b_7↦br (!b_7.1.1) (some (((b.1.1.1,b.1.1.2.1,()),(0,0,0,0,()),false,()),())) (some (((b_4.1.1.1,List.set b_4.1.1.2.1 a1.toNat (wrap .i64 (y0.1+1),1,b_5.1.1,(b_6.1.1.1,b_6.1.1.2.1,()),()),()),(a1,wrap .i64 (y0.1+1),0,0,()),true,()),()))) none) none)))
def q6c (D:DX)(n:Nat) (a0:tq12) (a1:Int) (a2:List tq38) (a3:tq41):Option tq8:=qbew D n a0 a1 a2 a3
theorem qbs0 (D:DX)(n:Nat) (a0:tq12) (a1:Int) (a2:List tq38) (a3:tq41):rF D n 161 (a0,(a1,(a2,(a3,()))))=q6c D n a0 a1 a2 a3:=by kernel_rfl

def qel (D:DX)(n:Nat) (a1:Clo) (go:List tq18→Int→Int→Option tq43) (K0:Int→Option tq43) (K1:Option tq43) (x0:List tq18) (x1 x2:Int):Option tq43:=br (decide (x2<x1)) (br (decide (0≤x2)&&decide (x2<(x0.length:Int))) (qd (qbk ctx D a1 [CapV.val yq9 (List.getD x0 x2.toNat (0,0,[],(0,[],()),()))] Ty.bool) fun b↦br b (K0 x2) (go x0 x1 (wrap .i64 (x2+1)))) none) K1
def qb2 (D:DX)(n:Nat) (a1:Clo) (K0:Int→Option tq43) (K1:Option tq43):Nat→(List tq18)→Int→Int→Option tq43 | 0=>(fun x0 x1 x2=>none) | m+1=>(fun x0 x1 x2=>qel D n a1 (qb2 D n a1 K0 K1 m) K0 K1 x0 x1 x2)
def qd0 (D:DX)(n:Nat) (a1:Clo) (a:Int):Option tq43:=some ((a,()),())
def qdy (D:DX)(n:Nat) (a1:Clo):Option tq43:=some ((-1,()),())
def qei (D:DX)(n:Nat) (a1:Clo):(List tq18)→(Int)→(Int)→Option tq43:=(fun x0 x1 x2=>qb2 D n a1 (fun a=>qd0 D n a1 a) (qdy D n a1) n x0 x1 x2)
def qex (D:DX)(n:Nat) (a1:Clo) (lp0:List tq18→Int→Int→Option tq43) (a0:List tq18):Option tq43:=lp0 a0 (a0.length:Int) 0
def qez (D:DX)(n:Nat) (a0:List tq18) (a1:Clo):Option tq43:=qex D n a1 (qei D n a1) a0
def qet (a1:Clo) (x0:List tq18) (x1 x2:Int):St:=stq 19 [(0,AV.val yq8 x0),(1,AV.cloV a1),(7,AV.val yq34 x1),(8,AV.val yq34 x2)] []
def qhh (a1:Clo) (a:Int):St:=stq 19 [(4,AV.val yq34 a)] []
def qhc (a1:Clo):St:=stq 19 [] []
theorem qns (D:DX)(n:Nat) (a1:Clo) (K:KT 162):∀ (m:Nat) (x0:List tq18) (x1 x2:Int),LF D n 162 pq2 m (qet a1 x0 x1 x2) K=qb2 D n a1 (fun a=>K (Ex.ret) (qhh a1 a)) (K (Ex.exit 0) (qhc a1)) m x0 x1 x2:=eL3 (fun F=>qel D n a1 F (fun a=>K (Ex.ret) (qhh a1 a)) (K (Ex.exit 0) (qhc a1))) (fun _ _ _ =>q7 ..) (fun _ _ _ _ =>by kernel_rfl) (fun _ _ _ _ =>rfl)
theorem qni (D:DX)(n:Nat) (a1:Clo) (x0) (x1) (x2):LF D n 162 pq2 n (qet a1 x0 x1 x2) (CF D n 162 [] pq2 (lF 162))=qei D n a1 x0 x1 x2 :=by rw[qns];kernel_rfl
theorem qpi (D:DX)(n:Nat) (a0:List tq18) (a1:Clo):rF D n 162 (a0,(a1,()))=qez D n a0 a1:=by
 have h:rF D n 162 (a0,(a1,()))=qex D n a1 (fun x0 x1 x2=>LF D n 162 pq2 n (qet a1 x0 x1 x2) (CF D n 162 [] pq2 (lF 162))) a0:=by kernel_rfl
 rw[h]
 simp only[qni]
 rfl

def qfs (D:DX)(n:Nat) (a1:Clo) (go:List tq38→Int→Int→Option tq43) (K0:Int→Option tq43) (K1:Option tq43) (x0:List tq38) (x1 x2:Int):Option tq43:=br (decide (x2<x1)) (br (decide (0≤x2)&&decide (x2<(x0.length:Int))) (qd (qbk ctx D a1 [CapV.val yq21 (List.getD x0 x2.toNat (0,0,0,()))] Ty.bool) fun b↦br b (K0 x2) (go x0 x1 (wrap .i64 (x2+1)))) none) K1
def qca (D:DX)(n:Nat) (a1:Clo) (K0:Int→Option tq43) (K1:Option tq43):Nat→(List tq38)→Int→Int→Option tq43 | 0=>(fun x0 x1 x2=>none) | m+1=>(fun x0 x1 x2=>qfs D n a1 (qca D n a1 K0 K1 m) K0 K1 x0 x1 x2)
def qfc (D:DX)(n:Nat) (a1:Clo) (a:Int):Option tq43:=some ((a,()),())
def qfa (D:DX)(n:Nat) (a1:Clo):Option tq43:=some ((-1,()),())
def qfk (D:DX)(n:Nat) (a1:Clo):(List tq38)→(Int)→(Int)→Option tq43:=(fun x0 x1 x2=>qca D n a1 (fun a=>qfc D n a1 a) (qfa D n a1) n x0 x1 x2)
def qf8 (D:DX)(n:Nat) (a1:Clo) (lp0:List tq38→Int→Int→Option tq43) (a0:List tq38):Option tq43:=lp0 a0 (a0.length:Int) 0
def qf6 (D:DX)(n:Nat) (a0:List tq38) (a1:Clo):Option tq43:=qf8 D n a1 (qfk D n a1) a0
def qfr (a1:Clo) (x0:List tq38) (x1 x2:Int):St:=stq 19 [(0,AV.val yq19 x0),(1,AV.cloV a1),(7,AV.val yq34 x1),(8,AV.val yq34 x2)] []
def qip (a1:Clo) (a:Int):St:=stq 19 [(4,AV.val yq34 a)] []
def qim (a1:Clo):St:=stq 19 [] []
theorem qqv (D:DX)(n:Nat) (a1:Clo) (K:KT 163):∀ (m:Nat) (x0:List tq38) (x1 x2:Int),LF D n 163 pq2 m (qfr a1 x0 x1 x2) K=qca D n a1 (fun a=>K (Ex.ret) (qip a1 a)) (K (Ex.exit 0) (qim a1)) m x0 x1 x2:=eL3 (fun F=>qfs D n a1 F (fun a=>K (Ex.ret) (qip a1 a)) (K (Ex.exit 0) (qim a1))) (fun _ _ _ =>q7 ..) (fun _ _ _ _ =>by kernel_rfl) (fun _ _ _ _ =>rfl)
theorem qqc (D:DX)(n:Nat) (a1:Clo) (x0) (x1) (x2):LF D n 163 pq2 n (qfr a1 x0 x1 x2) (CF D n 163 [] pq2 (lF 163))=qfk D n a1 x0 x1 x2 :=by rw[qqv];kernel_rfl
theorem qtb (D:DX)(n:Nat) (a0:List tq38) (a1:Clo):rF D n 163 (a0,(a1,()))=qf6 D n a0 a1:=by
 have h:rF D n 163 (a0,(a1,()))=qf8 D n a1 (fun x0 x1 x2=>LF D n 163 pq2 n (qfr a1 x0 x1 x2) (CF D n 163 [] pq2 (lF 163))) a0:=by kernel_rfl
 rw[h]
 simp only[qqc]
 rfl

def qer (D:DX)(n:Nat) (a1:Clo) (go:List tq44→Int→Int→Option tq43) (K0:Int→Option tq43) (K1:Option tq43) (x0:List tq44) (x1 x2:Int):Option tq43:=br (decide (x2<x1)) (br (decide (0≤x2)&&decide (x2<(x0.length:Int))) (qd (qbk ctx D a1 [CapV.val yq26 (List.getD x0 x2.toNat (0,0,()))] Ty.bool) fun b↦br b (K0 x2) (go x0 x1 (wrap .i64 (x2+1)))) none) K1
def qb1 (D:DX)(n:Nat) (a1:Clo) (K0:Int→Option tq43) (K1:Option tq43):Nat→(List tq44)→Int→Int→Option tq43 | 0=>(fun x0 x1 x2=>none) | m+1=>(fun x0 x1 x2=>qer D n a1 (qb1 D n a1 K0 K1 m) K0 K1 x0 x1 x2)
def qd2 (D:DX)(n:Nat) (a1:Clo) (a:Int):Option tq43:=some ((a,()),())
def qd1 (D:DX)(n:Nat) (a1:Clo):Option tq43:=some ((-1,()),())
def qed (D:DX)(n:Nat) (a1:Clo):(List tq44)→(Int)→(Int)→Option tq43:=(fun x0 x1 x2=>qb1 D n a1 (fun a=>qd2 D n a1 a) (qd1 D n a1) n x0 x1 x2)
def qe3 (D:DX)(n:Nat) (a1:Clo) (lp0:List tq44→Int→Int→Option tq43) (a0:List tq44):Option tq43:=lp0 a0 (a0.length:Int) 0
def qe4 (D:DX)(n:Nat) (a0:List tq44) (a1:Clo):Option tq43:=qe3 D n a1 (qed D n a1) a0
def qeq (a1:Clo) (x0:List tq44) (x1 x2:Int):St:=stq 19 [(0,AV.val yq24 x0),(1,AV.cloV a1),(7,AV.val yq34 x1),(8,AV.val yq34 x2)] []
def qg7 (a1:Clo) (a:Int):St:=stq 19 [(4,AV.val yq34 a)] []
def qhe (a1:Clo):St:=stq 19 [] []
theorem qn7 (D:DX)(n:Nat) (a1:Clo) (K:KT 164):∀ (m:Nat) (x0:List tq44) (x1 x2:Int),LF D n 164 pq2 m (qeq a1 x0 x1 x2) K=qb1 D n a1 (fun a=>K (Ex.ret) (qg7 a1 a)) (K (Ex.exit 0) (qhe a1)) m x0 x1 x2:=eL3 (fun F=>qer D n a1 F (fun a=>K (Ex.ret) (qg7 a1 a)) (K (Ex.exit 0) (qhe a1))) (fun _ _ _ =>q7 ..) (fun _ _ _ _ =>by kernel_rfl) (fun _ _ _ _ =>rfl)
theorem qnh (D:DX)(n:Nat) (a1:Clo) (x0) (x1) (x2):LF D n 164 pq2 n (qeq a1 x0 x1 x2) (CF D n 164 [] pq2 (lF 164))=qed D n a1 x0 x1 x2 :=by rw[qn7];kernel_rfl
theorem qo9 (D:DX)(n:Nat) (a0:List tq44) (a1:Clo):rF D n 164 (a0,(a1,()))=qe4 D n a0 a1:=by
 have h:rF D n 164 (a0,(a1,()))=qe3 D n a1 (fun x0 x1 x2=>LF D n 164 pq2 n (qeq a1 x0 x1 x2) (CF D n 164 [] pq2 (lF 164))) a0:=by kernel_rfl
 rw[h]
 simp only[qnh]
 rfl

def qek (D:DX)(n:Nat) (a1:Clo) (go:List tq34→Int→Int→Option tq43) (K0:Int→Option tq43) (K1:Option tq43) (x0:List tq34) (x1 x2:Int):Option tq43:=br (decide (x2<x1)) (br (decide (0≤x2)&&decide (x2<(x0.length:Int))) (qd (qbk ctx D a1 [CapV.val yq17 (List.getD x0 x2.toNat (0,0,0,0,()))] Ty.bool) fun b↦br b (K0 x2) (go x0 x1 (wrap .i64 (x2+1)))) none) K1
def qb0 (D:DX)(n:Nat) (a1:Clo) (K0:Int→Option tq43) (K1:Option tq43):Nat→(List tq34)→Int→Int→Option tq43 | 0=>(fun x0 x1 x2=>none) | m+1=>(fun x0 x1 x2=>qek D n a1 (qb0 D n a1 K0 K1 m) K0 K1 x0 x1 x2)
def qd3 (D:DX)(n:Nat) (a1:Clo) (a:Int):Option tq43:=some ((a,()),())
def qdt (D:DX)(n:Nat) (a1:Clo):Option tq43:=some ((-1,()),())
def qec (D:DX)(n:Nat) (a1:Clo):(List tq34)→(Int)→(Int)→Option tq43:=(fun x0 x1 x2=>qb0 D n a1 (fun a=>qd3 D n a1 a) (qdt D n a1) n x0 x1 x2)
def qe5 (D:DX)(n:Nat) (a1:Clo) (lp0:List tq34→Int→Int→Option tq43) (a0:List tq34):Option tq43:=lp0 a0 (a0.length:Int) 0
def qe2 (D:DX)(n:Nat) (a0:List tq34) (a1:Clo):Option tq43:=qe5 D n a1 (qec D n a1) a0
def qen (a1:Clo) (x0:List tq34) (x1 x2:Int):St:=stq 19 [(0,AV.val yq16 x0),(1,AV.cloV a1),(7,AV.val yq34 x1),(8,AV.val yq34 x2)] []
def qhg (a1:Clo) (a:Int):St:=stq 19 [(4,AV.val yq34 a)] []
def qha (a1:Clo):St:=stq 19 [] []
theorem qn9 (D:DX)(n:Nat) (a1:Clo) (K:KT 165):∀ (m:Nat) (x0:List tq34) (x1 x2:Int),LF D n 165 pq2 m (qen a1 x0 x1 x2) K=qb0 D n a1 (fun a=>K (Ex.ret) (qhg a1 a)) (K (Ex.exit 0) (qha a1)) m x0 x1 x2:=eL3 (fun F=>qek D n a1 F (fun a=>K (Ex.ret) (qhg a1 a)) (K (Ex.exit 0) (qha a1))) (fun _ _ _ =>q7 ..) (fun _ _ _ _ =>by kernel_rfl) (fun _ _ _ _ =>rfl)
theorem qm8 (D:DX)(n:Nat) (a1:Clo) (x0) (x1) (x2):LF D n 165 pq2 n (qen a1 x0 x1 x2) (CF D n 165 [] pq2 (lF 165))=qec D n a1 x0 x1 x2 :=by rw[qn9];kernel_rfl
theorem qpj (D:DX)(n:Nat) (a0:List tq34) (a1:Clo):rF D n 165 (a0,(a1,()))=qe2 D n a0 a1:=by
 have h:rF D n 165 (a0,(a1,()))=qe5 D n a1 (fun x0 x1 x2=>LF D n 165 pq2 n (qen a1 x0 x1 x2) (CF D n 165 [] pq2 (lF 165))) a0:=by kernel_rfl
 rw[h]
 simp only[qm8]
 rfl

def qbdq (D:DX)(n:Nat) (a0:Int):Option tq42:=qd (qbo D a0 0 3) fun b↦some ((b.1.1,()),())
def q6i (D:DX)(n:Nat) (a0:Int):Option tq42:=qbdq D n a0
theorem qbti (D:DX)(n:Nat) (a0:Int):rF D n 166 (a0,())=q6i D n a0:=by kernel_rfl

def q9m (D:DX)(n:Nat) (a0:Int):Option tq43:=qd (qjf D a0) fun b↦br (!b.1.1) (some ((-1,()),())) (some ((Int.tmod a0 3,()),()))
def qz2 (D:DX)(n:Nat) (a0:Int):Option tq43:=q9m D n a0
theorem qbmt (D:DX)(n:Nat) (a0:Int):rF D n 167 (a0,())=qz2 D n a0:=by kernel_rfl

def qble (D:DX)(n:Nat) (a0:tq12) (a1:tq34):Option tq7:=let y1:=List.getD a0.2.1 a1.1.toNat (0,0,[],(0,[],()),());let y0:=List.getD y1.2.2.1 a1.2.2.1.toNat (0,0,0,());let y2:=List.getD a0.1 (Int.toNat y0.1) (0,0,0,());br (decide (0≤a1.1)&&decide (a1.1<(a0.2.1.length:Int))) (br (decide (a1.2.2.1≥(y1.2.2.1.length:Int))) (some ((a1,(0,0,0,0,()),3,()),(a0.1,List.set a0.2.1 a1.1.toNat (y1.1,2,y1.2.2),a0.2.2),())) (br (decide (0≤a1.2.2.1)&&decide (a1.2.2.1<(y1.2.2.1.length:Int))) (br (decide (0≤y0.1)&&decide (y0.1<(a0.1.length:Int))) (br (qkv yq21 y2 (0,wrap .i64 (a1.1+1),a1.2.1,())) (some (((a1.1,a1.2.1,wrap .i64 (a1.2.2.1+1),a1.2.2.2),(0,0,0,0,()),0,()),a0,())) (br (y2.2.1 != 0) (some ((a1,(wrap .i64 (y2.2.1 - 1),y2.2.2.1,0,0,()),1,()),a0,())) (br (decide (y2.1=y0.2.1)) (some (((a1.1,a1.2.1,wrap .i64 (a1.2.2.1+1),a1.2.2.2),(0,0,0,0,()),0,()),(List.set a0.1 (Int.toNat y0.1) (0,wrap .i64 (a1.1+1),a1.2.1,()),a0.2),())) (some ((a1,(0,0,0,0,()),0,()),(a0.1,List.set a0.2.1 a1.1.toNat (y1.1,3,y1.2.2),a0.2.2),()))))) none) none)) none
def qbbe (D:DX)(n:Nat) (a0:tq12) (a1:tq34):Option tq7:=qble D n a0 a1
theorem qbyp (D:DX)(n:Nat) (a0:tq12) (a1:tq34):rF D n 168 (a0,(a1,()))=qbbe D n a0 a1:=by kernel_rfl

def qho (D:DX)(n:Nat) (go:Int→Int→tq5→Option tq2) (K0:Int→tq5→Option tq2) (K1:tq5→Option tq2) (x0 x1:Int) (x2:tq5):Option tq2:=br (decide (x1≥0)) (br (decide (0≤x1)&&decide (x1<(x2.2.2.2.1.length:Int))) (br (decide ((List.getD x2.2.2.2.1 x1.toNat (0,(0,0,0,()),0,0,0,(0,[],()),())).1=x0)) (br (decide (0≤x1)&&decide (x1<(x2.2.2.2.1.length:Int))) (br (decide ((List.getD x2.2.2.2.1 x1.toNat (0,(0,0,0,()),0,0,0,(0,[],()),())).2.2.2.2.1<0)) (K0 x1 x2) (go x0 (wrap .i64 (x1 - 1)) x2)) none) (go x0 (wrap .i64 (x1 - 1)) x2)) none) (K1 x2)
def qdi (D:DX)(n:Nat) (K0:Int→tq5→Option tq2) (K1:tq5→Option tq2):Nat→Int→Int→tq5→Option tq2 | 0=>(fun x0 x1 x2=>none) | m+1=>(fun x0 x1 x2=>qho D n (qdi D n K0 K1 m) K0 K1 x0 x1 x2)
def q21 (D:DX)(n:Nat) (a:Int) (b:tq5):Option tq2:=some ((a,()),b,())
def q26 (D:DX)(n:Nat) (a:tq5):Option tq2:=some ((-1,()),a,())
def qj0 (D:DX)(n:Nat):(Int)→(Int)→tq5→Option tq2:=(fun x0 x1 x2=>qdi D n (fun a b=>q21 D n a b) (fun c=>q26 D n c) n x0 x1 x2)
def qk1 (D:DX)(n:Nat) (lp0:Int→Int→tq5→Option tq2) (a0:tq5) (a1:Int):Option tq2:=lp0 a1 (wrap .i64 ((a0.2.2.2.1.length:Int) - 1)) a0
def qk4 (D:DX)(n:Nat) (a0:tq5) (a1:Int):Option tq2:=qk1 D n (qj0 D n) a0 a1
def qkp (x0 x1:Int) (x2:tq5):St:=stq 38 [(0,AV.addr 0 []),(1,AV.val yq34 x0),(5,AV.val yq34 x1)] [(0,Root.mk yq0 kq15 x2 true)]
def qos (a:Int) (b:tq5):St:=stq 38 [(0,AV.addr 0 []),(4,AV.val yq34 a)] [(0,Root.mk yq0 kq15 b true)]
def qop (a:tq5):St:=stq 38 [(0,AV.addr 0 [])] [(0,Root.mk yq0 kq15 a true)]
theorem q44 (D:DX)(n:Nat) (K:KT 169):∀ (m:Nat) (x0 x1:Int) (x2:tq5),LF D n 169 pq2 m (qkp x0 x1 x2) K=qdi D n (fun a b=>K (Ex.ret) (qos a b)) (fun c=>K (Ex.exit 0) (qop c)) m x0 x1 x2:=eL3 (fun F=>qho D n F (fun a b=>K (Ex.ret) (qos a b)) (fun c=>K (Ex.exit 0) (qop c))) (fun _ _ _ =>q7 ..) (fun _ _ _ _ =>by kernel_rfl) (fun _ _ _ _ =>rfl)
theorem q3a (D:DX)(n:Nat) (x0) (x1) (x2):LF D n 169 pq2 n (qkp x0 x1 x2) (CF D n 169 [] pq2 (lF 169))=qj0 D n x0 x1 x2 :=by rw[q44];kernel_rfl
theorem q7u (D:DX)(n:Nat) (a0:tq5) (a1:Int):rF D n 169 (a0,(a1,()))=qk4 D n a0 a1:=by
 have h:rF D n 169 (a0,(a1,()))=qk1 D n (fun x0 x1 x2=>LF D n 169 pq2 n (qkp x0 x1 x2) (CF D n 169 [] pq2 (lF 169))) a0 a1:=by kernel_rfl
 rw[h]
 simp only[q3a]
 rfl

def qoh (D:DX)(n:Nat) (go:Int→tq24→Option tq19) (K0:tq24→Option tq19) (x0:Int) (x1:tq24):Option tq19:=br (decide (x0<4)) (qd (qfi D x0) fun b↦qd (qu D x1 b.1.1) fun b↦go (wrap .i64 (x0+1)) b.2.1) (K0 x1)
def qhw (D:DX)(n:Nat) (K0:tq24→Option tq19):Nat→Int→tq24→Option tq19 | 0=>(fun x0 x1=>none) | m+1=>(fun x0 x1=>qoh D n (qhw D n K0 m) K0 x0 x1)
def q8b (D:DX)(n:Nat) (a:tq24):Option tq19:=some ((a,()),())
def qyv (D:DX)(n:Nat):(Int)→tq24→Option tq19:=(fun x0 x1=>qhw D n (fun a=>q8b D n a) n x0 x1)
def q5n (D:DX)(n:Nat) (lp0:Int→tq24→Option tq19) (a0:tq38) (a1:List tq44):Option tq19:=let y0:Option tq19:=br (decide (a0.1=4)) (qd (qfi D a0.2.1) fun b↦qd (qu D (a1,[],-1,false,()) b.1.1) fun b↦some ((b.2.1,()),())) (br (decide (a0.1=5)) (qd (qdo D a0.2.2.1) fun b↦qd (qu D (a1,[],-1,false,()) b.1.1) fun b↦some ((b.2.1,()),())) (br (decide (a0.1=6)) (qd (qdn D a0.2.1) fun b↦qd (qu D (a1,[],-1,false,()) b.1.1) fun b↦some ((b.2.1,()),())) (br (decide (a0.1=7)) (lp0 0 (a1,[],-1,false,())) (br (decide (a0.1=8)) (qd (qcp D) fun b↦qd (qu D (a1,[],-1,false,()) b.1.1) fun b↦some ((b.2.1,()),())) (br (decide (a0.1=9)) (qd (qcp D) fun b↦qd (qu D (a1,[],-1,false,()) b.1.1) fun b↦qd (qb8 D b.2.1 (bif decide (b.1.1<1) then true else decide (b.1.1>4))) fun b_1↦qd (qfi D (wrap .i64 (b.1.1 - 1))) fun b↦qd (qu D b_1.2.1 b.1.1) fun b↦qd (qgj D b.1.1) fun b_2↦qd (qb8 D b.2.1 !b_2.1.1) fun b_3↦qd (qeo D b.1.1) fun b↦qd (qu D b_3.2.1 b.1.1) fun b↦some ((b.2.1,()),())) (br (decide (a0.1=10)) (qd (qcp D) fun b↦qd (qu D (a1,[],-1,false,()) b.1.1) fun b↦qd (qb8 D b.2.1 (b.1.1 != 5)) fun b↦qd (qeo D a0.2.2.1) fun b_1↦qd (qu D b.2.1 b_1.1.1) fun b↦some ((b.2.1,()),())) (some (((a1,[],-1,false,()),()),()))))))));let y1:Option tq19:=qd (qh1 D (a1,[],-1,false,()) a0) fun b↦some ((b.2.1,()),());br (decide (a0.1=1)) (br (decide (a0.1=1)) y1 y0) (br (decide (a0.1=2)) (br (decide (a0.1=2)) y1 y0) (br (decide (a0.1=3)) y1 y0))
def q57 (D:DX)(n:Nat) (a0:tq38) (a1:List tq44):Option tq19:=q5n D n (qyv D n) a0 a1
def q2q (x0:Int) (x1:tq24):St:=stq 100 [(5,AV.addr 12 []),(45,AV.val yq34 x0)] [(12,Root.mk yq12 kq28 x1 true)]
def q8n (a:tq24):St:=stq 100 [(5,AV.addr 12 [])] [(12,Root.mk yq12 kq28 a true)]
theorem qbm9 (D:DX)(n:Nat) (K:KT 170):∀ (m:Nat) (x0:Int) (x1:tq24),LF D n 170 pq5 m (q2q x0 x1) K=qhw D n (fun a=>K (Ex.exit 1) (q8n a)) m x0 x1:=eL2 (fun F=>qoh D n F (fun a=>K (Ex.exit 1) (q8n a))) (fun _ _ =>q7 ..) (fun _ _ _ =>by kernel_rfl) (fun _ _ _ =>rfl)
theorem qbkh (D:DX)(n:Nat) (x0) (x1):LF D n 170 pq5 n (q2q x0 x1) (CF D n 170 [] pq5 (lF 170))=qyv D n x0 x1 :=by rw[qbm9];kernel_rfl
theorem qbr4 (D:DX)(n:Nat) (a0:tq38) (a1:List tq44):rF D n 170 (a0,(a1,()))=q57 D n a0 a1:=by
 have h:rF D n 170 (a0,(a1,()))=q5n D n (fun x0 x1=>LF D n 170 pq5 n (q2q x0 x1) (CF D n 170 [] pq5 (lF 170))) a0 a1:=by kernel_rfl
 rw[h]
 simp only[qbkh]
 rfl

def qbcl (D:DX)(n:Nat) (a0:tq38) (a1:List tq44):Option ((tq41×tq45)×Unit):=qd (qfi D a0.2.1) fun b↦qd (qev D a1 b.1.1) fun b↦qd (qdo D a0.2.2.1) fun b_1↦qd (qev D a1 b_1.1.1) fun b_2↦qd (qcp D) fun b_3↦qd (qev D a1 b_3.1.1) fun b_4↦br (bif decide (a0.1=1) then b.1.1 != 0 else false) (some (((1,[],()),true,()),())) (br (bif decide (a0.1=1) then b_2.1.1 != 0 else false) (some (((2,[],()),true,()),())) (br (bif bif bif decide (a0.1=2) then true else decide (a0.1=3) then true else decide (a0.1=4) then decide (b.1.1=0) else false) (some (((3,[],()),true,()),())) (br (bif decide (a0.1=2) then decide (b.1.1=a0.2.2.1) else false) (some (((0,[],()),true,()),())) (br (bif decide (a0.1=2) then b_2.1.1 != 0 else false) (some (((2,[],()),true,()),())) (br (decide (a0.1=4)) (some (((0,[b.1.1],()),true,()),())) (br (bif decide (a0.1=5) then decide (b_2.1.1=0) else false) (some (((3,[],()),true,()),())) (br (decide (a0.1=5)) (some (((0,[wrap .i64 (b_2.1.1 - 1)],()),true,()),())) (br (decide (a0.1=6)) (qd (qdn D a0.2.1) fun b↦qd (qev D a1 b.1.1) fun b↦some (((0,[b.1.1],()),true,()),())) (br (bif decide (a0.1=8) then b_4.1.1 != 0 else false) (br (bif decide (a0.1=8) then b_4.1.1 != 0 else false) (some (((4,[],()),true,()),())) (some (((0,[],()),false,()),()))) (br (bif decide (a0.1=9) then bif decide (b_4.1.1<1) then true else decide (b_4.1.1>4) else false) (br (bif decide (a0.1=9) then bif decide (b_4.1.1<1) then true else decide (b_4.1.1>4) else false) (some (((4,[],()),true,()),())) (some (((0,[],()),false,()),()))) (br (bif decide (a0.1=10) then b_4.1.1 != 5 else false) (some (((4,[],()),true,()),())) (some (((0,[],()),false,()),())))))))))))))
def q25 (D:DX)(n:Nat) (a0:tq38) (a1:List tq44):Option ((tq41×tq45)×Unit):=qbcl D n a0 a1
theorem qbq6 (D:DX)(n:Nat) (a0:tq38) (a1:List tq44):rF D n 171 (a0,(a1,()))=q25 D n a0 a1:=by kernel_rfl

def q5h (D:DX)(n:Nat) (go:List tq44→Int→Int→Option tq36) (K0:Int→Bool→Option tq36) (K1:Option tq36) (x0:List tq44) (x1 x2:Int):Option tq36:=br (decide (x2≥0)) (br (decide (0≤x2)&&decide (x2<(x0.length:Int))) (br (decide ((List.getD x0 x2.toNat (0,0,())).1=x1)) (br (decide (0≤x2)&&decide (x2<(x0.length:Int))) (K0 (List.getD x0 x2.toNat (0,0,())).2.1 true) none) (go x0 x1 (wrap .i64 (x2 - 1)))) none) K1
def qrg (D:DX)(n:Nat) (K0:Int→Bool→Option tq36) (K1:Option tq36):Nat→(List tq44)→Int→Int→Option tq36 | 0=>(fun x0 x1 x2=>none) | m+1=>(fun x0 x1 x2=>q5h D n (qrg D n K0 K1 m) K0 K1 x0 x1 x2)
def qba7 (D:DX)(n:Nat) (a:Int) (b:Bool):Option tq36:=some ((a,b,()),())
def qbat (D:DX)(n:Nat):Option tq36:=some ((0,false,()),())
def q3i (D:DX)(n:Nat):(List tq44)→(Int)→(Int)→Option tq36:=(fun x0 x1 x2=>qrg D n (fun a b=>qba7 D n a b) (qbat D n) n x0 x1 x2)
def q9a (D:DX)(n:Nat) (lp0:List tq44→Int→Int→Option tq36) (a0:List tq44) (a1:Int):Option tq36:=lp0 a0 a1 (wrap .i64 ((a0.length:Int) - 1))
def q87 (D:DX)(n:Nat) (a0:List tq44) (a1:Int):Option tq36:=q9a D n (q3i D n) a0 a1
def q7h (x0:List tq44) (x1 x2:Int):St:=stq 26 [(0,AV.val yq24 x0),(1,AV.val yq34 x1),(6,AV.val yq34 x2)] []
def q98 (a:Int) (b:Bool):St:=stq 26 [(4,AV.val yq34 a),(5,AV.val Ty.bool b)] []
def qbae:St:=stq 26 [] []
theorem qbq0 (D:DX)(n:Nat) (K:KT 172):∀ (m:Nat) (x0:List tq44) (x1 x2:Int),LF D n 172 pq2 m (q7h x0 x1 x2) K=qrg D n (fun a b=>K (Ex.ret) (q98 a b)) (K (Ex.exit 0) (qbae)) m x0 x1 x2:=eL3 (fun F=>q5h D n F (fun a b=>K (Ex.ret) (q98 a b)) (K (Ex.exit 0) (qbae))) (fun _ _ _ =>q7 ..) (fun _ _ _ _ =>by kernel_rfl) (fun _ _ _ _ =>rfl)
theorem qboc (D:DX)(n:Nat) (x0) (x1) (x2):LF D n 172 pq2 n (q7h x0 x1 x2) (CF D n 172 [] pq2 (lF 172))=q3i D n x0 x1 x2 :=by rw[qbq0];kernel_rfl
theorem qbvf (D:DX)(n:Nat) (a0:List tq44) (a1:Int):rF D n 172 (a0,(a1,()))=q87 D n a0 a1:=by
 have h:rF D n 172 (a0,(a1,()))=q9a D n (fun x0 x1 x2=>LF D n 172 pq2 n (q7h x0 x1 x2) (CF D n 172 [] pq2 (lF 172))) a0 a1:=by kernel_rfl
 rw[h]
 simp only[qboc]
 rfl

def qbey (D:DX)(n:Nat) (a0:Int):Option tq43:=qd (qqr D a0) fun b↦qd (qlb D b.1.1 a0) fun b↦some ((b.1.1,()),())
def q61 (D:DX)(n:Nat) (a0:Int):Option tq43:=qbey D n a0
theorem qbsw (D:DX)(n:Nat) (a0:Int):rF D n 173 (a0,())=q61 D n a0:=by kernel_rfl

def qbax (D:DX)(n:Nat) (a0:tq38) (a1:List tq44) (a2 a3:Int):Option tq29:=qd (qfi D a0.2.1) fun b↦qd (qcv D b.1.1 a0.2.2.1 0 a1 []) fun b↦qd (qcp D) fun b_1↦qd (qcv D b_1.1.1 a3 0 a1 b.2.1) fun b↦qd (qdo D a2) fun b_2↦qd (qcv D b_2.1.1 0 0 a1 b.2.1) fun b↦qd (qeo D a2) fun b_3↦qd (qcv D b_3.1.1 0 0 a1 b.2.1) fun b↦qd (qdo D a0.2.2.1) fun b_4↦qd (qcv D b_4.1.1 (wrap .i64 (a0.2.1+1)) 0 a1 b.2.1) fun b↦qd (qeo D a0.2.2.1) fun b_5↦qd (qcv D b_5.1.1 (wrap .i64 (a0.2.1+1)) 0 a1 b.2.1) fun b↦qd (qcq D a2) fun b_6↦qd (qcq D a0.2.2.1) fun b_7↦br (b_6.1.1 != b_7.1.1) (qd (qcq D a2) fun b_8↦qd (qdn D b_8.1.1) fun b_9↦qd (qcv D b_9.1.1 0 (-1) a1 b.2.1) fun b↦qd (qcq D a0.2.2.1) fun b_10↦qd (qdn D b_10.1.1) fun b_11↦qd (qcv D b_11.1.1 0 1 a1 b.2.1) fun b↦qd (qc5 D b.2.1 (Clo.mk 183 [])) fun b↦some ((b.2.1,()),())) (qd (qc5 D b.2.1 (Clo.mk 183 [])) fun b↦some ((b.2.1,()),()))
def qzi (D:DX)(n:Nat) (a0:tq38) (a1:List tq44) (a2 a3:Int):Option tq29:=qbax D n a0 a1 a2 a3
theorem qbmf (D:DX)(n:Nat) (a0:tq38) (a1:List tq44) (a2 a3:Int):rF D n 174 (a0,(a1,(a2,(a3,()))))=qzi D n a0 a1 a2 a3:=by kernel_rfl

def qvl (D:DX)(n:Nat) (a0:List Int):Option tq39:=qd (qp6 D (wrap .u64 (a0.length:Int))) fun b↦qd (qj D a0 0 (a0.length:Int) b.1.1) fun b↦some ((),b.2.1,())
def qmn (D:DX)(n:Nat) (a0:List Int):Option tq39:=qvl D n a0
theorem qba8 (D:DX)(n:Nat) (a0:List Int):rF D n 175 (a0,())=qmn D n a0:=by kernel_rfl

def qbcp (D:DX)(n:Nat) (a0:tq38) (a1 a2 a3 a4:Int):Option tq43:=br (decide (a0.1=8)) (some ((wrap .i64 (a2+1),()),())) (br (decide (a0.1=9)) (qd (qcp D) fun b↦br (decide (a1=b.1.1)) (some ((wrap .i64 (a2+1),()),())) (qd (qeo D a3) fun b↦br (decide (a1=b.1.1)) (some ((a4,()),())) (some ((a2,()),())))) (some ((a2,()),())))
def q3e (D:DX)(n:Nat) (a0:tq38) (a1 a2 a3 a4:Int):Option tq43:=qbcp D n a0 a1 a2 a3 a4
theorem qbrm (D:DX)(n:Nat) (a0:tq38) (a1 a2 a3 a4:Int):rF D n 176 (a0,(a1,(a2,(a3,(a4,())))))=q3e D n a0 a1 a2 a3 a4:=by kernel_rfl

def q9p (D:DX)(n:Nat) (a0:tq38) (a1:Int):Option tq42:=some ((decide (a0.2.1=wrap .i64 (a1+1)),()),())
def q02 (D:DX)(n:Nat) (a0:tq38) (a1:Int):Option tq42:=q9p D n a0 a1
theorem qbno (D:DX)(n:Nat) (a0:tq38) (a1:Int):rF D n 177 (a0,(a1,()))=q02 D n a0 a1:=by kernel_rfl

def qkw (D:DX)(n:Nat) (a0:tq24) (a1:tq38):Option tq21:=qd (qfi D a1.2.1) fun b↦qd (qu D a0 b.1.1) fun b↦br (decide (a1.1=1)) (qd (qb8 D b.2.1 (b.1.1 != 0)) fun b↦qd (qdo D a1.2.2.1) fun b_1↦qd (qu D b.2.1 b_1.1.1) fun b↦qd (qb8 D b.2.1 (b.1.1 != 0)) fun b↦qd (qcq D a1.2.2.1) fun b_2↦qd (qdn D b_2.1.1) fun b_3↦qd (qu D b.2.1 b_3.1.1) fun b↦qd (qgs D b.2.1 a1.2.1 [a1.2.2.1]) fun b↦some ((),b.2.1,())) (br (decide (a1.1=2)) (qd (qb8 D b.2.1 (bif decide (b.1.1=0) then true else decide (b.1.1=a1.2.2.1))) fun b_1↦qd (qdo D a1.2.2.1) fun b_2↦qd (qu D b_1.2.1 b_2.1.1) fun b_3↦qd (qb8 D b_3.2.1 (b_3.1.1 != 0)) fun b_4↦qd (qdo D b.1.1) fun b_5↦qd (qu D b_4.2.1 b_5.1.1) fun b_6↦qd (qcq D b.1.1) fun b_7↦qd (qcq D a1.2.2.1) fun b_8↦br (b_7.1.1 != b_8.1.1) (qd (qcq D b.1.1) fun b_9↦qd (qdn D b_9.1.1) fun b_10↦qd (qu D b_6.2.1 b_10.1.1) fun b_11↦qd (qcq D a1.2.2.1) fun b_12↦qd (qdn D b_12.1.1) fun b_13↦qd (qu D b_11.2.1 b_13.1.1) fun b_14↦qd (qgs D b_14.2.1 a1.2.1 [b.1.1,a1.2.2.1]) fun b↦some ((),b.2.1,())) (qd (qgs D b_6.2.1 a1.2.1 [b.1.1,a1.2.2.1]) fun b↦some ((),b.2.1,()))) (qd (qb8 D b.2.1 (decide (b.1.1=0))) fun b_1↦qd (qdo D b.1.1) fun b_2↦qd (qu D b_1.2.1 b_2.1.1) fun b_3↦qd (qcq D b.1.1) fun b_4↦qd (qdn D b_4.1.1) fun b_5↦qd (qu D b_3.2.1 b_5.1.1) fun b_6↦qd (qgs D b_6.2.1 a1.2.1 [b.1.1]) fun b↦some ((),b.2.1,())))
def qh3 (D:DX)(n:Nat) (a0:tq24) (a1:tq38):Option tq21:=qkw D n a0 a1
theorem qbc5 (D:DX)(n:Nat) (a0:tq24) (a1:tq38):rF D n 178 (a0,(a1,()))=qh3 D n a0 a1:=by kernel_rfl

def qny (D:DX)(n:Nat) (a0:tq24) (a1:Int):Option ((Int×Unit)×tq23):=br a0.2.2.2.1 (some ((0,()),a0,())) (qd (qev D a0.1 a1) fun b↦br (bif decide (a1<0) then true else !b.1.2.1) (some ((0,()),(a0.1,a0.2.1,a1,true,a0.2.2.2.2),())) (br (decide (a0.2.1.length+1≤qb7)) (some ((b.1.1,()),(a0.1,a0.2.1++[a1],a0.2.2),())) none))
def qku (D:DX)(n:Nat) (a0:tq24) (a1:Int):Option ((Int×Unit)×tq23):=qny D n a0 a1
theorem qbji (D:DX)(n:Nat) (a0:tq24) (a1:Int):rF D n 179 (a0,(a1,()))=qku D n a0 a1:=by kernel_rfl

def qbhd (D:DX)(n:Nat) (a0:tq24) (a1:Bool):Option tq21:=some ((),(a0.1,a0.2.1,a0.2.2.1,bif a0.2.2.2.1 then true else a1,a0.2.2.2.2),())
def q3v (D:DX)(n:Nat) (a0:tq24) (a1:Bool):Option tq21:=qbhd D n a0 a1
theorem qbgp (D:DX)(n:Nat) (a0:tq24) (a1:Bool):rF D n 180 (a0,(a1,()))=q3v D n a0 a1:=by kernel_rfl

def qnq (D:DX)(n:Nat) (a0 a1 a2:Int) (a3:List tq44) (a4:List tq38):Option tq30:=qd (qev D a3 a0) fun b↦br (bif decide (a0<0) then true else !b.1.2.1) (some ((),a4,())) (br (decide (a2=1)) (br (decide (a4.length+1≤qb7)) (some ((),a4++[(a0,b.1.1,wrap .i64 (b.1.1+1),())],())) none) (br (decide (a2 = -1)) (br (decide (a4.length+1≤qb7)) (some ((),a4++[(a0,b.1.1,if wrap .i64 (b.1.1 - 1)>0 then wrap .i64 (b.1.1 - 1) else 0,())],())) none) (br (decide (a4.length+1≤qb7)) (some ((),a4++[(a0,b.1.1,a1,())],())) none)))
def qkk (D:DX)(n:Nat) (a0 a1 a2:Int) (a3:List tq44) (a4:List tq38):Option tq30:=qnq D n a0 a1 a2 a3 a4
theorem qbiv (D:DX)(n:Nat) (a0 a1 a2:Int) (a3:List tq44) (a4:List tq38):rF D n 181 (a0,(a1,(a2,(a3,(a4,())))))=qkk D n a0 a1 a2 a3 a4:=by kernel_rfl

def qhy (D:DX)(n:Nat) (a1:Clo) (a0:List tq38):Option tq30:=qd (qp6 D (wrap .u64 (a0.length:Int))) fun b↦qd (qf D a0 0 (a0.length:Int) b.1.1 a1) fun b↦some ((),b.2.1,())
def qes (D:DX)(n:Nat) (a0:List tq38) (a1:Clo):Option tq30:=qhy D n a1 a0
theorem qov (D:DX)(n:Nat) (a0:List tq38) (a1:Clo):rF D n 182 (a0,(a1,()))=qes D n a0 a1:=by kernel_rfl

def q6s (D:DX)(n:Nat) (a0 a1:tq38):Option tq43:=some ((wrap .i64 (a0.1 - a1.1),()),())
def qux (D:DX)(n:Nat) (a0 a1:tq38):Option tq43:=q6s D n a0 a1
theorem qbjg (D:DX)(n:Nat) (a0 a1:tq38):rF D n 183 (a0,(a1,()))=qux D n a0 a1:=by kernel_rfl

def qid (D:DX)(n:Nat) (go:Int→Int→Int→Bool→Bool→List Int→Option tq39) (K0:List Int→Option tq39) (x0 x1 x2:Int) (x3 x4:Bool) (x5:List Int):Option tq39:=let y0:=wrap .i64 (x2 - 1);let y1:=wrap .i64 (x1 - x0);let y2:=Int.toNat (wrap .i64 (x0 - 1));br (decide (y1≤12)) (qd (qj2 D x5 x0 x1) fun b↦K0 b.2.1) (br (decide (x2=0)) (qd (q0w D x5 x0 x1) fun b↦K0 b.2.1) (br (!x3) (qd (qtp D x5 x0 x1) fun b↦qd (qkz D b.2.1 x0 x1) fun b_1↦br (decide (b_1.1.2.1=2)) (qd (qkj D b.2.1 x0 x1) fun b↦br (bif bif x3 then x4 else false then true else false) (qd (qc2 D b.2.1 x0 x1) fun b↦br b.1.1 (K0 b.2.1) (br (decide (x0>0)) (br (decide (0≤wrap .i64 (x0 - 1))&&decide (wrap .i64 (x0 - 1)<(b.2.1.length:Int))) (br (decide (0≤wrap .i64 (wrap .i64 (x1 - 1) - wrap .i64 (b_1.1.1 - x0)))&&decide (wrap .i64 (wrap .i64 (x1 - 1) - wrap .i64 (b_1.1.1 - x0))<(b.2.1.length:Int))) (qd (qdr D (List.getD b.2.1 y2 0) (List.getD b.2.1 (Int.toNat (wrap .i64 (wrap .i64 (x1 - 1) - wrap .i64 (b_1.1.1 - x0)))) 0)) fun b_2↦let a:=wrap .i64 (wrap .i64 (x1 - 1) - wrap .i64 (b_1.1.1 - x0));br (!b_2.1.1) (qd (qbr D b.2.1 x0 x1 a) fun b↦go b.1.1 x1 y0 x3 x4 b.2.1) (qd (qw D b.2.1 x0 x1 a) fun b↦br (decide (wrap .i64 (b.1.1 - x0)<wrap .i64 (x1 - b.1.1))) (qd (qj D b.2.1 x0 b.1.1 y0) fun b_3↦go (wrap .i64 (b.1.1+1)) x1 y0 (decide (wrap .i64 (b.1.1 - x0)≥wrap .i64 (Int.tdiv y1 8))) b.1.2.1 b_3.2.1) (qd (qj D b.2.1 (wrap .i64 (b.1.1+1)) x1 y0) fun b_3↦go x0 b.1.1 y0 (decide (wrap .i64 (x1 - b.1.1)≥wrap .i64 (Int.tdiv y1 8))) b.1.2.1 b_3.2.1))) none) none) (qd (qw D b.2.1 x0 x1 (wrap .i64 (wrap .i64 (x1 - 1) - wrap .i64 (b_1.1.1 - x0)))) fun b↦br (decide (wrap .i64 (b.1.1 - x0)<wrap .i64 (x1 - b.1.1))) (qd (qj D b.2.1 x0 b.1.1 y0) fun b_2↦go (wrap .i64 (b.1.1+1)) x1 y0 (decide (wrap .i64 (b.1.1 - x0)≥wrap .i64 (Int.tdiv y1 8))) b.1.2.1 b_2.2.1) (qd (qj D b.2.1 (wrap .i64 (b.1.1+1)) x1 y0) fun b_2↦go x0 b.1.1 y0 (decide (wrap .i64 (x1 - b.1.1)≥wrap .i64 (Int.tdiv y1 8))) b.1.2.1 b_2.2.1)))) (br (decide (x0>0)) (br (decide (0≤wrap .i64 (x0 - 1))&&decide (wrap .i64 (x0 - 1)<(b.2.1.length:Int))) (br (decide (0≤wrap .i64 (wrap .i64 (x1 - 1) - wrap .i64 (b_1.1.1 - x0)))&&decide (wrap .i64 (wrap .i64 (x1 - 1) - wrap .i64 (b_1.1.1 - x0))<(b.2.1.length:Int))) (qd (qdr D (List.getD b.2.1 y2 0) (List.getD b.2.1 (Int.toNat (wrap .i64 (wrap .i64 (x1 - 1) - wrap .i64 (b_1.1.1 - x0)))) 0)) fun b_2↦let c:=wrap .i64 (wrap .i64 (x1 - 1) - wrap .i64 (b_1.1.1 - x0));br (!b_2.1.1) (qd (qbr D b.2.1 x0 x1 c) fun b↦go b.1.1 x1 y0 x3 x4 b.2.1) (qd (qw D b.2.1 x0 x1 c) fun b↦br (decide (wrap .i64 (b.1.1 - x0)<wrap .i64 (x1 - b.1.1))) (qd (qj D b.2.1 x0 b.1.1 y0) fun b_3↦go (wrap .i64 (b.1.1+1)) x1 y0 (decide (wrap .i64 (b.1.1 - x0)≥wrap .i64 (Int.tdiv y1 8))) b.1.2.1 b_3.2.1) (qd (qj D b.2.1 (wrap .i64 (b.1.1+1)) x1 y0) fun b_3↦go x0 b.1.1 y0 (decide (wrap .i64 (x1 - b.1.1)≥wrap .i64 (Int.tdiv y1 8))) b.1.2.1 b_3.2.1))) none) none) (qd (qw D b.2.1 x0 x1 (wrap .i64 (wrap .i64 (x1 - 1) - wrap .i64 (b_1.1.1 - x0)))) fun b↦br (decide (wrap .i64 (b.1.1 - x0)<wrap .i64 (x1 - b.1.1))) (qd (qj D b.2.1 x0 b.1.1 y0) fun b_2↦go (wrap .i64 (b.1.1+1)) x1 y0 (decide (wrap .i64 (b.1.1 - x0)≥wrap .i64 (Int.tdiv y1 8))) b.1.2.1 b_2.2.1) (qd (qj D b.2.1 (wrap .i64 (b.1.1+1)) x1 y0) fun b_2↦go x0 b.1.1 y0 (decide (wrap .i64 (x1 - b.1.1)≥wrap .i64 (Int.tdiv y1 8))) b.1.2.1 b_2.2.1)))) (br (bif bif x3 then x4 else false then decide (b_1.1.2.1=1) else false) (qd (qc2 D b.2.1 x0 x1) fun b↦br b.1.1 (K0 b.2.1) (br (decide (x0>0)) (br (decide (0≤wrap .i64 (x0 - 1))&&decide (wrap .i64 (x0 - 1)<(b.2.1.length:Int))) (br (decide (0≤b_1.1.1)&&decide (b_1.1.1<(b.2.1.length:Int))) (qd (qdr D (List.getD b.2.1 y2 0) (List.getD b.2.1 b_1.1.1.toNat 0)) fun b_2↦br (!b_2.1.1) (qd (qbr D b.2.1 x0 x1 b_1.1.1) fun b↦go b.1.1 x1 y0 x3 x4 b.2.1) (qd (qw D b.2.1 x0 x1 b_1.1.1) fun b↦br (decide (wrap .i64 (b.1.1 - x0)<wrap .i64 (x1 - b.1.1))) (qd (qj D b.2.1 x0 b.1.1 y0) fun b_3↦go (wrap .i64 (b.1.1+1)) x1 y0 (decide (wrap .i64 (b.1.1 - x0)≥wrap .i64 (Int.tdiv y1 8))) b.1.2.1 b_3.2.1) (qd (qj D b.2.1 (wrap .i64 (b.1.1+1)) x1 y0) fun b_3↦go x0 b.1.1 y0 (decide (wrap .i64 (x1 - b.1.1)≥wrap .i64 (Int.tdiv y1 8))) b.1.2.1 b_3.2.1))) none) none) (qd (qw D b.2.1 x0 x1 b_1.1.1) fun b↦br (decide (wrap .i64 (b.1.1 - x0)<wrap .i64 (x1 - b.1.1))) (qd (qj D b.2.1 x0 b.1.1 y0) fun b_2↦go (wrap .i64 (b.1.1+1)) x1 y0 (decide (wrap .i64 (b.1.1 - x0)≥wrap .i64 (Int.tdiv y1 8))) b.1.2.1 b_2.2.1) (qd (qj D b.2.1 (wrap .i64 (b.1.1+1)) x1 y0) fun b_2↦go x0 b.1.1 y0 (decide (wrap .i64 (x1 - b.1.1)≥wrap .i64 (Int.tdiv y1 8))) b.1.2.1 b_2.2.1)))) (br (decide (x0>0)) (br (decide (0≤wrap .i64 (x0 - 1))&&decide (wrap .i64 (x0 - 1)<(b.2.1.length:Int))) (br (decide (0≤b_1.1.1)&&decide (b_1.1.1<(b.2.1.length:Int))) (qd (qdr D (List.getD b.2.1 y2 0) (List.getD b.2.1 b_1.1.1.toNat 0)) fun b_2↦br (!b_2.1.1) (qd (qbr D b.2.1 x0 x1 b_1.1.1) fun b↦go b.1.1 x1 y0 x3 x4 b.2.1) (qd (qw D b.2.1 x0 x1 b_1.1.1) fun b↦br (decide (wrap .i64 (b.1.1 - x0)<wrap .i64 (x1 - b.1.1))) (qd (qj D b.2.1 x0 b.1.1 y0) fun b_3↦go (wrap .i64 (b.1.1+1)) x1 y0 (decide (wrap .i64 (b.1.1 - x0)≥wrap .i64 (Int.tdiv y1 8))) b.1.2.1 b_3.2.1) (qd (qj D b.2.1 (wrap .i64 (b.1.1+1)) x1 y0) fun b_3↦go x0 b.1.1 y0 (decide (wrap .i64 (x1 - b.1.1)≥wrap .i64 (Int.tdiv y1 8))) b.1.2.1 b_3.2.1))) none) none) (qd (qw D b.2.1 x0 x1 b_1.1.1) fun b↦br (decide (wrap .i64 (b.1.1 - x0)<wrap .i64 (x1 - b.1.1))) (qd (qj D b.2.1 x0 b.1.1 y0) fun b_2↦go (wrap .i64 (b.1.1+1)) x1 y0 (decide (wrap .i64 (b.1.1 - x0)≥wrap .i64 (Int.tdiv y1 8))) b.1.2.1 b_2.2.1) (qd (qj D b.2.1 (wrap .i64 (b.1.1+1)) x1 y0) fun b_2↦go x0 b.1.1 y0 (decide (wrap .i64 (x1 - b.1.1)≥wrap .i64 (Int.tdiv y1 8))) b.1.2.1 b_2.2.1))))) (qd (qkz D x5 x0 x1) fun b↦br (decide (b.1.2.1=2)) (qd (qkj D x5 x0 x1) fun b_1↦br (bif bif x3 then x4 else false then true else false) (qd (qc2 D b_1.2.1 x0 x1) fun b_2↦br b_2.1.1 (K0 b_2.2.1) (br (decide (x0>0)) (br (decide (0≤wrap .i64 (x0 - 1))&&decide (wrap .i64 (x0 - 1)<(b_2.2.1.length:Int))) (br (decide (0≤wrap .i64 (wrap .i64 (x1 - 1) - wrap .i64 (b.1.1 - x0)))&&decide (wrap .i64 (wrap .i64 (x1 - 1) - wrap .i64 (b.1.1 - x0))<(b_2.2.1.length:Int))) (qd (qdr D (List.getD b_2.2.1 y2 0) (List.getD b_2.2.1 (Int.toNat (wrap .i64 (wrap .i64 (x1 - 1) - wrap .i64 (b.1.1 - x0)))) 0)) fun b_3↦br (!b_3.1.1) (qd (qbr D b_2.2.1 x0 x1 (wrap .i64 (wrap .i64 (x1 - 1) - wrap .i64 (b.1.1 - x0)))) fun b↦go b.1.1 x1 x2 x3 x4 b.2.1) (qd (qw D b_2.2.1 x0 x1 (wrap .i64 (wrap .i64 (x1 - 1) - wrap .i64 (b.1.1 - x0)))) fun b↦br (decide (wrap .i64 (b.1.1 - x0)<wrap .i64 (x1 - b.1.1))) (qd (qj D b.2.1 x0 b.1.1 x2) fun b_4↦go (wrap .i64 (b.1.1+1)) x1 x2 (decide (wrap .i64 (b.1.1 - x0)≥wrap .i64 (Int.tdiv y1 8))) b.1.2.1 b_4.2.1) (qd (qj D b.2.1 (wrap .i64 (b.1.1+1)) x1 x2) fun b_4↦go x0 b.1.1 x2 (decide (wrap .i64 (x1 - b.1.1)≥wrap .i64 (Int.tdiv y1 8))) b.1.2.1 b_4.2.1))) none) none) (qd (qw D b_2.2.1 x0 x1 (wrap .i64 (wrap .i64 (x1 - 1) - wrap .i64 (b.1.1 - x0)))) fun b↦br (decide (wrap .i64 (b.1.1 - x0)<wrap .i64 (x1 - b.1.1))) (qd (qj D b.2.1 x0 b.1.1 x2) fun b_3↦go (wrap .i64 (b.1.1+1)) x1 x2 (decide (wrap .i64 (b.1.1 - x0)≥wrap .i64 (Int.tdiv y1 8))) b.1.2.1 b_3.2.1) (qd (qj D b.2.1 (wrap .i64 (b.1.1+1)) x1 x2) fun b_3↦go x0 b.1.1 x2 (decide (wrap .i64 (x1 - b.1.1)≥wrap .i64 (Int.tdiv y1 8))) b.1.2.1 b_3.2.1)))) (br (decide (x0>0)) (br (decide (0≤wrap .i64 (x0 - 1))&&decide (wrap .i64 (x0 - 1)<(b_1.2.1.length:Int))) (br (decide (0≤wrap .i64 (wrap .i64 (x1 - 1) - wrap .i64 (b.1.1 - x0)))&&decide (wrap .i64 (wrap .i64 (x1 - 1) - wrap .i64 (b.1.1 - x0))<(b_1.2.1.length:Int))) (qd (qdr D (List.getD b_1.2.1 y2 0) (List.getD b_1.2.1 (Int.toNat (wrap .i64 (wrap .i64 (x1 - 1) - wrap .i64 (b.1.1 - x0)))) 0)) fun b_2↦br (!b_2.1.1) (qd (qbr D b_1.2.1 x0 x1 (wrap .i64 (wrap .i64 (x1 - 1) - wrap .i64 (b.1.1 - x0)))) fun b↦go b.1.1 x1 x2 x3 x4 b.2.1) (qd (qw D b_1.2.1 x0 x1 (wrap .i64 (wrap .i64 (x1 - 1) - wrap .i64 (b.1.1 - x0)))) fun b↦br (decide (wrap .i64 (b.1.1 - x0)<wrap .i64 (x1 - b.1.1))) (qd (qj D b.2.1 x0 b.1.1 x2) fun b_3↦go (wrap .i64 (b.1.1+1)) x1 x2 (decide (wrap .i64 (b.1.1 - x0)≥wrap .i64 (Int.tdiv y1 8))) b.1.2.1 b_3.2.1) (qd (qj D b.2.1 (wrap .i64 (b.1.1+1)) x1 x2) fun b_3↦go x0 b.1.1 x2 (decide (wrap .i64 (x1 - b.1.1)≥wrap .i64 (Int.tdiv y1 8))) b.1.2.1 b_3.2.1))) none) none) (qd (qw D b_1.2.1 x0 x1 (wrap .i64 (wrap .i64 (x1 - 1) - wrap .i64 (b.1.1 - x0)))) fun b↦br (decide (wrap .i64 (b.1.1 - x0)<wrap .i64 (x1 - b.1.1))) (qd (qj D b.2.1 x0 b.1.1 x2) fun b_2↦go (wrap .i64 (b.1.1+1)) x1 x2 (decide (wrap .i64 (b.1.1 - x0)≥wrap .i64 (Int.tdiv y1 8))) b.1.2.1 b_2.2.1) (qd (qj D b.2.1 (wrap .i64 (b.1.1+1)) x1 x2) fun b_2↦go x0 b.1.1 x2 (decide (wrap .i64 (x1 - b.1.1)≥wrap .i64 (Int.tdiv y1 8))) b.1.2.1 b_2.2.1)))) (br (bif bif x3 then x4 else false then decide (b.1.2.1=1) else false) (qd (qc2 D x5 x0 x1) fun b_1↦br b_1.1.1 (K0 b_1.2.1) (br (decide (x0>0)) (br (decide (0≤wrap .i64 (x0 - 1))&&decide (wrap .i64 (x0 - 1)<(b_1.2.1.length:Int))) (br (decide (0≤b.1.1)&&decide (b.1.1<(b_1.2.1.length:Int))) (qd (qdr D (List.getD b_1.2.1 y2 0) (List.getD b_1.2.1 b.1.1.toNat 0)) fun b_2↦br (!b_2.1.1) (qd (qbr D b_1.2.1 x0 x1 b.1.1) fun b↦go b.1.1 x1 x2 x3 x4 b.2.1) (qd (qw D b_1.2.1 x0 x1 b.1.1) fun b↦br (decide (wrap .i64 (b.1.1 - x0)<wrap .i64 (x1 - b.1.1))) (qd (qj D b.2.1 x0 b.1.1 x2) fun b_3↦go (wrap .i64 (b.1.1+1)) x1 x2 (decide (wrap .i64 (b.1.1 - x0)≥wrap .i64 (Int.tdiv y1 8))) b.1.2.1 b_3.2.1) (qd (qj D b.2.1 (wrap .i64 (b.1.1+1)) x1 x2) fun b_3↦go x0 b.1.1 x2 (decide (wrap .i64 (x1 - b.1.1)≥wrap .i64 (Int.tdiv y1 8))) b.1.2.1 b_3.2.1))) none) none) (qd (qw D b_1.2.1 x0 x1 b.1.1) fun b↦br (decide (wrap .i64 (b.1.1 - x0)<wrap .i64 (x1 - b.1.1))) (qd (qj D b.2.1 x0 b.1.1 x2) fun b_2↦go (wrap .i64 (b.1.1+1)) x1 x2 (decide (wrap .i64 (b.1.1 - x0)≥wrap .i64 (Int.tdiv y1 8))) b.1.2.1 b_2.2.1) (qd (qj D b.2.1 (wrap .i64 (b.1.1+1)) x1 x2) fun b_2↦go x0 b.1.1 x2 (decide (wrap .i64 (x1 - b.1.1)≥wrap .i64 (Int.tdiv y1 8))) b.1.2.1 b_2.2.1)))) (br (decide (x0>0)) (br (decide (0≤wrap .i64 (x0 - 1))&&decide (wrap .i64 (x0 - 1)<(x5.length:Int))) (br (decide (0≤b.1.1)&&decide (b.1.1<(x5.length:Int))) (qd (qdr D (List.getD x5 y2 0) (List.getD x5 b.1.1.toNat 0)) fun b_1↦br (!b_1.1.1) (qd (qbr D x5 x0 x1 b.1.1) fun b↦go b.1.1 x1 x2 x3 x4 b.2.1) (qd (qw D x5 x0 x1 b.1.1) fun b↦br (decide (wrap .i64 (b.1.1 - x0)<wrap .i64 (x1 - b.1.1))) (qd (qj D b.2.1 x0 b.1.1 x2) fun b_2↦go (wrap .i64 (b.1.1+1)) x1 x2 (decide (wrap .i64 (b.1.1 - x0)≥wrap .i64 (Int.tdiv y1 8))) b.1.2.1 b_2.2.1) (qd (qj D b.2.1 (wrap .i64 (b.1.1+1)) x1 x2) fun b_2↦go x0 b.1.1 x2 (decide (wrap .i64 (x1 - b.1.1)≥wrap .i64 (Int.tdiv y1 8))) b.1.2.1 b_2.2.1))) none) none) (qd (qw D x5 x0 x1 b.1.1) fun b↦br (decide (wrap .i64 (b.1.1 - x0)<wrap .i64 (x1 - b.1.1))) (qd (qj D b.2.1 x0 b.1.1 x2) fun b_1↦go (wrap .i64 (b.1.1+1)) x1 x2 (decide (wrap .i64 (b.1.1 - x0)≥wrap .i64 (Int.tdiv y1 8))) b.1.2.1 b_1.2.1) (qd (qj D b.2.1 (wrap .i64 (b.1.1+1)) x1 x2) fun b_1↦go x0 b.1.1 x2 (decide (wrap .i64 (x1 - b.1.1)≥wrap .i64 (Int.tdiv y1 8))) b.1.2.1 b_1.2.1)))))))
def qfp (D:DX)(n:Nat) (K0:List Int→Option tq39):Nat→Int→Int→Int→Bool→Bool→(List Int)→Option tq39 | 0=>(fun x0 x1 x2 x3 x4 x5=>none) | m+1=>(fun x0 x1 x2 x3 x4 x5=>qid D n (qfp D n K0 m) K0 x0 x1 x2 x3 x4 x5)
def qxb (D:DX)(n:Nat) (a:List Int):Option tq39:=some ((),a,())
def qhz (D:DX)(n:Nat):(Int)→(Int)→(Int)→(Bool)→(Bool)→(List Int)→Option tq39:=(fun x0 x1 x2 x3 x4 x5=>qfp D n (fun a=>qxb D n a) n x0 x1 x2 x3 x4 x5)
def qi5 (D:DX)(n:Nat) (lp0:Int→Int→Int→Bool→Bool→List Int→Option tq39) (a0:List Int) (a1 a2 a3:Int):Option tq39:=lp0 a1 a2 a3 true true a0
def qi9 (D:DX)(n:Nat) (a0:List Int) (a1 a2 a3:Int):Option tq39:=qi5 D n (qhz D n) a0 a1 a2 a3
def qij (x0 x1 x2:Int) (x3 x4:Bool) (x5:List Int):St:=stq 134 [(0,AV.brw 0 [] 1048576),(1,AV.val yq34 x0),(2,AV.val yq34 x1),(3,AV.val yq34 x2),(8,AV.val Ty.bool x3),(9,AV.val Ty.bool x4)] [(0,Root.mk yq30 kq33 x5 false)]
def qlo (a:List Int):St:=stq 134 [(0,AV.brw 0 [] 1048576)] [(0,Root.mk yq30 kq33 a false)]
theorem qx7 (D:DX)(n:Nat) (K:KT 184):∀ (m:Nat) (x0 x1 x2:Int) (x3 x4:Bool) (x5:List Int),LF D n 184 pq14 m (qij x0 x1 x2 x3 x4 x5) K=qfp D n (fun a=>K (Ex.ret) (qlo a)) m x0 x1 x2 x3 x4 x5:=eL6 (fun F=>qid D n F (fun a=>K (Ex.ret) (qlo a))) (fun _ _ _ _ _ _ =>q7 ..) (fun _ _ _ _ _ _ _ =>by kernel_rfl) (fun _ _ _ _ _ _ _ =>rfl)
theorem qwq (D:DX)(n:Nat) (x0) (x1) (x2) (x3) (x4) (x5):LF D n 184 pq14 n (qij x0 x1 x2 x3 x4 x5) (CF D n 184 [] pq14 (lF 184))=qhz D n x0 x1 x2 x3 x4 x5 :=by rw[qx7];kernel_rfl
theorem q1e (D:DX)(n:Nat) (a0:List Int) (a1 a2 a3:Int):rF D n 184 (a0,(a1,(a2,(a3,()))))=qi9 D n a0 a1 a2 a3:=by
 have h:rF D n 184 (a0,(a1,(a2,(a3,()))))=qi5 D n (fun x0 x1 x2 x3 x4 x5=>LF D n 184 pq14 n (qij x0 x1 x2 x3 x4 x5) (CF D n 184 [] pq14 (lF 184))) a0 a1 a2 a3:=by kernel_rfl
 rw[h]
 simp only[qwq]
 rfl

def q7y (D:DX)(n:Nat) (a0:Int):Option tq43:=qd (q4j D a0) fun b↦some ((b.1.1,()),())
def qv7 (D:DX)(n:Nat) (a0:Int):Option tq43:=q7y D n a0
theorem qbme (D:DX)(n:Nat) (a0:Int):rF D n 185 (a0,())=qv7 D n a0:=by kernel_rfl

def qmg (D:DX)(n:Nat) (go:List Int→Int→Int→tq24→Option tq21) (K0:tq24→Option tq21) (x0:List Int) (x1 x2:Int) (x3:tq24):Option tq21:=br (decide (x2<x1)) (br (decide (0≤x2)&&decide (x2<(x0.length:Int))) (qd (qeo D (List.getD x0 x2.toNat 0)) fun b↦qd (qu D x3 b.1.1) fun b↦go x0 x1 (wrap .i64 (x2+1)) b.2.1) none) (K0 x3)
def qf7 (D:DX)(n:Nat) (K0:tq24→Option tq21):Nat→(List Int)→Int→Int→tq24→Option tq21 | 0=>(fun x0 x1 x2 x3=>none) | m+1=>(fun x0 x1 x2 x3=>qmg D n (qf7 D n K0 m) K0 x0 x1 x2 x3)
def qh7 (D:DX)(n:Nat) (a:tq24):Option tq21:=some ((),a,())
def qlj (D:DX)(n:Nat):(List Int)→(Int)→(Int)→tq24→Option tq21:=(fun x0 x1 x2 x3=>qf7 D n (fun a=>qh7 D n a) n x0 x1 x2 x3)
def qoe (D:DX)(n:Nat) (lp0:List Int→Int→Int→tq24→Option tq21) (a0:tq24) (a1:Int) (a2:List Int):Option tq21:=qd (qcp D) fun b↦qd (qu D a0 b.1.1) fun b↦qd (qb8 D b.2.1 (decide (b.1.1≤wrap .i64 (a1+1)))) fun b↦lp0 a2 (a2.length:Int) 0 b.2.1
def qn5 (D:DX)(n:Nat) (a0:tq24) (a1:Int) (a2:List Int):Option tq21:=qoe D n (qlj D n) a0 a1 a2
def qs9 (x0:List Int) (x1 x2:Int) (x3:tq24):St:=stq 29 [(0,AV.addr 0 []),(18,AV.val yq30 x0),(19,AV.val yq34 x1),(20,AV.val yq34 x2)] [(0,Root.mk yq12 kq28 x3 true)]
def qx9 (a:tq24):St:=stq 29 [(0,AV.addr 0 [])] [(0,Root.mk yq12 kq28 a true)]
theorem qbeg (D:DX)(n:Nat) (K:KT 186):∀ (m:Nat) (x0:List Int) (x1 x2:Int) (x3:tq24),LF D n 186 [.r,.r,.r,.l] m (qs9 x0 x1 x2 x3) K=qf7 D n (fun a=>K (Ex.exit 0) (qx9 a)) m x0 x1 x2 x3:=eL4 (fun F=>qmg D n F (fun a=>K (Ex.exit 0) (qx9 a))) (fun _ _ _ _ =>q7 ..) (fun _ _ _ _ _ =>by kernel_rfl) (fun _ _ _ _ _ =>rfl)
theorem qbcw (D:DX)(n:Nat) (x0) (x1) (x2) (x3):LF D n 186 [.r,.r,.r,.l] n (qs9 x0 x1 x2 x3) (CF D n 186 [] [.r,.r,.r,.l] (lF 186))=qlj D n x0 x1 x2 x3 :=by rw[qbeg];kernel_rfl
theorem qbja (D:DX)(n:Nat) (a0:tq24) (a1:Int) (a2:List Int):rF D n 186 (a0,(a1,(a2,())))=qn5 D n a0 a1 a2:=by
 have h:rF D n 186 (a0,(a1,(a2,())))=qoe D n (fun x0 x1 x2 x3=>LF D n 186 [.r,.r,.r,.l] n (qs9 x0 x1 x2 x3) (CF D n 186 [] [.r,.r,.r,.l] (lF 186))) a0 a1 a2:=by kernel_rfl
 rw[h]
 simp only[qbcw]
 rfl

def qfq (D:DX)(n:Nat) (a4:Clo) (go:Int→Int→Int→Bool→Bool→List tq38→Option tq30) (K0:List tq38→Option tq30) (x0 x1 x2:Int) (x3 x4:Bool) (x5:List tq38):Option tq30:=let y0:=wrap .i64 (x2 - 1);let y1:=wrap .i64 (x1 - x0);let y2:=Int.toNat (wrap .i64 (x0 - 1));br (decide (y1≤12)) (qd (qhr D x5 x0 x1 a4) fun b↦K0 b.2.1) (br (decide (x2=0)) (qd (qr8 D x5 x0 x1 a4) fun b↦K0 b.2.1) (br (!x3) (qd (qn2 D x5 x0 x1 a4) fun b↦qd (qic D b.2.1 x0 x1 a4) fun b_1↦br (decide (b_1.1.2.1=2)) (qd (qhx D b.2.1 x0 x1 a4) fun b↦br (bif bif x3 then x4 else false then true else false) (qd (qce D b.2.1 x0 x1 a4) fun b↦br b.1.1 (K0 b.2.1) (br (decide (x0>0)) (br (decide (0≤wrap .i64 (x0 - 1))&&decide (wrap .i64 (x0 - 1)<(b.2.1.length:Int))) (br (decide (0≤wrap .i64 (wrap .i64 (x1 - 1) - wrap .i64 (b_1.1.1 - x0)))&&decide (wrap .i64 (wrap .i64 (x1 - 1) - wrap .i64 (b_1.1.1 - x0))<(b.2.1.length:Int))) (qd (qbk ctx D a4 [CapV.val yq21 (List.getD b.2.1 y2 (0,0,0,())),CapV.val yq21 (List.getD b.2.1 (Int.toNat (wrap .i64 (wrap .i64 (x1 - 1) - wrap .i64 (b_1.1.1 - x0)))) (0,0,0,()))] yq34) fun b_2↦let a:=wrap .i64 (wrap .i64 (x1 - 1) - wrap .i64 (b_1.1.1 - x0));br (!decide (b_2<0)) (qd (qbb D b.2.1 x0 x1 a a4) fun b↦go b.1.1 x1 y0 x3 x4 b.2.1) (qd (qn D b.2.1 x0 x1 a a4) fun b↦br (decide (wrap .i64 (b.1.1 - x0)<wrap .i64 (x1 - b.1.1))) (qd (qf D b.2.1 x0 b.1.1 y0 a4) fun b_3↦go (wrap .i64 (b.1.1+1)) x1 y0 (decide (wrap .i64 (b.1.1 - x0)≥wrap .i64 (Int.tdiv y1 8))) b.1.2.1 b_3.2.1) (qd (qf D b.2.1 (wrap .i64 (b.1.1+1)) x1 y0 a4) fun b_3↦go x0 b.1.1 y0 (decide (wrap .i64 (x1 - b.1.1)≥wrap .i64 (Int.tdiv y1 8))) b.1.2.1 b_3.2.1))) none) none) (qd (qn D b.2.1 x0 x1 (wrap .i64 (wrap .i64 (x1 - 1) - wrap .i64 (b_1.1.1 - x0))) a4) fun b↦br (decide (wrap .i64 (b.1.1 - x0)<wrap .i64 (x1 - b.1.1))) (qd (qf D b.2.1 x0 b.1.1 y0 a4) fun b_2↦go (wrap .i64 (b.1.1+1)) x1 y0 (decide (wrap .i64 (b.1.1 - x0)≥wrap .i64 (Int.tdiv y1 8))) b.1.2.1 b_2.2.1) (qd (qf D b.2.1 (wrap .i64 (b.1.1+1)) x1 y0 a4) fun b_2↦go x0 b.1.1 y0 (decide (wrap .i64 (x1 - b.1.1)≥wrap .i64 (Int.tdiv y1 8))) b.1.2.1 b_2.2.1)))) (br (decide (x0>0)) (br (decide (0≤wrap .i64 (x0 - 1))&&decide (wrap .i64 (x0 - 1)<(b.2.1.length:Int))) (br (decide (0≤wrap .i64 (wrap .i64 (x1 - 1) - wrap .i64 (b_1.1.1 - x0)))&&decide (wrap .i64 (wrap .i64 (x1 - 1) - wrap .i64 (b_1.1.1 - x0))<(b.2.1.length:Int))) (qd (qbk ctx D a4 [CapV.val yq21 (List.getD b.2.1 y2 (0,0,0,())),CapV.val yq21 (List.getD b.2.1 (Int.toNat (wrap .i64 (wrap .i64 (x1 - 1) - wrap .i64 (b_1.1.1 - x0)))) (0,0,0,()))] yq34) fun b_2↦let c:=wrap .i64 (wrap .i64 (x1 - 1) - wrap .i64 (b_1.1.1 - x0));br (!decide (b_2<0)) (qd (qbb D b.2.1 x0 x1 c a4) fun b↦go b.1.1 x1 y0 x3 x4 b.2.1) (qd (qn D b.2.1 x0 x1 c a4) fun b↦br (decide (wrap .i64 (b.1.1 - x0)<wrap .i64 (x1 - b.1.1))) (qd (qf D b.2.1 x0 b.1.1 y0 a4) fun b_3↦go (wrap .i64 (b.1.1+1)) x1 y0 (decide (wrap .i64 (b.1.1 - x0)≥wrap .i64 (Int.tdiv y1 8))) b.1.2.1 b_3.2.1) (qd (qf D b.2.1 (wrap .i64 (b.1.1+1)) x1 y0 a4) fun b_3↦go x0 b.1.1 y0 (decide (wrap .i64 (x1 - b.1.1)≥wrap .i64 (Int.tdiv y1 8))) b.1.2.1 b_3.2.1))) none) none) (qd (qn D b.2.1 x0 x1 (wrap .i64 (wrap .i64 (x1 - 1) - wrap .i64 (b_1.1.1 - x0))) a4) fun b↦br (decide (wrap .i64 (b.1.1 - x0)<wrap .i64 (x1 - b.1.1))) (qd (qf D b.2.1 x0 b.1.1 y0 a4) fun b_2↦go (wrap .i64 (b.1.1+1)) x1 y0 (decide (wrap .i64 (b.1.1 - x0)≥wrap .i64 (Int.tdiv y1 8))) b.1.2.1 b_2.2.1) (qd (qf D b.2.1 (wrap .i64 (b.1.1+1)) x1 y0 a4) fun b_2↦go x0 b.1.1 y0 (decide (wrap .i64 (x1 - b.1.1)≥wrap .i64 (Int.tdiv y1 8))) b.1.2.1 b_2.2.1)))) (br (bif bif x3 then x4 else false then decide (b_1.1.2.1=1) else false) (qd (qce D b.2.1 x0 x1 a4) fun b↦br b.1.1 (K0 b.2.1) (br (decide (x0>0)) (br (decide (0≤wrap .i64 (x0 - 1))&&decide (wrap .i64 (x0 - 1)<(b.2.1.length:Int))) (br (decide (0≤b_1.1.1)&&decide (b_1.1.1<(b.2.1.length:Int))) (qd (qbk ctx D a4 [CapV.val yq21 (List.getD b.2.1 y2 (0,0,0,())),CapV.val yq21 (List.getD b.2.1 b_1.1.1.toNat (0,0,0,()))] yq34) fun b_2↦br (!decide (b_2<0)) (qd (qbb D b.2.1 x0 x1 b_1.1.1 a4) fun b↦go b.1.1 x1 y0 x3 x4 b.2.1) (qd (qn D b.2.1 x0 x1 b_1.1.1 a4) fun b↦br (decide (wrap .i64 (b.1.1 - x0)<wrap .i64 (x1 - b.1.1))) (qd (qf D b.2.1 x0 b.1.1 y0 a4) fun b_3↦go (wrap .i64 (b.1.1+1)) x1 y0 (decide (wrap .i64 (b.1.1 - x0)≥wrap .i64 (Int.tdiv y1 8))) b.1.2.1 b_3.2.1) (qd (qf D b.2.1 (wrap .i64 (b.1.1+1)) x1 y0 a4) fun b_3↦go x0 b.1.1 y0 (decide (wrap .i64 (x1 - b.1.1)≥wrap .i64 (Int.tdiv y1 8))) b.1.2.1 b_3.2.1))) none) none) (qd (qn D b.2.1 x0 x1 b_1.1.1 a4) fun b↦br (decide (wrap .i64 (b.1.1 - x0)<wrap .i64 (x1 - b.1.1))) (qd (qf D b.2.1 x0 b.1.1 y0 a4) fun b_2↦go (wrap .i64 (b.1.1+1)) x1 y0 (decide (wrap .i64 (b.1.1 - x0)≥wrap .i64 (Int.tdiv y1 8))) b.1.2.1 b_2.2.1) (qd (qf D b.2.1 (wrap .i64 (b.1.1+1)) x1 y0 a4) fun b_2↦go x0 b.1.1 y0 (decide (wrap .i64 (x1 - b.1.1)≥wrap .i64 (Int.tdiv y1 8))) b.1.2.1 b_2.2.1)))) (br (decide (x0>0)) (br (decide (0≤wrap .i64 (x0 - 1))&&decide (wrap .i64 (x0 - 1)<(b.2.1.length:Int))) (br (decide (0≤b_1.1.1)&&decide (b_1.1.1<(b.2.1.length:Int))) (qd (qbk ctx D a4 [CapV.val yq21 (List.getD b.2.1 y2 (0,0,0,())),CapV.val yq21 (List.getD b.2.1 b_1.1.1.toNat (0,0,0,()))] yq34) fun b_2↦br (!decide (b_2<0)) (qd (qbb D b.2.1 x0 x1 b_1.1.1 a4) fun b↦go b.1.1 x1 y0 x3 x4 b.2.1) (qd (qn D b.2.1 x0 x1 b_1.1.1 a4) fun b↦br (decide (wrap .i64 (b.1.1 - x0)<wrap .i64 (x1 - b.1.1))) (qd (qf D b.2.1 x0 b.1.1 y0 a4) fun b_3↦go (wrap .i64 (b.1.1+1)) x1 y0 (decide (wrap .i64 (b.1.1 - x0)≥wrap .i64 (Int.tdiv y1 8))) b.1.2.1 b_3.2.1) (qd (qf D b.2.1 (wrap .i64 (b.1.1+1)) x1 y0 a4) fun b_3↦go x0 b.1.1 y0 (decide (wrap .i64 (x1 - b.1.1)≥wrap .i64 (Int.tdiv y1 8))) b.1.2.1 b_3.2.1))) none) none) (qd (qn D b.2.1 x0 x1 b_1.1.1 a4) fun b↦br (decide (wrap .i64 (b.1.1 - x0)<wrap .i64 (x1 - b.1.1))) (qd (qf D b.2.1 x0 b.1.1 y0 a4) fun b_2↦go (wrap .i64 (b.1.1+1)) x1 y0 (decide (wrap .i64 (b.1.1 - x0)≥wrap .i64 (Int.tdiv y1 8))) b.1.2.1 b_2.2.1) (qd (qf D b.2.1 (wrap .i64 (b.1.1+1)) x1 y0 a4) fun b_2↦go x0 b.1.1 y0 (decide (wrap .i64 (x1 - b.1.1)≥wrap .i64 (Int.tdiv y1 8))) b.1.2.1 b_2.2.1))))) (qd (qic D x5 x0 x1 a4) fun b↦br (decide (b.1.2.1=2)) (qd (qhx D x5 x0 x1 a4) fun b_1↦br (bif bif x3 then x4 else false then true else false) (qd (qce D b_1.2.1 x0 x1 a4) fun b_2↦br b_2.1.1 (K0 b_2.2.1) (br (decide (x0>0)) (br (decide (0≤wrap .i64 (x0 - 1))&&decide (wrap .i64 (x0 - 1)<(b_2.2.1.length:Int))) (br (decide (0≤wrap .i64 (wrap .i64 (x1 - 1) - wrap .i64 (b.1.1 - x0)))&&decide (wrap .i64 (wrap .i64 (x1 - 1) - wrap .i64 (b.1.1 - x0))<(b_2.2.1.length:Int))) (qd (qbk ctx D a4 [CapV.val yq21 (List.getD b_2.2.1 y2 (0,0,0,())),CapV.val yq21 (List.getD b_2.2.1 (Int.toNat (wrap .i64 (wrap .i64 (x1 - 1) - wrap .i64 (b.1.1 - x0)))) (0,0,0,()))] yq34) fun b_3↦br (!decide (b_3<0)) (qd (qbb D b_2.2.1 x0 x1 (wrap .i64 (wrap .i64 (x1 - 1) - wrap .i64 (b.1.1 - x0))) a4) fun b↦go b.1.1 x1 x2 x3 x4 b.2.1) (qd (qn D b_2.2.1 x0 x1 (wrap .i64 (wrap .i64 (x1 - 1) - wrap .i64 (b.1.1 - x0))) a4) fun b↦br (decide (wrap .i64 (b.1.1 - x0)<wrap .i64 (x1 - b.1.1))) (qd (qf D b.2.1 x0 b.1.1 x2 a4) fun b_4↦go (wrap .i64 (b.1.1+1)) x1 x2 (decide (wrap .i64 (b.1.1 - x0)≥wrap .i64 (Int.tdiv y1 8))) b.1.2.1 b_4.2.1) (qd (qf D b.2.1 (wrap .i64 (b.1.1+1)) x1 x2 a4) fun b_4↦go x0 b.1.1 x2 (decide (wrap .i64 (x1 - b.1.1)≥wrap .i64 (Int.tdiv y1 8))) b.1.2.1 b_4.2.1))) none) none) (qd (qn D b_2.2.1 x0 x1 (wrap .i64 (wrap .i64 (x1 - 1) - wrap .i64 (b.1.1 - x0))) a4) fun b↦br (decide (wrap .i64 (b.1.1 - x0)<wrap .i64 (x1 - b.1.1))) (qd (qf D b.2.1 x0 b.1.1 x2 a4) fun b_3↦go (wrap .i64 (b.1.1+1)) x1 x2 (decide (wrap .i64 (b.1.1 - x0)≥wrap .i64 (Int.tdiv y1 8))) b.1.2.1 b_3.2.1) (qd (qf D b.2.1 (wrap .i64 (b.1.1+1)) x1 x2 a4) fun b_3↦go x0 b.1.1 x2 (decide (wrap .i64 (x1 - b.1.1)≥wrap .i64 (Int.tdiv y1 8))) b.1.2.1 b_3.2.1)))) (br (decide (x0>0)) (br (decide (0≤wrap .i64 (x0 - 1))&&decide (wrap .i64 (x0 - 1)<(b_1.2.1.length:Int))) (br (decide (0≤wrap .i64 (wrap .i64 (x1 - 1) - wrap .i64 (b.1.1 - x0)))&&decide (wrap .i64 (wrap .i64 (x1 - 1) - wrap .i64 (b.1.1 - x0))<(b_1.2.1.length:Int))) (qd (qbk ctx D a4 [CapV.val yq21 (List.getD b_1.2.1 y2 (0,0,0,())),CapV.val yq21 (List.getD b_1.2.1 (Int.toNat (wrap .i64 (wrap .i64 (x1 - 1) - wrap .i64 (b.1.1 - x0)))) (0,0,0,()))] yq34) fun b_2↦br (!decide (b_2<0)) (qd (qbb D b_1.2.1 x0 x1 (wrap .i64 (wrap .i64 (x1 - 1) - wrap .i64 (b.1.1 - x0))) a4) fun b↦go b.1.1 x1 x2 x3 x4 b.2.1) (qd (qn D b_1.2.1 x0 x1 (wrap .i64 (wrap .i64 (x1 - 1) - wrap .i64 (b.1.1 - x0))) a4) fun b↦br (decide (wrap .i64 (b.1.1 - x0)<wrap .i64 (x1 - b.1.1))) (qd (qf D b.2.1 x0 b.1.1 x2 a4) fun b_3↦go (wrap .i64 (b.1.1+1)) x1 x2 (decide (wrap .i64 (b.1.1 - x0)≥wrap .i64 (Int.tdiv y1 8))) b.1.2.1 b_3.2.1) (qd (qf D b.2.1 (wrap .i64 (b.1.1+1)) x1 x2 a4) fun b_3↦go x0 b.1.1 x2 (decide (wrap .i64 (x1 - b.1.1)≥wrap .i64 (Int.tdiv y1 8))) b.1.2.1 b_3.2.1))) none) none) (qd (qn D b_1.2.1 x0 x1 (wrap .i64 (wrap .i64 (x1 - 1) - wrap .i64 (b.1.1 - x0))) a4) fun b↦br (decide (wrap .i64 (b.1.1 - x0)<wrap .i64 (x1 - b.1.1))) (qd (qf D b.2.1 x0 b.1.1 x2 a4) fun b_2↦go (wrap .i64 (b.1.1+1)) x1 x2 (decide (wrap .i64 (b.1.1 - x0)≥wrap .i64 (Int.tdiv y1 8))) b.1.2.1 b_2.2.1) (qd (qf D b.2.1 (wrap .i64 (b.1.1+1)) x1 x2 a4) fun b_2↦go x0 b.1.1 x2 (decide (wrap .i64 (x1 - b.1.1)≥wrap .i64 (Int.tdiv y1 8))) b.1.2.1 b_2.2.1)))) (br (bif bif x3 then x4 else false then decide (b.1.2.1=1) else false) (qd (qce D x5 x0 x1 a4) fun b_1↦br b_1.1.1 (K0 b_1.2.1) (br (decide (x0>0)) (br (decide (0≤wrap .i64 (x0 - 1))&&decide (wrap .i64 (x0 - 1)<(b_1.2.1.length:Int))) (br (decide (0≤b.1.1)&&decide (b.1.1<(b_1.2.1.length:Int))) (qd (qbk ctx D a4 [CapV.val yq21 (List.getD b_1.2.1 y2 (0,0,0,())),CapV.val yq21 (List.getD b_1.2.1 b.1.1.toNat (0,0,0,()))] yq34) fun b_2↦br (!decide (b_2<0)) (qd (qbb D b_1.2.1 x0 x1 b.1.1 a4) fun b↦go b.1.1 x1 x2 x3 x4 b.2.1) (qd (qn D b_1.2.1 x0 x1 b.1.1 a4) fun b↦br (decide (wrap .i64 (b.1.1 - x0)<wrap .i64 (x1 - b.1.1))) (qd (qf D b.2.1 x0 b.1.1 x2 a4) fun b_3↦go (wrap .i64 (b.1.1+1)) x1 x2 (decide (wrap .i64 (b.1.1 - x0)≥wrap .i64 (Int.tdiv y1 8))) b.1.2.1 b_3.2.1) (qd (qf D b.2.1 (wrap .i64 (b.1.1+1)) x1 x2 a4) fun b_3↦go x0 b.1.1 x2 (decide (wrap .i64 (x1 - b.1.1)≥wrap .i64 (Int.tdiv y1 8))) b.1.2.1 b_3.2.1))) none) none) (qd (qn D b_1.2.1 x0 x1 b.1.1 a4) fun b↦br (decide (wrap .i64 (b.1.1 - x0)<wrap .i64 (x1 - b.1.1))) (qd (qf D b.2.1 x0 b.1.1 x2 a4) fun b_2↦go (wrap .i64 (b.1.1+1)) x1 x2 (decide (wrap .i64 (b.1.1 - x0)≥wrap .i64 (Int.tdiv y1 8))) b.1.2.1 b_2.2.1) (qd (qf D b.2.1 (wrap .i64 (b.1.1+1)) x1 x2 a4) fun b_2↦go x0 b.1.1 x2 (decide (wrap .i64 (x1 - b.1.1)≥wrap .i64 (Int.tdiv y1 8))) b.1.2.1 b_2.2.1)))) (br (decide (x0>0)) (br (decide (0≤wrap .i64 (x0 - 1))&&decide (wrap .i64 (x0 - 1)<(x5.length:Int))) (br (decide (0≤b.1.1)&&decide (b.1.1<(x5.length:Int))) (qd (qbk ctx D a4 [CapV.val yq21 (List.getD x5 y2 (0,0,0,())),CapV.val yq21 (List.getD x5 b.1.1.toNat (0,0,0,()))] yq34) fun b_1↦br (!decide (b_1<0)) (qd (qbb D x5 x0 x1 b.1.1 a4) fun b↦go b.1.1 x1 x2 x3 x4 b.2.1) (qd (qn D x5 x0 x1 b.1.1 a4) fun b↦br (decide (wrap .i64 (b.1.1 - x0)<wrap .i64 (x1 - b.1.1))) (qd (qf D b.2.1 x0 b.1.1 x2 a4) fun b_2↦go (wrap .i64 (b.1.1+1)) x1 x2 (decide (wrap .i64 (b.1.1 - x0)≥wrap .i64 (Int.tdiv y1 8))) b.1.2.1 b_2.2.1) (qd (qf D b.2.1 (wrap .i64 (b.1.1+1)) x1 x2 a4) fun b_2↦go x0 b.1.1 x2 (decide (wrap .i64 (x1 - b.1.1)≥wrap .i64 (Int.tdiv y1 8))) b.1.2.1 b_2.2.1))) none) none) (qd (qn D x5 x0 x1 b.1.1 a4) fun b↦br (decide (wrap .i64 (b.1.1 - x0)<wrap .i64 (x1 - b.1.1))) (qd (qf D b.2.1 x0 b.1.1 x2 a4) fun b_1↦go (wrap .i64 (b.1.1+1)) x1 x2 (decide (wrap .i64 (b.1.1 - x0)≥wrap .i64 (Int.tdiv y1 8))) b.1.2.1 b_1.2.1) (qd (qf D b.2.1 (wrap .i64 (b.1.1+1)) x1 x2 a4) fun b_1↦go x0 b.1.1 x2 (decide (wrap .i64 (x1 - b.1.1)≥wrap .i64 (Int.tdiv y1 8))) b.1.2.1 b_1.2.1)))))))
def qdd (D:DX)(n:Nat) (a4:Clo) (K0:List tq38→Option tq30):Nat→Int→Int→Int→Bool→Bool→(List tq38)→Option tq30 | 0=>(fun x0 x1 x2 x3 x4 x5=>none) | m+1=>(fun x0 x1 x2 x3 x4 x5=>qfq D n a4 (qdd D n a4 K0 m) K0 x0 x1 x2 x3 x4 x5)
def qqa (D:DX)(n:Nat) (a4:Clo) (a:List tq38):Option tq30:=some ((),a,())
def qfm (D:DX)(n:Nat) (a4:Clo):(Int)→(Int)→(Int)→(Bool)→(Bool)→(List tq38)→Option tq30:=(fun x0 x1 x2 x3 x4 x5=>qdd D n a4 (fun a=>qqa D n a4 a) n x0 x1 x2 x3 x4 x5)
def qf9 (D:DX)(n:Nat) (a4:Clo) (lp0:Int→Int→Int→Bool→Bool→List tq38→Option tq30) (a0:List tq38) (a1 a2 a3:Int):Option tq30:=lp0 a1 a2 a3 true true a0
def qf5 (D:DX)(n:Nat) (a0:List tq38) (a1 a2 a3:Int) (a4:Clo):Option tq30:=qf9 D n a4 (qfm D n a4) a0 a1 a2 a3
def qfw (a4:Clo) (x0 x1 x2:Int) (x3 x4:Bool) (x5:List tq38):St:=stq 148 [(0,AV.brw 0 [] 1048576),(1,AV.val yq34 x0),(2,AV.val yq34 x1),(3,AV.val yq34 x2),(4,AV.cloV a4),(10,AV.val Ty.bool x3),(11,AV.val Ty.bool x4)] [(0,Root.mk yq19 kq33 x5 false)]
def qin (a4:Clo) (a:List tq38):St:=stq 148 [(0,AV.brw 0 [] 1048576)] [(0,Root.mk yq19 kq33 a false)]
theorem qrd (D:DX)(n:Nat) (a4:Clo) (K:KT 187):∀ (m:Nat) (x0 x1 x2:Int) (x3 x4:Bool) (x5:List tq38),LF D n 187 pq14 m (qfw a4 x0 x1 x2 x3 x4 x5) K=qdd D n a4 (fun a=>K (Ex.ret) (qin a4 a)) m x0 x1 x2 x3 x4 x5:=eL6 (fun F=>qfq D n a4 F (fun a=>K (Ex.ret) (qin a4 a))) (fun _ _ _ _ _ _ =>q7 ..) (fun _ _ _ _ _ _ _ =>by kernel_rfl) (fun _ _ _ _ _ _ _ =>rfl)
theorem qp9 (D:DX)(n:Nat) (a4:Clo) (x0) (x1) (x2) (x3) (x4) (x5):LF D n 187 pq14 n (qfw a4 x0 x1 x2 x3 x4 x5) (CF D n 187 [] pq14 (lF 187))=qfm D n a4 x0 x1 x2 x3 x4 x5 :=by rw[qrd];kernel_rfl
theorem qsh (D:DX)(n:Nat) (a0:List tq38) (a1 a2 a3:Int) (a4:Clo):rF D n 187 (a0,(a1,(a2,(a3,(a4,())))))=qf5 D n a0 a1 a2 a3 a4:=by
 have h:rF D n 187 (a0,(a1,(a2,(a3,(a4,())))))=qf9 D n a4 (fun x0 x1 x2 x3 x4 x5=>LF D n 187 pq14 n (qfw a4 x0 x1 x2 x3 x4 x5) (CF D n 187 [] pq14 (lF 187))) a0 a1 a2 a3:=by kernel_rfl
 rw[h]
 simp only[qp9]
 rfl

def qdh (D:DX)(n:Nat) (go:Int→Int→Int→Int→List Int→Option tq39) (K0:Int→Int→Int→List Int→Option tq39) (d e f a:Int) (c:List Int):Option tq39:=let y0:=List.getD c (Int.toNat (wrap .i64 (a - 1))) 0;br (decide (a>d)) (br (decide (0≤a)&&decide (a<(c.length:Int))) (br (decide (0≤wrap .i64 (a - 1))&&decide (wrap .i64 (a - 1)<(c.length:Int))) (qd (qdr D (List.getD c a.toNat 0) y0) fun b↦br b.1.1 (br (decide (0≤wrap .i64 (a - 1))&&decide (wrap .i64 (a - 1)<(c.length:Int))) (br (decide (0≤a)&&decide (a<(c.length:Int))) (br (decide (0≤a)&&decide (a<(c.length:Int))) (br (decide (0≤wrap .i64 (a - 1))&&decide (wrap .i64 (a - 1)<((List.set c a.toNat y0).length:Int))) (go d e f (wrap .i64 (a - 1)) (List.set (List.set c a.toNat y0) (Int.toNat (wrap .i64 (a - 1))) (List.getD c a.toNat 0))) none) none) none) none) (K0 d e f c)) none) none) (K0 d e f c)
def qcc (D:DX)(n:Nat) (K0:Int→Int→Int→List Int→Option tq39):Nat→Int→Int→Int→Int→(List Int)→Option tq39 | 0=>(fun a b c d e=>none) | m+1=>(fun a b c d e=>qdh D n (qcc D n K0 m) K0 a b c d e)
def qfl (D:DX)(n:Nat) (go:Int→Int→Int→List Int→Option tq39) (K0:List Int→Option tq39) (a b c:Int) (d:List Int):Option tq39:=go a b (wrap .i64 (c+1)) d
def qfu (D:DX)(n:Nat) (go:Int→Int→Int→List Int→Option tq39) (K0:List Int→Option tq39):(Int)→(Int)→(Int)→(Int)→(List Int)→Option tq39:=(fun a f g h i=>qcc D n (fun b c d e=>qfl D n go K0 b c d e) n a f g h i)
def qc0 (D:DX)(n:Nat) (go:Int→Int→Int→List Int→Option tq39) (K0:List Int→Option tq39) (lp1:Int→Int→Int→Int→List Int→Option tq39) (x0 x1 x2:Int) (x3:List Int):Option tq39:=br (decide (x2<x1)) (lp1 x0 x1 x2 x2 x3) (K0 x3)
def qba (D:DX)(n:Nat) (K0:List Int→Option tq39):Nat→Int→Int→Int→(List Int)→Option tq39 | 0=>(fun x0 x1 x2 x3=>none) | m+1=>(fun x0 x1 x2 x3=>qc0 D n (qba D n K0 m) K0 (qfu D n (qba D n K0 m) K0) x0 x1 x2 x3)
def qjc (D:DX)(n:Nat) (a:List Int):Option tq39:=some ((),a,())
def qfv (D:DX)(n:Nat):(Int)→(Int)→(Int)→(List Int)→Option tq39:=(fun x0 x1 x2 x3=>qba D n (fun a=>qjc D n a) n x0 x1 x2 x3)
def qgm (D:DX)(n:Nat) (lp0:Int→Int→Int→List Int→Option tq39) (a0:List Int) (a1 a2:Int):Option tq39:=lp0 a1 a2 (wrap .i64 (a1+1)) a0
def qgn (D:DX)(n:Nat) (a0:List Int) (a1 a2:Int):Option tq39:=qgm D n (qfv D n) a0 a1 a2
def qb3 (x0 x1 x2:Int) (x3:List Int):St:=stq 49 [(0,AV.brw 0 [] 1048576),(1,AV.val yq34 x0),(2,AV.val yq34 x1),(6,AV.val yq34 x2)] [(0,Root.mk yq30 kq33 x3 false)]
def qdb (a:List Int):St:=stq 49 [(0,AV.brw 0 [] 1048576)] [(0,Root.mk yq30 kq33 a false)]
def qf1 (a b c d:Int) (e:List Int):St:=stq 49 [(0,AV.brw 0 [] 1048576),(1,AV.val yq34 a),(2,AV.val yq34 b),(6,AV.val yq34 c),(7,AV.val yq34 d)] [(0,Root.mk yq30 kq33 e false)]
def qje (a b c:Int) (d:List Int):St:=stq 49 [(0,AV.brw 0 [] 1048576),(1,AV.val yq34 a),(2,AV.val yq34 b),(6,AV.val yq34 c)] [(0,Root.mk yq30 kq33 d false)]
theorem qr6 (D:DX)(n:Nat) (K:KT 188):∀ (m:Nat) (e f g h:Int) (i:List Int),LF D n 188 pq10 m (qf1 e f g h i) K=qcc D n (fun a b c d=>K (Ex.exit 2) (qje a b c d)) m e f g h i:=eL5 (fun F=>qdh D n F (fun a b c d=>K (Ex.exit 2) (qje a b c d))) (fun _ _ _ _ _ =>q7 ..) (fun _ _ _ _ _ _ =>by kernel_rfl) (fun _ _ _ _ _ _ =>rfl)
theorem qqo (D:DX)(n:Nat) (m:Nat) (K:KT 188) (a b c d:Int) (e:List Int):LF D n 188 pq10 n (qf1 a b c d e) (CF D n 188 [.r,.l,.l] [.r,.l,.l,.r,.l] (KF D n 188 pq11 m K))=qfu D n (fun x0 x1 x2 x3=>LF D n 188 pq11 m (qb3 x0 x1 x2 x3) K) (fun f=>K (Ex.exit 0) (qdb f)) a b c d e :=by rw[qr6];kernel_rfl
theorem qr5 (D:DX)(n:Nat) (m:Nat) (K:KT 188) (x0) (x1) (x2) (x3):LF D n 188 pq11 (m+1) (qb3 x0 x1 x2 x3) K=qc0 D n (fun x0 x1 x2 x3=>LF D n 188 pq11 m (qb3 x0 x1 x2 x3) K) (fun a=>K (Ex.exit 0) (qdb a)) (fun b c d e f=>LF D n 188 pq10 n (qf1 b c d e f) (CF D n 188 [.r,.l,.l] [.r,.l,.l,.r,.l] (KF D n 188 pq11 m K))) x0 x1 x2 x3:=by kernel_rfl
theorem qjh (D:DX)(n:Nat) (K:KT 188):∀ (m:Nat) (x0 x1 x2:Int) (x3:List Int),LF D n 188 pq11 m (qb3 x0 x1 x2 x3) K=qba D n (fun a=>K (Ex.exit 0) (qdb a)) m x0 x1 x2 x3
 | 0,x0,x1,x2,x3=>q7 ..
 | m+1,x0,x1,x2,x3=>by
  have ih:(fun x0 x1 x2 x3=>LF D n 188 pq11 m (qb3 x0 x1 x2 x3) K)=qba D n (fun a=>K (Ex.exit 0) (qdb a)) m:=by funext x0 x1 x2 x3;exact qjh D n K m x0 x1 x2 x3
  rw[qr5]
  simp only[qqo]
  rw[ih];rfl
theorem qqs (D:DX)(n:Nat) (x0) (x1) (x2) (x3):LF D n 188 pq11 n (qb3 x0 x1 x2 x3) (CF D n 188 [] pq11 (lF 188))=qfv D n x0 x1 x2 x3 :=by rw[qjh];kernel_rfl
theorem qtr (D:DX)(n:Nat) (a0:List Int) (a1 a2:Int):rF D n 188 (a0,(a1,(a2,())))=qgn D n a0 a1 a2:=by
 have h:rF D n 188 (a0,(a1,(a2,())))=qgm D n (fun x0 x1 x2 x3=>LF D n 188 pq11 n (qb3 x0 x1 x2 x3) (CF D n 188 [] pq11 (lF 188))) a0 a1 a2:=by kernel_rfl
 rw[h]
 simp only[qqs]
 rfl






def q9z (D:DX)(n:Nat) (a0 a1:Int):Option tq42:=qd (qxa D a0) fun b↦br b.1.1 (qd (qxa D a1) fun b↦some ((bif !b.1.1 then true else decide (a0<a1),()),())) (some ((bif false then true else decide (a0<a1),()),()))
def q0k (D:DX)(n:Nat) (a0 a1:Int):Option tq42:=q9z D n a0 a1
theorem qbng (D:DX)(n:Nat) (a0 a1:Int):rF D n 194 (a0,(a1,()))=q0k D n a0 a1:=by kernel_rfl



def qbg7 (D:DX)(n:Nat) (a0:Int):Option tq43:=let y0:=List.toArray ([UInt8.ofNat 0,UInt8.ofNat 1,UInt8.ofNat 2,UInt8.ofNat 2,UInt8.ofNat 3,UInt8.ofNat 3,UInt8.ofNat 3,UInt8.ofNat 3,UInt8.ofNat 4,UInt8.ofNat 4,UInt8.ofNat 4,UInt8.ofNat 4,UInt8.ofNat 4,UInt8.ofNat 4,UInt8.ofNat 4,UInt8.ofNat 4,UInt8.ofNat 5,UInt8.ofNat 5,UInt8.ofNat 5,UInt8.ofNat 5,UInt8.ofNat 5,UInt8.ofNat 5,UInt8.ofNat 5,UInt8.ofNat 5,UInt8.ofNat 5,UInt8.ofNat 5,UInt8.ofNat 5,UInt8.ofNat 5,UInt8.ofNat 5,UInt8.ofNat 5,UInt8.ofNat 5,UInt8.ofNat 5,UInt8.ofNat 6,UInt8.ofNat 6,UInt8.ofNat 6,UInt8.ofNat 6,UInt8.ofNat 6,UInt8.ofNat 6,UInt8.ofNat 6,UInt8.ofNat 6,UInt8.ofNat 6,UInt8.ofNat 6,UInt8.ofNat 6,UInt8.ofNat 6,UInt8.ofNat 6,UInt8.ofNat 6,UInt8.ofNat 6,UInt8.ofNat 6,UInt8.ofNat 6,UInt8.ofNat 6,UInt8.ofNat 6,UInt8.ofNat 6,UInt8.ofNat 6,UInt8.ofNat 6,UInt8.ofNat 6,UInt8.ofNat 6,UInt8.ofNat 6,UInt8.ofNat 6,UInt8.ofNat 6,UInt8.ofNat 6,UInt8.ofNat 6,UInt8.ofNat 6,UInt8.ofNat 6,UInt8.ofNat 6]++[UInt8.ofNat 7,UInt8.ofNat 7,UInt8.ofNat 7,UInt8.ofNat 7,UInt8.ofNat 7,UInt8.ofNat 7,UInt8.ofNat 7,UInt8.ofNat 7,UInt8.ofNat 7,UInt8.ofNat 7,UInt8.ofNat 7,UInt8.ofNat 7,UInt8.ofNat 7,UInt8.ofNat 7,UInt8.ofNat 7,UInt8.ofNat 7,UInt8.ofNat 7,UInt8.ofNat 7,UInt8.ofNat 7,UInt8.ofNat 7,UInt8.ofNat 7,UInt8.ofNat 7,UInt8.ofNat 7,UInt8.ofNat 7,UInt8.ofNat 7,UInt8.ofNat 7,UInt8.ofNat 7,UInt8.ofNat 7,UInt8.ofNat 7,UInt8.ofNat 7,UInt8.ofNat 7,UInt8.ofNat 7,UInt8.ofNat 7,UInt8.ofNat 7,UInt8.ofNat 7,UInt8.ofNat 7,UInt8.ofNat 7,UInt8.ofNat 7,UInt8.ofNat 7,UInt8.ofNat 7,UInt8.ofNat 7,UInt8.ofNat 7,UInt8.ofNat 7,UInt8.ofNat 7,UInt8.ofNat 7,UInt8.ofNat 7,UInt8.ofNat 7,UInt8.ofNat 7,UInt8.ofNat 7,UInt8.ofNat 7,UInt8.ofNat 7,UInt8.ofNat 7,UInt8.ofNat 7,UInt8.ofNat 7,UInt8.ofNat 7,UInt8.ofNat 7,UInt8.ofNat 7,UInt8.ofNat 7,UInt8.ofNat 7,UInt8.ofNat 7,UInt8.ofNat 7,UInt8.ofNat 7,UInt8.ofNat 7,UInt8.ofNat 7]++([UInt8.ofNat 8,UInt8.ofNat 8,UInt8.ofNat 8,UInt8.ofNat 8,UInt8.ofNat 8,UInt8.ofNat 8,UInt8.ofNat 8,UInt8.ofNat 8,UInt8.ofNat 8,UInt8.ofNat 8,UInt8.ofNat 8,UInt8.ofNat 8,UInt8.ofNat 8,UInt8.ofNat 8,UInt8.ofNat 8,UInt8.ofNat 8,UInt8.ofNat 8,UInt8.ofNat 8,UInt8.ofNat 8,UInt8.ofNat 8,UInt8.ofNat 8,UInt8.ofNat 8,UInt8.ofNat 8,UInt8.ofNat 8,UInt8.ofNat 8,UInt8.ofNat 8,UInt8.ofNat 8,UInt8.ofNat 8,UInt8.ofNat 8,UInt8.ofNat 8,UInt8.ofNat 8,UInt8.ofNat 8,UInt8.ofNat 8,UInt8.ofNat 8,UInt8.ofNat 8,UInt8.ofNat 8,UInt8.ofNat 8,UInt8.ofNat 8,UInt8.ofNat 8,UInt8.ofNat 8,UInt8.ofNat 8,UInt8.ofNat 8,UInt8.ofNat 8,UInt8.ofNat 8,UInt8.ofNat 8,UInt8.ofNat 8,UInt8.ofNat 8,UInt8.ofNat 8,UInt8.ofNat 8,UInt8.ofNat 8,UInt8.ofNat 8,UInt8.ofNat 8,UInt8.ofNat 8,UInt8.ofNat 8,UInt8.ofNat 8,UInt8.ofNat 8,UInt8.ofNat 8,UInt8.ofNat 8,UInt8.ofNat 8,UInt8.ofNat 8,UInt8.ofNat 8,UInt8.ofNat 8,UInt8.ofNat 8,UInt8.ofNat 8]++[UInt8.ofNat 8,UInt8.ofNat 8,UInt8.ofNat 8,UInt8.ofNat 8,UInt8.ofNat 8,UInt8.ofNat 8,UInt8.ofNat 8,UInt8.ofNat 8,UInt8.ofNat 8,UInt8.ofNat 8,UInt8.ofNat 8,UInt8.ofNat 8,UInt8.ofNat 8,UInt8.ofNat 8,UInt8.ofNat 8,UInt8.ofNat 8,UInt8.ofNat 8,UInt8.ofNat 8,UInt8.ofNat 8,UInt8.ofNat 8,UInt8.ofNat 8,UInt8.ofNat 8,UInt8.ofNat 8,UInt8.ofNat 8,UInt8.ofNat 8,UInt8.ofNat 8,UInt8.ofNat 8,UInt8.ofNat 8,UInt8.ofNat 8,UInt8.ofNat 8,UInt8.ofNat 8,UInt8.ofNat 8,UInt8.ofNat 8,UInt8.ofNat 8,UInt8.ofNat 8,UInt8.ofNat 8,UInt8.ofNat 8,UInt8.ofNat 8,UInt8.ofNat 8,UInt8.ofNat 8,UInt8.ofNat 8,UInt8.ofNat 8,UInt8.ofNat 8,UInt8.ofNat 8,UInt8.ofNat 8,UInt8.ofNat 8,UInt8.ofNat 8,UInt8.ofNat 8,UInt8.ofNat 8,UInt8.ofNat 8,UInt8.ofNat 8,UInt8.ofNat 8,UInt8.ofNat 8,UInt8.ofNat 8,UInt8.ofNat 8,UInt8.ofNat 8,UInt8.ofNat 8,UInt8.ofNat 8,UInt8.ofNat 8,UInt8.ofNat 8,UInt8.ofNat 8,UInt8.ofNat 8,UInt8.ofNat 8,UInt8.ofNat 8]));let y1:=Int.pow 2 (if Int.toNat 32≤IntKind.bits .u64 then Int.toNat 32 else IntKind.bits .u64);let y2:=Int.pow 2 (if Int.toNat 16≤IntKind.bits .u64 then Int.toNat 16 else IntKind.bits .u64);let y3:=Int.pow 2 (if Int.toNat 8≤IntKind.bits .u64 then Int.toNat 8 else IntKind.bits .u64);let y4:=Int.fdiv a0 y1;let y5:=ByteArray.mk y0;let y6:=Int.fdiv y4 y2;let y7:=Int.fdiv a0 y2;br (decide (a0≥4294967296)) (br (decide (y4≥65536)) (br (decide (y6≥256)) (br (decide (0≤wrap .u8 (Int.fdiv y6 y3))&&decide (wrap .u8 (Int.fdiv y6 y3)<(↑(ByteArray.size y5):Int))) (some ((wrap .i64 (wrap .i64 (wrap .i64 (32+16)+8)+wrap .i64 (↑(UInt8.toNat (Array.getD y0 (Int.toNat (wrap .u8 (Int.fdiv y6 y3))) (UInt8.ofNat 0))):Int)),()),())) none) (br (decide (0≤wrap .u8 y6)&&decide (wrap .u8 y6<(↑(ByteArray.size y5):Int))) (some ((wrap .i64 (wrap .i64 (32+16)+wrap .i64 (↑(UInt8.toNat (Array.getD y0 (Int.toNat (wrap .u8 y6)) (UInt8.ofNat 0))):Int)),()),())) none)) (br (decide (y4≥256)) (br (decide (0≤wrap .u8 (Int.fdiv y4 y3))&&decide (wrap .u8 (Int.fdiv y4 y3)<(↑(ByteArray.size y5):Int))) (some ((wrap .i64 (wrap .i64 (32+8)+wrap .i64 (↑(UInt8.toNat (Array.getD y0 (Int.toNat (wrap .u8 (Int.fdiv y4 y3))) (UInt8.ofNat 0))):Int)),()),())) none) (br (decide (0≤wrap .u8 y4)&&decide (wrap .u8 y4<(↑(ByteArray.size y5):Int))) (some ((wrap .i64 (32+wrap .i64 (↑(UInt8.toNat (Array.getD y0 (Int.toNat (wrap .u8 y4)) (UInt8.ofNat 0))):Int)),()),())) none))) (br (decide (a0≥65536)) (br (decide (y7≥256)) (br (decide (0≤wrap .u8 (Int.fdiv y7 y3))&&decide (wrap .u8 (Int.fdiv y7 y3)<(↑(ByteArray.size y5):Int))) (some ((wrap .i64 (wrap .i64 (wrap .i64 (0+16)+8)+wrap .i64 (↑(UInt8.toNat (Array.getD y0 (Int.toNat (wrap .u8 (Int.fdiv y7 y3))) (UInt8.ofNat 0))):Int)),()),())) none) (br (decide (0≤wrap .u8 y7)&&decide (wrap .u8 y7<(↑(ByteArray.size y5):Int))) (some ((wrap .i64 (wrap .i64 (0+16)+wrap .i64 (↑(UInt8.toNat (Array.getD y0 (Int.toNat (wrap .u8 y7)) (UInt8.ofNat 0))):Int)),()),())) none)) (br (decide (a0≥256)) (br (decide (0≤wrap .u8 (Int.fdiv a0 y3))&&decide (wrap .u8 (Int.fdiv a0 y3)<(↑(ByteArray.size y5):Int))) (some ((wrap .i64 (wrap .i64 (0+8)+wrap .i64 (↑(UInt8.toNat (Array.getD y0 (Int.toNat (wrap .u8 (Int.fdiv a0 y3))) (UInt8.ofNat 0))):Int)),()),())) none) (br (decide (0≤wrap .u8 a0)&&decide (wrap .u8 a0<(↑(ByteArray.size y5):Int))) (some ((wrap .i64 (0+wrap .i64 (↑(UInt8.toNat (Array.getD y0 (Int.toNat (wrap .u8 a0)) (UInt8.ofNat 0))):Int)),()),())) none)))
def qbu (D:DX)(n:Nat) (a0:Int):Option tq43:=qbg7 D n a0
theorem qbf2 (D:DX)(n:Nat) (a0:Int):rF D n 198 (a0,())=qbu D n a0:=by kernel_rfl

def qcx (D:DX)(n:Nat) (a3:Clo) (go:Int→Int→Int→Int→List tq38→Option tq30) (K0:Int→Int→Int→List tq38→Option tq30) (d e f a:Int) (c:List tq38):Option tq30:=let y0:=List.getD c (Int.toNat (wrap .i64 (a - 1))) (0,0,0,());br (decide (a>d)) (br (decide (0≤a)&&decide (a<(c.length:Int))) (br (decide (0≤wrap .i64 (a - 1))&&decide (wrap .i64 (a - 1)<(c.length:Int))) (qd (qbk ctx D a3 [CapV.val yq21 (List.getD c a.toNat (0,0,0,())),CapV.val yq21 y0] yq34) fun b↦br (decide (b<0)) (br (decide (0≤wrap .i64 (a - 1))&&decide (wrap .i64 (a - 1)<(c.length:Int))) (br (decide (0≤a)&&decide (a<(c.length:Int))) (br (decide (0≤a)&&decide (a<(c.length:Int))) (br (decide (0≤wrap .i64 (a - 1))&&decide (wrap .i64 (a - 1)<((List.set c a.toNat y0).length:Int))) (go d e f (wrap .i64 (a - 1)) (List.set (List.set c a.toNat y0) (Int.toNat (wrap .i64 (a - 1))) (List.getD c a.toNat (0,0,0,())))) none) none) none) none) (K0 d e f c)) none) none) (K0 d e f c)
def qbv (D:DX)(n:Nat) (a3:Clo) (K0:Int→Int→Int→List tq38→Option tq30):Nat→Int→Int→Int→Int→(List tq38)→Option tq30 | 0=>(fun a b c d e=>none) | m+1=>(fun a b c d e=>qcx D n a3 (qbv D n a3 K0 m) K0 a b c d e)
def qdg (D:DX)(n:Nat) (a3:Clo) (go:Int→Int→Int→List tq38→Option tq30) (K0:List tq38→Option tq30) (a b c:Int) (d:List tq38):Option tq30:=go a b (wrap .i64 (c+1)) d
def qdm (D:DX)(n:Nat) (a3:Clo) (go:Int→Int→Int→List tq38→Option tq30) (K0:List tq38→Option tq30):(Int)→(Int)→(Int)→(Int)→(List tq38)→Option tq30:=(fun a f g h i=>qbv D n a3 (fun b c d e=>qdg D n a3 go K0 b c d e) n a f g h i)
def qb9 (D:DX)(n:Nat) (a3:Clo) (go:Int→Int→Int→List tq38→Option tq30) (K0:List tq38→Option tq30) (lp1:Int→Int→Int→Int→List tq38→Option tq30) (x0 x1 x2:Int) (x3:List tq38):Option tq30:=br (decide (x2<x1)) (lp1 x0 x1 x2 x2 x3) (K0 x3)
def qz (D:DX)(n:Nat) (a3:Clo) (K0:List tq38→Option tq30):Nat→Int→Int→Int→(List tq38)→Option tq30 | 0=>(fun x0 x1 x2 x3=>none) | m+1=>(fun x0 x1 x2 x3=>qb9 D n a3 (qz D n a3 K0 m) K0 (qdm D n a3 (qz D n a3 K0 m) K0) x0 x1 x2 x3)
def qgq (D:DX)(n:Nat) (a3:Clo) (a:List tq38):Option tq30:=some ((),a,())
def qdp (D:DX)(n:Nat) (a3:Clo):(Int)→(Int)→(Int)→(List tq38)→Option tq30:=(fun x0 x1 x2 x3=>qz D n a3 (fun a=>qgq D n a3 a) n x0 x1 x2 x3)
def qeg (D:DX)(n:Nat) (a3:Clo) (lp0:Int→Int→Int→List tq38→Option tq30) (a0:List tq38) (a1 a2:Int):Option tq30:=lp0 a1 a2 (wrap .i64 (a1+1)) a0
def qeh (D:DX)(n:Nat) (a0:List tq38) (a1 a2:Int) (a3:Clo):Option tq30:=qeg D n a3 (qdp D n a3) a0 a1 a2
def qbl (a3:Clo) (x0 x1 x2:Int) (x3:List tq38):St:=stq 53 [(0,AV.brw 0 [] 1048576),(1,AV.val yq34 x0),(2,AV.val yq34 x1),(3,AV.cloV a3),(8,AV.val yq34 x2)] [(0,Root.mk yq19 kq33 x3 false)]
def qco (a3:Clo) (a:List tq38):St:=stq 53 [(0,AV.brw 0 [] 1048576)] [(0,Root.mk yq19 kq33 a false)]
def qd7 (a3:Clo) (a b c d:Int) (e:List tq38):St:=stq 53 [(0,AV.brw 0 [] 1048576),(1,AV.val yq34 a),(2,AV.val yq34 b),(3,AV.cloV a3),(8,AV.val yq34 c),(9,AV.val yq34 d)] [(0,Root.mk yq19 kq33 e false)]
def qgr (a3:Clo) (a b c:Int) (d:List tq38):St:=stq 53 [(0,AV.brw 0 [] 1048576),(1,AV.val yq34 a),(2,AV.val yq34 b),(3,AV.cloV a3),(8,AV.val yq34 c)] [(0,Root.mk yq19 kq33 d false)]
theorem qmk (D:DX)(n:Nat) (a3:Clo) (K:KT 199):∀ (m:Nat) (e f g h:Int) (i:List tq38),LF D n 199 pq10 m (qd7 a3 e f g h i) K=qbv D n a3 (fun a b c d=>K (Ex.exit 2) (qgr a3 a b c d)) m e f g h i:=eL5 (fun F=>qcx D n a3 F (fun a b c d=>K (Ex.exit 2) (qgr a3 a b c d))) (fun _ _ _ _ _ =>q7 ..) (fun _ _ _ _ _ _ =>by kernel_rfl) (fun _ _ _ _ _ _ =>rfl)
theorem qma (D:DX)(n:Nat) (a3:Clo) (m:Nat) (K:KT 199) (a b c d:Int) (e:List tq38):LF D n 199 pq10 n (qd7 a3 a b c d e) (CF D n 199 [.r,.l,.l] [.r,.l,.l,.r,.l] (KF D n 199 pq11 m K))=qdm D n a3 (fun x0 x1 x2 x3=>LF D n 199 pq11 m (qbl a3 x0 x1 x2 x3) K) (fun f=>K (Ex.exit 0) (qco a3 f)) a b c d e :=by rw[qmk];kernel_rfl
theorem qm5 (D:DX)(n:Nat) (a3:Clo) (m:Nat) (K:KT 199) (x0) (x1) (x2) (x3):LF D n 199 pq11 (m+1) (qbl a3 x0 x1 x2 x3) K=qb9 D n a3 (fun x0 x1 x2 x3=>LF D n 199 pq11 m (qbl a3 x0 x1 x2 x3) K) (fun a=>K (Ex.exit 0) (qco a3 a)) (fun b c d e f=>LF D n 199 pq10 n (qd7 a3 b c d e f) (CF D n 199 [.r,.l,.l] [.r,.l,.l,.r,.l] (KF D n 199 pq11 m K))) x0 x1 x2 x3:=by kernel_rfl
theorem qgx (D:DX)(n:Nat) (a3:Clo) (K:KT 199):∀ (m:Nat) (x0 x1 x2:Int) (x3:List tq38),LF D n 199 pq11 m (qbl a3 x0 x1 x2 x3) K=qz D n a3 (fun a=>K (Ex.exit 0) (qco a3 a)) m x0 x1 x2 x3
 | 0,x0,x1,x2,x3=>q7 ..
 | m+1,x0,x1,x2,x3=>by
  have ih:(fun x0 x1 x2 x3=>LF D n 199 pq11 m (qbl a3 x0 x1 x2 x3) K)=qz D n a3 (fun a=>K (Ex.exit 0) (qco a3 a)) m:=by funext x0 x1 x2 x3;exact qgx D n a3 K m x0 x1 x2 x3
  rw[qm5]
  simp only[qma]
  rw[ih];rfl
theorem qmb (D:DX)(n:Nat) (a3:Clo) (x0) (x1) (x2) (x3):LF D n 199 pq11 n (qbl a3 x0 x1 x2 x3) (CF D n 199 [] pq11 (lF 199))=qdp D n a3 x0 x1 x2 x3 :=by rw[qgx];kernel_rfl
theorem qn8 (D:DX)(n:Nat) (a0:List tq38) (a1 a2:Int) (a3:Clo):rF D n 199 (a0,(a1,(a2,(a3,()))))=qeh D n a0 a1 a2 a3:=by
 have h:rF D n 199 (a0,(a1,(a2,(a3,()))))=qeg D n a3 (fun x0 x1 x2 x3=>LF D n 199 pq11 n (qbl a3 x0 x1 x2 x3) (CF D n 199 [] pq11 (lF 199))) a0 a1 a2:=by kernel_rfl
 rw[h]
 simp only[qmb]
 rfl













def q70 (D:DX)(n:Nat) (a0:Int):Option tq42:=some ((a0 != a0,()),())
def qxw (D:DX)(n:Nat) (a0:Int):Option tq42:=q70 D n a0
theorem qbkm (D:DX)(n:Nat) (a0:Int):rF D n 212 (a0,())=qxw D n a0:=by kernel_rfl





end
end Go.G

namespace Go.G
set_option maxRecDepth 100000
open Go Go.V Go.Proofs
def XOk (X:Ext):Prop:=∀ k:Nat,(Nat.beq k 128)=false→X.is k=false
theorem qbte:XOk qblv:=fun _ _=>rfl
section
variable {X:Ext}(hX:XOk X)(n:Nat)
include hX
theorem sQ {g:FuncId}{fn:Func}{a:PDen (ctx.sig g).params}{r:Option (Out ctx g)}(hf:Tryz.prog.funcs[g]?=some fn)(ht:qk7 g=some fn)(hg:Nat.beq g 128=false)(e:rF (DD X n) n g a=r):DD X (n+1) g a=r:=(qb29 X hf ht (hX g hg) n a).trans e
theorem qbms (a0):qba6 (DD X (n+1)) a0=qzu (DD X n) n a0:=sQ hX n Tryz.func9 (by kernel_rfl) rfl (qbow ..)
theorem qbyv (a0):qbb2 (DD X (n+1)) a0=qbmc (DD X n) n a0:=sQ hX n Tryz.func12 (by kernel_rfl) rfl (qbxs ..)
theorem qbc7 (a0):qpo (DD X (n+1)) a0=qpl (DD X n) n a0:=sQ hX n Tryz.func13 (by kernel_rfl) rfl (qbc9 ..)
theorem qbf4 (a0 a1):qsu (DD X (n+1)) a0 a1=qtc (DD X n) n a0 a1:=sQ hX n Tryz.func14 (by kernel_rfl) rfl (qbgc ..)
theorem qbgn (a0 a1):qs8 (DD X (n+1)) a0 a1=qsk (DD X n) n a0 a1:=sQ hX n Tryz.func15 (by kernel_rfl) rfl (qbg9 ..)
theorem qbvy (a0 a1):q9b (DD X (n+1)) a0 a1=q86 (DD X n) n a0 a1:=sQ hX n Tryz.func16 (by kernel_rfl) rfl (qbvv ..)
theorem q4e (a0):q4p (DD X (n+1)) a0=qme (DD X n) n a0:=sQ hX n Tryz.func17 (by kernel_rfl) rfl (qbgb ..)
theorem qbtv (a0 a1):qwg (DD X (n+1)) a0 a1=q6z (DD X n) n a0 a1:=sQ hX n Tryz.func34 (by kernel_rfl) rfl (qbuo ..)
theorem qbun (a0):qeo (DD X (n+1)) a0=q6y (DD X n) n a0:=sQ hX n Tryz.func35 (by kernel_rfl) rfl (qbtd ..)
theorem qbk7 (a0 a1):qpw (DD X (n+1)) a0 a1=qv0 (DD X n) n a0 a1:=sQ hX n Tryz.func36 (by kernel_rfl) rfl (qblt ..)
theorem qbop (a0 a1):qr0 (DD X (n+1)) a0 a1=q00 (DD X n) n a0 a1:=sQ hX n Tryz.func37 (by kernel_rfl) rfl (qbog ..)
theorem qbr2 (a0 a1 a2):qkn (DD X (n+1)) a0 a1 a2=q6e (DD X n) n a0 a1 a2:=sQ hX n Tryz.func38 (by kernel_rfl) rfl (qbu8 ..)
theorem qbql (a0):q3n (DD X (n+1)) a0=q3o (DD X n) n a0:=sQ hX n Tryz.func39 (by kernel_rfl) rfl (qbq8 ..)
theorem qbiy (a0):qfo (DD X (n+1)) a0=quq (DD X n) n a0:=sQ hX n Tryz.func40 (by kernel_rfl) rfl (qbif ..)
theorem qbu6 (a0):q68 (DD X (n+1)) a0=q6l (DD X n) n a0:=sQ hX n Tryz.func44 (by kernel_rfl) rfl (qbsm ..)
theorem qbfc (a0):qqh (DD X (n+1)) a0=qrb (DD X n) n a0:=sQ hX n Tryz.func45 (by kernel_rfl) rfl (qbej ..)
theorem qbil (a0):qud (DD X (n+1)) a0=qu6 (DD X n) n a0:=sQ hX n Tryz.func46 (by kernel_rfl) rfl (qbiu ..)
theorem qbo4 (a0 a1):qcd (DD X (n+1)) a0 a1=qzw (DD X n) n a0 a1:=sQ hX n Tryz.func47 (by kernel_rfl) rfl (qbmk ..)
theorem qbqv (a0 a1 a2):q2m (DD X (n+1)) a0 a1 a2=q3g (DD X n) n a0 a1 a2:=sQ hX n Tryz.func48 (by kernel_rfl) rfl (qbq3 ..)
theorem qbqx (a0 a1):q3b (DD X (n+1)) a0 a1=q3k (DD X n) n a0 a1:=sQ hX n Tryz.func49 (by kernel_rfl) rfl (qbrr ..)
theorem qbkd (a0):qji (DD X (n+1)) a0=qxl (DD X n) n a0:=sQ hX n Tryz.func50 (by kernel_rfl) rfl (qbj5 ..)
theorem qbin (a0):q6u (DD X (n+1)) a0=qu5 (DD X n) n a0:=sQ hX n Tryz.func51 (by kernel_rfl) rfl (qbi6 ..)
theorem qbqy (a0 a1):q2v (DD X (n+1)) a0 a1=q3q (DD X n) n a0 a1:=sQ hX n Tryz.func52 (by kernel_rfl) rfl (qbri ..)
theorem qbre (a0):q3d (DD X (n+1)) a0=q2j (DD X n) n a0:=sQ hX n Tryz.func53 (by kernel_rfl) rfl (qbro ..)
theorem qbic (a0):q6j (DD X (n+1)) a0=quc (DD X n) n a0:=sQ hX n Tryz.func54 (by kernel_rfl) rfl (qbjn ..)
theorem qbi7 (a0):qve (DD X (n+1)) a0=qun (DD X n) n a0:=sQ hX n Tryz.func55 (by kernel_rfl) rfl (qbix ..)
theorem qbe5 (a0):qjd (DD X (n+1)) a0=qq8 (DD X n) n a0:=sQ hX n Tryz.func56 (by kernel_rfl) rfl (qbd8 ..)
theorem qbhf (a0 a1):qtv (DD X (n+1)) a0 a1=q08 (DD X n) n a0 a1:=sQ hX n Tryz.func57 (by kernel_rfl) rfl (qbvh ..)
theorem qbv4 (a0 a1 a2):qbp (DD X (n+1)) a0 a1 a2=qbhv (DD X n) n a0 a1 a2:=sQ hX n Tryz.func58 (by kernel_rfl) rfl (qbvw ..)
theorem qbs9 (a0):qki (DD X (n+1)) a0=q64 (DD X n) n a0:=sQ hX n Tryz.func63 (by kernel_rfl) rfl (qbtk ..)
theorem qm9 (a0 a1):qdz (DD X (n+1)) a0 a1=qd4 (DD X n) n a0 a1:=sQ hX n Tryz.func64 (by kernel_rfl) rfl (qnb ..)
theorem qbq9 (a0):qor (DD X (n+1)) a0=q2f (DD X n) n a0:=sQ hX n Tryz.func66 (by kernel_rfl) rfl (qbqi ..)
theorem q9l (a0 a1):ql2 (DD X (n+1)) a0 a1=ql5 (DD X n) n a0 a1:=sQ hX n Tryz.func67 (by kernel_rfl) rfl (q88 ..)
theorem qbmm (a0):qr1 (DD X (n+1)) a0=qyj (DD X n) n a0:=sQ hX n Tryz.func68 (by kernel_rfl) rfl (qbmg ..)
theorem qty (a0):qgh (DD X (n+1)) a0=qiq (DD X n) n a0:=sQ hX n Tryz.func69 (by kernel_rfl) rfl (q83 ..)
theorem qbmx:qcp (DD X (n+1))=q9o (DD X n) n:=sQ hX n Tryz.func70 (by kernel_rfl) rfl (qbmz ..)
theorem qbwa (a0):qo1 (DD X (n+1)) a0=qbhu (DD X n) n a0:=sQ hX n Tryz.func71 (by kernel_rfl) rfl (qbvx ..)
theorem qbmv (a0):qdo (DD X (n+1)) a0=qzs (DD X n) n a0:=sQ hX n Tryz.func73 (by kernel_rfl) rfl (qbol ..)
theorem q9c (a0 a1):qiv (DD X (n+1)) a0 a1=ql0 (DD X n) n a0 a1:=sQ hX n Tryz.func74 (by kernel_rfl) rfl (q8z ..)
theorem qbqk (a0 a1):qlb (DD X (n+1)) a0 a1=qbcj (DD X n) n a0 a1:=sQ hX n Tryz.func75 (by kernel_rfl) rfl (qbqn ..)
theorem qbt9 (a0):qgj (DD X (n+1)) a0=q55 (DD X n) n a0:=sQ hX n Tryz.func76 (by kernel_rfl) rfl (qbt4 ..)
theorem qbmw (a0):qcq (DD X (n+1)) a0=q0g (DD X n) n a0:=sQ hX n Tryz.func77 (by kernel_rfl) rfl (qbnx ..)
theorem qboe (a0 a1 a2):qru (DD X (n+1)) a0 a1 a2=q0p (DD X n) n a0 a1 a2:=sQ hX n Tryz.func78 (by kernel_rfl) rfl (qbnm ..)
theorem qbdu (a0 a1 a2):qlp (DD X (n+1)) a0 a1 a2=qrn (DD X n) n a0 a1 a2:=sQ hX n Tryz.func79 (by kernel_rfl) rfl (qbdz ..)
theorem qbwb (a0):qj3 (DD X (n+1)) a0=q9d (DD X n) n a0:=sQ hX n Tryz.func80 (by kernel_rfl) rfl (qbvm ..)
theorem qbj1 (a0 a1):qxd (DD X (n+1)) a0 a1=qxh (DD X n) n a0 a1:=sQ hX n Tryz.func81 (by kernel_rfl) rfl (qbk4 ..)
theorem qbn8 (a0 a1):q0q (DD X (n+1)) a0 a1=qza (DD X n) n a0 a1:=sQ hX n Tryz.func82 (by kernel_rfl) rfl (qbmp ..)
theorem qbmu (a0):qz1 (DD X (n+1)) a0=qym (DD X n) n a0:=sQ hX n Tryz.func83 (by kernel_rfl) rfl (qboh ..)
theorem qbnn (a0):qig (DD X (n+1)) a0=qz7 (DD X n) n a0:=sQ hX n Tryz.func85 (by kernel_rfl) rfl (qbni ..)
theorem qbn9:qy6 (DD X (n+1))=qba9 (DD X n) n:=sQ hX n Tryz.func90 (by kernel_rfl) rfl (qbnc ..)
theorem qbt3 (a0 a1):qw3 (DD X (n+1)) a0 a1=q5r (DD X n) n a0 a1:=sQ hX n Tryz.func91 (by kernel_rfl) rfl (qbtg ..)
theorem qbit (a0 a1):qn1 (DD X (n+1)) a0 a1=qvd (DD X n) n a0 a1:=sQ hX n Tryz.func92 (by kernel_rfl) rfl (qbjt ..)
theorem qbev (a0):qql (DD X (n+1)) a0=qrc (DD X n) n a0:=sQ hX n Tryz.func93 (by kernel_rfl) rfl (qbdl ..)
theorem qbrd (a0):qjm (DD X (n+1)) a0=q2t (DD X n) n a0:=sQ hX n Tryz.func94 (by kernel_rfl) rfl (qbrb ..)
theorem qxp (a0):qe7 (DD X (n+1)) a0=qhp (DD X n) n a0:=sQ hX n Tryz.func95 (by kernel_rfl) rfl (qwh ..)
theorem qbnj (a0):qyx (DD X (n+1)) a0=qyn (DD X n) n a0:=sQ hX n Tryz.func96 (by kernel_rfl) rfl (qbo0 ..)
theorem qbv9 (a0 a1 a2):qbo (DD X (n+1)) a0 a1 a2=qbhz (DD X n) n a0 a1 a2:=sQ hX n Tryz.func97 (by kernel_rfl) rfl (qbvz ..)
theorem qbth (a0):qqf (DD X (n+1)) a0=q6k (DD X n) n a0:=sQ hX n Tryz.func98 (by kernel_rfl) rfl (qbuj ..)
theorem qbrg (a0):qt4 (DD X (n+1)) a0=q2o (DD X n) n a0:=sQ hX n Tryz.func99 (by kernel_rfl) rfl (qbqj ..)
theorem qbm3 (a0):q0l (DD X (n+1)) a0=qzv (DD X n) n a0:=sQ hX n Tryz.func100 (by kernel_rfl) rfl (qbne ..)
theorem qbl4 (a0 a1):qww (DD X (n+1)) a0 a1=qwk (DD X n) n a0 a1:=sQ hX n Tryz.func101 (by kernel_rfl) rfl (qbkn ..)
theorem qbj8 (a0 a1):qw1 (DD X (n+1)) a0 a1=qwf (DD X n) n a0 a1:=sQ hX n Tryz.func102 (by kernel_rfl) rfl (qbma ..)
theorem qbok (a0):qke (DD X (n+1)) a0=qzr (DD X n) n a0:=sQ hX n Tryz.func103 (by kernel_rfl) rfl (qbn5 ..)
theorem qbgg (a0):qhv (DD X (n+1)) a0=qsp (DD X n) n a0:=sQ hX n Tryz.func104 (by kernel_rfl) rfl (qbgr ..)
theorem q97 (a0 a1):qm4 (DD X (n+1)) a0 a1=qm1 (DD X n) n a0 a1:=sQ hX n Tryz.func105 (by kernel_rfl) rfl (q9v ..)
theorem qbdc (a0 a1):qpk (DD X (n+1)) a0 a1=qpm (DD X n) n a0 a1:=sQ hX n Tryz.func106 (by kernel_rfl) rfl (qbc2 ..)
theorem qbnq (a0 a1):qz4 (DD X (n+1)) a0 a1=qzd (DD X n) n a0 a1:=sQ hX n Tryz.func107 (by kernel_rfl) rfl (qbor ..)
theorem qne (a0 a1):qdx (DD X (n+1)) a0 a1=qdw (DD X n) n a0 a1:=sQ hX n Tryz.func109 (by kernel_rfl) rfl (qna ..)
theorem qbon (a0):qba0 (DD X (n+1)) a0=q0z (DD X n) n a0:=sQ hX n Tryz.func110 (by kernel_rfl) rfl (qbnb ..)
theorem qbqz (a0):q3p (DD X (n+1)) a0=q2y (DD X n) n a0:=sQ hX n Tryz.func111 (by kernel_rfl) rfl (qbqr ..)
theorem qbrh (a0 a1):q18 (DD X (n+1)) a0 a1=q20 (DD X n) n a0 a1:=sQ hX n Tryz.func112 (by kernel_rfl) rfl (qbq1 ..)
theorem qpc (a0 a1):qh9 (DD X (n+1)) a0 a1=qe0 (DD X n) n a0 a1:=sQ hX n Tryz.func113 (by kernel_rfl) rfl (qpt ..)
theorem q46 (a0 a1):qg4 (DD X (n+1)) a0 a1=qjz (DD X n) n a0 a1:=sQ hX n Tryz.func114 (by kernel_rfl) rfl (q47 ..)
theorem qbom (a0):qdn (DD X (n+1)) a0=qz8 (DD X n) n a0:=sQ hX n Tryz.func115 (by kernel_rfl) rfl (qbo3 ..)
theorem qdk (a0 a1 a2):qba3 (DD X (n+1)) a0 a1 a2=qc3 (DD X n) n a0 a1 a2:=sQ hX n Tryz.func116 (by kernel_rfl) rfl (qbmq ..)
theorem qdl (a0 a1):q91 (DD X (n+1)) a0 a1=qc4 (DD X n) n a0 a1:=sQ hX n Tryz.func117 (by kernel_rfl) rfl (qbn2 ..)
theorem qbug (a0):qqr (DD X (n+1)) a0=q5t (DD X n) n a0:=sQ hX n Tryz.func118 (by kernel_rfl) rfl (qbsk ..)
theorem qbn4 (a0):qrs (DD X (n+1)) a0=qze (DD X n) n a0:=sQ hX n Tryz.func119 (by kernel_rfl) rfl (qbn7 ..)
theorem qp8 (a0 a1):qfb (DD X (n+1)) a0 a1=qfd (DD X n) n a0 a1:=sQ hX n Tryz.func120 (by kernel_rfl) rfl (qqb ..)
theorem qbhc (a0):q4m (DD X (n+1)) a0=qsc (DD X n) n a0:=sQ hX n Tryz.func121 (by kernel_rfl) rfl (qbf5 ..)
theorem qnj (a0 a1):qcz (DD X (n+1)) a0 a1=qd6 (DD X n) n a0 a1:=sQ hX n Tryz.func122 (by kernel_rfl) rfl (qnd ..)
theorem qbgv (a0):q4n (DD X (n+1)) a0=qst (DD X n) n a0:=sQ hX n Tryz.func123 (by kernel_rfl) rfl (qbgi ..)
theorem qboq (a0):qrr (DD X (n+1)) a0=qyp (DD X n) n a0:=sQ hX n Tryz.func124 (by kernel_rfl) rfl (qbmy ..)
theorem qbiw (a0):qik (DD X (n+1)) a0=quj (DD X n) n a0:=sQ hX n Tryz.func125 (by kernel_rfl) rfl (qbh9 ..)
theorem qnc (a0 a1):qcy (DD X (n+1)) a0 a1=qd5 (DD X n) n a0 a1:=sQ hX n Tryz.func126 (by kernel_rfl) rfl (qng ..)
theorem qbf1 (a0 a1):q4i (DD X (n+1)) a0 a1=qsz (DD X n) n a0 a1:=sQ hX n Tryz.func127 (by kernel_rfl) rfl (qbg4 ..)
theorem qbva (a0):qx0 (DD X (n+1)) a0=q5y (DD X n) n a0:=sQ hX n Tryz.func132 (by kernel_rfl) rfl (qbtr ..)
theorem qbt7 (a0):qhm (DD X (n+1)) a0=qbdg (DD X n) n a0:=sQ hX n Tryz.func133 (by kernel_rfl) rfl (qbuy ..)
theorem qbu0 (a0):q5q (DD X (n+1)) a0=q66 (DD X n) n a0:=sQ hX n Tryz.func134 (by kernel_rfl) rfl (qbsy ..)
theorem qbm0 (a0):q0s (DD X (n+1)) a0=q0y (DD X n) n a0:=sQ hX n Tryz.func135 (by kernel_rfl) rfl (qbov ..)
theorem qbt8 (a0):q7s (DD X (n+1)) a0=q6p (DD X n) n a0:=sQ hX n Tryz.func136 (by kernel_rfl) rfl (qbus ..)
theorem qboa (a0 a1):qz5 (DD X (n+1)) a0 a1=qzg (DD X n) n a0 a1:=sQ hX n Tryz.func137 (by kernel_rfl) rfl (qbn1 ..)
theorem qboz (a0):q0b (DD X (n+1)) a0=qzc (DD X n) n a0:=sQ hX n Tryz.func138 (by kernel_rfl) rfl (qbnh ..)
theorem qbnp:qr4 (DD X (n+1))=qbal (DD X n) n:=sQ hX n Tryz.func139 (by kernel_rfl) rfl (qbo1 ..)
theorem qbra (a0):q2z (DD X (n+1)) a0=q2h (DD X n) n a0:=sQ hX n Tryz.func140 (by kernel_rfl) rfl (qbrq ..)
theorem qbqw (a0 a1):qbct (DD X (n+1)) a0 a1=q2b (DD X n) n a0 a1:=sQ hX n Tryz.func141 (by kernel_rfl) rfl (qbrc ..)
theorem qbsr (a0):qjf (DD X (n+1)) a0=q7r (DD X n) n a0:=sQ hX n Tryz.func143 (by kernel_rfl) rfl (qbr8 ..)
theorem qbr9 (a0):qqu (DD X (n+1)) a0=qbem (DD X n) n a0:=sQ hX n Tryz.func145 (by kernel_rfl) rfl (qbu3 ..)
theorem qbvd (a0):q06 (DD X (n+1)) a0=q84 (DD X n) n a0:=sQ hX n Tryz.func146 (by kernel_rfl) rfl (qbvq ..)
theorem qbq7 (a0 a1):q2g (DD X (n+1)) a0 a1=q2p (DD X n) n a0 a1:=sQ hX n Tryz.func147 (by kernel_rfl) rfl (qbrj ..)
theorem qsx (a0):qf4 (DD X (n+1)) a0=qf3 (DD X n) n a0:=sQ hX n Tryz.func148 (by kernel_rfl) rfl (qsl ..)
theorem qrq (a0):qda (DD X (n+1)) a0=qfn (DD X n) n a0:=sQ hX n Tryz.func149 (by kernel_rfl) rfl (qqq ..)
theorem qsy (a0):qgb (DD X (n+1)) a0=qga (DD X n) n a0:=sQ hX n Tryz.func150 (by kernel_rfl) rfl (qso ..)
theorem qsq (a0):qgc (DD X (n+1)) a0=qf2 (DD X n) n a0:=sQ hX n Tryz.func151 (by kernel_rfl) rfl (qsm ..)
theorem qbyu (a0):qbb4 (DD X (n+1)) a0=qbbo (DD X n) n a0:=sQ hX n Tryz.func152 (by kernel_rfl) rfl (qbx6 ..)
theorem qbqp (a0 a1):q2k (DD X (n+1)) a0 a1=q2s (DD X n) n a0 a1:=sQ hX n Tryz.func153 (by kernel_rfl) rfl (qbqs ..)
theorem qbv8 (a0 a1):qo0 (DD X (n+1)) a0 a1=q9h (DD X n) n a0 a1:=sQ hX n Tryz.func154 (by kernel_rfl) rfl (qbvp ..)
theorem qbvn (a0 a1):qts (DD X (n+1)) a0 a1=q85 (DD X n) n a0 a1:=sQ hX n Tryz.func155 (by kernel_rfl) rfl (qbwd ..)
theorem qbyn (a0):qbbc (DD X (n+1)) a0=qbcb (DD X n) n a0:=sQ hX n Tryz.func156 (by kernel_rfl) rfl (qbxw ..)
theorem qbd2 (a0 a1 a2):qi7 (DD X (n+1)) a0 a1 a2=qqy (DD X n) n a0 a1 a2:=sQ hX n Tryz.func157 (by kernel_rfl) rfl (qbfd ..)
theorem qbg6 (a0 a1 a2):qjr (DD X (n+1)) a0 a1 a2=qs5 (DD X n) n a0 a1 a2:=sQ hX n Tryz.func158 (by kernel_rfl) rfl (qbgq ..)
theorem qbv3 (a0 a1):q81 (DD X (n+1)) a0 a1=q82 (DD X n) n a0 a1:=sQ hX n Tryz.func159 (by kernel_rfl) rfl (qbvg ..)
theorem qbqq (a0 a1):qt5 (DD X (n+1)) a0 a1=q3s (DD X n) n a0 a1:=sQ hX n Tryz.func160 (by kernel_rfl) rfl (qbrn ..)
theorem qbtb (a0 a1 a2 a3):qw0 (DD X (n+1)) a0 a1 a2 a3=q6c (DD X n) n a0 a1 a2 a3:=sQ hX n Tryz.func161 (by kernel_rfl) rfl (qbs0 ..)
theorem qpf (a0 a1):qh4 (DD X (n+1)) a0 a1=qez (DD X n) n a0 a1:=sQ hX n Tryz.func162 (by kernel_rfl) rfl (qpi ..)
theorem qtd (a0 a1):qjy (DD X (n+1)) a0 a1=qf6 (DD X n) n a0 a1:=sQ hX n Tryz.func163 (by kernel_rfl) rfl (qtb ..)
theorem qo7 (a0 a1):qh5 (DD X (n+1)) a0 a1=qe4 (DD X n) n a0 a1:=sQ hX n Tryz.func164 (by kernel_rfl) rfl (qo9 ..)
theorem qpr (a0 a1):qh6 (DD X (n+1)) a0 a1=qe2 (DD X n) n a0 a1:=sQ hX n Tryz.func165 (by kernel_rfl) rfl (qpj ..)
theorem qbs4 (a0):qv2 (DD X (n+1)) a0=q6i (DD X n) n a0:=sQ hX n Tryz.func166 (by kernel_rfl) rfl (qbti ..)
theorem qbo2 (a0):q0e (DD X (n+1)) a0=qz2 (DD X n) n a0:=sQ hX n Tryz.func167 (by kernel_rfl) rfl (qbmt ..)
theorem qbxu (a0 a1):q4z (DD X (n+1)) a0 a1=qbbe (DD X n) n a0 a1:=sQ hX n Tryz.func168 (by kernel_rfl) rfl (qbyp ..)
theorem q7t (a0 a1):qh0 (DD X (n+1)) a0 a1=qk4 (DD X n) n a0 a1:=sQ hX n Tryz.func169 (by kernel_rfl) rfl (q7u ..)
theorem qbub (a0 a1):qw5 (DD X (n+1)) a0 a1=q57 (DD X n) n a0 a1:=sQ hX n Tryz.func170 (by kernel_rfl) rfl (qbr4 ..)
theorem qbqo (a0 a1):q3m (DD X (n+1)) a0 a1=q25 (DD X n) n a0 a1:=sQ hX n Tryz.func171 (by kernel_rfl) rfl (qbq6 ..)
theorem qbv5 (a0 a1):qev (DD X (n+1)) a0 a1=q87 (DD X n) n a0 a1:=sQ hX n Tryz.func172 (by kernel_rfl) rfl (qbvf ..)
theorem qbs7 (a0):qfi (DD X (n+1)) a0=q61 (DD X n) n a0:=sQ hX n Tryz.func173 (by kernel_rfl) rfl (qbsw ..)
theorem qbou (a0 a1 a2 a3):qrx (DD X (n+1)) a0 a1 a2 a3=qzi (DD X n) n a0 a1 a2 a3:=sQ hX n Tryz.func174 (by kernel_rfl) rfl (qbmf ..)
theorem qbam (a0):qjg (DD X (n+1)) a0=qmn (DD X n) n a0:=sQ hX n Tryz.func175 (by kernel_rfl) rfl (qba8 ..)
theorem qbrf (a0 a1 a2 a3 a4):q3t (DD X (n+1)) a0 a1 a2 a3 a4=q3e (DD X n) n a0 a1 a2 a3 a4:=sQ hX n Tryz.func176 (by kernel_rfl) rfl (qbrm ..)
theorem qbos (a0 a1):q9x (DD X (n+1)) a0 a1=q02 (DD X n) n a0 a1:=sQ hX n Tryz.func177 (by kernel_rfl) rfl (qbno ..)
theorem qpp (a0 a1):qh1 (DD X (n+1)) a0 a1=qh3 (DD X n) n a0 a1:=sQ hX n Tryz.func178 (by kernel_rfl) rfl (qbc5 ..)
theorem quz (a0 a1):qu (DD X (n+1)) a0 a1=qku (DD X n) n a0 a1:=sQ hX n Tryz.func179 (by kernel_rfl) rfl (qbji ..)
theorem qbga (a0 a1):qb8 (DD X (n+1)) a0 a1=q3v (DD X n) n a0 a1:=sQ hX n Tryz.func180 (by kernel_rfl) rfl (qbgp ..)
theorem qvf (a0 a1 a2 a3 a4):qcv (DD X (n+1)) a0 a1 a2 a3 a4=qkk (DD X n) n a0 a1 a2 a3 a4:=sQ hX n Tryz.func181 (by kernel_rfl) rfl (qbiv ..)
theorem qoi (a0 a1):qc5 (DD X (n+1)) a0 a1=qes (DD X n) n a0 a1:=sQ hX n Tryz.func182 (by kernel_rfl) rfl (qov ..)
theorem qbh7 (a0 a1):q6x (DD X (n+1)) a0 a1=qux (DD X n) n a0 a1:=sQ hX n Tryz.func183 (by kernel_rfl) rfl (qbjg ..)
theorem q1u (a0 a1 a2 a3):qj (DD X (n+1)) a0 a1 a2 a3=qi9 (DD X n) n a0 a1 a2 a3:=sQ hX n Tryz.func184 (by kernel_rfl) rfl (q1e ..)
theorem q7e (a0 a1 a2):qgs (DD X (n+1)) a0 a1 a2=qn5 (DD X n) n a0 a1 a2:=sQ hX n Tryz.func186 (by kernel_rfl) rfl (qbja ..)
theorem qsw (a0 a1 a2 a3 a4):qf (DD X (n+1)) a0 a1 a2 a3 a4=qf5 (DD X n) n a0 a1 a2 a3 a4:=sQ hX n Tryz.func187 (by kernel_rfl) rfl (qsh ..)
theorem qtn (a0 a1 a2):qj2 (DD X (n+1)) a0 a1 a2=qgn (DD X n) n a0 a1 a2:=sQ hX n Tryz.func188 (by kernel_rfl) rfl (qtr ..)
theorem qboj (a0 a1):qdr (DD X (n+1)) a0 a1=q0k (DD X n) n a0 a1:=sQ hX n Tryz.func194 (by kernel_rfl) rfl (qbng ..)
theorem qn4 (a0 a1 a2 a3):qhr (DD X (n+1)) a0 a1 a2 a3=qeh (DD X n) n a0 a1 a2 a3:=sQ hX n Tryz.func199 (by kernel_rfl) rfl (qn8 ..)
theorem qbk3 (a0):qxa (DD X (n+1)) a0=qxw (DD X n) n a0:=sQ hX n Tryz.func212 (by kernel_rfl) rfl (qbkm ..)
theorem qblf (a0):qp6 (DD X (n+1)) a0=qv7 (DD X n) n a0:=sQ hX n Tryz.func185 (by kernel_rfl) rfl (qbme ..)
theorem qbgm (a0):q4j (DD X (n+1)) a0=qbu (DD X n) n a0:=sQ hX n Tryz.func198 (by kernel_rfl) rfl (qbf2 ..)
end
end Go.G


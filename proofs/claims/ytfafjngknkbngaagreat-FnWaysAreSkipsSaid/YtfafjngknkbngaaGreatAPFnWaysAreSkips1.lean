import Derived.Test.YtfafjngknkbngaaGreatAPFnWaysAreSkips0
set_option linter.unusedVariables false
set_option linter.unusedSimpArgs false
set_option linter.unusedSectionVars false
namespace Go.G
set_option maxRecDepth 100000
set_option maxHeartbeats 0
open Go Go.V
noncomputable section
def qv8 (D:DX)(n:Nat) (go:Int→tSch→Option ((Bool×Unit)×Unit)) (K0:Bool→tSch→Option ((Bool×Unit)×Unit)) (K1:tSch→Option ((Bool×Unit)×Unit)) (x0:Int) (x1:tSch):Option ((Bool×Unit)×Unit):=br (decide (x0<(↑(List.length (Prod.fst x1)):Int))) (br (decide (0≤x0)&&decide (x0<(↑(List.length (Prod.fst x1)):Int))) (qi (qp0 D (Prod.fst (List.getD (Prod.fst x1) (Int.toNat x0) (ByteArray.empty,0,false,())))) fun b↦br (!Prod.fst (Prod.fst b)) (K0 false x1) (br (decide (0≤x0)&&decide (x0<(↑(List.length (Prod.fst x1)):Int))) (qi (qhn D (Prod.fst (Prod.snd (List.getD (Prod.fst x1) (Int.toNat x0) (ByteArray.empty,0,false,())))) 1 3) fun b↦br (!Prod.fst (Prod.fst b)) (K0 false x1) (br (decide (0≤x0)&&decide (x0<(↑(List.length (Prod.fst x1)):Int))) (qi (q56 D x1 (Prod.fst (List.getD (Prod.fst x1) (Int.toNat x0) (ByteArray.empty,0,false,())))) fun b↦br (Prod.fst (Prod.fst b) != x0) (K0 false x1) (go (IntKind.wrap IntKind.i64 (x0+1)) x1)) none)) none)) none) (K1 x1)
def qjf (D:DX)(n:Nat) (K0:Bool→tSch→Option ((Bool×Unit)×Unit)) (K1:tSch→Option ((Bool×Unit)×Unit)):Nat→(Int)→(tSch)→Option ((Bool×Unit)×Unit) | 0=>(fun x0 x1=>none) | m+1=>(fun x0 x1=>qv8 D n (qjf D n K0 K1 m) K0 K1 x0 x1)
def q1z (D:DX)(n:Nat) (v0_0:Bool) (v0_1:tSch):Option ((Bool×Unit)×Unit):=some ((v0_0,()),())
def qvt (D:DX)(n:Nat) (go:Int→tSch→Option ((Bool×Unit)×Unit)) (K0:Bool→Option ((Bool×Unit)×Unit)) (K1:Option ((Bool×Unit)×Unit)) (x1_0:Int) (x1_1:tSch):Option ((Bool×Unit)×Unit):=br (decide (x1_0<(↑(List.length (Prod.fst (Prod.snd x1_1))):Int))) (br (decide (0≤x1_0)&&decide (x1_0<(↑(List.length (Prod.fst (Prod.snd x1_1))):Int))) (br (decide (0≤List.getD (Prod.fst (Prod.snd x1_1)) (Int.toNat x1_0) 0)&&decide (List.getD (Prod.fst (Prod.snd x1_1)) (Int.toNat x1_0) 0<(↑(List.length (Prod.fst x1_1)):Int))) (br (Prod.fst (Prod.snd (Prod.snd (List.getD (Prod.fst x1_1) (Int.toNat (List.getD (Prod.fst (Prod.snd x1_1)) (Int.toNat x1_0) 0)) (ByteArray.empty,0,false,()))))) (K0 false) (go (IntKind.wrap IntKind.i64 (x1_0+1)) x1_1)) none) none) K1
def qje (D:DX)(n:Nat) (K0:Bool→Option ((Bool×Unit)×Unit)) (K1:Option ((Bool×Unit)×Unit)):Nat→(Int)→(tSch)→Option ((Bool×Unit)×Unit) | 0=>(fun x1_0 x1_1=>none) | m+1=>(fun x1_0 x1_1=>qvt D n (qje D n K0 K1 m) K0 K1 x1_0 x1_1)
def q1u (D:DX)(n:Nat) (v0_0:Bool):Option ((Bool×Unit)×Unit):=some ((v0_0,()),())
def q1s (D:DX)(n:Nat):Option ((Bool×Unit)×Unit):=some ((true,()),())
def qus (D:DX)(n:Nat):(Int)→(tSch)→Option ((Bool×Unit)×Unit):=(fun x1_0 x1_1=>qje D n (fun v0_0=>q1u D n v0_0) (q1s D n) n x1_0 x1_1)
def qtl (D:DX)(n:Nat) (lp1:Int→tSch→Option ((Bool×Unit)×Unit)) (v1_0:tSch):Option ((Bool×Unit)×Unit):=qi (qhn D (↑(List.length (Prod.fst v1_0)):Int) 1 5) fun b↦br (!Prod.fst (Prod.fst b)) (some ((false,()),())) (qi (qps D v1_0 (Prod.fst (Prod.snd v1_0)) 4) fun b↦br (!Prod.fst (Prod.fst b)) (some ((false,()),())) (qi (qul D v1_0) fun b↦br (!Prod.fst (Prod.fst b)) (some ((false,()),())) (lp1 0 v1_0)))
def quq (D:DX)(n:Nat):(Int)→(tSch)→Option ((Bool×Unit)×Unit):=(fun x0 x1=>qjf D n (fun v0_0 v0_1=>q1z D n v0_0 v0_1) (fun v1_0=>qtl D n (qus D n) v1_0) n x0 x1)
def qx8 (D:DX)(n:Nat) (lp0:Int→tSch→Option ((Bool×Unit)×Unit)) (a0:tSch):Option ((Bool×Unit)×Unit):=lp0 0 a0
def qx1 (D:DX)(n:Nat) (a0:tSch):Option ((Bool×Unit)×Unit):=qx8 D n (quq D n) a0
def qi4 (x0:Int) (x1:tSch):St:=stq 76 [(1,AV.addr 1 []),(3,avI x0)] [(1,Root.mk yS Mk.no x1 true)] 
def qnh (v0_0:Bool) (v0_1:tSch):St:=stq 76 [(1,AV.addr 1 []),(2,AV.val Ty.bool v0_0)] [(1,Root.mk yS Mk.no v0_1 true)] 
def qm9 (v1_0:tSch):St:=stq 76 [(1,AV.addr 1 [])] [(1,Root.mk yS Mk.no v1_0 true)] 
def qi6 (x1_0:Int) (x1_1:tSch):St:=stq 76 [(1,AV.addr 1 []),(4,avI x1_0)] [(1,Root.mk yS Mk.no x1_1 true)] 
def qne (v0_0:Bool):St:=stq 76 [(2,AV.val Ty.bool v0_0)] [] 
def qnf:St:=stq 76 [] [] 
theorem qbea (D:DX)(n:Nat) (m:Nat) (K:Ex→St→Option (Out ctx 112)) (x0:Int) (x1:tSch) :
 LQ qc D n 112 [.r,.l,.r,.l] (m+1) (qi4 x0 x1) K=qv8 D n (fun x0 x1=>LQ qc D n 112 [.r,.l,.r,.l] m (qi4 x0 x1) K) (fun v0_0 v0_1=>K (Ex.ret) (qnh v0_0 v0_1)) (fun v1_0=>K (Ex.exit 0) (qm9 v1_0)) x0 x1:=by kernel_rfl
theorem q3d (D:DX)(n:Nat) (K:Ex→St→Option (Out ctx 112)):∀ (m:Nat) (x0:Int) (x1:tSch),LQ qc D n 112 [.r,.l,.r,.l] m (qi4 x0 x1) K=qjf D n (fun v0_0 v0_1=>K (Ex.ret) (qnh v0_0 v0_1)) (fun v1_0=>K (Ex.exit 0) (qm9 v1_0)) m x0 x1
 | 0,x0,x1=>qx ..
 | m+1,x0,x1=>by
  have ih:(fun x0 x1=>LQ qc D n 112 [.r,.l,.r,.l] m (qi4 x0 x1) K)=qjf D n (fun v0_0 v0_1=>K (Ex.ret) (qnh v0_0 v0_1)) (fun v1_0=>K (Ex.exit 0) (qm9 v1_0)) m:=by funext x0 x1;exact q3d D n K m x0 x1
  rw[qbea]
  rw[ih];rfl
theorem qbd8 (D:DX)(n:Nat) (m:Nat) (K:Ex→St→Option (Out ctx 112)) (x1_0:Int) (x1_1:tSch) :
 LQ qc D n 112 [.r,.r,.r,.l,.r,.l] (m+1) (qi6 x1_0 x1_1) K=qvt D n (fun x1_0 x1_1=>LQ qc D n 112 [.r,.r,.r,.l,.r,.l] m (qi6 x1_0 x1_1) K) (fun v0_0=>K (Ex.ret) (qne v0_0)) (K (Ex.exit 2) (qnf)) x1_0 x1_1:=by kernel_rfl
theorem q3n (D:DX)(n:Nat) (K:Ex→St→Option (Out ctx 112)):∀ (m:Nat) (x1_0:Int) (x1_1:tSch),LQ qc D n 112 [.r,.r,.r,.l,.r,.l] m (qi6 x1_0 x1_1) K=qje D n (fun v0_0=>K (Ex.ret) (qne v0_0)) (K (Ex.exit 2) (qnf)) m x1_0 x1_1
 | 0,x1_0,x1_1=>qx ..
 | m+1,x1_0,x1_1=>by
  have ih:(fun x1_0 x1_1=>LQ qc D n 112 [.r,.r,.r,.l,.r,.l] m (qi6 x1_0 x1_1) K)=qje D n (fun v0_0=>K (Ex.ret) (qne v0_0)) (K (Ex.exit 2) (qnf)) m:=by funext x1_0 x1_1;exact q3n D n K m x1_0 x1_1
  rw[qbd8]
  rw[ih];rfl
theorem qbcc (D:DX)(n:Nat) (v0_0:Bool) :
 (CQ qc D n 112 [] [.r,.r,.r,.l,.r,.l] (qh qc 112)) (Ex.ret) (qne v0_0)=q1u D n v0_0:=by kernel_rfl
theorem qbbt (D:DX)(n:Nat) :
 (CQ qc D n 112 [] [.r,.r,.r,.l,.r,.l] (qh qc 112)) (Ex.exit 2) (qnf)=q1s D n:=by kernel_rfl
theorem qbcy (D:DX)(n:Nat) (x1_0:Int) (x1_1:tSch) :
 LQ qc D n 112 [.r,.r,.r,.l,.r,.l] n (qi6 x1_0 x1_1) (CQ qc D n 112 [] [.r,.r,.r,.l,.r,.l] (qh qc 112))=qus D n x1_0 x1_1:=by
 rw[q3n]
 simp only[qbcc,qbbt]
 rfl
theorem qbbs (D:DX)(n:Nat) (v0_0:Bool) (v0_1:tSch) :
 (CQ qc D n 112 [] [.r,.l,.r,.l] (qh qc 112)) (Ex.ret) (qnh v0_0 v0_1)=q1z D n v0_0 v0_1:=by kernel_rfl
theorem qbb7 (D:DX)(n:Nat) (v1_0:tSch) :
 (CQ qc D n 112 [] [.r,.l,.r,.l] (qh qc 112)) (Ex.exit 0) (qm9 v1_0)=qtl D n (fun x1_0 x1_1=>LQ qc D n 112 [.r,.r,.r,.l,.r,.l] n (qi6 x1_0 x1_1) (CQ qc D n 112 [] [.r,.r,.r,.l,.r,.l] (qh qc 112))) v1_0:=by kernel_rfl
theorem qbco (D:DX)(n:Nat) (x0:Int) (x1:tSch) :
 LQ qc D n 112 [.r,.l,.r,.l] n (qi4 x0 x1) (CQ qc D n 112 [] [.r,.l,.r,.l] (qh qc 112))=quq D n x0 x1:=by
 rw[q3d]
 simp only[qbbs,qbb7,qbcy]
 rfl
theorem qbi8 (D:DX)(n:Nat) (a0:tSch):rfC qc D n 112 (a0,())=qx1 D n a0:=by
 have h:rfC qc D n 112 (a0,())=qx8 D n (fun x0 x1=>LQ qc D n 112 [.r,.l,.r,.l] n (qi4 x0 x1) (CQ qc D n 112 [] [.r,.l,.r,.l] (qh qc 112))) a0:=by kernel_rfl
 rw[h]
 simp only[qbco]
 rfl

def qbad (D:DX)(n:Nat) (a0:List Int×Int×Int×Unit) (a1:Int):Option ((Bool×Unit)×tCur×Unit):=qi (qda D a0 a1) fun b↦some ((decide (Prod.fst (Prod.fst b)=0),()),Prod.fst (Prod.snd b),())
def q2s (D:DX)(n:Nat) (a0:List Int×Int×Int×Unit) (a1:Int):Option ((Bool×Unit)×tCur×Unit):=qbad D n a0 a1
theorem qbn5 (D:DX)(n:Nat) (a0:List Int×Int×Int×Unit) (a1:Int):rfC qc D n 114 (a0,(a1,()))=q2s D n a0 a1:=by kernel_rfl

def q80 (D:DX)(n:Nat) (a0:List Int×Int×Int×Unit) (a1:Int):Option ((Int×Unit)×tCur×Unit):=br (decide (a1≤0)) (some ((0,()),a0,())) (br (decide (a1≤256)) (qi (qkw D a0) fun b↦br (decide (a1=0)) none (some ((Int.tmod (Prod.fst (Prod.fst b)) a1,()),Prod.fst (Prod.snd b),()))) (qi (qkw D a0) fun b↦qi (qkw D (Prod.fst (Prod.snd b))) fun b_1↦qi (qkw D (Prod.fst (Prod.snd b_1))) fun b_2↦qi (qkw D (Prod.fst (Prod.snd b_2))) fun b_3↦br (decide (a1=0)) none (some ((Int.tmod (IntKind.wrap IntKind.i64 (IntKind.wrap IntKind.i64 (IntKind.wrap IntKind.i64 (IntKind.wrap IntKind.i64 (Prod.fst (Prod.fst b) * 16777216)+IntKind.wrap IntKind.i64 (Prod.fst (Prod.fst b_1) * 65536))+IntKind.wrap IntKind.i64 (Prod.fst (Prod.fst b_2) * 256))+Prod.fst (Prod.fst b_3))) a1,()),Prod.fst (Prod.snd b_3),()))))
def q0z (D:DX)(n:Nat) (a0:List Int×Int×Int×Unit) (a1:Int):Option ((Int×Unit)×tCur×Unit):=q80 D n a0 a1
theorem qblp (D:DX)(n:Nat) (a0:List Int×Int×Int×Unit) (a1:Int):rfC qc D n 115 (a0,(a1,()))=q0z D n a0 a1:=by kernel_rfl

def qbey (D:DX)(n:Nat) (a0:Int) (a1:Int) (a2:Int):Option ((Bool×Unit)×Unit):=some ((bif decide (a0≥a1) then decide (a0≤a2) else false,()),())
def q7o (D:DX)(n:Nat) (a0:Int) (a1:Int) (a2:Int):Option ((Bool×Unit)×Unit):=qbey D n a0 a1 a2
theorem qbri (D:DX)(n:Nat) (a0:Int) (a1:Int) (a2:Int):rfC qc D n 117 (a0,(a1,(a2,())))=q7o D n a0 a1 a2:=by kernel_rfl


def qx5 (D:DX)(n:Nat) (go:qd→List Int→Int→qd→Option ((qd×Unit)×Unit)) (K0:qd→Option ((qd×Unit)×Unit)) (x0:qd) (x1:List Int) (x2:Int) (x3:qd):Option ((qd×Unit)×Unit):=br (decide (x2<(↑(List.length x1):Int))) (br (decide (0≤x2)&&decide (x2<(↑(List.length x1):Int))) (qi (qhn D (List.getD x1 (Int.toNat x2) 0) 0 (IntKind.wrap IntKind.i64 ((↑(List.length x0):Int) - 1))) fun b↦br (Prod.fst (Prod.fst b)) (br (decide (0≤x2)&&decide (x2<(↑(List.length x1):Int))) (br (decide (0≤List.getD x1 (Int.toNat x2) 0)&&decide (List.getD x1 (Int.toNat x2) 0<(↑(List.length x0):Int))) (br (decide (List.length x3+1≤qbi)) (go x0 x1 (IntKind.wrap IntKind.i64 (x2+1)) (x3++[List.getD x0 (Int.toNat (List.getD x1 (Int.toNat x2) 0)) (0,0,ByteArray.empty,())])) none) none) none) (go x0 x1 (IntKind.wrap IntKind.i64 (x2+1)) x3)) none) (K0 x3)
def qkh (D:DX)(n:Nat) (K0:qd→Option ((qd×Unit)×Unit)):Nat→(qd)→(List Int)→(Int)→(qd)→Option ((qd×Unit)×Unit) | 0=>(fun x0 x1 x2 x3=>none) | m+1=>(fun x0 x1 x2 x3=>qx5 D n (qkh D n K0 m) K0 x0 x1 x2 x3)
def q3b (D:DX)(n:Nat) (v0_0:qd):Option ((qd×Unit)×Unit):=some ((v0_0,()),())
def qwo (D:DX)(n:Nat):(qd)→(List Int)→(Int)→(qd)→Option ((qd×Unit)×Unit):=(fun x0 x1 x2 x3=>qkh D n (fun v0_0=>q3b D n v0_0) n x0 x1 x2 x3)
def q0e (D:DX)(n:Nat) (lp0:qd→List Int→Int→qd→Option ((qd×Unit)×Unit)) (a0:qd) (a1:List Int):Option ((qd×Unit)×Unit):=lp0 a0 a1 0 []
def q00 (D:DX)(n:Nat) (a0:qd) (a1:List Int):Option ((qd×Unit)×Unit):=q0e D n (qwo D n) a0 a1
def qkl (x0:qd) (x1:List Int) (x2:Int) (x3:qd):St:=stq 33 [(0,AV.val (Ty.sl yV) x0),(1,AV.val (Ty.sl yI) x1),(5,AV.brw 5 [] 0),(6,avI x2)] [(5,Root.mk (Ty.sl yV) (Mk.own 0 (Mk.pr Mk.no (Mk.pr Mk.no (Mk.pr Mk.no Mk.no)))) x3 false)] 
def qoo (v0_0:qd):St:=stq 33 [(5,AV.brw 5 [] 0)] [(5,Root.mk (Ty.sl yV) (Mk.own 0 (Mk.pr Mk.no (Mk.pr Mk.no (Mk.pr Mk.no Mk.no)))) v0_0 false)] 
theorem qbf2 (D:DX)(n:Nat) (m:Nat) (K:Ex→St→Option (Out ctx 119)) (x0:qd) (x1:List Int) (x2:Int) (x3:qd) :
 LQ qc D n 119 [.r,.r,.l,.r,.l] (m+1) (qkl x0 x1 x2 x3) K=qx5 D n (fun x0 x1 x2 x3=>LQ qc D n 119 [.r,.r,.l,.r,.l] m (qkl x0 x1 x2 x3) K) (fun v0_0=>K (Ex.exit 0) (qoo v0_0)) x0 x1 x2 x3:=by kernel_rfl
theorem q4u (D:DX)(n:Nat) (K:Ex→St→Option (Out ctx 119)):∀ (m:Nat) (x0:qd) (x1:List Int) (x2:Int) (x3:qd),LQ qc D n 119 [.r,.r,.l,.r,.l] m (qkl x0 x1 x2 x3) K=qkh D n (fun v0_0=>K (Ex.exit 0) (qoo v0_0)) m x0 x1 x2 x3
 | 0,x0,x1,x2,x3=>qx ..
 | m+1,x0,x1,x2,x3=>by
  have ih:(fun x0 x1 x2 x3=>LQ qc D n 119 [.r,.r,.l,.r,.l] m (qkl x0 x1 x2 x3) K)=qkh D n (fun v0_0=>K (Ex.exit 0) (qoo v0_0)) m:=by funext x0 x1 x2 x3;exact q4u D n K m x0 x1 x2 x3
  rw[qbf2]
  rw[ih];rfl
theorem qbev (D:DX)(n:Nat) (v0_0:qd) :
 (CQ qc D n 119 [] [.r,.r,.l,.r,.l] (qh qc 119)) (Ex.exit 0) (qoo v0_0)=q3b D n v0_0:=by kernel_rfl
theorem qbeg (D:DX)(n:Nat) (x0:qd) (x1:List Int) (x2:Int) (x3:qd) :
 LQ qc D n 119 [.r,.r,.l,.r,.l] n (qkl x0 x1 x2 x3) (CQ qc D n 119 [] [.r,.r,.l,.r,.l] (qh qc 119))=qwo D n x0 x1 x2 x3:=by
 rw[q4u]
 simp only[qbev]
 rfl
theorem qblt (D:DX)(n:Nat) (a0:qd) (a1:List Int):rfC qc D n 119 (a0,(a1,()))=q00 D n a0 a1:=by
 have h:rfC qc D n 119 (a0,(a1,()))=q0e D n (fun x0 x1 x2 x3=>LQ qc D n 119 [.r,.r,.l,.r,.l] n (qkl x0 x1 x2 x3) (CQ qc D n 119 [] [.r,.r,.l,.r,.l] (qh qc 119))) a0 a1:=by kernel_rfl
 rw[h]
 simp only[qbeg]
 rfl
















def qqe (D:DX)(n:Nat) (go:Int→Int→List Int×Int×Int×Unit→tSch→tSch→List ByteArray→Option (((tSch)×Unit)×tCur×Unit)) (K0:Int→List Int×Int×Int×Unit→tSch→tSch→Option (((tSch)×Unit)×tCur×Unit)) (x0:Int) (x1:Int) (x2:List Int×Int×Int×Unit) (x3:tSch) (x4:tSch) (x5:List ByteArray):Option (((tSch)×Unit)×tCur×Unit):=br (decide (x1<x0)) (br (decide (0≤x1)&&decide (x1<(↑(List.length x5):Int))) (qi (qda D x2 3) fun b↦br (decide (x1>0)) (qi (qkx D (Prod.fst (Prod.snd b)) 2) fun b_1↦br (decide (List.length (Prod.fst x4)+1≤qbi)) (go x0 (IntKind.wrap IntKind.i64 (x1+1)) (Prod.fst (Prod.snd b_1)) x3 (Prod.fst x4++[(List.getD x5 (Int.toNat x1) ByteArray.empty,IntKind.wrap IntKind.i64 (1+Prod.fst (Prod.fst b)),Prod.fst (Prod.fst b_1),())],Prod.snd x4) x5) none) (br (decide (List.length (Prod.fst x4)+1≤qbi)) (go x0 (IntKind.wrap IntKind.i64 (x1+1)) (Prod.fst (Prod.snd b)) x3 (Prod.fst x4++[(List.getD x5 (Int.toNat x1) ByteArray.empty,IntKind.wrap IntKind.i64 (1+Prod.fst (Prod.fst b)),false,())],Prod.snd x4) x5) none)) none) (K0 x0 x2 x3 x4)
def qf8 (D:DX)(n:Nat) (K0:Int→List Int×Int×Int×Unit→tSch→tSch→Option (((tSch)×Unit)×tCur×Unit)):Nat→(Int)→(Int)→tCur→(tSch)→(tSch)→(List ByteArray)→Option (((tSch)×Unit)×tCur×Unit) | 0=>(fun x0 x1 x2 x3 x4 x5=>none) | m+1=>(fun x0 x1 x2 x3 x4 x5=>qqe D n (qf8 D n K0 m) K0 x0 x1 x2 x3 x4 x5)
def qpn (D:DX)(n:Nat) (go:Int→Int→List Int×Int×Int×Unit→tSch→tSch→Option (((tSch)×Unit)×tCur×Unit)) (K0:List Int×Int×Int×Unit→tSch→tSch→Option (((tSch)×Unit)×tCur×Unit)) (x1_0:Int) (x1_1:Int) (x1_2:List Int×Int×Int×Unit) (x1_3:tSch) (x1_4:tSch):Option (((tSch)×Unit)×tCur×Unit):=qi (qda D x1_2 3) fun b↦br (decide (x1_1<Prod.fst (Prod.fst b))) (qi (qda D (Prod.fst (Prod.snd b)) (IntKind.wrap IntKind.i64 (x1_0 - 1))) fun b↦br (decide (0≤x1_1)&&decide (x1_1<(↑3:Int))) (qi (qkx D (Prod.fst (Prod.snd b)) 2) fun b_1↦qi (qkx D (Prod.fst (Prod.snd b_1)) 2) fun b_2↦br (Prod.fst (Prod.fst b_2)) (br (decide (x1_0=0)) none (br (decide (List.length (Prod.fst (Prod.snd (Prod.snd x1_4)))+1≤qbi)) (go x1_0 (IntKind.wrap IntKind.i64 (x1_1+1)) (Prod.fst (Prod.snd b_2)) x1_3 (Prod.fst x1_4,Prod.fst (Prod.snd x1_4),Prod.fst (Prod.snd (Prod.snd x1_4))++[(List.getD [ByteArray.mk #[UInt8.ofNat 120],ByteArray.mk #[UInt8.ofNat 121],ByteArray.mk #[UInt8.ofNat 122]] (Int.toNat x1_1) ByteArray.empty,[IntKind.wrap IntKind.i64 (1+Prod.fst (Prod.fst b))]++[Int.tmod (IntKind.wrap IntKind.i64 (IntKind.wrap IntKind.i64 (1+Prod.fst (Prod.fst b))+1)) x1_0],Prod.fst (Prod.fst b_1),())],Prod.snd (Prod.snd (Prod.snd x1_4)))) none)) (br (decide (List.length (Prod.fst (Prod.snd (Prod.snd x1_4)))+1≤qbi)) (go x1_0 (IntKind.wrap IntKind.i64 (x1_1+1)) (Prod.fst (Prod.snd b_2)) x1_3 (Prod.fst x1_4,Prod.fst (Prod.snd x1_4),Prod.fst (Prod.snd (Prod.snd x1_4))++[(List.getD [ByteArray.mk #[UInt8.ofNat 120],ByteArray.mk #[UInt8.ofNat 121],ByteArray.mk #[UInt8.ofNat 122]] (Int.toNat x1_1) ByteArray.empty,[IntKind.wrap IntKind.i64 (1+Prod.fst (Prod.fst b))],Prod.fst (Prod.fst b_1),())],Prod.snd (Prod.snd (Prod.snd x1_4)))) none)) none) (K0 (Prod.fst (Prod.snd b)) x1_3 x1_4)
def qf7 (D:DX)(n:Nat) (K0:List Int×Int×Int×Unit→tSch→tSch→Option (((tSch)×Unit)×tCur×Unit)):Nat→(Int)→(Int)→tCur→(tSch)→(tSch)→Option (((tSch)×Unit)×tCur×Unit) | 0=>(fun x1_0 x1_1 x1_2 x1_3 x1_4=>none) | m+1=>(fun x1_0 x1_1 x1_2 x1_3 x1_4=>qpn D n (qf7 D n K0 m) K0 x1_0 x1_1 x1_2 x1_3 x1_4)
def qju (D:DX)(n:Nat) (v0_0:List Int×Int×Int×Unit) (v0_1:tSch) (v0_2:tSch):Option (((tSch)×Unit)×tCur×Unit):=qi (qqa D v0_0 [2,3]) fun b↦br (decide (0≤0)&&decide (0<(↑(List.length (Prod.fst v0_2)):Int))) (some (((List.set (Prod.fst v0_2) 0 (Prod.fst (List.getD (Prod.fst v0_2) 0 (ByteArray.empty,0,false,())),Prod.fst (Prod.fst b),Prod.snd (Prod.snd (List.getD (Prod.fst v0_2) 0 (ByteArray.empty,0,false,())))),Prod.fst (Prod.snd v0_2),Prod.fst (Prod.snd (Prod.snd v0_2)),()),()),Prod.fst (Prod.snd b),())) none
def qki (D:DX)(n:Nat):(Int)→(Int)→tCur→(tSch)→(tSch)→Option (((tSch)×Unit)×tCur×Unit):=(fun x1_0 x1_1 x1_2 x1_3 x1_4=>qf7 D n (fun v0_0 v0_1 v0_2=>qju D n v0_0 v0_1 v0_2) n x1_0 x1_1 x1_2 x1_3 x1_4)
def qjq (D:DX)(n:Nat) (lp1:Int→Int→List Int×Int×Int×Unit→tSch→tSch→Option (((tSch)×Unit)×tCur×Unit)) (v0_0:Int) (v0_1:List Int×Int×Int×Unit) (v0_2:tSch) (v0_3:tSch):Option (((tSch)×Unit)×tCur×Unit):=lp1 v0_0 0 v0_1 v0_2 (Prod.fst v0_3,[0],Prod.snd (Prod.snd v0_3))
def qpc (D:DX)(n:Nat):(Int)→(Int)→tCur→(tSch)→(tSch)→(List ByteArray)→Option (((tSch)×Unit)×tCur×Unit):=(fun x0 x1 x2 x3 x4 x5=>qf8 D n (fun v0_0 v0_1 v0_2 v0_3=>qjq D n (qki D n) v0_0 v0_1 v0_2 v0_3) n x0 x1 x2 x3 x4 x5)
def qrr (D:DX)(n:Nat) (lp0:Int→Int→List Int×Int×Int×Unit→tSch→tSch→List ByteArray→Option (((tSch)×Unit)×tCur×Unit)) (a0:List Int×Int×Int×Unit):Option (((tSch)×Unit)×tCur×Unit):=qi (qda D a0 3) fun b↦lp0 (IntKind.wrap IntKind.i64 (2+Prod.fst (Prod.fst b))) 0 (Prod.fst (Prod.snd b)) ([],[],[],()) ([],[],[],()) [ByteArray.mk #[UInt8.ofNat 105,UInt8.ofNat 100],ByteArray.mk #[UInt8.ofNat 110,UInt8.ofNat 97,UInt8.ofNat 109,UInt8.ofNat 101],ByteArray.mk #[UInt8.ofNat 115,UInt8.ofNat 105,UInt8.ofNat 122,UInt8.ofNat 101],ByteArray.mk #[UInt8.ofNat 111,UInt8.ofNat 110]]
def qrj (D:DX)(n:Nat) (a0:List Int×Int×Int×Unit):Option (((tSch)×Unit)×tCur×Unit):=qrr D n (qpc D n) a0
def qf6 (x0:Int) (x1:Int) (x2:List Int×Int×Int×Unit) (x3:tSch) (x4:tSch) (x5:List ByteArray):St:=stq 86 [(0,AV.addr 0 []),(2,AV.addr 2 []),(3,AV.addr 3 []),(4,AV.brw 4 [] 0),(5,avI x0),(6,avI x1)] [(0,Root.mk (Ty.pair (Ty.sl (Ty.int IntKind.u8)) (Ty.pair yI (Ty.pair yI Ty.unit))) Mk.no x2 true),(2,Root.mk yS (Mk.pr (Mk.own 0 (Mk.pr Mk.no (Mk.pr Mk.no (Mk.pr Mk.no Mk.no)))) (Mk.pr (Mk.own 0 Mk.no) (Mk.pr (Mk.own 0 (Mk.pr Mk.no (Mk.pr (Mk.own 0 Mk.no) (Mk.pr Mk.no Mk.no)))) Mk.no))) x3 true),(3,Root.mk yS (Mk.pr (Mk.own 0 (Mk.pr Mk.no (Mk.pr Mk.no (Mk.pr Mk.no Mk.no)))) (Mk.pr (Mk.own 0 Mk.no) (Mk.pr (Mk.own 0 (Mk.pr Mk.no (Mk.pr (Mk.own 0 Mk.no) (Mk.pr Mk.no Mk.no)))) Mk.no))) x4 true),(4,Root.mk (Ty.sl Ty.str) (Mk.own 0 Mk.no) x5 false)] 
def qjm (v0_0:Int) (v0_1:List Int×Int×Int×Unit) (v0_2:tSch) (v0_3:tSch):St:=stq 86 [(0,AV.addr 0 []),(2,AV.addr 2 []),(3,AV.addr 3 []),(5,avI v0_0)] [(0,Root.mk (Ty.pair (Ty.sl (Ty.int IntKind.u8)) (Ty.pair yI (Ty.pair yI Ty.unit))) Mk.no v0_1 true),(2,Root.mk yS (Mk.pr (Mk.own 0 (Mk.pr Mk.no (Mk.pr Mk.no (Mk.pr Mk.no Mk.no)))) (Mk.pr (Mk.own 0 Mk.no) (Mk.pr (Mk.own 0 (Mk.pr Mk.no (Mk.pr (Mk.own 0 Mk.no) (Mk.pr Mk.no Mk.no)))) Mk.no))) v0_2 true),(3,Root.mk yS (Mk.pr (Mk.own 0 (Mk.pr Mk.no (Mk.pr Mk.no (Mk.pr Mk.no Mk.no)))) (Mk.pr (Mk.own 0 Mk.no) (Mk.pr (Mk.own 0 (Mk.pr Mk.no (Mk.pr (Mk.own 0 Mk.no) (Mk.pr Mk.no Mk.no)))) Mk.no))) v0_3 true)] 
def qf4 (x1_0:Int) (x1_1:Int) (x1_2:List Int×Int×Int×Unit) (x1_3:tSch) (x1_4:tSch):St:=stq 86 [(0,AV.addr 0 []),(2,AV.addr 2 []),(3,AV.addr 3 []),(5,avI x1_0),(7,avI x1_1)] [(0,Root.mk (Ty.pair (Ty.sl (Ty.int IntKind.u8)) (Ty.pair yI (Ty.pair yI Ty.unit))) Mk.no x1_2 true),(2,Root.mk yS (Mk.pr (Mk.own 0 (Mk.pr Mk.no (Mk.pr Mk.no (Mk.pr Mk.no Mk.no)))) (Mk.pr (Mk.own 0 Mk.no) (Mk.pr (Mk.own 0 (Mk.pr Mk.no (Mk.pr (Mk.own 0 Mk.no) (Mk.pr Mk.no Mk.no)))) Mk.no))) x1_3 true),(3,Root.mk yS (Mk.pr (Mk.own 0 (Mk.pr Mk.no (Mk.pr Mk.no (Mk.pr Mk.no Mk.no)))) (Mk.pr (Mk.own 0 Mk.no) (Mk.pr (Mk.own 0 (Mk.pr Mk.no (Mk.pr (Mk.own 0 Mk.no) (Mk.pr Mk.no Mk.no)))) Mk.no))) x1_4 true)] 
def qjx (v0_0:List Int×Int×Int×Unit) (v0_1:tSch) (v0_2:tSch):St:=stq 86 [(0,AV.addr 0 []),(2,AV.addr 2 []),(3,AV.addr 3 [])] [(0,Root.mk (Ty.pair (Ty.sl (Ty.int IntKind.u8)) (Ty.pair yI (Ty.pair yI Ty.unit))) Mk.no v0_0 true),(2,Root.mk yS (Mk.pr (Mk.own 0 (Mk.pr Mk.no (Mk.pr Mk.no (Mk.pr Mk.no Mk.no)))) (Mk.pr (Mk.own 0 Mk.no) (Mk.pr (Mk.own 0 (Mk.pr Mk.no (Mk.pr (Mk.own 0 Mk.no) (Mk.pr Mk.no Mk.no)))) Mk.no))) v0_1 true),(3,Root.mk yS (Mk.pr (Mk.own 0 (Mk.pr Mk.no (Mk.pr Mk.no (Mk.pr Mk.no Mk.no)))) (Mk.pr (Mk.own 0 Mk.no) (Mk.pr (Mk.own 0 (Mk.pr Mk.no (Mk.pr (Mk.own 0 Mk.no) (Mk.pr Mk.no Mk.no)))) Mk.no))) v0_2 true)] 
theorem q83 (D:DX)(n:Nat) (m:Nat) (K:Ex→St→Option (Out ctx 135)) (x0:Int) (x1:Int) (x2:List Int×Int×Int×Unit) (x3:tSch) (x4:tSch) (x5:List ByteArray) :
 LQ qc D n 135 [.r,.r,.r,.r,.l,.r,.l] (m+1) (qf6 x0 x1 x2 x3 x4 x5) K=qqe D n (fun x0 x1 x2 x3 x4 x5=>LQ qc D n 135 [.r,.r,.r,.r,.l,.r,.l] m (qf6 x0 x1 x2 x3 x4 x5) K) (fun v0_0 v0_1 v0_2 v0_3=>K (Ex.exit 0) (qjm v0_0 v0_1 v0_2 v0_3)) x0 x1 x2 x3 x4 x5:=by kernel_rfl
theorem qw3 (D:DX)(n:Nat) (K:Ex→St→Option (Out ctx 135)):∀ (m:Nat) (x0:Int) (x1:Int) (x2:List Int×Int×Int×Unit) (x3:tSch) (x4:tSch) (x5:List ByteArray),LQ qc D n 135 [.r,.r,.r,.r,.l,.r,.l] m (qf6 x0 x1 x2 x3 x4 x5) K=qf8 D n (fun v0_0 v0_1 v0_2 v0_3=>K (Ex.exit 0) (qjm v0_0 v0_1 v0_2 v0_3)) m x0 x1 x2 x3 x4 x5
 | 0,x0,x1,x2,x3,x4,x5=>qx ..
 | m+1,x0,x1,x2,x3,x4,x5=>by
  have ih:(fun x0 x1 x2 x3 x4 x5=>LQ qc D n 135 [.r,.r,.r,.r,.l,.r,.l] m (qf6 x0 x1 x2 x3 x4 x5) K)=qf8 D n (fun v0_0 v0_1 v0_2 v0_3=>K (Ex.exit 0) (qjm v0_0 v0_1 v0_2 v0_3)) m:=by funext x0 x1 x2 x3 x4 x5;exact qw3 D n K m x0 x1 x2 x3 x4 x5
  rw[q83]
  rw[ih];rfl
theorem q82 (D:DX)(n:Nat) (m:Nat) (K:Ex→St→Option (Out ctx 135)) (x1_0:Int) (x1_1:Int) (x1_2:List Int×Int×Int×Unit) (x1_3:tSch) (x1_4:tSch) :
 LQ qc D n 135 [.r,.r,.r,.r,.r,.r,.l,.r,.l] (m+1) (qf4 x1_0 x1_1 x1_2 x1_3 x1_4) K=qpn D n (fun x1_0 x1_1 x1_2 x1_3 x1_4=>LQ qc D n 135 [.r,.r,.r,.r,.r,.r,.l,.r,.l] m (qf4 x1_0 x1_1 x1_2 x1_3 x1_4) K) (fun v0_0 v0_1 v0_2=>K (Ex.exit 2) (qjx v0_0 v0_1 v0_2)) x1_0 x1_1 x1_2 x1_3 x1_4:=by kernel_rfl
theorem qw5 (D:DX)(n:Nat) (K:Ex→St→Option (Out ctx 135)):∀ (m:Nat) (x1_0:Int) (x1_1:Int) (x1_2:List Int×Int×Int×Unit) (x1_3:tSch) (x1_4:tSch),LQ qc D n 135 [.r,.r,.r,.r,.r,.r,.l,.r,.l] m (qf4 x1_0 x1_1 x1_2 x1_3 x1_4) K=qf7 D n (fun v0_0 v0_1 v0_2=>K (Ex.exit 2) (qjx v0_0 v0_1 v0_2)) m x1_0 x1_1 x1_2 x1_3 x1_4
 | 0,x1_0,x1_1,x1_2,x1_3,x1_4=>qx ..
 | m+1,x1_0,x1_1,x1_2,x1_3,x1_4=>by
  have ih:(fun x1_0 x1_1 x1_2 x1_3 x1_4=>LQ qc D n 135 [.r,.r,.r,.r,.r,.r,.l,.r,.l] m (qf4 x1_0 x1_1 x1_2 x1_3 x1_4) K)=qf7 D n (fun v0_0 v0_1 v0_2=>K (Ex.exit 2) (qjx v0_0 v0_1 v0_2)) m:=by funext x1_0 x1_1 x1_2 x1_3 x1_4;exact qw5 D n K m x1_0 x1_1 x1_2 x1_3 x1_4
  rw[q82]
  rw[ih];rfl
theorem q7m (D:DX)(n:Nat) (v0_0:List Int×Int×Int×Unit) (v0_1:tSch) (v0_2:tSch) :
 (CQ qc D n 135 [] [.r,.r,.r,.r,.r,.r,.l,.r,.l] (qh qc 135)) (Ex.exit 2) (qjx v0_0 v0_1 v0_2)=qju D n v0_0 v0_1 v0_2:=by kernel_rfl
theorem q7j (D:DX)(n:Nat) (x1_0:Int) (x1_1:Int) (x1_2:List Int×Int×Int×Unit) (x1_3:tSch) (x1_4:tSch) :
 LQ qc D n 135 [.r,.r,.r,.r,.r,.r,.l,.r,.l] n (qf4 x1_0 x1_1 x1_2 x1_3 x1_4) (CQ qc D n 135 [] [.r,.r,.r,.r,.r,.r,.l,.r,.l] (qh qc 135))=qki D n x1_0 x1_1 x1_2 x1_3 x1_4:=by
 rw[qw5]
 simp only[q7m]
 rfl
theorem q7g (D:DX)(n:Nat) (v0_0:Int) (v0_1:List Int×Int×Int×Unit) (v0_2:tSch) (v0_3:tSch) :
 (CQ qc D n 135 [] [.r,.r,.r,.r,.l,.r,.l] (qh qc 135)) (Ex.exit 0) (qjm v0_0 v0_1 v0_2 v0_3)=qjq D n (fun x1_0 x1_1 x1_2 x1_3 x1_4=>LQ qc D n 135 [.r,.r,.r,.r,.r,.r,.l,.r,.l] n (qf4 x1_0 x1_1 x1_2 x1_3 x1_4) (CQ qc D n 135 [] [.r,.r,.r,.r,.r,.r,.l,.r,.l] (qh qc 135))) v0_0 v0_1 v0_2 v0_3:=by kernel_rfl
theorem q7k (D:DX)(n:Nat) (x0:Int) (x1:Int) (x2:List Int×Int×Int×Unit) (x3:tSch) (x4:tSch) (x5:List ByteArray) :
 LQ qc D n 135 [.r,.r,.r,.r,.l,.r,.l] n (qf6 x0 x1 x2 x3 x4 x5) (CQ qc D n 135 [] [.r,.r,.r,.r,.l,.r,.l] (qh qc 135))=qpc D n x0 x1 x2 x3 x4 x5:=by
 rw[qw3]
 simp only[q7g,q7j]
 rfl
theorem qbaq (D:DX)(n:Nat) (a0:List Int×Int×Int×Unit):rfC qc D n 135 (a0,())=qrj D n a0:=by
 have h:rfC qc D n 135 (a0,())=qrr D n (fun x0 x1 x2 x3 x4 x5=>LQ qc D n 135 [.r,.r,.r,.r,.l,.r,.l] n (qf6 x0 x1 x2 x3 x4 x5) (CQ qc D n 135 [] [.r,.r,.r,.r,.l,.r,.l] (qh qc 135))) a0:=by kernel_rfl
 rw[h]
 simp only[q7k]
 rfl

def qs2 (D:DX)(n:Nat) (go:Int→List Int×Int×Int×Unit→tSch→qd→Option ((qd×Unit)×tCur×Unit)) (K0:List Int×Int×Int×Unit→qd→Option ((qd×Unit)×tCur×Unit)) (x0:Int) (x1:List Int×Int×Int×Unit) (x2:tSch) (x3:qd):Option ((qd×Unit)×tCur×Unit):=br (decide (x0<(↑(List.length (Prod.fst x2)):Int))) (br (decide (0≤x0)&&decide (x0<(↑(List.length (Prod.fst x2)):Int))) (br (Prod.fst (Prod.snd (Prod.snd (List.getD (Prod.fst x2) (Int.toNat x0) (ByteArray.empty,0,false,()))))) (qi (qkx D x1 3) fun b↦br (Prod.fst (Prod.fst b)) (br (decide (List.length x3+1≤qbi)) (go (IntKind.wrap IntKind.i64 (x0+1)) (Prod.fst (Prod.snd b)) x2 (x3++[(0,0,ByteArray.empty,())])) none) (br (decide (0≤x0)&&decide (x0<(↑(List.length (Prod.fst x2)):Int))) (qi (qpt D (Prod.fst (Prod.snd b)) (Prod.fst (Prod.snd (List.getD (Prod.fst x2) (Int.toNat x0) (ByteArray.empty,0,false,()))))) fun b↦br (decide (List.length x3+1≤qbi)) (go (IntKind.wrap IntKind.i64 (x0+1)) (Prod.fst (Prod.snd b)) x2 (x3++[Prod.fst (Prod.fst b)])) none) none)) (br (decide (0≤x0)&&decide (x0<(↑(List.length (Prod.fst x2)):Int))) (qi (qpt D x1 (Prod.fst (Prod.snd (List.getD (Prod.fst x2) (Int.toNat x0) (ByteArray.empty,0,false,()))))) fun b↦br (decide (List.length x3+1≤qbi)) (go (IntKind.wrap IntKind.i64 (x0+1)) (Prod.fst (Prod.snd b)) x2 (x3++[Prod.fst (Prod.fst b)])) none) none)) none) (K0 x1 x3)
def qfm (D:DX)(n:Nat) (K0:List Int×Int×Int×Unit→qd→Option ((qd×Unit)×tCur×Unit)):Nat→(Int)→tCur→(tSch)→(qd)→Option ((qd×Unit)×tCur×Unit) | 0=>(fun x0 x1 x2 x3=>none) | m+1=>(fun x0 x1 x2 x3=>qs2 D n (qfm D n K0 m) K0 x0 x1 x2 x3)
def qpl (D:DX)(n:Nat) (v0_0:List Int×Int×Int×Unit) (v0_1:qd):Option ((qd×Unit)×tCur×Unit):=some ((v0_1,()),v0_0,())
def qro (D:DX)(n:Nat):(Int)→tCur→(tSch)→(qd)→Option ((qd×Unit)×tCur×Unit):=(fun x0 x1 x2 x3=>qfm D n (fun v0_0 v0_1=>qpl D n v0_0 v0_1) n x0 x1 x2 x3)
def quf (D:DX)(n:Nat) (lp0:Int→List Int×Int×Int×Unit→tSch→qd→Option ((qd×Unit)×tCur×Unit)) (a0:List Int×Int×Int×Unit) (a1:tSch):Option ((qd×Unit)×tCur×Unit):=lp0 0 a0 a1 []
def qua (D:DX)(n:Nat) (a0:List Int×Int×Int×Unit) (a1:tSch):Option ((qd×Unit)×tCur×Unit):=quf D n (qro D n) a0 a1
def qg8 (x0:Int) (x1:List Int×Int×Int×Unit) (x2:tSch) (x3:qd):St:=stq 41 [(0,AV.addr 0 []),(3,AV.addr 3 []),(5,AV.brw 5 [] 0),(6,avI x0)] [(0,Root.mk (Ty.pair (Ty.sl (Ty.int IntKind.u8)) (Ty.pair yI (Ty.pair yI Ty.unit))) Mk.no x1 true),(3,Root.mk yS Mk.no x2 true),(5,Root.mk (Ty.sl yV) (Mk.own 0 (Mk.pr Mk.no (Mk.pr Mk.no (Mk.pr Mk.no Mk.no)))) x3 false)] 
def qk9 (v0_0:List Int×Int×Int×Unit) (v0_1:qd):St:=stq 41 [(0,AV.addr 0 []),(5,AV.brw 5 [] 0)] [(0,Root.mk (Ty.pair (Ty.sl (Ty.int IntKind.u8)) (Ty.pair yI (Ty.pair yI Ty.unit))) Mk.no v0_0 true),(5,Root.mk (Ty.sl yV) (Mk.own 0 (Mk.pr Mk.no (Mk.pr Mk.no (Mk.pr Mk.no Mk.no)))) v0_1 false)] 
theorem qba8 (D:DX)(n:Nat) (m:Nat) (K:Ex→St→Option (Out ctx 136)) (x0:Int) (x1:List Int×Int×Int×Unit) (x2:tSch) (x3:qd) :
 LQ qc D n 136 [.r,.r,.l,.r,.l] (m+1) (qg8 x0 x1 x2 x3) K=qs2 D n (fun x0 x1 x2 x3=>LQ qc D n 136 [.r,.r,.l,.r,.l] m (qg8 x0 x1 x2 x3) K) (fun v0_0 v0_1=>K (Ex.exit 0) (qk9 v0_0 v0_1)) x0 x1 x2 x3:=by kernel_rfl
theorem qyt (D:DX)(n:Nat) (K:Ex→St→Option (Out ctx 136)):∀ (m:Nat) (x0:Int) (x1:List Int×Int×Int×Unit) (x2:tSch) (x3:qd),LQ qc D n 136 [.r,.r,.l,.r,.l] m (qg8 x0 x1 x2 x3) K=qfm D n (fun v0_0 v0_1=>K (Ex.exit 0) (qk9 v0_0 v0_1)) m x0 x1 x2 x3
 | 0,x0,x1,x2,x3=>qx ..
 | m+1,x0,x1,x2,x3=>by
  have ih:(fun x0 x1 x2 x3=>LQ qc D n 136 [.r,.r,.l,.r,.l] m (qg8 x0 x1 x2 x3) K)=qfm D n (fun v0_0 v0_1=>K (Ex.exit 0) (qk9 v0_0 v0_1)) m:=by funext x0 x1 x2 x3;exact qyt D n K m x0 x1 x2 x3
  rw[qba8]
  rw[ih];rfl
theorem q90 (D:DX)(n:Nat) (v0_0:List Int×Int×Int×Unit) (v0_1:qd) :
 (CQ qc D n 136 [] [.r,.r,.l,.r,.l] (qh qc 136)) (Ex.exit 0) (qk9 v0_0 v0_1)=qpl D n v0_0 v0_1:=by kernel_rfl
theorem q9w (D:DX)(n:Nat) (x0:Int) (x1:List Int×Int×Int×Unit) (x2:tSch) (x3:qd) :
 LQ qc D n 136 [.r,.r,.l,.r,.l] n (qg8 x0 x1 x2 x3) (CQ qc D n 136 [] [.r,.r,.l,.r,.l] (qh qc 136))=qro D n x0 x1 x2 x3:=by
 rw[qyt]
 simp only[q90]
 rfl
theorem qbdx (D:DX)(n:Nat) (a0:List Int×Int×Int×Unit) (a1:tSch):rfC qc D n 136 (a0,(a1,()))=qua D n a0 a1:=by
 have h:rfC qc D n 136 (a0,(a1,()))=quf D n (fun x0 x1 x2 x3=>LQ qc D n 136 [.r,.r,.l,.r,.l] n (qg8 x0 x1 x2 x3) (CQ qc D n 136 [] [.r,.r,.l,.r,.l] (qh qc 136))) a0 a1:=by kernel_rfl
 rw[h]
 simp only[q9w]
 rfl

def qnm (D:DX)(n:Nat) (go:Int→qd→Int→Int→List Int→Int×Int×ByteArray×Unit→Option ((List Int×Unit)×Unit)) (K0:qd→Int→Int→List Int→Option ((List Int×Unit)×Unit)) (x1_0:Int) (x1_1:qd) (x1_2:Int) (x1_3:Int) (x1_4:List Int) (x1_5:Int×Int×ByteArray×Unit):Option ((List Int×Unit)×Unit):=br (decide (x1_0≥0)) (br (decide (IntKind.wrap IntKind.i64 (8 * x1_0)<0)) none (br (decide (List.length x1_4+1≤qbi)) (go (IntKind.wrap IntKind.i64 (x1_0 - 1)) x1_1 x1_2 x1_3 (x1_4++[IntKind.wrap IntKind.u8 (Int.fdiv (IntKind.wrap IntKind.i64 (Prod.fst (Prod.snd x1_5)+4611686018427387904)) (Int.pow 2 (if Int.toNat (IntKind.wrap IntKind.i64 (8 * x1_0))≤IntKind.bits IntKind.i64 then Int.toNat (IntKind.wrap IntKind.i64 (8 * x1_0)) else IntKind.bits IntKind.i64)))]) x1_5) none)) (K0 x1_1 x1_2 x1_3 x1_4)
def qfn (D:DX)(n:Nat) (K0:qd→Int→Int→List Int→Option ((List Int×Unit)×Unit)):Nat→(Int)→(qd)→(Int)→(Int)→(List Int)→tVal→Option ((List Int×Unit)×Unit) | 0=>(fun x1_0 x1_1 x1_2 x1_3 x1_4 x1_5=>none) | m+1=>(fun x1_0 x1_1 x1_2 x1_3 x1_4 x1_5=>qnm D n (qfn D n K0 m) K0 x1_0 x1_1 x1_2 x1_3 x1_4 x1_5)
def qqj (D:DX)(n:Nat) (go:qd→Int→Int→List Int→Option ((List Int×Unit)×Unit)) (K0:List Int→Option ((List Int×Unit)×Unit)) (v0_0:qd) (v0_1:Int) (v0_2:Int) (v0_3:List Int):Option ((List Int×Unit)×Unit):=go v0_0 v0_1 (IntKind.wrap IntKind.i64 (v0_2+1)) v0_3
def qrd (D:DX)(n:Nat) (go:qd→Int→Int→List Int→Option ((List Int×Unit)×Unit)) (K0:List Int→Option ((List Int×Unit)×Unit)):(Int)→(qd)→(Int)→(Int)→(List Int)→tVal→Option ((List Int×Unit)×Unit):=(fun x1_0 x1_1 x1_2 x1_3 x1_4 x1_5=>qfn D n (fun v0_0 v0_1 v0_2 v0_3=>qqj D n go K0 v0_0 v0_1 v0_2 v0_3) n x1_0 x1_1 x1_2 x1_3 x1_4 x1_5)
def qs7 (D:DX)(n:Nat) (go:qd→Int→Int→Int→Int→List Int→Int×Int×ByteArray×Unit→Option ((List Int×Unit)×Unit)) (K0:qd→Int→Int→List Int→Option ((List Int×Unit)×Unit)) (x2_0:qd) (x2_1:Int) (x2_2:Int) (x2_3:Int) (x2_4:Int) (x2_5:List Int) (x2_6:Int×Int×ByteArray×Unit):Option ((List Int×Unit)×Unit):=br (decide (x2_4<x2_3)) (br (decide (0≤x2_4)&&decide (x2_4<(↑(ByteArray.size (Prod.fst (Prod.snd (Prod.snd x2_6)))):Int))) (br (decide (List.length x2_5+1≤qbi)) (br (decide (0≤x2_4)&&decide (x2_4<(↑(ByteArray.size (Prod.fst (Prod.snd (Prod.snd x2_6)))):Int))) (br (decide ((↑(UInt8.toNat (Array.getD (ByteArray.data (Prod.fst (Prod.snd (Prod.snd x2_6)))) (Int.toNat x2_4) (UInt8.ofNat 0))):Int)=0)) (br (decide (List.length (x2_5++[(↑(UInt8.toNat (Array.getD (ByteArray.data (Prod.fst (Prod.snd (Prod.snd x2_6)))) (Int.toNat x2_4) (UInt8.ofNat 0))):Int)])+1≤qbi)) (go x2_0 x2_1 x2_2 x2_3 (IntKind.wrap IntKind.i64 (x2_4+1)) (x2_5++[(↑(UInt8.toNat (Array.getD (ByteArray.data (Prod.fst (Prod.snd (Prod.snd x2_6)))) (Int.toNat x2_4) (UInt8.ofNat 0))):Int)]++[255]) x2_6) none) (go x2_0 x2_1 x2_2 x2_3 (IntKind.wrap IntKind.i64 (x2_4+1)) (x2_5++[(↑(UInt8.toNat (Array.getD (ByteArray.data (Prod.fst (Prod.snd (Prod.snd x2_6)))) (Int.toNat x2_4) (UInt8.ofNat 0))):Int)]) x2_6)) none) none) none) (K0 x2_0 x2_1 x2_2 x2_5)
def qhh (D:DX)(n:Nat) (K0:qd→Int→Int→List Int→Option ((List Int×Unit)×Unit)):Nat→(qd)→(Int)→(Int)→(Int)→(Int)→(List Int)→tVal→Option ((List Int×Unit)×Unit) | 0=>(fun x2_0 x2_1 x2_2 x2_3 x2_4 x2_5 x2_6=>none) | m+1=>(fun x2_0 x2_1 x2_2 x2_3 x2_4 x2_5 x2_6=>qs7 D n (qhh D n K0 m) K0 x2_0 x2_1 x2_2 x2_3 x2_4 x2_5 x2_6)
def qqk (D:DX)(n:Nat) (go:qd→Int→Int→List Int→Option ((List Int×Unit)×Unit)) (K0:List Int→Option ((List Int×Unit)×Unit)) (v0_0:qd) (v0_1:Int) (v0_2:Int) (v0_3:List Int):Option ((List Int×Unit)×Unit):=br (decide (List.length v0_3+2≤qbi)) (go v0_0 v0_1 (IntKind.wrap IntKind.i64 (v0_2+1)) (v0_3++[0,1])) none
def qq7 (D:DX)(n:Nat) (go:qd→Int→Int→List Int→Option ((List Int×Unit)×Unit)) (K0:List Int→Option ((List Int×Unit)×Unit)):(qd)→(Int)→(Int)→(Int)→(Int)→(List Int)→tVal→Option ((List Int×Unit)×Unit):=(fun x2_0 x2_1 x2_2 x2_3 x2_4 x2_5 x2_6=>qhh D n (fun v0_0 v0_1 v0_2 v0_3=>qqk D n go K0 v0_0 v0_1 v0_2 v0_3) n x2_0 x2_1 x2_2 x2_3 x2_4 x2_5 x2_6)
def qst (D:DX)(n:Nat) (go:qd→Int→Int→List Int→Option ((List Int×Unit)×Unit)) (K0:List Int→Option ((List Int×Unit)×Unit)) (lp1:Int→qd→Int→Int→List Int→Int×Int×ByteArray×Unit→Option ((List Int×Unit)×Unit)) (lp2:qd→Int→Int→Int→Int→List Int→Int×Int×ByteArray×Unit→Option ((List Int×Unit)×Unit)) (x0:qd) (x1:Int) (x2:Int) (x3:List Int):Option ((List Int×Unit)×Unit):=br (decide (x2<x1)) (br (decide (0≤x2)&&decide (x2<(↑(List.length x0):Int))) (br (decide (List.length x3+1≤qbi)) (br (decide (Prod.fst (List.getD x0 (Int.toNat x2) (0,0,ByteArray.empty,()))=1)) (br (decide (List.length (x3++[IntKind.wrap IntKind.u8 (IntKind.wrap IntKind.i64 (Prod.fst (List.getD x0 (Int.toNat x2) (0,0,ByteArray.empty,()))+1))])+1≤qbi)) (go x0 x1 (IntKind.wrap IntKind.i64 (x2+1)) (x3++[IntKind.wrap IntKind.u8 (IntKind.wrap IntKind.i64 (Prod.fst (List.getD x0 (Int.toNat x2) (0,0,ByteArray.empty,()))+1))]++[IntKind.wrap IntKind.u8 (Prod.fst (Prod.snd (List.getD x0 (Int.toNat x2) (0,0,ByteArray.empty,()))))])) none) (br (decide (Prod.fst (List.getD x0 (Int.toNat x2) (0,0,ByteArray.empty,()))=2)) (lp1 7 x0 x1 x2 (x3++[IntKind.wrap IntKind.u8 (IntKind.wrap IntKind.i64 (Prod.fst (List.getD x0 (Int.toNat x2) (0,0,ByteArray.empty,()))+1))]) (List.getD x0 (Int.toNat x2) (0,0,ByteArray.empty,()))) (br (decide (Prod.fst (List.getD x0 (Int.toNat x2) (0,0,ByteArray.empty,()))=3)) (lp2 x0 x1 x2 (↑(ByteArray.size (Prod.fst (Prod.snd (Prod.snd (List.getD x0 (Int.toNat x2) (0,0,ByteArray.empty,())))))):Int) 0 (x3++[IntKind.wrap IntKind.u8 (IntKind.wrap IntKind.i64 (Prod.fst (List.getD x0 (Int.toNat x2) (0,0,ByteArray.empty,()))+1))]) (List.getD x0 (Int.toNat x2) (0,0,ByteArray.empty,()))) (go x0 x1 (IntKind.wrap IntKind.i64 (x2+1)) (x3++[IntKind.wrap IntKind.u8 (IntKind.wrap IntKind.i64 (Prod.fst (List.getD x0 (Int.toNat x2) (0,0,ByteArray.empty,()))+1))]))))) none) none) (K0 x3)
def qeg (D:DX)(n:Nat) (K0:List Int→Option ((List Int×Unit)×Unit)):Nat→(qd)→(Int)→(Int)→(List Int)→Option ((List Int×Unit)×Unit) | 0=>(fun x0 x1 x2 x3=>none) | m+1=>(fun x0 x1 x2 x3=>qst D n (qeg D n K0 m) K0 (qrd D n (qeg D n K0 m) K0) (qq7 D n (qeg D n K0 m) K0) x0 x1 x2 x3)
def qxe (D:DX)(n:Nat) (v0_0:List Int):Option ((List Int×Unit)×Unit):=some ((v0_0,()),())
def qrk (D:DX)(n:Nat):(qd)→(Int)→(Int)→(List Int)→Option ((List Int×Unit)×Unit):=(fun x0 x1 x2 x3=>qeg D n (fun v0_0=>qxe D n v0_0) n x0 x1 x2 x3)
def qt5 (D:DX)(n:Nat) (lp0:qd→Int→Int→List Int→Option ((List Int×Unit)×Unit)) (a0:qd):Option ((List Int×Unit)×Unit):=qi (qzh D a0) fun b↦br (!Prod.fst (Prod.fst b)) (some (([],()),())) (lp0 a0 (↑(List.length a0):Int) 0 [])
def quk (D:DX)(n:Nat) (a0:qd):Option ((List Int×Unit)×Unit):=qt5 D n (qrk D n) a0
def qc6 (x0:qd) (x1:Int) (x2:Int) (x3:List Int):St:=stq 81 [(3,AV.brw 3 [] 0),(13,AV.val (Ty.sl yV) x0),(14,avI x1),(15,avI x2)] [(3,Root.mk (Ty.sl (Ty.int IntKind.u8)) (Mk.own 0 Mk.no) x3 false)] 
def qdr (v0_0:List Int):St:=stq 81 [(3,AV.brw 3 [] 0)] [(3,Root.mk (Ty.sl (Ty.int IntKind.u8)) (Mk.own 0 Mk.no) v0_0 false)] 
def qhf (x1_0:Int) (x1_1:qd) (x1_2:Int) (x1_3:Int) (x1_4:List Int) (x1_5:Int×Int×ByteArray×Unit):St:=stq 81 [(3,AV.brw 3 [] 0),(5,AV.addr 5 []),(6,avI x1_0),(13,AV.val (Ty.sl yV) x1_1),(14,avI x1_2),(15,avI x1_3)] [(3,Root.mk (Ty.sl (Ty.int IntKind.u8)) (Mk.own 0 Mk.no) x1_4 false),(5,Root.mk yV Mk.no x1_5 true)] 
def qk8 (v0_0:qd) (v0_1:Int) (v0_2:Int) (v0_3:List Int):St:=stq 81 [(3,AV.brw 3 [] 0),(13,AV.val (Ty.sl yV) v0_0),(14,avI v0_1),(15,avI v0_2)] [(3,Root.mk (Ty.sl (Ty.int IntKind.u8)) (Mk.own 0 Mk.no) v0_3 false)] 
def qhg (x2_0:qd) (x2_1:Int) (x2_2:Int) (x2_3:Int) (x2_4:Int) (x2_5:List Int) (x2_6:Int×Int×ByteArray×Unit):St:=stq 81 [(3,AV.brw 3 [] 0),(5,AV.addr 5 []),(13,AV.val (Ty.sl yV) x2_0),(14,avI x2_1),(15,avI x2_2),(56,avI x2_3),(57,avI x2_4)] [(3,Root.mk (Ty.sl (Ty.int IntKind.u8)) (Mk.own 0 Mk.no) x2_5 false),(5,Root.mk yV Mk.no x2_6 true)] 
def qk5 (v0_0:qd) (v0_1:Int) (v0_2:Int) (v0_3:List Int):St:=stq 81 [(3,AV.brw 3 [] 0),(13,AV.val (Ty.sl yV) v0_0),(14,avI v0_1),(15,avI v0_2)] [(3,Root.mk (Ty.sl (Ty.int IntKind.u8)) (Mk.own 0 Mk.no) v0_3 false)] 
theorem qbbc (D:DX)(n:Nat) (m:Nat) (K:Ex→St→Option (Out ctx 137)) (x1_0:Int) (x1_1:qd) (x1_2:Int) (x1_3:Int) (x1_4:List Int) (x1_5:Int×Int×ByteArray×Unit) :
 LQ qc D n 137 [.r,.r,.r,.l,.r,.l,.l,.r,.r,.l,.l,.r,.r,.r,.l,.r,.r,.r,.l,.r,.l] (m+1) (qhf x1_0 x1_1 x1_2 x1_3 x1_4 x1_5) K=qnm D n (fun x1_0 x1_1 x1_2 x1_3 x1_4 x1_5=>LQ qc D n 137 [.r,.r,.r,.l,.r,.l,.l,.r,.r,.l,.l,.r,.r,.r,.l,.r,.r,.r,.l,.r,.l] m (qhf x1_0 x1_1 x1_2 x1_3 x1_4 x1_5) K) (fun v0_0 v0_1 v0_2 v0_3=>K (Ex.exit 3) (qk8 v0_0 v0_1 v0_2 v0_3)) x1_0 x1_1 x1_2 x1_3 x1_4 x1_5:=by kernel_rfl
theorem qys (D:DX)(n:Nat) (K:Ex→St→Option (Out ctx 137)):∀ (m:Nat) (x1_0:Int) (x1_1:qd) (x1_2:Int) (x1_3:Int) (x1_4:List Int) (x1_5:Int×Int×ByteArray×Unit),LQ qc D n 137 [.r,.r,.r,.l,.r,.l,.l,.r,.r,.l,.l,.r,.r,.r,.l,.r,.r,.r,.l,.r,.l] m (qhf x1_0 x1_1 x1_2 x1_3 x1_4 x1_5) K=qfn D n (fun v0_0 v0_1 v0_2 v0_3=>K (Ex.exit 3) (qk8 v0_0 v0_1 v0_2 v0_3)) m x1_0 x1_1 x1_2 x1_3 x1_4 x1_5
 | 0,x1_0,x1_1,x1_2,x1_3,x1_4,x1_5=>qx ..
 | m+1,x1_0,x1_1,x1_2,x1_3,x1_4,x1_5=>by
  have ih:(fun x1_0 x1_1 x1_2 x1_3 x1_4 x1_5=>LQ qc D n 137 [.r,.r,.r,.l,.r,.l,.l,.r,.r,.l,.l,.r,.r,.r,.l,.r,.r,.r,.l,.r,.l] m (qhf x1_0 x1_1 x1_2 x1_3 x1_4 x1_5) K)=qfn D n (fun v0_0 v0_1 v0_2 v0_3=>K (Ex.exit 3) (qk8 v0_0 v0_1 v0_2 v0_3)) m:=by funext x1_0 x1_1 x1_2 x1_3 x1_4 x1_5;exact qys D n K m x1_0 x1_1 x1_2 x1_3 x1_4 x1_5
  rw[qbbc]
  rw[ih];rfl
theorem q88 (D:DX)(n:Nat) (m:Nat) (K:Ex→St→Option (Out ctx 137)) (v0_0:qd) (v0_1:Int) (v0_2:Int) (v0_3:List Int) :
 (CQ qc D n 137 [.r,.r,.r,.l,.r,.l,.l] [.r,.r,.l,.l,.r,.r,.r,.l,.r,.r,.r,.l,.r,.l] (LK qc D n 137 [.r,.r,.r,.l,.r,.l] m K)) (Ex.exit 3) (qk8 v0_0 v0_1 v0_2 v0_3)=qqj D n (fun x0 x1 x2 x3=>LQ qc D n 137 [.r,.r,.r,.l,.r,.l] m (qc6 x0 x1 x2 x3) K) (fun v0_0=>K (Ex.exit 0) (qdr v0_0)) v0_0 v0_1 v0_2 v0_3:=by kernel_rfl
theorem q99 (D:DX)(n:Nat) (m:Nat) (K:Ex→St→Option (Out ctx 137)) (x1_0:Int) (x1_1:qd) (x1_2:Int) (x1_3:Int) (x1_4:List Int) (x1_5:Int×Int×ByteArray×Unit) :
 LQ qc D n 137 [.r,.r,.r,.l,.r,.l,.l,.r,.r,.l,.l,.r,.r,.r,.l,.r,.r,.r,.l,.r,.l] n (qhf x1_0 x1_1 x1_2 x1_3 x1_4 x1_5) (CQ qc D n 137 [.r,.r,.r,.l,.r,.l,.l] [.r,.r,.l,.l,.r,.r,.r,.l,.r,.r,.r,.l,.r,.l] (LK qc D n 137 [.r,.r,.r,.l,.r,.l] m K))=qrd D n (fun x0 x1 x2 x3=>LQ qc D n 137 [.r,.r,.r,.l,.r,.l] m (qc6 x0 x1 x2 x3) K) (fun v0_0=>K (Ex.exit 0) (qdr v0_0)) x1_0 x1_1 x1_2 x1_3 x1_4 x1_5:=by
 rw[qys]
 simp only[q88]
 rfl
theorem qbbb (D:DX)(n:Nat) (m:Nat) (K:Ex→St→Option (Out ctx 137)) (x2_0:qd) (x2_1:Int) (x2_2:Int) (x2_3:Int) (x2_4:Int) (x2_5:List Int) (x2_6:Int×Int×ByteArray×Unit) :
 LQ qc D n 137 [.r,.r,.r,.l,.r,.l,.l,.r,.r,.l,.l,.r,.r,.r,.l,.r,.r,.r,.r,.r,.l,.l,.r,.l] (m+1) (qhg x2_0 x2_1 x2_2 x2_3 x2_4 x2_5 x2_6) K=qs7 D n (fun x2_0 x2_1 x2_2 x2_3 x2_4 x2_5 x2_6=>LQ qc D n 137 [.r,.r,.r,.l,.r,.l,.l,.r,.r,.l,.l,.r,.r,.r,.l,.r,.r,.r,.r,.r,.l,.l,.r,.l] m (qhg x2_0 x2_1 x2_2 x2_3 x2_4 x2_5 x2_6) K) (fun v0_0 v0_1 v0_2 v0_3=>K (Ex.exit 5) (qk5 v0_0 v0_1 v0_2 v0_3)) x2_0 x2_1 x2_2 x2_3 x2_4 x2_5 x2_6:=by kernel_rfl
theorem qy3 (D:DX)(n:Nat) (K:Ex→St→Option (Out ctx 137)):∀ (m:Nat) (x2_0:qd) (x2_1:Int) (x2_2:Int) (x2_3:Int) (x2_4:Int) (x2_5:List Int) (x2_6:Int×Int×ByteArray×Unit),LQ qc D n 137 [.r,.r,.r,.l,.r,.l,.l,.r,.r,.l,.l,.r,.r,.r,.l,.r,.r,.r,.r,.r,.l,.l,.r,.l] m (qhg x2_0 x2_1 x2_2 x2_3 x2_4 x2_5 x2_6) K=qhh D n (fun v0_0 v0_1 v0_2 v0_3=>K (Ex.exit 5) (qk5 v0_0 v0_1 v0_2 v0_3)) m x2_0 x2_1 x2_2 x2_3 x2_4 x2_5 x2_6
 | 0,x2_0,x2_1,x2_2,x2_3,x2_4,x2_5,x2_6=>qx ..
 | m+1,x2_0,x2_1,x2_2,x2_3,x2_4,x2_5,x2_6=>by
  have ih:(fun x2_0 x2_1 x2_2 x2_3 x2_4 x2_5 x2_6=>LQ qc D n 137 [.r,.r,.r,.l,.r,.l,.l,.r,.r,.l,.l,.r,.r,.r,.l,.r,.r,.r,.r,.r,.l,.l,.r,.l] m (qhg x2_0 x2_1 x2_2 x2_3 x2_4 x2_5 x2_6) K)=qhh D n (fun v0_0 v0_1 v0_2 v0_3=>K (Ex.exit 5) (qk5 v0_0 v0_1 v0_2 v0_3)) m:=by funext x2_0 x2_1 x2_2 x2_3 x2_4 x2_5 x2_6;exact qy3 D n K m x2_0 x2_1 x2_2 x2_3 x2_4 x2_5 x2_6
  rw[qbbb]
  rw[ih];rfl
theorem q9l (D:DX)(n:Nat) (m:Nat) (K:Ex→St→Option (Out ctx 137)) (v0_0:qd) (v0_1:Int) (v0_2:Int) (v0_3:List Int) :
 (CQ qc D n 137 [.r,.r,.r,.l,.r,.l,.l] [.r,.r,.l,.l,.r,.r,.r,.l,.r,.r,.r,.r,.r,.l,.l,.r,.l] (LK qc D n 137 [.r,.r,.r,.l,.r,.l] m K)) (Ex.exit 5) (qk5 v0_0 v0_1 v0_2 v0_3)=qqk D n (fun x0 x1 x2 x3=>LQ qc D n 137 [.r,.r,.r,.l,.r,.l] m (qc6 x0 x1 x2 x3) K) (fun v0_0=>K (Ex.exit 0) (qdr v0_0)) v0_0 v0_1 v0_2 v0_3:=by kernel_rfl
theorem q9j (D:DX)(n:Nat) (m:Nat) (K:Ex→St→Option (Out ctx 137)) (x2_0:qd) (x2_1:Int) (x2_2:Int) (x2_3:Int) (x2_4:Int) (x2_5:List Int) (x2_6:Int×Int×ByteArray×Unit) :
 LQ qc D n 137 [.r,.r,.r,.l,.r,.l,.l,.r,.r,.l,.l,.r,.r,.r,.l,.r,.r,.r,.r,.r,.l,.l,.r,.l] n (qhg x2_0 x2_1 x2_2 x2_3 x2_4 x2_5 x2_6) (CQ qc D n 137 [.r,.r,.r,.l,.r,.l,.l] [.r,.r,.l,.l,.r,.r,.r,.l,.r,.r,.r,.r,.r,.l,.l,.r,.l] (LK qc D n 137 [.r,.r,.r,.l,.r,.l] m K))=qq7 D n (fun x0 x1 x2 x3=>LQ qc D n 137 [.r,.r,.r,.l,.r,.l] m (qc6 x0 x1 x2 x3) K) (fun v0_0=>K (Ex.exit 0) (qdr v0_0)) x2_0 x2_1 x2_2 x2_3 x2_4 x2_5 x2_6:=by
 rw[qy3]
 simp only[q9l]
 rfl
theorem qba9 (D:DX)(n:Nat) (m:Nat) (K:Ex→St→Option (Out ctx 137)) (x0:qd) (x1:Int) (x2:Int) (x3:List Int) :
 LQ qc D n 137 [.r,.r,.r,.l,.r,.l] (m+1) (qc6 x0 x1 x2 x3) K=qst D n (fun x0 x1 x2 x3=>LQ qc D n 137 [.r,.r,.r,.l,.r,.l] m (qc6 x0 x1 x2 x3) K) (fun v0_0=>K (Ex.exit 0) (qdr v0_0)) (fun x1_0 x1_1 x1_2 x1_3 x1_4 x1_5=>LQ qc D n 137 [.r,.r,.r,.l,.r,.l,.l,.r,.r,.l,.l,.r,.r,.r,.l,.r,.r,.r,.l,.r,.l] n (qhf x1_0 x1_1 x1_2 x1_3 x1_4 x1_5) (CQ qc D n 137 [.r,.r,.r,.l,.r,.l,.l] [.r,.r,.l,.l,.r,.r,.r,.l,.r,.r,.r,.l,.r,.l] (LK qc D n 137 [.r,.r,.r,.l,.r,.l] m K))) (fun x2_0 x2_1 x2_2 x2_3 x2_4 x2_5 x2_6=>LQ qc D n 137 [.r,.r,.r,.l,.r,.l,.l,.r,.r,.l,.l,.r,.r,.r,.l,.r,.r,.r,.r,.r,.l,.l,.r,.l] n (qhg x2_0 x2_1 x2_2 x2_3 x2_4 x2_5 x2_6) (CQ qc D n 137 [.r,.r,.r,.l,.r,.l,.l] [.r,.r,.l,.l,.r,.r,.r,.l,.r,.r,.r,.r,.r,.l,.l,.r,.l] (LK qc D n 137 [.r,.r,.r,.l,.r,.l] m K))) x0 x1 x2 x3:=by kernel_rfl
theorem qyv (D:DX)(n:Nat) (K:Ex→St→Option (Out ctx 137)):∀ (m:Nat) (x0:qd) (x1:Int) (x2:Int) (x3:List Int),LQ qc D n 137 [.r,.r,.r,.l,.r,.l] m (qc6 x0 x1 x2 x3) K=qeg D n (fun v0_0=>K (Ex.exit 0) (qdr v0_0)) m x0 x1 x2 x3
 | 0,x0,x1,x2,x3=>qx ..
 | m+1,x0,x1,x2,x3=>by
  have ih:(fun x0 x1 x2 x3=>LQ qc D n 137 [.r,.r,.r,.l,.r,.l] m (qc6 x0 x1 x2 x3) K)=qeg D n (fun v0_0=>K (Ex.exit 0) (qdr v0_0)) m:=by funext x0 x1 x2 x3;exact qyv D n K m x0 x1 x2 x3
  rw[qba9]
  simp only[q99,q9j]
  rw[ih];rfl
theorem q94 (D:DX)(n:Nat) (v0_0:List Int) :
 (CQ qc D n 137 [] [.r,.r,.r,.l,.r,.l] (qh qc 137)) (Ex.exit 0) (qdr v0_0)=qxe D n v0_0:=by kernel_rfl
theorem q9v (D:DX)(n:Nat) (x0:qd) (x1:Int) (x2:Int) (x3:List Int) :
 LQ qc D n 137 [.r,.r,.r,.l,.r,.l] n (qc6 x0 x1 x2 x3) (CQ qc D n 137 [] [.r,.r,.r,.l,.r,.l] (qh qc 137))=qrk D n x0 x1 x2 x3:=by
 rw[qyv]
 simp only[q94]
 rfl
theorem qbd4 (D:DX)(n:Nat) (a0:qd):rfC qc D n 137 (a0,())=quk D n a0:=by
 have h:rfC qc D n 137 (a0,())=qt5 D n (fun x0 x1 x2 x3=>LQ qc D n 137 [.r,.r,.r,.l,.r,.l] n (qc6 x0 x1 x2 x3) (CQ qc D n 137 [] [.r,.r,.r,.l,.r,.l] (qh qc 137))) a0:=by kernel_rfl
 rw[h]
 simp only[q9v]
 rfl

def qu7 (D:DX)(n:Nat) (a0:List Int):Option ((List Int×Unit)×Unit):=br (decide (Int.toNat (↑(List.length a0):Int)=0)) (both (some (([],()),())) (br (decide (0+List.length a0≤qbi)) (some (([]++a0,()),())) none)) (br (decide (0+List.length a0≤qbi)) (some (([]++a0,()),())) none)
def qnv (D:DX)(n:Nat) (a0:List Int):Option ((List Int×Unit)×Unit):=qu7 D n a0
theorem q7i (D:DX)(n:Nat) (a0:List Int):rfC qc D n 138 (a0,())=qnv D n a0:=by kernel_rfl

def q7x (D:DX)(n:Nat) (a0:Int×Int×ByteArray×Unit):Option ((Bool×Unit)×Unit):=br (decide (Prod.fst a0=0)) (some ((bif decide (Prod.fst (Prod.snd a0)=0) then List.beq (ByteArray.toList (Prod.fst (Prod.snd (Prod.snd a0)))) (ByteArray.toList (ByteArray.mk #[])) else false,()),())) (br (decide (Prod.fst a0=1)) (qi (qev D (Prod.fst (Prod.snd a0)) 0 1) fun b↦some ((bif Prod.fst (Prod.fst b) then List.beq (ByteArray.toList (Prod.fst (Prod.snd (Prod.snd a0)))) (ByteArray.toList (ByteArray.mk #[])) else false,()),())) (br (decide (Prod.fst a0=2)) (qi (qev D (Prod.fst (Prod.snd a0)) (-1000000000000) 1000000000000) fun b↦some ((bif Prod.fst (Prod.fst b) then List.beq (ByteArray.toList (Prod.fst (Prod.snd (Prod.snd a0)))) (ByteArray.toList (ByteArray.mk #[])) else false,()),())) (br (decide (Prod.fst a0=3)) (some ((bif decide (Prod.fst (Prod.snd a0)=0) then decide ((↑(ByteArray.size (Prod.fst (Prod.snd (Prod.snd a0)))):Int)≤20) else false,()),())) (some ((false,()),())))))
def q0a (D:DX)(n:Nat) (a0:Int×Int×ByteArray×Unit):Option ((Bool×Unit)×Unit):=q7x D n a0
theorem qbks (D:DX)(n:Nat) (a0:Int×Int×ByteArray×Unit):rfC qc D n 139 (a0,())=q0a D n a0:=by kernel_rfl

def qb3 (D:DX)(n:Nat) (a2:Clo) (go:qd→qd→qd→Int→Int→Option ((Int×Unit)×Unit)) (K0:qd→qd→Int→Option ((Int×Unit)×Unit)) (K1:qd→qd→Option ((Int×Unit)×Unit)) (x0:qd) (x1:qd) (x2:qd) (x3:Int) (x4:Int):Option ((Int×Unit)×Unit):=br (decide (x4<x3)) (br (decide (0≤x4)&&decide (x4<(↑(List.length x2):Int))) (br (decide (x4≥(↑(List.length x1):Int))) (K0 x0 x1 1) (br (decide (0≤x4)&&decide (x4<(↑(List.length x1):Int))) (qi (qbn ctx D a2 [CapV.val (Ty.pair (Ty.int IntKind.i64) (Ty.pair (Ty.int IntKind.i64) (Ty.pair Ty.str Ty.unit))) (List.getD x2 (Int.toNat x4) (0,0,ByteArray.empty,())),CapV.val (Ty.pair (Ty.int IntKind.i64) (Ty.pair (Ty.int IntKind.i64) (Ty.pair Ty.str Ty.unit))) (List.getD x1 (Int.toNat x4) (0,0,ByteArray.empty,()))] (Ty.int IntKind.i64)) fun b↦br (b != 0) (K0 x0 x1 b) (go x0 x1 x2 x3 (IntKind.wrap IntKind.i64 (x4+1)))) none)) none) (K1 x0 x1)
def qv (D:DX)(n:Nat) (a2:Clo) (K0:qd→qd→Int→Option ((Int×Unit)×Unit)) (K1:qd→qd→Option ((Int×Unit)×Unit)):Nat→(qd)→(qd)→(qd)→(Int)→(Int)→Option ((Int×Unit)×Unit) | 0=>(fun x0 x1 x2 x3 x4=>none) | m+1=>(fun x0 x1 x2 x3 x4=>qb3 D n a2 (qv D n a2 K0 K1 m) K0 K1 x0 x1 x2 x3 x4)
def qbx (D:DX)(n:Nat) (a2:Clo) (v0_0:qd) (v0_1:qd) (v0_2:Int):Option ((Int×Unit)×Unit):=some ((v0_2,()),())
def qbe (D:DX)(n:Nat) (a2:Clo) (v1_0:qd) (v1_1:qd):Option ((Int×Unit)×Unit):=br (decide ((↑(List.length v1_0):Int)<(↑(List.length v1_1):Int))) (some ((-1,()),())) (some ((0,()),()))
def qb0 (D:DX)(n:Nat) (a2:Clo):(qd)→(qd)→(qd)→(Int)→(Int)→Option ((Int×Unit)×Unit):=(fun x0 x1 x2 x3 x4=>qv D n a2 (fun v0_0 v0_1 v0_2=>qbx D n a2 v0_0 v0_1 v0_2) (fun v1_0 v1_1=>qbe D n a2 v1_0 v1_1) n x0 x1 x2 x3 x4)
def qcf (D:DX)(n:Nat) (a2:Clo) (lp0:qd→qd→qd→Int→Int→Option ((Int×Unit)×Unit)) (a0:qd) (a1:qd):Option ((Int×Unit)×Unit):=lp0 a0 a1 a0 (↑(List.length a0):Int) 0
def qcg (D:DX)(n:Nat) (a0:qd) (a1:qd) (a2:Clo):Option ((Int×Unit)×Unit):=qcf D n a2 (qb0 D n a2) a0 a1
def qu (a2:Clo) (x0:qd) (x1:qd) (x2:qd) (x3:Int) (x4:Int):St:=stq 39 [(0,AV.val (Ty.sl yV) x0),(1,AV.val (Ty.sl yV) x1),(2,AV.cloV a2),(11,AV.val (Ty.sl yV) x2),(12,avI x3),(13,avI x4)] [] 
def qbg (a2:Clo) (v0_0:qd) (v0_1:qd) (v0_2:Int):St:=stq 39 [(0,AV.val (Ty.sl yV) v0_0),(1,AV.val (Ty.sl yV) v0_1),(6,avI v0_2)] [] 
def qbf (a2:Clo) (v1_0:qd) (v1_1:qd):St:=stq 39 [(0,AV.val (Ty.sl yV) v1_0),(1,AV.val (Ty.sl yV) v1_1)] [] 
theorem qgm (D:DX)(n:Nat) (a2:Clo) (m:Nat) (K:Ex→St→Option (Out ctx 140)) (x0:qd) (x1:qd) (x2:qd) (x3:Int) (x4:Int) :
 LQ qc D n 140 [.r,.l,.r,.l] (m+1) (qu a2 x0 x1 x2 x3 x4) K=qb3 D n a2 (fun x0 x1 x2 x3 x4=>LQ qc D n 140 [.r,.l,.r,.l] m (qu a2 x0 x1 x2 x3 x4) K) (fun v0_0 v0_1 v0_2=>K (Ex.ret) (qbg a2 v0_0 v0_1 v0_2)) (fun v1_0 v1_1=>K (Ex.exit 0) (qbf a2 v1_0 v1_1)) x0 x1 x2 x3 x4:=by kernel_rfl
theorem qc7 (D:DX)(n:Nat) (a2:Clo) (K:Ex→St→Option (Out ctx 140)):∀ (m:Nat) (x0:qd) (x1:qd) (x2:qd) (x3:Int) (x4:Int),LQ qc D n 140 [.r,.l,.r,.l] m (qu a2 x0 x1 x2 x3 x4) K=qv D n a2 (fun v0_0 v0_1 v0_2=>K (Ex.ret) (qbg a2 v0_0 v0_1 v0_2)) (fun v1_0 v1_1=>K (Ex.exit 0) (qbf a2 v1_0 v1_1)) m x0 x1 x2 x3 x4
 | 0,x0,x1,x2,x3,x4=>qx ..
 | m+1,x0,x1,x2,x3,x4=>by
  have ih:(fun x0 x1 x2 x3 x4=>LQ qc D n 140 [.r,.l,.r,.l] m (qu a2 x0 x1 x2 x3 x4) K)=qv D n a2 (fun v0_0 v0_1 v0_2=>K (Ex.ret) (qbg a2 v0_0 v0_1 v0_2)) (fun v1_0 v1_1=>K (Ex.exit 0) (qbf a2 v1_0 v1_1)) m:=by funext x0 x1 x2 x3 x4;exact qc7 D n a2 K m x0 x1 x2 x3 x4
  rw[qgm]
  rw[ih];rfl
theorem qgf (D:DX)(n:Nat) (a2:Clo) (v0_0:qd) (v0_1:qd) (v0_2:Int) :
 (CQ qc D n 140 [] [.r,.l,.r,.l] (qh qc 140)) (Ex.ret) (qbg a2 v0_0 v0_1 v0_2)=qbx D n a2 v0_0 v0_1 v0_2:=by kernel_rfl
theorem qgg (D:DX)(n:Nat) (a2:Clo) (v1_0:qd) (v1_1:qd) :
 (CQ qc D n 140 [] [.r,.l,.r,.l] (qh qc 140)) (Ex.exit 0) (qbf a2 v1_0 v1_1)=qbe D n a2 v1_0 v1_1:=by kernel_rfl
theorem qge (D:DX)(n:Nat) (a2:Clo) (x0:qd) (x1:qd) (x2:qd) (x3:Int) (x4:Int) :
 LQ qc D n 140 [.r,.l,.r,.l] n (qu a2 x0 x1 x2 x3 x4) (CQ qc D n 140 [] [.r,.l,.r,.l] (qh qc 140))=qb0 D n a2 x0 x1 x2 x3 x4:=by
 rw[qc7]
 simp only[qgf,qgg]
 rfl
theorem qg3 (D:DX)(n:Nat) (a0:qd) (a1:qd) (a2:Clo):rfC qc D n 140 (a0,(a1,(a2,())))=qcg D n a0 a1 a2:=by
 have h:rfC qc D n 140 (a0,(a1,(a2,())))=qcf D n a2 (fun x0 x1 x2 x3 x4=>LQ qc D n 140 [.r,.l,.r,.l] n (qu a2 x0 x1 x2 x3 x4) (CQ qc D n 140 [] [.r,.l,.r,.l] (qh qc 140))) a0 a1:=by kernel_rfl
 rw[h]
 simp only[qge]
 rfl

def q7y (D:DX)(n:Nat) (a0:Int×Int×ByteArray×Unit) (a1:Int×Int×ByteArray×Unit):Option ((Int×Unit)×Unit):=br (bif decide (Prod.fst a0<Prod.fst a1) then true else bif decide (Prod.fst a0=Prod.fst a1) then decide (Prod.fst (Prod.snd a0)<Prod.fst (Prod.snd a1)) else false) (some ((-1,()),())) (br (bif decide (Prod.fst a0>Prod.fst a1) then true else decide (Prod.fst (Prod.snd a0)>Prod.fst (Prod.snd a1))) (some ((1,()),())) (qi (q3f D (Prod.fst (Prod.snd (Prod.snd a0))) (Prod.fst (Prod.snd (Prod.snd a1)))) fun b↦some ((Prod.fst (Prod.fst b),()),())))
def qzb (D:DX)(n:Nat) (a0:Int×Int×ByteArray×Unit) (a1:Int×Int×ByteArray×Unit):Option ((Int×Unit)×Unit):=q7y D n a0 a1
theorem qbl0 (D:DX)(n:Nat) (a0:Int×Int×ByteArray×Unit) (a1:Int×Int×ByteArray×Unit):rfC qc D n 141 (a0,(a1,()))=qzb D n a0 a1:=by kernel_rfl

def qgx (D:DX)(n:Nat) (a1:Clo) (a0:tIxs):Option ((Bool×Unit)×Unit):=qi (qes D a0 a1) fun b↦some ((decide (Prod.fst (Prod.fst b)≥0),()),())
def qdz (D:DX)(n:Nat) (a0:tIxs) (a1:Clo):Option ((Bool×Unit)×Unit):=qgx D n a1 a0
theorem qob (D:DX)(n:Nat) (a0:tIxs) (a1:Clo):rfC qc D n 142 (a0,(a1,()))=qdz D n a0 a1:=by kernel_rfl

def q8v (D:DX)(n:Nat) (a0:ByteArray×List Int×Bool×Unit) (a1:qd) (a2:qd):Option ((Bool×Unit)×Unit):=qi (qlp D a1 (Prod.fst (Prod.snd a0))) fun b↦br (Prod.fst (Prod.snd (Prod.snd a0))) (qi (qeu D (Prod.fst (Prod.fst b)) (0,0,ByteArray.empty,())) fun b_1↦br (!Prod.fst (Prod.fst b_1)) (qi (qlp D a2 (Prod.fst (Prod.snd a0))) fun b_2↦qi (qfz D (Prod.fst (Prod.fst b)) (Prod.fst (Prod.fst b_2))) fun b↦some ((Prod.fst (Prod.fst b),()),())) (some ((false,()),()))) (some ((false,()),()))
def qz1 (D:DX)(n:Nat) (a0:ByteArray×List Int×Bool×Unit) (a1:qd) (a2:qd):Option ((Bool×Unit)×Unit):=q8v D n a0 a1 a2
theorem qblq (D:DX)(n:Nat) (a0:ByteArray×List Int×Bool×Unit) (a1:qd) (a2:qd):rfC qc D n 143 (a0,(a1,(a2,())))=qz1 D n a0 a1 a2:=by kernel_rfl

def qij (D:DX)(n:Nat) (a0:qd) (a1:Int×Int×ByteArray×Unit):Option ((Bool×Unit)×Unit):=qi (qft D a0 a1) fun b↦some ((decide (Prod.fst (Prod.fst b)≥0),()),())
def qet (D:DX)(n:Nat) (a0:qd) (a1:Int×Int×ByteArray×Unit):Option ((Bool×Unit)×Unit):=qij D n a0 a1
theorem qqz (D:DX)(n:Nat) (a0:qd) (a1:Int×Int×ByteArray×Unit):rfC qc D n 144 (a0,(a1,()))=qet D n a0 a1:=by kernel_rfl

def qfe (D:DX)(n:Nat) (go:qd→qd→Int→Int→Option ((Bool×Unit)×Unit)) (K0:Bool→Option ((Bool×Unit)×Unit)) (K1:Option ((Bool×Unit)×Unit)) (x0:qd) (x1:qd) (x2:Int) (x3:Int):Option ((Bool×Unit)×Unit):=br (decide (x3<x2)) (br (decide (0≤x3)&&decide (x3<(↑(List.length x0):Int))) (br (decide (0≤x3)&&decide (x3<(↑(List.length x1):Int))) (br (!qnk (Ty.pair (Ty.int IntKind.i64) (Ty.pair (Ty.int IntKind.i64) (Ty.pair Ty.str Ty.unit))) (List.getD x0 (Int.toNat x3) (0,0,ByteArray.empty,())) (List.getD x1 (Int.toNat x3) (0,0,ByteArray.empty,()))) (K0 false) (go x0 x1 x2 (IntKind.wrap IntKind.i64 (x3+1)))) none) none) K1
def qb5 (D:DX)(n:Nat) (K0:Bool→Option ((Bool×Unit)×Unit)) (K1:Option ((Bool×Unit)×Unit)):Nat→(qd)→(qd)→(Int)→(Int)→Option ((Bool×Unit)×Unit) | 0=>(fun x0 x1 x2 x3=>none) | m+1=>(fun x0 x1 x2 x3=>qfe D n (qb5 D n K0 K1 m) K0 K1 x0 x1 x2 x3)
def qii (D:DX)(n:Nat) (v0_0:Bool):Option ((Bool×Unit)×Unit):=some ((v0_0,()),())
def qil (D:DX)(n:Nat):Option ((Bool×Unit)×Unit):=some ((true,()),())
def qe3 (D:DX)(n:Nat):(qd)→(qd)→(Int)→(Int)→Option ((Bool×Unit)×Unit):=(fun x0 x1 x2 x3=>qb5 D n (fun v0_0=>qii D n v0_0) (qil D n) n x0 x1 x2 x3)
def qfo (D:DX)(n:Nat) (lp0:qd→qd→Int→Int→Option ((Bool×Unit)×Unit)) (a0:qd) (a1:qd):Option ((Bool×Unit)×Unit):=br ((↑(List.length a0):Int) != (↑(List.length a1):Int)) (some ((false,()),())) (lp0 a0 a1 (↑(List.length a0):Int) 0)
def qfv (D:DX)(n:Nat) (a0:qd) (a1:qd):Option ((Bool×Unit)×Unit):=qfo D n (qe3 D n) a0 a1
def qcb (x0:qd) (x1:qd) (x2:Int) (x3:Int):St:=stq 26 [(0,AV.val (Ty.sl yV) x0),(1,AV.val (Ty.sl yV) x1),(12,avI x2),(13,avI x3)] [] 
def qdg (v0_0:Bool):St:=stq 26 [(4,AV.val Ty.bool v0_0)] [] 
def qdi:St:=stq 26 [] [] 
theorem qrb (D:DX)(n:Nat) (m:Nat) (K:Ex→St→Option (Out ctx 145)) (x0:qd) (x1:qd) (x2:Int) (x3:Int) :
 LQ qc D n 145 [.r,.r,.l,.r,.l] (m+1) (qcb x0 x1 x2 x3) K=qfe D n (fun x0 x1 x2 x3=>LQ qc D n 145 [.r,.r,.l,.r,.l] m (qcb x0 x1 x2 x3) K) (fun v0_0=>K (Ex.ret) (qdg v0_0)) (K (Ex.exit 0) (qdi)) x0 x1 x2 x3:=by kernel_rfl
theorem qiu (D:DX)(n:Nat) (K:Ex→St→Option (Out ctx 145)):∀ (m:Nat) (x0:qd) (x1:qd) (x2:Int) (x3:Int),LQ qc D n 145 [.r,.r,.l,.r,.l] m (qcb x0 x1 x2 x3) K=qb5 D n (fun v0_0=>K (Ex.ret) (qdg v0_0)) (K (Ex.exit 0) (qdi)) m x0 x1 x2 x3
 | 0,x0,x1,x2,x3=>qx ..
 | m+1,x0,x1,x2,x3=>by
  have ih:(fun x0 x1 x2 x3=>LQ qc D n 145 [.r,.r,.l,.r,.l] m (qcb x0 x1 x2 x3) K)=qb5 D n (fun v0_0=>K (Ex.ret) (qdg v0_0)) (K (Ex.exit 0) (qdi)) m:=by funext x0 x1 x2 x3;exact qiu D n K m x0 x1 x2 x3
  rw[qrb]
  rw[ih];rfl
theorem qqp (D:DX)(n:Nat) (v0_0:Bool) :
 (CQ qc D n 145 [] [.r,.r,.l,.r,.l] (qh qc 145)) (Ex.ret) (qdg v0_0)=qii D n v0_0:=by kernel_rfl
theorem qql (D:DX)(n:Nat) :
 (CQ qc D n 145 [] [.r,.r,.l,.r,.l] (qh qc 145)) (Ex.exit 0) (qdi)=qil D n:=by kernel_rfl
theorem qqr (D:DX)(n:Nat) (x0:qd) (x1:qd) (x2:Int) (x3:Int) :
 LQ qc D n 145 [.r,.r,.l,.r,.l] n (qcb x0 x1 x2 x3) (CQ qc D n 145 [] [.r,.r,.l,.r,.l] (qh qc 145))=qe3 D n x0 x1 x2 x3:=by
 rw[qiu]
 simp only[qqp,qql]
 rfl
theorem qti (D:DX)(n:Nat) (a0:qd) (a1:qd):rfC qc D n 145 (a0,(a1,()))=qfv D n a0 a1:=by
 have h:rfC qc D n 145 (a0,(a1,()))=qfo D n (fun x0 x1 x2 x3=>LQ qc D n 145 [.r,.r,.l,.r,.l] n (qcb x0 x1 x2 x3) (CQ qc D n 145 [] [.r,.r,.l,.r,.l] (qh qc 145))) a0 a1:=by kernel_rfl
 rw[h]
 simp only[qqr]
 rfl

def qur (D:DX)(n:Nat) (go:ByteArray→Int→Int→Option ((Bool×Unit)×Unit)) (K0:ByteArray→Bool→Option ((Bool×Unit)×Unit)) (K1:ByteArray→Option ((Bool×Unit)×Unit)) (x0:ByteArray) (x1:Int) (x2:Int):Option ((Bool×Unit)×Unit):=br (decide (x2<x1)) (br (decide (0≤x2)&&decide (x2<(↑(ByteArray.size x0):Int))) (br (decide ((↑(UInt8.toNat (Array.getD (ByteArray.data x0) (Int.toNat x2) (UInt8.ofNat 0))):Int)<97)) (K0 x0 false) (br (decide (0≤x2)&&decide (x2<(↑(ByteArray.size x0):Int))) (br (decide ((↑(UInt8.toNat (Array.getD (ByteArray.data x0) (Int.toNat x2) (UInt8.ofNat 0))):Int)>122)) (K0 x0 false) (go x0 x1 (IntKind.wrap IntKind.i64 (x2+1)))) none)) none) (K1 x0)
def qh4 (D:DX)(n:Nat) (K0:ByteArray→Bool→Option ((Bool×Unit)×Unit)) (K1:ByteArray→Option ((Bool×Unit)×Unit)):Nat→(ByteArray)→(Int)→(Int)→Option ((Bool×Unit)×Unit) | 0=>(fun x0 x1 x2=>none) | m+1=>(fun x0 x1 x2=>qur D n (qh4 D n K0 K1 m) K0 K1 x0 x1 x2)
def qyw (D:DX)(n:Nat) (v0_0:ByteArray) (v0_1:Bool):Option ((Bool×Unit)×Unit):=some ((v0_1,()),())
def qrh (D:DX)(n:Nat) (v1_0:ByteArray):Option ((Bool×Unit)×Unit):=qi (qev D (↑(ByteArray.size v1_0):Int) 1 12) fun b↦some ((Prod.fst (Prod.fst b),()),())
def qtj (D:DX)(n:Nat):(ByteArray)→(Int)→(Int)→Option ((Bool×Unit)×Unit):=(fun x0 x1 x2=>qh4 D n (fun v0_0 v0_1=>qyw D n v0_0 v0_1) (fun v1_0=>qrh D n v1_0) n x0 x1 x2)
def qv1 (D:DX)(n:Nat) (lp0:ByteArray→Int→Int→Option ((Bool×Unit)×Unit)) (a0:ByteArray):Option ((Bool×Unit)×Unit):=lp0 a0 (↑(ByteArray.size a0):Int) 0
def qwl (D:DX)(n:Nat) (a0:ByteArray):Option ((Bool×Unit)×Unit):=qv1 D n (qtj D n) a0
def qic (x0:ByteArray) (x1:Int) (x2:Int):St:=stq 23 [(0,AV.val Ty.str x0),(5,avI x1),(6,avI x2)] [] 
def qlz (v0_0:ByteArray) (v0_1:Bool):St:=stq 23 [(0,AV.val Ty.str v0_0),(2,AV.val Ty.bool v0_1)] [] 
def ql0 (v1_0:ByteArray):St:=stq 23 [(0,AV.val Ty.str v1_0)] [] 
theorem qbb0 (D:DX)(n:Nat) (m:Nat) (K:Ex→St→Option (Out ctx 146)) (x0:ByteArray) (x1:Int) (x2:Int) :
 LQ qc D n 146 [.r,.l,.r,.l] (m+1) (qic x0 x1 x2) K=qur D n (fun x0 x1 x2=>LQ qc D n 146 [.r,.l,.r,.l] m (qic x0 x1 x2) K) (fun v0_0 v0_1=>K (Ex.ret) (qlz v0_0 v0_1)) (fun v1_0=>K (Ex.exit 0) (ql0 v1_0)) x0 x1 x2:=by kernel_rfl
theorem q1v (D:DX)(n:Nat) (K:Ex→St→Option (Out ctx 146)):∀ (m:Nat) (x0:ByteArray) (x1:Int) (x2:Int),LQ qc D n 146 [.r,.l,.r,.l] m (qic x0 x1 x2) K=qh4 D n (fun v0_0 v0_1=>K (Ex.ret) (qlz v0_0 v0_1)) (fun v1_0=>K (Ex.exit 0) (ql0 v1_0)) m x0 x1 x2
 | 0,x0,x1,x2=>qx ..
 | m+1,x0,x1,x2=>by
  have ih:(fun x0 x1 x2=>LQ qc D n 146 [.r,.l,.r,.l] m (qic x0 x1 x2) K)=qh4 D n (fun v0_0 v0_1=>K (Ex.ret) (qlz v0_0 v0_1)) (fun v1_0=>K (Ex.exit 0) (ql0 v1_0)) m:=by funext x0 x1 x2;exact q1v D n K m x0 x1 x2
  rw[qbb0]
  rw[ih];rfl
theorem qbal (D:DX)(n:Nat) (v0_0:ByteArray) (v0_1:Bool) :
 (CQ qc D n 146 [] [.r,.l,.r,.l] (qh qc 146)) (Ex.ret) (qlz v0_0 v0_1)=qyw D n v0_0 v0_1:=by kernel_rfl
theorem qbaw (D:DX)(n:Nat) (v1_0:ByteArray) :
 (CQ qc D n 146 [] [.r,.l,.r,.l] (qh qc 146)) (Ex.exit 0) (ql0 v1_0)=qrh D n v1_0:=by kernel_rfl
theorem qba0 (D:DX)(n:Nat) (x0:ByteArray) (x1:Int) (x2:Int) :
 LQ qc D n 146 [.r,.l,.r,.l] n (qic x0 x1 x2) (CQ qc D n 146 [] [.r,.l,.r,.l] (qh qc 146))=qtj D n x0 x1 x2:=by
 rw[q1v]
 simp only[qbal,qbaw]
 rfl
theorem qbgs (D:DX)(n:Nat) (a0:ByteArray):rfC qc D n 146 (a0,())=qwl D n a0:=by
 have h:rfC qc D n 146 (a0,())=qv1 D n (fun x0 x1 x2=>LQ qc D n 146 [.r,.l,.r,.l] n (qic x0 x1 x2) (CQ qc D n 146 [] [.r,.l,.r,.l] (qh qc 146))) a0:=by kernel_rfl
 rw[h]
 simp only[qba0]
 rfl

def qbcs (D:DX)(n:Nat) (a0:tSch) (a1:ByteArray):Option ((Int×Unit)×Unit):=qi (qfp D (Prod.fst a0) (Clo.mk 196 [CapV.rptr Ty.str a1])) fun b↦some ((Prod.fst (Prod.fst b),()),())
def q41 (D:DX)(n:Nat) (a0:tSch) (a1:ByteArray):Option ((Int×Unit)×Unit):=qbcs D n a0 a1
theorem qbpf (D:DX)(n:Nat) (a0:tSch) (a1:ByteArray):rfC qc D n 147 (a0,(a1,()))=q41 D n a0 a1:=by kernel_rfl

def qwa (D:DX)(n:Nat) (go:List Int→Int→List Int→Int→Int→tSch→Option ((Bool×Unit)×Unit)) (K0:List Int→Int→Bool→Option ((Bool×Unit)×Unit)) (K1:List Int→Int→Option ((Bool×Unit)×Unit)) (x0:List Int) (x1:Int) (x2:List Int) (x3:Int) (x4:Int) (x5:tSch):Option ((Bool×Unit)×Unit):=br (decide (x4<x3)) (br (decide (0≤x4)&&decide (x4<(↑(List.length x2):Int))) (qi (qev D (List.getD x2 (Int.toNat x4) 0) 0 (IntKind.wrap IntKind.i64 ((↑(List.length (Prod.fst x5)):Int) - 1))) fun b↦br (!Prod.fst (Prod.fst b)) (K0 x0 x1 false) (br (decide (0≤0)&&decide (0≤x4)&&decide (x4≤(↑(List.length x0):Int))) (qi (qk1 D (List.drop (Int.toNat 0) (List.take (Int.toNat x4) x0)) (List.getD x2 (Int.toNat x4) 0)) fun b↦br (Prod.fst (Prod.fst b)) (K0 x0 x1 false) (go x0 x1 x2 x3 (IntKind.wrap IntKind.i64 (x4+1)) x5)) none)) none) (K1 x0 x1)
def qi8 (D:DX)(n:Nat) (K0:List Int→Int→Bool→Option ((Bool×Unit)×Unit)) (K1:List Int→Int→Option ((Bool×Unit)×Unit)):Nat→(List Int)→(Int)→(List Int)→(Int)→(Int)→(tSch)→Option ((Bool×Unit)×Unit) | 0=>(fun x0 x1 x2 x3 x4 x5=>none) | m+1=>(fun x0 x1 x2 x3 x4 x5=>qwa D n (qi8 D n K0 K1 m) K0 K1 x0 x1 x2 x3 x4 x5)
def q1n (D:DX)(n:Nat) (v0_0:List Int) (v0_1:Int) (v0_2:Bool):Option ((Bool×Unit)×Unit):=some ((v0_2,()),())
def qs0 (D:DX)(n:Nat) (v1_0:List Int) (v1_1:Int):Option ((Bool×Unit)×Unit):=qi (qev D (↑(List.length v1_0):Int) 1 v1_1) fun b↦some ((Prod.fst (Prod.fst b),()),())
def quh (D:DX)(n:Nat):(List Int)→(Int)→(List Int)→(Int)→(Int)→(tSch)→Option ((Bool×Unit)×Unit):=(fun x0 x1 x2 x3 x4 x5=>qi8 D n (fun v0_0 v0_1 v0_2=>q1n D n v0_0 v0_1 v0_2) (fun v1_0 v1_1=>qs0 D n v1_0 v1_1) n x0 x1 x2 x3 x4 x5)
def qyk (D:DX)(n:Nat) (lp0:List Int→Int→List Int→Int→Int→tSch→Option ((Bool×Unit)×Unit)) (a0:tSch) (a1:List Int) (a2:Int):Option ((Bool×Unit)×Unit):=lp0 a1 a2 a1 (↑(List.length a1):Int) 0 a0
def qxv (D:DX)(n:Nat) (a0:tSch) (a1:List Int) (a2:Int):Option ((Bool×Unit)×Unit):=qyk D n (quh D n) a0 a1 a2
def qji (x0:List Int) (x1:Int) (x2:List Int) (x3:Int) (x4:Int) (x5:tSch):St:=stq 35 [(1,AV.val (Ty.sl yI) x0),(2,avI x1),(3,AV.addr 3 []),(9,AV.val (Ty.sl yI) x2),(10,avI x3),(11,avI x4)] [(3,Root.mk yS Mk.no x5 true)] 
def qnd (v0_0:List Int) (v0_1:Int) (v0_2:Bool):St:=stq 35 [(1,AV.val (Ty.sl yI) v0_0),(2,avI v0_1),(6,AV.val Ty.bool v0_2)] [] 
def qm0 (v1_0:List Int) (v1_1:Int):St:=stq 35 [(1,AV.val (Ty.sl yI) v1_0),(2,avI v1_1)] [] 
theorem qbdv (D:DX)(n:Nat) (m:Nat) (K:Ex→St→Option (Out ctx 148)) (x0:List Int) (x1:Int) (x2:List Int) (x3:Int) (x4:Int) (x5:tSch) :
 LQ qc D n 148 [.r,.l,.r,.l] (m+1) (qji x0 x1 x2 x3 x4 x5) K=qwa D n (fun x0 x1 x2 x3 x4 x5=>LQ qc D n 148 [.r,.l,.r,.l] m (qji x0 x1 x2 x3 x4 x5) K) (fun v0_0 v0_1 v0_2=>K (Ex.ret) (qnd v0_0 v0_1 v0_2)) (fun v1_0 v1_1=>K (Ex.exit 0) (qm0 v1_0 v1_1)) x0 x1 x2 x3 x4 x5:=by kernel_rfl
theorem q3j (D:DX)(n:Nat) (K:Ex→St→Option (Out ctx 148)):∀ (m:Nat) (x0:List Int) (x1:Int) (x2:List Int) (x3:Int) (x4:Int) (x5:tSch),LQ qc D n 148 [.r,.l,.r,.l] m (qji x0 x1 x2 x3 x4 x5) K=qi8 D n (fun v0_0 v0_1 v0_2=>K (Ex.ret) (qnd v0_0 v0_1 v0_2)) (fun v1_0 v1_1=>K (Ex.exit 0) (qm0 v1_0 v1_1)) m x0 x1 x2 x3 x4 x5
 | 0,x0,x1,x2,x3,x4,x5=>qx ..
 | m+1,x0,x1,x2,x3,x4,x5=>by
  have ih:(fun x0 x1 x2 x3 x4 x5=>LQ qc D n 148 [.r,.l,.r,.l] m (qji x0 x1 x2 x3 x4 x5) K)=qi8 D n (fun v0_0 v0_1 v0_2=>K (Ex.ret) (qnd v0_0 v0_1 v0_2)) (fun v1_0 v1_1=>K (Ex.exit 0) (qm0 v1_0 v1_1)) m:=by funext x0 x1 x2 x3 x4 x5;exact q3j D n K m x0 x1 x2 x3 x4 x5
  rw[qbdv]
  rw[ih];rfl
theorem qbb1 (D:DX)(n:Nat) (v0_0:List Int) (v0_1:Int) (v0_2:Bool) :
 (CQ qc D n 148 [] [.r,.l,.r,.l] (qh qc 148)) (Ex.ret) (qnd v0_0 v0_1 v0_2)=q1n D n v0_0 v0_1 v0_2:=by kernel_rfl
theorem qbbf (D:DX)(n:Nat) (v1_0:List Int) (v1_1:Int) :
 (CQ qc D n 148 [] [.r,.l,.r,.l] (qh qc 148)) (Ex.exit 0) (qm0 v1_0 v1_1)=qs0 D n v1_0 v1_1:=by kernel_rfl
theorem qbc5 (D:DX)(n:Nat) (x0:List Int) (x1:Int) (x2:List Int) (x3:Int) (x4:Int) (x5:tSch) :
 LQ qc D n 148 [.r,.l,.r,.l] n (qji x0 x1 x2 x3 x4 x5) (CQ qc D n 148 [] [.r,.l,.r,.l] (qh qc 148))=quh D n x0 x1 x2 x3 x4 x5:=by
 rw[q3j]
 simp only[qbb1,qbbf]
 rfl
theorem qbic (D:DX)(n:Nat) (a0:tSch) (a1:List Int) (a2:Int):rfC qc D n 148 (a0,(a1,(a2,())))=qxv D n a0 a1 a2:=by
 have h:rfC qc D n 148 (a0,(a1,(a2,())))=qyk D n (fun x0 x1 x2 x3 x4 x5=>LQ qc D n 148 [.r,.l,.r,.l] n (qji x0 x1 x2 x3 x4 x5) (CQ qc D n 148 [] [.r,.l,.r,.l] (qh qc 148))) a0 a1 a2:=by kernel_rfl
 rw[h]
 simp only[qbc5]
 rfl

def q3e (D:DX)(n:Nat) (a0:ByteArray×List Int×Bool×Unit) (a1:ByteArray×List Int×Bool×Unit):Option ((Bool×Unit)×Unit):=some ((List.beq (ByteArray.toList (Prod.fst a0)) (ByteArray.toList (Prod.fst a1)),()),())
def qux (D:DX)(n:Nat) (a0:ByteArray×List Int×Bool×Unit) (a1:ByteArray×List Int×Bool×Unit):Option ((Bool×Unit)×Unit):=q3e D n a0 a1
theorem qbep (D:DX)(n:Nat) (a0:ByteArray×List Int×Bool×Unit) (a1:ByteArray×List Int×Bool×Unit):rfC qc D n 149 (a0,(a1,()))=qux D n a0 a1:=by kernel_rfl

def qn6 (D:DX)(n:Nat) (a1:Clo) (a0:List Int):Option ((Bool×Unit)×Unit):=qi (qku D a0 a1) fun b↦some ((decide (Prod.fst (Prod.fst b)≥0),()),())
def qio (D:DX)(n:Nat) (a0:List Int) (a1:Clo):Option ((Bool×Unit)×Unit):=qn6 D n a1 a0
theorem qyq (D:DX)(n:Nat) (a0:List Int) (a1:Clo):rfC qc D n 150 (a0,(a1,()))=qio D n a0 a1:=by kernel_rfl

def q3o (D:DX)(n:Nat) (a0:Int) (a1:tSch):Option ((Bool×Unit)×Unit):=br (decide (0≤a0)&&decide (a0<(↑(List.length (Prod.fst a1)):Int))) (some ((Prod.fst (Prod.snd (Prod.snd (List.getD (Prod.fst a1) (Int.toNat a0) (ByteArray.empty,0,false,())))),()),())) none
def quj (D:DX)(n:Nat) (a0:Int) (a1:tSch):Option ((Bool×Unit)×Unit):=q3o D n a0 a1
theorem qbeo (D:DX)(n:Nat) (a0:Int) (a1:tSch):rfC qc D n 151 (a0,(a1,()))=quj D n a0 a1:=by kernel_rfl



def q70 (D:DX)(n:Nat) (a0:Int×Int×ByteArray×Unit):Option ((Bool×Unit)×Unit):=br (decide (Prod.fst a0=0)) (some ((bif decide (Prod.fst (Prod.snd a0)=0) then List.beq (ByteArray.toList (Prod.fst (Prod.snd (Prod.snd a0)))) (ByteArray.toList (ByteArray.mk #[])) else false,()),())) (br (decide (Prod.fst a0=1)) (qi (qhn D (Prod.fst (Prod.snd a0)) 0 1) fun b↦some ((bif Prod.fst (Prod.fst b) then List.beq (ByteArray.toList (Prod.fst (Prod.snd (Prod.snd a0)))) (ByteArray.toList (ByteArray.mk #[])) else false,()),())) (br (decide (Prod.fst a0=2)) (qi (qhn D (Prod.fst (Prod.snd a0)) (-1000000000000) 1000000000000) fun b↦some ((bif Prod.fst (Prod.fst b) then List.beq (ByteArray.toList (Prod.fst (Prod.snd (Prod.snd a0)))) (ByteArray.toList (ByteArray.mk #[])) else false,()),())) (br (decide (Prod.fst a0=3)) (some ((bif decide (Prod.fst (Prod.snd a0)=0) then decide ((↑(ByteArray.size (Prod.fst (Prod.snd (Prod.snd a0)))):Int)≤20) else false,()),())) (some ((false,()),())))))
def qzf (D:DX)(n:Nat) (a0:Int×Int×ByteArray×Unit):Option ((Bool×Unit)×Unit):=q70 D n a0
theorem qbl1 (D:DX)(n:Nat) (a0:Int×Int×ByteArray×Unit):rfC qc D n 158 (a0,())=qzf D n a0:=by kernel_rfl

def qx0 (D:DX)(n:Nat) (go:qd→qd→Int→Option ((Bool×Unit)×Unit)) (K0:qd→qd→Bool→Option ((Bool×Unit)×Unit)) (K1:qd→qd→Option ((Bool×Unit)×Unit)) (x0:qd) (x1:qd) (x2:Int):Option ((Bool×Unit)×Unit):=br (bif decide (x2<(↑(List.length x0):Int)) then decide (x2<(↑(List.length x1):Int)) else false) (br (decide (0≤x2)&&decide (x2<(↑(List.length x0):Int))) (br (decide (0≤x2)&&decide (x2<(↑(List.length x1):Int))) (qi (qp4 D (List.getD x0 (Int.toNat x2) (0,0,ByteArray.empty,())) (List.getD x1 (Int.toNat x2) (0,0,ByteArray.empty,()))) fun b↦br (!Prod.fst (Prod.fst b)) (K0 x0 x1 false) (go x0 x1 (IntKind.wrap IntKind.i64 (x2+1)))) none) none) (K1 x0 x1)
def qj9 (D:DX)(n:Nat) (K0:qd→qd→Bool→Option ((Bool×Unit)×Unit)) (K1:qd→qd→Option ((Bool×Unit)×Unit)):Nat→(qd)→(qd)→(Int)→Option ((Bool×Unit)×Unit) | 0=>(fun x0 x1 x2=>none) | m+1=>(fun x0 x1 x2=>qx0 D n (qj9 D n K0 K1 m) K0 K1 x0 x1 x2)
def quu (D:DX)(n:Nat) (v0_0:qd) (v0_1:qd) (v0_2:Bool):Option ((Bool×Unit)×Unit):=some ((v0_2,()),())
def qk0 (D:DX)(n:Nat) (v1_0:qd) (v1_1:qd):Option ((Bool×Unit)×Unit):=some ((decide ((↑(List.length v1_0):Int)=(↑(List.length v1_1):Int)),()),())
def qwe (D:DX)(n:Nat):(qd)→(qd)→(Int)→Option ((Bool×Unit)×Unit):=(fun x0 x1 x2=>qj9 D n (fun v0_0 v0_1 v0_2=>quu D n v0_0 v0_1 v0_2) (fun v1_0 v1_1=>qk0 D n v1_0 v1_1) n x0 x1 x2)
def q0w (D:DX)(n:Nat) (lp0:qd→qd→Int→Option ((Bool×Unit)×Unit)) (a0:qd) (a1:qd):Option ((Bool×Unit)×Unit):=lp0 a0 a1 0
def q0d (D:DX)(n:Nat) (a0:qd) (a1:qd):Option ((Bool×Unit)×Unit):=q0w D n (qwe D n) a0 a1
def qkp (x0:qd) (x1:qd) (x2:Int):St:=stq 33 [(0,AV.val (Ty.sl yV) x0),(1,AV.val (Ty.sl yV) x1),(5,avI x2)] [] 
def qoj (v0_0:qd) (v0_1:qd) (v0_2:Bool):St:=stq 33 [(0,AV.val (Ty.sl yV) v0_0),(1,AV.val (Ty.sl yV) v0_1),(4,AV.val Ty.bool v0_2)] [] 
def qow (v1_0:qd) (v1_1:qd):St:=stq 33 [(0,AV.val (Ty.sl yV) v1_0),(1,AV.val (Ty.sl yV) v1_1)] [] 
theorem qbf7 (D:DX)(n:Nat) (m:Nat) (K:Ex→St→Option (Out ctx 159)) (x0:qd) (x1:qd) (x2:Int) :
 LQ qc D n 159 [.r,.l,.r,.l] (m+1) (qkp x0 x1 x2) K=qx0 D n (fun x0 x1 x2=>LQ qc D n 159 [.r,.l,.r,.l] m (qkp x0 x1 x2) K) (fun v0_0 v0_1 v0_2=>K (Ex.ret) (qoj v0_0 v0_1 v0_2)) (fun v1_0 v1_1=>K (Ex.exit 0) (qow v1_0 v1_1)) x0 x1 x2:=by kernel_rfl
theorem q47 (D:DX)(n:Nat) (K:Ex→St→Option (Out ctx 159)):∀ (m:Nat) (x0:qd) (x1:qd) (x2:Int),LQ qc D n 159 [.r,.l,.r,.l] m (qkp x0 x1 x2) K=qj9 D n (fun v0_0 v0_1 v0_2=>K (Ex.ret) (qoj v0_0 v0_1 v0_2)) (fun v1_0 v1_1=>K (Ex.exit 0) (qow v1_0 v1_1)) m x0 x1 x2
 | 0,x0,x1,x2=>qx ..
 | m+1,x0,x1,x2=>by
  have ih:(fun x0 x1 x2=>LQ qc D n 159 [.r,.l,.r,.l] m (qkp x0 x1 x2) K)=qj9 D n (fun v0_0 v0_1 v0_2=>K (Ex.ret) (qoj v0_0 v0_1 v0_2)) (fun v1_0 v1_1=>K (Ex.exit 0) (qow v1_0 v1_1)) m:=by funext x0 x1 x2;exact q47 D n K m x0 x1 x2
  rw[qbf7]
  rw[ih];rfl
theorem qbeh (D:DX)(n:Nat) (v0_0:qd) (v0_1:qd) (v0_2:Bool) :
 (CQ qc D n 159 [] [.r,.l,.r,.l] (qh qc 159)) (Ex.ret) (qoj v0_0 v0_1 v0_2)=quu D n v0_0 v0_1 v0_2:=by kernel_rfl
theorem qbd2 (D:DX)(n:Nat) (v1_0:qd) (v1_1:qd) :
 (CQ qc D n 159 [] [.r,.l,.r,.l] (qh qc 159)) (Ex.exit 0) (qow v1_0 v1_1)=qk0 D n v1_0 v1_1:=by kernel_rfl
theorem qbdy (D:DX)(n:Nat) (x0:qd) (x1:qd) (x2:Int) :
 LQ qc D n 159 [.r,.l,.r,.l] n (qkp x0 x1 x2) (CQ qc D n 159 [] [.r,.l,.r,.l] (qh qc 159))=qwe D n x0 x1 x2:=by
 rw[q47]
 simp only[qbeh,qbd2]
 rfl
theorem qblz (D:DX)(n:Nat) (a0:qd) (a1:qd):rfC qc D n 159 (a0,(a1,()))=q0d D n a0 a1:=by
 have h:rfC qc D n 159 (a0,(a1,()))=q0w D n (fun x0 x1 x2=>LQ qc D n 159 [.r,.l,.r,.l] n (qkp x0 x1 x2) (CQ qc D n 159 [] [.r,.l,.r,.l] (qh qc 159))) a0 a1:=by kernel_rfl
 rw[h]
 simp only[qbdy]
 rfl

def q4l (D:DX)(n:Nat) (a0:Int×Int×ByteArray×Unit) (a1:Int×Int×ByteArray×Unit):Option ((Bool×Unit)×Unit):=some ((qnk (Ty.pair (Ty.int IntKind.i64) (Ty.pair (Ty.int IntKind.i64) (Ty.pair Ty.str Ty.unit))) a0 a1,()),())
def qvq (D:DX)(n:Nat) (a0:Int×Int×ByteArray×Unit) (a1:Int×Int×ByteArray×Unit):Option ((Bool×Unit)×Unit):=q4l D n a0 a1
theorem qbgi (D:DX)(n:Nat) (a0:Int×Int×ByteArray×Unit) (a1:Int×Int×ByteArray×Unit):rfC qc D n 160 (a0,(a1,()))=qvq D n a0 a1:=by kernel_rfl

def q5k (D:DX)(n:Nat) (a0:Int×Int×ByteArray×Unit) (a1:Int×Int×ByteArray×Unit):Option ((Bool×Unit)×Unit):=br (Prod.fst a0 != Prod.fst a1) (some ((decide (Prod.fst a0<Prod.fst a1),()),())) (br (Prod.fst (Prod.snd a0) != Prod.fst (Prod.snd a1)) (some ((decide (Prod.fst (Prod.snd a0)<Prod.fst (Prod.snd a1)),()),())) (some ((Op.bytesLess (ByteArray.toList (Prod.fst (Prod.snd (Prod.snd a0)))) (ByteArray.toList (Prod.fst (Prod.snd (Prod.snd a1)))),()),())))
def qwf (D:DX)(n:Nat) (a0:Int×Int×ByteArray×Unit) (a1:Int×Int×ByteArray×Unit):Option ((Bool×Unit)×Unit):=q5k D n a0 a1
theorem qbf0 (D:DX)(n:Nat) (a0:Int×Int×ByteArray×Unit) (a1:Int×Int×ByteArray×Unit):rfC qc D n 161 (a0,(a1,()))=qwf D n a0 a1:=by kernel_rfl

def qbaf (D:DX)(n:Nat) (a0:List Int×Int×Int×Unit) (a1:List ByteArray):Option ((ByteArray×Unit)×tCur×Unit):=qi (qda D a0 (↑(List.length a1):Int)) fun b↦br (decide (0≤Prod.fst (Prod.fst b))&&decide (Prod.fst (Prod.fst b)<(↑(List.length a1):Int))) (some ((List.getD a1 (Int.toNat (Prod.fst (Prod.fst b))) ByteArray.empty,()),Prod.fst (Prod.snd b),())) none
def q2f (D:DX)(n:Nat) (a0:List Int×Int×Int×Unit) (a1:List ByteArray):Option ((ByteArray×Unit)×tCur×Unit):=qbaf D n a0 a1
theorem qbn2 (D:DX)(n:Nat) (a0:List Int×Int×Int×Unit) (a1:List ByteArray):rfC qc D n 162 (a0,(a1,()))=q2f D n a0 a1:=by kernel_rfl

def q40 (D:DX)(n:Nat) (a0:List Int×Int×Int×Unit) (a1:List Int):Option ((Int×Unit)×tCur×Unit):=qi (qda D a0 (↑(List.length a1):Int)) fun b↦br (decide (0≤Prod.fst (Prod.fst b))&&decide (Prod.fst (Prod.fst b)<(↑(List.length a1):Int))) (some ((List.getD a1 (Int.toNat (Prod.fst (Prod.fst b))) 0,()),Prod.fst (Prod.snd b),())) none
def qwi (D:DX)(n:Nat) (a0:List Int×Int×Int×Unit) (a1:List Int):Option ((Int×Unit)×tCur×Unit):=q40 D n a0 a1
theorem qbhe (D:DX)(n:Nat) (a0:List Int×Int×Int×Unit) (a1:List Int):rfC qc D n 163 (a0,(a1,()))=qwi D n a0 a1:=by kernel_rfl


def qyd (D:DX)(n:Nat) (go:qd→Int→Option ((Bool×Unit)×Unit)) (K0:Bool→Option ((Bool×Unit)×Unit)) (K1:Option ((Bool×Unit)×Unit)) (x0:qd) (x1:Int):Option ((Bool×Unit)×Unit):=br (decide (x1<(↑(List.length x0):Int))) (br (decide (0≤x1)&&decide (x1<(↑(List.length x0):Int))) (br (decide (Prod.fst (List.getD x0 (Int.toNat x1) (0,0,ByteArray.empty,()))=0)) (K0 true) (go x0 (IntKind.wrap IntKind.i64 (x1+1)))) none) K1
def qkd (D:DX)(n:Nat) (K0:Bool→Option ((Bool×Unit)×Unit)) (K1:Option ((Bool×Unit)×Unit)):Nat→(qd)→(Int)→Option ((Bool×Unit)×Unit) | 0=>(fun x0 x1=>none) | m+1=>(fun x0 x1=>qyd D n (qkd D n K0 K1 m) K0 K1 x0 x1)
def q3p (D:DX)(n:Nat) (v0_0:Bool):Option ((Bool×Unit)×Unit):=some ((v0_0,()),())
def q3h (D:DX)(n:Nat):Option ((Bool×Unit)×Unit):=some ((false,()),())
def qvp (D:DX)(n:Nat):(qd)→(Int)→Option ((Bool×Unit)×Unit):=(fun x0 x1=>qkd D n (fun v0_0=>q3p D n v0_0) (q3h D n) n x0 x1)
def q0o (D:DX)(n:Nat) (lp0:qd→Int→Option ((Bool×Unit)×Unit)) (a0:qd):Option ((Bool×Unit)×Unit):=lp0 a0 0
def q02 (D:DX)(n:Nat) (a0:qd):Option ((Bool×Unit)×Unit):=q0o D n (qvp D n) a0
def qkg (x0:qd) (x1:Int):St:=stq 16 [(0,AV.val (Ty.sl yV) x0),(3,avI x1)] [] 
def qov (v0_0:Bool):St:=stq 16 [(2,AV.val Ty.bool v0_0)] [] 
def qoq:St:=stq 16 [] [] 
theorem qbhg (D:DX)(n:Nat) (m:Nat) (K:Ex→St→Option (Out ctx 165)) (x0:qd) (x1:Int) :
 LQ qc D n 165 [.r,.l,.r,.l] (m+1) (qkg x0 x1) K=qyd D n (fun x0 x1=>LQ qc D n 165 [.r,.l,.r,.l] m (qkg x0 x1) K) (fun v0_0=>K (Ex.ret) (qov v0_0)) (K (Ex.exit 0) (qoq)) x0 x1:=by kernel_rfl
theorem q4w (D:DX)(n:Nat) (K:Ex→St→Option (Out ctx 165)):∀ (m:Nat) (x0:qd) (x1:Int),LQ qc D n 165 [.r,.l,.r,.l] m (qkg x0 x1) K=qkd D n (fun v0_0=>K (Ex.ret) (qov v0_0)) (K (Ex.exit 0) (qoq)) m x0 x1
 | 0,x0,x1=>qx ..
 | m+1,x0,x1=>by
  have ih:(fun x0 x1=>LQ qc D n 165 [.r,.l,.r,.l] m (qkg x0 x1) K)=qkd D n (fun v0_0=>K (Ex.ret) (qov v0_0)) (K (Ex.exit 0) (qoq)) m:=by funext x0 x1;exact q4w D n K m x0 x1
  rw[qbhg]
  rw[ih];rfl
theorem qbd9 (D:DX)(n:Nat) (v0_0:Bool) :
 (CQ qc D n 165 [] [.r,.l,.r,.l] (qh qc 165)) (Ex.ret) (qov v0_0)=q3p D n v0_0:=by kernel_rfl
theorem qbew (D:DX)(n:Nat) :
 (CQ qc D n 165 [] [.r,.l,.r,.l] (qh qc 165)) (Ex.exit 0) (qoq)=q3h D n:=by kernel_rfl
theorem qbdw (D:DX)(n:Nat) (x0:qd) (x1:Int) :
 LQ qc D n 165 [.r,.l,.r,.l] n (qkg x0 x1) (CQ qc D n 165 [] [.r,.l,.r,.l] (qh qc 165))=qvp D n x0 x1:=by
 rw[q4w]
 simp only[qbd9,qbew]
 rfl
theorem qbke (D:DX)(n:Nat) (a0:qd):rfC qc D n 165 (a0,())=q02 D n a0:=by
 have h:rfC qc D n 165 (a0,())=q0o D n (fun x0 x1=>LQ qc D n 165 [.r,.l,.r,.l] n (qkg x0 x1) (CQ qc D n 165 [] [.r,.l,.r,.l] (qh qc 165))) a0:=by kernel_rfl
 rw[h]
 simp only[qbdw]
 rfl

def qui (D:DX)(n:Nat) (go:ByteArray→Int→Option ((Bool×Unit)×Unit)) (K0:ByteArray→Bool→Option ((Bool×Unit)×Unit)) (K1:ByteArray→Option ((Bool×Unit)×Unit)) (x0:ByteArray) (x1:Int):Option ((Bool×Unit)×Unit):=br (decide (x1<(↑(ByteArray.size x0):Int))) (br (decide (0≤x1)&&decide (x1<(↑(ByteArray.size x0):Int))) (br (decide ((↑(UInt8.toNat (Array.getD (ByteArray.data x0) (Int.toNat x1) (UInt8.ofNat 0))):Int)<97)) (K0 x0 false) (br (decide (0≤x1)&&decide (x1<(↑(ByteArray.size x0):Int))) (br (decide ((↑(UInt8.toNat (Array.getD (ByteArray.data x0) (Int.toNat x1) (UInt8.ofNat 0))):Int)>122)) (K0 x0 false) (go x0 (IntKind.wrap IntKind.i64 (x1+1)))) none)) none) (K1 x0)
def qh7 (D:DX)(n:Nat) (K0:ByteArray→Bool→Option ((Bool×Unit)×Unit)) (K1:ByteArray→Option ((Bool×Unit)×Unit)):Nat→(ByteArray)→(Int)→Option ((Bool×Unit)×Unit) | 0=>(fun x0 x1=>none) | m+1=>(fun x0 x1=>qui D n (qh7 D n K0 K1 m) K0 K1 x0 x1)
def qyy (D:DX)(n:Nat) (v0_0:ByteArray) (v0_1:Bool):Option ((Bool×Unit)×Unit):=some ((v0_1,()),())
def qrf (D:DX)(n:Nat) (v1_0:ByteArray):Option ((Bool×Unit)×Unit):=qi (qhn D (↑(ByteArray.size v1_0):Int) 1 12) fun b↦some ((Prod.fst (Prod.fst b),()),())
def qta (D:DX)(n:Nat):(ByteArray)→(Int)→Option ((Bool×Unit)×Unit):=(fun x0 x1=>qh7 D n (fun v0_0 v0_1=>qyy D n v0_0 v0_1) (fun v1_0=>qrf D n v1_0) n x0 x1)
def qvu (D:DX)(n:Nat) (lp0:ByteArray→Int→Option ((Bool×Unit)×Unit)) (a0:ByteArray):Option ((Bool×Unit)×Unit):=lp0 a0 0
def qwq (D:DX)(n:Nat) (a0:ByteArray):Option ((Bool×Unit)×Unit):=qvu D n (qta D n) a0
def qh6 (x0:ByteArray) (x1:Int):St:=stq 23 [(0,AV.val Ty.str x0),(3,avI x1)] [] 
def ql9 (v0_0:ByteArray) (v0_1:Bool):St:=stq 23 [(0,AV.val Ty.str v0_0),(2,AV.val Ty.bool v0_1)] [] 
def ql1 (v1_0:ByteArray):St:=stq 23 [(0,AV.val Ty.str v1_0)] [] 
theorem qbcf (D:DX)(n:Nat) (m:Nat) (K:Ex→St→Option (Out ctx 166)) (x0:ByteArray) (x1:Int) :
 LQ qc D n 166 [.r,.l,.r,.l] (m+1) (qh6 x0 x1) K=qui D n (fun x0 x1=>LQ qc D n 166 [.r,.l,.r,.l] m (qh6 x0 x1) K) (fun v0_0 v0_1=>K (Ex.ret) (ql9 v0_0 v0_1)) (fun v1_0=>K (Ex.exit 0) (ql1 v1_0)) x0 x1:=by kernel_rfl
theorem q1t (D:DX)(n:Nat) (K:Ex→St→Option (Out ctx 166)):∀ (m:Nat) (x0:ByteArray) (x1:Int),LQ qc D n 166 [.r,.l,.r,.l] m (qh6 x0 x1) K=qh7 D n (fun v0_0 v0_1=>K (Ex.ret) (ql9 v0_0 v0_1)) (fun v1_0=>K (Ex.exit 0) (ql1 v1_0)) m x0 x1
 | 0,x0,x1=>qx ..
 | m+1,x0,x1=>by
  have ih:(fun x0 x1=>LQ qc D n 166 [.r,.l,.r,.l] m (qh6 x0 x1) K)=qh7 D n (fun v0_0 v0_1=>K (Ex.ret) (ql9 v0_0 v0_1)) (fun v1_0=>K (Ex.exit 0) (ql1 v1_0)) m:=by funext x0 x1;exact q1t D n K m x0 x1
  rw[qbcf]
  rw[ih];rfl
theorem qbbe (D:DX)(n:Nat) (v0_0:ByteArray) (v0_1:Bool) :
 (CQ qc D n 166 [] [.r,.l,.r,.l] (qh qc 166)) (Ex.ret) (ql9 v0_0 v0_1)=qyy D n v0_0 v0_1:=by kernel_rfl
theorem qbaz (D:DX)(n:Nat) (v1_0:ByteArray) :
 (CQ qc D n 166 [] [.r,.l,.r,.l] (qh qc 166)) (Ex.exit 0) (ql1 v1_0)=qrf D n v1_0:=by kernel_rfl
theorem qbav (D:DX)(n:Nat) (x0:ByteArray) (x1:Int) :
 LQ qc D n 166 [.r,.l,.r,.l] n (qh6 x0 x1) (CQ qc D n 166 [] [.r,.l,.r,.l] (qh qc 166))=qta D n x0 x1:=by
 rw[q1t]
 simp only[qbbe,qbaz]
 rfl
theorem qbgj (D:DX)(n:Nat) (a0:ByteArray):rfC qc D n 166 (a0,())=qwq D n a0:=by
 have h:rfC qc D n 166 (a0,())=qvu D n (fun x0 x1=>LQ qc D n 166 [.r,.l,.r,.l] n (qh6 x0 x1) (CQ qc D n 166 [] [.r,.l,.r,.l] (qh qc 166))) a0:=by kernel_rfl
 rw[h]
 simp only[qbav]
 rfl

def q2o (D:DX)(n:Nat) (go:ByteArray→Int→tSch→Option ((Int×Unit)×Unit)) (K0:Int→Option ((Int×Unit)×Unit)) (K1:Option ((Int×Unit)×Unit)) (x0:ByteArray) (x1:Int) (x2:tSch):Option ((Int×Unit)×Unit):=br (decide (x1<(↑(List.length (Prod.fst x2)):Int))) (br (decide (0≤x1)&&decide (x1<(↑(List.length (Prod.fst x2)):Int))) (br (List.beq (ByteArray.toList (Prod.fst (List.getD (Prod.fst x2) (Int.toNat x1) (ByteArray.empty,0,false,())))) (ByteArray.toList x0)) (K0 x1) (go x0 (IntKind.wrap IntKind.i64 (x1+1)) x2)) none) K1
def qmi (D:DX)(n:Nat) (K0:Int→Option ((Int×Unit)×Unit)) (K1:Option ((Int×Unit)×Unit)):Nat→(ByteArray)→(Int)→(tSch)→Option ((Int×Unit)×Unit) | 0=>(fun x0 x1 x2=>none) | m+1=>(fun x0 x1 x2=>q2o D n (qmi D n K0 K1 m) K0 K1 x0 x1 x2)
def q63 (D:DX)(n:Nat) (v0_0:Int):Option ((Int×Unit)×Unit):=some ((v0_0,()),())
def q6w (D:DX)(n:Nat):Option ((Int×Unit)×Unit):=some ((-1,()),())
def q0b (D:DX)(n:Nat):(ByteArray)→(Int)→(tSch)→Option ((Int×Unit)×Unit):=(fun x0 x1 x2=>qmi D n (fun v0_0=>q63 D n v0_0) (q6w D n) n x0 x1 x2)
def q6a (D:DX)(n:Nat) (lp0:ByteArray→Int→tSch→Option ((Int×Unit)×Unit)) (a0:tSch) (a1:ByteArray):Option ((Int×Unit)×Unit):=lp0 a1 0 a0
def q45 (D:DX)(n:Nat) (a0:tSch) (a1:ByteArray):Option ((Int×Unit)×Unit):=q6a D n (q0b D n) a0 a1
def qmr (x0:ByteArray) (x1:Int) (x2:tSch):St:=stq 22 [(1,AV.val Ty.str x0),(2,AV.addr 2 []),(5,avI x1)] [(2,Root.mk yS Mk.no x2 true)] 
def qr2 (v0_0:Int):St:=stq 22 [(4,avI v0_0)] [] 
def qsi:St:=stq 22 [] [] 
theorem qbki (D:DX)(n:Nat) (m:Nat) (K:Ex→St→Option (Out ctx 167)) (x0:ByteArray) (x1:Int) (x2:tSch) :
 LQ qc D n 167 [.r,.l,.r,.l] (m+1) (qmr x0 x1 x2) K=q2o D n (fun x0 x1 x2=>LQ qc D n 167 [.r,.l,.r,.l] m (qmr x0 x1 x2) K) (fun v0_0=>K (Ex.ret) (qr2 v0_0)) (K (Ex.exit 0) (qsi)) x0 x1 x2:=by kernel_rfl
theorem q71 (D:DX)(n:Nat) (K:Ex→St→Option (Out ctx 167)):∀ (m:Nat) (x0:ByteArray) (x1:Int) (x2:tSch),LQ qc D n 167 [.r,.l,.r,.l] m (qmr x0 x1 x2) K=qmi D n (fun v0_0=>K (Ex.ret) (qr2 v0_0)) (K (Ex.exit 0) (qsi)) m x0 x1 x2
 | 0,x0,x1,x2=>qx ..
 | m+1,x0,x1,x2=>by
  have ih:(fun x0 x1 x2=>LQ qc D n 167 [.r,.l,.r,.l] m (qmr x0 x1 x2) K)=qmi D n (fun v0_0=>K (Ex.ret) (qr2 v0_0)) (K (Ex.exit 0) (qsi)) m:=by funext x0 x1 x2;exact q71 D n K m x0 x1 x2
  rw[qbki]
  rw[ih];rfl
theorem qbin (D:DX)(n:Nat) (v0_0:Int) :
 (CQ qc D n 167 [] [.r,.l,.r,.l] (qh qc 167)) (Ex.ret) (qr2 v0_0)=q63 D n v0_0:=by kernel_rfl
theorem qbh2 (D:DX)(n:Nat) :
 (CQ qc D n 167 [] [.r,.l,.r,.l] (qh qc 167)) (Ex.exit 0) (qsi)=q6w D n:=by kernel_rfl
theorem qbix (D:DX)(n:Nat) (x0:ByteArray) (x1:Int) (x2:tSch) :
 LQ qc D n 167 [.r,.l,.r,.l] n (qmr x0 x1 x2) (CQ qc D n 167 [] [.r,.l,.r,.l] (qh qc 167))=q0b D n x0 x1 x2:=by
 rw[q71]
 simp only[qbin,qbh2]
 rfl
theorem qbpa (D:DX)(n:Nat) (a0:tSch) (a1:ByteArray):rfC qc D n 167 (a0,(a1,()))=q45 D n a0 a1:=by
 have h:rfC qc D n 167 (a0,(a1,()))=q6a D n (fun x0 x1 x2=>LQ qc D n 167 [.r,.l,.r,.l] n (qmr x0 x1 x2) (CQ qc D n 167 [] [.r,.l,.r,.l] (qh qc 167))) a0 a1:=by kernel_rfl
 rw[h]
 simp only[qbix]
 rfl

def quc (D:DX)(n:Nat) (go:List Int→Int→Int→Int→tSch→Option ((Bool×Unit)×Unit)) (K0:List Int→Int→Bool→Int→tSch→Option ((Bool×Unit)×Unit)) (K1:List Int→Int→Int→tSch→Option ((Bool×Unit)×Unit)) (x1_0:List Int) (x1_1:Int) (x1_2:Int) (x1_3:Int) (x1_4:tSch):Option ((Bool×Unit)×Unit):=br (decide (x1_3<x1_2)) (br (decide (0≤x1_3)&&decide (x1_3<(↑(List.length x1_0):Int))) (br (decide (0≤x1_2)&&decide (x1_2<(↑(List.length x1_0):Int))) (br (decide (List.getD x1_0 (Int.toNat x1_3) 0=List.getD x1_0 (Int.toNat x1_2) 0)) (K0 x1_0 x1_1 false x1_2 x1_4) (go x1_0 x1_1 x1_2 (IntKind.wrap IntKind.i64 (x1_3+1)) x1_4)) none) none) (K1 x1_0 x1_1 x1_2 x1_4)
def qh5 (D:DX)(n:Nat) (K0:List Int→Int→Bool→Int→tSch→Option ((Bool×Unit)×Unit)) (K1:List Int→Int→Int→tSch→Option ((Bool×Unit)×Unit)):Nat→(List Int)→(Int)→(Int)→(Int)→(tSch)→Option ((Bool×Unit)×Unit) | 0=>(fun x1_0 x1_1 x1_2 x1_3 x1_4=>none) | m+1=>(fun x1_0 x1_1 x1_2 x1_3 x1_4=>quc D n (qh5 D n K0 K1 m) K0 K1 x1_0 x1_1 x1_2 x1_3 x1_4)
def qyx (D:DX)(n:Nat) (go:List Int→Int→Int→tSch→Option ((Bool×Unit)×Unit)) (K0:List Int→Int→Bool→Option ((Bool×Unit)×Unit)) (K1:List Int→Int→Option ((Bool×Unit)×Unit)) (v0_0:List Int) (v0_1:Int) (v0_2:Bool) (v0_3:Int) (v0_4:tSch):Option ((Bool×Unit)×Unit):=K0 v0_0 v0_1 v0_2
def qrc (D:DX)(n:Nat) (go:List Int→Int→Int→tSch→Option ((Bool×Unit)×Unit)) (K0:List Int→Int→Bool→Option ((Bool×Unit)×Unit)) (K1:List Int→Int→Option ((Bool×Unit)×Unit)) (v1_0:List Int) (v1_1:Int) (v1_2:Int) (v1_3:tSch):Option ((Bool×Unit)×Unit):=go v1_0 v1_1 (IntKind.wrap IntKind.i64 (v1_2+1)) v1_3
def qtf (D:DX)(n:Nat) (go:List Int→Int→Int→tSch→Option ((Bool×Unit)×Unit)) (K0:List Int→Int→Bool→Option ((Bool×Unit)×Unit)) (K1:List Int→Int→Option ((Bool×Unit)×Unit)):(List Int)→(Int)→(Int)→(Int)→(tSch)→Option ((Bool×Unit)×Unit):=(fun x1_0 x1_1 x1_2 x1_3 x1_4=>qh5 D n (fun v0_0 v0_1 v0_2 v0_3 v0_4=>qyx D n go K0 K1 v0_0 v0_1 v0_2 v0_3 v0_4) (fun v1_0 v1_1 v1_2 v1_3=>qrc D n go K0 K1 v1_0 v1_1 v1_2 v1_3) n x1_0 x1_1 x1_2 x1_3 x1_4)
def qt8 (D:DX)(n:Nat) (go:List Int→Int→Int→tSch→Option ((Bool×Unit)×Unit)) (K0:List Int→Int→Bool→Option ((Bool×Unit)×Unit)) (K1:List Int→Int→Option ((Bool×Unit)×Unit)) (lp1:List Int→Int→Int→Int→tSch→Option ((Bool×Unit)×Unit)) (x0:List Int) (x1:Int) (x2:Int) (x3:tSch):Option ((Bool×Unit)×Unit):=br (decide (x2<(↑(List.length x0):Int))) (br (decide (0≤x2)&&decide (x2<(↑(List.length x0):Int))) (qi (qhn D (List.getD x0 (Int.toNat x2) 0) 0 (IntKind.wrap IntKind.i64 ((↑(List.length (Prod.fst x3)):Int) - 1))) fun b↦br (!Prod.fst (Prod.fst b)) (K0 x0 x1 false) (lp1 x0 x1 x2 0 x3)) none) (K1 x0 x1)
def qe0 (D:DX)(n:Nat) (K0:List Int→Int→Bool→Option ((Bool×Unit)×Unit)) (K1:List Int→Int→Option ((Bool×Unit)×Unit)):Nat→(List Int)→(Int)→(Int)→(tSch)→Option ((Bool×Unit)×Unit) | 0=>(fun x0 x1 x2 x3=>none) | m+1=>(fun x0 x1 x2 x3=>qt8 D n (qe0 D n K0 K1 m) K0 K1 (qtf D n (qe0 D n K0 K1 m) K0 K1) x0 x1 x2 x3)
def qq8 (D:DX)(n:Nat) (v0_0:List Int) (v0_1:Int) (v0_2:Bool):Option ((Bool×Unit)×Unit):=some ((v0_2,()),())
def ql8 (D:DX)(n:Nat) (v1_0:List Int) (v1_1:Int):Option ((Bool×Unit)×Unit):=qi (qhn D (↑(List.length v1_0):Int) 1 v1_1) fun b↦some ((Prod.fst (Prod.fst b),()),())
def qtg (D:DX)(n:Nat):(List Int)→(Int)→(Int)→(tSch)→Option ((Bool×Unit)×Unit):=(fun x0 x1 x2 x3=>qe0 D n (fun v0_0 v0_1 v0_2=>qq8 D n v0_0 v0_1 v0_2) (fun v1_0 v1_1=>ql8 D n v1_0 v1_1) n x0 x1 x2 x3)
def qwj (D:DX)(n:Nat) (lp0:List Int→Int→Int→tSch→Option ((Bool×Unit)×Unit)) (a0:tSch) (a1:List Int) (a2:Int):Option ((Bool×Unit)×Unit):=lp0 a1 a2 0 a0
def qv3 (D:DX)(n:Nat) (a0:tSch) (a1:List Int) (a2:Int):Option ((Bool×Unit)×Unit):=qwj D n (qtg D n) a0 a1 a2
def qd0 (x0:List Int) (x1:Int) (x2:Int) (x3:tSch):St:=stq 43 [(1,AV.val (Ty.sl yI) x0),(2,avI x1),(3,AV.addr 3 []),(7,avI x2)] [(3,Root.mk yS Mk.no x3 true)] 
def qe4 (v0_0:List Int) (v0_1:Int) (v0_2:Bool):St:=stq 43 [(1,AV.val (Ty.sl yI) v0_0),(2,avI v0_1),(6,AV.val Ty.bool v0_2)] [] 
def qe8 (v1_0:List Int) (v1_1:Int):St:=stq 43 [(1,AV.val (Ty.sl yI) v1_0),(2,avI v1_1)] [] 
def qh3 (x1_0:List Int) (x1_1:Int) (x1_2:Int) (x1_3:Int) (x1_4:tSch):St:=stq 43 [(1,AV.val (Ty.sl yI) x1_0),(2,avI x1_1),(3,AV.addr 3 []),(7,avI x1_2),(8,avI x1_3)] [(3,Root.mk yS Mk.no x1_4 true)] 
def ql5 (v0_0:List Int) (v0_1:Int) (v0_2:Bool) (v0_3:Int) (v0_4:tSch):St:=stq 43 [(1,AV.val (Ty.sl yI) v0_0),(2,avI v0_1),(3,AV.addr 3 []),(6,AV.val Ty.bool v0_2),(7,avI v0_3)] [(3,Root.mk yS Mk.no v0_4 true)] 
def ql3 (v1_0:List Int) (v1_1:Int) (v1_2:Int) (v1_3:tSch):St:=stq 43 [(1,AV.val (Ty.sl yI) v1_0),(2,avI v1_1),(3,AV.addr 3 []),(7,avI v1_2)] [(3,Root.mk yS Mk.no v1_3 true)] 
theorem qbbu (D:DX)(n:Nat) (m:Nat) (K:Ex→St→Option (Out ctx 168)) (x1_0:List Int) (x1_1:Int) (x1_2:Int) (x1_3:Int) (x1_4:tSch) :
 LQ qc D n 168 [.r,.l,.r,.l,.l,.r,.l,.l,.r,.r,.l] (m+1) (qh3 x1_0 x1_1 x1_2 x1_3 x1_4) K=quc D n (fun x1_0 x1_1 x1_2 x1_3 x1_4=>LQ qc D n 168 [.r,.l,.r,.l,.l,.r,.l,.l,.r,.r,.l] m (qh3 x1_0 x1_1 x1_2 x1_3 x1_4) K) (fun v0_0 v0_1 v0_2 v0_3 v0_4=>K (Ex.ret) (ql5 v0_0 v0_1 v0_2 v0_3 v0_4)) (fun v1_0 v1_1 v1_2 v1_3=>K (Ex.exit 2) (ql3 v1_0 v1_1 v1_2 v1_3)) x1_0 x1_1 x1_2 x1_3 x1_4:=by kernel_rfl
theorem q1r (D:DX)(n:Nat) (K:Ex→St→Option (Out ctx 168)):∀ (m:Nat) (x1_0:List Int) (x1_1:Int) (x1_2:Int) (x1_3:Int) (x1_4:tSch),LQ qc D n 168 [.r,.l,.r,.l,.l,.r,.l,.l,.r,.r,.l] m (qh3 x1_0 x1_1 x1_2 x1_3 x1_4) K=qh5 D n (fun v0_0 v0_1 v0_2 v0_3 v0_4=>K (Ex.ret) (ql5 v0_0 v0_1 v0_2 v0_3 v0_4)) (fun v1_0 v1_1 v1_2 v1_3=>K (Ex.exit 2) (ql3 v1_0 v1_1 v1_2 v1_3)) m x1_0 x1_1 x1_2 x1_3 x1_4
 | 0,x1_0,x1_1,x1_2,x1_3,x1_4=>qx ..
 | m+1,x1_0,x1_1,x1_2,x1_3,x1_4=>by
  have ih:(fun x1_0 x1_1 x1_2 x1_3 x1_4=>LQ qc D n 168 [.r,.l,.r,.l,.l,.r,.l,.l,.r,.r,.l] m (qh3 x1_0 x1_1 x1_2 x1_3 x1_4) K)=qh5 D n (fun v0_0 v0_1 v0_2 v0_3 v0_4=>K (Ex.ret) (ql5 v0_0 v0_1 v0_2 v0_3 v0_4)) (fun v1_0 v1_1 v1_2 v1_3=>K (Ex.exit 2) (ql3 v1_0 v1_1 v1_2 v1_3)) m:=by funext x1_0 x1_1 x1_2 x1_3 x1_4;exact q1r D n K m x1_0 x1_1 x1_2 x1_3 x1_4
  rw[qbbu]
  rw[ih];rfl
theorem qba5 (D:DX)(n:Nat) (m:Nat) (K:Ex→St→Option (Out ctx 168)) (v0_0:List Int) (v0_1:Int) (v0_2:Bool) (v0_3:Int) (v0_4:tSch) :
 (CQ qc D n 168 [.r,.l,.r,.l,.l] [.r,.l,.l,.r,.r,.l] (LK qc D n 168 [.r,.l,.r,.l] m K)) (Ex.ret) (ql5 v0_0 v0_1 v0_2 v0_3 v0_4)=qyx D n (fun x0 x1 x2 x3=>LQ qc D n 168 [.r,.l,.r,.l] m (qd0 x0 x1 x2 x3) K) (fun v0_0 v0_1 v0_2=>K (Ex.ret) (qe4 v0_0 v0_1 v0_2)) (fun v1_0 v1_1=>K (Ex.exit 0) (qe8 v1_0 v1_1)) v0_0 v0_1 v0_2 v0_3 v0_4:=by kernel_rfl
theorem qbap (D:DX)(n:Nat) (m:Nat) (K:Ex→St→Option (Out ctx 168)) (v1_0:List Int) (v1_1:Int) (v1_2:Int) (v1_3:tSch) :
 (CQ qc D n 168 [.r,.l,.r,.l,.l] [.r,.l,.l,.r,.r,.l] (LK qc D n 168 [.r,.l,.r,.l] m K)) (Ex.exit 2) (ql3 v1_0 v1_1 v1_2 v1_3)=qrc D n (fun x0 x1 x2 x3=>LQ qc D n 168 [.r,.l,.r,.l] m (qd0 x0 x1 x2 x3) K) (fun v0_0 v0_1 v0_2=>K (Ex.ret) (qe4 v0_0 v0_1 v0_2)) (fun v1_0 v1_1=>K (Ex.exit 0) (qe8 v1_0 v1_1)) v1_0 v1_1 v1_2 v1_3:=by kernel_rfl
theorem qbam (D:DX)(n:Nat) (m:Nat) (K:Ex→St→Option (Out ctx 168)) (x1_0:List Int) (x1_1:Int) (x1_2:Int) (x1_3:Int) (x1_4:tSch) :
 LQ qc D n 168 [.r,.l,.r,.l,.l,.r,.l,.l,.r,.r,.l] n (qh3 x1_0 x1_1 x1_2 x1_3 x1_4) (CQ qc D n 168 [.r,.l,.r,.l,.l] [.r,.l,.l,.r,.r,.l] (LK qc D n 168 [.r,.l,.r,.l] m K))=qtf D n (fun x0 x1 x2 x3=>LQ qc D n 168 [.r,.l,.r,.l] m (qd0 x0 x1 x2 x3) K) (fun v0_0 v0_1 v0_2=>K (Ex.ret) (qe4 v0_0 v0_1 v0_2)) (fun v1_0 v1_1=>K (Ex.exit 0) (qe8 v1_0 v1_1)) x1_0 x1_1 x1_2 x1_3 x1_4:=by
 rw[q1r]
 simp only[qba5,qbap]
 rfl
theorem qbch (D:DX)(n:Nat) (m:Nat) (K:Ex→St→Option (Out ctx 168)) (x0:List Int) (x1:Int) (x2:Int) (x3:tSch) :
 LQ qc D n 168 [.r,.l,.r,.l] (m+1) (qd0 x0 x1 x2 x3) K=qt8 D n (fun x0 x1 x2 x3=>LQ qc D n 168 [.r,.l,.r,.l] m (qd0 x0 x1 x2 x3) K) (fun v0_0 v0_1 v0_2=>K (Ex.ret) (qe4 v0_0 v0_1 v0_2)) (fun v1_0 v1_1=>K (Ex.exit 0) (qe8 v1_0 v1_1)) (fun x1_0 x1_1 x1_2 x1_3 x1_4=>LQ qc D n 168 [.r,.l,.r,.l,.l,.r,.l,.l,.r,.r,.l] n (qh3 x1_0 x1_1 x1_2 x1_3 x1_4) (CQ qc D n 168 [.r,.l,.r,.l,.l] [.r,.l,.l,.r,.r,.l] (LK qc D n 168 [.r,.l,.r,.l] m K))) x0 x1 x2 x3:=by kernel_rfl
theorem q1y (D:DX)(n:Nat) (K:Ex→St→Option (Out ctx 168)):∀ (m:Nat) (x0:List Int) (x1:Int) (x2:Int) (x3:tSch),LQ qc D n 168 [.r,.l,.r,.l] m (qd0 x0 x1 x2 x3) K=qe0 D n (fun v0_0 v0_1 v0_2=>K (Ex.ret) (qe4 v0_0 v0_1 v0_2)) (fun v1_0 v1_1=>K (Ex.exit 0) (qe8 v1_0 v1_1)) m x0 x1 x2 x3
 | 0,x0,x1,x2,x3=>qx ..
 | m+1,x0,x1,x2,x3=>by
  have ih:(fun x0 x1 x2 x3=>LQ qc D n 168 [.r,.l,.r,.l] m (qd0 x0 x1 x2 x3) K)=qe0 D n (fun v0_0 v0_1 v0_2=>K (Ex.ret) (qe4 v0_0 v0_1 v0_2)) (fun v1_0 v1_1=>K (Ex.exit 0) (qe8 v1_0 v1_1)) m:=by funext x0 x1 x2 x3;exact q1y D n K m x0 x1 x2 x3
  rw[qbch]
  simp only[qbam]
  rw[ih];rfl
theorem qbba (D:DX)(n:Nat) (v0_0:List Int) (v0_1:Int) (v0_2:Bool) :
 (CQ qc D n 168 [] [.r,.l,.r,.l] (qh qc 168)) (Ex.ret) (qe4 v0_0 v0_1 v0_2)=qq8 D n v0_0 v0_1 v0_2:=by kernel_rfl
theorem qbay (D:DX)(n:Nat) (v1_0:List Int) (v1_1:Int) :
 (CQ qc D n 168 [] [.r,.l,.r,.l] (qh qc 168)) (Ex.exit 0) (qe8 v1_0 v1_1)=ql8 D n v1_0 v1_1:=by kernel_rfl
theorem qbax (D:DX)(n:Nat) (x0:List Int) (x1:Int) (x2:Int) (x3:tSch) :
 LQ qc D n 168 [.r,.l,.r,.l] n (qd0 x0 x1 x2 x3) (CQ qc D n 168 [] [.r,.l,.r,.l] (qh qc 168))=qtg D n x0 x1 x2 x3:=by
 rw[q1y]
 simp only[qbba,qbay]
 rfl
theorem qbgp (D:DX)(n:Nat) (a0:tSch) (a1:List Int) (a2:Int):rfC qc D n 168 (a0,(a1,(a2,())))=qv3 D n a0 a1 a2:=by
 have h:rfC qc D n 168 (a0,(a1,(a2,())))=qwj D n (fun x0 x1 x2 x3=>LQ qc D n 168 [.r,.l,.r,.l] n (qd0 x0 x1 x2 x3) (CQ qc D n 168 [] [.r,.l,.r,.l] (qh qc 168))) a0 a1 a2:=by kernel_rfl
 rw[h]
 simp only[qbax]
 rfl

def qsr (D:DX)(n:Nat) (go:Int→Int→tSch→ByteArray×List Int×Bool×Unit→Option ((Bool×Unit)×Unit)) (K0:Bool→Int→tSch→Option ((Bool×Unit)×Unit)) (K1:Int→tSch→Option ((Bool×Unit)×Unit)) (x1_0:Int) (x1_1:Int) (x1_2:tSch) (x1_3:ByteArray×List Int×Bool×Unit):Option ((Bool×Unit)×Unit):=br (decide (x1_1<x1_0)) (br (decide (0≤x1_1)&&decide (x1_1<(↑(List.length (Prod.fst (Prod.snd (Prod.snd x1_2)))):Int))) (br (List.beq (ByteArray.toList (Prod.fst (List.getD (Prod.fst (Prod.snd (Prod.snd x1_2))) (Int.toNat x1_1) (ByteArray.empty,[],false,())))) (ByteArray.toList (Prod.fst x1_3))) (K0 false x1_0 x1_2) (go x1_0 (IntKind.wrap IntKind.i64 (x1_1+1)) x1_2 x1_3)) none) (K1 x1_0 x1_2)
def qg6 (D:DX)(n:Nat) (K0:Bool→Int→tSch→Option ((Bool×Unit)×Unit)) (K1:Int→tSch→Option ((Bool×Unit)×Unit)):Nat→(Int)→(Int)→(tSch)→tIx→Option ((Bool×Unit)×Unit) | 0=>(fun x1_0 x1_1 x1_2 x1_3=>none) | m+1=>(fun x1_0 x1_1 x1_2 x1_3=>qsr D n (qg6 D n K0 K1 m) K0 K1 x1_0 x1_1 x1_2 x1_3)
def qxa (D:DX)(n:Nat) (go:Int→tSch→Option ((Bool×Unit)×Unit)) (K0:Bool→tSch→Option ((Bool×Unit)×Unit)) (K1:tSch→Option ((Bool×Unit)×Unit)) (v0_0:Bool) (v0_1:Int) (v0_2:tSch):Option ((Bool×Unit)×Unit):=K0 v0_0 v0_2
def qqi (D:DX)(n:Nat) (go:Int→tSch→Option ((Bool×Unit)×Unit)) (K0:Bool→tSch→Option ((Bool×Unit)×Unit)) (K1:tSch→Option ((Bool×Unit)×Unit)) (v1_0:Int) (v1_1:tSch):Option ((Bool×Unit)×Unit):=go (IntKind.wrap IntKind.i64 (v1_0+1)) v1_1
def qq6 (D:DX)(n:Nat) (go:Int→tSch→Option ((Bool×Unit)×Unit)) (K0:Bool→tSch→Option ((Bool×Unit)×Unit)) (K1:tSch→Option ((Bool×Unit)×Unit)):(Int)→(Int)→(tSch)→tIx→Option ((Bool×Unit)×Unit):=(fun x1_0 x1_1 x1_2 x1_3=>qg6 D n (fun v0_0 v0_1 v0_2=>qxa D n go K0 K1 v0_0 v0_1 v0_2) (fun v1_0 v1_1=>qqi D n go K0 K1 v1_0 v1_1) n x1_0 x1_1 x1_2 x1_3)
def qsw (D:DX)(n:Nat) (go:Int→tSch→Option ((Bool×Unit)×Unit)) (K0:Bool→tSch→Option ((Bool×Unit)×Unit)) (K1:tSch→Option ((Bool×Unit)×Unit)) (lp1:Int→Int→tSch→ByteArray×List Int×Bool×Unit→Option ((Bool×Unit)×Unit)) (x0:Int) (x1:tSch):Option ((Bool×Unit)×Unit):=br (decide (x0<(↑(List.length (Prod.fst (Prod.snd (Prod.snd x1)))):Int))) (br (decide (0≤x0)&&decide (x0<(↑(List.length (Prod.fst (Prod.snd (Prod.snd x1)))):Int))) (qi (qp0 D (Prod.fst (List.getD (Prod.fst (Prod.snd (Prod.snd x1))) (Int.toNat x0) (ByteArray.empty,[],false,())))) fun b↦br (!Prod.fst (Prod.fst b)) (K0 false x1) (qi (qps D x1 (Prod.fst (Prod.snd (List.getD (Prod.fst (Prod.snd (Prod.snd x1))) (Int.toNat x0) (ByteArray.empty,[],false,())))) 3) fun b↦br (!Prod.fst (Prod.fst b)) (K0 false x1) (lp1 x0 0 x1 (List.getD (Prod.fst (Prod.snd (Prod.snd x1))) (Int.toNat x0) (ByteArray.empty,[],false,()))))) none) (K1 x1)
def qef (D:DX)(n:Nat) (K0:Bool→tSch→Option ((Bool×Unit)×Unit)) (K1:tSch→Option ((Bool×Unit)×Unit)):Nat→(Int)→(tSch)→Option ((Bool×Unit)×Unit) | 0=>(fun x0 x1=>none) | m+1=>(fun x0 x1=>qsw D n (qef D n K0 K1 m) K0 K1 (qq6 D n (qef D n K0 K1 m) K0 K1) x0 x1)
def qp8 (D:DX)(n:Nat) (v0_0:Bool) (v0_1:tSch):Option ((Bool×Unit)×Unit):=some ((v0_0,()),())
def qpw (D:DX)(n:Nat) (v1_0:tSch):Option ((Bool×Unit)×Unit):=some ((decide ((↑(List.length (Prod.fst (Prod.snd (Prod.snd v1_0)))):Int)≤3),()),())
def qrn (D:DX)(n:Nat):(Int)→(tSch)→Option ((Bool×Unit)×Unit):=(fun x0 x1=>qef D n (fun v0_0 v0_1=>qp8 D n v0_0 v0_1) (fun v1_0=>qpw D n v1_0) n x0 x1)
def que (D:DX)(n:Nat) (lp0:Int→tSch→Option ((Bool×Unit)×Unit)) (a0:tSch):Option ((Bool×Unit)×Unit):=lp0 0 a0
def quv (D:DX)(n:Nat) (a0:tSch):Option ((Bool×Unit)×Unit):=que D n (qrn D n) a0
def qdq (x0:Int) (x1:tSch):St:=stq 47 [(1,AV.addr 1 []),(3,avI x0)] [(1,Root.mk yS Mk.no x1 true)] 
def qer (v0_0:Bool) (v0_1:tSch):St:=stq 47 [(1,AV.addr 1 []),(2,AV.val Ty.bool v0_0)] [(1,Root.mk yS Mk.no v0_1 true)] 
def qem (v1_0:tSch):St:=stq 47 [(1,AV.addr 1 [])] [(1,Root.mk yS Mk.no v1_0 true)] 
def qg5 (x1_0:Int) (x1_1:Int) (x1_2:tSch) (x1_3:ByteArray×List Int×Bool×Unit):St:=stq 47 [(1,AV.addr 1 []),(3,avI x1_0),(4,AV.addr 4 []),(5,avI x1_1)] [(1,Root.mk yS Mk.no x1_2 true),(4,Root.mk yX Mk.no x1_3 true)] 
def qk2 (v0_0:Bool) (v0_1:Int) (v0_2:tSch):St:=stq 47 [(1,AV.addr 1 []),(2,AV.val Ty.bool v0_0),(3,avI v0_1)] [(1,Root.mk yS Mk.no v0_2 true)] 
def qk6 (v1_0:Int) (v1_1:tSch):St:=stq 47 [(1,AV.addr 1 []),(3,avI v1_0)] [(1,Root.mk yS Mk.no v1_1 true)] 
theorem qbau (D:DX)(n:Nat) (m:Nat) (K:Ex→St→Option (Out ctx 169)) (x1_0:Int) (x1_1:Int) (x1_2:tSch) (x1_3:ByteArray×List Int×Bool×Unit) :
 LQ qc D n 169 [.r,.l,.r,.l,.l,.r,.l,.l,.r,.r,.r,.l] (m+1) (qg5 x1_0 x1_1 x1_2 x1_3) K=qsr D n (fun x1_0 x1_1 x1_2 x1_3=>LQ qc D n 169 [.r,.l,.r,.l,.l,.r,.l,.l,.r,.r,.r,.l] m (qg5 x1_0 x1_1 x1_2 x1_3) K) (fun v0_0 v0_1 v0_2=>K (Ex.ret) (qk2 v0_0 v0_1 v0_2)) (fun v1_0 v1_1=>K (Ex.exit 2) (qk6 v1_0 v1_1)) x1_0 x1_1 x1_2 x1_3:=by kernel_rfl
theorem qyu (D:DX)(n:Nat) (K:Ex→St→Option (Out ctx 169)):∀ (m:Nat) (x1_0:Int) (x1_1:Int) (x1_2:tSch) (x1_3:ByteArray×List Int×Bool×Unit),LQ qc D n 169 [.r,.l,.r,.l,.l,.r,.l,.l,.r,.r,.r,.l] m (qg5 x1_0 x1_1 x1_2 x1_3) K=qg6 D n (fun v0_0 v0_1 v0_2=>K (Ex.ret) (qk2 v0_0 v0_1 v0_2)) (fun v1_0 v1_1=>K (Ex.exit 2) (qk6 v1_0 v1_1)) m x1_0 x1_1 x1_2 x1_3
 | 0,x1_0,x1_1,x1_2,x1_3=>qx ..
 | m+1,x1_0,x1_1,x1_2,x1_3=>by
  have ih:(fun x1_0 x1_1 x1_2 x1_3=>LQ qc D n 169 [.r,.l,.r,.l,.l,.r,.l,.l,.r,.r,.r,.l] m (qg5 x1_0 x1_1 x1_2 x1_3) K)=qg6 D n (fun v0_0 v0_1 v0_2=>K (Ex.ret) (qk2 v0_0 v0_1 v0_2)) (fun v1_0 v1_1=>K (Ex.exit 2) (qk6 v1_0 v1_1)) m:=by funext x1_0 x1_1 x1_2 x1_3;exact qyu D n K m x1_0 x1_1 x1_2 x1_3
  rw[qbau]
  rw[ih];rfl
theorem qbaa (D:DX)(n:Nat) (m:Nat) (K:Ex→St→Option (Out ctx 169)) (v0_0:Bool) (v0_1:Int) (v0_2:tSch) :
 (CQ qc D n 169 [.r,.l,.r,.l,.l] [.r,.l,.l,.r,.r,.r,.l] (LK qc D n 169 [.r,.l,.r,.l] m K)) (Ex.ret) (qk2 v0_0 v0_1 v0_2)=qxa D n (fun x0 x1=>LQ qc D n 169 [.r,.l,.r,.l] m (qdq x0 x1) K) (fun v0_0 v0_1=>K (Ex.ret) (qer v0_0 v0_1)) (fun v1_0=>K (Ex.exit 0) (qem v1_0)) v0_0 v0_1 v0_2:=by kernel_rfl
theorem q9u (D:DX)(n:Nat) (m:Nat) (K:Ex→St→Option (Out ctx 169)) (v1_0:Int) (v1_1:tSch) :
 (CQ qc D n 169 [.r,.l,.r,.l,.l] [.r,.l,.l,.r,.r,.r,.l] (LK qc D n 169 [.r,.l,.r,.l] m K)) (Ex.exit 2) (qk6 v1_0 v1_1)=qqi D n (fun x0 x1=>LQ qc D n 169 [.r,.l,.r,.l] m (qdq x0 x1) K) (fun v0_0 v0_1=>K (Ex.ret) (qer v0_0 v0_1)) (fun v1_0=>K (Ex.exit 0) (qem v1_0)) v1_0 v1_1:=by kernel_rfl
theorem q9d (D:DX)(n:Nat) (m:Nat) (K:Ex→St→Option (Out ctx 169)) (x1_0:Int) (x1_1:Int) (x1_2:tSch) (x1_3:ByteArray×List Int×Bool×Unit) :
 LQ qc D n 169 [.r,.l,.r,.l,.l,.r,.l,.l,.r,.r,.r,.l] n (qg5 x1_0 x1_1 x1_2 x1_3) (CQ qc D n 169 [.r,.l,.r,.l,.l] [.r,.l,.l,.r,.r,.r,.l] (LK qc D n 169 [.r,.l,.r,.l] m K))=qq6 D n (fun x0 x1=>LQ qc D n 169 [.r,.l,.r,.l] m (qdq x0 x1) K) (fun v0_0 v0_1=>K (Ex.ret) (qer v0_0 v0_1)) (fun v1_0=>K (Ex.exit 0) (qem v1_0)) x1_0 x1_1 x1_2 x1_3:=by
 rw[qyu]
 simp only[qbaa,q9u]
 rfl
theorem qba3 (D:DX)(n:Nat) (m:Nat) (K:Ex→St→Option (Out ctx 169)) (x0:Int) (x1:tSch) :
 LQ qc D n 169 [.r,.l,.r,.l] (m+1) (qdq x0 x1) K=qsw D n (fun x0 x1=>LQ qc D n 169 [.r,.l,.r,.l] m (qdq x0 x1) K) (fun v0_0 v0_1=>K (Ex.ret) (qer v0_0 v0_1)) (fun v1_0=>K (Ex.exit 0) (qem v1_0)) (fun x1_0 x1_1 x1_2 x1_3=>LQ qc D n 169 [.r,.l,.r,.l,.l,.r,.l,.l,.r,.r,.r,.l] n (qg5 x1_0 x1_1 x1_2 x1_3) (CQ qc D n 169 [.r,.l,.r,.l,.l] [.r,.l,.l,.r,.r,.r,.l] (LK qc D n 169 [.r,.l,.r,.l] m K))) x0 x1:=by kernel_rfl
theorem qy0 (D:DX)(n:Nat) (K:Ex→St→Option (Out ctx 169)):∀ (m:Nat) (x0:Int) (x1:tSch),LQ qc D n 169 [.r,.l,.r,.l] m (qdq x0 x1) K=qef D n (fun v0_0 v0_1=>K (Ex.ret) (qer v0_0 v0_1)) (fun v1_0=>K (Ex.exit 0) (qem v1_0)) m x0 x1
 | 0,x0,x1=>qx ..
 | m+1,x0,x1=>by
  have ih:(fun x0 x1=>LQ qc D n 169 [.r,.l,.r,.l] m (qdq x0 x1) K)=qef D n (fun v0_0 v0_1=>K (Ex.ret) (qer v0_0 v0_1)) (fun v1_0=>K (Ex.exit 0) (qem v1_0)) m:=by funext x0 x1;exact qy0 D n K m x0 x1
  rw[qba3]
  simp only[q9d]
  rw[ih];rfl
theorem q89 (D:DX)(n:Nat) (v0_0:Bool) (v0_1:tSch) :
 (CQ qc D n 169 [] [.r,.l,.r,.l] (qh qc 169)) (Ex.ret) (qer v0_0 v0_1)=qp8 D n v0_0 v0_1:=by kernel_rfl
theorem q9n (D:DX)(n:Nat) (v1_0:tSch) :
 (CQ qc D n 169 [] [.r,.l,.r,.l] (qh qc 169)) (Ex.exit 0) (qem v1_0)=qpw D n v1_0:=by kernel_rfl
theorem q92 (D:DX)(n:Nat) (x0:Int) (x1:tSch) :
 LQ qc D n 169 [.r,.l,.r,.l] n (qdq x0 x1) (CQ qc D n 169 [] [.r,.l,.r,.l] (qh qc 169))=qrn D n x0 x1:=by
 rw[qy0]
 simp only[q89,q9n]
 rfl
theorem qbd1 (D:DX)(n:Nat) (a0:tSch):rfC qc D n 169 (a0,())=quv D n a0:=by
 have h:rfC qc D n 169 (a0,())=que D n (fun x0 x1=>LQ qc D n 169 [.r,.l,.r,.l] n (qdq x0 x1) (CQ qc D n 169 [] [.r,.l,.r,.l] (qh qc 169))) a0:=by kernel_rfl
 rw[h]
 simp only[q92]
 rfl

def qbag (D:DX)(n:Nat) (a0:List Int×Int×Int×Unit):Option ((Int×Unit)×tCur×Unit):=br (decide (Prod.fst (Prod.snd a0)<(↑(List.length (Prod.fst a0)):Int))) (br (decide (0≤Prod.fst (Prod.snd a0))&&decide (Prod.fst (Prod.snd a0)<(↑(List.length (Prod.fst a0)):Int))) (some ((IntKind.wrap IntKind.i64 (↑(BitVec.toNat (BitVec.and (BitVec.ofInt (IntKind.bits IntKind.i64) (IntKind.wrap IntKind.i64 (IntKind.wrap IntKind.i64 (↑(BitVec.toNat (BitVec.and (BitVec.ofInt (IntKind.bits IntKind.i64) (IntKind.wrap IntKind.i64 (↑(BitVec.toNat (BitVec.xor (BitVec.ofInt (IntKind.bits IntKind.i64) (Int.fdiv (IntKind.wrap IntKind.i64 (IntKind.wrap IntKind.i64 (Prod.fst (Prod.snd (Prod.snd a0)) * 6364136223846793005)+1442695040888963407)) (Int.pow 2 (if Int.toNat 33≤IntKind.bits IntKind.i64 then Int.toNat 33 else IntKind.bits IntKind.i64)))) (BitVec.ofInt (IntKind.bits IntKind.i64) (Int.fdiv (IntKind.wrap IntKind.i64 (IntKind.wrap IntKind.i64 (Prod.fst (Prod.snd (Prod.snd a0)) * 6364136223846793005)+1442695040888963407)) (Int.pow 2 (if Int.toNat 45≤IntKind.bits IntKind.i64 then Int.toNat 45 else IntKind.bits IntKind.i64)))))):Int))) (BitVec.ofInt (IntKind.bits IntKind.i64) 255))):Int)+IntKind.wrap IntKind.i64 (List.getD (Prod.fst a0) (Int.toNat (Prod.fst (Prod.snd a0))) 0)))) (BitVec.ofInt (IntKind.bits IntKind.i64) 255))):Int),()),(Prod.fst a0,IntKind.wrap IntKind.i64 (Prod.fst (Prod.snd a0)+1),IntKind.wrap IntKind.i64 (IntKind.wrap IntKind.i64 (Prod.fst (Prod.snd (Prod.snd a0)) * 6364136223846793005)+1442695040888963407),Prod.snd (Prod.snd (Prod.snd a0))),())) none) (some ((IntKind.wrap IntKind.i64 (↑(BitVec.toNat (BitVec.and (BitVec.ofInt (IntKind.bits IntKind.i64) (IntKind.wrap IntKind.i64 (↑(BitVec.toNat (BitVec.xor (BitVec.ofInt (IntKind.bits IntKind.i64) (Int.fdiv (IntKind.wrap IntKind.i64 (IntKind.wrap IntKind.i64 (Prod.fst (Prod.snd (Prod.snd a0)) * 6364136223846793005)+1442695040888963407)) (Int.pow 2 (if Int.toNat 33≤IntKind.bits IntKind.i64 then Int.toNat 33 else IntKind.bits IntKind.i64)))) (BitVec.ofInt (IntKind.bits IntKind.i64) (Int.fdiv (IntKind.wrap IntKind.i64 (IntKind.wrap IntKind.i64 (Prod.fst (Prod.snd (Prod.snd a0)) * 6364136223846793005)+1442695040888963407)) (Int.pow 2 (if Int.toNat 45≤IntKind.bits IntKind.i64 then Int.toNat 45 else IntKind.bits IntKind.i64)))))):Int))) (BitVec.ofInt (IntKind.bits IntKind.i64) 255))):Int),()),(Prod.fst a0,Prod.fst (Prod.snd a0),IntKind.wrap IntKind.i64 (IntKind.wrap IntKind.i64 (Prod.fst (Prod.snd (Prod.snd a0)) * 6364136223846793005)+1442695040888963407),Prod.snd (Prod.snd (Prod.snd a0))),()))
def q2k (D:DX)(n:Nat) (a0:List Int×Int×Int×Unit):Option ((Int×Unit)×tCur×Unit):=qbag D n a0
theorem qbnz (D:DX)(n:Nat) (a0:List Int×Int×Int×Unit):rfC qc D n 170 (a0,())=q2k D n a0:=by kernel_rfl



















def q5e (D:DX)(n:Nat) (a0:List Int×Int×Int×Unit) (a1:Int):Option ((tVal×Unit)×tCur×Unit):=br (decide (a1=1)) (qi (qda D a0 2) fun b↦some (((a1,Prod.fst (Prod.fst b),ByteArray.empty,()),()),Prod.fst (Prod.snd b),())) (br (decide (a1=2)) (qi (qqa D a0 [0,1,-1,7,255,256,-1000000000000,1000000000000]) fun b↦some (((a1,Prod.fst (Prod.fst b),ByteArray.empty,()),()),Prod.fst (Prod.snd b),())) (br (decide (a1=3)) (qi (q2e D a0 (List.set (List.set (List.set (List.set (List.set (List.set (List.set (List.set (List.set (List.replicate 9 ByteArray.empty) 0 (ByteArray.mk #[])) 1 (ByteArray.mk #[UInt8.ofNat 97])) 2 (ByteArray.mk #[UInt8.ofNat 97,UInt8.ofNat 98])) 3 (ByteArray.mk #[UInt8.ofNat 97,UInt8.ofNat 0])) 4 (ByteArray.mk #[UInt8.ofNat 97,UInt8.ofNat 0,UInt8.ofNat 98])) 5 (ByteArray.mk #[UInt8.ofNat 0])) 6 (ByteArray.mk #[UInt8.ofNat 1])) 7 (ByteArray.mk #[UInt8.ofNat 255])) 8 (ByteArray.mk #[UInt8.ofNat 98]))) fun b↦some (((a1,0,Prod.fst (Prod.fst b),()),()),Prod.fst (Prod.snd b),())) (some (((0,0,ByteArray.empty,()),()),a0,()))))
def qvz (D:DX)(n:Nat) (a0:List Int×Int×Int×Unit) (a1:Int):Option ((tVal×Unit)×tCur×Unit):=q5e D n a0 a1
theorem qbhi (D:DX)(n:Nat) (a0:List Int×Int×Int×Unit) (a1:Int):rfC qc D n 190 (a0,(a1,()))=qvz D n a0 a1:=by kernel_rfl

def q7q (D:DX)(n:Nat) (a0:qd):Option ((Bool×Unit)×Unit):=br (decide ((↑(List.length a0):Int)≤4)) (qi (qdt D a0 (Clo.mk 208 [])) fun b↦some ((!Prod.fst (Prod.fst b),()),())) (some ((false,()),()))
def qy4 (D:DX)(n:Nat) (a0:qd):Option ((Bool×Unit)×Unit):=q7q D n a0
theorem qbli (D:DX)(n:Nat) (a0:qd):rfC qc D n 191 (a0,())=qy4 D n a0:=by kernel_rfl

def qeb (D:DX)(n:Nat) (a1:Clo) (go:tIxs→Int→Int→Option ((Int×Unit)×Unit)) (K0:Int→Option ((Int×Unit)×Unit)) (K1:Option ((Int×Unit)×Unit)) (x0:tIxs) (x1:Int) (x2:Int):Option ((Int×Unit)×Unit):=br (decide (x2<x1)) (br (decide (0≤x2)&&decide (x2<(↑(List.length x0):Int))) (qi (qbn ctx D a1 [CapV.val (Ty.pair Ty.str (Ty.pair (Ty.sl (Ty.int IntKind.i64)) (Ty.pair Ty.bool Ty.unit))) (List.getD x0 (Int.toNat x2) (ByteArray.empty,[],false,()))] Ty.bool) fun b↦br b (K0 x2) (go x0 x1 (IntKind.wrap IntKind.i64 (x2+1)))) none) K1
def qbr (D:DX)(n:Nat) (a1:Clo) (K0:Int→Option ((Int×Unit)×Unit)) (K1:Option ((Int×Unit)×Unit)):Nat→(tIxs)→(Int)→(Int)→Option ((Int×Unit)×Unit) | 0=>(fun x0 x1 x2=>none) | m+1=>(fun x0 x1 x2=>qeb D n a1 (qbr D n a1 K0 K1 m) K0 K1 x0 x1 x2)
def qgy (D:DX)(n:Nat) (a1:Clo) (v0_0:Int):Option ((Int×Unit)×Unit):=some ((v0_0,()),())
def qgz (D:DX)(n:Nat) (a1:Clo):Option ((Int×Unit)×Unit):=some ((-1,()),())
def qd4 (D:DX)(n:Nat) (a1:Clo):(tIxs)→(Int)→(Int)→Option ((Int×Unit)×Unit):=(fun x0 x1 x2=>qbr D n a1 (fun v0_0=>qgy D n a1 v0_0) (qgz D n a1) n x0 x1 x2)
def qep (D:DX)(n:Nat) (a1:Clo) (lp0:tIxs→Int→Int→Option ((Int×Unit)×Unit)) (a0:tIxs):Option ((Int×Unit)×Unit):=lp0 a0 (↑(List.length a0):Int) 0
def qeo (D:DX)(n:Nat) (a0:tIxs) (a1:Clo):Option ((Int×Unit)×Unit):=qep D n a1 (qd4 D n a1) a0
def qbq (a1:Clo) (x0:tIxs) (x1:Int) (x2:Int):St:=stq 19 [(0,AV.val (Ty.sl yX) x0),(1,AV.cloV a1),(7,avI x1),(8,avI x2)] [] 
def qcv (a1:Clo) (v0_0:Int):St:=stq 19 [(4,avI v0_0)] [] 
def qcx (a1:Clo):St:=stq 19 [] [] 
theorem qpd (D:DX)(n:Nat) (a1:Clo) (m:Nat) (K:Ex→St→Option (Out ctx 193)) (x0:tIxs) (x1:Int) (x2:Int) :
 LQ qc D n 193 [.r,.l,.r,.l] (m+1) (qbq a1 x0 x1 x2) K=qeb D n a1 (fun x0 x1 x2=>LQ qc D n 193 [.r,.l,.r,.l] m (qbq a1 x0 x1 x2) K) (fun v0_0=>K (Ex.ret) (qcv a1 v0_0)) (K (Ex.exit 0) (qcx a1)) x0 x1 x2:=by kernel_rfl
theorem qhe (D:DX)(n:Nat) (a1:Clo) (K:Ex→St→Option (Out ctx 193)):∀ (m:Nat) (x0:tIxs) (x1:Int) (x2:Int),LQ qc D n 193 [.r,.l,.r,.l] m (qbq a1 x0 x1 x2) K=qbr D n a1 (fun v0_0=>K (Ex.ret) (qcv a1 v0_0)) (K (Ex.exit 0) (qcx a1)) m x0 x1 x2
 | 0,x0,x1,x2=>qx ..
 | m+1,x0,x1,x2=>by
  have ih:(fun x0 x1 x2=>LQ qc D n 193 [.r,.l,.r,.l] m (qbq a1 x0 x1 x2) K)=qbr D n a1 (fun v0_0=>K (Ex.ret) (qcv a1 v0_0)) (K (Ex.exit 0) (qcx a1)) m:=by funext x0 x1 x2;exact qhe D n a1 K m x0 x1 x2
  rw[qpd]
  rw[ih];rfl
theorem qn8 (D:DX)(n:Nat) (a1:Clo) (v0_0:Int) :
 (CQ qc D n 193 [] [.r,.l,.r,.l] (qh qc 193)) (Ex.ret) (qcv a1 v0_0)=qgy D n a1 v0_0:=by kernel_rfl
theorem qof (D:DX)(n:Nat) (a1:Clo) :
 (CQ qc D n 193 [] [.r,.l,.r,.l] (qh qc 193)) (Ex.exit 0) (qcx a1)=qgz D n a1:=by kernel_rfl
theorem qn7 (D:DX)(n:Nat) (a1:Clo) (x0:tIxs) (x1:Int) (x2:Int) :
 LQ qc D n 193 [.r,.l,.r,.l] n (qbq a1 x0 x1 x2) (CQ qc D n 193 [] [.r,.l,.r,.l] (qh qc 193))=qd4 D n a1 x0 x1 x2:=by
 rw[qhe]
 simp only[qn8,qof]
 rfl
theorem qpz (D:DX)(n:Nat) (a0:tIxs) (a1:Clo):rfC qc D n 193 (a0,(a1,()))=qeo D n a0 a1:=by
 have h:rfC qc D n 193 (a0,(a1,()))=qep D n a1 (fun x0 x1 x2=>LQ qc D n 193 [.r,.l,.r,.l] n (qbq a1 x0 x1 x2) (CQ qc D n 193 [] [.r,.l,.r,.l] (qh qc 193))) a0:=by kernel_rfl
 rw[h]
 simp only[qn7]
 rfl

def qfg (D:DX)(n:Nat) (go:qd→Int→Int→Int×Int×ByteArray×Unit→Option ((Int×Unit)×Unit)) (K0:Int→Option ((Int×Unit)×Unit)) (K1:Option ((Int×Unit)×Unit)) (x0:qd) (x1:Int) (x2:Int) (x3:Int×Int×ByteArray×Unit):Option ((Int×Unit)×Unit):=br (decide (x2<x1)) (br (decide (0≤x2)&&decide (x2<(↑(List.length x0):Int))) (br (qnk (Ty.pair (Ty.int IntKind.i64) (Ty.pair (Ty.int IntKind.i64) (Ty.pair Ty.str Ty.unit))) x3 (List.getD x0 (Int.toNat x2) (0,0,ByteArray.empty,()))) (K0 x2) (go x0 x1 (IntKind.wrap IntKind.i64 (x2+1)) x3)) none) K1
def qcc (D:DX)(n:Nat) (K0:Int→Option ((Int×Unit)×Unit)) (K1:Option ((Int×Unit)×Unit)):Nat→(qd)→(Int)→(Int)→tVal→Option ((Int×Unit)×Unit) | 0=>(fun x0 x1 x2 x3=>none) | m+1=>(fun x0 x1 x2 x3=>qfg D n (qcc D n K0 K1 m) K0 K1 x0 x1 x2 x3)
def qim (D:DX)(n:Nat) (v0_0:Int):Option ((Int×Unit)×Unit):=some ((v0_0,()),())
def qig (D:DX)(n:Nat):Option ((Int×Unit)×Unit):=some ((-1,()),())
def qe2 (D:DX)(n:Nat):(qd)→(Int)→(Int)→tVal→Option ((Int×Unit)×Unit):=(fun x0 x1 x2 x3=>qcc D n (fun v0_0=>qim D n v0_0) (qig D n) n x0 x1 x2 x3)
def qfx (D:DX)(n:Nat) (lp0:qd→Int→Int→Int×Int×ByteArray×Unit→Option ((Int×Unit)×Unit)) (a0:qd) (a1:Int×Int×ByteArray×Unit):Option ((Int×Unit)×Unit):=lp0 a0 (↑(List.length a0):Int) 0 a1
def qfu (D:DX)(n:Nat) (a0:qd) (a1:Int×Int×ByteArray×Unit):Option ((Int×Unit)×Unit):=qfx D n (qe2 D n) a0 a1
def qb9 (x0:qd) (x1:Int) (x2:Int) (x3:Int×Int×ByteArray×Unit):St:=stq 19 [(0,AV.val (Ty.sl yV) x0),(3,AV.addr 3 []),(7,avI x1),(8,avI x2)] [(3,Root.mk yV Mk.no x3 true)] 
def qdc (v0_0:Int):St:=stq 19 [(4,avI v0_0)] [] 
def qdd:St:=stq 19 [] [] 
theorem qra (D:DX)(n:Nat) (m:Nat) (K:Ex→St→Option (Out ctx 194)) (x0:qd) (x1:Int) (x2:Int) (x3:Int×Int×ByteArray×Unit) :
 LQ qc D n 194 [.r,.l,.r,.l] (m+1) (qb9 x0 x1 x2 x3) K=qfg D n (fun x0 x1 x2 x3=>LQ qc D n 194 [.r,.l,.r,.l] m (qb9 x0 x1 x2 x3) K) (fun v0_0=>K (Ex.ret) (qdc v0_0)) (K (Ex.exit 0) (qdd)) x0 x1 x2 x3:=by kernel_rfl
theorem qiv (D:DX)(n:Nat) (K:Ex→St→Option (Out ctx 194)):∀ (m:Nat) (x0:qd) (x1:Int) (x2:Int) (x3:Int×Int×ByteArray×Unit),LQ qc D n 194 [.r,.l,.r,.l] m (qb9 x0 x1 x2 x3) K=qcc D n (fun v0_0=>K (Ex.ret) (qdc v0_0)) (K (Ex.exit 0) (qdd)) m x0 x1 x2 x3
 | 0,x0,x1,x2,x3=>qx ..
 | m+1,x0,x1,x2,x3=>by
  have ih:(fun x0 x1 x2 x3=>LQ qc D n 194 [.r,.l,.r,.l] m (qb9 x0 x1 x2 x3) K)=qcc D n (fun v0_0=>K (Ex.ret) (qdc v0_0)) (K (Ex.exit 0) (qdd)) m:=by funext x0 x1 x2 x3;exact qiv D n K m x0 x1 x2 x3
  rw[qra]
  rw[ih];rfl
theorem qqo (D:DX)(n:Nat) (v0_0:Int) :
 (CQ qc D n 194 [] [.r,.l,.r,.l] (qh qc 194)) (Ex.ret) (qdc v0_0)=qim D n v0_0:=by kernel_rfl
theorem qqu (D:DX)(n:Nat) :
 (CQ qc D n 194 [] [.r,.l,.r,.l] (qh qc 194)) (Ex.exit 0) (qdd)=qig D n:=by kernel_rfl
theorem qqs (D:DX)(n:Nat) (x0:qd) (x1:Int) (x2:Int) (x3:Int×Int×ByteArray×Unit) :
 LQ qc D n 194 [.r,.l,.r,.l] n (qb9 x0 x1 x2 x3) (CQ qc D n 194 [] [.r,.l,.r,.l] (qh qc 194))=qe2 D n x0 x1 x2 x3:=by
 rw[qiv]
 simp only[qqo,qqu]
 rfl
theorem qsv (D:DX)(n:Nat) (a0:qd) (a1:Int×Int×ByteArray×Unit):rfC qc D n 194 (a0,(a1,()))=qfu D n a0 a1:=by
 have h:rfC qc D n 194 (a0,(a1,()))=qfx D n (fun x0 x1 x2 x3=>LQ qc D n 194 [.r,.l,.r,.l] n (qb9 x0 x1 x2 x3) (CQ qc D n 194 [] [.r,.l,.r,.l] (qh qc 194))) a0 a1:=by kernel_rfl
 rw[h]
 simp only[qqs]
 rfl

def qfh (D:DX)(n:Nat) (a1:Clo) (go:qhk→Int→Int→Option ((Int×Unit)×Unit)) (K0:Int→Option ((Int×Unit)×Unit)) (K1:Option ((Int×Unit)×Unit)) (x0:qhk) (x1:Int) (x2:Int):Option ((Int×Unit)×Unit):=br (decide (x2<x1)) (br (decide (0≤x2)&&decide (x2<(↑(List.length x0):Int))) (qi (qbn ctx D a1 [CapV.val (Ty.pair Ty.str (Ty.pair (Ty.int IntKind.i64) (Ty.pair Ty.bool Ty.unit))) (List.getD x0 (Int.toNat x2) (ByteArray.empty,0,false,()))] Ty.bool) fun b↦br b (K0 x2) (go x0 x1 (IntKind.wrap IntKind.i64 (x2+1)))) none) K1
def qca (D:DX)(n:Nat) (a1:Clo) (K0:Int→Option ((Int×Unit)×Unit)) (K1:Option ((Int×Unit)×Unit)):Nat→(qhk)→(Int)→(Int)→Option ((Int×Unit)×Unit) | 0=>(fun x0 x1 x2=>none) | m+1=>(fun x0 x1 x2=>qfh D n a1 (qca D n a1 K0 K1 m) K0 K1 x0 x1 x2)
def qin (D:DX)(n:Nat) (a1:Clo) (v0_0:Int):Option ((Int×Unit)×Unit):=some ((v0_0,()),())
def qie (D:DX)(n:Nat) (a1:Clo):Option ((Int×Unit)×Unit):=some ((-1,()),())
def qe1 (D:DX)(n:Nat) (a1:Clo):(qhk)→(Int)→(Int)→Option ((Int×Unit)×Unit):=(fun x0 x1 x2=>qca D n a1 (fun v0_0=>qin D n a1 v0_0) (qie D n a1) n x0 x1 x2)
def qfr (D:DX)(n:Nat) (a1:Clo) (lp0:qhk→Int→Int→Option ((Int×Unit)×Unit)) (a0:qhk):Option ((Int×Unit)×Unit):=lp0 a0 (↑(List.length a0):Int) 0
def qf0 (D:DX)(n:Nat) (a0:qhk) (a1:Clo):Option ((Int×Unit)×Unit):=qfr D n a1 (qe1 D n a1) a0
def qb7 (a1:Clo) (x0:qhk) (x1:Int) (x2:Int):St:=stq 19 [(0,AV.val (Ty.sl yC) x0),(1,AV.cloV a1),(7,avI x1),(8,avI x2)] [] 
def qdf (a1:Clo) (v0_0:Int):St:=stq 19 [(4,avI v0_0)] [] 
def qdh (a1:Clo):St:=stq 19 [] [] 
theorem qrm (D:DX)(n:Nat) (a1:Clo) (m:Nat) (K:Ex→St→Option (Out ctx 195)) (x0:qhk) (x1:Int) (x2:Int) :
 LQ qc D n 195 [.r,.l,.r,.l] (m+1) (qb7 a1 x0 x1 x2) K=qfh D n a1 (fun x0 x1 x2=>LQ qc D n 195 [.r,.l,.r,.l] m (qb7 a1 x0 x1 x2) K) (fun v0_0=>K (Ex.ret) (qdf a1 v0_0)) (K (Ex.exit 0) (qdh a1)) x0 x1 x2:=by kernel_rfl
theorem qis (D:DX)(n:Nat) (a1:Clo) (K:Ex→St→Option (Out ctx 195)):∀ (m:Nat) (x0:qhk) (x1:Int) (x2:Int),LQ qc D n 195 [.r,.l,.r,.l] m (qb7 a1 x0 x1 x2) K=qca D n a1 (fun v0_0=>K (Ex.ret) (qdf a1 v0_0)) (K (Ex.exit 0) (qdh a1)) m x0 x1 x2
 | 0,x0,x1,x2=>qx ..
 | m+1,x0,x1,x2=>by
  have ih:(fun x0 x1 x2=>LQ qc D n 195 [.r,.l,.r,.l] m (qb7 a1 x0 x1 x2) K)=qca D n a1 (fun v0_0=>K (Ex.ret) (qdf a1 v0_0)) (K (Ex.exit 0) (qdh a1)) m:=by funext x0 x1 x2;exact qis D n a1 K m x0 x1 x2
  rw[qrm]
  rw[ih];rfl
theorem qqm (D:DX)(n:Nat) (a1:Clo) (v0_0:Int) :
 (CQ qc D n 195 [] [.r,.l,.r,.l] (qh qc 195)) (Ex.ret) (qdf a1 v0_0)=qin D n a1 v0_0:=by kernel_rfl
theorem qq1 (D:DX)(n:Nat) (a1:Clo) :
 (CQ qc D n 195 [] [.r,.l,.r,.l] (qh qc 195)) (Ex.exit 0) (qdh a1)=qie D n a1:=by kernel_rfl
theorem qqv (D:DX)(n:Nat) (a1:Clo) (x0:qhk) (x1:Int) (x2:Int) :
 LQ qc D n 195 [.r,.l,.r,.l] n (qb7 a1 x0 x1 x2) (CQ qc D n 195 [] [.r,.l,.r,.l] (qh qc 195))=qe1 D n a1 x0 x1 x2:=by
 rw[qis]
 simp only[qqm,qq1]
 rfl
theorem qsy (D:DX)(n:Nat) (a0:qhk) (a1:Clo):rfC qc D n 195 (a0,(a1,()))=qf0 D n a0 a1:=by
 have h:rfC qc D n 195 (a0,(a1,()))=qfr D n a1 (fun x0 x1 x2=>LQ qc D n 195 [.r,.l,.r,.l] n (qb7 a1 x0 x1 x2) (CQ qc D n 195 [] [.r,.l,.r,.l] (qh qc 195))) a0:=by kernel_rfl
 rw[h]
 simp only[qqv]
 rfl

def q8w (D:DX)(n:Nat) (a0:ByteArray×Int×Bool×Unit) (a1:ByteArray):Option ((Bool×Unit)×Unit):=some ((List.beq (ByteArray.toList (Prod.fst a0)) (ByteArray.toList a1),()),())
def qz8 (D:DX)(n:Nat) (a0:ByteArray×Int×Bool×Unit) (a1:ByteArray):Option ((Bool×Unit)×Unit):=q8w D n a0 a1
theorem qbkx (D:DX)(n:Nat) (a0:ByteArray×Int×Bool×Unit) (a1:ByteArray):rfC qc D n 196 (a0,(a1,()))=qz8 D n a0 a1:=by kernel_rfl

def qsl (D:DX)(n:Nat) (a0:List Int) (a1:Int):Option ((Bool×Unit)×Unit):=qi (qn0 D a0 a1) fun b↦some ((decide (Prod.fst (Prod.fst b)≥0),()),())
def qk7 (D:DX)(n:Nat) (a0:List Int) (a1:Int):Option ((Bool×Unit)×Unit):=qsl D n a0 a1
theorem q3z (D:DX)(n:Nat) (a0:List Int) (a1:Int):rfC qc D n 197 (a0,(a1,()))=qk7 D n a0 a1:=by kernel_rfl

def qj5 (D:DX)(n:Nat) (a1:Clo) (go:List Int→Int→Int→Option ((Int×Unit)×Unit)) (K0:Int→Option ((Int×Unit)×Unit)) (K1:Option ((Int×Unit)×Unit)) (x0:List Int) (x1:Int) (x2:Int):Option ((Int×Unit)×Unit):=br (decide (x2<x1)) (br (decide (0≤x2)&&decide (x2<(↑(List.length x0):Int))) (qi (qbn ctx D a1 [CapV.val (Ty.int IntKind.i64) (List.getD x0 (Int.toNat x2) 0)] Ty.bool) fun b↦br b (K0 x2) (go x0 x1 (IntKind.wrap IntKind.i64 (x2+1)))) none) K1
def qdl (D:DX)(n:Nat) (a1:Clo) (K0:Int→Option ((Int×Unit)×Unit)) (K1:Option ((Int×Unit)×Unit)):Nat→(List Int)→(Int)→(Int)→Option ((Int×Unit)×Unit) | 0=>(fun x0 x1 x2=>none) | m+1=>(fun x0 x1 x2=>qj5 D n a1 (qdl D n a1 K0 K1 m) K0 K1 x0 x1 x2)
def qn4 (D:DX)(n:Nat) (a1:Clo) (v0_0:Int):Option ((Int×Unit)×Unit):=some ((v0_0,()),())
def qn5 (D:DX)(n:Nat) (a1:Clo):Option ((Int×Unit)×Unit):=some ((-1,()),())
def qi5 (D:DX)(n:Nat) (a1:Clo):(List Int)→(Int)→(Int)→Option ((Int×Unit)×Unit):=(fun x0 x1 x2=>qdl D n a1 (fun v0_0=>qn4 D n a1 v0_0) (qn5 D n a1) n x0 x1 x2)
def qkv (D:DX)(n:Nat) (a1:Clo) (lp0:List Int→Int→Int→Option ((Int×Unit)×Unit)) (a0:List Int):Option ((Int×Unit)×Unit):=lp0 a0 (↑(List.length a0):Int) 0
def qkq (D:DX)(n:Nat) (a0:List Int) (a1:Clo):Option ((Int×Unit)×Unit):=qkv D n a1 (qi5 D n a1) a0
def qdk (a1:Clo) (x0:List Int) (x1:Int) (x2:Int):St:=stq 19 [(0,AV.val (Ty.sl yI) x0),(1,AV.cloV a1),(7,avI x1),(8,avI x2)] [] 
def qfl (a1:Clo) (v0_0:Int):St:=stq 19 [(4,avI v0_0)] [] 
def qfk (a1:Clo):St:=stq 19 [] [] 
theorem q0g (D:DX)(n:Nat) (a1:Clo) (m:Nat) (K:Ex→St→Option (Out ctx 198)) (x0:List Int) (x1:Int) (x2:Int) :
 LQ qc D n 198 [.r,.l,.r,.l] (m+1) (qdk a1 x0 x1 x2) K=qj5 D n a1 (fun x0 x1 x2=>LQ qc D n 198 [.r,.l,.r,.l] m (qdk a1 x0 x1 x2) K) (fun v0_0=>K (Ex.ret) (qfl a1 v0_0)) (K (Ex.exit 0) (qfk a1)) x0 x1 x2:=by kernel_rfl
theorem qo5 (D:DX)(n:Nat) (a1:Clo) (K:Ex→St→Option (Out ctx 198)):∀ (m:Nat) (x0:List Int) (x1:Int) (x2:Int),LQ qc D n 198 [.r,.l,.r,.l] m (qdk a1 x0 x1 x2) K=qdl D n a1 (fun v0_0=>K (Ex.ret) (qfl a1 v0_0)) (K (Ex.exit 0) (qfk a1)) m x0 x1 x2
 | 0,x0,x1,x2=>qx ..
 | m+1,x0,x1,x2=>by
  have ih:(fun x0 x1 x2=>LQ qc D n 198 [.r,.l,.r,.l] m (qdk a1 x0 x1 x2) K)=qdl D n a1 (fun v0_0=>K (Ex.ret) (qfl a1 v0_0)) (K (Ex.exit 0) (qfk a1)) m:=by funext x0 x1 x2;exact qo5 D n a1 K m x0 x1 x2
  rw[q0g]
  rw[ih];rfl
theorem qyr (D:DX)(n:Nat) (a1:Clo) (v0_0:Int) :
 (CQ qc D n 198 [] [.r,.l,.r,.l] (qh qc 198)) (Ex.ret) (qfl a1 v0_0)=qn4 D n a1 v0_0:=by kernel_rfl
theorem qyn (D:DX)(n:Nat) (a1:Clo) :
 (CQ qc D n 198 [] [.r,.l,.r,.l] (qh qc 198)) (Ex.exit 0) (qfk a1)=qn5 D n a1:=by kernel_rfl
theorem qyo (D:DX)(n:Nat) (a1:Clo) (x0:List Int) (x1:Int) (x2:Int) :
 LQ qc D n 198 [.r,.l,.r,.l] n (qdk a1 x0 x1 x2) (CQ qc D n 198 [] [.r,.l,.r,.l] (qh qc 198))=qi5 D n a1 x0 x1 x2:=by
 rw[qo5]
 simp only[qyr,qyn]
 rfl
theorem q2i (D:DX)(n:Nat) (a0:List Int) (a1:Clo):rfC qc D n 198 (a0,(a1,()))=qkq D n a0 a1:=by
 have h:rfC qc D n 198 (a0,(a1,()))=qkv D n a1 (fun x0 x1 x2=>LQ qc D n 198 [.r,.l,.r,.l] n (qdk a1 x0 x1 x2) (CQ qc D n 198 [] [.r,.l,.r,.l] (qh qc 198))) a0:=by kernel_rfl
 rw[h]
 simp only[qyo]
 rfl







def qgj (D:DX)(n:Nat) (a1:Clo) (a0:qd):Option ((Bool×Unit)×Unit):=qi (qec D a0 a1) fun b↦some ((decide (Prod.fst (Prod.fst b)≥0),()),())
def qdv (D:DX)(n:Nat) (a0:qd) (a1:Clo):Option ((Bool×Unit)×Unit):=qgj D n a1 a0
theorem qnx (D:DX)(n:Nat) (a0:qd) (a1:Clo):rfC qc D n 207 (a0,(a1,()))=qdv D n a0 a1:=by kernel_rfl

def q5n (D:DX)(n:Nat) (a0:Int×Int×ByteArray×Unit):Option ((Bool×Unit)×Unit):=qi (qtt D a0) fun b↦some ((!Prod.fst (Prod.fst b),()),())
def qvs (D:DX)(n:Nat) (a0:Int×Int×ByteArray×Unit):Option ((Bool×Unit)×Unit):=q5n D n a0
theorem qbgu (D:DX)(n:Nat) (a0:Int×Int×ByteArray×Unit):rfC qc D n 208 (a0,())=qvs D n a0:=by kernel_rfl

def qma (D:DX)(n:Nat) (go:List Int→Int→Int→Int→Option ((Int×Unit)×Unit)) (K0:Int→Option ((Int×Unit)×Unit)) (K1:Option ((Int×Unit)×Unit)) (x0:List Int) (x1:Int) (x2:Int) (x3:Int):Option ((Int×Unit)×Unit):=br (decide (x3<x2)) (br (decide (0≤x3)&&decide (x3<(↑(List.length x0):Int))) (br (decide (x1=List.getD x0 (Int.toNat x3) 0)) (K0 x3) (go x0 x1 x2 (IntKind.wrap IntKind.i64 (x3+1)))) none) K1
def qei (D:DX)(n:Nat) (K0:Int→Option ((Int×Unit)×Unit)) (K1:Option ((Int×Unit)×Unit)):Nat→(List Int)→(Int)→(Int)→(Int)→Option ((Int×Unit)×Unit) | 0=>(fun x0 x1 x2 x3=>none) | m+1=>(fun x0 x1 x2 x3=>qma D n (qei D n K0 K1 m) K0 K1 x0 x1 x2 x3)
def qrv (D:DX)(n:Nat) (v0_0:Int):Option ((Int×Unit)×Unit):=some ((v0_0,()),())
def qr6 (D:DX)(n:Nat):Option ((Int×Unit)×Unit):=some ((-1,()),())
def qlr (D:DX)(n:Nat):(List Int)→(Int)→(Int)→(Int)→Option ((Int×Unit)×Unit):=(fun x0 x1 x2 x3=>qei D n (fun v0_0=>qrv D n v0_0) (qr6 D n) n x0 x1 x2 x3)
def qnz (D:DX)(n:Nat) (lp0:List Int→Int→Int→Int→Option ((Int×Unit)×Unit)) (a0:List Int) (a1:Int):Option ((Int×Unit)×Unit):=lp0 a0 a1 (↑(List.length a0):Int) 0
def qnr (D:DX)(n:Nat) (a0:List Int) (a1:Int):Option ((Int×Unit)×Unit):=qnz D n (qlr D n) a0 a1
def qeh (x0:List Int) (x1:Int) (x2:Int) (x3:Int):St:=stq 19 [(0,AV.val (Ty.sl yI) x0),(1,avI x1),(7,avI x2),(8,avI x3)] [] 
def qhl (v0_0:Int):St:=stq 19 [(4,avI v0_0)] [] 
def qhj:St:=stq 19 [] [] 
theorem q5x (D:DX)(n:Nat) (m:Nat) (K:Ex→St→Option (Out ctx 210)) (x0:List Int) (x1:Int) (x2:Int) (x3:Int) :
 LQ qc D n 210 [.r,.l,.r,.l] (m+1) (qeh x0 x1 x2 x3) K=qma D n (fun x0 x1 x2 x3=>LQ qc D n 210 [.r,.l,.r,.l] m (qeh x0 x1 x2 x3) K) (fun v0_0=>K (Ex.ret) (qhl v0_0)) (K (Ex.exit 0) (qhj)) x0 x1 x2 x3:=by kernel_rfl
theorem qs8 (D:DX)(n:Nat) (K:Ex→St→Option (Out ctx 210)):∀ (m:Nat) (x0:List Int) (x1:Int) (x2:Int) (x3:Int),LQ qc D n 210 [.r,.l,.r,.l] m (qeh x0 x1 x2 x3) K=qei D n (fun v0_0=>K (Ex.ret) (qhl v0_0)) (K (Ex.exit 0) (qhj)) m x0 x1 x2 x3
 | 0,x0,x1,x2,x3=>qx ..
 | m+1,x0,x1,x2,x3=>by
  have ih:(fun x0 x1 x2 x3=>LQ qc D n 210 [.r,.l,.r,.l] m (qeh x0 x1 x2 x3) K)=qei D n (fun v0_0=>K (Ex.ret) (qhl v0_0)) (K (Ex.exit 0) (qhj)) m:=by funext x0 x1 x2 x3;exact qs8 D n K m x0 x1 x2 x3
  rw[q5x]
  rw[ih];rfl
theorem q3v (D:DX)(n:Nat) (v0_0:Int) :
 (CQ qc D n 210 [] [.r,.l,.r,.l] (qh qc 210)) (Ex.ret) (qhl v0_0)=qrv D n v0_0:=by kernel_rfl
theorem q3u (D:DX)(n:Nat) :
 (CQ qc D n 210 [] [.r,.l,.r,.l] (qh qc 210)) (Ex.exit 0) (qhj)=qr6 D n:=by kernel_rfl
theorem q3w (D:DX)(n:Nat) (x0:List Int) (x1:Int) (x2:Int) (x3:Int) :
 LQ qc D n 210 [.r,.l,.r,.l] n (qeh x0 x1 x2 x3) (CQ qc D n 210 [] [.r,.l,.r,.l] (qh qc 210))=qlr D n x0 x1 x2 x3:=by
 rw[qs8]
 simp only[q3v,q3u]
 rfl
theorem q7p (D:DX)(n:Nat) (a0:List Int) (a1:Int):rfC qc D n 210 (a0,(a1,()))=qnr D n a0 a1:=by
 have h:rfC qc D n 210 (a0,(a1,()))=qnz D n (fun x0 x1 x2 x3=>LQ qc D n 210 [.r,.l,.r,.l] n (qeh x0 x1 x2 x3) (CQ qc D n 210 [] [.r,.l,.r,.l] (qh qc 210))) a0 a1:=by kernel_rfl
 rw[h]
 simp only[q3w]
 rfl

def qd3 (D:DX)(n:Nat) (a1:Clo) (go:qd→Int→Int→Option ((Int×Unit)×Unit)) (K0:Int→Option ((Int×Unit)×Unit)) (K1:Option ((Int×Unit)×Unit)) (x0:qd) (x1:Int) (x2:Int):Option ((Int×Unit)×Unit):=br (decide (x2<x1)) (br (decide (0≤x2)&&decide (x2<(↑(List.length x0):Int))) (qi (qbn ctx D a1 [CapV.val (Ty.pair (Ty.int IntKind.i64) (Ty.pair (Ty.int IntKind.i64) (Ty.pair Ty.str Ty.unit))) (List.getD x0 (Int.toNat x2) (0,0,ByteArray.empty,()))] Ty.bool) fun b↦br b (K0 x2) (go x0 x1 (IntKind.wrap IntKind.i64 (x2+1)))) none) K1
def qbm (D:DX)(n:Nat) (a1:Clo) (K0:Int→Option ((Int×Unit)×Unit)) (K1:Option ((Int×Unit)×Unit)):Nat→(qd)→(Int)→(Int)→Option ((Int×Unit)×Unit) | 0=>(fun x0 x1 x2=>none) | m+1=>(fun x0 x1 x2=>qd3 D n a1 (qbm D n a1 K0 K1 m) K0 K1 x0 x1 x2)
def qgn (D:DX)(n:Nat) (a1:Clo) (v0_0:Int):Option ((Int×Unit)×Unit):=some ((v0_0,()),())
def qgk (D:DX)(n:Nat) (a1:Clo):Option ((Int×Unit)×Unit):=some ((-1,()),())
def qdx (D:DX)(n:Nat) (a1:Clo):(qd)→(Int)→(Int)→Option ((Int×Unit)×Unit):=(fun x0 x1 x2=>qbm D n a1 (fun v0_0=>qgn D n a1 v0_0) (qgk D n a1) n x0 x1 x2)
def qd8 (D:DX)(n:Nat) (a1:Clo) (lp0:qd→Int→Int→Option ((Int×Unit)×Unit)) (a0:qd):Option ((Int×Unit)×Unit):=lp0 a0 (↑(List.length a0):Int) 0
def qd9 (D:DX)(n:Nat) (a0:qd) (a1:Clo):Option ((Int×Unit)×Unit):=qd8 D n a1 (qdx D n a1) a0
def qbl (a1:Clo) (x0:qd) (x1:Int) (x2:Int):St:=stq 19 [(0,AV.val (Ty.sl yV) x0),(1,AV.cloV a1),(7,avI x1),(8,avI x2)] [] 
def qcs (a1:Clo) (v0_0:Int):St:=stq 19 [(4,avI v0_0)] [] 
def qct (a1:Clo):St:=stq 19 [] [] 
theorem qod (D:DX)(n:Nat) (a1:Clo) (m:Nat) (K:Ex→St→Option (Out ctx 213)) (x0:qd) (x1:Int) (x2:Int) :
 LQ qc D n 213 [.r,.l,.r,.l] (m+1) (qbl a1 x0 x1 x2) K=qd3 D n a1 (fun x0 x1 x2=>LQ qc D n 213 [.r,.l,.r,.l] m (qbl a1 x0 x1 x2) K) (fun v0_0=>K (Ex.ret) (qcs a1 v0_0)) (K (Ex.exit 0) (qct a1)) x0 x1 x2:=by kernel_rfl
theorem qgt (D:DX)(n:Nat) (a1:Clo) (K:Ex→St→Option (Out ctx 213)):∀ (m:Nat) (x0:qd) (x1:Int) (x2:Int),LQ qc D n 213 [.r,.l,.r,.l] m (qbl a1 x0 x1 x2) K=qbm D n a1 (fun v0_0=>K (Ex.ret) (qcs a1 v0_0)) (K (Ex.exit 0) (qct a1)) m x0 x1 x2
 | 0,x0,x1,x2=>qx ..
 | m+1,x0,x1,x2=>by
  have ih:(fun x0 x1 x2=>LQ qc D n 213 [.r,.l,.r,.l] m (qbl a1 x0 x1 x2) K)=qbm D n a1 (fun v0_0=>K (Ex.ret) (qcs a1 v0_0)) (K (Ex.exit 0) (qct a1)) m:=by funext x0 x1 x2;exact qgt D n a1 K m x0 x1 x2
  rw[qod]
  rw[ih];rfl
theorem qnu (D:DX)(n:Nat) (a1:Clo) (v0_0:Int) :
 (CQ qc D n 213 [] [.r,.l,.r,.l] (qh qc 213)) (Ex.ret) (qcs a1 v0_0)=qgn D n a1 v0_0:=by kernel_rfl
theorem qns (D:DX)(n:Nat) (a1:Clo) :
 (CQ qc D n 213 [] [.r,.l,.r,.l] (qh qc 213)) (Ex.exit 0) (qct a1)=qgk D n a1:=by kernel_rfl
theorem qnq (D:DX)(n:Nat) (a1:Clo) (x0:qd) (x1:Int) (x2:Int) :
 LQ qc D n 213 [.r,.l,.r,.l] n (qbl a1 x0 x1 x2) (CQ qc D n 213 [] [.r,.l,.r,.l] (qh qc 213))=qdx D n a1 x0 x1 x2:=by
 rw[qgt]
 simp only[qnu,qns]
 rfl
theorem qpi (D:DX)(n:Nat) (a0:qd) (a1:Clo):rfC qc D n 213 (a0,(a1,()))=qd9 D n a0 a1:=by
 have h:rfC qc D n 213 (a0,(a1,()))=qd8 D n a1 (fun x0 x1 x2=>LQ qc D n 213 [.r,.l,.r,.l] n (qbl a1 x0 x1 x2) (CQ qc D n 213 [] [.r,.l,.r,.l] (qh qc 213))) a0:=by kernel_rfl
 rw[h]
 simp only[qnq]
 rfl
end
end Go.G

namespace Go.G
set_option maxRecDepth 100000
open Go Go.V Go.Proofs
def XOk (X:Ext):Prop:=∀ k:Nat,(Nat.beq k 88||Nat.beq k 93||Nat.beq k 95||Nat.beq k 192)=false→X.is k=false
theorem q8t {X:Ext} (hX:XOk X) (n:Nat) (a0:List Int):qw6 (DD X (n+1)) a0=qoz (DD X n) n a0:=(qn X Tryz.func3 (by kernel_rfl) (hX 3 rfl) n _).trans (q7u ..)
theorem qbtb {X:Ext} (hX:XOk X) (n:Nat) (a0:List Int):q9b (DD X (n+1)) a0=qbji (DD X n) n a0:=(qn X Tryz.func11 (by kernel_rfl) (hX 11 rfl) n _).trans (qbso ..)
theorem qbar {X:Ext} (hX:XOk X) (n:Nat) (a0:List Int):qrl (DD X (n+1)) a0=qrp (DD X n) n a0:=(qn X Tryz.func12 (by kernel_rfl) (hX 12 rfl) n _).trans (qba1 ..)
theorem qbnq {X:Ext} (hX:XOk X) (n:Nat) (a0:(tSch)×qe×Unit) (a1:Int):q2v (DD X (n+1)) a0 a1=q22 (DD X n) n a0 a1:=(qn X Tryz.func13 (by kernel_rfl) (hX 13 rfl) n _).trans (qbnl ..)
theorem qbkv {X:Ext} (hX:XOk X) (n:Nat):q0k (DD X (n+1))=q8b (DD X n) n:=(qn X Tryz.func14 (by kernel_rfl) (hX 14 rfl) n _).trans (qblv ..)
theorem qbkg {X:Ext} (hX:XOk X) (n:Nat) (a0:List Int×List (ByteArray×List Int×Unit)×Unit) (a1:ByteArray):qo0 (DD X (n+1)) a0 a1=q01 (DD X n) n a0 a1:=(qn X Tryz.func15 (by kernel_rfl) (hX 15 rfl) n _).trans (qbk6 ..)
theorem qbln {X:Ext} (hX:XOk X) (n:Nat) (a0:List Int×List (ByteArray×List Int×Unit)×Unit):qz3 (DD X (n+1)) a0=q03 (DD X n) n a0:=(qn X Tryz.func16 (by kernel_rfl) (hX 16 rfl) n _).trans (qblg ..)
theorem qbpp {X:Ext} (hX:XOk X) (n:Nat) (a0:(tSch)×qe×Unit):qx6 (DD X (n+1)) a0=q4r (DD X n) n a0:=(qn X Tryz.func17 (by kernel_rfl) (hX 17 rfl) n _).trans (qbof ..)
theorem qbnv {X:Ext} (hX:XOk X) (n:Nat) (a0:List tWay) (a1:ByteArray×ByteArray×Unit):q2x (DD X (n+1)) a0 a1=q14 (DD X n) n a0 a1:=(qn X Tryz.func21 (by kernel_rfl) (hX 21 rfl) n _).trans (qbn1 ..)
theorem qbih {X:Ext} (hX:XOk X) (n:Nat) (a0:tSch) (a1:qd):qmv (DD X (n+1)) a0 a1=qyj (DD X n) n a0 a1:=(qn X Tryz.func23 (by kernel_rfl) (hX 23 rfl) n _).trans (qbif ..)
theorem qbni {X:Ext} (hX:XOk X) (n:Nat) (a0:(tSch)×qe×Unit) (a1:qd):q2n (DD X (n+1)) a0 a1=q19 (DD X n) n a0 a1:=(qn X Tryz.func28 (by kernel_rfl) (hX 28 rfl) n _).trans (qbnj ..)
theorem qbnp {X:Ext} (hX:XOk X) (n:Nat) (a0:(tSch)×qe×Unit) (a1:qd):q2m (DD X (n+1)) a0 a1=q23 (DD X n) n a0 a1:=(qn X Tryz.func30 (by kernel_rfl) (hX 30 rfl) n _).trans (qbnm ..)
theorem qbkf {X:Ext} (hX:XOk X) (n:Nat) (a0:(tSch)×qe×Unit) (a1:qd):qzq (DD X (n+1)) a0 a1=q0t (DD X n) n a0 a1:=(qn X Tryz.func32 (by kernel_rfl) (hX 32 rfl) n _).trans (qbkz ..)
theorem qbny {X:Ext} (hX:XOk X) (n:Nat) (a0:tSch):q2w (DD X (n+1)) a0=q2g (DD X n) n a0:=(qn X Tryz.func38 (by kernel_rfl) (hX 38 rfl) n _).trans (qbn9 ..)
theorem qbqe {X:Ext} (hX:XOk X) (n:Nat) (a0:(tSch)×qe×Unit):qo2 (DD X (n+1)) a0=q5a (DD X n) n a0:=(qn X Tryz.func41 (by kernel_rfl) (hX 41 rfl) n _).trans (qbou ..)
theorem qbk1 {X:Ext} (hX:XOk X) (n:Nat) (a0:ByteArray×ByteArray×Unit) (a1:ByteArray×ByteArray×Unit):qy7 (DD X (n+1)) a0 a1=q8a (DD X n) n a0 a1:=(qn X Tryz.func50 (by kernel_rfl) (hX 50 rfl) n _).trans (qblb ..)
theorem qbqi {X:Ext} (hX:XOk X) (n:Nat) (a0:List Int):q4z (DD X (n+1)) a0=q51 (DD X n) n a0:=(qn X Tryz.func65 (by kernel_rfl) (hX 65 rfl) n _).trans (qbpu ..)
theorem qbao {X:Ext} (hX:XOk X) (n:Nat) (a0:List Int×Int×Int×Unit):qri (DD X (n+1)) a0=qq9 (DD X n) n a0:=(qn X Tryz.func66 (by kernel_rfl) (hX 66 rfl) n _).trans (qbat ..)
theorem qbem {X:Ext} (hX:XOk X) (n:Nat) (a0:List Int×Int×Int×Unit) (a1:(tSch)×qe×Unit):quw (DD X (n+1)) a0 a1=qum (DD X n) n a0 a1:=(qn X Tryz.func67 (by kernel_rfl) (hX 67 rfl) n _).trans (qbdr ..)
theorem qbfe {X:Ext} (hX:XOk X) (n:Nat) (a0:Int) (a1:Int) (a2:Int):qev (DD X (n+1)) a0 a1 a2=q1b (DD X n) n a0 a1 a2:=(qn X Tryz.func68 (by kernel_rfl) (hX 68 rfl) n _).trans (qbrd ..)
theorem qbs7 {X:Ext} (hX:XOk X) (n:Nat) (a0:tSch) (a1:Int) (a2:qd):q9s (DD X (n+1)) a0 a1 a2=q91 (DD X n) n a0 a1 a2:=(qn X Tryz.func69 (by kernel_rfl) (hX 69 rfl) n _).trans (qbsw ..)
theorem qbju {X:Ext} (hX:XOk X) (n:Nat) (a0:List Int×List (ByteArray×List Int×Unit)×Unit):qyl (DD X (n+1)) a0=qxr (DD X n) n a0:=(qn X Tryz.func70 (by kernel_rfl) (hX 70 rfl) n _).trans (qbja ..)
theorem qbns {X:Ext} (hX:XOk X) (n:Nat) (a0:List Int×List (ByteArray×List Int×Unit)×Unit):qvg (DD X (n+1)) a0=q15 (DD X n) n a0:=(qn X Tryz.func71 (by kernel_rfl) (hX 71 rfl) n _).trans (qbnd ..)
theorem qbqg {X:Ext} (hX:XOk X) (n:Nat) (a0:List Int×List (ByteArray×List Int×Unit)×Unit) (a1:ByteArray):q5c (DD X (n+1)) a0 a1=q50 (DD X n) n a0 a1:=(qn X Tryz.func72 (by kernel_rfl) (hX 72 rfl) n _).trans (qbot ..)
theorem qbej {X:Ext} (hX:XOk X) (n:Nat) (a0:List Int×List (ByteArray×List Int×Unit)×Unit) (a1:Int) (a2:Int):qkz (DD X (n+1)) a0 a1 a2=qub (DD X n) n a0 a1 a2:=(qn X Tryz.func73 (by kernel_rfl) (hX 73 rfl) n _).trans (qber ..)
theorem qbiv {X:Ext} (hX:XOk X) (n:Nat) (a0:ByteArray):qhu (DD X (n+1)) a0=qym (DD X n) n a0:=(qn X Tryz.func74 (by kernel_rfl) (hX 74 rfl) n _).trans (qbh8 ..)
theorem qbfx {X:Ext} (hX:XOk X) (n:Nat) (a0:List Int×List (ByteArray×List Int×Unit)×Unit) (a1:Int) (a2:Int) (a3:Int):qwn (DD X (n+1)) a0 a1 a2 a3=qv9 (DD X n) n a0 a1 a2 a3:=(qn X Tryz.func75 (by kernel_rfl) (hX 75 rfl) n _).trans (qbfv ..)
theorem qbnn {X:Ext} (hX:XOk X) (n:Nat) (a0:List Int×List (ByteArray×List Int×Unit)×Unit) (a1:Int):qu8 (DD X (n+1)) a0 a1=q2j (DD X n) n a0 a1:=(qn X Tryz.func76 (by kernel_rfl) (hX 76 rfl) n _).trans (qbno ..)
theorem qbp5 {X:Ext} (hX:XOk X) (n:Nat) (a0:tSch) (a1:qd):q58 (DD X (n+1)) a0 a1=q5s (DD X n) n a0 a1:=(qn X Tryz.func77 (by kernel_rfl) (hX 77 rfl) n _).trans (qbqm ..)
theorem qbgd {X:Ext} (hX:XOk X) (n:Nat) (a0:qd) (a1:qd):qvo (DD X (n+1)) a0 a1=qv7 (DD X n) n a0 a1:=(qn X Tryz.func78 (by kernel_rfl) (hX 78 rfl) n _).trans (qbgt ..)
theorem qn9 {X:Ext} (hX:XOk X) (n:Nat) (a0:qe) (a1:Clo):qcd (DD X (n+1)) a0 a1=qdy (DD X n) n a0 a1:=(qn X Tryz.func79 (by kernel_rfl) (hX 79 rfl) n _).trans (qoa ..)
theorem qbko {X:Ext} (hX:XOk X) (n:Nat) (a0:qd) (a1:(tSch)×qe×Unit) (a2:qd):q8x (DD X (n+1)) a0 a1 a2=qze (DD X n) n a0 a1 a2:=(qn X Tryz.func80 (by kernel_rfl) (hX 80 rfl) n _).trans (qbkk ..)
theorem qbp2 {X:Ext} (hX:XOk X) (n:Nat) (a0:tSch) (a1:qd) (a2:qd):q4j (DD X (n+1)) a0 a1 a2=q5z (DD X n) n a0 a1 a2:=(qn X Tryz.func81 (by kernel_rfl) (hX 81 rfl) n _).trans (qbo9 ..)
theorem qbhs {X:Ext} (hX:XOk X) (n:Nat) (a0:tSch):qsj (DD X (n+1)) a0=qyi (DD X n) n a0:=(qn X Tryz.func82 (by kernel_rfl) (hX 82 rfl) n _).trans (qbia ..)
theorem qpq {X:Ext} (hX:XOk X) (n:Nat) (a0:qe) (a1:Clo):qeq (DD X (n+1)) a0 a1=qek (DD X n) n a0 a1:=(qn X Tryz.func86 (by kernel_rfl) (hX 86 rfl) n _).trans (qp6 ..)
theorem qwr {X:Ext} (hX:XOk X) (n:Nat) (a0:List tWay):qg2 (DD X (n+1)) a0=qg0 (DD X n) n a0:=(qn X Tryz.func90 (by kernel_rfl) (hX 90 rfl) n _).trans (qv0 ..)
theorem qs3 {X:Ext} (hX:XOk X) (n:Nat) (a0:List tWay) (a1:Clo):qfq (DD X (n+1)) a0 a1=qfw (DD X n) n a0 a1:=(qn X Tryz.func91 (by kernel_rfl) (hX 91 rfl) n _).trans (qtc ..)
theorem qbj6 {X:Ext} (hX:XOk X) (n:Nat) (a0:ByteArray×ByteArray×Unit) (a1:ByteArray×ByteArray×Unit):q6o (DD X (n+1)) a0 a1=qx3 (DD X n) n a0 a1:=(qn X Tryz.func92 (by kernel_rfl) (hX 92 rfl) n _).trans (qbhu ..)
theorem qbj9 {X:Ext} (hX:XOk X) (n:Nat) (a0:qd) (a1:List Int):qlp (DD X (n+1)) a0 a1=qzj (DD X n) n a0 a1:=(qn X Tryz.func94 (by kernel_rfl) (hX 94 rfl) n _).trans (qbkh ..)
theorem qbl4 {X:Ext} (hX:XOk X) (n:Nat) (a0:(tSch)×qe×Unit):qph (DD X (n+1)) a0=qy8 (DD X n) n a0:=(qn X Tryz.func99 (by kernel_rfl) (hX 99 rfl) n _).trans (qbl2 ..)
theorem qboq {X:Ext} (hX:XOk X) (n:Nat) (a0:tSch) (a1:qd):qsz (DD X (n+1)) a0 a1=q5d (DD X n) n a0 a1:=(qn X Tryz.func100 (by kernel_rfl) (hX 100 rfl) n _).trans (qbpj ..)
theorem qbo0 {X:Ext} (hX:XOk X) (n:Nat) (a0:(tSch)×qe×Unit) (a1:qd):qto (DD X (n+1)) a0 a1=q4g (DD X n) n a0 a1:=(qn X Tryz.func101 (by kernel_rfl) (hX 101 rfl) n _).trans (qbqo ..)
theorem qbje {X:Ext} (hX:XOk X) (n:Nat) (a0:tSch) (a1:qd):qd7 (DD X (n+1)) a0 a1=qx7 (DD X n) n a0 a1:=(qn X Tryz.func102 (by kernel_rfl) (hX 102 rfl) n _).trans (qbis ..)
theorem qbha {X:Ext} (hX:XOk X) (n:Nat) (a0:(tSch)×qe×Unit) (a1:qd) (a2:Int):qqf (DD X (n+1)) a0 a1 a2=qvr (DD X n) n a0 a1 a2:=(qn X Tryz.func103 (by kernel_rfl) (hX 103 rfl) n _).trans (qbgy ..)
theorem qbfy {X:Ext} (hX:XOk X) (n:Nat) (a0:qd) (a1:qd):qqb (DD X (n+1)) a0 a1=qvl (DD X n) n a0 a1:=(qn X Tryz.func104 (by kernel_rfl) (hX 104 rfl) n _).trans (qbgm ..)
theorem qblh {X:Ext} (hX:XOk X) (n:Nat) (a0:qe):qi1 (DD X (n+1)) a0=q0j (DD X n) n a0:=(qn X Tryz.func105 (by kernel_rfl) (hX 105 rfl) n _).trans (qblr ..)
theorem qbkt {X:Ext} (hX:XOk X) (n:Nat) (a0:tSch):qt0 (DD X (n+1)) a0=qz7 (DD X n) n a0:=(qn X Tryz.func108 (by kernel_rfl) (hX 108 rfl) n _).trans (qblm ..)
theorem qbil {X:Ext} (hX:XOk X) (n:Nat) (a0:tSch) (a1:qd) (a2:qd):qsb (DD X (n+1)) a0 a1 a2=qw8 (DD X n) n a0 a1 a2:=(qn X Tryz.func111 (by kernel_rfl) (hX 111 rfl) n _).trans (qbjk ..)
theorem qbh1 {X:Ext} (hX:XOk X) (n:Nat) (a0:tSch):qr7 (DD X (n+1)) a0=qx1 (DD X n) n a0:=(qn X Tryz.func112 (by kernel_rfl) (hX 112 rfl) n _).trans (qbi8 ..)
theorem qbn3 {X:Ext} (hX:XOk X) (n:Nat) (a0:List Int×Int×Int×Unit) (a1:Int):qkx (DD X (n+1)) a0 a1=q2s (DD X n) n a0 a1:=(qn X Tryz.func114 (by kernel_rfl) (hX 114 rfl) n _).trans (qbn5 ..)
theorem qblw {X:Ext} (hX:XOk X) (n:Nat) (a0:List Int×Int×Int×Unit) (a1:Int):qda (DD X (n+1)) a0 a1=q0z (DD X n) n a0 a1:=(qn X Tryz.func115 (by kernel_rfl) (hX 115 rfl) n _).trans (qblp ..)
theorem qbqw {X:Ext} (hX:XOk X) (n:Nat) (a0:Int) (a1:Int) (a2:Int):qhn (DD X (n+1)) a0 a1 a2=q7o (DD X n) n a0 a1 a2:=(qn X Tryz.func117 (by kernel_rfl) (hX 117 rfl) n _).trans (qbri ..)
theorem qbk4 {X:Ext} (hX:XOk X) (n:Nat) (a0:qd) (a1:List Int):qo7 (DD X (n+1)) a0 a1=q00 (DD X n) n a0 a1:=(qn X Tryz.func119 (by kernel_rfl) (hX 119 rfl) n _).trans (qblt ..)
theorem qba2 {X:Ext} (hX:XOk X) (n:Nat) (a0:List Int×Int×Int×Unit):qrq (DD X (n+1)) a0=qrj (DD X n) n a0:=(qn X Tryz.func135 (by kernel_rfl) (hX 135 rfl) n _).trans (qbaq ..)
theorem qbed {X:Ext} (hX:XOk X) (n:Nat) (a0:List Int×Int×Int×Unit) (a1:tSch):qom (DD X (n+1)) a0 a1=qua (DD X n) n a0 a1:=(qn X Tryz.func136 (by kernel_rfl) (hX 136 rfl) n _).trans (qbdx ..)
theorem qbee {X:Ext} (hX:XOk X) (n:Nat) (a0:qd):qok (DD X (n+1)) a0=quk (DD X n) n a0:=(qn X Tryz.func137 (by kernel_rfl) (hX 137 rfl) n _).trans (qbd4 ..)
theorem q68 {X:Ext} (hX:XOk X) (n:Nat) (a0:List Int):qjn (DD X (n+1)) a0=qnv (DD X n) n a0:=(qn X Tryz.func138 (by kernel_rfl) (hX 138 rfl) n _).trans (q7i ..)
theorem qbk8 {X:Ext} (hX:XOk X) (n:Nat) (a0:Int×Int×ByteArray×Unit):qtt (DD X (n+1)) a0=q0a (DD X n) n a0:=(qn X Tryz.func139 (by kernel_rfl) (hX 139 rfl) n _).trans (qbks ..)
theorem qg1 {X:Ext} (hX:XOk X) (n:Nat) (a0:qd) (a1:qd) (a2:Clo):qce (DD X (n+1)) a0 a1 a2=qcg (DD X n) n a0 a1 a2:=(qn X Tryz.func140 (by kernel_rfl) (hX 140 rfl) n _).trans (qg3 ..)
theorem qbkj {X:Ext} (hX:XOk X) (n:Nat) (a0:Int×Int×ByteArray×Unit) (a1:Int×Int×ByteArray×Unit):q06 (DD X (n+1)) a0 a1=qzb (DD X n) n a0 a1:=(qn X Tryz.func141 (by kernel_rfl) (hX 141 rfl) n _).trans (qbl0 ..)
theorem qoe {X:Ext} (hX:XOk X) (n:Nat) (a0:tIxs) (a1:Clo):qc0 (DD X (n+1)) a0 a1=qdz (DD X n) n a0 a1:=(qn X Tryz.func142 (by kernel_rfl) (hX 142 rfl) n _).trans (qob ..)
theorem qblu {X:Ext} (hX:XOk X) (n:Nat) (a0:ByteArray×List Int×Bool×Unit) (a1:qd) (a2:qd):q8f (DD X (n+1)) a0 a1 a2=qz1 (DD X n) n a0 a1 a2:=(qn X Tryz.func143 (by kernel_rfl) (hX 143 rfl) n _).trans (qblq ..)
theorem qqt {X:Ext} (hX:XOk X) (n:Nat) (a0:qd) (a1:Int×Int×ByteArray×Unit):qeu (DD X (n+1)) a0 a1=qet (DD X n) n a0 a1:=(qn X Tryz.func144 (by kernel_rfl) (hX 144 rfl) n _).trans (qqz ..)
theorem qtd {X:Ext} (hX:XOk X) (n:Nat) (a0:qd) (a1:qd):qfz (DD X (n+1)) a0 a1=qfv (DD X n) n a0 a1:=(qn X Tryz.func145 (by kernel_rfl) (hX 145 rfl) n _).trans (qti ..)
theorem qbg1 {X:Ext} (hX:XOk X) (n:Nat) (a0:ByteArray):qp1 (DD X (n+1)) a0=qwl (DD X n) n a0:=(qn X Tryz.func146 (by kernel_rfl) (hX 146 rfl) n _).trans (qbgs ..)
theorem qbqn {X:Ext} (hX:XOk X) (n:Nat) (a0:tSch) (a1:ByteArray):q5l (DD X (n+1)) a0 a1=q41 (DD X n) n a0 a1:=(qn X Tryz.func147 (by kernel_rfl) (hX 147 rfl) n _).trans (qbpf ..)
theorem qbj2 {X:Ext} (hX:XOk X) (n:Nat) (a0:tSch) (a1:List Int) (a2:Int):qse (DD X (n+1)) a0 a1 a2=qxv (DD X n) n a0 a1 a2:=(qn X Tryz.func148 (by kernel_rfl) (hX 148 rfl) n _).trans (qbic ..)
theorem qbd5 {X:Ext} (hX:XOk X) (n:Nat) (a0:ByteArray×List Int×Bool×Unit) (a1:ByteArray×List Int×Bool×Unit):q3l (DD X (n+1)) a0 a1=qux (DD X n) n a0 a1:=(qn X Tryz.func149 (by kernel_rfl) (hX 149 rfl) n _).trans (qbep ..)
theorem qyp {X:Ext} (hX:XOk X) (n:Nat) (a0:List Int) (a1:Clo):qip (DD X (n+1)) a0 a1=qio (DD X n) n a0 a1:=(qn X Tryz.func150 (by kernel_rfl) (hX 150 rfl) n _).trans (qyq ..)
theorem qbek {X:Ext} (hX:XOk X) (n:Nat) (a0:Int) (a1:tSch):q3k (DD X (n+1)) a0 a1=quj (DD X n) n a0 a1:=(qn X Tryz.func151 (by kernel_rfl) (hX 151 rfl) n _).trans (qbeo ..)
theorem qbkc {X:Ext} (hX:XOk X) (n:Nat) (a0:Int×Int×ByteArray×Unit):q0s (DD X (n+1)) a0=qzf (DD X n) n a0:=(qn X Tryz.func158 (by kernel_rfl) (hX 158 rfl) n _).trans (qbl1 ..)
theorem qbj7 {X:Ext} (hX:XOk X) (n:Nat) (a0:qd) (a1:qd):qtq (DD X (n+1)) a0 a1=q0d (DD X n) n a0 a1:=(qn X Tryz.func159 (by kernel_rfl) (hX 159 rfl) n _).trans (qblz ..)
theorem qbfz {X:Ext} (hX:XOk X) (n:Nat) (a0:Int×Int×ByteArray×Unit) (a1:Int×Int×ByteArray×Unit):qp4 (DD X (n+1)) a0 a1=qvq (DD X n) n a0 a1:=(qn X Tryz.func160 (by kernel_rfl) (hX 160 rfl) n _).trans (qbgi ..)
theorem qbgx {X:Ext} (hX:XOk X) (n:Nat) (a0:Int×Int×ByteArray×Unit) (a1:Int×Int×ByteArray×Unit):qwh (DD X (n+1)) a0 a1=qwf (DD X n) n a0 a1:=(qn X Tryz.func161 (by kernel_rfl) (hX 161 rfl) n _).trans (qbf0 ..)
theorem qbnu {X:Ext} (hX:XOk X) (n:Nat) (a0:List Int×Int×Int×Unit) (a1:List ByteArray):q2e (DD X (n+1)) a0 a1=q2f (DD X n) n a0 a1:=(qn X Tryz.func162 (by kernel_rfl) (hX 162 rfl) n _).trans (qbn2 ..)
theorem qbhf {X:Ext} (hX:XOk X) (n:Nat) (a0:List Int×Int×Int×Unit) (a1:List Int):qqa (DD X (n+1)) a0 a1=qwi (DD X n) n a0 a1:=(qn X Tryz.func163 (by kernel_rfl) (hX 163 rfl) n _).trans (qbhe ..)
theorem qblj {X:Ext} (hX:XOk X) (n:Nat) (a0:qd):q0h (DD X (n+1)) a0=q02 (DD X n) n a0:=(qn X Tryz.func165 (by kernel_rfl) (hX 165 rfl) n _).trans (qbke ..)
theorem qbgr {X:Ext} (hX:XOk X) (n:Nat) (a0:ByteArray):qp0 (DD X (n+1)) a0=qwq (DD X n) n a0:=(qn X Tryz.func166 (by kernel_rfl) (hX 166 rfl) n _).trans (qbgj ..)
theorem qbp8 {X:Ext} (hX:XOk X) (n:Nat) (a0:tSch) (a1:ByteArray):q56 (DD X (n+1)) a0 a1=q45 (DD X n) n a0 a1:=(qn X Tryz.func167 (by kernel_rfl) (hX 167 rfl) n _).trans (qbpa ..)
theorem qbge {X:Ext} (hX:XOk X) (n:Nat) (a0:tSch) (a1:List Int) (a2:Int):qps (DD X (n+1)) a0 a1 a2=qv3 (DD X n) n a0 a1 a2:=(qn X Tryz.func168 (by kernel_rfl) (hX 168 rfl) n _).trans (qbgp ..)
theorem qbd3 {X:Ext} (hX:XOk X) (n:Nat) (a0:tSch):qul (DD X (n+1)) a0=quv (DD X n) n a0:=(qn X Tryz.func169 (by kernel_rfl) (hX 169 rfl) n _).trans (qbd1 ..)
theorem qbn7 {X:Ext} (hX:XOk X) (n:Nat) (a0:List Int×Int×Int×Unit):qkw (DD X (n+1)) a0=q2k (DD X n) n a0:=(qn X Tryz.func170 (by kernel_rfl) (hX 170 rfl) n _).trans (qbnz ..)
theorem qbga {X:Ext} (hX:XOk X) (n:Nat) (a0:List Int×Int×Int×Unit) (a1:Int):qpt (DD X (n+1)) a0 a1=qvz (DD X n) n a0 a1:=(qn X Tryz.func190 (by kernel_rfl) (hX 190 rfl) n _).trans (qbhi ..)
theorem qbly {X:Ext} (hX:XOk X) (n:Nat) (a0:qd):qzh (DD X (n+1)) a0=qy4 (DD X n) n a0:=(qn X Tryz.func191 (by kernel_rfl) (hX 191 rfl) n _).trans (qbli ..)
theorem qpm {X:Ext} (hX:XOk X) (n:Nat) (a0:tIxs) (a1:Clo):qes (DD X (n+1)) a0 a1=qeo (DD X n) n a0 a1:=(qn X Tryz.func193 (by kernel_rfl) (hX 193 rfl) n _).trans (qpz ..)
theorem qs5 {X:Ext} (hX:XOk X) (n:Nat) (a0:qd) (a1:Int×Int×ByteArray×Unit):qft (DD X (n+1)) a0 a1=qfu (DD X n) n a0 a1:=(qn X Tryz.func194 (by kernel_rfl) (hX 194 rfl) n _).trans (qsv ..)
theorem qsq {X:Ext} (hX:XOk X) (n:Nat) (a0:qhk) (a1:Clo):qfp (DD X (n+1)) a0 a1=qf0 (DD X n) n a0 a1:=(qn X Tryz.func195 (by kernel_rfl) (hX 195 rfl) n _).trans (qsy ..)
theorem qblf {X:Ext} (hX:XOk X) (n:Nat) (a0:ByteArray×Int×Bool×Unit) (a1:ByteArray):q8s (DD X (n+1)) a0 a1=qz8 (DD X n) n a0 a1:=(qn X Tryz.func196 (by kernel_rfl) (hX 196 rfl) n _).trans (qbkx ..)
theorem q31 {X:Ext} (hX:XOk X) (n:Nat) (a0:List Int) (a1:Int):qk1 (DD X (n+1)) a0 a1=qk7 (DD X n) n a0 a1:=(qn X Tryz.func197 (by kernel_rfl) (hX 197 rfl) n _).trans (q3z ..)
theorem q2a {X:Ext} (hX:XOk X) (n:Nat) (a0:List Int) (a1:Clo):qku (DD X (n+1)) a0 a1=qkq (DD X n) n a0 a1:=(qn X Tryz.func198 (by kernel_rfl) (hX 198 rfl) n _).trans (q2i ..)
theorem qn2 {X:Ext} (hX:XOk X) (n:Nat) (a0:qd) (a1:Clo):qdt (DD X (n+1)) a0 a1=qdv (DD X n) n a0 a1:=(qn X Tryz.func207 (by kernel_rfl) (hX 207 rfl) n _).trans (qnx ..)
theorem qbgf {X:Ext} (hX:XOk X) (n:Nat) (a0:Int×Int×ByteArray×Unit):q46 (DD X (n+1)) a0=qvs (DD X n) n a0:=(qn X Tryz.func208 (by kernel_rfl) (hX 208 rfl) n _).trans (qbgu ..)
theorem q7h {X:Ext} (hX:XOk X) (n:Nat) (a0:List Int) (a1:Int):qn0 (DD X (n+1)) a0 a1=qnr (DD X n) n a0 a1:=(qn X Tryz.func210 (by kernel_rfl) (hX 210 rfl) n _).trans (q7p ..)
theorem qpj {X:Ext} (hX:XOk X) (n:Nat) (a0:qd) (a1:Clo):qec (DD X (n+1)) a0 a1=qd9 (DD X n) n a0 a1:=(qn X Tryz.func213 (by kernel_rfl) (hX 213 rfl) n _).trans (qpi ..)
end Go.G


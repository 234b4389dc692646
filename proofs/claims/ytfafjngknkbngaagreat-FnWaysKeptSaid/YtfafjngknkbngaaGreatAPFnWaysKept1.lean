import Derived.Test.YtfafjngknkbngaaGreatAPFnWaysKept0
set_option linter.unusedVariables false
set_option linter.unusedSimpArgs false
set_option linter.unusedSectionVars false
namespace Go.G
set_option maxRecDepth 100000
set_option maxHeartbeats 0
open Go Go.V
noncomputable section
def qmy (D:DX)(n:Nat) (go:Int→qd→Int→Int→List Int→Int×Int×ByteArray×Unit→Option ((List Int×Unit)×Unit)) (K0:qd→Int→Int→List Int→Option ((List Int×Unit)×Unit)) (x1_0:Int) (x1_1:qd) (x1_2:Int) (x1_3:Int) (x1_4:List Int) (x1_5:Int×Int×ByteArray×Unit):Option ((List Int×Unit)×Unit):=br (decide (x1_0≥0)) (br (decide (IntKind.wrap IntKind.i64 (8 * x1_0)<0)) none (br (decide (List.length x1_4+1≤qbh)) (go (IntKind.wrap IntKind.i64 (x1_0 - 1)) x1_1 x1_2 x1_3 (x1_4++[IntKind.wrap IntKind.u8 (Int.fdiv (IntKind.wrap IntKind.i64 (Prod.fst (Prod.snd x1_5)+4611686018427387904)) (Int.pow 2 (if Int.toNat (IntKind.wrap IntKind.i64 (8 * x1_0))≤IntKind.bits IntKind.i64 then Int.toNat (IntKind.wrap IntKind.i64 (8 * x1_0)) else IntKind.bits IntKind.i64)))]) x1_5) none)) (K0 x1_1 x1_2 x1_3 x1_4)
def qf7 (D:DX)(n:Nat) (K0:qd→Int→Int→List Int→Option ((List Int×Unit)×Unit)):Nat→(Int)→(qd)→(Int)→(Int)→(List Int)→tVal→Option ((List Int×Unit)×Unit) | 0=>(fun x1_0 x1_1 x1_2 x1_3 x1_4 x1_5=>none) | m+1=>(fun x1_0 x1_1 x1_2 x1_3 x1_4 x1_5=>qmy D n (qf7 D n K0 m) K0 x1_0 x1_1 x1_2 x1_3 x1_4 x1_5)
def qpf (D:DX)(n:Nat) (go:qd→Int→Int→List Int→Option ((List Int×Unit)×Unit)) (K0:List Int→Option ((List Int×Unit)×Unit)) (v0_0:qd) (v0_1:Int) (v0_2:Int) (v0_3:List Int):Option ((List Int×Unit)×Unit):=go v0_0 v0_1 (IntKind.wrap IntKind.i64 (v0_2+1)) v0_3
def qq3 (D:DX)(n:Nat) (go:qd→Int→Int→List Int→Option ((List Int×Unit)×Unit)) (K0:List Int→Option ((List Int×Unit)×Unit)):(Int)→(qd)→(Int)→(Int)→(List Int)→tVal→Option ((List Int×Unit)×Unit):=(fun x1_0 x1_1 x1_2 x1_3 x1_4 x1_5=>qf7 D n (fun v0_0 v0_1 v0_2 v0_3=>qpf D n go K0 v0_0 v0_1 v0_2 v0_3) n x1_0 x1_1 x1_2 x1_3 x1_4 x1_5)
def qsk (D:DX)(n:Nat) (go:qd→Int→Int→Int→Int→List Int→Int×Int×ByteArray×Unit→Option ((List Int×Unit)×Unit)) (K0:qd→Int→Int→List Int→Option ((List Int×Unit)×Unit)) (x2_0:qd) (x2_1:Int) (x2_2:Int) (x2_3:Int) (x2_4:Int) (x2_5:List Int) (x2_6:Int×Int×ByteArray×Unit):Option ((List Int×Unit)×Unit):=br (decide (x2_4<x2_3)) (br (decide (0≤x2_4)&&decide (x2_4<(↑(ByteArray.size (Prod.fst (Prod.snd (Prod.snd x2_6)))):Int))) (br (decide (List.length x2_5+1≤qbh)) (br (decide (0≤x2_4)&&decide (x2_4<(↑(ByteArray.size (Prod.fst (Prod.snd (Prod.snd x2_6)))):Int))) (br (decide ((↑(UInt8.toNat (Array.getD (ByteArray.data (Prod.fst (Prod.snd (Prod.snd x2_6)))) (Int.toNat x2_4) (UInt8.ofNat 0))):Int)=0)) (br (decide (List.length (x2_5++[(↑(UInt8.toNat (Array.getD (ByteArray.data (Prod.fst (Prod.snd (Prod.snd x2_6)))) (Int.toNat x2_4) (UInt8.ofNat 0))):Int)])+1≤qbh)) (go x2_0 x2_1 x2_2 x2_3 (IntKind.wrap IntKind.i64 (x2_4+1)) (x2_5++[(↑(UInt8.toNat (Array.getD (ByteArray.data (Prod.fst (Prod.snd (Prod.snd x2_6)))) (Int.toNat x2_4) (UInt8.ofNat 0))):Int)]++[255]) x2_6) none) (go x2_0 x2_1 x2_2 x2_3 (IntKind.wrap IntKind.i64 (x2_4+1)) (x2_5++[(↑(UInt8.toNat (Array.getD (ByteArray.data (Prod.fst (Prod.snd (Prod.snd x2_6)))) (Int.toNat x2_4) (UInt8.ofNat 0))):Int)]) x2_6)) none) none) none) (K0 x2_0 x2_1 x2_2 x2_5)
def qhx (D:DX)(n:Nat) (K0:qd→Int→Int→List Int→Option ((List Int×Unit)×Unit)):Nat→(qd)→(Int)→(Int)→(Int)→(Int)→(List Int)→tVal→Option ((List Int×Unit)×Unit) | 0=>(fun x2_0 x2_1 x2_2 x2_3 x2_4 x2_5 x2_6=>none) | m+1=>(fun x2_0 x2_1 x2_2 x2_3 x2_4 x2_5 x2_6=>qsk D n (qhx D n K0 m) K0 x2_0 x2_1 x2_2 x2_3 x2_4 x2_5 x2_6)
def qo9 (D:DX)(n:Nat) (go:qd→Int→Int→List Int→Option ((List Int×Unit)×Unit)) (K0:List Int→Option ((List Int×Unit)×Unit)) (v0_0:qd) (v0_1:Int) (v0_2:Int) (v0_3:List Int):Option ((List Int×Unit)×Unit):=br (decide (List.length v0_3+2≤qbh)) (go v0_0 v0_1 (IntKind.wrap IntKind.i64 (v0_2+1)) (v0_3++[0,1])) none
def qqu (D:DX)(n:Nat) (go:qd→Int→Int→List Int→Option ((List Int×Unit)×Unit)) (K0:List Int→Option ((List Int×Unit)×Unit)):(qd)→(Int)→(Int)→(Int)→(Int)→(List Int)→tVal→Option ((List Int×Unit)×Unit):=(fun x2_0 x2_1 x2_2 x2_3 x2_4 x2_5 x2_6=>qhx D n (fun v0_0 v0_1 v0_2 v0_3=>qo9 D n go K0 v0_0 v0_1 v0_2 v0_3) n x2_0 x2_1 x2_2 x2_3 x2_4 x2_5 x2_6)
def qsc (D:DX)(n:Nat) (go:qd→Int→Int→List Int→Option ((List Int×Unit)×Unit)) (K0:List Int→Option ((List Int×Unit)×Unit)) (lp1:Int→qd→Int→Int→List Int→Int×Int×ByteArray×Unit→Option ((List Int×Unit)×Unit)) (lp2:qd→Int→Int→Int→Int→List Int→Int×Int×ByteArray×Unit→Option ((List Int×Unit)×Unit)) (x0:qd) (x1:Int) (x2:Int) (x3:List Int):Option ((List Int×Unit)×Unit):=br (decide (x2<x1)) (br (decide (0≤x2)&&decide (x2<(↑(List.length x0):Int))) (br (decide (List.length x3+1≤qbh)) (br (decide (Prod.fst (List.getD x0 (Int.toNat x2) (0,0,ByteArray.empty,()))=1)) (br (decide (List.length (x3++[IntKind.wrap IntKind.u8 (IntKind.wrap IntKind.i64 (Prod.fst (List.getD x0 (Int.toNat x2) (0,0,ByteArray.empty,()))+1))])+1≤qbh)) (go x0 x1 (IntKind.wrap IntKind.i64 (x2+1)) (x3++[IntKind.wrap IntKind.u8 (IntKind.wrap IntKind.i64 (Prod.fst (List.getD x0 (Int.toNat x2) (0,0,ByteArray.empty,()))+1))]++[IntKind.wrap IntKind.u8 (Prod.fst (Prod.snd (List.getD x0 (Int.toNat x2) (0,0,ByteArray.empty,()))))])) none) (br (decide (Prod.fst (List.getD x0 (Int.toNat x2) (0,0,ByteArray.empty,()))=2)) (lp1 7 x0 x1 x2 (x3++[IntKind.wrap IntKind.u8 (IntKind.wrap IntKind.i64 (Prod.fst (List.getD x0 (Int.toNat x2) (0,0,ByteArray.empty,()))+1))]) (List.getD x0 (Int.toNat x2) (0,0,ByteArray.empty,()))) (br (decide (Prod.fst (List.getD x0 (Int.toNat x2) (0,0,ByteArray.empty,()))=3)) (lp2 x0 x1 x2 (↑(ByteArray.size (Prod.fst (Prod.snd (Prod.snd (List.getD x0 (Int.toNat x2) (0,0,ByteArray.empty,())))))):Int) 0 (x3++[IntKind.wrap IntKind.u8 (IntKind.wrap IntKind.i64 (Prod.fst (List.getD x0 (Int.toNat x2) (0,0,ByteArray.empty,()))+1))]) (List.getD x0 (Int.toNat x2) (0,0,ByteArray.empty,()))) (go x0 x1 (IntKind.wrap IntKind.i64 (x2+1)) (x3++[IntKind.wrap IntKind.u8 (IntKind.wrap IntKind.i64 (Prod.fst (List.getD x0 (Int.toNat x2) (0,0,ByteArray.empty,()))+1))]))))) none) none) (K0 x3)
def qeq (D:DX)(n:Nat) (K0:List Int→Option ((List Int×Unit)×Unit)):Nat→(qd)→(Int)→(Int)→(List Int)→Option ((List Int×Unit)×Unit) | 0=>(fun x0 x1 x2 x3=>none) | m+1=>(fun x0 x1 x2 x3=>qsc D n (qeq D n K0 m) K0 (qq3 D n (qeq D n K0 m) K0) (qqu D n (qeq D n K0 m) K0) x0 x1 x2 x3)
def qxk (D:DX)(n:Nat) (v0_0:List Int):Option ((List Int×Unit)×Unit):=some ((v0_0,()),())
def qqw (D:DX)(n:Nat):(qd)→(Int)→(Int)→(List Int)→Option ((List Int×Unit)×Unit):=(fun x0 x1 x2 x3=>qeq D n (fun v0_0=>qxk D n v0_0) n x0 x1 x2 x3)
def qt5 (D:DX)(n:Nat) (lp0:qd→Int→Int→List Int→Option ((List Int×Unit)×Unit)) (a0:qd):Option ((List Int×Unit)×Unit):=qg (qzm D a0) fun b↦br (!Prod.fst (Prod.fst b)) (some (([],()),())) (lp0 a0 (↑(List.length a0):Int) 0 [])
def quk (D:DX)(n:Nat) (a0:qd):Option ((List Int×Unit)×Unit):=qt5 D n (qqw D n) a0
def qdd (x0:qd) (x1:Int) (x2:Int) (x3:List Int):St:=stq 81 [(3,AV.brw 3 [] 0),(13,AV.val (Ty.sl yV) x0),(14,avI x1),(15,avI x2)] [(3,Root.mk (Ty.sl (Ty.int IntKind.u8)) (Mk.own 0 Mk.no) x3 false)] 
def qd4 (v0_0:List Int):St:=stq 81 [(3,AV.brw 3 [] 0)] [(3,Root.mk (Ty.sl (Ty.int IntKind.u8)) (Mk.own 0 Mk.no) v0_0 false)] 
def qhl (x1_0:Int) (x1_1:qd) (x1_2:Int) (x1_3:Int) (x1_4:List Int) (x1_5:Int×Int×ByteArray×Unit):St:=stq 81 [(3,AV.brw 3 [] 0),(5,AV.addr 5 []),(6,avI x1_0),(13,AV.val (Ty.sl yV) x1_1),(14,avI x1_2),(15,avI x1_3)] [(3,Root.mk (Ty.sl (Ty.int IntKind.u8)) (Mk.own 0 Mk.no) x1_4 false),(5,Root.mk yV Mk.no x1_5 true)] 
def qk3 (v0_0:qd) (v0_1:Int) (v0_2:Int) (v0_3:List Int):St:=stq 81 [(3,AV.brw 3 [] 0),(13,AV.val (Ty.sl yV) v0_0),(14,avI v0_1),(15,avI v0_2)] [(3,Root.mk (Ty.sl (Ty.int IntKind.u8)) (Mk.own 0 Mk.no) v0_3 false)] 
def qht (x2_0:qd) (x2_1:Int) (x2_2:Int) (x2_3:Int) (x2_4:Int) (x2_5:List Int) (x2_6:Int×Int×ByteArray×Unit):St:=stq 81 [(3,AV.brw 3 [] 0),(5,AV.addr 5 []),(13,AV.val (Ty.sl yV) x2_0),(14,avI x2_1),(15,avI x2_2),(56,avI x2_3),(57,avI x2_4)] [(3,Root.mk (Ty.sl (Ty.int IntKind.u8)) (Mk.own 0 Mk.no) x2_5 false),(5,Root.mk yV Mk.no x2_6 true)] 
def qla (v0_0:qd) (v0_1:Int) (v0_2:Int) (v0_3:List Int):St:=stq 81 [(3,AV.brw 3 [] 0),(13,AV.val (Ty.sl yV) v0_0),(14,avI v0_1),(15,avI v0_2)] [(3,Root.mk (Ty.sl (Ty.int IntKind.u8)) (Mk.own 0 Mk.no) v0_3 false)] 
theorem q9u (D:DX)(n:Nat) (m:Nat) (K:Ex→St→Option (Out ctx 137)) (x1_0:Int) (x1_1:qd) (x1_2:Int) (x1_3:Int) (x1_4:List Int) (x1_5:Int×Int×ByteArray×Unit) :
 LQ qc D n 137 [.r,.r,.r,.l,.r,.l,.l,.r,.r,.l,.l,.r,.r,.r,.l,.r,.r,.r,.l,.r,.l] (m+1) (qhl x1_0 x1_1 x1_2 x1_3 x1_4 x1_5) K=qmy D n (fun x1_0 x1_1 x1_2 x1_3 x1_4 x1_5=>LQ qc D n 137 [.r,.r,.r,.l,.r,.l,.l,.r,.r,.l,.l,.r,.r,.r,.l,.r,.r,.r,.l,.r,.l] m (qhl x1_0 x1_1 x1_2 x1_3 x1_4 x1_5) K) (fun v0_0 v0_1 v0_2 v0_3=>K (Ex.exit 3) (qk3 v0_0 v0_1 v0_2 v0_3)) x1_0 x1_1 x1_2 x1_3 x1_4 x1_5:=by kernel_rfl
theorem qye (D:DX)(n:Nat) (K:Ex→St→Option (Out ctx 137)):∀ (m:Nat) (x1_0:Int) (x1_1:qd) (x1_2:Int) (x1_3:Int) (x1_4:List Int) (x1_5:Int×Int×ByteArray×Unit),LQ qc D n 137 [.r,.r,.r,.l,.r,.l,.l,.r,.r,.l,.l,.r,.r,.r,.l,.r,.r,.r,.l,.r,.l] m (qhl x1_0 x1_1 x1_2 x1_3 x1_4 x1_5) K=qf7 D n (fun v0_0 v0_1 v0_2 v0_3=>K (Ex.exit 3) (qk3 v0_0 v0_1 v0_2 v0_3)) m x1_0 x1_1 x1_2 x1_3 x1_4 x1_5
 | 0,x1_0,x1_1,x1_2,x1_3,x1_4,x1_5=>qz ..
 | m+1,x1_0,x1_1,x1_2,x1_3,x1_4,x1_5=>by
  have ih:(fun x1_0 x1_1 x1_2 x1_3 x1_4 x1_5=>LQ qc D n 137 [.r,.r,.r,.l,.r,.l,.l,.r,.r,.l,.l,.r,.r,.r,.l,.r,.r,.r,.l,.r,.l] m (qhl x1_0 x1_1 x1_2 x1_3 x1_4 x1_5) K)=qf7 D n (fun v0_0 v0_1 v0_2 v0_3=>K (Ex.exit 3) (qk3 v0_0 v0_1 v0_2 v0_3)) m:=by funext x1_0 x1_1 x1_2 x1_3 x1_4 x1_5;exact qye D n K m x1_0 x1_1 x1_2 x1_3 x1_4 x1_5
  rw[q9u]
  rw[ih];rfl
theorem q8y (D:DX)(n:Nat) (m:Nat) (K:Ex→St→Option (Out ctx 137)) (v0_0:qd) (v0_1:Int) (v0_2:Int) (v0_3:List Int) :
 (CQ qc D n 137 [.r,.r,.r,.l,.r,.l,.l] [.r,.r,.l,.l,.r,.r,.r,.l,.r,.r,.r,.l,.r,.l] (LK qc D n 137 [.r,.r,.r,.l,.r,.l] m K)) (Ex.exit 3) (qk3 v0_0 v0_1 v0_2 v0_3)=qpf D n (fun x0 x1 x2 x3=>LQ qc D n 137 [.r,.r,.r,.l,.r,.l] m (qdd x0 x1 x2 x3) K) (fun v0_0=>K (Ex.exit 0) (qd4 v0_0)) v0_0 v0_1 v0_2 v0_3:=by kernel_rfl
theorem q7x (D:DX)(n:Nat) (m:Nat) (K:Ex→St→Option (Out ctx 137)) (x1_0:Int) (x1_1:qd) (x1_2:Int) (x1_3:Int) (x1_4:List Int) (x1_5:Int×Int×ByteArray×Unit) :
 LQ qc D n 137 [.r,.r,.r,.l,.r,.l,.l,.r,.r,.l,.l,.r,.r,.r,.l,.r,.r,.r,.l,.r,.l] n (qhl x1_0 x1_1 x1_2 x1_3 x1_4 x1_5) (CQ qc D n 137 [.r,.r,.r,.l,.r,.l,.l] [.r,.r,.l,.l,.r,.r,.r,.l,.r,.r,.r,.l,.r,.l] (LK qc D n 137 [.r,.r,.r,.l,.r,.l] m K))=qq3 D n (fun x0 x1 x2 x3=>LQ qc D n 137 [.r,.r,.r,.l,.r,.l] m (qdd x0 x1 x2 x3) K) (fun v0_0=>K (Ex.exit 0) (qd4 v0_0)) x1_0 x1_1 x1_2 x1_3 x1_4 x1_5:=by
 rw[qye]
 simp only[q8y]
 rfl
theorem q99 (D:DX)(n:Nat) (m:Nat) (K:Ex→St→Option (Out ctx 137)) (x2_0:qd) (x2_1:Int) (x2_2:Int) (x2_3:Int) (x2_4:Int) (x2_5:List Int) (x2_6:Int×Int×ByteArray×Unit) :
 LQ qc D n 137 [.r,.r,.r,.l,.r,.l,.l,.r,.r,.l,.l,.r,.r,.r,.l,.r,.r,.r,.r,.r,.l,.l,.r,.l] (m+1) (qht x2_0 x2_1 x2_2 x2_3 x2_4 x2_5 x2_6) K=qsk D n (fun x2_0 x2_1 x2_2 x2_3 x2_4 x2_5 x2_6=>LQ qc D n 137 [.r,.r,.r,.l,.r,.l,.l,.r,.r,.l,.l,.r,.r,.r,.l,.r,.r,.r,.r,.r,.l,.l,.r,.l] m (qht x2_0 x2_1 x2_2 x2_3 x2_4 x2_5 x2_6) K) (fun v0_0 v0_1 v0_2 v0_3=>K (Ex.exit 5) (qla v0_0 v0_1 v0_2 v0_3)) x2_0 x2_1 x2_2 x2_3 x2_4 x2_5 x2_6:=by kernel_rfl
theorem qya (D:DX)(n:Nat) (K:Ex→St→Option (Out ctx 137)):∀ (m:Nat) (x2_0:qd) (x2_1:Int) (x2_2:Int) (x2_3:Int) (x2_4:Int) (x2_5:List Int) (x2_6:Int×Int×ByteArray×Unit),LQ qc D n 137 [.r,.r,.r,.l,.r,.l,.l,.r,.r,.l,.l,.r,.r,.r,.l,.r,.r,.r,.r,.r,.l,.l,.r,.l] m (qht x2_0 x2_1 x2_2 x2_3 x2_4 x2_5 x2_6) K=qhx D n (fun v0_0 v0_1 v0_2 v0_3=>K (Ex.exit 5) (qla v0_0 v0_1 v0_2 v0_3)) m x2_0 x2_1 x2_2 x2_3 x2_4 x2_5 x2_6
 | 0,x2_0,x2_1,x2_2,x2_3,x2_4,x2_5,x2_6=>qz ..
 | m+1,x2_0,x2_1,x2_2,x2_3,x2_4,x2_5,x2_6=>by
  have ih:(fun x2_0 x2_1 x2_2 x2_3 x2_4 x2_5 x2_6=>LQ qc D n 137 [.r,.r,.r,.l,.r,.l,.l,.r,.r,.l,.l,.r,.r,.r,.l,.r,.r,.r,.r,.r,.l,.l,.r,.l] m (qht x2_0 x2_1 x2_2 x2_3 x2_4 x2_5 x2_6) K)=qhx D n (fun v0_0 v0_1 v0_2 v0_3=>K (Ex.exit 5) (qla v0_0 v0_1 v0_2 v0_3)) m:=by funext x2_0 x2_1 x2_2 x2_3 x2_4 x2_5 x2_6;exact qya D n K m x2_0 x2_1 x2_2 x2_3 x2_4 x2_5 x2_6
  rw[q99]
  rw[ih];rfl
theorem q7y (D:DX)(n:Nat) (m:Nat) (K:Ex→St→Option (Out ctx 137)) (v0_0:qd) (v0_1:Int) (v0_2:Int) (v0_3:List Int) :
 (CQ qc D n 137 [.r,.r,.r,.l,.r,.l,.l] [.r,.r,.l,.l,.r,.r,.r,.l,.r,.r,.r,.r,.r,.l,.l,.r,.l] (LK qc D n 137 [.r,.r,.r,.l,.r,.l] m K)) (Ex.exit 5) (qla v0_0 v0_1 v0_2 v0_3)=qo9 D n (fun x0 x1 x2 x3=>LQ qc D n 137 [.r,.r,.r,.l,.r,.l] m (qdd x0 x1 x2 x3) K) (fun v0_0=>K (Ex.exit 0) (qd4 v0_0)) v0_0 v0_1 v0_2 v0_3:=by kernel_rfl
theorem q80 (D:DX)(n:Nat) (m:Nat) (K:Ex→St→Option (Out ctx 137)) (x2_0:qd) (x2_1:Int) (x2_2:Int) (x2_3:Int) (x2_4:Int) (x2_5:List Int) (x2_6:Int×Int×ByteArray×Unit) :
 LQ qc D n 137 [.r,.r,.r,.l,.r,.l,.l,.r,.r,.l,.l,.r,.r,.r,.l,.r,.r,.r,.r,.r,.l,.l,.r,.l] n (qht x2_0 x2_1 x2_2 x2_3 x2_4 x2_5 x2_6) (CQ qc D n 137 [.r,.r,.r,.l,.r,.l,.l] [.r,.r,.l,.l,.r,.r,.r,.l,.r,.r,.r,.r,.r,.l,.l,.r,.l] (LK qc D n 137 [.r,.r,.r,.l,.r,.l] m K))=qqu D n (fun x0 x1 x2 x3=>LQ qc D n 137 [.r,.r,.r,.l,.r,.l] m (qdd x0 x1 x2 x3) K) (fun v0_0=>K (Ex.exit 0) (qd4 v0_0)) x2_0 x2_1 x2_2 x2_3 x2_4 x2_5 x2_6:=by
 rw[qya]
 simp only[q7y]
 rfl
theorem q93 (D:DX)(n:Nat) (m:Nat) (K:Ex→St→Option (Out ctx 137)) (x0:qd) (x1:Int) (x2:Int) (x3:List Int) :
 LQ qc D n 137 [.r,.r,.r,.l,.r,.l] (m+1) (qdd x0 x1 x2 x3) K=qsc D n (fun x0 x1 x2 x3=>LQ qc D n 137 [.r,.r,.r,.l,.r,.l] m (qdd x0 x1 x2 x3) K) (fun v0_0=>K (Ex.exit 0) (qd4 v0_0)) (fun x1_0 x1_1 x1_2 x1_3 x1_4 x1_5=>LQ qc D n 137 [.r,.r,.r,.l,.r,.l,.l,.r,.r,.l,.l,.r,.r,.r,.l,.r,.r,.r,.l,.r,.l] n (qhl x1_0 x1_1 x1_2 x1_3 x1_4 x1_5) (CQ qc D n 137 [.r,.r,.r,.l,.r,.l,.l] [.r,.r,.l,.l,.r,.r,.r,.l,.r,.r,.r,.l,.r,.l] (LK qc D n 137 [.r,.r,.r,.l,.r,.l] m K))) (fun x2_0 x2_1 x2_2 x2_3 x2_4 x2_5 x2_6=>LQ qc D n 137 [.r,.r,.r,.l,.r,.l,.l,.r,.r,.l,.l,.r,.r,.r,.l,.r,.r,.r,.r,.r,.l,.l,.r,.l] n (qht x2_0 x2_1 x2_2 x2_3 x2_4 x2_5 x2_6) (CQ qc D n 137 [.r,.r,.r,.l,.r,.l,.l] [.r,.r,.l,.l,.r,.r,.r,.l,.r,.r,.r,.r,.r,.l,.l,.r,.l] (LK qc D n 137 [.r,.r,.r,.l,.r,.l] m K))) x0 x1 x2 x3:=by kernel_rfl
theorem qx1 (D:DX)(n:Nat) (K:Ex→St→Option (Out ctx 137)):∀ (m:Nat) (x0:qd) (x1:Int) (x2:Int) (x3:List Int),LQ qc D n 137 [.r,.r,.r,.l,.r,.l] m (qdd x0 x1 x2 x3) K=qeq D n (fun v0_0=>K (Ex.exit 0) (qd4 v0_0)) m x0 x1 x2 x3
 | 0,x0,x1,x2,x3=>qz ..
 | m+1,x0,x1,x2,x3=>by
  have ih:(fun x0 x1 x2 x3=>LQ qc D n 137 [.r,.r,.r,.l,.r,.l] m (qdd x0 x1 x2 x3) K)=qeq D n (fun v0_0=>K (Ex.exit 0) (qd4 v0_0)) m:=by funext x0 x1 x2 x3;exact qx1 D n K m x0 x1 x2 x3
  rw[q93]
  simp only[q7x,q80]
  rw[ih];rfl
theorem q7n (D:DX)(n:Nat) (v0_0:List Int) :
 (CQ qc D n 137 [] [.r,.r,.r,.l,.r,.l] (qi qc 137)) (Ex.exit 0) (qd4 v0_0)=qxk D n v0_0:=by kernel_rfl
theorem q8e (D:DX)(n:Nat) (x0:qd) (x1:Int) (x2:Int) (x3:List Int) :
 LQ qc D n 137 [.r,.r,.r,.l,.r,.l] n (qdd x0 x1 x2 x3) (CQ qc D n 137 [] [.r,.r,.r,.l,.r,.l] (qi qc 137))=qqw D n x0 x1 x2 x3:=by
 rw[qx1]
 simp only[q7n]
 rfl
theorem qbdh (D:DX)(n:Nat) (a0:qd):rfC qc D n 137 (a0,())=quk D n a0:=by
 have h:rfC qc D n 137 (a0,())=qt5 D n (fun x0 x1 x2 x3=>LQ qc D n 137 [.r,.r,.r,.l,.r,.l] n (qdd x0 x1 x2 x3) (CQ qc D n 137 [] [.r,.r,.r,.l,.r,.l] (qi qc 137))) a0:=by kernel_rfl
 rw[h]
 simp only[q8e]
 rfl

def quv (D:DX)(n:Nat) (a0:List Int):Option ((List Int×Unit)×Unit):=br (decide (Int.toNat (↑(List.length a0):Int)=0)) (both (some (([],()),())) (br (decide (0+List.length a0≤qbh)) (some (([]++a0,()),())) none)) (br (decide (0+List.length a0≤qbh)) (some (([]++a0,()),())) none)
def qnt (D:DX)(n:Nat) (a0:List Int):Option ((List Int×Unit)×Unit):=quv D n a0
theorem q6b (D:DX)(n:Nat) (a0:List Int):rfC qc D n 138 (a0,())=qnt D n a0:=by kernel_rfl

def q6i (D:DX)(n:Nat) (a0:Int×Int×ByteArray×Unit):Option ((Bool×Unit)×Unit):=br (decide (Prod.fst a0=0)) (some ((bif decide (Prod.fst (Prod.snd a0)=0) then List.beq (ByteArray.toList (Prod.fst (Prod.snd (Prod.snd a0)))) (ByteArray.toList (ByteArray.mk #[])) else false,()),())) (br (decide (Prod.fst a0=1)) (qg (qge D (Prod.fst (Prod.snd a0)) 0 1) fun b↦some ((bif Prod.fst (Prod.fst b) then List.beq (ByteArray.toList (Prod.fst (Prod.snd (Prod.snd a0)))) (ByteArray.toList (ByteArray.mk #[])) else false,()),())) (br (decide (Prod.fst a0=2)) (qg (qge D (Prod.fst (Prod.snd a0)) (-1000000000000) 1000000000000) fun b↦some ((bif Prod.fst (Prod.fst b) then List.beq (ByteArray.toList (Prod.fst (Prod.snd (Prod.snd a0)))) (ByteArray.toList (ByteArray.mk #[])) else false,()),())) (br (decide (Prod.fst a0=3)) (some ((bif decide (Prod.fst (Prod.snd a0)=0) then decide ((↑(ByteArray.size (Prod.fst (Prod.snd (Prod.snd a0)))):Int)≤20) else false,()),())) (some ((false,()),())))))
def qyl (D:DX)(n:Nat) (a0:Int×Int×ByteArray×Unit):Option ((Bool×Unit)×Unit):=q6i D n a0
theorem qbi8 (D:DX)(n:Nat) (a0:Int×Int×ByteArray×Unit):rfC qc D n 139 (a0,())=qyl D n a0:=by kernel_rfl

def qb9 (D:DX)(n:Nat) (a2:Clo) (go:qd→qd→qd→Int→Int→Option ((Int×Unit)×Unit)) (K0:qd→qd→Int→Option ((Int×Unit)×Unit)) (K1:qd→qd→Option ((Int×Unit)×Unit)) (x0:qd) (x1:qd) (x2:qd) (x3:Int) (x4:Int):Option ((Int×Unit)×Unit):=br (decide (x4<x3)) (br (decide (0≤x4)&&decide (x4<(↑(List.length x2):Int))) (br (decide (x4≥(↑(List.length x1):Int))) (K0 x0 x1 1) (br (decide (0≤x4)&&decide (x4<(↑(List.length x1):Int))) (qg (qbe ctx D a2 [CapV.val (Ty.pair (Ty.int IntKind.i64) (Ty.pair (Ty.int IntKind.i64) (Ty.pair Ty.str Ty.unit))) (List.getD x2 (Int.toNat x4) (0,0,ByteArray.empty,())),CapV.val (Ty.pair (Ty.int IntKind.i64) (Ty.pair (Ty.int IntKind.i64) (Ty.pair Ty.str Ty.unit))) (List.getD x1 (Int.toNat x4) (0,0,ByteArray.empty,()))] (Ty.int IntKind.i64)) fun b↦br (b != 0) (K0 x0 x1 b) (go x0 x1 x2 x3 (IntKind.wrap IntKind.i64 (x4+1)))) none)) none) (K1 x0 x1)
def qv (D:DX)(n:Nat) (a2:Clo) (K0:qd→qd→Int→Option ((Int×Unit)×Unit)) (K1:qd→qd→Option ((Int×Unit)×Unit)):Nat→(qd)→(qd)→(qd)→(Int)→(Int)→Option ((Int×Unit)×Unit) | 0=>(fun x0 x1 x2 x3 x4=>none) | m+1=>(fun x0 x1 x2 x3 x4=>qb9 D n a2 (qv D n a2 K0 K1 m) K0 K1 x0 x1 x2 x3 x4)
def qb3 (D:DX)(n:Nat) (a2:Clo) (v0_0:qd) (v0_1:qd) (v0_2:Int):Option ((Int×Unit)×Unit):=some ((v0_2,()),())
def qbg (D:DX)(n:Nat) (a2:Clo) (v1_0:qd) (v1_1:qd):Option ((Int×Unit)×Unit):=br (decide ((↑(List.length v1_0):Int)<(↑(List.length v1_1):Int))) (some ((-1,()),())) (some ((0,()),()))
def qb7 (D:DX)(n:Nat) (a2:Clo):(qd)→(qd)→(qd)→(Int)→(Int)→Option ((Int×Unit)×Unit):=(fun x0 x1 x2 x3 x4=>qv D n a2 (fun v0_0 v0_1 v0_2=>qb3 D n a2 v0_0 v0_1 v0_2) (fun v1_0 v1_1=>qbg D n a2 v1_0 v1_1) n x0 x1 x2 x3 x4)
def qci (D:DX)(n:Nat) (a2:Clo) (lp0:qd→qd→qd→Int→Int→Option ((Int×Unit)×Unit)) (a0:qd) (a1:qd):Option ((Int×Unit)×Unit):=lp0 a0 a1 a0 (↑(List.length a0):Int) 0
def qcj (D:DX)(n:Nat) (a0:qd) (a1:qd) (a2:Clo):Option ((Int×Unit)×Unit):=qci D n a2 (qb7 D n a2) a0 a1
def qu (a2:Clo) (x0:qd) (x1:qd) (x2:qd) (x3:Int) (x4:Int):St:=stq 39 [(0,AV.val (Ty.sl yV) x0),(1,AV.val (Ty.sl yV) x1),(2,AV.cloV a2),(11,AV.val (Ty.sl yV) x2),(12,avI x3),(13,avI x4)] [] 
def qbi (a2:Clo) (v0_0:qd) (v0_1:qd) (v0_2:Int):St:=stq 39 [(0,AV.val (Ty.sl yV) v0_0),(1,AV.val (Ty.sl yV) v0_1),(6,avI v0_2)] [] 
def qbj (a2:Clo) (v1_0:qd) (v1_1:qd):St:=stq 39 [(0,AV.val (Ty.sl yV) v1_0),(1,AV.val (Ty.sl yV) v1_1)] [] 
theorem qgv (D:DX)(n:Nat) (a2:Clo) (m:Nat) (K:Ex→St→Option (Out ctx 140)) (x0:qd) (x1:qd) (x2:qd) (x3:Int) (x4:Int) :
 LQ qc D n 140 [.r,.l,.r,.l] (m+1) (qu a2 x0 x1 x2 x3 x4) K=qb9 D n a2 (fun x0 x1 x2 x3 x4=>LQ qc D n 140 [.r,.l,.r,.l] m (qu a2 x0 x1 x2 x3 x4) K) (fun v0_0 v0_1 v0_2=>K (Ex.ret) (qbi a2 v0_0 v0_1 v0_2)) (fun v1_0 v1_1=>K (Ex.exit 0) (qbj a2 v1_0 v1_1)) x0 x1 x2 x3 x4:=by kernel_rfl
theorem qde (D:DX)(n:Nat) (a2:Clo) (K:Ex→St→Option (Out ctx 140)):∀ (m:Nat) (x0:qd) (x1:qd) (x2:qd) (x3:Int) (x4:Int),LQ qc D n 140 [.r,.l,.r,.l] m (qu a2 x0 x1 x2 x3 x4) K=qv D n a2 (fun v0_0 v0_1 v0_2=>K (Ex.ret) (qbi a2 v0_0 v0_1 v0_2)) (fun v1_0 v1_1=>K (Ex.exit 0) (qbj a2 v1_0 v1_1)) m x0 x1 x2 x3 x4
 | 0,x0,x1,x2,x3,x4=>qz ..
 | m+1,x0,x1,x2,x3,x4=>by
  have ih:(fun x0 x1 x2 x3 x4=>LQ qc D n 140 [.r,.l,.r,.l] m (qu a2 x0 x1 x2 x3 x4) K)=qv D n a2 (fun v0_0 v0_1 v0_2=>K (Ex.ret) (qbi a2 v0_0 v0_1 v0_2)) (fun v1_0 v1_1=>K (Ex.exit 0) (qbj a2 v1_0 v1_1)) m:=by funext x0 x1 x2 x3 x4;exact qde D n a2 K m x0 x1 x2 x3 x4
  rw[qgv]
  rw[ih];rfl
theorem qgr (D:DX)(n:Nat) (a2:Clo) (v0_0:qd) (v0_1:qd) (v0_2:Int) :
 (CQ qc D n 140 [] [.r,.l,.r,.l] (qi qc 140)) (Ex.ret) (qbi a2 v0_0 v0_1 v0_2)=qb3 D n a2 v0_0 v0_1 v0_2:=by kernel_rfl
theorem qgs (D:DX)(n:Nat) (a2:Clo) (v1_0:qd) (v1_1:qd) :
 (CQ qc D n 140 [] [.r,.l,.r,.l] (qi qc 140)) (Ex.exit 0) (qbj a2 v1_0 v1_1)=qbg D n a2 v1_0 v1_1:=by kernel_rfl
theorem qgq (D:DX)(n:Nat) (a2:Clo) (x0:qd) (x1:qd) (x2:qd) (x3:Int) (x4:Int) :
 LQ qc D n 140 [.r,.l,.r,.l] n (qu a2 x0 x1 x2 x3 x4) (CQ qc D n 140 [] [.r,.l,.r,.l] (qi qc 140))=qb7 D n a2 x0 x1 x2 x3 x4:=by
 rw[qde]
 simp only[qgr,qgs]
 rfl
theorem qhe (D:DX)(n:Nat) (a0:qd) (a1:qd) (a2:Clo):rfC qc D n 140 (a0,(a1,(a2,())))=qcj D n a0 a1 a2:=by
 have h:rfC qc D n 140 (a0,(a1,(a2,())))=qci D n a2 (fun x0 x1 x2 x3 x4=>LQ qc D n 140 [.r,.l,.r,.l] n (qu a2 x0 x1 x2 x3 x4) (CQ qc D n 140 [] [.r,.l,.r,.l] (qi qc 140))) a0 a1:=by kernel_rfl
 rw[h]
 simp only[qgq]
 rfl

def q6u (D:DX)(n:Nat) (a0:Int×Int×ByteArray×Unit) (a1:Int×Int×ByteArray×Unit):Option ((Int×Unit)×Unit):=br (bif decide (Prod.fst a0<Prod.fst a1) then true else bif decide (Prod.fst a0=Prod.fst a1) then decide (Prod.fst (Prod.snd a0)<Prod.fst (Prod.snd a1)) else false) (some ((-1,()),())) (br (bif decide (Prod.fst a0>Prod.fst a1) then true else decide (Prod.fst (Prod.snd a0)>Prod.fst (Prod.snd a1))) (some ((1,()),())) (qg (q19 D (Prod.fst (Prod.snd (Prod.snd a0))) (Prod.fst (Prod.snd (Prod.snd a1)))) fun b↦some ((Prod.fst (Prod.fst b),()),())))
def qzt (D:DX)(n:Nat) (a0:Int×Int×ByteArray×Unit) (a1:Int×Int×ByteArray×Unit):Option ((Int×Unit)×Unit):=q6u D n a0 a1
theorem qbiu (D:DX)(n:Nat) (a0:Int×Int×ByteArray×Unit) (a1:Int×Int×ByteArray×Unit):rfC qc D n 141 (a0,(a1,()))=qzt D n a0 a1:=by kernel_rfl

def qg7 (D:DX)(n:Nat) (a1:Clo) (a0:tIxs):Option ((Bool×Unit)×Unit):=qg (qex D a0 a1) fun b↦some ((decide (Prod.fst (Prod.fst b)≥0),()),())
def qd8 (D:DX)(n:Nat) (a0:tIxs) (a1:Clo):Option ((Bool×Unit)×Unit):=qg7 D n a1 a0
theorem qn2 (D:DX)(n:Nat) (a0:tIxs) (a1:Clo):rfC qc D n 142 (a0,(a1,()))=qd8 D n a0 a1:=by kernel_rfl

def q62 (D:DX)(n:Nat) (a0:ByteArray×List Int×Bool×Unit) (a1:qd) (a2:qd):Option ((Bool×Unit)×Unit):=qg (qlp D a1 (Prod.fst (Prod.snd a0))) fun b↦br (Prod.fst (Prod.snd (Prod.snd a0))) (qg (qe9 D (Prod.fst (Prod.fst b)) (0,0,ByteArray.empty,())) fun b_1↦br (!Prod.fst (Prod.fst b_1)) (qg (qlp D a2 (Prod.fst (Prod.snd a0))) fun b_2↦qg (qd3 D (Prod.fst (Prod.fst b)) (Prod.fst (Prod.fst b_2))) fun b↦some ((Prod.fst (Prod.fst b),()),())) (some ((false,()),()))) (some ((false,()),()))
def qzd (D:DX)(n:Nat) (a0:ByteArray×List Int×Bool×Unit) (a1:qd) (a2:qd):Option ((Bool×Unit)×Unit):=q62 D n a0 a1 a2
theorem qbim (D:DX)(n:Nat) (a0:ByteArray×List Int×Bool×Unit) (a1:qd) (a2:qd):rfC qc D n 143 (a0,(a1,(a2,())))=qzd D n a0 a1 a2:=by kernel_rfl

def qiw (D:DX)(n:Nat) (a0:qd) (a1:Int×Int×ByteArray×Unit):Option ((Bool×Unit)×Unit):=qg (qf4 D a0 a1) fun b↦some ((decide (Prod.fst (Prod.fst b)≥0),()),())
def qe8 (D:DX)(n:Nat) (a0:qd) (a1:Int×Int×ByteArray×Unit):Option ((Bool×Unit)×Unit):=qiw D n a0 a1
theorem qqf (D:DX)(n:Nat) (a0:qd) (a1:Int×Int×ByteArray×Unit):rfC qc D n 144 (a0,(a1,()))=qe8 D n a0 a1:=by kernel_rfl

def qfo (D:DX)(n:Nat) (go:qd→qd→Int→Int→Option ((Bool×Unit)×Unit)) (K0:Bool→Option ((Bool×Unit)×Unit)) (K1:Option ((Bool×Unit)×Unit)) (x0:qd) (x1:qd) (x2:Int) (x3:Int):Option ((Bool×Unit)×Unit):=br (decide (x3<x2)) (br (decide (0≤x3)&&decide (x3<(↑(List.length x0):Int))) (br (decide (0≤x3)&&decide (x3<(↑(List.length x1):Int))) (br (!qld (Ty.pair (Ty.int IntKind.i64) (Ty.pair (Ty.int IntKind.i64) (Ty.pair Ty.str Ty.unit))) (List.getD x0 (Int.toNat x3) (0,0,ByteArray.empty,())) (List.getD x1 (Int.toNat x3) (0,0,ByteArray.empty,()))) (K0 false) (go x0 x1 x2 (IntKind.wrap IntKind.i64 (x3+1)))) none) none) K1
def qcd (D:DX)(n:Nat) (K0:Bool→Option ((Bool×Unit)×Unit)) (K1:Option ((Bool×Unit)×Unit)):Nat→(qd)→(qd)→(Int)→(Int)→Option ((Bool×Unit)×Unit) | 0=>(fun x0 x1 x2 x3=>none) | m+1=>(fun x0 x1 x2 x3=>qfo D n (qcd D n K0 K1 m) K0 K1 x0 x1 x2 x3)
def qip (D:DX)(n:Nat) (v0_0:Bool):Option ((Bool×Unit)×Unit):=some ((v0_0,()),())
def qiv (D:DX)(n:Nat):Option ((Bool×Unit)×Unit):=some ((true,()),())
def qfi (D:DX)(n:Nat):(qd)→(qd)→(Int)→(Int)→Option ((Bool×Unit)×Unit):=(fun x0 x1 x2 x3=>qcd D n (fun v0_0=>qip D n v0_0) (qiv D n) n x0 x1 x2 x3)
def qf9 (D:DX)(n:Nat) (lp0:qd→qd→Int→Int→Option ((Bool×Unit)×Unit)) (a0:qd) (a1:qd):Option ((Bool×Unit)×Unit):=br ((↑(List.length a0):Int) != (↑(List.length a1):Int)) (some ((false,()),())) (lp0 a0 a1 (↑(List.length a0):Int) 0)
def qf2 (D:DX)(n:Nat) (a0:qd) (a1:qd):Option ((Bool×Unit)×Unit):=qf9 D n (qfi D n) a0 a1
def qcb (x0:qd) (x1:qd) (x2:Int) (x3:Int):St:=stq 26 [(0,AV.val (Ty.sl yV) x0),(1,AV.val (Ty.sl yV) x1),(12,avI x2),(13,avI x3)] [] 
def qdl (v0_0:Bool):St:=stq 26 [(4,AV.val Ty.bool v0_0)] [] 
def qdp:St:=stq 26 [] [] 
theorem qqz (D:DX)(n:Nat) (m:Nat) (K:Ex→St→Option (Out ctx 145)) (x0:qd) (x1:qd) (x2:Int) (x3:Int) :
 LQ qc D n 145 [.r,.r,.l,.r,.l] (m+1) (qcb x0 x1 x2 x3) K=qfo D n (fun x0 x1 x2 x3=>LQ qc D n 145 [.r,.r,.l,.r,.l] m (qcb x0 x1 x2 x3) K) (fun v0_0=>K (Ex.ret) (qdl v0_0)) (K (Ex.exit 0) (qdp)) x0 x1 x2 x3:=by kernel_rfl
theorem qi5 (D:DX)(n:Nat) (K:Ex→St→Option (Out ctx 145)):∀ (m:Nat) (x0:qd) (x1:qd) (x2:Int) (x3:Int),LQ qc D n 145 [.r,.r,.l,.r,.l] m (qcb x0 x1 x2 x3) K=qcd D n (fun v0_0=>K (Ex.ret) (qdl v0_0)) (K (Ex.exit 0) (qdp)) m x0 x1 x2 x3
 | 0,x0,x1,x2,x3=>qz ..
 | m+1,x0,x1,x2,x3=>by
  have ih:(fun x0 x1 x2 x3=>LQ qc D n 145 [.r,.r,.l,.r,.l] m (qcb x0 x1 x2 x3) K)=qcd D n (fun v0_0=>K (Ex.ret) (qdl v0_0)) (K (Ex.exit 0) (qdp)) m:=by funext x0 x1 x2 x3;exact qi5 D n K m x0 x1 x2 x3
  rw[qqz]
  rw[ih];rfl
theorem qqh (D:DX)(n:Nat) (v0_0:Bool) :
 (CQ qc D n 145 [] [.r,.r,.l,.r,.l] (qi qc 145)) (Ex.ret) (qdl v0_0)=qip D n v0_0:=by kernel_rfl
theorem qqb (D:DX)(n:Nat) :
 (CQ qc D n 145 [] [.r,.r,.l,.r,.l] (qi qc 145)) (Ex.exit 0) (qdp)=qiv D n:=by kernel_rfl
theorem qqj (D:DX)(n:Nat) (x0:qd) (x1:qd) (x2:Int) (x3:Int) :
 LQ qc D n 145 [.r,.r,.l,.r,.l] n (qcb x0 x1 x2 x3) (CQ qc D n 145 [] [.r,.r,.l,.r,.l] (qi qc 145))=qfi D n x0 x1 x2 x3:=by
 rw[qi5]
 simp only[qqh,qqb]
 rfl
theorem qsm (D:DX)(n:Nat) (a0:qd) (a1:qd):rfC qc D n 145 (a0,(a1,()))=qf2 D n a0 a1:=by
 have h:rfC qc D n 145 (a0,(a1,()))=qf9 D n (fun x0 x1 x2 x3=>LQ qc D n 145 [.r,.r,.l,.r,.l] n (qcb x0 x1 x2 x3) (CQ qc D n 145 [] [.r,.r,.l,.r,.l] (qi qc 145))) a0 a1:=by kernel_rfl
 rw[h]
 simp only[qqj]
 rfl

def qup (D:DX)(n:Nat) (go:ByteArray→Int→Int→Option ((Bool×Unit)×Unit)) (K0:ByteArray→Bool→Option ((Bool×Unit)×Unit)) (K1:ByteArray→Option ((Bool×Unit)×Unit)) (x0:ByteArray) (x1:Int) (x2:Int):Option ((Bool×Unit)×Unit):=br (decide (x2<x1)) (br (decide (0≤x2)&&decide (x2<(↑(ByteArray.size x0):Int))) (br (decide ((↑(UInt8.toNat (Array.getD (ByteArray.data x0) (Int.toNat x2) (UInt8.ofNat 0))):Int)<97)) (K0 x0 false) (br (decide (0≤x2)&&decide (x2<(↑(ByteArray.size x0):Int))) (br (decide ((↑(UInt8.toNat (Array.getD (ByteArray.data x0) (Int.toNat x2) (UInt8.ofNat 0))):Int)>122)) (K0 x0 false) (go x0 x1 (IntKind.wrap IntKind.i64 (x2+1)))) none)) none) (K1 x0)
def qid (D:DX)(n:Nat) (K0:ByteArray→Bool→Option ((Bool×Unit)×Unit)) (K1:ByteArray→Option ((Bool×Unit)×Unit)):Nat→(ByteArray)→(Int)→(Int)→Option ((Bool×Unit)×Unit) | 0=>(fun x0 x1 x2=>none) | m+1=>(fun x0 x1 x2=>qup D n (qid D n K0 K1 m) K0 K1 x0 x1 x2)
def qx3 (D:DX)(n:Nat) (v0_0:ByteArray) (v0_1:Bool):Option ((Bool×Unit)×Unit):=some ((v0_1,()),())
def qrh (D:DX)(n:Nat) (v1_0:ByteArray):Option ((Bool×Unit)×Unit):=qg (qge D (↑(ByteArray.size v1_0):Int) 1 12) fun b↦some ((Prod.fst (Prod.fst b),()),())
def qta (D:DX)(n:Nat):(ByteArray)→(Int)→(Int)→Option ((Bool×Unit)×Unit):=(fun x0 x1 x2=>qid D n (fun v0_0 v0_1=>qx3 D n v0_0 v0_1) (fun v1_0=>qrh D n v1_0) n x0 x1 x2)
def qvl (D:DX)(n:Nat) (lp0:ByteArray→Int→Int→Option ((Bool×Unit)×Unit)) (a0:ByteArray):Option ((Bool×Unit)×Unit):=lp0 a0 (↑(ByteArray.size a0):Int) 0
def qvs (D:DX)(n:Nat) (a0:ByteArray):Option ((Bool×Unit)×Unit):=qvl D n (qta D n) a0
def qig (x0:ByteArray) (x1:Int) (x2:Int):St:=stq 23 [(0,AV.val Ty.str x0),(5,avI x1),(6,avI x2)] [] 
def qly (v0_0:ByteArray) (v0_1:Bool):St:=stq 23 [(0,AV.val Ty.str v0_0),(2,AV.val Ty.bool v0_1)] [] 
def ql0 (v1_0:ByteArray):St:=stq 23 [(0,AV.val Ty.str v1_0)] [] 
theorem qbak (D:DX)(n:Nat) (m:Nat) (K:Ex→St→Option (Out ctx 146)) (x0:ByteArray) (x1:Int) (x2:Int) :
 LQ qc D n 146 [.r,.l,.r,.l] (m+1) (qig x0 x1 x2) K=qup D n (fun x0 x1 x2=>LQ qc D n 146 [.r,.l,.r,.l] m (qig x0 x1 x2) K) (fun v0_0 v0_1=>K (Ex.ret) (qly v0_0 v0_1)) (fun v1_0=>K (Ex.exit 0) (ql0 v1_0)) x0 x1 x2:=by kernel_rfl
theorem q0y (D:DX)(n:Nat) (K:Ex→St→Option (Out ctx 146)):∀ (m:Nat) (x0:ByteArray) (x1:Int) (x2:Int),LQ qc D n 146 [.r,.l,.r,.l] m (qig x0 x1 x2) K=qid D n (fun v0_0 v0_1=>K (Ex.ret) (qly v0_0 v0_1)) (fun v1_0=>K (Ex.exit 0) (ql0 v1_0)) m x0 x1 x2
 | 0,x0,x1,x2=>qz ..
 | m+1,x0,x1,x2=>by
  have ih:(fun x0 x1 x2=>LQ qc D n 146 [.r,.l,.r,.l] m (qig x0 x1 x2) K)=qid D n (fun v0_0 v0_1=>K (Ex.ret) (qly v0_0 v0_1)) (fun v1_0=>K (Ex.exit 0) (ql0 v1_0)) m:=by funext x0 x1 x2;exact q0y D n K m x0 x1 x2
  rw[qbak]
  rw[ih];rfl
theorem q9r (D:DX)(n:Nat) (v0_0:ByteArray) (v0_1:Bool) :
 (CQ qc D n 146 [] [.r,.l,.r,.l] (qi qc 146)) (Ex.ret) (qly v0_0 v0_1)=qx3 D n v0_0 v0_1:=by kernel_rfl
theorem q95 (D:DX)(n:Nat) (v1_0:ByteArray) :
 (CQ qc D n 146 [] [.r,.l,.r,.l] (qi qc 146)) (Ex.exit 0) (ql0 v1_0)=qrh D n v1_0:=by kernel_rfl
theorem q9i (D:DX)(n:Nat) (x0:ByteArray) (x1:Int) (x2:Int) :
 LQ qc D n 146 [.r,.l,.r,.l] n (qig x0 x1 x2) (CQ qc D n 146 [] [.r,.l,.r,.l] (qi qc 146))=qta D n x0 x1 x2:=by
 rw[q0y]
 simp only[q9r,q95]
 rfl
theorem qbfn (D:DX)(n:Nat) (a0:ByteArray):rfC qc D n 146 (a0,())=qvs D n a0:=by
 have h:rfC qc D n 146 (a0,())=qvl D n (fun x0 x1 x2=>LQ qc D n 146 [.r,.l,.r,.l] n (qig x0 x1 x2) (CQ qc D n 146 [] [.r,.l,.r,.l] (qi qc 146))) a0:=by kernel_rfl
 rw[h]
 simp only[q9i]
 rfl

def qbbo (D:DX)(n:Nat) (a0:tSch) (a1:ByteArray):Option ((Int×Unit)×Unit):=qg (qgb D (Prod.fst a0) (Clo.mk 196 [CapV.rptr Ty.str a1])) fun b↦some ((Prod.fst (Prod.fst b),()),())
def q3t (D:DX)(n:Nat) (a0:tSch) (a1:ByteArray):Option ((Int×Unit)×Unit):=qbbo D n a0 a1
theorem qbog (D:DX)(n:Nat) (a0:tSch) (a1:ByteArray):rfC qc D n 147 (a0,(a1,()))=q3t D n a0 a1:=by kernel_rfl

def qvm (D:DX)(n:Nat) (go:List Int→Int→List Int→Int→Int→tSch→Option ((Bool×Unit)×Unit)) (K0:List Int→Int→Bool→Option ((Bool×Unit)×Unit)) (K1:List Int→Int→Option ((Bool×Unit)×Unit)) (x0:List Int) (x1:Int) (x2:List Int) (x3:Int) (x4:Int) (x5:tSch):Option ((Bool×Unit)×Unit):=br (decide (x4<x3)) (br (decide (0≤x4)&&decide (x4<(↑(List.length x2):Int))) (qg (qge D (List.getD x2 (Int.toNat x4) 0) 0 (IntKind.wrap IntKind.i64 ((↑(List.length (Prod.fst x5)):Int) - 1))) fun b↦br (!Prod.fst (Prod.fst b)) (K0 x0 x1 false) (br (decide (0≤0)&&decide (0≤x4)&&decide (x4≤(↑(List.length x0):Int))) (qg (qlf D (List.drop (Int.toNat 0) (List.take (Int.toNat x4) x0)) (List.getD x2 (Int.toNat x4) 0)) fun b↦br (Prod.fst (Prod.fst b)) (K0 x0 x1 false) (go x0 x1 x2 x3 (IntKind.wrap IntKind.i64 (x4+1)) x5)) none)) none) (K1 x0 x1)
def qji (D:DX)(n:Nat) (K0:List Int→Int→Bool→Option ((Bool×Unit)×Unit)) (K1:List Int→Int→Option ((Bool×Unit)×Unit)):Nat→(List Int)→(Int)→(List Int)→(Int)→(Int)→(tSch)→Option ((Bool×Unit)×Unit) | 0=>(fun x0 x1 x2 x3 x4 x5=>none) | m+1=>(fun x0 x1 x2 x3 x4 x5=>qvm D n (qji D n K0 K1 m) K0 K1 x0 x1 x2 x3 x4 x5)
def q0w (D:DX)(n:Nat) (v0_0:List Int) (v0_1:Int) (v0_2:Bool):Option ((Bool×Unit)×Unit):=some ((v0_2,()),())
def qtf (D:DX)(n:Nat) (v1_0:List Int) (v1_1:Int):Option ((Bool×Unit)×Unit):=qg (qge D (↑(List.length v1_0):Int) 1 v1_1) fun b↦some ((Prod.fst (Prod.fst b),()),())
def qt4 (D:DX)(n:Nat):(List Int)→(Int)→(List Int)→(Int)→(Int)→(tSch)→Option ((Bool×Unit)×Unit):=(fun x0 x1 x2 x3 x4 x5=>qji D n (fun v0_0 v0_1 v0_2=>q0w D n v0_0 v0_1 v0_2) (fun v1_0 v1_1=>qtf D n v1_0 v1_1) n x0 x1 x2 x3 x4 x5)
def qxl (D:DX)(n:Nat) (lp0:List Int→Int→List Int→Int→Int→tSch→Option ((Bool×Unit)×Unit)) (a0:tSch) (a1:List Int) (a2:Int):Option ((Bool×Unit)×Unit):=lp0 a1 a2 a1 (↑(List.length a1):Int) 0 a0
def qxt (D:DX)(n:Nat) (a0:tSch) (a1:List Int) (a2:Int):Option ((Bool×Unit)×Unit):=qxl D n (qt4 D n) a0 a1 a2
def qjh (x0:List Int) (x1:Int) (x2:List Int) (x3:Int) (x4:Int) (x5:tSch):St:=stq 35 [(1,AV.val (Ty.sl yI) x0),(2,avI x1),(3,AV.addr 3 []),(9,AV.val (Ty.sl yI) x2),(10,avI x3),(11,avI x4)] [(3,Root.mk yS Mk.no x5 true)] 
def qmu (v0_0:List Int) (v0_1:Int) (v0_2:Bool):St:=stq 35 [(1,AV.val (Ty.sl yI) v0_0),(2,avI v0_1),(6,AV.val Ty.bool v0_2)] [] 
def qmr (v1_0:List Int) (v1_1:Int):St:=stq 35 [(1,AV.val (Ty.sl yI) v1_0),(2,avI v1_1)] [] 
theorem qbcz (D:DX)(n:Nat) (m:Nat) (K:Ex→St→Option (Out ctx 148)) (x0:List Int) (x1:Int) (x2:List Int) (x3:Int) (x4:Int) (x5:tSch) :
 LQ qc D n 148 [.r,.l,.r,.l] (m+1) (qjh x0 x1 x2 x3 x4 x5) K=qvm D n (fun x0 x1 x2 x3 x4 x5=>LQ qc D n 148 [.r,.l,.r,.l] m (qjh x0 x1 x2 x3 x4 x5) K) (fun v0_0 v0_1 v0_2=>K (Ex.ret) (qmu v0_0 v0_1 v0_2)) (fun v1_0 v1_1=>K (Ex.exit 0) (qmr v1_0 v1_1)) x0 x1 x2 x3 x4 x5:=by kernel_rfl
theorem q2m (D:DX)(n:Nat) (K:Ex→St→Option (Out ctx 148)):∀ (m:Nat) (x0:List Int) (x1:Int) (x2:List Int) (x3:Int) (x4:Int) (x5:tSch),LQ qc D n 148 [.r,.l,.r,.l] m (qjh x0 x1 x2 x3 x4 x5) K=qji D n (fun v0_0 v0_1 v0_2=>K (Ex.ret) (qmu v0_0 v0_1 v0_2)) (fun v1_0 v1_1=>K (Ex.exit 0) (qmr v1_0 v1_1)) m x0 x1 x2 x3 x4 x5
 | 0,x0,x1,x2,x3,x4,x5=>qz ..
 | m+1,x0,x1,x2,x3,x4,x5=>by
  have ih:(fun x0 x1 x2 x3 x4 x5=>LQ qc D n 148 [.r,.l,.r,.l] m (qjh x0 x1 x2 x3 x4 x5) K)=qji D n (fun v0_0 v0_1 v0_2=>K (Ex.ret) (qmu v0_0 v0_1 v0_2)) (fun v1_0 v1_1=>K (Ex.exit 0) (qmr v1_0 v1_1)) m:=by funext x0 x1 x2 x3 x4 x5;exact q2m D n K m x0 x1 x2 x3 x4 x5
  rw[qbcz]
  rw[ih];rfl
theorem qbah (D:DX)(n:Nat) (v0_0:List Int) (v0_1:Int) (v0_2:Bool) :
 (CQ qc D n 148 [] [.r,.l,.r,.l] (qi qc 148)) (Ex.ret) (qmu v0_0 v0_1 v0_2)=q0w D n v0_0 v0_1 v0_2:=by kernel_rfl
theorem qbbj (D:DX)(n:Nat) (v1_0:List Int) (v1_1:Int) :
 (CQ qc D n 148 [] [.r,.l,.r,.l] (qi qc 148)) (Ex.exit 0) (qmr v1_0 v1_1)=qtf D n v1_0 v1_1:=by kernel_rfl
theorem qbba (D:DX)(n:Nat) (x0:List Int) (x1:Int) (x2:List Int) (x3:Int) (x4:Int) (x5:tSch) :
 LQ qc D n 148 [.r,.l,.r,.l] n (qjh x0 x1 x2 x3 x4 x5) (CQ qc D n 148 [] [.r,.l,.r,.l] (qi qc 148))=qt4 D n x0 x1 x2 x3 x4 x5:=by
 rw[q2m]
 simp only[qbah,qbbj]
 rfl
theorem qbgi (D:DX)(n:Nat) (a0:tSch) (a1:List Int) (a2:Int):rfC qc D n 148 (a0,(a1,(a2,())))=qxt D n a0 a1 a2:=by
 have h:rfC qc D n 148 (a0,(a1,(a2,())))=qxl D n (fun x0 x1 x2 x3 x4 x5=>LQ qc D n 148 [.r,.l,.r,.l] n (qjh x0 x1 x2 x3 x4 x5) (CQ qc D n 148 [] [.r,.l,.r,.l] (qi qc 148))) a0 a1 a2:=by kernel_rfl
 rw[h]
 simp only[qbba]
 rfl

def q2g (D:DX)(n:Nat) (a0:ByteArray×List Int×Bool×Unit) (a1:ByteArray×List Int×Bool×Unit):Option ((Bool×Unit)×Unit):=some ((List.beq (ByteArray.toList (Prod.fst a0)) (ByteArray.toList (Prod.fst a1)),()),())
def qur (D:DX)(n:Nat) (a0:ByteArray×List Int×Bool×Unit) (a1:ByteArray×List Int×Bool×Unit):Option ((Bool×Unit)×Unit):=q2g D n a0 a1
theorem qbdq (D:DX)(n:Nat) (a0:ByteArray×List Int×Bool×Unit) (a1:ByteArray×List Int×Bool×Unit):rfC qc D n 149 (a0,(a1,()))=qur D n a0 a1:=by kernel_rfl

def qnu (D:DX)(n:Nat) (a1:Clo) (a0:List Int):Option ((Bool×Unit)×Unit):=qg (qku D a0 a1) fun b↦some ((decide (Prod.fst (Prod.fst b)≥0),()),())
def qiy (D:DX)(n:Nat) (a0:List Int) (a1:Clo):Option ((Bool×Unit)×Unit):=qnu D n a1 a0
theorem qxv (D:DX)(n:Nat) (a0:List Int) (a1:Clo):rfC qc D n 150 (a0,(a1,()))=qiy D n a0 a1:=by kernel_rfl

def q2k (D:DX)(n:Nat) (a0:Int) (a1:tSch):Option ((Bool×Unit)×Unit):=br (decide (0≤a0)&&decide (a0<(↑(List.length (Prod.fst a1)):Int))) (some ((Prod.fst (Prod.snd (Prod.snd (List.getD (Prod.fst a1) (Int.toNat a0) (ByteArray.empty,0,false,())))),()),())) none
def qul (D:DX)(n:Nat) (a0:Int) (a1:tSch):Option ((Bool×Unit)×Unit):=q2k D n a0 a1
theorem qbcs (D:DX)(n:Nat) (a0:Int) (a1:tSch):rfC qc D n 151 (a0,(a1,()))=qul D n a0 a1:=by kernel_rfl

def qte (D:DX)(n:Nat) (go:qe→Int→Int→qe→Option ((qe×Unit)×Unit)) (K0:qe→Option ((qe×Unit)×Unit)) (x0:qe) (x1:Int) (x2:Int) (x3:qe):Option ((qe×Unit)×Unit):=br (decide (x2<x1)) (br (decide (0≤x2)&&decide (x2<(↑(List.length x0):Int))) (qg (qbu D (List.getD x0 (Int.toNat x2) [])) fun b↦br (decide (List.length x3+1≤qbh)) (go x0 x1 (IntKind.wrap IntKind.i64 (x2+1)) (x3++[Prod.fst (Prod.fst b)])) none) none) (K0 x3)
def qhw (D:DX)(n:Nat) (K0:qe→Option ((qe×Unit)×Unit)):Nat→(qe)→(Int)→(Int)→(qe)→Option ((qe×Unit)×Unit) | 0=>(fun x0 x1 x2 x3=>none) | m+1=>(fun x0 x1 x2 x3=>qte D n (qhw D n K0 m) K0 x0 x1 x2 x3)
def qxp (D:DX)(n:Nat) (v0_0:qe):Option ((qe×Unit)×Unit):=some ((v0_0,()),())
def qrf (D:DX)(n:Nat):(qe)→(Int)→(Int)→(qe)→Option ((qe×Unit)×Unit):=(fun x0 x1 x2 x3=>qhw D n (fun v0_0=>qxp D n v0_0) n x0 x1 x2 x3)
def qun (D:DX)(n:Nat) (lp0:qe→Int→Int→qe→Option ((qe×Unit)×Unit)) (a0:qe):Option ((qe×Unit)×Unit):=lp0 a0 (↑(List.length a0):Int) 0 []
def que (D:DX)(n:Nat) (a0:qe):Option ((qe×Unit)×Unit):=qun D n (qrf D n) a0
def qhr (x0:qe) (x1:Int) (x2:Int) (x3:qe):St:=stq 20 [(3,AV.brw 3 [] 0),(7,AV.val (Ty.sl (Ty.sl yV)) x0),(8,avI x1),(9,avI x2)] [(3,Root.mk (Ty.sl (Ty.sl yV)) (Mk.own 0 (Mk.own 0 (Mk.pr Mk.no (Mk.pr Mk.no (Mk.pr Mk.no Mk.no))))) x3 false)] 
def qk6 (v0_0:qe):St:=stq 20 [(3,AV.brw 3 [] 0)] [(3,Root.mk (Ty.sl (Ty.sl yV)) (Mk.own 0 (Mk.own 0 (Mk.pr Mk.no (Mk.pr Mk.no (Mk.pr Mk.no Mk.no))))) v0_0 false)] 
theorem q9m (D:DX)(n:Nat) (m:Nat) (K:Ex→St→Option (Out ctx 152)) (x0:qe) (x1:Int) (x2:Int) (x3:qe) :
 LQ qc D n 152 [.r,.r,.l,.r,.l] (m+1) (qhr x0 x1 x2 x3) K=qte D n (fun x0 x1 x2 x3=>LQ qc D n 152 [.r,.r,.l,.r,.l] m (qhr x0 x1 x2 x3) K) (fun v0_0=>K (Ex.exit 0) (qk6 v0_0)) x0 x1 x2 x3:=by kernel_rfl
theorem qyd (D:DX)(n:Nat) (K:Ex→St→Option (Out ctx 152)):∀ (m:Nat) (x0:qe) (x1:Int) (x2:Int) (x3:qe),LQ qc D n 152 [.r,.r,.l,.r,.l] m (qhr x0 x1 x2 x3) K=qhw D n (fun v0_0=>K (Ex.exit 0) (qk6 v0_0)) m x0 x1 x2 x3
 | 0,x0,x1,x2,x3=>qz ..
 | m+1,x0,x1,x2,x3=>by
  have ih:(fun x0 x1 x2 x3=>LQ qc D n 152 [.r,.r,.l,.r,.l] m (qhr x0 x1 x2 x3) K)=qhw D n (fun v0_0=>K (Ex.exit 0) (qk6 v0_0)) m:=by funext x0 x1 x2 x3;exact qyd D n K m x0 x1 x2 x3
  rw[q9m]
  rw[ih];rfl
theorem q8g (D:DX)(n:Nat) (v0_0:qe) :
 (CQ qc D n 152 [] [.r,.r,.l,.r,.l] (qi qc 152)) (Ex.exit 0) (qk6 v0_0)=qxp D n v0_0:=by kernel_rfl
theorem q8z (D:DX)(n:Nat) (x0:qe) (x1:Int) (x2:Int) (x3:qe) :
 LQ qc D n 152 [.r,.r,.l,.r,.l] n (qhr x0 x1 x2 x3) (CQ qc D n 152 [] [.r,.r,.l,.r,.l] (qi qc 152))=qrf D n x0 x1 x2 x3:=by
 rw[qyd]
 simp only[q8g]
 rfl
theorem qbdt (D:DX)(n:Nat) (a0:qe):rfC qc D n 152 (a0,())=que D n a0:=by
 have h:rfC qc D n 152 (a0,())=qun D n (fun x0 x1 x2 x3=>LQ qc D n 152 [.r,.r,.l,.r,.l] n (qhr x0 x1 x2 x3) (CQ qc D n 152 [] [.r,.r,.l,.r,.l] (qi qc 152))) a0:=by kernel_rfl
 rw[h]
 simp only[q8z]
 rfl

def q6s (D:DX)(n:Nat) (a0:qd) (a1:(tSch)×qe×Unit) (a2:qd):Option ((Bool×Unit)×Unit):=qg (qc5 D (Prod.fst a1) a0) fun b↦qg (qd3 D (Prod.fst (Prod.fst b)) a2) fun b↦some ((Prod.fst (Prod.fst b),()),())
def qy6 (D:DX)(n:Nat) (a0:qd) (a1:(tSch)×qe×Unit) (a2:qd):Option ((Bool×Unit)×Unit):=q6s D n a0 a1 a2
theorem qbiw (D:DX)(n:Nat) (a0:qd) (a1:(tSch)×
 qe×Unit) (a2:qd):rfC qc D n 153 (a0,(a1,(a2,())))=qy6 D n a0 a1 a2:=by kernel_rfl

def q68 (D:DX)(n:Nat) (a0:Int×Int×ByteArray×Unit):Option ((Bool×Unit)×Unit):=br (decide (Prod.fst a0=0)) (some ((bif decide (Prod.fst (Prod.snd a0)=0) then List.beq (ByteArray.toList (Prod.fst (Prod.snd (Prod.snd a0)))) (ByteArray.toList (ByteArray.mk #[])) else false,()),())) (br (decide (Prod.fst a0=1)) (qg (qh4 D (Prod.fst (Prod.snd a0)) 0 1) fun b↦some ((bif Prod.fst (Prod.fst b) then List.beq (ByteArray.toList (Prod.fst (Prod.snd (Prod.snd a0)))) (ByteArray.toList (ByteArray.mk #[])) else false,()),())) (br (decide (Prod.fst a0=2)) (qg (qh4 D (Prod.fst (Prod.snd a0)) (-1000000000000) 1000000000000) fun b↦some ((bif Prod.fst (Prod.fst b) then List.beq (ByteArray.toList (Prod.fst (Prod.snd (Prod.snd a0)))) (ByteArray.toList (ByteArray.mk #[])) else false,()),())) (br (decide (Prod.fst a0=3)) (some ((bif decide (Prod.fst (Prod.snd a0)=0) then decide ((↑(ByteArray.size (Prod.fst (Prod.snd (Prod.snd a0)))):Int)≤20) else false,()),())) (some ((false,()),())))))
def qz4 (D:DX)(n:Nat) (a0:Int×Int×ByteArray×Unit):Option ((Bool×Unit)×Unit):=q68 D n a0
theorem qbjf (D:DX)(n:Nat) (a0:Int×Int×ByteArray×Unit):rfC qc D n 158 (a0,())=qz4 D n a0:=by kernel_rfl

def qw7 (D:DX)(n:Nat) (go:qd→qd→Int→Option ((Bool×Unit)×Unit)) (K0:qd→qd→Bool→Option ((Bool×Unit)×Unit)) (K1:qd→qd→Option ((Bool×Unit)×Unit)) (x0:qd) (x1:qd) (x2:Int):Option ((Bool×Unit)×Unit):=br (bif decide (x2<(↑(List.length x0):Int)) then decide (x2<(↑(List.length x1):Int)) else false) (br (decide (0≤x2)&&decide (x2<(↑(List.length x0):Int))) (br (decide (0≤x2)&&decide (x2<(↑(List.length x1):Int))) (qg (qpp D (List.getD x0 (Int.toNat x2) (0,0,ByteArray.empty,())) (List.getD x1 (Int.toNat x2) (0,0,ByteArray.empty,()))) fun b↦br (!Prod.fst (Prod.fst b)) (K0 x0 x1 false) (go x0 x1 (IntKind.wrap IntKind.i64 (x2+1)))) none) none) (K1 x0 x1)
def qkh (D:DX)(n:Nat) (K0:qd→qd→Bool→Option ((Bool×Unit)×Unit)) (K1:qd→qd→Option ((Bool×Unit)×Unit)):Nat→(qd)→(qd)→(Int)→Option ((Bool×Unit)×Unit) | 0=>(fun x0 x1 x2=>none) | m+1=>(fun x0 x1 x2=>qw7 D n (qkh D n K0 K1 m) K0 K1 x0 x1 x2)
def qus (D:DX)(n:Nat) (v0_0:qd) (v0_1:qd) (v0_2:Bool):Option ((Bool×Unit)×Unit):=some ((v0_2,()),())
def qk0 (D:DX)(n:Nat) (v1_0:qd) (v1_1:qd):Option ((Bool×Unit)×Unit):=some ((decide ((↑(List.length v1_0):Int)=(↑(List.length v1_1):Int)),()),())
def qv0 (D:DX)(n:Nat):(qd)→(qd)→(Int)→Option ((Bool×Unit)×Unit):=(fun x0 x1 x2=>qkh D n (fun v0_0 v0_1 v0_2=>qus D n v0_0 v0_1 v0_2) (fun v1_0 v1_1=>qk0 D n v1_0 v1_1) n x0 x1 x2)
def qy1 (D:DX)(n:Nat) (lp0:qd→qd→Int→Option ((Bool×Unit)×Unit)) (a0:qd) (a1:qd):Option ((Bool×Unit)×Unit):=lp0 a0 a1 0
def qz1 (D:DX)(n:Nat) (a0:qd) (a1:qd):Option ((Bool×Unit)×Unit):=qy1 D n (qv0 D n) a0 a1
def qko (x0:qd) (x1:qd) (x2:Int):St:=stq 33 [(0,AV.val (Ty.sl yV) x0),(1,AV.val (Ty.sl yV) x1),(5,avI x2)] [] 
def qof (v0_0:qd) (v0_1:qd) (v0_2:Bool):St:=stq 33 [(0,AV.val (Ty.sl yV) v0_0),(1,AV.val (Ty.sl yV) v0_1),(4,AV.val Ty.bool v0_2)] [] 
def qoc (v1_0:qd) (v1_1:qd):St:=stq 33 [(0,AV.val (Ty.sl yV) v1_0),(1,AV.val (Ty.sl yV) v1_1)] [] 
theorem qbfm (D:DX)(n:Nat) (m:Nat) (K:Ex→St→Option (Out ctx 159)) (x0:qd) (x1:qd) (x2:Int) :
 LQ qc D n 159 [.r,.l,.r,.l] (m+1) (qko x0 x1 x2) K=qw7 D n (fun x0 x1 x2=>LQ qc D n 159 [.r,.l,.r,.l] m (qko x0 x1 x2) K) (fun v0_0 v0_1 v0_2=>K (Ex.ret) (qof v0_0 v0_1 v0_2)) (fun v1_0 v1_1=>K (Ex.exit 0) (qoc v1_0 v1_1)) x0 x1 x2:=by kernel_rfl
theorem q4n (D:DX)(n:Nat) (K:Ex→St→Option (Out ctx 159)):∀ (m:Nat) (x0:qd) (x1:qd) (x2:Int),LQ qc D n 159 [.r,.l,.r,.l] m (qko x0 x1 x2) K=qkh D n (fun v0_0 v0_1 v0_2=>K (Ex.ret) (qof v0_0 v0_1 v0_2)) (fun v1_0 v1_1=>K (Ex.exit 0) (qoc v1_0 v1_1)) m x0 x1 x2
 | 0,x0,x1,x2=>qz ..
 | m+1,x0,x1,x2=>by
  have ih:(fun x0 x1 x2=>LQ qc D n 159 [.r,.l,.r,.l] m (qko x0 x1 x2) K)=qkh D n (fun v0_0 v0_1 v0_2=>K (Ex.ret) (qof v0_0 v0_1 v0_2)) (fun v1_0 v1_1=>K (Ex.exit 0) (qoc v1_0 v1_1)) m:=by funext x0 x1 x2;exact q4n D n K m x0 x1 x2
  rw[qbfm]
  rw[ih];rfl
theorem qbc1 (D:DX)(n:Nat) (v0_0:qd) (v0_1:qd) (v0_2:Bool) :
 (CQ qc D n 159 [] [.r,.l,.r,.l] (qi qc 159)) (Ex.ret) (qof v0_0 v0_1 v0_2)=qus D n v0_0 v0_1 v0_2:=by kernel_rfl
theorem qbcp (D:DX)(n:Nat) (v1_0:qd) (v1_1:qd) :
 (CQ qc D n 159 [] [.r,.l,.r,.l] (qi qc 159)) (Ex.exit 0) (qoc v1_0 v1_1)=qk0 D n v1_0 v1_1:=by kernel_rfl
theorem qbc5 (D:DX)(n:Nat) (x0:qd) (x1:qd) (x2:Int) :
 LQ qc D n 159 [.r,.l,.r,.l] n (qko x0 x1 x2) (CQ qc D n 159 [] [.r,.l,.r,.l] (qi qc 159))=qv0 D n x0 x1 x2:=by
 rw[q4n]
 simp only[qbc1,qbcp]
 rfl
theorem qbje (D:DX)(n:Nat) (a0:qd) (a1:qd):rfC qc D n 159 (a0,(a1,()))=qz1 D n a0 a1:=by
 have h:rfC qc D n 159 (a0,(a1,()))=qy1 D n (fun x0 x1 x2=>LQ qc D n 159 [.r,.l,.r,.l] n (qko x0 x1 x2) (CQ qc D n 159 [] [.r,.l,.r,.l] (qi qc 159))) a0 a1:=by kernel_rfl
 rw[h]
 simp only[qbc5]
 rfl

def q31 (D:DX)(n:Nat) (a0:Int×Int×ByteArray×Unit) (a1:Int×Int×ByteArray×Unit):Option ((Bool×Unit)×Unit):=some ((qld (Ty.pair (Ty.int IntKind.i64) (Ty.pair (Ty.int IntKind.i64) (Ty.pair Ty.str Ty.unit))) a0 a1,()),())
def qvk (D:DX)(n:Nat) (a0:Int×Int×ByteArray×Unit) (a1:Int×Int×ByteArray×Unit):Option ((Bool×Unit)×Unit):=q31 D n a0 a1
theorem qbf1 (D:DX)(n:Nat) (a0:Int×Int×ByteArray×Unit) (a1:Int×Int×ByteArray×Unit):rfC qc D n 160 (a0,(a1,()))=qvk D n a0 a1:=by kernel_rfl

def q4b (D:DX)(n:Nat) (a0:Int×Int×ByteArray×Unit) (a1:Int×Int×ByteArray×Unit):Option ((Bool×Unit)×Unit):=br (Prod.fst a0 != Prod.fst a1) (some ((decide (Prod.fst a0<Prod.fst a1),()),())) (br (Prod.fst (Prod.snd a0) != Prod.fst (Prod.snd a1)) (some ((decide (Prod.fst (Prod.snd a0)<Prod.fst (Prod.snd a1)),()),())) (some ((Op.bytesLess (ByteArray.toList (Prod.fst (Prod.snd (Prod.snd a0)))) (ByteArray.toList (Prod.fst (Prod.snd (Prod.snd a1)))),()),())))
def qvp (D:DX)(n:Nat) (a0:Int×Int×ByteArray×Unit) (a1:Int×Int×ByteArray×Unit):Option ((Bool×Unit)×Unit):=q4b D n a0 a1
theorem qbfp (D:DX)(n:Nat) (a0:Int×Int×ByteArray×Unit) (a1:Int×Int×ByteArray×Unit):rfC qc D n 161 (a0,(a1,()))=qvp D n a0 a1:=by kernel_rfl

def q87 (D:DX)(n:Nat) (a0:List Int×Int×Int×Unit) (a1:List ByteArray):Option ((ByteArray×Unit)×tCur×Unit):=qg (qdf D a0 (↑(List.length a1):Int)) fun b↦br (decide (0≤Prod.fst (Prod.fst b))&&decide (Prod.fst (Prod.fst b)<(↑(List.length a1):Int))) (some ((List.getD a1 (Int.toNat (Prod.fst (Prod.fst b))) ByteArray.empty,()),Prod.fst (Prod.snd b),())) none
def q1i (D:DX)(n:Nat) (a0:List Int×Int×Int×Unit) (a1:List ByteArray):Option ((ByteArray×Unit)×tCur×Unit):=q87 D n a0 a1
theorem qbl7 (D:DX)(n:Nat) (a0:List Int×Int×Int×Unit) (a1:List ByteArray):rfC qc D n 162 (a0,(a1,()))=q1i D n a0 a1:=by kernel_rfl

def q3f (D:DX)(n:Nat) (a0:List Int×Int×Int×Unit) (a1:List Int):Option ((Int×Unit)×tCur×Unit):=qg (qdf D a0 (↑(List.length a1):Int)) fun b↦br (decide (0≤Prod.fst (Prod.fst b))&&decide (Prod.fst (Prod.fst b)<(↑(List.length a1):Int))) (some ((List.getD a1 (Int.toNat (Prod.fst (Prod.fst b))) 0,()),Prod.fst (Prod.snd b),())) none
def qvw (D:DX)(n:Nat) (a0:List Int×Int×Int×Unit) (a1:List Int):Option ((Int×Unit)×tCur×Unit):=q3f D n a0 a1
theorem qbex (D:DX)(n:Nat) (a0:List Int×Int×Int×Unit) (a1:List Int):rfC qc D n 163 (a0,(a1,()))=qvw D n a0 a1:=by kernel_rfl

def qlv (D:DX)(n:Nat) (a0:qei):Option ((qei×Unit)×Unit):=br (decide (Int.toNat (↑(List.length a0):Int)=0)) (both (some (([],()),())) (br (decide (0+List.length a0≤qbh)) (some (([]++a0,()),())) none)) (br (decide (0+List.length a0≤qbh)) (some (([]++a0,()),())) none)
def qhd (D:DX)(n:Nat) (a0:qei):Option ((qei×Unit)×Unit):=qlv D n a0
theorem qvf (D:DX)(n:Nat) (a0:qei):rfC qc D n 164 (a0,())=qhd D n a0:=by kernel_rfl

def qw0 (D:DX)(n:Nat) (go:qd→Int→Option ((Bool×Unit)×Unit)) (K0:Bool→Option ((Bool×Unit)×Unit)) (K1:Option ((Bool×Unit)×Unit)) (x0:qd) (x1:Int):Option ((Bool×Unit)×Unit):=br (decide (x1<(↑(List.length x0):Int))) (br (decide (0≤x1)&&decide (x1<(↑(List.length x0):Int))) (br (decide (Prod.fst (List.getD x0 (Int.toNat x1) (0,0,ByteArray.empty,()))=0)) (K0 true) (go x0 (IntKind.wrap IntKind.i64 (x1+1)))) none) K1
def qks (D:DX)(n:Nat) (K0:Bool→Option ((Bool×Unit)×Unit)) (K1:Option ((Bool×Unit)×Unit)):Nat→(qd)→(Int)→Option ((Bool×Unit)×Unit) | 0=>(fun x0 x1=>none) | m+1=>(fun x0 x1=>qw0 D n (qks D n K0 K1 m) K0 K1 x0 x1)
def q2e (D:DX)(n:Nat) (v0_0:Bool):Option ((Bool×Unit)×Unit):=some ((v0_0,()),())
def q2b (D:DX)(n:Nat):Option ((Bool×Unit)×Unit):=some ((false,()),())
def qvr (D:DX)(n:Nat):(qd)→(Int)→Option ((Bool×Unit)×Unit):=(fun x0 x1=>qks D n (fun v0_0=>q2e D n v0_0) (q2b D n) n x0 x1)
def qyw (D:DX)(n:Nat) (lp0:qd→Int→Option ((Bool×Unit)×Unit)) (a0:qd):Option ((Bool×Unit)×Unit):=lp0 a0 0
def qzw (D:DX)(n:Nat) (a0:qd):Option ((Bool×Unit)×Unit):=qyw D n (qvr D n) a0
def qkr (x0:qd) (x1:Int):St:=stq 16 [(0,AV.val (Ty.sl yV) x0),(3,avI x1)] [] 
def qoi (v0_0:Bool):St:=stq 16 [(2,AV.val Ty.bool v0_0)] [] 
def qn9:St:=stq 16 [] [] 
theorem qbe5 (D:DX)(n:Nat) (m:Nat) (K:Ex→St→Option (Out ctx 165)) (x0:qd) (x1:Int) :
 LQ qc D n 165 [.r,.l,.r,.l] (m+1) (qkr x0 x1) K=qw0 D n (fun x0 x1=>LQ qc D n 165 [.r,.l,.r,.l] m (qkr x0 x1) K) (fun v0_0=>K (Ex.ret) (qoi v0_0)) (K (Ex.exit 0) (qn9)) x0 x1:=by kernel_rfl
theorem q38 (D:DX)(n:Nat) (K:Ex→St→Option (Out ctx 165)):∀ (m:Nat) (x0:qd) (x1:Int),LQ qc D n 165 [.r,.l,.r,.l] m (qkr x0 x1) K=qks D n (fun v0_0=>K (Ex.ret) (qoi v0_0)) (K (Ex.exit 0) (qn9)) m x0 x1
 | 0,x0,x1=>qz ..
 | m+1,x0,x1=>by
  have ih:(fun x0 x1=>LQ qc D n 165 [.r,.l,.r,.l] m (qkr x0 x1) K)=qks D n (fun v0_0=>K (Ex.ret) (qoi v0_0)) (K (Ex.exit 0) (qn9)) m:=by funext x0 x1;exact q38 D n K m x0 x1
  rw[qbe5]
  rw[ih];rfl
theorem qbcv (D:DX)(n:Nat) (v0_0:Bool) :
 (CQ qc D n 165 [] [.r,.l,.r,.l] (qi qc 165)) (Ex.ret) (qoi v0_0)=q2e D n v0_0:=by kernel_rfl
theorem qbcr (D:DX)(n:Nat) :
 (CQ qc D n 165 [] [.r,.l,.r,.l] (qi qc 165)) (Ex.exit 0) (qn9)=q2b D n:=by kernel_rfl
theorem qbdl (D:DX)(n:Nat) (x0:qd) (x1:Int) :
 LQ qc D n 165 [.r,.l,.r,.l] n (qkr x0 x1) (CQ qc D n 165 [] [.r,.l,.r,.l] (qi qc 165))=qvr D n x0 x1:=by
 rw[q38]
 simp only[qbcv,qbcr]
 rfl
theorem qbjh (D:DX)(n:Nat) (a0:qd):rfC qc D n 165 (a0,())=qzw D n a0:=by
 have h:rfC qc D n 165 (a0,())=qyw D n (fun x0 x1=>LQ qc D n 165 [.r,.l,.r,.l] n (qkr x0 x1) (CQ qc D n 165 [] [.r,.l,.r,.l] (qi qc 165))) a0:=by kernel_rfl
 rw[h]
 simp only[qbdl]
 rfl

def qub (D:DX)(n:Nat) (go:ByteArray→Int→Option ((Bool×Unit)×Unit)) (K0:ByteArray→Bool→Option ((Bool×Unit)×Unit)) (K1:ByteArray→Option ((Bool×Unit)×Unit)) (x0:ByteArray) (x1:Int):Option ((Bool×Unit)×Unit):=br (decide (x1<(↑(ByteArray.size x0):Int))) (br (decide (0≤x1)&&decide (x1<(↑(ByteArray.size x0):Int))) (br (decide ((↑(UInt8.toNat (Array.getD (ByteArray.data x0) (Int.toNat x1) (UInt8.ofNat 0))):Int)<97)) (K0 x0 false) (br (decide (0≤x1)&&decide (x1<(↑(ByteArray.size x0):Int))) (br (decide ((↑(UInt8.toNat (Array.getD (ByteArray.data x0) (Int.toNat x1) (UInt8.ofNat 0))):Int)>122)) (K0 x0 false) (go x0 (IntKind.wrap IntKind.i64 (x1+1)))) none)) none) (K1 x0)
def qin (D:DX)(n:Nat) (K0:ByteArray→Bool→Option ((Bool×Unit)×Unit)) (K1:ByteArray→Option ((Bool×Unit)×Unit)):Nat→(ByteArray)→(Int)→Option ((Bool×Unit)×Unit) | 0=>(fun x0 x1=>none) | m+1=>(fun x0 x1=>qub D n (qin D n K0 K1 m) K0 K1 x0 x1)
def qyc (D:DX)(n:Nat) (v0_0:ByteArray) (v0_1:Bool):Option ((Bool×Unit)×Unit):=some ((v0_1,()),())
def qq8 (D:DX)(n:Nat) (v1_0:ByteArray):Option ((Bool×Unit)×Unit):=qg (qh4 D (↑(ByteArray.size v1_0):Int) 1 12) fun b↦some ((Prod.fst (Prod.fst b),()),())
def qsh (D:DX)(n:Nat):(ByteArray)→(Int)→Option ((Bool×Unit)×Unit):=(fun x0 x1=>qin D n (fun v0_0 v0_1=>qyc D n v0_0 v0_1) (fun v1_0=>qq8 D n v1_0) n x0 x1)
def qvx (D:DX)(n:Nat) (lp0:ByteArray→Int→Option ((Bool×Unit)×Unit)) (a0:ByteArray):Option ((Bool×Unit)×Unit):=lp0 a0 0
def qvh (D:DX)(n:Nat) (a0:ByteArray):Option ((Bool×Unit)×Unit):=qvx D n (qsh D n) a0
def qii (x0:ByteArray) (x1:Int):St:=stq 23 [(0,AV.val Ty.str x0),(3,avI x1)] [] 
def ql3 (v0_0:ByteArray) (v0_1:Bool):St:=stq 23 [(0,AV.val Ty.str v0_0),(2,AV.val Ty.bool v0_1)] [] 
def ql5 (v1_0:ByteArray):St:=stq 23 [(0,AV.val Ty.str v1_0)] [] 
theorem qbbl (D:DX)(n:Nat) (m:Nat) (K:Ex→St→Option (Out ctx 166)) (x0:ByteArray) (x1:Int) :
 LQ qc D n 166 [.r,.l,.r,.l] (m+1) (qii x0 x1) K=qub D n (fun x0 x1=>LQ qc D n 166 [.r,.l,.r,.l] m (qii x0 x1) K) (fun v0_0 v0_1=>K (Ex.ret) (ql3 v0_0 v0_1)) (fun v1_0=>K (Ex.exit 0) (ql5 v1_0)) x0 x1:=by kernel_rfl
theorem q03 (D:DX)(n:Nat) (K:Ex→St→Option (Out ctx 166)):∀ (m:Nat) (x0:ByteArray) (x1:Int),LQ qc D n 166 [.r,.l,.r,.l] m (qii x0 x1) K=qin D n (fun v0_0 v0_1=>K (Ex.ret) (ql3 v0_0 v0_1)) (fun v1_0=>K (Ex.exit 0) (ql5 v1_0)) m x0 x1
 | 0,x0,x1=>qz ..
 | m+1,x0,x1=>by
  have ih:(fun x0 x1=>LQ qc D n 166 [.r,.l,.r,.l] m (qii x0 x1) K)=qin D n (fun v0_0 v0_1=>K (Ex.ret) (ql3 v0_0 v0_1)) (fun v1_0=>K (Ex.exit 0) (ql5 v1_0)) m:=by funext x0 x1;exact q03 D n K m x0 x1
  rw[qbbl]
  rw[ih];rfl
theorem q90 (D:DX)(n:Nat) (v0_0:ByteArray) (v0_1:Bool) :
 (CQ qc D n 166 [] [.r,.l,.r,.l] (qi qc 166)) (Ex.ret) (ql3 v0_0 v0_1)=qyc D n v0_0 v0_1:=by kernel_rfl
theorem q91 (D:DX)(n:Nat) (v1_0:ByteArray) :
 (CQ qc D n 166 [] [.r,.l,.r,.l] (qi qc 166)) (Ex.exit 0) (ql5 v1_0)=qq8 D n v1_0:=by kernel_rfl
theorem q9z (D:DX)(n:Nat) (x0:ByteArray) (x1:Int) :
 LQ qc D n 166 [.r,.l,.r,.l] n (qii x0 x1) (CQ qc D n 166 [] [.r,.l,.r,.l] (qi qc 166))=qsh D n x0 x1:=by
 rw[q03]
 simp only[q90,q91]
 rfl
theorem qbfw (D:DX)(n:Nat) (a0:ByteArray):rfC qc D n 166 (a0,())=qvh D n a0:=by
 have h:rfC qc D n 166 (a0,())=qvx D n (fun x0 x1=>LQ qc D n 166 [.r,.l,.r,.l] n (qii x0 x1) (CQ qc D n 166 [] [.r,.l,.r,.l] (qi qc 166))) a0:=by kernel_rfl
 rw[h]
 simp only[q9z]
 rfl

def q10 (D:DX)(n:Nat) (go:ByteArray→Int→tSch→Option ((Int×Unit)×Unit)) (K0:Int→Option ((Int×Unit)×Unit)) (K1:Option ((Int×Unit)×Unit)) (x0:ByteArray) (x1:Int) (x2:tSch):Option ((Int×Unit)×Unit):=br (decide (x1<(↑(List.length (Prod.fst x2)):Int))) (br (decide (0≤x1)&&decide (x1<(↑(List.length (Prod.fst x2)):Int))) (br (List.beq (ByteArray.toList (Prod.fst (List.getD (Prod.fst x2) (Int.toNat x1) (ByteArray.empty,0,false,())))) (ByteArray.toList x0)) (K0 x1) (go x0 (IntKind.wrap IntKind.i64 (x1+1)) x2)) none) K1
def qmn (D:DX)(n:Nat) (K0:Int→Option ((Int×Unit)×Unit)) (K1:Option ((Int×Unit)×Unit)):Nat→(ByteArray)→(Int)→(tSch)→Option ((Int×Unit)×Unit) | 0=>(fun x0 x1 x2=>none) | m+1=>(fun x0 x1 x2=>q10 D n (qmn D n K0 K1 m) K0 K1 x0 x1 x2)
def q5i (D:DX)(n:Nat) (v0_0:Int):Option ((Int×Unit)×Unit):=some ((v0_0,()),())
def q5a (D:DX)(n:Nat):Option ((Int×Unit)×Unit):=some ((-1,()),())
def qyp (D:DX)(n:Nat):(ByteArray)→(Int)→(tSch)→Option ((Int×Unit)×Unit):=(fun x0 x1 x2=>qmn D n (fun v0_0=>q5i D n v0_0) (q5a D n) n x0 x1 x2)
def q4g (D:DX)(n:Nat) (lp0:ByteArray→Int→tSch→Option ((Int×Unit)×Unit)) (a0:tSch) (a1:ByteArray):Option ((Int×Unit)×Unit):=lp0 a1 0 a0
def q4h (D:DX)(n:Nat) (a0:tSch) (a1:ByteArray):Option ((Int×Unit)×Unit):=q4g D n (qyp D n) a0 a1
def qmp (x0:ByteArray) (x1:Int) (x2:tSch):St:=stq 22 [(1,AV.val Ty.str x0),(2,AV.addr 2 []),(5,avI x1)] [(2,Root.mk yS Mk.no x2 true)] 
def qr6 (v0_0:Int):St:=stq 22 [(4,avI v0_0)] [] 
def qrv:St:=stq 22 [] [] 
theorem qbiv (D:DX)(n:Nat) (m:Nat) (K:Ex→St→Option (Out ctx 167)) (x0:ByteArray) (x1:Int) (x2:tSch) :
 LQ qc D n 167 [.r,.l,.r,.l] (m+1) (qmp x0 x1 x2) K=q10 D n (fun x0 x1 x2=>LQ qc D n 167 [.r,.l,.r,.l] m (qmp x0 x1 x2) K) (fun v0_0=>K (Ex.ret) (qr6 v0_0)) (K (Ex.exit 0) (qrv)) x0 x1 x2:=by kernel_rfl
theorem q64 (D:DX)(n:Nat) (K:Ex→St→Option (Out ctx 167)):∀ (m:Nat) (x0:ByteArray) (x1:Int) (x2:tSch),LQ qc D n 167 [.r,.l,.r,.l] m (qmp x0 x1 x2) K=qmn D n (fun v0_0=>K (Ex.ret) (qr6 v0_0)) (K (Ex.exit 0) (qrv)) m x0 x1 x2
 | 0,x0,x1,x2=>qz ..
 | m+1,x0,x1,x2=>by
  have ih:(fun x0 x1 x2=>LQ qc D n 167 [.r,.l,.r,.l] m (qmp x0 x1 x2) K)=qmn D n (fun v0_0=>K (Ex.ret) (qr6 v0_0)) (K (Ex.exit 0) (qrv)) m:=by funext x0 x1 x2;exact q64 D n K m x0 x1 x2
  rw[qbiv]
  rw[ih];rfl
theorem qbhc (D:DX)(n:Nat) (v0_0:Int) :
 (CQ qc D n 167 [] [.r,.l,.r,.l] (qi qc 167)) (Ex.ret) (qr6 v0_0)=q5i D n v0_0:=by kernel_rfl
theorem qbhq (D:DX)(n:Nat) :
 (CQ qc D n 167 [] [.r,.l,.r,.l] (qi qc 167)) (Ex.exit 0) (qrv)=q5a D n:=by kernel_rfl
theorem qbg8 (D:DX)(n:Nat) (x0:ByteArray) (x1:Int) (x2:tSch) :
 LQ qc D n 167 [.r,.l,.r,.l] n (qmp x0 x1 x2) (CQ qc D n 167 [] [.r,.l,.r,.l] (qi qc 167))=qyp D n x0 x1 x2:=by
 rw[q64]
 simp only[qbhc,qbhq]
 rfl
theorem qbny (D:DX)(n:Nat) (a0:tSch) (a1:ByteArray):rfC qc D n 167 (a0,(a1,()))=q4h D n a0 a1:=by
 have h:rfC qc D n 167 (a0,(a1,()))=q4g D n (fun x0 x1 x2=>LQ qc D n 167 [.r,.l,.r,.l] n (qmp x0 x1 x2) (CQ qc D n 167 [] [.r,.l,.r,.l] (qi qc 167))) a0 a1:=by kernel_rfl
 rw[h]
 simp only[qbg8]
 rfl

def qt3 (D:DX)(n:Nat) (go:List Int→Int→Int→Int→tSch→Option ((Bool×Unit)×Unit)) (K0:List Int→Int→Bool→Int→tSch→Option ((Bool×Unit)×Unit)) (K1:List Int→Int→Int→tSch→Option ((Bool×Unit)×Unit)) (x1_0:List Int) (x1_1:Int) (x1_2:Int) (x1_3:Int) (x1_4:tSch):Option ((Bool×Unit)×Unit):=br (decide (x1_3<x1_2)) (br (decide (0≤x1_3)&&decide (x1_3<(↑(List.length x1_0):Int))) (br (decide (0≤x1_2)&&decide (x1_2<(↑(List.length x1_0):Int))) (br (decide (List.getD x1_0 (Int.toNat x1_3) 0=List.getD x1_0 (Int.toNat x1_2) 0)) (K0 x1_0 x1_1 false x1_2 x1_4) (go x1_0 x1_1 x1_2 (IntKind.wrap IntKind.i64 (x1_3+1)) x1_4)) none) none) (K1 x1_0 x1_1 x1_2 x1_4)
def qif (D:DX)(n:Nat) (K0:List Int→Int→Bool→Int→tSch→Option ((Bool×Unit)×Unit)) (K1:List Int→Int→Int→tSch→Option ((Bool×Unit)×Unit)):Nat→(List Int)→(Int)→(Int)→(Int)→(tSch)→Option ((Bool×Unit)×Unit) | 0=>(fun x1_0 x1_1 x1_2 x1_3 x1_4=>none) | m+1=>(fun x1_0 x1_1 x1_2 x1_3 x1_4=>qt3 D n (qif D n K0 K1 m) K0 K1 x1_0 x1_1 x1_2 x1_3 x1_4)
def qx0 (D:DX)(n:Nat) (go:List Int→Int→Int→tSch→Option ((Bool×Unit)×Unit)) (K0:List Int→Int→Bool→Option ((Bool×Unit)×Unit)) (K1:List Int→Int→Option ((Bool×Unit)×Unit)) (v0_0:List Int) (v0_1:Int) (v0_2:Bool) (v0_3:Int) (v0_4:tSch):Option ((Bool×Unit)×Unit):=K0 v0_0 v0_1 v0_2
def qqv (D:DX)(n:Nat) (go:List Int→Int→Int→tSch→Option ((Bool×Unit)×Unit)) (K0:List Int→Int→Bool→Option ((Bool×Unit)×Unit)) (K1:List Int→Int→Option ((Bool×Unit)×Unit)) (v1_0:List Int) (v1_1:Int) (v1_2:Int) (v1_3:tSch):Option ((Bool×Unit)×Unit):=go v1_0 v1_1 (IntKind.wrap IntKind.i64 (v1_2+1)) v1_3
def qsx (D:DX)(n:Nat) (go:List Int→Int→Int→tSch→Option ((Bool×Unit)×Unit)) (K0:List Int→Int→Bool→Option ((Bool×Unit)×Unit)) (K1:List Int→Int→Option ((Bool×Unit)×Unit)):(List Int)→(Int)→(Int)→(Int)→(tSch)→Option ((Bool×Unit)×Unit):=(fun x1_0 x1_1 x1_2 x1_3 x1_4=>qif D n (fun v0_0 v0_1 v0_2 v0_3 v0_4=>qx0 D n go K0 K1 v0_0 v0_1 v0_2 v0_3 v0_4) (fun v1_0 v1_1 v1_2 v1_3=>qqv D n go K0 K1 v1_0 v1_1 v1_2 v1_3) n x1_0 x1_1 x1_2 x1_3 x1_4)
def qty (D:DX)(n:Nat) (go:List Int→Int→Int→tSch→Option ((Bool×Unit)×Unit)) (K0:List Int→Int→Bool→Option ((Bool×Unit)×Unit)) (K1:List Int→Int→Option ((Bool×Unit)×Unit)) (lp1:List Int→Int→Int→Int→tSch→Option ((Bool×Unit)×Unit)) (x0:List Int) (x1:Int) (x2:Int) (x3:tSch):Option ((Bool×Unit)×Unit):=br (decide (x2<(↑(List.length x0):Int))) (br (decide (0≤x2)&&decide (x2<(↑(List.length x0):Int))) (qg (qh4 D (List.getD x0 (Int.toNat x2) 0) 0 (IntKind.wrap IntKind.i64 ((↑(List.length (Prod.fst x3)):Int) - 1))) fun b↦br (!Prod.fst (Prod.fst b)) (K0 x0 x1 false) (lp1 x0 x1 x2 0 x3)) none) (K1 x0 x1)
def qfd (D:DX)(n:Nat) (K0:List Int→Int→Bool→Option ((Bool×Unit)×Unit)) (K1:List Int→Int→Option ((Bool×Unit)×Unit)):Nat→(List Int)→(Int)→(Int)→(tSch)→Option ((Bool×Unit)×Unit) | 0=>(fun x0 x1 x2 x3=>none) | m+1=>(fun x0 x1 x2 x3=>qty D n (qfd D n K0 K1 m) K0 K1 (qsx D n (qfd D n K0 K1 m) K0 K1) x0 x1 x2 x3)
def qrd (D:DX)(n:Nat) (v0_0:List Int) (v0_1:Int) (v0_2:Bool):Option ((Bool×Unit)×Unit):=some ((v0_2,()),())
def ql7 (D:DX)(n:Nat) (v1_0:List Int) (v1_1:Int):Option ((Bool×Unit)×Unit):=qg (qh4 D (↑(List.length v1_0):Int) 1 v1_1) fun b↦some ((Prod.fst (Prod.fst b),()),())
def qsp (D:DX)(n:Nat):(List Int)→(Int)→(Int)→(tSch)→Option ((Bool×Unit)×Unit):=(fun x0 x1 x2 x3=>qfd D n (fun v0_0 v0_1 v0_2=>qrd D n v0_0 v0_1 v0_2) (fun v1_0 v1_1=>ql7 D n v1_0 v1_1) n x0 x1 x2 x3)
def qv6 (D:DX)(n:Nat) (lp0:List Int→Int→Int→tSch→Option ((Bool×Unit)×Unit)) (a0:tSch) (a1:List Int) (a2:Int):Option ((Bool×Unit)×Unit):=lp0 a1 a2 0 a0
def qvd (D:DX)(n:Nat) (a0:tSch) (a1:List Int) (a2:Int):Option ((Bool×Unit)×Unit):=qv6 D n (qsp D n) a0 a1 a2
def qeb (x0:List Int) (x1:Int) (x2:Int) (x3:tSch):St:=stq 43 [(1,AV.val (Ty.sl yI) x0),(2,avI x1),(3,AV.addr 3 []),(7,avI x2)] [(3,Root.mk yS Mk.no x3 true)] 
def qfg (v0_0:List Int) (v0_1:Int) (v0_2:Bool):St:=stq 43 [(1,AV.val (Ty.sl yI) v0_0),(2,avI v0_1),(6,AV.val Ty.bool v0_2)] [] 
def qfj (v1_0:List Int) (v1_1:Int):St:=stq 43 [(1,AV.val (Ty.sl yI) v1_0),(2,avI v1_1)] [] 
def qil (x1_0:List Int) (x1_1:Int) (x1_2:Int) (x1_3:Int) (x1_4:tSch):St:=stq 43 [(1,AV.val (Ty.sl yI) x1_0),(2,avI x1_1),(3,AV.addr 3 []),(7,avI x1_2),(8,avI x1_3)] [(3,Root.mk yS Mk.no x1_4 true)] 
def ql4 (v0_0:List Int) (v0_1:Int) (v0_2:Bool) (v0_3:Int) (v0_4:tSch):St:=stq 43 [(1,AV.val (Ty.sl yI) v0_0),(2,avI v0_1),(3,AV.addr 3 []),(6,AV.val Ty.bool v0_2),(7,avI v0_3)] [(3,Root.mk yS Mk.no v0_4 true)] 
def ql2 (v1_0:List Int) (v1_1:Int) (v1_2:Int) (v1_3:tSch):St:=stq 43 [(1,AV.val (Ty.sl yI) v1_0),(2,avI v1_1),(3,AV.addr 3 []),(7,avI v1_2)] [(3,Root.mk yS Mk.no v1_3 true)] 
theorem qbaf (D:DX)(n:Nat) (m:Nat) (K:Ex→St→Option (Out ctx 168)) (x1_0:List Int) (x1_1:Int) (x1_2:Int) (x1_3:Int) (x1_4:tSch) :
 LQ qc D n 168 [.r,.l,.r,.l,.l,.r,.l,.l,.r,.r,.l] (m+1) (qil x1_0 x1_1 x1_2 x1_3 x1_4) K=qt3 D n (fun x1_0 x1_1 x1_2 x1_3 x1_4=>LQ qc D n 168 [.r,.l,.r,.l,.l,.r,.l,.l,.r,.r,.l] m (qil x1_0 x1_1 x1_2 x1_3 x1_4) K) (fun v0_0 v0_1 v0_2 v0_3 v0_4=>K (Ex.ret) (ql4 v0_0 v0_1 v0_2 v0_3 v0_4)) (fun v1_0 v1_1 v1_2 v1_3=>K (Ex.exit 2) (ql2 v1_0 v1_1 v1_2 v1_3)) x1_0 x1_1 x1_2 x1_3 x1_4:=by kernel_rfl
theorem q00 (D:DX)(n:Nat) (K:Ex→St→Option (Out ctx 168)):∀ (m:Nat) (x1_0:List Int) (x1_1:Int) (x1_2:Int) (x1_3:Int) (x1_4:tSch),LQ qc D n 168 [.r,.l,.r,.l,.l,.r,.l,.l,.r,.r,.l] m (qil x1_0 x1_1 x1_2 x1_3 x1_4) K=qif D n (fun v0_0 v0_1 v0_2 v0_3 v0_4=>K (Ex.ret) (ql4 v0_0 v0_1 v0_2 v0_3 v0_4)) (fun v1_0 v1_1 v1_2 v1_3=>K (Ex.exit 2) (ql2 v1_0 v1_1 v1_2 v1_3)) m x1_0 x1_1 x1_2 x1_3 x1_4
 | 0,x1_0,x1_1,x1_2,x1_3,x1_4=>qz ..
 | m+1,x1_0,x1_1,x1_2,x1_3,x1_4=>by
  have ih:(fun x1_0 x1_1 x1_2 x1_3 x1_4=>LQ qc D n 168 [.r,.l,.r,.l,.l,.r,.l,.l,.r,.r,.l] m (qil x1_0 x1_1 x1_2 x1_3 x1_4) K)=qif D n (fun v0_0 v0_1 v0_2 v0_3 v0_4=>K (Ex.ret) (ql4 v0_0 v0_1 v0_2 v0_3 v0_4)) (fun v1_0 v1_1 v1_2 v1_3=>K (Ex.exit 2) (ql2 v1_0 v1_1 v1_2 v1_3)) m:=by funext x1_0 x1_1 x1_2 x1_3 x1_4;exact q00 D n K m x1_0 x1_1 x1_2 x1_3 x1_4
  rw[qbaf]
  rw[ih];rfl
theorem q9t (D:DX)(n:Nat) (m:Nat) (K:Ex→St→Option (Out ctx 168)) (v0_0:List Int) (v0_1:Int) (v0_2:Bool) (v0_3:Int) (v0_4:tSch) :
 (CQ qc D n 168 [.r,.l,.r,.l,.l] [.r,.l,.l,.r,.r,.l] (LK qc D n 168 [.r,.l,.r,.l] m K)) (Ex.ret) (ql4 v0_0 v0_1 v0_2 v0_3 v0_4)=qx0 D n (fun x0 x1 x2 x3=>LQ qc D n 168 [.r,.l,.r,.l] m (qeb x0 x1 x2 x3) K) (fun v0_0 v0_1 v0_2=>K (Ex.ret) (qfg v0_0 v0_1 v0_2)) (fun v1_0 v1_1=>K (Ex.exit 0) (qfj v1_0 v1_1)) v0_0 v0_1 v0_2 v0_3 v0_4:=by kernel_rfl
theorem q9v (D:DX)(n:Nat) (m:Nat) (K:Ex→St→Option (Out ctx 168)) (v1_0:List Int) (v1_1:Int) (v1_2:Int) (v1_3:tSch) :
 (CQ qc D n 168 [.r,.l,.r,.l,.l] [.r,.l,.l,.r,.r,.l] (LK qc D n 168 [.r,.l,.r,.l] m K)) (Ex.exit 2) (ql2 v1_0 v1_1 v1_2 v1_3)=qqv D n (fun x0 x1 x2 x3=>LQ qc D n 168 [.r,.l,.r,.l] m (qeb x0 x1 x2 x3) K) (fun v0_0 v0_1 v0_2=>K (Ex.ret) (qfg v0_0 v0_1 v0_2)) (fun v1_0 v1_1=>K (Ex.exit 0) (qfj v1_0 v1_1)) v1_0 v1_1 v1_2 v1_3:=by kernel_rfl
theorem q96 (D:DX)(n:Nat) (m:Nat) (K:Ex→St→Option (Out ctx 168)) (x1_0:List Int) (x1_1:Int) (x1_2:Int) (x1_3:Int) (x1_4:tSch) :
 LQ qc D n 168 [.r,.l,.r,.l,.l,.r,.l,.l,.r,.r,.l] n (qil x1_0 x1_1 x1_2 x1_3 x1_4) (CQ qc D n 168 [.r,.l,.r,.l,.l] [.r,.l,.l,.r,.r,.l] (LK qc D n 168 [.r,.l,.r,.l] m K))=qsx D n (fun x0 x1 x2 x3=>LQ qc D n 168 [.r,.l,.r,.l] m (qeb x0 x1 x2 x3) K) (fun v0_0 v0_1 v0_2=>K (Ex.ret) (qfg v0_0 v0_1 v0_2)) (fun v1_0 v1_1=>K (Ex.exit 0) (qfj v1_0 v1_1)) x1_0 x1_1 x1_2 x1_3 x1_4:=by
 rw[q00]
 simp only[q9t,q9v]
 rfl
theorem qba1 (D:DX)(n:Nat) (m:Nat) (K:Ex→St→Option (Out ctx 168)) (x0:List Int) (x1:Int) (x2:Int) (x3:tSch) :
 LQ qc D n 168 [.r,.l,.r,.l] (m+1) (qeb x0 x1 x2 x3) K=qty D n (fun x0 x1 x2 x3=>LQ qc D n 168 [.r,.l,.r,.l] m (qeb x0 x1 x2 x3) K) (fun v0_0 v0_1 v0_2=>K (Ex.ret) (qfg v0_0 v0_1 v0_2)) (fun v1_0 v1_1=>K (Ex.exit 0) (qfj v1_0 v1_1)) (fun x1_0 x1_1 x1_2 x1_3 x1_4=>LQ qc D n 168 [.r,.l,.r,.l,.l,.r,.l,.l,.r,.r,.l] n (qil x1_0 x1_1 x1_2 x1_3 x1_4) (CQ qc D n 168 [.r,.l,.r,.l,.l] [.r,.l,.l,.r,.r,.l] (LK qc D n 168 [.r,.l,.r,.l] m K))) x0 x1 x2 x3:=by kernel_rfl
theorem q0i (D:DX)(n:Nat) (K:Ex→St→Option (Out ctx 168)):∀ (m:Nat) (x0:List Int) (x1:Int) (x2:Int) (x3:tSch),LQ qc D n 168 [.r,.l,.r,.l] m (qeb x0 x1 x2 x3) K=qfd D n (fun v0_0 v0_1 v0_2=>K (Ex.ret) (qfg v0_0 v0_1 v0_2)) (fun v1_0 v1_1=>K (Ex.exit 0) (qfj v1_0 v1_1)) m x0 x1 x2 x3
 | 0,x0,x1,x2,x3=>qz ..
 | m+1,x0,x1,x2,x3=>by
  have ih:(fun x0 x1 x2 x3=>LQ qc D n 168 [.r,.l,.r,.l] m (qeb x0 x1 x2 x3) K)=qfd D n (fun v0_0 v0_1 v0_2=>K (Ex.ret) (qfg v0_0 v0_1 v0_2)) (fun v1_0 v1_1=>K (Ex.exit 0) (qfj v1_0 v1_1)) m:=by funext x0 x1 x2 x3;exact q0i D n K m x0 x1 x2 x3
  rw[qba1]
  simp only[q96]
  rw[ih];rfl
theorem q98 (D:DX)(n:Nat) (v0_0:List Int) (v0_1:Int) (v0_2:Bool) :
 (CQ qc D n 168 [] [.r,.l,.r,.l] (qi qc 168)) (Ex.ret) (qfg v0_0 v0_1 v0_2)=qrd D n v0_0 v0_1 v0_2:=by kernel_rfl
theorem q9g (D:DX)(n:Nat) (v1_0:List Int) (v1_1:Int) :
 (CQ qc D n 168 [] [.r,.l,.r,.l] (qi qc 168)) (Ex.exit 0) (qfj v1_0 v1_1)=ql7 D n v1_0 v1_1:=by kernel_rfl
theorem q97 (D:DX)(n:Nat) (x0:List Int) (x1:Int) (x2:Int) (x3:tSch) :
 LQ qc D n 168 [.r,.l,.r,.l] n (qeb x0 x1 x2 x3) (CQ qc D n 168 [] [.r,.l,.r,.l] (qi qc 168))=qsp D n x0 x1 x2 x3:=by
 rw[q0i]
 simp only[q98,q9g]
 rfl
theorem qbfg (D:DX)(n:Nat) (a0:tSch) (a1:List Int) (a2:Int):rfC qc D n 168 (a0,(a1,(a2,())))=qvd D n a0 a1 a2:=by
 have h:rfC qc D n 168 (a0,(a1,(a2,())))=qv6 D n (fun x0 x1 x2 x3=>LQ qc D n 168 [.r,.l,.r,.l] n (qeb x0 x1 x2 x3) (CQ qc D n 168 [] [.r,.l,.r,.l] (qi qc 168))) a0 a1 a2:=by kernel_rfl
 rw[h]
 simp only[q97]
 rfl

def qsa (D:DX)(n:Nat) (go:Int→Int→tSch→ByteArray×List Int×Bool×Unit→Option ((Bool×Unit)×Unit)) (K0:Bool→Int→tSch→Option ((Bool×Unit)×Unit)) (K1:Int→tSch→Option ((Bool×Unit)×Unit)) (x1_0:Int) (x1_1:Int) (x1_2:tSch) (x1_3:ByteArray×List Int×Bool×Unit):Option ((Bool×Unit)×Unit):=br (decide (x1_1<x1_0)) (br (decide (0≤x1_1)&&decide (x1_1<(↑(List.length (Prod.fst (Prod.snd (Prod.snd x1_2)))):Int))) (br (List.beq (ByteArray.toList (Prod.fst (List.getD (Prod.fst (Prod.snd (Prod.snd x1_2))) (Int.toNat x1_1) (ByteArray.empty,[],false,())))) (ByteArray.toList (Prod.fst x1_3))) (K0 false x1_0 x1_2) (go x1_0 (IntKind.wrap IntKind.i64 (x1_1+1)) x1_2 x1_3)) none) (K1 x1_0 x1_2)
def qhu (D:DX)(n:Nat) (K0:Bool→Int→tSch→Option ((Bool×Unit)×Unit)) (K1:Int→tSch→Option ((Bool×Unit)×Unit)):Nat→(Int)→(Int)→(tSch)→tIx→Option ((Bool×Unit)×Unit) | 0=>(fun x1_0 x1_1 x1_2 x1_3=>none) | m+1=>(fun x1_0 x1_1 x1_2 x1_3=>qsa D n (qhu D n K0 K1 m) K0 K1 x1_0 x1_1 x1_2 x1_3)
def qwu (D:DX)(n:Nat) (go:Int→tSch→Option ((Bool×Unit)×Unit)) (K0:Bool→tSch→Option ((Bool×Unit)×Unit)) (K1:tSch→Option ((Bool×Unit)×Unit)) (v0_0:Bool) (v0_1:Int) (v0_2:tSch):Option ((Bool×Unit)×Unit):=K0 v0_0 v0_2
def qps (D:DX)(n:Nat) (go:Int→tSch→Option ((Bool×Unit)×Unit)) (K0:Bool→tSch→Option ((Bool×Unit)×Unit)) (K1:tSch→Option ((Bool×Unit)×Unit)) (v1_0:Int) (v1_1:tSch):Option ((Bool×Unit)×Unit):=go (IntKind.wrap IntKind.i64 (v1_0+1)) v1_1
def qqt (D:DX)(n:Nat) (go:Int→tSch→Option ((Bool×Unit)×Unit)) (K0:Bool→tSch→Option ((Bool×Unit)×Unit)) (K1:tSch→Option ((Bool×Unit)×Unit)):(Int)→(Int)→(tSch)→tIx→Option ((Bool×Unit)×Unit):=(fun x1_0 x1_1 x1_2 x1_3=>qhu D n (fun v0_0 v0_1 v0_2=>qwu D n go K0 K1 v0_0 v0_1 v0_2) (fun v1_0 v1_1=>qps D n go K0 K1 v1_0 v1_1) n x1_0 x1_1 x1_2 x1_3)
def qsb (D:DX)(n:Nat) (go:Int→tSch→Option ((Bool×Unit)×Unit)) (K0:Bool→tSch→Option ((Bool×Unit)×Unit)) (K1:tSch→Option ((Bool×Unit)×Unit)) (lp1:Int→Int→tSch→ByteArray×List Int×Bool×Unit→Option ((Bool×Unit)×Unit)) (x0:Int) (x1:tSch):Option ((Bool×Unit)×Unit):=br (decide (x0<(↑(List.length (Prod.fst (Prod.snd (Prod.snd x1)))):Int))) (br (decide (0≤x0)&&decide (x0<(↑(List.length (Prod.fst (Prod.snd (Prod.snd x1)))):Int))) (qg (qpb D (Prod.fst (List.getD (Prod.fst (Prod.snd (Prod.snd x1))) (Int.toNat x0) (ByteArray.empty,[],false,())))) fun b↦br (!Prod.fst (Prod.fst b)) (K0 false x1) (qg (qpe D x1 (Prod.fst (Prod.snd (List.getD (Prod.fst (Prod.snd (Prod.snd x1))) (Int.toNat x0) (ByteArray.empty,[],false,())))) 3) fun b↦br (!Prod.fst (Prod.fst b)) (K0 false x1) (lp1 x0 0 x1 (List.getD (Prod.fst (Prod.snd (Prod.snd x1))) (Int.toNat x0) (ByteArray.empty,[],false,()))))) none) (K1 x1)
def qer (D:DX)(n:Nat) (K0:Bool→tSch→Option ((Bool×Unit)×Unit)) (K1:tSch→Option ((Bool×Unit)×Unit)):Nat→(Int)→(tSch)→Option ((Bool×Unit)×Unit) | 0=>(fun x0 x1=>none) | m+1=>(fun x0 x1=>qsb D n (qer D n K0 K1 m) K0 K1 (qqt D n (qer D n K0 K1 m) K0 K1) x0 x1)
def qpl (D:DX)(n:Nat) (v0_0:Bool) (v0_1:tSch):Option ((Bool×Unit)×Unit):=some ((v0_0,()),())
def qo6 (D:DX)(n:Nat) (v1_0:tSch):Option ((Bool×Unit)×Unit):=some ((decide ((↑(List.length (Prod.fst (Prod.snd (Prod.snd v1_0)))):Int)≤3),()),())
def qq2 (D:DX)(n:Nat):(Int)→(tSch)→Option ((Bool×Unit)×Unit):=(fun x0 x1=>qer D n (fun v0_0 v0_1=>qpl D n v0_0 v0_1) (fun v1_0=>qo6 D n v1_0) n x0 x1)
def qt8 (D:DX)(n:Nat) (lp0:Int→tSch→Option ((Bool×Unit)×Unit)) (a0:tSch):Option ((Bool×Unit)×Unit):=lp0 0 a0
def qtx (D:DX)(n:Nat) (a0:tSch):Option ((Bool×Unit)×Unit):=qt8 D n (qq2 D n) a0
def qd0 (x0:Int) (x1:tSch):St:=stq 47 [(1,AV.addr 1 []),(3,avI x0)] [(1,Root.mk yS Mk.no x1 true)] 
def qe1 (v0_0:Bool) (v0_1:tSch):St:=stq 47 [(1,AV.addr 1 []),(2,AV.val Ty.bool v0_0)] [(1,Root.mk yS Mk.no v0_1 true)] 
def qe5 (v1_0:tSch):St:=stq 47 [(1,AV.addr 1 [])] [(1,Root.mk yS Mk.no v1_0 true)] 
def qhi (x1_0:Int) (x1_1:Int) (x1_2:tSch) (x1_3:ByteArray×List Int×Bool×Unit):St:=stq 47 [(1,AV.addr 1 []),(3,avI x1_0),(4,AV.addr 4 []),(5,avI x1_1)] [(1,Root.mk yS Mk.no x1_2 true),(4,Root.mk yX Mk.no x1_3 true)] 
def qlc (v0_0:Bool) (v0_1:Int) (v0_2:tSch):St:=stq 47 [(1,AV.addr 1 []),(2,AV.val Ty.bool v0_0),(3,avI v0_1)] [(1,Root.mk yS Mk.no v0_2 true)] 
def qk8 (v1_0:Int) (v1_1:tSch):St:=stq 47 [(1,AV.addr 1 []),(3,avI v1_0)] [(1,Root.mk yS Mk.no v1_1 true)] 
theorem q9k (D:DX)(n:Nat) (m:Nat) (K:Ex→St→Option (Out ctx 169)) (x1_0:Int) (x1_1:Int) (x1_2:tSch) (x1_3:ByteArray×List Int×Bool×Unit) :
 LQ qc D n 169 [.r,.l,.r,.l,.l,.r,.l,.l,.r,.r,.r,.l] (m+1) (qhi x1_0 x1_1 x1_2 x1_3) K=qsa D n (fun x1_0 x1_1 x1_2 x1_3=>LQ qc D n 169 [.r,.l,.r,.l,.l,.r,.l,.l,.r,.r,.r,.l] m (qhi x1_0 x1_1 x1_2 x1_3) K) (fun v0_0 v0_1 v0_2=>K (Ex.ret) (qlc v0_0 v0_1 v0_2)) (fun v1_0 v1_1=>K (Ex.exit 2) (qk8 v1_0 v1_1)) x1_0 x1_1 x1_2 x1_3:=by kernel_rfl
theorem qx6 (D:DX)(n:Nat) (K:Ex→St→Option (Out ctx 169)):∀ (m:Nat) (x1_0:Int) (x1_1:Int) (x1_2:tSch) (x1_3:ByteArray×List Int×Bool×Unit),LQ qc D n 169 [.r,.l,.r,.l,.l,.r,.l,.l,.r,.r,.r,.l] m (qhi x1_0 x1_1 x1_2 x1_3) K=qhu D n (fun v0_0 v0_1 v0_2=>K (Ex.ret) (qlc v0_0 v0_1 v0_2)) (fun v1_0 v1_1=>K (Ex.exit 2) (qk8 v1_0 v1_1)) m x1_0 x1_1 x1_2 x1_3
 | 0,x1_0,x1_1,x1_2,x1_3=>qz ..
 | m+1,x1_0,x1_1,x1_2,x1_3=>by
  have ih:(fun x1_0 x1_1 x1_2 x1_3=>LQ qc D n 169 [.r,.l,.r,.l,.l,.r,.l,.l,.r,.r,.r,.l] m (qhi x1_0 x1_1 x1_2 x1_3) K)=qhu D n (fun v0_0 v0_1 v0_2=>K (Ex.ret) (qlc v0_0 v0_1 v0_2)) (fun v1_0 v1_1=>K (Ex.exit 2) (qk8 v1_0 v1_1)) m:=by funext x1_0 x1_1 x1_2 x1_3;exact qx6 D n K m x1_0 x1_1 x1_2 x1_3
  rw[q9k]
  rw[ih];rfl
theorem q7m (D:DX)(n:Nat) (m:Nat) (K:Ex→St→Option (Out ctx 169)) (v0_0:Bool) (v0_1:Int) (v0_2:tSch) :
 (CQ qc D n 169 [.r,.l,.r,.l,.l] [.r,.l,.l,.r,.r,.r,.l] (LK qc D n 169 [.r,.l,.r,.l] m K)) (Ex.ret) (qlc v0_0 v0_1 v0_2)=qwu D n (fun x0 x1=>LQ qc D n 169 [.r,.l,.r,.l] m (qd0 x0 x1) K) (fun v0_0 v0_1=>K (Ex.ret) (qe1 v0_0 v0_1)) (fun v1_0=>K (Ex.exit 0) (qe5 v1_0)) v0_0 v0_1 v0_2:=by kernel_rfl
theorem q7r (D:DX)(n:Nat) (m:Nat) (K:Ex→St→Option (Out ctx 169)) (v1_0:Int) (v1_1:tSch) :
 (CQ qc D n 169 [.r,.l,.r,.l,.l] [.r,.l,.l,.r,.r,.r,.l] (LK qc D n 169 [.r,.l,.r,.l] m K)) (Ex.exit 2) (qk8 v1_0 v1_1)=qps D n (fun x0 x1=>LQ qc D n 169 [.r,.l,.r,.l] m (qd0 x0 x1) K) (fun v0_0 v0_1=>K (Ex.ret) (qe1 v0_0 v0_1)) (fun v1_0=>K (Ex.exit 0) (qe5 v1_0)) v1_0 v1_1:=by kernel_rfl
theorem q79 (D:DX)(n:Nat) (m:Nat) (K:Ex→St→Option (Out ctx 169)) (x1_0:Int) (x1_1:Int) (x1_2:tSch) (x1_3:ByteArray×List Int×Bool×Unit) :
 LQ qc D n 169 [.r,.l,.r,.l,.l,.r,.l,.l,.r,.r,.r,.l] n (qhi x1_0 x1_1 x1_2 x1_3) (CQ qc D n 169 [.r,.l,.r,.l,.l] [.r,.l,.l,.r,.r,.r,.l] (LK qc D n 169 [.r,.l,.r,.l] m K))=qqt D n (fun x0 x1=>LQ qc D n 169 [.r,.l,.r,.l] m (qd0 x0 x1) K) (fun v0_0 v0_1=>K (Ex.ret) (qe1 v0_0 v0_1)) (fun v1_0=>K (Ex.exit 0) (qe5 v1_0)) x1_0 x1_1 x1_2 x1_3:=by
 rw[qx6]
 simp only[q7m,q7r]
 rfl
theorem q9x (D:DX)(n:Nat) (m:Nat) (K:Ex→St→Option (Out ctx 169)) (x0:Int) (x1:tSch) :
 LQ qc D n 169 [.r,.l,.r,.l] (m+1) (qd0 x0 x1) K=qsb D n (fun x0 x1=>LQ qc D n 169 [.r,.l,.r,.l] m (qd0 x0 x1) K) (fun v0_0 v0_1=>K (Ex.ret) (qe1 v0_0 v0_1)) (fun v1_0=>K (Ex.exit 0) (qe5 v1_0)) (fun x1_0 x1_1 x1_2 x1_3=>LQ qc D n 169 [.r,.l,.r,.l,.l,.r,.l,.l,.r,.r,.r,.l] n (qhi x1_0 x1_1 x1_2 x1_3) (CQ qc D n 169 [.r,.l,.r,.l,.l] [.r,.l,.l,.r,.r,.r,.l] (LK qc D n 169 [.r,.l,.r,.l] m K))) x0 x1:=by kernel_rfl
theorem qx4 (D:DX)(n:Nat) (K:Ex→St→Option (Out ctx 169)):∀ (m:Nat) (x0:Int) (x1:tSch),LQ qc D n 169 [.r,.l,.r,.l] m (qd0 x0 x1) K=qer D n (fun v0_0 v0_1=>K (Ex.ret) (qe1 v0_0 v0_1)) (fun v1_0=>K (Ex.exit 0) (qe5 v1_0)) m x0 x1
 | 0,x0,x1=>qz ..
 | m+1,x0,x1=>by
  have ih:(fun x0 x1=>LQ qc D n 169 [.r,.l,.r,.l] m (qd0 x0 x1) K)=qer D n (fun v0_0 v0_1=>K (Ex.ret) (qe1 v0_0 v0_1)) (fun v1_0=>K (Ex.exit 0) (qe5 v1_0)) m:=by funext x0 x1;exact qx4 D n K m x0 x1
  rw[q9x]
  simp only[q79]
  rw[ih];rfl
theorem q76 (D:DX)(n:Nat) (v0_0:Bool) (v0_1:tSch) :
 (CQ qc D n 169 [] [.r,.l,.r,.l] (qi qc 169)) (Ex.ret) (qe1 v0_0 v0_1)=qpl D n v0_0 v0_1:=by kernel_rfl
theorem q8k (D:DX)(n:Nat) (v1_0:tSch) :
 (CQ qc D n 169 [] [.r,.l,.r,.l] (qi qc 169)) (Ex.exit 0) (qe5 v1_0)=qo6 D n v1_0:=by kernel_rfl
theorem q7z (D:DX)(n:Nat) (x0:Int) (x1:tSch) :
 LQ qc D n 169 [.r,.l,.r,.l] n (qd0 x0 x1) (CQ qc D n 169 [] [.r,.l,.r,.l] (qi qc 169))=qq2 D n x0 x1:=by
 rw[qx4]
 simp only[q76,q8k]
 rfl
theorem qbdc (D:DX)(n:Nat) (a0:tSch):rfC qc D n 169 (a0,())=qtx D n a0:=by
 have h:rfC qc D n 169 (a0,())=qt8 D n (fun x0 x1=>LQ qc D n 169 [.r,.l,.r,.l] n (qd0 x0 x1) (CQ qc D n 169 [] [.r,.l,.r,.l] (qi qc 169))) a0:=by kernel_rfl
 rw[h]
 simp only[q7z]
 rfl

def q84 (D:DX)(n:Nat) (a0:List Int×Int×Int×Unit):Option ((Int×Unit)×tCur×Unit):=br (decide (Prod.fst (Prod.snd a0)<(↑(List.length (Prod.fst a0)):Int))) (br (decide (0≤Prod.fst (Prod.snd a0))&&decide (Prod.fst (Prod.snd a0)<(↑(List.length (Prod.fst a0)):Int))) (some ((IntKind.wrap IntKind.i64 (↑(BitVec.toNat (BitVec.and (BitVec.ofInt (IntKind.bits IntKind.i64) (IntKind.wrap IntKind.i64 (IntKind.wrap IntKind.i64 (↑(BitVec.toNat (BitVec.and (BitVec.ofInt (IntKind.bits IntKind.i64) (IntKind.wrap IntKind.i64 (↑(BitVec.toNat (BitVec.xor (BitVec.ofInt (IntKind.bits IntKind.i64) (Int.fdiv (IntKind.wrap IntKind.i64 (IntKind.wrap IntKind.i64 (Prod.fst (Prod.snd (Prod.snd a0)) * 6364136223846793005)+1442695040888963407)) (Int.pow 2 (if Int.toNat 33≤IntKind.bits IntKind.i64 then Int.toNat 33 else IntKind.bits IntKind.i64)))) (BitVec.ofInt (IntKind.bits IntKind.i64) (Int.fdiv (IntKind.wrap IntKind.i64 (IntKind.wrap IntKind.i64 (Prod.fst (Prod.snd (Prod.snd a0)) * 6364136223846793005)+1442695040888963407)) (Int.pow 2 (if Int.toNat 45≤IntKind.bits IntKind.i64 then Int.toNat 45 else IntKind.bits IntKind.i64)))))):Int))) (BitVec.ofInt (IntKind.bits IntKind.i64) 255))):Int)+IntKind.wrap IntKind.i64 (List.getD (Prod.fst a0) (Int.toNat (Prod.fst (Prod.snd a0))) 0)))) (BitVec.ofInt (IntKind.bits IntKind.i64) 255))):Int),()),(Prod.fst a0,IntKind.wrap IntKind.i64 (Prod.fst (Prod.snd a0)+1),IntKind.wrap IntKind.i64 (IntKind.wrap IntKind.i64 (Prod.fst (Prod.snd (Prod.snd a0)) * 6364136223846793005)+1442695040888963407),Prod.snd (Prod.snd (Prod.snd a0))),())) none) (some ((IntKind.wrap IntKind.i64 (↑(BitVec.toNat (BitVec.and (BitVec.ofInt (IntKind.bits IntKind.i64) (IntKind.wrap IntKind.i64 (↑(BitVec.toNat (BitVec.xor (BitVec.ofInt (IntKind.bits IntKind.i64) (Int.fdiv (IntKind.wrap IntKind.i64 (IntKind.wrap IntKind.i64 (Prod.fst (Prod.snd (Prod.snd a0)) * 6364136223846793005)+1442695040888963407)) (Int.pow 2 (if Int.toNat 33≤IntKind.bits IntKind.i64 then Int.toNat 33 else IntKind.bits IntKind.i64)))) (BitVec.ofInt (IntKind.bits IntKind.i64) (Int.fdiv (IntKind.wrap IntKind.i64 (IntKind.wrap IntKind.i64 (Prod.fst (Prod.snd (Prod.snd a0)) * 6364136223846793005)+1442695040888963407)) (Int.pow 2 (if Int.toNat 45≤IntKind.bits IntKind.i64 then Int.toNat 45 else IntKind.bits IntKind.i64)))))):Int))) (BitVec.ofInt (IntKind.bits IntKind.i64) 255))):Int),()),(Prod.fst a0,Prod.fst (Prod.snd a0),IntKind.wrap IntKind.i64 (IntKind.wrap IntKind.i64 (Prod.fst (Prod.snd (Prod.snd a0)) * 6364136223846793005)+1442695040888963407),Prod.snd (Prod.snd (Prod.snd a0))),()))
def q1j (D:DX)(n:Nat) (a0:List Int×Int×Int×Unit):Option ((Int×Unit)×tCur×Unit):=q84 D n a0
theorem qbma (D:DX)(n:Nat) (a0:List Int×Int×Int×Unit):rfC qc D n 170 (a0,())=q1j D n a0:=by kernel_rfl



















def q4t (D:DX)(n:Nat) (a0:List Int×Int×Int×Unit) (a1:Int):Option ((tVal×Unit)×tCur×Unit):=br (decide (a1=1)) (qg (qdf D a0 2) fun b↦some (((a1,Prod.fst (Prod.fst b),ByteArray.empty,()),()),Prod.fst (Prod.snd b),())) (br (decide (a1=2)) (qg (qpz D a0 [0,1,-1,7,255,256,-1000000000000,1000000000000]) fun b↦some (((a1,Prod.fst (Prod.fst b),ByteArray.empty,()),()),Prod.fst (Prod.snd b),())) (br (decide (a1=3)) (qg (q1f D a0 (List.set (List.set (List.set (List.set (List.set (List.set (List.set (List.set (List.set (List.replicate 9 ByteArray.empty) 0 (ByteArray.mk #[])) 1 (ByteArray.mk #[UInt8.ofNat 97])) 2 (ByteArray.mk #[UInt8.ofNat 97,UInt8.ofNat 98])) 3 (ByteArray.mk #[UInt8.ofNat 97,UInt8.ofNat 0])) 4 (ByteArray.mk #[UInt8.ofNat 97,UInt8.ofNat 0,UInt8.ofNat 98])) 5 (ByteArray.mk #[UInt8.ofNat 0])) 6 (ByteArray.mk #[UInt8.ofNat 1])) 7 (ByteArray.mk #[UInt8.ofNat 255])) 8 (ByteArray.mk #[UInt8.ofNat 98]))) fun b↦some (((a1,0,Prod.fst (Prod.fst b),()),()),Prod.fst (Prod.snd b),())) (some (((0,0,ByteArray.empty,()),()),a0,()))))
def qve (D:DX)(n:Nat) (a0:List Int×Int×Int×Unit) (a1:Int):Option ((tVal×Unit)×tCur×Unit):=q4t D n a0 a1
theorem qber (D:DX)(n:Nat) (a0:List Int×Int×Int×Unit) (a1:Int):rfC qc D n 190 (a0,(a1,()))=qve D n a0 a1:=by kernel_rfl

def q67 (D:DX)(n:Nat) (a0:qd):Option ((Bool×Unit)×Unit):=br (decide ((↑(List.length a0):Int)≤4)) (qg (qd5 D a0 (Clo.mk 208 [])) fun b↦some ((!Prod.fst (Prod.fst b),()),())) (some ((false,()),()))
def qyh (D:DX)(n:Nat) (a0:qd):Option ((Bool×Unit)×Unit):=q67 D n a0
theorem qbkf (D:DX)(n:Nat) (a0:qd):rfC qc D n 191 (a0,())=qyh D n a0:=by kernel_rfl

def qel (D:DX)(n:Nat) (a1:Clo) (go:tIxs→Int→Int→Option ((Int×Unit)×Unit)) (K0:Int→Option ((Int×Unit)×Unit)) (K1:Option ((Int×Unit)×Unit)) (x0:tIxs) (x1:Int) (x2:Int):Option ((Int×Unit)×Unit):=br (decide (x2<x1)) (br (decide (0≤x2)&&decide (x2<(↑(List.length x0):Int))) (qg (qbe ctx D a1 [CapV.val (Ty.pair Ty.str (Ty.pair (Ty.sl (Ty.int IntKind.i64)) (Ty.pair Ty.bool Ty.unit))) (List.getD x0 (Int.toNat x2) (ByteArray.empty,[],false,()))] Ty.bool) fun b↦br b (K0 x2) (go x0 x1 (IntKind.wrap IntKind.i64 (x2+1)))) none) K1
def qby (D:DX)(n:Nat) (a1:Clo) (K0:Int→Option ((Int×Unit)×Unit)) (K1:Option ((Int×Unit)×Unit)):Nat→(tIxs)→(Int)→(Int)→Option ((Int×Unit)×Unit) | 0=>(fun x0 x1 x2=>none) | m+1=>(fun x0 x1 x2=>qel D n a1 (qby D n a1 K0 K1 m) K0 K1 x0 x1 x2)
def qg9 (D:DX)(n:Nat) (a1:Clo) (v0_0:Int):Option ((Int×Unit)×Unit):=some ((v0_0,()),())
def qg3 (D:DX)(n:Nat) (a1:Clo):Option ((Int×Unit)×Unit):=some ((-1,()),())
def qec (D:DX)(n:Nat) (a1:Clo):(tIxs)→(Int)→(Int)→Option ((Int×Unit)×Unit):=(fun x0 x1 x2=>qby D n a1 (fun v0_0=>qg9 D n a1 v0_0) (qg3 D n a1) n x0 x1 x2)
def qe2 (D:DX)(n:Nat) (a1:Clo) (lp0:tIxs→Int→Int→Option ((Int×Unit)×Unit)) (a0:tIxs):Option ((Int×Unit)×Unit):=lp0 a0 (↑(List.length a0):Int) 0
def qev (D:DX)(n:Nat) (a0:tIxs) (a1:Clo):Option ((Int×Unit)×Unit):=qe2 D n a1 (qec D n a1) a0
def qbv (a1:Clo) (x0:tIxs) (x1:Int) (x2:Int):St:=stq 19 [(0,AV.val (Ty.sl yX) x0),(1,AV.cloV a1),(7,avI x1),(8,avI x2)] [] 
def qc1 (a1:Clo) (v0_0:Int):St:=stq 19 [(4,avI v0_0)] [] 
def qc2 (a1:Clo):St:=stq 19 [] [] 
theorem qou (D:DX)(n:Nat) (a1:Clo) (m:Nat) (K:Ex→St→Option (Out ctx 193)) (x0:tIxs) (x1:Int) (x2:Int) :
 LQ qc D n 193 [.r,.l,.r,.l] (m+1) (qbv a1 x0 x1 x2) K=qel D n a1 (fun x0 x1 x2=>LQ qc D n 193 [.r,.l,.r,.l] m (qbv a1 x0 x1 x2) K) (fun v0_0=>K (Ex.ret) (qc1 a1 v0_0)) (K (Ex.exit 0) (qc2 a1)) x0 x1 x2:=by kernel_rfl
theorem qhp (D:DX)(n:Nat) (a1:Clo) (K:Ex→St→Option (Out ctx 193)):∀ (m:Nat) (x0:tIxs) (x1:Int) (x2:Int),LQ qc D n 193 [.r,.l,.r,.l] m (qbv a1 x0 x1 x2) K=qby D n a1 (fun v0_0=>K (Ex.ret) (qc1 a1 v0_0)) (K (Ex.exit 0) (qc2 a1)) m x0 x1 x2
 | 0,x0,x1,x2=>qz ..
 | m+1,x0,x1,x2=>by
  have ih:(fun x0 x1 x2=>LQ qc D n 193 [.r,.l,.r,.l] m (qbv a1 x0 x1 x2) K)=qby D n a1 (fun v0_0=>K (Ex.ret) (qc1 a1 v0_0)) (K (Ex.exit 0) (qc2 a1)) m:=by funext x0 x1 x2;exact qhp D n a1 K m x0 x1 x2
  rw[qou]
  rw[ih];rfl
theorem qn3 (D:DX)(n:Nat) (a1:Clo) (v0_0:Int) :
 (CQ qc D n 193 [] [.r,.l,.r,.l] (qi qc 193)) (Ex.ret) (qc1 a1 v0_0)=qg9 D n a1 v0_0:=by kernel_rfl
theorem qn7 (D:DX)(n:Nat) (a1:Clo) :
 (CQ qc D n 193 [] [.r,.l,.r,.l] (qi qc 193)) (Ex.exit 0) (qc2 a1)=qg3 D n a1:=by kernel_rfl
theorem qn0 (D:DX)(n:Nat) (a1:Clo) (x0:tIxs) (x1:Int) (x2:Int) :
 LQ qc D n 193 [.r,.l,.r,.l] n (qbv a1 x0 x1 x2) (CQ qc D n 193 [] [.r,.l,.r,.l] (qi qc 193))=qec D n a1 x0 x1 x2:=by
 rw[qhp]
 simp only[qn3,qn7]
 rfl
theorem qpr (D:DX)(n:Nat) (a0:tIxs) (a1:Clo):rfC qc D n 193 (a0,(a1,()))=qev D n a0 a1:=by
 have h:rfC qc D n 193 (a0,(a1,()))=qe2 D n a1 (fun x0 x1 x2=>LQ qc D n 193 [.r,.l,.r,.l] n (qbv a1 x0 x1 x2) (CQ qc D n 193 [] [.r,.l,.r,.l] (qi qc 193))) a0:=by kernel_rfl
 rw[h]
 simp only[qn0]
 rfl

def qfq (D:DX)(n:Nat) (go:qd→Int→Int→Int×Int×ByteArray×Unit→Option ((Int×Unit)×Unit)) (K0:Int→Option ((Int×Unit)×Unit)) (K1:Option ((Int×Unit)×Unit)) (x0:qd) (x1:Int) (x2:Int) (x3:Int×Int×ByteArray×Unit):Option ((Int×Unit)×Unit):=br (decide (x2<x1)) (br (decide (0≤x2)&&decide (x2<(↑(List.length x0):Int))) (br (qld (Ty.pair (Ty.int IntKind.i64) (Ty.pair (Ty.int IntKind.i64) (Ty.pair Ty.str Ty.unit))) x3 (List.getD x0 (Int.toNat x2) (0,0,ByteArray.empty,()))) (K0 x2) (go x0 x1 (IntKind.wrap IntKind.i64 (x2+1)) x3)) none) K1
def qca (D:DX)(n:Nat) (K0:Int→Option ((Int×Unit)×Unit)) (K1:Option ((Int×Unit)×Unit)):Nat→(qd)→(Int)→(Int)→tVal→Option ((Int×Unit)×Unit) | 0=>(fun x0 x1 x2 x3=>none) | m+1=>(fun x0 x1 x2 x3=>qfq D n (qca D n K0 K1 m) K0 K1 x0 x1 x2 x3)
def qit (D:DX)(n:Nat) (v0_0:Int):Option ((Int×Unit)×Unit):=some ((v0_0,()),())
def qis (D:DX)(n:Nat):Option ((Int×Unit)×Unit):=some ((-1,()),())
def qff (D:DX)(n:Nat):(qd)→(Int)→(Int)→tVal→Option ((Int×Unit)×Unit):=(fun x0 x1 x2 x3=>qca D n (fun v0_0=>qit D n v0_0) (qis D n) n x0 x1 x2 x3)
def qf1 (D:DX)(n:Nat) (lp0:qd→Int→Int→Int×Int×ByteArray×Unit→Option ((Int×Unit)×Unit)) (a0:qd) (a1:Int×Int×ByteArray×Unit):Option ((Int×Unit)×Unit):=lp0 a0 (↑(List.length a0):Int) 0 a1
def qf8 (D:DX)(n:Nat) (a0:qd) (a1:Int×Int×ByteArray×Unit):Option ((Int×Unit)×Unit):=qf1 D n (qff D n) a0 a1
def qce (x0:qd) (x1:Int) (x2:Int) (x3:Int×Int×ByteArray×Unit):St:=stq 19 [(0,AV.val (Ty.sl yV) x0),(3,AV.addr 3 []),(7,avI x1),(8,avI x2)] [(3,Root.mk yV Mk.no x3 true)] 
def qdk (v0_0:Int):St:=stq 19 [(4,avI v0_0)] [] 
def qdo:St:=stq 19 [] [] 
theorem qrg (D:DX)(n:Nat) (m:Nat) (K:Ex→St→Option (Out ctx 194)) (x0:qd) (x1:Int) (x2:Int) (x3:Int×Int×ByteArray×Unit) :
 LQ qc D n 194 [.r,.l,.r,.l] (m+1) (qce x0 x1 x2 x3) K=qfq D n (fun x0 x1 x2 x3=>LQ qc D n 194 [.r,.l,.r,.l] m (qce x0 x1 x2 x3) K) (fun v0_0=>K (Ex.ret) (qdk v0_0)) (K (Ex.exit 0) (qdo)) x0 x1 x2 x3:=by kernel_rfl
theorem qi4 (D:DX)(n:Nat) (K:Ex→St→Option (Out ctx 194)):∀ (m:Nat) (x0:qd) (x1:Int) (x2:Int) (x3:Int×Int×ByteArray×Unit),LQ qc D n 194 [.r,.l,.r,.l] m (qce x0 x1 x2 x3) K=qca D n (fun v0_0=>K (Ex.ret) (qdk v0_0)) (K (Ex.exit 0) (qdo)) m x0 x1 x2 x3
 | 0,x0,x1,x2,x3=>qz ..
 | m+1,x0,x1,x2,x3=>by
  have ih:(fun x0 x1 x2 x3=>LQ qc D n 194 [.r,.l,.r,.l] m (qce x0 x1 x2 x3) K)=qca D n (fun v0_0=>K (Ex.ret) (qdk v0_0)) (K (Ex.exit 0) (qdo)) m:=by funext x0 x1 x2 x3;exact qi4 D n K m x0 x1 x2 x3
  rw[qrg]
  rw[ih];rfl
theorem qqc (D:DX)(n:Nat) (v0_0:Int) :
 (CQ qc D n 194 [] [.r,.l,.r,.l] (qi qc 194)) (Ex.ret) (qdk v0_0)=qit D n v0_0:=by kernel_rfl
theorem qqg (D:DX)(n:Nat) :
 (CQ qc D n 194 [] [.r,.l,.r,.l] (qi qc 194)) (Ex.exit 0) (qdo)=qis D n:=by kernel_rfl
theorem qp3 (D:DX)(n:Nat) (x0:qd) (x1:Int) (x2:Int) (x3:Int×Int×ByteArray×Unit) :
 LQ qc D n 194 [.r,.l,.r,.l] n (qce x0 x1 x2 x3) (CQ qc D n 194 [] [.r,.l,.r,.l] (qi qc 194))=qff D n x0 x1 x2 x3:=by
 rw[qi4]
 simp only[qqc,qqg]
 rfl
theorem qsw (D:DX)(n:Nat) (a0:qd) (a1:Int×Int×ByteArray×Unit):rfC qc D n 194 (a0,(a1,()))=qf8 D n a0 a1:=by
 have h:rfC qc D n 194 (a0,(a1,()))=qf1 D n (fun x0 x1 x2 x3=>LQ qc D n 194 [.r,.l,.r,.l] n (qce x0 x1 x2 x3) (CQ qc D n 194 [] [.r,.l,.r,.l] (qi qc 194))) a0 a1:=by kernel_rfl
 rw[h]
 simp only[qp3]
 rfl

def qfu (D:DX)(n:Nat) (a1:Clo) (go:qei→Int→Int→Option ((Int×Unit)×Unit)) (K0:Int→Option ((Int×Unit)×Unit)) (K1:Option ((Int×Unit)×Unit)) (x0:qei) (x1:Int) (x2:Int):Option ((Int×Unit)×Unit):=br (decide (x2<x1)) (br (decide (0≤x2)&&decide (x2<(↑(List.length x0):Int))) (qg (qbe ctx D a1 [CapV.val (Ty.pair Ty.str (Ty.pair (Ty.int IntKind.i64) (Ty.pair Ty.bool Ty.unit))) (List.getD x0 (Int.toNat x2) (ByteArray.empty,0,false,()))] Ty.bool) fun b↦br b (K0 x2) (go x0 x1 (IntKind.wrap IntKind.i64 (x2+1)))) none) K1
def qcc (D:DX)(n:Nat) (a1:Clo) (K0:Int→Option ((Int×Unit)×Unit)) (K1:Option ((Int×Unit)×Unit)):Nat→(qei)→(Int)→(Int)→Option ((Int×Unit)×Unit) | 0=>(fun x0 x1 x2=>none) | m+1=>(fun x0 x1 x2=>qfu D n a1 (qcc D n a1 K0 K1 m) K0 K1 x0 x1 x2)
def qir (D:DX)(n:Nat) (a1:Clo) (v0_0:Int):Option ((Int×Unit)×Unit):=some ((v0_0,()),())
def qio (D:DX)(n:Nat) (a1:Clo):Option ((Int×Unit)×Unit):=some ((-1,()),())
def qfk (D:DX)(n:Nat) (a1:Clo):(qei)→(Int)→(Int)→Option ((Int×Unit)×Unit):=(fun x0 x1 x2=>qcc D n a1 (fun v0_0=>qir D n a1 v0_0) (qio D n a1) n x0 x1 x2)
def qf5 (D:DX)(n:Nat) (a1:Clo) (lp0:qei→Int→Int→Option ((Int×Unit)×Unit)) (a0:qei):Option ((Int×Unit)×Unit):=lp0 a0 (↑(List.length a0):Int) 0
def qf6 (D:DX)(n:Nat) (a0:qei) (a1:Clo):Option ((Int×Unit)×Unit):=qf5 D n a1 (qfk D n a1) a0
def qcf (a1:Clo) (x0:qei) (x1:Int) (x2:Int):St:=stq 19 [(0,AV.val (Ty.sl yC) x0),(1,AV.cloV a1),(7,avI x1),(8,avI x2)] [] 
def qdh (a1:Clo) (v0_0:Int):St:=stq 19 [(4,avI v0_0)] [] 
def qdm (a1:Clo):St:=stq 19 [] [] 
theorem qrb (D:DX)(n:Nat) (a1:Clo) (m:Nat) (K:Ex→St→Option (Out ctx 195)) (x0:qei) (x1:Int) (x2:Int) :
 LQ qc D n 195 [.r,.l,.r,.l] (m+1) (qcf a1 x0 x1 x2) K=qfu D n a1 (fun x0 x1 x2=>LQ qc D n 195 [.r,.l,.r,.l] m (qcf a1 x0 x1 x2) K) (fun v0_0=>K (Ex.ret) (qdh a1 v0_0)) (K (Ex.exit 0) (qdm a1)) x0 x1 x2:=by kernel_rfl
theorem qi7 (D:DX)(n:Nat) (a1:Clo) (K:Ex→St→Option (Out ctx 195)):∀ (m:Nat) (x0:qei) (x1:Int) (x2:Int),LQ qc D n 195 [.r,.l,.r,.l] m (qcf a1 x0 x1 x2) K=qcc D n a1 (fun v0_0=>K (Ex.ret) (qdh a1 v0_0)) (K (Ex.exit 0) (qdm a1)) m x0 x1 x2
 | 0,x0,x1,x2=>qz ..
 | m+1,x0,x1,x2=>by
  have ih:(fun x0 x1 x2=>LQ qc D n 195 [.r,.l,.r,.l] m (qcf a1 x0 x1 x2) K)=qcc D n a1 (fun v0_0=>K (Ex.ret) (qdh a1 v0_0)) (K (Ex.exit 0) (qdm a1)) m:=by funext x0 x1 x2;exact qi7 D n a1 K m x0 x1 x2
  rw[qrb]
  rw[ih];rfl
theorem qp6 (D:DX)(n:Nat) (a1:Clo) (v0_0:Int) :
 (CQ qc D n 195 [] [.r,.l,.r,.l] (qi qc 195)) (Ex.ret) (qdh a1 v0_0)=qir D n a1 v0_0:=by kernel_rfl
theorem qqa (D:DX)(n:Nat) (a1:Clo) :
 (CQ qc D n 195 [] [.r,.l,.r,.l] (qi qc 195)) (Ex.exit 0) (qdm a1)=qio D n a1:=by kernel_rfl
theorem qp9 (D:DX)(n:Nat) (a1:Clo) (x0:qei) (x1:Int) (x2:Int) :
 LQ qc D n 195 [.r,.l,.r,.l] n (qcf a1 x0 x1 x2) (CQ qc D n 195 [] [.r,.l,.r,.l] (qi qc 195))=qfk D n a1 x0 x1 x2:=by
 rw[qi7]
 simp only[qp6,qqa]
 rfl
theorem qtd (D:DX)(n:Nat) (a0:qei) (a1:Clo):rfC qc D n 195 (a0,(a1,()))=qf6 D n a0 a1:=by
 have h:rfC qc D n 195 (a0,(a1,()))=qf5 D n a1 (fun x0 x1 x2=>LQ qc D n 195 [.r,.l,.r,.l] n (qcf a1 x0 x1 x2) (CQ qc D n 195 [] [.r,.l,.r,.l] (qi qc 195))) a0:=by kernel_rfl
 rw[h]
 simp only[qp9]
 rfl

def q6v (D:DX)(n:Nat) (a0:ByteArray×Int×Bool×Unit) (a1:ByteArray):Option ((Bool×Unit)×Unit):=some ((List.beq (ByteArray.toList (Prod.fst a0)) (ByteArray.toList a1),()),())
def qy5 (D:DX)(n:Nat) (a0:ByteArray×Int×Bool×Unit) (a1:ByteArray):Option ((Bool×Unit)×Unit):=q6v D n a0 a1
theorem qbj2 (D:DX)(n:Nat) (a0:ByteArray×Int×Bool×Unit) (a1:ByteArray):rfC qc D n 196 (a0,(a1,()))=qy5 D n a0 a1:=by kernel_rfl

def qrw (D:DX)(n:Nat) (a0:List Int) (a1:Int):Option ((Bool×Unit)×Unit):=qg (qnl D a0 a1) fun b↦some ((decide (Prod.fst (Prod.fst b)≥0),()),())
def qlh (D:DX)(n:Nat) (a0:List Int) (a1:Int):Option ((Bool×Unit)×Unit):=qrw D n a0 a1
theorem q2t (D:DX)(n:Nat) (a0:List Int) (a1:Int):rfC qc D n 197 (a0,(a1,()))=qlh D n a0 a1:=by kernel_rfl

def qkd (D:DX)(n:Nat) (a1:Clo) (go:List Int→Int→Int→Option ((Int×Unit)×Unit)) (K0:Int→Option ((Int×Unit)×Unit)) (K1:Option ((Int×Unit)×Unit)) (x0:List Int) (x1:Int) (x2:Int):Option ((Int×Unit)×Unit):=br (decide (x2<x1)) (br (decide (0≤x2)&&decide (x2<(↑(List.length x0):Int))) (qg (qbe ctx D a1 [CapV.val (Ty.int IntKind.i64) (List.getD x0 (Int.toNat x2) 0)] Ty.bool) fun b↦br b (K0 x2) (go x0 x1 (IntKind.wrap IntKind.i64 (x2+1)))) none) K1
def qdu (D:DX)(n:Nat) (a1:Clo) (K0:Int→Option ((Int×Unit)×Unit)) (K1:Option ((Int×Unit)×Unit)):Nat→(List Int)→(Int)→(Int)→Option ((Int×Unit)×Unit) | 0=>(fun x0 x1 x2=>none) | m+1=>(fun x0 x1 x2=>qkd D n a1 (qdu D n a1 K0 K1 m) K0 K1 x0 x1 x2)
def qnv (D:DX)(n:Nat) (a1:Clo) (v0_0:Int):Option ((Int×Unit)×Unit):=some ((v0_0,()),())
def qnw (D:DX)(n:Nat) (a1:Clo):Option ((Int×Unit)×Unit):=some ((-1,()),())
def qjd (D:DX)(n:Nat) (a1:Clo):(List Int)→(Int)→(Int)→Option ((Int×Unit)×Unit):=(fun x0 x1 x2=>qdu D n a1 (fun v0_0=>qnv D n a1 v0_0) (qnw D n a1) n x0 x1 x2)
def qkz (D:DX)(n:Nat) (a1:Clo) (lp0:List Int→Int→Int→Option ((Int×Unit)×Unit)) (a0:List Int):Option ((Int×Unit)×Unit):=lp0 a0 (↑(List.length a0):Int) 0
def qkx (D:DX)(n:Nat) (a0:List Int) (a1:Clo):Option ((Int×Unit)×Unit):=qkz D n a1 (qjd D n a1) a0
def qdt (a1:Clo) (x0:List Int) (x1:Int) (x2:Int):St:=stq 19 [(0,AV.val (Ty.sl yI) x0),(1,AV.cloV a1),(7,avI x1),(8,avI x2)] [] 
def qfw (a1:Clo) (v0_0:Int):St:=stq 19 [(4,avI v0_0)] [] 
def qfy (a1:Clo):St:=stq 19 [] [] 
theorem qzv (D:DX)(n:Nat) (a1:Clo) (m:Nat) (K:Ex→St→Option (Out ctx 198)) (x0:List Int) (x1:Int) (x2:Int) :
 LQ qc D n 198 [.r,.l,.r,.l] (m+1) (qdt a1 x0 x1 x2) K=qkd D n a1 (fun x0 x1 x2=>LQ qc D n 198 [.r,.l,.r,.l] m (qdt a1 x0 x1 x2) K) (fun v0_0=>K (Ex.ret) (qfw a1 v0_0)) (K (Ex.exit 0) (qfy a1)) x0 x1 x2:=by kernel_rfl
theorem qon (D:DX)(n:Nat) (a1:Clo) (K:Ex→St→Option (Out ctx 198)):∀ (m:Nat) (x0:List Int) (x1:Int) (x2:Int),LQ qc D n 198 [.r,.l,.r,.l] m (qdt a1 x0 x1 x2) K=qdu D n a1 (fun v0_0=>K (Ex.ret) (qfw a1 v0_0)) (K (Ex.exit 0) (qfy a1)) m x0 x1 x2
 | 0,x0,x1,x2=>qz ..
 | m+1,x0,x1,x2=>by
  have ih:(fun x0 x1 x2=>LQ qc D n 198 [.r,.l,.r,.l] m (qdt a1 x0 x1 x2) K)=qdu D n a1 (fun v0_0=>K (Ex.ret) (qfw a1 v0_0)) (K (Ex.exit 0) (qfy a1)) m:=by funext x0 x1 x2;exact qon D n a1 K m x0 x1 x2
  rw[qzv]
  rw[ih];rfl
theorem qxx (D:DX)(n:Nat) (a1:Clo) (v0_0:Int) :
 (CQ qc D n 198 [] [.r,.l,.r,.l] (qi qc 198)) (Ex.ret) (qfw a1 v0_0)=qnv D n a1 v0_0:=by kernel_rfl
theorem qxy (D:DX)(n:Nat) (a1:Clo) :
 (CQ qc D n 198 [] [.r,.l,.r,.l] (qi qc 198)) (Ex.exit 0) (qfy a1)=qnw D n a1:=by kernel_rfl
theorem qxz (D:DX)(n:Nat) (a1:Clo) (x0:List Int) (x1:Int) (x2:Int) :
 LQ qc D n 198 [.r,.l,.r,.l] n (qdt a1 x0 x1 x2) (CQ qc D n 198 [] [.r,.l,.r,.l] (qi qc 198))=qjd D n a1 x0 x1 x2:=by
 rw[qon]
 simp only[qxx,qxy]
 rfl
theorem q1b (D:DX)(n:Nat) (a0:List Int) (a1:Clo):rfC qc D n 198 (a0,(a1,()))=qkx D n a0 a1:=by
 have h:rfC qc D n 198 (a0,(a1,()))=qkz D n a1 (fun x0 x1 x2=>LQ qc D n 198 [.r,.l,.r,.l] n (qdt a1 x0 x1 x2) (CQ qc D n 198 [] [.r,.l,.r,.l] (qi qc 198))) a0:=by kernel_rfl
 rw[h]
 simp only[qxz]
 rfl







def qgw (D:DX)(n:Nat) (a1:Clo) (a0:qd):Option ((Bool×Unit)×Unit):=qg (qeo D a0 a1) fun b↦some ((decide (Prod.fst (Prod.fst b)≥0),()),())
def qd6 (D:DX)(n:Nat) (a0:qd) (a1:Clo):Option ((Bool×Unit)×Unit):=qgw D n a1 a0
theorem qnj (D:DX)(n:Nat) (a0:qd) (a1:Clo):rfC qc D n 207 (a0,(a1,()))=qd6 D n a0 a1:=by kernel_rfl

def q3w (D:DX)(n:Nat) (a0:Int×Int×ByteArray×Unit):Option ((Bool×Unit)×Unit):=qg (qts D a0) fun b↦some ((!Prod.fst (Prod.fst b),()),())
def qu9 (D:DX)(n:Nat) (a0:Int×Int×ByteArray×Unit):Option ((Bool×Unit)×Unit):=q3w D n a0
theorem qbfj (D:DX)(n:Nat) (a0:Int×Int×ByteArray×Unit):rfC qc D n 208 (a0,())=qu9 D n a0:=by kernel_rfl

def ql9 (D:DX)(n:Nat) (go:List Int→Int→Int→Int→Option ((Int×Unit)×Unit)) (K0:Int→Option ((Int×Unit)×Unit)) (K1:Option ((Int×Unit)×Unit)) (x0:List Int) (x1:Int) (x2:Int) (x3:Int):Option ((Int×Unit)×Unit):=br (decide (x3<x2)) (br (decide (0≤x3)&&decide (x3<(↑(List.length x0):Int))) (br (decide (x1=List.getD x0 (Int.toNat x3) 0)) (K0 x3) (go x0 x1 x2 (IntKind.wrap IntKind.i64 (x3+1)))) none) K1
def qeu (D:DX)(n:Nat) (K0:Int→Option ((Int×Unit)×Unit)) (K1:Option ((Int×Unit)×Unit)):Nat→(List Int)→(Int)→(Int)→(Int)→Option ((Int×Unit)×Unit) | 0=>(fun x0 x1 x2 x3=>none) | m+1=>(fun x0 x1 x2 x3=>ql9 D n (qeu D n K0 K1 m) K0 K1 x0 x1 x2 x3)
def qrk (D:DX)(n:Nat) (v0_0:Int):Option ((Int×Unit)×Unit):=some ((v0_0,()),())
def qru (D:DX)(n:Nat):Option ((Int×Unit)×Unit):=some ((-1,()),())
def qlw (D:DX)(n:Nat):(List Int)→(Int)→(Int)→(Int)→Option ((Int×Unit)×Unit):=(fun x0 x1 x2 x3=>qeu D n (fun v0_0=>qrk D n v0_0) (qru D n) n x0 x1 x2 x3)
def qns (D:DX)(n:Nat) (lp0:List Int→Int→Int→Int→Option ((Int×Unit)×Unit)) (a0:List Int) (a1:Int):Option ((Int×Unit)×Unit):=lp0 a0 a1 (↑(List.length a0):Int) 0
def qnp (D:DX)(n:Nat) (a0:List Int) (a1:Int):Option ((Int×Unit)×Unit):=qns D n (qlw D n) a0 a1
def qet (x0:List Int) (x1:Int) (x2:Int) (x3:Int):St:=stq 19 [(0,AV.val (Ty.sl yI) x0),(1,avI x1),(7,avI x2),(8,avI x3)] [] 
def qh2 (v0_0:Int):St:=stq 19 [(4,avI v0_0)] [] 
def qh0:St:=stq 19 [] [] 
theorem q4u (D:DX)(n:Nat) (m:Nat) (K:Ex→St→Option (Out ctx 210)) (x0:List Int) (x1:Int) (x2:Int) (x3:Int) :
 LQ qc D n 210 [.r,.l,.r,.l] (m+1) (qet x0 x1 x2 x3) K=ql9 D n (fun x0 x1 x2 x3=>LQ qc D n 210 [.r,.l,.r,.l] m (qet x0 x1 x2 x3) K) (fun v0_0=>K (Ex.ret) (qh2 v0_0)) (K (Ex.exit 0) (qh0)) x0 x1 x2 x3:=by kernel_rfl
theorem qsq (D:DX)(n:Nat) (K:Ex→St→Option (Out ctx 210)):∀ (m:Nat) (x0:List Int) (x1:Int) (x2:Int) (x3:Int),LQ qc D n 210 [.r,.l,.r,.l] m (qet x0 x1 x2 x3) K=qeu D n (fun v0_0=>K (Ex.ret) (qh2 v0_0)) (K (Ex.exit 0) (qh0)) m x0 x1 x2 x3
 | 0,x0,x1,x2,x3=>qz ..
 | m+1,x0,x1,x2,x3=>by
  have ih:(fun x0 x1 x2 x3=>LQ qc D n 210 [.r,.l,.r,.l] m (qet x0 x1 x2 x3) K)=qeu D n (fun v0_0=>K (Ex.ret) (qh2 v0_0)) (K (Ex.exit 0) (qh0)) m:=by funext x0 x1 x2 x3;exact qsq D n K m x0 x1 x2 x3
  rw[q4u]
  rw[ih];rfl
theorem q21 (D:DX)(n:Nat) (v0_0:Int) :
 (CQ qc D n 210 [] [.r,.l,.r,.l] (qi qc 210)) (Ex.ret) (qh2 v0_0)=qrk D n v0_0:=by kernel_rfl
theorem q2y (D:DX)(n:Nat) :
 (CQ qc D n 210 [] [.r,.l,.r,.l] (qi qc 210)) (Ex.exit 0) (qh0)=qru D n:=by kernel_rfl
theorem q20 (D:DX)(n:Nat) (x0:List Int) (x1:Int) (x2:Int) (x3:Int) :
 LQ qc D n 210 [.r,.l,.r,.l] n (qet x0 x1 x2 x3) (CQ qc D n 210 [] [.r,.l,.r,.l] (qi qc 210))=qlw D n x0 x1 x2 x3:=by
 rw[qsq]
 simp only[q21,q2y]
 rfl
theorem q52 (D:DX)(n:Nat) (a0:List Int) (a1:Int):rfC qc D n 210 (a0,(a1,()))=qnp D n a0 a1:=by
 have h:rfC qc D n 210 (a0,(a1,()))=qns D n (fun x0 x1 x2 x3=>LQ qc D n 210 [.r,.l,.r,.l] n (qet x0 x1 x2 x3) (CQ qc D n 210 [] [.r,.l,.r,.l] (qi qc 210))) a0 a1:=by kernel_rfl
 rw[h]
 simp only[q20]
 rfl

def qef (D:DX)(n:Nat) (a1:Clo) (go:qd→Int→Int→Option ((Int×Unit)×Unit)) (K0:Int→Option ((Int×Unit)×Unit)) (K1:Option ((Int×Unit)×Unit)) (x0:qd) (x1:Int) (x2:Int):Option ((Int×Unit)×Unit):=br (decide (x2<x1)) (br (decide (0≤x2)&&decide (x2<(↑(List.length x0):Int))) (qg (qbe ctx D a1 [CapV.val (Ty.pair (Ty.int IntKind.i64) (Ty.pair (Ty.int IntKind.i64) (Ty.pair Ty.str Ty.unit))) (List.getD x0 (Int.toNat x2) (0,0,ByteArray.empty,()))] Ty.bool) fun b↦br b (K0 x2) (go x0 x1 (IntKind.wrap IntKind.i64 (x2+1)))) none) K1
def qbr (D:DX)(n:Nat) (a1:Clo) (K0:Int→Option ((Int×Unit)×Unit)) (K1:Option ((Int×Unit)×Unit)):Nat→(qd)→(Int)→(Int)→Option ((Int×Unit)×Unit) | 0=>(fun x0 x1 x2=>none) | m+1=>(fun x0 x1 x2=>qef D n a1 (qbr D n a1 K0 K1 m) K0 K1 x0 x1 x2)
def qgx (D:DX)(n:Nat) (a1:Clo) (v0_0:Int):Option ((Int×Unit)×Unit):=some ((v0_0,()),())
def qg1 (D:DX)(n:Nat) (a1:Clo):Option ((Int×Unit)×Unit):=some ((-1,()),())
def qea (D:DX)(n:Nat) (a1:Clo):(qd)→(Int)→(Int)→Option ((Int×Unit)×Unit):=(fun x0 x1 x2=>qbr D n a1 (fun v0_0=>qgx D n a1 v0_0) (qg1 D n a1) n x0 x1 x2)
def qep (D:DX)(n:Nat) (a1:Clo) (lp0:qd→Int→Int→Option ((Int×Unit)×Unit)) (a0:qd):Option ((Int×Unit)×Unit):=lp0 a0 (↑(List.length a0):Int) 0
def qem (D:DX)(n:Nat) (a0:qd) (a1:Clo):Option ((Int×Unit)×Unit):=qep D n a1 (qea D n a1) a0
def qbs (a1:Clo) (x0:qd) (x1:Int) (x2:Int):St:=stq 19 [(0,AV.val (Ty.sl yV) x0),(1,AV.cloV a1),(7,avI x1),(8,avI x2)] [] 
def qct (a1:Clo) (v0_0:Int):St:=stq 19 [(4,avI v0_0)] [] 
def qcu (a1:Clo):St:=stq 19 [] [] 
theorem qn4 (D:DX)(n:Nat) (a1:Clo) (m:Nat) (K:Ex→St→Option (Out ctx 213)) (x0:qd) (x1:Int) (x2:Int) :
 LQ qc D n 213 [.r,.l,.r,.l] (m+1) (qbs a1 x0 x1 x2) K=qef D n a1 (fun x0 x1 x2=>LQ qc D n 213 [.r,.l,.r,.l] m (qbs a1 x0 x1 x2) K) (fun v0_0=>K (Ex.ret) (qct a1 v0_0)) (K (Ex.exit 0) (qcu a1)) x0 x1 x2:=by kernel_rfl
theorem qg6 (D:DX)(n:Nat) (a1:Clo) (K:Ex→St→Option (Out ctx 213)):∀ (m:Nat) (x0:qd) (x1:Int) (x2:Int),LQ qc D n 213 [.r,.l,.r,.l] m (qbs a1 x0 x1 x2) K=qbr D n a1 (fun v0_0=>K (Ex.ret) (qct a1 v0_0)) (K (Ex.exit 0) (qcu a1)) m x0 x1 x2
 | 0,x0,x1,x2=>qz ..
 | m+1,x0,x1,x2=>by
  have ih:(fun x0 x1 x2=>LQ qc D n 213 [.r,.l,.r,.l] m (qbs a1 x0 x1 x2) K)=qbr D n a1 (fun v0_0=>K (Ex.ret) (qct a1 v0_0)) (K (Ex.exit 0) (qcu a1)) m:=by funext x0 x1 x2;exact qg6 D n a1 K m x0 x1 x2
  rw[qn4]
  rw[ih];rfl
theorem qnq (D:DX)(n:Nat) (a1:Clo) (v0_0:Int) :
 (CQ qc D n 213 [] [.r,.l,.r,.l] (qi qc 213)) (Ex.ret) (qct a1 v0_0)=qgx D n a1 v0_0:=by kernel_rfl
theorem qnn (D:DX)(n:Nat) (a1:Clo) :
 (CQ qc D n 213 [] [.r,.l,.r,.l] (qi qc 213)) (Ex.exit 0) (qcu a1)=qg1 D n a1:=by kernel_rfl
theorem qnm (D:DX)(n:Nat) (a1:Clo) (x0:qd) (x1:Int) (x2:Int) :
 LQ qc D n 213 [.r,.l,.r,.l] n (qbs a1 x0 x1 x2) (CQ qc D n 213 [] [.r,.l,.r,.l] (qi qc 213))=qea D n a1 x0 x1 x2:=by
 rw[qg6]
 simp only[qnq,qnn]
 rfl
theorem qo2 (D:DX)(n:Nat) (a0:qd) (a1:Clo):rfC qc D n 213 (a0,(a1,()))=qem D n a0 a1:=by
 have h:rfC qc D n 213 (a0,(a1,()))=qep D n a1 (fun x0 x1 x2=>LQ qc D n 213 [.r,.l,.r,.l] n (qbs a1 x0 x1 x2) (CQ qc D n 213 [] [.r,.l,.r,.l] (qi qc 213))) a0:=by kernel_rfl
 rw[h]
 simp only[qnm]
 rfl
end
end Go.G

namespace Go.G
set_option maxRecDepth 100000
open Go Go.V Go.Proofs
def XOk (X:Ext):Prop:=∀ k:Nat,(Nat.beq k 88||Nat.beq k 93||Nat.beq k 95||Nat.beq k 192)=false→X.is k=false
theorem qbct {X:Ext} (hX:XOk X) (n:Nat) (a0:List Int):q17 (DD X (n+1)) a0=quf (DD X n) n a0:=(ql X Tryz.func4 (by kernel_rfl) (hX 4 rfl) n _).trans (qbdb ..)
theorem qbqt {X:Ext} (hX:XOk X) (n:Nat) (a0:List Int):q8o (DD X (n+1)) a0=qbgp (DD X n) n a0:=(ql X Tryz.func11 (by kernel_rfl) (hX 11 rfl) n _).trans (qbqk ..)
theorem q9n {X:Ext} (hX:XOk X) (n:Nat) (a0:List Int):qq5 (DD X (n+1)) a0=qqx (DD X n) n a0:=(ql X Tryz.func12 (by kernel_rfl) (hX 12 rfl) n _).trans (q94 ..)
theorem qbli {X:Ext} (hX:XOk X) (n:Nat) (a0:(tSch)×qe×Unit) (a1:Int):qgd (DD X (n+1)) a0 a1=q07 (DD X n) n a0 a1:=(ql X Tryz.func13 (by kernel_rfl) (hX 13 rfl) n _).trans (qbl3 ..)
theorem qboj {X:Ext} (hX:XOk X) (n:Nat) (a0:(tSch)×qe×Unit):qkc (DD X (n+1)) a0=q4q (DD X n) n a0:=(ql X Tryz.func17 (by kernel_rfl) (hX 17 rfl) n _).trans (qbmn ..)
theorem qblh {X:Ext} (hX:XOk X) (n:Nat) (a0:(tSch)×qe×Unit) (a1:qd):q1a (DD X (n+1)) a0 a1=q1q (DD X n) n a0 a1:=(ql X Tryz.func18 (by kernel_rfl) (hX 18 rfl) n _).trans (qbl9 ..)
theorem qbmz {X:Ext} (hX:XOk X) (n:Nat) (a0:(tSch)×qe×Unit) (a1:Int) (a2:qd):qsd (DD X (n+1)) a0 a1 a2=q37 (DD X n) n a0 a1 a2:=(ql X Tryz.func19 (by kernel_rfl) (hX 19 rfl) n _).trans (qbnr ..)
theorem qbgg {X:Ext} (hX:XOk X) (n:Nat) (a0:List tWay) (a1:List tWay):qfl (DD X (n+1)) a0 a1=qw8 (DD X n) n a0 a1:=(ql X Tryz.func20 (by kernel_rfl) (hX 20 rfl) n _).trans (qbf2 ..)
theorem qblv {X:Ext} (hX:XOk X) (n:Nat) (a0:List tWay) (a1:ByteArray×ByteArray×Unit):qix (DD X (n+1)) a0 a1=q1v (DD X n) n a0 a1:=(ql X Tryz.func21 (by kernel_rfl) (hX 21 rfl) n _).trans (qblz ..)
theorem qblr {X:Ext} (hX:XOk X) (n:Nat) (a0:(tSch)×qe×Unit) (a1:qd):qu1 (DD X (n+1)) a0 a1=q11 (DD X n) n a0 a1:=(ql X Tryz.func22 (by kernel_rfl) (hX 22 rfl) n _).trans (qblg ..)
theorem qbgc {X:Ext} (hX:XOk X) (n:Nat) (a0:tSch) (a1:qd):qc5 (DD X (n+1)) a0 a1=qwo (DD X n) n a0 a1:=(ql X Tryz.func23 (by kernel_rfl) (hX 23 rfl) n _).trans (qbh1 ..)
theorem qbl0 {X:Ext} (hX:XOk X) (n:Nat) (a0:(tSch)×qe×Unit) (a1:qd):qu3 (DD X (n+1)) a0 a1=q1x (DD X n) n a0 a1:=(ql X Tryz.func24 (by kernel_rfl) (hX 24 rfl) n _).trans (qbmb ..)
theorem qbl5 {X:Ext} (hX:XOk X) (n:Nat) (a0:List tWay) (a1:ByteArray×ByteArray×Unit):qiu (DD X (n+1)) a0 a1=q1s (DD X n) n a0 a1:=(ql X Tryz.func25 (by kernel_rfl) (hX 25 rfl) n _).trans (qbme ..)
theorem qbjp {X:Ext} (hX:XOk X) (n:Nat) (a0:(tSch)×qe×Unit) (a1:qd):qlm (DD X (n+1)) a0 a1=qy9 (DD X n) n a0 a1:=(ql X Tryz.func26 (by kernel_rfl) (hX 26 rfl) n _).trans (qbjj ..)
theorem qblj {X:Ext} (hX:XOk X) (n:Nat) (a0:(tSch)×qe×Unit) (a1:qd):q1k (DD X (n+1)) a0 a1=q12 (DD X n) n a0 a1:=(ql X Tryz.func28 (by kernel_rfl) (hX 28 rfl) n _).trans (qbln ..)
theorem qblp {X:Ext} (hX:XOk X) (n:Nat) (a0:(tSch)×qe×Unit) (a1:qd):q1z (DD X (n+1)) a0 a1=q09 (DD X n) n a0 a1:=(ql X Tryz.func30 (by kernel_rfl) (hX 30 rfl) n _).trans (qbl8 ..)
theorem qbjm {X:Ext} (hX:XOk X) (n:Nat) (a0:(tSch)×qe×Unit) (a1:qd):qy3 (DD X (n+1)) a0 a1=qyj (DD X n) n a0 a1:=(ql X Tryz.func32 (by kernel_rfl) (hX 32 rfl) n _).trans (qbin ..)
theorem qbly {X:Ext} (hX:XOk X) (n:Nat) (a0:tSch):q1p (DD X (n+1)) a0=q13 (DD X n) n a0:=(ql X Tryz.func38 (by kernel_rfl) (hX 38 rfl) n _).trans (qbl4 ..)
theorem qbn6 {X:Ext} (hX:XOk X) (n:Nat) (a0:(tSch)×qe×Unit):qo0 (DD X (n+1)) a0=q4m (DD X n) n a0:=(ql X Tryz.func41 (by kernel_rfl) (hX 41 rfl) n _).trans (qbmk ..)
theorem qbj3 {X:Ext} (hX:XOk X) (n:Nat) (a0:ByteArray×ByteArray×Unit) (a1:ByteArray×ByteArray×Unit):qzk (DD X (n+1)) a0 a1=q7h (DD X n) n a0 a1:=(ql X Tryz.func50 (by kernel_rfl) (hX 50 rfl) n _).trans (qbi3 ..)
theorem qbnl {X:Ext} (hX:XOk X) (n:Nat) (a0:List Int):q3r (DD X (n+1)) a0=q3m (DD X n) n a0:=(ql X Tryz.func65 (by kernel_rfl) (hX 65 rfl) n _).trans (qboi ..)
theorem q9w {X:Ext} (hX:XOk X) (n:Nat) (a0:List Int×Int×Int×Unit):qq6 (DD X (n+1)) a0=qrj (DD X n) n a0:=(ql X Tryz.func66 (by kernel_rfl) (hX 66 rfl) n _).trans (q92 ..)
theorem qbdk {X:Ext} (hX:XOk X) (n:Nat) (a0:List Int×Int×Int×Unit) (a1:(tSch)×qe×Unit):qtz (DD X (n+1)) a0 a1=qug (DD X n) n a0 a1:=(ql X Tryz.func67 (by kernel_rfl) (hX 67 rfl) n _).trans (qbc4 ..)
theorem qbo4 {X:Ext} (hX:XOk X) (n:Nat) (a0:Int) (a1:Int) (a2:Int):qge (DD X (n+1)) a0 a1 a2=q5z (DD X n) n a0 a1 a2:=(ql X Tryz.func68 (by kernel_rfl) (hX 68 rfl) n _).trans (qbos ..)
theorem qbgh {X:Ext} (hX:XOk X) (n:Nat) (a0:tSch) (a1:Int) (a2:qd):q2u (DD X (n+1)) a0 a1 a2=q2x (DD X n) n a0 a1 a2:=(ql X Tryz.func69 (by kernel_rfl) (hX 69 rfl) n _).trans (qbqc ..)
theorem qbne {X:Ext} (hX:XOk X) (n:Nat) (a0:tSch) (a1:qd):qop (DD X (n+1)) a0 a1=q3z (DD X n) n a0 a1:=(ql X Tryz.func77 (by kernel_rfl) (hX 77 rfl) n _).trans (qbnz ..)
theorem qbfa {X:Ext} (hX:XOk X) (n:Nat) (a0:qd) (a1:qd):qo7 (DD X (n+1)) a0 a1=qv1 (DD X n) n a0 a1:=(ql X Tryz.func78 (by kernel_rfl) (hX 78 rfl) n _).trans (qbfq ..)
theorem qny {X:Ext} (hX:XOk X) (n:Nat) (a0:qe) (a1:Clo):qbo (DD X (n+1)) a0 a1=qd9 (DD X n) n a0 a1:=(ql X Tryz.func79 (by kernel_rfl) (hX 79 rfl) n _).trans (qn6 ..)
theorem qbja {X:Ext} (hX:XOk X) (n:Nat) (a0:qd) (a1:(tSch)×qe×Unit) (a2:qd):q6o (DD X (n+1)) a0 a1 a2=qyr (DD X n) n a0 a1 a2:=(ql X Tryz.func80 (by kernel_rfl) (hX 80 rfl) n _).trans (qbkc ..)
theorem qbn1 {X:Ext} (hX:XOk X) (n:Nat) (a0:tSch) (a1:qd) (a2:qd):qsg (DD X (n+1)) a0 a1 a2=q4v (DD X n) n a0 a1 a2:=(ql X Tryz.func81 (by kernel_rfl) (hX 81 rfl) n _).trans (qbmr ..)
theorem qbhz {X:Ext} (hX:XOk X) (n:Nat) (a0:tSch):qr5 (DD X (n+1)) a0=qxg (DD X n) n a0:=(ql X Tryz.func82 (by kernel_rfl) (hX 82 rfl) n _).trans (qbgl ..)
theorem q9s {X:Ext} (hX:XOk X) (n:Nat) (a0:(tSch)×qe×Unit):qi1 (DD X (n+1)) a0=qq9 (DD X n) n a0:=(ql X Tryz.func83 (by kernel_rfl) (hX 83 rfl) n _).trans (q9p ..)
theorem qbnu {X:Ext} (hX:XOk X) (n:Nat) (a0:(tSch)×qe×Unit) (a1:qd):qok (DD X (n+1)) a0 a1=q3g (DD X n) n a0 a1:=(ql X Tryz.func84 (by kernel_rfl) (hX 84 rfl) n _).trans (qbmy ..)
theorem qbh4 {X:Ext} (hX:XOk X) (n:Nat) (a0:qd) (a1:(tSch)×qe×Unit) (a2:qd):q5d (DD X (n+1)) a0 a1 a2=qw4 (DD X n) n a0 a1 a2:=(ql X Tryz.func85 (by kernel_rfl) (hX 85 rfl) n _).trans (qbhu ..)
theorem qo8 {X:Ext} (hX:XOk X) (n:Nat) (a0:qe) (a1:Clo):qcn (DD X (n+1)) a0 a1=qe3 (DD X n) n a0 a1:=(ql X Tryz.func86 (by kernel_rfl) (hX 86 rfl) n _).trans (qpj ..)
theorem qbhm {X:Ext} (hX:XOk X) (n:Nat) (a0:qd) (a1:qd) (a2:(tSch)×qe×Unit):q4z (DD X (n+1)) a0 a1 a2=qxm (DD X n) n a0 a1 a2:=(ql X Tryz.func87 (by kernel_rfl) (hX 87 rfl) n _).trans (qbgr ..)
theorem qs8 {X:Ext} (hX:XOk X) (n:Nat) (a0:qd):qbu (DD X (n+1)) a0=qga (DD X n) n a0:=(ql X Tryz.func89 (by kernel_rfl) (hX 89 rfl) n _).trans (qtb ..)
theorem qvz {X:Ext} (hX:XOk X) (n:Nat) (a0:List tWay):qew (DD X (n+1)) a0=qha (DD X n) n a0:=(ql X Tryz.func90 (by kernel_rfl) (hX 90 rfl) n _).trans (qvy ..)
theorem qj9 {X:Ext} (hX:XOk X) (n:Nat) (a0:List tWay) (a1:Clo):qd2 (DD X (n+1)) a0 a1=qdy (DD X n) n a0 a1:=(ql X Tryz.func91 (by kernel_rfl) (hX 91 rfl) n _).trans (qsl ..)
theorem qbh0 {X:Ext} (hX:XOk X) (n:Nat) (a0:ByteArray×ByteArray×Unit) (a1:ByteArray×ByteArray×Unit):q5e (DD X (n+1)) a0 a1=qw1 (DD X n) n a0 a1:=(ql X Tryz.func92 (by kernel_rfl) (hX 92 rfl) n _).trans (qbhr ..)
theorem qbj4 {X:Ext} (hX:XOk X) (n:Nat) (a0:qd) (a1:List Int):qlp (DD X (n+1)) a0 a1=qyz (DD X n) n a0 a1:=(ql X Tryz.func94 (by kernel_rfl) (hX 94 rfl) n _).trans (qbiq ..)
theorem qr9 {X:Ext} (hX:XOk X) (n:Nat) (a0:List tWay) (a1:Clo):qfs (DD X (n+1)) a0 a1=qfp (DD X n) n a0 a1:=(ql X Tryz.func96 (by kernel_rfl) (hX 96 rfl) n _).trans (qr8 ..)
theorem qbf9 {X:Ext} (hX:XOk X) (n:Nat) (a0:ByteArray×ByteArray×Unit) (a1:ByteArray×ByteArray×Unit):q45 (DD X (n+1)) a0 a1=qxh (DD X n) n a0 a1:=(ql X Tryz.func97 (by kernel_rfl) (hX 97 rfl) n _).trans (qbic ..)
theorem qbjs {X:Ext} (hX:XOk X) (n:Nat) (a0:(tSch)×qe×Unit):qor (DD X (n+1)) a0=qzn (DD X n) n a0:=(ql X Tryz.func99 (by kernel_rfl) (hX 99 rfl) n _).trans (qbjq ..)
theorem qboc {X:Ext} (hX:XOk X) (n:Nat) (a0:tSch) (a1:qd):qs7 (DD X (n+1)) a0 a1=q3l (DD X n) n a0 a1:=(ql X Tryz.func100 (by kernel_rfl) (hX 100 rfl) n _).trans (qbnw ..)
theorem qbml {X:Ext} (hX:XOk X) (n:Nat) (a0:(tSch)×qe×Unit) (a1:qd):qso (DD X (n+1)) a0 a1=q3i (DD X n) n a0 a1:=(ql X Tryz.func101 (by kernel_rfl) (hX 101 rfl) n _).trans (qbnq ..)
theorem qbgw {X:Ext} (hX:XOk X) (n:Nat) (a0:tSch) (a1:qd):qek (DD X (n+1)) a0 a1=qwk (DD X n) n a0 a1:=(ql X Tryz.func102 (by kernel_rfl) (hX 102 rfl) n _).trans (qbgk ..)
theorem qbfc {X:Ext} (hX:XOk X) (n:Nat) (a0:(tSch)×qe×Unit) (a1:qd) (a2:Int):qpu (DD X (n+1)) a0 a1 a2=qvj (DD X n) n a0 a1 a2:=(ql X Tryz.func103 (by kernel_rfl) (hX 103 rfl) n _).trans (qbev ..)
theorem qbfr {X:Ext} (hX:XOk X) (n:Nat) (a0:qd) (a1:qd):qpd (DD X (n+1)) a0 a1=qvq (DD X n) n a0 a1:=(ql X Tryz.func104 (by kernel_rfl) (hX 104 rfl) n _).trans (qbe3 ..)
theorem qbjd {X:Ext} (hX:XOk X) (n:Nat) (a0:qe):qjq (DD X (n+1)) a0=qyu (DD X n) n a0:=(ql X Tryz.func105 (by kernel_rfl) (hX 105 rfl) n _).trans (qbi6 ..)
theorem qbcq {X:Ext} (hX:XOk X) (n:Nat) (a0:tSch):quj (DD X (n+1)) a0=qt0 (DD X n) n a0:=(ql X Tryz.func107 (by kernel_rfl) (hX 107 rfl) n _).trans (qbdj ..)
theorem qbiz {X:Ext} (hX:XOk X) (n:Nat) (a0:tSch):qtm (DD X (n+1)) a0=qzr (DD X n) n a0:=(ql X Tryz.func108 (by kernel_rfl) (hX 108 rfl) n _).trans (qbis ..)
theorem qbg1 {X:Ext} (hX:XOk X) (n:Nat) (a0:tSch) (a1:qd) (a2:qd):qr0 (DD X (n+1)) a0 a1 a2=qwi (DD X n) n a0 a1 a2:=(ql X Tryz.func111 (by kernel_rfl) (hX 111 rfl) n _).trans (qbg0 ..)
theorem qbgt {X:Ext} (hX:XOk X) (n:Nat) (a0:tSch):qrp (DD X (n+1)) a0=qwn (DD X n) n a0:=(ql X Tryz.func112 (by kernel_rfl) (hX 112 rfl) n _).trans (qbih ..)
theorem qblw {X:Ext} (hX:XOk X) (n:Nat) (a0:List Int×Int×Int×Unit) (a1:Int):qky (DD X (n+1)) a0 a1=q1w (DD X n) n a0 a1:=(ql X Tryz.func114 (by kernel_rfl) (hX 114 rfl) n _).trans (qbmd ..)
theorem qbjy {X:Ext} (hX:XOk X) (n:Nat) (a0:List Int×Int×Int×Unit) (a1:Int):qdf (DD X (n+1)) a0 a1=qzp (DD X n) n a0 a1:=(ql X Tryz.func115 (by kernel_rfl) (hX 115 rfl) n _).trans (qbj0 ..)
theorem qbot {X:Ext} (hX:XOk X) (n:Nat) (a0:Int) (a1:Int) (a2:Int):qh4 (DD X (n+1)) a0 a1 a2=q57 (DD X n) n a0 a1 a2:=(ql X Tryz.func117 (by kernel_rfl) (hX 117 rfl) n _).trans (qbon ..)
theorem qbka {X:Ext} (hX:XOk X) (n:Nat) (a0:qd) (a1:List Int):qos (DD X (n+1)) a0 a1=qys (DD X n) n a0 a1:=(ql X Tryz.func119 (by kernel_rfl) (hX 119 rfl) n _).trans (qbki ..)
theorem qbac {X:Ext} (hX:XOk X) (n:Nat) (a0:List Int×Int×Int×Unit):qri (DD X (n+1)) a0=qre (DD X n) n a0:=(ql X Tryz.func135 (by kernel_rfl) (hX 135 rfl) n _).trans (q9j ..)
theorem qbcy {X:Ext} (hX:XOk X) (n:Nat) (a0:List Int×Int×Int×Unit) (a1:tSch):qn8 (DD X (n+1)) a0 a1=qt7 (DD X n) n a0 a1:=(ql X Tryz.func136 (by kernel_rfl) (hX 136 rfl) n _).trans (qbcw ..)
theorem qbdf {X:Ext} (hX:XOk X) (n:Nat) (a0:qd):qob (DD X (n+1)) a0=quk (DD X n) n a0:=(ql X Tryz.func137 (by kernel_rfl) (hX 137 rfl) n _).trans (qbdh ..)
theorem q5v {X:Ext} (hX:XOk X) (n:Nat) (a0:List Int):qjz (DD X (n+1)) a0=qnt (DD X n) n a0:=(ql X Tryz.func138 (by kernel_rfl) (hX 138 rfl) n _).trans (q6b ..)
theorem qbi1 {X:Ext} (hX:XOk X) (n:Nat) (a0:Int×Int×ByteArray×Unit):qts (DD X (n+1)) a0=qyl (DD X n) n a0:=(ql X Tryz.func139 (by kernel_rfl) (hX 139 rfl) n _).trans (qbi8 ..)
theorem qhc {X:Ext} (hX:XOk X) (n:Nat) (a0:qd) (a1:qd) (a2:Clo):qch (DD X (n+1)) a0 a1 a2=qcj (DD X n) n a0 a1 a2:=(ql X Tryz.func140 (by kernel_rfl) (hX 140 rfl) n _).trans (qhe ..)
theorem qbji {X:Ext} (hX:XOk X) (n:Nat) (a0:Int×Int×ByteArray×Unit) (a1:Int×Int×ByteArray×Unit):qyx (DD X (n+1)) a0 a1=qzt (DD X n) n a0 a1:=(ql X Tryz.func141 (by kernel_rfl) (hX 141 rfl) n _).trans (qbiu ..)
theorem qnx {X:Ext} (hX:XOk X) (n:Nat) (a0:tIxs) (a1:Clo):qc3 (DD X (n+1)) a0 a1=qd8 (DD X n) n a0 a1:=(ql X Tryz.func142 (by kernel_rfl) (hX 142 rfl) n _).trans (qn2 ..)
theorem qbio {X:Ext} (hX:XOk X) (n:Nat) (a0:ByteArray×List Int×Bool×Unit) (a1:qd) (a2:qd):q7l (DD X (n+1)) a0 a1 a2=qzd (DD X n) n a0 a1 a2:=(ql X Tryz.func143 (by kernel_rfl) (hX 143 rfl) n _).trans (qbim ..)
theorem qqd {X:Ext} (hX:XOk X) (n:Nat) (a0:qd) (a1:Int×Int×ByteArray×Unit):qe9 (DD X (n+1)) a0 a1=qe8 (DD X n) n a0 a1:=(ql X Tryz.func144 (by kernel_rfl) (hX 144 rfl) n _).trans (qqf ..)
theorem qs5 {X:Ext} (hX:XOk X) (n:Nat) (a0:qd) (a1:qd):qd3 (DD X (n+1)) a0 a1=qf2 (DD X n) n a0 a1:=(ql X Tryz.func145 (by kernel_rfl) (hX 145 rfl) n _).trans (qsm ..)
theorem qbe7 {X:Ext} (hX:XOk X) (n:Nat) (a0:ByteArray):qpc (DD X (n+1)) a0=qvs (DD X n) n a0:=(ql X Tryz.func146 (by kernel_rfl) (hX 146 rfl) n _).trans (qbfn ..)
theorem qbn4 {X:Ext} (hX:XOk X) (n:Nat) (a0:tSch) (a1:ByteArray):q33 (DD X (n+1)) a0 a1=q3t (DD X n) n a0 a1:=(ql X Tryz.func147 (by kernel_rfl) (hX 147 rfl) n _).trans (qbog ..)
theorem qbib {X:Ext} (hX:XOk X) (n:Nat) (a0:tSch) (a1:List Int) (a2:Int):qro (DD X (n+1)) a0 a1 a2=qxt (DD X n) n a0 a1 a2:=(ql X Tryz.func148 (by kernel_rfl) (hX 148 rfl) n _).trans (qbgi ..)
theorem qbdn {X:Ext} (hX:XOk X) (n:Nat) (a0:ByteArray×List Int×Bool×Unit) (a1:ByteArray×List Int×Bool×Unit):q16 (DD X (n+1)) a0 a1=qur (DD X n) n a0 a1:=(ql X Tryz.func149 (by kernel_rfl) (hX 149 rfl) n _).trans (qbdq ..)
theorem qxw {X:Ext} (hX:XOk X) (n:Nat) (a0:List Int) (a1:Clo):qiz (DD X (n+1)) a0 a1=qiy (DD X n) n a0 a1:=(ql X Tryz.func150 (by kernel_rfl) (hX 150 rfl) n _).trans (qxv ..)
theorem qbdi {X:Ext} (hX:XOk X) (n:Nat) (a0:Int) (a1:tSch):q2p (DD X (n+1)) a0 a1=qul (DD X n) n a0 a1:=(ql X Tryz.func151 (by kernel_rfl) (hX 151 rfl) n _).trans (qbcs ..)
theorem qbc9 {X:Ext} (hX:XOk X) (n:Nat) (a0:qe):qua (DD X (n+1)) a0=que (DD X n) n a0:=(ql X Tryz.func152 (by kernel_rfl) (hX 152 rfl) n _).trans (qbdt ..)
theorem qbkd {X:Ext} (hX:XOk X) (n:Nat) (a0:qd) (a1:(tSch)×qe×Unit) (a2:qd):q61 (DD X (n+1)) a0 a1 a2=qy6 (DD X n) n a0 a1 a2:=(ql X Tryz.func153 (by kernel_rfl) (hX 153 rfl) n _).trans (qbiw ..)
theorem qbjo {X:Ext} (hX:XOk X) (n:Nat) (a0:Int×Int×ByteArray×Unit):qym (DD X (n+1)) a0=qz4 (DD X n) n a0:=(ql X Tryz.func158 (by kernel_rfl) (hX 158 rfl) n _).trans (qbjf ..)
theorem qbj5 {X:Ext} (hX:XOk X) (n:Nat) (a0:qd) (a1:qd):qtn (DD X (n+1)) a0 a1=qz1 (DD X n) n a0 a1:=(ql X Tryz.func159 (by kernel_rfl) (hX 159 rfl) n _).trans (qbje ..)
theorem qbe8 {X:Ext} (hX:XOk X) (n:Nat) (a0:Int×Int×ByteArray×Unit) (a1:Int×Int×ByteArray×Unit):qpp (DD X (n+1)) a0 a1=qvk (DD X n) n a0 a1:=(ql X Tryz.func160 (by kernel_rfl) (hX 160 rfl) n _).trans (qbf1 ..)
theorem qbes {X:Ext} (hX:XOk X) (n:Nat) (a0:Int×Int×ByteArray×Unit) (a1:Int×Int×ByteArray×Unit):qv7 (DD X (n+1)) a0 a1=qvp (DD X n) n a0 a1:=(ql X Tryz.func161 (by kernel_rfl) (hX 161 rfl) n _).trans (qbfp ..)
theorem qbl2 {X:Ext} (hX:XOk X) (n:Nat) (a0:List Int×Int×Int×Unit) (a1:List ByteArray):q1f (DD X (n+1)) a0 a1=q1i (DD X n) n a0 a1:=(ql X Tryz.func162 (by kernel_rfl) (hX 162 rfl) n _).trans (qbl7 ..)
theorem qbfb {X:Ext} (hX:XOk X) (n:Nat) (a0:List Int×Int×Int×Unit) (a1:List Int):qpz (DD X (n+1)) a0 a1=qvw (DD X n) n a0 a1:=(ql X Tryz.func163 (by kernel_rfl) (hX 163 rfl) n _).trans (qbex ..)
theorem qu6 {X:Ext} (hX:XOk X) (n:Nat) (a0:qei):qhf (DD X (n+1)) a0=qhd (DD X n) n a0:=(ql X Tryz.func164 (by kernel_rfl) (hX 164 rfl) n _).trans (qvf ..)
theorem qbjr {X:Ext} (hX:XOk X) (n:Nat) (a0:qd):qyt (DD X (n+1)) a0=qzw (DD X n) n a0:=(ql X Tryz.func165 (by kernel_rfl) (hX 165 rfl) n _).trans (qbjh ..)
theorem qbeu {X:Ext} (hX:XOk X) (n:Nat) (a0:ByteArray):qpb (DD X (n+1)) a0=qvh (DD X n) n a0:=(ql X Tryz.func166 (by kernel_rfl) (hX 166 rfl) n _).trans (qbfw ..)
theorem qbm0 {X:Ext} (hX:XOk X) (n:Nat) (a0:tSch) (a1:ByteArray):q3y (DD X (n+1)) a0 a1=q4h (DD X n) n a0 a1:=(ql X Tryz.func167 (by kernel_rfl) (hX 167 rfl) n _).trans (qbny ..)
theorem qbeq {X:Ext} (hX:XOk X) (n:Nat) (a0:tSch) (a1:List Int) (a2:Int):qpe (DD X (n+1)) a0 a1 a2=qvd (DD X n) n a0 a1 a2:=(ql X Tryz.func168 (by kernel_rfl) (hX 168 rfl) n _).trans (qbfg ..)
theorem qbdm {X:Ext} (hX:XOk X) (n:Nat) (a0:tSch):qt2 (DD X (n+1)) a0=qtx (DD X n) n a0:=(ql X Tryz.func169 (by kernel_rfl) (hX 169 rfl) n _).trans (qbdc ..)
theorem qbl1 {X:Ext} (hX:XOk X) (n:Nat) (a0:List Int×Int×Int×Unit):qkv (DD X (n+1)) a0=q1j (DD X n) n a0:=(ql X Tryz.func170 (by kernel_rfl) (hX 170 rfl) n _).trans (qbma ..)
theorem qbff {X:Ext} (hX:XOk X) (n:Nat) (a0:List Int×Int×Int×Unit) (a1:Int):qpt (DD X (n+1)) a0 a1=qve (DD X n) n a0 a1:=(ql X Tryz.func190 (by kernel_rfl) (hX 190 rfl) n _).trans (qber ..)
theorem qbiy {X:Ext} (hX:XOk X) (n:Nat) (a0:qd):qzm (DD X (n+1)) a0=qyh (DD X n) n a0:=(ql X Tryz.func191 (by kernel_rfl) (hX 191 rfl) n _).trans (qbkf ..)
theorem qo5 {X:Ext} (hX:XOk X) (n:Nat) (a0:tIxs) (a1:Clo):qex (DD X (n+1)) a0 a1=qev (DD X n) n a0 a1:=(ql X Tryz.func193 (by kernel_rfl) (hX 193 rfl) n _).trans (qpr ..)
theorem qsi {X:Ext} (hX:XOk X) (n:Nat) (a0:qd) (a1:Int×Int×ByteArray×Unit):qf4 (DD X (n+1)) a0 a1=qf8 (DD X n) n a0 a1:=(ql X Tryz.func194 (by kernel_rfl) (hX 194 rfl) n _).trans (qsw ..)
theorem qs2 {X:Ext} (hX:XOk X) (n:Nat) (a0:qei) (a1:Clo):qgb (DD X (n+1)) a0 a1=qf6 (DD X n) n a0 a1:=(ql X Tryz.func195 (by kernel_rfl) (hX 195 rfl) n _).trans (qtd ..)
theorem qbjt {X:Ext} (hX:XOk X) (n:Nat) (a0:ByteArray×Int×Bool×Unit) (a1:ByteArray):q7j (DD X (n+1)) a0 a1=qy5 (DD X n) n a0 a1:=(ql X Tryz.func196 (by kernel_rfl) (hX 196 rfl) n _).trans (qbj2 ..)
theorem q24 {X:Ext} (hX:XOk X) (n:Nat) (a0:List Int) (a1:Int):qlf (DD X (n+1)) a0 a1=qlh (DD X n) n a0 a1:=(ql X Tryz.func197 (by kernel_rfl) (hX 197 rfl) n _).trans (q2t ..)
theorem q1l {X:Ext} (hX:XOk X) (n:Nat) (a0:List Int) (a1:Clo):qku (DD X (n+1)) a0 a1=qkx (DD X n) n a0 a1:=(ql X Tryz.func198 (by kernel_rfl) (hX 198 rfl) n _).trans (q1b ..)
theorem qnr {X:Ext} (hX:XOk X) (n:Nat) (a0:qd) (a1:Clo):qd5 (DD X (n+1)) a0 a1=qd6 (DD X n) n a0 a1:=(ql X Tryz.func207 (by kernel_rfl) (hX 207 rfl) n _).trans (qnj ..)
theorem qbep {X:Ext} (hX:XOk X) (n:Nat) (a0:Int×Int×ByteArray×Unit):q4j (DD X (n+1)) a0=qu9 (DD X n) n a0:=(ql X Tryz.func208 (by kernel_rfl) (hX 208 rfl) n _).trans (qbfj ..)
theorem q6c {X:Ext} (hX:XOk X) (n:Nat) (a0:List Int) (a1:Int):qnl (DD X (n+1)) a0 a1=qnp (DD X n) n a0 a1:=(ql X Tryz.func210 (by kernel_rfl) (hX 210 rfl) n _).trans (q52 ..)
theorem qo3 {X:Ext} (hX:XOk X) (n:Nat) (a0:qd) (a1:Clo):qeo (DD X (n+1)) a0 a1=qem (DD X n) n a0 a1:=(ql X Tryz.func213 (by kernel_rfl) (hX 213 rfl) n _).trans (qo2 ..)
end Go.G


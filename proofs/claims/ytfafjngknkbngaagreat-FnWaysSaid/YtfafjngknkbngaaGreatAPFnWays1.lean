import Derived.Test.YtfafjngknkbngaaGreatAPFnWays0
set_option linter.unusedVariables false
set_option linter.unusedSimpArgs false
set_option linter.unusedSectionVars false
namespace Go.G
set_option maxRecDepth 100000
set_option maxHeartbeats 0
open Go Go.V
noncomputable section
def qsi (D:DX)(n:Nat) (go:Int→List Int×Int×Int×Unit→tSch→qd→Option ((qd×Unit)×tCur×Unit)) (K0:List Int×Int×Int×Unit→qd→Option ((qd×Unit)×tCur×Unit)) (x0:Int) (x1:List Int×Int×Int×Unit) (x2:tSch) (x3:qd):Option ((qd×Unit)×tCur×Unit):=br (decide (x0<(↑(List.length (Prod.fst x2)):Int))) (br (decide (0≤x0)&&decide (x0<(↑(List.length (Prod.fst x2)):Int))) (br (Prod.fst (Prod.snd (Prod.snd (List.getD (Prod.fst x2) (Int.toNat x0) (ByteArray.empty,0,false,()))))) (qh (qf2 D x1 3) fun b↦br (Prod.fst (Prod.fst b)) (br (decide (List.length x3+1≤q0)) (go (IntKind.wrap IntKind.i64 (x0+1)) (Prod.fst (Prod.snd b)) x2 (x3++[(0,0,ByteArray.empty,())])) none) (br (decide (0≤x0)&&decide (x0<(↑(List.length (Prod.fst x2)):Int))) (qh (qpg D (Prod.fst (Prod.snd b)) (Prod.fst (Prod.snd (List.getD (Prod.fst x2) (Int.toNat x0) (ByteArray.empty,0,false,()))))) fun b↦br (decide (List.length x3+1≤q0)) (go (IntKind.wrap IntKind.i64 (x0+1)) (Prod.fst (Prod.snd b)) x2 (x3++[Prod.fst (Prod.fst b)])) none) none)) (br (decide (0≤x0)&&decide (x0<(↑(List.length (Prod.fst x2)):Int))) (qh (qpg D x1 (Prod.fst (Prod.snd (List.getD (Prod.fst x2) (Int.toNat x0) (ByteArray.empty,0,false,()))))) fun b↦br (decide (List.length x3+1≤q0)) (go (IntKind.wrap IntKind.i64 (x0+1)) (Prod.fst (Prod.snd b)) x2 (x3++[Prod.fst (Prod.fst b)])) none) none)) none) (K0 x1 x3)
def qfz (D:DX)(n:Nat) (K0:List Int×Int×Int×Unit→qd→Option ((qd×Unit)×tCur×Unit)):Nat→(Int)→tCur→(tSch)→(qd)→Option ((qd×Unit)×tCur×Unit) | 0=>(fun x0 x1 x2 x3=>none) | m+1=>(fun x0 x1 x2 x3=>qsi D n (qfz D n K0 m) K0 x0 x1 x2 x3)
def qpu (D:DX)(n:Nat) (v0_0:List Int×Int×Int×Unit) (v0_1:qd):Option ((qd×Unit)×tCur×Unit):=some ((v0_1,()),v0_0,())
def qq0 (D:DX)(n:Nat):(Int)→tCur→(tSch)→(qd)→Option ((qd×Unit)×tCur×Unit):=(fun x0 x1 x2 x3=>qfz D n (fun v0_0 v0_1=>qpu D n v0_0 v0_1) n x0 x1 x2 x3)
def qt3 (D:DX)(n:Nat) (lp0:Int→List Int×Int×Int×Unit→tSch→qd→Option ((qd×Unit)×tCur×Unit)) (a0:List Int×Int×Int×Unit) (a1:tSch):Option ((qd×Unit)×tCur×Unit):=lp0 0 a0 a1 []
def qub (D:DX)(n:Nat) (a0:List Int×Int×Int×Unit) (a1:tSch):Option ((qd×Unit)×tCur×Unit):=qt3 D n (qq0 D n) a0 a1
def qhg (x0:Int) (x1:List Int×Int×Int×Unit) (x2:tSch) (x3:qd):St:=stq 41 [(0,AV.addr 0 []),(3,AV.addr 3 []),(5,AV.brw 5 [] 0),(6,avI x0)] [(0,Root.mk (Ty.pair (Ty.sl (Ty.int IntKind.u8)) (Ty.pair yI (Ty.pair yI Ty.unit))) Mk.no x1 true),(3,Root.mk yS Mk.no x2 true),(5,Root.mk (Ty.sl yV) (Mk.own 0 (Mk.pr Mk.no (Mk.pr Mk.no (Mk.pr Mk.no Mk.no)))) x3 false)] 
def qkm (v0_0:List Int×Int×Int×Unit) (v0_1:qd):St:=stq 41 [(0,AV.addr 0 []),(5,AV.brw 5 [] 0)] [(0,Root.mk (Ty.pair (Ty.sl (Ty.int IntKind.u8)) (Ty.pair yI (Ty.pair yI Ty.unit))) Mk.no v0_0 true),(5,Root.mk (Ty.sl yV) (Mk.own 0 (Mk.pr Mk.no (Mk.pr Mk.no (Mk.pr Mk.no Mk.no)))) v0_1 false)] 
theorem qbae (D:DX)(n:Nat) (m:Nat) (K:Ex→St→Option (Out ctx 136)) (x0:Int) (x1:List Int×Int×Int×Unit) (x2:tSch) (x3:qd) :
 LQ qc D n 136 [.r,.r,.l,.r,.l] (m+1) (qhg x0 x1 x2 x3) K=qsi D n (fun x0 x1 x2 x3=>LQ qc D n 136 [.r,.r,.l,.r,.l] m (qhg x0 x1 x2 x3) K) (fun v0_0 v0_1=>K (Ex.exit 0) (qkm v0_0 v0_1)) x0 x1 x2 x3:=by kernel_rfl
theorem qyn (D:DX)(n:Nat) (K:Ex→St→Option (Out ctx 136)):∀ (m:Nat) (x0:Int) (x1:List Int×Int×Int×Unit) (x2:tSch) (x3:qd),LQ qc D n 136 [.r,.r,.l,.r,.l] m (qhg x0 x1 x2 x3) K=qfz D n (fun v0_0 v0_1=>K (Ex.exit 0) (qkm v0_0 v0_1)) m x0 x1 x2 x3
 | 0,x0,x1,x2,x3=>qw ..
 | m+1,x0,x1,x2,x3=>by
  have ih:(fun x0 x1 x2 x3=>LQ qc D n 136 [.r,.r,.l,.r,.l] m (qhg x0 x1 x2 x3) K)=qfz D n (fun v0_0 v0_1=>K (Ex.exit 0) (qkm v0_0 v0_1)) m:=by funext x0 x1 x2 x3;exact qyn D n K m x0 x1 x2 x3
  rw[qbae]
  rw[ih];rfl
theorem q9h (D:DX)(n:Nat) (v0_0:List Int×Int×Int×Unit) (v0_1:qd) :
 (CQ qc D n 136 [] [.r,.r,.l,.r,.l] (qi qc 136)) (Ex.exit 0) (qkm v0_0 v0_1)=qpu D n v0_0 v0_1:=by kernel_rfl
theorem q82 (D:DX)(n:Nat) (x0:Int) (x1:List Int×Int×Int×Unit) (x2:tSch) (x3:qd) :
 LQ qc D n 136 [.r,.r,.l,.r,.l] n (qhg x0 x1 x2 x3) (CQ qc D n 136 [] [.r,.r,.l,.r,.l] (qi qc 136))=qq0 D n x0 x1 x2 x3:=by
 rw[qyn]
 simp only[q9h]
 rfl
theorem qbdl (D:DX)(n:Nat) (a0:List Int×Int×Int×Unit) (a1:tSch):rfC qc D n 136 (a0,(a1,()))=qub D n a0 a1:=by
 have h:rfC qc D n 136 (a0,(a1,()))=qt3 D n (fun x0 x1 x2 x3=>LQ qc D n 136 [.r,.r,.l,.r,.l] n (qhg x0 x1 x2 x3) (CQ qc D n 136 [] [.r,.r,.l,.r,.l] (qi qc 136))) a0 a1:=by kernel_rfl
 rw[h]
 simp only[q82]
 rfl

def qm9 (D:DX)(n:Nat) (go:Int→qd→Int→Int→List Int→Int×Int×ByteArray×Unit→Option ((List Int×Unit)×Unit)) (K0:qd→Int→Int→List Int→Option ((List Int×Unit)×Unit)) (x1_0:Int) (x1_1:qd) (x1_2:Int) (x1_3:Int) (x1_4:List Int) (x1_5:Int×Int×ByteArray×Unit):Option ((List Int×Unit)×Unit):=br (decide (x1_0≥0)) (br (decide (IntKind.wrap IntKind.i64 (8 * x1_0)<0)) none (br (decide (List.length x1_4+1≤q0)) (go (IntKind.wrap IntKind.i64 (x1_0 - 1)) x1_1 x1_2 x1_3 (x1_4++[IntKind.wrap IntKind.u8 (Int.fdiv (IntKind.wrap IntKind.i64 (Prod.fst (Prod.snd x1_5)+4611686018427387904)) (Int.pow 2 (if Int.toNat (IntKind.wrap IntKind.i64 (8 * x1_0))≤IntKind.bits IntKind.i64 then Int.toNat (IntKind.wrap IntKind.i64 (8 * x1_0)) else IntKind.bits IntKind.i64)))]) x1_5) none)) (K0 x1_1 x1_2 x1_3 x1_4)
def qf1 (D:DX)(n:Nat) (K0:qd→Int→Int→List Int→Option ((List Int×Unit)×Unit)):Nat→(Int)→(qd)→(Int)→(Int)→(List Int)→tVal→Option ((List Int×Unit)×Unit) | 0=>(fun x1_0 x1_1 x1_2 x1_3 x1_4 x1_5=>none) | m+1=>(fun x1_0 x1_1 x1_2 x1_3 x1_4 x1_5=>qm9 D n (qf1 D n K0 m) K0 x1_0 x1_1 x1_2 x1_3 x1_4 x1_5)
def qp4 (D:DX)(n:Nat) (go:qd→Int→Int→List Int→Option ((List Int×Unit)×Unit)) (K0:List Int→Option ((List Int×Unit)×Unit)) (v0_0:qd) (v0_1:Int) (v0_2:Int) (v0_3:List Int):Option ((List Int×Unit)×Unit):=go v0_0 v0_1 (IntKind.wrap IntKind.i64 (v0_2+1)) v0_3
def qq2 (D:DX)(n:Nat) (go:qd→Int→Int→List Int→Option ((List Int×Unit)×Unit)) (K0:List Int→Option ((List Int×Unit)×Unit)):(Int)→(qd)→(Int)→(Int)→(List Int)→tVal→Option ((List Int×Unit)×Unit):=(fun x1_0 x1_1 x1_2 x1_3 x1_4 x1_5=>qf1 D n (fun v0_0 v0_1 v0_2 v0_3=>qp4 D n go K0 v0_0 v0_1 v0_2 v0_3) n x1_0 x1_1 x1_2 x1_3 x1_4 x1_5)
def qsm (D:DX)(n:Nat) (go:qd→Int→Int→Int→Int→List Int→Int×Int×ByteArray×Unit→Option ((List Int×Unit)×Unit)) (K0:qd→Int→Int→List Int→Option ((List Int×Unit)×Unit)) (x2_0:qd) (x2_1:Int) (x2_2:Int) (x2_3:Int) (x2_4:Int) (x2_5:List Int) (x2_6:Int×Int×ByteArray×Unit):Option ((List Int×Unit)×Unit):=br (decide (x2_4<x2_3)) (br (decide (0≤x2_4)&&decide (x2_4<(↑(ByteArray.size (Prod.fst (Prod.snd (Prod.snd x2_6)))):Int))) (br (decide (List.length x2_5+1≤q0)) (br (decide (0≤x2_4)&&decide (x2_4<(↑(ByteArray.size (Prod.fst (Prod.snd (Prod.snd x2_6)))):Int))) (br (decide ((↑(UInt8.toNat (Array.getD (ByteArray.data (Prod.fst (Prod.snd (Prod.snd x2_6)))) (Int.toNat x2_4) (UInt8.ofNat 0))):Int)=0)) (br (decide (List.length (x2_5++[(↑(UInt8.toNat (Array.getD (ByteArray.data (Prod.fst (Prod.snd (Prod.snd x2_6)))) (Int.toNat x2_4) (UInt8.ofNat 0))):Int)])+1≤q0)) (go x2_0 x2_1 x2_2 x2_3 (IntKind.wrap IntKind.i64 (x2_4+1)) (x2_5++[(↑(UInt8.toNat (Array.getD (ByteArray.data (Prod.fst (Prod.snd (Prod.snd x2_6)))) (Int.toNat x2_4) (UInt8.ofNat 0))):Int)]++[255]) x2_6) none) (go x2_0 x2_1 x2_2 x2_3 (IntKind.wrap IntKind.i64 (x2_4+1)) (x2_5++[(↑(UInt8.toNat (Array.getD (ByteArray.data (Prod.fst (Prod.snd (Prod.snd x2_6)))) (Int.toNat x2_4) (UInt8.ofNat 0))):Int)]) x2_6)) none) none) none) (K0 x2_0 x2_1 x2_2 x2_5)
def qhd (D:DX)(n:Nat) (K0:qd→Int→Int→List Int→Option ((List Int×Unit)×Unit)):Nat→(qd)→(Int)→(Int)→(Int)→(Int)→(List Int)→tVal→Option ((List Int×Unit)×Unit) | 0=>(fun x2_0 x2_1 x2_2 x2_3 x2_4 x2_5 x2_6=>none) | m+1=>(fun x2_0 x2_1 x2_2 x2_3 x2_4 x2_5 x2_6=>qsm D n (qhd D n K0 m) K0 x2_0 x2_1 x2_2 x2_3 x2_4 x2_5 x2_6)
def qpe (D:DX)(n:Nat) (go:qd→Int→Int→List Int→Option ((List Int×Unit)×Unit)) (K0:List Int→Option ((List Int×Unit)×Unit)) (v0_0:qd) (v0_1:Int) (v0_2:Int) (v0_3:List Int):Option ((List Int×Unit)×Unit):=br (decide (List.length v0_3+2≤q0)) (go v0_0 v0_1 (IntKind.wrap IntKind.i64 (v0_2+1)) (v0_3++[0,1])) none
def qq1 (D:DX)(n:Nat) (go:qd→Int→Int→List Int→Option ((List Int×Unit)×Unit)) (K0:List Int→Option ((List Int×Unit)×Unit)):(qd)→(Int)→(Int)→(Int)→(Int)→(List Int)→tVal→Option ((List Int×Unit)×Unit):=(fun x2_0 x2_1 x2_2 x2_3 x2_4 x2_5 x2_6=>qhd D n (fun v0_0 v0_1 v0_2 v0_3=>qpe D n go K0 v0_0 v0_1 v0_2 v0_3) n x2_0 x2_1 x2_2 x2_3 x2_4 x2_5 x2_6)
def qtf (D:DX)(n:Nat) (go:qd→Int→Int→List Int→Option ((List Int×Unit)×Unit)) (K0:List Int→Option ((List Int×Unit)×Unit)) (lp1:Int→qd→Int→Int→List Int→Int×Int×ByteArray×Unit→Option ((List Int×Unit)×Unit)) (lp2:qd→Int→Int→Int→Int→List Int→Int×Int×ByteArray×Unit→Option ((List Int×Unit)×Unit)) (x0:qd) (x1:Int) (x2:Int) (x3:List Int):Option ((List Int×Unit)×Unit):=br (decide (x2<x1)) (br (decide (0≤x2)&&decide (x2<(↑(List.length x0):Int))) (br (decide (List.length x3+1≤q0)) (br (decide (Prod.fst (List.getD x0 (Int.toNat x2) (0,0,ByteArray.empty,()))=1)) (br (decide (List.length (x3++[IntKind.wrap IntKind.u8 (IntKind.wrap IntKind.i64 (Prod.fst (List.getD x0 (Int.toNat x2) (0,0,ByteArray.empty,()))+1))])+1≤q0)) (go x0 x1 (IntKind.wrap IntKind.i64 (x2+1)) (x3++[IntKind.wrap IntKind.u8 (IntKind.wrap IntKind.i64 (Prod.fst (List.getD x0 (Int.toNat x2) (0,0,ByteArray.empty,()))+1))]++[IntKind.wrap IntKind.u8 (Prod.fst (Prod.snd (List.getD x0 (Int.toNat x2) (0,0,ByteArray.empty,()))))])) none) (br (decide (Prod.fst (List.getD x0 (Int.toNat x2) (0,0,ByteArray.empty,()))=2)) (lp1 7 x0 x1 x2 (x3++[IntKind.wrap IntKind.u8 (IntKind.wrap IntKind.i64 (Prod.fst (List.getD x0 (Int.toNat x2) (0,0,ByteArray.empty,()))+1))]) (List.getD x0 (Int.toNat x2) (0,0,ByteArray.empty,()))) (br (decide (Prod.fst (List.getD x0 (Int.toNat x2) (0,0,ByteArray.empty,()))=3)) (lp2 x0 x1 x2 (↑(ByteArray.size (Prod.fst (Prod.snd (Prod.snd (List.getD x0 (Int.toNat x2) (0,0,ByteArray.empty,())))))):Int) 0 (x3++[IntKind.wrap IntKind.u8 (IntKind.wrap IntKind.i64 (Prod.fst (List.getD x0 (Int.toNat x2) (0,0,ByteArray.empty,()))+1))]) (List.getD x0 (Int.toNat x2) (0,0,ByteArray.empty,()))) (go x0 x1 (IntKind.wrap IntKind.i64 (x2+1)) (x3++[IntKind.wrap IntKind.u8 (IntKind.wrap IntKind.i64 (Prod.fst (List.getD x0 (Int.toNat x2) (0,0,ByteArray.empty,()))+1))]))))) none) none) (K0 x3)
def qej (D:DX)(n:Nat) (K0:List Int→Option ((List Int×Unit)×Unit)):Nat→(qd)→(Int)→(Int)→(List Int)→Option ((List Int×Unit)×Unit) | 0=>(fun x0 x1 x2 x3=>none) | m+1=>(fun x0 x1 x2 x3=>qtf D n (qej D n K0 m) K0 (qq2 D n (qej D n K0 m) K0) (qq1 D n (qej D n K0 m) K0) x0 x1 x2 x3)
def qw4 (D:DX)(n:Nat) (v0_0:List Int):Option ((List Int×Unit)×Unit):=some ((v0_0,()),())
def qq9 (D:DX)(n:Nat):(qd)→(Int)→(Int)→(List Int)→Option ((List Int×Unit)×Unit):=(fun x0 x1 x2 x3=>qej D n (fun v0_0=>qw4 D n v0_0) n x0 x1 x2 x3)
def qur (D:DX)(n:Nat) (lp0:qd→Int→Int→List Int→Option ((List Int×Unit)×Unit)) (a0:qd):Option ((List Int×Unit)×Unit):=qh (q0g D a0) fun b↦br (!Prod.fst (Prod.fst b)) (some (([],()),())) (lp0 a0 (↑(List.length a0):Int) 0 [])
def quj (D:DX)(n:Nat) (a0:qd):Option ((List Int×Unit)×Unit):=qur D n (qq9 D n) a0
def qc8 (x0:qd) (x1:Int) (x2:Int) (x3:List Int):St:=stq 81 [(3,AV.brw 3 [] 0),(13,AV.val (Ty.sl yV) x0),(14,avI x1),(15,avI x2)] [(3,Root.mk (Ty.sl (Ty.int IntKind.u8)) (Mk.own 0 Mk.no) x3 false)] 
def qdu (v0_0:List Int):St:=stq 81 [(3,AV.brw 3 [] 0)] [(3,Root.mk (Ty.sl (Ty.int IntKind.u8)) (Mk.own 0 Mk.no) v0_0 false)] 
def qhn (x1_0:Int) (x1_1:qd) (x1_2:Int) (x1_3:Int) (x1_4:List Int) (x1_5:Int×Int×ByteArray×Unit):St:=stq 81 [(3,AV.brw 3 [] 0),(5,AV.addr 5 []),(6,avI x1_0),(13,AV.val (Ty.sl yV) x1_1),(14,avI x1_2),(15,avI x1_3)] [(3,Root.mk (Ty.sl (Ty.int IntKind.u8)) (Mk.own 0 Mk.no) x1_4 false),(5,Root.mk yV Mk.no x1_5 true)] 
def qkr (v0_0:qd) (v0_1:Int) (v0_2:Int) (v0_3:List Int):St:=stq 81 [(3,AV.brw 3 [] 0),(13,AV.val (Ty.sl yV) v0_0),(14,avI v0_1),(15,avI v0_2)] [(3,Root.mk (Ty.sl (Ty.int IntKind.u8)) (Mk.own 0 Mk.no) v0_3 false)] 
def qhi (x2_0:qd) (x2_1:Int) (x2_2:Int) (x2_3:Int) (x2_4:Int) (x2_5:List Int) (x2_6:Int×Int×ByteArray×Unit):St:=stq 81 [(3,AV.brw 3 [] 0),(5,AV.addr 5 []),(13,AV.val (Ty.sl yV) x2_0),(14,avI x2_1),(15,avI x2_2),(56,avI x2_3),(57,avI x2_4)] [(3,Root.mk (Ty.sl (Ty.int IntKind.u8)) (Mk.own 0 Mk.no) x2_5 false),(5,Root.mk yV Mk.no x2_6 true)] 
def qko (v0_0:qd) (v0_1:Int) (v0_2:Int) (v0_3:List Int):St:=stq 81 [(3,AV.brw 3 [] 0),(13,AV.val (Ty.sl yV) v0_0),(14,avI v0_1),(15,avI v0_2)] [(3,Root.mk (Ty.sl (Ty.int IntKind.u8)) (Mk.own 0 Mk.no) v0_3 false)] 
theorem qbav (D:DX)(n:Nat) (m:Nat) (K:Ex→St→Option (Out ctx 137)) (x1_0:Int) (x1_1:qd) (x1_2:Int) (x1_3:Int) (x1_4:List Int) (x1_5:Int×Int×ByteArray×Unit) :
 LQ qc D n 137 [.r,.r,.r,.l,.r,.l,.l,.r,.r,.l,.l,.r,.r,.r,.l,.r,.r,.r,.l,.r,.l] (m+1) (qhn x1_0 x1_1 x1_2 x1_3 x1_4 x1_5) K=qm9 D n (fun x1_0 x1_1 x1_2 x1_3 x1_4 x1_5=>LQ qc D n 137 [.r,.r,.r,.l,.r,.l,.l,.r,.r,.l,.l,.r,.r,.r,.l,.r,.r,.r,.l,.r,.l] m (qhn x1_0 x1_1 x1_2 x1_3 x1_4 x1_5) K) (fun v0_0 v0_1 v0_2 v0_3=>K (Ex.exit 3) (qkr v0_0 v0_1 v0_2 v0_3)) x1_0 x1_1 x1_2 x1_3 x1_4 x1_5:=by kernel_rfl
theorem qys (D:DX)(n:Nat) (K:Ex→St→Option (Out ctx 137)):∀ (m:Nat) (x1_0:Int) (x1_1:qd) (x1_2:Int) (x1_3:Int) (x1_4:List Int) (x1_5:Int×Int×ByteArray×Unit),LQ qc D n 137 [.r,.r,.r,.l,.r,.l,.l,.r,.r,.l,.l,.r,.r,.r,.l,.r,.r,.r,.l,.r,.l] m (qhn x1_0 x1_1 x1_2 x1_3 x1_4 x1_5) K=qf1 D n (fun v0_0 v0_1 v0_2 v0_3=>K (Ex.exit 3) (qkr v0_0 v0_1 v0_2 v0_3)) m x1_0 x1_1 x1_2 x1_3 x1_4 x1_5
 | 0,x1_0,x1_1,x1_2,x1_3,x1_4,x1_5=>qw ..
 | m+1,x1_0,x1_1,x1_2,x1_3,x1_4,x1_5=>by
  have ih:(fun x1_0 x1_1 x1_2 x1_3 x1_4 x1_5=>LQ qc D n 137 [.r,.r,.r,.l,.r,.l,.l,.r,.r,.l,.l,.r,.r,.r,.l,.r,.r,.r,.l,.r,.l] m (qhn x1_0 x1_1 x1_2 x1_3 x1_4 x1_5) K)=qf1 D n (fun v0_0 v0_1 v0_2 v0_3=>K (Ex.exit 3) (qkr v0_0 v0_1 v0_2 v0_3)) m:=by funext x1_0 x1_1 x1_2 x1_3 x1_4 x1_5;exact qys D n K m x1_0 x1_1 x1_2 x1_3 x1_4 x1_5
  rw[qbav]
  rw[ih];rfl
theorem q85 (D:DX)(n:Nat) (m:Nat) (K:Ex→St→Option (Out ctx 137)) (v0_0:qd) (v0_1:Int) (v0_2:Int) (v0_3:List Int) :
 (CQ qc D n 137 [.r,.r,.r,.l,.r,.l,.l] [.r,.r,.l,.l,.r,.r,.r,.l,.r,.r,.r,.l,.r,.l] (LK qc D n 137 [.r,.r,.r,.l,.r,.l] m K)) (Ex.exit 3) (qkr v0_0 v0_1 v0_2 v0_3)=qp4 D n (fun x0 x1 x2 x3=>LQ qc D n 137 [.r,.r,.r,.l,.r,.l] m (qc8 x0 x1 x2 x3) K) (fun v0_0=>K (Ex.exit 0) (qdu v0_0)) v0_0 v0_1 v0_2 v0_3:=by kernel_rfl
theorem q8w (D:DX)(n:Nat) (m:Nat) (K:Ex→St→Option (Out ctx 137)) (x1_0:Int) (x1_1:qd) (x1_2:Int) (x1_3:Int) (x1_4:List Int) (x1_5:Int×Int×ByteArray×Unit) :
 LQ qc D n 137 [.r,.r,.r,.l,.r,.l,.l,.r,.r,.l,.l,.r,.r,.r,.l,.r,.r,.r,.l,.r,.l] n (qhn x1_0 x1_1 x1_2 x1_3 x1_4 x1_5) (CQ qc D n 137 [.r,.r,.r,.l,.r,.l,.l] [.r,.r,.l,.l,.r,.r,.r,.l,.r,.r,.r,.l,.r,.l] (LK qc D n 137 [.r,.r,.r,.l,.r,.l] m K))=qq2 D n (fun x0 x1 x2 x3=>LQ qc D n 137 [.r,.r,.r,.l,.r,.l] m (qc8 x0 x1 x2 x3) K) (fun v0_0=>K (Ex.exit 0) (qdu v0_0)) x1_0 x1_1 x1_2 x1_3 x1_4 x1_5:=by
 rw[qys]
 simp only[q85]
 rfl
theorem qba3 (D:DX)(n:Nat) (m:Nat) (K:Ex→St→Option (Out ctx 137)) (x2_0:qd) (x2_1:Int) (x2_2:Int) (x2_3:Int) (x2_4:Int) (x2_5:List Int) (x2_6:Int×Int×ByteArray×Unit) :
 LQ qc D n 137 [.r,.r,.r,.l,.r,.l,.l,.r,.r,.l,.l,.r,.r,.r,.l,.r,.r,.r,.r,.r,.l,.l,.r,.l] (m+1) (qhi x2_0 x2_1 x2_2 x2_3 x2_4 x2_5 x2_6) K=qsm D n (fun x2_0 x2_1 x2_2 x2_3 x2_4 x2_5 x2_6=>LQ qc D n 137 [.r,.r,.r,.l,.r,.l,.l,.r,.r,.l,.l,.r,.r,.r,.l,.r,.r,.r,.r,.r,.l,.l,.r,.l] m (qhi x2_0 x2_1 x2_2 x2_3 x2_4 x2_5 x2_6) K) (fun v0_0 v0_1 v0_2 v0_3=>K (Ex.exit 5) (qko v0_0 v0_1 v0_2 v0_3)) x2_0 x2_1 x2_2 x2_3 x2_4 x2_5 x2_6:=by kernel_rfl
theorem qyi (D:DX)(n:Nat) (K:Ex→St→Option (Out ctx 137)):∀ (m:Nat) (x2_0:qd) (x2_1:Int) (x2_2:Int) (x2_3:Int) (x2_4:Int) (x2_5:List Int) (x2_6:Int×Int×ByteArray×Unit),LQ qc D n 137 [.r,.r,.r,.l,.r,.l,.l,.r,.r,.l,.l,.r,.r,.r,.l,.r,.r,.r,.r,.r,.l,.l,.r,.l] m (qhi x2_0 x2_1 x2_2 x2_3 x2_4 x2_5 x2_6) K=qhd D n (fun v0_0 v0_1 v0_2 v0_3=>K (Ex.exit 5) (qko v0_0 v0_1 v0_2 v0_3)) m x2_0 x2_1 x2_2 x2_3 x2_4 x2_5 x2_6
 | 0,x2_0,x2_1,x2_2,x2_3,x2_4,x2_5,x2_6=>qw ..
 | m+1,x2_0,x2_1,x2_2,x2_3,x2_4,x2_5,x2_6=>by
  have ih:(fun x2_0 x2_1 x2_2 x2_3 x2_4 x2_5 x2_6=>LQ qc D n 137 [.r,.r,.r,.l,.r,.l,.l,.r,.r,.l,.l,.r,.r,.r,.l,.r,.r,.r,.r,.r,.l,.l,.r,.l] m (qhi x2_0 x2_1 x2_2 x2_3 x2_4 x2_5 x2_6) K)=qhd D n (fun v0_0 v0_1 v0_2 v0_3=>K (Ex.exit 5) (qko v0_0 v0_1 v0_2 v0_3)) m:=by funext x2_0 x2_1 x2_2 x2_3 x2_4 x2_5 x2_6;exact qyi D n K m x2_0 x2_1 x2_2 x2_3 x2_4 x2_5 x2_6
  rw[qba3]
  rw[ih];rfl
theorem q9f (D:DX)(n:Nat) (m:Nat) (K:Ex→St→Option (Out ctx 137)) (v0_0:qd) (v0_1:Int) (v0_2:Int) (v0_3:List Int) :
 (CQ qc D n 137 [.r,.r,.r,.l,.r,.l,.l] [.r,.r,.l,.l,.r,.r,.r,.l,.r,.r,.r,.r,.r,.l,.l,.r,.l] (LK qc D n 137 [.r,.r,.r,.l,.r,.l] m K)) (Ex.exit 5) (qko v0_0 v0_1 v0_2 v0_3)=qpe D n (fun x0 x1 x2 x3=>LQ qc D n 137 [.r,.r,.r,.l,.r,.l] m (qc8 x0 x1 x2 x3) K) (fun v0_0=>K (Ex.exit 0) (qdu v0_0)) v0_0 v0_1 v0_2 v0_3:=by kernel_rfl
theorem q9c (D:DX)(n:Nat) (m:Nat) (K:Ex→St→Option (Out ctx 137)) (x2_0:qd) (x2_1:Int) (x2_2:Int) (x2_3:Int) (x2_4:Int) (x2_5:List Int) (x2_6:Int×Int×ByteArray×Unit) :
 LQ qc D n 137 [.r,.r,.r,.l,.r,.l,.l,.r,.r,.l,.l,.r,.r,.r,.l,.r,.r,.r,.r,.r,.l,.l,.r,.l] n (qhi x2_0 x2_1 x2_2 x2_3 x2_4 x2_5 x2_6) (CQ qc D n 137 [.r,.r,.r,.l,.r,.l,.l] [.r,.r,.l,.l,.r,.r,.r,.l,.r,.r,.r,.r,.r,.l,.l,.r,.l] (LK qc D n 137 [.r,.r,.r,.l,.r,.l] m K))=qq1 D n (fun x0 x1 x2 x3=>LQ qc D n 137 [.r,.r,.r,.l,.r,.l] m (qc8 x0 x1 x2 x3) K) (fun v0_0=>K (Ex.exit 0) (qdu v0_0)) x2_0 x2_1 x2_2 x2_3 x2_4 x2_5 x2_6:=by
 rw[qyi]
 simp only[q9f]
 rfl
theorem qbay (D:DX)(n:Nat) (m:Nat) (K:Ex→St→Option (Out ctx 137)) (x0:qd) (x1:Int) (x2:Int) (x3:List Int) :
 LQ qc D n 137 [.r,.r,.r,.l,.r,.l] (m+1) (qc8 x0 x1 x2 x3) K=qtf D n (fun x0 x1 x2 x3=>LQ qc D n 137 [.r,.r,.r,.l,.r,.l] m (qc8 x0 x1 x2 x3) K) (fun v0_0=>K (Ex.exit 0) (qdu v0_0)) (fun x1_0 x1_1 x1_2 x1_3 x1_4 x1_5=>LQ qc D n 137 [.r,.r,.r,.l,.r,.l,.l,.r,.r,.l,.l,.r,.r,.r,.l,.r,.r,.r,.l,.r,.l] n (qhn x1_0 x1_1 x1_2 x1_3 x1_4 x1_5) (CQ qc D n 137 [.r,.r,.r,.l,.r,.l,.l] [.r,.r,.l,.l,.r,.r,.r,.l,.r,.r,.r,.l,.r,.l] (LK qc D n 137 [.r,.r,.r,.l,.r,.l] m K))) (fun x2_0 x2_1 x2_2 x2_3 x2_4 x2_5 x2_6=>LQ qc D n 137 [.r,.r,.r,.l,.r,.l,.l,.r,.r,.l,.l,.r,.r,.r,.l,.r,.r,.r,.r,.r,.l,.l,.r,.l] n (qhi x2_0 x2_1 x2_2 x2_3 x2_4 x2_5 x2_6) (CQ qc D n 137 [.r,.r,.r,.l,.r,.l,.l] [.r,.r,.l,.l,.r,.r,.r,.l,.r,.r,.r,.r,.r,.l,.l,.r,.l] (LK qc D n 137 [.r,.r,.r,.l,.r,.l] m K))) x0 x1 x2 x3:=by kernel_rfl
theorem qym (D:DX)(n:Nat) (K:Ex→St→Option (Out ctx 137)):∀ (m:Nat) (x0:qd) (x1:Int) (x2:Int) (x3:List Int),LQ qc D n 137 [.r,.r,.r,.l,.r,.l] m (qc8 x0 x1 x2 x3) K=qej D n (fun v0_0=>K (Ex.exit 0) (qdu v0_0)) m x0 x1 x2 x3
 | 0,x0,x1,x2,x3=>qw ..
 | m+1,x0,x1,x2,x3=>by
  have ih:(fun x0 x1 x2 x3=>LQ qc D n 137 [.r,.r,.r,.l,.r,.l] m (qc8 x0 x1 x2 x3) K)=qej D n (fun v0_0=>K (Ex.exit 0) (qdu v0_0)) m:=by funext x0 x1 x2 x3;exact qym D n K m x0 x1 x2 x3
  rw[qbay]
  simp only[q8w,q9c]
  rw[ih];rfl
theorem q9m (D:DX)(n:Nat) (v0_0:List Int) :
 (CQ qc D n 137 [] [.r,.r,.r,.l,.r,.l] (qi qc 137)) (Ex.exit 0) (qdu v0_0)=qw4 D n v0_0:=by kernel_rfl
theorem q9v (D:DX)(n:Nat) (x0:qd) (x1:Int) (x2:Int) (x3:List Int) :
 LQ qc D n 137 [.r,.r,.r,.l,.r,.l] n (qc8 x0 x1 x2 x3) (CQ qc D n 137 [] [.r,.r,.r,.l,.r,.l] (qi qc 137))=qq9 D n x0 x1 x2 x3:=by
 rw[qym]
 simp only[q9m]
 rfl
theorem qbdn (D:DX)(n:Nat) (a0:qd):rfC qc D n 137 (a0,())=quj D n a0:=by
 have h:rfC qc D n 137 (a0,())=qur D n (fun x0 x1 x2 x3=>LQ qc D n 137 [.r,.r,.r,.l,.r,.l] n (qc8 x0 x1 x2 x3) (CQ qc D n 137 [] [.r,.r,.r,.l,.r,.l] (qi qc 137))) a0:=by kernel_rfl
 rw[h]
 simp only[q9v]
 rfl


def q8n (D:DX)(n:Nat) (a0:Int×Int×ByteArray×Unit):Option ((Bool×Unit)×Unit):=br (decide (Prod.fst a0=0)) (some ((bif decide (Prod.fst (Prod.snd a0)=0) then List.beq (ByteArray.toList (Prod.fst (Prod.snd (Prod.snd a0)))) (ByteArray.toList (ByteArray.mk #[])) else false,()),())) (br (decide (Prod.fst a0=1)) (qh (qf5 D (Prod.fst (Prod.snd a0)) 0 1) fun b↦some ((bif Prod.fst (Prod.fst b) then List.beq (ByteArray.toList (Prod.fst (Prod.snd (Prod.snd a0)))) (ByteArray.toList (ByteArray.mk #[])) else false,()),())) (br (decide (Prod.fst a0=2)) (qh (qf5 D (Prod.fst (Prod.snd a0)) (-1000000000000) 1000000000000) fun b↦some ((bif Prod.fst (Prod.fst b) then List.beq (ByteArray.toList (Prod.fst (Prod.snd (Prod.snd a0)))) (ByteArray.toList (ByteArray.mk #[])) else false,()),())) (br (decide (Prod.fst a0=3)) (some ((bif decide (Prod.fst (Prod.snd a0)=0) then decide ((↑(ByteArray.size (Prod.fst (Prod.snd (Prod.snd a0)))):Int)≤20) else false,()),())) (some ((false,()),())))))
def q0c (D:DX)(n:Nat) (a0:Int×Int×ByteArray×Unit):Option ((Bool×Unit)×Unit):=q8n D n a0
theorem qbks (D:DX)(n:Nat) (a0:Int×Int×ByteArray×Unit):rfC qc D n 139 (a0,())=q0c D n a0:=by kernel_rfl

def qb7 (D:DX)(n:Nat) (a2:Clo) (go:qd→qd→qd→Int→Int→Option ((Int×Unit)×Unit)) (K0:qd→qd→Int→Option ((Int×Unit)×Unit)) (K1:qd→qd→Option ((Int×Unit)×Unit)) (x0:qd) (x1:qd) (x2:qd) (x3:Int) (x4:Int):Option ((Int×Unit)×Unit):=br (decide (x4<x3)) (br (decide (0≤x4)&&decide (x4<(↑(List.length x2):Int))) (br (decide (x4≥(↑(List.length x1):Int))) (K0 x0 x1 1) (br (decide (0≤x4)&&decide (x4<(↑(List.length x1):Int))) (qh (qbl ctx D a2 [CapV.val (Ty.pair (Ty.int IntKind.i64) (Ty.pair (Ty.int IntKind.i64) (Ty.pair Ty.str Ty.unit))) (List.getD x2 (Int.toNat x4) (0,0,ByteArray.empty,())),CapV.val (Ty.pair (Ty.int IntKind.i64) (Ty.pair (Ty.int IntKind.i64) (Ty.pair Ty.str Ty.unit))) (List.getD x1 (Int.toNat x4) (0,0,ByteArray.empty,()))] (Ty.int IntKind.i64)) fun b↦br (b != 0) (K0 x0 x1 b) (go x0 x1 x2 x3 (IntKind.wrap IntKind.i64 (x4+1)))) none)) none) (K1 x0 x1)
def qu (D:DX)(n:Nat) (a2:Clo) (K0:qd→qd→Int→Option ((Int×Unit)×Unit)) (K1:qd→qd→Option ((Int×Unit)×Unit)):Nat→(qd)→(qd)→(qd)→(Int)→(Int)→Option ((Int×Unit)×Unit) | 0=>(fun x0 x1 x2 x3 x4=>none) | m+1=>(fun x0 x1 x2 x3 x4=>qb7 D n a2 (qu D n a2 K0 K1 m) K0 K1 x0 x1 x2 x3 x4)
def qb1 (D:DX)(n:Nat) (a2:Clo) (v0_0:qd) (v0_1:qd) (v0_2:Int):Option ((Int×Unit)×Unit):=some ((v0_2,()),())
def qbc (D:DX)(n:Nat) (a2:Clo) (v1_0:qd) (v1_1:qd):Option ((Int×Unit)×Unit):=br (decide ((↑(List.length v1_0):Int)<(↑(List.length v1_1):Int))) (some ((-1,()),())) (some ((0,()),()))
def qb5 (D:DX)(n:Nat) (a2:Clo):(qd)→(qd)→(qd)→(Int)→(Int)→Option ((Int×Unit)×Unit):=(fun x0 x1 x2 x3 x4=>qu D n a2 (fun v0_0 v0_1 v0_2=>qb1 D n a2 v0_0 v0_1 v0_2) (fun v1_0 v1_1=>qbc D n a2 v1_0 v1_1) n x0 x1 x2 x3 x4)
def qch (D:DX)(n:Nat) (a2:Clo) (lp0:qd→qd→qd→Int→Int→Option ((Int×Unit)×Unit)) (a0:qd) (a1:qd):Option ((Int×Unit)×Unit):=lp0 a0 a1 a0 (↑(List.length a0):Int) 0
def qci (D:DX)(n:Nat) (a0:qd) (a1:qd) (a2:Clo):Option ((Int×Unit)×Unit):=qch D n a2 (qb5 D n a2) a0 a1
def qv (a2:Clo) (x0:qd) (x1:qd) (x2:qd) (x3:Int) (x4:Int):St:=stq 39 [(0,AV.val (Ty.sl yV) x0),(1,AV.val (Ty.sl yV) x1),(2,AV.cloV a2),(11,AV.val (Ty.sl yV) x2),(12,avI x3),(13,avI x4)] [] 
def qbe (a2:Clo) (v0_0:qd) (v0_1:qd) (v0_2:Int):St:=stq 39 [(0,AV.val (Ty.sl yV) v0_0),(1,AV.val (Ty.sl yV) v0_1),(6,avI v0_2)] [] 
def qbd (a2:Clo) (v1_0:qd) (v1_1:qd):St:=stq 39 [(0,AV.val (Ty.sl yV) v1_0),(1,AV.val (Ty.sl yV) v1_1)] [] 
theorem qgs (D:DX)(n:Nat) (a2:Clo) (m:Nat) (K:Ex→St→Option (Out ctx 140)) (x0:qd) (x1:qd) (x2:qd) (x3:Int) (x4:Int) :
 LQ qc D n 140 [.r,.l,.r,.l] (m+1) (qv a2 x0 x1 x2 x3 x4) K=qb7 D n a2 (fun x0 x1 x2 x3 x4=>LQ qc D n 140 [.r,.l,.r,.l] m (qv a2 x0 x1 x2 x3 x4) K) (fun v0_0 v0_1 v0_2=>K (Ex.ret) (qbe a2 v0_0 v0_1 v0_2)) (fun v1_0 v1_1=>K (Ex.exit 0) (qbd a2 v1_0 v1_1)) x0 x1 x2 x3 x4:=by kernel_rfl
theorem qc7 (D:DX)(n:Nat) (a2:Clo) (K:Ex→St→Option (Out ctx 140)):∀ (m:Nat) (x0:qd) (x1:qd) (x2:qd) (x3:Int) (x4:Int),LQ qc D n 140 [.r,.l,.r,.l] m (qv a2 x0 x1 x2 x3 x4) K=qu D n a2 (fun v0_0 v0_1 v0_2=>K (Ex.ret) (qbe a2 v0_0 v0_1 v0_2)) (fun v1_0 v1_1=>K (Ex.exit 0) (qbd a2 v1_0 v1_1)) m x0 x1 x2 x3 x4
 | 0,x0,x1,x2,x3,x4=>qw ..
 | m+1,x0,x1,x2,x3,x4=>by
  have ih:(fun x0 x1 x2 x3 x4=>LQ qc D n 140 [.r,.l,.r,.l] m (qv a2 x0 x1 x2 x3 x4) K)=qu D n a2 (fun v0_0 v0_1 v0_2=>K (Ex.ret) (qbe a2 v0_0 v0_1 v0_2)) (fun v1_0 v1_1=>K (Ex.exit 0) (qbd a2 v1_0 v1_1)) m:=by funext x0 x1 x2 x3 x4;exact qc7 D n a2 K m x0 x1 x2 x3 x4
  rw[qgs]
  rw[ih];rfl
theorem qgi (D:DX)(n:Nat) (a2:Clo) (v0_0:qd) (v0_1:qd) (v0_2:Int) :
 (CQ qc D n 140 [] [.r,.l,.r,.l] (qi qc 140)) (Ex.ret) (qbe a2 v0_0 v0_1 v0_2)=qb1 D n a2 v0_0 v0_1 v0_2:=by kernel_rfl
theorem qgk (D:DX)(n:Nat) (a2:Clo) (v1_0:qd) (v1_1:qd) :
 (CQ qc D n 140 [] [.r,.l,.r,.l] (qi qc 140)) (Ex.exit 0) (qbd a2 v1_0 v1_1)=qbc D n a2 v1_0 v1_1:=by kernel_rfl
theorem qgj (D:DX)(n:Nat) (a2:Clo) (x0:qd) (x1:qd) (x2:qd) (x3:Int) (x4:Int) :
 LQ qc D n 140 [.r,.l,.r,.l] n (qv a2 x0 x1 x2 x3 x4) (CQ qc D n 140 [] [.r,.l,.r,.l] (qi qc 140))=qb5 D n a2 x0 x1 x2 x3 x4:=by
 rw[qc7]
 simp only[qgi,qgk]
 rfl
theorem qg8 (D:DX)(n:Nat) (a0:qd) (a1:qd) (a2:Clo):rfC qc D n 140 (a0,(a1,(a2,())))=qci D n a0 a1 a2:=by
 have h:rfC qc D n 140 (a0,(a1,(a2,())))=qch D n a2 (fun x0 x1 x2 x3 x4=>LQ qc D n 140 [.r,.l,.r,.l] n (qv a2 x0 x1 x2 x3 x4) (CQ qc D n 140 [] [.r,.l,.r,.l] (qi qc 140))) a0 a1:=by kernel_rfl
 rw[h]
 simp only[qgj]
 rfl

def q7b (D:DX)(n:Nat) (a0:Int×Int×ByteArray×Unit) (a1:Int×Int×ByteArray×Unit):Option ((Int×Unit)×Unit):=br (bif decide (Prod.fst a0<Prod.fst a1) then true else bif decide (Prod.fst a0=Prod.fst a1) then decide (Prod.fst (Prod.snd a0)<Prod.fst (Prod.snd a1)) else false) (some ((-1,()),())) (br (bif decide (Prod.fst a0>Prod.fst a1) then true else decide (Prod.fst (Prod.snd a0)>Prod.fst (Prod.snd a1))) (some ((1,()),())) (qh (q3o D (Prod.fst (Prod.snd (Prod.snd a0))) (Prod.fst (Prod.snd (Prod.snd a1)))) fun b↦some ((Prod.fst (Prod.fst b),()),())))
def q0q (D:DX)(n:Nat) (a0:Int×Int×ByteArray×Unit) (a1:Int×Int×ByteArray×Unit):Option ((Int×Unit)×Unit):=q7b D n a0 a1
theorem qbkq (D:DX)(n:Nat) (a0:Int×Int×ByteArray×Unit) (a1:Int×Int×ByteArray×Unit):rfC qc D n 141 (a0,(a1,()))=q0q D n a0 a1:=by kernel_rfl

def qg2 (D:DX)(n:Nat) (a1:Clo) (a0:tIxs):Option ((Bool×Unit)×Unit):=qh (qeq D a0 a1) fun b↦some ((decide (Prod.fst (Prod.fst b)≥0),()),())
def qd6 (D:DX)(n:Nat) (a0:tIxs) (a1:Clo):Option ((Bool×Unit)×Unit):=qg2 D n a1 a0
theorem qn5 (D:DX)(n:Nat) (a0:tIxs) (a1:Clo):rfC qc D n 142 (a0,(a1,()))=qd6 D n a0 a1:=by kernel_rfl

def q72 (D:DX)(n:Nat) (a0:ByteArray×List Int×Bool×Unit) (a1:qd) (a2:qd):Option ((Bool×Unit)×Unit):=qh (qla D a1 (Prod.fst (Prod.snd a0))) fun b↦br (Prod.fst (Prod.snd (Prod.snd a0))) (qh (qez D (Prod.fst (Prod.fst b)) (0,0,ByteArray.empty,())) fun b_1↦br (!Prod.fst (Prod.fst b_1)) (qh (qla D a2 (Prod.fst (Prod.snd a0))) fun b_2↦qh (qfq D (Prod.fst (Prod.fst b)) (Prod.fst (Prod.fst b_2))) fun b↦some ((Prod.fst (Prod.fst b),()),())) (some ((false,()),()))) (some ((false,()),()))
def q0o (D:DX)(n:Nat) (a0:ByteArray×List Int×Bool×Unit) (a1:qd) (a2:qd):Option ((Bool×Unit)×Unit):=q72 D n a0 a1 a2
theorem qbkb (D:DX)(n:Nat) (a0:ByteArray×List Int×Bool×Unit) (a1:qd) (a2:qd):rfC qc D n 143 (a0,(a1,(a2,())))=q0o D n a0 a1 a2:=by kernel_rfl

def qih (D:DX)(n:Nat) (a0:qd) (a1:Int×Int×ByteArray×Unit):Option ((Bool×Unit)×Unit):=qh (qfp D a0 a1) fun b↦some ((decide (Prod.fst (Prod.fst b)≥0),()),())
def qe1 (D:DX)(n:Nat) (a0:qd) (a1:Int×Int×ByteArray×Unit):Option ((Bool×Unit)×Unit):=qih D n a0 a1
theorem qqh (D:DX)(n:Nat) (a0:qd) (a1:Int×Int×ByteArray×Unit):rfC qc D n 144 (a0,(a1,()))=qe1 D n a0 a1:=by kernel_rfl

def qfj (D:DX)(n:Nat) (go:qd→qd→Int→Int→Option ((Bool×Unit)×Unit)) (K0:Bool→Option ((Bool×Unit)×Unit)) (K1:Option ((Bool×Unit)×Unit)) (x0:qd) (x1:qd) (x2:Int) (x3:Int):Option ((Bool×Unit)×Unit):=br (decide (x3<x2)) (br (decide (0≤x3)&&decide (x3<(↑(List.length x0):Int))) (br (decide (0≤x3)&&decide (x3<(↑(List.length x1):Int))) (br (!qgg (Ty.pair (Ty.int IntKind.i64) (Ty.pair (Ty.int IntKind.i64) (Ty.pair Ty.str Ty.unit))) (List.getD x0 (Int.toNat x3) (0,0,ByteArray.empty,())) (List.getD x1 (Int.toNat x3) (0,0,ByteArray.empty,()))) (K0 false) (go x0 x1 x2 (IntKind.wrap IntKind.i64 (x3+1)))) none) none) K1
def qcc (D:DX)(n:Nat) (K0:Bool→Option ((Bool×Unit)×Unit)) (K1:Option ((Bool×Unit)×Unit)):Nat→(qd)→(qd)→(Int)→(Int)→Option ((Bool×Unit)×Unit) | 0=>(fun x0 x1 x2 x3=>none) | m+1=>(fun x0 x1 x2 x3=>qfj D n (qcc D n K0 K1 m) K0 K1 x0 x1 x2 x3)
def qid (D:DX)(n:Nat) (v0_0:Bool):Option ((Bool×Unit)×Unit):=some ((v0_0,()),())
def qie (D:DX)(n:Nat):Option ((Bool×Unit)×Unit):=some ((true,()),())
def qe8 (D:DX)(n:Nat):(qd)→(qd)→(Int)→(Int)→Option ((Bool×Unit)×Unit):=(fun x0 x1 x2 x3=>qcc D n (fun v0_0=>qid D n v0_0) (qie D n) n x0 x1 x2 x3)
def qf0 (D:DX)(n:Nat) (lp0:qd→qd→Int→Int→Option ((Bool×Unit)×Unit)) (a0:qd) (a1:qd):Option ((Bool×Unit)×Unit):=br ((↑(List.length a0):Int) != (↑(List.length a1):Int)) (some ((false,()),())) (lp0 a0 a1 (↑(List.length a0):Int) 0)
def qfw (D:DX)(n:Nat) (a0:qd) (a1:qd):Option ((Bool×Unit)×Unit):=qf0 D n (qe8 D n) a0 a1
def qca (x0:qd) (x1:qd) (x2:Int) (x3:Int):St:=stq 26 [(0,AV.val (Ty.sl yV) x0),(1,AV.val (Ty.sl yV) x1),(12,avI x2),(13,avI x3)] [] 
def qdg (v0_0:Bool):St:=stq 26 [(4,AV.val Ty.bool v0_0)] [] 
def qdh:St:=stq 26 [] [] 
theorem qrf (D:DX)(n:Nat) (m:Nat) (K:Ex→St→Option (Out ctx 145)) (x0:qd) (x1:qd) (x2:Int) (x3:Int) :
 LQ qc D n 145 [.r,.r,.l,.r,.l] (m+1) (qca x0 x1 x2 x3) K=qfj D n (fun x0 x1 x2 x3=>LQ qc D n 145 [.r,.r,.l,.r,.l] m (qca x0 x1 x2 x3) K) (fun v0_0=>K (Ex.ret) (qdg v0_0)) (K (Ex.exit 0) (qdh)) x0 x1 x2 x3:=by kernel_rfl
theorem qin (D:DX)(n:Nat) (K:Ex→St→Option (Out ctx 145)):∀ (m:Nat) (x0:qd) (x1:qd) (x2:Int) (x3:Int),LQ qc D n 145 [.r,.r,.l,.r,.l] m (qca x0 x1 x2 x3) K=qcc D n (fun v0_0=>K (Ex.ret) (qdg v0_0)) (K (Ex.exit 0) (qdh)) m x0 x1 x2 x3
 | 0,x0,x1,x2,x3=>qw ..
 | m+1,x0,x1,x2,x3=>by
  have ih:(fun x0 x1 x2 x3=>LQ qc D n 145 [.r,.r,.l,.r,.l] m (qca x0 x1 x2 x3) K)=qcc D n (fun v0_0=>K (Ex.ret) (qdg v0_0)) (K (Ex.exit 0) (qdh)) m:=by funext x0 x1 x2 x3;exact qin D n K m x0 x1 x2 x3
  rw[qrf]
  rw[ih];rfl
theorem qqf (D:DX)(n:Nat) (v0_0:Bool) :
 (CQ qc D n 145 [] [.r,.r,.l,.r,.l] (qi qc 145)) (Ex.ret) (qdg v0_0)=qid D n v0_0:=by kernel_rfl
theorem qqt (D:DX)(n:Nat) :
 (CQ qc D n 145 [] [.r,.r,.l,.r,.l] (qi qc 145)) (Ex.exit 0) (qdh)=qie D n:=by kernel_rfl
theorem qqj (D:DX)(n:Nat) (x0:qd) (x1:qd) (x2:Int) (x3:Int) :
 LQ qc D n 145 [.r,.r,.l,.r,.l] n (qca x0 x1 x2 x3) (CQ qc D n 145 [] [.r,.r,.l,.r,.l] (qi qc 145))=qe8 D n x0 x1 x2 x3:=by
 rw[qin]
 simp only[qqf,qqt]
 rfl
theorem qs8 (D:DX)(n:Nat) (a0:qd) (a1:qd):rfC qc D n 145 (a0,(a1,()))=qfw D n a0 a1:=by
 have h:rfC qc D n 145 (a0,(a1,()))=qf0 D n (fun x0 x1 x2 x3=>LQ qc D n 145 [.r,.r,.l,.r,.l] n (qca x0 x1 x2 x3) (CQ qc D n 145 [] [.r,.r,.l,.r,.l] (qi qc 145))) a0 a1:=by kernel_rfl
 rw[h]
 simp only[qqj]
 rfl

def que (D:DX)(n:Nat) (go:ByteArray→Int→Int→Option ((Bool×Unit)×Unit)) (K0:ByteArray→Bool→Option ((Bool×Unit)×Unit)) (K1:ByteArray→Option ((Bool×Unit)×Unit)) (x0:ByteArray) (x1:Int) (x2:Int):Option ((Bool×Unit)×Unit):=br (decide (x2<x1)) (br (decide (0≤x2)&&decide (x2<(↑(ByteArray.size x0):Int))) (br (decide ((↑(UInt8.toNat (Array.getD (ByteArray.data x0) (Int.toNat x2) (UInt8.ofNat 0))):Int)<97)) (K0 x0 false) (br (decide (0≤x2)&&decide (x2<(↑(ByteArray.size x0):Int))) (br (decide ((↑(UInt8.toNat (Array.getD (ByteArray.data x0) (Int.toNat x2) (UInt8.ofNat 0))):Int)>122)) (K0 x0 false) (go x0 x1 (IntKind.wrap IntKind.i64 (x2+1)))) none)) none) (K1 x0)
def qh4 (D:DX)(n:Nat) (K0:ByteArray→Bool→Option ((Bool×Unit)×Unit)) (K1:ByteArray→Option ((Bool×Unit)×Unit)):Nat→(ByteArray)→(Int)→(Int)→Option ((Bool×Unit)×Unit) | 0=>(fun x0 x1 x2=>none) | m+1=>(fun x0 x1 x2=>que D n (qh4 D n K0 K1 m) K0 K1 x0 x1 x2)
def qyp (D:DX)(n:Nat) (v0_0:ByteArray) (v0_1:Bool):Option ((Bool×Unit)×Unit):=some ((v0_1,()),())
def qq4 (D:DX)(n:Nat) (v1_0:ByteArray):Option ((Bool×Unit)×Unit):=qh (qf5 D (↑(ByteArray.size v1_0):Int) 1 12) fun b↦some ((Prod.fst (Prod.fst b),()),())
def qsj (D:DX)(n:Nat):(ByteArray)→(Int)→(Int)→Option ((Bool×Unit)×Unit):=(fun x0 x1 x2=>qh4 D n (fun v0_0 v0_1=>qyp D n v0_0 v0_1) (fun v1_0=>qq4 D n v1_0) n x0 x1 x2)
def qv1 (D:DX)(n:Nat) (lp0:ByteArray→Int→Int→Option ((Bool×Unit)×Unit)) (a0:ByteArray):Option ((Bool×Unit)×Unit):=lp0 a0 (↑(ByteArray.size a0):Int) 0
def qvy (D:DX)(n:Nat) (a0:ByteArray):Option ((Bool×Unit)×Unit):=qv1 D n (qsj D n) a0
def qh8 (x0:ByteArray) (x1:Int) (x2:Int):St:=stq 23 [(0,AV.val Ty.str x0),(5,avI x1),(6,avI x2)] [] 
def qlt (v0_0:ByteArray) (v0_1:Bool):St:=stq 23 [(0,AV.val Ty.str v0_0),(2,AV.val Ty.bool v0_1)] [] 
def qlv (v1_0:ByteArray):St:=stq 23 [(0,AV.val Ty.str v1_0)] [] 
theorem qba8 (D:DX)(n:Nat) (m:Nat) (K:Ex→St→Option (Out ctx 146)) (x0:ByteArray) (x1:Int) (x2:Int) :
 LQ qc D n 146 [.r,.l,.r,.l] (m+1) (qh8 x0 x1 x2) K=que D n (fun x0 x1 x2=>LQ qc D n 146 [.r,.l,.r,.l] m (qh8 x0 x1 x2) K) (fun v0_0 v0_1=>K (Ex.ret) (qlt v0_0 v0_1)) (fun v1_0=>K (Ex.exit 0) (qlv v1_0)) x0 x1 x2:=by kernel_rfl
theorem q06 (D:DX)(n:Nat) (K:Ex→St→Option (Out ctx 146)):∀ (m:Nat) (x0:ByteArray) (x1:Int) (x2:Int),LQ qc D n 146 [.r,.l,.r,.l] m (qh8 x0 x1 x2) K=qh4 D n (fun v0_0 v0_1=>K (Ex.ret) (qlt v0_0 v0_1)) (fun v1_0=>K (Ex.exit 0) (qlv v1_0)) m x0 x1 x2
 | 0,x0,x1,x2=>qw ..
 | m+1,x0,x1,x2=>by
  have ih:(fun x0 x1 x2=>LQ qc D n 146 [.r,.l,.r,.l] m (qh8 x0 x1 x2) K)=qh4 D n (fun v0_0 v0_1=>K (Ex.ret) (qlt v0_0 v0_1)) (fun v1_0=>K (Ex.exit 0) (qlv v1_0)) m:=by funext x0 x1 x2;exact q06 D n K m x0 x1 x2
  rw[qba8]
  rw[ih];rfl
theorem qbau (D:DX)(n:Nat) (v0_0:ByteArray) (v0_1:Bool) :
 (CQ qc D n 146 [] [.r,.l,.r,.l] (qi qc 146)) (Ex.ret) (qlt v0_0 v0_1)=qyp D n v0_0 v0_1:=by kernel_rfl
theorem qbax (D:DX)(n:Nat) (v1_0:ByteArray) :
 (CQ qc D n 146 [] [.r,.l,.r,.l] (qi qc 146)) (Ex.exit 0) (qlv v1_0)=qq4 D n v1_0:=by kernel_rfl
theorem qbam (D:DX)(n:Nat) (x0:ByteArray) (x1:Int) (x2:Int) :
 LQ qc D n 146 [.r,.l,.r,.l] n (qh8 x0 x1 x2) (CQ qc D n 146 [] [.r,.l,.r,.l] (qi qc 146))=qsj D n x0 x1 x2:=by
 rw[q06]
 simp only[qbau,qbax]
 rfl
theorem qbfx (D:DX)(n:Nat) (a0:ByteArray):rfC qc D n 146 (a0,())=qvy D n a0:=by
 have h:rfC qc D n 146 (a0,())=qv1 D n (fun x0 x1 x2=>LQ qc D n 146 [.r,.l,.r,.l] n (qh8 x0 x1 x2) (CQ qc D n 146 [] [.r,.l,.r,.l] (qi qc 146))) a0:=by kernel_rfl
 rw[h]
 simp only[qbam]
 rfl

def qbco (D:DX)(n:Nat) (a0:tSch) (a1:ByteArray):Option ((Int×Unit)×Unit):=qh (qft D (Prod.fst a0) (Clo.mk 196 [CapV.rptr Ty.str a1])) fun b↦some ((Prod.fst (Prod.fst b),()),())
def q5i (D:DX)(n:Nat) (a0:tSch) (a1:ByteArray):Option ((Int×Unit)×Unit):=qbco D n a0 a1
theorem qbpo (D:DX)(n:Nat) (a0:tSch) (a1:ByteArray):rfC qc D n 147 (a0,(a1,()))=q5i D n a0 a1:=by kernel_rfl

def qvq (D:DX)(n:Nat) (go:List Int→Int→List Int→Int→Int→tSch→Option ((Bool×Unit)×Unit)) (K0:List Int→Int→Bool→Option ((Bool×Unit)×Unit)) (K1:List Int→Int→Option ((Bool×Unit)×Unit)) (x0:List Int) (x1:Int) (x2:List Int) (x3:Int) (x4:Int) (x5:tSch):Option ((Bool×Unit)×Unit):=br (decide (x4<x3)) (br (decide (0≤x4)&&decide (x4<(↑(List.length x2):Int))) (qh (qf5 D (List.getD x2 (Int.toNat x4) 0) 0 (IntKind.wrap IntKind.i64 ((↑(List.length (Prod.fst x5)):Int) - 1))) fun b↦br (!Prod.fst (Prod.fst b)) (K0 x0 x1 false) (br (decide (0≤0)&&decide (0≤x4)&&decide (x4≤(↑(List.length x0):Int))) (qh (qkp D (List.drop (Int.toNat 0) (List.take (Int.toNat x4) x0)) (List.getD x2 (Int.toNat x4) 0)) fun b↦br (Prod.fst (Prod.fst b)) (K0 x0 x1 false) (go x0 x1 x2 x3 (IntKind.wrap IntKind.i64 (x4+1)) x5)) none)) none) (K1 x0 x1)
def qje (D:DX)(n:Nat) (K0:List Int→Int→Bool→Option ((Bool×Unit)×Unit)) (K1:List Int→Int→Option ((Bool×Unit)×Unit)):Nat→(List Int)→(Int)→(List Int)→(Int)→(Int)→(tSch)→Option ((Bool×Unit)×Unit) | 0=>(fun x0 x1 x2 x3 x4 x5=>none) | m+1=>(fun x0 x1 x2 x3 x4 x5=>qvq D n (qje D n K0 K1 m) K0 K1 x0 x1 x2 x3 x4 x5)
def q05 (D:DX)(n:Nat) (v0_0:List Int) (v0_1:Int) (v0_2:Bool):Option ((Bool×Unit)×Unit):=some ((v0_2,()),())
def qs4 (D:DX)(n:Nat) (v1_0:List Int) (v1_1:Int):Option ((Bool×Unit)×Unit):=qh (qf5 D (↑(List.length v1_0):Int) 1 v1_1) fun b↦some ((Prod.fst (Prod.fst b),()),())
def quu (D:DX)(n:Nat):(List Int)→(Int)→(List Int)→(Int)→(Int)→(tSch)→Option ((Bool×Unit)×Unit):=(fun x0 x1 x2 x3 x4 x5=>qje D n (fun v0_0 v0_1 v0_2=>q05 D n v0_0 v0_1 v0_2) (fun v1_0 v1_1=>qs4 D n v1_0 v1_1) n x0 x1 x2 x3 x4 x5)
def qxx (D:DX)(n:Nat) (lp0:List Int→Int→List Int→Int→Int→tSch→Option ((Bool×Unit)×Unit)) (a0:tSch) (a1:List Int) (a2:Int):Option ((Bool×Unit)×Unit):=lp0 a1 a2 a1 (↑(List.length a1):Int) 0 a0
def qxz (D:DX)(n:Nat) (a0:tSch) (a1:List Int) (a2:Int):Option ((Bool×Unit)×Unit):=qxx D n (quu D n) a0 a1 a2
def qi7 (x0:List Int) (x1:Int) (x2:List Int) (x3:Int) (x4:Int) (x5:tSch):St:=stq 35 [(1,AV.val (Ty.sl yI) x0),(2,avI x1),(3,AV.addr 3 []),(9,AV.val (Ty.sl yI) x2),(10,avI x3),(11,avI x4)] [(3,Root.mk yS Mk.no x5 true)] 
def qmp (v0_0:List Int) (v0_1:Int) (v0_2:Bool):St:=stq 35 [(1,AV.val (Ty.sl yI) v0_0),(2,avI v0_1),(6,AV.val Ty.bool v0_2)] [] 
def qm0 (v1_0:List Int) (v1_1:Int):St:=stq 35 [(1,AV.val (Ty.sl yI) v1_0),(2,avI v1_1)] [] 
theorem qbdo (D:DX)(n:Nat) (m:Nat) (K:Ex→St→Option (Out ctx 148)) (x0:List Int) (x1:Int) (x2:List Int) (x3:Int) (x4:Int) (x5:tSch) :
 LQ qc D n 148 [.r,.l,.r,.l] (m+1) (qi7 x0 x1 x2 x3 x4 x5) K=qvq D n (fun x0 x1 x2 x3 x4 x5=>LQ qc D n 148 [.r,.l,.r,.l] m (qi7 x0 x1 x2 x3 x4 x5) K) (fun v0_0 v0_1 v0_2=>K (Ex.ret) (qmp v0_0 v0_1 v0_2)) (fun v1_0 v1_1=>K (Ex.exit 0) (qm0 v1_0 v1_1)) x0 x1 x2 x3 x4 x5:=by kernel_rfl
theorem q27 (D:DX)(n:Nat) (K:Ex→St→Option (Out ctx 148)):∀ (m:Nat) (x0:List Int) (x1:Int) (x2:List Int) (x3:Int) (x4:Int) (x5:tSch),LQ qc D n 148 [.r,.l,.r,.l] m (qi7 x0 x1 x2 x3 x4 x5) K=qje D n (fun v0_0 v0_1 v0_2=>K (Ex.ret) (qmp v0_0 v0_1 v0_2)) (fun v1_0 v1_1=>K (Ex.exit 0) (qm0 v1_0 v1_1)) m x0 x1 x2 x3 x4 x5
 | 0,x0,x1,x2,x3,x4,x5=>qw ..
 | m+1,x0,x1,x2,x3,x4,x5=>by
  have ih:(fun x0 x1 x2 x3 x4 x5=>LQ qc D n 148 [.r,.l,.r,.l] m (qi7 x0 x1 x2 x3 x4 x5) K)=qje D n (fun v0_0 v0_1 v0_2=>K (Ex.ret) (qmp v0_0 v0_1 v0_2)) (fun v1_0 v1_1=>K (Ex.exit 0) (qm0 v1_0 v1_1)) m:=by funext x0 x1 x2 x3 x4 x5;exact q27 D n K m x0 x1 x2 x3 x4 x5
  rw[qbdo]
  rw[ih];rfl
theorem qba7 (D:DX)(n:Nat) (v0_0:List Int) (v0_1:Int) (v0_2:Bool) :
 (CQ qc D n 148 [] [.r,.l,.r,.l] (qi qc 148)) (Ex.ret) (qmp v0_0 v0_1 v0_2)=q05 D n v0_0 v0_1 v0_2:=by kernel_rfl
theorem qbct (D:DX)(n:Nat) (v1_0:List Int) (v1_1:Int) :
 (CQ qc D n 148 [] [.r,.l,.r,.l] (qi qc 148)) (Ex.exit 0) (qm0 v1_0 v1_1)=qs4 D n v1_0 v1_1:=by kernel_rfl
theorem qbcc (D:DX)(n:Nat) (x0:List Int) (x1:Int) (x2:List Int) (x3:Int) (x4:Int) (x5:tSch) :
 LQ qc D n 148 [.r,.l,.r,.l] n (qi7 x0 x1 x2 x3 x4 x5) (CQ qc D n 148 [] [.r,.l,.r,.l] (qi qc 148))=quu D n x0 x1 x2 x3 x4 x5:=by
 rw[q27]
 simp only[qba7,qbct]
 rfl
theorem qbjp (D:DX)(n:Nat) (a0:tSch) (a1:List Int) (a2:Int):rfC qc D n 148 (a0,(a1,(a2,())))=qxz D n a0 a1 a2:=by
 have h:rfC qc D n 148 (a0,(a1,(a2,())))=qxx D n (fun x0 x1 x2 x3 x4 x5=>LQ qc D n 148 [.r,.l,.r,.l] n (qi7 x0 x1 x2 x3 x4 x5) (CQ qc D n 148 [] [.r,.l,.r,.l] (qi qc 148))) a0 a1 a2:=by kernel_rfl
 rw[h]
 simp only[qbcc]
 rfl

def q25 (D:DX)(n:Nat) (a0:ByteArray×List Int×Bool×Unit) (a1:ByteArray×List Int×Bool×Unit):Option ((Bool×Unit)×Unit):=some ((List.beq (ByteArray.toList (Prod.fst a0)) (ByteArray.toList (Prod.fst a1)),()),())
def qux (D:DX)(n:Nat) (a0:ByteArray×List Int×Bool×Unit) (a1:ByteArray×List Int×Bool×Unit):Option ((Bool×Unit)×Unit):=q25 D n a0 a1
theorem qbej (D:DX)(n:Nat) (a0:ByteArray×List Int×Bool×Unit) (a1:ByteArray×List Int×Bool×Unit):rfC qc D n 149 (a0,(a1,()))=qux D n a0 a1:=by kernel_rfl

def qnv (D:DX)(n:Nat) (a1:Clo) (a0:List Int):Option ((Bool×Unit)×Unit):=qh (qkj D a0 a1) fun b↦some ((decide (Prod.fst (Prod.fst b)≥0),()),())
def qii (D:DX)(n:Nat) (a0:List Int) (a1:Clo):Option ((Bool×Unit)×Unit):=qnv D n a1 a0
theorem qyh (D:DX)(n:Nat) (a0:List Int) (a1:Clo):rfC qc D n 150 (a0,(a1,()))=qii D n a0 a1:=by kernel_rfl

def q3l (D:DX)(n:Nat) (a0:Int) (a1:tSch):Option ((Bool×Unit)×Unit):=br (decide (0≤a0)&&decide (a0<(↑(List.length (Prod.fst a1)):Int))) (some ((Prod.fst (Prod.snd (Prod.snd (List.getD (Prod.fst a1) (Int.toNat a0) (ByteArray.empty,0,false,())))),()),())) none
def quk (D:DX)(n:Nat) (a0:Int) (a1:tSch):Option ((Bool×Unit)×Unit):=q3l D n a0 a1
theorem qbeg (D:DX)(n:Nat) (a0:Int) (a1:tSch):rfC qc D n 151 (a0,(a1,()))=quk D n a0 a1:=by kernel_rfl



def q7l (D:DX)(n:Nat) (a0:Int×Int×ByteArray×Unit):Option ((Bool×Unit)×Unit):=br (decide (Prod.fst a0=0)) (some ((bif decide (Prod.fst (Prod.snd a0)=0) then List.beq (ByteArray.toList (Prod.fst (Prod.snd (Prod.snd a0)))) (ByteArray.toList (ByteArray.mk #[])) else false,()),())) (br (decide (Prod.fst a0=1)) (qh (qgq D (Prod.fst (Prod.snd a0)) 0 1) fun b↦some ((bif Prod.fst (Prod.fst b) then List.beq (ByteArray.toList (Prod.fst (Prod.snd (Prod.snd a0)))) (ByteArray.toList (ByteArray.mk #[])) else false,()),())) (br (decide (Prod.fst a0=2)) (qh (qgq D (Prod.fst (Prod.snd a0)) (-1000000000000) 1000000000000) fun b↦some ((bif Prod.fst (Prod.fst b) then List.beq (ByteArray.toList (Prod.fst (Prod.snd (Prod.snd a0)))) (ByteArray.toList (ByteArray.mk #[])) else false,()),())) (br (decide (Prod.fst a0=3)) (some ((bif decide (Prod.fst (Prod.snd a0)=0) then decide ((↑(ByteArray.size (Prod.fst (Prod.snd (Prod.snd a0)))):Int)≤20) else false,()),())) (some ((false,()),())))))
def qy7 (D:DX)(n:Nat) (a0:Int×Int×ByteArray×Unit):Option ((Bool×Unit)×Unit):=q7l D n a0
theorem qbj0 (D:DX)(n:Nat) (a0:Int×Int×ByteArray×Unit):rfC qc D n 158 (a0,())=qy7 D n a0:=by kernel_rfl

def qw3 (D:DX)(n:Nat) (go:qd→qd→Int→Option ((Bool×Unit)×Unit)) (K0:qd→qd→Bool→Option ((Bool×Unit)×Unit)) (K1:qd→qd→Option ((Bool×Unit)×Unit)) (x0:qd) (x1:qd) (x2:Int):Option ((Bool×Unit)×Unit):=br (bif decide (x2<(↑(List.length x0):Int)) then decide (x2<(↑(List.length x1):Int)) else false) (br (decide (0≤x2)&&decide (x2<(↑(List.length x0):Int))) (br (decide (0≤x2)&&decide (x2<(↑(List.length x1):Int))) (qh (qpr D (List.getD x0 (Int.toNat x2) (0,0,ByteArray.empty,())) (List.getD x1 (Int.toNat x2) (0,0,ByteArray.empty,()))) fun b↦br (!Prod.fst (Prod.fst b)) (K0 x0 x1 false) (go x0 x1 (IntKind.wrap IntKind.i64 (x2+1)))) none) none) (K1 x0 x1)
def qj0 (D:DX)(n:Nat) (K0:qd→qd→Bool→Option ((Bool×Unit)×Unit)) (K1:qd→qd→Option ((Bool×Unit)×Unit)):Nat→(qd)→(qd)→(Int)→Option ((Bool×Unit)×Unit) | 0=>(fun x0 x1 x2=>none) | m+1=>(fun x0 x1 x2=>qw3 D n (qj0 D n K0 K1 m) K0 K1 x0 x1 x2)
def qud (D:DX)(n:Nat) (v0_0:qd) (v0_1:qd) (v0_2:Bool):Option ((Bool×Unit)×Unit):=some ((v0_2,()),())
def qkk (D:DX)(n:Nat) (v1_0:qd) (v1_1:qd):Option ((Bool×Unit)×Unit):=some ((decide ((↑(List.length v1_0):Int)=(↑(List.length v1_1):Int)),()),())
def qwa (D:DX)(n:Nat):(qd)→(qd)→(Int)→Option ((Bool×Unit)×Unit):=(fun x0 x1 x2=>qj0 D n (fun v0_0 v0_1 v0_2=>qud D n v0_0 v0_1 v0_2) (fun v1_0 v1_1=>qkk D n v1_0 v1_1) n x0 x1 x2)
def qz7 (D:DX)(n:Nat) (lp0:qd→qd→Int→Option ((Bool×Unit)×Unit)) (a0:qd) (a1:qd):Option ((Bool×Unit)×Unit):=lp0 a0 a1 0
def qy1 (D:DX)(n:Nat) (a0:qd) (a1:qd):Option ((Bool×Unit)×Unit):=qz7 D n (qwa D n) a0 a1
def qj7 (x0:qd) (x1:qd) (x2:Int):St:=stq 33 [(0,AV.val (Ty.sl yV) x0),(1,AV.val (Ty.sl yV) x1),(5,avI x2)] [] 
def qoj (v0_0:qd) (v0_1:qd) (v0_2:Bool):St:=stq 33 [(0,AV.val (Ty.sl yV) v0_0),(1,AV.val (Ty.sl yV) v0_1),(4,AV.val Ty.bool v0_2)] [] 
def qoi (v1_0:qd) (v1_1:qd):St:=stq 33 [(0,AV.val (Ty.sl yV) v1_0),(1,AV.val (Ty.sl yV) v1_1)] [] 
theorem qbfw (D:DX)(n:Nat) (m:Nat) (K:Ex→St→Option (Out ctx 159)) (x0:qd) (x1:qd) (x2:Int) :
 LQ qc D n 159 [.r,.l,.r,.l] (m+1) (qj7 x0 x1 x2) K=qw3 D n (fun x0 x1 x2=>LQ qc D n 159 [.r,.l,.r,.l] m (qj7 x0 x1 x2) K) (fun v0_0 v0_1 v0_2=>K (Ex.ret) (qoj v0_0 v0_1 v0_2)) (fun v1_0 v1_1=>K (Ex.exit 0) (qoi v1_0 v1_1)) x0 x1 x2:=by kernel_rfl
theorem q45 (D:DX)(n:Nat) (K:Ex→St→Option (Out ctx 159)):∀ (m:Nat) (x0:qd) (x1:qd) (x2:Int),LQ qc D n 159 [.r,.l,.r,.l] m (qj7 x0 x1 x2) K=qj0 D n (fun v0_0 v0_1 v0_2=>K (Ex.ret) (qoj v0_0 v0_1 v0_2)) (fun v1_0 v1_1=>K (Ex.exit 0) (qoi v1_0 v1_1)) m x0 x1 x2
 | 0,x0,x1,x2=>qw ..
 | m+1,x0,x1,x2=>by
  have ih:(fun x0 x1 x2=>LQ qc D n 159 [.r,.l,.r,.l] m (qj7 x0 x1 x2) K)=qj0 D n (fun v0_0 v0_1 v0_2=>K (Ex.ret) (qoj v0_0 v0_1 v0_2)) (fun v1_0 v1_1=>K (Ex.exit 0) (qoi v1_0 v1_1)) m:=by funext x0 x1 x2;exact q45 D n K m x0 x1 x2
  rw[qbfw]
  rw[ih];rfl
theorem qbd6 (D:DX)(n:Nat) (v0_0:qd) (v0_1:qd) (v0_2:Bool) :
 (CQ qc D n 159 [] [.r,.l,.r,.l] (qi qc 159)) (Ex.ret) (qoj v0_0 v0_1 v0_2)=qud D n v0_0 v0_1 v0_2:=by kernel_rfl
theorem qbeb (D:DX)(n:Nat) (v1_0:qd) (v1_1:qd) :
 (CQ qc D n 159 [] [.r,.l,.r,.l] (qi qc 159)) (Ex.exit 0) (qoi v1_0 v1_1)=qkk D n v1_0 v1_1:=by kernel_rfl
theorem qbd1 (D:DX)(n:Nat) (x0:qd) (x1:qd) (x2:Int) :
 LQ qc D n 159 [.r,.l,.r,.l] n (qj7 x0 x1 x2) (CQ qc D n 159 [] [.r,.l,.r,.l] (qi qc 159))=qwa D n x0 x1 x2:=by
 rw[q45]
 simp only[qbd6,qbeb]
 rfl
theorem qblg (D:DX)(n:Nat) (a0:qd) (a1:qd):rfC qc D n 159 (a0,(a1,()))=qy1 D n a0 a1:=by
 have h:rfC qc D n 159 (a0,(a1,()))=qz7 D n (fun x0 x1 x2=>LQ qc D n 159 [.r,.l,.r,.l] n (qj7 x0 x1 x2) (CQ qc D n 159 [] [.r,.l,.r,.l] (qi qc 159))) a0 a1:=by kernel_rfl
 rw[h]
 simp only[qbd1]
 rfl

def q5k (D:DX)(n:Nat) (a0:Int×Int×ByteArray×Unit) (a1:Int×Int×ByteArray×Unit):Option ((Bool×Unit)×Unit):=some ((qgg (Ty.pair (Ty.int IntKind.i64) (Ty.pair (Ty.int IntKind.i64) (Ty.pair Ty.str Ty.unit))) a0 a1,()),())
def qvj (D:DX)(n:Nat) (a0:Int×Int×ByteArray×Unit) (a1:Int×Int×ByteArray×Unit):Option ((Bool×Unit)×Unit):=q5k D n a0 a1
theorem qbgv (D:DX)(n:Nat) (a0:Int×Int×ByteArray×Unit) (a1:Int×Int×ByteArray×Unit):rfC qc D n 160 (a0,(a1,()))=qvj D n a0 a1:=by kernel_rfl

def q5w (D:DX)(n:Nat) (a0:Int×Int×ByteArray×Unit) (a1:Int×Int×ByteArray×Unit):Option ((Bool×Unit)×Unit):=br (Prod.fst a0 != Prod.fst a1) (some ((decide (Prod.fst a0<Prod.fst a1),()),())) (br (Prod.fst (Prod.snd a0) != Prod.fst (Prod.snd a1)) (some ((decide (Prod.fst (Prod.snd a0)<Prod.fst (Prod.snd a1)),()),())) (some ((Op.bytesLess (ByteArray.toList (Prod.fst (Prod.snd (Prod.snd a0)))) (ByteArray.toList (Prod.fst (Prod.snd (Prod.snd a1)))),()),())))
def qv6 (D:DX)(n:Nat) (a0:Int×Int×ByteArray×Unit) (a1:Int×Int×ByteArray×Unit):Option ((Bool×Unit)×Unit):=q5w D n a0 a1
theorem qbfs (D:DX)(n:Nat) (a0:Int×Int×ByteArray×Unit) (a1:Int×Int×ByteArray×Unit):rfC qc D n 161 (a0,(a1,()))=qv6 D n a0 a1:=by kernel_rfl

def q96 (D:DX)(n:Nat) (a0:List Int×Int×Int×Unit) (a1:List ByteArray):Option ((ByteArray×Unit)×tCur×Unit):=qh (qbj D a0 (↑(List.length a1):Int)) fun b↦br (decide (0≤Prod.fst (Prod.fst b))&&decide (Prod.fst (Prod.fst b)<(↑(List.length a1):Int))) (some ((List.getD a1 (Int.toNat (Prod.fst (Prod.fst b))) ByteArray.empty,()),Prod.fst (Prod.snd b),())) none
def q17 (D:DX)(n:Nat) (a0:List Int×Int×Int×Unit) (a1:List ByteArray):Option ((ByteArray×Unit)×tCur×Unit):=q96 D n a0 a1
theorem qbnj (D:DX)(n:Nat) (a0:List Int×Int×Int×Unit) (a1:List ByteArray):rfC qc D n 162 (a0,(a1,()))=q17 D n a0 a1:=by kernel_rfl

def q4q (D:DX)(n:Nat) (a0:List Int×Int×Int×Unit) (a1:List Int):Option ((Int×Unit)×tCur×Unit):=qh (qbj D a0 (↑(List.length a1):Int)) fun b↦br (decide (0≤Prod.fst (Prod.fst b))&&decide (Prod.fst (Prod.fst b)<(↑(List.length a1):Int))) (some ((List.getD a1 (Int.toNat (Prod.fst (Prod.fst b))) 0,()),Prod.fst (Prod.snd b),())) none
def qvv (D:DX)(n:Nat) (a0:List Int×Int×Int×Unit) (a1:List Int):Option ((Int×Unit)×tCur×Unit):=q4q D n a0 a1
theorem qbf5 (D:DX)(n:Nat) (a0:List Int×Int×Int×Unit) (a1:List Int):rfC qc D n 163 (a0,(a1,()))=qvv D n a0 a1:=by kernel_rfl


def qxa (D:DX)(n:Nat) (go:qd→Int→Option ((Bool×Unit)×Unit)) (K0:Bool→Option ((Bool×Unit)×Unit)) (K1:Option ((Bool×Unit)×Unit)) (x0:qd) (x1:Int):Option ((Bool×Unit)×Unit):=br (decide (x1<(↑(List.length x0):Int))) (br (decide (0≤x1)&&decide (x1<(↑(List.length x0):Int))) (br (decide (Prod.fst (List.getD x0 (Int.toNat x1) (0,0,ByteArray.empty,()))=0)) (K0 true) (go x0 (IntKind.wrap IntKind.i64 (x1+1)))) none) K1
def qke (D:DX)(n:Nat) (K0:Bool→Option ((Bool×Unit)×Unit)) (K1:Option ((Bool×Unit)×Unit)):Nat→(qd)→(Int)→Option ((Bool×Unit)×Unit) | 0=>(fun x0 x1=>none) | m+1=>(fun x0 x1=>qxa D n (qke D n K0 K1 m) K0 K1 x0 x1)
def q3p (D:DX)(n:Nat) (v0_0:Bool):Option ((Bool×Unit)×Unit):=some ((v0_0,()),())
def q24 (D:DX)(n:Nat):Option ((Bool×Unit)×Unit):=some ((false,()),())
def qv2 (D:DX)(n:Nat):(qd)→(Int)→Option ((Bool×Unit)×Unit):=(fun x0 x1=>qke D n (fun v0_0=>q3p D n v0_0) (q24 D n) n x0 x1)
def qzh (D:DX)(n:Nat) (lp0:qd→Int→Option ((Bool×Unit)×Unit)) (a0:qd):Option ((Bool×Unit)×Unit):=lp0 a0 0
def q0i (D:DX)(n:Nat) (a0:qd):Option ((Bool×Unit)×Unit):=qzh D n (qv2 D n) a0
def qkc (x0:qd) (x1:Int):St:=stq 16 [(0,AV.val (Ty.sl yV) x0),(3,avI x1)] [] 
def qn9 (v0_0:Bool):St:=stq 16 [(2,AV.val Ty.bool v0_0)] [] 
def qok:St:=stq 16 [] [] 
theorem qbg5 (D:DX)(n:Nat) (m:Nat) (K:Ex→St→Option (Out ctx 165)) (x0:qd) (x1:Int) :
 LQ qc D n 165 [.r,.l,.r,.l] (m+1) (qkc x0 x1) K=qxa D n (fun x0 x1=>LQ qc D n 165 [.r,.l,.r,.l] m (qkc x0 x1) K) (fun v0_0=>K (Ex.ret) (qn9 v0_0)) (K (Ex.exit 0) (qok)) x0 x1:=by kernel_rfl
theorem q5m (D:DX)(n:Nat) (K:Ex→St→Option (Out ctx 165)):∀ (m:Nat) (x0:qd) (x1:Int),LQ qc D n 165 [.r,.l,.r,.l] m (qkc x0 x1) K=qke D n (fun v0_0=>K (Ex.ret) (qn9 v0_0)) (K (Ex.exit 0) (qok)) m x0 x1
 | 0,x0,x1=>qw ..
 | m+1,x0,x1=>by
  have ih:(fun x0 x1=>LQ qc D n 165 [.r,.l,.r,.l] m (qkc x0 x1) K)=qke D n (fun v0_0=>K (Ex.ret) (qn9 v0_0)) (K (Ex.exit 0) (qok)) m:=by funext x0 x1;exact q5m D n K m x0 x1
  rw[qbg5]
  rw[ih];rfl
theorem qbd2 (D:DX)(n:Nat) (v0_0:Bool) :
 (CQ qc D n 165 [] [.r,.l,.r,.l] (qi qc 165)) (Ex.ret) (qn9 v0_0)=q3p D n v0_0:=by kernel_rfl
theorem qbdp (D:DX)(n:Nat) :
 (CQ qc D n 165 [] [.r,.l,.r,.l] (qi qc 165)) (Ex.exit 0) (qok)=q24 D n:=by kernel_rfl
theorem qbef (D:DX)(n:Nat) (x0:qd) (x1:Int) :
 LQ qc D n 165 [.r,.l,.r,.l] n (qkc x0 x1) (CQ qc D n 165 [] [.r,.l,.r,.l] (qi qc 165))=qv2 D n x0 x1:=by
 rw[q5m]
 simp only[qbd2,qbdp]
 rfl
theorem qbk4 (D:DX)(n:Nat) (a0:qd):rfC qc D n 165 (a0,())=q0i D n a0:=by
 have h:rfC qc D n 165 (a0,())=qzh D n (fun x0 x1=>LQ qc D n 165 [.r,.l,.r,.l] n (qkc x0 x1) (CQ qc D n 165 [] [.r,.l,.r,.l] (qi qc 165))) a0:=by kernel_rfl
 rw[h]
 simp only[qbef]
 rfl

def qt6 (D:DX)(n:Nat) (go:ByteArray→Int→Option ((Bool×Unit)×Unit)) (K0:ByteArray→Bool→Option ((Bool×Unit)×Unit)) (K1:ByteArray→Option ((Bool×Unit)×Unit)) (x0:ByteArray) (x1:Int):Option ((Bool×Unit)×Unit):=br (decide (x1<(↑(ByteArray.size x0):Int))) (br (decide (0≤x1)&&decide (x1<(↑(ByteArray.size x0):Int))) (br (decide ((↑(UInt8.toNat (Array.getD (ByteArray.data x0) (Int.toNat x1) (UInt8.ofNat 0))):Int)<97)) (K0 x0 false) (br (decide (0≤x1)&&decide (x1<(↑(ByteArray.size x0):Int))) (br (decide ((↑(UInt8.toNat (Array.getD (ByteArray.data x0) (Int.toNat x1) (UInt8.ofNat 0))):Int)>122)) (K0 x0 false) (go x0 (IntKind.wrap IntKind.i64 (x1+1)))) none)) none) (K1 x0)
def qh9 (D:DX)(n:Nat) (K0:ByteArray→Bool→Option ((Bool×Unit)×Unit)) (K1:ByteArray→Option ((Bool×Unit)×Unit)):Nat→(ByteArray)→(Int)→Option ((Bool×Unit)×Unit) | 0=>(fun x0 x1=>none) | m+1=>(fun x0 x1=>qt6 D n (qh9 D n K0 K1 m) K0 K1 x0 x1)
def qyt (D:DX)(n:Nat) (v0_0:ByteArray) (v0_1:Bool):Option ((Bool×Unit)×Unit):=some ((v0_1,()),())
def qq7 (D:DX)(n:Nat) (v1_0:ByteArray):Option ((Bool×Unit)×Unit):=qh (qgq D (↑(ByteArray.size v1_0):Int) 1 12) fun b↦some ((Prod.fst (Prod.fst b),()),())
def qs2 (D:DX)(n:Nat):(ByteArray)→(Int)→Option ((Bool×Unit)×Unit):=(fun x0 x1=>qh9 D n (fun v0_0 v0_1=>qyt D n v0_0 v0_1) (fun v1_0=>qq7 D n v1_0) n x0 x1)
def qvb (D:DX)(n:Nat) (lp0:ByteArray→Int→Option ((Bool×Unit)×Unit)) (a0:ByteArray):Option ((Bool×Unit)×Unit):=lp0 a0 0
def qv5 (D:DX)(n:Nat) (a0:ByteArray):Option ((Bool×Unit)×Unit):=qvb D n (qs2 D n) a0
def qh5 (x0:ByteArray) (x1:Int):St:=stq 23 [(0,AV.val Ty.str x0),(3,avI x1)] [] 
def qlx (v0_0:ByteArray) (v0_1:Bool):St:=stq 23 [(0,AV.val Ty.str v0_0),(2,AV.val Ty.bool v0_1)] [] 
def ql0 (v1_0:ByteArray):St:=stq 23 [(0,AV.val Ty.str v1_0)] [] 
theorem qbbi (D:DX)(n:Nat) (m:Nat) (K:Ex→St→Option (Out ctx 166)) (x0:ByteArray) (x1:Int) :
 LQ qc D n 166 [.r,.l,.r,.l] (m+1) (qh5 x0 x1) K=qt6 D n (fun x0 x1=>LQ qc D n 166 [.r,.l,.r,.l] m (qh5 x0 x1) K) (fun v0_0 v0_1=>K (Ex.ret) (qlx v0_0 v0_1)) (fun v1_0=>K (Ex.exit 0) (ql0 v1_0)) x0 x1:=by kernel_rfl
theorem q1b (D:DX)(n:Nat) (K:Ex→St→Option (Out ctx 166)):∀ (m:Nat) (x0:ByteArray) (x1:Int),LQ qc D n 166 [.r,.l,.r,.l] m (qh5 x0 x1) K=qh9 D n (fun v0_0 v0_1=>K (Ex.ret) (qlx v0_0 v0_1)) (fun v1_0=>K (Ex.exit 0) (ql0 v1_0)) m x0 x1
 | 0,x0,x1=>qw ..
 | m+1,x0,x1=>by
  have ih:(fun x0 x1=>LQ qc D n 166 [.r,.l,.r,.l] m (qh5 x0 x1) K)=qh9 D n (fun v0_0 v0_1=>K (Ex.ret) (qlx v0_0 v0_1)) (fun v1_0=>K (Ex.exit 0) (ql0 v1_0)) m:=by funext x0 x1;exact q1b D n K m x0 x1
  rw[qbbi]
  rw[ih];rfl
theorem qbai (D:DX)(n:Nat) (v0_0:ByteArray) (v0_1:Bool) :
 (CQ qc D n 166 [] [.r,.l,.r,.l] (qi qc 166)) (Ex.ret) (qlx v0_0 v0_1)=qyt D n v0_0 v0_1:=by kernel_rfl
theorem qbal (D:DX)(n:Nat) (v1_0:ByteArray) :
 (CQ qc D n 166 [] [.r,.l,.r,.l] (qi qc 166)) (Ex.exit 0) (ql0 v1_0)=qq7 D n v1_0:=by kernel_rfl
theorem qbaj (D:DX)(n:Nat) (x0:ByteArray) (x1:Int) :
 LQ qc D n 166 [.r,.l,.r,.l] n (qh5 x0 x1) (CQ qc D n 166 [] [.r,.l,.r,.l] (qi qc 166))=qs2 D n x0 x1:=by
 rw[q1b]
 simp only[qbai,qbal]
 rfl
theorem qbhb (D:DX)(n:Nat) (a0:ByteArray):rfC qc D n 166 (a0,())=qv5 D n a0:=by
 have h:rfC qc D n 166 (a0,())=qvb D n (fun x0 x1=>LQ qc D n 166 [.r,.l,.r,.l] n (qh5 x0 x1) (CQ qc D n 166 [] [.r,.l,.r,.l] (qi qc 166))) a0:=by kernel_rfl
 rw[h]
 simp only[qbaj]
 rfl

def q12 (D:DX)(n:Nat) (go:ByteArray→Int→tSch→Option ((Int×Unit)×Unit)) (K0:Int→Option ((Int×Unit)×Unit)) (K1:Option ((Int×Unit)×Unit)) (x0:ByteArray) (x1:Int) (x2:tSch):Option ((Int×Unit)×Unit):=br (decide (x1<(↑(List.length (Prod.fst x2)):Int))) (br (decide (0≤x1)&&decide (x1<(↑(List.length (Prod.fst x2)):Int))) (br (List.beq (ByteArray.toList (Prod.fst (List.getD (Prod.fst x2) (Int.toNat x1) (ByteArray.empty,0,false,())))) (ByteArray.toList x0)) (K0 x1) (go x0 (IntKind.wrap IntKind.i64 (x1+1)) x2)) none) K1
def qmj (D:DX)(n:Nat) (K0:Int→Option ((Int×Unit)×Unit)) (K1:Option ((Int×Unit)×Unit)):Nat→(ByteArray)→(Int)→(tSch)→Option ((Int×Unit)×Unit) | 0=>(fun x0 x1 x2=>none) | m+1=>(fun x0 x1 x2=>q12 D n (qmj D n K0 K1 m) K0 K1 x0 x1 x2)
def q6k (D:DX)(n:Nat) (v0_0:Int):Option ((Int×Unit)×Unit):=some ((v0_0,()),())
def q6g (D:DX)(n:Nat):Option ((Int×Unit)×Unit):=some ((-1,()),())
def qzr (D:DX)(n:Nat):(ByteArray)→(Int)→(tSch)→Option ((Int×Unit)×Unit):=(fun x0 x1 x2=>qmj D n (fun v0_0=>q6k D n v0_0) (q6g D n) n x0 x1 x2)
def q4c (D:DX)(n:Nat) (lp0:ByteArray→Int→tSch→Option ((Int×Unit)×Unit)) (a0:tSch) (a1:ByteArray):Option ((Int×Unit)×Unit):=lp0 a1 0 a0
def q42 (D:DX)(n:Nat) (a0:tSch) (a1:ByteArray):Option ((Int×Unit)×Unit):=q4c D n (qzr D n) a0 a1
def ql8 (x0:ByteArray) (x1:Int) (x2:tSch):St:=stq 22 [(1,AV.val Ty.str x0),(2,AV.addr 2 []),(5,avI x1)] [(2,Root.mk yS Mk.no x2 true)] 
def qrr (v0_0:Int):St:=stq 22 [(4,avI v0_0)] [] 
def qr4:St:=stq 22 [] [] 
theorem qbj9 (D:DX)(n:Nat) (m:Nat) (K:Ex→St→Option (Out ctx 167)) (x0:ByteArray) (x1:Int) (x2:tSch) :
 LQ qc D n 167 [.r,.l,.r,.l] (m+1) (ql8 x0 x1 x2) K=q12 D n (fun x0 x1 x2=>LQ qc D n 167 [.r,.l,.r,.l] m (ql8 x0 x1 x2) K) (fun v0_0=>K (Ex.ret) (qrr v0_0)) (K (Ex.exit 0) (qr4)) x0 x1 x2:=by kernel_rfl
theorem q7q (D:DX)(n:Nat) (K:Ex→St→Option (Out ctx 167)):∀ (m:Nat) (x0:ByteArray) (x1:Int) (x2:tSch),LQ qc D n 167 [.r,.l,.r,.l] m (ql8 x0 x1 x2) K=qmj D n (fun v0_0=>K (Ex.ret) (qrr v0_0)) (K (Ex.exit 0) (qr4)) m x0 x1 x2
 | 0,x0,x1,x2=>qw ..
 | m+1,x0,x1,x2=>by
  have ih:(fun x0 x1 x2=>LQ qc D n 167 [.r,.l,.r,.l] m (ql8 x0 x1 x2) K)=qmj D n (fun v0_0=>K (Ex.ret) (qrr v0_0)) (K (Ex.exit 0) (qr4)) m:=by funext x0 x1 x2;exact q7q D n K m x0 x1 x2
  rw[qbj9]
  rw[ih];rfl
theorem qbib (D:DX)(n:Nat) (v0_0:Int) :
 (CQ qc D n 167 [] [.r,.l,.r,.l] (qi qc 167)) (Ex.ret) (qrr v0_0)=q6k D n v0_0:=by kernel_rfl
theorem qbh2 (D:DX)(n:Nat) :
 (CQ qc D n 167 [] [.r,.l,.r,.l] (qi qc 167)) (Ex.exit 0) (qr4)=q6g D n:=by kernel_rfl
theorem qbhk (D:DX)(n:Nat) (x0:ByteArray) (x1:Int) (x2:tSch) :
 LQ qc D n 167 [.r,.l,.r,.l] n (ql8 x0 x1 x2) (CQ qc D n 167 [] [.r,.l,.r,.l] (qi qc 167))=qzr D n x0 x1 x2:=by
 rw[q7q]
 simp only[qbib,qbh2]
 rfl
theorem qbo7 (D:DX)(n:Nat) (a0:tSch) (a1:ByteArray):rfC qc D n 167 (a0,(a1,()))=q42 D n a0 a1:=by
 have h:rfC qc D n 167 (a0,(a1,()))=q4c D n (fun x0 x1 x2=>LQ qc D n 167 [.r,.l,.r,.l] n (ql8 x0 x1 x2) (CQ qc D n 167 [] [.r,.l,.r,.l] (qi qc 167))) a0 a1:=by kernel_rfl
 rw[h]
 simp only[qbhk]
 rfl

def quw (D:DX)(n:Nat) (go:List Int→Int→Int→Int→tSch→Option ((Bool×Unit)×Unit)) (K0:List Int→Int→Bool→Int→tSch→Option ((Bool×Unit)×Unit)) (K1:List Int→Int→Int→tSch→Option ((Bool×Unit)×Unit)) (x1_0:List Int) (x1_1:Int) (x1_2:Int) (x1_3:Int) (x1_4:tSch):Option ((Bool×Unit)×Unit):=br (decide (x1_3<x1_2)) (br (decide (0≤x1_3)&&decide (x1_3<(↑(List.length x1_0):Int))) (br (decide (0≤x1_2)&&decide (x1_2<(↑(List.length x1_0):Int))) (br (decide (List.getD x1_0 (Int.toNat x1_3) 0=List.getD x1_0 (Int.toNat x1_2) 0)) (K0 x1_0 x1_1 false x1_2 x1_4) (go x1_0 x1_1 x1_2 (IntKind.wrap IntKind.i64 (x1_3+1)) x1_4)) none) none) (K1 x1_0 x1_1 x1_2 x1_4)
def qhz (D:DX)(n:Nat) (K0:List Int→Int→Bool→Int→tSch→Option ((Bool×Unit)×Unit)) (K1:List Int→Int→Int→tSch→Option ((Bool×Unit)×Unit)):Nat→(List Int)→(Int)→(Int)→(Int)→(tSch)→Option ((Bool×Unit)×Unit) | 0=>(fun x1_0 x1_1 x1_2 x1_3 x1_4=>none) | m+1=>(fun x1_0 x1_1 x1_2 x1_3 x1_4=>quw D n (qhz D n K0 K1 m) K0 K1 x1_0 x1_1 x1_2 x1_3 x1_4)
def qyl (D:DX)(n:Nat) (go:List Int→Int→Int→tSch→Option ((Bool×Unit)×Unit)) (K0:List Int→Int→Bool→Option ((Bool×Unit)×Unit)) (K1:List Int→Int→Option ((Bool×Unit)×Unit)) (v0_0:List Int) (v0_1:Int) (v0_2:Bool) (v0_3:Int) (v0_4:tSch):Option ((Bool×Unit)×Unit):=K0 v0_0 v0_1 v0_2
def qrb (D:DX)(n:Nat) (go:List Int→Int→Int→tSch→Option ((Bool×Unit)×Unit)) (K0:List Int→Int→Bool→Option ((Bool×Unit)×Unit)) (K1:List Int→Int→Option ((Bool×Unit)×Unit)) (v1_0:List Int) (v1_1:Int) (v1_2:Int) (v1_3:tSch):Option ((Bool×Unit)×Unit):=go v1_0 v1_1 (IntKind.wrap IntKind.i64 (v1_2+1)) v1_3
def qso (D:DX)(n:Nat) (go:List Int→Int→Int→tSch→Option ((Bool×Unit)×Unit)) (K0:List Int→Int→Bool→Option ((Bool×Unit)×Unit)) (K1:List Int→Int→Option ((Bool×Unit)×Unit)):(List Int)→(Int)→(Int)→(Int)→(tSch)→Option ((Bool×Unit)×Unit):=(fun x1_0 x1_1 x1_2 x1_3 x1_4=>qhz D n (fun v0_0 v0_1 v0_2 v0_3 v0_4=>qyl D n go K0 K1 v0_0 v0_1 v0_2 v0_3 v0_4) (fun v1_0 v1_1 v1_2 v1_3=>qrb D n go K0 K1 v1_0 v1_1 v1_2 v1_3) n x1_0 x1_1 x1_2 x1_3 x1_4)
def qum (D:DX)(n:Nat) (go:List Int→Int→Int→tSch→Option ((Bool×Unit)×Unit)) (K0:List Int→Int→Bool→Option ((Bool×Unit)×Unit)) (K1:List Int→Int→Option ((Bool×Unit)×Unit)) (lp1:List Int→Int→Int→Int→tSch→Option ((Bool×Unit)×Unit)) (x0:List Int) (x1:Int) (x2:Int) (x3:tSch):Option ((Bool×Unit)×Unit):=br (decide (x2<(↑(List.length x0):Int))) (br (decide (0≤x2)&&decide (x2<(↑(List.length x0):Int))) (qh (qgq D (List.getD x0 (Int.toNat x2) 0) 0 (IntKind.wrap IntKind.i64 ((↑(List.length (Prod.fst x3)):Int) - 1))) fun b↦br (!Prod.fst (Prod.fst b)) (K0 x0 x1 false) (lp1 x0 x1 x2 0 x3)) none) (K1 x0 x1)
def qe2 (D:DX)(n:Nat) (K0:List Int→Int→Bool→Option ((Bool×Unit)×Unit)) (K1:List Int→Int→Option ((Bool×Unit)×Unit)):Nat→(List Int)→(Int)→(Int)→(tSch)→Option ((Bool×Unit)×Unit) | 0=>(fun x0 x1 x2 x3=>none) | m+1=>(fun x0 x1 x2 x3=>qum D n (qe2 D n K0 K1 m) K0 K1 (qso D n (qe2 D n K0 K1 m) K0 K1) x0 x1 x2 x3)
def qq3 (D:DX)(n:Nat) (v0_0:List Int) (v0_1:Int) (v0_2:Bool):Option ((Bool×Unit)×Unit):=some ((v0_2,()),())
def ql2 (D:DX)(n:Nat) (v1_0:List Int) (v1_1:Int):Option ((Bool×Unit)×Unit):=qh (qgq D (↑(List.length v1_0):Int) 1 v1_1) fun b↦some ((Prod.fst (Prod.fst b),()),())
def qsn (D:DX)(n:Nat):(List Int)→(Int)→(Int)→(tSch)→Option ((Bool×Unit)×Unit):=(fun x0 x1 x2 x3=>qe2 D n (fun v0_0 v0_1 v0_2=>qq3 D n v0_0 v0_1 v0_2) (fun v1_0 v1_1=>ql2 D n v1_0 v1_1) n x0 x1 x2 x3)
def qvs (D:DX)(n:Nat) (lp0:List Int→Int→Int→tSch→Option ((Bool×Unit)×Unit)) (a0:tSch) (a1:List Int) (a2:Int):Option ((Bool×Unit)×Unit):=lp0 a1 a2 0 a0
def qv3 (D:DX)(n:Nat) (a0:tSch) (a1:List Int) (a2:Int):Option ((Bool×Unit)×Unit):=qvs D n (qsn D n) a0 a1 a2
def qd8 (x0:List Int) (x1:Int) (x2:Int) (x3:tSch):St:=stq 43 [(1,AV.val (Ty.sl yI) x0),(2,avI x1),(3,AV.addr 3 []),(7,avI x2)] [(3,Root.mk yS Mk.no x3 true)] 
def qe5 (v0_0:List Int) (v0_1:Int) (v0_2:Bool):St:=stq 43 [(1,AV.val (Ty.sl yI) v0_0),(2,avI v0_1),(6,AV.val Ty.bool v0_2)] [] 
def qe4 (v1_0:List Int) (v1_1:Int):St:=stq 43 [(1,AV.val (Ty.sl yI) v1_0),(2,avI v1_1)] [] 
def qh6 (x1_0:List Int) (x1_1:Int) (x1_2:Int) (x1_3:Int) (x1_4:tSch):St:=stq 43 [(1,AV.val (Ty.sl yI) x1_0),(2,avI x1_1),(3,AV.addr 3 []),(7,avI x1_2),(8,avI x1_3)] [(3,Root.mk yS Mk.no x1_4 true)] 
def qlq (v0_0:List Int) (v0_1:Int) (v0_2:Bool) (v0_3:Int) (v0_4:tSch):St:=stq 43 [(1,AV.val (Ty.sl yI) v0_0),(2,avI v0_1),(3,AV.addr 3 []),(6,AV.val Ty.bool v0_2),(7,avI v0_3)] [(3,Root.mk yS Mk.no v0_4 true)] 
def qlr (v1_0:List Int) (v1_1:Int) (v1_2:Int) (v1_3:tSch):St:=stq 43 [(1,AV.val (Ty.sl yI) v1_0),(2,avI v1_1),(3,AV.addr 3 []),(7,avI v1_2)] [(3,Root.mk yS Mk.no v1_3 true)] 
theorem qbby (D:DX)(n:Nat) (m:Nat) (K:Ex→St→Option (Out ctx 168)) (x1_0:List Int) (x1_1:Int) (x1_2:Int) (x1_3:Int) (x1_4:tSch) :
 LQ qc D n 168 [.r,.l,.r,.l,.l,.r,.l,.l,.r,.r,.l] (m+1) (qh6 x1_0 x1_1 x1_2 x1_3 x1_4) K=quw D n (fun x1_0 x1_1 x1_2 x1_3 x1_4=>LQ qc D n 168 [.r,.l,.r,.l,.l,.r,.l,.l,.r,.r,.l] m (qh6 x1_0 x1_1 x1_2 x1_3 x1_4) K) (fun v0_0 v0_1 v0_2 v0_3 v0_4=>K (Ex.ret) (qlq v0_0 v0_1 v0_2 v0_3 v0_4)) (fun v1_0 v1_1 v1_2 v1_3=>K (Ex.exit 2) (qlr v1_0 v1_1 v1_2 v1_3)) x1_0 x1_1 x1_2 x1_3 x1_4:=by kernel_rfl
theorem q07 (D:DX)(n:Nat) (K:Ex→St→Option (Out ctx 168)):∀ (m:Nat) (x1_0:List Int) (x1_1:Int) (x1_2:Int) (x1_3:Int) (x1_4:tSch),LQ qc D n 168 [.r,.l,.r,.l,.l,.r,.l,.l,.r,.r,.l] m (qh6 x1_0 x1_1 x1_2 x1_3 x1_4) K=qhz D n (fun v0_0 v0_1 v0_2 v0_3 v0_4=>K (Ex.ret) (qlq v0_0 v0_1 v0_2 v0_3 v0_4)) (fun v1_0 v1_1 v1_2 v1_3=>K (Ex.exit 2) (qlr v1_0 v1_1 v1_2 v1_3)) m x1_0 x1_1 x1_2 x1_3 x1_4
 | 0,x1_0,x1_1,x1_2,x1_3,x1_4=>qw ..
 | m+1,x1_0,x1_1,x1_2,x1_3,x1_4=>by
  have ih:(fun x1_0 x1_1 x1_2 x1_3 x1_4=>LQ qc D n 168 [.r,.l,.r,.l,.l,.r,.l,.l,.r,.r,.l] m (qh6 x1_0 x1_1 x1_2 x1_3 x1_4) K)=qhz D n (fun v0_0 v0_1 v0_2 v0_3 v0_4=>K (Ex.ret) (qlq v0_0 v0_1 v0_2 v0_3 v0_4)) (fun v1_0 v1_1 v1_2 v1_3=>K (Ex.exit 2) (qlr v1_0 v1_1 v1_2 v1_3)) m:=by funext x1_0 x1_1 x1_2 x1_3 x1_4;exact q07 D n K m x1_0 x1_1 x1_2 x1_3 x1_4
  rw[qbby]
  rw[ih];rfl
theorem qbas (D:DX)(n:Nat) (m:Nat) (K:Ex→St→Option (Out ctx 168)) (v0_0:List Int) (v0_1:Int) (v0_2:Bool) (v0_3:Int) (v0_4:tSch) :
 (CQ qc D n 168 [.r,.l,.r,.l,.l] [.r,.l,.l,.r,.r,.l] (LK qc D n 168 [.r,.l,.r,.l] m K)) (Ex.ret) (qlq v0_0 v0_1 v0_2 v0_3 v0_4)=qyl D n (fun x0 x1 x2 x3=>LQ qc D n 168 [.r,.l,.r,.l] m (qd8 x0 x1 x2 x3) K) (fun v0_0 v0_1 v0_2=>K (Ex.ret) (qe5 v0_0 v0_1 v0_2)) (fun v1_0 v1_1=>K (Ex.exit 0) (qe4 v1_0 v1_1)) v0_0 v0_1 v0_2 v0_3 v0_4:=by kernel_rfl
theorem qba4 (D:DX)(n:Nat) (m:Nat) (K:Ex→St→Option (Out ctx 168)) (v1_0:List Int) (v1_1:Int) (v1_2:Int) (v1_3:tSch) :
 (CQ qc D n 168 [.r,.l,.r,.l,.l] [.r,.l,.l,.r,.r,.l] (LK qc D n 168 [.r,.l,.r,.l] m K)) (Ex.exit 2) (qlr v1_0 v1_1 v1_2 v1_3)=qrb D n (fun x0 x1 x2 x3=>LQ qc D n 168 [.r,.l,.r,.l] m (qd8 x0 x1 x2 x3) K) (fun v0_0 v0_1 v0_2=>K (Ex.ret) (qe5 v0_0 v0_1 v0_2)) (fun v1_0 v1_1=>K (Ex.exit 0) (qe4 v1_0 v1_1)) v1_0 v1_1 v1_2 v1_3:=by kernel_rfl
theorem qbaf (D:DX)(n:Nat) (m:Nat) (K:Ex→St→Option (Out ctx 168)) (x1_0:List Int) (x1_1:Int) (x1_2:Int) (x1_3:Int) (x1_4:tSch) :
 LQ qc D n 168 [.r,.l,.r,.l,.l,.r,.l,.l,.r,.r,.l] n (qh6 x1_0 x1_1 x1_2 x1_3 x1_4) (CQ qc D n 168 [.r,.l,.r,.l,.l] [.r,.l,.l,.r,.r,.l] (LK qc D n 168 [.r,.l,.r,.l] m K))=qso D n (fun x0 x1 x2 x3=>LQ qc D n 168 [.r,.l,.r,.l] m (qd8 x0 x1 x2 x3) K) (fun v0_0 v0_1 v0_2=>K (Ex.ret) (qe5 v0_0 v0_1 v0_2)) (fun v1_0 v1_1=>K (Ex.exit 0) (qe4 v1_0 v1_1)) x1_0 x1_1 x1_2 x1_3 x1_4:=by
 rw[q07]
 simp only[qbas,qba4]
 rfl
theorem qbcz (D:DX)(n:Nat) (m:Nat) (K:Ex→St→Option (Out ctx 168)) (x0:List Int) (x1:Int) (x2:Int) (x3:tSch) :
 LQ qc D n 168 [.r,.l,.r,.l] (m+1) (qd8 x0 x1 x2 x3) K=qum D n (fun x0 x1 x2 x3=>LQ qc D n 168 [.r,.l,.r,.l] m (qd8 x0 x1 x2 x3) K) (fun v0_0 v0_1 v0_2=>K (Ex.ret) (qe5 v0_0 v0_1 v0_2)) (fun v1_0 v1_1=>K (Ex.exit 0) (qe4 v1_0 v1_1)) (fun x1_0 x1_1 x1_2 x1_3 x1_4=>LQ qc D n 168 [.r,.l,.r,.l,.l,.r,.l,.l,.r,.r,.l] n (qh6 x1_0 x1_1 x1_2 x1_3 x1_4) (CQ qc D n 168 [.r,.l,.r,.l,.l] [.r,.l,.l,.r,.r,.l] (LK qc D n 168 [.r,.l,.r,.l] m K))) x0 x1 x2 x3:=by kernel_rfl
theorem q1n (D:DX)(n:Nat) (K:Ex→St→Option (Out ctx 168)):∀ (m:Nat) (x0:List Int) (x1:Int) (x2:Int) (x3:tSch),LQ qc D n 168 [.r,.l,.r,.l] m (qd8 x0 x1 x2 x3) K=qe2 D n (fun v0_0 v0_1 v0_2=>K (Ex.ret) (qe5 v0_0 v0_1 v0_2)) (fun v1_0 v1_1=>K (Ex.exit 0) (qe4 v1_0 v1_1)) m x0 x1 x2 x3
 | 0,x0,x1,x2,x3=>qw ..
 | m+1,x0,x1,x2,x3=>by
  have ih:(fun x0 x1 x2 x3=>LQ qc D n 168 [.r,.l,.r,.l] m (qd8 x0 x1 x2 x3) K)=qe2 D n (fun v0_0 v0_1 v0_2=>K (Ex.ret) (qe5 v0_0 v0_1 v0_2)) (fun v1_0 v1_1=>K (Ex.exit 0) (qe4 v1_0 v1_1)) m:=by funext x0 x1 x2 x3;exact q1n D n K m x0 x1 x2 x3
  rw[qbcz]
  simp only[qbaf]
  rw[ih];rfl
theorem qbap (D:DX)(n:Nat) (v0_0:List Int) (v0_1:Int) (v0_2:Bool) :
 (CQ qc D n 168 [] [.r,.l,.r,.l] (qi qc 168)) (Ex.ret) (qe5 v0_0 v0_1 v0_2)=qq3 D n v0_0 v0_1 v0_2:=by kernel_rfl
theorem qbar (D:DX)(n:Nat) (v1_0:List Int) (v1_1:Int) :
 (CQ qc D n 168 [] [.r,.l,.r,.l] (qi qc 168)) (Ex.exit 0) (qe4 v1_0 v1_1)=ql2 D n v1_0 v1_1:=by kernel_rfl
theorem qba2 (D:DX)(n:Nat) (x0:List Int) (x1:Int) (x2:Int) (x3:tSch) :
 LQ qc D n 168 [.r,.l,.r,.l] n (qd8 x0 x1 x2 x3) (CQ qc D n 168 [] [.r,.l,.r,.l] (qi qc 168))=qsn D n x0 x1 x2 x3:=by
 rw[q1n]
 simp only[qbap,qbar]
 rfl
theorem qbgz (D:DX)(n:Nat) (a0:tSch) (a1:List Int) (a2:Int):rfC qc D n 168 (a0,(a1,(a2,())))=qv3 D n a0 a1 a2:=by
 have h:rfC qc D n 168 (a0,(a1,(a2,())))=qvs D n (fun x0 x1 x2 x3=>LQ qc D n 168 [.r,.l,.r,.l] n (qd8 x0 x1 x2 x3) (CQ qc D n 168 [] [.r,.l,.r,.l] (qi qc 168))) a0 a1 a2:=by kernel_rfl
 rw[h]
 simp only[qba2]
 rfl

def qsl (D:DX)(n:Nat) (go:Int→Int→tSch→ByteArray×List Int×Bool×Unit→Option ((Bool×Unit)×Unit)) (K0:Bool→Int→tSch→Option ((Bool×Unit)×Unit)) (K1:Int→tSch→Option ((Bool×Unit)×Unit)) (x1_0:Int) (x1_1:Int) (x1_2:tSch) (x1_3:ByteArray×List Int×Bool×Unit):Option ((Bool×Unit)×Unit):=br (decide (x1_1<x1_0)) (br (decide (0≤x1_1)&&decide (x1_1<(↑(List.length (Prod.fst (Prod.snd (Prod.snd x1_2)))):Int))) (br (List.beq (ByteArray.toList (Prod.fst (List.getD (Prod.fst (Prod.snd (Prod.snd x1_2))) (Int.toNat x1_1) (ByteArray.empty,[],false,())))) (ByteArray.toList (Prod.fst x1_3))) (K0 false x1_0 x1_2) (go x1_0 (IntKind.wrap IntKind.i64 (x1_1+1)) x1_2 x1_3)) none) (K1 x1_0 x1_2)
def qhm (D:DX)(n:Nat) (K0:Bool→Int→tSch→Option ((Bool×Unit)×Unit)) (K1:Int→tSch→Option ((Bool×Unit)×Unit)):Nat→(Int)→(Int)→(tSch)→tIx→Option ((Bool×Unit)×Unit) | 0=>(fun x1_0 x1_1 x1_2 x1_3=>none) | m+1=>(fun x1_0 x1_1 x1_2 x1_3=>qsl D n (qhm D n K0 K1 m) K0 K1 x1_0 x1_1 x1_2 x1_3)
def qws (D:DX)(n:Nat) (go:Int→tSch→Option ((Bool×Unit)×Unit)) (K0:Bool→tSch→Option ((Bool×Unit)×Unit)) (K1:tSch→Option ((Bool×Unit)×Unit)) (v0_0:Bool) (v0_1:Int) (v0_2:tSch):Option ((Bool×Unit)×Unit):=K0 v0_0 v0_2
def qpq (D:DX)(n:Nat) (go:Int→tSch→Option ((Bool×Unit)×Unit)) (K0:Bool→tSch→Option ((Bool×Unit)×Unit)) (K1:tSch→Option ((Bool×Unit)×Unit)) (v1_0:Int) (v1_1:tSch):Option ((Bool×Unit)×Unit):=go (IntKind.wrap IntKind.i64 (v1_0+1)) v1_1
def qrc (D:DX)(n:Nat) (go:Int→tSch→Option ((Bool×Unit)×Unit)) (K0:Bool→tSch→Option ((Bool×Unit)×Unit)) (K1:tSch→Option ((Bool×Unit)×Unit)):(Int)→(Int)→(tSch)→tIx→Option ((Bool×Unit)×Unit):=(fun x1_0 x1_1 x1_2 x1_3=>qhm D n (fun v0_0 v0_1 v0_2=>qws D n go K0 K1 v0_0 v0_1 v0_2) (fun v1_0 v1_1=>qpq D n go K0 K1 v1_0 v1_1) n x1_0 x1_1 x1_2 x1_3)
def qsy (D:DX)(n:Nat) (go:Int→tSch→Option ((Bool×Unit)×Unit)) (K0:Bool→tSch→Option ((Bool×Unit)×Unit)) (K1:tSch→Option ((Bool×Unit)×Unit)) (lp1:Int→Int→tSch→ByteArray×List Int×Bool×Unit→Option ((Bool×Unit)×Unit)) (x0:Int) (x1:tSch):Option ((Bool×Unit)×Unit):=br (decide (x0<(↑(List.length (Prod.fst (Prod.snd (Prod.snd x1)))):Int))) (br (decide (0≤x0)&&decide (x0<(↑(List.length (Prod.fst (Prod.snd (Prod.snd x1)))):Int))) (qh (qpf D (Prod.fst (List.getD (Prod.fst (Prod.snd (Prod.snd x1))) (Int.toNat x0) (ByteArray.empty,[],false,())))) fun b↦br (!Prod.fst (Prod.fst b)) (K0 false x1) (qh (qp1 D x1 (Prod.fst (Prod.snd (List.getD (Prod.fst (Prod.snd (Prod.snd x1))) (Int.toNat x0) (ByteArray.empty,[],false,())))) 3) fun b↦br (!Prod.fst (Prod.fst b)) (K0 false x1) (lp1 x0 0 x1 (List.getD (Prod.fst (Prod.snd (Prod.snd x1))) (Int.toNat x0) (ByteArray.empty,[],false,()))))) none) (K1 x1)
def qek (D:DX)(n:Nat) (K0:Bool→tSch→Option ((Bool×Unit)×Unit)) (K1:tSch→Option ((Bool×Unit)×Unit)):Nat→(Int)→(tSch)→Option ((Bool×Unit)×Unit) | 0=>(fun x0 x1=>none) | m+1=>(fun x0 x1=>qsy D n (qek D n K0 K1 m) K0 K1 (qrc D n (qek D n K0 K1 m) K0 K1) x0 x1)
def qpx (D:DX)(n:Nat) (v0_0:Bool) (v0_1:tSch):Option ((Bool×Unit)×Unit):=some ((v0_0,()),())
def qp6 (D:DX)(n:Nat) (v1_0:tSch):Option ((Bool×Unit)×Unit):=some ((decide ((↑(List.length (Prod.fst (Prod.snd (Prod.snd v1_0)))):Int)≤3),()),())
def qre (D:DX)(n:Nat):(Int)→(tSch)→Option ((Bool×Unit)×Unit):=(fun x0 x1=>qek D n (fun v0_0 v0_1=>qpx D n v0_0 v0_1) (fun v1_0=>qp6 D n v1_0) n x0 x1)
def qun (D:DX)(n:Nat) (lp0:Int→tSch→Option ((Bool×Unit)×Unit)) (a0:tSch):Option ((Bool×Unit)×Unit):=lp0 0 a0
def qt2 (D:DX)(n:Nat) (a0:tSch):Option ((Bool×Unit)×Unit):=qun D n (qre D n) a0
def qdw (x0:Int) (x1:tSch):St:=stq 47 [(1,AV.addr 1 []),(3,avI x0)] [(1,Root.mk yS Mk.no x1 true)] 
def qes (v0_0:Bool) (v0_1:tSch):St:=stq 47 [(1,AV.addr 1 []),(2,AV.val Ty.bool v0_0)] [(1,Root.mk yS Mk.no v0_1 true)] 
def qep (v1_0:tSch):St:=stq 47 [(1,AV.addr 1 [])] [(1,Root.mk yS Mk.no v1_0 true)] 
def qhj (x1_0:Int) (x1_1:Int) (x1_2:tSch) (x1_3:ByteArray×List Int×Bool×Unit):St:=stq 47 [(1,AV.addr 1 []),(3,avI x1_0),(4,AV.addr 4 []),(5,avI x1_1)] [(1,Root.mk yS Mk.no x1_2 true),(4,Root.mk yX Mk.no x1_3 true)] 
def qku (v0_0:Bool) (v0_1:Int) (v0_2:tSch):St:=stq 47 [(1,AV.addr 1 []),(2,AV.val Ty.bool v0_0),(3,avI v0_1)] [(1,Root.mk yS Mk.no v0_2 true)] 
def qks (v1_0:Int) (v1_1:tSch):St:=stq 47 [(1,AV.addr 1 []),(3,avI v1_0)] [(1,Root.mk yS Mk.no v1_1 true)] 
theorem qban (D:DX)(n:Nat) (m:Nat) (K:Ex→St→Option (Out ctx 169)) (x1_0:Int) (x1_1:Int) (x1_2:tSch) (x1_3:ByteArray×List Int×Bool×Unit) :
 LQ qc D n 169 [.r,.l,.r,.l,.l,.r,.l,.l,.r,.r,.r,.l] (m+1) (qhj x1_0 x1_1 x1_2 x1_3) K=qsl D n (fun x1_0 x1_1 x1_2 x1_3=>LQ qc D n 169 [.r,.l,.r,.l,.l,.r,.l,.l,.r,.r,.r,.l] m (qhj x1_0 x1_1 x1_2 x1_3) K) (fun v0_0 v0_1 v0_2=>K (Ex.ret) (qku v0_0 v0_1 v0_2)) (fun v1_0 v1_1=>K (Ex.exit 2) (qks v1_0 v1_1)) x1_0 x1_1 x1_2 x1_3:=by kernel_rfl
theorem qyq (D:DX)(n:Nat) (K:Ex→St→Option (Out ctx 169)):∀ (m:Nat) (x1_0:Int) (x1_1:Int) (x1_2:tSch) (x1_3:ByteArray×List Int×Bool×Unit),LQ qc D n 169 [.r,.l,.r,.l,.l,.r,.l,.l,.r,.r,.r,.l] m (qhj x1_0 x1_1 x1_2 x1_3) K=qhm D n (fun v0_0 v0_1 v0_2=>K (Ex.ret) (qku v0_0 v0_1 v0_2)) (fun v1_0 v1_1=>K (Ex.exit 2) (qks v1_0 v1_1)) m x1_0 x1_1 x1_2 x1_3
 | 0,x1_0,x1_1,x1_2,x1_3=>qw ..
 | m+1,x1_0,x1_1,x1_2,x1_3=>by
  have ih:(fun x1_0 x1_1 x1_2 x1_3=>LQ qc D n 169 [.r,.l,.r,.l,.l,.r,.l,.l,.r,.r,.r,.l] m (qhj x1_0 x1_1 x1_2 x1_3) K)=qhm D n (fun v0_0 v0_1 v0_2=>K (Ex.ret) (qku v0_0 v0_1 v0_2)) (fun v1_0 v1_1=>K (Ex.exit 2) (qks v1_0 v1_1)) m:=by funext x1_0 x1_1 x1_2 x1_3;exact qyq D n K m x1_0 x1_1 x1_2 x1_3
  rw[qban]
  rw[ih];rfl
theorem q9b (D:DX)(n:Nat) (m:Nat) (K:Ex→St→Option (Out ctx 169)) (v0_0:Bool) (v0_1:Int) (v0_2:tSch) :
 (CQ qc D n 169 [.r,.l,.r,.l,.l] [.r,.l,.l,.r,.r,.r,.l] (LK qc D n 169 [.r,.l,.r,.l] m K)) (Ex.ret) (qku v0_0 v0_1 v0_2)=qws D n (fun x0 x1=>LQ qc D n 169 [.r,.l,.r,.l] m (qdw x0 x1) K) (fun v0_0 v0_1=>K (Ex.ret) (qes v0_0 v0_1)) (fun v1_0=>K (Ex.exit 0) (qep v1_0)) v0_0 v0_1 v0_2:=by kernel_rfl
theorem q9y (D:DX)(n:Nat) (m:Nat) (K:Ex→St→Option (Out ctx 169)) (v1_0:Int) (v1_1:tSch) :
 (CQ qc D n 169 [.r,.l,.r,.l,.l] [.r,.l,.l,.r,.r,.r,.l] (LK qc D n 169 [.r,.l,.r,.l] m K)) (Ex.exit 2) (qks v1_0 v1_1)=qpq D n (fun x0 x1=>LQ qc D n 169 [.r,.l,.r,.l] m (qdw x0 x1) K) (fun v0_0 v0_1=>K (Ex.ret) (qes v0_0 v0_1)) (fun v1_0=>K (Ex.exit 0) (qep v1_0)) v1_0 v1_1:=by kernel_rfl
theorem q9j (D:DX)(n:Nat) (m:Nat) (K:Ex→St→Option (Out ctx 169)) (x1_0:Int) (x1_1:Int) (x1_2:tSch) (x1_3:ByteArray×List Int×Bool×Unit) :
 LQ qc D n 169 [.r,.l,.r,.l,.l,.r,.l,.l,.r,.r,.r,.l] n (qhj x1_0 x1_1 x1_2 x1_3) (CQ qc D n 169 [.r,.l,.r,.l,.l] [.r,.l,.l,.r,.r,.r,.l] (LK qc D n 169 [.r,.l,.r,.l] m K))=qrc D n (fun x0 x1=>LQ qc D n 169 [.r,.l,.r,.l] m (qdw x0 x1) K) (fun v0_0 v0_1=>K (Ex.ret) (qes v0_0 v0_1)) (fun v1_0=>K (Ex.exit 0) (qep v1_0)) x1_0 x1_1 x1_2 x1_3:=by
 rw[qyq]
 simp only[q9b,q9y]
 rfl
theorem qba1 (D:DX)(n:Nat) (m:Nat) (K:Ex→St→Option (Out ctx 169)) (x0:Int) (x1:tSch) :
 LQ qc D n 169 [.r,.l,.r,.l] (m+1) (qdw x0 x1) K=qsy D n (fun x0 x1=>LQ qc D n 169 [.r,.l,.r,.l] m (qdw x0 x1) K) (fun v0_0 v0_1=>K (Ex.ret) (qes v0_0 v0_1)) (fun v1_0=>K (Ex.exit 0) (qep v1_0)) (fun x1_0 x1_1 x1_2 x1_3=>LQ qc D n 169 [.r,.l,.r,.l,.l,.r,.l,.l,.r,.r,.r,.l] n (qhj x1_0 x1_1 x1_2 x1_3) (CQ qc D n 169 [.r,.l,.r,.l,.l] [.r,.l,.l,.r,.r,.r,.l] (LK qc D n 169 [.r,.l,.r,.l] m K))) x0 x1:=by kernel_rfl
theorem qyo (D:DX)(n:Nat) (K:Ex→St→Option (Out ctx 169)):∀ (m:Nat) (x0:Int) (x1:tSch),LQ qc D n 169 [.r,.l,.r,.l] m (qdw x0 x1) K=qek D n (fun v0_0 v0_1=>K (Ex.ret) (qes v0_0 v0_1)) (fun v1_0=>K (Ex.exit 0) (qep v1_0)) m x0 x1
 | 0,x0,x1=>qw ..
 | m+1,x0,x1=>by
  have ih:(fun x0 x1=>LQ qc D n 169 [.r,.l,.r,.l] m (qdw x0 x1) K)=qek D n (fun v0_0 v0_1=>K (Ex.ret) (qes v0_0 v0_1)) (fun v1_0=>K (Ex.exit 0) (qep v1_0)) m:=by funext x0 x1;exact qyo D n K m x0 x1
  rw[qba1]
  simp only[q9j]
  rw[ih];rfl
theorem q9w (D:DX)(n:Nat) (v0_0:Bool) (v0_1:tSch) :
 (CQ qc D n 169 [] [.r,.l,.r,.l] (qi qc 169)) (Ex.ret) (qes v0_0 v0_1)=qpx D n v0_0 v0_1:=by kernel_rfl
theorem q9o (D:DX)(n:Nat) (v1_0:tSch) :
 (CQ qc D n 169 [] [.r,.l,.r,.l] (qi qc 169)) (Ex.exit 0) (qep v1_0)=qp6 D n v1_0:=by kernel_rfl
theorem q88 (D:DX)(n:Nat) (x0:Int) (x1:tSch) :
 LQ qc D n 169 [.r,.l,.r,.l] n (qdw x0 x1) (CQ qc D n 169 [] [.r,.l,.r,.l] (qi qc 169))=qre D n x0 x1:=by
 rw[qyo]
 simp only[q9w,q9o]
 rfl
theorem qbee (D:DX)(n:Nat) (a0:tSch):rfC qc D n 169 (a0,())=qt2 D n a0:=by
 have h:rfC qc D n 169 (a0,())=qun D n (fun x0 x1=>LQ qc D n 169 [.r,.l,.r,.l] n (qdw x0 x1) (CQ qc D n 169 [] [.r,.l,.r,.l] (qi qc 169))) a0:=by kernel_rfl
 rw[h]
 simp only[q88]
 rfl

def qbac (D:DX)(n:Nat) (a0:List Int×Int×Int×Unit):Option ((Int×Unit)×tCur×Unit):=br (decide (Prod.fst (Prod.snd a0)<(↑(List.length (Prod.fst a0)):Int))) (br (decide (0≤Prod.fst (Prod.snd a0))&&decide (Prod.fst (Prod.snd a0)<(↑(List.length (Prod.fst a0)):Int))) (some ((IntKind.wrap IntKind.i64 (↑(BitVec.toNat (BitVec.and (BitVec.ofInt (IntKind.bits IntKind.i64) (IntKind.wrap IntKind.i64 (IntKind.wrap IntKind.i64 (↑(BitVec.toNat (BitVec.and (BitVec.ofInt (IntKind.bits IntKind.i64) (IntKind.wrap IntKind.i64 (↑(BitVec.toNat (BitVec.xor (BitVec.ofInt (IntKind.bits IntKind.i64) (Int.fdiv (IntKind.wrap IntKind.i64 (IntKind.wrap IntKind.i64 (Prod.fst (Prod.snd (Prod.snd a0)) * 6364136223846793005)+1442695040888963407)) (Int.pow 2 (if Int.toNat 33≤IntKind.bits IntKind.i64 then Int.toNat 33 else IntKind.bits IntKind.i64)))) (BitVec.ofInt (IntKind.bits IntKind.i64) (Int.fdiv (IntKind.wrap IntKind.i64 (IntKind.wrap IntKind.i64 (Prod.fst (Prod.snd (Prod.snd a0)) * 6364136223846793005)+1442695040888963407)) (Int.pow 2 (if Int.toNat 45≤IntKind.bits IntKind.i64 then Int.toNat 45 else IntKind.bits IntKind.i64)))))):Int))) (BitVec.ofInt (IntKind.bits IntKind.i64) 255))):Int)+IntKind.wrap IntKind.i64 (List.getD (Prod.fst a0) (Int.toNat (Prod.fst (Prod.snd a0))) 0)))) (BitVec.ofInt (IntKind.bits IntKind.i64) 255))):Int),()),(Prod.fst a0,IntKind.wrap IntKind.i64 (Prod.fst (Prod.snd a0)+1),IntKind.wrap IntKind.i64 (IntKind.wrap IntKind.i64 (Prod.fst (Prod.snd (Prod.snd a0)) * 6364136223846793005)+1442695040888963407),Prod.snd (Prod.snd (Prod.snd a0))),())) none) (some ((IntKind.wrap IntKind.i64 (↑(BitVec.toNat (BitVec.and (BitVec.ofInt (IntKind.bits IntKind.i64) (IntKind.wrap IntKind.i64 (↑(BitVec.toNat (BitVec.xor (BitVec.ofInt (IntKind.bits IntKind.i64) (Int.fdiv (IntKind.wrap IntKind.i64 (IntKind.wrap IntKind.i64 (Prod.fst (Prod.snd (Prod.snd a0)) * 6364136223846793005)+1442695040888963407)) (Int.pow 2 (if Int.toNat 33≤IntKind.bits IntKind.i64 then Int.toNat 33 else IntKind.bits IntKind.i64)))) (BitVec.ofInt (IntKind.bits IntKind.i64) (Int.fdiv (IntKind.wrap IntKind.i64 (IntKind.wrap IntKind.i64 (Prod.fst (Prod.snd (Prod.snd a0)) * 6364136223846793005)+1442695040888963407)) (Int.pow 2 (if Int.toNat 45≤IntKind.bits IntKind.i64 then Int.toNat 45 else IntKind.bits IntKind.i64)))))):Int))) (BitVec.ofInt (IntKind.bits IntKind.i64) 255))):Int),()),(Prod.fst a0,Prod.fst (Prod.snd a0),IntKind.wrap IntKind.i64 (IntKind.wrap IntKind.i64 (Prod.fst (Prod.snd (Prod.snd a0)) * 6364136223846793005)+1442695040888963407),Prod.snd (Prod.snd (Prod.snd a0))),()))
def q1y (D:DX)(n:Nat) (a0:List Int×Int×Int×Unit):Option ((Int×Unit)×tCur×Unit):=qbac D n a0
theorem qbmw (D:DX)(n:Nat) (a0:List Int×Int×Int×Unit):rfC qc D n 170 (a0,())=q1y D n a0:=by kernel_rfl

def q3g (D:DX)(n:Nat) (a0:List Int×Int×Int×Unit):Option ((ByteArray×Unit)×tCur×Unit):=qh (qqb D a0 (List.set (List.set (List.set (List.set (List.set (List.set (List.set (List.set (List.set (List.set (List.set (List.set (List.replicate 12 ByteArray.empty) 0 (ByteArray.mk #[])) 1 (ByteArray.mk #[UInt8.ofNat 97])) 2 (ByteArray.mk #[UInt8.ofNat 98])) 3 (ByteArray.mk #[UInt8.ofNat 99])) 4 (ByteArray.mk #[UInt8.ofNat 100])) 5 (ByteArray.mk #[UInt8.ofNat 101])) 6 (ByteArray.mk #[UInt8.ofNat 102])) 7 (ByteArray.mk #[UInt8.ofNat 103])) 8 (ByteArray.mk #[UInt8.ofNat 97,UInt8.ofNat 97])) 9 (ByteArray.mk #[UInt8.ofNat 97,UInt8.ofNat 98])) 10 (ByteArray.mk #[UInt8.ofNat 98,UInt8.ofNat 97])) 11 (ByteArray.mk #[UInt8.ofNat 0]))) fun b↦some ((Prod.fst (Prod.fst b),()),Prod.fst (Prod.snd b),())
def qt0 (D:DX)(n:Nat) (a0:List Int×Int×Int×Unit):Option ((ByteArray×Unit)×tCur×Unit):=q3g D n a0
theorem qbes (D:DX)(n:Nat) (a0:List Int×Int×Int×Unit):rfC qc D n 171 (a0,())=qt0 D n a0:=by kernel_rfl

def qxg (D:DX)(n:Nat) (go:qd→Int→Option ((Bool×Unit)×Unit)) (K0:qd→Bool→Option ((Bool×Unit)×Unit)) (K1:qd→Option ((Bool×Unit)×Unit)) (x0:qd) (x1:Int):Option ((Bool×Unit)×Unit):=br (decide (x1<(↑(List.length x0):Int))) (br (decide (0≤x1)&&decide (x1<(↑(List.length x0):Int))) (qh (qti D (List.getD x0 (Int.toNat x1) (0,0,ByteArray.empty,()))) fun b↦br (!Prod.fst (Prod.fst b)) (K0 x0 false) (go x0 (IntKind.wrap IntKind.i64 (x1+1)))) none) (K1 x0)
def qkb (D:DX)(n:Nat) (K0:qd→Bool→Option ((Bool×Unit)×Unit)) (K1:qd→Option ((Bool×Unit)×Unit)):Nat→(qd)→(Int)→Option ((Bool×Unit)×Unit) | 0=>(fun x0 x1=>none) | m+1=>(fun x0 x1=>qxg D n (qkb D n K0 K1 m) K0 K1 x0 x1)
def q26 (D:DX)(n:Nat) (v0_0:qd) (v0_1:Bool):Option ((Bool×Unit)×Unit):=some ((v0_1,()),())
def q3h (D:DX)(n:Nat) (v1_0:qd):Option ((Bool×Unit)×Unit):=some ((decide ((↑(List.length v1_0):Int)≤4),()),())
def qvc (D:DX)(n:Nat):(qd)→(Int)→Option ((Bool×Unit)×Unit):=(fun x0 x1=>qkb D n (fun v0_0 v0_1=>q26 D n v0_0 v0_1) (fun v1_0=>q3h D n v1_0) n x0 x1)
def qy3 (D:DX)(n:Nat) (lp0:qd→Int→Option ((Bool×Unit)×Unit)) (a0:qd):Option ((Bool×Unit)×Unit):=lp0 a0 0
def qzn (D:DX)(n:Nat) (a0:qd):Option ((Bool×Unit)×Unit):=qy3 D n (qvc D n) a0
def qj5 (x0:qd) (x1:Int):St:=stq 19 [(0,AV.val (Ty.sl yV) x0),(3,avI x1)] [] 
def qog (v0_0:qd) (v0_1:Bool):St:=stq 19 [(0,AV.val (Ty.sl yV) v0_0),(2,AV.val Ty.bool v0_1)] [] 
def qoc (v1_0:qd):St:=stq 19 [(0,AV.val (Ty.sl yV) v1_0)] [] 
theorem qbgs (D:DX)(n:Nat) (m:Nat) (K:Ex→St→Option (Out ctx 172)) (x0:qd) (x1:Int) :
 LQ qc D n 172 [.r,.l,.r,.l] (m+1) (qj5 x0 x1) K=qxg D n (fun x0 x1=>LQ qc D n 172 [.r,.l,.r,.l] m (qj5 x0 x1) K) (fun v0_0 v0_1=>K (Ex.ret) (qog v0_0 v0_1)) (fun v1_0=>K (Ex.exit 0) (qoc v1_0)) x0 x1:=by kernel_rfl
theorem q4j (D:DX)(n:Nat) (K:Ex→St→Option (Out ctx 172)):∀ (m:Nat) (x0:qd) (x1:Int),LQ qc D n 172 [.r,.l,.r,.l] m (qj5 x0 x1) K=qkb D n (fun v0_0 v0_1=>K (Ex.ret) (qog v0_0 v0_1)) (fun v1_0=>K (Ex.exit 0) (qoc v1_0)) m x0 x1
 | 0,x0,x1=>qw ..
 | m+1,x0,x1=>by
  have ih:(fun x0 x1=>LQ qc D n 172 [.r,.l,.r,.l] m (qj5 x0 x1) K)=qkb D n (fun v0_0 v0_1=>K (Ex.ret) (qog v0_0 v0_1)) (fun v1_0=>K (Ex.exit 0) (qoc v1_0)) m:=by funext x0 x1;exact q4j D n K m x0 x1
  rw[qbgs]
  rw[ih];rfl
theorem qbd5 (D:DX)(n:Nat) (v0_0:qd) (v0_1:Bool) :
 (CQ qc D n 172 [] [.r,.l,.r,.l] (qi qc 172)) (Ex.ret) (qog v0_0 v0_1)=q26 D n v0_0 v0_1:=by kernel_rfl
theorem qbd8 (D:DX)(n:Nat) (v1_0:qd) :
 (CQ qc D n 172 [] [.r,.l,.r,.l] (qi qc 172)) (Ex.exit 0) (qoc v1_0)=q3h D n v1_0:=by kernel_rfl
theorem qbdq (D:DX)(n:Nat) (x0:qd) (x1:Int) :
 LQ qc D n 172 [.r,.l,.r,.l] n (qj5 x0 x1) (CQ qc D n 172 [] [.r,.l,.r,.l] (qi qc 172))=qvc D n x0 x1:=by
 rw[q4j]
 simp only[qbd5,qbd8]
 rfl
theorem qbjx (D:DX)(n:Nat) (a0:qd):rfC qc D n 172 (a0,())=qzn D n a0:=by
 have h:rfC qc D n 172 (a0,())=qy3 D n (fun x0 x1=>LQ qc D n 172 [.r,.l,.r,.l] n (qj5 x0 x1) (CQ qc D n 172 [] [.r,.l,.r,.l] (qi qc 172))) a0:=by kernel_rfl
 rw[h]
 simp only[qbdq]
 rfl

def qo4 (D:DX)(n:Nat) (go:Int→Int→List Int→Option ((List Int×Unit)×Unit)) (K0:List Int→Option ((List Int×Unit)×Unit)) (x0:Int) (x1:Int) (x2:List Int):Option ((List Int×Unit)×Unit):=br (decide (x1≥0)) (br (decide (x1<0)) none (br (decide (List.length x2+1≤q0)) (go x0 (IntKind.wrap IntKind.i64 (x1 - 8)) (x2++[IntKind.wrap IntKind.u8 (IntKind.wrap IntKind.i64 (↑(BitVec.toNat (BitVec.and (BitVec.ofInt (IntKind.bits IntKind.i64) (Int.fdiv x0 (Int.pow 2 (if Int.toNat x1≤IntKind.bits IntKind.i64 then Int.toNat x1 else IntKind.bits IntKind.i64)))) (BitVec.ofInt (IntKind.bits IntKind.i64) 255))):Int))])) none)) (K0 x2)
def qhb (D:DX)(n:Nat) (K0:List Int→Option ((List Int×Unit)×Unit)):Nat→(Int)→(Int)→(List Int)→Option ((List Int×Unit)×Unit) | 0=>(fun x0 x1 x2=>none) | m+1=>(fun x0 x1 x2=>qo4 D n (qhb D n K0 m) K0 x0 x1 x2)
def q1k (D:DX)(n:Nat) (v0_0:List Int):Option ((List Int×Unit)×Unit):=some ((v0_0,()),())
def quq (D:DX)(n:Nat):(Int)→(Int)→(List Int)→Option ((List Int×Unit)×Unit):=(fun x0 x1 x2=>qhb D n (fun v0_0=>q1k D n v0_0) n x0 x1 x2)
def qv0 (D:DX)(n:Nat) (go:Int→Int×Int×ByteArray×Unit→List Int→Option ((List Int×Unit)×Unit)) (K0:List Int→Option ((List Int×Unit)×Unit)) (x1_0:Int) (x1_1:Int×Int×ByteArray×Unit) (x1_2:List Int):Option ((List Int×Unit)×Unit):=br (decide (x1_0<(↑(ByteArray.size (Prod.fst (Prod.snd (Prod.snd x1_1)))):Int))) (br (decide (0≤x1_0)&&decide (x1_0<(↑(ByteArray.size (Prod.fst (Prod.snd (Prod.snd x1_1)))):Int))) (br (decide (List.length x1_2+1≤q0)) (br (decide (0≤x1_0)&&decide (x1_0<(↑(ByteArray.size (Prod.fst (Prod.snd (Prod.snd x1_1)))):Int))) (br (decide ((↑(UInt8.toNat (Array.getD (ByteArray.data (Prod.fst (Prod.snd (Prod.snd x1_1)))) (Int.toNat x1_0) (UInt8.ofNat 0))):Int)=0)) (br (decide (List.length (x1_2++[(↑(UInt8.toNat (Array.getD (ByteArray.data (Prod.fst (Prod.snd (Prod.snd x1_1)))) (Int.toNat x1_0) (UInt8.ofNat 0))):Int)])+1≤q0)) (go (IntKind.wrap IntKind.i64 (x1_0+1)) x1_1 (x1_2++[(↑(UInt8.toNat (Array.getD (ByteArray.data (Prod.fst (Prod.snd (Prod.snd x1_1)))) (Int.toNat x1_0) (UInt8.ofNat 0))):Int)]++[255])) none) (go (IntKind.wrap IntKind.i64 (x1_0+1)) x1_1 (x1_2++[(↑(UInt8.toNat (Array.getD (ByteArray.data (Prod.fst (Prod.snd (Prod.snd x1_1)))) (Int.toNat x1_0) (UInt8.ofNat 0))):Int)]))) none) none) none) (K0 x1_2)
def qix (D:DX)(n:Nat) (K0:List Int→Option ((List Int×Unit)×Unit)):Nat→(Int)→tVal→(List Int)→Option ((List Int×Unit)×Unit) | 0=>(fun x1_0 x1_1 x1_2=>none) | m+1=>(fun x1_0 x1_1 x1_2=>qv0 D n (qix D n K0 m) K0 x1_0 x1_1 x1_2)
def qsk (D:DX)(n:Nat) (v0_0:List Int):Option ((List Int×Unit)×Unit):=br (decide (List.length v0_0+2≤q0)) (some ((v0_0++[0,1],()),())) none
def qui (D:DX)(n:Nat):(Int)→tVal→(List Int)→Option ((List Int×Unit)×Unit):=(fun x1_0 x1_1 x1_2=>qix D n (fun v0_0=>qsk D n v0_0) n x1_0 x1_1 x1_2)
def qxu (D:DX)(n:Nat) (lp0:Int→Int→List Int→Option ((List Int×Unit)×Unit)) (lp1:Int→Int×Int×ByteArray×Unit→List Int→Option ((List Int×Unit)×Unit)) (a0:Int×Int×ByteArray×Unit):Option ((List Int×Unit)×Unit):=br (decide (Prod.fst a0=1)) (some (([IntKind.wrap IntKind.u8 (IntKind.wrap IntKind.i64 (Prod.fst a0+1))]++[IntKind.wrap IntKind.u8 (Prod.fst (Prod.snd a0))],()),())) (br (decide (Prod.fst a0=2)) (lp0 (IntKind.wrap IntKind.i64 (Prod.fst (Prod.snd a0)+4611686018427387904)) 56 [IntKind.wrap IntKind.u8 (IntKind.wrap IntKind.i64 (Prod.fst a0+1))]) (br (decide (Prod.fst a0=3)) (lp1 0 a0 [IntKind.wrap IntKind.u8 (IntKind.wrap IntKind.i64 (Prod.fst a0+1))]) (some (([IntKind.wrap IntKind.u8 (IntKind.wrap IntKind.i64 (Prod.fst a0+1))],()),()))))
def qx5 (D:DX)(n:Nat) (a0:Int×Int×ByteArray×Unit):Option ((List Int×Unit)×Unit):=qxu D n (quq D n) (qui D n) a0
def qit (x0:Int) (x1:Int) (x2:List Int):St:=stq 67 [(3,AV.brw 3 [] 0),(4,avI x0),(5,avI x1)] [(3,Root.mk (Ty.sl (Ty.int IntKind.u8)) (Mk.own 0 Mk.no) x2 false)] 
def qms (v0_0:List Int):St:=stq 67 [(3,AV.brw 3 [] 0)] [(3,Root.mk (Ty.sl (Ty.int IntKind.u8)) (Mk.own 0 Mk.no) v0_0 false)] 
def qjb (x1_0:Int) (x1_1:Int×Int×ByteArray×Unit) (x1_2:List Int):St:=stq 67 [(1,AV.addr 1 []),(3,AV.brw 3 [] 0),(6,avI x1_0)] [(1,Root.mk yV Mk.no x1_1 true),(3,Root.mk (Ty.sl (Ty.int IntKind.u8)) (Mk.own 0 Mk.no) x1_2 false)] 
def qmu (v0_0:List Int):St:=stq 67 [(3,AV.brw 3 [] 0)] [(3,Root.mk (Ty.sl (Ty.int IntKind.u8)) (Mk.own 0 Mk.no) v0_0 false)] 
theorem qbdr (D:DX)(n:Nat) (m:Nat) (K:Ex→St→Option (Out ctx 173)) (x0:Int) (x1:Int) (x2:List Int) :
 LQ qc D n 173 [.r,.r,.l,.r,.l,.r,.r,.r,.l,.r,.r,.l] (m+1) (qit x0 x1 x2) K=qo4 D n (fun x0 x1 x2=>LQ qc D n 173 [.r,.r,.l,.r,.l,.r,.r,.r,.l,.r,.r,.l] m (qit x0 x1 x2) K) (fun v0_0=>K (Ex.exit 1) (qms v0_0)) x0 x1 x2:=by kernel_rfl
theorem q3f (D:DX)(n:Nat) (K:Ex→St→Option (Out ctx 173)):∀ (m:Nat) (x0:Int) (x1:Int) (x2:List Int),LQ qc D n 173 [.r,.r,.l,.r,.l,.r,.r,.r,.l,.r,.r,.l] m (qit x0 x1 x2) K=qhb D n (fun v0_0=>K (Ex.exit 1) (qms v0_0)) m x0 x1 x2
 | 0,x0,x1,x2=>qw ..
 | m+1,x0,x1,x2=>by
  have ih:(fun x0 x1 x2=>LQ qc D n 173 [.r,.r,.l,.r,.l,.r,.r,.r,.l,.r,.r,.l] m (qit x0 x1 x2) K)=qhb D n (fun v0_0=>K (Ex.exit 1) (qms v0_0)) m:=by funext x0 x1 x2;exact q3f D n K m x0 x1 x2
  rw[qbdr]
  rw[ih];rfl
theorem qbb0 (D:DX)(n:Nat) (v0_0:List Int) :
 (CQ qc D n 173 [] [.r,.r,.l,.r,.l,.r,.r,.r,.l,.r,.r,.l] (qi qc 173)) (Ex.exit 1) (qms v0_0)=q1k D n v0_0:=by kernel_rfl
theorem qbcm (D:DX)(n:Nat) (x0:Int) (x1:Int) (x2:List Int) :
 LQ qc D n 173 [.r,.r,.l,.r,.l,.r,.r,.r,.l,.r,.r,.l] n (qit x0 x1 x2) (CQ qc D n 173 [] [.r,.r,.l,.r,.l,.r,.r,.r,.l,.r,.r,.l] (qi qc 173))=quq D n x0 x1 x2:=by
 rw[q3f]
 simp only[qbb0]
 rfl
theorem qbem (D:DX)(n:Nat) (m:Nat) (K:Ex→St→Option (Out ctx 173)) (x1_0:Int) (x1_1:Int×Int×ByteArray×Unit) (x1_2:List Int) :
 LQ qc D n 173 [.r,.r,.l,.r,.l,.r,.r,.r,.r,.r,.l,.l,.r,.l] (m+1) (qjb x1_0 x1_1 x1_2) K=qv0 D n (fun x1_0 x1_1 x1_2=>LQ qc D n 173 [.r,.r,.l,.r,.l,.r,.r,.r,.r,.r,.l,.l,.r,.l] m (qjb x1_0 x1_1 x1_2) K) (fun v0_0=>K (Ex.exit 3) (qmu v0_0)) x1_0 x1_1 x1_2:=by kernel_rfl
theorem q3e (D:DX)(n:Nat) (K:Ex→St→Option (Out ctx 173)):∀ (m:Nat) (x1_0:Int) (x1_1:Int×Int×ByteArray×Unit) (x1_2:List Int),LQ qc D n 173 [.r,.r,.l,.r,.l,.r,.r,.r,.r,.r,.l,.l,.r,.l] m (qjb x1_0 x1_1 x1_2) K=qix D n (fun v0_0=>K (Ex.exit 3) (qmu v0_0)) m x1_0 x1_1 x1_2
 | 0,x1_0,x1_1,x1_2=>qw ..
 | m+1,x1_0,x1_1,x1_2=>by
  have ih:(fun x1_0 x1_1 x1_2=>LQ qc D n 173 [.r,.r,.l,.r,.l,.r,.r,.r,.r,.r,.l,.l,.r,.l] m (qjb x1_0 x1_1 x1_2) K)=qix D n (fun v0_0=>K (Ex.exit 3) (qmu v0_0)) m:=by funext x1_0 x1_1 x1_2;exact q3e D n K m x1_0 x1_1 x1_2
  rw[qbem]
  rw[ih];rfl
theorem qbcf (D:DX)(n:Nat) (v0_0:List Int) :
 (CQ qc D n 173 [] [.r,.r,.l,.r,.l,.r,.r,.r,.r,.r,.l,.l,.r,.l] (qi qc 173)) (Ex.exit 3) (qmu v0_0)=qsk D n v0_0:=by kernel_rfl
theorem qbcp (D:DX)(n:Nat) (x1_0:Int) (x1_1:Int×Int×ByteArray×Unit) (x1_2:List Int) :
 LQ qc D n 173 [.r,.r,.l,.r,.l,.r,.r,.r,.r,.r,.l,.l,.r,.l] n (qjb x1_0 x1_1 x1_2) (CQ qc D n 173 [] [.r,.r,.l,.r,.l,.r,.r,.r,.r,.r,.l,.l,.r,.l] (qi qc 173))=qui D n x1_0 x1_1 x1_2:=by
 rw[q3e]
 simp only[qbcf]
 rfl
theorem qbhm (D:DX)(n:Nat) (a0:Int×Int×ByteArray×Unit):rfC qc D n 173 (a0,())=qx5 D n a0:=by
 have h:rfC qc D n 173 (a0,())=qxu D n (fun x0 x1 x2=>LQ qc D n 173 [.r,.r,.l,.r,.l,.r,.r,.r,.l,.r,.r,.l] n (qit x0 x1 x2) (CQ qc D n 173 [] [.r,.r,.l,.r,.l,.r,.r,.r,.l,.r,.r,.l] (qi qc 173))) (fun x1_0 x1_1 x1_2=>LQ qc D n 173 [.r,.r,.l,.r,.l,.r,.r,.r,.r,.r,.l,.l,.r,.l] n (qjb x1_0 x1_1 x1_2) (CQ qc D n 173 [] [.r,.r,.l,.r,.l,.r,.r,.r,.r,.r,.l,.l,.r,.l] (qi qc 173))) a0:=by kernel_rfl
 rw[h]
 simp only[qbcm,qbcp]
 rfl

















def q4r (D:DX)(n:Nat) (a0:List Int×Int×Int×Unit) (a1:Int):Option ((tVal×Unit)×tCur×Unit):=br (decide (a1=1)) (qh (qbj D a0 2) fun b↦some (((a1,Prod.fst (Prod.fst b),ByteArray.empty,()),()),Prod.fst (Prod.snd b),())) (br (decide (a1=2)) (qh (qll D a0 [0,1,-1,7,255,256,-1000000000000,1000000000000]) fun b↦some (((a1,Prod.fst (Prod.fst b),ByteArray.empty,()),()),Prod.fst (Prod.snd b),())) (br (decide (a1=3)) (qh (qqb D a0 (List.set (List.set (List.set (List.set (List.set (List.set (List.set (List.set (List.set (List.replicate 9 ByteArray.empty) 0 (ByteArray.mk #[])) 1 (ByteArray.mk #[UInt8.ofNat 97])) 2 (ByteArray.mk #[UInt8.ofNat 97,UInt8.ofNat 98])) 3 (ByteArray.mk #[UInt8.ofNat 97,UInt8.ofNat 0])) 4 (ByteArray.mk #[UInt8.ofNat 97,UInt8.ofNat 0,UInt8.ofNat 98])) 5 (ByteArray.mk #[UInt8.ofNat 0])) 6 (ByteArray.mk #[UInt8.ofNat 1])) 7 (ByteArray.mk #[UInt8.ofNat 255])) 8 (ByteArray.mk #[UInt8.ofNat 98]))) fun b↦some (((a1,0,Prod.fst (Prod.fst b),()),()),Prod.fst (Prod.snd b),())) (some (((0,0,ByteArray.empty,()),()),a0,()))))
def qwb (D:DX)(n:Nat) (a0:List Int×Int×Int×Unit) (a1:Int):Option ((tVal×Unit)×tCur×Unit):=q4r D n a0 a1
theorem qbf7 (D:DX)(n:Nat) (a0:List Int×Int×Int×Unit) (a1:Int):rfC qc D n 190 (a0,(a1,()))=qwb D n a0 a1:=by kernel_rfl

def q8l (D:DX)(n:Nat) (a0:qd):Option ((Bool×Unit)×Unit):=br (decide ((↑(List.length a0):Int)≤4)) (qh (qd2 D a0 (Clo.mk 208 [])) fun b↦some ((!Prod.fst (Prod.fst b),()),())) (some ((false,()),()))
def qzc (D:DX)(n:Nat) (a0:qd):Option ((Bool×Unit)×Unit):=q8l D n a0
theorem qbj8 (D:DX)(n:Nat) (a0:qd):rfC qc D n 191 (a0,())=qzc D n a0:=by kernel_rfl

def qeh (D:DX)(n:Nat) (a1:Clo) (go:tIxs→Int→Int→Option ((Int×Unit)×Unit)) (K0:Int→Option ((Int×Unit)×Unit)) (K1:Option ((Int×Unit)×Unit)) (x0:tIxs) (x1:Int) (x2:Int):Option ((Int×Unit)×Unit):=br (decide (x2<x1)) (br (decide (0≤x2)&&decide (x2<(↑(List.length x0):Int))) (qh (qbl ctx D a1 [CapV.val (Ty.pair Ty.str (Ty.pair (Ty.sl (Ty.int IntKind.i64)) (Ty.pair Ty.bool Ty.unit))) (List.getD x0 (Int.toNat x2) (ByteArray.empty,[],false,()))] Ty.bool) fun b↦br b (K0 x2) (go x0 x1 (IntKind.wrap IntKind.i64 (x2+1)))) none) K1
def qbu (D:DX)(n:Nat) (a1:Clo) (K0:Int→Option ((Int×Unit)×Unit)) (K1:Option ((Int×Unit)×Unit)):Nat→(tIxs)→(Int)→(Int)→Option ((Int×Unit)×Unit) | 0=>(fun x0 x1 x2=>none) | m+1=>(fun x0 x1 x2=>qeh D n a1 (qbu D n a1 K0 K1 m) K0 K1 x0 x1 x2)
def qg4 (D:DX)(n:Nat) (a1:Clo) (v0_0:Int):Option ((Int×Unit)×Unit):=some ((v0_0,()),())
def qgz (D:DX)(n:Nat) (a1:Clo):Option ((Int×Unit)×Unit):=some ((-1,()),())
def qec (D:DX)(n:Nat) (a1:Clo):(tIxs)→(Int)→(Int)→Option ((Int×Unit)×Unit):=(fun x0 x1 x2=>qbu D n a1 (fun v0_0=>qg4 D n a1 v0_0) (qgz D n a1) n x0 x1 x2)
def qeo (D:DX)(n:Nat) (a1:Clo) (lp0:tIxs→Int→Int→Option ((Int×Unit)×Unit)) (a0:tIxs):Option ((Int×Unit)×Unit):=lp0 a0 (↑(List.length a0):Int) 0
def qey (D:DX)(n:Nat) (a0:tIxs) (a1:Clo):Option ((Int×Unit)×Unit):=qeo D n a1 (qec D n a1) a0
def qbv (a1:Clo) (x0:tIxs) (x1:Int) (x2:Int):St:=stq 19 [(0,AV.val (Ty.sl yX) x0),(1,AV.cloV a1),(7,avI x1),(8,avI x2)] [] 
def qcz (a1:Clo) (v0_0:Int):St:=stq 19 [(4,avI v0_0)] [] 
def qcw (a1:Clo):St:=stq 19 [] [] 
theorem qop (D:DX)(n:Nat) (a1:Clo) (m:Nat) (K:Ex→St→Option (Out ctx 193)) (x0:tIxs) (x1:Int) (x2:Int) :
 LQ qc D n 193 [.r,.l,.r,.l] (m+1) (qbv a1 x0 x1 x2) K=qeh D n a1 (fun x0 x1 x2=>LQ qc D n 193 [.r,.l,.r,.l] m (qbv a1 x0 x1 x2) K) (fun v0_0=>K (Ex.ret) (qcz a1 v0_0)) (K (Ex.exit 0) (qcw a1)) x0 x1 x2:=by kernel_rfl
theorem qhe (D:DX)(n:Nat) (a1:Clo) (K:Ex→St→Option (Out ctx 193)):∀ (m:Nat) (x0:tIxs) (x1:Int) (x2:Int),LQ qc D n 193 [.r,.l,.r,.l] m (qbv a1 x0 x1 x2) K=qbu D n a1 (fun v0_0=>K (Ex.ret) (qcz a1 v0_0)) (K (Ex.exit 0) (qcw a1)) m x0 x1 x2
 | 0,x0,x1,x2=>qw ..
 | m+1,x0,x1,x2=>by
  have ih:(fun x0 x1 x2=>LQ qc D n 193 [.r,.l,.r,.l] m (qbv a1 x0 x1 x2) K)=qbu D n a1 (fun v0_0=>K (Ex.ret) (qcz a1 v0_0)) (K (Ex.exit 0) (qcw a1)) m:=by funext x0 x1 x2;exact qhe D n a1 K m x0 x1 x2
  rw[qop]
  rw[ih];rfl
theorem qn1 (D:DX)(n:Nat) (a1:Clo) (v0_0:Int) :
 (CQ qc D n 193 [] [.r,.l,.r,.l] (qi qc 193)) (Ex.ret) (qcz a1 v0_0)=qg4 D n a1 v0_0:=by kernel_rfl
theorem qn6 (D:DX)(n:Nat) (a1:Clo) :
 (CQ qc D n 193 [] [.r,.l,.r,.l] (qi qc 193)) (Ex.exit 0) (qcw a1)=qgz D n a1:=by kernel_rfl
theorem qnx (D:DX)(n:Nat) (a1:Clo) (x0:tIxs) (x1:Int) (x2:Int) :
 LQ qc D n 193 [.r,.l,.r,.l] n (qbv a1 x0 x1 x2) (CQ qc D n 193 [] [.r,.l,.r,.l] (qi qc 193))=qec D n a1 x0 x1 x2:=by
 rw[qhe]
 simp only[qn1,qn6]
 rfl
theorem qo3 (D:DX)(n:Nat) (a0:tIxs) (a1:Clo):rfC qc D n 193 (a0,(a1,()))=qey D n a0 a1:=by
 have h:rfC qc D n 193 (a0,(a1,()))=qeo D n a1 (fun x0 x1 x2=>LQ qc D n 193 [.r,.l,.r,.l] n (qbv a1 x0 x1 x2) (CQ qc D n 193 [] [.r,.l,.r,.l] (qi qc 193))) a0:=by kernel_rfl
 rw[h]
 simp only[qnx]
 rfl

def qfi (D:DX)(n:Nat) (go:qd→Int→Int→Int×Int×ByteArray×Unit→Option ((Int×Unit)×Unit)) (K0:Int→Option ((Int×Unit)×Unit)) (K1:Option ((Int×Unit)×Unit)) (x0:qd) (x1:Int) (x2:Int) (x3:Int×Int×ByteArray×Unit):Option ((Int×Unit)×Unit):=br (decide (x2<x1)) (br (decide (0≤x2)&&decide (x2<(↑(List.length x0):Int))) (br (qgg (Ty.pair (Ty.int IntKind.i64) (Ty.pair (Ty.int IntKind.i64) (Ty.pair Ty.str Ty.unit))) x3 (List.getD x0 (Int.toNat x2) (0,0,ByteArray.empty,()))) (K0 x2) (go x0 x1 (IntKind.wrap IntKind.i64 (x2+1)) x3)) none) K1
def qcd (D:DX)(n:Nat) (K0:Int→Option ((Int×Unit)×Unit)) (K1:Option ((Int×Unit)×Unit)):Nat→(qd)→(Int)→(Int)→tVal→Option ((Int×Unit)×Unit) | 0=>(fun x0 x1 x2 x3=>none) | m+1=>(fun x0 x1 x2 x3=>qfi D n (qcd D n K0 K1 m) K0 K1 x0 x1 x2 x3)
def qic (D:DX)(n:Nat) (v0_0:Int):Option ((Int×Unit)×Unit):=some ((v0_0,()),())
def qia (D:DX)(n:Nat):Option ((Int×Unit)×Unit):=some ((-1,()),())
def qe9 (D:DX)(n:Nat):(qd)→(Int)→(Int)→tVal→Option ((Int×Unit)×Unit):=(fun x0 x1 x2 x3=>qcd D n (fun v0_0=>qic D n v0_0) (qia D n) n x0 x1 x2 x3)
def qfv (D:DX)(n:Nat) (lp0:qd→Int→Int→Int×Int×ByteArray×Unit→Option ((Int×Unit)×Unit)) (a0:qd) (a1:Int×Int×ByteArray×Unit):Option ((Int×Unit)×Unit):=lp0 a0 (↑(List.length a0):Int) 0 a1
def qfs (D:DX)(n:Nat) (a0:qd) (a1:Int×Int×ByteArray×Unit):Option ((Int×Unit)×Unit):=qfv D n (qe9 D n) a0 a1
def qcb (x0:qd) (x1:Int) (x2:Int) (x3:Int×Int×ByteArray×Unit):St:=stq 19 [(0,AV.val (Ty.sl yV) x0),(3,AV.addr 3 []),(7,avI x1),(8,avI x2)] [(3,Root.mk yV Mk.no x3 true)] 
def qde (v0_0:Int):St:=stq 19 [(4,avI v0_0)] [] 
def qdj:St:=stq 19 [] [] 
theorem qrk (D:DX)(n:Nat) (m:Nat) (K:Ex→St→Option (Out ctx 194)) (x0:qd) (x1:Int) (x2:Int) (x3:Int×Int×ByteArray×Unit) :
 LQ qc D n 194 [.r,.l,.r,.l] (m+1) (qcb x0 x1 x2 x3) K=qfi D n (fun x0 x1 x2 x3=>LQ qc D n 194 [.r,.l,.r,.l] m (qcb x0 x1 x2 x3) K) (fun v0_0=>K (Ex.ret) (qde v0_0)) (K (Ex.exit 0) (qdj)) x0 x1 x2 x3:=by kernel_rfl
theorem qis (D:DX)(n:Nat) (K:Ex→St→Option (Out ctx 194)):∀ (m:Nat) (x0:qd) (x1:Int) (x2:Int) (x3:Int×Int×ByteArray×Unit),LQ qc D n 194 [.r,.l,.r,.l] m (qcb x0 x1 x2 x3) K=qcd D n (fun v0_0=>K (Ex.ret) (qde v0_0)) (K (Ex.exit 0) (qdj)) m x0 x1 x2 x3
 | 0,x0,x1,x2,x3=>qw ..
 | m+1,x0,x1,x2,x3=>by
  have ih:(fun x0 x1 x2 x3=>LQ qc D n 194 [.r,.l,.r,.l] m (qcb x0 x1 x2 x3) K)=qcd D n (fun v0_0=>K (Ex.ret) (qde v0_0)) (K (Ex.exit 0) (qdj)) m:=by funext x0 x1 x2 x3;exact qis D n K m x0 x1 x2 x3
  rw[qrk]
  rw[ih];rfl
theorem qqi (D:DX)(n:Nat) (v0_0:Int) :
 (CQ qc D n 194 [] [.r,.l,.r,.l] (qi qc 194)) (Ex.ret) (qde v0_0)=qic D n v0_0:=by kernel_rfl
theorem qqc (D:DX)(n:Nat) :
 (CQ qc D n 194 [] [.r,.l,.r,.l] (qi qc 194)) (Ex.exit 0) (qdj)=qia D n:=by kernel_rfl
theorem qqn (D:DX)(n:Nat) (x0:qd) (x1:Int) (x2:Int) (x3:Int×Int×ByteArray×Unit) :
 LQ qc D n 194 [.r,.l,.r,.l] n (qcb x0 x1 x2 x3) (CQ qc D n 194 [] [.r,.l,.r,.l] (qi qc 194))=qe9 D n x0 x1 x2 x3:=by
 rw[qis]
 simp only[qqi,qqc]
 rfl
theorem qse (D:DX)(n:Nat) (a0:qd) (a1:Int×Int×ByteArray×Unit):rfC qc D n 194 (a0,(a1,()))=qfs D n a0 a1:=by
 have h:rfC qc D n 194 (a0,(a1,()))=qfv D n (fun x0 x1 x2 x3=>LQ qc D n 194 [.r,.l,.r,.l] n (qcb x0 x1 x2 x3) (CQ qc D n 194 [] [.r,.l,.r,.l] (qi qc 194))) a0 a1:=by kernel_rfl
 rw[h]
 simp only[qqn]
 rfl

def qfh (D:DX)(n:Nat) (a1:Clo) (go:qhq→Int→Int→Option ((Int×Unit)×Unit)) (K0:Int→Option ((Int×Unit)×Unit)) (K1:Option ((Int×Unit)×Unit)) (x0:qhq) (x1:Int) (x2:Int):Option ((Int×Unit)×Unit):=br (decide (x2<x1)) (br (decide (0≤x2)&&decide (x2<(↑(List.length x0):Int))) (qh (qbl ctx D a1 [CapV.val (Ty.pair Ty.str (Ty.pair (Ty.int IntKind.i64) (Ty.pair Ty.bool Ty.unit))) (List.getD x0 (Int.toNat x2) (ByteArray.empty,0,false,()))] Ty.bool) fun b↦br b (K0 x2) (go x0 x1 (IntKind.wrap IntKind.i64 (x2+1)))) none) K1
def qce (D:DX)(n:Nat) (a1:Clo) (K0:Int→Option ((Int×Unit)×Unit)) (K1:Option ((Int×Unit)×Unit)):Nat→(qhq)→(Int)→(Int)→Option ((Int×Unit)×Unit) | 0=>(fun x0 x1 x2=>none) | m+1=>(fun x0 x1 x2=>qfh D n a1 (qce D n a1 K0 K1 m) K0 K1 x0 x1 x2)
def qif (D:DX)(n:Nat) (a1:Clo) (v0_0:Int):Option ((Int×Unit)×Unit):=some ((v0_0,()),())
def qib (D:DX)(n:Nat) (a1:Clo):Option ((Int×Unit)×Unit):=some ((-1,()),())
def qe7 (D:DX)(n:Nat) (a1:Clo):(qhq)→(Int)→(Int)→Option ((Int×Unit)×Unit):=(fun x0 x1 x2=>qce D n a1 (fun v0_0=>qif D n a1 v0_0) (qib D n a1) n x0 x1 x2)
def qfy (D:DX)(n:Nat) (a1:Clo) (lp0:qhq→Int→Int→Option ((Int×Unit)×Unit)) (a0:qhq):Option ((Int×Unit)×Unit):=lp0 a0 (↑(List.length a0):Int) 0
def qfr (D:DX)(n:Nat) (a0:qhq) (a1:Clo):Option ((Int×Unit)×Unit):=qfy D n a1 (qe7 D n a1) a0
def qb9 (a1:Clo) (x0:qhq) (x1:Int) (x2:Int):St:=stq 19 [(0,AV.val (Ty.sl yC) x0),(1,AV.cloV a1),(7,avI x1),(8,avI x2)] [] 
def qdf (a1:Clo) (v0_0:Int):St:=stq 19 [(4,avI v0_0)] [] 
def qdi (a1:Clo):St:=stq 19 [] [] 
theorem qra (D:DX)(n:Nat) (a1:Clo) (m:Nat) (K:Ex→St→Option (Out ctx 195)) (x0:qhq) (x1:Int) (x2:Int) :
 LQ qc D n 195 [.r,.l,.r,.l] (m+1) (qb9 a1 x0 x1 x2) K=qfh D n a1 (fun x0 x1 x2=>LQ qc D n 195 [.r,.l,.r,.l] m (qb9 a1 x0 x1 x2) K) (fun v0_0=>K (Ex.ret) (qdf a1 v0_0)) (K (Ex.exit 0) (qdi a1)) x0 x1 x2:=by kernel_rfl
theorem qio (D:DX)(n:Nat) (a1:Clo) (K:Ex→St→Option (Out ctx 195)):∀ (m:Nat) (x0:qhq) (x1:Int) (x2:Int),LQ qc D n 195 [.r,.l,.r,.l] m (qb9 a1 x0 x1 x2) K=qce D n a1 (fun v0_0=>K (Ex.ret) (qdf a1 v0_0)) (K (Ex.exit 0) (qdi a1)) m x0 x1 x2
 | 0,x0,x1,x2=>qw ..
 | m+1,x0,x1,x2=>by
  have ih:(fun x0 x1 x2=>LQ qc D n 195 [.r,.l,.r,.l] m (qb9 a1 x0 x1 x2) K)=qce D n a1 (fun v0_0=>K (Ex.ret) (qdf a1 v0_0)) (K (Ex.exit 0) (qdi a1)) m:=by funext x0 x1 x2;exact qio D n a1 K m x0 x1 x2
  rw[qra]
  rw[ih];rfl
theorem qqk (D:DX)(n:Nat) (a1:Clo) (v0_0:Int) :
 (CQ qc D n 195 [] [.r,.l,.r,.l] (qi qc 195)) (Ex.ret) (qdf a1 v0_0)=qif D n a1 v0_0:=by kernel_rfl
theorem qqu (D:DX)(n:Nat) (a1:Clo) :
 (CQ qc D n 195 [] [.r,.l,.r,.l] (qi qc 195)) (Ex.exit 0) (qdi a1)=qib D n a1:=by kernel_rfl
theorem qql (D:DX)(n:Nat) (a1:Clo) (x0:qhq) (x1:Int) (x2:Int) :
 LQ qc D n 195 [.r,.l,.r,.l] n (qb9 a1 x0 x1 x2) (CQ qc D n 195 [] [.r,.l,.r,.l] (qi qc 195))=qe7 D n a1 x0 x1 x2:=by
 rw[qio]
 simp only[qqk,qqu]
 rfl
theorem qs7 (D:DX)(n:Nat) (a0:qhq) (a1:Clo):rfC qc D n 195 (a0,(a1,()))=qfr D n a0 a1:=by
 have h:rfC qc D n 195 (a0,(a1,()))=qfy D n a1 (fun x0 x1 x2=>LQ qc D n 195 [.r,.l,.r,.l] n (qb9 a1 x0 x1 x2) (CQ qc D n 195 [] [.r,.l,.r,.l] (qi qc 195))) a0:=by kernel_rfl
 rw[h]
 simp only[qql]
 rfl

def q73 (D:DX)(n:Nat) (a0:ByteArray×Int×Bool×Unit) (a1:ByteArray):Option ((Bool×Unit)×Unit):=some ((List.beq (ByteArray.toList (Prod.fst a0)) (ByteArray.toList a1),()),())
def qyx (D:DX)(n:Nat) (a0:ByteArray×Int×Bool×Unit) (a1:ByteArray):Option ((Bool×Unit)×Unit):=q73 D n a0 a1
theorem qbjw (D:DX)(n:Nat) (a0:ByteArray×Int×Bool×Unit) (a1:ByteArray):rfC qc D n 196 (a0,(a1,()))=qyx D n a0 a1:=by kernel_rfl

def qrx (D:DX)(n:Nat) (a0:List Int) (a1:Int):Option ((Bool×Unit)×Unit):=qh (qnl D a0 a1) fun b↦some ((decide (Prod.fst (Prod.fst b)≥0),()),())
def qkq (D:DX)(n:Nat) (a0:List Int) (a1:Int):Option ((Bool×Unit)×Unit):=qrx D n a0 a1
theorem q3w (D:DX)(n:Nat) (a0:List Int) (a1:Int):rfC qc D n 197 (a0,(a1,()))=qkq D n a0 a1:=by kernel_rfl

def qjr (D:DX)(n:Nat) (a1:Clo) (go:List Int→Int→Int→Option ((Int×Unit)×Unit)) (K0:Int→Option ((Int×Unit)×Unit)) (K1:Option ((Int×Unit)×Unit)) (x0:List Int) (x1:Int) (x2:Int):Option ((Int×Unit)×Unit):=br (decide (x2<x1)) (br (decide (0≤x2)&&decide (x2<(↑(List.length x0):Int))) (qh (qbl ctx D a1 [CapV.val (Ty.int IntKind.i64) (List.getD x0 (Int.toNat x2) 0)] Ty.bool) fun b↦br b (K0 x2) (go x0 x1 (IntKind.wrap IntKind.i64 (x2+1)))) none) K1
def qdo (D:DX)(n:Nat) (a1:Clo) (K0:Int→Option ((Int×Unit)×Unit)) (K1:Option ((Int×Unit)×Unit)):Nat→(List Int)→(Int)→(Int)→Option ((Int×Unit)×Unit) | 0=>(fun x0 x1 x2=>none) | m+1=>(fun x0 x1 x2=>qjr D n a1 (qdo D n a1 K0 K1 m) K0 K1 x0 x1 x2)
def qnw (D:DX)(n:Nat) (a1:Clo) (v0_0:Int):Option ((Int×Unit)×Unit):=some ((v0_0,()),())
def qnu (D:DX)(n:Nat) (a1:Clo):Option ((Int×Unit)×Unit):=some ((-1,()),())
def qi0 (D:DX)(n:Nat) (a1:Clo):(List Int)→(Int)→(Int)→Option ((Int×Unit)×Unit):=(fun x0 x1 x2=>qdo D n a1 (fun v0_0=>qnw D n a1 v0_0) (qnu D n a1) n x0 x1 x2)
def qkf (D:DX)(n:Nat) (a1:Clo) (lp0:List Int→Int→Int→Option ((Int×Unit)×Unit)) (a0:List Int):Option ((Int×Unit)×Unit):=lp0 a0 (↑(List.length a0):Int) 0
def qkg (D:DX)(n:Nat) (a0:List Int) (a1:Clo):Option ((Int×Unit)×Unit):=qkf D n a1 (qi0 D n a1) a0
def qdm (a1:Clo) (x0:List Int) (x1:Int) (x2:Int):St:=stq 19 [(0,AV.val (Ty.sl yI) x0),(1,AV.cloV a1),(7,avI x1),(8,avI x2)] [] 
def qfm (a1:Clo) (v0_0:Int):St:=stq 19 [(4,avI v0_0)] [] 
def qfo (a1:Clo):St:=stq 19 [] [] 
theorem qyz (D:DX)(n:Nat) (a1:Clo) (m:Nat) (K:Ex→St→Option (Out ctx 198)) (x0:List Int) (x1:Int) (x2:Int) :
 LQ qc D n 198 [.r,.l,.r,.l] (m+1) (qdm a1 x0 x1 x2) K=qjr D n a1 (fun x0 x1 x2=>LQ qc D n 198 [.r,.l,.r,.l] m (qdm a1 x0 x1 x2) K) (fun v0_0=>K (Ex.ret) (qfm a1 v0_0)) (K (Ex.exit 0) (qfo a1)) x0 x1 x2:=by kernel_rfl
theorem qo0 (D:DX)(n:Nat) (a1:Clo) (K:Ex→St→Option (Out ctx 198)):∀ (m:Nat) (x0:List Int) (x1:Int) (x2:Int),LQ qc D n 198 [.r,.l,.r,.l] m (qdm a1 x0 x1 x2) K=qdo D n a1 (fun v0_0=>K (Ex.ret) (qfm a1 v0_0)) (K (Ex.exit 0) (qfo a1)) m x0 x1 x2
 | 0,x0,x1,x2=>qw ..
 | m+1,x0,x1,x2=>by
  have ih:(fun x0 x1 x2=>LQ qc D n 198 [.r,.l,.r,.l] m (qdm a1 x0 x1 x2) K)=qdo D n a1 (fun v0_0=>K (Ex.ret) (qfm a1 v0_0)) (K (Ex.exit 0) (qfo a1)) m:=by funext x0 x1 x2;exact qo0 D n a1 K m x0 x1 x2
  rw[qyz]
  rw[ih];rfl
theorem qyg (D:DX)(n:Nat) (a1:Clo) (v0_0:Int) :
 (CQ qc D n 198 [] [.r,.l,.r,.l] (qi qc 198)) (Ex.ret) (qfm a1 v0_0)=qnw D n a1 v0_0:=by kernel_rfl
theorem qyd (D:DX)(n:Nat) (a1:Clo) :
 (CQ qc D n 198 [] [.r,.l,.r,.l] (qi qc 198)) (Ex.exit 0) (qfo a1)=qnu D n a1:=by kernel_rfl
theorem qyf (D:DX)(n:Nat) (a1:Clo) (x0:List Int) (x1:Int) (x2:Int) :
 LQ qc D n 198 [.r,.l,.r,.l] n (qdm a1 x0 x1 x2) (CQ qc D n 198 [] [.r,.l,.r,.l] (qi qc 198))=qi0 D n a1 x0 x1 x2:=by
 rw[qo0]
 simp only[qyg,qyd]
 rfl
theorem q2t (D:DX)(n:Nat) (a0:List Int) (a1:Clo):rfC qc D n 198 (a0,(a1,()))=qkg D n a0 a1:=by
 have h:rfC qc D n 198 (a0,(a1,()))=qkf D n a1 (fun x0 x1 x2=>LQ qc D n 198 [.r,.l,.r,.l] n (qdm a1 x0 x1 x2) (CQ qc D n 198 [] [.r,.l,.r,.l] (qi qc 198))) a0:=by kernel_rfl
 rw[h]
 simp only[qyf]
 rfl







def qgt (D:DX)(n:Nat) (a1:Clo) (a0:qd):Option ((Bool×Unit)×Unit):=qh (qef D a0 a1) fun b↦some ((decide (Prod.fst (Prod.fst b)≥0),()),())
def qd1 (D:DX)(n:Nat) (a0:qd) (a1:Clo):Option ((Bool×Unit)×Unit):=qgt D n a1 a0
theorem qnk (D:DX)(n:Nat) (a0:qd) (a1:Clo):rfC qc D n 207 (a0,(a1,()))=qd1 D n a0 a1:=by kernel_rfl

def q4f (D:DX)(n:Nat) (a0:Int×Int×ByteArray×Unit):Option ((Bool×Unit)×Unit):=qh (qtm D a0) fun b↦some ((!Prod.fst (Prod.fst b),()),())
def qvd (D:DX)(n:Nat) (a0:Int×Int×ByteArray×Unit):Option ((Bool×Unit)×Unit):=q4f D n a0
theorem qbgt (D:DX)(n:Nat) (a0:Int×Int×ByteArray×Unit):rfC qc D n 208 (a0,())=qvd D n a0:=by kernel_rfl

def ql3 (D:DX)(n:Nat) (go:List Int→Int→Int→Int→Option ((Int×Unit)×Unit)) (K0:Int→Option ((Int×Unit)×Unit)) (K1:Option ((Int×Unit)×Unit)) (x0:List Int) (x1:Int) (x2:Int) (x3:Int):Option ((Int×Unit)×Unit):=br (decide (x3<x2)) (br (decide (0≤x3)&&decide (x3<(↑(List.length x0):Int))) (br (decide (x1=List.getD x0 (Int.toNat x3) 0)) (K0 x3) (go x0 x1 x2 (IntKind.wrap IntKind.i64 (x3+1)))) none) K1
def qen (D:DX)(n:Nat) (K0:Int→Option ((Int×Unit)×Unit)) (K1:Option ((Int×Unit)×Unit)):Nat→(List Int)→(Int)→(Int)→(Int)→Option ((Int×Unit)×Unit) | 0=>(fun x0 x1 x2 x3=>none) | m+1=>(fun x0 x1 x2 x3=>ql3 D n (qen D n K0 K1 m) K0 K1 x0 x1 x2 x3)
def qr3 (D:DX)(n:Nat) (v0_0:Int):Option ((Int×Unit)×Unit):=some ((v0_0,()),())
def qrq (D:DX)(n:Nat):Option ((Int×Unit)×Unit):=some ((-1,()),())
def qlo (D:DX)(n:Nat):(List Int)→(Int)→(Int)→(Int)→Option ((Int×Unit)×Unit):=(fun x0 x1 x2 x3=>qen D n (fun v0_0=>qr3 D n v0_0) (qrq D n) n x0 x1 x2 x3)
def qnq (D:DX)(n:Nat) (lp0:List Int→Int→Int→Int→Option ((Int×Unit)×Unit)) (a0:List Int) (a1:Int):Option ((Int×Unit)×Unit):=lp0 a0 a1 (↑(List.length a0):Int) 0
def qns (D:DX)(n:Nat) (a0:List Int) (a1:Int):Option ((Int×Unit)×Unit):=qnq D n (qlo D n) a0 a1
def qem (x0:List Int) (x1:Int) (x2:Int) (x3:Int):St:=stq 19 [(0,AV.val (Ty.sl yI) x0),(1,avI x1),(7,avI x2),(8,avI x3)] [] 
def qho (v0_0:Int):St:=stq 19 [(4,avI v0_0)] [] 
def qhp:St:=stq 19 [] [] 
theorem q46 (D:DX)(n:Nat) (m:Nat) (K:Ex→St→Option (Out ctx 210)) (x0:List Int) (x1:Int) (x2:Int) (x3:Int) :
 LQ qc D n 210 [.r,.l,.r,.l] (m+1) (qem x0 x1 x2 x3) K=ql3 D n (fun x0 x1 x2 x3=>LQ qc D n 210 [.r,.l,.r,.l] m (qem x0 x1 x2 x3) K) (fun v0_0=>K (Ex.ret) (qho v0_0)) (K (Ex.exit 0) (qhp)) x0 x1 x2 x3:=by kernel_rfl
theorem qtc (D:DX)(n:Nat) (K:Ex→St→Option (Out ctx 210)):∀ (m:Nat) (x0:List Int) (x1:Int) (x2:Int) (x3:Int),LQ qc D n 210 [.r,.l,.r,.l] m (qem x0 x1 x2 x3) K=qen D n (fun v0_0=>K (Ex.ret) (qho v0_0)) (K (Ex.exit 0) (qhp)) m x0 x1 x2 x3
 | 0,x0,x1,x2,x3=>qw ..
 | m+1,x0,x1,x2,x3=>by
  have ih:(fun x0 x1 x2 x3=>LQ qc D n 210 [.r,.l,.r,.l] m (qem x0 x1 x2 x3) K)=qen D n (fun v0_0=>K (Ex.ret) (qho v0_0)) (K (Ex.exit 0) (qhp)) m:=by funext x0 x1 x2 x3;exact qtc D n K m x0 x1 x2 x3
  rw[q46]
  rw[ih];rfl
theorem q3v (D:DX)(n:Nat) (v0_0:Int) :
 (CQ qc D n 210 [] [.r,.l,.r,.l] (qi qc 210)) (Ex.ret) (qho v0_0)=qr3 D n v0_0:=by kernel_rfl
theorem q3x (D:DX)(n:Nat) :
 (CQ qc D n 210 [] [.r,.l,.r,.l] (qi qc 210)) (Ex.exit 0) (qhp)=qrq D n:=by kernel_rfl
theorem q3z (D:DX)(n:Nat) (x0:List Int) (x1:Int) (x2:Int) (x3:Int) :
 LQ qc D n 210 [.r,.l,.r,.l] n (qem x0 x1 x2 x3) (CQ qc D n 210 [] [.r,.l,.r,.l] (qi qc 210))=qlo D n x0 x1 x2 x3:=by
 rw[qtc]
 simp only[q3v,q3x]
 rfl
theorem q6w (D:DX)(n:Nat) (a0:List Int) (a1:Int):rfC qc D n 210 (a0,(a1,()))=qns D n a0 a1:=by
 have h:rfC qc D n 210 (a0,(a1,()))=qnq D n (fun x0 x1 x2 x3=>LQ qc D n 210 [.r,.l,.r,.l] n (qem x0 x1 x2 x3) (CQ qc D n 210 [] [.r,.l,.r,.l] (qi qc 210))) a0 a1:=by kernel_rfl
 rw[h]
 simp only[q3z]
 rfl

def qd9 (D:DX)(n:Nat) (a1:Clo) (go:qd→Int→Int→Option ((Int×Unit)×Unit)) (K0:Int→Option ((Int×Unit)×Unit)) (K1:Option ((Int×Unit)×Unit)) (x0:qd) (x1:Int) (x2:Int):Option ((Int×Unit)×Unit):=br (decide (x2<x1)) (br (decide (0≤x2)&&decide (x2<(↑(List.length x0):Int))) (qh (qbl ctx D a1 [CapV.val (Ty.pair (Ty.int IntKind.i64) (Ty.pair (Ty.int IntKind.i64) (Ty.pair Ty.str Ty.unit))) (List.getD x0 (Int.toNat x2) (0,0,ByteArray.empty,()))] Ty.bool) fun b↦br b (K0 x2) (go x0 x1 (IntKind.wrap IntKind.i64 (x2+1)))) none) K1
def qbq (D:DX)(n:Nat) (a1:Clo) (K0:Int→Option ((Int×Unit)×Unit)) (K1:Option ((Int×Unit)×Unit)):Nat→(qd)→(Int)→(Int)→Option ((Int×Unit)×Unit) | 0=>(fun x0 x1 x2=>none) | m+1=>(fun x0 x1 x2=>qd9 D n a1 (qbq D n a1 K0 K1 m) K0 K1 x0 x1 x2)
def qgw (D:DX)(n:Nat) (a1:Clo) (v0_0:Int):Option ((Int×Unit)×Unit):=some ((v0_0,()),())
def qgp (D:DX)(n:Nat) (a1:Clo):Option ((Int×Unit)×Unit):=some ((-1,()),())
def qd7 (D:DX)(n:Nat) (a1:Clo):(qd)→(Int)→(Int)→Option ((Int×Unit)×Unit):=(fun x0 x1 x2=>qbq D n a1 (fun v0_0=>qgw D n a1 v0_0) (qgp D n a1) n x0 x1 x2)
def qeg (D:DX)(n:Nat) (a1:Clo) (lp0:qd→Int→Int→Option ((Int×Unit)×Unit)) (a0:qd):Option ((Int×Unit)×Unit):=lp0 a0 (↑(List.length a0):Int) 0
def qee (D:DX)(n:Nat) (a0:qd) (a1:Clo):Option ((Int×Unit)×Unit):=qeg D n a1 (qd7 D n a1) a0
def qbp (a1:Clo) (x0:qd) (x1:Int) (x2:Int):St:=stq 19 [(0,AV.val (Ty.sl yV) x0),(1,AV.cloV a1),(7,avI x1),(8,avI x2)] [] 
def qcq (a1:Clo) (v0_0:Int):St:=stq 19 [(4,avI v0_0)] [] 
def qcr (a1:Clo):St:=stq 19 [] [] 
theorem qn4 (D:DX)(n:Nat) (a1:Clo) (m:Nat) (K:Ex→St→Option (Out ctx 213)) (x0:qd) (x1:Int) (x2:Int) :
 LQ qc D n 213 [.r,.l,.r,.l] (m+1) (qbp a1 x0 x1 x2) K=qd9 D n a1 (fun x0 x1 x2=>LQ qc D n 213 [.r,.l,.r,.l] m (qbp a1 x0 x1 x2) K) (fun v0_0=>K (Ex.ret) (qcq a1 v0_0)) (K (Ex.exit 0) (qcr a1)) x0 x1 x2:=by kernel_rfl
theorem qg0 (D:DX)(n:Nat) (a1:Clo) (K:Ex→St→Option (Out ctx 213)):∀ (m:Nat) (x0:qd) (x1:Int) (x2:Int),LQ qc D n 213 [.r,.l,.r,.l] m (qbp a1 x0 x1 x2) K=qbq D n a1 (fun v0_0=>K (Ex.ret) (qcq a1 v0_0)) (K (Ex.exit 0) (qcr a1)) m x0 x1 x2
 | 0,x0,x1,x2=>qw ..
 | m+1,x0,x1,x2=>by
  have ih:(fun x0 x1 x2=>LQ qc D n 213 [.r,.l,.r,.l] m (qbp a1 x0 x1 x2) K)=qbq D n a1 (fun v0_0=>K (Ex.ret) (qcq a1 v0_0)) (K (Ex.exit 0) (qcr a1)) m:=by funext x0 x1 x2;exact qg0 D n a1 K m x0 x1 x2
  rw[qn4]
  rw[ih];rfl
theorem qnm (D:DX)(n:Nat) (a1:Clo) (v0_0:Int) :
 (CQ qc D n 213 [] [.r,.l,.r,.l] (qi qc 213)) (Ex.ret) (qcq a1 v0_0)=qgw D n a1 v0_0:=by kernel_rfl
theorem qno (D:DX)(n:Nat) (a1:Clo) :
 (CQ qc D n 213 [] [.r,.l,.r,.l] (qi qc 213)) (Ex.exit 0) (qcr a1)=qgp D n a1:=by kernel_rfl
theorem qnr (D:DX)(n:Nat) (a1:Clo) (x0:qd) (x1:Int) (x2:Int) :
 LQ qc D n 213 [.r,.l,.r,.l] n (qbp a1 x0 x1 x2) (CQ qc D n 213 [] [.r,.l,.r,.l] (qi qc 213))=qd7 D n a1 x0 x1 x2:=by
 rw[qg0]
 simp only[qnm,qno]
 rfl
theorem qo1 (D:DX)(n:Nat) (a0:qd) (a1:Clo):rfC qc D n 213 (a0,(a1,()))=qee D n a0 a1:=by
 have h:rfC qc D n 213 (a0,(a1,()))=qeg D n a1 (fun x0 x1 x2=>LQ qc D n 213 [.r,.l,.r,.l] n (qbp a1 x0 x1 x2) (CQ qc D n 213 [] [.r,.l,.r,.l] (qi qc 213))) a0:=by kernel_rfl
 rw[h]
 simp only[qnr]
 rfl
end
end Go.G

namespace Go.G
set_option maxRecDepth 100000
open Go Go.V Go.Proofs
def XOk (X:Ext):Prop:=∀ k:Nat,(Nat.beq k 88||Nat.beq k 93||Nat.beq k 95||Nat.beq k 192)=false→X.is k=false
theorem qbne {X:Ext} (hX:XOk X) (n:Nat) (a0:List Int):qbab (DD X (n+1)) a0=q1s (DD X n) n a0:=(qk X Tryz.func6 (by kernel_rfl) (hX 6 rfl) n _).trans (qbnn ..)
theorem qbri {X:Ext} (hX:XOk X) (n:Nat) (a0:List Int):q9s (DD X (n+1)) a0=qbjn (DD X n) n a0:=(qk X Tryz.func11 (by kernel_rfl) (hX 11 rfl) n _).trans (qbsa ..)
theorem qbmt {X:Ext} (hX:XOk X) (n:Nat) (a0:(tSch)×qf×Unit) (a1:Int):q2g (DD X (n+1)) a0 a1=q10 (DD X n) n a0 a1:=(qk X Tryz.func13 (by kernel_rfl) (hX 13 rfl) n _).trans (qbmv ..)
theorem qbn4 {X:Ext} (hX:XOk X) (n:Nat) (a0:(tSch)×qf×Unit):q4h (DD X (n+1)) a0=q4t (DD X n) n a0:=(qk X Tryz.func17 (by kernel_rfl) (hX 17 rfl) n _).trans (qbn3 ..)
theorem qbpr {X:Ext} (hX:XOk X) (n:Nat) (a0:(tSch)×qf×Unit) (a1:Int) (a2:qd):q41 (DD X (n+1)) a0 a1 a2=q5b (DD X n) n a0 a1 a2:=(qk X Tryz.func19 (by kernel_rfl) (hX 19 rfl) n _).trans (qbot ..)
theorem qbjd {X:Ext} (hX:XOk X) (n:Nat) (a0:List tWay) (a1:List tWay):qm2 (DD X (n+1)) a0 a1=qxp (DD X n) n a0 a1:=(qk X Tryz.func20 (by kernel_rfl) (hX 20 rfl) n _).trans (qbi9 ..)
theorem qbm8 {X:Ext} (hX:XOk X) (n:Nat) (a0:List tWay) (a1:ByteArray×ByteArray×Unit):qu6 (DD X (n+1)) a0 a1=q2j (DD X n) n a0 a1:=(qk X Tryz.func21 (by kernel_rfl) (hX 21 rfl) n _).trans (qbnc ..)
theorem qbjc {X:Ext} (hX:XOk X) (n:Nat) (a0:tSch) (a1:qd):qm7 (DD X (n+1)) a0 a1=qw6 (DD X n) n a0 a1:=(qk X Tryz.func23 (by kernel_rfl) (hX 23 rfl) n _).trans (qbjs ..)
theorem qbm5 {X:Ext} (hX:XOk X) (n:Nat) (a0:List tWay) (a1:ByteArray×ByteArray×Unit):q2n (DD X (n+1)) a0 a1=q2i (DD X n) n a0 a1:=(qk X Tryz.func25 (by kernel_rfl) (hX 25 rfl) n _).trans (qbm9 ..)
theorem qbnh {X:Ext} (hX:XOk X) (n:Nat) (a0:(tSch)×qf×Unit) (a1:qd):q1v (DD X (n+1)) a0 a1=q1t (DD X n) n a0 a1:=(qk X Tryz.func28 (by kernel_rfl) (hX 28 rfl) n _).trans (qbni ..)
theorem qbm2 {X:Ext} (hX:XOk X) (n:Nat) (a0:(tSch)×qf×Unit) (a1:qd):q2p (DD X (n+1)) a0 a1=q2a (DD X n) n a0 a1:=(qk X Tryz.func30 (by kernel_rfl) (hX 30 rfl) n _).trans (qbnl ..)
theorem qbkv {X:Ext} (hX:XOk X) (n:Nat) (a0:(tSch)×qf×Unit) (a1:qd):q0t (DD X (n+1)) a0 a1=q0j (DD X n) n a0 a1:=(qk X Tryz.func32 (by kernel_rfl) (hX 32 rfl) n _).trans (qbka ..)
theorem qbm4 {X:Ext} (hX:XOk X) (n:Nat) (a0:tSch):q1z (DD X (n+1)) a0=q2b (DD X n) n a0:=(qk X Tryz.func38 (by kernel_rfl) (hX 38 rfl) n _).trans (qbnb ..)
theorem qbog {X:Ext} (hX:XOk X) (n:Nat) (a0:(tSch)×qf×Unit):qlm (DD X (n+1)) a0=q47 (DD X n) n a0:=(qk X Tryz.func41 (by kernel_rfl) (hX 41 rfl) n _).trans (qbo3 ..)
theorem qbd7 {X:Ext} (hX:XOk X) (n:Nat) (a0:List Int):quh (DD X (n+1)) a0=qug (DD X n) n a0:=(qk X Tryz.func42 (by kernel_rfl) (hX 42 rfl) n _).trans (qbdx ..)
theorem qbd9 {X:Ext} (hX:XOk X) (n:Nat) (a0:List Int):qus (DD X (n+1)) a0=qt8 (DD X n) n a0:=(qk X Tryz.func43 (by kernel_rfl) (hX 43 rfl) n _).trans (qbeo ..)
theorem qbb2 {X:Ext} (hX:XOk X) (n:Nat) (a0:List Int):qsu (DD X (n+1)) a0=qss (DD X n) n a0:=(qk X Tryz.func44 (by kernel_rfl) (hX 44 rfl) n _).trans (qbbc ..)
theorem qbgm {X:Ext} (hX:XOk X) (n:Nat) (a0:List Int):qvx (DD X (n+1)) a0=qwd (DD X n) n a0:=(qk X Tryz.func45 (by kernel_rfl) (hX 45 rfl) n _).trans (qbfq ..)
theorem qbpm {X:Ext} (hX:XOk X) (n:Nat) (a0:(tSch)×qf×Unit) (a1:Int) (a2:qd):qxl (DD X (n+1)) a0 a1 a2=q43 (DD X n) n a0 a1 a2:=(qk X Tryz.func46 (by kernel_rfl) (hX 46 rfl) n _).trans (qbpn ..)
theorem qber {X:Ext} (hX:XOk X) (n:Nat) (a0:List Int):quf (DD X (n+1)) a0=qul (DD X n) n a0:=(qk X Tryz.func47 (by kernel_rfl) (hX 47 rfl) n _).trans (qbeh ..)
theorem qbmy {X:Ext} (hX:XOk X) (n:Nat) (a0:List tWay) (a1:ByteArray×ByteArray×Unit):qqq (DD X (n+1)) a0 a1=q1w (DD X n) n a0 a1:=(qk X Tryz.func48 (by kernel_rfl) (hX 48 rfl) n _).trans (qbnf ..)
theorem qbm6 {X:Ext} (hX:XOk X) (n:Nat) (a0:List tWay) (a1:ByteArray×ByteArray×Unit):q2y (DD X (n+1)) a0 a1=q1x (DD X n) n a0 a1:=(qk X Tryz.func49 (by kernel_rfl) (hX 49 rfl) n _).trans (qbmx ..)
theorem qbk7 {X:Ext} (hX:XOk X) (n:Nat) (a0:ByteArray×ByteArray×Unit) (a1:ByteArray×ByteArray×Unit):qlg (DD X (n+1)) a0 a1=q7y (DD X n) n a0 a1:=(qk X Tryz.func50 (by kernel_rfl) (hX 50 rfl) n _).trans (qbkz ..)
theorem qblm {X:Ext} (hX:XOk X) (n:Nat) (a0:ByteArray×ByteArray×Unit) (a1:ByteArray×ByteArray×Unit):qtt (DD X (n+1)) a0 a1=q7s (DD X n) n a0 a1:=(qk X Tryz.func51 (by kernel_rfl) (hX 51 rfl) n _).trans (qbj1 ..)
theorem qbm7 {X:Ext} (hX:XOk X) (n:Nat) (a0:(tSch)×qf×Unit) (a1:Int):q2q (DD X (n+1)) a0 a1=q2d (DD X n) n a0 a1:=(qk X Tryz.func52 (by kernel_rfl) (hX 52 rfl) n _).trans (qbm0 ..)
theorem qbou {X:Ext} (hX:XOk X) (n:Nat) (a0:List Int):qlk (DD X (n+1)) a0=q4b (DD X n) n a0:=(qk X Tryz.func65 (by kernel_rfl) (hX 65 rfl) n _).trans (qbn7 ..)
theorem qba6 {X:Ext} (hX:XOk X) (n:Nat) (a0:List Int×Int×Int×Unit):qri (DD X (n+1)) a0=qq5 (DD X n) n a0:=(qk X Tryz.func66 (by kernel_rfl) (hX 66 rfl) n _).trans (qbat ..)
theorem qbdy {X:Ext} (hX:XOk X) (n:Nat) (a0:List Int×Int×Int×Unit) (a1:(tSch)×qf×Unit):quv (DD X (n+1)) a0 a1=qut (DD X n) n a0 a1:=(qk X Tryz.func67 (by kernel_rfl) (hX 67 rfl) n _).trans (qbd4 ..)
theorem qbqr {X:Ext} (hX:XOk X) (n:Nat) (a0:Int) (a1:Int) (a2:Int):qf5 (DD X (n+1)) a0 a1 a2=q63 (DD X n) n a0 a1 a2:=(qk X Tryz.func68 (by kernel_rfl) (hX 68 rfl) n _).trans (qbqf ..)
theorem qbil {X:Ext} (hX:XOk X) (n:Nat) (a0:tSch) (a1:Int) (a2:qd):q32 (DD X (n+1)) a0 a1 a2=q31 (DD X n) n a0 a1 a2:=(qk X Tryz.func69 (by kernel_rfl) (hX 69 rfl) n _).trans (qbrt ..)
theorem qbom {X:Ext} (hX:XOk X) (n:Nat) (a0:tSch) (a1:qd):qwz (DD X (n+1)) a0 a1=q4m (DD X n) n a0 a1:=(qk X Tryz.func77 (by kernel_rfl) (hX 77 rfl) n _).trans (qbob ..)
theorem qbg4 {X:Ext} (hX:XOk X) (n:Nat) (a0:qd) (a1:qd):qwh (DD X (n+1)) a0 a1=qv8 (DD X n) n a0 a1:=(qk X Tryz.func78 (by kernel_rfl) (hX 78 rfl) n _).trans (qbgr ..)
theorem qnz {X:Ext} (hX:XOk X) (n:Nat) (a0:qf) (a1:Clo):qcf (DD X (n+1)) a0 a1=qd5 (DD X n) n a0 a1:=(qk X Tryz.func79 (by kernel_rfl) (hX 79 rfl) n _).trans (qn2 ..)
theorem qbke {X:Ext} (hX:XOk X) (n:Nat) (a0:qd) (a1:(tSch)×qf×Unit) (a2:qd):q7o (DD X (n+1)) a0 a1 a2=qze (DD X n) n a0 a1 a2:=(qk X Tryz.func80 (by kernel_rfl) (hX 80 rfl) n _).trans (qbj5 ..)
theorem qbof {X:Ext} (hX:XOk X) (n:Nat) (a0:tSch) (a1:qd) (a2:qd):q4s (DD X (n+1)) a0 a1 a2=q44 (DD X n) n a0 a1 a2:=(qk X Tryz.func81 (by kernel_rfl) (hX 81 rfl) n _).trans (qboy ..)
theorem qbhi {X:Ext} (hX:XOk X) (n:Nat) (a0:tSch):qr2 (DD X (n+1)) a0=qwu (DD X n) n a0:=(qk X Tryz.func82 (by kernel_rfl) (hX 82 rfl) n _).trans (qbh0 ..)
theorem qp5 {X:Ext} (hX:XOk X) (n:Nat) (a0:qf) (a1:Clo):qew (DD X (n+1)) a0 a1=qet (DD X n) n a0 a1:=(qk X Tryz.func86 (by kernel_rfl) (hX 86 rfl) n _).trans (qo6 ..)
theorem qv7 {X:Ext} (hX:XOk X) (n:Nat) (a0:List tWay):qex (DD X (n+1)) a0=qg7 (DD X n) n a0:=(qk X Tryz.func90 (by kernel_rfl) (hX 90 rfl) n _).trans (qvl ..)
theorem qjv {X:Ext} (hX:XOk X) (n:Nat) (a0:List tWay) (a1:Clo):qdx (DD X (n+1)) a0 a1=qdt (DD X n) n a0 a1:=(qk X Tryz.func91 (by kernel_rfl) (hX 91 rfl) n _).trans (qsq ..)
theorem qbhz {X:Ext} (hX:XOk X) (n:Nat) (a0:ByteArray×ByteArray×Unit) (a1:ByteArray×ByteArray×Unit):q6r (DD X (n+1)) a0 a1=qxv (DD X n) n a0 a1:=(qk X Tryz.func92 (by kernel_rfl) (hX 92 rfl) n _).trans (qbhe ..)
theorem qbla {X:Ext} (hX:XOk X) (n:Nat) (a0:qd) (a1:List Int):qla (DD X (n+1)) a0 a1=qz1 (DD X n) n a0 a1:=(qk X Tryz.func94 (by kernel_rfl) (hX 94 rfl) n _).trans (qbkw ..)
theorem qsa {X:Ext} (hX:XOk X) (n:Nat) (a0:List tWay) (a1:Clo):qfg (DD X (n+1)) a0 a1=qfk (DD X n) n a0 a1:=(qk X Tryz.func96 (by kernel_rfl) (hX 96 rfl) n _).trans (qr9 ..)
theorem qbhg {X:Ext} (hX:XOk X) (n:Nat) (a0:ByteArray×ByteArray×Unit) (a1:ByteArray×ByteArray×Unit):q5y (DD X (n+1)) a0 a1=qw2 (DD X n) n a0 a1:=(qk X Tryz.func97 (by kernel_rfl) (hX 97 rfl) n _).trans (qbij ..)
theorem qbj2 {X:Ext} (hX:XOk X) (n:Nat) (a0:List Int×Int×Int×Unit):qtk (DD X (n+1)) a0=qyy (DD X n) n a0:=(qk X Tryz.func98 (by kernel_rfl) (hX 98 rfl) n _).trans (qble ..)
theorem qbko {X:Ext} (hX:XOk X) (n:Nat) (a0:(tSch)×qf×Unit):qox (DD X (n+1)) a0=q0s (DD X n) n a0:=(qk X Tryz.func99 (by kernel_rfl) (hX 99 rfl) n _).trans (qbju ..)
theorem qbpt {X:Ext} (hX:XOk X) (n:Nat) (a0:tSch) (a1:qd):qor (DD X (n+1)) a0 a1=q4p (DD X n) n a0 a1:=(qk X Tryz.func100 (by kernel_rfl) (hX 100 rfl) n _).trans (qboh ..)
theorem qbo6 {X:Ext} (hX:XOk X) (n:Nat) (a0:(tSch)×qf×Unit) (a1:qd):qsr (DD X (n+1)) a0 a1=q4y (DD X n) n a0 a1:=(qk X Tryz.func101 (by kernel_rfl) (hX 101 rfl) n _).trans (qbpj ..)
theorem qbhj {X:Ext} (hX:XOk X) (n:Nat) (a0:tSch) (a1:qd):qd0 (DD X (n+1)) a0 a1=qxi (DD X n) n a0 a1:=(qk X Tryz.func102 (by kernel_rfl) (hX 102 rfl) n _).trans (qbi0 ..)
theorem qbgw {X:Ext} (hX:XOk X) (n:Nat) (a0:(tSch)×qf×Unit) (a1:qd) (a2:Int):qp3 (DD X (n+1)) a0 a1 a2=qwe (DD X n) n a0 a1 a2:=(qk X Tryz.func103 (by kernel_rfl) (hX 103 rfl) n _).trans (qbgf ..)
theorem qbf3 {X:Ext} (hX:XOk X) (n:Nat) (a0:qd) (a1:qd):qpj (DD X (n+1)) a0 a1=qvh (DD X n) n a0 a1:=(qk X Tryz.func104 (by kernel_rfl) (hX 104 rfl) n _).trans (qbgc ..)
theorem qbkr {X:Ext} (hX:XOk X) (n:Nat) (a0:qf):qi2 (DD X (n+1)) a0=qzk (DD X n) n a0:=(qk X Tryz.func105 (by kernel_rfl) (hX 105 rfl) n _).trans (qbld ..)
theorem qbjv {X:Ext} (hX:XOk X) (n:Nat) (a0:List Int×Int×Int×Unit):qzy (DD X (n+1)) a0=qz2 (DD X n) n a0:=(qk X Tryz.func106 (by kernel_rfl) (hX 106 rfl) n _).trans (qbk8 ..)
theorem qbk9 {X:Ext} (hX:XOk X) (n:Nat) (a0:tSch):qtq (DD X (n+1)) a0=q0a (DD X n) n a0:=(qk X Tryz.func108 (by kernel_rfl) (hX 108 rfl) n _).trans (qbjy ..)
theorem qbjl {X:Ext} (hX:XOk X) (n:Nat) (a0:tSch) (a1:qd) (a2:qd):qry (DD X (n+1)) a0 a1 a2=qw7 (DD X n) n a0 a1 a2:=(qk X Tryz.func111 (by kernel_rfl) (hX 111 rfl) n _).trans (qbh7 ..)
theorem qbjg {X:Ext} (hX:XOk X) (n:Nat) (a0:tSch):qrs (DD X (n+1)) a0=qxh (DD X n) n a0:=(qk X Tryz.func112 (by kernel_rfl) (hX 112 rfl) n _).trans (qbio ..)
theorem qbbl {X:Ext} (hX:XOk X) (n:Nat) (a0:List Int×Int×Int×Unit):qnd (DD X (n+1)) a0=qsv (DD X n) n a0:=(qk X Tryz.func113 (by kernel_rfl) (hX 113 rfl) n _).trans (qbbk ..)
theorem qbnd {X:Ext} (hX:XOk X) (n:Nat) (a0:List Int×Int×Int×Unit) (a1:Int):qf2 (DD X (n+1)) a0 a1=q2r (DD X n) n a0 a1:=(qk X Tryz.func114 (by kernel_rfl) (hX 114 rfl) n _).trans (qbng ..)
theorem qbku {X:Ext} (hX:XOk X) (n:Nat) (a0:List Int×Int×Int×Unit) (a1:Int):qbj (DD X (n+1)) a0 a1=q0f (DD X n) n a0 a1:=(qk X Tryz.func115 (by kernel_rfl) (hX 115 rfl) n _).trans (qbkn ..)
theorem qbd3 {X:Ext} (hX:XOk X) (n:Nat) (a0:List Int×Int×Int×Unit):qdp (DD X (n+1)) a0=qt4 (DD X n) n a0:=(qk X Tryz.func116 (by kernel_rfl) (hX 116 rfl) n _).trans (qbdk ..)
theorem qbqh {X:Ext} (hX:XOk X) (n:Nat) (a0:Int) (a1:Int) (a2:Int):qgq (DD X (n+1)) a0 a1 a2=q6v (DD X n) n a0 a1 a2:=(qk X Tryz.func117 (by kernel_rfl) (hX 117 rfl) n _).trans (qbpz ..)
theorem qbec {X:Ext} (hX:XOk X) (n:Nat) (a0:qd):qoa (DD X (n+1)) a0=quy (DD X n) n a0:=(qk X Tryz.func118 (by kernel_rfl) (hX 118 rfl) n _).trans (qbdz ..)
theorem qbky {X:Ext} (hX:XOk X) (n:Nat) (a0:qd) (a1:List Int):qlb (DD X (n+1)) a0 a1=qz8 (DD X n) n a0 a1:=(qk X Tryz.func119 (by kernel_rfl) (hX 119 rfl) n _).trans (qbk0 ..)
theorem qbak {X:Ext} (hX:XOk X) (n:Nat) (a0:List Int×Int×Int×Unit):qls (DD X (n+1)) a0=qq6 (DD X n) n a0:=(qk X Tryz.func135 (by kernel_rfl) (hX 135 rfl) n _).trans (qbaz ..)
theorem qbex {X:Ext} (hX:XOk X) (n:Nat) (a0:List Int×Int×Int×Unit) (a1:tSch):qkl (DD X (n+1)) a0 a1=qub (DD X n) n a0 a1:=(qk X Tryz.func136 (by kernel_rfl) (hX 136 rfl) n _).trans (qbdl ..)
theorem qbds {X:Ext} (hX:XOk X) (n:Nat) (a0:qd):qod (DD X (n+1)) a0=quj (DD X n) n a0:=(qk X Tryz.func137 (by kernel_rfl) (hX 137 rfl) n _).trans (qbdn ..)
theorem qblf {X:Ext} (hX:XOk X) (n:Nat) (a0:Int×Int×ByteArray×Unit):qtm (DD X (n+1)) a0=q0c (DD X n) n a0:=(qk X Tryz.func139 (by kernel_rfl) (hX 139 rfl) n _).trans (qbks ..)
theorem qg5 {X:Ext} (hX:XOk X) (n:Nat) (a0:qd) (a1:qd) (a2:Clo):qcg (DD X (n+1)) a0 a1 a2=qci (DD X n) n a0 a1 a2:=(qk X Tryz.func140 (by kernel_rfl) (hX 140 rfl) n _).trans (qg8 ..)
theorem qbkm {X:Ext} (hX:XOk X) (n:Nat) (a0:Int×Int×ByteArray×Unit) (a1:Int×Int×ByteArray×Unit):qzt (DD X (n+1)) a0 a1=q0q (DD X n) n a0 a1:=(qk X Tryz.func141 (by kernel_rfl) (hX 141 rfl) n _).trans (qbkq ..)
theorem qn0 {X:Ext} (hX:XOk X) (n:Nat) (a0:tIxs) (a1:Clo):qcv (DD X (n+1)) a0 a1=qd6 (DD X n) n a0 a1:=(qk X Tryz.func142 (by kernel_rfl) (hX 142 rfl) n _).trans (qn5 ..)
theorem qbkg {X:Ext} (hX:XOk X) (n:Nat) (a0:ByteArray×List Int×Bool×Unit) (a1:qd) (a2:qd):q75 (DD X (n+1)) a0 a1 a2=q0o (DD X n) n a0 a1 a2:=(qk X Tryz.func143 (by kernel_rfl) (hX 143 rfl) n _).trans (qbkb ..)
theorem qqd {X:Ext} (hX:XOk X) (n:Nat) (a0:qd) (a1:Int×Int×ByteArray×Unit):qez (DD X (n+1)) a0 a1=qe1 (DD X n) n a0 a1:=(qk X Tryz.func144 (by kernel_rfl) (hX 144 rfl) n _).trans (qqh ..)
theorem qsg {X:Ext} (hX:XOk X) (n:Nat) (a0:qd) (a1:qd):qfq (DD X (n+1)) a0 a1=qfw (DD X n) n a0 a1:=(qk X Tryz.func145 (by kernel_rfl) (hX 145 rfl) n _).trans (qs8 ..)
theorem qbgg {X:Ext} (hX:XOk X) (n:Nat) (a0:ByteArray):qpw (DD X (n+1)) a0=qvy (DD X n) n a0:=(qk X Tryz.func146 (by kernel_rfl) (hX 146 rfl) n _).trans (qbfx ..)
theorem qbpq {X:Ext} (hX:XOk X) (n:Nat) (a0:tSch) (a1:ByteArray):q5u (DD X (n+1)) a0 a1=q5i (DD X n) n a0 a1:=(qk X Tryz.func147 (by kernel_rfl) (hX 147 rfl) n _).trans (qbpo ..)
theorem qbi7 {X:Ext} (hX:XOk X) (n:Nat) (a0:tSch) (a1:List Int) (a2:Int):qr7 (DD X (n+1)) a0 a1 a2=qxz (DD X n) n a0 a1 a2:=(qk X Tryz.func148 (by kernel_rfl) (hX 148 rfl) n _).trans (qbjp ..)
theorem qbek {X:Ext} (hX:XOk X) (n:Nat) (a0:ByteArray×List Int×Bool×Unit) (a1:ByteArray×List Int×Bool×Unit):q3n (DD X (n+1)) a0 a1=qux (DD X n) n a0 a1:=(qk X Tryz.func149 (by kernel_rfl) (hX 149 rfl) n _).trans (qbej ..)
theorem qye {X:Ext} (hX:XOk X) (n:Nat) (a0:List Int) (a1:Clo):qij (DD X (n+1)) a0 a1=qii (DD X n) n a0 a1:=(qk X Tryz.func150 (by kernel_rfl) (hX 150 rfl) n _).trans (qyh ..)
theorem qbeu {X:Ext} (hX:XOk X) (n:Nat) (a0:Int) (a1:tSch):q3k (DD X (n+1)) a0 a1=quk (DD X n) n a0 a1:=(qk X Tryz.func151 (by kernel_rfl) (hX 151 rfl) n _).trans (qbeg ..)
theorem qbkc {X:Ext} (hX:XOk X) (n:Nat) (a0:Int×Int×ByteArray×Unit):qti (DD X (n+1)) a0=qy7 (DD X n) n a0:=(qk X Tryz.func158 (by kernel_rfl) (hX 158 rfl) n _).trans (qbj0 ..)
theorem qbli {X:Ext} (hX:XOk X) (n:Nat) (a0:qd) (a1:qd):qtl (DD X (n+1)) a0 a1=qy1 (DD X n) n a0 a1:=(qk X Tryz.func159 (by kernel_rfl) (hX 159 rfl) n _).trans (qblg ..)
theorem qbgd {X:Ext} (hX:XOk X) (n:Nat) (a0:Int×Int×ByteArray×Unit) (a1:Int×Int×ByteArray×Unit):qpr (DD X (n+1)) a0 a1=qvj (DD X n) n a0 a1:=(qk X Tryz.func160 (by kernel_rfl) (hX 160 rfl) n _).trans (qbgv ..)
theorem qbf4 {X:Ext} (hX:XOk X) (n:Nat) (a0:Int×Int×ByteArray×Unit) (a1:Int×Int×ByteArray×Unit):qvr (DD X (n+1)) a0 a1=qv6 (DD X n) n a0 a1:=(qk X Tryz.func161 (by kernel_rfl) (hX 161 rfl) n _).trans (qbfs ..)
theorem qbnk {X:Ext} (hX:XOk X) (n:Nat) (a0:List Int×Int×Int×Unit) (a1:List ByteArray):qqb (DD X (n+1)) a0 a1=q17 (DD X n) n a0 a1:=(qk X Tryz.func162 (by kernel_rfl) (hX 162 rfl) n _).trans (qbnj ..)
theorem qbga {X:Ext} (hX:XOk X) (n:Nat) (a0:List Int×Int×Int×Unit) (a1:List Int):qll (DD X (n+1)) a0 a1=qvv (DD X n) n a0 a1:=(qk X Tryz.func163 (by kernel_rfl) (hX 163 rfl) n _).trans (qbf5 ..)
theorem qbkd {X:Ext} (hX:XOk X) (n:Nat) (a0:qd):qzb (DD X (n+1)) a0=q0i (DD X n) n a0:=(qk X Tryz.func165 (by kernel_rfl) (hX 165 rfl) n _).trans (qbk4 ..)
theorem qbgj {X:Ext} (hX:XOk X) (n:Nat) (a0:ByteArray):qpf (DD X (n+1)) a0=qv5 (DD X n) n a0:=(qk X Tryz.func166 (by kernel_rfl) (hX 166 rfl) n _).trans (qbhb ..)
theorem qbod {X:Ext} (hX:XOk X) (n:Nat) (a0:tSch) (a1:ByteArray):q4e (DD X (n+1)) a0 a1=q42 (DD X n) n a0 a1:=(qk X Tryz.func167 (by kernel_rfl) (hX 167 rfl) n _).trans (qbo7 ..)
theorem qbfz {X:Ext} (hX:XOk X) (n:Nat) (a0:tSch) (a1:List Int) (a2:Int):qp1 (DD X (n+1)) a0 a1 a2=qv3 (DD X n) n a0 a1 a2:=(qk X Tryz.func168 (by kernel_rfl) (hX 168 rfl) n _).trans (qbgz ..)
theorem qbel {X:Ext} (hX:XOk X) (n:Nat) (a0:tSch):qt5 (DD X (n+1)) a0=qt2 (DD X n) n a0:=(qk X Tryz.func169 (by kernel_rfl) (hX 169 rfl) n _).trans (qbee ..)
theorem qbmu {X:Ext} (hX:XOk X) (n:Nat) (a0:List Int×Int×Int×Unit):qkh (DD X (n+1)) a0=q1y (DD X n) n a0:=(qk X Tryz.func170 (by kernel_rfl) (hX 170 rfl) n _).trans (qbmw ..)
theorem qbeq {X:Ext} (hX:XOk X) (n:Nat) (a0:List Int×Int×Int×Unit):qoe (DD X (n+1)) a0=qt0 (DD X n) n a0:=(qk X Tryz.func171 (by kernel_rfl) (hX 171 rfl) n _).trans (qbes ..)
theorem qblc {X:Ext} (hX:XOk X) (n:Nat) (a0:qd):qts (DD X (n+1)) a0=qzn (DD X n) n a0:=(qk X Tryz.func172 (by kernel_rfl) (hX 172 rfl) n _).trans (qbjx ..)
theorem qbhx {X:Ext} (hX:XOk X) (n:Nat) (a0:Int×Int×ByteArray×Unit):qxd (DD X (n+1)) a0=qx5 (DD X n) n a0:=(qk X Tryz.func173 (by kernel_rfl) (hX 173 rfl) n _).trans (qbhm ..)
theorem qbf8 {X:Ext} (hX:XOk X) (n:Nat) (a0:List Int×Int×Int×Unit) (a1:Int):qpg (DD X (n+1)) a0 a1=qwb (DD X n) n a0 a1:=(qk X Tryz.func190 (by kernel_rfl) (hX 190 rfl) n _).trans (qbf7 ..)
theorem qblb {X:Ext} (hX:XOk X) (n:Nat) (a0:qd):q0g (DD X (n+1)) a0=qzc (DD X n) n a0:=(qk X Tryz.func191 (by kernel_rfl) (hX 191 rfl) n _).trans (qbj8 ..)
theorem qpk {X:Ext} (hX:XOk X) (n:Nat) (a0:tIxs) (a1:Clo):qeq (DD X (n+1)) a0 a1=qey (DD X n) n a0 a1:=(qk X Tryz.func193 (by kernel_rfl) (hX 193 rfl) n _).trans (qo3 ..)
theorem qs3 {X:Ext} (hX:XOk X) (n:Nat) (a0:qd) (a1:Int×Int×ByteArray×Unit):qfp (DD X (n+1)) a0 a1=qfs (DD X n) n a0 a1:=(qk X Tryz.func194 (by kernel_rfl) (hX 194 rfl) n _).trans (qse ..)
theorem qtb {X:Ext} (hX:XOk X) (n:Nat) (a0:qhq) (a1:Clo):qft (DD X (n+1)) a0 a1=qfr (DD X n) n a0 a1:=(qk X Tryz.func195 (by kernel_rfl) (hX 195 rfl) n _).trans (qs7 ..)
theorem qbk3 {X:Ext} (hX:XOk X) (n:Nat) (a0:ByteArray×Int×Bool×Unit) (a1:ByteArray):q8d (DD X (n+1)) a0 a1=qyx (DD X n) n a0 a1:=(qk X Tryz.func196 (by kernel_rfl) (hX 196 rfl) n _).trans (qbjw ..)
theorem q3t {X:Ext} (hX:XOk X) (n:Nat) (a0:List Int) (a1:Int):qkp (DD X (n+1)) a0 a1=qkq (DD X n) n a0 a1:=(qk X Tryz.func197 (by kernel_rfl) (hX 197 rfl) n _).trans (q3w ..)
theorem q13 {X:Ext} (hX:XOk X) (n:Nat) (a0:List Int) (a1:Clo):qkj (DD X (n+1)) a0 a1=qkg (DD X n) n a0 a1:=(qk X Tryz.func198 (by kernel_rfl) (hX 198 rfl) n _).trans (q2t ..)
theorem qnp {X:Ext} (hX:XOk X) (n:Nat) (a0:qd) (a1:Clo):qd2 (DD X (n+1)) a0 a1=qd1 (DD X n) n a0 a1:=(qk X Tryz.func207 (by kernel_rfl) (hX 207 rfl) n _).trans (qnk ..)
theorem qbgq {X:Ext} (hX:XOk X) (n:Nat) (a0:Int×Int×ByteArray×Unit):q4l (DD X (n+1)) a0=qvd (DD X n) n a0:=(qk X Tryz.func208 (by kernel_rfl) (hX 208 rfl) n _).trans (qbgt ..)
theorem q64 {X:Ext} (hX:XOk X) (n:Nat) (a0:List Int) (a1:Int):qnl (DD X (n+1)) a0 a1=qns (DD X n) n a0 a1:=(qk X Tryz.func210 (by kernel_rfl) (hX 210 rfl) n _).trans (q6w ..)
theorem qo2 {X:Ext} (hX:XOk X) (n:Nat) (a0:qd) (a1:Clo):qef (DD X (n+1)) a0 a1=qee (DD X n) n a0 a1:=(qk X Tryz.func213 (by kernel_rfl) (hX 213 rfl) n _).trans (qo1 ..)
end Go.G


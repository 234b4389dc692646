import Derived.Test.YtfafjngknkbngaaGreatAPFnExactRemove0
set_option linter.unusedVariables false
set_option linter.unusedSimpArgs false
set_option linter.unusedSectionVars false
namespace Go.G
set_option maxRecDepth 100000
set_option maxHeartbeats 0
open Go Go.V
noncomputable section
def qte (D:DX)(n:Nat) (go:List Int→Int→Int→Int→tSch→Option ((Bool×Unit)×Unit)) (K0:List Int→Int→Bool→Int→tSch→Option ((Bool×Unit)×Unit)) (K1:List Int→Int→Int→tSch→Option ((Bool×Unit)×Unit)) (x1_0:List Int) (x1_1:Int) (x1_2:Int) (x1_3:Int) (x1_4:tSch):Option ((Bool×Unit)×Unit):=br (decide (x1_3<x1_2)) (br (decide (0≤x1_3)&&decide (x1_3<(↑(List.length x1_0):Int))) (br (decide (0≤x1_2)&&decide (x1_2<(↑(List.length x1_0):Int))) (br (decide (List.getD x1_0 (Int.toNat x1_3) 0=List.getD x1_0 (Int.toNat x1_2) 0)) (K0 x1_0 x1_1 false x1_2 x1_4) (go x1_0 x1_1 x1_2 (IntKind.wrap IntKind.i64 (x1_3+1)) x1_4)) none) none) (K1 x1_0 x1_1 x1_2 x1_4)
def qg5 (D:DX)(n:Nat) (K0:List Int→Int→Bool→Int→tSch→Option ((Bool×Unit)×Unit)) (K1:List Int→Int→Int→tSch→Option ((Bool×Unit)×Unit)):Nat→(List Int)→(Int)→(Int)→(Int)→(tSch)→Option ((Bool×Unit)×Unit) | 0=>(fun x1_0 x1_1 x1_2 x1_3 x1_4=>none) | m+1=>(fun x1_0 x1_1 x1_2 x1_3 x1_4=>qte D n (qg5 D n K0 K1 m) K0 K1 x1_0 x1_1 x1_2 x1_3 x1_4)
def qy9 (D:DX)(n:Nat) (go:List Int→Int→Int→tSch→Option ((Bool×Unit)×Unit)) (K0:List Int→Int→Bool→Option ((Bool×Unit)×Unit)) (K1:List Int→Int→Option ((Bool×Unit)×Unit)) (v0_0:List Int) (v0_1:Int) (v0_2:Bool) (v0_3:Int) (v0_4:tSch):Option ((Bool×Unit)×Unit):=K0 v0_0 v0_1 v0_2
def qp7 (D:DX)(n:Nat) (go:List Int→Int→Int→tSch→Option ((Bool×Unit)×Unit)) (K0:List Int→Int→Bool→Option ((Bool×Unit)×Unit)) (K1:List Int→Int→Option ((Bool×Unit)×Unit)) (v1_0:List Int) (v1_1:Int) (v1_2:Int) (v1_3:tSch):Option ((Bool×Unit)×Unit):=go v1_0 v1_1 (IntKind.wrap IntKind.i64 (v1_2+1)) v1_3
def qsi (D:DX)(n:Nat) (go:List Int→Int→Int→tSch→Option ((Bool×Unit)×Unit)) (K0:List Int→Int→Bool→Option ((Bool×Unit)×Unit)) (K1:List Int→Int→Option ((Bool×Unit)×Unit)):(List Int)→(Int)→(Int)→(Int)→(tSch)→Option ((Bool×Unit)×Unit):=(fun x1_0 x1_1 x1_2 x1_3 x1_4=>qg5 D n (fun v0_0 v0_1 v0_2 v0_3 v0_4=>qy9 D n go K0 K1 v0_0 v0_1 v0_2 v0_3 v0_4) (fun v1_0 v1_1 v1_2 v1_3=>qp7 D n go K0 K1 v1_0 v1_1 v1_2 v1_3) n x1_0 x1_1 x1_2 x1_3 x1_4)
def qt6 (D:DX)(n:Nat) (go:List Int→Int→Int→tSch→Option ((Bool×Unit)×Unit)) (K0:List Int→Int→Bool→Option ((Bool×Unit)×Unit)) (K1:List Int→Int→Option ((Bool×Unit)×Unit)) (lp1:List Int→Int→Int→Int→tSch→Option ((Bool×Unit)×Unit)) (x0:List Int) (x1:Int) (x2:Int) (x3:tSch):Option ((Bool×Unit)×Unit):=br (decide (x2<(↑(List.length x0):Int))) (br (decide (0≤x2)&&decide (x2<(↑(List.length x0):Int))) (qj (qgn D (List.getD x0 (Int.toNat x2) 0) 0 (IntKind.wrap IntKind.i64 ((↑(List.length (Prod.fst x3)):Int) - 1))) fun b↦br (!Prod.fst (Prod.fst b)) (K0 x0 x1 false) (lp1 x0 x1 x2 0 x3)) none) (K1 x0 x1)
def qd5 (D:DX)(n:Nat) (K0:List Int→Int→Bool→Option ((Bool×Unit)×Unit)) (K1:List Int→Int→Option ((Bool×Unit)×Unit)):Nat→(List Int)→(Int)→(Int)→(tSch)→Option ((Bool×Unit)×Unit) | 0=>(fun x0 x1 x2 x3=>none) | m+1=>(fun x0 x1 x2 x3=>qt6 D n (qd5 D n K0 K1 m) K0 K1 (qsi D n (qd5 D n K0 K1 m) K0 K1) x0 x1 x2 x3)
def qqi (D:DX)(n:Nat) (v0_0:List Int) (v0_1:Int) (v0_2:Bool):Option ((Bool×Unit)×Unit):=some ((v0_2,()),())
def qkz (D:DX)(n:Nat) (v1_0:List Int) (v1_1:Int):Option ((Bool×Unit)×Unit):=qj (qgn D (↑(List.length v1_0):Int) 1 v1_1) fun b↦some ((Prod.fst (Prod.fst b),()),())
def qri (D:DX)(n:Nat):(List Int)→(Int)→(Int)→(tSch)→Option ((Bool×Unit)×Unit):=(fun x0 x1 x2 x3=>qd5 D n (fun v0_0 v0_1 v0_2=>qqi D n v0_0 v0_1 v0_2) (fun v1_0 v1_1=>qkz D n v1_0 v1_1) n x0 x1 x2 x3)
def qwj (D:DX)(n:Nat) (lp0:List Int→Int→Int→tSch→Option ((Bool×Unit)×Unit)) (a0:tSch) (a1:List Int) (a2:Int):Option ((Bool×Unit)×Unit):=lp0 a1 a2 0 a0
def qwc (D:DX)(n:Nat) (a0:tSch) (a1:List Int) (a2:Int):Option ((Bool×Unit)×Unit):=qwj D n (qri D n) a0 a1 a2
def qdh (x0:List Int) (x1:Int) (x2:Int) (x3:tSch):St:=stq 43 [(1,AV.val (Ty.sl yI) x0),(2,avI x1),(3,AV.addr 3 []),(7,avI x2)] [(3,Root.mk yS Mk.no x3 true)] 
def qd8 (v0_0:List Int) (v0_1:Int) (v0_2:Bool):St:=stq 43 [(1,AV.val (Ty.sl yI) v0_0),(2,avI v0_1),(6,AV.val Ty.bool v0_2)] [] 
def qeb (v1_0:List Int) (v1_1:Int):St:=stq 43 [(1,AV.val (Ty.sl yI) v1_0),(2,avI v1_1)] [] 
def qg8 (x1_0:List Int) (x1_1:Int) (x1_2:Int) (x1_3:Int) (x1_4:tSch):St:=stq 43 [(1,AV.val (Ty.sl yI) x1_0),(2,avI x1_1),(3,AV.addr 3 []),(7,avI x1_2),(8,avI x1_3)] [(3,Root.mk yS Mk.no x1_4 true)] 
def qky (v0_0:List Int) (v0_1:Int) (v0_2:Bool) (v0_3:Int) (v0_4:tSch):St:=stq 43 [(1,AV.val (Ty.sl yI) v0_0),(2,avI v0_1),(3,AV.addr 3 []),(6,AV.val Ty.bool v0_2),(7,avI v0_3)] [(3,Root.mk yS Mk.no v0_4 true)] 
def qlb (v1_0:List Int) (v1_1:Int) (v1_2:Int) (v1_3:tSch):St:=stq 43 [(1,AV.val (Ty.sl yI) v1_0),(2,avI v1_1),(3,AV.addr 3 []),(7,avI v1_2)] [(3,Root.mk yS Mk.no v1_3 true)] 
theorem qbb5 (D:DX)(n:Nat) (m:Nat) (K:Ex→St→Option (Out ctx 168)) (x1_0:List Int) (x1_1:Int) (x1_2:Int) (x1_3:Int) (x1_4:tSch) :
 LQ qc D n 168 [.r,.l,.r,.l,.l,.r,.l,.l,.r,.r,.l] (m+1) (qg8 x1_0 x1_1 x1_2 x1_3 x1_4) K=qte D n (fun x1_0 x1_1 x1_2 x1_3 x1_4=>LQ qc D n 168 [.r,.l,.r,.l,.l,.r,.l,.l,.r,.r,.l] m (qg8 x1_0 x1_1 x1_2 x1_3 x1_4) K) (fun v0_0 v0_1 v0_2 v0_3 v0_4=>K (Ex.ret) (qky v0_0 v0_1 v0_2 v0_3 v0_4)) (fun v1_0 v1_1 v1_2 v1_3=>K (Ex.exit 2) (qlb v1_0 v1_1 v1_2 v1_3)) x1_0 x1_1 x1_2 x1_3 x1_4:=by kernel_rfl
theorem q1q (D:DX)(n:Nat) (K:Ex→St→Option (Out ctx 168)):∀ (m:Nat) (x1_0:List Int) (x1_1:Int) (x1_2:Int) (x1_3:Int) (x1_4:tSch),LQ qc D n 168 [.r,.l,.r,.l,.l,.r,.l,.l,.r,.r,.l] m (qg8 x1_0 x1_1 x1_2 x1_3 x1_4) K=qg5 D n (fun v0_0 v0_1 v0_2 v0_3 v0_4=>K (Ex.ret) (qky v0_0 v0_1 v0_2 v0_3 v0_4)) (fun v1_0 v1_1 v1_2 v1_3=>K (Ex.exit 2) (qlb v1_0 v1_1 v1_2 v1_3)) m x1_0 x1_1 x1_2 x1_3 x1_4
 | 0,x1_0,x1_1,x1_2,x1_3,x1_4=>qy ..
 | m+1,x1_0,x1_1,x1_2,x1_3,x1_4=>by
  have ih:(fun x1_0 x1_1 x1_2 x1_3 x1_4=>LQ qc D n 168 [.r,.l,.r,.l,.l,.r,.l,.l,.r,.r,.l] m (qg8 x1_0 x1_1 x1_2 x1_3 x1_4) K)=qg5 D n (fun v0_0 v0_1 v0_2 v0_3 v0_4=>K (Ex.ret) (qky v0_0 v0_1 v0_2 v0_3 v0_4)) (fun v1_0 v1_1 v1_2 v1_3=>K (Ex.exit 2) (qlb v1_0 v1_1 v1_2 v1_3)) m:=by funext x1_0 x1_1 x1_2 x1_3 x1_4;exact q1q D n K m x1_0 x1_1 x1_2 x1_3 x1_4
  rw[qbb5]
  rw[ih];rfl
theorem qbay (D:DX)(n:Nat) (m:Nat) (K:Ex→St→Option (Out ctx 168)) (v0_0:List Int) (v0_1:Int) (v0_2:Bool) (v0_3:Int) (v0_4:tSch) :
 (CQ qc D n 168 [.r,.l,.r,.l,.l] [.r,.l,.l,.r,.r,.l] (LK qc D n 168 [.r,.l,.r,.l] m K)) (Ex.ret) (qky v0_0 v0_1 v0_2 v0_3 v0_4)=qy9 D n (fun x0 x1 x2 x3=>LQ qc D n 168 [.r,.l,.r,.l] m (qdh x0 x1 x2 x3) K) (fun v0_0 v0_1 v0_2=>K (Ex.ret) (qd8 v0_0 v0_1 v0_2)) (fun v1_0 v1_1=>K (Ex.exit 0) (qeb v1_0 v1_1)) v0_0 v0_1 v0_2 v0_3 v0_4:=by kernel_rfl
theorem qbad (D:DX)(n:Nat) (m:Nat) (K:Ex→St→Option (Out ctx 168)) (v1_0:List Int) (v1_1:Int) (v1_2:Int) (v1_3:tSch) :
 (CQ qc D n 168 [.r,.l,.r,.l,.l] [.r,.l,.l,.r,.r,.l] (LK qc D n 168 [.r,.l,.r,.l] m K)) (Ex.exit 2) (qlb v1_0 v1_1 v1_2 v1_3)=qp7 D n (fun x0 x1 x2 x3=>LQ qc D n 168 [.r,.l,.r,.l] m (qdh x0 x1 x2 x3) K) (fun v0_0 v0_1 v0_2=>K (Ex.ret) (qd8 v0_0 v0_1 v0_2)) (fun v1_0 v1_1=>K (Ex.exit 0) (qeb v1_0 v1_1)) v1_0 v1_1 v1_2 v1_3:=by kernel_rfl
theorem qbak (D:DX)(n:Nat) (m:Nat) (K:Ex→St→Option (Out ctx 168)) (x1_0:List Int) (x1_1:Int) (x1_2:Int) (x1_3:Int) (x1_4:tSch) :
 LQ qc D n 168 [.r,.l,.r,.l,.l,.r,.l,.l,.r,.r,.l] n (qg8 x1_0 x1_1 x1_2 x1_3 x1_4) (CQ qc D n 168 [.r,.l,.r,.l,.l] [.r,.l,.l,.r,.r,.l] (LK qc D n 168 [.r,.l,.r,.l] m K))=qsi D n (fun x0 x1 x2 x3=>LQ qc D n 168 [.r,.l,.r,.l] m (qdh x0 x1 x2 x3) K) (fun v0_0 v0_1 v0_2=>K (Ex.ret) (qd8 v0_0 v0_1 v0_2)) (fun v1_0 v1_1=>K (Ex.exit 0) (qeb v1_0 v1_1)) x1_0 x1_1 x1_2 x1_3 x1_4:=by
 rw[q1q]
 simp only[qbay,qbad]
 rfl
theorem qbbs (D:DX)(n:Nat) (m:Nat) (K:Ex→St→Option (Out ctx 168)) (x0:List Int) (x1:Int) (x2:Int) (x3:tSch) :
 LQ qc D n 168 [.r,.l,.r,.l] (m+1) (qdh x0 x1 x2 x3) K=qt6 D n (fun x0 x1 x2 x3=>LQ qc D n 168 [.r,.l,.r,.l] m (qdh x0 x1 x2 x3) K) (fun v0_0 v0_1 v0_2=>K (Ex.ret) (qd8 v0_0 v0_1 v0_2)) (fun v1_0 v1_1=>K (Ex.exit 0) (qeb v1_0 v1_1)) (fun x1_0 x1_1 x1_2 x1_3 x1_4=>LQ qc D n 168 [.r,.l,.r,.l,.l,.r,.l,.l,.r,.r,.l] n (qg8 x1_0 x1_1 x1_2 x1_3 x1_4) (CQ qc D n 168 [.r,.l,.r,.l,.l] [.r,.l,.l,.r,.r,.l] (LK qc D n 168 [.r,.l,.r,.l] m K))) x0 x1 x2 x3:=by kernel_rfl
theorem q1o (D:DX)(n:Nat) (K:Ex→St→Option (Out ctx 168)):∀ (m:Nat) (x0:List Int) (x1:Int) (x2:Int) (x3:tSch),LQ qc D n 168 [.r,.l,.r,.l] m (qdh x0 x1 x2 x3) K=qd5 D n (fun v0_0 v0_1 v0_2=>K (Ex.ret) (qd8 v0_0 v0_1 v0_2)) (fun v1_0 v1_1=>K (Ex.exit 0) (qeb v1_0 v1_1)) m x0 x1 x2 x3
 | 0,x0,x1,x2,x3=>qy ..
 | m+1,x0,x1,x2,x3=>by
  have ih:(fun x0 x1 x2 x3=>LQ qc D n 168 [.r,.l,.r,.l] m (qdh x0 x1 x2 x3) K)=qd5 D n (fun v0_0 v0_1 v0_2=>K (Ex.ret) (qd8 v0_0 v0_1 v0_2)) (fun v1_0 v1_1=>K (Ex.exit 0) (qeb v1_0 v1_1)) m:=by funext x0 x1 x2 x3;exact q1o D n K m x0 x1 x2 x3
  rw[qbbs]
  simp only[qbak]
  rw[ih];rfl
theorem qbas (D:DX)(n:Nat) (v0_0:List Int) (v0_1:Int) (v0_2:Bool) :
 (CQ qc D n 168 [] [.r,.l,.r,.l] (qi qc 168)) (Ex.ret) (qd8 v0_0 v0_1 v0_2)=qqi D n v0_0 v0_1 v0_2:=by kernel_rfl
theorem qbar (D:DX)(n:Nat) (v1_0:List Int) (v1_1:Int) :
 (CQ qc D n 168 [] [.r,.l,.r,.l] (qi qc 168)) (Ex.exit 0) (qeb v1_0 v1_1)=qkz D n v1_0 v1_1:=by kernel_rfl
theorem qbag (D:DX)(n:Nat) (x0:List Int) (x1:Int) (x2:Int) (x3:tSch) :
 LQ qc D n 168 [.r,.l,.r,.l] n (qdh x0 x1 x2 x3) (CQ qc D n 168 [] [.r,.l,.r,.l] (qi qc 168))=qri D n x0 x1 x2 x3:=by
 rw[q1o]
 simp only[qbas,qbar]
 rfl
theorem qbgz (D:DX)(n:Nat) (a0:tSch) (a1:List Int) (a2:Int):rfC qc D n 168 (a0,(a1,(a2,())))=qwc D n a0 a1 a2:=by
 have h:rfC qc D n 168 (a0,(a1,(a2,())))=qwj D n (fun x0 x1 x2 x3=>LQ qc D n 168 [.r,.l,.r,.l] n (qdh x0 x1 x2 x3) (CQ qc D n 168 [] [.r,.l,.r,.l] (qi qc 168))) a0 a1 a2:=by kernel_rfl
 rw[h]
 simp only[qbag]
 rfl

def qsp (D:DX)(n:Nat) (go:Int→Int→tSch→ByteArray×List Int×Bool×Unit→Option ((Bool×Unit)×Unit)) (K0:Bool→Int→tSch→Option ((Bool×Unit)×Unit)) (K1:Int→tSch→Option ((Bool×Unit)×Unit)) (x1_0:Int) (x1_1:Int) (x1_2:tSch) (x1_3:ByteArray×List Int×Bool×Unit):Option ((Bool×Unit)×Unit):=br (decide (x1_1<x1_0)) (br (decide (0≤x1_1)&&decide (x1_1<(↑(List.length (Prod.fst (Prod.snd (Prod.snd x1_2)))):Int))) (br (List.beq (ByteArray.toList (Prod.fst (List.getD (Prod.fst (Prod.snd (Prod.snd x1_2))) (Int.toNat x1_1) (ByteArray.empty,[],false,())))) (ByteArray.toList (Prod.fst x1_3))) (K0 false x1_0 x1_2) (go x1_0 (IntKind.wrap IntKind.i64 (x1_1+1)) x1_2 x1_3)) none) (K1 x1_0 x1_2)
def qf9 (D:DX)(n:Nat) (K0:Bool→Int→tSch→Option ((Bool×Unit)×Unit)) (K1:Int→tSch→Option ((Bool×Unit)×Unit)):Nat→(Int)→(Int)→(tSch)→tIx→Option ((Bool×Unit)×Unit) | 0=>(fun x1_0 x1_1 x1_2 x1_3=>none) | m+1=>(fun x1_0 x1_1 x1_2 x1_3=>qsp D n (qf9 D n K0 K1 m) K0 K1 x1_0 x1_1 x1_2 x1_3)
def qyh (D:DX)(n:Nat) (go:Int→tSch→Option ((Bool×Unit)×Unit)) (K0:Bool→tSch→Option ((Bool×Unit)×Unit)) (K1:tSch→Option ((Bool×Unit)×Unit)) (v0_0:Bool) (v0_1:Int) (v0_2:tSch):Option ((Bool×Unit)×Unit):=K0 v0_0 v0_2
def qo4 (D:DX)(n:Nat) (go:Int→tSch→Option ((Bool×Unit)×Unit)) (K0:Bool→tSch→Option ((Bool×Unit)×Unit)) (K1:tSch→Option ((Bool×Unit)×Unit)) (v1_0:Int) (v1_1:tSch):Option ((Bool×Unit)×Unit):=go (IntKind.wrap IntKind.i64 (v1_0+1)) v1_1
def qp8 (D:DX)(n:Nat) (go:Int→tSch→Option ((Bool×Unit)×Unit)) (K0:Bool→tSch→Option ((Bool×Unit)×Unit)) (K1:tSch→Option ((Bool×Unit)×Unit)):(Int)→(Int)→(tSch)→tIx→Option ((Bool×Unit)×Unit):=(fun x1_0 x1_1 x1_2 x1_3=>qf9 D n (fun v0_0 v0_1 v0_2=>qyh D n go K0 K1 v0_0 v0_1 v0_2) (fun v1_0 v1_1=>qo4 D n go K0 K1 v1_0 v1_1) n x1_0 x1_1 x1_2 x1_3)
def qrn (D:DX)(n:Nat) (go:Int→tSch→Option ((Bool×Unit)×Unit)) (K0:Bool→tSch→Option ((Bool×Unit)×Unit)) (K1:tSch→Option ((Bool×Unit)×Unit)) (lp1:Int→Int→tSch→ByteArray×List Int×Bool×Unit→Option ((Bool×Unit)×Unit)) (x0:Int) (x1:tSch):Option ((Bool×Unit)×Unit):=br (decide (x0<(↑(List.length (Prod.fst (Prod.snd (Prod.snd x1)))):Int))) (br (decide (0≤x0)&&decide (x0<(↑(List.length (Prod.fst (Prod.snd (Prod.snd x1)))):Int))) (qj (qo9 D (Prod.fst (List.getD (Prod.fst (Prod.snd (Prod.snd x1))) (Int.toNat x0) (ByteArray.empty,[],false,())))) fun b↦br (!Prod.fst (Prod.fst b)) (K0 false x1) (qj (qou D x1 (Prod.fst (Prod.snd (List.getD (Prod.fst (Prod.snd (Prod.snd x1))) (Int.toNat x0) (ByteArray.empty,[],false,())))) 3) fun b↦br (!Prod.fst (Prod.fst b)) (K0 false x1) (lp1 x0 0 x1 (List.getD (Prod.fst (Prod.snd (Prod.snd x1))) (Int.toNat x0) (ByteArray.empty,[],false,()))))) none) (K1 x1)
def qdp (D:DX)(n:Nat) (K0:Bool→tSch→Option ((Bool×Unit)×Unit)) (K1:tSch→Option ((Bool×Unit)×Unit)):Nat→(Int)→(tSch)→Option ((Bool×Unit)×Unit) | 0=>(fun x0 x1=>none) | m+1=>(fun x0 x1=>qrn D n (qdp D n K0 K1 m) K0 K1 (qp8 D n (qdp D n K0 K1 m) K0 K1) x0 x1)
def qpi (D:DX)(n:Nat) (v0_0:Bool) (v0_1:tSch):Option ((Bool×Unit)×Unit):=some ((v0_0,()),())
def qo0 (D:DX)(n:Nat) (v1_0:tSch):Option ((Bool×Unit)×Unit):=some ((decide ((↑(List.length (Prod.fst (Prod.snd (Prod.snd v1_0)))):Int)≤3),()),())
def qqg (D:DX)(n:Nat):(Int)→(tSch)→Option ((Bool×Unit)×Unit):=(fun x0 x1=>qdp D n (fun v0_0 v0_1=>qpi D n v0_0 v0_1) (fun v1_0=>qo0 D n v1_0) n x0 x1)
def qum (D:DX)(n:Nat) (lp0:Int→tSch→Option ((Bool×Unit)×Unit)) (a0:tSch):Option ((Bool×Unit)×Unit):=lp0 0 a0
def qt9 (D:DX)(n:Nat) (a0:tSch):Option ((Bool×Unit)×Unit):=qum D n (qqg D n) a0
def qdc (x0:Int) (x1:tSch):St:=stq 47 [(1,AV.addr 1 []),(3,avI x0)] [(1,Root.mk yS Mk.no x1 true)] 
def qdv (v0_0:Bool) (v0_1:tSch):St:=stq 47 [(1,AV.addr 1 []),(2,AV.val Ty.bool v0_0)] [(1,Root.mk yS Mk.no v0_1 true)] 
def qdw (v1_0:tSch):St:=stq 47 [(1,AV.addr 1 [])] [(1,Root.mk yS Mk.no v1_0 true)] 
def qf8 (x1_0:Int) (x1_1:Int) (x1_2:tSch) (x1_3:ByteArray×List Int×Bool×Unit):St:=stq 47 [(1,AV.addr 1 []),(3,avI x1_0),(4,AV.addr 4 []),(5,avI x1_1)] [(1,Root.mk yS Mk.no x1_2 true),(4,Root.mk yX Mk.no x1_3 true)] 
def qj1 (v0_0:Bool) (v0_1:Int) (v0_2:tSch):St:=stq 47 [(1,AV.addr 1 []),(2,AV.val Ty.bool v0_0),(3,avI v0_1)] [(1,Root.mk yS Mk.no v0_2 true)] 
def qjv (v1_0:Int) (v1_1:tSch):St:=stq 47 [(1,AV.addr 1 []),(3,avI v1_0)] [(1,Root.mk yS Mk.no v1_1 true)] 
theorem qbao (D:DX)(n:Nat) (m:Nat) (K:Ex→St→Option (Out ctx 169)) (x1_0:Int) (x1_1:Int) (x1_2:tSch) (x1_3:ByteArray×List Int×Bool×Unit) :
 LQ qc D n 169 [.r,.l,.r,.l,.l,.r,.l,.l,.r,.r,.r,.l] (m+1) (qf8 x1_0 x1_1 x1_2 x1_3) K=qsp D n (fun x1_0 x1_1 x1_2 x1_3=>LQ qc D n 169 [.r,.l,.r,.l,.l,.r,.l,.l,.r,.r,.r,.l] m (qf8 x1_0 x1_1 x1_2 x1_3) K) (fun v0_0 v0_1 v0_2=>K (Ex.ret) (qj1 v0_0 v0_1 v0_2)) (fun v1_0 v1_1=>K (Ex.exit 2) (qjv v1_0 v1_1)) x1_0 x1_1 x1_2 x1_3:=by kernel_rfl
theorem qzl (D:DX)(n:Nat) (K:Ex→St→Option (Out ctx 169)):∀ (m:Nat) (x1_0:Int) (x1_1:Int) (x1_2:tSch) (x1_3:ByteArray×List Int×Bool×Unit),LQ qc D n 169 [.r,.l,.r,.l,.l,.r,.l,.l,.r,.r,.r,.l] m (qf8 x1_0 x1_1 x1_2 x1_3) K=qf9 D n (fun v0_0 v0_1 v0_2=>K (Ex.ret) (qj1 v0_0 v0_1 v0_2)) (fun v1_0 v1_1=>K (Ex.exit 2) (qjv v1_0 v1_1)) m x1_0 x1_1 x1_2 x1_3
 | 0,x1_0,x1_1,x1_2,x1_3=>qy ..
 | m+1,x1_0,x1_1,x1_2,x1_3=>by
  have ih:(fun x1_0 x1_1 x1_2 x1_3=>LQ qc D n 169 [.r,.l,.r,.l,.l,.r,.l,.l,.r,.r,.r,.l] m (qf8 x1_0 x1_1 x1_2 x1_3) K)=qf9 D n (fun v0_0 v0_1 v0_2=>K (Ex.ret) (qj1 v0_0 v0_1 v0_2)) (fun v1_0 v1_1=>K (Ex.exit 2) (qjv v1_0 v1_1)) m:=by funext x1_0 x1_1 x1_2 x1_3;exact qzl D n K m x1_0 x1_1 x1_2 x1_3
  rw[qbao]
  rw[ih];rfl
theorem q9j (D:DX)(n:Nat) (m:Nat) (K:Ex→St→Option (Out ctx 169)) (v0_0:Bool) (v0_1:Int) (v0_2:tSch) :
 (CQ qc D n 169 [.r,.l,.r,.l,.l] [.r,.l,.l,.r,.r,.r,.l] (LK qc D n 169 [.r,.l,.r,.l] m K)) (Ex.ret) (qj1 v0_0 v0_1 v0_2)=qyh D n (fun x0 x1=>LQ qc D n 169 [.r,.l,.r,.l] m (qdc x0 x1) K) (fun v0_0 v0_1=>K (Ex.ret) (qdv v0_0 v0_1)) (fun v1_0=>K (Ex.exit 0) (qdw v1_0)) v0_0 v0_1 v0_2:=by kernel_rfl
theorem q9p (D:DX)(n:Nat) (m:Nat) (K:Ex→St→Option (Out ctx 169)) (v1_0:Int) (v1_1:tSch) :
 (CQ qc D n 169 [.r,.l,.r,.l,.l] [.r,.l,.l,.r,.r,.r,.l] (LK qc D n 169 [.r,.l,.r,.l] m K)) (Ex.exit 2) (qjv v1_0 v1_1)=qo4 D n (fun x0 x1=>LQ qc D n 169 [.r,.l,.r,.l] m (qdc x0 x1) K) (fun v0_0 v0_1=>K (Ex.ret) (qdv v0_0 v0_1)) (fun v1_0=>K (Ex.exit 0) (qdw v1_0)) v1_0 v1_1:=by kernel_rfl
theorem q8q (D:DX)(n:Nat) (m:Nat) (K:Ex→St→Option (Out ctx 169)) (x1_0:Int) (x1_1:Int) (x1_2:tSch) (x1_3:ByteArray×List Int×Bool×Unit) :
 LQ qc D n 169 [.r,.l,.r,.l,.l,.r,.l,.l,.r,.r,.r,.l] n (qf8 x1_0 x1_1 x1_2 x1_3) (CQ qc D n 169 [.r,.l,.r,.l,.l] [.r,.l,.l,.r,.r,.r,.l] (LK qc D n 169 [.r,.l,.r,.l] m K))=qp8 D n (fun x0 x1=>LQ qc D n 169 [.r,.l,.r,.l] m (qdc x0 x1) K) (fun v0_0 v0_1=>K (Ex.ret) (qdv v0_0 v0_1)) (fun v1_0=>K (Ex.exit 0) (qdw v1_0)) x1_0 x1_1 x1_2 x1_3:=by
 rw[qzl]
 simp only[q9j,q9p]
 rfl
theorem qbax (D:DX)(n:Nat) (m:Nat) (K:Ex→St→Option (Out ctx 169)) (x0:Int) (x1:tSch) :
 LQ qc D n 169 [.r,.l,.r,.l] (m+1) (qdc x0 x1) K=qrn D n (fun x0 x1=>LQ qc D n 169 [.r,.l,.r,.l] m (qdc x0 x1) K) (fun v0_0 v0_1=>K (Ex.ret) (qdv v0_0 v0_1)) (fun v1_0=>K (Ex.exit 0) (qdw v1_0)) (fun x1_0 x1_1 x1_2 x1_3=>LQ qc D n 169 [.r,.l,.r,.l,.l,.r,.l,.l,.r,.r,.r,.l] n (qf8 x1_0 x1_1 x1_2 x1_3) (CQ qc D n 169 [.r,.l,.r,.l,.l] [.r,.l,.l,.r,.r,.r,.l] (LK qc D n 169 [.r,.l,.r,.l] m K))) x0 x1:=by kernel_rfl
theorem qzh (D:DX)(n:Nat) (K:Ex→St→Option (Out ctx 169)):∀ (m:Nat) (x0:Int) (x1:tSch),LQ qc D n 169 [.r,.l,.r,.l] m (qdc x0 x1) K=qdp D n (fun v0_0 v0_1=>K (Ex.ret) (qdv v0_0 v0_1)) (fun v1_0=>K (Ex.exit 0) (qdw v1_0)) m x0 x1
 | 0,x0,x1=>qy ..
 | m+1,x0,x1=>by
  have ih:(fun x0 x1=>LQ qc D n 169 [.r,.l,.r,.l] m (qdc x0 x1) K)=qdp D n (fun v0_0 v0_1=>K (Ex.ret) (qdv v0_0 v0_1)) (fun v1_0=>K (Ex.exit 0) (qdw v1_0)) m:=by funext x0 x1;exact qzh D n K m x0 x1
  rw[qbax]
  simp only[q8q]
  rw[ih];rfl
theorem q9k (D:DX)(n:Nat) (v0_0:Bool) (v0_1:tSch) :
 (CQ qc D n 169 [] [.r,.l,.r,.l] (qi qc 169)) (Ex.ret) (qdv v0_0 v0_1)=qpi D n v0_0 v0_1:=by kernel_rfl
theorem q9b (D:DX)(n:Nat) (v1_0:tSch) :
 (CQ qc D n 169 [] [.r,.l,.r,.l] (qi qc 169)) (Ex.exit 0) (qdw v1_0)=qo0 D n v1_0:=by kernel_rfl
theorem q9a (D:DX)(n:Nat) (x0:Int) (x1:tSch) :
 LQ qc D n 169 [.r,.l,.r,.l] n (qdc x0 x1) (CQ qc D n 169 [] [.r,.l,.r,.l] (qi qc 169))=qqg D n x0 x1:=by
 rw[qzh]
 simp only[q9k,q9b]
 rfl
theorem qbd4 (D:DX)(n:Nat) (a0:tSch):rfC qc D n 169 (a0,())=qt9 D n a0:=by
 have h:rfC qc D n 169 (a0,())=qum D n (fun x0 x1=>LQ qc D n 169 [.r,.l,.r,.l] n (qdc x0 x1) (CQ qc D n 169 [] [.r,.l,.r,.l] (qi qc 169))) a0:=by kernel_rfl
 rw[h]
 simp only[q9a]
 rfl

def q0c (D:DX)(n:Nat) (go:qk→Int→Int→Option ((Int×Unit)×Unit)) (K0:Int→Int→Option ((Int×Unit)×Unit)) (K1:Int→Option ((Int×Unit)×Unit)) (x0:qk) (x1:Int) (x2:Int):Option ((Int×Unit)×Unit):=br (decide (x2<(↑(List.length x0):Int))) (br (decide (0≤x2)&&decide (x2<(↑(List.length x0):Int))) (qj (qw1 D (List.getD x0 (Int.toNat x2) (ByteArray.empty,0,false,())) x1) fun b↦br (decide (Prod.fst (Prod.fst b)<0)) (K0 (Prod.fst (Prod.fst b)) (-1)) (go x0 (Prod.fst (Prod.fst b)) (IntKind.wrap IntKind.i64 (x2+1)))) none) (K1 x1)
def qkg (D:DX)(n:Nat) (K0:Int→Int→Option ((Int×Unit)×Unit)) (K1:Int→Option ((Int×Unit)×Unit)):Nat→(qk)→(Int)→(Int)→Option ((Int×Unit)×Unit) | 0=>(fun x0 x1 x2=>none) | m+1=>(fun x0 x1 x2=>q0c D n (qkg D n K0 K1 m) K0 K1 x0 x1 x2)
def qvy (D:DX)(n:Nat) (v0_0:Int) (v0_1:Int):Option ((Int×Unit)×Unit):=some ((v0_1,()),())
def qve (D:DX)(n:Nat) (v1_0:Int):Option ((Int×Unit)×Unit):=some ((v1_0,()),())
def qw9 (D:DX)(n:Nat):(qk)→(Int)→(Int)→Option ((Int×Unit)×Unit):=(fun x0 x1 x2=>qkg D n (fun v0_0 v0_1=>qvy D n v0_0 v0_1) (fun v1_0=>qve D n v1_0) n x0 x1 x2)
def q20 (D:DX)(n:Nat) (lp0:qk→Int→Int→Option ((Int×Unit)×Unit)) (a0:qk) (a1:Int):Option ((Int×Unit)×Unit):=br (decide (IntKind.wrap IntKind.i64 (a1 - (↑(List.length a0):Int))<0)) (some ((-1,()),())) (lp0 a0 (IntKind.wrap IntKind.i64 (a1 - (↑(List.length a0):Int))) 0)
def q2i (D:DX)(n:Nat) (a0:qk) (a1:Int):Option ((Int×Unit)×Unit):=q20 D n (qw9 D n) a0 a1
def qkj (x0:qk) (x1:Int) (x2:Int):St:=stq 27 [(0,AV.val (Ty.sl yC) x0),(1,avI x1),(5,avI x2)] [] 
def qpa (v0_0:Int) (v0_1:Int):St:=stq 27 [(1,avI v0_0),(4,avI v0_1)] [] 
def qoz (v1_0:Int):St:=stq 27 [(1,avI v1_0)] [] 
theorem qbkt (D:DX)(n:Nat) (m:Nat) (K:Ex→St→Option (Out ctx 174)) (x0:qk) (x1:Int) (x2:Int) :
 LQ qc D n 174 [.r,.r,.r,.l,.r,.l] (m+1) (qkj x0 x1 x2) K=q0c D n (fun x0 x1 x2=>LQ qc D n 174 [.r,.r,.r,.l,.r,.l] m (qkj x0 x1 x2) K) (fun v0_0 v0_1=>K (Ex.ret) (qpa v0_0 v0_1)) (fun v1_0=>K (Ex.exit 0) (qoz v1_0)) x0 x1 x2:=by kernel_rfl
theorem q6f (D:DX)(n:Nat) (K:Ex→St→Option (Out ctx 174)):∀ (m:Nat) (x0:qk) (x1:Int) (x2:Int),LQ qc D n 174 [.r,.r,.r,.l,.r,.l] m (qkj x0 x1 x2) K=qkg D n (fun v0_0 v0_1=>K (Ex.ret) (qpa v0_0 v0_1)) (fun v1_0=>K (Ex.exit 0) (qoz v1_0)) m x0 x1 x2
 | 0,x0,x1,x2=>qy ..
 | m+1,x0,x1,x2=>by
  have ih:(fun x0 x1 x2=>LQ qc D n 174 [.r,.r,.r,.l,.r,.l] m (qkj x0 x1 x2) K)=qkg D n (fun v0_0 v0_1=>K (Ex.ret) (qpa v0_0 v0_1)) (fun v1_0=>K (Ex.exit 0) (qoz v1_0)) m:=by funext x0 x1 x2;exact q6f D n K m x0 x1 x2
  rw[qbkt]
  rw[ih];rfl
theorem qbgv (D:DX)(n:Nat) (v0_0:Int) (v0_1:Int) :
 (CQ qc D n 174 [] [.r,.r,.r,.l,.r,.l] (qi qc 174)) (Ex.ret) (qpa v0_0 v0_1)=qvy D n v0_0 v0_1:=by kernel_rfl
theorem qbgw (D:DX)(n:Nat) (v1_0:Int) :
 (CQ qc D n 174 [] [.r,.r,.r,.l,.r,.l] (qi qc 174)) (Ex.exit 0) (qoz v1_0)=qve D n v1_0:=by kernel_rfl
theorem qbhk (D:DX)(n:Nat) (x0:qk) (x1:Int) (x2:Int) :
 LQ qc D n 174 [.r,.r,.r,.l,.r,.l] n (qkj x0 x1 x2) (CQ qc D n 174 [] [.r,.r,.r,.l,.r,.l] (qi qc 174))=qw9 D n x0 x1 x2:=by
 rw[q6f]
 simp only[qbgv,qbgw]
 rfl
theorem qbn0 (D:DX)(n:Nat) (a0:qk) (a1:Int):rfC qc D n 174 (a0,(a1,()))=q2i D n a0 a1:=by
 have h:rfC qc D n 174 (a0,(a1,()))=q20 D n (fun x0 x1 x2=>LQ qc D n 174 [.r,.r,.r,.l,.r,.l] n (qkj x0 x1 x2) (CQ qc D n 174 [] [.r,.r,.r,.l,.r,.l] (qi qc 174))) a0 a1:=by kernel_rfl
 rw[h]
 simp only[qbhk]
 rfl

def q91 (D:DX)(n:Nat) (a0:List Int) (a1:Int):Option ((Int×Unit)×Unit):=br (decide (IntKind.wrap IntKind.i64 (a1 - (↑(List.length a0):Int))<0)) (some ((-1,()),())) (some ((IntKind.wrap IntKind.i64 (a1 - (↑(List.length a0):Int)),()),()))
def q2e (D:DX)(n:Nat) (a0:List Int) (a1:Int):Option ((Int×Unit)×Unit):=q91 D n a0 a1
theorem qbnr (D:DX)(n:Nat) (a0:List Int) (a1:Int):rfC qc D n 175 (a0,(a1,()))=q2e D n a0 a1:=by kernel_rfl

def qwf (D:DX)(n:Nat) (go:tIxs→Int→Int→Option ((Int×Unit)×Unit)) (K0:Int→Int→Option ((Int×Unit)×Unit)) (K1:Int→Option ((Int×Unit)×Unit)) (x0:tIxs) (x1:Int) (x2:Int):Option ((Int×Unit)×Unit):=br (decide (x2<(↑(List.length x0):Int))) (br (decide (0≤x2)&&decide (x2<(↑(List.length x0):Int))) (qj (qs3 D (List.getD x0 (Int.toNat x2) (ByteArray.empty,[],false,())) x1) fun b↦br (decide (Prod.fst (Prod.fst b)<0)) (K0 (Prod.fst (Prod.fst b)) (-1)) (go x0 (Prod.fst (Prod.fst b)) (IntKind.wrap IntKind.i64 (x2+1)))) none) (K1 x1)
def qh4 (D:DX)(n:Nat) (K0:Int→Int→Option ((Int×Unit)×Unit)) (K1:Int→Option ((Int×Unit)×Unit)):Nat→(tIxs)→(Int)→(Int)→Option ((Int×Unit)×Unit) | 0=>(fun x0 x1 x2=>none) | m+1=>(fun x0 x1 x2=>qwf D n (qh4 D n K0 K1 m) K0 K1 x0 x1 x2)
def qso (D:DX)(n:Nat) (v0_0:Int) (v0_1:Int):Option ((Int×Unit)×Unit):=some ((v0_1,()),())
def qrt (D:DX)(n:Nat) (v1_0:Int):Option ((Int×Unit)×Unit):=some ((v1_0,()),())
def qtu (D:DX)(n:Nat):(tIxs)→(Int)→(Int)→Option ((Int×Unit)×Unit):=(fun x0 x1 x2=>qh4 D n (fun v0_0 v0_1=>qso D n v0_0 v0_1) (fun v1_0=>qrt D n v1_0) n x0 x1 x2)
def qys (D:DX)(n:Nat) (lp0:tIxs→Int→Int→Option ((Int×Unit)×Unit)) (a0:tIxs) (a1:Int):Option ((Int×Unit)×Unit):=br (decide (IntKind.wrap IntKind.i64 (a1 - (↑(List.length a0):Int))<0)) (some ((-1,()),())) (lp0 a0 (IntKind.wrap IntKind.i64 (a1 - (↑(List.length a0):Int))) 0)
def qw0 (D:DX)(n:Nat) (a0:tIxs) (a1:Int):Option ((Int×Unit)×Unit):=qys D n (qtu D n) a0 a1
def qh9 (x0:tIxs) (x1:Int) (x2:Int):St:=stq 27 [(0,AV.val (Ty.sl yX) x0),(1,avI x1),(5,avI x2)] [] 
def qna (v0_0:Int) (v0_1:Int):St:=stq 27 [(1,avI v0_0),(4,avI v0_1)] [] 
def ql4 (v1_0:Int):St:=stq 27 [(1,avI v1_0)] [] 
theorem qbfc (D:DX)(n:Nat) (m:Nat) (K:Ex→St→Option (Out ctx 176)) (x0:tIxs) (x1:Int) (x2:Int) :
 LQ qc D n 176 [.r,.r,.r,.l,.r,.l] (m+1) (qh9 x0 x1 x2) K=qwf D n (fun x0 x1 x2=>LQ qc D n 176 [.r,.r,.r,.l,.r,.l] m (qh9 x0 x1 x2) K) (fun v0_0 v0_1=>K (Ex.ret) (qna v0_0 v0_1)) (fun v1_0=>K (Ex.exit 0) (ql4 v1_0)) x0 x1 x2:=by kernel_rfl
theorem q3k (D:DX)(n:Nat) (K:Ex→St→Option (Out ctx 176)):∀ (m:Nat) (x0:tIxs) (x1:Int) (x2:Int),LQ qc D n 176 [.r,.r,.r,.l,.r,.l] m (qh9 x0 x1 x2) K=qh4 D n (fun v0_0 v0_1=>K (Ex.ret) (qna v0_0 v0_1)) (fun v1_0=>K (Ex.exit 0) (ql4 v1_0)) m x0 x1 x2
 | 0,x0,x1,x2=>qy ..
 | m+1,x0,x1,x2=>by
  have ih:(fun x0 x1 x2=>LQ qc D n 176 [.r,.r,.r,.l,.r,.l] m (qh9 x0 x1 x2) K)=qh4 D n (fun v0_0 v0_1=>K (Ex.ret) (qna v0_0 v0_1)) (fun v1_0=>K (Ex.exit 0) (ql4 v1_0)) m:=by funext x0 x1 x2;exact q3k D n K m x0 x1 x2
  rw[qbfc]
  rw[ih];rfl
theorem qbca (D:DX)(n:Nat) (v0_0:Int) (v0_1:Int) :
 (CQ qc D n 176 [] [.r,.r,.r,.l,.r,.l] (qi qc 176)) (Ex.ret) (qna v0_0 v0_1)=qso D n v0_0 v0_1:=by kernel_rfl
theorem qbbl (D:DX)(n:Nat) (v1_0:Int) :
 (CQ qc D n 176 [] [.r,.r,.r,.l,.r,.l] (qi qc 176)) (Ex.exit 0) (ql4 v1_0)=qrt D n v1_0:=by kernel_rfl
theorem qbdl (D:DX)(n:Nat) (x0:tIxs) (x1:Int) (x2:Int) :
 LQ qc D n 176 [.r,.r,.r,.l,.r,.l] n (qh9 x0 x1 x2) (CQ qc D n 176 [] [.r,.r,.r,.l,.r,.l] (qi qc 176))=qtu D n x0 x1 x2:=by
 rw[q3k]
 simp only[qbca,qbbl]
 rfl
theorem qbir (D:DX)(n:Nat) (a0:tIxs) (a1:Int):rfC qc D n 176 (a0,(a1,()))=qw0 D n a0 a1:=by
 have h:rfC qc D n 176 (a0,(a1,()))=qys D n (fun x0 x1 x2=>LQ qc D n 176 [.r,.r,.r,.l,.r,.l] n (qh9 x0 x1 x2) (CQ qc D n 176 [] [.r,.r,.r,.l,.r,.l] (qi qc 176))) a0 a1:=by kernel_rfl
 rw[h]
 simp only[qbdl]
 rfl

def q0x (D:DX)(n:Nat) (go:qk→Int→qk→Option ((qk×Unit)×Unit)) (K0:qk→Option ((qk×Unit)×Unit)) (x0:qk) (x1:Int) (x2:qk):Option ((qk×Unit)×Unit):=br (decide (x1<(↑(List.length x0):Int))) (br (decide (0≤x1)&&decide (x1<(↑(List.length x0):Int))) (qj (qyk D (List.getD x0 (Int.toNat x1) (ByteArray.empty,0,false,()))) fun b↦br (decide (0≤x1)&&decide (x1<(↑(List.length x2):Int))) (go x0 (IntKind.wrap IntKind.i64 (x1+1)) (List.set x2 (Int.toNat x1) (Prod.fst (Prod.fst b)))) none) none) (K0 x2)
def qki (D:DX)(n:Nat) (K0:qk→Option ((qk×Unit)×Unit)):Nat→(qk)→(Int)→(qk)→Option ((qk×Unit)×Unit) | 0=>(fun x0 x1 x2=>none) | m+1=>(fun x0 x1 x2=>q0x D n (qki D n K0 m) K0 x0 x1 x2)
def qph (D:DX)(n:Nat) (v0_0:qk):Option ((qk×Unit)×Unit):=some ((v0_0,()),())
def qw2 (D:DX)(n:Nat):(qk)→(Int)→(qk)→Option ((qk×Unit)×Unit):=(fun x0 x1 x2=>qki D n (fun v0_0=>qph D n v0_0) n x0 x1 x2)
def q2f (D:DX)(n:Nat) (lp0:qk→Int→qk→Option ((qk×Unit)×Unit)) (a0:qk):Option ((qk×Unit)×Unit):=br (decide (0≤(↑(List.length a0):Int))&&decide ((↑(List.length a0):Int)≤(↑(List.length a0):Int))&&decide ((↑(List.length a0):Int)≤(↑qbm:Int))) (lp0 a0 0 (List.replicate (Int.toNat (↑(List.length a0):Int)) (ByteArray.empty,0,false,()))) none
def q2g (D:DX)(n:Nat) (a0:qk):Option ((qk×Unit)×Unit):=q2f D n (qw2 D n) a0
def qkk (x0:qk) (x1:Int) (x2:qk):St:=stq 23 [(0,AV.val (Ty.sl yC) x0),(3,AV.brw 3 [] 0),(4,avI x1)] [(3,Root.mk (Ty.sl yC) (Mk.own 0 (Mk.pr Mk.no (Mk.pr Mk.no (Mk.pr Mk.no Mk.no)))) x2 false)] 
def qov (v0_0:qk):St:=stq 23 [(3,AV.brw 3 [] 0)] [(3,Root.mk (Ty.sl yC) (Mk.own 0 (Mk.pr Mk.no (Mk.pr Mk.no (Mk.pr Mk.no Mk.no)))) v0_0 false)] 
theorem qbjl (D:DX)(n:Nat) (m:Nat) (K:Ex→St→Option (Out ctx 177)) (x0:qk) (x1:Int) (x2:qk) :
 LQ qc D n 177 [.r,.r,.l,.r,.l] (m+1) (qkk x0 x1 x2) K=q0x D n (fun x0 x1 x2=>LQ qc D n 177 [.r,.r,.l,.r,.l] m (qkk x0 x1 x2) K) (fun v0_0=>K (Ex.exit 0) (qov v0_0)) x0 x1 x2:=by kernel_rfl
theorem q6c (D:DX)(n:Nat) (K:Ex→St→Option (Out ctx 177)):∀ (m:Nat) (x0:qk) (x1:Int) (x2:qk),LQ qc D n 177 [.r,.r,.l,.r,.l] m (qkk x0 x1 x2) K=qki D n (fun v0_0=>K (Ex.exit 0) (qov v0_0)) m x0 x1 x2
 | 0,x0,x1,x2=>qy ..
 | m+1,x0,x1,x2=>by
  have ih:(fun x0 x1 x2=>LQ qc D n 177 [.r,.r,.l,.r,.l] m (qkk x0 x1 x2) K)=qki D n (fun v0_0=>K (Ex.exit 0) (qov v0_0)) m:=by funext x0 x1 x2;exact q6c D n K m x0 x1 x2
  rw[qbjl]
  rw[ih];rfl
theorem qbhd (D:DX)(n:Nat) (v0_0:qk) :
 (CQ qc D n 177 [] [.r,.r,.l,.r,.l] (qi qc 177)) (Ex.exit 0) (qov v0_0)=qph D n v0_0:=by kernel_rfl
theorem qbgy (D:DX)(n:Nat) (x0:qk) (x1:Int) (x2:qk) :
 LQ qc D n 177 [.r,.r,.l,.r,.l] n (qkk x0 x1 x2) (CQ qc D n 177 [] [.r,.r,.l,.r,.l] (qi qc 177))=qw2 D n x0 x1 x2:=by
 rw[q6c]
 simp only[qbhd]
 rfl
theorem qbnq (D:DX)(n:Nat) (a0:qk):rfC qc D n 177 (a0,())=q2g D n a0:=by
 have h:rfC qc D n 177 (a0,())=q2f D n (fun x0 x1 x2=>LQ qc D n 177 [.r,.r,.l,.r,.l] n (qkk x0 x1 x2) (CQ qc D n 177 [] [.r,.r,.l,.r,.l] (qi qc 177))) a0:=by kernel_rfl
 rw[h]
 simp only[qbgy]
 rfl

def q0t (D:DX)(n:Nat) (go:List Int→Int→List Int→Option ((List Int×Unit)×Unit)) (K0:List Int→Option ((List Int×Unit)×Unit)) (x0:List Int) (x1:Int) (x2:List Int):Option ((List Int×Unit)×Unit):=br (decide (x1<(↑(List.length x0):Int))) (br (decide (0≤x1)&&decide (x1<(↑(List.length x0):Int))) (br (decide (0≤x1)&&decide (x1<(↑(List.length x2):Int))) (go x0 (IntKind.wrap IntKind.i64 (x1+1)) (List.set x2 (Int.toNat x1) (List.getD x0 (Int.toNat x1) 0))) none) none) (K0 x2)
def qkh (D:DX)(n:Nat) (K0:List Int→Option ((List Int×Unit)×Unit)):Nat→(List Int)→(Int)→(List Int)→Option ((List Int×Unit)×Unit) | 0=>(fun x0 x1 x2=>none) | m+1=>(fun x0 x1 x2=>q0t D n (qkh D n K0 m) K0 x0 x1 x2)
def qpj (D:DX)(n:Nat) (v0_0:List Int):Option ((List Int×Unit)×Unit):=some ((v0_0,()),())
def qwx (D:DX)(n:Nat):(List Int)→(Int)→(List Int)→Option ((List Int×Unit)×Unit):=(fun x0 x1 x2=>qkh D n (fun v0_0=>qpj D n v0_0) n x0 x1 x2)
def q2w (D:DX)(n:Nat) (lp0:List Int→Int→List Int→Option ((List Int×Unit)×Unit)) (a0:List Int):Option ((List Int×Unit)×Unit):=br (decide (0≤(↑(List.length a0):Int))&&decide ((↑(List.length a0):Int)≤(↑(List.length a0):Int))&&decide ((↑(List.length a0):Int)≤(↑qbm:Int))) (lp0 a0 0 (List.replicate (Int.toNat (↑(List.length a0):Int)) 0)) none
def q23 (D:DX)(n:Nat) (a0:List Int):Option ((List Int×Unit)×Unit):=q2w D n (qwx D n) a0
def qkd (x0:List Int) (x1:Int) (x2:List Int):St:=stq 22 [(0,AV.val (Ty.sl yI) x0),(3,AV.brw 3 [] 0),(4,avI x1)] [(3,Root.mk (Ty.sl yI) (Mk.own 0 Mk.no) x2 false)] 
def qpg (v0_0:List Int):St:=stq 22 [(3,AV.brw 3 [] 0)] [(3,Root.mk (Ty.sl yI) (Mk.own 0 Mk.no) v0_0 false)] 
theorem qbjb (D:DX)(n:Nat) (m:Nat) (K:Ex→St→Option (Out ctx 178)) (x0:List Int) (x1:Int) (x2:List Int) :
 LQ qc D n 178 [.r,.r,.l,.r,.l] (m+1) (qkd x0 x1 x2) K=q0t D n (fun x0 x1 x2=>LQ qc D n 178 [.r,.r,.l,.r,.l] m (qkd x0 x1 x2) K) (fun v0_0=>K (Ex.exit 0) (qpg v0_0)) x0 x1 x2:=by kernel_rfl
theorem q6r (D:DX)(n:Nat) (K:Ex→St→Option (Out ctx 178)):∀ (m:Nat) (x0:List Int) (x1:Int) (x2:List Int),LQ qc D n 178 [.r,.r,.l,.r,.l] m (qkd x0 x1 x2) K=qkh D n (fun v0_0=>K (Ex.exit 0) (qpg v0_0)) m x0 x1 x2
 | 0,x0,x1,x2=>qy ..
 | m+1,x0,x1,x2=>by
  have ih:(fun x0 x1 x2=>LQ qc D n 178 [.r,.r,.l,.r,.l] m (qkd x0 x1 x2) K)=qkh D n (fun v0_0=>K (Ex.exit 0) (qpg v0_0)) m:=by funext x0 x1 x2;exact q6r D n K m x0 x1 x2
  rw[qbjb]
  rw[ih];rfl
theorem qbg5 (D:DX)(n:Nat) (v0_0:List Int) :
 (CQ qc D n 178 [] [.r,.r,.l,.r,.l] (qi qc 178)) (Ex.exit 0) (qpg v0_0)=qpj D n v0_0:=by kernel_rfl
theorem qbgp (D:DX)(n:Nat) (x0:List Int) (x1:Int) (x2:List Int) :
 LQ qc D n 178 [.r,.r,.l,.r,.l] n (qkd x0 x1 x2) (CQ qc D n 178 [] [.r,.r,.l,.r,.l] (qi qc 178))=qwx D n x0 x1 x2:=by
 rw[q6r]
 simp only[qbg5]
 rfl
theorem qbny (D:DX)(n:Nat) (a0:List Int):rfC qc D n 178 (a0,())=q23 D n a0:=by
 have h:rfC qc D n 178 (a0,())=q2w D n (fun x0 x1 x2=>LQ qc D n 178 [.r,.r,.l,.r,.l] n (qkd x0 x1 x2) (CQ qc D n 178 [] [.r,.r,.l,.r,.l] (qi qc 178))) a0:=by kernel_rfl
 rw[h]
 simp only[qbgp]
 rfl

def qvh (D:DX)(n:Nat) (go:tIxs→Int→tIxs→Option ((tIxs×Unit)×Unit)) (K0:tIxs→Option ((tIxs×Unit)×Unit)) (x0:tIxs) (x1:Int) (x2:tIxs):Option ((tIxs×Unit)×Unit):=br (decide (x1<(↑(List.length x0):Int))) (br (decide (0≤x1)&&decide (x1<(↑(List.length x0):Int))) (qj (qs6 D (List.getD x0 (Int.toNat x1) (ByteArray.empty,[],false,()))) fun b↦br (decide (0≤x1)&&decide (x1<(↑(List.length x2):Int))) (go x0 (IntKind.wrap IntKind.i64 (x1+1)) (List.set x2 (Int.toNat x1) (Prod.fst (Prod.fst (Prod.fst b)),Prod.fst (Prod.snd (Prod.fst (Prod.fst b))),Prod.snd (Prod.snd (Prod.fst (Prod.fst b)))))) none) none) (K0 x2)
def qim (D:DX)(n:Nat) (K0:tIxs→Option ((tIxs×Unit)×Unit)):Nat→(tIxs)→(Int)→(tIxs)→Option ((tIxs×Unit)×Unit) | 0=>(fun x0 x1 x2=>none) | m+1=>(fun x0 x1 x2=>qvh D n (qim D n K0 m) K0 x0 x1 x2)
def qmw (D:DX)(n:Nat) (v0_0:tIxs):Option ((tIxs×Unit)×Unit):=some ((v0_0,()),())
def qun (D:DX)(n:Nat):(tIxs)→(Int)→(tIxs)→Option ((tIxs×Unit)×Unit):=(fun x0 x1 x2=>qim D n (fun v0_0=>qmw D n v0_0) n x0 x1 x2)
def qyi (D:DX)(n:Nat) (lp0:tIxs→Int→tIxs→Option ((tIxs×Unit)×Unit)) (a0:tIxs):Option ((tIxs×Unit)×Unit):=br (decide (0≤(↑(List.length a0):Int))&&decide ((↑(List.length a0):Int)≤(↑(List.length a0):Int))&&decide ((↑(List.length a0):Int)≤(↑qbm:Int))) (lp0 a0 0 (List.replicate (Int.toNat (↑(List.length a0):Int)) (ByteArray.empty,[],false,()))) none
def qxf (D:DX)(n:Nat) (a0:tIxs):Option ((tIxs×Unit)×Unit):=qyi D n (qun D n) a0
def qij (x0:tIxs) (x1:Int) (x2:tIxs):St:=stq 23 [(0,AV.val (Ty.sl yX) x0),(3,AV.brw 3 [] 0),(4,avI x1)] [(3,Root.mk (Ty.sl yX) (Mk.own 0 (Mk.pr Mk.no (Mk.pr (Mk.own 0 Mk.no) (Mk.pr Mk.no Mk.no)))) x2 false)] 
def qm8 (v0_0:tIxs):St:=stq 23 [(3,AV.brw 3 [] 0)] [(3,Root.mk (Ty.sl yX) (Mk.own 0 (Mk.pr Mk.no (Mk.pr (Mk.own 0 Mk.no) (Mk.pr Mk.no Mk.no)))) v0_0 false)] 
theorem qbd2 (D:DX)(n:Nat) (m:Nat) (K:Ex→St→Option (Out ctx 179)) (x0:tIxs) (x1:Int) (x2:tIxs) :
 LQ qc D n 179 [.r,.r,.l,.r,.l] (m+1) (qij x0 x1 x2) K=qvh D n (fun x0 x1 x2=>LQ qc D n 179 [.r,.r,.l,.r,.l] m (qij x0 x1 x2) K) (fun v0_0=>K (Ex.exit 0) (qm8 v0_0)) x0 x1 x2:=by kernel_rfl
theorem q34 (D:DX)(n:Nat) (K:Ex→St→Option (Out ctx 179)):∀ (m:Nat) (x0:tIxs) (x1:Int) (x2:tIxs),LQ qc D n 179 [.r,.r,.l,.r,.l] m (qij x0 x1 x2) K=qim D n (fun v0_0=>K (Ex.exit 0) (qm8 v0_0)) m x0 x1 x2
 | 0,x0,x1,x2=>qy ..
 | m+1,x0,x1,x2=>by
  have ih:(fun x0 x1 x2=>LQ qc D n 179 [.r,.r,.l,.r,.l] m (qij x0 x1 x2) K)=qim D n (fun v0_0=>K (Ex.exit 0) (qm8 v0_0)) m:=by funext x0 x1 x2;exact q34 D n K m x0 x1 x2
  rw[qbd2]
  rw[ih];rfl
theorem qbbo (D:DX)(n:Nat) (v0_0:tIxs) :
 (CQ qc D n 179 [] [.r,.r,.l,.r,.l] (qi qc 179)) (Ex.exit 0) (qm8 v0_0)=qmw D n v0_0:=by kernel_rfl
theorem qbda (D:DX)(n:Nat) (x0:tIxs) (x1:Int) (x2:tIxs) :
 LQ qc D n 179 [.r,.r,.l,.r,.l] n (qij x0 x1 x2) (CQ qc D n 179 [] [.r,.r,.l,.r,.l] (qi qc 179))=qun D n x0 x1 x2:=by
 rw[q34]
 simp only[qbbo]
 rfl
theorem qbh0 (D:DX)(n:Nat) (a0:tIxs):rfC qc D n 179 (a0,())=qxf D n a0:=by
 have h:rfC qc D n 179 (a0,())=qyi D n (fun x0 x1 x2=>LQ qc D n 179 [.r,.r,.l,.r,.l] n (qij x0 x1 x2) (CQ qc D n 179 [] [.r,.r,.l,.r,.l] (qi qc 179))) a0:=by kernel_rfl
 rw[h]
 simp only[qbda]
 rfl

def qz9 (D:DX)(n:Nat) (go:qk→qk→Int→Option ((Bool×Unit)×Unit)) (K0:Bool→Option ((Bool×Unit)×Unit)) (K1:Option ((Bool×Unit)×Unit)) (x0:qk) (x1:qk) (x2:Int):Option ((Bool×Unit)×Unit):=br (decide (x2<(↑(List.length x0):Int))) (br (decide (0≤x2)&&decide (x2<(↑(List.length x0):Int))) (br (decide (0≤x2)&&decide (x2<(↑(List.length x1):Int))) (qj (qyv D (List.getD x0 (Int.toNat x2) (ByteArray.empty,0,false,())) (List.getD x1 (Int.toNat x2) (ByteArray.empty,0,false,()))) fun b↦br (!Prod.fst (Prod.fst b)) (K0 false) (go x0 x1 (IntKind.wrap IntKind.i64 (x2+1)))) none) none) K1
def qko (D:DX)(n:Nat) (K0:Bool→Option ((Bool×Unit)×Unit)) (K1:Option ((Bool×Unit)×Unit)):Nat→(qk)→(qk)→(Int)→Option ((Bool×Unit)×Unit) | 0=>(fun x0 x1 x2=>none) | m+1=>(fun x0 x1 x2=>qz9 D n (qko D n K0 K1 m) K0 K1 x0 x1 x2)
def qol (D:DX)(n:Nat) (v0_0:Bool):Option ((Bool×Unit)×Unit):=some ((v0_0,()),())
def qpc (D:DX)(n:Nat):Option ((Bool×Unit)×Unit):=some ((true,()),())
def qyc (D:DX)(n:Nat):(qk)→(qk)→(Int)→Option ((Bool×Unit)×Unit):=(fun x0 x1 x2=>qko D n (fun v0_0=>qol D n v0_0) (qpc D n) n x0 x1 x2)
def q2x (D:DX)(n:Nat) (lp0:qk→qk→Int→Option ((Bool×Unit)×Unit)) (a0:qk) (a1:qk):Option ((Bool×Unit)×Unit):=br ((↑(List.length a0):Int) != (↑(List.length a1):Int)) (some ((false,()),())) (lp0 a0 a1 0)
def q2t (D:DX)(n:Nat) (a0:qk) (a1:qk):Option ((Bool×Unit)×Unit):=q2x D n (qyc D n) a0 a1
def qkp (x0:qk) (x1:qk) (x2:Int):St:=stq 27 [(0,AV.val (Ty.sl yC) x0),(1,AV.val (Ty.sl yC) x1),(5,avI x2)] [] 
def qo7 (v0_0:Bool):St:=stq 27 [(4,AV.val Ty.bool v0_0)] [] 
def qo6:St:=stq 27 [] [] 
theorem qbh7 (D:DX)(n:Nat) (m:Nat) (K:Ex→St→Option (Out ctx 180)) (x0:qk) (x1:qk) (x2:Int) :
 LQ qc D n 180 [.r,.r,.l,.r,.l] (m+1) (qkp x0 x1 x2) K=qz9 D n (fun x0 x1 x2=>LQ qc D n 180 [.r,.r,.l,.r,.l] m (qkp x0 x1 x2) K) (fun v0_0=>K (Ex.ret) (qo7 v0_0)) (K (Ex.exit 0) (qo6)) x0 x1 x2:=by kernel_rfl
theorem q6g (D:DX)(n:Nat) (K:Ex→St→Option (Out ctx 180)):∀ (m:Nat) (x0:qk) (x1:qk) (x2:Int),LQ qc D n 180 [.r,.r,.l,.r,.l] m (qkp x0 x1 x2) K=qko D n (fun v0_0=>K (Ex.ret) (qo7 v0_0)) (K (Ex.exit 0) (qo6)) m x0 x1 x2
 | 0,x0,x1,x2=>qy ..
 | m+1,x0,x1,x2=>by
  have ih:(fun x0 x1 x2=>LQ qc D n 180 [.r,.r,.l,.r,.l] m (qkp x0 x1 x2) K)=qko D n (fun v0_0=>K (Ex.ret) (qo7 v0_0)) (K (Ex.exit 0) (qo6)) m:=by funext x0 x1 x2;exact q6g D n K m x0 x1 x2
  rw[qbh7]
  rw[ih];rfl
theorem qbhe (D:DX)(n:Nat) (v0_0:Bool) :
 (CQ qc D n 180 [] [.r,.r,.l,.r,.l] (qi qc 180)) (Ex.ret) (qo7 v0_0)=qol D n v0_0:=by kernel_rfl
theorem qbg1 (D:DX)(n:Nat) :
 (CQ qc D n 180 [] [.r,.r,.l,.r,.l] (qi qc 180)) (Ex.exit 0) (qo6)=qpc D n:=by kernel_rfl
theorem qbg6 (D:DX)(n:Nat) (x0:qk) (x1:qk) (x2:Int) :
 LQ qc D n 180 [.r,.r,.l,.r,.l] n (qkp x0 x1 x2) (CQ qc D n 180 [] [.r,.r,.l,.r,.l] (qi qc 180))=qyc D n x0 x1 x2:=by
 rw[q6g]
 simp only[qbhe,qbg1]
 rfl
theorem qbni (D:DX)(n:Nat) (a0:qk) (a1:qk):rfC qc D n 180 (a0,(a1,()))=q2t D n a0 a1:=by
 have h:rfC qc D n 180 (a0,(a1,()))=q2x D n (fun x0 x1 x2=>LQ qc D n 180 [.r,.r,.l,.r,.l] n (qkp x0 x1 x2) (CQ qc D n 180 [] [.r,.r,.l,.r,.l] (qi qc 180))) a0 a1:=by kernel_rfl
 rw[h]
 simp only[qbg6]
 rfl

def q1d (D:DX)(n:Nat) (go:List Int→List Int→Int→Option ((Bool×Unit)×Unit)) (K0:Bool→Option ((Bool×Unit)×Unit)) (K1:Option ((Bool×Unit)×Unit)) (x0:List Int) (x1:List Int) (x2:Int):Option ((Bool×Unit)×Unit):=br (decide (x2<(↑(List.length x0):Int))) (br (decide (0≤x2)&&decide (x2<(↑(List.length x0):Int))) (br (decide (0≤x2)&&decide (x2<(↑(List.length x1):Int))) (br (List.getD x0 (Int.toNat x2) 0 != List.getD x1 (Int.toNat x2) 0) (K0 false) (go x0 x1 (IntKind.wrap IntKind.i64 (x2+1)))) none) none) K1
def qkm (D:DX)(n:Nat) (K0:Bool→Option ((Bool×Unit)×Unit)) (K1:Option ((Bool×Unit)×Unit)):Nat→(List Int)→(List Int)→(Int)→Option ((Bool×Unit)×Unit) | 0=>(fun x0 x1 x2=>none) | m+1=>(fun x0 x1 x2=>q1d D n (qkm D n K0 K1 m) K0 K1 x0 x1 x2)
def qpb (D:DX)(n:Nat) (v0_0:Bool):Option ((Bool×Unit)×Unit):=some ((v0_0,()),())
def qo5 (D:DX)(n:Nat):Option ((Bool×Unit)×Unit):=some ((true,()),())
def qx6 (D:DX)(n:Nat):(List Int)→(List Int)→(Int)→Option ((Bool×Unit)×Unit):=(fun x0 x1 x2=>qkm D n (fun v0_0=>qpb D n v0_0) (qo5 D n) n x0 x1 x2)
def q28 (D:DX)(n:Nat) (lp0:List Int→List Int→Int→Option ((Bool×Unit)×Unit)) (a0:List Int) (a1:List Int):Option ((Bool×Unit)×Unit):=br ((↑(List.length a0):Int) != (↑(List.length a1):Int)) (some ((false,()),())) (lp0 a0 a1 0)
def q2z (D:DX)(n:Nat) (a0:List Int) (a1:List Int):Option ((Bool×Unit)×Unit):=q28 D n (qx6 D n) a0 a1
def qkf (x0:List Int) (x1:List Int) (x2:Int):St:=stq 26 [(0,AV.val (Ty.sl yI) x0),(1,AV.val (Ty.sl yI) x1),(5,avI x2)] [] 
def qo8 (v0_0:Bool):St:=stq 26 [(4,AV.val Ty.bool v0_0)] [] 
def qom:St:=stq 26 [] [] 
theorem qbkz (D:DX)(n:Nat) (m:Nat) (K:Ex→St→Option (Out ctx 181)) (x0:List Int) (x1:List Int) (x2:Int) :
 LQ qc D n 181 [.r,.r,.l,.r,.l] (m+1) (qkf x0 x1 x2) K=q1d D n (fun x0 x1 x2=>LQ qc D n 181 [.r,.r,.l,.r,.l] m (qkf x0 x1 x2) K) (fun v0_0=>K (Ex.ret) (qo8 v0_0)) (K (Ex.exit 0) (qom)) x0 x1 x2:=by kernel_rfl
theorem q6v (D:DX)(n:Nat) (K:Ex→St→Option (Out ctx 181)):∀ (m:Nat) (x0:List Int) (x1:List Int) (x2:Int),LQ qc D n 181 [.r,.r,.l,.r,.l] m (qkf x0 x1 x2) K=qkm D n (fun v0_0=>K (Ex.ret) (qo8 v0_0)) (K (Ex.exit 0) (qom)) m x0 x1 x2
 | 0,x0,x1,x2=>qy ..
 | m+1,x0,x1,x2=>by
  have ih:(fun x0 x1 x2=>LQ qc D n 181 [.r,.r,.l,.r,.l] m (qkf x0 x1 x2) K)=qkm D n (fun v0_0=>K (Ex.ret) (qo8 v0_0)) (K (Ex.exit 0) (qom)) m:=by funext x0 x1 x2;exact q6v D n K m x0 x1 x2
  rw[qbkz]
  rw[ih];rfl
theorem qbgf (D:DX)(n:Nat) (v0_0:Bool) :
 (CQ qc D n 181 [] [.r,.r,.l,.r,.l] (qi qc 181)) (Ex.ret) (qo8 v0_0)=qpb D n v0_0:=by kernel_rfl
theorem qbgk (D:DX)(n:Nat) :
 (CQ qc D n 181 [] [.r,.r,.l,.r,.l] (qi qc 181)) (Ex.exit 0) (qom)=qo5 D n:=by kernel_rfl
theorem qbg2 (D:DX)(n:Nat) (x0:List Int) (x1:List Int) (x2:Int) :
 LQ qc D n 181 [.r,.r,.l,.r,.l] n (qkf x0 x1 x2) (CQ qc D n 181 [] [.r,.r,.l,.r,.l] (qi qc 181))=qx6 D n x0 x1 x2:=by
 rw[q6v]
 simp only[qbgf,qbgk]
 rfl
theorem qbnv (D:DX)(n:Nat) (a0:List Int) (a1:List Int):rfC qc D n 181 (a0,(a1,()))=q2z D n a0 a1:=by
 have h:rfC qc D n 181 (a0,(a1,()))=q28 D n (fun x0 x1 x2=>LQ qc D n 181 [.r,.r,.l,.r,.l] n (qkf x0 x1 x2) (CQ qc D n 181 [] [.r,.r,.l,.r,.l] (qi qc 181))) a0 a1:=by kernel_rfl
 rw[h]
 simp only[qbg2]
 rfl

def qvw (D:DX)(n:Nat) (go:tIxs→tIxs→Int→Option ((Bool×Unit)×Unit)) (K0:Bool→Option ((Bool×Unit)×Unit)) (K1:Option ((Bool×Unit)×Unit)) (x0:tIxs) (x1:tIxs) (x2:Int):Option ((Bool×Unit)×Unit):=br (decide (x2<(↑(List.length x0):Int))) (br (decide (0≤x2)&&decide (x2<(↑(List.length x0):Int))) (br (decide (0≤x2)&&decide (x2<(↑(List.length x1):Int))) (qj (qs1 D (List.getD x0 (Int.toNat x2) (ByteArray.empty,[],false,())) (List.getD x1 (Int.toNat x2) (ByteArray.empty,[],false,()))) fun b↦br (!Prod.fst (Prod.fst b)) (K0 false) (go x0 x1 (IntKind.wrap IntKind.i64 (x2+1)))) none) none) K1
def qh6 (D:DX)(n:Nat) (K0:Bool→Option ((Bool×Unit)×Unit)) (K1:Option ((Bool×Unit)×Unit)):Nat→(tIxs)→(tIxs)→(Int)→Option ((Bool×Unit)×Unit) | 0=>(fun x0 x1 x2=>none) | m+1=>(fun x0 x1 x2=>qvw D n (qh6 D n K0 K1 m) K0 K1 x0 x1 x2)
def qmd (D:DX)(n:Nat) (v0_0:Bool):Option ((Bool×Unit)×Unit):=some ((v0_0,()),())
def ql7 (D:DX)(n:Nat):Option ((Bool×Unit)×Unit):=some ((true,()),())
def qt3 (D:DX)(n:Nat):(tIxs)→(tIxs)→(Int)→Option ((Bool×Unit)×Unit):=(fun x0 x1 x2=>qh6 D n (fun v0_0=>qmd D n v0_0) (ql7 D n) n x0 x1 x2)
def qwy (D:DX)(n:Nat) (lp0:tIxs→tIxs→Int→Option ((Bool×Unit)×Unit)) (a0:tIxs) (a1:tIxs):Option ((Bool×Unit)×Unit):=br ((↑(List.length a0):Int) != (↑(List.length a1):Int)) (some ((false,()),())) (lp0 a0 a1 0)
def qyl (D:DX)(n:Nat) (a0:tIxs) (a1:tIxs):Option ((Bool×Unit)×Unit):=qwy D n (qt3 D n) a0 a1
def qip (x0:tIxs) (x1:tIxs) (x2:Int):St:=stq 27 [(0,AV.val (Ty.sl yX) x0),(1,AV.val (Ty.sl yX) x1),(5,avI x2)] [] 
def qmq (v0_0:Bool):St:=stq 27 [(4,AV.val Ty.bool v0_0)] [] 
def qlx:St:=stq 27 [] [] 
theorem qbel (D:DX)(n:Nat) (m:Nat) (K:Ex→St→Option (Out ctx 182)) (x0:tIxs) (x1:tIxs) (x2:Int) :
 LQ qc D n 182 [.r,.r,.l,.r,.l] (m+1) (qip x0 x1 x2) K=qvw D n (fun x0 x1 x2=>LQ qc D n 182 [.r,.r,.l,.r,.l] m (qip x0 x1 x2) K) (fun v0_0=>K (Ex.ret) (qmq v0_0)) (K (Ex.exit 0) (qlx)) x0 x1 x2:=by kernel_rfl
theorem q36 (D:DX)(n:Nat) (K:Ex→St→Option (Out ctx 182)):∀ (m:Nat) (x0:tIxs) (x1:tIxs) (x2:Int),LQ qc D n 182 [.r,.r,.l,.r,.l] m (qip x0 x1 x2) K=qh6 D n (fun v0_0=>K (Ex.ret) (qmq v0_0)) (K (Ex.exit 0) (qlx)) m x0 x1 x2
 | 0,x0,x1,x2=>qy ..
 | m+1,x0,x1,x2=>by
  have ih:(fun x0 x1 x2=>LQ qc D n 182 [.r,.r,.l,.r,.l] m (qip x0 x1 x2) K)=qh6 D n (fun v0_0=>K (Ex.ret) (qmq v0_0)) (K (Ex.exit 0) (qlx)) m:=by funext x0 x1 x2;exact q36 D n K m x0 x1 x2
  rw[qbel]
  rw[ih];rfl
theorem qbbb (D:DX)(n:Nat) (v0_0:Bool) :
 (CQ qc D n 182 [] [.r,.r,.l,.r,.l] (qi qc 182)) (Ex.ret) (qmq v0_0)=qmd D n v0_0:=by kernel_rfl
theorem qbba (D:DX)(n:Nat) :
 (CQ qc D n 182 [] [.r,.r,.l,.r,.l] (qi qc 182)) (Ex.exit 0) (qlx)=ql7 D n:=by kernel_rfl
theorem qbcd (D:DX)(n:Nat) (x0:tIxs) (x1:tIxs) (x2:Int) :
 LQ qc D n 182 [.r,.r,.l,.r,.l] n (qip x0 x1 x2) (CQ qc D n 182 [] [.r,.r,.l,.r,.l] (qi qc 182))=qt3 D n x0 x1 x2:=by
 rw[q36]
 simp only[qbbb,qbba]
 rfl
theorem qbjf (D:DX)(n:Nat) (a0:tIxs) (a1:tIxs):rfC qc D n 182 (a0,(a1,()))=qyl D n a0 a1:=by
 have h:rfC qc D n 182 (a0,(a1,()))=qwy D n (fun x0 x1 x2=>LQ qc D n 182 [.r,.r,.l,.r,.l] n (qip x0 x1 x2) (CQ qc D n 182 [] [.r,.r,.l,.r,.l] (qi qc 182))) a0 a1:=by kernel_rfl
 rw[h]
 simp only[qbcd]
 rfl

def qwn (D:DX)(n:Nat) (go:Int→Int→qk→Option ((Int×Unit)×qk×Unit)) (K0:Int→qk→Option ((Int×Unit)×qk×Unit)) (x0:Int) (x1:Int) (x2:qk):Option ((Int×Unit)×qk×Unit):=br (decide (x1<(↑(List.length x2):Int))) (qj (qe2 D x0) fun b↦br (decide (0≤x1)&&decide (x1<(↑(List.length x2):Int))) (br (decide (0≤x1)&&decide (x1<(↑(List.length (List.set x2 (Int.toNat x1) (Prod.fst (Prod.fst b),Prod.snd (List.getD x2 (Int.toNat x1) (ByteArray.empty,0,false,()))))):Int))) (br (decide (0≤x1)&&decide (x1<(↑(List.length (List.set (List.set x2 (Int.toNat x1) (Prod.fst (Prod.fst b),Prod.snd (List.getD x2 (Int.toNat x1) (ByteArray.empty,0,false,())))) (Int.toNat x1) (Prod.fst (List.getD (List.set x2 (Int.toNat x1) (Prod.fst (Prod.fst b),Prod.snd (List.getD x2 (Int.toNat x1) (ByteArray.empty,0,false,())))) (Int.toNat x1) (ByteArray.empty,0,false,())),IntKind.wrap IntKind.i64 (x0+1),Prod.snd (Prod.snd (List.getD (List.set x2 (Int.toNat x1) (Prod.fst (Prod.fst b),Prod.snd (List.getD x2 (Int.toNat x1) (ByteArray.empty,0,false,())))) (Int.toNat x1) (ByteArray.empty,0,false,())))))):Int))) (go (IntKind.wrap IntKind.i64 (IntKind.wrap IntKind.i64 (IntKind.wrap IntKind.i64 (x0+1)+1)+1)) (IntKind.wrap IntKind.i64 (x1+1)) (List.set (List.set (List.set x2 (Int.toNat x1) (Prod.fst (Prod.fst b),Prod.snd (List.getD x2 (Int.toNat x1) (ByteArray.empty,0,false,())))) (Int.toNat x1) (Prod.fst (List.getD (List.set x2 (Int.toNat x1) (Prod.fst (Prod.fst b),Prod.snd (List.getD x2 (Int.toNat x1) (ByteArray.empty,0,false,())))) (Int.toNat x1) (ByteArray.empty,0,false,())),IntKind.wrap IntKind.i64 (x0+1),Prod.snd (Prod.snd (List.getD (List.set x2 (Int.toNat x1) (Prod.fst (Prod.fst b),Prod.snd (List.getD x2 (Int.toNat x1) (ByteArray.empty,0,false,())))) (Int.toNat x1) (ByteArray.empty,0,false,()))))) (Int.toNat x1) (Prod.fst (List.getD (List.set (List.set x2 (Int.toNat x1) (Prod.fst (Prod.fst b),Prod.snd (List.getD x2 (Int.toNat x1) (ByteArray.empty,0,false,())))) (Int.toNat x1) (Prod.fst (List.getD (List.set x2 (Int.toNat x1) (Prod.fst (Prod.fst b),Prod.snd (List.getD x2 (Int.toNat x1) (ByteArray.empty,0,false,())))) (Int.toNat x1) (ByteArray.empty,0,false,())),IntKind.wrap IntKind.i64 (x0+1),Prod.snd (Prod.snd (List.getD (List.set x2 (Int.toNat x1) (Prod.fst (Prod.fst b),Prod.snd (List.getD x2 (Int.toNat x1) (ByteArray.empty,0,false,())))) (Int.toNat x1) (ByteArray.empty,0,false,()))))) (Int.toNat x1) (ByteArray.empty,0,false,())),Prod.fst (Prod.snd (List.getD (List.set (List.set x2 (Int.toNat x1) (Prod.fst (Prod.fst b),Prod.snd (List.getD x2 (Int.toNat x1) (ByteArray.empty,0,false,())))) (Int.toNat x1) (Prod.fst (List.getD (List.set x2 (Int.toNat x1) (Prod.fst (Prod.fst b),Prod.snd (List.getD x2 (Int.toNat x1) (ByteArray.empty,0,false,())))) (Int.toNat x1) (ByteArray.empty,0,false,())),IntKind.wrap IntKind.i64 (x0+1),Prod.snd (Prod.snd (List.getD (List.set x2 (Int.toNat x1) (Prod.fst (Prod.fst b),Prod.snd (List.getD x2 (Int.toNat x1) (ByteArray.empty,0,false,())))) (Int.toNat x1) (ByteArray.empty,0,false,()))))) (Int.toNat x1) (ByteArray.empty,0,false,()))),decide (Int.tmod (IntKind.wrap IntKind.i64 (IntKind.wrap IntKind.i64 (x0+1)+1)) 3=0),Prod.snd (Prod.snd (Prod.snd (List.getD (List.set (List.set x2 (Int.toNat x1) (Prod.fst (Prod.fst b),Prod.snd (List.getD x2 (Int.toNat x1) (ByteArray.empty,0,false,())))) (Int.toNat x1) (Prod.fst (List.getD (List.set x2 (Int.toNat x1) (Prod.fst (Prod.fst b),Prod.snd (List.getD x2 (Int.toNat x1) (ByteArray.empty,0,false,())))) (Int.toNat x1) (ByteArray.empty,0,false,())),IntKind.wrap IntKind.i64 (x0+1),Prod.snd (Prod.snd (List.getD (List.set x2 (Int.toNat x1) (Prod.fst (Prod.fst b),Prod.snd (List.getD x2 (Int.toNat x1) (ByteArray.empty,0,false,())))) (Int.toNat x1) (ByteArray.empty,0,false,()))))) (Int.toNat x1) (ByteArray.empty,0,false,()))))))) none) none) none) (K0 x0 x2)
def qik (D:DX)(n:Nat) (K0:Int→qk→Option ((Int×Unit)×qk×Unit)):Nat→(Int)→(Int)→(qk)→Option ((Int×Unit)×qk×Unit) | 0=>(fun x0 x1 x2=>none) | m+1=>(fun x0 x1 x2=>qwn D n (qik D n K0 m) K0 x0 x1 x2)
def qm9 (D:DX)(n:Nat) (v0_0:Int) (v0_1:qk):Option ((Int×Unit)×qk×Unit):=some ((v0_0,()),v0_1,())
def qtp (D:DX)(n:Nat):(Int)→(Int)→(qk)→Option ((Int×Unit)×qk×Unit):=(fun x0 x1 x2=>qik D n (fun v0_0 v0_1=>qm9 D n v0_0 v0_1) n x0 x1 x2)
def qyw (D:DX)(n:Nat) (lp0:Int→Int→qk→Option ((Int×Unit)×qk×Unit)) (a0:qk) (a1:Int):Option ((Int×Unit)×qk×Unit):=lp0 a1 0 a0
def qyr (D:DX)(n:Nat) (a0:qk) (a1:Int):Option ((Int×Unit)×qk×Unit):=qyw D n (qtp D n) a0 a1
def qhz (x0:Int) (x1:Int) (x2:qk):St:=stq 37 [(0,AV.brw 0 [] 1048576),(1,avI x0),(5,avI x1)] [(0,Root.mk (Ty.sl yC) (Mk.own 1048576 (Mk.pr Mk.no (Mk.pr Mk.no (Mk.pr Mk.no Mk.no)))) x2 false)] 
def qlw (v0_0:Int) (v0_1:qk):St:=stq 37 [(0,AV.brw 0 [] 1048576),(1,avI v0_0)] [(0,Root.mk (Ty.sl yC) (Mk.own 1048576 (Mk.pr Mk.no (Mk.pr Mk.no (Mk.pr Mk.no Mk.no)))) v0_1 false)] 
theorem qbd8 (D:DX)(n:Nat) (m:Nat) (K:Ex→St→Option (Out ctx 183)) (x0:Int) (x1:Int) (x2:qk) :
 LQ qc D n 183 [.r,.l,.r,.l] (m+1) (qhz x0 x1 x2) K=qwn D n (fun x0 x1 x2=>LQ qc D n 183 [.r,.l,.r,.l] m (qhz x0 x1 x2) K) (fun v0_0 v0_1=>K (Ex.exit 0) (qlw v0_0 v0_1)) x0 x1 x2:=by kernel_rfl
theorem q3y (D:DX)(n:Nat) (K:Ex→St→Option (Out ctx 183)):∀ (m:Nat) (x0:Int) (x1:Int) (x2:qk),LQ qc D n 183 [.r,.l,.r,.l] m (qhz x0 x1 x2) K=qik D n (fun v0_0 v0_1=>K (Ex.exit 0) (qlw v0_0 v0_1)) m x0 x1 x2
 | 0,x0,x1,x2=>qy ..
 | m+1,x0,x1,x2=>by
  have ih:(fun x0 x1 x2=>LQ qc D n 183 [.r,.l,.r,.l] m (qhz x0 x1 x2) K)=qik D n (fun v0_0 v0_1=>K (Ex.exit 0) (qlw v0_0 v0_1)) m:=by funext x0 x1 x2;exact q3y D n K m x0 x1 x2
  rw[qbd8]
  rw[ih];rfl
theorem qba4 (D:DX)(n:Nat) (v0_0:Int) (v0_1:qk) :
 (CQ qc D n 183 [] [.r,.l,.r,.l] (qi qc 183)) (Ex.exit 0) (qlw v0_0 v0_1)=qm9 D n v0_0 v0_1:=by kernel_rfl
theorem qbc1 (D:DX)(n:Nat) (x0:Int) (x1:Int) (x2:qk) :
 LQ qc D n 183 [.r,.l,.r,.l] n (qhz x0 x1 x2) (CQ qc D n 183 [] [.r,.l,.r,.l] (qi qc 183))=qtp D n x0 x1 x2:=by
 rw[q3y]
 simp only[qba4]
 rfl
theorem qbks (D:DX)(n:Nat) (a0:qk) (a1:Int):rfC qc D n 183 (a0,(a1,()))=qyr D n a0 a1:=by
 have h:rfC qc D n 183 (a0,(a1,()))=qyw D n (fun x0 x1 x2=>LQ qc D n 183 [.r,.l,.r,.l] n (qhz x0 x1 x2) (CQ qc D n 183 [] [.r,.l,.r,.l] (qi qc 183))) a0 a1:=by kernel_rfl
 rw[h]
 simp only[qbc1]
 rfl

def qvf (D:DX)(n:Nat) (go:Int→Int→List Int→Option ((Int×Unit)×List Int×Unit)) (K0:Int→List Int→Option ((Int×Unit)×List Int×Unit)) (x0:Int) (x1:Int) (x2:List Int):Option ((Int×Unit)×List Int×Unit):=br (decide (x1<(↑(List.length x2):Int))) (br (decide (0≤x1)&&decide (x1<(↑(List.length x2):Int))) (go (IntKind.wrap IntKind.i64 (x0+1)) (IntKind.wrap IntKind.i64 (x1+1)) (List.set x2 (Int.toNat x1) x0)) none) (K0 x0 x2)
def qie (D:DX)(n:Nat) (K0:Int→List Int→Option ((Int×Unit)×List Int×Unit)):Nat→(Int)→(Int)→(List Int)→Option ((Int×Unit)×List Int×Unit) | 0=>(fun x0 x1 x2=>none) | m+1=>(fun x0 x1 x2=>qvf D n (qie D n K0 m) K0 x0 x1 x2)
def qmp (D:DX)(n:Nat) (v0_0:Int) (v0_1:List Int):Option ((Int×Unit)×List Int×Unit):=some ((v0_0,()),v0_1,())
def qus (D:DX)(n:Nat):(Int)→(Int)→(List Int)→Option ((Int×Unit)×List Int×Unit):=(fun x0 x1 x2=>qie D n (fun v0_0 v0_1=>qmp D n v0_0 v0_1) n x0 x1 x2)
def qyd (D:DX)(n:Nat) (lp0:Int→Int→List Int→Option ((Int×Unit)×List Int×Unit)) (a0:List Int) (a1:Int):Option ((Int×Unit)×List Int×Unit):=lp0 a1 0 a0
def qyt (D:DX)(n:Nat) (a0:List Int) (a1:Int):Option ((Int×Unit)×List Int×Unit):=qyd D n (qus D n) a0 a1
def qin (x0:Int) (x1:Int) (x2:List Int):St:=stq 19 [(0,AV.brw 0 [] 1048576),(1,avI x0),(5,avI x1)] [(0,Root.mk (Ty.sl yI) (Mk.own 1048576 Mk.no) x2 false)] 
def ql2 (v0_0:Int) (v0_1:List Int):St:=stq 19 [(0,AV.brw 0 [] 1048576),(1,avI v0_0)] [(0,Root.mk (Ty.sl yI) (Mk.own 1048576 Mk.no) v0_1 false)] 
theorem qbe9 (D:DX)(n:Nat) (m:Nat) (K:Ex→St→Option (Out ctx 184)) (x0:Int) (x1:Int) (x2:List Int) :
 LQ qc D n 184 [.r,.l,.r,.l] (m+1) (qin x0 x1 x2) K=qvf D n (fun x0 x1 x2=>LQ qc D n 184 [.r,.l,.r,.l] m (qin x0 x1 x2) K) (fun v0_0 v0_1=>K (Ex.exit 0) (ql2 v0_0 v0_1)) x0 x1 x2:=by kernel_rfl
theorem q3u (D:DX)(n:Nat) (K:Ex→St→Option (Out ctx 184)):∀ (m:Nat) (x0:Int) (x1:Int) (x2:List Int),LQ qc D n 184 [.r,.l,.r,.l] m (qin x0 x1 x2) K=qie D n (fun v0_0 v0_1=>K (Ex.exit 0) (ql2 v0_0 v0_1)) m x0 x1 x2
 | 0,x0,x1,x2=>qy ..
 | m+1,x0,x1,x2=>by
  have ih:(fun x0 x1 x2=>LQ qc D n 184 [.r,.l,.r,.l] m (qin x0 x1 x2) K)=qie D n (fun v0_0 v0_1=>K (Ex.exit 0) (ql2 v0_0 v0_1)) m:=by funext x0 x1 x2;exact q3u D n K m x0 x1 x2
  rw[qbe9]
  rw[ih];rfl
theorem qbcq (D:DX)(n:Nat) (v0_0:Int) (v0_1:List Int) :
 (CQ qc D n 184 [] [.r,.l,.r,.l] (qi qc 184)) (Ex.exit 0) (ql2 v0_0 v0_1)=qmp D n v0_0 v0_1:=by kernel_rfl
theorem qbdm (D:DX)(n:Nat) (x0:Int) (x1:Int) (x2:List Int) :
 LQ qc D n 184 [.r,.l,.r,.l] n (qin x0 x1 x2) (CQ qc D n 184 [] [.r,.l,.r,.l] (qi qc 184))=qus D n x0 x1 x2:=by
 rw[q3u]
 simp only[qbcq]
 rfl
theorem qbjz (D:DX)(n:Nat) (a0:List Int) (a1:Int):rfC qc D n 184 (a0,(a1,()))=qyt D n a0 a1:=by
 have h:rfC qc D n 184 (a0,(a1,()))=qyd D n (fun x0 x1 x2=>LQ qc D n 184 [.r,.l,.r,.l] n (qin x0 x1 x2) (CQ qc D n 184 [] [.r,.l,.r,.l] (qi qc 184))) a0 a1:=by kernel_rfl
 rw[h]
 simp only[qbdm]
 rfl

def qru (D:DX)(n:Nat) (go:Int→Int→tIxs→Option ((Int×Unit)×tIxs×Unit)) (K0:Int→tIxs→Option ((Int×Unit)×tIxs×Unit)) (x0:Int) (x1:Int) (x2:tIxs):Option ((Int×Unit)×tIxs×Unit):=br (decide (x1<(↑(List.length x2):Int))) (qj (qe2 D x0) fun b↦br (decide (0≤x1)&&decide (x1<(↑(List.length x2):Int))) (br (decide (0≤x1)&&decide (x1<(↑(List.length (List.set x2 (Int.toNat x1) (Prod.fst (Prod.fst b),Prod.snd (List.getD x2 (Int.toNat x1) (ByteArray.empty,[],false,()))))):Int))) (qj (qmj D (Prod.fst (Prod.snd (List.getD (List.set x2 (Int.toNat x1) (Prod.fst (Prod.fst b),Prod.snd (List.getD x2 (Int.toNat x1) (ByteArray.empty,[],false,())))) (Int.toNat x1) (ByteArray.empty,[],false,())))) (IntKind.wrap IntKind.i64 (x0+1))) fun b_1↦br (qgy [PK.mutv (Ty.sl (Ty.int IntKind.i64)) (Mk.top (Ty.sl (Ty.int IntKind.i64))) (Mk.top (Ty.sl (Ty.int IntKind.i64))),PK.val (Ty.int IntKind.i64)] (List.map (ev (St.mk [AV.brw 0 [] 1048576,AV.val (Ty.int IntKind.i64) (IntKind.wrap IntKind.i64 (x0+1)),AV.undef,AV.undef,AV.undef,AV.val (Ty.int IntKind.i64) x1,AV.val (Ty.int IntKind.i64) x1,AV.brw 0 [] 1048576,AV.val (Ty.int IntKind.i64) (↑(List.length x2):Int),AV.val Ty.bool (decide (x1<(↑(List.length x2):Int))),AV.undef,AV.undef,AV.brw 0 [] 1048576,AV.val (Ty.int IntKind.i64) x1,AV.val (Ty.int IntKind.i64) x0,AV.val Ty.str (Prod.fst (Prod.fst b)),AV.addr 0 [Stp.idx (Int.toNat x1) 1048576],AV.addr 0 [Stp.idx (Int.toNat x1) 1048576,Stp.fst],AV.val (Ty.int IntKind.i64) x0,AV.val (Ty.int IntKind.i64) (IntKind.wrap IntKind.i64 (x0+1)),AV.brw 0 [] 1048576,AV.val (Ty.int IntKind.i64) x1,AV.addr 0 [Stp.idx (Int.toNat x1) 1048576],AV.addr 0 [Stp.idx (Int.toNat x1) 1048576,Stp.snd,Stp.fst],AV.brw 0 [Stp.idx (Int.toNat x1) 1048576,Stp.snd,Stp.fst] 0,AV.val (Ty.int IntKind.i64) (IntKind.wrap IntKind.i64 (x0+1)),AV.undef,AV.undef,AV.undef,AV.undef,AV.undef,AV.undef,AV.undef,AV.undef,AV.undef,AV.undef,AV.undef] [some (Root.mk (Ty.sl (Ty.pair Ty.str (Ty.pair (Ty.sl (Ty.int IntKind.i64)) (Ty.pair Ty.bool Ty.unit)))) (Mk.own 1048576 (Mk.pr Mk.no (Mk.pr (Mk.own 0 Mk.no) (Mk.pr Mk.no Mk.no)))) (List.set x2 (Int.toNat x1) (Prod.fst (Prod.fst b),Prod.snd (List.getD x2 (Int.toNat x1) (ByteArray.empty,[],false,())))) false),none,none,none,none,none,none,none,none,none,none,none,none,none,none,none,none,none,none,none,none,none,none,none,none,none,none,none,none,none,none,none,none,none,none,none,none])) [Operand.tmp 24,Operand.tmp 25]++qfg AV.unit)) (br (decide (0≤x1)&&decide (x1<(↑(List.length (List.set (List.set x2 (Int.toNat x1) (Prod.fst (Prod.fst b),Prod.snd (List.getD x2 (Int.toNat x1) (ByteArray.empty,[],false,())))) (Int.toNat x1) (Prod.fst (List.getD (List.set x2 (Int.toNat x1) (Prod.fst (Prod.fst b),Prod.snd (List.getD x2 (Int.toNat x1) (ByteArray.empty,[],false,())))) (Int.toNat x1) (ByteArray.empty,[],false,())),Prod.fst (Prod.snd b_1),Prod.snd (Prod.snd (List.getD (List.set x2 (Int.toNat x1) (Prod.fst (Prod.fst b),Prod.snd (List.getD x2 (Int.toNat x1) (ByteArray.empty,[],false,())))) (Int.toNat x1) (ByteArray.empty,[],false,())))))):Int))) (go (IntKind.wrap IntKind.i64 (Prod.fst (Prod.fst b_1)+1)) (IntKind.wrap IntKind.i64 (x1+1)) (List.set (List.set (List.set x2 (Int.toNat x1) (Prod.fst (Prod.fst b),Prod.snd (List.getD x2 (Int.toNat x1) (ByteArray.empty,[],false,())))) (Int.toNat x1) (Prod.fst (List.getD (List.set x2 (Int.toNat x1) (Prod.fst (Prod.fst b),Prod.snd (List.getD x2 (Int.toNat x1) (ByteArray.empty,[],false,())))) (Int.toNat x1) (ByteArray.empty,[],false,())),Prod.fst (Prod.snd b_1),Prod.snd (Prod.snd (List.getD (List.set x2 (Int.toNat x1) (Prod.fst (Prod.fst b),Prod.snd (List.getD x2 (Int.toNat x1) (ByteArray.empty,[],false,())))) (Int.toNat x1) (ByteArray.empty,[],false,()))))) (Int.toNat x1) (Prod.fst (List.getD (List.set (List.set x2 (Int.toNat x1) (Prod.fst (Prod.fst b),Prod.snd (List.getD x2 (Int.toNat x1) (ByteArray.empty,[],false,())))) (Int.toNat x1) (Prod.fst (List.getD (List.set x2 (Int.toNat x1) (Prod.fst (Prod.fst b),Prod.snd (List.getD x2 (Int.toNat x1) (ByteArray.empty,[],false,())))) (Int.toNat x1) (ByteArray.empty,[],false,())),Prod.fst (Prod.snd b_1),Prod.snd (Prod.snd (List.getD (List.set x2 (Int.toNat x1) (Prod.fst (Prod.fst b),Prod.snd (List.getD x2 (Int.toNat x1) (ByteArray.empty,[],false,())))) (Int.toNat x1) (ByteArray.empty,[],false,()))))) (Int.toNat x1) (ByteArray.empty,[],false,())),Prod.fst (Prod.snd (List.getD (List.set (List.set x2 (Int.toNat x1) (Prod.fst (Prod.fst b),Prod.snd (List.getD x2 (Int.toNat x1) (ByteArray.empty,[],false,())))) (Int.toNat x1) (Prod.fst (List.getD (List.set x2 (Int.toNat x1) (Prod.fst (Prod.fst b),Prod.snd (List.getD x2 (Int.toNat x1) (ByteArray.empty,[],false,())))) (Int.toNat x1) (ByteArray.empty,[],false,())),Prod.fst (Prod.snd b_1),Prod.snd (Prod.snd (List.getD (List.set x2 (Int.toNat x1) (Prod.fst (Prod.fst b),Prod.snd (List.getD x2 (Int.toNat x1) (ByteArray.empty,[],false,())))) (Int.toNat x1) (ByteArray.empty,[],false,()))))) (Int.toNat x1) (ByteArray.empty,[],false,()))),decide (Int.tmod (Prod.fst (Prod.fst b_1)) 3=0),Prod.snd (Prod.snd (Prod.snd (List.getD (List.set (List.set x2 (Int.toNat x1) (Prod.fst (Prod.fst b),Prod.snd (List.getD x2 (Int.toNat x1) (ByteArray.empty,[],false,())))) (Int.toNat x1) (Prod.fst (List.getD (List.set x2 (Int.toNat x1) (Prod.fst (Prod.fst b),Prod.snd (List.getD x2 (Int.toNat x1) (ByteArray.empty,[],false,())))) (Int.toNat x1) (ByteArray.empty,[],false,())),Prod.fst (Prod.snd b_1),Prod.snd (Prod.snd (List.getD (List.set x2 (Int.toNat x1) (Prod.fst (Prod.fst b),Prod.snd (List.getD x2 (Int.toNat x1) (ByteArray.empty,[],false,())))) (Int.toNat x1) (ByteArray.empty,[],false,()))))) (Int.toNat x1) (ByteArray.empty,[],false,()))))))) none) none) none) none) (K0 x0 x2)
def qgc (D:DX)(n:Nat) (K0:Int→tIxs→Option ((Int×Unit)×tIxs×Unit)):Nat→(Int)→(Int)→(tIxs)→Option ((Int×Unit)×tIxs×Unit) | 0=>(fun x0 x1 x2=>none) | m+1=>(fun x0 x1 x2=>qru D n (qgc D n K0 m) K0 x0 x1 x2)
def qkb (D:DX)(n:Nat) (v0_0:Int) (v0_1:tIxs):Option ((Int×Unit)×tIxs×Unit):=some ((v0_0,()),v0_1,())
def qqf (D:DX)(n:Nat):(Int)→(Int)→(tIxs)→Option ((Int×Unit)×tIxs×Unit):=(fun x0 x1 x2=>qgc D n (fun v0_0 v0_1=>qkb D n v0_0 v0_1) n x0 x1 x2)
def qup (D:DX)(n:Nat) (lp0:Int→Int→tIxs→Option ((Int×Unit)×tIxs×Unit)) (a0:tIxs) (a1:Int):Option ((Int×Unit)×tIxs×Unit):=lp0 a1 0 a0
def qul (D:DX)(n:Nat) (a0:tIxs) (a1:Int):Option ((Int×Unit)×tIxs×Unit):=qup D n (qqf D n) a0 a1
def qf2 (x0:Int) (x1:Int) (x2:tIxs):St:=stq 37 [(0,AV.brw 0 [] 1048576),(1,avI x0),(5,avI x1)] [(0,Root.mk (Ty.sl yX) (Mk.own 1048576 (Mk.pr Mk.no (Mk.pr (Mk.own 0 Mk.no) (Mk.pr Mk.no Mk.no)))) x2 false)] 
def qj7 (v0_0:Int) (v0_1:tIxs):St:=stq 37 [(0,AV.brw 0 [] 1048576),(1,avI v0_0)] [(0,Root.mk (Ty.sl yX) (Mk.own 1048576 (Mk.pr Mk.no (Mk.pr (Mk.own 0 Mk.no) (Mk.pr Mk.no Mk.no)))) v0_1 false)] 
theorem qbap (D:DX)(n:Nat) (m:Nat) (K:Ex→St→Option (Out ctx 185)) (x0:Int) (x1:Int) (x2:tIxs) :
 LQ qc D n 185 [.r,.l,.r,.l] (m+1) (qf2 x0 x1 x2) K=qru D n (fun x0 x1 x2=>LQ qc D n 185 [.r,.l,.r,.l] m (qf2 x0 x1 x2) K) (fun v0_0 v0_1=>K (Ex.exit 0) (qj7 v0_0 v0_1)) x0 x1 x2:=by kernel_rfl
theorem qzj (D:DX)(n:Nat) (K:Ex→St→Option (Out ctx 185)):∀ (m:Nat) (x0:Int) (x1:Int) (x2:tIxs),LQ qc D n 185 [.r,.l,.r,.l] m (qf2 x0 x1 x2) K=qgc D n (fun v0_0 v0_1=>K (Ex.exit 0) (qj7 v0_0 v0_1)) m x0 x1 x2
 | 0,x0,x1,x2=>qy ..
 | m+1,x0,x1,x2=>by
  have ih:(fun x0 x1 x2=>LQ qc D n 185 [.r,.l,.r,.l] m (qf2 x0 x1 x2) K)=qgc D n (fun v0_0 v0_1=>K (Ex.exit 0) (qj7 v0_0 v0_1)) m:=by funext x0 x1 x2;exact qzj D n K m x0 x1 x2
  rw[qbap]
  rw[ih];rfl
theorem q9u (D:DX)(n:Nat) (v0_0:Int) (v0_1:tIxs) :
 (CQ qc D n 185 [] [.r,.l,.r,.l] (qi qc 185)) (Ex.exit 0) (qj7 v0_0 v0_1)=qkb D n v0_0 v0_1:=by kernel_rfl
theorem q9x (D:DX)(n:Nat) (x0:Int) (x1:Int) (x2:tIxs) :
 LQ qc D n 185 [.r,.l,.r,.l] n (qf2 x0 x1 x2) (CQ qc D n 185 [] [.r,.l,.r,.l] (qi qc 185))=qqf D n x0 x1 x2:=by
 rw[qzj]
 simp only[q9u]
 rfl
theorem qbd7 (D:DX)(n:Nat) (a0:tIxs) (a1:Int):rfC qc D n 185 (a0,(a1,()))=qul D n a0 a1:=by
 have h:rfC qc D n 185 (a0,(a1,()))=qup D n (fun x0 x1 x2=>LQ qc D n 185 [.r,.l,.r,.l] n (qf2 x0 x1 x2) (CQ qc D n 185 [] [.r,.l,.r,.l] (qi qc 185))) a0 a1:=by kernel_rfl
 rw[h]
 simp only[q9x]
 rfl

def qwk (D:DX)(n:Nat) (go:qk→Int→Int→Option ((Int×Unit)×Unit)) (K0:Int→Int→Option ((Int×Unit)×Unit)) (K1:Int→Option ((Int×Unit)×Unit)) (x0:qk) (x1:Int) (x2:Int):Option ((Int×Unit)×Unit):=br (decide (x2<(↑(List.length x0):Int))) (br (decide (0≤x2)&&decide (x2<(↑(List.length x0):Int))) (qj (qe2 D x1) fun b↦br (!List.beq (ByteArray.toList (Prod.fst (List.getD x0 (Int.toNat x2) (ByteArray.empty,0,false,())))) (ByteArray.toList (Prod.fst (Prod.fst b)))) (K0 x1 (-1)) (br (decide (0≤x2)&&decide (x2<(↑(List.length x0):Int))) (br (Prod.fst (Prod.snd (List.getD x0 (Int.toNat x2) (ByteArray.empty,0,false,()))) != IntKind.wrap IntKind.i64 (x1+1)) (K0 (IntKind.wrap IntKind.i64 (x1+1)) (-1)) (br (decide (0≤x2)&&decide (x2<(↑(List.length x0):Int))) (br (!decide (Prod.fst (Prod.snd (Prod.snd (List.getD x0 (Int.toNat x2) (ByteArray.empty,0,false,()))))=decide (Int.tmod (IntKind.wrap IntKind.i64 (IntKind.wrap IntKind.i64 (x1+1)+1)) 3=0))) (K0 (IntKind.wrap IntKind.i64 (IntKind.wrap IntKind.i64 (x1+1)+1)) (-1)) (go x0 (IntKind.wrap IntKind.i64 (IntKind.wrap IntKind.i64 (IntKind.wrap IntKind.i64 (x1+1)+1)+1)) (IntKind.wrap IntKind.i64 (x2+1)))) none)) none)) none) (K1 x1)
def qil (D:DX)(n:Nat) (K0:Int→Int→Option ((Int×Unit)×Unit)) (K1:Int→Option ((Int×Unit)×Unit)):Nat→(qk)→(Int)→(Int)→Option ((Int×Unit)×Unit) | 0=>(fun x0 x1 x2=>none) | m+1=>(fun x0 x1 x2=>qwk D n (qil D n K0 K1 m) K0 K1 x0 x1 x2)
def qse (D:DX)(n:Nat) (v0_0:Int) (v0_1:Int):Option ((Int×Unit)×Unit):=some ((v0_1,()),())
def qlu (D:DX)(n:Nat) (v1_0:Int):Option ((Int×Unit)×Unit):=some ((v1_0,()),())
def que (D:DX)(n:Nat):(qk)→(Int)→(Int)→Option ((Int×Unit)×Unit):=(fun x0 x1 x2=>qil D n (fun v0_0 v0_1=>qse D n v0_0 v0_1) (fun v1_0=>qlu D n v1_0) n x0 x1 x2)
def qx5 (D:DX)(n:Nat) (lp0:qk→Int→Int→Option ((Int×Unit)×Unit)) (a0:qk) (a1:Int):Option ((Int×Unit)×Unit):=lp0 a0 a1 0
def qxn (D:DX)(n:Nat) (a0:qk) (a1:Int):Option ((Int×Unit)×Unit):=qx5 D n (que D n) a0 a1
def qhu (x0:qk) (x1:Int) (x2:Int):St:=stq 43 [(0,AV.val (Ty.sl yC) x0),(1,avI x1),(5,avI x2)] [] 
def qm6 (v0_0:Int) (v0_1:Int):St:=stq 43 [(1,avI v0_0),(4,avI v0_1)] [] 
def ql1 (v1_0:Int):St:=stq 43 [(1,avI v1_0)] [] 
theorem qbfk (D:DX)(n:Nat) (m:Nat) (K:Ex→St→Option (Out ctx 186)) (x0:qk) (x1:Int) (x2:Int) :
 LQ qc D n 186 [.r,.l,.r,.l] (m+1) (qhu x0 x1 x2) K=qwk D n (fun x0 x1 x2=>LQ qc D n 186 [.r,.l,.r,.l] m (qhu x0 x1 x2) K) (fun v0_0 v0_1=>K (Ex.ret) (qm6 v0_0 v0_1)) (fun v1_0=>K (Ex.exit 0) (ql1 v1_0)) x0 x1 x2:=by kernel_rfl
theorem q3f (D:DX)(n:Nat) (K:Ex→St→Option (Out ctx 186)):∀ (m:Nat) (x0:qk) (x1:Int) (x2:Int),LQ qc D n 186 [.r,.l,.r,.l] m (qhu x0 x1 x2) K=qil D n (fun v0_0 v0_1=>K (Ex.ret) (qm6 v0_0 v0_1)) (fun v1_0=>K (Ex.exit 0) (ql1 v1_0)) m x0 x1 x2
 | 0,x0,x1,x2=>qy ..
 | m+1,x0,x1,x2=>by
  have ih:(fun x0 x1 x2=>LQ qc D n 186 [.r,.l,.r,.l] m (qhu x0 x1 x2) K)=qil D n (fun v0_0 v0_1=>K (Ex.ret) (qm6 v0_0 v0_1)) (fun v1_0=>K (Ex.exit 0) (ql1 v1_0)) m:=by funext x0 x1 x2;exact q3f D n K m x0 x1 x2
  rw[qbfk]
  rw[ih];rfl
theorem qbdj (D:DX)(n:Nat) (v0_0:Int) (v0_1:Int) :
 (CQ qc D n 186 [] [.r,.l,.r,.l] (qi qc 186)) (Ex.ret) (qm6 v0_0 v0_1)=qse D n v0_0 v0_1:=by kernel_rfl
theorem qbbc (D:DX)(n:Nat) (v1_0:Int) :
 (CQ qc D n 186 [] [.r,.l,.r,.l] (qi qc 186)) (Ex.exit 0) (ql1 v1_0)=qlu D n v1_0:=by kernel_rfl
theorem qbdd (D:DX)(n:Nat) (x0:qk) (x1:Int) (x2:Int) :
 LQ qc D n 186 [.r,.l,.r,.l] n (qhu x0 x1 x2) (CQ qc D n 186 [] [.r,.l,.r,.l] (qi qc 186))=que D n x0 x1 x2:=by
 rw[q3f]
 simp only[qbdj,qbbc]
 rfl
theorem qbi0 (D:DX)(n:Nat) (a0:qk) (a1:Int):rfC qc D n 186 (a0,(a1,()))=qxn D n a0 a1:=by
 have h:rfC qc D n 186 (a0,(a1,()))=qx5 D n (fun x0 x1 x2=>LQ qc D n 186 [.r,.l,.r,.l] n (qhu x0 x1 x2) (CQ qc D n 186 [] [.r,.l,.r,.l] (qi qc 186))) a0 a1:=by kernel_rfl
 rw[h]
 simp only[qbdd]
 rfl

def qvv (D:DX)(n:Nat) (go:List Int→Int→Int→Option ((Int×Unit)×Unit)) (K0:Int→Int→Option ((Int×Unit)×Unit)) (K1:Int→Option ((Int×Unit)×Unit)) (x0:List Int) (x1:Int) (x2:Int):Option ((Int×Unit)×Unit):=br (decide (x2<(↑(List.length x0):Int))) (br (decide (0≤x2)&&decide (x2<(↑(List.length x0):Int))) (br (List.getD x0 (Int.toNat x2) 0 != x1) (K0 x1 (-1)) (go x0 (IntKind.wrap IntKind.i64 (x1+1)) (IntKind.wrap IntKind.i64 (x2+1)))) none) (K1 x1)
def qir (D:DX)(n:Nat) (K0:Int→Int→Option ((Int×Unit)×Unit)) (K1:Int→Option ((Int×Unit)×Unit)):Nat→(List Int)→(Int)→(Int)→Option ((Int×Unit)×Unit) | 0=>(fun x0 x1 x2=>none) | m+1=>(fun x0 x1 x2=>qvv D n (qir D n K0 K1 m) K0 K1 x0 x1 x2)
def qr9 (D:DX)(n:Nat) (v0_0:Int) (v0_1:Int):Option ((Int×Unit)×Unit):=some ((v0_1,()),())
def ql6 (D:DX)(n:Nat) (v1_0:Int):Option ((Int×Unit)×Unit):=some ((v1_0,()),())
def quu (D:DX)(n:Nat):(List Int)→(Int)→(Int)→Option ((Int×Unit)×Unit):=(fun x0 x1 x2=>qir D n (fun v0_0 v0_1=>qr9 D n v0_0 v0_1) (fun v1_0=>ql6 D n v1_0) n x0 x1 x2)
def qyy (D:DX)(n:Nat) (lp0:List Int→Int→Int→Option ((Int×Unit)×Unit)) (a0:List Int) (a1:Int):Option ((Int×Unit)×Unit):=lp0 a0 a1 0
def qy1 (D:DX)(n:Nat) (a0:List Int) (a1:Int):Option ((Int×Unit)×Unit):=qyy D n (quu D n) a0 a1
def qh8 (x0:List Int) (x1:Int) (x2:Int):St:=stq 21 [(0,AV.val (Ty.sl yI) x0),(1,avI x1),(5,avI x2)] [] 
def qlv (v0_0:Int) (v0_1:Int):St:=stq 21 [(1,avI v0_0),(4,avI v0_1)] [] 
def qmz (v1_0:Int):St:=stq 21 [(1,avI v1_0)] [] 
theorem qbfn (D:DX)(n:Nat) (m:Nat) (K:Ex→St→Option (Out ctx 187)) (x0:List Int) (x1:Int) (x2:Int) :
 LQ qc D n 187 [.r,.l,.r,.l] (m+1) (qh8 x0 x1 x2) K=qvv D n (fun x0 x1 x2=>LQ qc D n 187 [.r,.l,.r,.l] m (qh8 x0 x1 x2) K) (fun v0_0 v0_1=>K (Ex.ret) (qlv v0_0 v0_1)) (fun v1_0=>K (Ex.exit 0) (qmz v1_0)) x0 x1 x2:=by kernel_rfl
theorem q30 (D:DX)(n:Nat) (K:Ex→St→Option (Out ctx 187)):∀ (m:Nat) (x0:List Int) (x1:Int) (x2:Int),LQ qc D n 187 [.r,.l,.r,.l] m (qh8 x0 x1 x2) K=qir D n (fun v0_0 v0_1=>K (Ex.ret) (qlv v0_0 v0_1)) (fun v1_0=>K (Ex.exit 0) (qmz v1_0)) m x0 x1 x2
 | 0,x0,x1,x2=>qy ..
 | m+1,x0,x1,x2=>by
  have ih:(fun x0 x1 x2=>LQ qc D n 187 [.r,.l,.r,.l] m (qh8 x0 x1 x2) K)=qir D n (fun v0_0 v0_1=>K (Ex.ret) (qlv v0_0 v0_1)) (fun v1_0=>K (Ex.exit 0) (qmz v1_0)) m:=by funext x0 x1 x2;exact q30 D n K m x0 x1 x2
  rw[qbfn]
  rw[ih];rfl
theorem qbdg (D:DX)(n:Nat) (v0_0:Int) (v0_1:Int) :
 (CQ qc D n 187 [] [.r,.l,.r,.l] (qi qc 187)) (Ex.ret) (qlv v0_0 v0_1)=qr9 D n v0_0 v0_1:=by kernel_rfl
theorem qbc9 (D:DX)(n:Nat) (v1_0:Int) :
 (CQ qc D n 187 [] [.r,.l,.r,.l] (qi qc 187)) (Ex.exit 0) (qmz v1_0)=ql6 D n v1_0:=by kernel_rfl
theorem qbbi (D:DX)(n:Nat) (x0:List Int) (x1:Int) (x2:Int) :
 LQ qc D n 187 [.r,.l,.r,.l] n (qh8 x0 x1 x2) (CQ qc D n 187 [] [.r,.l,.r,.l] (qi qc 187))=quu D n x0 x1 x2:=by
 rw[q30]
 simp only[qbdg,qbc9]
 rfl
theorem qbja (D:DX)(n:Nat) (a0:List Int) (a1:Int):rfC qc D n 187 (a0,(a1,()))=qy1 D n a0 a1:=by
 have h:rfC qc D n 187 (a0,(a1,()))=qyy D n (fun x0 x1 x2=>LQ qc D n 187 [.r,.l,.r,.l] n (qh8 x0 x1 x2) (CQ qc D n 187 [] [.r,.l,.r,.l] (qi qc 187))) a0 a1:=by kernel_rfl
 rw[h]
 simp only[qbbi]
 rfl

def qrh (D:DX)(n:Nat) (go:tIxs→Int→Int→Option ((Int×Unit)×Unit)) (K0:Int→Int→Option ((Int×Unit)×Unit)) (K1:Int→Option ((Int×Unit)×Unit)) (x0:tIxs) (x1:Int) (x2:Int):Option ((Int×Unit)×Unit):=br (decide (x2<(↑(List.length x0):Int))) (br (decide (0≤x2)&&decide (x2<(↑(List.length x0):Int))) (qj (qe2 D x1) fun b↦br (!List.beq (ByteArray.toList (Prod.fst (List.getD x0 (Int.toNat x2) (ByteArray.empty,[],false,())))) (ByteArray.toList (Prod.fst (Prod.fst b)))) (K0 x1 (-1)) (br (decide (0≤x2)&&decide (x2<(↑(List.length x0):Int))) (qj (qmf D (Prod.fst (Prod.snd (List.getD x0 (Int.toNat x2) (ByteArray.empty,[],false,())))) (IntKind.wrap IntKind.i64 (x1+1))) fun b↦br (decide (Prod.fst (Prod.fst b)<0)) (K0 (Prod.fst (Prod.fst b)) (-1)) (br (decide (0≤x2)&&decide (x2<(↑(List.length x0):Int))) (br (!decide (Prod.fst (Prod.snd (Prod.snd (List.getD x0 (Int.toNat x2) (ByteArray.empty,[],false,()))))=decide (Int.tmod (Prod.fst (Prod.fst b)) 3=0))) (K0 (Prod.fst (Prod.fst b)) (-1)) (go x0 (IntKind.wrap IntKind.i64 (Prod.fst (Prod.fst b)+1)) (IntKind.wrap IntKind.i64 (x2+1)))) none)) none)) none) (K1 x1)
def qge (D:DX)(n:Nat) (K0:Int→Int→Option ((Int×Unit)×Unit)) (K1:Int→Option ((Int×Unit)×Unit)):Nat→(tIxs)→(Int)→(Int)→Option ((Int×Unit)×Unit) | 0=>(fun x0 x1 x2=>none) | m+1=>(fun x0 x1 x2=>qrh D n (qge D n K0 K1 m) K0 K1 x0 x1 x2)
def qpe (D:DX)(n:Nat) (v0_0:Int) (v0_1:Int):Option ((Int×Unit)×Unit):=some ((v0_1,()),())
def qj4 (D:DX)(n:Nat) (v1_0:Int):Option ((Int×Unit)×Unit):=some ((v1_0,()),())
def qqr (D:DX)(n:Nat):(tIxs)→(Int)→(Int)→Option ((Int×Unit)×Unit):=(fun x0 x1 x2=>qge D n (fun v0_0 v0_1=>qpe D n v0_0 v0_1) (fun v1_0=>qj4 D n v1_0) n x0 x1 x2)
def qtk (D:DX)(n:Nat) (lp0:tIxs→Int→Int→Option ((Int×Unit)×Unit)) (a0:tIxs) (a1:Int):Option ((Int×Unit)×Unit):=lp0 a0 a1 0
def qtl (D:DX)(n:Nat) (a0:tIxs) (a1:Int):Option ((Int×Unit)×Unit):=qtk D n (qqr D n) a0 a1
def qga (x0:tIxs) (x1:Int) (x2:Int):St:=stq 43 [(0,AV.val (Ty.sl yX) x0),(1,avI x1),(5,avI x2)] [] 
def qjy (v0_0:Int) (v0_1:Int):St:=stq 43 [(1,avI v0_0),(4,avI v0_1)] [] 
def qj9 (v1_0:Int):St:=stq 43 [(1,avI v1_0)] [] 
theorem qba0 (D:DX)(n:Nat) (m:Nat) (K:Ex→St→Option (Out ctx 188)) (x0:tIxs) (x1:Int) (x2:Int) :
 LQ qc D n 188 [.r,.l,.r,.l] (m+1) (qga x0 x1 x2) K=qrh D n (fun x0 x1 x2=>LQ qc D n 188 [.r,.l,.r,.l] m (qga x0 x1 x2) K) (fun v0_0 v0_1=>K (Ex.ret) (qjy v0_0 v0_1)) (fun v1_0=>K (Ex.exit 0) (qj9 v1_0)) x0 x1 x2:=by kernel_rfl
theorem qzc (D:DX)(n:Nat) (K:Ex→St→Option (Out ctx 188)):∀ (m:Nat) (x0:tIxs) (x1:Int) (x2:Int),LQ qc D n 188 [.r,.l,.r,.l] m (qga x0 x1 x2) K=qge D n (fun v0_0 v0_1=>K (Ex.ret) (qjy v0_0 v0_1)) (fun v1_0=>K (Ex.exit 0) (qj9 v1_0)) m x0 x1 x2
 | 0,x0,x1,x2=>qy ..
 | m+1,x0,x1,x2=>by
  have ih:(fun x0 x1 x2=>LQ qc D n 188 [.r,.l,.r,.l] m (qga x0 x1 x2) K)=qge D n (fun v0_0 v0_1=>K (Ex.ret) (qjy v0_0 v0_1)) (fun v1_0=>K (Ex.exit 0) (qj9 v1_0)) m:=by funext x0 x1 x2;exact qzc D n K m x0 x1 x2
  rw[qba0]
  rw[ih];rfl
theorem q8u (D:DX)(n:Nat) (v0_0:Int) (v0_1:Int) :
 (CQ qc D n 188 [] [.r,.l,.r,.l] (qi qc 188)) (Ex.ret) (qjy v0_0 v0_1)=qpe D n v0_0 v0_1:=by kernel_rfl
theorem q88 (D:DX)(n:Nat) (v1_0:Int) :
 (CQ qc D n 188 [] [.r,.l,.r,.l] (qi qc 188)) (Ex.exit 0) (qj9 v1_0)=qj4 D n v1_0:=by kernel_rfl
theorem q9e (D:DX)(n:Nat) (x0:tIxs) (x1:Int) (x2:Int) :
 LQ qc D n 188 [.r,.l,.r,.l] n (qga x0 x1 x2) (CQ qc D n 188 [] [.r,.l,.r,.l] (qi qc 188))=qqr D n x0 x1 x2:=by
 rw[qzc]
 simp only[q8u,q88]
 rfl
theorem qbed (D:DX)(n:Nat) (a0:tIxs) (a1:Int):rfC qc D n 188 (a0,(a1,()))=qtl D n a0 a1:=by
 have h:rfC qc D n 188 (a0,(a1,()))=qtk D n (fun x0 x1 x2=>LQ qc D n 188 [.r,.l,.r,.l] n (qga x0 x1 x2) (CQ qc D n 188 [] [.r,.l,.r,.l] (qi qc 188))) a0 a1:=by kernel_rfl
 rw[h]
 simp only[q9e]
 rfl

def qsq (D:DX)(n:Nat) (go:qd→Int→Int→Option ((Int×Unit)×Unit)) (K0:Int→Int→Option ((Int×Unit)×Unit)) (K1:Int→Option ((Int×Unit)×Unit)) (x0:qd) (x1:Int) (x2:Int):Option ((Int×Unit)×Unit):=br (decide (x2<(↑(List.length x0):Int))) (br (decide (0≤x2)&&decide (x2<(↑(List.length x0):Int))) (br (Prod.fst (List.getD x0 (Int.toNat x2) (0,0,ByteArray.empty,())) != x1) (K0 x1 (-1)) (br (decide (0≤x2)&&decide (x2<(↑(List.length x0):Int))) (br (Prod.fst (Prod.snd (List.getD x0 (Int.toNat x2) (0,0,ByteArray.empty,()))) != IntKind.wrap IntKind.i64 (x1+1)) (K0 (IntKind.wrap IntKind.i64 (x1+1)) (-1)) (br (decide (0≤x2)&&decide (x2<(↑(List.length x0):Int))) (qj (qe2 D (IntKind.wrap IntKind.i64 (IntKind.wrap IntKind.i64 (x1+1)+1))) fun b↦br (!List.beq (ByteArray.toList (Prod.fst (Prod.snd (Prod.snd (List.getD x0 (Int.toNat x2) (0,0,ByteArray.empty,())))))) (ByteArray.toList (Prod.fst (Prod.fst b)))) (K0 (IntKind.wrap IntKind.i64 (IntKind.wrap IntKind.i64 (x1+1)+1)) (-1)) (go x0 (IntKind.wrap IntKind.i64 (IntKind.wrap IntKind.i64 (IntKind.wrap IntKind.i64 (x1+1)+1)+1)) (IntKind.wrap IntKind.i64 (x2+1)))) none)) none)) none) (K1 x1)
def qgg (D:DX)(n:Nat) (K0:Int→Int→Option ((Int×Unit)×Unit)) (K1:Int→Option ((Int×Unit)×Unit)):Nat→(qd)→(Int)→(Int)→Option ((Int×Unit)×Unit) | 0=>(fun x0 x1 x2=>none) | m+1=>(fun x0 x1 x2=>qsq D n (qgg D n K0 K1 m) K0 K1 x0 x1 x2)
def qo3 (D:DX)(n:Nat) (v0_0:Int) (v0_1:Int):Option ((Int×Unit)×Unit):=some ((v0_1,()),())
def qju (D:DX)(n:Nat) (v1_0:Int):Option ((Int×Unit)×Unit):=some ((v1_0,()),())
def qqd (D:DX)(n:Nat):(qd)→(Int)→(Int)→Option ((Int×Unit)×Unit):=(fun x0 x1 x2=>qgg D n (fun v0_0 v0_1=>qo3 D n v0_0 v0_1) (fun v1_0=>qju D n v1_0) n x0 x1 x2)
def quk (D:DX)(n:Nat) (lp0:qd→Int→Int→Option ((Int×Unit)×Unit)) (a0:qd) (a1:Int):Option ((Int×Unit)×Unit):=lp0 a0 a1 0
def quh (D:DX)(n:Nat) (a0:qd) (a1:Int):Option ((Int×Unit)×Unit):=quk D n (qqd D n) a0 a1
def qf4 (x0:qd) (x1:Int) (x2:Int):St:=stq 41 [(0,AV.val (Ty.sl yV) x0),(1,avI x1),(5,avI x2)] [] 
def qka (v0_0:Int) (v0_1:Int):St:=stq 41 [(1,avI v0_0),(4,avI v0_1)] [] 
def qj2 (v1_0:Int):St:=stq 41 [(1,avI v1_0)] [] 
theorem q94 (D:DX)(n:Nat) (m:Nat) (K:Ex→St→Option (Out ctx 189)) (x0:qd) (x1:Int) (x2:Int) :
 LQ qc D n 189 [.r,.l,.r,.l] (m+1) (qf4 x0 x1 x2) K=qsq D n (fun x0 x1 x2=>LQ qc D n 189 [.r,.l,.r,.l] m (qf4 x0 x1 x2) K) (fun v0_0 v0_1=>K (Ex.ret) (qka v0_0 v0_1)) (fun v1_0=>K (Ex.exit 0) (qj2 v1_0)) x0 x1 x2:=by kernel_rfl
theorem qzb (D:DX)(n:Nat) (K:Ex→St→Option (Out ctx 189)):∀ (m:Nat) (x0:qd) (x1:Int) (x2:Int),LQ qc D n 189 [.r,.l,.r,.l] m (qf4 x0 x1 x2) K=qgg D n (fun v0_0 v0_1=>K (Ex.ret) (qka v0_0 v0_1)) (fun v1_0=>K (Ex.exit 0) (qj2 v1_0)) m x0 x1 x2
 | 0,x0,x1,x2=>qy ..
 | m+1,x0,x1,x2=>by
  have ih:(fun x0 x1 x2=>LQ qc D n 189 [.r,.l,.r,.l] m (qf4 x0 x1 x2) K)=qgg D n (fun v0_0 v0_1=>K (Ex.ret) (qka v0_0 v0_1)) (fun v1_0=>K (Ex.exit 0) (qj2 v1_0)) m:=by funext x0 x1 x2;exact qzb D n K m x0 x1 x2
  rw[q94]
  rw[ih];rfl
theorem q8x (D:DX)(n:Nat) (v0_0:Int) (v0_1:Int) :
 (CQ qc D n 189 [] [.r,.l,.r,.l] (qi qc 189)) (Ex.ret) (qka v0_0 v0_1)=qo3 D n v0_0 v0_1:=by kernel_rfl
theorem q83 (D:DX)(n:Nat) (v1_0:Int) :
 (CQ qc D n 189 [] [.r,.l,.r,.l] (qi qc 189)) (Ex.exit 0) (qj2 v1_0)=qju D n v1_0:=by kernel_rfl
theorem q89 (D:DX)(n:Nat) (x0:qd) (x1:Int) (x2:Int) :
 LQ qc D n 189 [.r,.l,.r,.l] n (qf4 x0 x1 x2) (CQ qc D n 189 [] [.r,.l,.r,.l] (qi qc 189))=qqd D n x0 x1 x2:=by
 rw[qzb]
 simp only[q8x,q83]
 rfl
theorem qbei (D:DX)(n:Nat) (a0:qd) (a1:Int):rfC qc D n 189 (a0,(a1,()))=quh D n a0 a1:=by
 have h:rfC qc D n 189 (a0,(a1,()))=quk D n (fun x0 x1 x2=>LQ qc D n 189 [.r,.l,.r,.l] n (qf4 x0 x1 x2) (CQ qc D n 189 [] [.r,.l,.r,.l] (qi qc 189))) a0 a1:=by kernel_rfl
 rw[h]
 simp only[q89]
 rfl


def qdm (D:DX)(n:Nat) (a1:Clo) (go:tIxs→Int→Int→Option ((Int×Unit)×Unit)) (K0:Int→Option ((Int×Unit)×Unit)) (K1:Option ((Int×Unit)×Unit)) (x0:tIxs) (x1:Int) (x2:Int):Option ((Int×Unit)×Unit):=br (decide (x2<x1)) (br (decide (0≤x2)&&decide (x2<(↑(List.length x0):Int))) (qj (qcj ctx D a1 [CapV.val (Ty.pair Ty.str (Ty.pair (Ty.sl (Ty.int IntKind.i64)) (Ty.pair Ty.bool Ty.unit))) (List.getD x0 (Int.toNat x2) (ByteArray.empty,[],false,()))] Ty.bool) fun b↦br b (K0 x2) (go x0 x1 (IntKind.wrap IntKind.i64 (x2+1)))) none) K1
def qbr (D:DX)(n:Nat) (a1:Clo) (K0:Int→Option ((Int×Unit)×Unit)) (K1:Option ((Int×Unit)×Unit)):Nat→(tIxs)→(Int)→(Int)→Option ((Int×Unit)×Unit) | 0=>(fun x0 x1 x2=>none) | m+1=>(fun x0 x1 x2=>qdm D n a1 (qbr D n a1 K0 K1 m) K0 K1 x0 x1 x2)
def qfl (D:DX)(n:Nat) (a1:Clo) (v0_0:Int):Option ((Int×Unit)×Unit):=some ((v0_0,()),())
def qfn (D:DX)(n:Nat) (a1:Clo):Option ((Int×Unit)×Unit):=some ((-1,()),())
def qdj (D:DX)(n:Nat) (a1:Clo):(tIxs)→(Int)→(Int)→Option ((Int×Unit)×Unit):=(fun x0 x1 x2=>qbr D n a1 (fun v0_0=>qfl D n a1 v0_0) (qfn D n a1) n x0 x1 x2)
def qdz (D:DX)(n:Nat) (a1:Clo) (lp0:tIxs→Int→Int→Option ((Int×Unit)×Unit)) (a0:tIxs):Option ((Int×Unit)×Unit):=lp0 a0 (↑(List.length a0):Int) 0
def qdu (D:DX)(n:Nat) (a0:tIxs) (a1:Clo):Option ((Int×Unit)×Unit):=qdz D n a1 (qdj D n a1) a0
def qbq (a1:Clo) (x0:tIxs) (x1:Int) (x2:Int):St:=stq 19 [(0,AV.val (Ty.sl yX) x0),(1,AV.cloV a1),(7,avI x1),(8,avI x2)] [] 
def qcr (a1:Clo) (v0_0:Int):St:=stq 19 [(4,avI v0_0)] [] 
def qcn (a1:Clo):St:=stq 19 [] [] 
theorem qoc (D:DX)(n:Nat) (a1:Clo) (m:Nat) (K:Ex→St→Option (Out ctx 193)) (x0:tIxs) (x1:Int) (x2:Int) :
 LQ qc D n 193 [.r,.l,.r,.l] (m+1) (qbq a1 x0 x1 x2) K=qdm D n a1 (fun x0 x1 x2=>LQ qc D n 193 [.r,.l,.r,.l] m (qbq a1 x0 x1 x2) K) (fun v0_0=>K (Ex.ret) (qcr a1 v0_0)) (K (Ex.exit 0) (qcn a1)) x0 x1 x2:=by kernel_rfl
theorem qf6 (D:DX)(n:Nat) (a1:Clo) (K:Ex→St→Option (Out ctx 193)):∀ (m:Nat) (x0:tIxs) (x1:Int) (x2:Int),LQ qc D n 193 [.r,.l,.r,.l] m (qbq a1 x0 x1 x2) K=qbr D n a1 (fun v0_0=>K (Ex.ret) (qcr a1 v0_0)) (K (Ex.exit 0) (qcn a1)) m x0 x1 x2
 | 0,x0,x1,x2=>qy ..
 | m+1,x0,x1,x2=>by
  have ih:(fun x0 x1 x2=>LQ qc D n 193 [.r,.l,.r,.l] m (qbq a1 x0 x1 x2) K)=qbr D n a1 (fun v0_0=>K (Ex.ret) (qcr a1 v0_0)) (K (Ex.exit 0) (qcn a1)) m:=by funext x0 x1 x2;exact qf6 D n a1 K m x0 x1 x2
  rw[qoc]
  rw[ih];rfl
theorem qnm (D:DX)(n:Nat) (a1:Clo) (v0_0:Int) :
 (CQ qc D n 193 [] [.r,.l,.r,.l] (qi qc 193)) (Ex.ret) (qcr a1 v0_0)=qfl D n a1 v0_0:=by kernel_rfl
theorem qnt (D:DX)(n:Nat) (a1:Clo) :
 (CQ qc D n 193 [] [.r,.l,.r,.l] (qi qc 193)) (Ex.exit 0) (qcn a1)=qfn D n a1:=by kernel_rfl
theorem qno (D:DX)(n:Nat) (a1:Clo) (x0:tIxs) (x1:Int) (x2:Int) :
 LQ qc D n 193 [.r,.l,.r,.l] n (qbq a1 x0 x1 x2) (CQ qc D n 193 [] [.r,.l,.r,.l] (qi qc 193))=qdj D n a1 x0 x1 x2:=by
 rw[qf6]
 simp only[qnm,qnt]
 rfl
theorem qos (D:DX)(n:Nat) (a0:tIxs) (a1:Clo):rfC qc D n 193 (a0,(a1,()))=qdu D n a0 a1:=by
 have h:rfC qc D n 193 (a0,(a1,()))=qdz D n a1 (fun x0 x1 x2=>LQ qc D n 193 [.r,.l,.r,.l] n (qbq a1 x0 x1 x2) (CQ qc D n 193 [] [.r,.l,.r,.l] (qi qc 193))) a0:=by kernel_rfl
 rw[h]
 simp only[qno]
 rfl

def qef (D:DX)(n:Nat) (go:qd→Int→Int→Int×Int×ByteArray×Unit→Option ((Int×Unit)×Unit)) (K0:Int→Option ((Int×Unit)×Unit)) (K1:Option ((Int×Unit)×Unit)) (x0:qd) (x1:Int) (x2:Int) (x3:Int×Int×ByteArray×Unit):Option ((Int×Unit)×Unit):=br (decide (x2<x1)) (br (decide (0≤x2)&&decide (x2<(↑(List.length x0):Int))) (br (qra (Ty.pair (Ty.int IntKind.i64) (Ty.pair (Ty.int IntKind.i64) (Ty.pair Ty.str Ty.unit))) x3 (List.getD x0 (Int.toNat x2) (0,0,ByteArray.empty,()))) (K0 x2) (go x0 x1 (IntKind.wrap IntKind.i64 (x2+1)) x3)) none) K1
def qb6 (D:DX)(n:Nat) (K0:Int→Option ((Int×Unit)×Unit)) (K1:Option ((Int×Unit)×Unit)):Nat→(qd)→(Int)→(Int)→tVal→Option ((Int×Unit)×Unit) | 0=>(fun x0 x1 x2 x3=>none) | m+1=>(fun x0 x1 x2 x3=>qef D n (qb6 D n K0 K1 m) K0 K1 x0 x1 x2 x3)
def qhk (D:DX)(n:Nat) (v0_0:Int):Option ((Int×Unit)×Unit):=some ((v0_0,()),())
def qhg (D:DX)(n:Nat):Option ((Int×Unit)×Unit):=some ((-1,()),())
def qea (D:DX)(n:Nat):(qd)→(Int)→(Int)→tVal→Option ((Int×Unit)×Unit):=(fun x0 x1 x2 x3=>qb6 D n (fun v0_0=>qhk D n v0_0) (qhg D n) n x0 x1 x2 x3)
def qes (D:DX)(n:Nat) (lp0:qd→Int→Int→Int×Int×ByteArray×Unit→Option ((Int×Unit)×Unit)) (a0:qd) (a1:Int×Int×ByteArray×Unit):Option ((Int×Unit)×Unit):=lp0 a0 (↑(List.length a0):Int) 0 a1
def qeu (D:DX)(n:Nat) (a0:qd) (a1:Int×Int×ByteArray×Unit):Option ((Int×Unit)×Unit):=qes D n (qea D n) a0 a1
def qb4 (x0:qd) (x1:Int) (x2:Int) (x3:Int×Int×ByteArray×Unit):St:=stq 19 [(0,AV.val (Ty.sl yV) x0),(3,AV.addr 3 []),(7,avI x1),(8,avI x2)] [(3,Root.mk yV Mk.no x3 true)] 
def qc2 (v0_0:Int):St:=stq 19 [(4,avI v0_0)] [] 
def qcz:St:=stq 19 [] [] 
theorem qqo (D:DX)(n:Nat) (m:Nat) (K:Ex→St→Option (Out ctx 194)) (x0:qd) (x1:Int) (x2:Int) (x3:Int×Int×ByteArray×Unit) :
 LQ qc D n 194 [.r,.l,.r,.l] (m+1) (qb4 x0 x1 x2 x3) K=qef D n (fun x0 x1 x2 x3=>LQ qc D n 194 [.r,.l,.r,.l] m (qb4 x0 x1 x2 x3) K) (fun v0_0=>K (Ex.ret) (qc2 v0_0)) (K (Ex.exit 0) (qcz)) x0 x1 x2 x3:=by kernel_rfl
theorem qhr (D:DX)(n:Nat) (K:Ex→St→Option (Out ctx 194)):∀ (m:Nat) (x0:qd) (x1:Int) (x2:Int) (x3:Int×Int×ByteArray×Unit),LQ qc D n 194 [.r,.l,.r,.l] m (qb4 x0 x1 x2 x3) K=qb6 D n (fun v0_0=>K (Ex.ret) (qc2 v0_0)) (K (Ex.exit 0) (qcz)) m x0 x1 x2 x3
 | 0,x0,x1,x2,x3=>qy ..
 | m+1,x0,x1,x2,x3=>by
  have ih:(fun x0 x1 x2 x3=>LQ qc D n 194 [.r,.l,.r,.l] m (qb4 x0 x1 x2 x3) K)=qb6 D n (fun v0_0=>K (Ex.ret) (qc2 v0_0)) (K (Ex.exit 0) (qcz)) m:=by funext x0 x1 x2 x3;exact qhr D n K m x0 x1 x2 x3
  rw[qqo]
  rw[ih];rfl
theorem qpq (D:DX)(n:Nat) (v0_0:Int) :
 (CQ qc D n 194 [] [.r,.l,.r,.l] (qi qc 194)) (Ex.ret) (qc2 v0_0)=qhk D n v0_0:=by kernel_rfl
theorem qpp (D:DX)(n:Nat) :
 (CQ qc D n 194 [] [.r,.l,.r,.l] (qi qc 194)) (Ex.exit 0) (qcz)=qhg D n:=by kernel_rfl
theorem qpl (D:DX)(n:Nat) (x0:qd) (x1:Int) (x2:Int) (x3:Int×Int×ByteArray×Unit) :
 LQ qc D n 194 [.r,.l,.r,.l] n (qb4 x0 x1 x2 x3) (CQ qc D n 194 [] [.r,.l,.r,.l] (qi qc 194))=qea D n x0 x1 x2 x3:=by
 rw[qhr]
 simp only[qpq,qpp]
 rfl
theorem qsb (D:DX)(n:Nat) (a0:qd) (a1:Int×Int×ByteArray×Unit):rfC qc D n 194 (a0,(a1,()))=qeu D n a0 a1:=by
 have h:rfC qc D n 194 (a0,(a1,()))=qes D n (fun x0 x1 x2 x3=>LQ qc D n 194 [.r,.l,.r,.l] n (qb4 x0 x1 x2 x3) (CQ qc D n 194 [] [.r,.l,.r,.l] (qi qc 194))) a0 a1:=by kernel_rfl
 rw[h]
 simp only[qpl]
 rfl

def qeg (D:DX)(n:Nat) (a1:Clo) (go:qk→Int→Int→Option ((Int×Unit)×Unit)) (K0:Int→Option ((Int×Unit)×Unit)) (K1:Option ((Int×Unit)×Unit)) (x0:qk) (x1:Int) (x2:Int):Option ((Int×Unit)×Unit):=br (decide (x2<x1)) (br (decide (0≤x2)&&decide (x2<(↑(List.length x0):Int))) (qj (qcj ctx D a1 [CapV.val (Ty.pair Ty.str (Ty.pair (Ty.int IntKind.i64) (Ty.pair Ty.bool Ty.unit))) (List.getD x0 (Int.toNat x2) (ByteArray.empty,0,false,()))] Ty.bool) fun b↦br b (K0 x2) (go x0 x1 (IntKind.wrap IntKind.i64 (x2+1)))) none) K1
def qb5 (D:DX)(n:Nat) (a1:Clo) (K0:Int→Option ((Int×Unit)×Unit)) (K1:Option ((Int×Unit)×Unit)):Nat→(qk)→(Int)→(Int)→Option ((Int×Unit)×Unit) | 0=>(fun x0 x1 x2=>none) | m+1=>(fun x0 x1 x2=>qeg D n a1 (qb5 D n a1 K0 K1 m) K0 K1 x0 x1 x2)
def qhh (D:DX)(n:Nat) (a1:Clo) (v0_0:Int):Option ((Int×Unit)×Unit):=some ((v0_0,()),())
def qhe (D:DX)(n:Nat) (a1:Clo):Option ((Int×Unit)×Unit):=some ((-1,()),())
def qd7 (D:DX)(n:Nat) (a1:Clo):(qk)→(Int)→(Int)→Option ((Int×Unit)×Unit):=(fun x0 x1 x2=>qb5 D n a1 (fun v0_0=>qhh D n a1 v0_0) (qhe D n a1) n x0 x1 x2)
def qev (D:DX)(n:Nat) (a1:Clo) (lp0:qk→Int→Int→Option ((Int×Unit)×Unit)) (a0:qk):Option ((Int×Unit)×Unit):=lp0 a0 (↑(List.length a0):Int) 0
def qep (D:DX)(n:Nat) (a0:qk) (a1:Clo):Option ((Int×Unit)×Unit):=qev D n a1 (qd7 D n a1) a0
def qb2 (a1:Clo) (x0:qk) (x1:Int) (x2:Int):St:=stq 19 [(0,AV.val (Ty.sl yC) x0),(1,AV.cloV a1),(7,avI x1),(8,avI x2)] [] 
def qcy (a1:Clo) (v0_0:Int):St:=stq 19 [(4,avI v0_0)] [] 
def qc4 (a1:Clo):St:=stq 19 [] [] 
theorem qp6 (D:DX)(n:Nat) (a1:Clo) (m:Nat) (K:Ex→St→Option (Out ctx 195)) (x0:qk) (x1:Int) (x2:Int) :
 LQ qc D n 195 [.r,.l,.r,.l] (m+1) (qb2 a1 x0 x1 x2) K=qeg D n a1 (fun x0 x1 x2=>LQ qc D n 195 [.r,.l,.r,.l] m (qb2 a1 x0 x1 x2) K) (fun v0_0=>K (Ex.ret) (qcy a1 v0_0)) (K (Ex.exit 0) (qc4 a1)) x0 x1 x2:=by kernel_rfl
theorem qhs (D:DX)(n:Nat) (a1:Clo) (K:Ex→St→Option (Out ctx 195)):∀ (m:Nat) (x0:qk) (x1:Int) (x2:Int),LQ qc D n 195 [.r,.l,.r,.l] m (qb2 a1 x0 x1 x2) K=qb5 D n a1 (fun v0_0=>K (Ex.ret) (qcy a1 v0_0)) (K (Ex.exit 0) (qc4 a1)) m x0 x1 x2
 | 0,x0,x1,x2=>qy ..
 | m+1,x0,x1,x2=>by
  have ih:(fun x0 x1 x2=>LQ qc D n 195 [.r,.l,.r,.l] m (qb2 a1 x0 x1 x2) K)=qb5 D n a1 (fun v0_0=>K (Ex.ret) (qcy a1 v0_0)) (K (Ex.exit 0) (qc4 a1)) m:=by funext x0 x1 x2;exact qhs D n a1 K m x0 x1 x2
  rw[qp6]
  rw[ih];rfl
theorem qpv (D:DX)(n:Nat) (a1:Clo) (v0_0:Int) :
 (CQ qc D n 195 [] [.r,.l,.r,.l] (qi qc 195)) (Ex.ret) (qcy a1 v0_0)=qhh D n a1 v0_0:=by kernel_rfl
theorem qps (D:DX)(n:Nat) (a1:Clo) :
 (CQ qc D n 195 [] [.r,.l,.r,.l] (qi qc 195)) (Ex.exit 0) (qc4 a1)=qhe D n a1:=by kernel_rfl
theorem qpx (D:DX)(n:Nat) (a1:Clo) (x0:qk) (x1:Int) (x2:Int) :
 LQ qc D n 195 [.r,.l,.r,.l] n (qb2 a1 x0 x1 x2) (CQ qc D n 195 [] [.r,.l,.r,.l] (qi qc 195))=qd7 D n a1 x0 x1 x2:=by
 rw[qhs]
 simp only[qpv,qps]
 rfl
theorem qr0 (D:DX)(n:Nat) (a0:qk) (a1:Clo):rfC qc D n 195 (a0,(a1,()))=qep D n a0 a1:=by
 have h:rfC qc D n 195 (a0,(a1,()))=qev D n a1 (fun x0 x1 x2=>LQ qc D n 195 [.r,.l,.r,.l] n (qb2 a1 x0 x1 x2) (CQ qc D n 195 [] [.r,.l,.r,.l] (qi qc 195))) a0:=by kernel_rfl
 rw[h]
 simp only[qpx]
 rfl

def q77 (D:DX)(n:Nat) (a0:ByteArray×Int×Bool×Unit) (a1:ByteArray):Option ((Bool×Unit)×Unit):=some ((List.beq (ByteArray.toList (Prod.fst a0)) (ByteArray.toList a1),()),())
def qz7 (D:DX)(n:Nat) (a0:ByteArray×Int×Bool×Unit) (a1:ByteArray):Option ((Bool×Unit)×Unit):=q77 D n a0 a1
theorem qblj (D:DX)(n:Nat) (a0:ByteArray×Int×Bool×Unit) (a1:ByteArray):rfC qc D n 196 (a0,(a1,()))=qz7 D n a0 a1:=by kernel_rfl

def qrb (D:DX)(n:Nat) (a0:List Int) (a1:Int):Option ((Bool×Unit)×Unit):=qj (qng D a0 a1) fun b↦some ((decide (Prod.fst (Prod.fst b)≥0),()),())
def qj0 (D:DX)(n:Nat) (a0:List Int) (a1:Int):Option ((Bool×Unit)×Unit):=qrb D n a0 a1
theorem q4j (D:DX)(n:Nat) (a0:List Int) (a1:Int):rfC qc D n 197 (a0,(a1,()))=qj0 D n a0 a1:=by kernel_rfl

def qi0 (D:DX)(n:Nat) (a1:Clo) (go:List Int→Int→Int→Option ((Int×Unit)×Unit)) (K0:Int→Option ((Int×Unit)×Unit)) (K1:Option ((Int×Unit)×Unit)) (x0:List Int) (x1:Int) (x2:Int):Option ((Int×Unit)×Unit):=br (decide (x2<x1)) (br (decide (0≤x2)&&decide (x2<(↑(List.length x0):Int))) (qj (qcj ctx D a1 [CapV.val (Ty.int IntKind.i64) (List.getD x0 (Int.toNat x2) 0)] Ty.bool) fun b↦br b (K0 x2) (go x0 x1 (IntKind.wrap IntKind.i64 (x2+1)))) none) K1
def qc7 (D:DX)(n:Nat) (a1:Clo) (K0:Int→Option ((Int×Unit)×Unit)) (K1:Option ((Int×Unit)×Unit)):Nat→(List Int)→(Int)→(Int)→Option ((Int×Unit)×Unit) | 0=>(fun x0 x1 x2=>none) | m+1=>(fun x0 x1 x2=>qi0 D n a1 (qc7 D n a1 K0 K1 m) K0 K1 x0 x1 x2)
def qnk (D:DX)(n:Nat) (a1:Clo) (v0_0:Int):Option ((Int×Unit)×Unit):=some ((v0_0,()),())
def qnj (D:DX)(n:Nat) (a1:Clo):Option ((Int×Unit)×Unit):=some ((-1,()),())
def qia (D:DX)(n:Nat) (a1:Clo):(List Int)→(Int)→(Int)→Option ((Int×Unit)×Unit):=(fun x0 x1 x2=>qc7 D n a1 (fun v0_0=>qnk D n a1 v0_0) (qnj D n a1) n x0 x1 x2)
def qjo (D:DX)(n:Nat) (a1:Clo) (lp0:List Int→Int→Int→Option ((Int×Unit)×Unit)) (a0:List Int):Option ((Int×Unit)×Unit):=lp0 a0 (↑(List.length a0):Int) 0
def qjr (D:DX)(n:Nat) (a0:List Int) (a1:Clo):Option ((Int×Unit)×Unit):=qjo D n a1 (qia D n a1) a0
def qc6 (a1:Clo) (x0:List Int) (x1:Int) (x2:Int):St:=stq 19 [(0,AV.val (Ty.sl yI) x0),(1,AV.cloV a1),(7,avI x1),(8,avI x2)] [] 
def qek (a1:Clo) (v0_0:Int):St:=stq 19 [(4,avI v0_0)] [] 
def qel (a1:Clo):St:=stq 19 [] [] 
theorem q0k (D:DX)(n:Nat) (a1:Clo) (m:Nat) (K:Ex→St→Option (Out ctx 198)) (x0:List Int) (x1:Int) (x2:Int) :
 LQ qc D n 198 [.r,.l,.r,.l] (m+1) (qc6 a1 x0 x1 x2) K=qi0 D n a1 (fun x0 x1 x2=>LQ qc D n 198 [.r,.l,.r,.l] m (qc6 a1 x0 x1 x2) K) (fun v0_0=>K (Ex.ret) (qek a1 v0_0)) (K (Ex.exit 0) (qel a1)) x0 x1 x2:=by kernel_rfl
theorem qof (D:DX)(n:Nat) (a1:Clo) (K:Ex→St→Option (Out ctx 198)):∀ (m:Nat) (x0:List Int) (x1:Int) (x2:Int),LQ qc D n 198 [.r,.l,.r,.l] m (qc6 a1 x0 x1 x2) K=qc7 D n a1 (fun v0_0=>K (Ex.ret) (qek a1 v0_0)) (K (Ex.exit 0) (qel a1)) m x0 x1 x2
 | 0,x0,x1,x2=>qy ..
 | m+1,x0,x1,x2=>by
  have ih:(fun x0 x1 x2=>LQ qc D n 198 [.r,.l,.r,.l] m (qc6 a1 x0 x1 x2) K)=qc7 D n a1 (fun v0_0=>K (Ex.ret) (qek a1 v0_0)) (K (Ex.exit 0) (qel a1)) m:=by funext x0 x1 x2;exact qof D n a1 K m x0 x1 x2
  rw[q0k]
  rw[ih];rfl
theorem qy4 (D:DX)(n:Nat) (a1:Clo) (v0_0:Int) :
 (CQ qc D n 198 [] [.r,.l,.r,.l] (qi qc 198)) (Ex.ret) (qek a1 v0_0)=qnk D n a1 v0_0:=by kernel_rfl
theorem qy5 (D:DX)(n:Nat) (a1:Clo) :
 (CQ qc D n 198 [] [.r,.l,.r,.l] (qi qc 198)) (Ex.exit 0) (qel a1)=qnj D n a1:=by kernel_rfl
theorem qy3 (D:DX)(n:Nat) (a1:Clo) (x0:List Int) (x1:Int) (x2:Int) :
 LQ qc D n 198 [.r,.l,.r,.l] n (qc6 a1 x0 x1 x2) (CQ qc D n 198 [] [.r,.l,.r,.l] (qi qc 198))=qia D n a1 x0 x1 x2:=by
 rw[qof]
 simp only[qy4,qy5]
 rfl
theorem q2n (D:DX)(n:Nat) (a0:List Int) (a1:Clo):rfC qc D n 198 (a0,(a1,()))=qjr D n a0 a1:=by
 have h:rfC qc D n 198 (a0,(a1,()))=qjo D n a1 (fun x0 x1 x2=>LQ qc D n 198 [.r,.l,.r,.l] n (qc6 a1 x0 x1 x2) (CQ qc D n 198 [] [.r,.l,.r,.l] (qi qc 198))) a0:=by kernel_rfl
 rw[h]
 simp only[qy3]
 rfl

def qbbu (D:DX)(n:Nat) (a0:ByteArray×Int×Bool×Unit) (a1:Int):Option ((Int×Unit)×Unit):=br (decide (IntKind.wrap IntKind.i64 (a1 - (↑(ByteArray.size (Prod.fst a0)):Int))<0)) (some ((-1,()),())) (some ((IntKind.wrap IntKind.i64 (a1 - (↑(ByteArray.size (Prod.fst a0)):Int)),()),()))
def q48 (D:DX)(n:Nat) (a0:ByteArray×Int×Bool×Unit) (a1:Int):Option ((Int×Unit)×Unit):=qbbu D n a0 a1
theorem qbom (D:DX)(n:Nat) (a0:ByteArray×Int×Bool×Unit) (a1:Int):rfC qc D n 201 (a0,(a1,()))=q48 D n a0 a1:=by kernel_rfl

def q7h (D:DX)(n:Nat) (a0:ByteArray×List Int×Bool×Unit) (a1:Int):Option ((Int×Unit)×Unit):=br (decide (IntKind.wrap IntKind.i64 (a1 - (↑(ByteArray.size (Prod.fst a0)):Int))<0)) (some ((-1,()),())) (qj (qu9 D (Prod.fst (Prod.snd a0)) (IntKind.wrap IntKind.i64 (a1 - (↑(ByteArray.size (Prod.fst a0)):Int)))) fun b↦br (decide (Prod.fst (Prod.fst b)<0)) (some ((-1,()),())) (some ((Prod.fst (Prod.fst b),()),())))
def q0f (D:DX)(n:Nat) (a0:ByteArray×List Int×Bool×Unit) (a1:Int):Option ((Int×Unit)×Unit):=q7h D n a0 a1
theorem qbld (D:DX)(n:Nat) (a0:ByteArray×List Int×Bool×Unit) (a1:Int):rfC qc D n 202 (a0,(a1,()))=q0f D n a0 a1:=by kernel_rfl

def qbqi (D:DX)(n:Nat) (a0:ByteArray×Int×Bool×Unit):Option ((tCol×Unit)×Unit):=some (((Prod.fst a0,Prod.fst (Prod.snd a0),Prod.fst (Prod.snd (Prod.snd a0)),()),()),())
def qbcs (D:DX)(n:Nat) (a0:ByteArray×Int×Bool×Unit):Option ((tCol×Unit)×Unit):=qbqi D n a0
theorem qbph (D:DX)(n:Nat) (a0:ByteArray×Int×Bool×Unit):rfC qc D n 203 (a0,())=qbcs D n a0:=by kernel_rfl

def q7i (D:DX)(n:Nat) (a0:ByteArray×List Int×Bool×Unit):Option ((tIx×Unit)×Unit):=qj (qvc D (Prod.fst (Prod.snd a0))) fun b↦some (((Prod.fst a0,Prod.fst (Prod.fst b),Prod.fst (Prod.snd (Prod.snd a0)),()),()),())
def q0e (D:DX)(n:Nat) (a0:ByteArray×List Int×Bool×Unit):Option ((tIx×Unit)×Unit):=q7i D n a0
theorem qbl6 (D:DX)(n:Nat) (a0:ByteArray×List Int×Bool×Unit):rfC qc D n 204 (a0,())=q0e D n a0:=by kernel_rfl

def qbcm (D:DX)(n:Nat) (a0:ByteArray×Int×Bool×Unit) (a1:ByteArray×Int×Bool×Unit):Option ((Bool×Unit)×Unit):=br (!List.beq (ByteArray.toList (Prod.fst a0)) (ByteArray.toList (Prod.fst a1))) (some ((false,()),())) (br (Prod.fst (Prod.snd a0) != Prod.fst (Prod.snd a1)) (some ((false,()),())) (br (!decide (Prod.fst (Prod.snd (Prod.snd a0))=Prod.fst (Prod.snd (Prod.snd a1)))) (some ((false,()),())) (some ((true,()),()))))
def q5y (D:DX)(n:Nat) (a0:ByteArray×Int×Bool×Unit) (a1:ByteArray×Int×Bool×Unit):Option ((Bool×Unit)×Unit):=qbcm D n a0 a1
theorem qbp6 (D:DX)(n:Nat) (a0:ByteArray×Int×Bool×Unit) (a1:ByteArray×Int×Bool×Unit):rfC qc D n 205 (a0,(a1,()))=q5y D n a0 a1:=by kernel_rfl

def q74 (D:DX)(n:Nat) (a0:ByteArray×List Int×Bool×Unit) (a1:ByteArray×List Int×Bool×Unit):Option ((Bool×Unit)×Unit):=br (!List.beq (ByteArray.toList (Prod.fst a0)) (ByteArray.toList (Prod.fst a1))) (some ((false,()),())) (qj (qu4 D (Prod.fst (Prod.snd a0)) (Prod.fst (Prod.snd a1))) fun b↦br (!Prod.fst (Prod.fst b)) (some ((false,()),())) (br (!decide (Prod.fst (Prod.snd (Prod.snd a0))=Prod.fst (Prod.snd (Prod.snd a1)))) (some ((false,()),())) (some ((true,()),()))))
def q1c (D:DX)(n:Nat) (a0:ByteArray×List Int×Bool×Unit) (a1:ByteArray×List Int×Bool×Unit):Option ((Bool×Unit)×Unit):=q74 D n a0 a1
theorem qbk3 (D:DX)(n:Nat) (a0:ByteArray×List Int×Bool×Unit) (a1:ByteArray×List Int×Bool×Unit):rfC qc D n 206 (a0,(a1,()))=q1c D n a0 a1:=by kernel_rfl



def qld (D:DX)(n:Nat) (go:List Int→Int→Int→Int→Option ((Int×Unit)×Unit)) (K0:Int→Option ((Int×Unit)×Unit)) (K1:Option ((Int×Unit)×Unit)) (x0:List Int) (x1:Int) (x2:Int) (x3:Int):Option ((Int×Unit)×Unit):=br (decide (x3<x2)) (br (decide (0≤x3)&&decide (x3<(↑(List.length x0):Int))) (br (decide (x1=List.getD x0 (Int.toNat x3) 0)) (K0 x3) (go x0 x1 x2 (IntKind.wrap IntKind.i64 (x3+1)))) none) K1
def qdr (D:DX)(n:Nat) (K0:Int→Option ((Int×Unit)×Unit)) (K1:Option ((Int×Unit)×Unit)):Nat→(List Int)→(Int)→(Int)→(Int)→Option ((Int×Unit)×Unit) | 0=>(fun x0 x1 x2 x3=>none) | m+1=>(fun x0 x1 x2 x3=>qld D n (qdr D n K0 K1 m) K0 K1 x0 x1 x2 x3)
def qq3 (D:DX)(n:Nat) (v0_0:Int):Option ((Int×Unit)×Unit):=some ((v0_0,()),())
def qq8 (D:DX)(n:Nat):Option ((Int×Unit)×Unit):=some ((-1,()),())
def qkr (D:DX)(n:Nat):(List Int)→(Int)→(Int)→(Int)→Option ((Int×Unit)×Unit):=(fun x0 x1 x2 x3=>qdr D n (fun v0_0=>qq3 D n v0_0) (qq8 D n) n x0 x1 x2 x3)
def qnc (D:DX)(n:Nat) (lp0:List Int→Int→Int→Int→Option ((Int×Unit)×Unit)) (a0:List Int) (a1:Int):Option ((Int×Unit)×Unit):=lp0 a0 a1 (↑(List.length a0):Int) 0
def qnd (D:DX)(n:Nat) (a0:List Int) (a1:Int):Option ((Int×Unit)×Unit):=qnc D n (qkr D n) a0 a1
def qds (x0:List Int) (x1:Int) (x2:Int) (x3:Int):St:=stq 19 [(0,AV.val (Ty.sl yI) x0),(1,avI x1),(7,avI x2),(8,avI x3)] [] 
def qgl (v0_0:Int):St:=stq 19 [(4,avI v0_0)] [] 
def qgk:St:=stq 19 [] [] 
theorem q40 (D:DX)(n:Nat) (m:Nat) (K:Ex→St→Option (Out ctx 210)) (x0:List Int) (x1:Int) (x2:Int) (x3:Int) :
 LQ qc D n 210 [.r,.l,.r,.l] (m+1) (qds x0 x1 x2 x3) K=qld D n (fun x0 x1 x2 x3=>LQ qc D n 210 [.r,.l,.r,.l] m (qds x0 x1 x2 x3) K) (fun v0_0=>K (Ex.ret) (qgl v0_0)) (K (Ex.exit 0) (qgk)) x0 x1 x2 x3:=by kernel_rfl
theorem qr4 (D:DX)(n:Nat) (K:Ex→St→Option (Out ctx 210)):∀ (m:Nat) (x0:List Int) (x1:Int) (x2:Int) (x3:Int),LQ qc D n 210 [.r,.l,.r,.l] m (qds x0 x1 x2 x3) K=qdr D n (fun v0_0=>K (Ex.ret) (qgl v0_0)) (K (Ex.exit 0) (qgk)) m x0 x1 x2 x3
 | 0,x0,x1,x2,x3=>qy ..
 | m+1,x0,x1,x2,x3=>by
  have ih:(fun x0 x1 x2 x3=>LQ qc D n 210 [.r,.l,.r,.l] m (qds x0 x1 x2 x3) K)=qdr D n (fun v0_0=>K (Ex.ret) (qgl v0_0)) (K (Ex.exit 0) (qgk)) m:=by funext x0 x1 x2 x3;exact qr4 D n K m x0 x1 x2 x3
  rw[q40]
  rw[ih];rfl
theorem q4g (D:DX)(n:Nat) (v0_0:Int) :
 (CQ qc D n 210 [] [.r,.l,.r,.l] (qi qc 210)) (Ex.ret) (qgl v0_0)=qq3 D n v0_0:=by kernel_rfl
theorem q4d (D:DX)(n:Nat) :
 (CQ qc D n 210 [] [.r,.l,.r,.l] (qi qc 210)) (Ex.exit 0) (qgk)=qq8 D n:=by kernel_rfl
theorem q38 (D:DX)(n:Nat) (x0:List Int) (x1:Int) (x2:Int) (x3:Int) :
 LQ qc D n 210 [.r,.l,.r,.l] n (qds x0 x1 x2 x3) (CQ qc D n 210 [] [.r,.l,.r,.l] (qi qc 210))=qkr D n x0 x1 x2 x3:=by
 rw[qr4]
 simp only[q4g,q4d]
 rfl
theorem q64 (D:DX)(n:Nat) (a0:List Int) (a1:Int):rfC qc D n 210 (a0,(a1,()))=qnd D n a0 a1:=by
 have h:rfC qc D n 210 (a0,(a1,()))=qnc D n (fun x0 x1 x2 x3=>LQ qc D n 210 [.r,.l,.r,.l] n (qds x0 x1 x2 x3) (CQ qc D n 210 [] [.r,.l,.r,.l] (qi qc 210))) a0 a1:=by kernel_rfl
 rw[h]
 simp only[q38]
 rfl

end
end Go.G

namespace Go.G
set_option maxRecDepth 100000
open Go Go.V Go.Proofs
def XOk (X:Ext):Prop:=∀ k:Nat,(Nat.beq k 88||Nat.beq k 93||Nat.beq k 95||Nat.beq k 192)=false→X.is k=false
theorem q8r {X:Ext} (hX:XOk X) (n:Nat) (a0:(tSch)×qf×Unit) (a1:qd):qxw (DD X (n+1)) a0 a1=qoy (DD X n) n a0 a1:=(qm X Tryz.func7 (by kernel_rfl) (hX 7 rfl) n _).trans (q9h ..)
theorem qbo7 {X:Ext} (hX:XOk X) (n:Nat) (a0:(tSch)×qf×Unit):q47 (DD X (n+1)) a0=q5k (DD X n) n a0:=(qm X Tryz.func17 (by kernel_rfl) (hX 17 rfl) n _).trans (qbqa ..)
theorem qbiu {X:Ext} (hX:XOk X) (n:Nat) (a0:tSch) (a1:qd):qmb (DD X (n+1)) a0 a1=qym (DD X n) n a0 a1:=(qm X Tryz.func23 (by kernel_rfl) (hX 23 rfl) n _).trans (qbj8 ..)
theorem qbnu {X:Ext} (hX:XOk X) (n:Nat) (a0:(tSch)×qf×Unit) (a1:qd):qu5 (DD X (n+1)) a0 a1=q27 (DD X n) n a0 a1:=(qm X Tryz.func24 (by kernel_rfl) (hX 24 rfl) n _).trans (qbns ..)
theorem qbn3 {X:Ext} (hX:XOk X) (n:Nat) (a0:(tSch)×qf×Unit) (a1:qd):q22 (DD X (n+1)) a0 a1=q2s (DD X n) n a0 a1:=(qm X Tryz.func30 (by kernel_rfl) (hX 30 rfl) n _).trans (qbn4 ..)
theorem qbpo {X:Ext} (hX:XOk X) (n:Nat) (a0:(tSch)×qf×Unit):q5o (DD X (n+1)) a0=q5h (DD X n) n a0:=(qm X Tryz.func41 (by kernel_rfl) (hX 41 rfl) n _).trans (qbqd ..)
theorem qbeb {X:Ext} (hX:XOk X) (n:Nat) (a0:(tSch)×qf×Unit) (a1:Int):quj (DD X (n+1)) a0 a1=qto (DD X n) n a0 a1:=(qm X Tryz.func53 (by kernel_rfl) (hX 53 rfl) n _).trans (qbea ..)
theorem qbjq {X:Ext} (hX:XOk X) (n:Nat) (a0:qd) (a1:Int):qmo (DD X (n+1)) a0 a1=qxb (DD X n) n a0 a1:=(qm X Tryz.func54 (by kernel_rfl) (hX 54 rfl) n _).trans (qbin ..)
theorem qbd0 {X:Ext} (hX:XOk X) (n:Nat) (a0:(tSch)×qf×Unit):qgw (DD X (n+1)) a0=qt1 (DD X n) n a0:=(qm X Tryz.func55 (by kernel_rfl) (hX 55 rfl) n _).trans (qbd6 ..)
theorem qbjo {X:Ext} (hX:XOk X) (n:Nat) (a0:qd):qe4 (DD X (n+1)) a0=qx1 (DD X n) n a0:=(qm X Tryz.func56 (by kernel_rfl) (hX 56 rfl) n _).trans (qbjv ..)
theorem qbej {X:Ext} (hX:XOk X) (n:Nat) (a0:(tSch)×qf×Unit) (a1:(tSch)×qf×Unit):qhd (DD X (n+1)) a0 a1=quw (DD X n) n a0 a1:=(qm X Tryz.func57 (by kernel_rfl) (hX 57 rfl) n _).trans (qbe0 ..)
theorem qbi3 {X:Ext} (hX:XOk X) (n:Nat) (a0:qd) (a1:qd):qmy (DD X (n+1)) a0 a1=qyg (DD X n) n a0 a1:=(qm X Tryz.func58 (by kernel_rfl) (hX 58 rfl) n _).trans (qbhz ..)
theorem qbaf {X:Ext} (hX:XOk X) (n:Nat) (a0:(tSch)×qf×Unit) (a1:Int):qla (DD X (n+1)) a0 a1=qqh (DD X n) n a0 a1:=(qm X Tryz.func59 (by kernel_rfl) (hX 59 rfl) n _).trans (qbaq ..)
theorem qbek {X:Ext} (hX:XOk X) (n:Nat) (a0:qd) (a1:Int):qn0 (DD X (n+1)) a0 a1=qt7 (DD X n) n a0 a1:=(qm X Tryz.func60 (by kernel_rfl) (hX 60 rfl) n _).trans (qbfd ..)
theorem qbae {X:Ext} (hX:XOk X) (n:Nat) (a0:(tSch)×qf×Unit) (a1:Int):qk2 (DD X (n+1)) a0 a1=qqc (DD X n) n a0 a1:=(qm X Tryz.func61 (by kernel_rfl) (hX 61 rfl) n _).trans (q99 ..)
theorem qbrc {X:Ext} (hX:XOk X) (n:Nat) (a0:Int) (a1:Int) (a2:Int):qgo (DD X (n+1)) a0 a1 a2=q7a (DD X n) n a0 a1 a2:=(qm X Tryz.func68 (by kernel_rfl) (hX 68 rfl) n _).trans (qbq7 ..)
theorem qbpq {X:Ext} (hX:XOk X) (n:Nat) (a0:tSch) (a1:qd):q41 (DD X (n+1)) a0 a1=q5w (DD X n) n a0 a1:=(qm X Tryz.func77 (by kernel_rfl) (hX 77 rfl) n _).trans (qbpf ..)
theorem qbgi {X:Ext} (hX:XOk X) (n:Nat) (a0:qd) (a1:qd):qvp (DD X (n+1)) a0 a1=qv1 (DD X n) n a0 a1:=(qm X Tryz.func78 (by kernel_rfl) (hX 78 rfl) n _).trans (qbhp ..)
theorem qnq {X:Ext} (hX:XOk X) (n:Nat) (a0:qf) (a1:Clo):qb8 (DD X (n+1)) a0 a1=qdg (DD X n) n a0 a1:=(qm X Tryz.func79 (by kernel_rfl) (hX 79 rfl) n _).trans (qnu ..)
theorem qblh {X:Ext} (hX:XOk X) (n:Nat) (a0:qd) (a1:(tSch)×qf×Unit) (a2:qd):q8e (DD X (n+1)) a0 a1 a2=q1e (DD X n) n a0 a1 a2:=(qm X Tryz.func80 (by kernel_rfl) (hX 80 rfl) n _).trans (qbmi ..)
theorem qbpy {X:Ext} (hX:XOk X) (n:Nat) (a0:tSch) (a1:qd) (a2:qd):q4y (DD X (n+1)) a0 a1 a2=q45 (DD X n) n a0 a1 a2:=(qm X Tryz.func81 (by kernel_rfl) (hX 81 rfl) n _).trans (qbox ..)
theorem qbk0 {X:Ext} (hX:XOk X) (n:Nat) (a0:tSch):qqw (DD X (n+1)) a0=qw3 (DD X n) n a0:=(qm X Tryz.func82 (by kernel_rfl) (hX 82 rfl) n _).trans (qbh2 ..)
theorem q98 {X:Ext} (hX:XOk X) (n:Nat) (a0:(tSch)×qf×Unit):qqq (DD X (n+1)) a0=qp4 (DD X n) n a0:=(qm X Tryz.func83 (by kernel_rfl) (hX 83 rfl) n _).trans (qbai ..)
theorem qbpt {X:Ext} (hX:XOk X) (n:Nat) (a0:(tSch)×qf×Unit) (a1:qd):q5b (DD X (n+1)) a0 a1=q5f (DD X n) n a0 a1:=(qm X Tryz.func84 (by kernel_rfl) (hX 84 rfl) n _).trans (qbpe ..)
theorem qpf {X:Ext} (hX:XOk X) (n:Nat) (a0:qf) (a1:Clo):qcv (DD X (n+1)) a0 a1=qd1 (DD X n) n a0 a1:=(qm X Tryz.func86 (by kernel_rfl) (hX 86 rfl) n _).trans (qor ..)
theorem qsm {X:Ext} (hX:XOk X) (n:Nat) (a0:qd):qem (DD X (n+1)) a0=qer (DD X n) n a0:=(qm X Tryz.func89 (by kernel_rfl) (hX 89 rfl) n _).trans (qr5 ..)
theorem qbl2 {X:Ext} (hX:XOk X) (n:Nat) (a0:qd) (a1:List Int):qoe (DD X (n+1)) a0 a1=q0d (DD X n) n a0 a1:=(qm X Tryz.func94 (by kernel_rfl) (hX 94 rfl) n _).trans (qblg ..)
theorem qbl3 {X:Ext} (hX:XOk X) (n:Nat) (a0:(tSch)×qf×Unit):q0z (DD X (n+1)) a0=qzu (DD X n) n a0:=(qm X Tryz.func99 (by kernel_rfl) (hX 99 rfl) n _).trans (qbk4 ..)
theorem qboj {X:Ext} (hX:XOk X) (n:Nat) (a0:tSch) (a1:qd):q5l (DD X (n+1)) a0 a1=q42 (DD X n) n a0 a1:=(qm X Tryz.func100 (by kernel_rfl) (hX 100 rfl) n _).trans (qbov ..)
theorem qbpx {X:Ext} (hX:XOk X) (n:Nat) (a0:(tSch)×qf×Unit) (a1:qd):q58 (DD X (n+1)) a0 a1=q5s (DD X n) n a0 a1:=(qm X Tryz.func101 (by kernel_rfl) (hX 101 rfl) n _).trans (qbpw ..)
theorem qbko {X:Ext} (hX:XOk X) (n:Nat) (a0:tSch) (a1:qd):qm7 (DD X (n+1)) a0 a1=qxe (DD X n) n a0 a1:=(qm X Tryz.func102 (by kernel_rfl) (hX 102 rfl) n _).trans (qbj2 ..)
theorem qbgu {X:Ext} (hX:XOk X) (n:Nat) (a0:qd) (a1:qd):qwa (DD X (n+1)) a0 a1=qwq (DD X n) n a0 a1:=(qm X Tryz.func104 (by kernel_rfl) (hX 104 rfl) n _).trans (qbgo ..)
theorem qbmo {X:Ext} (hX:XOk X) (n:Nat) (a0:qf):qog (DD X (n+1)) a0=q02 (DD X n) n a0:=(qm X Tryz.func105 (by kernel_rfl) (hX 105 rfl) n _).trans (qbmq ..)
theorem qbfi {X:Ext} (hX:XOk X) (n:Nat) (a0:tSch):qud (DD X (n+1)) a0=qts (DD X n) n a0:=(qm X Tryz.func107 (by kernel_rfl) (hX 107 rfl) n _).trans (qbev ..)
theorem qbk7 {X:Ext} (hX:XOk X) (n:Nat) (a0:tSch):qz8 (DD X (n+1)) a0=qzs (DD X n) n a0:=(qm X Tryz.func108 (by kernel_rfl) (hX 108 rfl) n _).trans (qblw ..)
theorem qbjx {X:Ext} (hX:XOk X) (n:Nat) (a0:tSch) (a1:qd) (a2:qd):qx8 (DD X (n+1)) a0 a1 a2=qxr (DD X n) n a0 a1 a2:=(qm X Tryz.func111 (by kernel_rfl) (hX 111 rfl) n _).trans (qbj7 ..)
theorem qbjw {X:Ext} (hX:XOk X) (n:Nat) (a0:tSch):qqx (DD X (n+1)) a0=qxk (DD X n) n a0:=(qm X Tryz.func112 (by kernel_rfl) (hX 112 rfl) n _).trans (qbi7 ..)
theorem qbq8 {X:Ext} (hX:XOk X) (n:Nat) (a0:Int) (a1:Int) (a2:Int):qgn (DD X (n+1)) a0 a1 a2=q68 (DD X n) n a0 a1 a2:=(qm X Tryz.func117 (by kernel_rfl) (hX 117 rfl) n _).trans (qbqz ..)
theorem qbma {X:Ext} (hX:XOk X) (n:Nat) (a0:qd) (a1:List Int):qn6 (DD X (n+1)) a0 a1=qz6 (DD X n) n a0 a1:=(qm X Tryz.func119 (by kernel_rfl) (hX 119 rfl) n _).trans (qbls ..)
theorem qbjc {X:Ext} (hX:XOk X) (n:Nat) (a0:tSch) (a1:Int):qxq (DD X (n+1)) a0 a1=qxp (DD X n) n a0 a1:=(qm X Tryz.func120 (by kernel_rfl) (hX 120 rfl) n _).trans (qbkj ..)
theorem qbgt {X:Ext} (hX:XOk X) (n:Nat) (a0:qf) (a1:Int):qvn (DD X (n+1)) a0 a1=qwr (DD X n) n a0 a1:=(qm X Tryz.func121 (by kernel_rfl) (hX 121 rfl) n _).trans (qbgc ..)
theorem qbmb {X:Ext} (hX:XOk X) (n:Nat) (a0:Int×Int×ByteArray×Unit) (a1:Int):qsu (DD X (n+1)) a0 a1=q0q (DD X n) n a0 a1:=(qm X Tryz.func122 (by kernel_rfl) (hX 122 rfl) n _).trans (qbmc ..)
theorem qbkd {X:Ext} (hX:XOk X) (n:Nat) (a0:tSch):qxt (DD X (n+1)) a0=qye (DD X n) n a0:=(qm X Tryz.func123 (by kernel_rfl) (hX 123 rfl) n _).trans (qbi6 ..)
theorem qbhj {X:Ext} (hX:XOk X) (n:Nat) (a0:qf):qwd (DD X (n+1)) a0=qvx (DD X n) n a0:=(qm X Tryz.func124 (by kernel_rfl) (hX 124 rfl) n _).trans (qbhl ..)
theorem qbk8 {X:Ext} (hX:XOk X) (n:Nat) (a0:Int×Int×ByteArray×Unit):qs8 (DD X (n+1)) a0=q8f (DD X n) n a0:=(qm X Tryz.func125 (by kernel_rfl) (hX 125 rfl) n _).trans (qbl5 ..)
theorem qbje {X:Ext} (hX:XOk X) (n:Nat) (a0:tSch) (a1:tSch):qw8 (DD X (n+1)) a0 a1=qx3 (DD X n) n a0 a1:=(qm X Tryz.func126 (by kernel_rfl) (hX 126 rfl) n _).trans (qbim ..)
theorem qbhg {X:Ext} (hX:XOk X) (n:Nat) (a0:qf) (a1:qf):qvt (DD X (n+1)) a0 a1=qvd (DD X n) n a0 a1:=(qm X Tryz.func127 (by kernel_rfl) (hX 127 rfl) n _).trans (qbhq ..)
theorem qbmj {X:Ext} (hX:XOk X) (n:Nat) (a0:Int×Int×ByteArray×Unit) (a1:Int×Int×ByteArray×Unit):qs9 (DD X (n+1)) a0 a1=qzn (DD X n) n a0 a1:=(qm X Tryz.func128 (by kernel_rfl) (hX 128 rfl) n _).trans (qbl8 ..)
theorem qbe4 {X:Ext} (hX:XOk X) (n:Nat) (a0:tSch) (a1:Int):qug (DD X (n+1)) a0 a1=qt2 (DD X n) n a0 a1:=(qm X Tryz.func129 (by kernel_rfl) (hX 129 rfl) n _).trans (qbe2 ..)
theorem qbct {X:Ext} (hX:XOk X) (n:Nat) (a0:qf) (a1:Int):qsl (DD X (n+1)) a0 a1=qss (DD X n) n a0 a1:=(qm X Tryz.func130 (by kernel_rfl) (hX 130 rfl) n _).trans (qbdc ..)
theorem qbjy {X:Ext} (hX:XOk X) (n:Nat) (a0:Int):qe2 (DD X (n+1)) a0=qyo (DD X n) n a0:=(qm X Tryz.func131 (by kernel_rfl) (hX 131 rfl) n _).trans (qbib ..)
theorem qbef {X:Ext} (hX:XOk X) (n:Nat) (a0:tSch) (a1:Int):qnz (DD X (n+1)) a0 a1=quv (DD X n) n a0 a1:=(qm X Tryz.func132 (by kernel_rfl) (hX 132 rfl) n _).trans (qbec ..)
theorem qbcx {X:Ext} (hX:XOk X) (n:Nat) (a0:qf) (a1:Int):qma (DD X (n+1)) a0 a1=qrz (DD X n) n a0 a1:=(qm X Tryz.func133 (by kernel_rfl) (hX 133 rfl) n _).trans (qbcu ..)
theorem q7b {X:Ext} (hX:XOk X) (n:Nat) (a0:List Int):qix (DD X (n+1)) a0=qnb (DD X n) n a0:=(qm X Tryz.func138 (by kernel_rfl) (hX 138 rfl) n _).trans (q63 ..)
theorem qbl9 {X:Ext} (hX:XOk X) (n:Nat) (a0:Int×Int×ByteArray×Unit):qzz (DD X (n+1)) a0=qzo (DD X n) n a0:=(qm X Tryz.func139 (by kernel_rfl) (hX 139 rfl) n _).trans (qbk9 ..)
theorem qfy {X:Ext} (hX:XOk X) (n:Nat) (a0:qd) (a1:qd) (a2:Clo):qcb (DD X (n+1)) a0 a1 a2=qb9 (DD X n) n a0 a1 a2:=(qm X Tryz.func140 (by kernel_rfl) (hX 140 rfl) n _).trans (qfu ..)
theorem qbl1 {X:Ext} (hX:XOk X) (n:Nat) (a0:Int×Int×ByteArray×Unit) (a1:Int×Int×ByteArray×Unit):qzv (DD X (n+1)) a0 a1=q1a (DD X n) n a0 a1:=(qm X Tryz.func141 (by kernel_rfl) (hX 141 rfl) n _).trans (qbme ..)
theorem qnp {X:Ext} (hX:XOk X) (n:Nat) (a0:tIxs) (a1:Clo):qco (DD X (n+1)) a0 a1=qdf (DD X n) n a0 a1:=(qm X Tryz.func142 (by kernel_rfl) (hX 142 rfl) n _).trans (qnv ..)
theorem qblk {X:Ext} (hX:XOk X) (n:Nat) (a0:ByteArray×List Int×Bool×Unit) (a1:qd) (a2:qd):q7l (DD X (n+1)) a0 a1 a2=qz4 (DD X n) n a0 a1 a2:=(qm X Tryz.func143 (by kernel_rfl) (hX 143 rfl) n _).trans (qbln ..)
theorem qpw {X:Ext} (hX:XOk X) (n:Nat) (a0:qd) (a1:Int×Int×ByteArray×Unit):qd4 (DD X (n+1)) a0 a1=qd3 (DD X n) n a0 a1:=(qm X Tryz.func144 (by kernel_rfl) (hX 144 rfl) n _).trans (qpo ..)
theorem qsg {X:Ext} (hX:XOk X) (n:Nat) (a0:qd) (a1:qd):qdb (DD X (n+1)) a0 a1=qet (DD X n) n a0 a1:=(qm X Tryz.func145 (by kernel_rfl) (hX 145 rfl) n _).trans (qro ..)
theorem qbgj {X:Ext} (hX:XOk X) (n:Nat) (a0:ByteArray):qo1 (DD X (n+1)) a0=qv0 (DD X n) n a0:=(qm X Tryz.func146 (by kernel_rfl) (hX 146 rfl) n _).trans (qbhs ..)
theorem qbo1 {X:Ext} (hX:XOk X) (n:Nat) (a0:tSch) (a1:ByteArray):q5g (DD X (n+1)) a0 a1=q50 (DD X n) n a0 a1:=(qm X Tryz.func147 (by kernel_rfl) (hX 147 rfl) n _).trans (qbp2 ..)
theorem qbkq {X:Ext} (hX:XOk X) (n:Nat) (a0:tSch) (a1:List Int) (a2:Int):qqv (DD X (n+1)) a0 a1 a2=qxm (DD X n) n a0 a1 a2:=(qm X Tryz.func148 (by kernel_rfl) (hX 148 rfl) n _).trans (qbkx ..)
theorem qbff {X:Ext} (hX:XOk X) (n:Nat) (a0:ByteArray×List Int×Bool×Unit) (a1:ByteArray×List Int×Bool×Unit):q3m (DD X (n+1)) a0 a1=quc (DD X n) n a0 a1:=(qm X Tryz.func149 (by kernel_rfl) (hX 149 rfl) n _).trans (qbfg ..)
theorem qy7 {X:Ext} (hX:XOk X) (n:Nat) (a0:List Int) (a1:Clo):qhm (DD X (n+1)) a0 a1=qhl (DD X n) n a0 a1:=(qm X Tryz.func150 (by kernel_rfl) (hX 150 rfl) n _).trans (qy6 ..)
theorem qbem {X:Ext} (hX:XOk X) (n:Nat) (a0:Int) (a1:tSch):q3j (DD X (n+1)) a0 a1=qtj (DD X n) n a0 a1:=(qm X Tryz.func151 (by kernel_rfl) (hX 151 rfl) n _).trans (qbfe ..)
theorem qbfm {X:Ext} (hX:XOk X) (n:Nat) (a0:qf):qtx (DD X (n+1)) a0=qtn (DD X n) n a0:=(qm X Tryz.func152 (by kernel_rfl) (hX 152 rfl) n _).trans (qber ..)
theorem qbla {X:Ext} (hX:XOk X) (n:Nat) (a0:qd) (a1:(tSch)×qf×Unit) (a2:qd):q78 (DD X (n+1)) a0 a1 a2=q1g (DD X n) n a0 a1 a2:=(qm X Tryz.func153 (by kernel_rfl) (hX 153 rfl) n _).trans (qbl0 ..)
theorem qblx {X:Ext} (hX:XOk X) (n:Nat) (a0:Int×Int×ByteArray×Unit):q05 (DD X (n+1)) a0=q09 (DD X n) n a0:=(qm X Tryz.func158 (by kernel_rfl) (hX 158 rfl) n _).trans (qbmp ..)
theorem qbmd {X:Ext} (hX:XOk X) (n:Nat) (a0:qd) (a1:qd):qs0 (DD X (n+1)) a0 a1=qzq (DD X n) n a0 a1:=(qm X Tryz.func159 (by kernel_rfl) (hX 159 rfl) n _).trans (qblq ..)
theorem qbgh {X:Ext} (hX:XOk X) (n:Nat) (a0:Int×Int×ByteArray×Unit) (a1:Int×Int×ByteArray×Unit):qoo (DD X (n+1)) a0 a1=qv5 (DD X n) n a0 a1:=(qm X Tryz.func160 (by kernel_rfl) (hX 160 rfl) n _).trans (qbg3 ..)
theorem qbgm {X:Ext} (hX:XOk X) (n:Nat) (a0:Int×Int×ByteArray×Unit) (a1:Int×Int×ByteArray×Unit):qvg (DD X (n+1)) a0 a1=qvs (DD X n) n a0 a1:=(qm X Tryz.func161 (by kernel_rfl) (hX 161 rfl) n _).trans (qbga ..)
theorem qvi {X:Ext} (hX:XOk X) (n:Nat) (a0:qk):qfv (DD X (n+1)) a0=qfr (DD X n) n a0:=(qm X Tryz.func164 (by kernel_rfl) (hX 164 rfl) n _).trans (qv9 ..)
theorem qblu {X:Ext} (hX:XOk X) (n:Nat) (a0:qd):q0h (DD X (n+1)) a0=q0u (DD X n) n a0:=(qm X Tryz.func165 (by kernel_rfl) (hX 165 rfl) n _).trans (qbll ..)
theorem qbha {X:Ext} (hX:XOk X) (n:Nat) (a0:ByteArray):qo9 (DD X (n+1)) a0=qv6 (DD X n) n a0:=(qm X Tryz.func166 (by kernel_rfl) (hX 166 rfl) n _).trans (qbhb ..)
theorem qbpu {X:Ext} (hX:XOk X) (n:Nat) (a0:tSch) (a1:ByteArray):q51 (DD X (n+1)) a0 a1=q4v (DD X n) n a0 a1:=(qm X Tryz.func167 (by kernel_rfl) (hX 167 rfl) n _).trans (qbp3 ..)
theorem qbg0 {X:Ext} (hX:XOk X) (n:Nat) (a0:tSch) (a1:List Int) (a2:Int):qou (DD X (n+1)) a0 a1 a2=qwc (DD X n) n a0 a1 a2:=(qm X Tryz.func168 (by kernel_rfl) (hX 168 rfl) n _).trans (qbgz ..)
theorem qbew {X:Ext} (hX:XOk X) (n:Nat) (a0:tSch):qtd (DD X (n+1)) a0=qt9 (DD X n) n a0:=(qm X Tryz.func169 (by kernel_rfl) (hX 169 rfl) n _).trans (qbd4 ..)
theorem qbn2 {X:Ext} (hX:XOk X) (n:Nat) (a0:qk) (a1:Int):q2o (DD X (n+1)) a0 a1=q2i (DD X n) n a0 a1:=(qm X Tryz.func174 (by kernel_rfl) (hX 174 rfl) n _).trans (qbn0 ..)
theorem qbnx {X:Ext} (hX:XOk X) (n:Nat) (a0:List Int) (a1:Int):qu9 (DD X (n+1)) a0 a1=q2e (DD X n) n a0 a1:=(qm X Tryz.func175 (by kernel_rfl) (hX 175 rfl) n _).trans (qbnr ..)
theorem qbh6 {X:Ext} (hX:XOk X) (n:Nat) (a0:tIxs) (a1:Int):qx0 (DD X (n+1)) a0 a1=qw0 (DD X n) n a0 a1:=(qm X Tryz.func176 (by kernel_rfl) (hX 176 rfl) n _).trans (qbir ..)
theorem qbnw {X:Ext} (hX:XOk X) (n:Nat) (a0:qk):q2q (DD X (n+1)) a0=q2g (DD X n) n a0:=(qm X Tryz.func177 (by kernel_rfl) (hX 177 rfl) n _).trans (qbnq ..)
theorem qbnj {X:Ext} (hX:XOk X) (n:Nat) (a0:List Int):qvc (DD X (n+1)) a0=q23 (DD X n) n a0:=(qm X Tryz.func178 (by kernel_rfl) (hX 178 rfl) n _).trans (qbny ..)
theorem qbh3 {X:Ext} (hX:XOk X) (n:Nat) (a0:tIxs):qxz (DD X (n+1)) a0=qxf (DD X n) n a0:=(qm X Tryz.func179 (by kernel_rfl) (hX 179 rfl) n _).trans (qbh0 ..)
theorem qbnp {X:Ext} (hX:XOk X) (n:Nat) (a0:qk) (a1:qk):q25 (DD X (n+1)) a0 a1=q2t (DD X n) n a0 a1:=(qm X Tryz.func180 (by kernel_rfl) (hX 180 rfl) n _).trans (qbni ..)
theorem qbn1 {X:Ext} (hX:XOk X) (n:Nat) (a0:List Int) (a1:List Int):qu4 (DD X (n+1)) a0 a1=q2z (DD X n) n a0 a1:=(qm X Tryz.func181 (by kernel_rfl) (hX 181 rfl) n _).trans (qbnv ..)
theorem qbie {X:Ext} (hX:XOk X) (n:Nat) (a0:tIxs) (a1:tIxs):qx9 (DD X (n+1)) a0 a1=qyl (DD X n) n a0 a1:=(qm X Tryz.func182 (by kernel_rfl) (hX 182 rfl) n _).trans (qbjf ..)
theorem qbif {X:Ext} (hX:XOk X) (n:Nat) (a0:qk) (a1:Int):qxl (DD X (n+1)) a0 a1=qyr (DD X n) n a0 a1:=(qm X Tryz.func183 (by kernel_rfl) (hX 183 rfl) n _).trans (qbks ..)
theorem qbki {X:Ext} (hX:XOk X) (n:Nat) (a0:List Int) (a1:Int):qmj (DD X (n+1)) a0 a1=qyt (DD X n) n a0 a1:=(qm X Tryz.func184 (by kernel_rfl) (hX 184 rfl) n _).trans (qbjz ..)
theorem qbfb {X:Ext} (hX:XOk X) (n:Nat) (a0:tIxs) (a1:Int):qtz (DD X (n+1)) a0 a1=qul (DD X n) n a0 a1:=(qm X Tryz.func185 (by kernel_rfl) (hX 185 rfl) n _).trans (qbd7 ..)
theorem qbkv {X:Ext} (hX:XOk X) (n:Nat) (a0:qk) (a1:Int):qxh (DD X (n+1)) a0 a1=qxn (DD X n) n a0 a1:=(qm X Tryz.func186 (by kernel_rfl) (hX 186 rfl) n _).trans (qbi0 ..)
theorem qbjg {X:Ext} (hX:XOk X) (n:Nat) (a0:List Int) (a1:Int):qmf (DD X (n+1)) a0 a1=qy1 (DD X n) n a0 a1:=(qm X Tryz.func187 (by kernel_rfl) (hX 187 rfl) n _).trans (qbja ..)
theorem qbeh {X:Ext} (hX:XOk X) (n:Nat) (a0:tIxs) (a1:Int):quf (DD X (n+1)) a0 a1=qtl (DD X n) n a0 a1:=(qm X Tryz.func188 (by kernel_rfl) (hX 188 rfl) n _).trans (qbed ..)
theorem qbeo {X:Ext} (hX:XOk X) (n:Nat) (a0:qd) (a1:Int):qt8 (DD X (n+1)) a0 a1=quh (DD X n) n a0 a1:=(qm X Tryz.func189 (by kernel_rfl) (hX 189 rfl) n _).trans (qbei ..)
theorem qoq {X:Ext} (hX:XOk X) (n:Nat) (a0:tIxs) (a1:Clo):qd0 (DD X (n+1)) a0 a1=qdu (DD X n) n a0 a1:=(qm X Tryz.func193 (by kernel_rfl) (hX 193 rfl) n _).trans (qos ..)
theorem qr1 {X:Ext} (hX:XOk X) (n:Nat) (a0:qd) (a1:Int×Int×ByteArray×Unit):qew (DD X (n+1)) a0 a1=qeu (DD X n) n a0 a1:=(qm X Tryz.func194 (by kernel_rfl) (hX 194 rfl) n _).trans (qsb ..)
theorem qsj {X:Ext} (hX:XOk X) (n:Nat) (a0:qk) (a1:Clo):qex (DD X (n+1)) a0 a1=qep (DD X n) n a0 a1:=(qm X Tryz.func195 (by kernel_rfl) (hX 195 rfl) n _).trans (qr0 ..)
theorem qblo {X:Ext} (hX:XOk X) (n:Nat) (a0:ByteArray×Int×Bool×Unit) (a1:ByteArray):q8b (DD X (n+1)) a0 a1=qz7 (DD X n) n a0 a1:=(qm X Tryz.func196 (by kernel_rfl) (hX 196 rfl) n _).trans (qblj ..)
theorem q4e {X:Ext} (hX:XOk X) (n:Nat) (a0:List Int) (a1:Int):qj5 (DD X (n+1)) a0 a1=qj0 (DD X n) n a0 a1:=(qm X Tryz.func197 (by kernel_rfl) (hX 197 rfl) n _).trans (q4j ..)
theorem q2d {X:Ext} (hX:XOk X) (n:Nat) (a0:List Int) (a1:Clo):qjq (DD X (n+1)) a0 a1=qjr (DD X n) n a0 a1:=(qm X Tryz.func198 (by kernel_rfl) (hX 198 rfl) n _).trans (q2n ..)
theorem qboy {X:Ext} (hX:XOk X) (n:Nat) (a0:ByteArray×Int×Bool×Unit) (a1:Int):qw1 (DD X (n+1)) a0 a1=q48 (DD X n) n a0 a1:=(qm X Tryz.func201 (by kernel_rfl) (hX 201 rfl) n _).trans (qbom ..)
theorem qbk5 {X:Ext} (hX:XOk X) (n:Nat) (a0:ByteArray×List Int×Bool×Unit) (a1:Int):qs3 (DD X (n+1)) a0 a1=q0f (DD X n) n a0 a1:=(qm X Tryz.func202 (by kernel_rfl) (hX 202 rfl) n _).trans (qbld ..)
theorem qbpd {X:Ext} (hX:XOk X) (n:Nat) (a0:ByteArray×Int×Bool×Unit):qyk (DD X (n+1)) a0=qbcs (DD X n) n a0:=(qm X Tryz.func203 (by kernel_rfl) (hX 203 rfl) n _).trans (qbph ..)
theorem qblv {X:Ext} (hX:XOk X) (n:Nat) (a0:ByteArray×List Int×Bool×Unit):qs6 (DD X (n+1)) a0=q0e (DD X n) n a0:=(qm X Tryz.func204 (by kernel_rfl) (hX 204 rfl) n _).trans (qbl6 ..)
theorem qbp7 {X:Ext} (hX:XOk X) (n:Nat) (a0:ByteArray×Int×Bool×Unit) (a1:ByteArray×Int×Bool×Unit):qyv (DD X (n+1)) a0 a1=q5y (DD X n) n a0 a1:=(qm X Tryz.func205 (by kernel_rfl) (hX 205 rfl) n _).trans (qbp6 ..)
theorem qblc {X:Ext} (hX:XOk X) (n:Nat) (a0:ByteArray×List Int×Bool×Unit) (a1:ByteArray×List Int×Bool×Unit):qs1 (DD X (n+1)) a0 a1=q1c (DD X n) n a0 a1:=(qm X Tryz.func206 (by kernel_rfl) (hX 206 rfl) n _).trans (qbk3 ..)
theorem q67 {X:Ext} (hX:XOk X) (n:Nat) (a0:List Int) (a1:Int):qng (DD X (n+1)) a0 a1=qnd (DD X n) n a0 a1:=(qm X Tryz.func210 (by kernel_rfl) (hX 210 rfl) n _).trans (q64 ..)
end Go.G


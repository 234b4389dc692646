import Derived.Test.YtfafjngknkbngaaAPFnWaysOrder0
set_option linter.unusedVariables false
set_option linter.unusedSimpArgs false
set_option linter.unusedSectionVars false
namespace Go.G
set_option maxRecDepth 100000
set_option maxHeartbeats 0
open Go Go.V
noncomputable section
def qyl (D:DX)(n:Nat) (go:List tWay→Int→ByteArray×ByteArray×Unit→Option ((List tWay×Unit)×Unit)) (K0:List tWay→Int→ByteArray×ByteArray×Unit→Option ((List tWay×Unit)×Unit)) (x0:List tWay) (x1:Int) (x2:ByteArray×ByteArray×Unit):Option ((List tWay×Unit)×Unit):=br (decide (x1<(↑(List.length x0):Int))) (br (decide (0≤x1)&&decide (x1<(↑(List.length x0):Int))) (qh (qx8 D (List.getD x0 (Int.toNat x1) (ByteArray.empty,ByteArray.empty,())) x2) fun b↦br (Prod.fst (Prod.fst b)) (go x0 (IntKind.wrap IntKind.i64 (x1+1)) x2) (K0 x0 x1 x2)) none) (K0 x0 x1 x2)
def qkr (D:DX)(n:Nat) (K0:List tWay→Int→ByteArray×ByteArray×Unit→Option ((List tWay×Unit)×Unit)):Nat→(List tWay)→(Int)→tWay→Option ((List tWay×Unit)×Unit) | 0=>(fun x0 x1 x2=>none) | m+1=>(fun x0 x1 x2=>qyl D n (qkr D n K0 m) K0 x0 x1 x2)
def qiy (D:DX)(n:Nat) (v0_0:List tWay) (v0_1:Int) (v0_2:ByteArray×ByteArray×Unit):Option ((List tWay×Unit)×Unit):=br (decide (v0_1<(↑(List.length v0_0):Int))) (br (decide (0≤v0_1)&&decide (v0_1<(↑(List.length v0_0):Int))) (br (qkl (Ty.pair Ty.str (Ty.pair Ty.str Ty.unit)) (List.getD v0_0 (Int.toNat v0_1) (ByteArray.empty,ByteArray.empty,())) v0_2) (br (decide (0+List.length v0_0≤q9)) (some (([]++v0_0,()),())) none) (br (decide (0≤0)&&decide (0≤v0_1)&&decide (v0_1≤(↑(List.length v0_0):Int))) (br (decide (0+List.length (List.drop (Int.toNat 0) (List.take (Int.toNat v0_1) v0_0))≤q9)) (br (decide (List.length ([]++List.drop (Int.toNat 0) (List.take (Int.toNat v0_1) v0_0))+1≤q9)) (br (decide (0≤v0_1)&&decide (v0_1≤(↑(List.length v0_0):Int))&&decide ((↑(List.length v0_0):Int)≤(↑(List.length v0_0):Int))) (br (decide (List.length ([]++List.drop (Int.toNat 0) (List.take (Int.toNat v0_1) v0_0)++[v0_2])+List.length (List.drop (Int.toNat v0_1) (List.take (Int.toNat (↑(List.length v0_0):Int)) v0_0))≤q9)) (some (([]++List.drop (Int.toNat 0) (List.take (Int.toNat v0_1) v0_0)++[v0_2]++List.drop (Int.toNat v0_1) (List.take (Int.toNat (↑(List.length v0_0):Int)) v0_0),()),())) none) none) none) none) none)) none) (br (decide (0≤0)&&decide (0≤v0_1)&&decide (v0_1≤(↑(List.length v0_0):Int))) (br (decide (0+List.length (List.drop (Int.toNat 0) (List.take (Int.toNat v0_1) v0_0))≤q9)) (br (decide (List.length ([]++List.drop (Int.toNat 0) (List.take (Int.toNat v0_1) v0_0))+1≤q9)) (br (decide (0≤v0_1)&&decide (v0_1≤(↑(List.length v0_0):Int))&&decide ((↑(List.length v0_0):Int)≤(↑(List.length v0_0):Int))) (br (decide (List.length ([]++List.drop (Int.toNat 0) (List.take (Int.toNat v0_1) v0_0)++[v0_2])+List.length (List.drop (Int.toNat v0_1) (List.take (Int.toNat (↑(List.length v0_0):Int)) v0_0))≤q9)) (some (([]++List.drop (Int.toNat 0) (List.take (Int.toNat v0_1) v0_0)++[v0_2]++List.drop (Int.toNat v0_1) (List.take (Int.toNat (↑(List.length v0_0):Int)) v0_0),()),())) none) none) none) none) none)
def qw0 (D:DX)(n:Nat):(List tWay)→(Int)→tWay→Option ((List tWay×Unit)×Unit):=(fun x0 x1 x2=>qkr D n (fun v0_0 v0_1 v0_2=>qiy D n v0_0 v0_1 v0_2) n x0 x1 x2)
def q07 (D:DX)(n:Nat) (lp0:List tWay→Int→ByteArray×ByteArray×Unit→Option ((List tWay×Unit)×Unit)) (a0:List tWay) (a1:ByteArray×ByteArray×Unit):Option ((List tWay×Unit)×Unit):=lp0 a0 0 a1
def q08 (D:DX)(n:Nat) (a0:List tWay) (a1:ByteArray×ByteArray×Unit):Option ((List tWay×Unit)×Unit):=q07 D n (qw0 D n) a0 a1
def qkz (x0:List tWay) (x1:Int) (x2:ByteArray×ByteArray×Unit):St:=stq 50 [(0,AV.val (Ty.sl (Ty.pair Ty.str (Ty.pair Ty.str Ty.unit))) x0),(3,AV.addr 3 []),(5,avI x1)] [(3,Root.mk (Ty.pair Ty.str (Ty.pair Ty.str Ty.unit)) Mk.no x2 true)] 
def qo9 (v0_0:List tWay) (v0_1:Int) (v0_2:ByteArray×ByteArray×Unit):St:=stq 50 [(0,AV.val (Ty.sl (Ty.pair Ty.str (Ty.pair Ty.str Ty.unit))) v0_0),(3,AV.addr 3 []),(5,avI v0_1)] [(3,Root.mk (Ty.pair Ty.str (Ty.pair Ty.str Ty.unit)) Mk.no v0_2 true)] 
theorem qbgi (D:DX)(n:Nat) (m:Nat) (K:Ex→St→Option (Out ctx 142)) (x0:List tWay) (x1:Int) (x2:ByteArray×ByteArray×Unit) :
 LQ qc D n 142 [.r,.r,.l,.l] (m+1) (qkz x0 x1 x2) K=qyl D n (fun x0 x1 x2=>LQ qc D n 142 [.r,.r,.l,.l] m (qkz x0 x1 x2) K) (fun v0_0 v0_1 v0_2=>K (Ex.exit 0) (qo9 v0_0 v0_1 v0_2)) x0 x1 x2:=by kernel_rfl
theorem q4t (D:DX)(n:Nat) (K:Ex→St→Option (Out ctx 142)):∀ (m:Nat) (x0:List tWay) (x1:Int) (x2:ByteArray×ByteArray×Unit),LQ qc D n 142 [.r,.r,.l,.l] m (qkz x0 x1 x2) K=qkr D n (fun v0_0 v0_1 v0_2=>K (Ex.exit 0) (qo9 v0_0 v0_1 v0_2)) m x0 x1 x2
 | 0,x0,x1,x2=>qx ..
 | m+1,x0,x1,x2=>by
  have ih:(fun x0 x1 x2=>LQ qc D n 142 [.r,.r,.l,.l] m (qkz x0 x1 x2) K)=qkr D n (fun v0_0 v0_1 v0_2=>K (Ex.exit 0) (qo9 v0_0 v0_1 v0_2)) m:=by funext x0 x1 x2;exact q4t D n K m x0 x1 x2
  rw[qbgi]
  rw[ih];rfl
theorem qbea (D:DX)(n:Nat) (v0_0:List tWay) (v0_1:Int) (v0_2:ByteArray×ByteArray×Unit) :
 (CQ qc D n 142 [] [.r,.r,.l,.l] (qi qc 142)) (Ex.exit 0) (qo9 v0_0 v0_1 v0_2)=qiy D n v0_0 v0_1 v0_2:=by kernel_rfl
theorem qbdz (D:DX)(n:Nat) (x0:List tWay) (x1:Int) (x2:ByteArray×ByteArray×Unit) :
 LQ qc D n 142 [.r,.r,.l,.l] n (qkz x0 x1 x2) (CQ qc D n 142 [] [.r,.r,.l,.l] (qi qc 142))=qw0 D n x0 x1 x2:=by
 rw[q4t]
 simp only[qbea]
 rfl
theorem qbkr (D:DX)(n:Nat) (a0:List tWay) (a1:ByteArray×ByteArray×Unit):rfC qc D n 142 (a0,(a1,()))=q08 D n a0 a1:=by
 have h:rfC qc D n 142 (a0,(a1,()))=q07 D n (fun x0 x1 x2=>LQ qc D n 142 [.r,.r,.l,.l] n (qkz x0 x1 x2) (CQ qc D n 142 [] [.r,.r,.l,.l] (qi qc 142))) a0 a1:=by kernel_rfl
 rw[h]
 simp only[qbdz]
 rfl





def qqv (D:DX)(n:Nat) (a0:List Int) (a1:Int):Option ((Bool×Unit)×Unit):=qh (qm6 D a0 a1) fun b↦some ((decide (Prod.fst (Prod.fst b)≥0),()),())
def qkh (D:DX)(n:Nat) (a0:List Int) (a1:Int):Option ((Bool×Unit)×Unit):=qqv D n a0 a1
theorem q2a (D:DX)(n:Nat) (a0:List Int) (a1:Int):rfC qc D n 147 (a0,(a1,()))=qkh D n a0 a1:=by kernel_rfl

def qd6 (D:DX)(n:Nat) (a1:Clo) (go:tIxs→Int→Int→Option ((Int×Unit)×Unit)) (K0:Int→Option ((Int×Unit)×Unit)) (K1:Option ((Int×Unit)×Unit)) (x0:tIxs) (x1:Int) (x2:Int):Option ((Int×Unit)×Unit):=br (decide (x2<x1)) (br (decide (0≤x2)&&decide (x2<(↑(List.length x0):Int))) (qh (qbp ctx D a1 [CapV.val (Ty.pair Ty.str (Ty.pair (Ty.sl (Ty.int IntKind.i64)) (Ty.pair Ty.bool Ty.unit))) (List.getD x0 (Int.toNat x2) (ByteArray.empty,[],false,()))] Ty.bool) fun b↦br b (K0 x2) (go x0 x1 (IntKind.wrap IntKind.i64 (x2+1)))) none) K1
def qbq (D:DX)(n:Nat) (a1:Clo) (K0:Int→Option ((Int×Unit)×Unit)) (K1:Option ((Int×Unit)×Unit)):Nat→(tIxs)→(Int)→(Int)→Option ((Int×Unit)×Unit) | 0=>(fun x0 x1 x2=>none) | m+1=>(fun x0 x1 x2=>qd6 D n a1 (qbq D n a1 K0 K1 m) K0 K1 x0 x1 x2)
def qgt (D:DX)(n:Nat) (a1:Clo) (v0_0:Int):Option ((Int×Unit)×Unit):=some ((v0_0,()),())
def qgp (D:DX)(n:Nat) (a1:Clo):Option ((Int×Unit)×Unit):=some ((-1,()),())
def qd0 (D:DX)(n:Nat) (a1:Clo):(tIxs)→(Int)→(Int)→Option ((Int×Unit)×Unit):=(fun x0 x1 x2=>qbq D n a1 (fun v0_0=>qgt D n a1 v0_0) (qgp D n a1) n x0 x1 x2)
def qek (D:DX)(n:Nat) (a1:Clo) (lp0:tIxs→Int→Int→Option ((Int×Unit)×Unit)) (a0:tIxs):Option ((Int×Unit)×Unit):=lp0 a0 (↑(List.length a0):Int) 0
def qeg (D:DX)(n:Nat) (a0:tIxs) (a1:Clo):Option ((Int×Unit)×Unit):=qek D n a1 (qd0 D n a1) a0
def qbr (a1:Clo) (x0:tIxs) (x1:Int) (x2:Int):St:=stq 19 [(0,AV.val (Ty.sl yX) x0),(1,AV.cloV a1),(7,avI x1),(8,avI x2)] [] 
def qcz (a1:Clo) (v0_0:Int):St:=stq 19 [(4,avI v0_0)] [] 
def qcv (a1:Clo):St:=stq 19 [] [] 
theorem qoa (D:DX)(n:Nat) (a1:Clo) (m:Nat) (K:Ex→St→Option (Out ctx 148)) (x0:tIxs) (x1:Int) (x2:Int) :
 LQ qc D n 148 [.r,.l,.r,.l] (m+1) (qbr a1 x0 x1 x2) K=qd6 D n a1 (fun x0 x1 x2=>LQ qc D n 148 [.r,.l,.r,.l] m (qbr a1 x0 x1 x2) K) (fun v0_0=>K (Ex.ret) (qcz a1 v0_0)) (K (Ex.exit 0) (qcv a1)) x0 x1 x2:=by kernel_rfl
theorem qg9 (D:DX)(n:Nat) (a1:Clo) (K:Ex→St→Option (Out ctx 148)):∀ (m:Nat) (x0:tIxs) (x1:Int) (x2:Int),LQ qc D n 148 [.r,.l,.r,.l] m (qbr a1 x0 x1 x2) K=qbq D n a1 (fun v0_0=>K (Ex.ret) (qcz a1 v0_0)) (K (Ex.exit 0) (qcv a1)) m x0 x1 x2
 | 0,x0,x1,x2=>qx ..
 | m+1,x0,x1,x2=>by
  have ih:(fun x0 x1 x2=>LQ qc D n 148 [.r,.l,.r,.l] m (qbr a1 x0 x1 x2) K)=qbq D n a1 (fun v0_0=>K (Ex.ret) (qcz a1 v0_0)) (K (Ex.exit 0) (qcv a1)) m:=by funext x0 x1 x2;exact qg9 D n a1 K m x0 x1 x2
  rw[qoa]
  rw[ih];rfl
theorem qnk (D:DX)(n:Nat) (a1:Clo) (v0_0:Int) :
 (CQ qc D n 148 [] [.r,.l,.r,.l] (qi qc 148)) (Ex.ret) (qcz a1 v0_0)=qgt D n a1 v0_0:=by kernel_rfl
theorem qne (D:DX)(n:Nat) (a1:Clo) :
 (CQ qc D n 148 [] [.r,.l,.r,.l] (qi qc 148)) (Ex.exit 0) (qcv a1)=qgp D n a1:=by kernel_rfl
theorem qng (D:DX)(n:Nat) (a1:Clo) (x0:tIxs) (x1:Int) (x2:Int) :
 LQ qc D n 148 [.r,.l,.r,.l] n (qbr a1 x0 x1 x2) (CQ qc D n 148 [] [.r,.l,.r,.l] (qi qc 148))=qd0 D n a1 x0 x1 x2:=by
 rw[qg9]
 simp only[qnk,qne]
 rfl
theorem qpf (D:DX)(n:Nat) (a0:tIxs) (a1:Clo):rfC qc D n 148 (a0,(a1,()))=qeg D n a0 a1:=by
 have h:rfC qc D n 148 (a0,(a1,()))=qek D n a1 (fun x0 x1 x2=>LQ qc D n 148 [.r,.l,.r,.l] n (qbr a1 x0 x1 x2) (CQ qc D n 148 [] [.r,.l,.r,.l] (qi qc 148))) a0:=by kernel_rfl
 rw[h]
 simp only[qng]
 rfl

def qjh (D:DX)(n:Nat) (a1:Clo) (go:List Int→Int→Int→Option ((Int×Unit)×Unit)) (K0:Int→Option ((Int×Unit)×Unit)) (K1:Option ((Int×Unit)×Unit)) (x0:List Int) (x1:Int) (x2:Int):Option ((Int×Unit)×Unit):=br (decide (x2<x1)) (br (decide (0≤x2)&&decide (x2<(↑(List.length x0):Int))) (qh (qbp ctx D a1 [CapV.val (Ty.int IntKind.i64) (List.getD x0 (Int.toNat x2) 0)] Ty.bool) fun b↦br b (K0 x2) (go x0 x1 (IntKind.wrap IntKind.i64 (x2+1)))) none) K1
def qdj (D:DX)(n:Nat) (a1:Clo) (K0:Int→Option ((Int×Unit)×Unit)) (K1:Option ((Int×Unit)×Unit)):Nat→(List Int)→(Int)→(Int)→Option ((Int×Unit)×Unit) | 0=>(fun x0 x1 x2=>none) | m+1=>(fun x0 x1 x2=>qjh D n a1 (qdj D n a1 K0 K1 m) K0 K1 x0 x1 x2)
def qm9 (D:DX)(n:Nat) (a1:Clo) (v0_0:Int):Option ((Int×Unit)×Unit):=some ((v0_0,()),())
def qna (D:DX)(n:Nat) (a1:Clo):Option ((Int×Unit)×Unit):=some ((-1,()),())
def qio (D:DX)(n:Nat) (a1:Clo):(List Int)→(Int)→(Int)→Option ((Int×Unit)×Unit):=(fun x0 x1 x2=>qdj D n a1 (fun v0_0=>qm9 D n a1 v0_0) (qna D n a1) n x0 x1 x2)
def qj4 (D:DX)(n:Nat) (a1:Clo) (lp0:List Int→Int→Int→Option ((Int×Unit)×Unit)) (a0:List Int):Option ((Int×Unit)×Unit):=lp0 a0 (↑(List.length a0):Int) 0
def qj9 (D:DX)(n:Nat) (a0:List Int) (a1:Clo):Option ((Int×Unit)×Unit):=qj4 D n a1 (qio D n a1) a0
def qdi (a1:Clo) (x0:List Int) (x1:Int) (x2:Int):St:=stq 19 [(0,AV.val (Ty.sl yI) x0),(1,AV.cloV a1),(7,avI x1),(8,avI x2)] [] 
def qe8 (a1:Clo) (v0_0:Int):St:=stq 19 [(4,avI v0_0)] [] 
def qfa (a1:Clo):St:=stq 19 [] [] 
theorem qx5 (D:DX)(n:Nat) (a1:Clo) (m:Nat) (K:Ex→St→Option (Out ctx 149)) (x0:List Int) (x1:Int) (x2:Int) :
 LQ qc D n 149 [.r,.l,.r,.l] (m+1) (qdi a1 x0 x1 x2) K=qjh D n a1 (fun x0 x1 x2=>LQ qc D n 149 [.r,.l,.r,.l] m (qdi a1 x0 x1 x2) K) (fun v0_0=>K (Ex.ret) (qe8 a1 v0_0)) (K (Ex.exit 0) (qfa a1)) x0 x1 x2:=by kernel_rfl
theorem qn5 (D:DX)(n:Nat) (a1:Clo) (K:Ex→St→Option (Out ctx 149)):∀ (m:Nat) (x0:List Int) (x1:Int) (x2:Int),LQ qc D n 149 [.r,.l,.r,.l] m (qdi a1 x0 x1 x2) K=qdj D n a1 (fun v0_0=>K (Ex.ret) (qe8 a1 v0_0)) (K (Ex.exit 0) (qfa a1)) m x0 x1 x2
 | 0,x0,x1,x2=>qx ..
 | m+1,x0,x1,x2=>by
  have ih:(fun x0 x1 x2=>LQ qc D n 149 [.r,.l,.r,.l] m (qdi a1 x0 x1 x2) K)=qdj D n a1 (fun v0_0=>K (Ex.ret) (qe8 a1 v0_0)) (K (Ex.exit 0) (qfa a1)) m:=by funext x0 x1 x2;exact qn5 D n a1 K m x0 x1 x2
  rw[qx5]
  rw[ih];rfl
theorem qw7 (D:DX)(n:Nat) (a1:Clo) (v0_0:Int) :
 (CQ qc D n 149 [] [.r,.l,.r,.l] (qi qc 149)) (Ex.ret) (qe8 a1 v0_0)=qm9 D n a1 v0_0:=by kernel_rfl
theorem qw3 (D:DX)(n:Nat) (a1:Clo) :
 (CQ qc D n 149 [] [.r,.l,.r,.l] (qi qc 149)) (Ex.exit 0) (qfa a1)=qna D n a1:=by kernel_rfl
theorem qw5 (D:DX)(n:Nat) (a1:Clo) (x0:List Int) (x1:Int) (x2:Int) :
 LQ qc D n 149 [.r,.l,.r,.l] n (qdi a1 x0 x1 x2) (CQ qc D n 149 [] [.r,.l,.r,.l] (qi qc 149))=qio D n a1 x0 x1 x2:=by
 rw[qn5]
 simp only[qw7,qw3]
 rfl
theorem q0t (D:DX)(n:Nat) (a0:List Int) (a1:Clo):rfC qc D n 149 (a0,(a1,()))=qj9 D n a0 a1:=by
 have h:rfC qc D n 149 (a0,(a1,()))=qj4 D n a1 (fun x0 x1 x2=>LQ qc D n 149 [.r,.l,.r,.l] n (qdi a1 x0 x1 x2) (CQ qc D n 149 [] [.r,.l,.r,.l] (qi qc 149))) a0:=by kernel_rfl
 rw[h]
 simp only[qw5]
 rfl



def qo8 (D:DX)(n:Nat) (go:Int→Int→List Int×Int×Int×Unit→tSch→tSch→List ByteArray→Option (((tSch)×Unit)×tCur×Unit)) (K0:Int→List Int×Int×Int×Unit→tSch→tSch→Option (((tSch)×Unit)×tCur×Unit)) (x0:Int) (x1:Int) (x2:List Int×Int×Int×Unit) (x3:tSch) (x4:tSch) (x5:List ByteArray):Option (((tSch)×Unit)×tCur×Unit):=br (decide (x1<x0)) (br (decide (0≤x1)&&decide (x1<(↑(List.length x5):Int))) (qh (qcg D x2 3) fun b↦br (decide (x1>0)) (qh (ql2 D (Prod.fst (Prod.snd b)) 2) fun b_1↦br (decide (List.length (Prod.fst x4)+1≤q9)) (go x0 (IntKind.wrap IntKind.i64 (x1+1)) (Prod.fst (Prod.snd b_1)) x3 (Prod.fst x4++[(List.getD x5 (Int.toNat x1) ByteArray.empty,IntKind.wrap IntKind.i64 (1+Prod.fst (Prod.fst b)),Prod.fst (Prod.fst b_1),())],Prod.snd x4) x5) none) (br (decide (List.length (Prod.fst x4)+1≤q9)) (go x0 (IntKind.wrap IntKind.i64 (x1+1)) (Prod.fst (Prod.snd b)) x3 (Prod.fst x4++[(List.getD x5 (Int.toNat x1) ByteArray.empty,IntKind.wrap IntKind.i64 (1+Prod.fst (Prod.fst b)),false,())],Prod.snd x4) x5) none)) none) (K0 x0 x2 x3 x4)
def qfy (D:DX)(n:Nat) (K0:Int→List Int×Int×Int×Unit→tSch→tSch→Option (((tSch)×Unit)×tCur×Unit)):Nat→(Int)→(Int)→tCur→(tSch)→(tSch)→(List ByteArray)→Option (((tSch)×Unit)×tCur×Unit) | 0=>(fun x0 x1 x2 x3 x4 x5=>none) | m+1=>(fun x0 x1 x2 x3 x4 x5=>qo8 D n (qfy D n K0 m) K0 x0 x1 x2 x3 x4 x5)
def qoy (D:DX)(n:Nat) (go:Int→Int→List Int×Int×Int×Unit→tSch→tSch→Option (((tSch)×Unit)×tCur×Unit)) (K0:List Int×Int×Int×Unit→tSch→tSch→Option (((tSch)×Unit)×tCur×Unit)) (x1_0:Int) (x1_1:Int) (x1_2:List Int×Int×Int×Unit) (x1_3:tSch) (x1_4:tSch):Option (((tSch)×Unit)×tCur×Unit):=qh (qcg D x1_2 3) fun b↦br (decide (x1_1<Prod.fst (Prod.fst b))) (qh (qcg D (Prod.fst (Prod.snd b)) (IntKind.wrap IntKind.i64 (x1_0 - 1))) fun b↦br (decide (0≤x1_1)&&decide (x1_1<(↑3:Int))) (qh (ql2 D (Prod.fst (Prod.snd b)) 2) fun b_1↦qh (ql2 D (Prod.fst (Prod.snd b_1)) 2) fun b_2↦br (Prod.fst (Prod.fst b_2)) (br (decide (x1_0=0)) none (br (decide (List.length (Prod.fst (Prod.snd (Prod.snd x1_4)))+1≤q9)) (go x1_0 (IntKind.wrap IntKind.i64 (x1_1+1)) (Prod.fst (Prod.snd b_2)) x1_3 (Prod.fst x1_4,Prod.fst (Prod.snd x1_4),Prod.fst (Prod.snd (Prod.snd x1_4))++[(List.getD [ByteArray.mk #[UInt8.ofNat 120],ByteArray.mk #[UInt8.ofNat 121],ByteArray.mk #[UInt8.ofNat 122]] (Int.toNat x1_1) ByteArray.empty,[IntKind.wrap IntKind.i64 (1+Prod.fst (Prod.fst b))]++[Int.tmod (IntKind.wrap IntKind.i64 (IntKind.wrap IntKind.i64 (1+Prod.fst (Prod.fst b))+1)) x1_0],Prod.fst (Prod.fst b_1),())],Prod.snd (Prod.snd (Prod.snd x1_4)))) none)) (br (decide (List.length (Prod.fst (Prod.snd (Prod.snd x1_4)))+1≤q9)) (go x1_0 (IntKind.wrap IntKind.i64 (x1_1+1)) (Prod.fst (Prod.snd b_2)) x1_3 (Prod.fst x1_4,Prod.fst (Prod.snd x1_4),Prod.fst (Prod.snd (Prod.snd x1_4))++[(List.getD [ByteArray.mk #[UInt8.ofNat 120],ByteArray.mk #[UInt8.ofNat 121],ByteArray.mk #[UInt8.ofNat 122]] (Int.toNat x1_1) ByteArray.empty,[IntKind.wrap IntKind.i64 (1+Prod.fst (Prod.fst b))],Prod.fst (Prod.fst b_1),())],Prod.snd (Prod.snd (Prod.snd x1_4)))) none)) none) (K0 (Prod.fst (Prod.snd b)) x1_3 x1_4)
def qf0 (D:DX)(n:Nat) (K0:List Int×Int×Int×Unit→tSch→tSch→Option (((tSch)×Unit)×tCur×Unit)):Nat→(Int)→(Int)→tCur→(tSch)→(tSch)→Option (((tSch)×Unit)×tCur×Unit) | 0=>(fun x1_0 x1_1 x1_2 x1_3 x1_4=>none) | m+1=>(fun x1_0 x1_1 x1_2 x1_3 x1_4=>qoy D n (qf0 D n K0 m) K0 x1_0 x1_1 x1_2 x1_3 x1_4)
def qjc (D:DX)(n:Nat) (v0_0:List Int×Int×Int×Unit) (v0_1:tSch) (v0_2:tSch):Option (((tSch)×Unit)×tCur×Unit):=qh (qk3 D v0_0 [2,3]) fun b↦br (decide (0≤0)&&decide (0<(↑(List.length (Prod.fst v0_2)):Int))) (some (((List.set (Prod.fst v0_2) 0 (Prod.fst (List.getD (Prod.fst v0_2) 0 (ByteArray.empty,0,false,())),Prod.fst (Prod.fst b),Prod.snd (Prod.snd (List.getD (Prod.fst v0_2) 0 (ByteArray.empty,0,false,())))),Prod.fst (Prod.snd v0_2),Prod.fst (Prod.snd (Prod.snd v0_2)),()),()),Prod.fst (Prod.snd b),())) none
def qjx (D:DX)(n:Nat):(Int)→(Int)→tCur→(tSch)→(tSch)→Option (((tSch)×Unit)×tCur×Unit):=(fun x1_0 x1_1 x1_2 x1_3 x1_4=>qf0 D n (fun v0_0 v0_1 v0_2=>qjc D n v0_0 v0_1 v0_2) n x1_0 x1_1 x1_2 x1_3 x1_4)
def qi7 (D:DX)(n:Nat) (lp1:Int→Int→List Int×Int×Int×Unit→tSch→tSch→Option (((tSch)×Unit)×tCur×Unit)) (v0_0:Int) (v0_1:List Int×Int×Int×Unit) (v0_2:tSch) (v0_3:tSch):Option (((tSch)×Unit)×tCur×Unit):=lp1 v0_0 0 v0_1 v0_2 (Prod.fst v0_3,[0],Prod.snd (Prod.snd v0_3))
def qn1 (D:DX)(n:Nat):(Int)→(Int)→tCur→(tSch)→(tSch)→(List ByteArray)→Option (((tSch)×Unit)×tCur×Unit):=(fun x0 x1 x2 x3 x4 x5=>qfy D n (fun v0_0 v0_1 v0_2 v0_3=>qi7 D n (qjx D n) v0_0 v0_1 v0_2 v0_3) n x0 x1 x2 x3 x4 x5)
def qqm (D:DX)(n:Nat) (lp0:Int→Int→List Int×Int×Int×Unit→tSch→tSch→List ByteArray→Option (((tSch)×Unit)×tCur×Unit)) (a0:List Int×Int×Int×Unit):Option (((tSch)×Unit)×tCur×Unit):=qh (qcg D a0 3) fun b↦lp0 (IntKind.wrap IntKind.i64 (2+Prod.fst (Prod.fst b))) 0 (Prod.fst (Prod.snd b)) ([],[],[],()) ([],[],[],()) [ByteArray.mk #[UInt8.ofNat 105,UInt8.ofNat 100],ByteArray.mk #[UInt8.ofNat 110,UInt8.ofNat 97,UInt8.ofNat 109,UInt8.ofNat 101],ByteArray.mk #[UInt8.ofNat 115,UInt8.ofNat 105,UInt8.ofNat 122,UInt8.ofNat 101],ByteArray.mk #[UInt8.ofNat 111,UInt8.ofNat 110]]
def qp5 (D:DX)(n:Nat) (a0:List Int×Int×Int×Unit):Option (((tSch)×Unit)×tCur×Unit):=qqm D n (qn1 D n) a0
def qfz (x0:Int) (x1:Int) (x2:List Int×Int×Int×Unit) (x3:tSch) (x4:tSch) (x5:List ByteArray):St:=stq 86 [(0,AV.addr 0 []),(2,AV.addr 2 []),(3,AV.addr 3 []),(4,AV.brw 4 [] 0),(5,avI x0),(6,avI x1)] [(0,Root.mk (Ty.pair (Ty.sl (Ty.int IntKind.u8)) (Ty.pair yI (Ty.pair yI Ty.unit))) Mk.no x2 true),(2,Root.mk yS (Mk.pr (Mk.own 0 (Mk.pr Mk.no (Mk.pr Mk.no (Mk.pr Mk.no Mk.no)))) (Mk.pr (Mk.own 0 Mk.no) (Mk.pr (Mk.own 0 (Mk.pr Mk.no (Mk.pr (Mk.own 0 Mk.no) (Mk.pr Mk.no Mk.no)))) Mk.no))) x3 true),(3,Root.mk yS (Mk.pr (Mk.own 0 (Mk.pr Mk.no (Mk.pr Mk.no (Mk.pr Mk.no Mk.no)))) (Mk.pr (Mk.own 0 Mk.no) (Mk.pr (Mk.own 0 (Mk.pr Mk.no (Mk.pr (Mk.own 0 Mk.no) (Mk.pr Mk.no Mk.no)))) Mk.no))) x4 true),(4,Root.mk (Ty.sl Ty.str) (Mk.own 0 Mk.no) x5 false)] 
def qjg (v0_0:Int) (v0_1:List Int×Int×Int×Unit) (v0_2:tSch) (v0_3:tSch):St:=stq 86 [(0,AV.addr 0 []),(2,AV.addr 2 []),(3,AV.addr 3 []),(5,avI v0_0)] [(0,Root.mk (Ty.pair (Ty.sl (Ty.int IntKind.u8)) (Ty.pair yI (Ty.pair yI Ty.unit))) Mk.no v0_1 true),(2,Root.mk yS (Mk.pr (Mk.own 0 (Mk.pr Mk.no (Mk.pr Mk.no (Mk.pr Mk.no Mk.no)))) (Mk.pr (Mk.own 0 Mk.no) (Mk.pr (Mk.own 0 (Mk.pr Mk.no (Mk.pr (Mk.own 0 Mk.no) (Mk.pr Mk.no Mk.no)))) Mk.no))) v0_2 true),(3,Root.mk yS (Mk.pr (Mk.own 0 (Mk.pr Mk.no (Mk.pr Mk.no (Mk.pr Mk.no Mk.no)))) (Mk.pr (Mk.own 0 Mk.no) (Mk.pr (Mk.own 0 (Mk.pr Mk.no (Mk.pr (Mk.own 0 Mk.no) (Mk.pr Mk.no Mk.no)))) Mk.no))) v0_3 true)] 
def qfx (x1_0:Int) (x1_1:Int) (x1_2:List Int×Int×Int×Unit) (x1_3:tSch) (x1_4:tSch):St:=stq 86 [(0,AV.addr 0 []),(2,AV.addr 2 []),(3,AV.addr 3 []),(5,avI x1_0),(7,avI x1_1)] [(0,Root.mk (Ty.pair (Ty.sl (Ty.int IntKind.u8)) (Ty.pair yI (Ty.pair yI Ty.unit))) Mk.no x1_2 true),(2,Root.mk yS (Mk.pr (Mk.own 0 (Mk.pr Mk.no (Mk.pr Mk.no (Mk.pr Mk.no Mk.no)))) (Mk.pr (Mk.own 0 Mk.no) (Mk.pr (Mk.own 0 (Mk.pr Mk.no (Mk.pr (Mk.own 0 Mk.no) (Mk.pr Mk.no Mk.no)))) Mk.no))) x1_3 true),(3,Root.mk yS (Mk.pr (Mk.own 0 (Mk.pr Mk.no (Mk.pr Mk.no (Mk.pr Mk.no Mk.no)))) (Mk.pr (Mk.own 0 Mk.no) (Mk.pr (Mk.own 0 (Mk.pr Mk.no (Mk.pr (Mk.own 0 Mk.no) (Mk.pr Mk.no Mk.no)))) Mk.no))) x1_4 true)] 
def qi8 (v0_0:List Int×Int×Int×Unit) (v0_1:tSch) (v0_2:tSch):St:=stq 86 [(0,AV.addr 0 []),(2,AV.addr 2 []),(3,AV.addr 3 [])] [(0,Root.mk (Ty.pair (Ty.sl (Ty.int IntKind.u8)) (Ty.pair yI (Ty.pair yI Ty.unit))) Mk.no v0_0 true),(2,Root.mk yS (Mk.pr (Mk.own 0 (Mk.pr Mk.no (Mk.pr Mk.no (Mk.pr Mk.no Mk.no)))) (Mk.pr (Mk.own 0 Mk.no) (Mk.pr (Mk.own 0 (Mk.pr Mk.no (Mk.pr (Mk.own 0 Mk.no) (Mk.pr Mk.no Mk.no)))) Mk.no))) v0_1 true),(3,Root.mk yS (Mk.pr (Mk.own 0 (Mk.pr Mk.no (Mk.pr Mk.no (Mk.pr Mk.no Mk.no)))) (Mk.pr (Mk.own 0 Mk.no) (Mk.pr (Mk.own 0 (Mk.pr Mk.no (Mk.pr (Mk.own 0 Mk.no) (Mk.pr Mk.no Mk.no)))) Mk.no))) v0_2 true)] 
theorem q5f (D:DX)(n:Nat) (m:Nat) (K:Ex→St→Option (Out ctx 152)) (x0:Int) (x1:Int) (x2:List Int×Int×Int×Unit) (x3:tSch) (x4:tSch) (x5:List ByteArray) :
 LQ qc D n 152 [.r,.r,.r,.r,.l,.r,.l] (m+1) (qfz x0 x1 x2 x3 x4 x5) K=qo8 D n (fun x0 x1 x2 x3 x4 x5=>LQ qc D n 152 [.r,.r,.r,.r,.l,.r,.l] m (qfz x0 x1 x2 x3 x4 x5) K) (fun v0_0 v0_1 v0_2 v0_3=>K (Ex.exit 0) (qjg v0_0 v0_1 v0_2 v0_3)) x0 x1 x2 x3 x4 x5:=by kernel_rfl
theorem qvg (D:DX)(n:Nat) (K:Ex→St→Option (Out ctx 152)):∀ (m:Nat) (x0:Int) (x1:Int) (x2:List Int×Int×Int×Unit) (x3:tSch) (x4:tSch) (x5:List ByteArray),LQ qc D n 152 [.r,.r,.r,.r,.l,.r,.l] m (qfz x0 x1 x2 x3 x4 x5) K=qfy D n (fun v0_0 v0_1 v0_2 v0_3=>K (Ex.exit 0) (qjg v0_0 v0_1 v0_2 v0_3)) m x0 x1 x2 x3 x4 x5
 | 0,x0,x1,x2,x3,x4,x5=>qx ..
 | m+1,x0,x1,x2,x3,x4,x5=>by
  have ih:(fun x0 x1 x2 x3 x4 x5=>LQ qc D n 152 [.r,.r,.r,.r,.l,.r,.l] m (qfz x0 x1 x2 x3 x4 x5) K)=qfy D n (fun v0_0 v0_1 v0_2 v0_3=>K (Ex.exit 0) (qjg v0_0 v0_1 v0_2 v0_3)) m:=by funext x0 x1 x2 x3 x4 x5;exact qvg D n K m x0 x1 x2 x3 x4 x5
  rw[q5f]
  rw[ih];rfl
theorem q5b (D:DX)(n:Nat) (m:Nat) (K:Ex→St→Option (Out ctx 152)) (x1_0:Int) (x1_1:Int) (x1_2:List Int×Int×Int×Unit) (x1_3:tSch) (x1_4:tSch) :
 LQ qc D n 152 [.r,.r,.r,.r,.r,.r,.l,.r,.l] (m+1) (qfx x1_0 x1_1 x1_2 x1_3 x1_4) K=qoy D n (fun x1_0 x1_1 x1_2 x1_3 x1_4=>LQ qc D n 152 [.r,.r,.r,.r,.r,.r,.l,.r,.l] m (qfx x1_0 x1_1 x1_2 x1_3 x1_4) K) (fun v0_0 v0_1 v0_2=>K (Ex.exit 2) (qi8 v0_0 v0_1 v0_2)) x1_0 x1_1 x1_2 x1_3 x1_4:=by kernel_rfl
theorem qvb (D:DX)(n:Nat) (K:Ex→St→Option (Out ctx 152)):∀ (m:Nat) (x1_0:Int) (x1_1:Int) (x1_2:List Int×Int×Int×Unit) (x1_3:tSch) (x1_4:tSch),LQ qc D n 152 [.r,.r,.r,.r,.r,.r,.l,.r,.l] m (qfx x1_0 x1_1 x1_2 x1_3 x1_4) K=qf0 D n (fun v0_0 v0_1 v0_2=>K (Ex.exit 2) (qi8 v0_0 v0_1 v0_2)) m x1_0 x1_1 x1_2 x1_3 x1_4
 | 0,x1_0,x1_1,x1_2,x1_3,x1_4=>qx ..
 | m+1,x1_0,x1_1,x1_2,x1_3,x1_4=>by
  have ih:(fun x1_0 x1_1 x1_2 x1_3 x1_4=>LQ qc D n 152 [.r,.r,.r,.r,.r,.r,.l,.r,.l] m (qfx x1_0 x1_1 x1_2 x1_3 x1_4) K)=qf0 D n (fun v0_0 v0_1 v0_2=>K (Ex.exit 2) (qi8 v0_0 v0_1 v0_2)) m:=by funext x1_0 x1_1 x1_2 x1_3 x1_4;exact qvb D n K m x1_0 x1_1 x1_2 x1_3 x1_4
  rw[q5b]
  rw[ih];rfl
theorem q4v (D:DX)(n:Nat) (v0_0:List Int×Int×Int×Unit) (v0_1:tSch) (v0_2:tSch) :
 (CQ qc D n 152 [] [.r,.r,.r,.r,.r,.r,.l,.r,.l] (qi qc 152)) (Ex.exit 2) (qi8 v0_0 v0_1 v0_2)=qjc D n v0_0 v0_1 v0_2:=by kernel_rfl
theorem q4z (D:DX)(n:Nat) (x1_0:Int) (x1_1:Int) (x1_2:List Int×Int×Int×Unit) (x1_3:tSch) (x1_4:tSch) :
 LQ qc D n 152 [.r,.r,.r,.r,.r,.r,.l,.r,.l] n (qfx x1_0 x1_1 x1_2 x1_3 x1_4) (CQ qc D n 152 [] [.r,.r,.r,.r,.r,.r,.l,.r,.l] (qi qc 152))=qjx D n x1_0 x1_1 x1_2 x1_3 x1_4:=by
 rw[qvb]
 simp only[q4v]
 rfl
theorem q46 (D:DX)(n:Nat) (v0_0:Int) (v0_1:List Int×Int×Int×Unit) (v0_2:tSch) (v0_3:tSch) :
 (CQ qc D n 152 [] [.r,.r,.r,.r,.l,.r,.l] (qi qc 152)) (Ex.exit 0) (qjg v0_0 v0_1 v0_2 v0_3)=qi7 D n (fun x1_0 x1_1 x1_2 x1_3 x1_4=>LQ qc D n 152 [.r,.r,.r,.r,.r,.r,.l,.r,.l] n (qfx x1_0 x1_1 x1_2 x1_3 x1_4) (CQ qc D n 152 [] [.r,.r,.r,.r,.r,.r,.l,.r,.l] (qi qc 152))) v0_0 v0_1 v0_2 v0_3:=by kernel_rfl
theorem q42 (D:DX)(n:Nat) (x0:Int) (x1:Int) (x2:List Int×Int×Int×Unit) (x3:tSch) (x4:tSch) (x5:List ByteArray) :
 LQ qc D n 152 [.r,.r,.r,.r,.l,.r,.l] n (qfz x0 x1 x2 x3 x4 x5) (CQ qc D n 152 [] [.r,.r,.r,.r,.l,.r,.l] (qi qc 152))=qn1 D n x0 x1 x2 x3 x4 x5:=by
 rw[qvg]
 simp only[q46,q4z]
 rfl
theorem q8t (D:DX)(n:Nat) (a0:List Int×Int×Int×Unit):rfC qc D n 152 (a0,())=qp5 D n a0:=by
 have h:rfC qc D n 152 (a0,())=qqm D n (fun x0 x1 x2 x3 x4 x5=>LQ qc D n 152 [.r,.r,.r,.r,.l,.r,.l] n (qfz x0 x1 x2 x3 x4 x5) (CQ qc D n 152 [] [.r,.r,.r,.r,.l,.r,.l] (qi qc 152))) a0:=by kernel_rfl
 rw[h]
 simp only[q42]
 rfl

def q2u (D:DX)(n:Nat) (a0:List Int×Int×Int×Unit) (a1:List Int):Option ((Int×Unit)×tCur×Unit):=qh (qcg D a0 (↑(List.length a1):Int)) fun b↦br (decide (0≤Prod.fst (Prod.fst b))&&decide (Prod.fst (Prod.fst b)<(↑(List.length a1):Int))) (some ((List.getD a1 (Int.toNat (Prod.fst (Prod.fst b))) 0,()),Prod.fst (Prod.snd b),())) none
def quw (D:DX)(n:Nat) (a0:List Int×Int×Int×Unit) (a1:List Int):Option ((Int×Unit)×tCur×Unit):=q2u D n a0 a1
theorem qbdu (D:DX)(n:Nat) (a0:List Int×Int×Int×Unit) (a1:List Int):rfC qc D n 153 (a0,(a1,()))=quw D n a0 a1:=by kernel_rfl

def q75 (D:DX)(n:Nat) (a0:List Int×Int×Int×Unit) (a1:Int):Option ((Bool×Unit)×tCur×Unit):=qh (qcg D a0 a1) fun b↦some ((decide (Prod.fst (Prod.fst b)=0),()),Prod.fst (Prod.snd b),())
def q1a (D:DX)(n:Nat) (a0:List Int×Int×Int×Unit) (a1:Int):Option ((Bool×Unit)×tCur×Unit):=q75 D n a0 a1
theorem qbkh (D:DX)(n:Nat) (a0:List Int×Int×Int×Unit) (a1:Int):rfC qc D n 154 (a0,(a1,()))=q1a D n a0 a1:=by kernel_rfl

def q3o (D:DX)(n:Nat) (a0:List Int×Int×Int×Unit) (a1:Int):Option ((tVal×Unit)×tCur×Unit):=br (decide (a1=1)) (qh (qcg D a0 2) fun b↦some (((a1,Prod.fst (Prod.fst b),ByteArray.empty,()),()),Prod.fst (Prod.snd b),())) (br (decide (a1=2)) (qh (qk3 D a0 [0,1,-1,7,255,256,-1000000000000,1000000000000]) fun b↦some (((a1,Prod.fst (Prod.fst b),ByteArray.empty,()),()),Prod.fst (Prod.snd b),())) (br (decide (a1=3)) (qh (qt2 D a0 (List.set (List.set (List.set (List.set (List.set (List.set (List.set (List.set (List.set (List.replicate 9 ByteArray.empty) 0 (ByteArray.mk #[])) 1 (ByteArray.mk #[UInt8.ofNat 97])) 2 (ByteArray.mk #[UInt8.ofNat 97,UInt8.ofNat 98])) 3 (ByteArray.mk #[UInt8.ofNat 97,UInt8.ofNat 0])) 4 (ByteArray.mk #[UInt8.ofNat 97,UInt8.ofNat 0,UInt8.ofNat 98])) 5 (ByteArray.mk #[UInt8.ofNat 0])) 6 (ByteArray.mk #[UInt8.ofNat 1])) 7 (ByteArray.mk #[UInt8.ofNat 255])) 8 (ByteArray.mk #[UInt8.ofNat 98]))) fun b↦some (((a1,0,Prod.fst (Prod.fst b),()),()),Prod.fst (Prod.snd b),())) (some (((0,0,ByteArray.empty,()),()),a0,()))))
def que (D:DX)(n:Nat) (a0:List Int×Int×Int×Unit) (a1:Int):Option ((tVal×Unit)×tCur×Unit):=q3o D n a0 a1
theorem qbdf (D:DX)(n:Nat) (a0:List Int×Int×Int×Unit) (a1:Int):rfC qc D n 155 (a0,(a1,()))=que D n a0 a1:=by kernel_rfl

def q74 (D:DX)(n:Nat) (a0:List Int×Int×Int×Unit):Option ((Int×Unit)×tCur×Unit):=br (decide (Prod.fst (Prod.snd a0)<(↑(List.length (Prod.fst a0)):Int))) (br (decide (0≤Prod.fst (Prod.snd a0))&&decide (Prod.fst (Prod.snd a0)<(↑(List.length (Prod.fst a0)):Int))) (some ((IntKind.wrap IntKind.i64 (↑(BitVec.toNat (BitVec.and (BitVec.ofInt (IntKind.bits IntKind.i64) (IntKind.wrap IntKind.i64 (IntKind.wrap IntKind.i64 (↑(BitVec.toNat (BitVec.and (BitVec.ofInt (IntKind.bits IntKind.i64) (IntKind.wrap IntKind.i64 (↑(BitVec.toNat (BitVec.xor (BitVec.ofInt (IntKind.bits IntKind.i64) (Int.fdiv (IntKind.wrap IntKind.i64 (IntKind.wrap IntKind.i64 (Prod.fst (Prod.snd (Prod.snd a0)) * 6364136223846793005)+1442695040888963407)) (Int.pow 2 (if Int.toNat 33≤IntKind.bits IntKind.i64 then Int.toNat 33 else IntKind.bits IntKind.i64)))) (BitVec.ofInt (IntKind.bits IntKind.i64) (Int.fdiv (IntKind.wrap IntKind.i64 (IntKind.wrap IntKind.i64 (Prod.fst (Prod.snd (Prod.snd a0)) * 6364136223846793005)+1442695040888963407)) (Int.pow 2 (if Int.toNat 45≤IntKind.bits IntKind.i64 then Int.toNat 45 else IntKind.bits IntKind.i64)))))):Int))) (BitVec.ofInt (IntKind.bits IntKind.i64) 255))):Int)+IntKind.wrap IntKind.i64 (List.getD (Prod.fst a0) (Int.toNat (Prod.fst (Prod.snd a0))) 0)))) (BitVec.ofInt (IntKind.bits IntKind.i64) 255))):Int),()),(Prod.fst a0,IntKind.wrap IntKind.i64 (Prod.fst (Prod.snd a0)+1),IntKind.wrap IntKind.i64 (IntKind.wrap IntKind.i64 (Prod.fst (Prod.snd (Prod.snd a0)) * 6364136223846793005)+1442695040888963407),Prod.snd (Prod.snd (Prod.snd a0))),())) none) (some ((IntKind.wrap IntKind.i64 (↑(BitVec.toNat (BitVec.and (BitVec.ofInt (IntKind.bits IntKind.i64) (IntKind.wrap IntKind.i64 (↑(BitVec.toNat (BitVec.xor (BitVec.ofInt (IntKind.bits IntKind.i64) (Int.fdiv (IntKind.wrap IntKind.i64 (IntKind.wrap IntKind.i64 (Prod.fst (Prod.snd (Prod.snd a0)) * 6364136223846793005)+1442695040888963407)) (Int.pow 2 (if Int.toNat 33≤IntKind.bits IntKind.i64 then Int.toNat 33 else IntKind.bits IntKind.i64)))) (BitVec.ofInt (IntKind.bits IntKind.i64) (Int.fdiv (IntKind.wrap IntKind.i64 (IntKind.wrap IntKind.i64 (Prod.fst (Prod.snd (Prod.snd a0)) * 6364136223846793005)+1442695040888963407)) (Int.pow 2 (if Int.toNat 45≤IntKind.bits IntKind.i64 then Int.toNat 45 else IntKind.bits IntKind.i64)))))):Int))) (BitVec.ofInt (IntKind.bits IntKind.i64) 255))):Int),()),(Prod.fst a0,Prod.fst (Prod.snd a0),IntKind.wrap IntKind.i64 (IntKind.wrap IntKind.i64 (Prod.fst (Prod.snd (Prod.snd a0)) * 6364136223846793005)+1442695040888963407),Prod.snd (Prod.snd (Prod.snd a0))),()))
def q09 (D:DX)(n:Nat) (a0:List Int×Int×Int×Unit):Option ((Int×Unit)×tCur×Unit):=q74 D n a0
theorem qbko (D:DX)(n:Nat) (a0:List Int×Int×Int×Unit):rfC qc D n 156 (a0,())=q09 D n a0:=by kernel_rfl


def qd2 (D:DX)(n:Nat) (a1:Clo) (go:qd→Int→Int→Option ((Int×Unit)×Unit)) (K0:Int→Option ((Int×Unit)×Unit)) (K1:Option ((Int×Unit)×Unit)) (x0:qd) (x1:Int) (x2:Int):Option ((Int×Unit)×Unit):=br (decide (x2<x1)) (br (decide (0≤x2)&&decide (x2<(↑(List.length x0):Int))) (qh (qbp ctx D a1 [CapV.val (Ty.pair (Ty.int IntKind.i64) (Ty.pair (Ty.int IntKind.i64) (Ty.pair Ty.str Ty.unit))) (List.getD x0 (Int.toNat x2) (0,0,ByteArray.empty,()))] Ty.bool) fun b↦br b (K0 x2) (go x0 x1 (IntKind.wrap IntKind.i64 (x2+1)))) none) K1
def qbn (D:DX)(n:Nat) (a1:Clo) (K0:Int→Option ((Int×Unit)×Unit)) (K1:Option ((Int×Unit)×Unit)):Nat→(qd)→(Int)→(Int)→Option ((Int×Unit)×Unit) | 0=>(fun x0 x1 x2=>none) | m+1=>(fun x0 x1 x2=>qd2 D n a1 (qbn D n a1 K0 K1 m) K0 K1 x0 x1 x2)
def qgl (D:DX)(n:Nat) (a1:Clo) (v0_0:Int):Option ((Int×Unit)×Unit):=some ((v0_0,()),())
def qgi (D:DX)(n:Nat) (a1:Clo):Option ((Int×Unit)×Unit):=some ((-1,()),())
def qdv (D:DX)(n:Nat) (a1:Clo):(qd)→(Int)→(Int)→Option ((Int×Unit)×Unit):=(fun x0 x1 x2=>qbn D n a1 (fun v0_0=>qgl D n a1 v0_0) (qgi D n a1) n x0 x1 x2)
def qd5 (D:DX)(n:Nat) (a1:Clo) (lp0:qd→Int→Int→Option ((Int×Unit)×Unit)) (a0:qd):Option ((Int×Unit)×Unit):=lp0 a0 (↑(List.length a0):Int) 0
def qd7 (D:DX)(n:Nat) (a0:qd) (a1:Clo):Option ((Int×Unit)×Unit):=qd5 D n a1 (qdv D n a1) a0
def qbm (a1:Clo) (x0:qd) (x1:Int) (x2:Int):St:=stq 19 [(0,AV.val (Ty.sl yV) x0),(1,AV.cloV a1),(7,avI x1),(8,avI x2)] [] 
def qcs (a1:Clo) (v0_0:Int):St:=stq 19 [(4,avI v0_0)] [] 
def qct (a1:Clo):St:=stq 19 [] [] 
theorem qni (D:DX)(n:Nat) (a1:Clo) (m:Nat) (K:Ex→St→Option (Out ctx 158)) (x0:qd) (x1:Int) (x2:Int) :
 LQ qc D n 158 [.r,.l,.r,.l] (m+1) (qbm a1 x0 x1 x2) K=qd2 D n a1 (fun x0 x1 x2=>LQ qc D n 158 [.r,.l,.r,.l] m (qbm a1 x0 x1 x2) K) (fun v0_0=>K (Ex.ret) (qcs a1 v0_0)) (K (Ex.exit 0) (qct a1)) x0 x1 x2:=by kernel_rfl
theorem qgn (D:DX)(n:Nat) (a1:Clo) (K:Ex→St→Option (Out ctx 158)):∀ (m:Nat) (x0:qd) (x1:Int) (x2:Int),LQ qc D n 158 [.r,.l,.r,.l] m (qbm a1 x0 x1 x2) K=qbn D n a1 (fun v0_0=>K (Ex.ret) (qcs a1 v0_0)) (K (Ex.exit 0) (qct a1)) m x0 x1 x2
 | 0,x0,x1,x2=>qx ..
 | m+1,x0,x1,x2=>by
  have ih:(fun x0 x1 x2=>LQ qc D n 158 [.r,.l,.r,.l] m (qbm a1 x0 x1 x2) K)=qbn D n a1 (fun v0_0=>K (Ex.ret) (qcs a1 v0_0)) (K (Ex.exit 0) (qct a1)) m:=by funext x0 x1 x2;exact qgn D n a1 K m x0 x1 x2
  rw[qni]
  rw[ih];rfl
theorem qm3 (D:DX)(n:Nat) (a1:Clo) (v0_0:Int) :
 (CQ qc D n 158 [] [.r,.l,.r,.l] (qi qc 158)) (Ex.ret) (qcs a1 v0_0)=qgl D n a1 v0_0:=by kernel_rfl
theorem qm5 (D:DX)(n:Nat) (a1:Clo) :
 (CQ qc D n 158 [] [.r,.l,.r,.l] (qi qc 158)) (Ex.exit 0) (qct a1)=qgi D n a1:=by kernel_rfl
theorem qmz (D:DX)(n:Nat) (a1:Clo) (x0:qd) (x1:Int) (x2:Int) :
 LQ qc D n 158 [.r,.l,.r,.l] n (qbm a1 x0 x1 x2) (CQ qc D n 158 [] [.r,.l,.r,.l] (qi qc 158))=qdv D n a1 x0 x1 x2:=by
 rw[qgn]
 simp only[qm3,qm5]
 rfl
theorem qoj (D:DX)(n:Nat) (a0:qd) (a1:Clo):rfC qc D n 158 (a0,(a1,()))=qd7 D n a0 a1:=by
 have h:rfC qc D n 158 (a0,(a1,()))=qd5 D n a1 (fun x0 x1 x2=>LQ qc D n 158 [.r,.l,.r,.l] n (qbm a1 x0 x1 x2) (CQ qc D n 158 [] [.r,.l,.r,.l] (qi qc 158))) a0:=by kernel_rfl
 rw[h]
 simp only[qmz]
 rfl

def qv8 (D:DX)(n:Nat) (go:qd→Int→Option ((Bool×Unit)×Unit)) (K0:qd→Bool→Option ((Bool×Unit)×Unit)) (K1:qd→Option ((Bool×Unit)×Unit)) (x0:qd) (x1:Int):Option ((Bool×Unit)×Unit):=br (decide (x1<(↑(List.length x0):Int))) (br (decide (0≤x1)&&decide (x1<(↑(List.length x0):Int))) (qh (qsl D (List.getD x0 (Int.toNat x1) (0,0,ByteArray.empty,()))) fun b↦br (!Prod.fst (Prod.fst b)) (K0 x0 false) (go x0 (IntKind.wrap IntKind.i64 (x1+1)))) none) (K1 x0)
def qjz (D:DX)(n:Nat) (K0:qd→Bool→Option ((Bool×Unit)×Unit)) (K1:qd→Option ((Bool×Unit)×Unit)):Nat→(qd)→(Int)→Option ((Bool×Unit)×Unit) | 0=>(fun x0 x1=>none) | m+1=>(fun x0 x1=>qv8 D n (qjz D n K0 K1 m) K0 K1 x0 x1)
def q1m (D:DX)(n:Nat) (v0_0:qd) (v0_1:Bool):Option ((Bool×Unit)×Unit):=some ((v0_1,()),())
def q1r (D:DX)(n:Nat) (v1_0:qd):Option ((Bool×Unit)×Unit):=some ((decide ((↑(List.length v1_0):Int)≤4),()),())
def qt6 (D:DX)(n:Nat):(qd)→(Int)→Option ((Bool×Unit)×Unit):=(fun x0 x1=>qjz D n (fun v0_0 v0_1=>q1m D n v0_0 v0_1) (fun v1_0=>q1r D n v1_0) n x0 x1)
def qy3 (D:DX)(n:Nat) (lp0:qd→Int→Option ((Bool×Unit)×Unit)) (a0:qd):Option ((Bool×Unit)×Unit):=lp0 a0 0
def qx6 (D:DX)(n:Nat) (a0:qd):Option ((Bool×Unit)×Unit):=qy3 D n (qt6 D n) a0
def qjt (x0:qd) (x1:Int):St:=stq 19 [(0,AV.val (Ty.sl yV) x0),(3,avI x1)] [] 
def qnu (v0_0:qd) (v0_1:Bool):St:=stq 19 [(0,AV.val (Ty.sl yV) v0_0),(2,AV.val Ty.bool v0_1)] [] 
def qnw (v1_0:qd):St:=stq 19 [(0,AV.val (Ty.sl yV) v1_0)] [] 
theorem qbef (D:DX)(n:Nat) (m:Nat) (K:Ex→St→Option (Out ctx 159)) (x0:qd) (x1:Int) :
 LQ qc D n 159 [.r,.l,.r,.l] (m+1) (qjt x0 x1) K=qv8 D n (fun x0 x1=>LQ qc D n 159 [.r,.l,.r,.l] m (qjt x0 x1) K) (fun v0_0 v0_1=>K (Ex.ret) (qnu v0_0 v0_1)) (fun v1_0=>K (Ex.exit 0) (qnw v1_0)) x0 x1:=by kernel_rfl
theorem q3t (D:DX)(n:Nat) (K:Ex→St→Option (Out ctx 159)):∀ (m:Nat) (x0:qd) (x1:Int),LQ qc D n 159 [.r,.l,.r,.l] m (qjt x0 x1) K=qjz D n (fun v0_0 v0_1=>K (Ex.ret) (qnu v0_0 v0_1)) (fun v1_0=>K (Ex.exit 0) (qnw v1_0)) m x0 x1
 | 0,x0,x1=>qx ..
 | m+1,x0,x1=>by
  have ih:(fun x0 x1=>LQ qc D n 159 [.r,.l,.r,.l] m (qjt x0 x1) K)=qjz D n (fun v0_0 v0_1=>K (Ex.ret) (qnu v0_0 v0_1)) (fun v1_0=>K (Ex.exit 0) (qnw v1_0)) m:=by funext x0 x1;exact q3t D n K m x0 x1
  rw[qbef]
  rw[ih];rfl
theorem qbch (D:DX)(n:Nat) (v0_0:qd) (v0_1:Bool) :
 (CQ qc D n 159 [] [.r,.l,.r,.l] (qi qc 159)) (Ex.ret) (qnu v0_0 v0_1)=q1m D n v0_0 v0_1:=by kernel_rfl
theorem qbbt (D:DX)(n:Nat) (v1_0:qd) :
 (CQ qc D n 159 [] [.r,.l,.r,.l] (qi qc 159)) (Ex.exit 0) (qnw v1_0)=q1r D n v1_0:=by kernel_rfl
theorem qbca (D:DX)(n:Nat) (x0:qd) (x1:Int) :
 LQ qc D n 159 [.r,.l,.r,.l] n (qjt x0 x1) (CQ qc D n 159 [] [.r,.l,.r,.l] (qi qc 159))=qt6 D n x0 x1:=by
 rw[q3t]
 simp only[qbch,qbbt]
 rfl
theorem qbi0 (D:DX)(n:Nat) (a0:qd):rfC qc D n 159 (a0,())=qx6 D n a0:=by
 have h:rfC qc D n 159 (a0,())=qy3 D n (fun x0 x1=>LQ qc D n 159 [.r,.l,.r,.l] n (qjt x0 x1) (CQ qc D n 159 [] [.r,.l,.r,.l] (qi qc 159))) a0:=by kernel_rfl
 rw[h]
 simp only[qbca]
 rfl

def qo5 (D:DX)(n:Nat) (go:Int→Int→List Int→Option ((List Int×Unit)×Unit)) (K0:List Int→Option ((List Int×Unit)×Unit)) (x0:Int) (x1:Int) (x2:List Int):Option ((List Int×Unit)×Unit):=br (decide (x1≥0)) (br (decide (x1<0)) none (br (decide (List.length x2+1≤q9)) (go x0 (IntKind.wrap IntKind.i64 (x1 - 8)) (x2++[IntKind.wrap IntKind.u8 (IntKind.wrap IntKind.i64 (↑(BitVec.toNat (BitVec.and (BitVec.ofInt (IntKind.bits IntKind.i64) (Int.fdiv x0 (Int.pow 2 (if Int.toNat x1≤IntKind.bits IntKind.i64 then Int.toNat x1 else IntKind.bits IntKind.i64)))) (BitVec.ofInt (IntKind.bits IntKind.i64) 255))):Int))])) none)) (K0 x2)
def qgu (D:DX)(n:Nat) (K0:List Int→Option ((List Int×Unit)×Unit)):Nat→(Int)→(Int)→(List Int)→Option ((List Int×Unit)×Unit) | 0=>(fun x0 x1 x2=>none) | m+1=>(fun x0 x1 x2=>qo5 D n (qgu D n K0 m) K0 x0 x1 x2)
def q0b (D:DX)(n:Nat) (v0_0:List Int):Option ((List Int×Unit)×Unit):=some ((v0_0,()),())
def qte (D:DX)(n:Nat):(Int)→(Int)→(List Int)→Option ((List Int×Unit)×Unit):=(fun x0 x1 x2=>qgu D n (fun v0_0=>q0b D n v0_0) n x0 x1 x2)
def quk (D:DX)(n:Nat) (go:Int→Int×Int×ByteArray×Unit→List Int→Option ((List Int×Unit)×Unit)) (K0:List Int→Option ((List Int×Unit)×Unit)) (x1_0:Int) (x1_1:Int×Int×ByteArray×Unit) (x1_2:List Int):Option ((List Int×Unit)×Unit):=br (decide (x1_0<(↑(ByteArray.size (Prod.fst (Prod.snd (Prod.snd x1_1)))):Int))) (br (decide (0≤x1_0)&&decide (x1_0<(↑(ByteArray.size (Prod.fst (Prod.snd (Prod.snd x1_1)))):Int))) (br (decide (List.length x1_2+1≤q9)) (br (decide (0≤x1_0)&&decide (x1_0<(↑(ByteArray.size (Prod.fst (Prod.snd (Prod.snd x1_1)))):Int))) (br (decide ((↑(UInt8.toNat (Array.getD (ByteArray.data (Prod.fst (Prod.snd (Prod.snd x1_1)))) (Int.toNat x1_0) (UInt8.ofNat 0))):Int)=0)) (br (decide (List.length (x1_2++[(↑(UInt8.toNat (Array.getD (ByteArray.data (Prod.fst (Prod.snd (Prod.snd x1_1)))) (Int.toNat x1_0) (UInt8.ofNat 0))):Int)])+1≤q9)) (go (IntKind.wrap IntKind.i64 (x1_0+1)) x1_1 (x1_2++[(↑(UInt8.toNat (Array.getD (ByteArray.data (Prod.fst (Prod.snd (Prod.snd x1_1)))) (Int.toNat x1_0) (UInt8.ofNat 0))):Int)]++[255])) none) (go (IntKind.wrap IntKind.i64 (x1_0+1)) x1_1 (x1_2++[(↑(UInt8.toNat (Array.getD (ByteArray.data (Prod.fst (Prod.snd (Prod.snd x1_1)))) (Int.toNat x1_0) (UInt8.ofNat 0))):Int)]))) none) none) none) (K0 x1_2)
def qi6 (D:DX)(n:Nat) (K0:List Int→Option ((List Int×Unit)×Unit)):Nat→(Int)→tVal→(List Int)→Option ((List Int×Unit)×Unit) | 0=>(fun x1_0 x1_1 x1_2=>none) | m+1=>(fun x1_0 x1_1 x1_2=>quk D n (qi6 D n K0 m) K0 x1_0 x1_1 x1_2)
def qru (D:DX)(n:Nat) (v0_0:List Int):Option ((List Int×Unit)×Unit):=br (decide (List.length v0_0+2≤q9)) (some ((v0_0++[0,1],()),())) none
def qsy (D:DX)(n:Nat):(Int)→tVal→(List Int)→Option ((List Int×Unit)×Unit):=(fun x1_0 x1_1 x1_2=>qi6 D n (fun v0_0=>qru D n v0_0) n x1_0 x1_1 x1_2)
def qww (D:DX)(n:Nat) (lp0:Int→Int→List Int→Option ((List Int×Unit)×Unit)) (lp1:Int→Int×Int×ByteArray×Unit→List Int→Option ((List Int×Unit)×Unit)) (a0:Int×Int×ByteArray×Unit):Option ((List Int×Unit)×Unit):=br (decide (Prod.fst a0=1)) (some (([IntKind.wrap IntKind.u8 (IntKind.wrap IntKind.i64 (Prod.fst a0+1))]++[IntKind.wrap IntKind.u8 (Prod.fst (Prod.snd a0))],()),())) (br (decide (Prod.fst a0=2)) (lp0 (IntKind.wrap IntKind.i64 (Prod.fst (Prod.snd a0)+4611686018427387904)) 56 [IntKind.wrap IntKind.u8 (IntKind.wrap IntKind.i64 (Prod.fst a0+1))]) (br (decide (Prod.fst a0=3)) (lp1 0 a0 [IntKind.wrap IntKind.u8 (IntKind.wrap IntKind.i64 (Prod.fst a0+1))]) (some (([IntKind.wrap IntKind.u8 (IntKind.wrap IntKind.i64 (Prod.fst a0+1))],()),()))))
def qvz (D:DX)(n:Nat) (a0:Int×Int×ByteArray×Unit):Option ((List Int×Unit)×Unit):=qww D n (qte D n) (qsy D n) a0
def qim (x0:Int) (x1:Int) (x2:List Int):St:=stq 67 [(3,AV.brw 3 [] 0),(4,avI x0),(5,avI x1)] [(3,Root.mk (Ty.sl (Ty.int IntKind.u8)) (Mk.own 0 Mk.no) x2 false)] 
def qmh (v0_0:List Int):St:=stq 67 [(3,AV.brw 3 [] 0)] [(3,Root.mk (Ty.sl (Ty.int IntKind.u8)) (Mk.own 0 Mk.no) v0_0 false)] 
def qiw (x1_0:Int) (x1_1:Int×Int×ByteArray×Unit) (x1_2:List Int):St:=stq 67 [(1,AV.addr 1 []),(3,AV.brw 3 [] 0),(6,avI x1_0)] [(1,Root.mk yV Mk.no x1_1 true),(3,Root.mk (Ty.sl (Ty.int IntKind.u8)) (Mk.own 0 Mk.no) x1_2 false)] 
def qmc (v0_0:List Int):St:=stq 67 [(3,AV.brw 3 [] 0)] [(3,Root.mk (Ty.sl (Ty.int IntKind.u8)) (Mk.own 0 Mk.no) v0_0 false)] 
theorem qbbs (D:DX)(n:Nat) (m:Nat) (K:Ex→St→Option (Out ctx 160)) (x0:Int) (x1:Int) (x2:List Int) :
 LQ qc D n 160 [.r,.r,.l,.r,.l,.r,.r,.r,.l,.r,.r,.l] (m+1) (qim x0 x1 x2) K=qo5 D n (fun x0 x1 x2=>LQ qc D n 160 [.r,.r,.l,.r,.l,.r,.r,.r,.l,.r,.r,.l] m (qim x0 x1 x2) K) (fun v0_0=>K (Ex.exit 1) (qmh v0_0)) x0 x1 x2:=by kernel_rfl
theorem q1q (D:DX)(n:Nat) (K:Ex→St→Option (Out ctx 160)):∀ (m:Nat) (x0:Int) (x1:Int) (x2:List Int),LQ qc D n 160 [.r,.r,.l,.r,.l,.r,.r,.r,.l,.r,.r,.l] m (qim x0 x1 x2) K=qgu D n (fun v0_0=>K (Ex.exit 1) (qmh v0_0)) m x0 x1 x2
 | 0,x0,x1,x2=>qx ..
 | m+1,x0,x1,x2=>by
  have ih:(fun x0 x1 x2=>LQ qc D n 160 [.r,.r,.l,.r,.l,.r,.r,.r,.l,.r,.r,.l] m (qim x0 x1 x2) K)=qgu D n (fun v0_0=>K (Ex.exit 1) (qmh v0_0)) m:=by funext x0 x1 x2;exact q1q D n K m x0 x1 x2
  rw[qbbs]
  rw[ih];rfl
theorem q94 (D:DX)(n:Nat) (v0_0:List Int) :
 (CQ qc D n 160 [] [.r,.r,.l,.r,.l,.r,.r,.r,.l,.r,.r,.l] (qi qc 160)) (Ex.exit 1) (qmh v0_0)=q0b D n v0_0:=by kernel_rfl
theorem qbak (D:DX)(n:Nat) (x0:Int) (x1:Int) (x2:List Int) :
 LQ qc D n 160 [.r,.r,.l,.r,.l,.r,.r,.r,.l,.r,.r,.l] n (qim x0 x1 x2) (CQ qc D n 160 [] [.r,.r,.l,.r,.l,.r,.r,.r,.l,.r,.r,.l] (qi qc 160))=qte D n x0 x1 x2:=by
 rw[q1q]
 simp only[q94]
 rfl
theorem qbbu (D:DX)(n:Nat) (m:Nat) (K:Ex→St→Option (Out ctx 160)) (x1_0:Int) (x1_1:Int×Int×ByteArray×Unit) (x1_2:List Int) :
 LQ qc D n 160 [.r,.r,.l,.r,.l,.r,.r,.r,.r,.r,.l,.l,.r,.l] (m+1) (qiw x1_0 x1_1 x1_2) K=quk D n (fun x1_0 x1_1 x1_2=>LQ qc D n 160 [.r,.r,.l,.r,.l,.r,.r,.r,.r,.r,.l,.l,.r,.l] m (qiw x1_0 x1_1 x1_2) K) (fun v0_0=>K (Ex.exit 3) (qmc v0_0)) x1_0 x1_1 x1_2:=by kernel_rfl
theorem q1l (D:DX)(n:Nat) (K:Ex→St→Option (Out ctx 160)):∀ (m:Nat) (x1_0:Int) (x1_1:Int×Int×ByteArray×Unit) (x1_2:List Int),LQ qc D n 160 [.r,.r,.l,.r,.l,.r,.r,.r,.r,.r,.l,.l,.r,.l] m (qiw x1_0 x1_1 x1_2) K=qi6 D n (fun v0_0=>K (Ex.exit 3) (qmc v0_0)) m x1_0 x1_1 x1_2
 | 0,x1_0,x1_1,x1_2=>qx ..
 | m+1,x1_0,x1_1,x1_2=>by
  have ih:(fun x1_0 x1_1 x1_2=>LQ qc D n 160 [.r,.r,.l,.r,.l,.r,.r,.r,.r,.r,.l,.l,.r,.l] m (qiw x1_0 x1_1 x1_2) K)=qi6 D n (fun v0_0=>K (Ex.exit 3) (qmc v0_0)) m:=by funext x1_0 x1_1 x1_2;exact q1l D n K m x1_0 x1_1 x1_2
  rw[qbbu]
  rw[ih];rfl
theorem q9m (D:DX)(n:Nat) (v0_0:List Int) :
 (CQ qc D n 160 [] [.r,.r,.l,.r,.l,.r,.r,.r,.r,.r,.l,.l,.r,.l] (qi qc 160)) (Ex.exit 3) (qmc v0_0)=qru D n v0_0:=by kernel_rfl
theorem qbaw (D:DX)(n:Nat) (x1_0:Int) (x1_1:Int×Int×ByteArray×Unit) (x1_2:List Int) :
 LQ qc D n 160 [.r,.r,.l,.r,.l,.r,.r,.r,.r,.r,.l,.l,.r,.l] n (qiw x1_0 x1_1 x1_2) (CQ qc D n 160 [] [.r,.r,.l,.r,.l,.r,.r,.r,.r,.r,.l,.l,.r,.l] (qi qc 160))=qsy D n x1_0 x1_1 x1_2:=by
 rw[q1l]
 simp only[q9m]
 rfl
theorem qbg3 (D:DX)(n:Nat) (a0:Int×Int×ByteArray×Unit):rfC qc D n 160 (a0,())=qvz D n a0:=by
 have h:rfC qc D n 160 (a0,())=qww D n (fun x0 x1 x2=>LQ qc D n 160 [.r,.r,.l,.r,.l,.r,.r,.r,.l,.r,.r,.l] n (qim x0 x1 x2) (CQ qc D n 160 [] [.r,.r,.l,.r,.l,.r,.r,.r,.l,.r,.r,.l] (qi qc 160))) (fun x1_0 x1_1 x1_2=>LQ qc D n 160 [.r,.r,.l,.r,.l,.r,.r,.r,.r,.r,.l,.l,.r,.l] n (qiw x1_0 x1_1 x1_2) (CQ qc D n 160 [] [.r,.r,.l,.r,.l,.r,.r,.r,.r,.r,.l,.l,.r,.l] (qi qc 160))) a0:=by kernel_rfl
 rw[h]
 simp only[qbak,qbaw]
 rfl

def qmb (D:DX)(n:Nat) (go:Int→qd→Int→Int→List Int→Int×Int×ByteArray×Unit→Option ((List Int×Unit)×Unit)) (K0:qd→Int→Int→List Int→Option ((List Int×Unit)×Unit)) (x1_0:Int) (x1_1:qd) (x1_2:Int) (x1_3:Int) (x1_4:List Int) (x1_5:Int×Int×ByteArray×Unit):Option ((List Int×Unit)×Unit):=br (decide (x1_0≥0)) (br (decide (IntKind.wrap IntKind.i64 (8 * x1_0)<0)) none (br (decide (List.length x1_4+1≤q9)) (go (IntKind.wrap IntKind.i64 (x1_0 - 1)) x1_1 x1_2 x1_3 (x1_4++[IntKind.wrap IntKind.u8 (Int.fdiv (IntKind.wrap IntKind.i64 (Prod.fst (Prod.snd x1_5)+4611686018427387904)) (Int.pow 2 (if Int.toNat (IntKind.wrap IntKind.i64 (8 * x1_0))≤IntKind.bits IntKind.i64 then Int.toNat (IntKind.wrap IntKind.i64 (8 * x1_0)) else IntKind.bits IntKind.i64)))]) x1_5) none)) (K0 x1_1 x1_2 x1_3 x1_4)
def qfh (D:DX)(n:Nat) (K0:qd→Int→Int→List Int→Option ((List Int×Unit)×Unit)):Nat→(Int)→(qd)→(Int)→(Int)→(List Int)→tVal→Option ((List Int×Unit)×Unit) | 0=>(fun x1_0 x1_1 x1_2 x1_3 x1_4 x1_5=>none) | m+1=>(fun x1_0 x1_1 x1_2 x1_3 x1_4 x1_5=>qmb D n (qfh D n K0 m) K0 x1_0 x1_1 x1_2 x1_3 x1_4 x1_5)
def qpb (D:DX)(n:Nat) (go:qd→Int→Int→List Int→Option ((List Int×Unit)×Unit)) (K0:List Int→Option ((List Int×Unit)×Unit)) (v0_0:qd) (v0_1:Int) (v0_2:Int) (v0_3:List Int):Option ((List Int×Unit)×Unit):=go v0_0 v0_1 (IntKind.wrap IntKind.i64 (v0_2+1)) v0_3
def qqa (D:DX)(n:Nat) (go:qd→Int→Int→List Int→Option ((List Int×Unit)×Unit)) (K0:List Int→Option ((List Int×Unit)×Unit)):(Int)→(qd)→(Int)→(Int)→(List Int)→tVal→Option ((List Int×Unit)×Unit):=(fun x1_0 x1_1 x1_2 x1_3 x1_4 x1_5=>qfh D n (fun v0_0 v0_1 v0_2 v0_3=>qpb D n go K0 v0_0 v0_1 v0_2 v0_3) n x1_0 x1_1 x1_2 x1_3 x1_4 x1_5)
def qsd (D:DX)(n:Nat) (go:qd→Int→Int→Int→Int→List Int→Int×Int×ByteArray×Unit→Option ((List Int×Unit)×Unit)) (K0:qd→Int→Int→List Int→Option ((List Int×Unit)×Unit)) (x2_0:qd) (x2_1:Int) (x2_2:Int) (x2_3:Int) (x2_4:Int) (x2_5:List Int) (x2_6:Int×Int×ByteArray×Unit):Option ((List Int×Unit)×Unit):=br (decide (x2_4<x2_3)) (br (decide (0≤x2_4)&&decide (x2_4<(↑(ByteArray.size (Prod.fst (Prod.snd (Prod.snd x2_6)))):Int))) (br (decide (List.length x2_5+1≤q9)) (br (decide (0≤x2_4)&&decide (x2_4<(↑(ByteArray.size (Prod.fst (Prod.snd (Prod.snd x2_6)))):Int))) (br (decide ((↑(UInt8.toNat (Array.getD (ByteArray.data (Prod.fst (Prod.snd (Prod.snd x2_6)))) (Int.toNat x2_4) (UInt8.ofNat 0))):Int)=0)) (br (decide (List.length (x2_5++[(↑(UInt8.toNat (Array.getD (ByteArray.data (Prod.fst (Prod.snd (Prod.snd x2_6)))) (Int.toNat x2_4) (UInt8.ofNat 0))):Int)])+1≤q9)) (go x2_0 x2_1 x2_2 x2_3 (IntKind.wrap IntKind.i64 (x2_4+1)) (x2_5++[(↑(UInt8.toNat (Array.getD (ByteArray.data (Prod.fst (Prod.snd (Prod.snd x2_6)))) (Int.toNat x2_4) (UInt8.ofNat 0))):Int)]++[255]) x2_6) none) (go x2_0 x2_1 x2_2 x2_3 (IntKind.wrap IntKind.i64 (x2_4+1)) (x2_5++[(↑(UInt8.toNat (Array.getD (ByteArray.data (Prod.fst (Prod.snd (Prod.snd x2_6)))) (Int.toNat x2_4) (UInt8.ofNat 0))):Int)]) x2_6)) none) none) none) (K0 x2_0 x2_1 x2_2 x2_5)
def qg4 (D:DX)(n:Nat) (K0:qd→Int→Int→List Int→Option ((List Int×Unit)×Unit)):Nat→(qd)→(Int)→(Int)→(Int)→(Int)→(List Int)→tVal→Option ((List Int×Unit)×Unit) | 0=>(fun x2_0 x2_1 x2_2 x2_3 x2_4 x2_5 x2_6=>none) | m+1=>(fun x2_0 x2_1 x2_2 x2_3 x2_4 x2_5 x2_6=>qsd D n (qg4 D n K0 m) K0 x2_0 x2_1 x2_2 x2_3 x2_4 x2_5 x2_6)
def qoz (D:DX)(n:Nat) (go:qd→Int→Int→List Int→Option ((List Int×Unit)×Unit)) (K0:List Int→Option ((List Int×Unit)×Unit)) (v0_0:qd) (v0_1:Int) (v0_2:Int) (v0_3:List Int):Option ((List Int×Unit)×Unit):=br (decide (List.length v0_3+2≤q9)) (go v0_0 v0_1 (IntKind.wrap IntKind.i64 (v0_2+1)) (v0_3++[0,1])) none
def qp8 (D:DX)(n:Nat) (go:qd→Int→Int→List Int→Option ((List Int×Unit)×Unit)) (K0:List Int→Option ((List Int×Unit)×Unit)):(qd)→(Int)→(Int)→(Int)→(Int)→(List Int)→tVal→Option ((List Int×Unit)×Unit):=(fun x2_0 x2_1 x2_2 x2_3 x2_4 x2_5 x2_6=>qg4 D n (fun v0_0 v0_1 v0_2 v0_3=>qoz D n go K0 v0_0 v0_1 v0_2 v0_3) n x2_0 x2_1 x2_2 x2_3 x2_4 x2_5 x2_6)
def qr2 (D:DX)(n:Nat) (go:qd→Int→Int→List Int→Option ((List Int×Unit)×Unit)) (K0:List Int→Option ((List Int×Unit)×Unit)) (lp1:Int→qd→Int→Int→List Int→Int×Int×ByteArray×Unit→Option ((List Int×Unit)×Unit)) (lp2:qd→Int→Int→Int→Int→List Int→Int×Int×ByteArray×Unit→Option ((List Int×Unit)×Unit)) (x0:qd) (x1:Int) (x2:Int) (x3:List Int):Option ((List Int×Unit)×Unit):=br (decide (x2<x1)) (br (decide (0≤x2)&&decide (x2<(↑(List.length x0):Int))) (br (decide (List.length x3+1≤q9)) (br (decide (Prod.fst (List.getD x0 (Int.toNat x2) (0,0,ByteArray.empty,()))=1)) (br (decide (List.length (x3++[IntKind.wrap IntKind.u8 (IntKind.wrap IntKind.i64 (Prod.fst (List.getD x0 (Int.toNat x2) (0,0,ByteArray.empty,()))+1))])+1≤q9)) (go x0 x1 (IntKind.wrap IntKind.i64 (x2+1)) (x3++[IntKind.wrap IntKind.u8 (IntKind.wrap IntKind.i64 (Prod.fst (List.getD x0 (Int.toNat x2) (0,0,ByteArray.empty,()))+1))]++[IntKind.wrap IntKind.u8 (Prod.fst (Prod.snd (List.getD x0 (Int.toNat x2) (0,0,ByteArray.empty,()))))])) none) (br (decide (Prod.fst (List.getD x0 (Int.toNat x2) (0,0,ByteArray.empty,()))=2)) (lp1 7 x0 x1 x2 (x3++[IntKind.wrap IntKind.u8 (IntKind.wrap IntKind.i64 (Prod.fst (List.getD x0 (Int.toNat x2) (0,0,ByteArray.empty,()))+1))]) (List.getD x0 (Int.toNat x2) (0,0,ByteArray.empty,()))) (br (decide (Prod.fst (List.getD x0 (Int.toNat x2) (0,0,ByteArray.empty,()))=3)) (lp2 x0 x1 x2 (↑(ByteArray.size (Prod.fst (Prod.snd (Prod.snd (List.getD x0 (Int.toNat x2) (0,0,ByteArray.empty,())))))):Int) 0 (x3++[IntKind.wrap IntKind.u8 (IntKind.wrap IntKind.i64 (Prod.fst (List.getD x0 (Int.toNat x2) (0,0,ByteArray.empty,()))+1))]) (List.getD x0 (Int.toNat x2) (0,0,ByteArray.empty,()))) (go x0 x1 (IntKind.wrap IntKind.i64 (x2+1)) (x3++[IntKind.wrap IntKind.u8 (IntKind.wrap IntKind.i64 (Prod.fst (List.getD x0 (Int.toNat x2) (0,0,ByteArray.empty,()))+1))]))))) none) none) (K0 x3)
def qea (D:DX)(n:Nat) (K0:List Int→Option ((List Int×Unit)×Unit)):Nat→(qd)→(Int)→(Int)→(List Int)→Option ((List Int×Unit)×Unit) | 0=>(fun x0 x1 x2 x3=>none) | m+1=>(fun x0 x1 x2 x3=>qr2 D n (qea D n K0 m) K0 (qqa D n (qea D n K0 m) K0) (qp8 D n (qea D n K0 m) K0) x0 x1 x2 x3)
def qwd (D:DX)(n:Nat) (v0_0:List Int):Option ((List Int×Unit)×Unit):=some ((v0_0,()),())
def qqk (D:DX)(n:Nat):(qd)→(Int)→(Int)→(List Int)→Option ((List Int×Unit)×Unit):=(fun x0 x1 x2 x3=>qea D n (fun v0_0=>qwd D n v0_0) n x0 x1 x2 x3)
def qtl (D:DX)(n:Nat) (lp0:qd→Int→Int→List Int→Option ((List Int×Unit)×Unit)) (a0:qd):Option ((List Int×Unit)×Unit):=qh (qxn D a0) fun b↦br (!Prod.fst (Prod.fst b)) (some (([],()),())) (lp0 a0 (↑(List.length a0):Int) 0 [])
def qs7 (D:DX)(n:Nat) (a0:qd):Option ((List Int×Unit)×Unit):=qtl D n (qqk D n) a0
def qc5 (x0:qd) (x1:Int) (x2:Int) (x3:List Int):St:=stq 81 [(3,AV.brw 3 [] 0),(13,AV.val (Ty.sl yV) x0),(14,avI x1),(15,avI x2)] [(3,Root.mk (Ty.sl (Ty.int IntKind.u8)) (Mk.own 0 Mk.no) x3 false)] 
def qdn (v0_0:List Int):St:=stq 81 [(3,AV.brw 3 [] 0)] [(3,Root.mk (Ty.sl (Ty.int IntKind.u8)) (Mk.own 0 Mk.no) v0_0 false)] 
def qg5 (x1_0:Int) (x1_1:qd) (x1_2:Int) (x1_3:Int) (x1_4:List Int) (x1_5:Int×Int×ByteArray×Unit):St:=stq 81 [(3,AV.brw 3 [] 0),(5,AV.addr 5 []),(6,avI x1_0),(13,AV.val (Ty.sl yV) x1_1),(14,avI x1_2),(15,avI x1_3)] [(3,Root.mk (Ty.sl (Ty.int IntKind.u8)) (Mk.own 0 Mk.no) x1_4 false),(5,Root.mk yV Mk.no x1_5 true)] 
def qkc (v0_0:qd) (v0_1:Int) (v0_2:Int) (v0_3:List Int):St:=stq 81 [(3,AV.brw 3 [] 0),(13,AV.val (Ty.sl yV) v0_0),(14,avI v0_1),(15,avI v0_2)] [(3,Root.mk (Ty.sl (Ty.int IntKind.u8)) (Mk.own 0 Mk.no) v0_3 false)] 
def qg2 (x2_0:qd) (x2_1:Int) (x2_2:Int) (x2_3:Int) (x2_4:Int) (x2_5:List Int) (x2_6:Int×Int×ByteArray×Unit):St:=stq 81 [(3,AV.brw 3 [] 0),(5,AV.addr 5 []),(13,AV.val (Ty.sl yV) x2_0),(14,avI x2_1),(15,avI x2_2),(56,avI x2_3),(57,avI x2_4)] [(3,Root.mk (Ty.sl (Ty.int IntKind.u8)) (Mk.own 0 Mk.no) x2_5 false),(5,Root.mk yV Mk.no x2_6 true)] 
def qkg (v0_0:qd) (v0_1:Int) (v0_2:Int) (v0_3:List Int):St:=stq 81 [(3,AV.brw 3 [] 0),(13,AV.val (Ty.sl yV) v0_0),(14,avI v0_1),(15,avI v0_2)] [(3,Root.mk (Ty.sl (Ty.int IntKind.u8)) (Mk.own 0 Mk.no) v0_3 false)] 
theorem q83 (D:DX)(n:Nat) (m:Nat) (K:Ex→St→Option (Out ctx 161)) (x1_0:Int) (x1_1:qd) (x1_2:Int) (x1_3:Int) (x1_4:List Int) (x1_5:Int×Int×ByteArray×Unit) :
 LQ qc D n 161 [.r,.r,.r,.l,.r,.l,.l,.r,.r,.l,.l,.r,.r,.r,.l,.r,.r,.r,.l,.r,.l] (m+1) (qg5 x1_0 x1_1 x1_2 x1_3 x1_4 x1_5) K=qmb D n (fun x1_0 x1_1 x1_2 x1_3 x1_4 x1_5=>LQ qc D n 161 [.r,.r,.r,.l,.r,.l,.l,.r,.r,.l,.l,.r,.r,.r,.l,.r,.r,.r,.l,.r,.l] m (qg5 x1_0 x1_1 x1_2 x1_3 x1_4 x1_5) K) (fun v0_0 v0_1 v0_2 v0_3=>K (Ex.exit 3) (qkc v0_0 v0_1 v0_2 v0_3)) x1_0 x1_1 x1_2 x1_3 x1_4 x1_5:=by kernel_rfl
theorem qxc (D:DX)(n:Nat) (K:Ex→St→Option (Out ctx 161)):∀ (m:Nat) (x1_0:Int) (x1_1:qd) (x1_2:Int) (x1_3:Int) (x1_4:List Int) (x1_5:Int×Int×ByteArray×Unit),LQ qc D n 161 [.r,.r,.r,.l,.r,.l,.l,.r,.r,.l,.l,.r,.r,.r,.l,.r,.r,.r,.l,.r,.l] m (qg5 x1_0 x1_1 x1_2 x1_3 x1_4 x1_5) K=qfh D n (fun v0_0 v0_1 v0_2 v0_3=>K (Ex.exit 3) (qkc v0_0 v0_1 v0_2 v0_3)) m x1_0 x1_1 x1_2 x1_3 x1_4 x1_5
 | 0,x1_0,x1_1,x1_2,x1_3,x1_4,x1_5=>qx ..
 | m+1,x1_0,x1_1,x1_2,x1_3,x1_4,x1_5=>by
  have ih:(fun x1_0 x1_1 x1_2 x1_3 x1_4 x1_5=>LQ qc D n 161 [.r,.r,.r,.l,.r,.l,.l,.r,.r,.l,.l,.r,.r,.r,.l,.r,.r,.r,.l,.r,.l] m (qg5 x1_0 x1_1 x1_2 x1_3 x1_4 x1_5) K)=qfh D n (fun v0_0 v0_1 v0_2 v0_3=>K (Ex.exit 3) (qkc v0_0 v0_1 v0_2 v0_3)) m:=by funext x1_0 x1_1 x1_2 x1_3 x1_4 x1_5;exact qxc D n K m x1_0 x1_1 x1_2 x1_3 x1_4 x1_5
  rw[q83]
  rw[ih];rfl
theorem q7z (D:DX)(n:Nat) (m:Nat) (K:Ex→St→Option (Out ctx 161)) (v0_0:qd) (v0_1:Int) (v0_2:Int) (v0_3:List Int) :
 (CQ qc D n 161 [.r,.r,.r,.l,.r,.l,.l] [.r,.r,.l,.l,.r,.r,.r,.l,.r,.r,.r,.l,.r,.l] (LK qc D n 161 [.r,.r,.r,.l,.r,.l] m K)) (Ex.exit 3) (qkc v0_0 v0_1 v0_2 v0_3)=qpb D n (fun x0 x1 x2 x3=>LQ qc D n 161 [.r,.r,.r,.l,.r,.l] m (qc5 x0 x1 x2 x3) K) (fun v0_0=>K (Ex.exit 0) (qdn v0_0)) v0_0 v0_1 v0_2 v0_3:=by kernel_rfl
theorem q7t (D:DX)(n:Nat) (m:Nat) (K:Ex→St→Option (Out ctx 161)) (x1_0:Int) (x1_1:qd) (x1_2:Int) (x1_3:Int) (x1_4:List Int) (x1_5:Int×Int×ByteArray×Unit) :
 LQ qc D n 161 [.r,.r,.r,.l,.r,.l,.l,.r,.r,.l,.l,.r,.r,.r,.l,.r,.r,.r,.l,.r,.l] n (qg5 x1_0 x1_1 x1_2 x1_3 x1_4 x1_5) (CQ qc D n 161 [.r,.r,.r,.l,.r,.l,.l] [.r,.r,.l,.l,.r,.r,.r,.l,.r,.r,.r,.l,.r,.l] (LK qc D n 161 [.r,.r,.r,.l,.r,.l] m K))=qqa D n (fun x0 x1 x2 x3=>LQ qc D n 161 [.r,.r,.r,.l,.r,.l] m (qc5 x0 x1 x2 x3) K) (fun v0_0=>K (Ex.exit 0) (qdn v0_0)) x1_0 x1_1 x1_2 x1_3 x1_4 x1_5:=by
 rw[qxc]
 simp only[q7z]
 rfl
theorem q8v (D:DX)(n:Nat) (m:Nat) (K:Ex→St→Option (Out ctx 161)) (x2_0:qd) (x2_1:Int) (x2_2:Int) (x2_3:Int) (x2_4:Int) (x2_5:List Int) (x2_6:Int×Int×ByteArray×Unit) :
 LQ qc D n 161 [.r,.r,.r,.l,.r,.l,.l,.r,.r,.l,.l,.r,.r,.r,.l,.r,.r,.r,.r,.r,.l,.l,.r,.l] (m+1) (qg2 x2_0 x2_1 x2_2 x2_3 x2_4 x2_5 x2_6) K=qsd D n (fun x2_0 x2_1 x2_2 x2_3 x2_4 x2_5 x2_6=>LQ qc D n 161 [.r,.r,.r,.l,.r,.l,.l,.r,.r,.l,.l,.r,.r,.r,.l,.r,.r,.r,.r,.r,.l,.l,.r,.l] m (qg2 x2_0 x2_1 x2_2 x2_3 x2_4 x2_5 x2_6) K) (fun v0_0 v0_1 v0_2 v0_3=>K (Ex.exit 5) (qkg v0_0 v0_1 v0_2 v0_3)) x2_0 x2_1 x2_2 x2_3 x2_4 x2_5 x2_6:=by kernel_rfl
theorem qw9 (D:DX)(n:Nat) (K:Ex→St→Option (Out ctx 161)):∀ (m:Nat) (x2_0:qd) (x2_1:Int) (x2_2:Int) (x2_3:Int) (x2_4:Int) (x2_5:List Int) (x2_6:Int×Int×ByteArray×Unit),LQ qc D n 161 [.r,.r,.r,.l,.r,.l,.l,.r,.r,.l,.l,.r,.r,.r,.l,.r,.r,.r,.r,.r,.l,.l,.r,.l] m (qg2 x2_0 x2_1 x2_2 x2_3 x2_4 x2_5 x2_6) K=qg4 D n (fun v0_0 v0_1 v0_2 v0_3=>K (Ex.exit 5) (qkg v0_0 v0_1 v0_2 v0_3)) m x2_0 x2_1 x2_2 x2_3 x2_4 x2_5 x2_6
 | 0,x2_0,x2_1,x2_2,x2_3,x2_4,x2_5,x2_6=>qx ..
 | m+1,x2_0,x2_1,x2_2,x2_3,x2_4,x2_5,x2_6=>by
  have ih:(fun x2_0 x2_1 x2_2 x2_3 x2_4 x2_5 x2_6=>LQ qc D n 161 [.r,.r,.r,.l,.r,.l,.l,.r,.r,.l,.l,.r,.r,.r,.l,.r,.r,.r,.r,.r,.l,.l,.r,.l] m (qg2 x2_0 x2_1 x2_2 x2_3 x2_4 x2_5 x2_6) K)=qg4 D n (fun v0_0 v0_1 v0_2 v0_3=>K (Ex.exit 5) (qkg v0_0 v0_1 v0_2 v0_3)) m:=by funext x2_0 x2_1 x2_2 x2_3 x2_4 x2_5 x2_6;exact qw9 D n K m x2_0 x2_1 x2_2 x2_3 x2_4 x2_5 x2_6
  rw[q8v]
  rw[ih];rfl
theorem q67 (D:DX)(n:Nat) (m:Nat) (K:Ex→St→Option (Out ctx 161)) (v0_0:qd) (v0_1:Int) (v0_2:Int) (v0_3:List Int) :
 (CQ qc D n 161 [.r,.r,.r,.l,.r,.l,.l] [.r,.r,.l,.l,.r,.r,.r,.l,.r,.r,.r,.r,.r,.l,.l,.r,.l] (LK qc D n 161 [.r,.r,.r,.l,.r,.l] m K)) (Ex.exit 5) (qkg v0_0 v0_1 v0_2 v0_3)=qoz D n (fun x0 x1 x2 x3=>LQ qc D n 161 [.r,.r,.r,.l,.r,.l] m (qc5 x0 x1 x2 x3) K) (fun v0_0=>K (Ex.exit 0) (qdn v0_0)) v0_0 v0_1 v0_2 v0_3:=by kernel_rfl
theorem q7g (D:DX)(n:Nat) (m:Nat) (K:Ex→St→Option (Out ctx 161)) (x2_0:qd) (x2_1:Int) (x2_2:Int) (x2_3:Int) (x2_4:Int) (x2_5:List Int) (x2_6:Int×Int×ByteArray×Unit) :
 LQ qc D n 161 [.r,.r,.r,.l,.r,.l,.l,.r,.r,.l,.l,.r,.r,.r,.l,.r,.r,.r,.r,.r,.l,.l,.r,.l] n (qg2 x2_0 x2_1 x2_2 x2_3 x2_4 x2_5 x2_6) (CQ qc D n 161 [.r,.r,.r,.l,.r,.l,.l] [.r,.r,.l,.l,.r,.r,.r,.l,.r,.r,.r,.r,.r,.l,.l,.r,.l] (LK qc D n 161 [.r,.r,.r,.l,.r,.l] m K))=qp8 D n (fun x0 x1 x2 x3=>LQ qc D n 161 [.r,.r,.r,.l,.r,.l] m (qc5 x0 x1 x2 x3) K) (fun v0_0=>K (Ex.exit 0) (qdn v0_0)) x2_0 x2_1 x2_2 x2_3 x2_4 x2_5 x2_6:=by
 rw[qw9]
 simp only[q67]
 rfl
theorem q8u (D:DX)(n:Nat) (m:Nat) (K:Ex→St→Option (Out ctx 161)) (x0:qd) (x1:Int) (x2:Int) (x3:List Int) :
 LQ qc D n 161 [.r,.r,.r,.l,.r,.l] (m+1) (qc5 x0 x1 x2 x3) K=qr2 D n (fun x0 x1 x2 x3=>LQ qc D n 161 [.r,.r,.r,.l,.r,.l] m (qc5 x0 x1 x2 x3) K) (fun v0_0=>K (Ex.exit 0) (qdn v0_0)) (fun x1_0 x1_1 x1_2 x1_3 x1_4 x1_5=>LQ qc D n 161 [.r,.r,.r,.l,.r,.l,.l,.r,.r,.l,.l,.r,.r,.r,.l,.r,.r,.r,.l,.r,.l] n (qg5 x1_0 x1_1 x1_2 x1_3 x1_4 x1_5) (CQ qc D n 161 [.r,.r,.r,.l,.r,.l,.l] [.r,.r,.l,.l,.r,.r,.r,.l,.r,.r,.r,.l,.r,.l] (LK qc D n 161 [.r,.r,.r,.l,.r,.l] m K))) (fun x2_0 x2_1 x2_2 x2_3 x2_4 x2_5 x2_6=>LQ qc D n 161 [.r,.r,.r,.l,.r,.l,.l,.r,.r,.l,.l,.r,.r,.r,.l,.r,.r,.r,.r,.r,.l,.l,.r,.l] n (qg2 x2_0 x2_1 x2_2 x2_3 x2_4 x2_5 x2_6) (CQ qc D n 161 [.r,.r,.r,.l,.r,.l,.l] [.r,.r,.l,.l,.r,.r,.r,.l,.r,.r,.r,.r,.r,.l,.l,.r,.l] (LK qc D n 161 [.r,.r,.r,.l,.r,.l] m K))) x0 x1 x2 x3:=by kernel_rfl
theorem qxb (D:DX)(n:Nat) (K:Ex→St→Option (Out ctx 161)):∀ (m:Nat) (x0:qd) (x1:Int) (x2:Int) (x3:List Int),LQ qc D n 161 [.r,.r,.r,.l,.r,.l] m (qc5 x0 x1 x2 x3) K=qea D n (fun v0_0=>K (Ex.exit 0) (qdn v0_0)) m x0 x1 x2 x3
 | 0,x0,x1,x2,x3=>qx ..
 | m+1,x0,x1,x2,x3=>by
  have ih:(fun x0 x1 x2 x3=>LQ qc D n 161 [.r,.r,.r,.l,.r,.l] m (qc5 x0 x1 x2 x3) K)=qea D n (fun v0_0=>K (Ex.exit 0) (qdn v0_0)) m:=by funext x0 x1 x2 x3;exact qxb D n K m x0 x1 x2 x3
  rw[q8u]
  simp only[q7t,q7g]
  rw[ih];rfl
theorem q7b (D:DX)(n:Nat) (v0_0:List Int) :
 (CQ qc D n 161 [] [.r,.r,.r,.l,.r,.l] (qi qc 161)) (Ex.exit 0) (qdn v0_0)=qwd D n v0_0:=by kernel_rfl
theorem q7r (D:DX)(n:Nat) (x0:qd) (x1:Int) (x2:Int) (x3:List Int) :
 LQ qc D n 161 [.r,.r,.r,.l,.r,.l] n (qc5 x0 x1 x2 x3) (CQ qc D n 161 [] [.r,.r,.r,.l,.r,.l] (qi qc 161))=qqk D n x0 x1 x2 x3:=by
 rw[qxb]
 simp only[q7b]
 rfl
theorem qbbm (D:DX)(n:Nat) (a0:qd):rfC qc D n 161 (a0,())=qs7 D n a0:=by
 have h:rfC qc D n 161 (a0,())=qtl D n (fun x0 x1 x2 x3=>LQ qc D n 161 [.r,.r,.r,.l,.r,.l] n (qc5 x0 x1 x2 x3) (CQ qc D n 161 [] [.r,.r,.r,.l,.r,.l] (qi qc 161))) a0:=by kernel_rfl
 rw[h]
 simp only[q7r]
 rfl

def q2y (D:DX)(n:Nat) (a0:Int×Int×ByteArray×Unit) (a1:Int×Int×ByteArray×Unit):Option ((Bool×Unit)×Unit):=some ((qkl (Ty.pair (Ty.int IntKind.i64) (Ty.pair (Ty.int IntKind.i64) (Ty.pair Ty.str Ty.unit))) a0 a1,()),())
def qt5 (D:DX)(n:Nat) (a0:Int×Int×ByteArray×Unit) (a1:Int×Int×ByteArray×Unit):Option ((Bool×Unit)×Unit):=q2y D n a0 a1
theorem qbd1 (D:DX)(n:Nat) (a0:Int×Int×ByteArray×Unit) (a1:Int×Int×ByteArray×Unit):rfC qc D n 162 (a0,(a1,()))=qt5 D n a0 a1:=by kernel_rfl

def q3b (D:DX)(n:Nat) (a0:Int×Int×ByteArray×Unit) (a1:Int×Int×ByteArray×Unit):Option ((Bool×Unit)×Unit):=br (Prod.fst a0 != Prod.fst a1) (some ((decide (Prod.fst a0<Prod.fst a1),()),())) (br (Prod.fst (Prod.snd a0) != Prod.fst (Prod.snd a1)) (some ((decide (Prod.fst (Prod.snd a0)<Prod.fst (Prod.snd a1)),()),())) (some ((Op.bytesLess (ByteArray.toList (Prod.fst (Prod.snd (Prod.snd a0)))) (ByteArray.toList (Prod.fst (Prod.snd (Prod.snd a1)))),()),())))
def qu1 (D:DX)(n:Nat) (a0:Int×Int×ByteArray×Unit) (a1:Int×Int×ByteArray×Unit):Option ((Bool×Unit)×Unit):=q3b D n a0 a1
theorem qbdp (D:DX)(n:Nat) (a0:Int×Int×ByteArray×Unit) (a1:Int×Int×ByteArray×Unit):rfC qc D n 163 (a0,(a1,()))=qu1 D n a0 a1:=by kernel_rfl

def qwv (D:DX)(n:Nat) (go:qd→qd→Int→Option ((Bool×Unit)×Unit)) (K0:qd→qd→Bool→Option ((Bool×Unit)×Unit)) (K1:qd→qd→Option ((Bool×Unit)×Unit)) (x0:qd) (x1:qd) (x2:Int):Option ((Bool×Unit)×Unit):=br (bif decide (x2<(↑(List.length x0):Int)) then decide (x2<(↑(List.length x1):Int)) else false) (br (decide (0≤x2)&&decide (x2<(↑(List.length x0):Int))) (br (decide (0≤x2)&&decide (x2<(↑(List.length x1):Int))) (qh (qo1 D (List.getD x0 (Int.toNat x2) (0,0,ByteArray.empty,())) (List.getD x1 (Int.toNat x2) (0,0,ByteArray.empty,()))) fun b↦br (!Prod.fst (Prod.fst b)) (K0 x0 x1 false) (go x0 x1 (IntKind.wrap IntKind.i64 (x2+1)))) none) none) (K1 x0 x1)
def qj2 (D:DX)(n:Nat) (K0:qd→qd→Bool→Option ((Bool×Unit)×Unit)) (K1:qd→qd→Option ((Bool×Unit)×Unit)):Nat→(qd)→(qd)→(Int)→Option ((Bool×Unit)×Unit) | 0=>(fun x0 x1 x2=>none) | m+1=>(fun x0 x1 x2=>qwv D n (qj2 D n K0 K1 m) K0 K1 x0 x1 x2)
def qtk (D:DX)(n:Nat) (v0_0:qd) (v0_1:qd) (v0_2:Bool):Option ((Bool×Unit)×Unit):=some ((v0_2,()),())
def qka (D:DX)(n:Nat) (v1_0:qd) (v1_1:qd):Option ((Bool×Unit)×Unit):=some ((decide ((↑(List.length v1_0):Int)=(↑(List.length v1_1):Int)),()),())
def qup (D:DX)(n:Nat):(qd)→(qd)→(Int)→Option ((Bool×Unit)×Unit):=(fun x0 x1 x2=>qj2 D n (fun v0_0 v0_1 v0_2=>qtk D n v0_0 v0_1 v0_2) (fun v1_0 v1_1=>qka D n v1_0 v1_1) n x0 x1 x2)
def qx3 (D:DX)(n:Nat) (lp0:qd→qd→Int→Option ((Bool×Unit)×Unit)) (a0:qd) (a1:qd):Option ((Bool×Unit)×Unit):=lp0 a0 a1 0
def qx9 (D:DX)(n:Nat) (a0:qd) (a1:qd):Option ((Bool×Unit)×Unit):=qx3 D n (qup D n) a0 a1
def qjl (x0:qd) (x1:qd) (x2:Int):St:=stq 33 [(0,AV.val (Ty.sl yV) x0),(1,AV.val (Ty.sl yV) x1),(5,avI x2)] [] 
def qnv (v0_0:qd) (v0_1:qd) (v0_2:Bool):St:=stq 33 [(0,AV.val (Ty.sl yV) v0_0),(1,AV.val (Ty.sl yV) v0_1),(4,AV.val Ty.bool v0_2)] [] 
def qny (v1_0:qd) (v1_1:qd):St:=stq 33 [(0,AV.val (Ty.sl yV) v1_0),(1,AV.val (Ty.sl yV) v1_1)] [] 
theorem qbd7 (D:DX)(n:Nat) (m:Nat) (K:Ex→St→Option (Out ctx 164)) (x0:qd) (x1:qd) (x2:Int) :
 LQ qc D n 164 [.r,.l,.r,.l] (m+1) (qjl x0 x1 x2) K=qwv D n (fun x0 x1 x2=>LQ qc D n 164 [.r,.l,.r,.l] m (qjl x0 x1 x2) K) (fun v0_0 v0_1 v0_2=>K (Ex.ret) (qnv v0_0 v0_1 v0_2)) (fun v1_0 v1_1=>K (Ex.exit 0) (qny v1_0 v1_1)) x0 x1 x2:=by kernel_rfl
theorem q22 (D:DX)(n:Nat) (K:Ex→St→Option (Out ctx 164)):∀ (m:Nat) (x0:qd) (x1:qd) (x2:Int),LQ qc D n 164 [.r,.l,.r,.l] m (qjl x0 x1 x2) K=qj2 D n (fun v0_0 v0_1 v0_2=>K (Ex.ret) (qnv v0_0 v0_1 v0_2)) (fun v1_0 v1_1=>K (Ex.exit 0) (qny v1_0 v1_1)) m x0 x1 x2
 | 0,x0,x1,x2=>qx ..
 | m+1,x0,x1,x2=>by
  have ih:(fun x0 x1 x2=>LQ qc D n 164 [.r,.l,.r,.l] m (qjl x0 x1 x2) K)=qj2 D n (fun v0_0 v0_1 v0_2=>K (Ex.ret) (qnv v0_0 v0_1 v0_2)) (fun v1_0 v1_1=>K (Ex.exit 0) (qny v1_0 v1_1)) m:=by funext x0 x1 x2;exact q22 D n K m x0 x1 x2
  rw[qbd7]
  rw[ih];rfl
theorem qbcl (D:DX)(n:Nat) (v0_0:qd) (v0_1:qd) (v0_2:Bool) :
 (CQ qc D n 164 [] [.r,.l,.r,.l] (qi qc 164)) (Ex.ret) (qnv v0_0 v0_1 v0_2)=qtk D n v0_0 v0_1 v0_2:=by kernel_rfl
theorem qbb5 (D:DX)(n:Nat) (v1_0:qd) (v1_1:qd) :
 (CQ qc D n 164 [] [.r,.l,.r,.l] (qi qc 164)) (Ex.exit 0) (qny v1_0 v1_1)=qka D n v1_0 v1_1:=by kernel_rfl
theorem qbb8 (D:DX)(n:Nat) (x0:qd) (x1:qd) (x2:Int) :
 LQ qc D n 164 [.r,.l,.r,.l] n (qjl x0 x1 x2) (CQ qc D n 164 [] [.r,.l,.r,.l] (qi qc 164))=qup D n x0 x1 x2:=by
 rw[q22]
 simp only[qbcl,qbb5]
 rfl
theorem qbiy (D:DX)(n:Nat) (a0:qd) (a1:qd):rfC qc D n 164 (a0,(a1,()))=qx9 D n a0 a1:=by
 have h:rfC qc D n 164 (a0,(a1,()))=qx3 D n (fun x0 x1 x2=>LQ qc D n 164 [.r,.l,.r,.l] n (qjl x0 x1 x2) (CQ qc D n 164 [] [.r,.l,.r,.l] (qi qc 164))) a0 a1:=by kernel_rfl
 rw[h]
 simp only[qbb8]
 rfl

def qvo (D:DX)(n:Nat) (go:qd→Int→Option ((Bool×Unit)×Unit)) (K0:Bool→Option ((Bool×Unit)×Unit)) (K1:Option ((Bool×Unit)×Unit)) (x0:qd) (x1:Int):Option ((Bool×Unit)×Unit):=br (decide (x1<(↑(List.length x0):Int))) (br (decide (0≤x1)&&decide (x1<(↑(List.length x0):Int))) (br (decide (Prod.fst (List.getD x0 (Int.toNat x1) (0,0,ByteArray.empty,()))=0)) (K0 true) (go x0 (IntKind.wrap IntKind.i64 (x1+1)))) none) K1
def qjn (D:DX)(n:Nat) (K0:Bool→Option ((Bool×Unit)×Unit)) (K1:Option ((Bool×Unit)×Unit)):Nat→(qd)→(Int)→Option ((Bool×Unit)×Unit) | 0=>(fun x0 x1=>none) | m+1=>(fun x0 x1=>qvo D n (qjn D n K0 K1 m) K0 K1 x0 x1)
def q1u (D:DX)(n:Nat) (v0_0:Bool):Option ((Bool×Unit)×Unit):=some ((v0_0,()),())
def q1y (D:DX)(n:Nat):Option ((Bool×Unit)×Unit):=some ((false,()),())
def qu5 (D:DX)(n:Nat):(qd)→(Int)→Option ((Bool×Unit)×Unit):=(fun x0 x1=>qjn D n (fun v0_0=>q1u D n v0_0) (q1y D n) n x0 x1)
def qzd (D:DX)(n:Nat) (lp0:qd→Int→Option ((Bool×Unit)×Unit)) (a0:qd):Option ((Bool×Unit)×Unit):=lp0 a0 0
def qy4 (D:DX)(n:Nat) (a0:qd):Option ((Bool×Unit)×Unit):=qzd D n (qu5 D n) a0
def qjm (x0:qd) (x1:Int):St:=stq 16 [(0,AV.val (Ty.sl yV) x0),(3,avI x1)] [] 
def qns (v0_0:Bool):St:=stq 16 [(2,AV.val Ty.bool v0_0)] [] 
def qnz:St:=stq 16 [] [] 
theorem qbdv (D:DX)(n:Nat) (m:Nat) (K:Ex→St→Option (Out ctx 165)) (x0:qd) (x1:Int) :
 LQ qc D n 165 [.r,.l,.r,.l] (m+1) (qjm x0 x1) K=qvo D n (fun x0 x1=>LQ qc D n 165 [.r,.l,.r,.l] m (qjm x0 x1) K) (fun v0_0=>K (Ex.ret) (qns v0_0)) (K (Ex.exit 0) (qnz)) x0 x1:=by kernel_rfl
theorem q25 (D:DX)(n:Nat) (K:Ex→St→Option (Out ctx 165)):∀ (m:Nat) (x0:qd) (x1:Int),LQ qc D n 165 [.r,.l,.r,.l] m (qjm x0 x1) K=qjn D n (fun v0_0=>K (Ex.ret) (qns v0_0)) (K (Ex.exit 0) (qnz)) m x0 x1
 | 0,x0,x1=>qx ..
 | m+1,x0,x1=>by
  have ih:(fun x0 x1=>LQ qc D n 165 [.r,.l,.r,.l] m (qjm x0 x1) K)=qjn D n (fun v0_0=>K (Ex.ret) (qns v0_0)) (K (Ex.exit 0) (qnz)) m:=by funext x0 x1;exact q25 D n K m x0 x1
  rw[qbdv]
  rw[ih];rfl
theorem qbb1 (D:DX)(n:Nat) (v0_0:Bool) :
 (CQ qc D n 165 [] [.r,.l,.r,.l] (qi qc 165)) (Ex.ret) (qns v0_0)=q1u D n v0_0:=by kernel_rfl
theorem qbb4 (D:DX)(n:Nat) :
 (CQ qc D n 165 [] [.r,.l,.r,.l] (qi qc 165)) (Ex.exit 0) (qnz)=q1y D n:=by kernel_rfl
theorem qbbo (D:DX)(n:Nat) (x0:qd) (x1:Int) :
 LQ qc D n 165 [.r,.l,.r,.l] n (qjm x0 x1) (CQ qc D n 165 [] [.r,.l,.r,.l] (qi qc 165))=qu5 D n x0 x1:=by
 rw[q25]
 simp only[qbb1,qbb4]
 rfl
theorem qbhp (D:DX)(n:Nat) (a0:qd):rfC qc D n 165 (a0,())=qy4 D n a0:=by
 have h:rfC qc D n 165 (a0,())=qzd D n (fun x0 x1=>LQ qc D n 165 [.r,.l,.r,.l] n (qjm x0 x1) (CQ qc D n 165 [] [.r,.l,.r,.l] (qi qc 165))) a0:=by kernel_rfl
 rw[h]
 simp only[qbbo]
 rfl

def qb2 (D:DX)(n:Nat) (a2:Clo) (go:qd→qd→qd→Int→Int→Option ((Int×Unit)×Unit)) (K0:qd→qd→Int→Option ((Int×Unit)×Unit)) (K1:qd→qd→Option ((Int×Unit)×Unit)) (x0:qd) (x1:qd) (x2:qd) (x3:Int) (x4:Int):Option ((Int×Unit)×Unit):=br (decide (x4<x3)) (br (decide (0≤x4)&&decide (x4<(↑(List.length x2):Int))) (br (decide (x4≥(↑(List.length x1):Int))) (K0 x0 x1 1) (br (decide (0≤x4)&&decide (x4<(↑(List.length x1):Int))) (qh (qbp ctx D a2 [CapV.val (Ty.pair (Ty.int IntKind.i64) (Ty.pair (Ty.int IntKind.i64) (Ty.pair Ty.str Ty.unit))) (List.getD x2 (Int.toNat x4) (0,0,ByteArray.empty,())),CapV.val (Ty.pair (Ty.int IntKind.i64) (Ty.pair (Ty.int IntKind.i64) (Ty.pair Ty.str Ty.unit))) (List.getD x1 (Int.toNat x4) (0,0,ByteArray.empty,()))] (Ty.int IntKind.i64)) fun b↦br (b != 0) (K0 x0 x1 b) (go x0 x1 x2 x3 (IntKind.wrap IntKind.i64 (x4+1)))) none)) none) (K1 x0 x1)
def qu (D:DX)(n:Nat) (a2:Clo) (K0:qd→qd→Int→Option ((Int×Unit)×Unit)) (K1:qd→qd→Option ((Int×Unit)×Unit)):Nat→(qd)→(qd)→(qd)→(Int)→(Int)→Option ((Int×Unit)×Unit) | 0=>(fun x0 x1 x2 x3 x4=>none) | m+1=>(fun x0 x1 x2 x3 x4=>qb2 D n a2 (qu D n a2 K0 K1 m) K0 K1 x0 x1 x2 x3 x4)
def qby (D:DX)(n:Nat) (a2:Clo) (v0_0:qd) (v0_1:qd) (v0_2:Int):Option ((Int×Unit)×Unit):=some ((v0_2,()),())
def qbg (D:DX)(n:Nat) (a2:Clo) (v1_0:qd) (v1_1:qd):Option ((Int×Unit)×Unit):=br (decide ((↑(List.length v1_0):Int)<(↑(List.length v1_1):Int))) (some ((-1,()),())) (some ((0,()),()))
def qb1 (D:DX)(n:Nat) (a2:Clo):(qd)→(qd)→(qd)→(Int)→(Int)→Option ((Int×Unit)×Unit):=(fun x0 x1 x2 x3 x4=>qu D n a2 (fun v0_0 v0_1 v0_2=>qby D n a2 v0_0 v0_1 v0_2) (fun v1_0 v1_1=>qbg D n a2 v1_0 v1_1) n x0 x1 x2 x3 x4)
def qcd (D:DX)(n:Nat) (a2:Clo) (lp0:qd→qd→qd→Int→Int→Option ((Int×Unit)×Unit)) (a0:qd) (a1:qd):Option ((Int×Unit)×Unit):=lp0 a0 a1 a0 (↑(List.length a0):Int) 0
def qce (D:DX)(n:Nat) (a0:qd) (a1:qd) (a2:Clo):Option ((Int×Unit)×Unit):=qcd D n a2 (qb1 D n a2) a0 a1
def qv (a2:Clo) (x0:qd) (x1:qd) (x2:qd) (x3:Int) (x4:Int):St:=stq 39 [(0,AV.val (Ty.sl yV) x0),(1,AV.val (Ty.sl yV) x1),(2,AV.cloV a2),(11,AV.val (Ty.sl yV) x2),(12,avI x3),(13,avI x4)] [] 
def qbe (a2:Clo) (v0_0:qd) (v0_1:qd) (v0_2:Int):St:=stq 39 [(0,AV.val (Ty.sl yV) v0_0),(1,AV.val (Ty.sl yV) v0_1),(6,avI v0_2)] [] 
def qbf (a2:Clo) (v1_0:qd) (v1_1:qd):St:=stq 39 [(0,AV.val (Ty.sl yV) v1_0),(1,AV.val (Ty.sl yV) v1_1)] [] 
theorem qgh (D:DX)(n:Nat) (a2:Clo) (m:Nat) (K:Ex→St→Option (Out ctx 166)) (x0:qd) (x1:qd) (x2:qd) (x3:Int) (x4:Int) :
 LQ qc D n 166 [.r,.l,.r,.l] (m+1) (qv a2 x0 x1 x2 x3 x4) K=qb2 D n a2 (fun x0 x1 x2 x3 x4=>LQ qc D n 166 [.r,.l,.r,.l] m (qv a2 x0 x1 x2 x3 x4) K) (fun v0_0 v0_1 v0_2=>K (Ex.ret) (qbe a2 v0_0 v0_1 v0_2)) (fun v1_0 v1_1=>K (Ex.exit 0) (qbf a2 v1_0 v1_1)) x0 x1 x2 x3 x4:=by kernel_rfl
theorem qc6 (D:DX)(n:Nat) (a2:Clo) (K:Ex→St→Option (Out ctx 166)):∀ (m:Nat) (x0:qd) (x1:qd) (x2:qd) (x3:Int) (x4:Int),LQ qc D n 166 [.r,.l,.r,.l] m (qv a2 x0 x1 x2 x3 x4) K=qu D n a2 (fun v0_0 v0_1 v0_2=>K (Ex.ret) (qbe a2 v0_0 v0_1 v0_2)) (fun v1_0 v1_1=>K (Ex.exit 0) (qbf a2 v1_0 v1_1)) m x0 x1 x2 x3 x4
 | 0,x0,x1,x2,x3,x4=>qx ..
 | m+1,x0,x1,x2,x3,x4=>by
  have ih:(fun x0 x1 x2 x3 x4=>LQ qc D n 166 [.r,.l,.r,.l] m (qv a2 x0 x1 x2 x3 x4) K)=qu D n a2 (fun v0_0 v0_1 v0_2=>K (Ex.ret) (qbe a2 v0_0 v0_1 v0_2)) (fun v1_0 v1_1=>K (Ex.exit 0) (qbf a2 v1_0 v1_1)) m:=by funext x0 x1 x2 x3 x4;exact qc6 D n a2 K m x0 x1 x2 x3 x4
  rw[qgh]
  rw[ih];rfl
theorem qf7 (D:DX)(n:Nat) (a2:Clo) (v0_0:qd) (v0_1:qd) (v0_2:Int) :
 (CQ qc D n 166 [] [.r,.l,.r,.l] (qi qc 166)) (Ex.ret) (qbe a2 v0_0 v0_1 v0_2)=qby D n a2 v0_0 v0_1 v0_2:=by kernel_rfl
theorem qf6 (D:DX)(n:Nat) (a2:Clo) (v1_0:qd) (v1_1:qd) :
 (CQ qc D n 166 [] [.r,.l,.r,.l] (qi qc 166)) (Ex.exit 0) (qbf a2 v1_0 v1_1)=qbg D n a2 v1_0 v1_1:=by kernel_rfl
theorem qf8 (D:DX)(n:Nat) (a2:Clo) (x0:qd) (x1:qd) (x2:qd) (x3:Int) (x4:Int) :
 LQ qc D n 166 [.r,.l,.r,.l] n (qv a2 x0 x1 x2 x3 x4) (CQ qc D n 166 [] [.r,.l,.r,.l] (qi qc 166))=qb1 D n a2 x0 x1 x2 x3 x4:=by
 rw[qc6]
 simp only[qf7,qf6]
 rfl
theorem qgw (D:DX)(n:Nat) (a0:qd) (a1:qd) (a2:Clo):rfC qc D n 166 (a0,(a1,(a2,())))=qce D n a0 a1 a2:=by
 have h:rfC qc D n 166 (a0,(a1,(a2,())))=qcd D n a2 (fun x0 x1 x2 x3 x4=>LQ qc D n 166 [.r,.l,.r,.l] n (qv a2 x0 x1 x2 x3 x4) (CQ qc D n 166 [] [.r,.l,.r,.l] (qi qc 166))) a0 a1:=by kernel_rfl
 rw[h]
 simp only[qf8]
 rfl

def q5m (D:DX)(n:Nat) (a0:Int×Int×ByteArray×Unit) (a1:Int×Int×ByteArray×Unit):Option ((Int×Unit)×Unit):=br (bif decide (Prod.fst a0<Prod.fst a1) then true else bif decide (Prod.fst a0=Prod.fst a1) then decide (Prod.fst (Prod.snd a0)<Prod.fst (Prod.snd a1)) else false) (some ((-1,()),())) (br (bif decide (Prod.fst a0>Prod.fst a1) then true else decide (Prod.fst (Prod.snd a0)>Prod.fst (Prod.snd a1))) (some ((1,()),())) (qh (q1k D (Prod.fst (Prod.snd (Prod.snd a0))) (Prod.fst (Prod.snd (Prod.snd a1)))) fun b↦some ((Prod.fst (Prod.fst b),()),())))
def qyn (D:DX)(n:Nat) (a0:Int×Int×ByteArray×Unit) (a1:Int×Int×ByteArray×Unit):Option ((Int×Unit)×Unit):=q5m D n a0 a1
theorem qbhk (D:DX)(n:Nat) (a0:Int×Int×ByteArray×Unit) (a1:Int×Int×ByteArray×Unit):rfC qc D n 167 (a0,(a1,()))=qyn D n a0 a1:=by kernel_rfl

def q5i (D:DX)(n:Nat) (a0:ByteArray×List Int×Bool×Unit) (a1:qd) (a2:qd):Option ((Bool×Unit)×Unit):=qh (qky D a1 (Prod.fst (Prod.snd a0))) fun b↦br (Prod.fst (Prod.snd (Prod.snd a0))) (qh (qep D (Prod.fst (Prod.fst b)) (0,0,ByteArray.empty,())) fun b_1↦br (!Prod.fst (Prod.fst b_1)) (qh (qky D a2 (Prod.fst (Prod.snd a0))) fun b_2↦qh (qfn D (Prod.fst (Prod.fst b)) (Prod.fst (Prod.fst b_2))) fun b↦some ((Prod.fst (Prod.fst b),()),())) (some ((false,()),()))) (some ((false,()),()))
def qyt (D:DX)(n:Nat) (a0:ByteArray×List Int×Bool×Unit) (a1:qd) (a2:qd):Option ((Bool×Unit)×Unit):=q5i D n a0 a1 a2
theorem qbh1 (D:DX)(n:Nat) (a0:ByteArray×List Int×Bool×Unit) (a1:qd) (a2:qd):rfC qc D n 168 (a0,(a1,(a2,())))=qyt D n a0 a1 a2:=by kernel_rfl

def qh0 (D:DX)(n:Nat) (a0:qd) (a1:Int×Int×ByteArray×Unit):Option ((Bool×Unit)×Unit):=qh (qfk D a0 a1) fun b↦some ((decide (Prod.fst (Prod.fst b)≥0),()),())
def qeo (D:DX)(n:Nat) (a0:qd) (a1:Int×Int×ByteArray×Unit):Option ((Bool×Unit)×Unit):=qh0 D n a0 a1
theorem qph (D:DX)(n:Nat) (a0:qd) (a1:Int×Int×ByteArray×Unit):rfC qc D n 169 (a0,(a1,()))=qeo D n a0 a1:=by kernel_rfl

def qe5 (D:DX)(n:Nat) (go:qd→qd→Int→Int→Option ((Bool×Unit)×Unit)) (K0:Bool→Option ((Bool×Unit)×Unit)) (K1:Option ((Bool×Unit)×Unit)) (x0:qd) (x1:qd) (x2:Int) (x3:Int):Option ((Bool×Unit)×Unit):=br (decide (x3<x2)) (br (decide (0≤x3)&&decide (x3<(↑(List.length x0):Int))) (br (decide (0≤x3)&&decide (x3<(↑(List.length x1):Int))) (br (!qkl (Ty.pair (Ty.int IntKind.i64) (Ty.pair (Ty.int IntKind.i64) (Ty.pair Ty.str Ty.unit))) (List.getD x0 (Int.toNat x3) (0,0,ByteArray.empty,())) (List.getD x1 (Int.toNat x3) (0,0,ByteArray.empty,()))) (K0 false) (go x0 x1 x2 (IntKind.wrap IntKind.i64 (x3+1)))) none) none) K1
def qb9 (D:DX)(n:Nat) (K0:Bool→Option ((Bool×Unit)×Unit)) (K1:Option ((Bool×Unit)×Unit)):Nat→(qd)→(qd)→(Int)→(Int)→Option ((Bool×Unit)×Unit) | 0=>(fun x0 x1 x2 x3=>none) | m+1=>(fun x0 x1 x2 x3=>qe5 D n (qb9 D n K0 K1 m) K0 K1 x0 x1 x2 x3)
def qh8 (D:DX)(n:Nat) (v0_0:Bool):Option ((Bool×Unit)×Unit):=some ((v0_0,()),())
def qh6 (D:DX)(n:Nat):Option ((Bool×Unit)×Unit):=some ((true,()),())
def qew (D:DX)(n:Nat):(qd)→(qd)→(Int)→(Int)→Option ((Bool×Unit)×Unit):=(fun x0 x1 x2 x3=>qb9 D n (fun v0_0=>qh8 D n v0_0) (qh6 D n) n x0 x1 x2 x3)
def qfq (D:DX)(n:Nat) (lp0:qd→qd→Int→Int→Option ((Bool×Unit)×Unit)) (a0:qd) (a1:qd):Option ((Bool×Unit)×Unit):=br ((↑(List.length a0):Int) != (↑(List.length a1):Int)) (some ((false,()),())) (lp0 a0 a1 (↑(List.length a0):Int) 0)
def qfr (D:DX)(n:Nat) (a0:qd) (a1:qd):Option ((Bool×Unit)×Unit):=qfq D n (qew D n) a0 a1
def qca (x0:qd) (x1:qd) (x2:Int) (x3:Int):St:=stq 26 [(0,AV.val (Ty.sl yV) x0),(1,AV.val (Ty.sl yV) x1),(12,avI x2),(13,avI x3)] [] 
def qdb (v0_0:Bool):St:=stq 26 [(4,AV.val Ty.bool v0_0)] [] 
def qda:St:=stq 26 [] [] 
theorem qqi (D:DX)(n:Nat) (m:Nat) (K:Ex→St→Option (Out ctx 170)) (x0:qd) (x1:qd) (x2:Int) (x3:Int) :
 LQ qc D n 170 [.r,.r,.l,.r,.l] (m+1) (qca x0 x1 x2 x3) K=qe5 D n (fun x0 x1 x2 x3=>LQ qc D n 170 [.r,.r,.l,.r,.l] m (qca x0 x1 x2 x3) K) (fun v0_0=>K (Ex.ret) (qdb v0_0)) (K (Ex.exit 0) (qda)) x0 x1 x2 x3:=by kernel_rfl
theorem qie (D:DX)(n:Nat) (K:Ex→St→Option (Out ctx 170)):∀ (m:Nat) (x0:qd) (x1:qd) (x2:Int) (x3:Int),LQ qc D n 170 [.r,.r,.l,.r,.l] m (qca x0 x1 x2 x3) K=qb9 D n (fun v0_0=>K (Ex.ret) (qdb v0_0)) (K (Ex.exit 0) (qda)) m x0 x1 x2 x3
 | 0,x0,x1,x2,x3=>qx ..
 | m+1,x0,x1,x2,x3=>by
  have ih:(fun x0 x1 x2 x3=>LQ qc D n 170 [.r,.r,.l,.r,.l] m (qca x0 x1 x2 x3) K)=qb9 D n (fun v0_0=>K (Ex.ret) (qdb v0_0)) (K (Ex.exit 0) (qda)) m:=by funext x0 x1 x2 x3;exact qie D n K m x0 x1 x2 x3
  rw[qqi]
  rw[ih];rfl
theorem qpk (D:DX)(n:Nat) (v0_0:Bool) :
 (CQ qc D n 170 [] [.r,.r,.l,.r,.l] (qi qc 170)) (Ex.ret) (qdb v0_0)=qh8 D n v0_0:=by kernel_rfl
theorem qps (D:DX)(n:Nat) :
 (CQ qc D n 170 [] [.r,.r,.l,.r,.l] (qi qc 170)) (Ex.exit 0) (qda)=qh6 D n:=by kernel_rfl
theorem qpt (D:DX)(n:Nat) (x0:qd) (x1:qd) (x2:Int) (x3:Int) :
 LQ qc D n 170 [.r,.r,.l,.r,.l] n (qca x0 x1 x2 x3) (CQ qc D n 170 [] [.r,.r,.l,.r,.l] (qi qc 170))=qew D n x0 x1 x2 x3:=by
 rw[qie]
 simp only[qpk,qps]
 rfl
theorem qro (D:DX)(n:Nat) (a0:qd) (a1:qd):rfC qc D n 170 (a0,(a1,()))=qfr D n a0 a1:=by
 have h:rfC qc D n 170 (a0,(a1,()))=qfq D n (fun x0 x1 x2 x3=>LQ qc D n 170 [.r,.r,.l,.r,.l] n (qca x0 x1 x2 x3) (CQ qc D n 170 [] [.r,.r,.l,.r,.l] (qi qc 170))) a0 a1:=by kernel_rfl
 rw[h]
 simp only[qpt]
 rfl

def q8c (D:DX)(n:Nat) (a0:(tSch)×qe×Unit) (a1:qd):Option ((((tSch)×qe×Unit)×Int×Unit)×Unit):=qh (qn6 D a0) fun b↦qh (qk2 D a0) fun b_1↦br (!Prod.fst (Prod.fst b_1)) (some ((((Prod.fst (Prod.fst (Prod.fst (Prod.fst b))),Prod.fst (Prod.snd (Prod.fst (Prod.fst (Prod.fst b)))),Prod.fst (Prod.snd (Prod.snd (Prod.fst (Prod.fst (Prod.fst b))))),()),Prod.fst (Prod.snd (Prod.fst (Prod.fst b))),()),1,()),())) (qh (qrj D a0 a1) fun b_2↦br (decide (Prod.fst (Prod.fst b_2)<0)) (some ((((Prod.fst (Prod.fst (Prod.fst (Prod.fst b))),Prod.fst (Prod.snd (Prod.fst (Prod.fst (Prod.fst b)))),Prod.fst (Prod.snd (Prod.snd (Prod.fst (Prod.fst (Prod.fst b))))),()),Prod.fst (Prod.snd (Prod.fst (Prod.fst b))),()),4,()),())) (br (decide (0≤0)&&decide (0≤Prod.fst (Prod.fst b_2))&&decide (Prod.fst (Prod.fst b_2)≤(↑(List.length (Prod.fst (Prod.snd a0))):Int))) (qh (qi0 D (List.drop (Int.toNat 0) (List.take (Int.toNat (Prod.fst (Prod.fst b_2))) (Prod.fst (Prod.snd a0))))) fun b_3↦br (decide (0≤IntKind.wrap IntKind.i64 (Prod.fst (Prod.fst b_2)+1))&&decide (IntKind.wrap IntKind.i64 (Prod.fst (Prod.fst b_2)+1)≤(↑(List.length (Prod.fst (Prod.snd a0))):Int))&&decide ((↑(List.length (Prod.fst (Prod.snd a0))):Int)≤(↑(List.length (Prod.fst (Prod.snd a0))):Int))) (qh (qi0 D (List.drop (Int.toNat (IntKind.wrap IntKind.i64 (Prod.fst (Prod.fst b_2)+1))) (List.take (Int.toNat (↑(List.length (Prod.fst (Prod.snd a0))):Int)) (Prod.fst (Prod.snd a0))))) fun b_4↦br (decide (List.length (Prod.fst (Prod.fst b_3))+List.length (Prod.fst (Prod.fst b_4))≤q9)) (some ((((Prod.fst (Prod.fst (Prod.fst (Prod.fst b))),Prod.fst (Prod.snd (Prod.fst (Prod.fst (Prod.fst b)))),Prod.fst (Prod.snd (Prod.snd (Prod.fst (Prod.fst (Prod.fst b))))),()),Prod.fst (Prod.fst b_3)++Prod.fst (Prod.fst b_4),()),0,()),())) none) none) none))
def q0p (D:DX)(n:Nat) (a0:(tSch)×qe×Unit) (a1:qd):Option ((((tSch)×qe×Unit)×Int×Unit)×Unit):=q8c D n a0 a1
theorem qbj6 (D:DX)(n:Nat) (a0:(tSch)×
 qe×Unit) (a1:qd):rfC qc D n 171 (a0,(a1,()))=q0p D n a0 a1:=by kernel_rfl








def qk5 (D:DX)(n:Nat) (a0:List tWay):Option ((List tWay×Unit)×Unit):=br (decide (Int.toNat (↑(List.length a0):Int)=0)) (both (some (([],()),())) (br (decide (0+List.length a0≤q9)) (some (([]++a0,()),())) none)) (br (decide (0+List.length a0≤q9)) (some (([]++a0,()),())) none)
def qgx (D:DX)(n:Nat) (a0:List tWay):Option ((List tWay×Unit)×Unit):=qk5 D n a0
theorem qu4 (D:DX)(n:Nat) (a0:List tWay):rfC qc D n 181 (a0,())=qgx D n a0:=by kernel_rfl

def qe6 (D:DX)(n:Nat) (a1:Clo) (go:List tWay→Int→Int→Option ((Int×Unit)×Unit)) (K0:Int→Option ((Int×Unit)×Unit)) (K1:Option ((Int×Unit)×Unit)) (x0:List tWay) (x1:Int) (x2:Int):Option ((Int×Unit)×Unit):=br (decide (x2<x1)) (br (decide (0≤x2)&&decide (x2<(↑(List.length x0):Int))) (qh (qbp ctx D a1 [CapV.val (Ty.pair Ty.str (Ty.pair Ty.str Ty.unit)) (List.getD x0 (Int.toNat x2) (ByteArray.empty,ByteArray.empty,()))] Ty.bool) fun b↦br b (K0 x2) (go x0 x1 (IntKind.wrap IntKind.i64 (x2+1)))) none) K1
def qcb (D:DX)(n:Nat) (a1:Clo) (K0:Int→Option ((Int×Unit)×Unit)) (K1:Option ((Int×Unit)×Unit)):Nat→(List tWay)→(Int)→(Int)→Option ((Int×Unit)×Unit) | 0=>(fun x0 x1 x2=>none) | m+1=>(fun x0 x1 x2=>qe6 D n a1 (qcb D n a1 K0 K1 m) K0 K1 x0 x1 x2)
def qh4 (D:DX)(n:Nat) (a1:Clo) (v0_0:Int):Option ((Int×Unit)×Unit):=some ((v0_0,()),())
def qh2 (D:DX)(n:Nat) (a1:Clo):Option ((Int×Unit)×Unit):=some ((-1,()),())
def qeu (D:DX)(n:Nat) (a1:Clo):(List tWay)→(Int)→(Int)→Option ((Int×Unit)×Unit):=(fun x0 x1 x2=>qcb D n a1 (fun v0_0=>qh4 D n a1 v0_0) (qh2 D n a1) n x0 x1 x2)
def qfj (D:DX)(n:Nat) (a1:Clo) (lp0:List tWay→Int→Int→Option ((Int×Unit)×Unit)) (a0:List tWay):Option ((Int×Unit)×Unit):=lp0 a0 (↑(List.length a0):Int) 0
def qfs (D:DX)(n:Nat) (a0:List tWay) (a1:Clo):Option ((Int×Unit)×Unit):=qfj D n a1 (qeu D n a1) a0
def qb8 (a1:Clo) (x0:List tWay) (x1:Int) (x2:Int):St:=stq 19 [(0,AV.val (Ty.sl (Ty.pair Ty.str (Ty.pair Ty.str Ty.unit))) x0),(1,AV.cloV a1),(7,avI x1),(8,avI x2)] [] 
def qc9 (a1:Clo) (v0_0:Int):St:=stq 19 [(4,avI v0_0)] [] 
def qc8 (a1:Clo):St:=stq 19 [] [] 
theorem qqf (D:DX)(n:Nat) (a1:Clo) (m:Nat) (K:Ex→St→Option (Out ctx 182)) (x0:List tWay) (x1:Int) (x2:Int) :
 LQ qc D n 182 [.r,.l,.r,.l] (m+1) (qb8 a1 x0 x1 x2) K=qe6 D n a1 (fun x0 x1 x2=>LQ qc D n 182 [.r,.l,.r,.l] m (qb8 a1 x0 x1 x2) K) (fun v0_0=>K (Ex.ret) (qc9 a1 v0_0)) (K (Ex.exit 0) (qc8 a1)) x0 x1 x2:=by kernel_rfl
theorem qid (D:DX)(n:Nat) (a1:Clo) (K:Ex→St→Option (Out ctx 182)):∀ (m:Nat) (x0:List tWay) (x1:Int) (x2:Int),LQ qc D n 182 [.r,.l,.r,.l] m (qb8 a1 x0 x1 x2) K=qcb D n a1 (fun v0_0=>K (Ex.ret) (qc9 a1 v0_0)) (K (Ex.exit 0) (qc8 a1)) m x0 x1 x2
 | 0,x0,x1,x2=>qx ..
 | m+1,x0,x1,x2=>by
  have ih:(fun x0 x1 x2=>LQ qc D n 182 [.r,.l,.r,.l] m (qb8 a1 x0 x1 x2) K)=qcb D n a1 (fun v0_0=>K (Ex.ret) (qc9 a1 v0_0)) (K (Ex.exit 0) (qc8 a1)) m:=by funext x0 x1 x2;exact qid D n a1 K m x0 x1 x2
  rw[qqf]
  rw[ih];rfl
theorem qpl (D:DX)(n:Nat) (a1:Clo) (v0_0:Int) :
 (CQ qc D n 182 [] [.r,.l,.r,.l] (qi qc 182)) (Ex.ret) (qc9 a1 v0_0)=qh4 D n a1 v0_0:=by kernel_rfl
theorem qpx (D:DX)(n:Nat) (a1:Clo) :
 (CQ qc D n 182 [] [.r,.l,.r,.l] (qi qc 182)) (Ex.exit 0) (qc8 a1)=qh2 D n a1:=by kernel_rfl
theorem qpy (D:DX)(n:Nat) (a1:Clo) (x0:List tWay) (x1:Int) (x2:Int) :
 LQ qc D n 182 [.r,.l,.r,.l] n (qb8 a1 x0 x1 x2) (CQ qc D n 182 [] [.r,.l,.r,.l] (qi qc 182))=qeu D n a1 x0 x1 x2:=by
 rw[qid]
 simp only[qpl,qpx]
 rfl
theorem qsg (D:DX)(n:Nat) (a0:List tWay) (a1:Clo):rfC qc D n 182 (a0,(a1,()))=qfs D n a0 a1:=by
 have h:rfC qc D n 182 (a0,(a1,()))=qfj D n a1 (fun x0 x1 x2=>LQ qc D n 182 [.r,.l,.r,.l] n (qb8 a1 x0 x1 x2) (CQ qc D n 182 [] [.r,.l,.r,.l] (qi qc 182))) a0:=by kernel_rfl
 rw[h]
 simp only[qpy]
 rfl

def q4n (D:DX)(n:Nat) (a0:ByteArray×ByteArray×Unit) (a1:ByteArray×ByteArray×Unit):Option ((Bool×Unit)×Unit):=qh (qso D a0 a1) fun b↦some ((!Prod.fst (Prod.fst b),()),())
def qv7 (D:DX)(n:Nat) (a0:ByteArray×ByteArray×Unit) (a1:ByteArray×ByteArray×Unit):Option ((Bool×Unit)×Unit):=q4n D n a0 a1
theorem qbf0 (D:DX)(n:Nat) (a0:ByteArray×ByteArray×Unit) (a1:ByteArray×ByteArray×Unit):rfC qc D n 183 (a0,(a1,()))=qv7 D n a0 a1:=by kernel_rfl

def qbit (D:DX)(n:Nat) (a0:ByteArray×ByteArray×Unit) (a1:ByteArray×ByteArray×Unit):Option ((Bool×Unit)×Unit):=some ((bif Op.bytesLess (ByteArray.toList (Prod.fst a0)) (ByteArray.toList (Prod.fst a1)) then true else bif List.beq (ByteArray.toList (Prod.fst a0)) (ByteArray.toList (Prod.fst a1)) then Op.bytesLess (ByteArray.toList (Prod.fst (Prod.snd a0))) (ByteArray.toList (Prod.fst (Prod.snd a1))) else false,()),())
def q5k (D:DX)(n:Nat) (a0:ByteArray×ByteArray×Unit) (a1:ByteArray×ByteArray×Unit):Option ((Bool×Unit)×Unit):=qbit D n a0 a1
theorem qbis (D:DX)(n:Nat) (a0:ByteArray×ByteArray×Unit) (a1:ByteArray×ByteArray×Unit):rfC qc D n 185 (a0,(a1,()))=q5k D n a0 a1:=by kernel_rfl

def qlk (D:DX)(n:Nat) (go:List Int→Int→Int→Int→Option ((Int×Unit)×Unit)) (K0:Int→Option ((Int×Unit)×Unit)) (K1:Option ((Int×Unit)×Unit)) (x0:List Int) (x1:Int) (x2:Int) (x3:Int):Option ((Int×Unit)×Unit):=br (decide (x3<x2)) (br (decide (0≤x3)&&decide (x3<(↑(List.length x0):Int))) (br (decide (x1=List.getD x0 (Int.toNat x3) 0)) (K0 x3) (go x0 x1 x2 (IntKind.wrap IntKind.i64 (x3+1)))) none) K1
def qec (D:DX)(n:Nat) (K0:Int→Option ((Int×Unit)×Unit)) (K1:Option ((Int×Unit)×Unit)):Nat→(List Int)→(Int)→(Int)→(Int)→Option ((Int×Unit)×Unit) | 0=>(fun x0 x1 x2 x3=>none) | m+1=>(fun x0 x1 x2 x3=>qlk D n (qec D n K0 K1 m) K0 K1 x0 x1 x2 x3)
def qrb (D:DX)(n:Nat) (v0_0:Int):Option ((Int×Unit)×Unit):=some ((v0_0,()),())
def qq2 (D:DX)(n:Nat):Option ((Int×Unit)×Unit):=some ((-1,()),())
def qk6 (D:DX)(n:Nat):(List Int)→(Int)→(Int)→(Int)→Option ((Int×Unit)×Unit):=(fun x0 x1 x2 x3=>qec D n (fun v0_0=>qrb D n v0_0) (qq2 D n) n x0 x1 x2 x3)
def qm7 (D:DX)(n:Nat) (lp0:List Int→Int→Int→Int→Option ((Int×Unit)×Unit)) (a0:List Int) (a1:Int):Option ((Int×Unit)×Unit):=lp0 a0 a1 (↑(List.length a0):Int) 0
def qmy (D:DX)(n:Nat) (a0:List Int) (a1:Int):Option ((Int×Unit)×Unit):=qm7 D n (qk6 D n) a0 a1
def qed (x0:List Int) (x1:Int) (x2:Int) (x3:Int):St:=stq 19 [(0,AV.val (Ty.sl yI) x0),(1,avI x1),(7,avI x2),(8,avI x3)] [] 
def qhe (v0_0:Int):St:=stq 19 [(4,avI v0_0)] [] 
def qhg:St:=stq 19 [] [] 
theorem q3p (D:DX)(n:Nat) (m:Nat) (K:Ex→St→Option (Out ctx 186)) (x0:List Int) (x1:Int) (x2:Int) (x3:Int) :
 LQ qc D n 186 [.r,.l,.r,.l] (m+1) (qed x0 x1 x2 x3) K=qlk D n (fun x0 x1 x2 x3=>LQ qc D n 186 [.r,.l,.r,.l] m (qed x0 x1 x2 x3) K) (fun v0_0=>K (Ex.ret) (qhe v0_0)) (K (Ex.exit 0) (qhg)) x0 x1 x2 x3:=by kernel_rfl
theorem qrp (D:DX)(n:Nat) (K:Ex→St→Option (Out ctx 186)):∀ (m:Nat) (x0:List Int) (x1:Int) (x2:Int) (x3:Int),LQ qc D n 186 [.r,.l,.r,.l] m (qed x0 x1 x2 x3) K=qec D n (fun v0_0=>K (Ex.ret) (qhe v0_0)) (K (Ex.exit 0) (qhg)) m x0 x1 x2 x3
 | 0,x0,x1,x2,x3=>qx ..
 | m+1,x0,x1,x2,x3=>by
  have ih:(fun x0 x1 x2 x3=>LQ qc D n 186 [.r,.l,.r,.l] m (qed x0 x1 x2 x3) K)=qec D n (fun v0_0=>K (Ex.ret) (qhe v0_0)) (K (Ex.exit 0) (qhg)) m:=by funext x0 x1 x2 x3;exact qrp D n K m x0 x1 x2 x3
  rw[q3p]
  rw[ih];rfl
theorem q18 (D:DX)(n:Nat) (v0_0:Int) :
 (CQ qc D n 186 [] [.r,.l,.r,.l] (qi qc 186)) (Ex.ret) (qhe v0_0)=qrb D n v0_0:=by kernel_rfl
theorem q14 (D:DX)(n:Nat) :
 (CQ qc D n 186 [] [.r,.l,.r,.l] (qi qc 186)) (Ex.exit 0) (qhg)=qq2 D n:=by kernel_rfl
theorem q12 (D:DX)(n:Nat) (x0:List Int) (x1:Int) (x2:Int) (x3:Int) :
 LQ qc D n 186 [.r,.l,.r,.l] n (qed x0 x1 x2 x3) (CQ qc D n 186 [] [.r,.l,.r,.l] (qi qc 186))=qk6 D n x0 x1 x2 x3:=by
 rw[qrp]
 simp only[q18,q14]
 rfl
theorem q4w (D:DX)(n:Nat) (a0:List Int) (a1:Int):rfC qc D n 186 (a0,(a1,()))=qmy D n a0 a1:=by
 have h:rfC qc D n 186 (a0,(a1,()))=qm7 D n (fun x0 x1 x2 x3=>LQ qc D n 186 [.r,.l,.r,.l] n (qed x0 x1 x2 x3) (CQ qc D n 186 [] [.r,.l,.r,.l] (qi qc 186))) a0 a1:=by kernel_rfl
 rw[h]
 simp only[q12]
 rfl

def qe3 (D:DX)(n:Nat) (go:qd→Int→Int→Int×Int×ByteArray×Unit→Option ((Int×Unit)×Unit)) (K0:Int→Option ((Int×Unit)×Unit)) (K1:Option ((Int×Unit)×Unit)) (x0:qd) (x1:Int) (x2:Int) (x3:Int×Int×ByteArray×Unit):Option ((Int×Unit)×Unit):=br (decide (x2<x1)) (br (decide (0≤x2)&&decide (x2<(↑(List.length x0):Int))) (br (qkl (Ty.pair (Ty.int IntKind.i64) (Ty.pair (Ty.int IntKind.i64) (Ty.pair Ty.str Ty.unit))) x3 (List.getD x0 (Int.toNat x2) (0,0,ByteArray.empty,()))) (K0 x2) (go x0 x1 (IntKind.wrap IntKind.i64 (x2+1)) x3)) none) K1
def qb4 (D:DX)(n:Nat) (K0:Int→Option ((Int×Unit)×Unit)) (K1:Option ((Int×Unit)×Unit)):Nat→(qd)→(Int)→(Int)→tVal→Option ((Int×Unit)×Unit) | 0=>(fun x0 x1 x2 x3=>none) | m+1=>(fun x0 x1 x2 x3=>qe3 D n (qb4 D n K0 K1 m) K0 K1 x0 x1 x2 x3)
def qh3 (D:DX)(n:Nat) (v0_0:Int):Option ((Int×Unit)×Unit):=some ((v0_0,()),())
def qh7 (D:DX)(n:Nat):Option ((Int×Unit)×Unit):=some ((-1,()),())
def qev (D:DX)(n:Nat):(qd)→(Int)→(Int)→tVal→Option ((Int×Unit)×Unit):=(fun x0 x1 x2 x3=>qb4 D n (fun v0_0=>qh3 D n v0_0) (qh7 D n) n x0 x1 x2 x3)
def qfe (D:DX)(n:Nat) (lp0:qd→Int→Int→Int×Int×ByteArray×Unit→Option ((Int×Unit)×Unit)) (a0:qd) (a1:Int×Int×ByteArray×Unit):Option ((Int×Unit)×Unit):=lp0 a0 (↑(List.length a0):Int) 0 a1
def qfo (D:DX)(n:Nat) (a0:qd) (a1:Int×Int×ByteArray×Unit):Option ((Int×Unit)×Unit):=qfe D n (qev D n) a0 a1
def qb5 (x0:qd) (x1:Int) (x2:Int) (x3:Int×Int×ByteArray×Unit):St:=stq 19 [(0,AV.val (Ty.sl yV) x0),(3,AV.addr 3 []),(7,avI x1),(8,avI x2)] [(3,Root.mk yV Mk.no x3 true)] 
def qdf (v0_0:Int):St:=stq 19 [(4,avI v0_0)] [] 
def qc7:St:=stq 19 [] [] 
theorem qqg (D:DX)(n:Nat) (m:Nat) (K:Ex→St→Option (Out ctx 188)) (x0:qd) (x1:Int) (x2:Int) (x3:Int×Int×ByteArray×Unit) :
 LQ qc D n 188 [.r,.l,.r,.l] (m+1) (qb5 x0 x1 x2 x3) K=qe3 D n (fun x0 x1 x2 x3=>LQ qc D n 188 [.r,.l,.r,.l] m (qb5 x0 x1 x2 x3) K) (fun v0_0=>K (Ex.ret) (qdf v0_0)) (K (Ex.exit 0) (qc7)) x0 x1 x2 x3:=by kernel_rfl
theorem qif (D:DX)(n:Nat) (K:Ex→St→Option (Out ctx 188)):∀ (m:Nat) (x0:qd) (x1:Int) (x2:Int) (x3:Int×Int×ByteArray×Unit),LQ qc D n 188 [.r,.l,.r,.l] m (qb5 x0 x1 x2 x3) K=qb4 D n (fun v0_0=>K (Ex.ret) (qdf v0_0)) (K (Ex.exit 0) (qc7)) m x0 x1 x2 x3
 | 0,x0,x1,x2,x3=>qx ..
 | m+1,x0,x1,x2,x3=>by
  have ih:(fun x0 x1 x2 x3=>LQ qc D n 188 [.r,.l,.r,.l] m (qb5 x0 x1 x2 x3) K)=qb4 D n (fun v0_0=>K (Ex.ret) (qdf v0_0)) (K (Ex.exit 0) (qc7)) m:=by funext x0 x1 x2 x3;exact qif D n K m x0 x1 x2 x3
  rw[qqg]
  rw[ih];rfl
theorem qpp (D:DX)(n:Nat) (v0_0:Int) :
 (CQ qc D n 188 [] [.r,.l,.r,.l] (qi qc 188)) (Ex.ret) (qdf v0_0)=qh3 D n v0_0:=by kernel_rfl
theorem qpg (D:DX)(n:Nat) :
 (CQ qc D n 188 [] [.r,.l,.r,.l] (qi qc 188)) (Ex.exit 0) (qc7)=qh7 D n:=by kernel_rfl
theorem qpz (D:DX)(n:Nat) (x0:qd) (x1:Int) (x2:Int) (x3:Int×Int×ByteArray×Unit) :
 LQ qc D n 188 [.r,.l,.r,.l] n (qb5 x0 x1 x2 x3) (CQ qc D n 188 [] [.r,.l,.r,.l] (qi qc 188))=qev D n x0 x1 x2 x3:=by
 rw[qif]
 simp only[qpp,qpg]
 rfl
theorem qr6 (D:DX)(n:Nat) (a0:qd) (a1:Int×Int×ByteArray×Unit):rfC qc D n 188 (a0,(a1,()))=qfo D n a0 a1:=by
 have h:rfC qc D n 188 (a0,(a1,()))=qfe D n (fun x0 x1 x2 x3=>LQ qc D n 188 [.r,.l,.r,.l] n (qb5 x0 x1 x2 x3) (CQ qc D n 188 [] [.r,.l,.r,.l] (qi qc 188))) a0 a1:=by kernel_rfl
 rw[h]
 simp only[qpz]
 rfl
end
end Go.G

namespace Go.G
set_option maxRecDepth 100000
open Go Go.V Go.Proofs
def XOk (X:Ext):Prop:=∀ k:Nat,(Nat.beq k 132||Nat.beq k 139||Nat.beq k 184||Nat.beq k 187)=false→X.is k=false
theorem qbap {X:Ext} (hX:XOk X) (n:Nat) (a0:List Int):qzz (DD X (n+1)) a0=qsb (DD X n) n a0:=(ql X Try.func14 (by kernel_rfl) (hX 14 rfl) n _).trans (q9i ..)
theorem qbf9 {X:Ext} (hX:XOk X) (n:Nat) (a0:tSch):qqy (DD X (n+1)) a0=qwp (DD X n) n a0:=(ql X Try.func16 (by kernel_rfl) (hX 16 rfl) n _).trans (qbf2 ..)
theorem qbgn {X:Ext} (hX:XOk X) (n:Nat) (a0:tSch):qq0 (DD X (n+1)) a0=qwn (DD X n) n a0:=(ql X Try.func18 (by kernel_rfl) (hX 18 rfl) n _).trans (qbgd ..)
theorem qbo1 {X:Ext} (hX:XOk X) (n:Nat) (a0:List Int):q61 (DD X (n+1)) a0=qbfw (DD X n) n a0:=(ql X Try.func20 (by kernel_rfl) (hX 20 rfl) n _).trans (qboh ..)
theorem qbmr {X:Ext} (hX:XOk X) (n:Nat) (a0:tSch) (a1:qd):q2v (DD X (n+1)) a0 a1=q2j (DD X n) n a0 a1:=(ql X Try.func26 (by kernel_rfl) (hX 26 rfl) n _).trans (qblu ..)
theorem qbl9 {X:Ext} (hX:XOk X) (n:Nat) (a0:tSch) (a1:qd):qoh (DD X (n+1)) a0 a1=q3q (DD X n) n a0 a1:=(ql X Try.func27 (by kernel_rfl) (hX 27 rfl) n _).trans (qblw ..)
theorem qbde {X:Ext} (hX:XOk X) (n:Nat) (a0:ByteArray):qpd (DD X (n+1)) a0=quh (DD X n) n a0:=(ql X Try.func28 (by kernel_rfl) (hX 28 rfl) n _).trans (qbdh ..)
theorem qbdy {X:Ext} (hX:XOk X) (n:Nat) (a0:ByteArray):qoo (DD X (n+1)) a0=qut (DD X n) n a0:=(ql X Try.func29 (by kernel_rfl) (hX 29 rfl) n _).trans (qbd4 ..)
theorem qbmx {X:Ext} (hX:XOk X) (n:Nat) (a0:tSch) (a1:ByteArray):q28 (DD X (n+1)) a0 a1=q27 (DD X n) n a0 a1:=(ql X Try.func30 (by kernel_rfl) (hX 30 rfl) n _).trans (qbkx ..)
theorem qbl0 {X:Ext} (hX:XOk X) (n:Nat) (a0:tSch) (a1:ByteArray):q3m (DD X (n+1)) a0 a1=q3c (DD X n) n a0 a1:=(ql X Try.func31 (by kernel_rfl) (hX 31 rfl) n _).trans (qbmv ..)
theorem qbfu {X:Ext} (hX:XOk X) (n:Nat) (a0:tSch) (a1:qd):qmm (DD X (n+1)) a0 a1=qvq (DD X n) n a0 a1:=(ql X Try.func33 (by kernel_rfl) (hX 33 rfl) n _).trans (qbgl ..)
theorem qbgp {X:Ext} (hX:XOk X) (n:Nat) (a0:tSch) (a1:qd):qdq (DD X (n+1)) a0 a1=qvs (DD X n) n a0 a1:=(ql X Try.func34 (by kernel_rfl) (hX 34 rfl) n _).trans (qbes ..)
theorem qbhd {X:Ext} (hX:XOk X) (n:Nat) (a0:qd):qxn (DD X (n+1)) a0=qyp (DD X n) n a0:=(ql X Try.func35 (by kernel_rfl) (hX 35 rfl) n _).trans (qbhs ..)
theorem qbl1 {X:Ext} (hX:XOk X) (n:Nat) (a0:(tSch)×qe×Unit) (a1:Int) (a2:qd):q3s (DD X (n+1)) a0 a1 a2=q3i (DD X n) n a0 a1 a2:=(ql X Try.func43 (by kernel_rfl) (hX 43 rfl) n _).trans (qbml ..)
theorem qbma {X:Ext} (hX:XOk X) (n:Nat) (a0:(tSch)×qe×Unit):qk2 (DD X (n+1)) a0=q2k (DD X n) n a0:=(ql X Try.func48 (by kernel_rfl) (hX 48 rfl) n _).trans (qblp ..)
theorem qblc {X:Ext} (hX:XOk X) (n:Nat) (a0:(tSch)×qe×Unit):qwx (DD X (n+1)) a0=q3n (DD X n) n a0:=(ql X Try.func49 (by kernel_rfl) (hX 49 rfl) n _).trans (qbly ..)
theorem qbg8 {X:Ext} (hX:XOk X) (n:Nat) (a0:(tSch)×qe×Unit) (a1:qd):qyj (DD X (n+1)) a0 a1=qyh (DD X n) n a0 a1:=(ql X Try.func52 (by kernel_rfl) (hX 52 rfl) n _).trans (qbid ..)
theorem qbic {X:Ext} (hX:XOk X) (n:Nat) (a0:qd) (a1:List Int):qky (DD X (n+1)) a0 a1=qxx (DD X n) n a0 a1:=(ql X Try.func56 (by kernel_rfl) (hX 56 rfl) n _).trans (qbiz ..)
theorem qbkc {X:Ext} (hX:XOk X) (n:Nat) (a0:tSch):q04 (DD X (n+1)) a0=q05 (DD X n) n a0:=(ql X Try.func60 (by kernel_rfl) (hX 60 rfl) n _).trans (qbj8 ..)
theorem qbjz {X:Ext} (hX:XOk X) (n:Nat) (a0:(tSch)×qe×Unit) (a1:qd):q0m (DD X (n+1)) a0 a1=q02 (DD X n) n a0 a1:=(ql X Try.func63 (by kernel_rfl) (hX 63 rfl) n _).trans (qbka ..)
theorem qbcj {X:Ext} (hX:XOk X) (n:Nat) (a0:List Int):qth (DD X (n+1)) a0=qta (DD X n) n a0:=(ql X Try.func65 (by kernel_rfl) (hX 65 rfl) n _).trans (qbb7 ..)
theorem qbj5 {X:Ext} (hX:XOk X) (n:Nat) (a0:(tSch)×qe×Unit) (a1:Int):q0l (DD X (n+1)) a0 a1=q0s (DD X n) n a0 a1:=(ql X Try.func66 (by kernel_rfl) (hX 66 rfl) n _).trans (qbke ..)
theorem qbe4 {X:Ext} (hX:XOk X) (n:Nat) (a0:List tWay) (a1:List tWay):qv9 (DD X (n+1)) a0 a1=qwq (DD X n) n a0 a1:=(ql X Try.func67 (by kernel_rfl) (hX 67 rfl) n _).trans (qbgs ..)
theorem qbj9 {X:Ext} (hX:XOk X) (n:Nat) (a0:(tSch)×qe×Unit) (a1:Int):q1e (DD X (n+1)) a0 a1=q0g (DD X n) n a0 a1:=(ql X Try.func68 (by kernel_rfl) (hX 68 rfl) n _).trans (qbkg ..)
theorem qbhg {X:Ext} (hX:XOk X) (n:Nat) (a0:ByteArray×ByteArray×Unit) (a1:ByteArray×ByteArray×Unit):qso (DD X (n+1)) a0 a1=q6m (DD X n) n a0 a1:=(ql X Try.func69 (by kernel_rfl) (hX 69 rfl) n _).trans (qbij ..)
theorem qbni {X:Ext} (hX:XOk X) (n:Nat) (a0:Int) (a1:Int) (a2:Int):qgk (DD X (n+1)) a0 a1 a2=q44 (DD X n) n a0 a1 a2:=(ql X Try.func73 (by kernel_rfl) (hX 73 rfl) n _).trans (qbng ..)
theorem qbdo {X:Ext} (hX:XOk X) (n:Nat) (a0:tSch) (a1:List Int) (a2:Int):qo4 (DD X (n+1)) a0 a1 a2=qus (DD X n) n a0 a1 a2:=(ql X Try.func74 (by kernel_rfl) (hX 74 rfl) n _).trans (qbei ..)
theorem qbbp {X:Ext} (hX:XOk X) (n:Nat) (a0:tSch):qs4 (DD X (n+1)) a0=qtm (DD X n) n a0:=(ql X Try.func75 (by kernel_rfl) (hX 75 rfl) n _).trans (qbbw ..)
theorem qbno {X:Ext} (hX:XOk X) (n:Nat) (a0:Int) (a1:Int) (a2:Int):qgd (DD X (n+1)) a0 a1 a2=q41 (DD X n) n a0 a1 a2:=(ql X Try.func79 (by kernel_rfl) (hX 79 rfl) n _).trans (qbm8 ..)
theorem qbfd {X:Ext} (hX:XOk X) (n:Nat) (a0:tSch) (a1:List Int) (a2:Int):qq6 (DD X (n+1)) a0 a1 a2=qwa (DD X n) n a0 a1 a2:=(ql X Try.func80 (by kernel_rfl) (hX 80 rfl) n _).trans (qbe0 ..)
theorem qnd {X:Ext} (hX:XOk X) (n:Nat) (a0:tIxs) (a1:Clo):qcw (DD X (n+1)) a0 a1=qdu (DD X n) n a0 a1:=(ql X Try.func81 (by kernel_rfl) (hX 81 rfl) n _).trans (qnh ..)
theorem qbb6 {X:Ext} (hX:XOk X) (n:Nat) (a0:ByteArray×List Int×Bool×Unit) (a1:ByteArray×List Int×Bool×Unit):q1s (DD X (n+1)) a0 a1=qs6 (DD X n) n a0 a1:=(ql X Try.func82 (by kernel_rfl) (hX 82 rfl) n _).trans (qbb0 ..)
theorem qw4 {X:Ext} (hX:XOk X) (n:Nat) (a0:List Int) (a1:Clo):qia (DD X (n+1)) a0 a1=qh9 (DD X n) n a0 a1:=(ql X Try.func83 (by kernel_rfl) (hX 83 rfl) n _).trans (qw6 ..)
theorem qbbj {X:Ext} (hX:XOk X) (n:Nat) (a0:Int) (a1:tSch):q1j (DD X (n+1)) a0 a1=qtn (DD X n) n a0 a1:=(ql X Try.func84 (by kernel_rfl) (hX 84 rfl) n _).trans (qbbq ..)
theorem qblk {X:Ext} (hX:XOk X) (n:Nat) (a0:List Int):q32 (DD X (n+1)) a0=q3z (DD X n) n a0:=(ql X Try.func88 (by kernel_rfl) (hX 88 rfl) n _).trans (qbln ..)
theorem qbiu {X:Ext} (hX:XOk X) (n:Nat) (a0:List Int×Int×Int×Unit):qy8 (DD X (n+1)) a0=qyd (DD X n) n a0:=(ql X Try.func89 (by kernel_rfl) (hX 89 rfl) n _).trans (qbhz ..)
theorem qbcg {X:Ext} (hX:XOk X) (n:Nat) (a0:List Int×Int×Int×Unit) (a1:tSch):qnr (DD X (n+1)) a0 a1=qtc (DD X n) n a0 a1:=(ql X Try.func90 (by kernel_rfl) (hX 90 rfl) n _).trans (qbbx ..)
theorem qbhf {X:Ext} (hX:XOk X) (n:Nat) (a0:List Int×Int×Int×Unit) (a1:Int):qcg (DD X (n+1)) a0 a1=qyf (DD X n) n a0 a1:=(ql X Try.func91 (by kernel_rfl) (hX 91 rfl) n _).trans (qbh6 ..)
theorem qbkp {X:Ext} (hX:XOk X) (n:Nat) (a0:List Int×Int×Int×Unit) (a1:List ByteArray):qt2 (DD X (n+1)) a0 a1=q0o (DD X n) n a0 a1:=(ql X Try.func93 (by kernel_rfl) (hX 93 rfl) n _).trans (qbj0 ..)
theorem qbiq {X:Ext} (hX:XOk X) (n:Nat) (a0:Int×Int×ByteArray×Unit):qsi (DD X (n+1)) a0=qxl (DD X n) n a0:=(ql X Try.func94 (by kernel_rfl) (hX 94 rfl) n _).trans (qbim ..)
theorem qbig {X:Ext} (hX:XOk X) (n:Nat) (a0:Int×Int×ByteArray×Unit):qsl (DD X (n+1)) a0=qze (DD X n) n a0:=(ql X Try.func95 (by kernel_rfl) (hX 95 rfl) n _).trans (qbht ..)
theorem qrz {X:Ext} (hX:XOk X) (n:Nat) (a0:qhd) (a1:Clo):qfl (DD X (n+1)) a0 a1=qfc (DD X n) n a0 a1:=(ql X Try.func96 (by kernel_rfl) (hX 96 rfl) n _).trans (qr5 ..)
theorem qbip {X:Ext} (hX:XOk X) (n:Nat) (a0:ByteArray×Int×Bool×Unit) (a1:ByteArray):q5w (DD X (n+1)) a0 a1=qxm (DD X n) n a0 a1:=(ql X Try.func97 (by kernel_rfl) (hX 97 rfl) n _).trans (qbhl ..)
theorem qbiv {X:Ext} (hX:XOk X) (n:Nat) (a0:qd) (a1:List Int):qku (DD X (n+1)) a0 a1=qza (DD X n) n a0 a1:=(ql X Try.func98 (by kernel_rfl) (hX 98 rfl) n _).trans (qbha ..)
theorem qnl {X:Ext} (hX:XOk X) (n:Nat) (a0:qd) (a1:Clo):qdw (DD X (n+1)) a0 a1=qdx (DD X n) n a0 a1:=(ql X Try.func99 (by kernel_rfl) (hX 99 rfl) n _).trans (qnc ..)
theorem qbdi {X:Ext} (hX:XOk X) (n:Nat) (a0:Int×Int×ByteArray×Unit):q3d (DD X (n+1)) a0=qui (DD X n) n a0:=(ql X Try.func100 (by kernel_rfl) (hX 100 rfl) n _).trans (qbdl ..)
theorem qbcc {X:Ext} (hX:XOk X) (n:Nat) (a0:qd):qnn (DD X (n+1)) a0=qtf (DD X n) n a0:=(ql X Try.func109 (by kernel_rfl) (hX 109 rfl) n _).trans (qbb2 ..)
theorem qbot {X:Ext} (hX:XOk X) (n:Nat) (a0:tSch) (a1:Int) (a2:qd):q7j (DD X (n+1)) a0 a1 a2=q7e (DD X n) n a0 a1 a2:=(ql X Try.func111 (by kernel_rfl) (hX 111 rfl) n _).trans (qbpg ..)
theorem qbek {X:Ext} (hX:XOk X) (n:Nat) (a0:qd) (a1:qd):qou (DD X (n+1)) a0 a1=qum (DD X n) n a0 a1:=(ql X Try.func113 (by kernel_rfl) (hX 113 rfl) n _).trans (qbd8 ..)
theorem qbf8 {X:Ext} (hX:XOk X) (n:Nat) (a0:tSch) (a1:qd) (a2:qd):qq5 (DD X (n+1)) a0 a1 a2=qvw (DD X n) n a0 a1 a2:=(ql X Try.func114 (by kernel_rfl) (hX 114 rfl) n _).trans (qbfy ..)
theorem qbds {X:Ext} (hX:XOk X) (n:Nat) (a0:qd) (a1:qd):qud (DD X (n+1)) a0 a1=qu7 (DD X n) n a0 a1:=(ql X Try.func115 (by kernel_rfl) (hX 115 rfl) n _).trans (qbdg ..)
theorem qm1 {X:Ext} (hX:XOk X) (n:Nat) (a0:qe) (a1:Clo):qb0 (DD X (n+1)) a0 a1=qdr (DD X n) n a0 a1:=(ql X Try.func116 (by kernel_rfl) (hX 116 rfl) n _).trans (qm8 ..)
theorem qbhn {X:Ext} (hX:XOk X) (n:Nat) (a0:qd) (a1:(tSch)×qe×Unit) (a2:qd):q5g (DD X (n+1)) a0 a1 a2=qy9 (DD X n) n a0 a1 a2:=(ql X Try.func117 (by kernel_rfl) (hX 117 rfl) n _).trans (qbh3 ..)
theorem qbl4 {X:Ext} (hX:XOk X) (n:Nat) (a0:tSch) (a1:qd) (a2:qd):q2r (DD X (n+1)) a0 a1 a2=q2n (DD X n) n a0 a1 a2:=(ql X Try.func118 (by kernel_rfl) (hX 118 rfl) n _).trans (qbk9 ..)
theorem q8e {X:Ext} (hX:XOk X) (n:Nat) (a0:List Int×Int×Int×Unit):qql (DD X (n+1)) a0=qqn (DD X n) n a0:=(ql X Try.func119 (by kernel_rfl) (hX 119 rfl) n _).trans (q8y ..)
theorem qbhx {X:Ext} (hX:XOk X) (n:Nat) (a0:(tSch)×qe×Unit):qn6 (DD X (n+1)) a0=qxu (DD X n) n a0:=(ql X Try.func124 (by kernel_rfl) (hX 124 rfl) n _).trans (qbhe ..)
theorem qbmd {X:Ext} (hX:XOk X) (n:Nat) (a0:(tSch)×qe×Unit) (a1:qd):qrj (DD X (n+1)) a0 a1=q3g (DD X n) n a0 a1:=(ql X Try.func125 (by kernel_rfl) (hX 125 rfl) n _).trans (qblb ..)
theorem qbd9 {X:Ext} (hX:XOk X) (n:Nat) (a0:(tSch)×qe×Unit) (a1:qd) (a2:Int):qo0 (DD X (n+1)) a0 a1 a2=qul (DD X n) n a0 a1 a2:=(ql X Try.func126 (by kernel_rfl) (hX 126 rfl) n _).trans (qbel ..)
theorem qol {X:Ext} (hX:XOk X) (n:Nat) (a0:qe) (a1:Clo):qej (DD X (n+1)) a0 a1=qef (DD X n) n a0 a1:=(ql X Try.func130 (by kernel_rfl) (hX 130 rfl) n _).trans (qot ..)
theorem qbio {X:Ext} (hX:XOk X) (n:Nat) (a0:tSch):qsw (DD X (n+1)) a0=qy5 (DD X n) n a0:=(ql X Try.func134 (by kernel_rfl) (hX 134 rfl) n _).trans (qbhh ..)
theorem qbhw {X:Ext} (hX:XOk X) (n:Nat) (a0:qe):qi0 (DD X (n+1)) a0=qyg (DD X n) n a0:=(ql X Try.func138 (by kernel_rfl) (hX 138 rfl) n _).trans (qbhm ..)
theorem qbi1 {X:Ext} (hX:XOk X) (n:Nat) (a0:List Int×Int×Int×Unit):qxq (DD X (n+1)) a0=qxp (DD X n) n a0:=(ql X Try.func140 (by kernel_rfl) (hX 140 rfl) n _).trans (qbh5 ..)
theorem qbj4 {X:Ext} (hX:XOk X) (n:Nat) (a0:List tWay) (a1:ByteArray×ByteArray×Unit):q03 (DD X (n+1)) a0 a1=q1d (DD X n) n a0 a1:=(ql X Try.func141 (by kernel_rfl) (hX 141 rfl) n _).trans (qbkq ..)
theorem qbkj {X:Ext} (hX:XOk X) (n:Nat) (a0:List tWay) (a1:ByteArray×ByteArray×Unit):q0f (DD X (n+1)) a0 a1=q08 (DD X n) n a0 a1:=(ql X Try.func142 (by kernel_rfl) (hX 142 rfl) n _).trans (qbkr ..)
theorem q19 {X:Ext} (hX:XOk X) (n:Nat) (a0:List Int) (a1:Int):qkk (DD X (n+1)) a0 a1=qkh (DD X n) n a0 a1:=(ql X Try.func147 (by kernel_rfl) (hX 147 rfl) n _).trans (q2a ..)
theorem qov {X:Ext} (hX:XOk X) (n:Nat) (a0:tIxs) (a1:Clo):qel (DD X (n+1)) a0 a1=qeg (DD X n) n a0 a1:=(ql X Try.func148 (by kernel_rfl) (hX 148 rfl) n _).trans (qpf ..)
theorem q01 {X:Ext} (hX:XOk X) (n:Nat) (a0:List Int) (a1:Clo):qj5 (DD X (n+1)) a0 a1=qj9 (DD X n) n a0 a1:=(ql X Try.func149 (by kernel_rfl) (hX 149 rfl) n _).trans (q0t ..)
theorem q8i {X:Ext} (hX:XOk X) (n:Nat) (a0:List Int×Int×Int×Unit):qli (DD X (n+1)) a0=qp5 (DD X n) n a0:=(ql X Try.func152 (by kernel_rfl) (hX 152 rfl) n _).trans (q8t ..)
theorem qbee {X:Ext} (hX:XOk X) (n:Nat) (a0:List Int×Int×Int×Unit) (a1:List Int):qk3 (DD X (n+1)) a0 a1=quw (DD X n) n a0 a1:=(ql X Try.func153 (by kernel_rfl) (hX 153 rfl) n _).trans (qbdu ..)
theorem qbkd {X:Ext} (hX:XOk X) (n:Nat) (a0:List Int×Int×Int×Unit) (a1:Int):ql2 (DD X (n+1)) a0 a1=q1a (DD X n) n a0 a1:=(ql X Try.func154 (by kernel_rfl) (hX 154 rfl) n _).trans (qbkh ..)
theorem qbdr {X:Ext} (hX:XOk X) (n:Nat) (a0:List Int×Int×Int×Unit) (a1:Int):qox (DD X (n+1)) a0 a1=que (DD X n) n a0 a1:=(ql X Try.func155 (by kernel_rfl) (hX 155 rfl) n _).trans (qbdf ..)
theorem qbkk {X:Ext} (hX:XOk X) (n:Nat) (a0:List Int×Int×Int×Unit):qj6 (DD X (n+1)) a0=q09 (DD X n) n a0:=(ql X Try.func156 (by kernel_rfl) (hX 156 rfl) n _).trans (qbko ..)
theorem qoi {X:Ext} (hX:XOk X) (n:Nat) (a0:qd) (a1:Clo):qd3 (DD X (n+1)) a0 a1=qd7 (DD X n) n a0 a1:=(ql X Try.func158 (by kernel_rfl) (hX 158 rfl) n _).trans (qoj ..)
theorem qbin {X:Ext} (hX:XOk X) (n:Nat) (a0:qd):qsp (DD X (n+1)) a0=qx6 (DD X n) n a0:=(ql X Try.func159 (by kernel_rfl) (hX 159 rfl) n _).trans (qbi0 ..)
theorem qbfg {X:Ext} (hX:XOk X) (n:Nat) (a0:Int×Int×ByteArray×Unit):qwc (DD X (n+1)) a0=qvz (DD X n) n a0:=(ql X Try.func160 (by kernel_rfl) (hX 160 rfl) n _).trans (qbg3 ..)
theorem qbck {X:Ext} (hX:XOk X) (n:Nat) (a0:qd):qnx (DD X (n+1)) a0=qs7 (DD X n) n a0:=(ql X Try.func161 (by kernel_rfl) (hX 161 rfl) n _).trans (qbbm ..)
theorem qbdc {X:Ext} (hX:XOk X) (n:Nat) (a0:Int×Int×ByteArray×Unit) (a1:Int×Int×ByteArray×Unit):qo1 (DD X (n+1)) a0 a1=qt5 (DD X n) n a0 a1:=(ql X Try.func162 (by kernel_rfl) (hX 162 rfl) n _).trans (qbd1 ..)
theorem qbep {X:Ext} (hX:XOk X) (n:Nat) (a0:Int×Int×ByteArray×Unit) (a1:Int×Int×ByteArray×Unit):qu6 (DD X (n+1)) a0 a1=qu1 (DD X n) n a0 a1:=(ql X Try.func163 (by kernel_rfl) (hX 163 rfl) n _).trans (qbdp ..)
theorem qbg6 {X:Ext} (hX:XOk X) (n:Nat) (a0:qd) (a1:qd):qss (DD X (n+1)) a0 a1=qx9 (DD X n) n a0 a1:=(ql X Try.func164 (by kernel_rfl) (hX 164 rfl) n _).trans (qbiy ..)
theorem qbia {X:Ext} (hX:XOk X) (n:Nat) (a0:qd):qy2 (DD X (n+1)) a0=qy4 (DD X n) n a0:=(ql X Try.func165 (by kernel_rfl) (hX 165 rfl) n _).trans (qbhp ..)
theorem qgz {X:Ext} (hX:XOk X) (n:Nat) (a0:qd) (a1:qd) (a2:Clo):qcc (DD X (n+1)) a0 a1 a2=qce (DD X n) n a0 a1 a2:=(ql X Try.func166 (by kernel_rfl) (hX 166 rfl) n _).trans (qgw ..)
theorem qbhr {X:Ext} (hX:XOk X) (n:Nat) (a0:Int×Int×ByteArray×Unit) (a1:Int×Int×ByteArray×Unit):qyb (DD X (n+1)) a0 a1=qyn (DD X n) n a0 a1:=(ql X Try.func167 (by kernel_rfl) (hX 167 rfl) n _).trans (qbhk ..)
theorem qbh9 {X:Ext} (hX:XOk X) (n:Nat) (a0:ByteArray×List Int×Bool×Unit) (a1:qd) (a2:qd):q6j (DD X (n+1)) a0 a1 a2=qyt (DD X n) n a0 a1 a2:=(ql X Try.func168 (by kernel_rfl) (hX 168 rfl) n _).trans (qbh1 ..)
theorem qpv {X:Ext} (hX:XOk X) (n:Nat) (a0:qd) (a1:Int×Int×ByteArray×Unit):qep (DD X (n+1)) a0 a1=qeo (DD X n) n a0 a1:=(ql X Try.func169 (by kernel_rfl) (hX 169 rfl) n _).trans (qph ..)
theorem qsh {X:Ext} (hX:XOk X) (n:Nat) (a0:qd) (a1:qd):qfn (DD X (n+1)) a0 a1=qfr (DD X n) n a0 a1:=(ql X Try.func170 (by kernel_rfl) (hX 170 rfl) n _).trans (qro ..)
theorem qbj2 {X:Ext} (hX:XOk X) (n:Nat) (a0:(tSch)×qe×Unit) (a1:qd):q0w (DD X (n+1)) a0 a1=q0p (DD X n) n a0 a1:=(ql X Try.func171 (by kernel_rfl) (hX 171 rfl) n _).trans (qbj6 ..)
theorem qt9 {X:Ext} (hX:XOk X) (n:Nat) (a0:List tWay):qgv (DD X (n+1)) a0=qgx (DD X n) n a0:=(ql X Try.func181 (by kernel_rfl) (hX 181 rfl) n _).trans (qu4 ..)
theorem qrl {X:Ext} (hX:XOk X) (n:Nat) (a0:List tWay) (a1:Clo):qfi (DD X (n+1)) a0 a1=qfs (DD X n) n a0 a1:=(ql X Try.func182 (by kernel_rfl) (hX 182 rfl) n _).trans (qsg ..)
theorem qbfa {X:Ext} (hX:XOk X) (n:Nat) (a0:ByteArray×ByteArray×Unit) (a1:ByteArray×ByteArray×Unit):q37 (DD X (n+1)) a0 a1=qv7 (DD X n) n a0 a1:=(ql X Try.func183 (by kernel_rfl) (hX 183 rfl) n _).trans (qbf0 ..)
theorem qbhy {X:Ext} (hX:XOk X) (n:Nat) (a0:ByteArray×ByteArray×Unit) (a1:ByteArray×ByteArray×Unit):qx8 (DD X (n+1)) a0 a1=q5k (DD X n) n a0 a1:=(ql X Try.func185 (by kernel_rfl) (hX 185 rfl) n _).trans (qbis ..)
theorem q45 {X:Ext} (hX:XOk X) (n:Nat) (a0:List Int) (a1:Int):qm6 (DD X (n+1)) a0 a1=qmy (DD X n) n a0 a1:=(ql X Try.func186 (by kernel_rfl) (hX 186 rfl) n _).trans (q4w ..)
theorem qrr {X:Ext} (hX:XOk X) (n:Nat) (a0:qd) (a1:Int×Int×ByteArray×Unit):qfk (DD X (n+1)) a0 a1=qfo (DD X n) n a0 a1:=(ql X Try.func188 (by kernel_rfl) (hX 188 rfl) n _).trans (qr6 ..)
end Go.G


import Derived.Test.YtkggbhppapcmnaaAV3
set_option linter.unusedVariables false
set_option linter.unusedSimpArgs false
set_option linter.unusedSectionVars false
namespace Go.G
open Go Go.V
abbrev DX:=Den ctx
abbrev tWay:=ByteArray×ByteArray×Unit
abbrev avI:=AV.val (Ty.int IntKind.i64)
end Go.G
namespace Go.G
open Go Go.V
noncomputable def qhs (D:Den ctx) (a0:List tWay) (a1:ByteArray×ByteArray×Unit):Option ((Bool×Unit)×Unit):=D 3 (a0,(a1,()))
noncomputable def qi2 (D:Den ctx) (a0:List tWay) (a1:Int):Option ((Int×Unit)×Unit):=D 4 (a0,(a1,()))
noncomputable def qfu (D:Den ctx) (a0:ByteArray×ByteArray×Unit) (a1:Int):Option ((Int×Unit)×Unit):=D 5 (a0,(a1,()))
noncomputable def qix (D:Den ctx) (a0:List tWay) (a1:ByteArray×ByteArray×Unit):Option ((List tWay×Unit)×Unit):=D 6 (a0,(a1,()))
noncomputable def qd0 (D:Den ctx) (a0:List tWay):Option ((List tWay×Unit)×Unit):=D 7 (a0,())
noncomputable def qdu (D:Den ctx) (a0:ByteArray×ByteArray×Unit):Option ((tWay×Unit)×Unit):=D 8 (a0,())
noncomputable def qgl (D:Den ctx) (a0:List tWay) (a1:ByteArray×ByteArray×Unit):Option ((List tWay×Unit)×Unit):=D 9 (a0,(a1,()))
noncomputable def qdz (D:Den ctx) (a0:List tWay) (a1:List tWay):Option ((Bool×Unit)×Unit):=D 10 (a0,(a1,()))
noncomputable def qfh (D:Den ctx) (a0:List tWay) (a1:Int):Option ((Int×Unit)×List tWay×Unit):=D 11 (a0,(a1,()))
noncomputable def qfg (D:Den ctx) (a0:List tWay) (a1:Int):Option ((Int×Unit)×Unit):=D 12 (a0,(a1,()))
noncomputable def qie (D:Den ctx) (a0:ByteArray×ByteArray×Unit) (a1:ByteArray×ByteArray×Unit):Option ((Bool×Unit)×Unit):=D 13 (a0,(a1,()))
noncomputable def qcg (D:Den ctx) (a0:List tWay):Option ((List tWay×Unit)×Unit):=D 14 (a0,())
noncomputable def qb1 (D:Den ctx) (a0:List tWay) (a1:Clo):Option ((Int×Unit)×Unit):=D 15 (a0,(a1,()))
noncomputable def qj8 (D:Den ctx) (a0:ByteArray×ByteArray×Unit) (a1:ByteArray×ByteArray×Unit):Option ((Bool×Unit)×Unit):=D 16 (a0,(a1,()))
noncomputable def qh7 (D:Den ctx) (a0:ByteArray×ByteArray×Unit) (a1:ByteArray×ByteArray×Unit):Option ((Bool×Unit)×Unit):=D 17 (a0,(a1,()))
noncomputable def qcd (D:Den ctx) (a0:List tWay) (a1:Int) (a2:List tWay):Option ((List tWay×Unit)×Unit):=D 18 (a0,(a1,(a2,())))
noncomputable def qhe (D:Den ctx) (a0:ByteArray×ByteArray×Unit) (a1:ByteArray×ByteArray×Unit):Option ((Bool×Unit)×Unit):=D 19 (a0,(a1,()))
noncomputable def qdd (D:Den ctx) (a0:Int):Option ((ByteArray×Unit)×Unit):=D 20 (a0,())
end Go.G

namespace Go.G
set_option maxRecDepth 100000
set_option maxHeartbeats 0
open Go Go.V
noncomputable section
def qhm (D:DX)(n:Nat) (a0:List tWay) (a1:ByteArray×ByteArray×Unit):Option ((Bool×Unit)×Unit):=qbf (qi2 D a0 1048576) fun b↦br (decide (Prod.fst (Prod.fst b)<0)) (some ((true,()),())) (qbf (qfu D a1 (Prod.fst (Prod.fst b))) fun b↦br (decide (Prod.fst (Prod.fst b)<0)) (some ((true,()),())) (qbf (qd0 D a0) fun b↦qbf (qdu D a1) fun b_1↦qbf (qix D (Prod.fst (Prod.fst b)) (Prod.fst (Prod.fst b_1))) fun b↦qbf (qd0 D a0) fun b_2↦qbf (qdu D a1) fun b_3↦qbf (qgl D (Prod.fst (Prod.fst b_2)) (Prod.fst (Prod.fst b_3))) fun b_4↦qbf (qdz D (Prod.fst (Prod.fst b_4)) (Prod.fst (Prod.fst b))) fun b_5↦br (!Prod.fst (Prod.fst b_5)) (some ((false,()),())) (qbf (qd0 D a0) fun b_6↦qbf (qdz D (Prod.fst (Prod.fst b_2)) (Prod.fst (Prod.fst b_6))) fun b_7↦br (!Prod.fst (Prod.fst b_7)) (some ((false,()),())) (qbf (qfh D (Prod.fst (Prod.fst b_2)) 1) fun b_8↦br (decide (Prod.fst (Prod.fst b_8)<0)) (some ((false,()),())) (qbf (qdz D (Prod.fst (Prod.fst b_4)) (Prod.fst (Prod.fst b))) fun b_9↦br (!Prod.fst (Prod.fst b_9)) (some ((false,()),())) (qbf (qfh D (Prod.fst (Prod.fst b_4)) 1) fun b_10↦qbf (qfg D (Prod.fst (Prod.snd b_10)) 1) fun b_11↦br (decide (Prod.fst (Prod.fst b_11)<0)) (some ((false,()),())) (br (Prod.fst (Prod.fst b_11) != Prod.fst (Prod.fst b_10)) (some ((false,()),())) (qbf (qd0 D a0) fun b_12↦qbf (qdu D a1) fun b_13↦qbf (qgl D (Prod.fst (Prod.fst b_12)) (Prod.fst (Prod.fst b_13))) fun b_14↦qbf (qdz D (Prod.fst (Prod.fst b_14)) (Prod.fst (Prod.fst b))) fun b↦br (!Prod.fst (Prod.fst b)) (some ((false,()),())) (qbf (qfg D (Prod.fst (Prod.snd b_10)) 1) fun b↦br (decide (Prod.fst (Prod.fst b)<0)) (some ((false,()),())) (br (Prod.fst (Prod.fst b) != Prod.fst (Prod.fst b_10)) (some ((false,()),())) (some ((true,()),()))))))))))))
def qer (D:DX)(n:Nat) (a0:List tWay) (a1:ByteArray×ByteArray×Unit):Option ((Bool×Unit)×Unit):=qhm D n a0 a1
theorem qk9 (D:DX)(n:Nat) (a0:List tWay) (a1:ByteArray×ByteArray×Unit):rfC qd D n 3 (a0,(a1,()))=qer D n a0 a1:=by kernel_rfl

def qhv (D:DX)(n:Nat) (go:List tWay→Int→Int→Option ((Int×Unit)×Unit)) (K0:Int→Int→Option ((Int×Unit)×Unit)) (K1:Int→Option ((Int×Unit)×Unit)) (x0:List tWay) (x1:Int) (x2:Int):Option ((Int×Unit)×Unit):=br (decide (x2<(↑(List.length x0):Int))) (br (decide (0≤x2)&&decide (x2<(↑(List.length x0):Int))) (qbf (qfu D (List.getD x0 (Int.toNat x2) (ByteArray.empty,ByteArray.empty,())) x1) fun b↦br (decide (Prod.fst (Prod.fst b)<0)) (K0 (Prod.fst (Prod.fst b)) (-1)) (go x0 (Prod.fst (Prod.fst b)) (IntKind.wrap IntKind.i64 (x2+1)))) none) (K1 x1)
def qdr (D:DX)(n:Nat) (K0:Int→Int→Option ((Int×Unit)×Unit)) (K1:Int→Option ((Int×Unit)×Unit)):Nat→(List tWay)→(Int)→(Int)→Option ((Int×Unit)×Unit) | 0=>(fun x0 x1 x2=>none) | m+1=>(fun x0 x1 x2=>qhv D n (qdr D n K0 K1 m) K0 K1 x0 x1 x2)
def qgn (D:DX)(n:Nat) (v0_0:Int) (v0_1:Int):Option ((Int×Unit)×Unit):=some ((v0_1,()),())
def qgv (D:DX)(n:Nat) (v1_0:Int):Option ((Int×Unit)×Unit):=some ((v1_0,()),())
def qhg (D:DX)(n:Nat):(List tWay)→(Int)→(Int)→Option ((Int×Unit)×Unit):=(fun x0 x1 x2=>qdr D n (fun v0_0 v0_1=>qgn D n v0_0 v0_1) (fun v1_0=>qgv D n v1_0) n x0 x1 x2)
def qi6 (D:DX)(n:Nat) (lp0:List tWay→Int→Int→Option ((Int×Unit)×Unit)) (a0:List tWay) (a1:Int):Option ((Int×Unit)×Unit):=br (decide (IntKind.wrap IntKind.i64 (a1 - (↑(List.length a0):Int))<0)) (some ((-1,()),())) (lp0 a0 (IntKind.wrap IntKind.i64 (a1 - (↑(List.length a0):Int))) 0)
def qi5 (D:DX)(n:Nat) (a0:List tWay) (a1:Int):Option ((Int×Unit)×Unit):=qi6 D n (qhg D n) a0 a1
def qdn (x0:List tWay) (x1:Int) (x2:Int):St:=stq 27 [(0,AV.val (Ty.sl (Ty.pair Ty.str (Ty.pair Ty.str Ty.unit))) x0),(1,avI x1),(5,avI x2)] [] 
def qet (v0_0:Int) (v0_1:Int):St:=stq 27 [(1,avI v0_0),(4,avI v0_1)] [] 
def qe0 (v1_0:Int):St:=stq 27 [(1,avI v1_0)] [] 
theorem qn5 (D:DX)(n:Nat) (m:Nat) (K:Ex→St→Option (Out ctx 4)) (x0:List tWay) (x1:Int) (x2:Int) :
 LQ qd D n 4 [.r,.r,.r,.l,.r,.l] (m+1) (qdn x0 x1 x2) K=qhv D n (fun x0 x1 x2=>LQ qd D n 4 [.r,.r,.r,.l,.r,.l] m (qdn x0 x1 x2) K) (fun v0_0 v0_1=>K (Ex.ret) (qet v0_0 v0_1)) (fun v1_0=>K (Ex.exit 0) (qe0 v1_0)) x0 x1 x2:=by kernel_rfl
theorem qka (D:DX)(n:Nat) (K:Ex→St→Option (Out ctx 4)):∀ (m:Nat) (x0:List tWay) (x1:Int) (x2:Int),LQ qd D n 4 [.r,.r,.r,.l,.r,.l] m (qdn x0 x1 x2) K=qdr D n (fun v0_0 v0_1=>K (Ex.ret) (qet v0_0 v0_1)) (fun v1_0=>K (Ex.exit 0) (qe0 v1_0)) m x0 x1 x2
 | 0,x0,x1,x2=>qg2 ..
 | m+1,x0,x1,x2=>by
  have ih:(fun x0 x1 x2=>LQ qd D n 4 [.r,.r,.r,.l,.r,.l] m (qdn x0 x1 x2) K)=qdr D n (fun v0_0 v0_1=>K (Ex.ret) (qet v0_0 v0_1)) (fun v1_0=>K (Ex.exit 0) (qe0 v1_0)) m:=by funext x0 x1 x2;exact qka D n K m x0 x1 x2
  rw[qn5]
  rw[ih];rfl
theorem qnv (D:DX)(n:Nat) (v0_0:Int) (v0_1:Int) :
 (CQ qd D n 4 [] [.r,.r,.r,.l,.r,.l] (qbr qd 4)) (Ex.ret) (qet v0_0 v0_1)=qgn D n v0_0 v0_1:=by kernel_rfl
theorem qnu (D:DX)(n:Nat) (v1_0:Int) :
 (CQ qd D n 4 [] [.r,.r,.r,.l,.r,.l] (qbr qd 4)) (Ex.exit 0) (qe0 v1_0)=qgv D n v1_0:=by kernel_rfl
theorem qnq (D:DX)(n:Nat) (x0:List tWay) (x1:Int) (x2:Int) :
 LQ qd D n 4 [.r,.r,.r,.l,.r,.l] n (qdn x0 x1 x2) (CQ qd D n 4 [] [.r,.r,.r,.l,.r,.l] (qbr qd 4))=qhg D n x0 x1 x2:=by
 rw[qka]
 simp only[qnv,qnu]
 rfl
theorem qqr (D:DX)(n:Nat) (a0:List tWay) (a1:Int):rfC qd D n 4 (a0,(a1,()))=qi5 D n a0 a1:=by
 have h:rfC qd D n 4 (a0,(a1,()))=qi6 D n (fun x0 x1 x2=>LQ qd D n 4 [.r,.r,.r,.l,.r,.l] n (qdn x0 x1 x2) (CQ qd D n 4 [] [.r,.r,.r,.l,.r,.l] (qbr qd 4))) a0 a1:=by kernel_rfl
 rw[h]
 simp only[qnq]
 rfl

def ql7 (D:DX)(n:Nat) (a0:ByteArray×ByteArray×Unit) (a1:Int):Option ((Int×Unit)×Unit):=br (decide (IntKind.wrap IntKind.i64 (a1 - (↑(ByteArray.size (Prod.fst a0)):Int))<0)) (some ((-1,()),())) (br (decide (IntKind.wrap IntKind.i64 (IntKind.wrap IntKind.i64 (a1 - (↑(ByteArray.size (Prod.fst a0)):Int)) - (↑(ByteArray.size (Prod.fst (Prod.snd a0))):Int))<0)) (some ((-1,()),())) (some ((IntKind.wrap IntKind.i64 (IntKind.wrap IntKind.i64 (a1 - (↑(ByteArray.size (Prod.fst a0)):Int)) - (↑(ByteArray.size (Prod.fst (Prod.snd a0))):Int)),()),())))
def qjq (D:DX)(n:Nat) (a0:ByteArray×ByteArray×Unit) (a1:Int):Option ((Int×Unit)×Unit):=ql7 D n a0 a1
theorem qrz (D:DX)(n:Nat) (a0:ByteArray×ByteArray×Unit) (a1:Int):rfC qd D n 5 (a0,(a1,()))=qjq D n a0 a1:=by kernel_rfl

def qij (D:DX)(n:Nat) (go:List tWay→Int→ByteArray×ByteArray×Unit→Option ((List tWay×Unit)×Unit)) (K0:List tWay→Int→ByteArray×ByteArray×Unit→Option ((List tWay×Unit)×Unit)) (x0:List tWay) (x1:Int) (x2:ByteArray×ByteArray×Unit):Option ((List tWay×Unit)×Unit):=br (decide (x1<(↑(List.length x0):Int))) (br (decide (0≤x1)&&decide (x1<(↑(List.length x0):Int))) (qbf (qie D (List.getD x0 (Int.toNat x1) (ByteArray.empty,ByteArray.empty,())) x2) fun b↦br (Prod.fst (Prod.fst b)) (go x0 (IntKind.wrap IntKind.i64 (x1+1)) x2) (K0 x0 x1 x2)) none) (K0 x0 x1 x2)
def qdo (D:DX)(n:Nat) (K0:List tWay→Int→ByteArray×ByteArray×Unit→Option ((List tWay×Unit)×Unit)):Nat→(List tWay)→(Int)→tWay→Option ((List tWay×Unit)×Unit) | 0=>(fun x0 x1 x2=>none) | m+1=>(fun x0 x1 x2=>qij D n (qdo D n K0 m) K0 x0 x1 x2)
def qc1 (D:DX)(n:Nat) (v0_0:List tWay) (v0_1:Int) (v0_2:ByteArray×ByteArray×Unit):Option ((List tWay×Unit)×Unit):=br (decide (v0_1<(↑(List.length v0_0):Int))) (br (decide (0≤v0_1)&&decide (v0_1<(↑(List.length v0_0):Int))) (br (qf1 (Ty.pair Ty.str (Ty.pair Ty.str Ty.unit)) (List.getD v0_0 (Int.toNat v0_1) (ByteArray.empty,ByteArray.empty,())) v0_2) (br (decide (0+List.length v0_0≤qbl)) (some (([]++v0_0,()),())) none) (br (decide (0≤0)&&decide (0≤v0_1)&&decide (v0_1≤(↑(List.length v0_0):Int))) (br (decide (0+List.length (List.drop (Int.toNat 0) (List.take (Int.toNat v0_1) v0_0))≤qbl)) (br (decide (List.length ([]++List.drop (Int.toNat 0) (List.take (Int.toNat v0_1) v0_0))+1≤qbl)) (br (decide (0≤v0_1)&&decide (v0_1≤(↑(List.length v0_0):Int))&&decide ((↑(List.length v0_0):Int)≤(↑(List.length v0_0):Int))) (br (decide (List.length ([]++List.drop (Int.toNat 0) (List.take (Int.toNat v0_1) v0_0)++[v0_2])+List.length (List.drop (Int.toNat v0_1) (List.take (Int.toNat (↑(List.length v0_0):Int)) v0_0))≤qbl)) (some (([]++List.drop (Int.toNat 0) (List.take (Int.toNat v0_1) v0_0)++[v0_2]++List.drop (Int.toNat v0_1) (List.take (Int.toNat (↑(List.length v0_0):Int)) v0_0),()),())) none) none) none) none) none)) none) (br (decide (0≤0)&&decide (0≤v0_1)&&decide (v0_1≤(↑(List.length v0_0):Int))) (br (decide (0+List.length (List.drop (Int.toNat 0) (List.take (Int.toNat v0_1) v0_0))≤qbl)) (br (decide (List.length ([]++List.drop (Int.toNat 0) (List.take (Int.toNat v0_1) v0_0))+1≤qbl)) (br (decide (0≤v0_1)&&decide (v0_1≤(↑(List.length v0_0):Int))&&decide ((↑(List.length v0_0):Int)≤(↑(List.length v0_0):Int))) (br (decide (List.length ([]++List.drop (Int.toNat 0) (List.take (Int.toNat v0_1) v0_0)++[v0_2])+List.length (List.drop (Int.toNat v0_1) (List.take (Int.toNat (↑(List.length v0_0):Int)) v0_0))≤qbl)) (some (([]++List.drop (Int.toNat 0) (List.take (Int.toNat v0_1) v0_0)++[v0_2]++List.drop (Int.toNat v0_1) (List.take (Int.toNat (↑(List.length v0_0):Int)) v0_0),()),())) none) none) none) none) none)
def qg6 (D:DX)(n:Nat):(List tWay)→(Int)→tWay→Option ((List tWay×Unit)×Unit):=(fun x0 x1 x2=>qdo D n (fun v0_0 v0_1 v0_2=>qc1 D n v0_0 v0_1 v0_2) n x0 x1 x2)
def qi3 (D:DX)(n:Nat) (lp0:List tWay→Int→ByteArray×ByteArray×Unit→Option ((List tWay×Unit)×Unit)) (a0:List tWay) (a1:ByteArray×ByteArray×Unit):Option ((List tWay×Unit)×Unit):=lp0 a0 0 a1
def qi7 (D:DX)(n:Nat) (a0:List tWay) (a1:ByteArray×ByteArray×Unit):Option ((List tWay×Unit)×Unit):=qi3 D n (qg6 D n) a0 a1
def qdq (x0:List tWay) (x1:Int) (x2:ByteArray×ByteArray×Unit):St:=stq 50 [(0,AV.val (Ty.sl (Ty.pair Ty.str (Ty.pair Ty.str Ty.unit))) x0),(3,AV.addr 3 []),(5,avI x1)] [(3,Root.mk (Ty.pair Ty.str (Ty.pair Ty.str Ty.unit)) Mk.no x2 true)] 
def qes (v0_0:List tWay) (v0_1:Int) (v0_2:ByteArray×ByteArray×Unit):St:=stq 50 [(0,AV.val (Ty.sl (Ty.pair Ty.str (Ty.pair Ty.str Ty.unit))) v0_0),(3,AV.addr 3 []),(5,avI v0_1)] [(3,Root.mk (Ty.pair Ty.str (Ty.pair Ty.str Ty.unit)) Mk.no v0_2 true)] 
theorem qoj (D:DX)(n:Nat) (m:Nat) (K:Ex→St→Option (Out ctx 6)) (x0:List tWay) (x1:Int) (x2:ByteArray×ByteArray×Unit) :
 LQ qd D n 6 [.r,.r,.l,.l] (m+1) (qdq x0 x1 x2) K=qij D n (fun x0 x1 x2=>LQ qd D n 6 [.r,.r,.l,.l] m (qdq x0 x1 x2) K) (fun v0_0 v0_1 v0_2=>K (Ex.exit 0) (qes v0_0 v0_1 v0_2)) x0 x1 x2:=by kernel_rfl
theorem qkc (D:DX)(n:Nat) (K:Ex→St→Option (Out ctx 6)):∀ (m:Nat) (x0:List tWay) (x1:Int) (x2:ByteArray×ByteArray×Unit),LQ qd D n 6 [.r,.r,.l,.l] m (qdq x0 x1 x2) K=qdo D n (fun v0_0 v0_1 v0_2=>K (Ex.exit 0) (qes v0_0 v0_1 v0_2)) m x0 x1 x2
 | 0,x0,x1,x2=>qg2 ..
 | m+1,x0,x1,x2=>by
  have ih:(fun x0 x1 x2=>LQ qd D n 6 [.r,.r,.l,.l] m (qdq x0 x1 x2) K)=qdo D n (fun v0_0 v0_1 v0_2=>K (Ex.exit 0) (qes v0_0 v0_1 v0_2)) m:=by funext x0 x1 x2;exact qkc D n K m x0 x1 x2
  rw[qoj]
  rw[ih];rfl
theorem qn0 (D:DX)(n:Nat) (v0_0:List tWay) (v0_1:Int) (v0_2:ByteArray×ByteArray×Unit) :
 (CQ qd D n 6 [] [.r,.r,.l,.l] (qbr qd 6)) (Ex.exit 0) (qes v0_0 v0_1 v0_2)=qc1 D n v0_0 v0_1 v0_2:=by kernel_rfl
theorem qns (D:DX)(n:Nat) (x0:List tWay) (x1:Int) (x2:ByteArray×ByteArray×Unit) :
 LQ qd D n 6 [.r,.r,.l,.l] n (qdq x0 x1 x2) (CQ qd D n 6 [] [.r,.r,.l,.l] (qbr qd 6))=qg6 D n x0 x1 x2:=by
 rw[qkc]
 simp only[qn0]
 rfl
theorem qqs (D:DX)(n:Nat) (a0:List tWay) (a1:ByteArray×ByteArray×Unit):rfC qd D n 6 (a0,(a1,()))=qi7 D n a0 a1:=by
 have h:rfC qd D n 6 (a0,(a1,()))=qi3 D n (fun x0 x1 x2=>LQ qd D n 6 [.r,.r,.l,.l] n (qdq x0 x1 x2) (CQ qd D n 6 [] [.r,.r,.l,.l] (qbr qd 6))) a0 a1:=by kernel_rfl
 rw[h]
 simp only[qns]
 rfl

def qhu (D:DX)(n:Nat) (go:List tWay→Int→List tWay→Option ((List tWay×Unit)×Unit)) (K0:List tWay→Option ((List tWay×Unit)×Unit)) (x0:List tWay) (x1:Int) (x2:List tWay):Option ((List tWay×Unit)×Unit):=br (decide (x1<(↑(List.length x0):Int))) (br (decide (0≤x1)&&decide (x1<(↑(List.length x0):Int))) (qbf (qdu D (List.getD x0 (Int.toNat x1) (ByteArray.empty,ByteArray.empty,()))) fun b↦br (decide (0≤x1)&&decide (x1<(↑(List.length x2):Int))) (go x0 (IntKind.wrap IntKind.i64 (x1+1)) (List.set x2 (Int.toNat x1) (Prod.fst (Prod.fst b)))) none) none) (K0 x2)
def qdk (D:DX)(n:Nat) (K0:List tWay→Option ((List tWay×Unit)×Unit)):Nat→(List tWay)→(Int)→(List tWay)→Option ((List tWay×Unit)×Unit) | 0=>(fun x0 x1 x2=>none) | m+1=>(fun x0 x1 x2=>qhu D n (qdk D n K0 m) K0 x0 x1 x2)
def qew (D:DX)(n:Nat) (v0_0:List tWay):Option ((List tWay×Unit)×Unit):=some ((v0_0,()),())
def qhh (D:DX)(n:Nat):(List tWay)→(Int)→(List tWay)→Option ((List tWay×Unit)×Unit):=(fun x0 x1 x2=>qdk D n (fun v0_0=>qew D n v0_0) n x0 x1 x2)
def qi4 (D:DX)(n:Nat) (lp0:List tWay→Int→List tWay→Option ((List tWay×Unit)×Unit)) (a0:List tWay):Option ((List tWay×Unit)×Unit):=br (decide (0≤(↑(List.length a0):Int))&&decide ((↑(List.length a0):Int)≤(↑(List.length a0):Int))&&decide ((↑(List.length a0):Int)≤(↑qbl:Int))) (lp0 a0 0 (List.replicate (Int.toNat (↑(List.length a0):Int)) (ByteArray.empty,ByteArray.empty,()))) none
def qi8 (D:DX)(n:Nat) (a0:List tWay):Option ((List tWay×Unit)×Unit):=qi4 D n (qhh D n) a0
def qdl (x0:List tWay) (x1:Int) (x2:List tWay):St:=stq 23 [(0,AV.val (Ty.sl (Ty.pair Ty.str (Ty.pair Ty.str Ty.unit))) x0),(3,AV.brw 3 [] 0),(4,avI x1)] [(3,Root.mk (Ty.sl (Ty.pair Ty.str (Ty.pair Ty.str Ty.unit))) (Mk.own 0 (Mk.pr Mk.no (Mk.pr Mk.no Mk.no))) x2 false)] 
def qeq (v0_0:List tWay):St:=stq 23 [(3,AV.brw 3 [] 0)] [(3,Root.mk (Ty.sl (Ty.pair Ty.str (Ty.pair Ty.str Ty.unit))) (Mk.own 0 (Mk.pr Mk.no (Mk.pr Mk.no Mk.no))) v0_0 false)] 
theorem qok (D:DX)(n:Nat) (m:Nat) (K:Ex→St→Option (Out ctx 7)) (x0:List tWay) (x1:Int) (x2:List tWay) :
 LQ qd D n 7 [.r,.r,.l,.r,.l] (m+1) (qdl x0 x1 x2) K=qhu D n (fun x0 x1 x2=>LQ qd D n 7 [.r,.r,.l,.r,.l] m (qdl x0 x1 x2) K) (fun v0_0=>K (Ex.exit 0) (qeq v0_0)) x0 x1 x2:=by kernel_rfl
theorem qke (D:DX)(n:Nat) (K:Ex→St→Option (Out ctx 7)):∀ (m:Nat) (x0:List tWay) (x1:Int) (x2:List tWay),LQ qd D n 7 [.r,.r,.l,.r,.l] m (qdl x0 x1 x2) K=qdk D n (fun v0_0=>K (Ex.exit 0) (qeq v0_0)) m x0 x1 x2
 | 0,x0,x1,x2=>qg2 ..
 | m+1,x0,x1,x2=>by
  have ih:(fun x0 x1 x2=>LQ qd D n 7 [.r,.r,.l,.r,.l] m (qdl x0 x1 x2) K)=qdk D n (fun v0_0=>K (Ex.exit 0) (qeq v0_0)) m:=by funext x0 x1 x2;exact qke D n K m x0 x1 x2
  rw[qok]
  rw[ih];rfl
theorem qnf (D:DX)(n:Nat) (v0_0:List tWay) :
 (CQ qd D n 7 [] [.r,.r,.l,.r,.l] (qbr qd 7)) (Ex.exit 0) (qeq v0_0)=qew D n v0_0:=by kernel_rfl
theorem qny (D:DX)(n:Nat) (x0:List tWay) (x1:Int) (x2:List tWay) :
 LQ qd D n 7 [.r,.r,.l,.r,.l] n (qdl x0 x1 x2) (CQ qd D n 7 [] [.r,.r,.l,.r,.l] (qbr qd 7))=qhh D n x0 x1 x2:=by
 rw[qke]
 simp only[qnf]
 rfl
theorem qqf (D:DX)(n:Nat) (a0:List tWay):rfC qd D n 7 (a0,())=qi8 D n a0:=by
 have h:rfC qd D n 7 (a0,())=qi4 D n (fun x0 x1 x2=>LQ qd D n 7 [.r,.r,.l,.r,.l] n (qdl x0 x1 x2) (CQ qd D n 7 [] [.r,.r,.l,.r,.l] (qbr qd 7))) a0:=by kernel_rfl
 rw[h]
 simp only[qny]
 rfl

def qrg (D:DX)(n:Nat) (a0:ByteArray×ByteArray×Unit):Option ((tWay×Unit)×Unit):=some (((Prod.fst a0,Prod.fst (Prod.snd a0),()),()),())
def qma (D:DX)(n:Nat) (a0:ByteArray×ByteArray×Unit):Option ((tWay×Unit)×Unit):=qrg D n a0
theorem qrq (D:DX)(n:Nat) (a0:ByteArray×ByteArray×Unit):rfC qd D n 8 (a0,())=qma D n a0:=by kernel_rfl

def qlo (D:DX)(n:Nat) (a0:List tWay) (a1:ByteArray×ByteArray×Unit):Option ((List tWay×Unit)×Unit):=qbf (qcg D a0) fun b↦qbf (qb1 D a0 (Clo.mk 16 [CapV.rptr (Ty.pair Ty.str (Ty.pair Ty.str Ty.unit)) a1])) fun b_1↦br (decide (Prod.fst (Prod.fst b_1)<0)) (qbf (qcd D (Prod.fst (Prod.fst b)) (↑(List.length a0):Int) [a1]) fun b↦some ((Prod.fst (Prod.fst b),()),())) (br (decide (0≤Prod.fst (Prod.fst b_1))&&decide (Prod.fst (Prod.fst b_1)<(↑(List.length a0):Int))) (br (qf1 (Ty.pair Ty.str (Ty.pair Ty.str Ty.unit)) (List.getD a0 (Int.toNat (Prod.fst (Prod.fst b_1))) (ByteArray.empty,ByteArray.empty,())) a1) (some ((Prod.fst (Prod.fst b),()),())) (qbf (qcd D (Prod.fst (Prod.fst b)) (Prod.fst (Prod.fst b_1)) [a1]) fun b↦some ((Prod.fst (Prod.fst b),()),()))) none)
def qi1 (D:DX)(n:Nat) (a0:List tWay) (a1:ByteArray×ByteArray×Unit):Option ((List tWay×Unit)×Unit):=qlo D n a0 a1
theorem qqg (D:DX)(n:Nat) (a0:List tWay) (a1:ByteArray×ByteArray×Unit):rfC qd D n 9 (a0,(a1,()))=qi1 D n a0 a1:=by kernel_rfl

def qh2 (D:DX)(n:Nat) (go:List tWay→List tWay→Int→Option ((Bool×Unit)×Unit)) (K0:Bool→Option ((Bool×Unit)×Unit)) (K1:Option ((Bool×Unit)×Unit)) (x0:List tWay) (x1:List tWay) (x2:Int):Option ((Bool×Unit)×Unit):=br (decide (x2<(↑(List.length x0):Int))) (br (decide (0≤x2)&&decide (x2<(↑(List.length x0):Int))) (br (decide (0≤x2)&&decide (x2<(↑(List.length x1):Int))) (qbf (qhe D (List.getD x0 (Int.toNat x2) (ByteArray.empty,ByteArray.empty,())) (List.getD x1 (Int.toNat x2) (ByteArray.empty,ByteArray.empty,()))) fun b↦br (!Prod.fst (Prod.fst b)) (K0 false) (go x0 x1 (IntKind.wrap IntKind.i64 (x2+1)))) none) none) K1
def qds (D:DX)(n:Nat) (K0:Bool→Option ((Bool×Unit)×Unit)) (K1:Option ((Bool×Unit)×Unit)):Nat→(List tWay)→(List tWay)→(Int)→Option ((Bool×Unit)×Unit) | 0=>(fun x0 x1 x2=>none) | m+1=>(fun x0 x1 x2=>qh2 D n (qds D n K0 K1 m) K0 K1 x0 x1 x2)
def qex (D:DX)(n:Nat) (v0_0:Bool):Option ((Bool×Unit)×Unit):=some ((v0_0,()),())
def qez (D:DX)(n:Nat):Option ((Bool×Unit)×Unit):=some ((true,()),())
def qg8 (D:DX)(n:Nat):(List tWay)→(List tWay)→(Int)→Option ((Bool×Unit)×Unit):=(fun x0 x1 x2=>qds D n (fun v0_0=>qex D n v0_0) (qez D n) n x0 x1 x2)
def qiz (D:DX)(n:Nat) (lp0:List tWay→List tWay→Int→Option ((Bool×Unit)×Unit)) (a0:List tWay) (a1:List tWay):Option ((Bool×Unit)×Unit):=br ((↑(List.length a0):Int) != (↑(List.length a1):Int)) (some ((false,()),())) (lp0 a0 a1 0)
def qiy (D:DX)(n:Nat) (a0:List tWay) (a1:List tWay):Option ((Bool×Unit)×Unit):=qiz D n (qg8 D n) a0 a1
def qdt (x0:List tWay) (x1:List tWay) (x2:Int):St:=stq 27 [(0,AV.val (Ty.sl (Ty.pair Ty.str (Ty.pair Ty.str Ty.unit))) x0),(1,AV.val (Ty.sl (Ty.pair Ty.str (Ty.pair Ty.str Ty.unit))) x1),(5,avI x2)] [] 
def qey (v0_0:Bool):St:=stq 27 [(4,AV.val Ty.bool v0_0)] [] 
def qe1:St:=stq 27 [] [] 
theorem qoh (D:DX)(n:Nat) (m:Nat) (K:Ex→St→Option (Out ctx 10)) (x0:List tWay) (x1:List tWay) (x2:Int) :
 LQ qd D n 10 [.r,.r,.l,.r,.l] (m+1) (qdt x0 x1 x2) K=qh2 D n (fun x0 x1 x2=>LQ qd D n 10 [.r,.r,.l,.r,.l] m (qdt x0 x1 x2) K) (fun v0_0=>K (Ex.ret) (qey v0_0)) (K (Ex.exit 0) (qe1)) x0 x1 x2:=by kernel_rfl
theorem qj4 (D:DX)(n:Nat) (K:Ex→St→Option (Out ctx 10)):∀ (m:Nat) (x0:List tWay) (x1:List tWay) (x2:Int),LQ qd D n 10 [.r,.r,.l,.r,.l] m (qdt x0 x1 x2) K=qds D n (fun v0_0=>K (Ex.ret) (qey v0_0)) (K (Ex.exit 0) (qe1)) m x0 x1 x2
 | 0,x0,x1,x2=>qg2 ..
 | m+1,x0,x1,x2=>by
  have ih:(fun x0 x1 x2=>LQ qd D n 10 [.r,.r,.l,.r,.l] m (qdt x0 x1 x2) K)=qds D n (fun v0_0=>K (Ex.ret) (qey v0_0)) (K (Ex.exit 0) (qe1)) m:=by funext x0 x1 x2;exact qj4 D n K m x0 x1 x2
  rw[qoh]
  rw[ih];rfl
theorem qnm (D:DX)(n:Nat) (v0_0:Bool) :
 (CQ qd D n 10 [] [.r,.r,.l,.r,.l] (qbr qd 10)) (Ex.ret) (qey v0_0)=qex D n v0_0:=by kernel_rfl
theorem qnl (D:DX)(n:Nat) :
 (CQ qd D n 10 [] [.r,.r,.l,.r,.l] (qbr qd 10)) (Ex.exit 0) (qe1)=qez D n:=by kernel_rfl
theorem qni (D:DX)(n:Nat) (x0:List tWay) (x1:List tWay) (x2:Int) :
 LQ qd D n 10 [.r,.r,.l,.r,.l] n (qdt x0 x1 x2) (CQ qd D n 10 [] [.r,.r,.l,.r,.l] (qbr qd 10))=qg8 D n x0 x1 x2:=by
 rw[qj4]
 simp only[qnm,qnl]
 rfl
theorem qqq (D:DX)(n:Nat) (a0:List tWay) (a1:List tWay):rfC qd D n 10 (a0,(a1,()))=qiy D n a0 a1:=by
 have h:rfC qd D n 10 (a0,(a1,()))=qiz D n (fun x0 x1 x2=>LQ qd D n 10 [.r,.r,.l,.r,.l] n (qdt x0 x1 x2) (CQ qd D n 10 [] [.r,.r,.l,.r,.l] (qbr qd 10))) a0 a1:=by kernel_rfl
 rw[h]
 simp only[qni]
 rfl

def qgq (D:DX)(n:Nat) (go:Int→Int→List tWay→Option ((Int×Unit)×List tWay×Unit)) (K0:Int→List tWay→Option ((Int×Unit)×List tWay×Unit)) (x0:Int) (x1:Int) (x2:List tWay):Option ((Int×Unit)×List tWay×Unit):=br (decide (x1<(↑(List.length x2):Int))) (qbf (qdd D x0) fun b↦br (decide (0≤x1)&&decide (x1<(↑(List.length x2):Int))) (qbf (qdd D (IntKind.wrap IntKind.i64 (x0+1))) fun b_1↦br (decide (0≤x1)&&decide (x1<(↑(List.length (List.set x2 (Int.toNat x1) (Prod.fst (Prod.fst b),Prod.snd (List.getD x2 (Int.toNat x1) (ByteArray.empty,ByteArray.empty,()))))):Int))) (go (IntKind.wrap IntKind.i64 (IntKind.wrap IntKind.i64 (x0+1)+1)) (IntKind.wrap IntKind.i64 (x1+1)) (List.set (List.set x2 (Int.toNat x1) (Prod.fst (Prod.fst b),Prod.snd (List.getD x2 (Int.toNat x1) (ByteArray.empty,ByteArray.empty,())))) (Int.toNat x1) (Prod.fst (List.getD (List.set x2 (Int.toNat x1) (Prod.fst (Prod.fst b),Prod.snd (List.getD x2 (Int.toNat x1) (ByteArray.empty,ByteArray.empty,())))) (Int.toNat x1) (ByteArray.empty,ByteArray.empty,())),Prod.fst (Prod.fst b_1),Prod.snd (Prod.snd (List.getD (List.set x2 (Int.toNat x1) (Prod.fst (Prod.fst b),Prod.snd (List.getD x2 (Int.toNat x1) (ByteArray.empty,ByteArray.empty,())))) (Int.toNat x1) (ByteArray.empty,ByteArray.empty,())))))) none) none) (K0 x0 x2)
def qc0 (D:DX)(n:Nat) (K0:Int→List tWay→Option ((Int×Unit)×List tWay×Unit)):Nat→(Int)→(Int)→(List tWay)→Option ((Int×Unit)×List tWay×Unit) | 0=>(fun x0 x1 x2=>none) | m+1=>(fun x0 x1 x2=>qgq D n (qc0 D n K0 m) K0 x0 x1 x2)
def qd3 (D:DX)(n:Nat) (v0_0:Int) (v0_1:List tWay):Option ((Int×Unit)×List tWay×Unit):=some ((v0_0,()),v0_1,())
def qga (D:DX)(n:Nat):(Int)→(Int)→(List tWay)→Option ((Int×Unit)×List tWay×Unit):=(fun x0 x1 x2=>qc0 D n (fun v0_0 v0_1=>qd3 D n v0_0 v0_1) n x0 x1 x2)
def qhc (D:DX)(n:Nat) (lp0:Int→Int→List tWay→Option ((Int×Unit)×List tWay×Unit)) (a0:List tWay) (a1:Int):Option ((Int×Unit)×List tWay×Unit):=lp0 a1 0 a0
def qhi (D:DX)(n:Nat) (a0:List tWay) (a1:Int):Option ((Int×Unit)×List tWay×Unit):=qhc D n (qga D n) a0 a1
def qcz (x0:Int) (x1:Int) (x2:List tWay):St:=stq 29 [(0,AV.brw 0 [] 1048576),(1,avI x0),(5,avI x1)] [(0,Root.mk (Ty.sl (Ty.pair Ty.str (Ty.pair Ty.str Ty.unit))) (Mk.own 1048576 (Mk.pr Mk.no (Mk.pr Mk.no Mk.no))) x2 false)] 
def qed (v0_0:Int) (v0_1:List tWay):St:=stq 29 [(0,AV.brw 0 [] 1048576),(1,avI v0_0)] [(0,Root.mk (Ty.sl (Ty.pair Ty.str (Ty.pair Ty.str Ty.unit))) (Mk.own 1048576 (Mk.pr Mk.no (Mk.pr Mk.no Mk.no))) v0_1 false)] 
theorem qmw (D:DX)(n:Nat) (m:Nat) (K:Ex→St→Option (Out ctx 11)) (x0:Int) (x1:Int) (x2:List tWay) :
 LQ qd D n 11 [.r,.l,.r,.l] (m+1) (qcz x0 x1 x2) K=qgq D n (fun x0 x1 x2=>LQ qd D n 11 [.r,.l,.r,.l] m (qcz x0 x1 x2) K) (fun v0_0 v0_1=>K (Ex.exit 0) (qed v0_0 v0_1)) x0 x1 x2:=by kernel_rfl
theorem qi9 (D:DX)(n:Nat) (K:Ex→St→Option (Out ctx 11)):∀ (m:Nat) (x0:Int) (x1:Int) (x2:List tWay),LQ qd D n 11 [.r,.l,.r,.l] m (qcz x0 x1 x2) K=qc0 D n (fun v0_0 v0_1=>K (Ex.exit 0) (qed v0_0 v0_1)) m x0 x1 x2
 | 0,x0,x1,x2=>qg2 ..
 | m+1,x0,x1,x2=>by
  have ih:(fun x0 x1 x2=>LQ qd D n 11 [.r,.l,.r,.l] m (qcz x0 x1 x2) K)=qc0 D n (fun v0_0 v0_1=>K (Ex.exit 0) (qed v0_0 v0_1)) m:=by funext x0 x1 x2;exact qi9 D n K m x0 x1 x2
  rw[qmw]
  rw[ih];rfl
theorem qme (D:DX)(n:Nat) (v0_0:Int) (v0_1:List tWay) :
 (CQ qd D n 11 [] [.r,.l,.r,.l] (qbr qd 11)) (Ex.exit 0) (qed v0_0 v0_1)=qd3 D n v0_0 v0_1:=by kernel_rfl
theorem qmb (D:DX)(n:Nat) (x0:Int) (x1:Int) (x2:List tWay) :
 LQ qd D n 11 [.r,.l,.r,.l] n (qcz x0 x1 x2) (CQ qd D n 11 [] [.r,.l,.r,.l] (qbr qd 11))=qga D n x0 x1 x2:=by
 rw[qi9]
 simp only[qme]
 rfl
theorem qoi (D:DX)(n:Nat) (a0:List tWay) (a1:Int):rfC qd D n 11 (a0,(a1,()))=qhi D n a0 a1:=by
 have h:rfC qd D n 11 (a0,(a1,()))=qhc D n (fun x0 x1 x2=>LQ qd D n 11 [.r,.l,.r,.l] n (qcz x0 x1 x2) (CQ qd D n 11 [] [.r,.l,.r,.l] (qbr qd 11))) a0 a1:=by kernel_rfl
 rw[h]
 simp only[qmb]
 rfl

def qgr (D:DX)(n:Nat) (go:List tWay→Int→Int→Option ((Int×Unit)×Unit)) (K0:Int→Int→Option ((Int×Unit)×Unit)) (K1:Int→Option ((Int×Unit)×Unit)) (x0:List tWay) (x1:Int) (x2:Int):Option ((Int×Unit)×Unit):=br (decide (x2<(↑(List.length x0):Int))) (br (decide (0≤x2)&&decide (x2<(↑(List.length x0):Int))) (qbf (qdd D x1) fun b↦br (!List.beq (ByteArray.toList (Prod.fst (List.getD x0 (Int.toNat x2) (ByteArray.empty,ByteArray.empty,())))) (ByteArray.toList (Prod.fst (Prod.fst b)))) (K0 x1 (-1)) (br (decide (0≤x2)&&decide (x2<(↑(List.length x0):Int))) (qbf (qdd D (IntKind.wrap IntKind.i64 (x1+1))) fun b↦br (!List.beq (ByteArray.toList (Prod.fst (Prod.snd (List.getD x0 (Int.toNat x2) (ByteArray.empty,ByteArray.empty,()))))) (ByteArray.toList (Prod.fst (Prod.fst b)))) (K0 (IntKind.wrap IntKind.i64 (x1+1)) (-1)) (go x0 (IntKind.wrap IntKind.i64 (IntKind.wrap IntKind.i64 (x1+1)+1)) (IntKind.wrap IntKind.i64 (x2+1)))) none)) none) (K1 x1)
def qc4 (D:DX)(n:Nat) (K0:Int→Int→Option ((Int×Unit)×Unit)) (K1:Int→Option ((Int×Unit)×Unit)):Nat→(List tWay)→(Int)→(Int)→Option ((Int×Unit)×Unit) | 0=>(fun x0 x1 x2=>none) | m+1=>(fun x0 x1 x2=>qgr D n (qc4 D n K0 K1 m) K0 K1 x0 x1 x2)
def qfw (D:DX)(n:Nat) (v0_0:Int) (v0_1:Int):Option ((Int×Unit)×Unit):=some ((v0_1,()),())
def qd4 (D:DX)(n:Nat) (v1_0:Int):Option ((Int×Unit)×Unit):=some ((v1_0,()),())
def qf9 (D:DX)(n:Nat):(List tWay)→(Int)→(Int)→Option ((Int×Unit)×Unit):=(fun x0 x1 x2=>qc4 D n (fun v0_0 v0_1=>qfw D n v0_0 v0_1) (fun v1_0=>qd4 D n v1_0) n x0 x1 x2)
def qhj (D:DX)(n:Nat) (lp0:List tWay→Int→Int→Option ((Int×Unit)×Unit)) (a0:List tWay) (a1:Int):Option ((Int×Unit)×Unit):=lp0 a0 a1 0
def qhd (D:DX)(n:Nat) (a0:List tWay) (a1:Int):Option ((Int×Unit)×Unit):=qhj D n (qf9 D n) a0 a1
def qc3 (x0:List tWay) (x1:Int) (x2:Int):St:=stq 33 [(0,AV.val (Ty.sl (Ty.pair Ty.str (Ty.pair Ty.str Ty.unit))) x0),(1,avI x1),(5,avI x2)] [] 
def qeb (v0_0:Int) (v0_1:Int):St:=stq 33 [(1,avI v0_0),(4,avI v0_1)] [] 
def qd7 (v1_0:Int):St:=stq 33 [(1,avI v1_0)] [] 
theorem qmy (D:DX)(n:Nat) (m:Nat) (K:Ex→St→Option (Out ctx 12)) (x0:List tWay) (x1:Int) (x2:Int) :
 LQ qd D n 12 [.r,.l,.r,.l] (m+1) (qc3 x0 x1 x2) K=qgr D n (fun x0 x1 x2=>LQ qd D n 12 [.r,.l,.r,.l] m (qc3 x0 x1 x2) K) (fun v0_0 v0_1=>K (Ex.ret) (qeb v0_0 v0_1)) (fun v1_0=>K (Ex.exit 0) (qd7 v1_0)) x0 x1 x2:=by kernel_rfl
theorem qjb (D:DX)(n:Nat) (K:Ex→St→Option (Out ctx 12)):∀ (m:Nat) (x0:List tWay) (x1:Int) (x2:Int),LQ qd D n 12 [.r,.l,.r,.l] m (qc3 x0 x1 x2) K=qc4 D n (fun v0_0 v0_1=>K (Ex.ret) (qeb v0_0 v0_1)) (fun v1_0=>K (Ex.exit 0) (qd7 v1_0)) m x0 x1 x2
 | 0,x0,x1,x2=>qg2 ..
 | m+1,x0,x1,x2=>by
  have ih:(fun x0 x1 x2=>LQ qd D n 12 [.r,.l,.r,.l] m (qc3 x0 x1 x2) K)=qc4 D n (fun v0_0 v0_1=>K (Ex.ret) (qeb v0_0 v0_1)) (fun v1_0=>K (Ex.exit 0) (qd7 v1_0)) m:=by funext x0 x1 x2;exact qjb D n K m x0 x1 x2
  rw[qmy]
  rw[ih];rfl
theorem qlv (D:DX)(n:Nat) (v0_0:Int) (v0_1:Int) :
 (CQ qd D n 12 [] [.r,.l,.r,.l] (qbr qd 12)) (Ex.ret) (qeb v0_0 v0_1)=qfw D n v0_0 v0_1:=by kernel_rfl
theorem ql3 (D:DX)(n:Nat) (v1_0:Int) :
 (CQ qd D n 12 [] [.r,.l,.r,.l] (qbr qd 12)) (Ex.exit 0) (qd7 v1_0)=qd4 D n v1_0:=by kernel_rfl
theorem ql6 (D:DX)(n:Nat) (x0:List tWay) (x1:Int) (x2:Int) :
 LQ qd D n 12 [.r,.l,.r,.l] n (qc3 x0 x1 x2) (CQ qd D n 12 [] [.r,.l,.r,.l] (qbr qd 12))=qf9 D n x0 x1 x2:=by
 rw[qjb]
 simp only[qlv,ql3]
 rfl
theorem qoc (D:DX)(n:Nat) (a0:List tWay) (a1:Int):rfC qd D n 12 (a0,(a1,()))=qhd D n a0 a1:=by
 have h:rfC qd D n 12 (a0,(a1,()))=qhj D n (fun x0 x1 x2=>LQ qd D n 12 [.r,.l,.r,.l] n (qc3 x0 x1 x2) (CQ qd D n 12 [] [.r,.l,.r,.l] (qbr qd 12))) a0 a1:=by kernel_rfl
 rw[h]
 simp only[ql6]
 rfl

def qpj (D:DX)(n:Nat) (a0:ByteArray×ByteArray×Unit) (a1:ByteArray×ByteArray×Unit):Option ((Bool×Unit)×Unit):=some ((bif Op.bytesLess (ByteArray.toList (Prod.fst a0)) (ByteArray.toList (Prod.fst a1)) then true else bif List.beq (ByteArray.toList (Prod.fst a0)) (ByteArray.toList (Prod.fst a1)) then Op.bytesLess (ByteArray.toList (Prod.fst (Prod.snd a0))) (ByteArray.toList (Prod.fst (Prod.snd a1))) else false,()),())
def qku (D:DX)(n:Nat) (a0:ByteArray×ByteArray×Unit) (a1:ByteArray×ByteArray×Unit):Option ((Bool×Unit)×Unit):=qpj D n a0 a1
theorem qpc (D:DX)(n:Nat) (a0:ByteArray×ByteArray×Unit) (a1:ByteArray×ByteArray×Unit):rfC qd D n 13 (a0,(a1,()))=qku D n a0 a1:=by kernel_rfl

def qdv (D:DX)(n:Nat) (a0:List tWay):Option ((List tWay×Unit)×Unit):=br (decide (Int.toNat (↑(List.length a0):Int)=0)) (both (some (([],()),())) (br (decide (0+List.length a0≤qbl)) (some (([]++a0,()),())) none)) (br (decide (0+List.length a0≤qbl)) (some (([]++a0,()),())) none)
def qch (D:DX)(n:Nat) (a0:List tWay):Option ((List tWay×Unit)×Unit):=qdv D n a0
theorem qgm (D:DX)(n:Nat) (a0:List tWay):rfC qd D n 14 (a0,())=qch D n a0:=by kernel_rfl

def qbx (D:DX)(n:Nat) (a1:Clo) (go:List tWay→Int→Int→Option ((Int×Unit)×Unit)) (K0:Int→Option ((Int×Unit)×Unit)) (K1:Option ((Int×Unit)×Unit)) (x0:List tWay) (x1:Int) (x2:Int):Option ((Int×Unit)×Unit):=br (decide (x2<x1)) (br (decide (0≤x2)&&decide (x2<(↑(List.length x0):Int))) (qbf (qfm ctx D a1 [CapV.val (Ty.pair Ty.str (Ty.pair Ty.str Ty.unit)) (List.getD x0 (Int.toNat x2) (ByteArray.empty,ByteArray.empty,()))] Ty.bool) fun b↦br b (K0 x2) (go x0 x1 (IntKind.wrap IntKind.i64 (x2+1)))) none) K1
def qv (D:DX)(n:Nat) (a1:Clo) (K0:Int→Option ((Int×Unit)×Unit)) (K1:Option ((Int×Unit)×Unit)):Nat→(List tWay)→(Int)→(Int)→Option ((Int×Unit)×Unit) | 0=>(fun x0 x1 x2=>none) | m+1=>(fun x0 x1 x2=>qbx D n a1 (qv D n a1 K0 K1 m) K0 K1 x0 x1 x2)
def qcu (D:DX)(n:Nat) (a1:Clo) (v0_0:Int):Option ((Int×Unit)×Unit):=some ((v0_0,()),())
def qcv (D:DX)(n:Nat) (a1:Clo):Option ((Int×Unit)×Unit):=some ((-1,()),())
def qbt (D:DX)(n:Nat) (a1:Clo):(List tWay)→(Int)→(Int)→Option ((Int×Unit)×Unit):=(fun x0 x1 x2=>qv D n a1 (fun v0_0=>qcu D n a1 v0_0) (qcv D n a1) n x0 x1 x2)
def qb0 (D:DX)(n:Nat) (a1:Clo) (lp0:List tWay→Int→Int→Option ((Int×Unit)×Unit)) (a0:List tWay):Option ((Int×Unit)×Unit):=lp0 a0 (↑(List.length a0):Int) 0
def qb3 (D:DX)(n:Nat) (a0:List tWay) (a1:Clo):Option ((Int×Unit)×Unit):=qb0 D n a1 (qbt D n a1) a0
def qu (a1:Clo) (x0:List tWay) (x1:Int) (x2:Int):St:=stq 19 [(0,AV.val (Ty.sl (Ty.pair Ty.str (Ty.pair Ty.str Ty.unit))) x0),(1,AV.cloV a1),(7,avI x1),(8,avI x2)] [] 
def qbd (a1:Clo) (v0_0:Int):St:=stq 19 [(4,avI v0_0)] [] 
def qbc (a1:Clo):St:=stq 19 [] [] 
theorem qff (D:DX)(n:Nat) (a1:Clo) (m:Nat) (K:Ex→St→Option (Out ctx 15)) (x0:List tWay) (x1:Int) (x2:Int) :
 LQ qd D n 15 [.r,.l,.r,.l] (m+1) (qu a1 x0 x1 x2) K=qbx D n a1 (fun x0 x1 x2=>LQ qd D n 15 [.r,.l,.r,.l] m (qu a1 x0 x1 x2) K) (fun v0_0=>K (Ex.ret) (qbd a1 v0_0)) (K (Ex.exit 0) (qbc a1)) x0 x1 x2:=by kernel_rfl
theorem qcx (D:DX)(n:Nat) (a1:Clo) (K:Ex→St→Option (Out ctx 15)):∀ (m:Nat) (x0:List tWay) (x1:Int) (x2:Int),LQ qd D n 15 [.r,.l,.r,.l] m (qu a1 x0 x1 x2) K=qv D n a1 (fun v0_0=>K (Ex.ret) (qbd a1 v0_0)) (K (Ex.exit 0) (qbc a1)) m x0 x1 x2
 | 0,x0,x1,x2=>qg2 ..
 | m+1,x0,x1,x2=>by
  have ih:(fun x0 x1 x2=>LQ qd D n 15 [.r,.l,.r,.l] m (qu a1 x0 x1 x2) K)=qv D n a1 (fun v0_0=>K (Ex.ret) (qbd a1 v0_0)) (K (Ex.exit 0) (qbc a1)) m:=by funext x0 x1 x2;exact qcx D n a1 K m x0 x1 x2
  rw[qff]
  rw[ih];rfl
theorem qe8 (D:DX)(n:Nat) (a1:Clo) (v0_0:Int) :
 (CQ qd D n 15 [] [.r,.l,.r,.l] (qbr qd 15)) (Ex.ret) (qbd a1 v0_0)=qcu D n a1 v0_0:=by kernel_rfl
theorem qe7 (D:DX)(n:Nat) (a1:Clo) :
 (CQ qd D n 15 [] [.r,.l,.r,.l] (qbr qd 15)) (Ex.exit 0) (qbc a1)=qcv D n a1:=by kernel_rfl
theorem qe9 (D:DX)(n:Nat) (a1:Clo) (x0:List tWay) (x1:Int) (x2:Int) :
 LQ qd D n 15 [.r,.l,.r,.l] n (qu a1 x0 x1 x2) (CQ qd D n 15 [] [.r,.l,.r,.l] (qbr qd 15))=qbt D n a1 x0 x1 x2:=by
 rw[qcx]
 simp only[qe8,qe7]
 rfl
theorem qfo (D:DX)(n:Nat) (a0:List tWay) (a1:Clo):rfC qd D n 15 (a0,(a1,()))=qb3 D n a0 a1:=by
 have h:rfC qd D n 15 (a0,(a1,()))=qb0 D n a1 (fun x0 x1 x2=>LQ qd D n 15 [.r,.l,.r,.l] n (qu a1 x0 x1 x2) (CQ qd D n 15 [] [.r,.l,.r,.l] (qbr qd 15))) a0:=by kernel_rfl
 rw[h]
 simp only[qe9]
 rfl

def qj7 (D:DX)(n:Nat) (a0:ByteArray×ByteArray×Unit) (a1:ByteArray×ByteArray×Unit):Option ((Bool×Unit)×Unit):=qbf (qh7 D a0 a1) fun b↦some ((!Prod.fst (Prod.fst b),()),())
def qhk (D:DX)(n:Nat) (a0:ByteArray×ByteArray×Unit) (a1:ByteArray×ByteArray×Unit):Option ((Bool×Unit)×Unit):=qj7 D n a0 a1
theorem qo4 (D:DX)(n:Nat) (a0:ByteArray×ByteArray×Unit) (a1:ByteArray×ByteArray×Unit):rfC qd D n 16 (a0,(a1,()))=qhk D n a0 a1:=by kernel_rfl

def qpf (D:DX)(n:Nat) (a0:ByteArray×ByteArray×Unit) (a1:ByteArray×ByteArray×Unit):Option ((Bool×Unit)×Unit):=some ((bif Op.bytesLess (ByteArray.toList (Prod.fst a0)) (ByteArray.toList (Prod.fst a1)) then true else bif List.beq (ByteArray.toList (Prod.fst a0)) (ByteArray.toList (Prod.fst a1)) then Op.bytesLess (ByteArray.toList (Prod.fst (Prod.snd a0))) (ByteArray.toList (Prod.fst (Prod.snd a1))) else false,()),())
def qkw (D:DX)(n:Nat) (a0:ByteArray×ByteArray×Unit) (a1:ByteArray×ByteArray×Unit):Option ((Bool×Unit)×Unit):=qpf D n a0 a1
theorem qpn (D:DX)(n:Nat) (a0:ByteArray×ByteArray×Unit) (a1:ByteArray×ByteArray×Unit):rfC qd D n 17 (a0,(a1,()))=qkw D n a0 a1:=by kernel_rfl

def ql9 (D:DX)(n:Nat) (a0:ByteArray×ByteArray×Unit) (a1:ByteArray×ByteArray×Unit):Option ((Bool×Unit)×Unit):=br (!List.beq (ByteArray.toList (Prod.fst a0)) (ByteArray.toList (Prod.fst a1))) (some ((false,()),())) (br (!List.beq (ByteArray.toList (Prod.fst (Prod.snd a0))) (ByteArray.toList (Prod.fst (Prod.snd a1)))) (some ((false,()),())) (some ((true,()),())))
def qj0 (D:DX)(n:Nat) (a0:ByteArray×ByteArray×Unit) (a1:ByteArray×ByteArray×Unit):Option ((Bool×Unit)×Unit):=ql9 D n a0 a1
theorem qr8 (D:DX)(n:Nat) (a0:ByteArray×ByteArray×Unit) (a1:ByteArray×ByteArray×Unit):rfC qd D n 19 (a0,(a1,()))=qj0 D n a0 a1:=by kernel_rfl

def qe3 (D:DX)(n:Nat) (go:Int→ByteArray→Option ((ByteArray×Unit)×Unit)) (K0:ByteArray→Option ((ByteArray×Unit)×Unit)) (x0:Int) (x1:ByteArray):Option ((ByteArray×Unit)×Unit):=br (decide (x0>0)) (br (decide (ByteArray.size (ByteArray.mk (List.toArray (List.map (fun n↦UInt8.ofNat (Int.toNat n)) [IntKind.wrap IntKind.u8 (IntKind.wrap IntKind.i64 (48+Int.tmod x0 10))])))+ByteArray.size x1≤Nat.pow 2 47)) (go (IntKind.wrap IntKind.i64 (Int.tdiv x0 10)) (ByteArray.append (ByteArray.mk (List.toArray (List.map (fun n↦UInt8.ofNat (Int.toNat n)) [IntKind.wrap IntKind.u8 (IntKind.wrap IntKind.i64 (48+Int.tmod x0 10))]))) x1)) none) (K0 x1)
def qcf (D:DX)(n:Nat) (K0:ByteArray→Option ((ByteArray×Unit)×Unit)):Nat→(Int)→(ByteArray)→Option ((ByteArray×Unit)×Unit) | 0=>(fun x0 x1=>none) | m+1=>(fun x0 x1=>qe3 D n (qcf D n K0 m) K0 x0 x1)
def qfq (D:DX)(n:Nat) (v0_0:ByteArray):Option ((ByteArray×Unit)×Unit):=br (decide (ByteArray.size (ByteArray.mk #[UInt8.ofNat 109])+ByteArray.size v0_0≤Nat.pow 2 47)) (some ((ByteArray.append (ByteArray.mk #[UInt8.ofNat 109]) v0_0,()),())) none
def qgb (D:DX)(n:Nat):(Int)→(ByteArray)→Option ((ByteArray×Unit)×Unit):=(fun x0 x1=>qcf D n (fun v0_0=>qfq D n v0_0) n x0 x1)
def qhq (D:DX)(n:Nat) (lp0:Int→ByteArray→Option ((ByteArray×Unit)×Unit)) (a0:Int):Option ((ByteArray×Unit)×Unit):=br (decide (a0≤0)) (some ((ByteArray.mk #[UInt8.ofNat 109,UInt8.ofNat 48],()),())) (lp0 a0 (ByteArray.mk #[]))
def qhp (D:DX)(n:Nat) (a0:Int):Option ((ByteArray×Unit)×Unit):=qhq D n (qgb D n) a0
def qc2 (x0:Int) (x1:ByteArray):St:=stq 20 [(0,avI x0),(3,AV.val Ty.str x1)] [] 
def qd5 (v0_0:ByteArray):St:=stq 20 [(3,AV.val Ty.str v0_0)] [] 
theorem qmz (D:DX)(n:Nat) (m:Nat) (K:Ex→St→Option (Out ctx 20)) (x0:Int) (x1:ByteArray) :
 LQ qd D n 20 [.r,.r,.r,.l,.l] (m+1) (qc2 x0 x1) K=qe3 D n (fun x0 x1=>LQ qd D n 20 [.r,.r,.r,.l,.l] m (qc2 x0 x1) K) (fun v0_0=>K (Ex.exit 0) (qd5 v0_0)) x0 x1:=by kernel_rfl
theorem qja (D:DX)(n:Nat) (K:Ex→St→Option (Out ctx 20)):∀ (m:Nat) (x0:Int) (x1:ByteArray),LQ qd D n 20 [.r,.r,.r,.l,.l] m (qc2 x0 x1) K=qcf D n (fun v0_0=>K (Ex.exit 0) (qd5 v0_0)) m x0 x1
 | 0,x0,x1=>qg2 ..
 | m+1,x0,x1=>by
  have ih:(fun x0 x1=>LQ qd D n 20 [.r,.r,.r,.l,.l] m (qc2 x0 x1) K)=qcf D n (fun v0_0=>K (Ex.exit 0) (qd5 v0_0)) m:=by funext x0 x1;exact qja D n K m x0 x1
  rw[qmz]
  rw[ih];rfl
theorem ql1 (D:DX)(n:Nat) (v0_0:ByteArray) :
 (CQ qd D n 20 [] [.r,.r,.r,.l,.l] (qbr qd 20)) (Ex.exit 0) (qd5 v0_0)=qfq D n v0_0:=by kernel_rfl
theorem ql8 (D:DX)(n:Nat) (x0:Int) (x1:ByteArray) :
 LQ qd D n 20 [.r,.r,.r,.l,.l] n (qc2 x0 x1) (CQ qd D n 20 [] [.r,.r,.r,.l,.l] (qbr qd 20))=qgb D n x0 x1:=by
 rw[qja]
 simp only[ql1]
 rfl
theorem qop (D:DX)(n:Nat) (a0:Int):rfC qd D n 20 (a0,())=qhp D n a0:=by
 have h:rfC qd D n 20 (a0,())=qhq D n (fun x0 x1=>LQ qd D n 20 [.r,.r,.r,.l,.l] n (qc2 x0 x1) (CQ qd D n 20 [] [.r,.r,.r,.l,.l] (qbr qd 20))) a0:=by kernel_rfl
 rw[h]
 simp only[ql8]
 rfl
end
end Go.G

namespace Go.G
set_option maxRecDepth 100000
open Go Go.V Go.Proofs
def XOk (X:Ext):Prop:=∀ k:Nat,(Nat.beq k 18)=false→X.is k=false
theorem qk2 {X:Ext} (hX:XOk X) (n:Nat) (a0:List tWay) (a1:ByteArray×ByteArray×Unit):qhs (DD X (n+1)) a0 a1=qer (DD X n) n a0 a1:=(qcl X Try.func3 (by kernel_rfl) (hX 3 rfl) n _).trans (qk9 ..)
theorem qqi {X:Ext} (hX:XOk X) (n:Nat) (a0:List tWay) (a1:Int):qi2 (DD X (n+1)) a0 a1=qi5 (DD X n) n a0 a1:=(qcl X Try.func4 (by kernel_rfl) (hX 4 rfl) n _).trans (qqr ..)
theorem qrs {X:Ext} (hX:XOk X) (n:Nat) (a0:ByteArray×ByteArray×Unit) (a1:Int):qfu (DD X (n+1)) a0 a1=qjq (DD X n) n a0 a1:=(qcl X Try.func5 (by kernel_rfl) (hX 5 rfl) n _).trans (qrz ..)
theorem qqm {X:Ext} (hX:XOk X) (n:Nat) (a0:List tWay) (a1:ByteArray×ByteArray×Unit):qix (DD X (n+1)) a0 a1=qi7 (DD X n) n a0 a1:=(qcl X Try.func6 (by kernel_rfl) (hX 6 rfl) n _).trans (qqs ..)
theorem qqh {X:Ext} (hX:XOk X) (n:Nat) (a0:List tWay):qd0 (DD X (n+1)) a0=qi8 (DD X n) n a0:=(qcl X Try.func7 (by kernel_rfl) (hX 7 rfl) n _).trans (qqf ..)
theorem qr6 {X:Ext} (hX:XOk X) (n:Nat) (a0:ByteArray×ByteArray×Unit):qdu (DD X (n+1)) a0=qma (DD X n) n a0:=(qcl X Try.func8 (by kernel_rfl) (hX 8 rfl) n _).trans (qrq ..)
theorem qqj {X:Ext} (hX:XOk X) (n:Nat) (a0:List tWay) (a1:ByteArray×ByteArray×Unit):qgl (DD X (n+1)) a0 a1=qi1 (DD X n) n a0 a1:=(qcl X Try.func9 (by kernel_rfl) (hX 9 rfl) n _).trans (qqg ..)
theorem qqn {X:Ext} (hX:XOk X) (n:Nat) (a0:List tWay) (a1:List tWay):qdz (DD X (n+1)) a0 a1=qiy (DD X n) n a0 a1:=(qcl X Try.func10 (by kernel_rfl) (hX 10 rfl) n _).trans (qqq ..)
theorem qoa {X:Ext} (hX:XOk X) (n:Nat) (a0:List tWay) (a1:Int):qfh (DD X (n+1)) a0 a1=qhi (DD X n) n a0 a1:=(qcl X Try.func11 (by kernel_rfl) (hX 11 rfl) n _).trans (qoi ..)
theorem qoq {X:Ext} (hX:XOk X) (n:Nat) (a0:List tWay) (a1:Int):qfg (DD X (n+1)) a0 a1=qhd (DD X n) n a0 a1:=(qcl X Try.func12 (by kernel_rfl) (hX 12 rfl) n _).trans (qoc ..)
theorem qpi {X:Ext} (hX:XOk X) (n:Nat) (a0:ByteArray×ByteArray×Unit) (a1:ByteArray×ByteArray×Unit):qie (DD X (n+1)) a0 a1=qku (DD X n) n a0 a1:=(qcl X Try.func13 (by kernel_rfl) (hX 13 rfl) n _).trans (qpc ..)
theorem qgo {X:Ext} (hX:XOk X) (n:Nat) (a0:List tWay):qcg (DD X (n+1)) a0=qch (DD X n) n a0:=(qcl X Try.func14 (by kernel_rfl) (hX 14 rfl) n _).trans (qgm ..)
theorem qfx {X:Ext} (hX:XOk X) (n:Nat) (a0:List tWay) (a1:Clo):qb1 (DD X (n+1)) a0 a1=qb3 (DD X n) n a0 a1:=(qcl X Try.func15 (by kernel_rfl) (hX 15 rfl) n _).trans (qfo ..)
theorem qoe {X:Ext} (hX:XOk X) (n:Nat) (a0:ByteArray×ByteArray×Unit) (a1:ByteArray×ByteArray×Unit):qj8 (DD X (n+1)) a0 a1=qhk (DD X n) n a0 a1:=(qcl X Try.func16 (by kernel_rfl) (hX 16 rfl) n _).trans (qo4 ..)
theorem qpd {X:Ext} (hX:XOk X) (n:Nat) (a0:ByteArray×ByteArray×Unit) (a1:ByteArray×ByteArray×Unit):qh7 (DD X (n+1)) a0 a1=qkw (DD X n) n a0 a1:=(qcl X Try.func17 (by kernel_rfl) (hX 17 rfl) n _).trans (qpn ..)
theorem qq3 {X:Ext} (hX:XOk X) (n:Nat) (a0:ByteArray×ByteArray×Unit) (a1:ByteArray×ByteArray×Unit):qhe (DD X (n+1)) a0 a1=qj0 (DD X n) n a0 a1:=(qcl X Try.func19 (by kernel_rfl) (hX 19 rfl) n _).trans (qr8 ..)
theorem qor {X:Ext} (hX:XOk X) (n:Nat) (a0:Int):qdd (DD X (n+1)) a0=qhp (DD X n) n a0:=(qcl X Try.func20 (by kernel_rfl) (hX 20 rfl) n _).trans (qop ..)
end Go.G


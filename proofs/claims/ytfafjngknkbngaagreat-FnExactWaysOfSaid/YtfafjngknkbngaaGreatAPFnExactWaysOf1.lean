import Derived.Test.YtfafjngknkbngaaGreatAPFnExactWaysOf0
set_option linter.unusedVariables false
set_option linter.unusedSimpArgs false
set_option linter.unusedSectionVars false
namespace Go.G
set_option maxRecDepth 100000
set_option maxHeartbeats 0
open Go Go.V
noncomputable section
def qxb (D:DX)(n:Nat) (go:List Int→Int→List Int→Int→Int→tSch→Option ((Bool×Unit)×Unit)) (K0:List Int→Int→Bool→Option ((Bool×Unit)×Unit)) (K1:List Int→Int→Option ((Bool×Unit)×Unit)) (x0:List Int) (x1:Int) (x2:List Int) (x3:Int) (x4:Int) (x5:tSch):Option ((Bool×Unit)×Unit):=br (decide (x4<x3)) (br (decide (0≤x4)&&decide (x4<(↑(List.length x2):Int))) (qi (qf1 D (List.getD x2 (Int.toNat x4) 0) 0 (IntKind.wrap IntKind.i64 ((↑(List.length (Prod.fst x5)):Int) - 1))) fun b↦br (!Prod.fst (Prod.fst b)) (K0 x0 x1 false) (br (decide (0≤0)&&decide (0≤x4)&&decide (x4≤(↑(List.length x0):Int))) (qi (qkh D (List.drop (Int.toNat 0) (List.take (Int.toNat x4) x0)) (List.getD x2 (Int.toNat x4) 0)) fun b↦br (Prod.fst (Prod.fst b)) (K0 x0 x1 false) (go x0 x1 x2 x3 (IntKind.wrap IntKind.i64 (x4+1)) x5)) none)) none) (K1 x0 x1)
def qis (D:DX)(n:Nat) (K0:List Int→Int→Bool→Option ((Bool×Unit)×Unit)) (K1:List Int→Int→Option ((Bool×Unit)×Unit)):Nat→(List Int)→(Int)→(List Int)→(Int)→(Int)→(tSch)→Option ((Bool×Unit)×Unit) | 0=>(fun x0 x1 x2 x3 x4 x5=>none) | m+1=>(fun x0 x1 x2 x3 x4 x5=>qxb D n (qis D n K0 K1 m) K0 K1 x0 x1 x2 x3 x4 x5)
def q22 (D:DX)(n:Nat) (v0_0:List Int) (v0_1:Int) (v0_2:Bool):Option ((Bool×Unit)×Unit):=some ((v0_2,()),())
def qso (D:DX)(n:Nat) (v1_0:List Int) (v1_1:Int):Option ((Bool×Unit)×Unit):=qi (qf1 D (↑(List.length v1_0):Int) 1 v1_1) fun b↦some ((Prod.fst (Prod.fst b),()),())
def qub (D:DX)(n:Nat):(List Int)→(Int)→(List Int)→(Int)→(Int)→(tSch)→Option ((Bool×Unit)×Unit):=(fun x0 x1 x2 x3 x4 x5=>qis D n (fun v0_0 v0_1 v0_2=>q22 D n v0_0 v0_1 v0_2) (fun v1_0 v1_1=>qso D n v1_0 v1_1) n x0 x1 x2 x3 x4 x5)
def qx8 (D:DX)(n:Nat) (lp0:List Int→Int→List Int→Int→Int→tSch→Option ((Bool×Unit)×Unit)) (a0:tSch) (a1:List Int) (a2:Int):Option ((Bool×Unit)×Unit):=lp0 a1 a2 a1 (↑(List.length a1):Int) 0 a0
def qzi (D:DX)(n:Nat) (a0:tSch) (a1:List Int) (a2:Int):Option ((Bool×Unit)×Unit):=qx8 D n (qub D n) a0 a1 a2
def qi1 (x0:List Int) (x1:Int) (x2:List Int) (x3:Int) (x4:Int) (x5:tSch):St:=stq 35 [(1,AV.val (Ty.sl yI) x0),(2,avI x1),(3,AV.addr 3 []),(9,AV.val (Ty.sl yI) x2),(10,avI x3),(11,avI x4)] [(3,Root.mk yS Mk.no x5 true)] 
def qm9 (v0_0:List Int) (v0_1:Int) (v0_2:Bool):St:=stq 35 [(1,AV.val (Ty.sl yI) v0_0),(2,avI v0_1),(6,AV.val Ty.bool v0_2)] [] 
def qm6 (v1_0:List Int) (v1_1:Int):St:=stq 35 [(1,AV.val (Ty.sl yI) v1_0),(2,avI v1_1)] [] 
theorem qbgx (D:DX)(n:Nat) (m:Nat) (K:Ex→St→Option (Out ctx 148)) (x0:List Int) (x1:Int) (x2:List Int) (x3:Int) (x4:Int) (x5:tSch) :
 LQ qc D n 148 [.r,.l,.r,.l] (m+1) (qi1 x0 x1 x2 x3 x4 x5) K=qxb D n (fun x0 x1 x2 x3 x4 x5=>LQ qc D n 148 [.r,.l,.r,.l] m (qi1 x0 x1 x2 x3 x4 x5) K) (fun v0_0 v0_1 v0_2=>K (Ex.ret) (qm9 v0_0 v0_1 v0_2)) (fun v1_0 v1_1=>K (Ex.exit 0) (qm6 v1_0 v1_1)) x0 x1 x2 x3 x4 x5:=by kernel_rfl
theorem q4x (D:DX)(n:Nat) (K:Ex→St→Option (Out ctx 148)):∀ (m:Nat) (x0:List Int) (x1:Int) (x2:List Int) (x3:Int) (x4:Int) (x5:tSch),LQ qc D n 148 [.r,.l,.r,.l] m (qi1 x0 x1 x2 x3 x4 x5) K=qis D n (fun v0_0 v0_1 v0_2=>K (Ex.ret) (qm9 v0_0 v0_1 v0_2)) (fun v1_0 v1_1=>K (Ex.exit 0) (qm6 v1_0 v1_1)) m x0 x1 x2 x3 x4 x5
 | 0,x0,x1,x2,x3,x4,x5=>qu ..
 | m+1,x0,x1,x2,x3,x4,x5=>by
  have ih:(fun x0 x1 x2 x3 x4 x5=>LQ qc D n 148 [.r,.l,.r,.l] m (qi1 x0 x1 x2 x3 x4 x5) K)=qis D n (fun v0_0 v0_1 v0_2=>K (Ex.ret) (qm9 v0_0 v0_1 v0_2)) (fun v1_0 v1_1=>K (Ex.exit 0) (qm6 v1_0 v1_1)) m:=by funext x0 x1 x2 x3 x4 x5;exact q4x D n K m x0 x1 x2 x3 x4 x5
  rw[qbgx]
  rw[ih];rfl
theorem qbcu (D:DX)(n:Nat) (v0_0:List Int) (v0_1:Int) (v0_2:Bool) :
 (CQ qc D n 148 [] [.r,.l,.r,.l] (qh qc 148)) (Ex.ret) (qm9 v0_0 v0_1 v0_2)=q22 D n v0_0 v0_1 v0_2:=by kernel_rfl
theorem qbd3 (D:DX)(n:Nat) (v1_0:List Int) (v1_1:Int) :
 (CQ qc D n 148 [] [.r,.l,.r,.l] (qh qc 148)) (Ex.exit 0) (qm6 v1_0 v1_1)=qso D n v1_0 v1_1:=by kernel_rfl
theorem qbex (D:DX)(n:Nat) (x0:List Int) (x1:Int) (x2:List Int) (x3:Int) (x4:Int) (x5:tSch) :
 LQ qc D n 148 [.r,.l,.r,.l] n (qi1 x0 x1 x2 x3 x4 x5) (CQ qc D n 148 [] [.r,.l,.r,.l] (qh qc 148))=qub D n x0 x1 x2 x3 x4 x5:=by
 rw[q4x]
 simp only[qbcu,qbd3]
 rfl
theorem qbjq (D:DX)(n:Nat) (a0:tSch) (a1:List Int) (a2:Int):rfC qc D n 148 (a0,(a1,(a2,())))=qzi D n a0 a1 a2:=by
 have h:rfC qc D n 148 (a0,(a1,(a2,())))=qx8 D n (fun x0 x1 x2 x3 x4 x5=>LQ qc D n 148 [.r,.l,.r,.l] n (qi1 x0 x1 x2 x3 x4 x5) (CQ qc D n 148 [] [.r,.l,.r,.l] (qh qc 148))) a0 a1 a2:=by kernel_rfl
 rw[h]
 simp only[qbex]
 rfl

def q42 (D:DX)(n:Nat) (a0:ByteArray×List Int×Bool×Unit) (a1:ByteArray×List Int×Bool×Unit):Option ((Bool×Unit)×Unit):=some ((List.beq (ByteArray.toList (Prod.fst a0)) (ByteArray.toList (Prod.fst a1)),()),())
def quh (D:DX)(n:Nat) (a0:ByteArray×List Int×Bool×Unit) (a1:ByteArray×List Int×Bool×Unit):Option ((Bool×Unit)×Unit):=q42 D n a0 a1
theorem qbfi (D:DX)(n:Nat) (a0:ByteArray×List Int×Bool×Unit) (a1:ByteArray×List Int×Bool×Unit):rfC qc D n 149 (a0,(a1,()))=quh D n a0 a1:=by kernel_rfl

def qn7 (D:DX)(n:Nat) (a1:Clo) (a0:List Int):Option ((Bool×Unit)×Unit):=qi (qj6 D a0 a1) fun b↦some ((decide (Prod.fst (Prod.fst b)≥0),()),())
def qh7 (D:DX)(n:Nat) (a0:List Int) (a1:Clo):Option ((Bool×Unit)×Unit):=qn7 D n a1 a0
theorem q0h (D:DX)(n:Nat) (a0:List Int) (a1:Clo):rfC qc D n 150 (a0,(a1,()))=qh7 D n a0 a1:=by kernel_rfl

def q46 (D:DX)(n:Nat) (a0:Int) (a1:tSch):Option ((Bool×Unit)×Unit):=br (decide (0≤a0)&&decide (a0<(↑(List.length (Prod.fst a1)):Int))) (some ((Prod.fst (Prod.snd (Prod.snd (List.getD (Prod.fst a1) (Int.toNat a0) (ByteArray.empty,0,false,())))),()),())) none
def que (D:DX)(n:Nat) (a0:Int) (a1:tSch):Option ((Bool×Unit)×Unit):=q46 D n a0 a1
theorem qbff (D:DX)(n:Nat) (a0:Int) (a1:tSch):rfC qc D n 151 (a0,(a1,()))=que D n a0 a1:=by kernel_rfl



def q8t (D:DX)(n:Nat) (a0:Int×Int×ByteArray×Unit):Option ((Bool×Unit)×Unit):=br (decide (Prod.fst a0=0)) (some ((bif decide (Prod.fst (Prod.snd a0)=0) then List.beq (ByteArray.toList (Prod.fst (Prod.snd (Prod.snd a0)))) (ByteArray.toList (ByteArray.mk #[])) else false,()),())) (br (decide (Prod.fst a0=1)) (qi (qf0 D (Prod.fst (Prod.snd a0)) 0 1) fun b↦some ((bif Prod.fst (Prod.fst b) then List.beq (ByteArray.toList (Prod.fst (Prod.snd (Prod.snd a0)))) (ByteArray.toList (ByteArray.mk #[])) else false,()),())) (br (decide (Prod.fst a0=2)) (qi (qf0 D (Prod.fst (Prod.snd a0)) (-1000000000000) 1000000000000) fun b↦some ((bif Prod.fst (Prod.fst b) then List.beq (ByteArray.toList (Prod.fst (Prod.snd (Prod.snd a0)))) (ByteArray.toList (ByteArray.mk #[])) else false,()),())) (br (decide (Prod.fst a0=3)) (some ((bif decide (Prod.fst (Prod.snd a0)=0) then decide ((↑(ByteArray.size (Prod.fst (Prod.snd (Prod.snd a0)))):Int)≤20) else false,()),())) (some ((false,()),())))))
def q02 (D:DX)(n:Nat) (a0:Int×Int×ByteArray×Unit):Option ((Bool×Unit)×Unit):=q8t D n a0
theorem qbnd (D:DX)(n:Nat) (a0:Int×Int×ByteArray×Unit):rfC qc D n 158 (a0,())=q02 D n a0:=by kernel_rfl

def q0c (D:DX)(n:Nat) (go:qd→qd→Int→Option ((Bool×Unit)×Unit)) (K0:qd→qd→Bool→Option ((Bool×Unit)×Unit)) (K1:qd→qd→Option ((Bool×Unit)×Unit)) (x0:qd) (x1:qd) (x2:Int):Option ((Bool×Unit)×Unit):=br (bif decide (x2<(↑(List.length x0):Int)) then decide (x2<(↑(List.length x1):Int)) else false) (br (decide (0≤x2)&&decide (x2<(↑(List.length x0):Int))) (br (decide (0≤x2)&&decide (x2<(↑(List.length x1):Int))) (qi (qpr D (List.getD x0 (Int.toNat x2) (0,0,ByteArray.empty,())) (List.getD x1 (Int.toNat x2) (0,0,ByteArray.empty,()))) fun b↦br (!Prod.fst (Prod.fst b)) (K0 x0 x1 false) (go x0 x1 (IntKind.wrap IntKind.i64 (x2+1)))) none) none) (K1 x0 x1)
def qjr (D:DX)(n:Nat) (K0:qd→qd→Bool→Option ((Bool×Unit)×Unit)) (K1:qd→qd→Option ((Bool×Unit)×Unit)):Nat→(qd)→(qd)→(Int)→Option ((Bool×Unit)×Unit) | 0=>(fun x0 x1 x2=>none) | m+1=>(fun x0 x1 x2=>q0c D n (qjr D n K0 K1 m) K0 K1 x0 x1 x2)
def qut (D:DX)(n:Nat) (v0_0:qd) (v0_1:qd) (v0_2:Bool):Option ((Bool×Unit)×Unit):=some ((v0_2,()),())
def qka (D:DX)(n:Nat) (v1_0:qd) (v1_1:qd):Option ((Bool×Unit)×Unit):=some ((decide ((↑(List.length v1_0):Int)=(↑(List.length v1_1):Int)),()),())
def qxj (D:DX)(n:Nat):(qd)→(qd)→(Int)→Option ((Bool×Unit)×Unit):=(fun x0 x1 x2=>qjr D n (fun v0_0 v0_1 v0_2=>qut D n v0_0 v0_1 v0_2) (fun v1_0 v1_1=>qka D n v1_0 v1_1) n x0 x1 x2)
def q1w (D:DX)(n:Nat) (lp0:qd→qd→Int→Option ((Bool×Unit)×Unit)) (a0:qd) (a1:qd):Option ((Bool×Unit)×Unit):=lp0 a0 a1 0
def q1k (D:DX)(n:Nat) (a0:qd) (a1:qd):Option ((Bool×Unit)×Unit):=q1w D n (qxj D n) a0 a1
def qj2 (x0:qd) (x1:qd) (x2:Int):St:=stq 33 [(0,AV.val (Ty.sl yV) x0),(1,AV.val (Ty.sl yV) x1),(5,avI x2)] [] 
def qot (v0_0:qd) (v0_1:qd) (v0_2:Bool):St:=stq 33 [(0,AV.val (Ty.sl yV) v0_0),(1,AV.val (Ty.sl yV) v0_1),(4,AV.val Ty.bool v0_2)] [] 
def qom (v1_0:qd) (v1_1:qd):St:=stq 33 [(0,AV.val (Ty.sl yV) v1_0),(1,AV.val (Ty.sl yV) v1_1)] [] 
theorem qbiv (D:DX)(n:Nat) (m:Nat) (K:Ex→St→Option (Out ctx 159)) (x0:qd) (x1:qd) (x2:Int) :
 LQ qc D n 159 [.r,.l,.r,.l] (m+1) (qj2 x0 x1 x2) K=q0c D n (fun x0 x1 x2=>LQ qc D n 159 [.r,.l,.r,.l] m (qj2 x0 x1 x2) K) (fun v0_0 v0_1 v0_2=>K (Ex.ret) (qot v0_0 v0_1 v0_2)) (fun v1_0 v1_1=>K (Ex.exit 0) (qom v1_0 v1_1)) x0 x1 x2:=by kernel_rfl
theorem q56 (D:DX)(n:Nat) (K:Ex→St→Option (Out ctx 159)):∀ (m:Nat) (x0:qd) (x1:qd) (x2:Int),LQ qc D n 159 [.r,.l,.r,.l] m (qj2 x0 x1 x2) K=qjr D n (fun v0_0 v0_1 v0_2=>K (Ex.ret) (qot v0_0 v0_1 v0_2)) (fun v1_0 v1_1=>K (Ex.exit 0) (qom v1_0 v1_1)) m x0 x1 x2
 | 0,x0,x1,x2=>qu ..
 | m+1,x0,x1,x2=>by
  have ih:(fun x0 x1 x2=>LQ qc D n 159 [.r,.l,.r,.l] m (qj2 x0 x1 x2) K)=qjr D n (fun v0_0 v0_1 v0_2=>K (Ex.ret) (qot v0_0 v0_1 v0_2)) (fun v1_0 v1_1=>K (Ex.exit 0) (qom v1_0 v1_1)) m:=by funext x0 x1 x2;exact q56 D n K m x0 x1 x2
  rw[qbiv]
  rw[ih];rfl
theorem qbfs (D:DX)(n:Nat) (v0_0:qd) (v0_1:qd) (v0_2:Bool) :
 (CQ qc D n 159 [] [.r,.l,.r,.l] (qh qc 159)) (Ex.ret) (qot v0_0 v0_1 v0_2)=qut D n v0_0 v0_1 v0_2:=by kernel_rfl
theorem qbgv (D:DX)(n:Nat) (v1_0:qd) (v1_1:qd) :
 (CQ qc D n 159 [] [.r,.l,.r,.l] (qh qc 159)) (Ex.exit 0) (qom v1_0 v1_1)=qka D n v1_0 v1_1:=by kernel_rfl
theorem qbfj (D:DX)(n:Nat) (x0:qd) (x1:qd) (x2:Int) :
 LQ qc D n 159 [.r,.l,.r,.l] n (qj2 x0 x1 x2) (CQ qc D n 159 [] [.r,.l,.r,.l] (qh qc 159))=qxj D n x0 x1 x2:=by
 rw[q56]
 simp only[qbfs,qbgv]
 rfl
theorem qbnn (D:DX)(n:Nat) (a0:qd) (a1:qd):rfC qc D n 159 (a0,(a1,()))=q1k D n a0 a1:=by
 have h:rfC qc D n 159 (a0,(a1,()))=q1w D n (fun x0 x1 x2=>LQ qc D n 159 [.r,.l,.r,.l] n (qj2 x0 x1 x2) (CQ qc D n 159 [] [.r,.l,.r,.l] (qh qc 159))) a0 a1:=by kernel_rfl
 rw[h]
 simp only[qbfj]
 rfl

def q59 (D:DX)(n:Nat) (a0:Int×Int×ByteArray×Unit) (a1:Int×Int×ByteArray×Unit):Option ((Bool×Unit)×Unit):=some ((qlj (Ty.pair (Ty.int IntKind.i64) (Ty.pair (Ty.int IntKind.i64) (Ty.pair Ty.str Ty.unit))) a0 a1,()),())
def qw9 (D:DX)(n:Nat) (a0:Int×Int×ByteArray×Unit) (a1:Int×Int×ByteArray×Unit):Option ((Bool×Unit)×Unit):=q59 D n a0 a1
theorem qbij (D:DX)(n:Nat) (a0:Int×Int×ByteArray×Unit) (a1:Int×Int×ByteArray×Unit):rfC qc D n 160 (a0,(a1,()))=qw9 D n a0 a1:=by kernel_rfl

def q7j (D:DX)(n:Nat) (a0:Int×Int×ByteArray×Unit) (a1:Int×Int×ByteArray×Unit):Option ((Bool×Unit)×Unit):=br (Prod.fst a0 != Prod.fst a1) (some ((decide (Prod.fst a0<Prod.fst a1),()),())) (br (Prod.fst (Prod.snd a0) != Prod.fst (Prod.snd a1)) (some ((decide (Prod.fst (Prod.snd a0)<Prod.fst (Prod.snd a1)),()),())) (some ((Op.bytesLess (ByteArray.toList (Prod.fst (Prod.snd (Prod.snd a0)))) (ByteArray.toList (Prod.fst (Prod.snd (Prod.snd a1)))),()),())))
def qxp (D:DX)(n:Nat) (a0:Int×Int×ByteArray×Unit) (a1:Int×Int×ByteArray×Unit):Option ((Bool×Unit)×Unit):=q7j D n a0 a1
theorem qbhx (D:DX)(n:Nat) (a0:Int×Int×ByteArray×Unit) (a1:Int×Int×ByteArray×Unit):rfC qc D n 161 (a0,(a1,()))=qxp D n a0 a1:=by kernel_rfl


def qzj (D:DX)(n:Nat) (go:qd→Int→Option ((Bool×Unit)×Unit)) (K0:Bool→Option ((Bool×Unit)×Unit)) (K1:Option ((Bool×Unit)×Unit)) (x0:qd) (x1:Int):Option ((Bool×Unit)×Unit):=br (decide (x1<(↑(List.length x0):Int))) (br (decide (0≤x1)&&decide (x1<(↑(List.length x0):Int))) (br (decide (Prod.fst (List.getD x0 (Int.toNat x1) (0,0,ByteArray.empty,()))=0)) (K0 true) (go x0 (IntKind.wrap IntKind.i64 (x1+1)))) none) K1
def qjt (D:DX)(n:Nat) (K0:Bool→Option ((Bool×Unit)×Unit)) (K1:Option ((Bool×Unit)×Unit)):Nat→(qd)→(Int)→Option ((Bool×Unit)×Unit) | 0=>(fun x0 x1=>none) | m+1=>(fun x0 x1=>qzj D n (qjt D n K0 K1 m) K0 K1 x0 x1)
def q47 (D:DX)(n:Nat) (v0_0:Bool):Option ((Bool×Unit)×Unit):=some ((v0_0,()),())
def q49 (D:DX)(n:Nat):Option ((Bool×Unit)×Unit):=some ((false,()),())
def qwo (D:DX)(n:Nat):(qd)→(Int)→Option ((Bool×Unit)×Unit):=(fun x0 x1=>qjt D n (fun v0_0=>q47 D n v0_0) (q49 D n) n x0 x1)
def q16 (D:DX)(n:Nat) (lp0:qd→Int→Option ((Bool×Unit)×Unit)) (a0:qd):Option ((Bool×Unit)×Unit):=lp0 a0 0
def q1s (D:DX)(n:Nat) (a0:qd):Option ((Bool×Unit)×Unit):=q16 D n (qwo D n) a0
def qjx (x0:qd) (x1:Int):St:=stq 16 [(0,AV.val (Ty.sl yV) x0),(3,avI x1)] [] 
def qop (v0_0:Bool):St:=stq 16 [(2,AV.val Ty.bool v0_0)] [] 
def qon:St:=stq 16 [] [] 
theorem qbhw (D:DX)(n:Nat) (m:Nat) (K:Ex→St→Option (Out ctx 165)) (x0:qd) (x1:Int) :
 LQ qc D n 165 [.r,.l,.r,.l] (m+1) (qjx x0 x1) K=qzj D n (fun x0 x1=>LQ qc D n 165 [.r,.l,.r,.l] m (qjx x0 x1) K) (fun v0_0=>K (Ex.ret) (qop v0_0)) (K (Ex.exit 0) (qon)) x0 x1:=by kernel_rfl
theorem q6z (D:DX)(n:Nat) (K:Ex→St→Option (Out ctx 165)):∀ (m:Nat) (x0:qd) (x1:Int),LQ qc D n 165 [.r,.l,.r,.l] m (qjx x0 x1) K=qjt D n (fun v0_0=>K (Ex.ret) (qop v0_0)) (K (Ex.exit 0) (qon)) m x0 x1
 | 0,x0,x1=>qu ..
 | m+1,x0,x1=>by
  have ih:(fun x0 x1=>LQ qc D n 165 [.r,.l,.r,.l] m (qjx x0 x1) K)=qjt D n (fun v0_0=>K (Ex.ret) (qop v0_0)) (K (Ex.exit 0) (qon)) m:=by funext x0 x1;exact q6z D n K m x0 x1
  rw[qbhw]
  rw[ih];rfl
theorem qbf5 (D:DX)(n:Nat) (v0_0:Bool) :
 (CQ qc D n 165 [] [.r,.l,.r,.l] (qh qc 165)) (Ex.ret) (qop v0_0)=q47 D n v0_0:=by kernel_rfl
theorem qbgh (D:DX)(n:Nat) :
 (CQ qc D n 165 [] [.r,.l,.r,.l] (qh qc 165)) (Ex.exit 0) (qon)=q49 D n:=by kernel_rfl
theorem qbfl (D:DX)(n:Nat) (x0:qd) (x1:Int) :
 LQ qc D n 165 [.r,.l,.r,.l] n (qjx x0 x1) (CQ qc D n 165 [] [.r,.l,.r,.l] (qh qc 165))=qwo D n x0 x1:=by
 rw[q6z]
 simp only[qbf5,qbgh]
 rfl
theorem qbnm (D:DX)(n:Nat) (a0:qd):rfC qc D n 165 (a0,())=q1s D n a0:=by
 have h:rfC qc D n 165 (a0,())=q16 D n (fun x0 x1=>LQ qc D n 165 [.r,.l,.r,.l] n (qjx x0 x1) (CQ qc D n 165 [] [.r,.l,.r,.l] (qh qc 165))) a0:=by kernel_rfl
 rw[h]
 simp only[qbfl]
 rfl

def qvn (D:DX)(n:Nat) (go:ByteArray→Int→Option ((Bool×Unit)×Unit)) (K0:ByteArray→Bool→Option ((Bool×Unit)×Unit)) (K1:ByteArray→Option ((Bool×Unit)×Unit)) (x0:ByteArray) (x1:Int):Option ((Bool×Unit)×Unit):=br (decide (x1<(↑(ByteArray.size x0):Int))) (br (decide (0≤x1)&&decide (x1<(↑(ByteArray.size x0):Int))) (br (decide ((↑(UInt8.toNat (Array.getD (ByteArray.data x0) (Int.toNat x1) (UInt8.ofNat 0))):Int)<97)) (K0 x0 false) (br (decide (0≤x1)&&decide (x1<(↑(ByteArray.size x0):Int))) (br (decide ((↑(UInt8.toNat (Array.getD (ByteArray.data x0) (Int.toNat x1) (UInt8.ofNat 0))):Int)>122)) (K0 x0 false) (go x0 (IntKind.wrap IntKind.i64 (x1+1)))) none)) none) (K1 x0)
def qhi (D:DX)(n:Nat) (K0:ByteArray→Bool→Option ((Bool×Unit)×Unit)) (K1:ByteArray→Option ((Bool×Unit)×Unit)):Nat→(ByteArray)→(Int)→Option ((Bool×Unit)×Unit) | 0=>(fun x0 x1=>none) | m+1=>(fun x0 x1=>qvn D n (qhi D n K0 K1 m) K0 K1 x0 x1)
def q0u (D:DX)(n:Nat) (v0_0:ByteArray) (v0_1:Bool):Option ((Bool×Unit)×Unit):=some ((v0_1,()),())
def qq5 (D:DX)(n:Nat) (v1_0:ByteArray):Option ((Bool×Unit)×Unit):=qi (qf0 D (↑(ByteArray.size v1_0):Int) 1 12) fun b↦some ((Prod.fst (Prod.fst b),()),())
def qs3 (D:DX)(n:Nat):(ByteArray)→(Int)→Option ((Bool×Unit)×Unit):=(fun x0 x1=>qhi D n (fun v0_0 v0_1=>q0u D n v0_0 v0_1) (fun v1_0=>qq5 D n v1_0) n x0 x1)
def qxc (D:DX)(n:Nat) (lp0:ByteArray→Int→Option ((Bool×Unit)×Unit)) (a0:ByteArray):Option ((Bool×Unit)×Unit):=lp0 a0 0
def qwd (D:DX)(n:Nat) (a0:ByteArray):Option ((Bool×Unit)×Unit):=qxc D n (qs3 D n) a0
def qhp (x0:ByteArray) (x1:Int):St:=stq 23 [(0,AV.val Ty.str x0),(3,avI x1)] [] 
def qll (v0_0:ByteArray) (v0_1:Bool):St:=stq 23 [(0,AV.val Ty.str v0_0),(2,AV.val Ty.bool v0_1)] [] 
def qlm (v1_0:ByteArray):St:=stq 23 [(0,AV.val Ty.str v1_0)] [] 
theorem qbcl (D:DX)(n:Nat) (m:Nat) (K:Ex→St→Option (Out ctx 166)) (x0:ByteArray) (x1:Int) :
 LQ qc D n 166 [.r,.l,.r,.l] (m+1) (qhp x0 x1) K=qvn D n (fun x0 x1=>LQ qc D n 166 [.r,.l,.r,.l] m (qhp x0 x1) K) (fun v0_0 v0_1=>K (Ex.ret) (qll v0_0 v0_1)) (fun v1_0=>K (Ex.exit 0) (qlm v1_0)) x0 x1:=by kernel_rfl
theorem q29 (D:DX)(n:Nat) (K:Ex→St→Option (Out ctx 166)):∀ (m:Nat) (x0:ByteArray) (x1:Int),LQ qc D n 166 [.r,.l,.r,.l] m (qhp x0 x1) K=qhi D n (fun v0_0 v0_1=>K (Ex.ret) (qll v0_0 v0_1)) (fun v1_0=>K (Ex.exit 0) (qlm v1_0)) m x0 x1
 | 0,x0,x1=>qu ..
 | m+1,x0,x1=>by
  have ih:(fun x0 x1=>LQ qc D n 166 [.r,.l,.r,.l] m (qhp x0 x1) K)=qhi D n (fun v0_0 v0_1=>K (Ex.ret) (qll v0_0 v0_1)) (fun v1_0=>K (Ex.exit 0) (qlm v1_0)) m:=by funext x0 x1;exact q29 D n K m x0 x1
  rw[qbcl]
  rw[ih];rfl
theorem qbcf (D:DX)(n:Nat) (v0_0:ByteArray) (v0_1:Bool) :
 (CQ qc D n 166 [] [.r,.l,.r,.l] (qh qc 166)) (Ex.ret) (qll v0_0 v0_1)=q0u D n v0_0 v0_1:=by kernel_rfl
theorem qbbq (D:DX)(n:Nat) (v1_0:ByteArray) :
 (CQ qc D n 166 [] [.r,.l,.r,.l] (qh qc 166)) (Ex.exit 0) (qlm v1_0)=qq5 D n v1_0:=by kernel_rfl
theorem qbca (D:DX)(n:Nat) (x0:ByteArray) (x1:Int) :
 LQ qc D n 166 [.r,.l,.r,.l] n (qhp x0 x1) (CQ qc D n 166 [] [.r,.l,.r,.l] (qh qc 166))=qs3 D n x0 x1:=by
 rw[q29]
 simp only[qbcf,qbbq]
 rfl
theorem qbix (D:DX)(n:Nat) (a0:ByteArray):rfC qc D n 166 (a0,())=qwd D n a0:=by
 have h:rfC qc D n 166 (a0,())=qxc D n (fun x0 x1=>LQ qc D n 166 [.r,.l,.r,.l] n (qhp x0 x1) (CQ qc D n 166 [] [.r,.l,.r,.l] (qh qc 166))) a0:=by kernel_rfl
 rw[h]
 simp only[qbca]
 rfl

def q3r (D:DX)(n:Nat) (go:ByteArray→Int→tSch→Option ((Int×Unit)×Unit)) (K0:Int→Option ((Int×Unit)×Unit)) (K1:Option ((Int×Unit)×Unit)) (x0:ByteArray) (x1:Int) (x2:tSch):Option ((Int×Unit)×Unit):=br (decide (x1<(↑(List.length (Prod.fst x2)):Int))) (br (decide (0≤x1)&&decide (x1<(↑(List.length (Prod.fst x2)):Int))) (br (List.beq (ByteArray.toList (Prod.fst (List.getD (Prod.fst x2) (Int.toNat x1) (ByteArray.empty,0,false,())))) (ByteArray.toList x0)) (K0 x1) (go x0 (IntKind.wrap IntKind.i64 (x1+1)) x2)) none) K1
def qmc (D:DX)(n:Nat) (K0:Int→Option ((Int×Unit)×Unit)) (K1:Option ((Int×Unit)×Unit)):Nat→(ByteArray)→(Int)→(tSch)→Option ((Int×Unit)×Unit) | 0=>(fun x0 x1 x2=>none) | m+1=>(fun x0 x1 x2=>q3r D n (qmc D n K0 K1 m) K0 K1 x0 x1 x2)
def q8b (D:DX)(n:Nat) (v0_0:Int):Option ((Int×Unit)×Unit):=some ((v0_0,()),())
def q74 (D:DX)(n:Nat):Option ((Int×Unit)×Unit):=some ((-1,()),())
def q1c (D:DX)(n:Nat):(ByteArray)→(Int)→(tSch)→Option ((Int×Unit)×Unit):=(fun x0 x1 x2=>qmc D n (fun v0_0=>q8b D n v0_0) (q74 D n) n x0 x1 x2)
def q6g (D:DX)(n:Nat) (lp0:ByteArray→Int→tSch→Option ((Int×Unit)×Unit)) (a0:tSch) (a1:ByteArray):Option ((Int×Unit)×Unit):=lp0 a1 0 a0
def q6m (D:DX)(n:Nat) (a0:tSch) (a1:ByteArray):Option ((Int×Unit)×Unit):=q6g D n (q1c D n) a0 a1
def qme (x0:ByteArray) (x1:Int) (x2:tSch):St:=stq 22 [(1,AV.val Ty.str x0),(2,AV.addr 2 []),(5,avI x1)] [(2,Root.mk yS Mk.no x2 true)] 
def qsb (v0_0:Int):St:=stq 22 [(4,avI v0_0)] [] 
def qsc:St:=stq 22 [] [] 
theorem qbmw (D:DX)(n:Nat) (m:Nat) (K:Ex→St→Option (Out ctx 167)) (x0:ByteArray) (x1:Int) (x2:tSch) :
 LQ qc D n 167 [.r,.l,.r,.l] (m+1) (qme x0 x1 x2) K=q3r D n (fun x0 x1 x2=>LQ qc D n 167 [.r,.l,.r,.l] m (qme x0 x1 x2) K) (fun v0_0=>K (Ex.ret) (qsb v0_0)) (K (Ex.exit 0) (qsc)) x0 x1 x2:=by kernel_rfl
theorem q9a (D:DX)(n:Nat) (K:Ex→St→Option (Out ctx 167)):∀ (m:Nat) (x0:ByteArray) (x1:Int) (x2:tSch),LQ qc D n 167 [.r,.l,.r,.l] m (qme x0 x1 x2) K=qmc D n (fun v0_0=>K (Ex.ret) (qsb v0_0)) (K (Ex.exit 0) (qsc)) m x0 x1 x2
 | 0,x0,x1,x2=>qu ..
 | m+1,x0,x1,x2=>by
  have ih:(fun x0 x1 x2=>LQ qc D n 167 [.r,.l,.r,.l] m (qme x0 x1 x2) K)=qmc D n (fun v0_0=>K (Ex.ret) (qsb v0_0)) (K (Ex.exit 0) (qsc)) m:=by funext x0 x1 x2;exact q9a D n K m x0 x1 x2
  rw[qbmw]
  rw[ih];rfl
theorem qbj6 (D:DX)(n:Nat) (v0_0:Int) :
 (CQ qc D n 167 [] [.r,.l,.r,.l] (qh qc 167)) (Ex.ret) (qsb v0_0)=q8b D n v0_0:=by kernel_rfl
theorem qbkd (D:DX)(n:Nat) :
 (CQ qc D n 167 [] [.r,.l,.r,.l] (qh qc 167)) (Ex.exit 0) (qsc)=q74 D n:=by kernel_rfl
theorem qbj3 (D:DX)(n:Nat) (x0:ByteArray) (x1:Int) (x2:tSch) :
 LQ qc D n 167 [.r,.l,.r,.l] n (qme x0 x1 x2) (CQ qc D n 167 [] [.r,.l,.r,.l] (qh qc 167))=q1c D n x0 x1 x2:=by
 rw[q9a]
 simp only[qbj6,qbkd]
 rfl
theorem qbq7 (D:DX)(n:Nat) (a0:tSch) (a1:ByteArray):rfC qc D n 167 (a0,(a1,()))=q6m D n a0 a1:=by
 have h:rfC qc D n 167 (a0,(a1,()))=q6g D n (fun x0 x1 x2=>LQ qc D n 167 [.r,.l,.r,.l] n (qme x0 x1 x2) (CQ qc D n 167 [] [.r,.l,.r,.l] (qh qc 167))) a0 a1:=by kernel_rfl
 rw[h]
 simp only[qbj3]
 rfl

def qum (D:DX)(n:Nat) (go:List Int→Int→Int→Int→tSch→Option ((Bool×Unit)×Unit)) (K0:List Int→Int→Bool→Int→tSch→Option ((Bool×Unit)×Unit)) (K1:List Int→Int→Int→tSch→Option ((Bool×Unit)×Unit)) (x1_0:List Int) (x1_1:Int) (x1_2:Int) (x1_3:Int) (x1_4:tSch):Option ((Bool×Unit)×Unit):=br (decide (x1_3<x1_2)) (br (decide (0≤x1_3)&&decide (x1_3<(↑(List.length x1_0):Int))) (br (decide (0≤x1_2)&&decide (x1_2<(↑(List.length x1_0):Int))) (br (decide (List.getD x1_0 (Int.toNat x1_3) 0=List.getD x1_0 (Int.toNat x1_2) 0)) (K0 x1_0 x1_1 false x1_2 x1_4) (go x1_0 x1_1 x1_2 (IntKind.wrap IntKind.i64 (x1_3+1)) x1_4)) none) none) (K1 x1_0 x1_1 x1_2 x1_4)
def qhu (D:DX)(n:Nat) (K0:List Int→Int→Bool→Int→tSch→Option ((Bool×Unit)×Unit)) (K1:List Int→Int→Int→tSch→Option ((Bool×Unit)×Unit)):Nat→(List Int)→(Int)→(Int)→(Int)→(tSch)→Option ((Bool×Unit)×Unit) | 0=>(fun x1_0 x1_1 x1_2 x1_3 x1_4=>none) | m+1=>(fun x1_0 x1_1 x1_2 x1_3 x1_4=>qum D n (qhu D n K0 K1 m) K0 K1 x1_0 x1_1 x1_2 x1_3 x1_4)
def q0s (D:DX)(n:Nat) (go:List Int→Int→Int→tSch→Option ((Bool×Unit)×Unit)) (K0:List Int→Int→Bool→Option ((Bool×Unit)×Unit)) (K1:List Int→Int→Option ((Bool×Unit)×Unit)) (v0_0:List Int) (v0_1:Int) (v0_2:Bool) (v0_3:Int) (v0_4:tSch):Option ((Bool×Unit)×Unit):=K0 v0_0 v0_1 v0_2
def qrk (D:DX)(n:Nat) (go:List Int→Int→Int→tSch→Option ((Bool×Unit)×Unit)) (K0:List Int→Int→Bool→Option ((Bool×Unit)×Unit)) (K1:List Int→Int→Option ((Bool×Unit)×Unit)) (v1_0:List Int) (v1_1:Int) (v1_2:Int) (v1_3:tSch):Option ((Bool×Unit)×Unit):=go v1_0 v1_1 (IntKind.wrap IntKind.i64 (v1_2+1)) v1_3
def qs4 (D:DX)(n:Nat) (go:List Int→Int→Int→tSch→Option ((Bool×Unit)×Unit)) (K0:List Int→Int→Bool→Option ((Bool×Unit)×Unit)) (K1:List Int→Int→Option ((Bool×Unit)×Unit)):(List Int)→(Int)→(Int)→(Int)→(tSch)→Option ((Bool×Unit)×Unit):=(fun x1_0 x1_1 x1_2 x1_3 x1_4=>qhu D n (fun v0_0 v0_1 v0_2 v0_3 v0_4=>q0s D n go K0 K1 v0_0 v0_1 v0_2 v0_3 v0_4) (fun v1_0 v1_1 v1_2 v1_3=>qrk D n go K0 K1 v1_0 v1_1 v1_2 v1_3) n x1_0 x1_1 x1_2 x1_3 x1_4)
def quj (D:DX)(n:Nat) (go:List Int→Int→Int→tSch→Option ((Bool×Unit)×Unit)) (K0:List Int→Int→Bool→Option ((Bool×Unit)×Unit)) (K1:List Int→Int→Option ((Bool×Unit)×Unit)) (lp1:List Int→Int→Int→Int→tSch→Option ((Bool×Unit)×Unit)) (x0:List Int) (x1:Int) (x2:Int) (x3:tSch):Option ((Bool×Unit)×Unit):=br (decide (x2<(↑(List.length x0):Int))) (br (decide (0≤x2)&&decide (x2<(↑(List.length x0):Int))) (qi (qf0 D (List.getD x0 (Int.toNat x2) 0) 0 (IntKind.wrap IntKind.i64 ((↑(List.length (Prod.fst x3)):Int) - 1))) fun b↦br (!Prod.fst (Prod.fst b)) (K0 x0 x1 false) (lp1 x0 x1 x2 0 x3)) none) (K1 x0 x1)
def qek (D:DX)(n:Nat) (K0:List Int→Int→Bool→Option ((Bool×Unit)×Unit)) (K1:List Int→Int→Option ((Bool×Unit)×Unit)):Nat→(List Int)→(Int)→(Int)→(tSch)→Option ((Bool×Unit)×Unit) | 0=>(fun x0 x1 x2 x3=>none) | m+1=>(fun x0 x1 x2 x3=>quj D n (qek D n K0 K1 m) K0 K1 (qs4 D n (qek D n K0 K1 m) K0 K1) x0 x1 x2 x3)
def qrm (D:DX)(n:Nat) (v0_0:List Int) (v0_1:Int) (v0_2:Bool):Option ((Bool×Unit)×Unit):=some ((v0_2,()),())
def qlp (D:DX)(n:Nat) (v1_0:List Int) (v1_1:Int):Option ((Bool×Unit)×Unit):=qi (qf0 D (↑(List.length v1_0):Int) 1 v1_1) fun b↦some ((Prod.fst (Prod.fst b),()),())
def qtb (D:DX)(n:Nat):(List Int)→(Int)→(Int)→(tSch)→Option ((Bool×Unit)×Unit):=(fun x0 x1 x2 x3=>qek D n (fun v0_0 v0_1 v0_2=>qrm D n v0_0 v0_1 v0_2) (fun v1_0 v1_1=>qlp D n v1_0 v1_1) n x0 x1 x2 x3)
def qw3 (D:DX)(n:Nat) (lp0:List Int→Int→Int→tSch→Option ((Bool×Unit)×Unit)) (a0:tSch) (a1:List Int) (a2:Int):Option ((Bool×Unit)×Unit):=lp0 a1 a2 0 a0
def qwp (D:DX)(n:Nat) (a0:tSch) (a1:List Int) (a2:Int):Option ((Bool×Unit)×Unit):=qw3 D n (qtb D n) a0 a1 a2
def qdr (x0:List Int) (x1:Int) (x2:Int) (x3:tSch):St:=stq 43 [(1,AV.val (Ty.sl yI) x0),(2,avI x1),(3,AV.addr 3 []),(7,avI x2)] [(3,Root.mk yS Mk.no x3 true)] 
def qeo (v0_0:List Int) (v0_1:Int) (v0_2:Bool):St:=stq 43 [(1,AV.val (Ty.sl yI) v0_0),(2,avI v0_1),(6,AV.val Ty.bool v0_2)] [] 
def qep (v1_0:List Int) (v1_1:Int):St:=stq 43 [(1,AV.val (Ty.sl yI) v1_0),(2,avI v1_1)] [] 
def qho (x1_0:List Int) (x1_1:Int) (x1_2:Int) (x1_3:Int) (x1_4:tSch):St:=stq 43 [(1,AV.val (Ty.sl yI) x1_0),(2,avI x1_1),(3,AV.addr 3 []),(7,avI x1_2),(8,avI x1_3)] [(3,Root.mk yS Mk.no x1_4 true)] 
def qlw (v0_0:List Int) (v0_1:Int) (v0_2:Bool) (v0_3:Int) (v0_4:tSch):St:=stq 43 [(1,AV.val (Ty.sl yI) v0_0),(2,avI v0_1),(3,AV.addr 3 []),(6,AV.val Ty.bool v0_2),(7,avI v0_3)] [(3,Root.mk yS Mk.no v0_4 true)] 
def qli (v1_0:List Int) (v1_1:Int) (v1_2:Int) (v1_3:tSch):St:=stq 43 [(1,AV.val (Ty.sl yI) v1_0),(2,avI v1_1),(3,AV.addr 3 []),(7,avI v1_2)] [(3,Root.mk yS Mk.no v1_3 true)] 
theorem qbcq (D:DX)(n:Nat) (m:Nat) (K:Ex→St→Option (Out ctx 168)) (x1_0:List Int) (x1_1:Int) (x1_2:Int) (x1_3:Int) (x1_4:tSch) :
 LQ qc D n 168 [.r,.l,.r,.l,.l,.r,.l,.l,.r,.r,.l] (m+1) (qho x1_0 x1_1 x1_2 x1_3 x1_4) K=qum D n (fun x1_0 x1_1 x1_2 x1_3 x1_4=>LQ qc D n 168 [.r,.l,.r,.l,.l,.r,.l,.l,.r,.r,.l] m (qho x1_0 x1_1 x1_2 x1_3 x1_4) K) (fun v0_0 v0_1 v0_2 v0_3 v0_4=>K (Ex.ret) (qlw v0_0 v0_1 v0_2 v0_3 v0_4)) (fun v1_0 v1_1 v1_2 v1_3=>K (Ex.exit 2) (qli v1_0 v1_1 v1_2 v1_3)) x1_0 x1_1 x1_2 x1_3 x1_4:=by kernel_rfl
theorem q3i (D:DX)(n:Nat) (K:Ex→St→Option (Out ctx 168)):∀ (m:Nat) (x1_0:List Int) (x1_1:Int) (x1_2:Int) (x1_3:Int) (x1_4:tSch),LQ qc D n 168 [.r,.l,.r,.l,.l,.r,.l,.l,.r,.r,.l] m (qho x1_0 x1_1 x1_2 x1_3 x1_4) K=qhu D n (fun v0_0 v0_1 v0_2 v0_3 v0_4=>K (Ex.ret) (qlw v0_0 v0_1 v0_2 v0_3 v0_4)) (fun v1_0 v1_1 v1_2 v1_3=>K (Ex.exit 2) (qli v1_0 v1_1 v1_2 v1_3)) m x1_0 x1_1 x1_2 x1_3 x1_4
 | 0,x1_0,x1_1,x1_2,x1_3,x1_4=>qu ..
 | m+1,x1_0,x1_1,x1_2,x1_3,x1_4=>by
  have ih:(fun x1_0 x1_1 x1_2 x1_3 x1_4=>LQ qc D n 168 [.r,.l,.r,.l,.l,.r,.l,.l,.r,.r,.l] m (qho x1_0 x1_1 x1_2 x1_3 x1_4) K)=qhu D n (fun v0_0 v0_1 v0_2 v0_3 v0_4=>K (Ex.ret) (qlw v0_0 v0_1 v0_2 v0_3 v0_4)) (fun v1_0 v1_1 v1_2 v1_3=>K (Ex.exit 2) (qli v1_0 v1_1 v1_2 v1_3)) m:=by funext x1_0 x1_1 x1_2 x1_3 x1_4;exact q3i D n K m x1_0 x1_1 x1_2 x1_3 x1_4
  rw[qbcq]
  rw[ih];rfl
theorem qbb1 (D:DX)(n:Nat) (m:Nat) (K:Ex→St→Option (Out ctx 168)) (v0_0:List Int) (v0_1:Int) (v0_2:Bool) (v0_3:Int) (v0_4:tSch) :
 (CQ qc D n 168 [.r,.l,.r,.l,.l] [.r,.l,.l,.r,.r,.l] (LK qc D n 168 [.r,.l,.r,.l] m K)) (Ex.ret) (qlw v0_0 v0_1 v0_2 v0_3 v0_4)=q0s D n (fun x0 x1 x2 x3=>LQ qc D n 168 [.r,.l,.r,.l] m (qdr x0 x1 x2 x3) K) (fun v0_0 v0_1 v0_2=>K (Ex.ret) (qeo v0_0 v0_1 v0_2)) (fun v1_0 v1_1=>K (Ex.exit 0) (qep v1_0 v1_1)) v0_0 v0_1 v0_2 v0_3 v0_4:=by kernel_rfl
theorem qbby (D:DX)(n:Nat) (m:Nat) (K:Ex→St→Option (Out ctx 168)) (v1_0:List Int) (v1_1:Int) (v1_2:Int) (v1_3:tSch) :
 (CQ qc D n 168 [.r,.l,.r,.l,.l] [.r,.l,.l,.r,.r,.l] (LK qc D n 168 [.r,.l,.r,.l] m K)) (Ex.exit 2) (qli v1_0 v1_1 v1_2 v1_3)=qrk D n (fun x0 x1 x2 x3=>LQ qc D n 168 [.r,.l,.r,.l] m (qdr x0 x1 x2 x3) K) (fun v0_0 v0_1 v0_2=>K (Ex.ret) (qeo v0_0 v0_1 v0_2)) (fun v1_0 v1_1=>K (Ex.exit 0) (qep v1_0 v1_1)) v1_0 v1_1 v1_2 v1_3:=by kernel_rfl
theorem qbch (D:DX)(n:Nat) (m:Nat) (K:Ex→St→Option (Out ctx 168)) (x1_0:List Int) (x1_1:Int) (x1_2:Int) (x1_3:Int) (x1_4:tSch) :
 LQ qc D n 168 [.r,.l,.r,.l,.l,.r,.l,.l,.r,.r,.l] n (qho x1_0 x1_1 x1_2 x1_3 x1_4) (CQ qc D n 168 [.r,.l,.r,.l,.l] [.r,.l,.l,.r,.r,.l] (LK qc D n 168 [.r,.l,.r,.l] m K))=qs4 D n (fun x0 x1 x2 x3=>LQ qc D n 168 [.r,.l,.r,.l] m (qdr x0 x1 x2 x3) K) (fun v0_0 v0_1 v0_2=>K (Ex.ret) (qeo v0_0 v0_1 v0_2)) (fun v1_0 v1_1=>K (Ex.exit 0) (qep v1_0 v1_1)) x1_0 x1_1 x1_2 x1_3 x1_4:=by
 rw[q3i]
 simp only[qbb1,qbby]
 rfl
theorem qbeu (D:DX)(n:Nat) (m:Nat) (K:Ex→St→Option (Out ctx 168)) (x0:List Int) (x1:Int) (x2:Int) (x3:tSch) :
 LQ qc D n 168 [.r,.l,.r,.l] (m+1) (qdr x0 x1 x2 x3) K=quj D n (fun x0 x1 x2 x3=>LQ qc D n 168 [.r,.l,.r,.l] m (qdr x0 x1 x2 x3) K) (fun v0_0 v0_1 v0_2=>K (Ex.ret) (qeo v0_0 v0_1 v0_2)) (fun v1_0 v1_1=>K (Ex.exit 0) (qep v1_0 v1_1)) (fun x1_0 x1_1 x1_2 x1_3 x1_4=>LQ qc D n 168 [.r,.l,.r,.l,.l,.r,.l,.l,.r,.r,.l] n (qho x1_0 x1_1 x1_2 x1_3 x1_4) (CQ qc D n 168 [.r,.l,.r,.l,.l] [.r,.l,.l,.r,.r,.l] (LK qc D n 168 [.r,.l,.r,.l] m K))) x0 x1 x2 x3:=by kernel_rfl
theorem q24 (D:DX)(n:Nat) (K:Ex→St→Option (Out ctx 168)):∀ (m:Nat) (x0:List Int) (x1:Int) (x2:Int) (x3:tSch),LQ qc D n 168 [.r,.l,.r,.l] m (qdr x0 x1 x2 x3) K=qek D n (fun v0_0 v0_1 v0_2=>K (Ex.ret) (qeo v0_0 v0_1 v0_2)) (fun v1_0 v1_1=>K (Ex.exit 0) (qep v1_0 v1_1)) m x0 x1 x2 x3
 | 0,x0,x1,x2,x3=>qu ..
 | m+1,x0,x1,x2,x3=>by
  have ih:(fun x0 x1 x2 x3=>LQ qc D n 168 [.r,.l,.r,.l] m (qdr x0 x1 x2 x3) K)=qek D n (fun v0_0 v0_1 v0_2=>K (Ex.ret) (qeo v0_0 v0_1 v0_2)) (fun v1_0 v1_1=>K (Ex.exit 0) (qep v1_0 v1_1)) m:=by funext x0 x1 x2 x3;exact q24 D n K m x0 x1 x2 x3
  rw[qbeu]
  simp only[qbch]
  rw[ih];rfl
theorem qbb5 (D:DX)(n:Nat) (v0_0:List Int) (v0_1:Int) (v0_2:Bool) :
 (CQ qc D n 168 [] [.r,.l,.r,.l] (qh qc 168)) (Ex.ret) (qeo v0_0 v0_1 v0_2)=qrm D n v0_0 v0_1 v0_2:=by kernel_rfl
theorem qbce (D:DX)(n:Nat) (v1_0:List Int) (v1_1:Int) :
 (CQ qc D n 168 [] [.r,.l,.r,.l] (qh qc 168)) (Ex.exit 0) (qep v1_0 v1_1)=qlp D n v1_0 v1_1:=by kernel_rfl
theorem qbcd (D:DX)(n:Nat) (x0:List Int) (x1:Int) (x2:Int) (x3:tSch) :
 LQ qc D n 168 [.r,.l,.r,.l] n (qdr x0 x1 x2 x3) (CQ qc D n 168 [] [.r,.l,.r,.l] (qh qc 168))=qtb D n x0 x1 x2 x3:=by
 rw[q24]
 simp only[qbb5,qbce]
 rfl
theorem qbiy (D:DX)(n:Nat) (a0:tSch) (a1:List Int) (a2:Int):rfC qc D n 168 (a0,(a1,(a2,())))=qwp D n a0 a1 a2:=by
 have h:rfC qc D n 168 (a0,(a1,(a2,())))=qw3 D n (fun x0 x1 x2 x3=>LQ qc D n 168 [.r,.l,.r,.l] n (qdr x0 x1 x2 x3) (CQ qc D n 168 [] [.r,.l,.r,.l] (qh qc 168))) a0 a1 a2:=by kernel_rfl
 rw[h]
 simp only[qbcd]
 rfl

def qs2 (D:DX)(n:Nat) (go:Int→Int→tSch→ByteArray×List Int×Bool×Unit→Option ((Bool×Unit)×Unit)) (K0:Bool→Int→tSch→Option ((Bool×Unit)×Unit)) (K1:Int→tSch→Option ((Bool×Unit)×Unit)) (x1_0:Int) (x1_1:Int) (x1_2:tSch) (x1_3:ByteArray×List Int×Bool×Unit):Option ((Bool×Unit)×Unit):=br (decide (x1_1<x1_0)) (br (decide (0≤x1_1)&&decide (x1_1<(↑(List.length (Prod.fst (Prod.snd (Prod.snd x1_2)))):Int))) (br (List.beq (ByteArray.toList (Prod.fst (List.getD (Prod.fst (Prod.snd (Prod.snd x1_2))) (Int.toNat x1_1) (ByteArray.empty,[],false,())))) (ByteArray.toList (Prod.fst x1_3))) (K0 false x1_0 x1_2) (go x1_0 (IntKind.wrap IntKind.i64 (x1_1+1)) x1_2 x1_3)) none) (K1 x1_0 x1_2)
def qg1 (D:DX)(n:Nat) (K0:Bool→Int→tSch→Option ((Bool×Unit)×Unit)) (K1:Int→tSch→Option ((Bool×Unit)×Unit)):Nat→(Int)→(Int)→(tSch)→tIx→Option ((Bool×Unit)×Unit) | 0=>(fun x1_0 x1_1 x1_2 x1_3=>none) | m+1=>(fun x1_0 x1_1 x1_2 x1_3=>qs2 D n (qg1 D n K0 K1 m) K0 K1 x1_0 x1_1 x1_2 x1_3)
def qy6 (D:DX)(n:Nat) (go:Int→tSch→Option ((Bool×Unit)×Unit)) (K0:Bool→tSch→Option ((Bool×Unit)×Unit)) (K1:tSch→Option ((Bool×Unit)×Unit)) (v0_0:Bool) (v0_1:Int) (v0_2:tSch):Option ((Bool×Unit)×Unit):=K0 v0_0 v0_2
def qqb (D:DX)(n:Nat) (go:Int→tSch→Option ((Bool×Unit)×Unit)) (K0:Bool→tSch→Option ((Bool×Unit)×Unit)) (K1:tSch→Option ((Bool×Unit)×Unit)) (v1_0:Int) (v1_1:tSch):Option ((Bool×Unit)×Unit):=go (IntKind.wrap IntKind.i64 (v1_0+1)) v1_1
def qq8 (D:DX)(n:Nat) (go:Int→tSch→Option ((Bool×Unit)×Unit)) (K0:Bool→tSch→Option ((Bool×Unit)×Unit)) (K1:tSch→Option ((Bool×Unit)×Unit)):(Int)→(Int)→(tSch)→tIx→Option ((Bool×Unit)×Unit):=(fun x1_0 x1_1 x1_2 x1_3=>qg1 D n (fun v0_0 v0_1 v0_2=>qy6 D n go K0 K1 v0_0 v0_1 v0_2) (fun v1_0 v1_1=>qqb D n go K0 K1 v1_0 v1_1) n x1_0 x1_1 x1_2 x1_3)
def qtl (D:DX)(n:Nat) (go:Int→tSch→Option ((Bool×Unit)×Unit)) (K0:Bool→tSch→Option ((Bool×Unit)×Unit)) (K1:tSch→Option ((Bool×Unit)×Unit)) (lp1:Int→Int→tSch→ByteArray×List Int×Bool×Unit→Option ((Bool×Unit)×Unit)) (x0:Int) (x1:tSch):Option ((Bool×Unit)×Unit):=br (decide (x0<(↑(List.length (Prod.fst (Prod.snd (Prod.snd x1)))):Int))) (br (decide (0≤x0)&&decide (x0<(↑(List.length (Prod.fst (Prod.snd (Prod.snd x1)))):Int))) (qi (qpd D (Prod.fst (List.getD (Prod.fst (Prod.snd (Prod.snd x1))) (Int.toNat x0) (ByteArray.empty,[],false,())))) fun b↦br (!Prod.fst (Prod.fst b)) (K0 false x1) (qi (qpq D x1 (Prod.fst (Prod.snd (List.getD (Prod.fst (Prod.snd (Prod.snd x1))) (Int.toNat x0) (ByteArray.empty,[],false,())))) 3) fun b↦br (!Prod.fst (Prod.fst b)) (K0 false x1) (lp1 x0 0 x1 (List.getD (Prod.fst (Prod.snd (Prod.snd x1))) (Int.toNat x0) (ByteArray.empty,[],false,()))))) none) (K1 x1)
def qd3 (D:DX)(n:Nat) (K0:Bool→tSch→Option ((Bool×Unit)×Unit)) (K1:tSch→Option ((Bool×Unit)×Unit)):Nat→(Int)→(tSch)→Option ((Bool×Unit)×Unit) | 0=>(fun x0 x1=>none) | m+1=>(fun x0 x1=>qtl D n (qd3 D n K0 K1 m) K0 K1 (qq8 D n (qd3 D n K0 K1 m) K0 K1) x0 x1)
def qp1 (D:DX)(n:Nat) (v0_0:Bool) (v0_1:tSch):Option ((Bool×Unit)×Unit):=some ((v0_0,()),())
def qqe (D:DX)(n:Nat) (v1_0:tSch):Option ((Bool×Unit)×Unit):=some ((decide ((↑(List.length (Prod.fst (Prod.snd (Prod.snd v1_0)))):Int)≤3),()),())
def qq4 (D:DX)(n:Nat):(Int)→(tSch)→Option ((Bool×Unit)×Unit):=(fun x0 x1=>qd3 D n (fun v0_0 v0_1=>qp1 D n v0_0 v0_1) (fun v1_0=>qqe D n v1_0) n x0 x1)
def qu7 (D:DX)(n:Nat) (lp0:Int→tSch→Option ((Bool×Unit)×Unit)) (a0:tSch):Option ((Bool×Unit)×Unit):=lp0 0 a0
def qud (D:DX)(n:Nat) (a0:tSch):Option ((Bool×Unit)×Unit):=qu7 D n (qq4 D n) a0
def qdi (x0:Int) (x1:tSch):St:=stq 47 [(1,AV.addr 1 []),(3,avI x0)] [(1,Root.mk yS Mk.no x1 true)] 
def qd7 (v0_0:Bool) (v0_1:tSch):St:=stq 47 [(1,AV.addr 1 []),(2,AV.val Ty.bool v0_0)] [(1,Root.mk yS Mk.no v0_1 true)] 
def qd9 (v1_0:tSch):St:=stq 47 [(1,AV.addr 1 [])] [(1,Root.mk yS Mk.no v1_0 true)] 
def qgp (x1_0:Int) (x1_1:Int) (x1_2:tSch) (x1_3:ByteArray×List Int×Bool×Unit):St:=stq 47 [(1,AV.addr 1 []),(3,avI x1_0),(4,AV.addr 4 []),(5,avI x1_1)] [(1,Root.mk yS Mk.no x1_2 true),(4,Root.mk yX Mk.no x1_3 true)] 
def qkf (v0_0:Bool) (v0_1:Int) (v0_2:tSch):St:=stq 47 [(1,AV.addr 1 []),(2,AV.val Ty.bool v0_0),(3,avI v0_1)] [(1,Root.mk yS Mk.no v0_2 true)] 
def qkl (v1_0:Int) (v1_1:tSch):St:=stq 47 [(1,AV.addr 1 []),(3,avI v1_0)] [(1,Root.mk yS Mk.no v1_1 true)] 
theorem qbbv (D:DX)(n:Nat) (m:Nat) (K:Ex→St→Option (Out ctx 169)) (x1_0:Int) (x1_1:Int) (x1_2:tSch) (x1_3:ByteArray×List Int×Bool×Unit) :
 LQ qc D n 169 [.r,.l,.r,.l,.l,.r,.l,.l,.r,.r,.r,.l] (m+1) (qgp x1_0 x1_1 x1_2 x1_3) K=qs2 D n (fun x1_0 x1_1 x1_2 x1_3=>LQ qc D n 169 [.r,.l,.r,.l,.l,.r,.l,.l,.r,.r,.r,.l] m (qgp x1_0 x1_1 x1_2 x1_3) K) (fun v0_0 v0_1 v0_2=>K (Ex.ret) (qkf v0_0 v0_1 v0_2)) (fun v1_0 v1_1=>K (Ex.exit 2) (qkl v1_0 v1_1)) x1_0 x1_1 x1_2 x1_3:=by kernel_rfl
theorem q0t (D:DX)(n:Nat) (K:Ex→St→Option (Out ctx 169)):∀ (m:Nat) (x1_0:Int) (x1_1:Int) (x1_2:tSch) (x1_3:ByteArray×List Int×Bool×Unit),LQ qc D n 169 [.r,.l,.r,.l,.l,.r,.l,.l,.r,.r,.r,.l] m (qgp x1_0 x1_1 x1_2 x1_3) K=qg1 D n (fun v0_0 v0_1 v0_2=>K (Ex.ret) (qkf v0_0 v0_1 v0_2)) (fun v1_0 v1_1=>K (Ex.exit 2) (qkl v1_0 v1_1)) m x1_0 x1_1 x1_2 x1_3
 | 0,x1_0,x1_1,x1_2,x1_3=>qu ..
 | m+1,x1_0,x1_1,x1_2,x1_3=>by
  have ih:(fun x1_0 x1_1 x1_2 x1_3=>LQ qc D n 169 [.r,.l,.r,.l,.l,.r,.l,.l,.r,.r,.r,.l] m (qgp x1_0 x1_1 x1_2 x1_3) K)=qg1 D n (fun v0_0 v0_1 v0_2=>K (Ex.ret) (qkf v0_0 v0_1 v0_2)) (fun v1_0 v1_1=>K (Ex.exit 2) (qkl v1_0 v1_1)) m:=by funext x1_0 x1_1 x1_2 x1_3;exact q0t D n K m x1_0 x1_1 x1_2 x1_3
  rw[qbbv]
  rw[ih];rfl
theorem q91 (D:DX)(n:Nat) (m:Nat) (K:Ex→St→Option (Out ctx 169)) (v0_0:Bool) (v0_1:Int) (v0_2:tSch) :
 (CQ qc D n 169 [.r,.l,.r,.l,.l] [.r,.l,.l,.r,.r,.r,.l] (LK qc D n 169 [.r,.l,.r,.l] m K)) (Ex.ret) (qkf v0_0 v0_1 v0_2)=qy6 D n (fun x0 x1=>LQ qc D n 169 [.r,.l,.r,.l] m (qdi x0 x1) K) (fun v0_0 v0_1=>K (Ex.ret) (qd7 v0_0 v0_1)) (fun v1_0=>K (Ex.exit 0) (qd9 v1_0)) v0_0 v0_1 v0_2:=by kernel_rfl
theorem qbak (D:DX)(n:Nat) (m:Nat) (K:Ex→St→Option (Out ctx 169)) (v1_0:Int) (v1_1:tSch) :
 (CQ qc D n 169 [.r,.l,.r,.l,.l] [.r,.l,.l,.r,.r,.r,.l] (LK qc D n 169 [.r,.l,.r,.l] m K)) (Ex.exit 2) (qkl v1_0 v1_1)=qqb D n (fun x0 x1=>LQ qc D n 169 [.r,.l,.r,.l] m (qdi x0 x1) K) (fun v0_0 v0_1=>K (Ex.ret) (qd7 v0_0 v0_1)) (fun v1_0=>K (Ex.exit 0) (qd9 v1_0)) v1_0 v1_1:=by kernel_rfl
theorem qbaj (D:DX)(n:Nat) (m:Nat) (K:Ex→St→Option (Out ctx 169)) (x1_0:Int) (x1_1:Int) (x1_2:tSch) (x1_3:ByteArray×List Int×Bool×Unit) :
 LQ qc D n 169 [.r,.l,.r,.l,.l,.r,.l,.l,.r,.r,.r,.l] n (qgp x1_0 x1_1 x1_2 x1_3) (CQ qc D n 169 [.r,.l,.r,.l,.l] [.r,.l,.l,.r,.r,.r,.l] (LK qc D n 169 [.r,.l,.r,.l] m K))=qq8 D n (fun x0 x1=>LQ qc D n 169 [.r,.l,.r,.l] m (qdi x0 x1) K) (fun v0_0 v0_1=>K (Ex.ret) (qd7 v0_0 v0_1)) (fun v1_0=>K (Ex.exit 0) (qd9 v1_0)) x1_0 x1_1 x1_2 x1_3:=by
 rw[q0t]
 simp only[q91,qbak]
 rfl
theorem qbbw (D:DX)(n:Nat) (m:Nat) (K:Ex→St→Option (Out ctx 169)) (x0:Int) (x1:tSch) :
 LQ qc D n 169 [.r,.l,.r,.l] (m+1) (qdi x0 x1) K=qtl D n (fun x0 x1=>LQ qc D n 169 [.r,.l,.r,.l] m (qdi x0 x1) K) (fun v0_0 v0_1=>K (Ex.ret) (qd7 v0_0 v0_1)) (fun v1_0=>K (Ex.exit 0) (qd9 v1_0)) (fun x1_0 x1_1 x1_2 x1_3=>LQ qc D n 169 [.r,.l,.r,.l,.l,.r,.l,.l,.r,.r,.r,.l] n (qgp x1_0 x1_1 x1_2 x1_3) (CQ qc D n 169 [.r,.l,.r,.l,.l] [.r,.l,.l,.r,.r,.r,.l] (LK qc D n 169 [.r,.l,.r,.l] m K))) x0 x1:=by kernel_rfl
theorem q0v (D:DX)(n:Nat) (K:Ex→St→Option (Out ctx 169)):∀ (m:Nat) (x0:Int) (x1:tSch),LQ qc D n 169 [.r,.l,.r,.l] m (qdi x0 x1) K=qd3 D n (fun v0_0 v0_1=>K (Ex.ret) (qd7 v0_0 v0_1)) (fun v1_0=>K (Ex.exit 0) (qd9 v1_0)) m x0 x1
 | 0,x0,x1=>qu ..
 | m+1,x0,x1=>by
  have ih:(fun x0 x1=>LQ qc D n 169 [.r,.l,.r,.l] m (qdi x0 x1) K)=qd3 D n (fun v0_0 v0_1=>K (Ex.ret) (qd7 v0_0 v0_1)) (fun v1_0=>K (Ex.exit 0) (qd9 v1_0)) m:=by funext x0 x1;exact q0v D n K m x0 x1
  rw[qbbw]
  simp only[qbaj]
  rw[ih];rfl
theorem qbas (D:DX)(n:Nat) (v0_0:Bool) (v0_1:tSch) :
 (CQ qc D n 169 [] [.r,.l,.r,.l] (qh qc 169)) (Ex.ret) (qd7 v0_0 v0_1)=qp1 D n v0_0 v0_1:=by kernel_rfl
theorem qba1 (D:DX)(n:Nat) (v1_0:tSch) :
 (CQ qc D n 169 [] [.r,.l,.r,.l] (qh qc 169)) (Ex.exit 0) (qd9 v1_0)=qqe D n v1_0:=by kernel_rfl
theorem qbat (D:DX)(n:Nat) (x0:Int) (x1:tSch) :
 LQ qc D n 169 [.r,.l,.r,.l] n (qdi x0 x1) (CQ qc D n 169 [] [.r,.l,.r,.l] (qh qc 169))=qq4 D n x0 x1:=by
 rw[q0v]
 simp only[qbas,qba1]
 rfl
theorem qbf8 (D:DX)(n:Nat) (a0:tSch):rfC qc D n 169 (a0,())=qud D n a0:=by
 have h:rfC qc D n 169 (a0,())=qu7 D n (fun x0 x1=>LQ qc D n 169 [.r,.l,.r,.l] n (qdi x0 x1) (CQ qc D n 169 [] [.r,.l,.r,.l] (qh qc 169))) a0:=by kernel_rfl
 rw[h]
 simp only[qbat]
 rfl

def qzz (D:DX)(n:Nat) (go:qd→Int→Option ((Bool×Unit)×Unit)) (K0:qd→Bool→Option ((Bool×Unit)×Unit)) (K1:qd→Option ((Bool×Unit)×Unit)) (x0:qd) (x1:Int):Option ((Bool×Unit)×Unit):=br (decide (x1<(↑(List.length x0):Int))) (br (decide (0≤x1)&&decide (x1<(↑(List.length x0):Int))) (qi (qt4 D (List.getD x0 (Int.toNat x1) (0,0,ByteArray.empty,()))) fun b↦br (!Prod.fst (Prod.fst b)) (K0 x0 false) (go x0 (IntKind.wrap IntKind.i64 (x1+1)))) none) (K1 x0)
def qjs (D:DX)(n:Nat) (K0:qd→Bool→Option ((Bool×Unit)×Unit)) (K1:qd→Option ((Bool×Unit)×Unit)):Nat→(qd)→(Int)→Option ((Bool×Unit)×Unit) | 0=>(fun x0 x1=>none) | m+1=>(fun x0 x1=>qzz D n (qjs D n K0 K1 m) K0 K1 x0 x1)
def q5j (D:DX)(n:Nat) (v0_0:qd) (v0_1:Bool):Option ((Bool×Unit)×Unit):=some ((v0_1,()),())
def q5g (D:DX)(n:Nat) (v1_0:qd):Option ((Bool×Unit)×Unit):=some ((decide ((↑(List.length v1_0):Int)≤4),()),())
def qwz (D:DX)(n:Nat):(qd)→(Int)→Option ((Bool×Unit)×Unit):=(fun x0 x1=>qjs D n (fun v0_0 v0_1=>q5j D n v0_0 v0_1) (fun v1_0=>q5g D n v1_0) n x0 x1)
def q1g (D:DX)(n:Nat) (lp0:qd→Int→Option ((Bool×Unit)×Unit)) (a0:qd):Option ((Bool×Unit)×Unit):=lp0 a0 0
def q1z (D:DX)(n:Nat) (a0:qd):Option ((Bool×Unit)×Unit):=q1g D n (qwz D n) a0
def qjy (x0:qd) (x1:Int):St:=stq 19 [(0,AV.val (Ty.sl yV) x0),(3,avI x1)] [] 
def qol (v0_0:qd) (v0_1:Bool):St:=stq 19 [(0,AV.val (Ty.sl yV) v0_0),(2,AV.val Ty.bool v0_1)] [] 
def qoo (v1_0:qd):St:=stq 19 [(0,AV.val (Ty.sl yV) v1_0)] [] 
theorem qbi4 (D:DX)(n:Nat) (m:Nat) (K:Ex→St→Option (Out ctx 172)) (x0:qd) (x1:Int) :
 LQ qc D n 172 [.r,.l,.r,.l] (m+1) (qjy x0 x1) K=qzz D n (fun x0 x1=>LQ qc D n 172 [.r,.l,.r,.l] m (qjy x0 x1) K) (fun v0_0 v0_1=>K (Ex.ret) (qol v0_0 v0_1)) (fun v1_0=>K (Ex.exit 0) (qoo v1_0)) x0 x1:=by kernel_rfl
theorem q6x (D:DX)(n:Nat) (K:Ex→St→Option (Out ctx 172)):∀ (m:Nat) (x0:qd) (x1:Int),LQ qc D n 172 [.r,.l,.r,.l] m (qjy x0 x1) K=qjs D n (fun v0_0 v0_1=>K (Ex.ret) (qol v0_0 v0_1)) (fun v1_0=>K (Ex.exit 0) (qoo v1_0)) m x0 x1
 | 0,x0,x1=>qu ..
 | m+1,x0,x1=>by
  have ih:(fun x0 x1=>LQ qc D n 172 [.r,.l,.r,.l] m (qjy x0 x1) K)=qjs D n (fun v0_0 v0_1=>K (Ex.ret) (qol v0_0 v0_1)) (fun v1_0=>K (Ex.exit 0) (qoo v1_0)) m:=by funext x0 x1;exact q6x D n K m x0 x1
  rw[qbi4]
  rw[ih];rfl
theorem qbfh (D:DX)(n:Nat) (v0_0:qd) (v0_1:Bool) :
 (CQ qc D n 172 [] [.r,.l,.r,.l] (qh qc 172)) (Ex.ret) (qol v0_0 v0_1)=q5j D n v0_0 v0_1:=by kernel_rfl
theorem qbgu (D:DX)(n:Nat) (v1_0:qd) :
 (CQ qc D n 172 [] [.r,.l,.r,.l] (qh qc 172)) (Ex.exit 0) (qoo v1_0)=q5g D n v1_0:=by kernel_rfl
theorem qbgg (D:DX)(n:Nat) (x0:qd) (x1:Int) :
 LQ qc D n 172 [.r,.l,.r,.l] n (qjy x0 x1) (CQ qc D n 172 [] [.r,.l,.r,.l] (qh qc 172))=qwz D n x0 x1:=by
 rw[q6x]
 simp only[qbfh,qbgu]
 rfl
theorem qbng (D:DX)(n:Nat) (a0:qd):rfC qc D n 172 (a0,())=q1z D n a0:=by
 have h:rfC qc D n 172 (a0,())=q1g D n (fun x0 x1=>LQ qc D n 172 [.r,.l,.r,.l] n (qjy x0 x1) (CQ qc D n 172 [] [.r,.l,.r,.l] (qh qc 172))) a0:=by kernel_rfl
 rw[h]
 simp only[qbgg]
 rfl

def qp3 (D:DX)(n:Nat) (go:Int→Int→List Int→Option ((List Int×Unit)×Unit)) (K0:List Int→Option ((List Int×Unit)×Unit)) (x0:Int) (x1:Int) (x2:List Int):Option ((List Int×Unit)×Unit):=br (decide (x1≥0)) (br (decide (x1<0)) none (br (decide (List.length x2+1≤qbc)) (go x0 (IntKind.wrap IntKind.i64 (x1 - 8)) (x2++[IntKind.wrap IntKind.u8 (IntKind.wrap IntKind.i64 (↑(BitVec.toNat (BitVec.and (BitVec.ofInt (IntKind.bits IntKind.i64) (Int.fdiv x0 (Int.pow 2 (if Int.toNat x1≤IntKind.bits IntKind.i64 then Int.toNat x1 else IntKind.bits IntKind.i64)))) (BitVec.ofInt (IntKind.bits IntKind.i64) 255))):Int))])) none)) (K0 x2)
def qgi (D:DX)(n:Nat) (K0:List Int→Option ((List Int×Unit)×Unit)):Nat→(Int)→(Int)→(List Int)→Option ((List Int×Unit)×Unit) | 0=>(fun x0 x1 x2=>none) | m+1=>(fun x0 x1 x2=>qp3 D n (qgi D n K0 m) K0 x0 x1 x2)
def q3m (D:DX)(n:Nat) (v0_0:List Int):Option ((List Int×Unit)×Unit):=some ((v0_0,()),())
def qul (D:DX)(n:Nat):(Int)→(Int)→(List Int)→Option ((List Int×Unit)×Unit):=(fun x0 x1 x2=>qgi D n (fun v0_0=>q3m D n v0_0) n x0 x1 x2)
def qwr (D:DX)(n:Nat) (go:Int→Int×Int×ByteArray×Unit→List Int→Option ((List Int×Unit)×Unit)) (K0:List Int→Option ((List Int×Unit)×Unit)) (x1_0:Int) (x1_1:Int×Int×ByteArray×Unit) (x1_2:List Int):Option ((List Int×Unit)×Unit):=br (decide (x1_0<(↑(ByteArray.size (Prod.fst (Prod.snd (Prod.snd x1_1)))):Int))) (br (decide (0≤x1_0)&&decide (x1_0<(↑(ByteArray.size (Prod.fst (Prod.snd (Prod.snd x1_1)))):Int))) (br (decide (List.length x1_2+1≤qbc)) (br (decide (0≤x1_0)&&decide (x1_0<(↑(ByteArray.size (Prod.fst (Prod.snd (Prod.snd x1_1)))):Int))) (br (decide ((↑(UInt8.toNat (Array.getD (ByteArray.data (Prod.fst (Prod.snd (Prod.snd x1_1)))) (Int.toNat x1_0) (UInt8.ofNat 0))):Int)=0)) (br (decide (List.length (x1_2++[(↑(UInt8.toNat (Array.getD (ByteArray.data (Prod.fst (Prod.snd (Prod.snd x1_1)))) (Int.toNat x1_0) (UInt8.ofNat 0))):Int)])+1≤qbc)) (go (IntKind.wrap IntKind.i64 (x1_0+1)) x1_1 (x1_2++[(↑(UInt8.toNat (Array.getD (ByteArray.data (Prod.fst (Prod.snd (Prod.snd x1_1)))) (Int.toNat x1_0) (UInt8.ofNat 0))):Int)]++[255])) none) (go (IntKind.wrap IntKind.i64 (x1_0+1)) x1_1 (x1_2++[(↑(UInt8.toNat (Array.getD (ByteArray.data (Prod.fst (Prod.snd (Prod.snd x1_1)))) (Int.toNat x1_0) (UInt8.ofNat 0))):Int)]))) none) none) none) (K0 x1_2)
def qjf (D:DX)(n:Nat) (K0:List Int→Option ((List Int×Unit)×Unit)):Nat→(Int)→tVal→(List Int)→Option ((List Int×Unit)×Unit) | 0=>(fun x1_0 x1_1 x1_2=>none) | m+1=>(fun x1_0 x1_1 x1_2=>qwr D n (qjf D n K0 m) K0 x1_0 x1_1 x1_2)
def qsx (D:DX)(n:Nat) (v0_0:List Int):Option ((List Int×Unit)×Unit):=br (decide (List.length v0_0+2≤qbc)) (some ((v0_0++[0,1],()),())) none
def qvg (D:DX)(n:Nat):(Int)→tVal→(List Int)→Option ((List Int×Unit)×Unit):=(fun x1_0 x1_1 x1_2=>qjf D n (fun v0_0=>qsx D n v0_0) n x1_0 x1_1 x1_2)
def qy8 (D:DX)(n:Nat) (lp0:Int→Int→List Int→Option ((List Int×Unit)×Unit)) (lp1:Int→Int×Int×ByteArray×Unit→List Int→Option ((List Int×Unit)×Unit)) (a0:Int×Int×ByteArray×Unit):Option ((List Int×Unit)×Unit):=br (decide (Prod.fst a0=1)) (some (([IntKind.wrap IntKind.u8 (IntKind.wrap IntKind.i64 (Prod.fst a0+1))]++[IntKind.wrap IntKind.u8 (Prod.fst (Prod.snd a0))],()),())) (br (decide (Prod.fst a0=2)) (lp0 (IntKind.wrap IntKind.i64 (Prod.fst (Prod.snd a0)+4611686018427387904)) 56 [IntKind.wrap IntKind.u8 (IntKind.wrap IntKind.i64 (Prod.fst a0+1))]) (br (decide (Prod.fst a0=3)) (lp1 0 a0 [IntKind.wrap IntKind.u8 (IntKind.wrap IntKind.i64 (Prod.fst a0+1))]) (some (([IntKind.wrap IntKind.u8 (IntKind.wrap IntKind.i64 (Prod.fst a0+1))],()),()))))
def qyf (D:DX)(n:Nat) (a0:Int×Int×ByteArray×Unit):Option ((List Int×Unit)×Unit):=qy8 D n (qul D n) (qvg D n) a0
def qir (x0:Int) (x1:Int) (x2:List Int):St:=stq 67 [(3,AV.brw 3 [] 0),(4,avI x0),(5,avI x1)] [(3,Root.mk (Ty.sl (Ty.int IntKind.u8)) (Mk.own 0 Mk.no) x2 false)] 
def qmw (v0_0:List Int):St:=stq 67 [(3,AV.brw 3 [] 0)] [(3,Root.mk (Ty.sl (Ty.int IntKind.u8)) (Mk.own 0 Mk.no) v0_0 false)] 
def qi0 (x1_0:Int) (x1_1:Int×Int×ByteArray×Unit) (x1_2:List Int):St:=stq 67 [(1,AV.addr 1 []),(3,AV.brw 3 [] 0),(6,avI x1_0)] [(1,Root.mk yV Mk.no x1_1 true),(3,Root.mk (Ty.sl (Ty.int IntKind.u8)) (Mk.own 0 Mk.no) x1_2 false)] 
def qnw (v0_0:List Int):St:=stq 67 [(3,AV.brw 3 [] 0)] [(3,Root.mk (Ty.sl (Ty.int IntKind.u8)) (Mk.own 0 Mk.no) v0_0 false)] 
theorem qbf2 (D:DX)(n:Nat) (m:Nat) (K:Ex→St→Option (Out ctx 173)) (x0:Int) (x1:Int) (x2:List Int) :
 LQ qc D n 173 [.r,.r,.l,.r,.l,.r,.r,.r,.l,.r,.r,.l] (m+1) (qir x0 x1 x2) K=qp3 D n (fun x0 x1 x2=>LQ qc D n 173 [.r,.r,.l,.r,.l,.r,.r,.r,.l,.r,.r,.l] m (qir x0 x1 x2) K) (fun v0_0=>K (Ex.exit 1) (qmw v0_0)) x0 x1 x2:=by kernel_rfl
theorem q4s (D:DX)(n:Nat) (K:Ex→St→Option (Out ctx 173)):∀ (m:Nat) (x0:Int) (x1:Int) (x2:List Int),LQ qc D n 173 [.r,.r,.l,.r,.l,.r,.r,.r,.l,.r,.r,.l] m (qir x0 x1 x2) K=qgi D n (fun v0_0=>K (Ex.exit 1) (qmw v0_0)) m x0 x1 x2
 | 0,x0,x1,x2=>qu ..
 | m+1,x0,x1,x2=>by
  have ih:(fun x0 x1 x2=>LQ qc D n 173 [.r,.r,.l,.r,.l,.r,.r,.r,.l,.r,.r,.l] m (qir x0 x1 x2) K)=qgi D n (fun v0_0=>K (Ex.exit 1) (qmw v0_0)) m:=by funext x0 x1 x2;exact q4s D n K m x0 x1 x2
  rw[qbf2]
  rw[ih];rfl
theorem qbcv (D:DX)(n:Nat) (v0_0:List Int) :
 (CQ qc D n 173 [] [.r,.r,.l,.r,.l,.r,.r,.r,.l,.r,.r,.l] (qh qc 173)) (Ex.exit 1) (qmw v0_0)=q3m D n v0_0:=by kernel_rfl
theorem qbd0 (D:DX)(n:Nat) (x0:Int) (x1:Int) (x2:List Int) :
 LQ qc D n 173 [.r,.r,.l,.r,.l,.r,.r,.r,.l,.r,.r,.l] n (qir x0 x1 x2) (CQ qc D n 173 [] [.r,.r,.l,.r,.l,.r,.r,.r,.l,.r,.r,.l] (qh qc 173))=qul D n x0 x1 x2:=by
 rw[q4s]
 simp only[qbcv]
 rfl
theorem qbgn (D:DX)(n:Nat) (m:Nat) (K:Ex→St→Option (Out ctx 173)) (x1_0:Int) (x1_1:Int×Int×ByteArray×Unit) (x1_2:List Int) :
 LQ qc D n 173 [.r,.r,.l,.r,.l,.r,.r,.r,.r,.r,.l,.l,.r,.l] (m+1) (qi0 x1_0 x1_1 x1_2) K=qwr D n (fun x1_0 x1_1 x1_2=>LQ qc D n 173 [.r,.r,.l,.r,.l,.r,.r,.r,.r,.r,.l,.l,.r,.l] m (qi0 x1_0 x1_1 x1_2) K) (fun v0_0=>K (Ex.exit 3) (qnw v0_0)) x1_0 x1_1 x1_2:=by kernel_rfl
theorem q5d (D:DX)(n:Nat) (K:Ex→St→Option (Out ctx 173)):∀ (m:Nat) (x1_0:Int) (x1_1:Int×Int×ByteArray×Unit) (x1_2:List Int),LQ qc D n 173 [.r,.r,.l,.r,.l,.r,.r,.r,.r,.r,.l,.l,.r,.l] m (qi0 x1_0 x1_1 x1_2) K=qjf D n (fun v0_0=>K (Ex.exit 3) (qnw v0_0)) m x1_0 x1_1 x1_2
 | 0,x1_0,x1_1,x1_2=>qu ..
 | m+1,x1_0,x1_1,x1_2=>by
  have ih:(fun x1_0 x1_1 x1_2=>LQ qc D n 173 [.r,.r,.l,.r,.l,.r,.r,.r,.r,.r,.l,.l,.r,.l] m (qi0 x1_0 x1_1 x1_2) K)=qjf D n (fun v0_0=>K (Ex.exit 3) (qnw v0_0)) m:=by funext x1_0 x1_1 x1_2;exact q5d D n K m x1_0 x1_1 x1_2
  rw[qbgn]
  rw[ih];rfl
theorem qbes (D:DX)(n:Nat) (v0_0:List Int) :
 (CQ qc D n 173 [] [.r,.r,.l,.r,.l,.r,.r,.r,.r,.r,.l,.l,.r,.l] (qh qc 173)) (Ex.exit 3) (qnw v0_0)=qsx D n v0_0:=by kernel_rfl
theorem qbew (D:DX)(n:Nat) (x1_0:Int) (x1_1:Int×Int×ByteArray×Unit) (x1_2:List Int) :
 LQ qc D n 173 [.r,.r,.l,.r,.l,.r,.r,.r,.r,.r,.l,.l,.r,.l] n (qi0 x1_0 x1_1 x1_2) (CQ qc D n 173 [] [.r,.r,.l,.r,.l,.r,.r,.r,.r,.r,.l,.l,.r,.l] (qh qc 173))=qvg D n x1_0 x1_1 x1_2:=by
 rw[q5d]
 simp only[qbes]
 rfl
theorem qbmj (D:DX)(n:Nat) (a0:Int×Int×ByteArray×Unit):rfC qc D n 173 (a0,())=qyf D n a0:=by
 have h:rfC qc D n 173 (a0,())=qy8 D n (fun x0 x1 x2=>LQ qc D n 173 [.r,.r,.l,.r,.l,.r,.r,.r,.l,.r,.r,.l] n (qir x0 x1 x2) (CQ qc D n 173 [] [.r,.r,.l,.r,.l,.r,.r,.r,.l,.r,.r,.l] (qh qc 173))) (fun x1_0 x1_1 x1_2=>LQ qc D n 173 [.r,.r,.l,.r,.l,.r,.r,.r,.r,.r,.l,.l,.r,.l] n (qi0 x1_0 x1_1 x1_2) (CQ qc D n 173 [] [.r,.r,.l,.r,.l,.r,.r,.r,.r,.r,.l,.l,.r,.l] (qh qc 173))) a0:=by kernel_rfl
 rw[h]
 simp only[qbd0,qbew]
 rfl

def q1f (D:DX)(n:Nat) (go:qn→Int→Int→Option ((Int×Unit)×Unit)) (K0:Int→Int→Option ((Int×Unit)×Unit)) (K1:Int→Option ((Int×Unit)×Unit)) (x0:qn) (x1:Int) (x2:Int):Option ((Int×Unit)×Unit):=br (decide (x2<(↑(List.length x0):Int))) (br (decide (0≤x2)&&decide (x2<(↑(List.length x0):Int))) (qi (qx7 D (List.getD x0 (Int.toNat x2) (ByteArray.empty,0,false,())) x1) fun b↦br (decide (Prod.fst (Prod.fst b)<0)) (K0 (Prod.fst (Prod.fst b)) (-1)) (go x0 (Prod.fst (Prod.fst b)) (IntKind.wrap IntKind.i64 (x2+1)))) none) (K1 x1)
def qk7 (D:DX)(n:Nat) (K0:Int→Int→Option ((Int×Unit)×Unit)) (K1:Int→Option ((Int×Unit)×Unit)):Nat→(qn)→(Int)→(Int)→Option ((Int×Unit)×Unit) | 0=>(fun x0 x1 x2=>none) | m+1=>(fun x0 x1 x2=>q1f D n (qk7 D n K0 K1 m) K0 K1 x0 x1 x2)
def qw8 (D:DX)(n:Nat) (v0_0:Int) (v0_1:Int):Option ((Int×Unit)×Unit):=some ((v0_1,()),())
def qxg (D:DX)(n:Nat) (v1_0:Int):Option ((Int×Unit)×Unit):=some ((v1_0,()),())
def qyu (D:DX)(n:Nat):(qn)→(Int)→(Int)→Option ((Int×Unit)×Unit):=(fun x0 x1 x2=>qk7 D n (fun v0_0 v0_1=>qw8 D n v0_0 v0_1) (fun v1_0=>qxg D n v1_0) n x0 x1 x2)
def q3s (D:DX)(n:Nat) (lp0:qn→Int→Int→Option ((Int×Unit)×Unit)) (a0:qn) (a1:Int):Option ((Int×Unit)×Unit):=br (decide (IntKind.wrap IntKind.i64 (a1 - (↑(List.length a0):Int))<0)) (some ((-1,()),())) (lp0 a0 (IntKind.wrap IntKind.i64 (a1 - (↑(List.length a0):Int))) 0)
def q4c (D:DX)(n:Nat) (a0:qn) (a1:Int):Option ((Int×Unit)×Unit):=q3s D n (qyu D n) a0 a1
def qlc (x0:qn) (x1:Int) (x2:Int):St:=stq 27 [(0,AV.val (Ty.sl yC) x0),(1,avI x1),(5,avI x2)] [] 
def qpp (v0_0:Int) (v0_1:Int):St:=stq 27 [(1,avI v0_0),(4,avI v0_1)] [] 
def qpk (v1_0:Int):St:=stq 27 [(1,avI v1_0)] [] 
theorem qbll (D:DX)(n:Nat) (m:Nat) (K:Ex→St→Option (Out ctx 174)) (x0:qn) (x1:Int) (x2:Int) :
 LQ qc D n 174 [.r,.r,.r,.l,.r,.l] (m+1) (qlc x0 x1 x2) K=q1f D n (fun x0 x1 x2=>LQ qc D n 174 [.r,.r,.r,.l,.r,.l] m (qlc x0 x1 x2) K) (fun v0_0 v0_1=>K (Ex.ret) (qpp v0_0 v0_1)) (fun v1_0=>K (Ex.exit 0) (qpk v1_0)) x0 x1 x2:=by kernel_rfl
theorem q8c (D:DX)(n:Nat) (K:Ex→St→Option (Out ctx 174)):∀ (m:Nat) (x0:qn) (x1:Int) (x2:Int),LQ qc D n 174 [.r,.r,.r,.l,.r,.l] m (qlc x0 x1 x2) K=qk7 D n (fun v0_0 v0_1=>K (Ex.ret) (qpp v0_0 v0_1)) (fun v1_0=>K (Ex.exit 0) (qpk v1_0)) m x0 x1 x2
 | 0,x0,x1,x2=>qu ..
 | m+1,x0,x1,x2=>by
  have ih:(fun x0 x1 x2=>LQ qc D n 174 [.r,.r,.r,.l,.r,.l] m (qlc x0 x1 x2) K)=qk7 D n (fun v0_0 v0_1=>K (Ex.ret) (qpp v0_0 v0_1)) (fun v1_0=>K (Ex.exit 0) (qpk v1_0)) m:=by funext x0 x1 x2;exact q8c D n K m x0 x1 x2
  rw[qbll]
  rw[ih];rfl
theorem qbis (D:DX)(n:Nat) (v0_0:Int) (v0_1:Int) :
 (CQ qc D n 174 [] [.r,.r,.r,.l,.r,.l] (qh qc 174)) (Ex.ret) (qpp v0_0 v0_1)=qw8 D n v0_0 v0_1:=by kernel_rfl
theorem qbil (D:DX)(n:Nat) (v1_0:Int) :
 (CQ qc D n 174 [] [.r,.r,.r,.l,.r,.l] (qh qc 174)) (Ex.exit 0) (qpk v1_0)=qxg D n v1_0:=by kernel_rfl
theorem qbio (D:DX)(n:Nat) (x0:qn) (x1:Int) (x2:Int) :
 LQ qc D n 174 [.r,.r,.r,.l,.r,.l] n (qlc x0 x1 x2) (CQ qc D n 174 [] [.r,.r,.r,.l,.r,.l] (qh qc 174))=qyu D n x0 x1 x2:=by
 rw[q8c]
 simp only[qbis,qbil]
 rfl
theorem qbpk (D:DX)(n:Nat) (a0:qn) (a1:Int):rfC qc D n 174 (a0,(a1,()))=q4c D n a0 a1:=by
 have h:rfC qc D n 174 (a0,(a1,()))=q3s D n (fun x0 x1 x2=>LQ qc D n 174 [.r,.r,.r,.l,.r,.l] n (qlc x0 x1 x2) (CQ qc D n 174 [] [.r,.r,.r,.l,.r,.l] (qh qc 174))) a0 a1:=by kernel_rfl
 rw[h]
 simp only[qbio]
 rfl

def qbbf (D:DX)(n:Nat) (a0:List Int) (a1:Int):Option ((Int×Unit)×Unit):=br (decide (IntKind.wrap IntKind.i64 (a1 - (↑(List.length a0):Int))<0)) (some ((-1,()),())) (some ((IntKind.wrap IntKind.i64 (a1 - (↑(List.length a0):Int)),()),()))
def q3q (D:DX)(n:Nat) (a0:List Int) (a1:Int):Option ((Int×Unit)×Unit):=qbbf D n a0 a1
theorem qbpz (D:DX)(n:Nat) (a0:List Int) (a1:Int):rfC qc D n 175 (a0,(a1,()))=q3q D n a0 a1:=by kernel_rfl

def qxe (D:DX)(n:Nat) (go:tIxs→Int→Int→Option ((Int×Unit)×Unit)) (K0:Int→Int→Option ((Int×Unit)×Unit)) (K1:Int→Option ((Int×Unit)×Unit)) (x0:tIxs) (x1:Int) (x2:Int):Option ((Int×Unit)×Unit):=br (decide (x2<(↑(List.length x0):Int))) (br (decide (0≤x2)&&decide (x2<(↑(List.length x0):Int))) (qi (qtr D (List.getD x0 (Int.toNat x2) (ByteArray.empty,[],false,())) x1) fun b↦br (decide (Prod.fst (Prod.fst b)<0)) (K0 (Prod.fst (Prod.fst b)) (-1)) (go x0 (Prod.fst (Prod.fst b)) (IntKind.wrap IntKind.i64 (x2+1)))) none) (K1 x1)
def qil (D:DX)(n:Nat) (K0:Int→Int→Option ((Int×Unit)×Unit)) (K1:Int→Option ((Int×Unit)×Unit)):Nat→(tIxs)→(Int)→(Int)→Option ((Int×Unit)×Unit) | 0=>(fun x0 x1 x2=>none) | m+1=>(fun x0 x1 x2=>qxe D n (qil D n K0 K1 m) K0 K1 x0 x1 x2)
def qsv (D:DX)(n:Nat) (v0_0:Int) (v0_1:Int):Option ((Int×Unit)×Unit):=some ((v0_1,()),())
def qs5 (D:DX)(n:Nat) (v1_0:Int):Option ((Int×Unit)×Unit):=some ((v1_0,()),())
def qu1 (D:DX)(n:Nat):(tIxs)→(Int)→(Int)→Option ((Int×Unit)×Unit):=(fun x0 x1 x2=>qil D n (fun v0_0 v0_1=>qsv D n v0_0 v0_1) (fun v1_0=>qs5 D n v1_0) n x0 x1 x2)
def qzv (D:DX)(n:Nat) (lp0:tIxs→Int→Int→Option ((Int×Unit)×Unit)) (a0:tIxs) (a1:Int):Option ((Int×Unit)×Unit):=br (decide (IntKind.wrap IntKind.i64 (a1 - (↑(List.length a0):Int))<0)) (some ((-1,()),())) (lp0 a0 (IntKind.wrap IntKind.i64 (a1 - (↑(List.length a0):Int))) 0)
def qzy (D:DX)(n:Nat) (a0:tIxs) (a1:Int):Option ((Int×Unit)×Unit):=qzv D n (qu1 D n) a0 a1
def qjb (x0:tIxs) (x1:Int) (x2:Int):St:=stq 27 [(0,AV.val (Ty.sl yX) x0),(1,avI x1),(5,avI x2)] [] 
def qnl (v0_0:Int) (v0_1:Int):St:=stq 27 [(1,avI v0_0),(4,avI v0_1)] [] 
def qmf (v1_0:Int):St:=stq 27 [(1,avI v1_0)] [] 
theorem qbgc (D:DX)(n:Nat) (m:Nat) (K:Ex→St→Option (Out ctx 176)) (x0:tIxs) (x1:Int) (x2:Int) :
 LQ qc D n 176 [.r,.r,.r,.l,.r,.l] (m+1) (qjb x0 x1 x2) K=qxe D n (fun x0 x1 x2=>LQ qc D n 176 [.r,.r,.r,.l,.r,.l] m (qjb x0 x1 x2) K) (fun v0_0 v0_1=>K (Ex.ret) (qnl v0_0 v0_1)) (fun v1_0=>K (Ex.exit 0) (qmf v1_0)) x0 x1 x2:=by kernel_rfl
theorem q5i (D:DX)(n:Nat) (K:Ex→St→Option (Out ctx 176)):∀ (m:Nat) (x0:tIxs) (x1:Int) (x2:Int),LQ qc D n 176 [.r,.r,.r,.l,.r,.l] m (qjb x0 x1 x2) K=qil D n (fun v0_0 v0_1=>K (Ex.ret) (qnl v0_0 v0_1)) (fun v1_0=>K (Ex.exit 0) (qmf v1_0)) m x0 x1 x2
 | 0,x0,x1,x2=>qu ..
 | m+1,x0,x1,x2=>by
  have ih:(fun x0 x1 x2=>LQ qc D n 176 [.r,.r,.r,.l,.r,.l] m (qjb x0 x1 x2) K)=qil D n (fun v0_0 v0_1=>K (Ex.ret) (qnl v0_0 v0_1)) (fun v1_0=>K (Ex.exit 0) (qmf v1_0)) m:=by funext x0 x1 x2;exact q5i D n K m x0 x1 x2
  rw[qbgc]
  rw[ih];rfl
theorem qbd5 (D:DX)(n:Nat) (v0_0:Int) (v0_1:Int) :
 (CQ qc D n 176 [] [.r,.r,.r,.l,.r,.l] (qh qc 176)) (Ex.ret) (qnl v0_0 v0_1)=qsv D n v0_0 v0_1:=by kernel_rfl
theorem qbdu (D:DX)(n:Nat) (v1_0:Int) :
 (CQ qc D n 176 [] [.r,.r,.r,.l,.r,.l] (qh qc 176)) (Ex.exit 0) (qmf v1_0)=qs5 D n v1_0:=by kernel_rfl
theorem qbdj (D:DX)(n:Nat) (x0:tIxs) (x1:Int) (x2:Int) :
 LQ qc D n 176 [.r,.r,.r,.l,.r,.l] n (qjb x0 x1 x2) (CQ qc D n 176 [] [.r,.r,.r,.l,.r,.l] (qh qc 176))=qu1 D n x0 x1 x2:=by
 rw[q5i]
 simp only[qbd5,qbdu]
 rfl
theorem qbju (D:DX)(n:Nat) (a0:tIxs) (a1:Int):rfC qc D n 176 (a0,(a1,()))=qzy D n a0 a1:=by
 have h:rfC qc D n 176 (a0,(a1,()))=qzv D n (fun x0 x1 x2=>LQ qc D n 176 [.r,.r,.r,.l,.r,.l] n (qjb x0 x1 x2) (CQ qc D n 176 [] [.r,.r,.r,.l,.r,.l] (qh qc 176))) a0 a1:=by kernel_rfl
 rw[h]
 simp only[qbdj]
 rfl

def q2g (D:DX)(n:Nat) (go:qn→Int→qn→Option ((qn×Unit)×Unit)) (K0:qn→Option ((qn×Unit)×Unit)) (x0:qn) (x1:Int) (x2:qn):Option ((qn×Unit)×Unit):=br (decide (x1<(↑(List.length x0):Int))) (br (decide (0≤x1)&&decide (x1<(↑(List.length x0):Int))) (qi (qyx D (List.getD x0 (Int.toNat x1) (ByteArray.empty,0,false,()))) fun b↦br (decide (0≤x1)&&decide (x1<(↑(List.length x2):Int))) (go x0 (IntKind.wrap IntKind.i64 (x1+1)) (List.set x2 (Int.toNat x1) (Prod.fst (Prod.fst b)))) none) none) (K0 x2)
def qkt (D:DX)(n:Nat) (K0:qn→Option ((qn×Unit)×Unit)):Nat→(qn)→(Int)→(qn)→Option ((qn×Unit)×Unit) | 0=>(fun x0 x1 x2=>none) | m+1=>(fun x0 x1 x2=>q2g D n (qkt D n K0 m) K0 x0 x1 x2)
def qp7 (D:DX)(n:Nat) (v0_0:qn):Option ((qn×Unit)×Unit):=some ((v0_0,()),())
def qyz (D:DX)(n:Nat):(qn)→(Int)→(qn)→Option ((qn×Unit)×Unit):=(fun x0 x1 x2=>qkt D n (fun v0_0=>qp7 D n v0_0) n x0 x1 x2)
def q4h (D:DX)(n:Nat) (lp0:qn→Int→qn→Option ((qn×Unit)×Unit)) (a0:qn):Option ((qn×Unit)×Unit):=br (decide (0≤(↑(List.length a0):Int))&&decide ((↑(List.length a0):Int)≤(↑(List.length a0):Int))&&decide ((↑(List.length a0):Int)≤(↑qbc:Int))) (lp0 a0 0 (List.replicate (Int.toNat (↑(List.length a0):Int)) (ByteArray.empty,0,false,()))) none
def q3y (D:DX)(n:Nat) (a0:qn):Option ((qn×Unit)×Unit):=q4h D n (qyz D n) a0
def qk8 (x0:qn) (x1:Int) (x2:qn):St:=stq 23 [(0,AV.val (Ty.sl yC) x0),(3,AV.brw 3 [] 0),(4,avI x1)] [(3,Root.mk (Ty.sl yC) (Mk.own 0 (Mk.pr Mk.no (Mk.pr Mk.no (Mk.pr Mk.no Mk.no)))) x2 false)] 
def qqa (v0_0:qn):St:=stq 23 [(3,AV.brw 3 [] 0)] [(3,Root.mk (Ty.sl yC) (Mk.own 0 (Mk.pr Mk.no (Mk.pr Mk.no (Mk.pr Mk.no Mk.no)))) v0_0 false)] 
theorem qbl2 (D:DX)(n:Nat) (m:Nat) (K:Ex→St→Option (Out ctx 177)) (x0:qn) (x1:Int) (x2:qn) :
 LQ qc D n 177 [.r,.r,.l,.r,.l] (m+1) (qk8 x0 x1 x2) K=q2g D n (fun x0 x1 x2=>LQ qc D n 177 [.r,.r,.l,.r,.l] m (qk8 x0 x1 x2) K) (fun v0_0=>K (Ex.exit 0) (qqa v0_0)) x0 x1 x2:=by kernel_rfl
theorem q7n (D:DX)(n:Nat) (K:Ex→St→Option (Out ctx 177)):∀ (m:Nat) (x0:qn) (x1:Int) (x2:qn),LQ qc D n 177 [.r,.r,.l,.r,.l] m (qk8 x0 x1 x2) K=qkt D n (fun v0_0=>K (Ex.exit 0) (qqa v0_0)) m x0 x1 x2
 | 0,x0,x1,x2=>qu ..
 | m+1,x0,x1,x2=>by
  have ih:(fun x0 x1 x2=>LQ qc D n 177 [.r,.r,.l,.r,.l] m (qk8 x0 x1 x2) K)=qkt D n (fun v0_0=>K (Ex.exit 0) (qqa v0_0)) m:=by funext x0 x1 x2;exact q7n D n K m x0 x1 x2
  rw[qbl2]
  rw[ih];rfl
theorem qbiw (D:DX)(n:Nat) (v0_0:qn) :
 (CQ qc D n 177 [] [.r,.r,.l,.r,.l] (qh qc 177)) (Ex.exit 0) (qqa v0_0)=qp7 D n v0_0:=by kernel_rfl
theorem qbid (D:DX)(n:Nat) (x0:qn) (x1:Int) (x2:qn) :
 LQ qc D n 177 [.r,.r,.l,.r,.l] n (qk8 x0 x1 x2) (CQ qc D n 177 [] [.r,.r,.l,.r,.l] (qh qc 177))=qyz D n x0 x1 x2:=by
 rw[q7n]
 simp only[qbiw]
 rfl
theorem qbpe (D:DX)(n:Nat) (a0:qn):rfC qc D n 177 (a0,())=q3y D n a0:=by
 have h:rfC qc D n 177 (a0,())=q4h D n (fun x0 x1 x2=>LQ qc D n 177 [.r,.r,.l,.r,.l] n (qk8 x0 x1 x2) (CQ qc D n 177 [] [.r,.r,.l,.r,.l] (qh qc 177))) a0:=by kernel_rfl
 rw[h]
 simp only[qbid]
 rfl

def q00 (D:DX)(n:Nat) (go:List Int→Int→List Int→Option ((List Int×Unit)×Unit)) (K0:List Int→Option ((List Int×Unit)×Unit)) (x0:List Int) (x1:Int) (x2:List Int):Option ((List Int×Unit)×Unit):=br (decide (x1<(↑(List.length x0):Int))) (br (decide (0≤x1)&&decide (x1<(↑(List.length x0):Int))) (br (decide (0≤x1)&&decide (x1<(↑(List.length x2):Int))) (go x0 (IntKind.wrap IntKind.i64 (x1+1)) (List.set x2 (Int.toNat x1) (List.getD x0 (Int.toNat x1) 0))) none) none) (K0 x2)
def qky (D:DX)(n:Nat) (K0:List Int→Option ((List Int×Unit)×Unit)):Nat→(List Int)→(Int)→(List Int)→Option ((List Int×Unit)×Unit) | 0=>(fun x0 x1 x2=>none) | m+1=>(fun x0 x1 x2=>q00 D n (qky D n K0 m) K0 x0 x1 x2)
def qpc (D:DX)(n:Nat) (v0_0:List Int):Option ((List Int×Unit)×Unit):=some ((v0_0,()),())
def qys (D:DX)(n:Nat):(List Int)→(Int)→(List Int)→Option ((List Int×Unit)×Unit):=(fun x0 x1 x2=>qky D n (fun v0_0=>qpc D n v0_0) n x0 x1 x2)
def q4j (D:DX)(n:Nat) (lp0:List Int→Int→List Int→Option ((List Int×Unit)×Unit)) (a0:List Int):Option ((List Int×Unit)×Unit):=br (decide (0≤(↑(List.length a0):Int))&&decide ((↑(List.length a0):Int)≤(↑(List.length a0):Int))&&decide ((↑(List.length a0):Int)≤(↑qbc:Int))) (lp0 a0 0 (List.replicate (Int.toNat (↑(List.length a0):Int)) 0)) none
def q4p (D:DX)(n:Nat) (a0:List Int):Option ((List Int×Unit)×Unit):=q4j D n (qys D n) a0
def qks (x0:List Int) (x1:Int) (x2:List Int):St:=stq 22 [(0,AV.val (Ty.sl yI) x0),(3,AV.brw 3 [] 0),(4,avI x1)] [(3,Root.mk (Ty.sl yI) (Mk.own 0 Mk.no) x2 false)] 
def qpb (v0_0:List Int):St:=stq 22 [(3,AV.brw 3 [] 0)] [(3,Root.mk (Ty.sl yI) (Mk.own 0 Mk.no) v0_0 false)] 
theorem qbl4 (D:DX)(n:Nat) (m:Nat) (K:Ex→St→Option (Out ctx 178)) (x0:List Int) (x1:Int) (x2:List Int) :
 LQ qc D n 178 [.r,.r,.l,.r,.l] (m+1) (qks x0 x1 x2) K=q00 D n (fun x0 x1 x2=>LQ qc D n 178 [.r,.r,.l,.r,.l] m (qks x0 x1 x2) K) (fun v0_0=>K (Ex.exit 0) (qpb v0_0)) x0 x1 x2:=by kernel_rfl
theorem q76 (D:DX)(n:Nat) (K:Ex→St→Option (Out ctx 178)):∀ (m:Nat) (x0:List Int) (x1:Int) (x2:List Int),LQ qc D n 178 [.r,.r,.l,.r,.l] m (qks x0 x1 x2) K=qky D n (fun v0_0=>K (Ex.exit 0) (qpb v0_0)) m x0 x1 x2
 | 0,x0,x1,x2=>qu ..
 | m+1,x0,x1,x2=>by
  have ih:(fun x0 x1 x2=>LQ qc D n 178 [.r,.r,.l,.r,.l] m (qks x0 x1 x2) K)=qky D n (fun v0_0=>K (Ex.exit 0) (qpb v0_0)) m:=by funext x0 x1 x2;exact q76 D n K m x0 x1 x2
  rw[qbl4]
  rw[ih];rfl
theorem qbh2 (D:DX)(n:Nat) (v0_0:List Int) :
 (CQ qc D n 178 [] [.r,.r,.l,.r,.l] (qh qc 178)) (Ex.exit 0) (qpb v0_0)=qpc D n v0_0:=by kernel_rfl
theorem qbhs (D:DX)(n:Nat) (x0:List Int) (x1:Int) (x2:List Int) :
 LQ qc D n 178 [.r,.r,.l,.r,.l] n (qks x0 x1 x2) (CQ qc D n 178 [] [.r,.r,.l,.r,.l] (qh qc 178))=qys D n x0 x1 x2:=by
 rw[q76]
 simp only[qbh2]
 rfl
theorem qbpa (D:DX)(n:Nat) (a0:List Int):rfC qc D n 178 (a0,())=q4p D n a0:=by
 have h:rfC qc D n 178 (a0,())=q4j D n (fun x0 x1 x2=>LQ qc D n 178 [.r,.r,.l,.r,.l] n (qks x0 x1 x2) (CQ qc D n 178 [] [.r,.r,.l,.r,.l] (qh qc 178))) a0:=by kernel_rfl
 rw[h]
 simp only[qbhs]
 rfl

def qw0 (D:DX)(n:Nat) (go:tIxs→Int→tIxs→Option ((tIxs×Unit)×Unit)) (K0:tIxs→Option ((tIxs×Unit)×Unit)) (x0:tIxs) (x1:Int) (x2:tIxs):Option ((tIxs×Unit)×Unit):=br (decide (x1<(↑(List.length x0):Int))) (br (decide (0≤x1)&&decide (x1<(↑(List.length x0):Int))) (qi (qtz D (List.getD x0 (Int.toNat x1) (ByteArray.empty,[],false,()))) fun b↦br (decide (0≤x1)&&decide (x1<(↑(List.length x2):Int))) (go x0 (IntKind.wrap IntKind.i64 (x1+1)) (List.set x2 (Int.toNat x1) (Prod.fst (Prod.fst (Prod.fst b)),Prod.fst (Prod.snd (Prod.fst (Prod.fst b))),Prod.snd (Prod.snd (Prod.fst (Prod.fst b)))))) none) none) (K0 x2)
def qja (D:DX)(n:Nat) (K0:tIxs→Option ((tIxs×Unit)×Unit)):Nat→(tIxs)→(Int)→(tIxs)→Option ((tIxs×Unit)×Unit) | 0=>(fun x0 x1 x2=>none) | m+1=>(fun x0 x1 x2=>qw0 D n (qja D n K0 m) K0 x0 x1 x2)
def qml (D:DX)(n:Nat) (v0_0:tIxs):Option ((tIxs×Unit)×Unit):=some ((v0_0,()),())
def quw (D:DX)(n:Nat):(tIxs)→(Int)→(tIxs)→Option ((tIxs×Unit)×Unit):=(fun x0 x1 x2=>qja D n (fun v0_0=>qml D n v0_0) n x0 x1 x2)
def qzt (D:DX)(n:Nat) (lp0:tIxs→Int→tIxs→Option ((tIxs×Unit)×Unit)) (a0:tIxs):Option ((tIxs×Unit)×Unit):=br (decide (0≤(↑(List.length a0):Int))&&decide ((↑(List.length a0):Int)≤(↑(List.length a0):Int))&&decide ((↑(List.length a0):Int)≤(↑qbc:Int))) (lp0 a0 0 (List.replicate (Int.toNat (↑(List.length a0):Int)) (ByteArray.empty,[],false,()))) none
def qyo (D:DX)(n:Nat) (a0:tIxs):Option ((tIxs×Unit)×Unit):=qzt D n (quw D n) a0
def qin (x0:tIxs) (x1:Int) (x2:tIxs):St:=stq 23 [(0,AV.val (Ty.sl yX) x0),(3,AV.brw 3 [] 0),(4,avI x1)] [(3,Root.mk (Ty.sl yX) (Mk.own 0 (Mk.pr Mk.no (Mk.pr (Mk.own 0 Mk.no) (Mk.pr Mk.no Mk.no)))) x2 false)] 
def qnb (v0_0:tIxs):St:=stq 23 [(3,AV.brw 3 [] 0)] [(3,Root.mk (Ty.sl yX) (Mk.own 0 (Mk.pr Mk.no (Mk.pr (Mk.own 0 Mk.no) (Mk.pr Mk.no Mk.no)))) v0_0 false)] 
theorem qbfy (D:DX)(n:Nat) (m:Nat) (K:Ex→St→Option (Out ctx 179)) (x0:tIxs) (x1:Int) (x2:tIxs) :
 LQ qc D n 179 [.r,.r,.l,.r,.l] (m+1) (qin x0 x1 x2) K=qw0 D n (fun x0 x1 x2=>LQ qc D n 179 [.r,.r,.l,.r,.l] m (qin x0 x1 x2) K) (fun v0_0=>K (Ex.exit 0) (qnb v0_0)) x0 x1 x2:=by kernel_rfl
theorem q5h (D:DX)(n:Nat) (K:Ex→St→Option (Out ctx 179)):∀ (m:Nat) (x0:tIxs) (x1:Int) (x2:tIxs),LQ qc D n 179 [.r,.r,.l,.r,.l] m (qin x0 x1 x2) K=qja D n (fun v0_0=>K (Ex.exit 0) (qnb v0_0)) m x0 x1 x2
 | 0,x0,x1,x2=>qu ..
 | m+1,x0,x1,x2=>by
  have ih:(fun x0 x1 x2=>LQ qc D n 179 [.r,.r,.l,.r,.l] m (qin x0 x1 x2) K)=qja D n (fun v0_0=>K (Ex.exit 0) (qnb v0_0)) m:=by funext x0 x1 x2;exact q5h D n K m x0 x1 x2
  rw[qbfy]
  rw[ih];rfl
theorem qbdg (D:DX)(n:Nat) (v0_0:tIxs) :
 (CQ qc D n 179 [] [.r,.r,.l,.r,.l] (qh qc 179)) (Ex.exit 0) (qnb v0_0)=qml D n v0_0:=by kernel_rfl
theorem qbel (D:DX)(n:Nat) (x0:tIxs) (x1:Int) (x2:tIxs) :
 LQ qc D n 179 [.r,.r,.l,.r,.l] n (qin x0 x1 x2) (CQ qc D n 179 [] [.r,.r,.l,.r,.l] (qh qc 179))=quw D n x0 x1 x2:=by
 rw[q5h]
 simp only[qbdg]
 rfl
theorem qblk (D:DX)(n:Nat) (a0:tIxs):rfC qc D n 179 (a0,())=qyo D n a0:=by
 have h:rfC qc D n 179 (a0,())=qzt D n (fun x0 x1 x2=>LQ qc D n 179 [.r,.r,.l,.r,.l] n (qin x0 x1 x2) (CQ qc D n 179 [] [.r,.r,.l,.r,.l] (qh qc 179))) a0:=by kernel_rfl
 rw[h]
 simp only[qbel]
 rfl

def q03 (D:DX)(n:Nat) (go:qn→qn→Int→Option ((Bool×Unit)×Unit)) (K0:Bool→Option ((Bool×Unit)×Unit)) (K1:Option ((Bool×Unit)×Unit)) (x0:qn) (x1:qn) (x2:Int):Option ((Bool×Unit)×Unit):=br (decide (x2<(↑(List.length x0):Int))) (br (decide (0≤x2)&&decide (x2<(↑(List.length x0):Int))) (br (decide (0≤x2)&&decide (x2<(↑(List.length x1):Int))) (qi (qzm D (List.getD x0 (Int.toNat x2) (ByteArray.empty,0,false,())) (List.getD x1 (Int.toNat x2) (ByteArray.empty,0,false,()))) fun b↦br (!Prod.fst (Prod.fst b)) (K0 false) (go x0 x1 (IntKind.wrap IntKind.i64 (x2+1)))) none) none) K1
def qkq (D:DX)(n:Nat) (K0:Bool→Option ((Bool×Unit)×Unit)) (K1:Option ((Bool×Unit)×Unit)):Nat→(qn)→(qn)→(Int)→Option ((Bool×Unit)×Unit) | 0=>(fun x0 x1 x2=>none) | m+1=>(fun x0 x1 x2=>q03 D n (qkq D n K0 K1 m) K0 K1 x0 x1 x2)
def qp8 (D:DX)(n:Nat) (v0_0:Bool):Option ((Bool×Unit)×Unit):=some ((v0_0,()),())
def qpu (D:DX)(n:Nat):Option ((Bool×Unit)×Unit):=some ((true,()),())
def qyc (D:DX)(n:Nat):(qn)→(qn)→(Int)→Option ((Bool×Unit)×Unit):=(fun x0 x1 x2=>qkq D n (fun v0_0=>qp8 D n v0_0) (qpu D n) n x0 x1 x2)
def q4d (D:DX)(n:Nat) (lp0:qn→qn→Int→Option ((Bool×Unit)×Unit)) (a0:qn) (a1:qn):Option ((Bool×Unit)×Unit):=br ((↑(List.length a0):Int) != (↑(List.length a1):Int)) (some ((false,()),())) (lp0 a0 a1 0)
def q4i (D:DX)(n:Nat) (a0:qn) (a1:qn):Option ((Bool×Unit)×Unit):=q4d D n (qyc D n) a0 a1
def qkv (x0:qn) (x1:qn) (x2:Int):St:=stq 27 [(0,AV.val (Ty.sl yC) x0),(1,AV.val (Ty.sl yC) x1),(5,avI x2)] [] 
def qpj (v0_0:Bool):St:=stq 27 [(4,AV.val Ty.bool v0_0)] [] 
def qp6:St:=stq 27 [] [] 
theorem qblq (D:DX)(n:Nat) (m:Nat) (K:Ex→St→Option (Out ctx 180)) (x0:qn) (x1:qn) (x2:Int) :
 LQ qc D n 180 [.r,.r,.l,.r,.l] (m+1) (qkv x0 x1 x2) K=q03 D n (fun x0 x1 x2=>LQ qc D n 180 [.r,.r,.l,.r,.l] m (qkv x0 x1 x2) K) (fun v0_0=>K (Ex.ret) (qpj v0_0)) (K (Ex.exit 0) (qp6)) x0 x1 x2:=by kernel_rfl
theorem q7r (D:DX)(n:Nat) (K:Ex→St→Option (Out ctx 180)):∀ (m:Nat) (x0:qn) (x1:qn) (x2:Int),LQ qc D n 180 [.r,.r,.l,.r,.l] m (qkv x0 x1 x2) K=qkq D n (fun v0_0=>K (Ex.ret) (qpj v0_0)) (K (Ex.exit 0) (qp6)) m x0 x1 x2
 | 0,x0,x1,x2=>qu ..
 | m+1,x0,x1,x2=>by
  have ih:(fun x0 x1 x2=>LQ qc D n 180 [.r,.r,.l,.r,.l] m (qkv x0 x1 x2) K)=qkq D n (fun v0_0=>K (Ex.ret) (qpj v0_0)) (K (Ex.exit 0) (qp6)) m:=by funext x0 x1 x2;exact q7r D n K m x0 x1 x2
  rw[qblq]
  rw[ih];rfl
theorem qbim (D:DX)(n:Nat) (v0_0:Bool) :
 (CQ qc D n 180 [] [.r,.r,.l,.r,.l] (qh qc 180)) (Ex.ret) (qpj v0_0)=qp8 D n v0_0:=by kernel_rfl
theorem qbiu (D:DX)(n:Nat) :
 (CQ qc D n 180 [] [.r,.r,.l,.r,.l] (qh qc 180)) (Ex.exit 0) (qp6)=qpu D n:=by kernel_rfl
theorem qbif (D:DX)(n:Nat) (x0:qn) (x1:qn) (x2:Int) :
 LQ qc D n 180 [.r,.r,.l,.r,.l] n (qkv x0 x1 x2) (CQ qc D n 180 [] [.r,.r,.l,.r,.l] (qh qc 180))=qyc D n x0 x1 x2:=by
 rw[q7r]
 simp only[qbim,qbiu]
 rfl
theorem qbpb (D:DX)(n:Nat) (a0:qn) (a1:qn):rfC qc D n 180 (a0,(a1,()))=q4i D n a0 a1:=by
 have h:rfC qc D n 180 (a0,(a1,()))=q4d D n (fun x0 x1 x2=>LQ qc D n 180 [.r,.r,.l,.r,.l] n (qkv x0 x1 x2) (CQ qc D n 180 [] [.r,.r,.l,.r,.l] (qh qc 180))) a0 a1:=by kernel_rfl
 rw[h]
 simp only[qbif]
 rfl

def q2f (D:DX)(n:Nat) (go:List Int→List Int→Int→Option ((Bool×Unit)×Unit)) (K0:Bool→Option ((Bool×Unit)×Unit)) (K1:Option ((Bool×Unit)×Unit)) (x0:List Int) (x1:List Int) (x2:Int):Option ((Bool×Unit)×Unit):=br (decide (x2<(↑(List.length x0):Int))) (br (decide (0≤x2)&&decide (x2<(↑(List.length x0):Int))) (br (decide (0≤x2)&&decide (x2<(↑(List.length x1):Int))) (br (List.getD x0 (Int.toNat x2) 0 != List.getD x1 (Int.toNat x2) 0) (K0 false) (go x0 x1 (IntKind.wrap IntKind.i64 (x2+1)))) none) none) K1
def qkw (D:DX)(n:Nat) (K0:Bool→Option ((Bool×Unit)×Unit)) (K1:Option ((Bool×Unit)×Unit)):Nat→(List Int)→(List Int)→(Int)→Option ((Bool×Unit)×Unit) | 0=>(fun x0 x1 x2=>none) | m+1=>(fun x0 x1 x2=>q2f D n (qkw D n K0 K1 m) K0 K1 x0 x1 x2)
def qpy (D:DX)(n:Nat) (v0_0:Bool):Option ((Bool×Unit)×Unit):=some ((v0_0,()),())
def qpi (D:DX)(n:Nat):Option ((Bool×Unit)×Unit):=some ((true,()),())
def qy4 (D:DX)(n:Nat):(List Int)→(List Int)→(Int)→Option ((Bool×Unit)×Unit):=(fun x0 x1 x2=>qkw D n (fun v0_0=>qpy D n v0_0) (qpi D n) n x0 x1 x2)
def q3w (D:DX)(n:Nat) (lp0:List Int→List Int→Int→Option ((Bool×Unit)×Unit)) (a0:List Int) (a1:List Int):Option ((Bool×Unit)×Unit):=br ((↑(List.length a0):Int) != (↑(List.length a1):Int)) (some ((false,()),())) (lp0 a0 a1 0)
def q3u (D:DX)(n:Nat) (a0:List Int) (a1:List Int):Option ((Bool×Unit)×Unit):=q3w D n (qy4 D n) a0 a1
def qku (x0:List Int) (x1:List Int) (x2:Int):St:=stq 26 [(0,AV.val (Ty.sl yI) x0),(1,AV.val (Ty.sl yI) x1),(5,avI x2)] [] 
def qp4 (v0_0:Bool):St:=stq 26 [(4,AV.val Ty.bool v0_0)] [] 
def qpt:St:=stq 26 [] [] 
theorem qbje (D:DX)(n:Nat) (m:Nat) (K:Ex→St→Option (Out ctx 181)) (x0:List Int) (x1:List Int) (x2:Int) :
 LQ qc D n 181 [.r,.r,.l,.r,.l] (m+1) (qku x0 x1 x2) K=q2f D n (fun x0 x1 x2=>LQ qc D n 181 [.r,.r,.l,.r,.l] m (qku x0 x1 x2) K) (fun v0_0=>K (Ex.ret) (qp4 v0_0)) (K (Ex.exit 0) (qpt)) x0 x1 x2:=by kernel_rfl
theorem q7m (D:DX)(n:Nat) (K:Ex→St→Option (Out ctx 181)):∀ (m:Nat) (x0:List Int) (x1:List Int) (x2:Int),LQ qc D n 181 [.r,.r,.l,.r,.l] m (qku x0 x1 x2) K=qkw D n (fun v0_0=>K (Ex.ret) (qp4 v0_0)) (K (Ex.exit 0) (qpt)) m x0 x1 x2
 | 0,x0,x1,x2=>qu ..
 | m+1,x0,x1,x2=>by
  have ih:(fun x0 x1 x2=>LQ qc D n 181 [.r,.r,.l,.r,.l] m (qku x0 x1 x2) K)=qkw D n (fun v0_0=>K (Ex.ret) (qp4 v0_0)) (K (Ex.exit 0) (qpt)) m:=by funext x0 x1 x2;exact q7m D n K m x0 x1 x2
  rw[qbje]
  rw[ih];rfl
theorem qbi0 (D:DX)(n:Nat) (v0_0:Bool) :
 (CQ qc D n 181 [] [.r,.r,.l,.r,.l] (qh qc 181)) (Ex.ret) (qp4 v0_0)=qpy D n v0_0:=by kernel_rfl
theorem qbig (D:DX)(n:Nat) :
 (CQ qc D n 181 [] [.r,.r,.l,.r,.l] (qh qc 181)) (Ex.exit 0) (qpt)=qpi D n:=by kernel_rfl
theorem qbh6 (D:DX)(n:Nat) (x0:List Int) (x1:List Int) (x2:Int) :
 LQ qc D n 181 [.r,.r,.l,.r,.l] n (qku x0 x1 x2) (CQ qc D n 181 [] [.r,.r,.l,.r,.l] (qh qc 181))=qy4 D n x0 x1 x2:=by
 rw[q7m]
 simp only[qbi0,qbig]
 rfl
theorem qbpj (D:DX)(n:Nat) (a0:List Int) (a1:List Int):rfC qc D n 181 (a0,(a1,()))=q3u D n a0 a1:=by
 have h:rfC qc D n 181 (a0,(a1,()))=q3w D n (fun x0 x1 x2=>LQ qc D n 181 [.r,.r,.l,.r,.l] n (qku x0 x1 x2) (CQ qc D n 181 [] [.r,.r,.l,.r,.l] (qh qc 181))) a0 a1:=by kernel_rfl
 rw[h]
 simp only[qbh6]
 rfl

def qxf (D:DX)(n:Nat) (go:tIxs→tIxs→Int→Option ((Bool×Unit)×Unit)) (K0:Bool→Option ((Bool×Unit)×Unit)) (K1:Option ((Bool×Unit)×Unit)) (x0:tIxs) (x1:tIxs) (x2:Int):Option ((Bool×Unit)×Unit):=br (decide (x2<(↑(List.length x0):Int))) (br (decide (0≤x2)&&decide (x2<(↑(List.length x0):Int))) (br (decide (0≤x2)&&decide (x2<(↑(List.length x1):Int))) (qi (qt8 D (List.getD x0 (Int.toNat x2) (ByteArray.empty,[],false,())) (List.getD x1 (Int.toNat x2) (ByteArray.empty,[],false,()))) fun b↦br (!Prod.fst (Prod.fst b)) (K0 false) (go x0 x1 (IntKind.wrap IntKind.i64 (x2+1)))) none) none) K1
def qi7 (D:DX)(n:Nat) (K0:Bool→Option ((Bool×Unit)×Unit)) (K1:Option ((Bool×Unit)×Unit)):Nat→(tIxs)→(tIxs)→(Int)→Option ((Bool×Unit)×Unit) | 0=>(fun x0 x1 x2=>none) | m+1=>(fun x0 x1 x2=>qxf D n (qi7 D n K0 K1 m) K0 K1 x0 x1 x2)
def qm0 (D:DX)(n:Nat) (v0_0:Bool):Option ((Bool×Unit)×Unit):=some ((v0_0,()),())
def qmi (D:DX)(n:Nat):Option ((Bool×Unit)×Unit):=some ((true,()),())
def qva (D:DX)(n:Nat):(tIxs)→(tIxs)→(Int)→Option ((Bool×Unit)×Unit):=(fun x0 x1 x2=>qi7 D n (fun v0_0=>qm0 D n v0_0) (qmi D n) n x0 x1 x2)
def qz1 (D:DX)(n:Nat) (lp0:tIxs→tIxs→Int→Option ((Bool×Unit)×Unit)) (a0:tIxs) (a1:tIxs):Option ((Bool×Unit)×Unit):=br ((↑(List.length a0):Int) != (↑(List.length a1):Int)) (some ((false,()),())) (lp0 a0 a1 0)
def qyr (D:DX)(n:Nat) (a0:tIxs) (a1:tIxs):Option ((Bool×Unit)×Unit):=qz1 D n (qva D n) a0 a1
def qit (x0:tIxs) (x1:tIxs) (x2:Int):St:=stq 27 [(0,AV.val (Ty.sl yX) x0),(1,AV.val (Ty.sl yX) x1),(5,avI x2)] [] 
def qng (v0_0:Bool):St:=stq 27 [(4,AV.val Ty.bool v0_0)] [] 
def qne:St:=stq 27 [] [] 
theorem qbfz (D:DX)(n:Nat) (m:Nat) (K:Ex→St→Option (Out ctx 182)) (x0:tIxs) (x1:tIxs) (x2:Int) :
 LQ qc D n 182 [.r,.r,.l,.r,.l] (m+1) (qit x0 x1 x2) K=qxf D n (fun x0 x1 x2=>LQ qc D n 182 [.r,.r,.l,.r,.l] m (qit x0 x1 x2) K) (fun v0_0=>K (Ex.ret) (qng v0_0)) (K (Ex.exit 0) (qne)) x0 x1 x2:=by kernel_rfl
theorem q43 (D:DX)(n:Nat) (K:Ex→St→Option (Out ctx 182)):∀ (m:Nat) (x0:tIxs) (x1:tIxs) (x2:Int),LQ qc D n 182 [.r,.r,.l,.r,.l] m (qit x0 x1 x2) K=qi7 D n (fun v0_0=>K (Ex.ret) (qng v0_0)) (K (Ex.exit 0) (qne)) m x0 x1 x2
 | 0,x0,x1,x2=>qu ..
 | m+1,x0,x1,x2=>by
  have ih:(fun x0 x1 x2=>LQ qc D n 182 [.r,.r,.l,.r,.l] m (qit x0 x1 x2) K)=qi7 D n (fun v0_0=>K (Ex.ret) (qng v0_0)) (K (Ex.exit 0) (qne)) m:=by funext x0 x1 x2;exact q43 D n K m x0 x1 x2
  rw[qbfz]
  rw[ih];rfl
theorem qbde (D:DX)(n:Nat) (v0_0:Bool) :
 (CQ qc D n 182 [] [.r,.r,.l,.r,.l] (qh qc 182)) (Ex.ret) (qng v0_0)=qm0 D n v0_0:=by kernel_rfl
theorem qbdn (D:DX)(n:Nat) :
 (CQ qc D n 182 [] [.r,.r,.l,.r,.l] (qh qc 182)) (Ex.exit 0) (qne)=qmi D n:=by kernel_rfl
theorem qbej (D:DX)(n:Nat) (x0:tIxs) (x1:tIxs) (x2:Int) :
 LQ qc D n 182 [.r,.r,.l,.r,.l] n (qit x0 x1 x2) (CQ qc D n 182 [] [.r,.r,.l,.r,.l] (qh qc 182))=qva D n x0 x1 x2:=by
 rw[q43]
 simp only[qbde,qbdn]
 rfl
theorem qbk9 (D:DX)(n:Nat) (a0:tIxs) (a1:tIxs):rfC qc D n 182 (a0,(a1,()))=qyr D n a0 a1:=by
 have h:rfC qc D n 182 (a0,(a1,()))=qz1 D n (fun x0 x1 x2=>LQ qc D n 182 [.r,.r,.l,.r,.l] n (qit x0 x1 x2) (CQ qc D n 182 [] [.r,.r,.l,.r,.l] (qh qc 182))) a0 a1:=by kernel_rfl
 rw[h]
 simp only[qbej]
 rfl

def qwj (D:DX)(n:Nat) (go:Int→Int→qn→Option ((Int×Unit)×qn×Unit)) (K0:Int→qn→Option ((Int×Unit)×qn×Unit)) (x0:Int) (x1:Int) (x2:qn):Option ((Int×Unit)×qn×Unit):=br (decide (x1<(↑(List.length x2):Int))) (qi (qev D x0) fun b↦br (decide (0≤x1)&&decide (x1<(↑(List.length x2):Int))) (br (decide (0≤x1)&&decide (x1<(↑(List.length (List.set x2 (Int.toNat x1) (Prod.fst (Prod.fst b),Prod.snd (List.getD x2 (Int.toNat x1) (ByteArray.empty,0,false,()))))):Int))) (br (decide (0≤x1)&&decide (x1<(↑(List.length (List.set (List.set x2 (Int.toNat x1) (Prod.fst (Prod.fst b),Prod.snd (List.getD x2 (Int.toNat x1) (ByteArray.empty,0,false,())))) (Int.toNat x1) (Prod.fst (List.getD (List.set x2 (Int.toNat x1) (Prod.fst (Prod.fst b),Prod.snd (List.getD x2 (Int.toNat x1) (ByteArray.empty,0,false,())))) (Int.toNat x1) (ByteArray.empty,0,false,())),IntKind.wrap IntKind.i64 (x0+1),Prod.snd (Prod.snd (List.getD (List.set x2 (Int.toNat x1) (Prod.fst (Prod.fst b),Prod.snd (List.getD x2 (Int.toNat x1) (ByteArray.empty,0,false,())))) (Int.toNat x1) (ByteArray.empty,0,false,())))))):Int))) (go (IntKind.wrap IntKind.i64 (IntKind.wrap IntKind.i64 (IntKind.wrap IntKind.i64 (x0+1)+1)+1)) (IntKind.wrap IntKind.i64 (x1+1)) (List.set (List.set (List.set x2 (Int.toNat x1) (Prod.fst (Prod.fst b),Prod.snd (List.getD x2 (Int.toNat x1) (ByteArray.empty,0,false,())))) (Int.toNat x1) (Prod.fst (List.getD (List.set x2 (Int.toNat x1) (Prod.fst (Prod.fst b),Prod.snd (List.getD x2 (Int.toNat x1) (ByteArray.empty,0,false,())))) (Int.toNat x1) (ByteArray.empty,0,false,())),IntKind.wrap IntKind.i64 (x0+1),Prod.snd (Prod.snd (List.getD (List.set x2 (Int.toNat x1) (Prod.fst (Prod.fst b),Prod.snd (List.getD x2 (Int.toNat x1) (ByteArray.empty,0,false,())))) (Int.toNat x1) (ByteArray.empty,0,false,()))))) (Int.toNat x1) (Prod.fst (List.getD (List.set (List.set x2 (Int.toNat x1) (Prod.fst (Prod.fst b),Prod.snd (List.getD x2 (Int.toNat x1) (ByteArray.empty,0,false,())))) (Int.toNat x1) (Prod.fst (List.getD (List.set x2 (Int.toNat x1) (Prod.fst (Prod.fst b),Prod.snd (List.getD x2 (Int.toNat x1) (ByteArray.empty,0,false,())))) (Int.toNat x1) (ByteArray.empty,0,false,())),IntKind.wrap IntKind.i64 (x0+1),Prod.snd (Prod.snd (List.getD (List.set x2 (Int.toNat x1) (Prod.fst (Prod.fst b),Prod.snd (List.getD x2 (Int.toNat x1) (ByteArray.empty,0,false,())))) (Int.toNat x1) (ByteArray.empty,0,false,()))))) (Int.toNat x1) (ByteArray.empty,0,false,())),Prod.fst (Prod.snd (List.getD (List.set (List.set x2 (Int.toNat x1) (Prod.fst (Prod.fst b),Prod.snd (List.getD x2 (Int.toNat x1) (ByteArray.empty,0,false,())))) (Int.toNat x1) (Prod.fst (List.getD (List.set x2 (Int.toNat x1) (Prod.fst (Prod.fst b),Prod.snd (List.getD x2 (Int.toNat x1) (ByteArray.empty,0,false,())))) (Int.toNat x1) (ByteArray.empty,0,false,())),IntKind.wrap IntKind.i64 (x0+1),Prod.snd (Prod.snd (List.getD (List.set x2 (Int.toNat x1) (Prod.fst (Prod.fst b),Prod.snd (List.getD x2 (Int.toNat x1) (ByteArray.empty,0,false,())))) (Int.toNat x1) (ByteArray.empty,0,false,()))))) (Int.toNat x1) (ByteArray.empty,0,false,()))),decide (Int.tmod (IntKind.wrap IntKind.i64 (IntKind.wrap IntKind.i64 (x0+1)+1)) 3=0),Prod.snd (Prod.snd (Prod.snd (List.getD (List.set (List.set x2 (Int.toNat x1) (Prod.fst (Prod.fst b),Prod.snd (List.getD x2 (Int.toNat x1) (ByteArray.empty,0,false,())))) (Int.toNat x1) (Prod.fst (List.getD (List.set x2 (Int.toNat x1) (Prod.fst (Prod.fst b),Prod.snd (List.getD x2 (Int.toNat x1) (ByteArray.empty,0,false,())))) (Int.toNat x1) (ByteArray.empty,0,false,())),IntKind.wrap IntKind.i64 (x0+1),Prod.snd (Prod.snd (List.getD (List.set x2 (Int.toNat x1) (Prod.fst (Prod.fst b),Prod.snd (List.getD x2 (Int.toNat x1) (ByteArray.empty,0,false,())))) (Int.toNat x1) (ByteArray.empty,0,false,()))))) (Int.toNat x1) (ByteArray.empty,0,false,()))))))) none) none) none) (K0 x0 x2)
def qiy (D:DX)(n:Nat) (K0:Int→qn→Option ((Int×Unit)×qn×Unit)):Nat→(Int)→(Int)→(qn)→Option ((Int×Unit)×qn×Unit) | 0=>(fun x0 x1 x2=>none) | m+1=>(fun x0 x1 x2=>qwj D n (qiy D n K0 m) K0 x0 x1 x2)
def qnf (D:DX)(n:Nat) (v0_0:Int) (v0_1:qn):Option ((Int×Unit)×qn×Unit):=some ((v0_0,()),v0_1,())
def qvb (D:DX)(n:Nat):(Int)→(Int)→(qn)→Option ((Int×Unit)×qn×Unit):=(fun x0 x1 x2=>qiy D n (fun v0_0 v0_1=>qnf D n v0_0 v0_1) n x0 x1 x2)
def qx6 (D:DX)(n:Nat) (lp0:Int→Int→qn→Option ((Int×Unit)×qn×Unit)) (a0:qn) (a1:Int):Option ((Int×Unit)×qn×Unit):=lp0 a1 0 a0
def qze (D:DX)(n:Nat) (a0:qn) (a1:Int):Option ((Int×Unit)×qn×Unit):=qx6 D n (qvb D n) a0 a1
def qi6 (x0:Int) (x1:Int) (x2:qn):St:=stq 37 [(0,AV.brw 0 [] 1048576),(1,avI x0),(5,avI x1)] [(0,Root.mk (Ty.sl yC) (Mk.own 1048576 (Mk.pr Mk.no (Mk.pr Mk.no (Mk.pr Mk.no Mk.no)))) x2 false)] 
def qnj (v0_0:Int) (v0_1:qn):St:=stq 37 [(0,AV.brw 0 [] 1048576),(1,avI v0_0)] [(0,Root.mk (Ty.sl yC) (Mk.own 1048576 (Mk.pr Mk.no (Mk.pr Mk.no (Mk.pr Mk.no Mk.no)))) v0_1 false)] 
theorem qbf3 (D:DX)(n:Nat) (m:Nat) (K:Ex→St→Option (Out ctx 183)) (x0:Int) (x1:Int) (x2:qn) :
 LQ qc D n 183 [.r,.l,.r,.l] (m+1) (qi6 x0 x1 x2) K=qwj D n (fun x0 x1 x2=>LQ qc D n 183 [.r,.l,.r,.l] m (qi6 x0 x1 x2) K) (fun v0_0 v0_1=>K (Ex.exit 0) (qnj v0_0 v0_1)) x0 x1 x2:=by kernel_rfl
theorem q5a (D:DX)(n:Nat) (K:Ex→St→Option (Out ctx 183)):∀ (m:Nat) (x0:Int) (x1:Int) (x2:qn),LQ qc D n 183 [.r,.l,.r,.l] m (qi6 x0 x1 x2) K=qiy D n (fun v0_0 v0_1=>K (Ex.exit 0) (qnj v0_0 v0_1)) m x0 x1 x2
 | 0,x0,x1,x2=>qu ..
 | m+1,x0,x1,x2=>by
  have ih:(fun x0 x1 x2=>LQ qc D n 183 [.r,.l,.r,.l] m (qi6 x0 x1 x2) K)=qiy D n (fun v0_0 v0_1=>K (Ex.exit 0) (qnj v0_0 v0_1)) m:=by funext x0 x1 x2;exact q5a D n K m x0 x1 x2
  rw[qbf3]
  rw[ih];rfl
theorem qbc6 (D:DX)(n:Nat) (v0_0:Int) (v0_1:qn) :
 (CQ qc D n 183 [] [.r,.l,.r,.l] (qh qc 183)) (Ex.exit 0) (qnj v0_0 v0_1)=qnf D n v0_0 v0_1:=by kernel_rfl
theorem qbep (D:DX)(n:Nat) (x0:Int) (x1:Int) (x2:qn) :
 LQ qc D n 183 [.r,.l,.r,.l] n (qi6 x0 x1 x2) (CQ qc D n 183 [] [.r,.l,.r,.l] (qh qc 183))=qvb D n x0 x1 x2:=by
 rw[q5a]
 simp only[qbc6]
 rfl
theorem qbkr (D:DX)(n:Nat) (a0:qn) (a1:Int):rfC qc D n 183 (a0,(a1,()))=qze D n a0 a1:=by
 have h:rfC qc D n 183 (a0,(a1,()))=qx6 D n (fun x0 x1 x2=>LQ qc D n 183 [.r,.l,.r,.l] n (qi6 x0 x1 x2) (CQ qc D n 183 [] [.r,.l,.r,.l] (qh qc 183))) a0 a1:=by kernel_rfl
 rw[h]
 simp only[qbep]
 rfl

def qws (D:DX)(n:Nat) (go:Int→Int→List Int→Option ((Int×Unit)×List Int×Unit)) (K0:Int→List Int→Option ((Int×Unit)×List Int×Unit)) (x0:Int) (x1:Int) (x2:List Int):Option ((Int×Unit)×List Int×Unit):=br (decide (x1<(↑(List.length x2):Int))) (br (decide (0≤x1)&&decide (x1<(↑(List.length x2):Int))) (go (IntKind.wrap IntKind.i64 (x0+1)) (IntKind.wrap IntKind.i64 (x1+1)) (List.set x2 (Int.toNat x1) x0)) none) (K0 x0 x2)
def qi2 (D:DX)(n:Nat) (K0:Int→List Int→Option ((Int×Unit)×List Int×Unit)):Nat→(Int)→(Int)→(List Int)→Option ((Int×Unit)×List Int×Unit) | 0=>(fun x0 x1 x2=>none) | m+1=>(fun x0 x1 x2=>qws D n (qi2 D n K0 m) K0 x0 x1 x2)
def qnd (D:DX)(n:Nat) (v0_0:Int) (v0_1:List Int):Option ((Int×Unit)×List Int×Unit):=some ((v0_0,()),v0_1,())
def quk (D:DX)(n:Nat):(Int)→(Int)→(List Int)→Option ((Int×Unit)×List Int×Unit):=(fun x0 x1 x2=>qi2 D n (fun v0_0 v0_1=>qnd D n v0_0 v0_1) n x0 x1 x2)
def qx0 (D:DX)(n:Nat) (lp0:Int→Int→List Int→Option ((Int×Unit)×List Int×Unit)) (a0:List Int) (a1:Int):Option ((Int×Unit)×List Int×Unit):=lp0 a1 0 a0
def qzg (D:DX)(n:Nat) (a0:List Int) (a1:Int):Option ((Int×Unit)×List Int×Unit):=qx0 D n (quk D n) a0 a1
def qje (x0:Int) (x1:Int) (x2:List Int):St:=stq 19 [(0,AV.brw 0 [] 1048576),(1,avI x0),(5,avI x1)] [(0,Root.mk (Ty.sl yI) (Mk.own 1048576 Mk.no) x2 false)] 
def qnk (v0_0:Int) (v0_1:List Int):St:=stq 19 [(0,AV.brw 0 [] 1048576),(1,avI v0_0)] [(0,Root.mk (Ty.sl yI) (Mk.own 1048576 Mk.no) v0_1 false)] 
theorem qbgs (D:DX)(n:Nat) (m:Nat) (K:Ex→St→Option (Out ctx 184)) (x0:Int) (x1:Int) (x2:List Int) :
 LQ qc D n 184 [.r,.l,.r,.l] (m+1) (qje x0 x1 x2) K=qws D n (fun x0 x1 x2=>LQ qc D n 184 [.r,.l,.r,.l] m (qje x0 x1 x2) K) (fun v0_0 v0_1=>K (Ex.exit 0) (qnk v0_0 v0_1)) x0 x1 x2:=by kernel_rfl
theorem q5l (D:DX)(n:Nat) (K:Ex→St→Option (Out ctx 184)):∀ (m:Nat) (x0:Int) (x1:Int) (x2:List Int),LQ qc D n 184 [.r,.l,.r,.l] m (qje x0 x1 x2) K=qi2 D n (fun v0_0 v0_1=>K (Ex.exit 0) (qnk v0_0 v0_1)) m x0 x1 x2
 | 0,x0,x1,x2=>qu ..
 | m+1,x0,x1,x2=>by
  have ih:(fun x0 x1 x2=>LQ qc D n 184 [.r,.l,.r,.l] m (qje x0 x1 x2) K)=qi2 D n (fun v0_0 v0_1=>K (Ex.exit 0) (qnk v0_0 v0_1)) m:=by funext x0 x1 x2;exact q5l D n K m x0 x1 x2
  rw[qbgs]
  rw[ih];rfl
theorem qbd6 (D:DX)(n:Nat) (v0_0:Int) (v0_1:List Int) :
 (CQ qc D n 184 [] [.r,.l,.r,.l] (qh qc 184)) (Ex.exit 0) (qnk v0_0 v0_1)=qnd D n v0_0 v0_1:=by kernel_rfl
theorem qben (D:DX)(n:Nat) (x0:Int) (x1:Int) (x2:List Int) :
 LQ qc D n 184 [.r,.l,.r,.l] n (qje x0 x1 x2) (CQ qc D n 184 [] [.r,.l,.r,.l] (qh qc 184))=quk D n x0 x1 x2:=by
 rw[q5l]
 simp only[qbd6]
 rfl
theorem qbkc (D:DX)(n:Nat) (a0:List Int) (a1:Int):rfC qc D n 184 (a0,(a1,()))=qzg D n a0 a1:=by
 have h:rfC qc D n 184 (a0,(a1,()))=qx0 D n (fun x0 x1 x2=>LQ qc D n 184 [.r,.l,.r,.l] n (qje x0 x1 x2) (CQ qc D n 184 [] [.r,.l,.r,.l] (qh qc 184))) a0 a1:=by kernel_rfl
 rw[h]
 simp only[qben]
 rfl

def qtm (D:DX)(n:Nat) (go:Int→Int→tIxs→Option ((Int×Unit)×tIxs×Unit)) (K0:Int→tIxs→Option ((Int×Unit)×tIxs×Unit)) (x0:Int) (x1:Int) (x2:tIxs):Option ((Int×Unit)×tIxs×Unit):=br (decide (x1<(↑(List.length x2):Int))) (qi (qev D x0) fun b↦br (decide (0≤x1)&&decide (x1<(↑(List.length x2):Int))) (br (decide (0≤x1)&&decide (x1<(↑(List.length (List.set x2 (Int.toNat x1) (Prod.fst (Prod.fst b),Prod.snd (List.getD x2 (Int.toNat x1) (ByteArray.empty,[],false,()))))):Int))) (qi (qnh D (Prod.fst (Prod.snd (List.getD (List.set x2 (Int.toNat x1) (Prod.fst (Prod.fst b),Prod.snd (List.getD x2 (Int.toNat x1) (ByteArray.empty,[],false,())))) (Int.toNat x1) (ByteArray.empty,[],false,())))) (IntKind.wrap IntKind.i64 (x0+1))) fun b_1↦br (qhn [PK.mutv (Ty.sl (Ty.int IntKind.i64)) (Mk.top (Ty.sl (Ty.int IntKind.i64))) (Mk.top (Ty.sl (Ty.int IntKind.i64))),PK.val (Ty.int IntKind.i64)] (List.map (ev (St.mk [AV.brw 0 [] 1048576,AV.val (Ty.int IntKind.i64) (IntKind.wrap IntKind.i64 (x0+1)),AV.undef,AV.undef,AV.undef,AV.val (Ty.int IntKind.i64) x1,AV.val (Ty.int IntKind.i64) x1,AV.brw 0 [] 1048576,AV.val (Ty.int IntKind.i64) (↑(List.length x2):Int),AV.val Ty.bool (decide (x1<(↑(List.length x2):Int))),AV.undef,AV.undef,AV.brw 0 [] 1048576,AV.val (Ty.int IntKind.i64) x1,AV.val (Ty.int IntKind.i64) x0,AV.val Ty.str (Prod.fst (Prod.fst b)),AV.addr 0 [Stp.idx (Int.toNat x1) 1048576],AV.addr 0 [Stp.idx (Int.toNat x1) 1048576,Stp.fst],AV.val (Ty.int IntKind.i64) x0,AV.val (Ty.int IntKind.i64) (IntKind.wrap IntKind.i64 (x0+1)),AV.brw 0 [] 1048576,AV.val (Ty.int IntKind.i64) x1,AV.addr 0 [Stp.idx (Int.toNat x1) 1048576],AV.addr 0 [Stp.idx (Int.toNat x1) 1048576,Stp.snd,Stp.fst],AV.brw 0 [Stp.idx (Int.toNat x1) 1048576,Stp.snd,Stp.fst] 0,AV.val (Ty.int IntKind.i64) (IntKind.wrap IntKind.i64 (x0+1)),AV.undef,AV.undef,AV.undef,AV.undef,AV.undef,AV.undef,AV.undef,AV.undef,AV.undef,AV.undef,AV.undef] [some (Root.mk (Ty.sl (Ty.pair Ty.str (Ty.pair (Ty.sl (Ty.int IntKind.i64)) (Ty.pair Ty.bool Ty.unit)))) (Mk.own 1048576 (Mk.pr Mk.no (Mk.pr (Mk.own 0 Mk.no) (Mk.pr Mk.no Mk.no)))) (List.set x2 (Int.toNat x1) (Prod.fst (Prod.fst b),Prod.snd (List.getD x2 (Int.toNat x1) (ByteArray.empty,[],false,())))) false),none,none,none,none,none,none,none,none,none,none,none,none,none,none,none,none,none,none,none,none,none,none,none,none,none,none,none,none,none,none,none,none,none,none,none,none])) [Operand.tmp 24,Operand.tmp 25]++qf5 AV.unit)) (br (decide (0≤x1)&&decide (x1<(↑(List.length (List.set (List.set x2 (Int.toNat x1) (Prod.fst (Prod.fst b),Prod.snd (List.getD x2 (Int.toNat x1) (ByteArray.empty,[],false,())))) (Int.toNat x1) (Prod.fst (List.getD (List.set x2 (Int.toNat x1) (Prod.fst (Prod.fst b),Prod.snd (List.getD x2 (Int.toNat x1) (ByteArray.empty,[],false,())))) (Int.toNat x1) (ByteArray.empty,[],false,())),Prod.fst (Prod.snd b_1),Prod.snd (Prod.snd (List.getD (List.set x2 (Int.toNat x1) (Prod.fst (Prod.fst b),Prod.snd (List.getD x2 (Int.toNat x1) (ByteArray.empty,[],false,())))) (Int.toNat x1) (ByteArray.empty,[],false,())))))):Int))) (go (IntKind.wrap IntKind.i64 (Prod.fst (Prod.fst b_1)+1)) (IntKind.wrap IntKind.i64 (x1+1)) (List.set (List.set (List.set x2 (Int.toNat x1) (Prod.fst (Prod.fst b),Prod.snd (List.getD x2 (Int.toNat x1) (ByteArray.empty,[],false,())))) (Int.toNat x1) (Prod.fst (List.getD (List.set x2 (Int.toNat x1) (Prod.fst (Prod.fst b),Prod.snd (List.getD x2 (Int.toNat x1) (ByteArray.empty,[],false,())))) (Int.toNat x1) (ByteArray.empty,[],false,())),Prod.fst (Prod.snd b_1),Prod.snd (Prod.snd (List.getD (List.set x2 (Int.toNat x1) (Prod.fst (Prod.fst b),Prod.snd (List.getD x2 (Int.toNat x1) (ByteArray.empty,[],false,())))) (Int.toNat x1) (ByteArray.empty,[],false,()))))) (Int.toNat x1) (Prod.fst (List.getD (List.set (List.set x2 (Int.toNat x1) (Prod.fst (Prod.fst b),Prod.snd (List.getD x2 (Int.toNat x1) (ByteArray.empty,[],false,())))) (Int.toNat x1) (Prod.fst (List.getD (List.set x2 (Int.toNat x1) (Prod.fst (Prod.fst b),Prod.snd (List.getD x2 (Int.toNat x1) (ByteArray.empty,[],false,())))) (Int.toNat x1) (ByteArray.empty,[],false,())),Prod.fst (Prod.snd b_1),Prod.snd (Prod.snd (List.getD (List.set x2 (Int.toNat x1) (Prod.fst (Prod.fst b),Prod.snd (List.getD x2 (Int.toNat x1) (ByteArray.empty,[],false,())))) (Int.toNat x1) (ByteArray.empty,[],false,()))))) (Int.toNat x1) (ByteArray.empty,[],false,())),Prod.fst (Prod.snd (List.getD (List.set (List.set x2 (Int.toNat x1) (Prod.fst (Prod.fst b),Prod.snd (List.getD x2 (Int.toNat x1) (ByteArray.empty,[],false,())))) (Int.toNat x1) (Prod.fst (List.getD (List.set x2 (Int.toNat x1) (Prod.fst (Prod.fst b),Prod.snd (List.getD x2 (Int.toNat x1) (ByteArray.empty,[],false,())))) (Int.toNat x1) (ByteArray.empty,[],false,())),Prod.fst (Prod.snd b_1),Prod.snd (Prod.snd (List.getD (List.set x2 (Int.toNat x1) (Prod.fst (Prod.fst b),Prod.snd (List.getD x2 (Int.toNat x1) (ByteArray.empty,[],false,())))) (Int.toNat x1) (ByteArray.empty,[],false,()))))) (Int.toNat x1) (ByteArray.empty,[],false,()))),decide (Int.tmod (Prod.fst (Prod.fst b_1)) 3=0),Prod.snd (Prod.snd (Prod.snd (List.getD (List.set (List.set x2 (Int.toNat x1) (Prod.fst (Prod.fst b),Prod.snd (List.getD x2 (Int.toNat x1) (ByteArray.empty,[],false,())))) (Int.toNat x1) (Prod.fst (List.getD (List.set x2 (Int.toNat x1) (Prod.fst (Prod.fst b),Prod.snd (List.getD x2 (Int.toNat x1) (ByteArray.empty,[],false,())))) (Int.toNat x1) (ByteArray.empty,[],false,())),Prod.fst (Prod.snd b_1),Prod.snd (Prod.snd (List.getD (List.set x2 (Int.toNat x1) (Prod.fst (Prod.fst b),Prod.snd (List.getD x2 (Int.toNat x1) (ByteArray.empty,[],false,())))) (Int.toNat x1) (ByteArray.empty,[],false,()))))) (Int.toNat x1) (ByteArray.empty,[],false,()))))))) none) none) none) none) (K0 x0 x2)
def qgz (D:DX)(n:Nat) (K0:Int→tIxs→Option ((Int×Unit)×tIxs×Unit)):Nat→(Int)→(Int)→(tIxs)→Option ((Int×Unit)×tIxs×Unit) | 0=>(fun x0 x1 x2=>none) | m+1=>(fun x0 x1 x2=>qtm D n (qgz D n K0 m) K0 x0 x1 x2)
def qke (D:DX)(n:Nat) (v0_0:Int) (v0_1:tIxs):Option ((Int×Unit)×tIxs×Unit):=some ((v0_0,()),v0_1,())
def qri (D:DX)(n:Nat):(Int)→(Int)→(tIxs)→Option ((Int×Unit)×tIxs×Unit):=(fun x0 x1 x2=>qgz D n (fun v0_0 v0_1=>qke D n v0_0 v0_1) n x0 x1 x2)
def qvo (D:DX)(n:Nat) (lp0:Int→Int→tIxs→Option ((Int×Unit)×tIxs×Unit)) (a0:tIxs) (a1:Int):Option ((Int×Unit)×tIxs×Unit):=lp0 a1 0 a0
def qu8 (D:DX)(n:Nat) (a0:tIxs) (a1:Int):Option ((Int×Unit)×tIxs×Unit):=qvo D n (qri D n) a0 a1
def qgs (x0:Int) (x1:Int) (x2:tIxs):St:=stq 37 [(0,AV.brw 0 [] 1048576),(1,avI x0),(5,avI x1)] [(0,Root.mk (Ty.sl yX) (Mk.own 1048576 (Mk.pr Mk.no (Mk.pr (Mk.own 0 Mk.no) (Mk.pr Mk.no Mk.no)))) x2 false)] 
def qkg (v0_0:Int) (v0_1:tIxs):St:=stq 37 [(0,AV.brw 0 [] 1048576),(1,avI v0_0)] [(0,Root.mk (Ty.sl yX) (Mk.own 1048576 (Mk.pr Mk.no (Mk.pr (Mk.own 0 Mk.no) (Mk.pr Mk.no Mk.no)))) v0_1 false)] 
theorem qbbn (D:DX)(n:Nat) (m:Nat) (K:Ex→St→Option (Out ctx 185)) (x0:Int) (x1:Int) (x2:tIxs) :
 LQ qc D n 185 [.r,.l,.r,.l] (m+1) (qgs x0 x1 x2) K=qtm D n (fun x0 x1 x2=>LQ qc D n 185 [.r,.l,.r,.l] m (qgs x0 x1 x2) K) (fun v0_0 v0_1=>K (Ex.exit 0) (qkg v0_0 v0_1)) x0 x1 x2:=by kernel_rfl
theorem q0w (D:DX)(n:Nat) (K:Ex→St→Option (Out ctx 185)):∀ (m:Nat) (x0:Int) (x1:Int) (x2:tIxs),LQ qc D n 185 [.r,.l,.r,.l] m (qgs x0 x1 x2) K=qgz D n (fun v0_0 v0_1=>K (Ex.exit 0) (qkg v0_0 v0_1)) m x0 x1 x2
 | 0,x0,x1,x2=>qu ..
 | m+1,x0,x1,x2=>by
  have ih:(fun x0 x1 x2=>LQ qc D n 185 [.r,.l,.r,.l] m (qgs x0 x1 x2) K)=qgz D n (fun v0_0 v0_1=>K (Ex.exit 0) (qkg v0_0 v0_1)) m:=by funext x0 x1 x2;exact q0w D n K m x0 x1 x2
  rw[qbbn]
  rw[ih];rfl
theorem qba4 (D:DX)(n:Nat) (v0_0:Int) (v0_1:tIxs) :
 (CQ qc D n 185 [] [.r,.l,.r,.l] (qh qc 185)) (Ex.exit 0) (qkg v0_0 v0_1)=qke D n v0_0 v0_1:=by kernel_rfl
theorem q90 (D:DX)(n:Nat) (x0:Int) (x1:Int) (x2:tIxs) :
 LQ qc D n 185 [.r,.l,.r,.l] n (qgs x0 x1 x2) (CQ qc D n 185 [] [.r,.l,.r,.l] (qh qc 185))=qri D n x0 x1 x2:=by
 rw[q0w]
 simp only[qba4]
 rfl
theorem qbf9 (D:DX)(n:Nat) (a0:tIxs) (a1:Int):rfC qc D n 185 (a0,(a1,()))=qu8 D n a0 a1:=by
 have h:rfC qc D n 185 (a0,(a1,()))=qvo D n (fun x0 x1 x2=>LQ qc D n 185 [.r,.l,.r,.l] n (qgs x0 x1 x2) (CQ qc D n 185 [] [.r,.l,.r,.l] (qh qc 185))) a0 a1:=by kernel_rfl
 rw[h]
 simp only[q90]
 rfl





def q9s (D:DX)(n:Nat) (a0:qd):Option ((Bool×Unit)×Unit):=br (decide ((↑(List.length a0):Int)≤4)) (qi (qdk D a0 (Clo.mk 208 [])) fun b↦some ((!Prod.fst (Prod.fst b),()),())) (some ((false,()),()))
def q1x (D:DX)(n:Nat) (a0:qd):Option ((Bool×Unit)×Unit):=q9s D n a0
theorem qbmv (D:DX)(n:Nat) (a0:qd):rfC qc D n 191 (a0,())=q1x D n a0:=by kernel_rfl

def qdz (D:DX)(n:Nat) (a1:Clo) (go:tIxs→Int→Int→Option ((Int×Unit)×Unit)) (K0:Int→Option ((Int×Unit)×Unit)) (K1:Option ((Int×Unit)×Unit)) (x0:tIxs) (x1:Int) (x2:Int):Option ((Int×Unit)×Unit):=br (decide (x2<x1)) (br (decide (0≤x2)&&decide (x2<(↑(List.length x0):Int))) (qi (qbr ctx D a1 [CapV.val (Ty.pair Ty.str (Ty.pair (Ty.sl (Ty.int IntKind.i64)) (Ty.pair Ty.bool Ty.unit))) (List.getD x0 (Int.toNat x2) (ByteArray.empty,[],false,()))] Ty.bool) fun b↦br b (K0 x2) (go x0 x1 (IntKind.wrap IntKind.i64 (x2+1)))) none) K1
def qbt (D:DX)(n:Nat) (a1:Clo) (K0:Int→Option ((Int×Unit)×Unit)) (K1:Option ((Int×Unit)×Unit)):Nat→(tIxs)→(Int)→(Int)→Option ((Int×Unit)×Unit) | 0=>(fun x0 x1 x2=>none) | m+1=>(fun x0 x1 x2=>qdz D n a1 (qbt D n a1 K0 K1 m) K0 K1 x0 x1 x2)
def qgb (D:DX)(n:Nat) (a1:Clo) (v0_0:Int):Option ((Int×Unit)×Unit):=some ((v0_0,()),())
def qgc (D:DX)(n:Nat) (a1:Clo):Option ((Int×Unit)×Unit):=some ((-1,()),())
def qdv (D:DX)(n:Nat) (a1:Clo):(tIxs)→(Int)→(Int)→Option ((Int×Unit)×Unit):=(fun x0 x1 x2=>qbt D n a1 (fun v0_0=>qgb D n a1 v0_0) (qgc D n a1) n x0 x1 x2)
def qee (D:DX)(n:Nat) (a1:Clo) (lp0:tIxs→Int→Int→Option ((Int×Unit)×Unit)) (a0:tIxs):Option ((Int×Unit)×Unit):=lp0 a0 (↑(List.length a0):Int) 0
def qd8 (D:DX)(n:Nat) (a0:tIxs) (a1:Clo):Option ((Int×Unit)×Unit):=qee D n a1 (qdv D n a1) a0
def qbu (a1:Clo) (x0:tIxs) (x1:Int) (x2:Int):St:=stq 19 [(0,AV.val (Ty.sl yX) x0),(1,AV.cloV a1),(7,avI x1),(8,avI x2)] [] 
def qcq (a1:Clo) (v0_0:Int):St:=stq 19 [(4,avI v0_0)] [] 
def qcr (a1:Clo):St:=stq 19 [] [] 
theorem qoy (D:DX)(n:Nat) (a1:Clo) (m:Nat) (K:Ex→St→Option (Out ctx 193)) (x0:tIxs) (x1:Int) (x2:Int) :
 LQ qc D n 193 [.r,.l,.r,.l] (m+1) (qbu a1 x0 x1 x2) K=qdz D n a1 (fun x0 x1 x2=>LQ qc D n 193 [.r,.l,.r,.l] m (qbu a1 x0 x1 x2) K) (fun v0_0=>K (Ex.ret) (qcq a1 v0_0)) (K (Ex.exit 0) (qcr a1)) x0 x1 x2:=by kernel_rfl
theorem qgv (D:DX)(n:Nat) (a1:Clo) (K:Ex→St→Option (Out ctx 193)):∀ (m:Nat) (x0:tIxs) (x1:Int) (x2:Int),LQ qc D n 193 [.r,.l,.r,.l] m (qbu a1 x0 x1 x2) K=qbt D n a1 (fun v0_0=>K (Ex.ret) (qcq a1 v0_0)) (K (Ex.exit 0) (qcr a1)) m x0 x1 x2
 | 0,x0,x1,x2=>qu ..
 | m+1,x0,x1,x2=>by
  have ih:(fun x0 x1 x2=>LQ qc D n 193 [.r,.l,.r,.l] m (qbu a1 x0 x1 x2) K)=qbt D n a1 (fun v0_0=>K (Ex.ret) (qcq a1 v0_0)) (K (Ex.exit 0) (qcr a1)) m:=by funext x0 x1 x2;exact qgv D n a1 K m x0 x1 x2
  rw[qoy]
  rw[ih];rfl
theorem qoi (D:DX)(n:Nat) (a1:Clo) (v0_0:Int) :
 (CQ qc D n 193 [] [.r,.l,.r,.l] (qh qc 193)) (Ex.ret) (qcq a1 v0_0)=qgb D n a1 v0_0:=by kernel_rfl
theorem qob (D:DX)(n:Nat) (a1:Clo) :
 (CQ qc D n 193 [] [.r,.l,.r,.l] (qh qc 193)) (Ex.exit 0) (qcr a1)=qgc D n a1:=by kernel_rfl
theorem qod (D:DX)(n:Nat) (a1:Clo) (x0:tIxs) (x1:Int) (x2:Int) :
 LQ qc D n 193 [.r,.l,.r,.l] n (qbu a1 x0 x1 x2) (CQ qc D n 193 [] [.r,.l,.r,.l] (qh qc 193))=qdv D n a1 x0 x1 x2:=by
 rw[qgv]
 simp only[qoi,qob]
 rfl
theorem qpl (D:DX)(n:Nat) (a0:tIxs) (a1:Clo):rfC qc D n 193 (a0,(a1,()))=qd8 D n a0 a1:=by
 have h:rfC qc D n 193 (a0,(a1,()))=qee D n a1 (fun x0 x1 x2=>LQ qc D n 193 [.r,.l,.r,.l] n (qbu a1 x0 x1 x2) (CQ qc D n 193 [] [.r,.l,.r,.l] (qh qc 193))) a0:=by kernel_rfl
 rw[h]
 simp only[qod]
 rfl

def qew (D:DX)(n:Nat) (go:qd→Int→Int→Int×Int×ByteArray×Unit→Option ((Int×Unit)×Unit)) (K0:Int→Option ((Int×Unit)×Unit)) (K1:Option ((Int×Unit)×Unit)) (x0:qd) (x1:Int) (x2:Int) (x3:Int×Int×ByteArray×Unit):Option ((Int×Unit)×Unit):=br (decide (x2<x1)) (br (decide (0≤x2)&&decide (x2<(↑(List.length x0):Int))) (br (qlj (Ty.pair (Ty.int IntKind.i64) (Ty.pair (Ty.int IntKind.i64) (Ty.pair Ty.str Ty.unit))) x3 (List.getD x0 (Int.toNat x2) (0,0,ByteArray.empty,()))) (K0 x2) (go x0 x1 (IntKind.wrap IntKind.i64 (x2+1)) x3)) none) K1
def qb6 (D:DX)(n:Nat) (K0:Int→Option ((Int×Unit)×Unit)) (K1:Option ((Int×Unit)×Unit)):Nat→(qd)→(Int)→(Int)→tVal→Option ((Int×Unit)×Unit) | 0=>(fun x0 x1 x2 x3=>none) | m+1=>(fun x0 x1 x2 x3=>qew D n (qb6 D n K0 K1 m) K0 K1 x0 x1 x2 x3)
def qhz (D:DX)(n:Nat) (v0_0:Int):Option ((Int×Unit)×Unit):=some ((v0_0,()),())
def qh1 (D:DX)(n:Nat):Option ((Int×Unit)×Unit):=some ((-1,()),())
def qes (D:DX)(n:Nat):(qd)→(Int)→(Int)→tVal→Option ((Int×Unit)×Unit):=(fun x0 x1 x2 x3=>qb6 D n (fun v0_0=>qhz D n v0_0) (qh1 D n) n x0 x1 x2 x3)
def qe9 (D:DX)(n:Nat) (lp0:qd→Int→Int→Int×Int×ByteArray×Unit→Option ((Int×Unit)×Unit)) (a0:qd) (a1:Int×Int×ByteArray×Unit):Option ((Int×Unit)×Unit):=lp0 a0 (↑(List.length a0):Int) 0 a1
def qe4 (D:DX)(n:Nat) (a0:qd) (a1:Int×Int×ByteArray×Unit):Option ((Int×Unit)×Unit):=qe9 D n (qes D n) a0 a1
def qb8 (x0:qd) (x1:Int) (x2:Int) (x3:Int×Int×ByteArray×Unit):St:=stq 19 [(0,AV.val (Ty.sl yV) x0),(3,AV.addr 3 []),(7,avI x1),(8,avI x2)] [(3,Root.mk yV Mk.no x3 true)] 
def qc3 (v0_0:Int):St:=stq 19 [(4,avI v0_0)] [] 
def qc7:St:=stq 19 [] [] 
theorem qrl (D:DX)(n:Nat) (m:Nat) (K:Ex→St→Option (Out ctx 194)) (x0:qd) (x1:Int) (x2:Int) (x3:Int×Int×ByteArray×Unit) :
 LQ qc D n 194 [.r,.l,.r,.l] (m+1) (qb8 x0 x1 x2 x3) K=qew D n (fun x0 x1 x2 x3=>LQ qc D n 194 [.r,.l,.r,.l] m (qb8 x0 x1 x2 x3) K) (fun v0_0=>K (Ex.ret) (qc3 v0_0)) (K (Ex.exit 0) (qc7)) x0 x1 x2 x3:=by kernel_rfl
theorem qib (D:DX)(n:Nat) (K:Ex→St→Option (Out ctx 194)):∀ (m:Nat) (x0:qd) (x1:Int) (x2:Int) (x3:Int×Int×ByteArray×Unit),LQ qc D n 194 [.r,.l,.r,.l] m (qb8 x0 x1 x2 x3) K=qb6 D n (fun v0_0=>K (Ex.ret) (qc3 v0_0)) (K (Ex.exit 0) (qc7)) m x0 x1 x2 x3
 | 0,x0,x1,x2,x3=>qu ..
 | m+1,x0,x1,x2,x3=>by
  have ih:(fun x0 x1 x2 x3=>LQ qc D n 194 [.r,.l,.r,.l] m (qb8 x0 x1 x2 x3) K)=qb6 D n (fun v0_0=>K (Ex.ret) (qc3 v0_0)) (K (Ex.exit 0) (qc7)) m:=by funext x0 x1 x2 x3;exact qib D n K m x0 x1 x2 x3
  rw[qrl]
  rw[ih];rfl
theorem qqq (D:DX)(n:Nat) (v0_0:Int) :
 (CQ qc D n 194 [] [.r,.l,.r,.l] (qh qc 194)) (Ex.ret) (qc3 v0_0)=qhz D n v0_0:=by kernel_rfl
theorem qqn (D:DX)(n:Nat) :
 (CQ qc D n 194 [] [.r,.l,.r,.l] (qh qc 194)) (Ex.exit 0) (qc7)=qh1 D n:=by kernel_rfl
theorem qqw (D:DX)(n:Nat) (x0:qd) (x1:Int) (x2:Int) (x3:Int×Int×ByteArray×Unit) :
 LQ qc D n 194 [.r,.l,.r,.l] n (qb8 x0 x1 x2 x3) (CQ qc D n 194 [] [.r,.l,.r,.l] (qh qc 194))=qes D n x0 x1 x2 x3:=by
 rw[qib]
 simp only[qqq,qqn]
 rfl
theorem qte (D:DX)(n:Nat) (a0:qd) (a1:Int×Int×ByteArray×Unit):rfC qc D n 194 (a0,(a1,()))=qe4 D n a0 a1:=by
 have h:rfC qc D n 194 (a0,(a1,()))=qe9 D n (fun x0 x1 x2 x3=>LQ qc D n 194 [.r,.l,.r,.l] n (qb8 x0 x1 x2 x3) (CQ qc D n 194 [] [.r,.l,.r,.l] (qh qc 194))) a0 a1:=by kernel_rfl
 rw[h]
 simp only[qqw]
 rfl

def qez (D:DX)(n:Nat) (a1:Clo) (go:qn→Int→Int→Option ((Int×Unit)×Unit)) (K0:Int→Option ((Int×Unit)×Unit)) (K1:Option ((Int×Unit)×Unit)) (x0:qn) (x1:Int) (x2:Int):Option ((Int×Unit)×Unit):=br (decide (x2<x1)) (br (decide (0≤x2)&&decide (x2<(↑(List.length x0):Int))) (qi (qbr ctx D a1 [CapV.val (Ty.pair Ty.str (Ty.pair (Ty.int IntKind.i64) (Ty.pair Ty.bool Ty.unit))) (List.getD x0 (Int.toNat x2) (ByteArray.empty,0,false,()))] Ty.bool) fun b↦br b (K0 x2) (go x0 x1 (IntKind.wrap IntKind.i64 (x2+1)))) none) K1
def qb4 (D:DX)(n:Nat) (a1:Clo) (K0:Int→Option ((Int×Unit)×Unit)) (K1:Option ((Int×Unit)×Unit)):Nat→(qn)→(Int)→(Int)→Option ((Int×Unit)×Unit) | 0=>(fun x0 x1 x2=>none) | m+1=>(fun x0 x1 x2=>qez D n a1 (qb4 D n a1 K0 K1 m) K0 K1 x0 x1 x2)
def qh2 (D:DX)(n:Nat) (a1:Clo) (v0_0:Int):Option ((Int×Unit)×Unit):=some ((v0_0,()),())
def qh5 (D:DX)(n:Nat) (a1:Clo):Option ((Int×Unit)×Unit):=some ((-1,()),())
def qen (D:DX)(n:Nat) (a1:Clo):(qn)→(Int)→(Int)→Option ((Int×Unit)×Unit):=(fun x0 x1 x2=>qb4 D n a1 (fun v0_0=>qh2 D n a1 v0_0) (qh5 D n a1) n x0 x1 x2)
def qfd (D:DX)(n:Nat) (a1:Clo) (lp0:qn→Int→Int→Option ((Int×Unit)×Unit)) (a0:qn):Option ((Int×Unit)×Unit):=lp0 a0 (↑(List.length a0):Int) 0
def qfb (D:DX)(n:Nat) (a0:qn) (a1:Clo):Option ((Int×Unit)×Unit):=qfd D n a1 (qen D n a1) a0
def qb2 (a1:Clo) (x0:qn) (x1:Int) (x2:Int):St:=stq 19 [(0,AV.val (Ty.sl yC) x0),(1,AV.cloV a1),(7,avI x1),(8,avI x2)] [] 
def qc9 (a1:Clo) (v0_0:Int):St:=stq 19 [(4,avI v0_0)] [] 
def qc8 (a1:Clo):St:=stq 19 [] [] 
theorem qrn (D:DX)(n:Nat) (a1:Clo) (m:Nat) (K:Ex→St→Option (Out ctx 195)) (x0:qn) (x1:Int) (x2:Int) :
 LQ qc D n 195 [.r,.l,.r,.l] (m+1) (qb2 a1 x0 x1 x2) K=qez D n a1 (fun x0 x1 x2=>LQ qc D n 195 [.r,.l,.r,.l] m (qb2 a1 x0 x1 x2) K) (fun v0_0=>K (Ex.ret) (qc9 a1 v0_0)) (K (Ex.exit 0) (qc8 a1)) x0 x1 x2:=by kernel_rfl
theorem qid (D:DX)(n:Nat) (a1:Clo) (K:Ex→St→Option (Out ctx 195)):∀ (m:Nat) (x0:qn) (x1:Int) (x2:Int),LQ qc D n 195 [.r,.l,.r,.l] m (qb2 a1 x0 x1 x2) K=qb4 D n a1 (fun v0_0=>K (Ex.ret) (qc9 a1 v0_0)) (K (Ex.exit 0) (qc8 a1)) m x0 x1 x2
 | 0,x0,x1,x2=>qu ..
 | m+1,x0,x1,x2=>by
  have ih:(fun x0 x1 x2=>LQ qc D n 195 [.r,.l,.r,.l] m (qb2 a1 x0 x1 x2) K)=qb4 D n a1 (fun v0_0=>K (Ex.ret) (qc9 a1 v0_0)) (K (Ex.exit 0) (qc8 a1)) m:=by funext x0 x1 x2;exact qid D n a1 K m x0 x1 x2
  rw[qrn]
  rw[ih];rfl
theorem qqk (D:DX)(n:Nat) (a1:Clo) (v0_0:Int) :
 (CQ qc D n 195 [] [.r,.l,.r,.l] (qh qc 195)) (Ex.ret) (qc9 a1 v0_0)=qh2 D n a1 v0_0:=by kernel_rfl
theorem qqp (D:DX)(n:Nat) (a1:Clo) :
 (CQ qc D n 195 [] [.r,.l,.r,.l] (qh qc 195)) (Ex.exit 0) (qc8 a1)=qh5 D n a1:=by kernel_rfl
theorem qqr (D:DX)(n:Nat) (a1:Clo) (x0:qn) (x1:Int) (x2:Int) :
 LQ qc D n 195 [.r,.l,.r,.l] n (qb2 a1 x0 x1 x2) (CQ qc D n 195 [] [.r,.l,.r,.l] (qh qc 195))=qen D n a1 x0 x1 x2:=by
 rw[qid]
 simp only[qqk,qqp]
 rfl
theorem qti (D:DX)(n:Nat) (a0:qn) (a1:Clo):rfC qc D n 195 (a0,(a1,()))=qfb D n a0 a1:=by
 have h:rfC qc D n 195 (a0,(a1,()))=qfd D n a1 (fun x0 x1 x2=>LQ qc D n 195 [.r,.l,.r,.l] n (qb2 a1 x0 x1 x2) (CQ qc D n 195 [] [.r,.l,.r,.l] (qh qc 195))) a0:=by kernel_rfl
 rw[h]
 simp only[qqr]
 rfl

def q89 (D:DX)(n:Nat) (a0:ByteArray×Int×Bool×Unit) (a1:ByteArray):Option ((Bool×Unit)×Unit):=some ((List.beq (ByteArray.toList (Prod.fst a0)) (ByteArray.toList a1),()),())
def q1i (D:DX)(n:Nat) (a0:ByteArray×Int×Bool×Unit) (a1:ByteArray):Option ((Bool×Unit)×Unit):=q89 D n a0 a1
theorem qbn9 (D:DX)(n:Nat) (a0:ByteArray×Int×Bool×Unit) (a1:ByteArray):rfC qc D n 196 (a0,(a1,()))=q1i D n a0 a1:=by kernel_rfl

def qrr (D:DX)(n:Nat) (a0:List Int) (a1:Int):Option ((Bool×Unit)×Unit):=qi (qny D a0 a1) fun b↦some ((decide (Prod.fst (Prod.fst b)≥0),()),())
def qkc (D:DX)(n:Nat) (a0:List Int) (a1:Int):Option ((Bool×Unit)×Unit):=qrr D n a0 a1
theorem q5x (D:DX)(n:Nat) (a0:List Int) (a1:Int):rfC qc D n 197 (a0,(a1,()))=qkc D n a0 a1:=by kernel_rfl

def qjq (D:DX)(n:Nat) (a1:Clo) (go:List Int→Int→Int→Option ((Int×Unit)×Unit)) (K0:Int→Option ((Int×Unit)×Unit)) (K1:Option ((Int×Unit)×Unit)) (x0:List Int) (x1:Int) (x2:Int):Option ((Int×Unit)×Unit):=br (decide (x2<x1)) (br (decide (0≤x2)&&decide (x2<(↑(List.length x0):Int))) (qi (qbr ctx D a1 [CapV.val (Ty.int IntKind.i64) (List.getD x0 (Int.toNat x2) 0)] Ty.bool) fun b↦br b (K0 x2) (go x0 x1 (IntKind.wrap IntKind.i64 (x2+1)))) none) K1
def qdc (D:DX)(n:Nat) (a1:Clo) (K0:Int→Option ((Int×Unit)×Unit)) (K1:Option ((Int×Unit)×Unit)):Nat→(List Int)→(Int)→(Int)→Option ((Int×Unit)×Unit) | 0=>(fun x0 x1 x2=>none) | m+1=>(fun x0 x1 x2=>qjq D n a1 (qdc D n a1 K0 K1 m) K0 K1 x0 x1 x2)
def qn9 (D:DX)(n:Nat) (a1:Clo) (v0_0:Int):Option ((Int×Unit)×Unit):=some ((v0_0,()),())
def qn8 (D:DX)(n:Nat) (a1:Clo):Option ((Int×Unit)×Unit):=some ((-1,()),())
def qio (D:DX)(n:Nat) (a1:Clo):(List Int)→(Int)→(Int)→Option ((Int×Unit)×Unit):=(fun x0 x1 x2=>qdc D n a1 (fun v0_0=>qn9 D n a1 v0_0) (qn8 D n a1) n x0 x1 x2)
def qj7 (D:DX)(n:Nat) (a1:Clo) (lp0:List Int→Int→Int→Option ((Int×Unit)×Unit)) (a0:List Int):Option ((Int×Unit)×Unit):=lp0 a0 (↑(List.length a0):Int) 0
def qj8 (D:DX)(n:Nat) (a0:List Int) (a1:Clo):Option ((Int×Unit)×Unit):=qj7 D n a1 (qio D n a1) a0
def qdd (a1:Clo) (x0:List Int) (x1:Int) (x2:Int):St:=stq 19 [(0,AV.val (Ty.sl yI) x0),(1,AV.cloV a1),(7,avI x1),(8,avI x2)] [] 
def qe3 (a1:Clo) (v0_0:Int):St:=stq 19 [(4,avI v0_0)] [] 
def qe1 (a1:Clo):St:=stq 19 [] [] 
theorem q04 (D:DX)(n:Nat) (a1:Clo) (m:Nat) (K:Ex→St→Option (Out ctx 198)) (x0:List Int) (x1:Int) (x2:Int) :
 LQ qc D n 198 [.r,.l,.r,.l] (m+1) (qdd a1 x0 x1 x2) K=qjq D n a1 (fun x0 x1 x2=>LQ qc D n 198 [.r,.l,.r,.l] m (qdd a1 x0 x1 x2) K) (fun v0_0=>K (Ex.ret) (qe3 a1 v0_0)) (K (Ex.exit 0) (qe1 a1)) x0 x1 x2:=by kernel_rfl
theorem qoz (D:DX)(n:Nat) (a1:Clo) (K:Ex→St→Option (Out ctx 198)):∀ (m:Nat) (x0:List Int) (x1:Int) (x2:Int),LQ qc D n 198 [.r,.l,.r,.l] m (qdd a1 x0 x1 x2) K=qdc D n a1 (fun v0_0=>K (Ex.ret) (qe3 a1 v0_0)) (K (Ex.exit 0) (qe1 a1)) m x0 x1 x2
 | 0,x0,x1,x2=>qu ..
 | m+1,x0,x1,x2=>by
  have ih:(fun x0 x1 x2=>LQ qc D n 198 [.r,.l,.r,.l] m (qdd a1 x0 x1 x2) K)=qdc D n a1 (fun v0_0=>K (Ex.ret) (qe3 a1 v0_0)) (K (Ex.exit 0) (qe1 a1)) m:=by funext x0 x1 x2;exact qoz D n a1 K m x0 x1 x2
  rw[q04]
  rw[ih];rfl
theorem q0g (D:DX)(n:Nat) (a1:Clo) (v0_0:Int) :
 (CQ qc D n 198 [] [.r,.l,.r,.l] (qh qc 198)) (Ex.ret) (qe3 a1 v0_0)=qn9 D n a1 v0_0:=by kernel_rfl
theorem q0k (D:DX)(n:Nat) (a1:Clo) :
 (CQ qc D n 198 [] [.r,.l,.r,.l] (qh qc 198)) (Ex.exit 0) (qe1 a1)=qn8 D n a1:=by kernel_rfl
theorem q0j (D:DX)(n:Nat) (a1:Clo) (x0:List Int) (x1:Int) (x2:Int) :
 LQ qc D n 198 [.r,.l,.r,.l] n (qdd a1 x0 x1 x2) (CQ qc D n 198 [] [.r,.l,.r,.l] (qh qc 198))=qio D n a1 x0 x1 x2:=by
 rw[qoz]
 simp only[q0g,q0k]
 rfl
theorem q4n (D:DX)(n:Nat) (a0:List Int) (a1:Clo):rfC qc D n 198 (a0,(a1,()))=qj8 D n a0 a1:=by
 have h:rfC qc D n 198 (a0,(a1,()))=qj7 D n a1 (fun x0 x1 x2=>LQ qc D n 198 [.r,.l,.r,.l] n (qdd a1 x0 x1 x2) (CQ qc D n 198 [] [.r,.l,.r,.l] (qh qc 198))) a0:=by kernel_rfl
 rw[h]
 simp only[q0j]
 rfl

def qbcj (D:DX)(n:Nat) (a0:ByteArray×Int×Bool×Unit) (a1:Int):Option ((Int×Unit)×Unit):=br (decide (IntKind.wrap IntKind.i64 (a1 - (↑(ByteArray.size (Prod.fst a0)):Int))<0)) (some ((-1,()),())) (some ((IntKind.wrap IntKind.i64 (a1 - (↑(ByteArray.size (Prod.fst a0)):Int)),()),()))
def q6y (D:DX)(n:Nat) (a0:ByteArray×Int×Bool×Unit) (a1:Int):Option ((Int×Unit)×Unit):=qbcj D n a0 a1
theorem qbql (D:DX)(n:Nat) (a0:ByteArray×Int×Bool×Unit) (a1:Int):rfC qc D n 201 (a0,(a1,()))=q6y D n a0 a1:=by kernel_rfl

def q8y (D:DX)(n:Nat) (a0:ByteArray×List Int×Bool×Unit) (a1:Int):Option ((Int×Unit)×Unit):=br (decide (IntKind.wrap IntKind.i64 (a1 - (↑(ByteArray.size (Prod.fst a0)):Int))<0)) (some ((-1,()),())) (qi (qv5 D (Prod.fst (Prod.snd a0)) (IntKind.wrap IntKind.i64 (a1 - (↑(ByteArray.size (Prod.fst a0)):Int)))) fun b↦br (decide (Prod.fst (Prod.fst b)<0)) (some ((-1,()),())) (some ((Prod.fst (Prod.fst b),()),())))
def q0z (D:DX)(n:Nat) (a0:ByteArray×List Int×Bool×Unit) (a1:Int):Option ((Int×Unit)×Unit):=q8y D n a0 a1
theorem qbmx (D:DX)(n:Nat) (a0:ByteArray×List Int×Bool×Unit) (a1:Int):rfC qc D n 202 (a0,(a1,()))=q0z D n a0 a1:=by kernel_rfl

def qbq5 (D:DX)(n:Nat) (a0:ByteArray×Int×Bool×Unit):Option ((tCol×Unit)×Unit):=some (((Prod.fst a0,Prod.fst (Prod.snd a0),Prod.fst (Prod.snd (Prod.snd a0)),()),()),())
def qbez (D:DX)(n:Nat) (a0:ByteArray×Int×Bool×Unit):Option ((tCol×Unit)×Unit):=qbq5 D n a0
theorem qbri (D:DX)(n:Nat) (a0:ByteArray×Int×Bool×Unit):rfC qc D n 203 (a0,())=qbez D n a0:=by kernel_rfl

def q83 (D:DX)(n:Nat) (a0:ByteArray×List Int×Bool×Unit):Option ((tIx×Unit)×Unit):=qi (qvy D (Prod.fst (Prod.snd a0))) fun b↦some (((Prod.fst a0,Prod.fst (Prod.fst b),Prod.fst (Prod.snd (Prod.snd a0)),()),()),())
def q1t (D:DX)(n:Nat) (a0:ByteArray×List Int×Bool×Unit):Option ((tIx×Unit)×Unit):=q83 D n a0
theorem qbnk (D:DX)(n:Nat) (a0:ByteArray×List Int×Bool×Unit):rfC qc D n 204 (a0,())=q1t D n a0:=by kernel_rfl

def qbct (D:DX)(n:Nat) (a0:ByteArray×Int×Bool×Unit) (a1:ByteArray×Int×Bool×Unit):Option ((Bool×Unit)×Unit):=br (!List.beq (ByteArray.toList (Prod.fst a0)) (ByteArray.toList (Prod.fst a1))) (some ((false,()),())) (br (Prod.fst (Prod.snd a0) != Prod.fst (Prod.snd a1)) (some ((false,()),())) (br (!decide (Prod.fst (Prod.snd (Prod.snd a0))=Prod.fst (Prod.snd (Prod.snd a1)))) (some ((false,()),())) (some ((true,()),()))))
def q6o (D:DX)(n:Nat) (a0:ByteArray×Int×Bool×Unit) (a1:ByteArray×Int×Bool×Unit):Option ((Bool×Unit)×Unit):=qbct D n a0 a1
theorem qbp8 (D:DX)(n:Nat) (a0:ByteArray×Int×Bool×Unit) (a1:ByteArray×Int×Bool×Unit):rfC qc D n 205 (a0,(a1,()))=q6o D n a0 a1:=by kernel_rfl

def q9l (D:DX)(n:Nat) (a0:ByteArray×List Int×Bool×Unit) (a1:ByteArray×List Int×Bool×Unit):Option ((Bool×Unit)×Unit):=br (!List.beq (ByteArray.toList (Prod.fst a0)) (ByteArray.toList (Prod.fst a1))) (some ((false,()),())) (qi (qv1 D (Prod.fst (Prod.snd a0)) (Prod.fst (Prod.snd a1))) fun b↦br (!Prod.fst (Prod.fst b)) (some ((false,()),())) (br (!decide (Prod.fst (Prod.snd (Prod.snd a0))=Prod.fst (Prod.snd (Prod.snd a1)))) (some ((false,()),())) (some ((true,()),()))))
def q1y (D:DX)(n:Nat) (a0:ByteArray×List Int×Bool×Unit) (a1:ByteArray×List Int×Bool×Unit):Option ((Bool×Unit)×Unit):=q9l D n a0 a1
theorem qbnj (D:DX)(n:Nat) (a0:ByteArray×List Int×Bool×Unit) (a1:ByteArray×List Int×Bool×Unit):rfC qc D n 206 (a0,(a1,()))=q1y D n a0 a1:=by kernel_rfl

def qf4 (D:DX)(n:Nat) (a1:Clo) (a0:qd):Option ((Bool×Unit)×Unit):=qi (qdy D a0 a1) fun b↦some ((decide (Prod.fst (Prod.fst b)≥0),()),())
def qdj (D:DX)(n:Nat) (a0:qd) (a1:Clo):Option ((Bool×Unit)×Unit):=qf4 D n a1 a0
theorem qn2 (D:DX)(n:Nat) (a0:qd) (a1:Clo):rfC qc D n 207 (a0,(a1,()))=qdj D n a0 a1:=by kernel_rfl

def q6n (D:DX)(n:Nat) (a0:Int×Int×ByteArray×Unit):Option ((Bool×Unit)×Unit):=qi (qt0 D a0) fun b↦some ((!Prod.fst (Prod.fst b),()),())
def qwn (D:DX)(n:Nat) (a0:Int×Int×ByteArray×Unit):Option ((Bool×Unit)×Unit):=q6n D n a0
theorem qbi9 (D:DX)(n:Nat) (a0:Int×Int×ByteArray×Unit):rfC qc D n 208 (a0,())=qwn D n a0:=by kernel_rfl

def ql1 (D:DX)(n:Nat) (go:List Int→Int→Int→Int→Option ((Int×Unit)×Unit)) (K0:Int→Option ((Int×Unit)×Unit)) (K1:Option ((Int×Unit)×Unit)) (x0:List Int) (x1:Int) (x2:Int) (x3:Int):Option ((Int×Unit)×Unit):=br (decide (x3<x2)) (br (decide (0≤x3)&&decide (x3<(↑(List.length x0):Int))) (br (decide (x1=List.getD x0 (Int.toNat x3) 0)) (K0 x3) (go x0 x1 x2 (IntKind.wrap IntKind.i64 (x3+1)))) none) K1
def qd4 (D:DX)(n:Nat) (K0:Int→Option ((Int×Unit)×Unit)) (K1:Option ((Int×Unit)×Unit)):Nat→(List Int)→(Int)→(Int)→(Int)→Option ((Int×Unit)×Unit) | 0=>(fun x0 x1 x2 x3=>none) | m+1=>(fun x0 x1 x2 x3=>ql1 D n (qd4 D n K0 K1 m) K0 K1 x0 x1 x2 x3)
def qr7 (D:DX)(n:Nat) (v0_0:Int):Option ((Int×Unit)×Unit):=some ((v0_0,()),())
def qrx (D:DX)(n:Nat):Option ((Int×Unit)×Unit):=some ((-1,()),())
def qlh (D:DX)(n:Nat):(List Int)→(Int)→(Int)→(Int)→Option ((Int×Unit)×Unit):=(fun x0 x1 x2 x3=>qd4 D n (fun v0_0=>qr7 D n v0_0) (qrx D n) n x0 x1 x2 x3)
def qnx (D:DX)(n:Nat) (lp0:List Int→Int→Int→Int→Option ((Int×Unit)×Unit)) (a0:List Int) (a1:Int):Option ((Int×Unit)×Unit):=lp0 a0 a1 (↑(List.length a0):Int) 0
def qn1 (D:DX)(n:Nat) (a0:List Int) (a1:Int):Option ((Int×Unit)×Unit):=qnx D n (qlh D n) a0 a1
def qd5 (x0:List Int) (x1:Int) (x2:Int) (x3:Int):St:=stq 19 [(0,AV.val (Ty.sl yI) x0),(1,avI x1),(7,avI x2),(8,avI x3)] [] 
def qg4 (v0_0:Int):St:=stq 19 [(4,avI v0_0)] [] 
def qg3:St:=stq 19 [] [] 
theorem q6q (D:DX)(n:Nat) (m:Nat) (K:Ex→St→Option (Out ctx 210)) (x0:List Int) (x1:Int) (x2:Int) (x3:Int) :
 LQ qc D n 210 [.r,.l,.r,.l] (m+1) (qd5 x0 x1 x2 x3) K=ql1 D n (fun x0 x1 x2 x3=>LQ qc D n 210 [.r,.l,.r,.l] m (qd5 x0 x1 x2 x3) K) (fun v0_0=>K (Ex.ret) (qg4 v0_0)) (K (Ex.exit 0) (qg3)) x0 x1 x2 x3:=by kernel_rfl
theorem qtc (D:DX)(n:Nat) (K:Ex→St→Option (Out ctx 210)):∀ (m:Nat) (x0:List Int) (x1:Int) (x2:Int) (x3:Int),LQ qc D n 210 [.r,.l,.r,.l] m (qd5 x0 x1 x2 x3) K=qd4 D n (fun v0_0=>K (Ex.ret) (qg4 v0_0)) (K (Ex.exit 0) (qg3)) m x0 x1 x2 x3
 | 0,x0,x1,x2,x3=>qu ..
 | m+1,x0,x1,x2,x3=>by
  have ih:(fun x0 x1 x2 x3=>LQ qc D n 210 [.r,.l,.r,.l] m (qd5 x0 x1 x2 x3) K)=qd4 D n (fun v0_0=>K (Ex.ret) (qg4 v0_0)) (K (Ex.exit 0) (qg3)) m:=by funext x0 x1 x2 x3;exact qtc D n K m x0 x1 x2 x3
  rw[q6q]
  rw[ih];rfl
theorem q5q (D:DX)(n:Nat) (v0_0:Int) :
 (CQ qc D n 210 [] [.r,.l,.r,.l] (qh qc 210)) (Ex.ret) (qg4 v0_0)=qr7 D n v0_0:=by kernel_rfl
theorem q5t (D:DX)(n:Nat) :
 (CQ qc D n 210 [] [.r,.l,.r,.l] (qh qc 210)) (Ex.exit 0) (qg3)=qrx D n:=by kernel_rfl
theorem q5v (D:DX)(n:Nat) (x0:List Int) (x1:Int) (x2:Int) (x3:Int) :
 LQ qc D n 210 [.r,.l,.r,.l] n (qd5 x0 x1 x2 x3) (CQ qc D n 210 [] [.r,.l,.r,.l] (qh qc 210))=qlh D n x0 x1 x2 x3:=by
 rw[qtc]
 simp only[q5q,q5t]
 rfl
theorem q8p (D:DX)(n:Nat) (a0:List Int) (a1:Int):rfC qc D n 210 (a0,(a1,()))=qn1 D n a0 a1:=by
 have h:rfC qc D n 210 (a0,(a1,()))=qnx D n (fun x0 x1 x2 x3=>LQ qc D n 210 [.r,.l,.r,.l] n (qd5 x0 x1 x2 x3) (CQ qc D n 210 [] [.r,.l,.r,.l] (qh qc 210))) a0 a1:=by kernel_rfl
 rw[h]
 simp only[q5v]
 rfl

def qds (D:DX)(n:Nat) (a1:Clo) (go:qd→Int→Int→Option ((Int×Unit)×Unit)) (K0:Int→Option ((Int×Unit)×Unit)) (K1:Option ((Int×Unit)×Unit)) (x0:qd) (x1:Int) (x2:Int):Option ((Int×Unit)×Unit):=br (decide (x2<x1)) (br (decide (0≤x2)&&decide (x2<(↑(List.length x0):Int))) (qi (qbr ctx D a1 [CapV.val (Ty.pair (Ty.int IntKind.i64) (Ty.pair (Ty.int IntKind.i64) (Ty.pair Ty.str Ty.unit))) (List.getD x0 (Int.toNat x2) (0,0,ByteArray.empty,()))] Ty.bool) fun b↦br b (K0 x2) (go x0 x1 (IntKind.wrap IntKind.i64 (x2+1)))) none) K1
def qbq (D:DX)(n:Nat) (a1:Clo) (K0:Int→Option ((Int×Unit)×Unit)) (K1:Option ((Int×Unit)×Unit)):Nat→(qd)→(Int)→(Int)→Option ((Int×Unit)×Unit) | 0=>(fun x0 x1 x2=>none) | m+1=>(fun x0 x1 x2=>qds D n a1 (qbq D n a1 K0 K1 m) K0 K1 x0 x1 x2)
def qfx (D:DX)(n:Nat) (a1:Clo) (v0_0:Int):Option ((Int×Unit)×Unit):=some ((v0_0,()),())
def qf3 (D:DX)(n:Nat) (a1:Clo):Option ((Int×Unit)×Unit):=some ((-1,()),())
def qdq (D:DX)(n:Nat) (a1:Clo):(qd)→(Int)→(Int)→Option ((Int×Unit)×Unit):=(fun x0 x1 x2=>qbq D n a1 (fun v0_0=>qfx D n a1 v0_0) (qf3 D n a1) n x0 x1 x2)
def qd0 (D:DX)(n:Nat) (a1:Clo) (lp0:qd→Int→Int→Option ((Int×Unit)×Unit)) (a0:qd):Option ((Int×Unit)×Unit):=lp0 a0 (↑(List.length a0):Int) 0
def qdw (D:DX)(n:Nat) (a0:qd) (a1:Clo):Option ((Int×Unit)×Unit):=qd0 D n a1 (qdq D n a1) a0
def qbp (a1:Clo) (x0:qd) (x1:Int) (x2:Int):St:=stq 19 [(0,AV.val (Ty.sl yV) x0),(1,AV.cloV a1),(7,avI x1),(8,avI x2)] [] 
def qcm (a1:Clo) (v0_0:Int):St:=stq 19 [(4,avI v0_0)] [] 
def qcn (a1:Clo):St:=stq 19 [] [] 
theorem qoh (D:DX)(n:Nat) (a1:Clo) (m:Nat) (K:Ex→St→Option (Out ctx 213)) (x0:qd) (x1:Int) (x2:Int) :
 LQ qc D n 213 [.r,.l,.r,.l] (m+1) (qbp a1 x0 x1 x2) K=qds D n a1 (fun x0 x1 x2=>LQ qc D n 213 [.r,.l,.r,.l] m (qbp a1 x0 x1 x2) K) (fun v0_0=>K (Ex.ret) (qcm a1 v0_0)) (K (Ex.exit 0) (qcn a1)) x0 x1 x2:=by kernel_rfl
theorem qf8 (D:DX)(n:Nat) (a1:Clo) (K:Ex→St→Option (Out ctx 213)):∀ (m:Nat) (x0:qd) (x1:Int) (x2:Int),LQ qc D n 213 [.r,.l,.r,.l] m (qbp a1 x0 x1 x2) K=qbq D n a1 (fun v0_0=>K (Ex.ret) (qcm a1 v0_0)) (K (Ex.exit 0) (qcn a1)) m x0 x1 x2
 | 0,x0,x1,x2=>qu ..
 | m+1,x0,x1,x2=>by
  have ih:(fun x0 x1 x2=>LQ qc D n 213 [.r,.l,.r,.l] m (qbp a1 x0 x1 x2) K)=qbq D n a1 (fun v0_0=>K (Ex.ret) (qcm a1 v0_0)) (K (Ex.exit 0) (qcn a1)) m:=by funext x0 x1 x2;exact qf8 D n a1 K m x0 x1 x2
  rw[qoh]
  rw[ih];rfl
theorem qn0 (D:DX)(n:Nat) (a1:Clo) (v0_0:Int) :
 (CQ qc D n 213 [] [.r,.l,.r,.l] (qh qc 213)) (Ex.ret) (qcm a1 v0_0)=qfx D n a1 v0_0:=by kernel_rfl
theorem qnz (D:DX)(n:Nat) (a1:Clo) :
 (CQ qc D n 213 [] [.r,.l,.r,.l] (qh qc 213)) (Ex.exit 0) (qcn a1)=qf3 D n a1:=by kernel_rfl
theorem qn3 (D:DX)(n:Nat) (a1:Clo) (x0:qd) (x1:Int) (x2:Int) :
 LQ qc D n 213 [.r,.l,.r,.l] n (qbp a1 x0 x1 x2) (CQ qc D n 213 [] [.r,.l,.r,.l] (qh qc 213))=qdq D n a1 x0 x1 x2:=by
 rw[qf8]
 simp only[qn0,qnz]
 rfl
theorem qo7 (D:DX)(n:Nat) (a0:qd) (a1:Clo):rfC qc D n 213 (a0,(a1,()))=qdw D n a0 a1:=by
 have h:rfC qc D n 213 (a0,(a1,()))=qd0 D n a1 (fun x0 x1 x2=>LQ qc D n 213 [.r,.l,.r,.l] n (qbp a1 x0 x1 x2) (CQ qc D n 213 [] [.r,.l,.r,.l] (qh qc 213))) a0:=by kernel_rfl
 rw[h]
 simp only[qn3]
 rfl
end
end Go.G

namespace Go.G
set_option maxRecDepth 100000
open Go Go.V Go.Proofs
def XOk (X:Ext):Prop:=∀ k:Nat,(Nat.beq k 88||Nat.beq k 93||Nat.beq k 95||Nat.beq k 192)=false→X.is k=false
theorem qbaf {X:Ext} (hX:XOk X) (n:Nat) (a0:(tSch)×qe×Unit) (a1:Int):qy2 (DD X (n+1)) a0 a1=qp9 (DD X n) n a0 a1:=(qk X Tryz.func9 (by kernel_rfl) (hX 9 rfl) n _).trans (q93 ..)
theorem qbpl {X:Ext} (hX:XOk X) (n:Nat) (a0:(tSch)×qe×Unit) (a1:Int):qv3 (DD X (n+1)) a0 a1=q38 (DD X n) n a0 a1:=(qk X Tryz.func13 (by kernel_rfl) (hX 13 rfl) n _).trans (qbo6 ..)
theorem qbp6 {X:Ext} (hX:XOk X) (n:Nat) (a0:(tSch)×qe×Unit):q6s (DD X (n+1)) a0=q7a (DD X n) n a0:=(qk X Tryz.func17 (by kernel_rfl) (hX 17 rfl) n _).trans (qbq4 ..)
theorem qbpd {X:Ext} (hX:XOk X) (n:Nat) (a0:List tWay) (a1:ByteArray×ByteArray×Unit):q4f (DD X (n+1)) a0 a1=q33 (DD X n) n a0 a1:=(qk X Tryz.func21 (by kernel_rfl) (hX 21 rfl) n _).trans (qbpg ..)
theorem qbls {X:Ext} (hX:XOk X) (n:Nat) (a0:tSch) (a1:qd):qnp (DD X (n+1)) a0 a1=qx2 (DD X n) n a0 a1:=(qk X Tryz.func23 (by kernel_rfl) (hX 23 rfl) n _).trans (qbl1 ..)
theorem qbrc {X:Ext} (hX:XOk X) (n:Nat) (a0:(tSch)×qe×Unit):q7i (DD X (n+1)) a0=q6k (DD X n) n a0:=(qk X Tryz.func41 (by kernel_rfl) (hX 41 rfl) n _).trans (qbrh ..)
theorem qbqr {X:Ext} (hX:XOk X) (n:Nat) (a0:(tSch)×qe×Unit) (a1:Int) (a2:qd):q7f (DD X (n+1)) a0 a1 a2=q66 (DD X n) n a0 a1 a2:=(qk X Tryz.func46 (by kernel_rfl) (hX 46 rfl) n _).trans (qbr7 ..)
theorem qbpn {X:Ext} (hX:XOk X) (n:Nat) (a0:List tWay) (a1:ByteArray×ByteArray×Unit):q31 (DD X (n+1)) a0 a1=q35 (DD X n) n a0 a1:=(qk X Tryz.func48 (by kernel_rfl) (hX 48 rfl) n _).trans (qbpq ..)
theorem qbmu {X:Ext} (hX:XOk X) (n:Nat) (a0:ByteArray×ByteArray×Unit) (a1:ByteArray×ByteArray×Unit):q14 (DD X (n+1)) a0 a1=q9q (DD X n) n a0 a1:=(qk X Tryz.func50 (by kernel_rfl) (hX 50 rfl) n _).trans (qbnh ..)
theorem qbnl {X:Ext} (hX:XOk X) (n:Nat) (a0:ByteArray×ByteArray×Unit) (a1:ByteArray×ByteArray×Unit):q2a (DD X (n+1)) a0 a1=q9h (DD X n) n a0 a1:=(qk X Tryz.func51 (by kernel_rfl) (hX 51 rfl) n _).trans (qbmt ..)
theorem qbpt {X:Ext} (hX:XOk X) (n:Nat) (a0:(tSch)×qe×Unit) (a1:Int):q3v (DD X (n+1)) a0 a1=q4o (DD X n) n a0 a1:=(qk X Tryz.func52 (by kernel_rfl) (hX 52 rfl) n _).trans (qbpx ..)
theorem qbfm {X:Ext} (hX:XOk X) (n:Nat) (a0:(tSch)×qe×Unit) (a1:Int):qui (DD X (n+1)) a0 a1=qvm (DD X n) n a0 a1:=(qk X Tryz.func53 (by kernel_rfl) (hX 53 rfl) n _).trans (qbft ..)
theorem qbj2 {X:Ext} (hX:XOk X) (n:Nat) (a0:qd) (a1:Int):qrs (DD X (n+1)) a0 a1=qza (DD X n) n a0 a1:=(qk X Tryz.func54 (by kernel_rfl) (hX 54 rfl) n _).trans (qblm ..)
theorem qbgq {X:Ext} (hX:XOk X) (n:Nat) (a0:(tSch)×qe×Unit):qht (DD X (n+1)) a0=qvf (DD X n) n a0:=(qk X Tryz.func55 (by kernel_rfl) (hX 55 rfl) n _).trans (qbga ..)
theorem qbke {X:Ext} (hX:XOk X) (n:Nat) (a0:qd):qrw (DD X (n+1)) a0=qz5 (DD X n) n a0:=(qk X Tryz.func56 (by kernel_rfl) (hX 56 rfl) n _).trans (qbkx ..)
theorem qbfv {X:Ext} (hX:XOk X) (n:Nat) (a0:(tSch)×qe×Unit) (a1:(tSch)×qe×Unit):quf (DD X (n+1)) a0 a1=qu9 (DD X n) n a0 a1:=(qk X Tryz.func57 (by kernel_rfl) (hX 57 rfl) n _).trans (qbgf ..)
theorem qbjr {X:Ext} (hX:XOk X) (n:Nat) (a0:qd) (a1:qd):qr5 (DD X (n+1)) a0 a1=qy3 (DD X n) n a0 a1:=(qk X Tryz.func58 (by kernel_rfl) (hX 58 rfl) n _).trans (qbk1 ..)
theorem qbb6 {X:Ext} (hX:XOk X) (n:Nat) (a0:(tSch)×qe×Unit) (a1:Int):qrd (DD X (n+1)) a0 a1=qro (DD X n) n a0 a1:=(qk X Tryz.func59 (by kernel_rfl) (hX 59 rfl) n _).trans (qbcb ..)
theorem qbfo {X:Ext} (hX:XOk X) (n:Nat) (a0:qd) (a1:Int):qux (DD X (n+1)) a0 a1=qu6 (DD X n) n a0 a1:=(qk X Tryz.func60 (by kernel_rfl) (hX 60 rfl) n _).trans (qbfk ..)
theorem qbpc {X:Ext} (hX:XOk X) (n:Nat) (a0:List tWay) (a1:List tWay):qqi (DD X (n+1)) a0 a1=q34 (DD X n) n a0 a1:=(qk X Tryz.func62 (by kernel_rfl) (hX 62 rfl) n _).trans (qbo7 ..)
theorem qbkq {X:Ext} (hX:XOk X) (n:Nat) (a0:List tWay) (a1:Int):qy5 (DD X (n+1)) a0 a1=qy9 (DD X n) n a0 a1:=(qk X Tryz.func63 (by kernel_rfl) (hX 63 rfl) n _).trans (qbld ..)
theorem qbjt {X:Ext} (hX:XOk X) (n:Nat) (a0:List tWay) (a1:Int):qrq (DD X (n+1)) a0 a1=qzl (DD X n) n a0 a1:=(qk X Tryz.func64 (by kernel_rfl) (hX 64 rfl) n _).trans (qbjk ..)
theorem qbss {X:Ext} (hX:XOk X) (n:Nat) (a0:Int) (a1:Int) (a2:Int):qf1 (DD X (n+1)) a0 a1 a2=q8h (DD X n) n a0 a1 a2:=(qk X Tryz.func68 (by kernel_rfl) (hX 68 rfl) n _).trans (qbs1 ..)
theorem qbuu {X:Ext} (hX:XOk X) (n:Nat) (a0:tSch) (a1:Int) (a2:qd):qbad (DD X (n+1)) a0 a1 a2=qba9 (DD X n) n a0 a1 a2:=(qk X Tryz.func69 (by kernel_rfl) (hX 69 rfl) n _).trans (qbt8 ..)
theorem qbqm {X:Ext} (hX:XOk X) (n:Nat) (a0:tSch) (a1:qd):q69 (DD X (n+1)) a0 a1=q65 (DD X n) n a0 a1:=(qk X Tryz.func77 (by kernel_rfl) (hX 77 rfl) n _).trans (qbqu ..)
theorem qbic {X:Ext} (hX:XOk X) (n:Nat) (a0:qd) (a1:qd):qwb (DD X (n+1)) a0 a1=qxl (DD X n) n a0 a1:=(qk X Tryz.func78 (by kernel_rfl) (hX 78 rfl) n _).trans (qbia ..)
theorem qof {X:Ext} (hX:XOk X) (n:Nat) (a0:qe) (a1:Clo):qca (DD X (n+1)) a0 a1=qdp (DD X n) n a0 a1:=(qk X Tryz.func79 (by kernel_rfl) (hX 79 rfl) n _).trans (qoj ..)
theorem qbn1 {X:Ext} (hX:XOk X) (n:Nat) (a0:qd) (a1:(tSch)×qe×Unit) (a2:qd):q8z (DD X (n+1)) a0 a1 a2=q2k (DD X n) n a0 a1 a2:=(qk X Tryz.func80 (by kernel_rfl) (hX 80 rfl) n _).trans (qbnf ..)
theorem qbrj {X:Ext} (hX:XOk X) (n:Nat) (a0:tSch) (a1:qd) (a2:qd):q6l (DD X (n+1)) a0 a1 a2=q7c (DD X n) n a0 a1 a2:=(qk X Tryz.func81 (by kernel_rfl) (hX 81 rfl) n _).trans (qbqq ..)
theorem qbj1 {X:Ext} (hX:XOk X) (n:Nat) (a0:tSch):qr2 (DD X (n+1)) a0=qy7 (DD X n) n a0:=(qk X Tryz.func82 (by kernel_rfl) (hX 82 rfl) n _).trans (qbjz ..)
theorem qp2 {X:Ext} (hX:XOk X) (n:Nat) (a0:qe) (a1:Clo):qec (DD X (n+1)) a0 a1=qef (DD X n) n a0 a1:=(qk X Tryz.func86 (by kernel_rfl) (hX 86 rfl) n _).trans (qqd ..)
theorem qww {X:Ext} (hX:XOk X) (n:Nat) (a0:List tWay):qgm (DD X (n+1)) a0=qgg (DD X n) n a0:=(qk X Tryz.func90 (by kernel_rfl) (hX 90 rfl) n _).trans (qxk ..)
theorem qsf {X:Ext} (hX:XOk X) (n:Nat) (a0:List tWay) (a1:Clo):qfh (DD X (n+1)) a0 a1=qe8 (DD X n) n a0 a1:=(qk X Tryz.func91 (by kernel_rfl) (hX 91 rfl) n _).trans (qth ..)
theorem qbjp {X:Ext} (hX:XOk X) (n:Nat) (a0:ByteArray×ByteArray×Unit) (a1:ByteArray×ByteArray×Unit):q7l (DD X (n+1)) a0 a1=qz6 (DD X n) n a0 a1:=(qk X Tryz.func92 (by kernel_rfl) (hX 92 rfl) n _).trans (qbmg ..)
theorem qbn6 {X:Ext} (hX:XOk X) (n:Nat) (a0:qd) (a1:List Int):qla (DD X (n+1)) a0 a1=q2n (DD X n) n a0 a1:=(qk X Tryz.func94 (by kernel_rfl) (hX 94 rfl) n _).trans (qbnz ..)
theorem qbqk {X:Ext} (hX:XOk X) (n:Nat) (a0:tSch) (a1:qd):qyh (DD X (n+1)) a0 a1=q67 (DD X n) n a0 a1:=(qk X Tryz.func100 (by kernel_rfl) (hX 100 rfl) n _).trans (qbrf ..)
theorem qbj5 {X:Ext} (hX:XOk X) (n:Nat) (a0:tSch) (a1:qd):qm2 (DD X (n+1)) a0 a1=qyg (DD X n) n a0 a1:=(qk X Tryz.func102 (by kernel_rfl) (hX 102 rfl) n _).trans (qbk7 ..)
theorem qbi7 {X:Ext} (hX:XOk X) (n:Nat) (a0:qd) (a1:qd):qwq (DD X (n+1)) a0 a1=qwy (DD X n) n a0 a1:=(qk X Tryz.func104 (by kernel_rfl) (hX 104 rfl) n _).trans (qbiz ..)
theorem qbmd {X:Ext} (hX:XOk X) (n:Nat) (a0:tSch) (a1:qd) (a2:qd):q0e (DD X (n+1)) a0 a1 a2=qzo (DD X n) n a0 a1 a2:=(qk X Tryz.func111 (by kernel_rfl) (hX 111 rfl) n _).trans (qblg ..)
theorem qbme {X:Ext} (hX:XOk X) (n:Nat) (a0:tSch):qr9 (DD X (n+1)) a0=qyy (DD X n) n a0:=(qk X Tryz.func112 (by kernel_rfl) (hX 112 rfl) n _).trans (qbla ..)
theorem qbs8 {X:Ext} (hX:XOk X) (n:Nat) (a0:Int) (a1:Int) (a2:Int):qf0 (DD X (n+1)) a0 a1 a2=q8i (DD X n) n a0 a1 a2:=(qk X Tryz.func117 (by kernel_rfl) (hX 117 rfl) n _).trans (qbsj ..)
theorem qbfu {X:Ext} (hX:XOk X) (n:Nat) (a0:qd):qou (DD X (n+1)) a0=qu0 (DD X n) n a0:=(qk X Tryz.func118 (by kernel_rfl) (hX 118 rfl) n _).trans (qbgb ..)
theorem qbn4 {X:Ext} (hX:XOk X) (n:Nat) (a0:qd) (a1:List Int):qk2 (DD X (n+1)) a0 a1=q0x (DD X n) n a0 a1:=(qk X Tryz.func119 (by kernel_rfl) (hX 119 rfl) n _).trans (qbmn ..)
theorem qblf {X:Ext} (hX:XOk X) (n:Nat) (a0:tSch) (a1:Int):qx3 (DD X (n+1)) a0 a1=qzs (DD X n) n a0 a1:=(qk X Tryz.func120 (by kernel_rfl) (hX 120 rfl) n _).trans (qbjn ..)
theorem qbhy {X:Ext} (hX:XOk X) (n:Nat) (a0:qe) (a1:Int):qwg (DD X (n+1)) a0 a1=qwt (DD X n) n a0 a1:=(qk X Tryz.func121 (by kernel_rfl) (hX 121 rfl) n _).trans (qbi8 ..)
theorem qbnc {X:Ext} (hX:XOk X) (n:Nat) (a0:Int×Int×ByteArray×Unit) (a1:Int):qtw (DD X (n+1)) a0 a1=q1o (DD X n) n a0 a1:=(qk X Tryz.func122 (by kernel_rfl) (hX 122 rfl) n _).trans (qbni ..)
theorem qbkb {X:Ext} (hX:XOk X) (n:Nat) (a0:tSch):qyd (DD X (n+1)) a0=qxx (DD X n) n a0:=(qk X Tryz.func123 (by kernel_rfl) (hX 123 rfl) n _).trans (qbko ..)
theorem qbh7 {X:Ext} (hX:XOk X) (n:Nat) (a0:qe):qwv (DD X (n+1)) a0=qwm (DD X n) n a0:=(qk X Tryz.func124 (by kernel_rfl) (hX 124 rfl) n _).trans (qbh4 ..)
theorem qbm7 {X:Ext} (hX:XOk X) (n:Nat) (a0:Int×Int×ByteArray×Unit):qtx (DD X (n+1)) a0=q9p (DD X n) n a0:=(qk X Tryz.func125 (by kernel_rfl) (hX 125 rfl) n _).trans (qbny ..)
theorem qbk8 {X:Ext} (hX:XOk X) (n:Nat) (a0:tSch) (a1:tSch):q0f (DD X (n+1)) a0 a1=q0d (DD X n) n a0 a1:=(qk X Tryz.func126 (by kernel_rfl) (hX 126 rfl) n _).trans (qbly ..)
theorem qbh3 {X:Ext} (hX:XOk X) (n:Nat) (a0:qe) (a1:qe):qwi (DD X (n+1)) a0 a1=qw1 (DD X n) n a0 a1:=(qk X Tryz.func127 (by kernel_rfl) (hX 127 rfl) n _).trans (qbik ..)
theorem qbmr {X:Ext} (hX:XOk X) (n:Nat) (a0:Int×Int×ByteArray×Unit) (a1:Int×Int×ByteArray×Unit):qua (DD X (n+1)) a0 a1=q12 (DD X n) n a0 a1:=(qk X Tryz.func128 (by kernel_rfl) (hX 128 rfl) n _).trans (qbm2 ..)
theorem qbge {X:Ext} (hX:XOk X) (n:Nat) (a0:tSch) (a1:Int):qup (DD X (n+1)) a0 a1=qvd (DD X n) n a0 a1:=(qk X Tryz.func129 (by kernel_rfl) (hX 129 rfl) n _).trans (qbf1 ..)
theorem qbcm {X:Ext} (hX:XOk X) (n:Nat) (a0:qe) (a1:Int):qs7 (DD X (n+1)) a0 a1=qs9 (DD X n) n a0 a1:=(qk X Tryz.func130 (by kernel_rfl) (hX 130 rfl) n _).trans (qbe1 ..)
theorem qbmc {X:Ext} (hX:XOk X) (n:Nat) (a0:Int):qev (DD X (n+1)) a0=qzx (DD X n) n a0:=(qk X Tryz.func131 (by kernel_rfl) (hX 131 rfl) n _).trans (qbkn ..)
theorem qbqb {X:Ext} (hX:XOk X) (n:Nat) (a0:ByteArray×ByteArray×Unit) (a1:ByteArray×ByteArray×Unit):qz2 (DD X (n+1)) a0 a1=q7k (DD X n) n a0 a1:=(qk X Tryz.func134 (by kernel_rfl) (hX 134 rfl) n _).trans (qbq0 ..)
theorem qbfr {X:Ext} (hX:XOk X) (n:Nat) (a0:qd):qor (DD X (n+1)) a0=qus (DD X n) n a0:=(qk X Tryz.func137 (by kernel_rfl) (hX 137 rfl) n _).trans (qbf6 ..)
theorem qbm1 {X:Ext} (hX:XOk X) (n:Nat) (a0:Int×Int×ByteArray×Unit):qt0 (DD X (n+1)) a0=q1r (DD X n) n a0:=(qk X Tryz.func139 (by kernel_rfl) (hX 139 rfl) n _).trans (qbn8 ..)
theorem qgl {X:Ext} (hX:XOk X) (n:Nat) (a0:qd) (a1:qd) (a2:Clo):qcd (DD X (n+1)) a0 a1 a2=qcc (DD X n) n a0 a1 a2:=(qk X Tryz.func140 (by kernel_rfl) (hX 140 rfl) n _).trans (qgh ..)
theorem qbnb {X:Ext} (hX:XOk X) (n:Nat) (a0:Int×Int×ByteArray×Unit) (a1:Int×Int×ByteArray×Unit):q2c (DD X (n+1)) a0 a1=q2m (DD X n) n a0 a1:=(qk X Tryz.func141 (by kernel_rfl) (hX 141 rfl) n _).trans (qbmz ..)
theorem qoe {X:Ext} (hX:XOk X) (n:Nat) (a0:tIxs) (a1:Clo):qcs (DD X (n+1)) a0 a1=qdo (DD X n) n a0 a1:=(qk X Tryz.func142 (by kernel_rfl) (hX 142 rfl) n _).trans (qoa ..)
theorem qbnr {X:Ext} (hX:XOk X) (n:Nat) (a0:ByteArray×List Int×Bool×Unit) (a1:qd) (a2:qd):q9y (DD X (n+1)) a0 a1 a2=q1q (DD X n) n a0 a1 a2:=(qk X Tryz.func143 (by kernel_rfl) (hX 143 rfl) n _).trans (qbn3 ..)
theorem qqx {X:Ext} (hX:XOk X) (n:Nat) (a0:qd) (a1:Int×Int×ByteArray×Unit):qeh (DD X (n+1)) a0 a1=qei (DD X n) n a0 a1:=(qk X Tryz.func144 (by kernel_rfl) (hX 144 rfl) n _).trans (qqt ..)
theorem qsr {X:Ext} (hX:XOk X) (n:Nat) (a0:qd) (a1:qd):qe7 (DD X (n+1)) a0 a1=qe6 (DD X n) n a0 a1:=(qk X Tryz.func145 (by kernel_rfl) (hX 145 rfl) n _).trans (qsl ..)
theorem qbi2 {X:Ext} (hX:XOk X) (n:Nat) (a0:ByteArray):qpf (DD X (n+1)) a0=qxi (DD X n) n a0:=(qk X Tryz.func146 (by kernel_rfl) (hX 146 rfl) n _).trans (qbht ..)
theorem qbra {X:Ext} (hX:XOk X) (n:Nat) (a0:tSch) (a1:ByteArray):q6a (DD X (n+1)) a0 a1=q6i (DD X n) n a0 a1:=(qk X Tryz.func147 (by kernel_rfl) (hX 147 rfl) n _).trans (qbr9 ..)
theorem qbl9 {X:Ext} (hX:XOk X) (n:Nat) (a0:tSch) (a1:List Int) (a2:Int):qr3 (DD X (n+1)) a0 a1 a2=qzi (DD X n) n a0 a1 a2:=(qk X Tryz.func148 (by kernel_rfl) (hX 148 rfl) n _).trans (qbjq ..)
theorem qbfw {X:Ext} (hX:XOk X) (n:Nat) (a0:ByteArray×List Int×Bool×Unit) (a1:ByteArray×List Int×Bool×Unit):q4y (DD X (n+1)) a0 a1=quh (DD X n) n a0 a1:=(qk X Tryz.func149 (by kernel_rfl) (hX 149 rfl) n _).trans (qbfi ..)
theorem q0i {X:Ext} (hX:XOk X) (n:Nat) (a0:List Int) (a1:Clo):qh8 (DD X (n+1)) a0 a1=qh7 (DD X n) n a0 a1:=(qk X Tryz.func150 (by kernel_rfl) (hX 150 rfl) n _).trans (q0h ..)
theorem qbgk {X:Ext} (hX:XOk X) (n:Nat) (a0:Int) (a1:tSch):q5e (DD X (n+1)) a0 a1=que (DD X n) n a0 a1:=(qk X Tryz.func151 (by kernel_rfl) (hX 151 rfl) n _).trans (qbff ..)
theorem qbmq {X:Ext} (hX:XOk X) (n:Nat) (a0:Int×Int×ByteArray×Unit):qt4 (DD X (n+1)) a0=q02 (DD X n) n a0:=(qk X Tryz.func158 (by kernel_rfl) (hX 158 rfl) n _).trans (qbnd ..)
theorem qbns {X:Ext} (hX:XOk X) (n:Nat) (a0:qd) (a1:qd):q2p (DD X (n+1)) a0 a1=q1k (DD X n) n a0 a1:=(qk X Tryz.func159 (by kernel_rfl) (hX 159 rfl) n _).trans (qbnn ..)
theorem qbi5 {X:Ext} (hX:XOk X) (n:Nat) (a0:Int×Int×ByteArray×Unit) (a1:Int×Int×ByteArray×Unit):qpr (DD X (n+1)) a0 a1=qw9 (DD X n) n a0 a1:=(qk X Tryz.func160 (by kernel_rfl) (hX 160 rfl) n _).trans (qbij ..)
theorem qbi6 {X:Ext} (hX:XOk X) (n:Nat) (a0:Int×Int×ByteArray×Unit) (a1:Int×Int×ByteArray×Unit):qxm (DD X (n+1)) a0 a1=qxp (DD X n) n a0 a1:=(qk X Tryz.func161 (by kernel_rfl) (hX 161 rfl) n _).trans (qbhx ..)
theorem qbnu {X:Ext} (hX:XOk X) (n:Nat) (a0:qd):q1j (DD X (n+1)) a0=q1s (DD X n) n a0:=(qk X Tryz.func165 (by kernel_rfl) (hX 165 rfl) n _).trans (qbnm ..)
theorem qbi3 {X:Ext} (hX:XOk X) (n:Nat) (a0:ByteArray):qpd (DD X (n+1)) a0=qwd (DD X n) n a0:=(qk X Tryz.func166 (by kernel_rfl) (hX 166 rfl) n _).trans (qbix ..)
theorem qbre {X:Ext} (hX:XOk X) (n:Nat) (a0:tSch) (a1:ByteArray):q68 (DD X (n+1)) a0 a1=q6m (DD X n) n a0 a1:=(qk X Tryz.func167 (by kernel_rfl) (hX 167 rfl) n _).trans (qbq7 ..)
theorem qbi1 {X:Ext} (hX:XOk X) (n:Nat) (a0:tSch) (a1:List Int) (a2:Int):qpq (DD X (n+1)) a0 a1 a2=qwp (DD X n) n a0 a1 a2:=(qk X Tryz.func168 (by kernel_rfl) (hX 168 rfl) n _).trans (qbiy ..)
theorem qbf7 {X:Ext} (hX:XOk X) (n:Nat) (a0:tSch):qvh (DD X (n+1)) a0=qud (DD X n) n a0:=(qk X Tryz.func169 (by kernel_rfl) (hX 169 rfl) n _).trans (qbf8 ..)
theorem qbne {X:Ext} (hX:XOk X) (n:Nat) (a0:qd):qt9 (DD X (n+1)) a0=q1z (DD X n) n a0:=(qk X Tryz.func172 (by kernel_rfl) (hX 172 rfl) n _).trans (qbng ..)
theorem qbmf {X:Ext} (hX:XOk X) (n:Nat) (a0:Int×Int×ByteArray×Unit):qzu (DD X (n+1)) a0=qyf (DD X n) n a0:=(qk X Tryz.func173 (by kernel_rfl) (hX 173 rfl) n _).trans (qbmj ..)
theorem qbpo {X:Ext} (hX:XOk X) (n:Nat) (a0:qn) (a1:Int):q4a (DD X (n+1)) a0 a1=q4c (DD X n) n a0 a1:=(qk X Tryz.func174 (by kernel_rfl) (hX 174 rfl) n _).trans (qbpk ..)
theorem qbph {X:Ext} (hX:XOk X) (n:Nat) (a0:List Int) (a1:Int):qv5 (DD X (n+1)) a0 a1=q3q (DD X n) n a0 a1:=(qk X Tryz.func175 (by kernel_rfl) (hX 175 rfl) n _).trans (qbpz ..)
theorem qbkm {X:Ext} (hX:XOk X) (n:Nat) (a0:tIxs) (a1:Int):qyp (DD X (n+1)) a0 a1=qzy (DD X n) n a0 a1:=(qk X Tryz.func176 (by kernel_rfl) (hX 176 rfl) n _).trans (qbju ..)
theorem qbpy {X:Ext} (hX:XOk X) (n:Nat) (a0:qn):q4q (DD X (n+1)) a0=q3y (DD X n) n a0:=(qk X Tryz.func177 (by kernel_rfl) (hX 177 rfl) n _).trans (qbpe ..)
theorem qbpi {X:Ext} (hX:XOk X) (n:Nat) (a0:List Int):qvy (DD X (n+1)) a0=q4p (DD X n) n a0:=(qk X Tryz.func178 (by kernel_rfl) (hX 178 rfl) n _).trans (qbpa ..)
theorem qbkk {X:Ext} (hX:XOk X) (n:Nat) (a0:tIxs):qxz (DD X (n+1)) a0=qyo (DD X n) n a0:=(qk X Tryz.func179 (by kernel_rfl) (hX 179 rfl) n _).trans (qblk ..)
theorem qbpr {X:Ext} (hX:XOk X) (n:Nat) (a0:qn) (a1:qn):q3x (DD X (n+1)) a0 a1=q4i (DD X n) n a0 a1:=(qk X Tryz.func180 (by kernel_rfl) (hX 180 rfl) n _).trans (qbpb ..)
theorem qbpp {X:Ext} (hX:XOk X) (n:Nat) (a0:List Int) (a1:List Int):qv1 (DD X (n+1)) a0 a1=q3u (DD X n) n a0 a1:=(qk X Tryz.func181 (by kernel_rfl) (hX 181 rfl) n _).trans (qbpj ..)
theorem qblb {X:Ext} (hX:XOk X) (n:Nat) (a0:tIxs) (a1:tIxs):qz4 (DD X (n+1)) a0 a1=qyr (DD X n) n a0 a1:=(qk X Tryz.func182 (by kernel_rfl) (hX 182 rfl) n _).trans (qbk9 ..)
theorem qbj8 {X:Ext} (hX:XOk X) (n:Nat) (a0:qn) (a1:Int):qyt (DD X (n+1)) a0 a1=qze (DD X n) n a0 a1:=(qk X Tryz.func183 (by kernel_rfl) (hX 183 rfl) n _).trans (qbkr ..)
theorem qbjc {X:Ext} (hX:XOk X) (n:Nat) (a0:List Int) (a1:Int):qnh (DD X (n+1)) a0 a1=qzg (DD X n) n a0 a1:=(qk X Tryz.func184 (by kernel_rfl) (hX 184 rfl) n _).trans (qbkc ..)
theorem qbfq {X:Ext} (hX:XOk X) (n:Nat) (a0:tIxs) (a1:Int):qun (DD X (n+1)) a0 a1=qu8 (DD X n) n a0 a1:=(qk X Tryz.func185 (by kernel_rfl) (hX 185 rfl) n _).trans (qbf9 ..)
theorem qbmm {X:Ext} (hX:XOk X) (n:Nat) (a0:qd):q2h (DD X (n+1)) a0=q1x (DD X n) n a0:=(qk X Tryz.func191 (by kernel_rfl) (hX 191 rfl) n _).trans (qbmv ..)
theorem qqc {X:Ext} (hX:XOk X) (n:Nat) (a0:tIxs) (a1:Clo):qeg (DD X (n+1)) a0 a1=qd8 (DD X n) n a0 a1:=(qk X Tryz.func193 (by kernel_rfl) (hX 193 rfl) n _).trans (qpl ..)
theorem qtg {X:Ext} (hX:XOk X) (n:Nat) (a0:qd) (a1:Int×Int×ByteArray×Unit):qfc (DD X (n+1)) a0 a1=qe4 (DD X n) n a0 a1:=(qk X Tryz.func194 (by kernel_rfl) (hX 194 rfl) n _).trans (qte ..)
theorem qs6 {X:Ext} (hX:XOk X) (n:Nat) (a0:qn) (a1:Clo):qfi (DD X (n+1)) a0 a1=qfb (DD X n) n a0 a1:=(qk X Tryz.func195 (by kernel_rfl) (hX 195 rfl) n _).trans (qti ..)
theorem qbnv {X:Ext} (hX:XOk X) (n:Nat) (a0:ByteArray×Int×Bool×Unit) (a1:ByteArray):q86 (DD X (n+1)) a0 a1=q1i (DD X n) n a0 a1:=(qk X Tryz.func196 (by kernel_rfl) (hX 196 rfl) n _).trans (qbn9 ..)
theorem q5u {X:Ext} (hX:XOk X) (n:Nat) (a0:List Int) (a1:Int):qkh (DD X (n+1)) a0 a1=qkc (DD X n) n a0 a1:=(qk X Tryz.func197 (by kernel_rfl) (hX 197 rfl) n _).trans (q5x ..)
theorem q4b {X:Ext} (hX:XOk X) (n:Nat) (a0:List Int) (a1:Clo):qj6 (DD X (n+1)) a0 a1=qj8 (DD X n) n a0 a1:=(qk X Tryz.func198 (by kernel_rfl) (hX 198 rfl) n _).trans (q4n ..)
theorem qbqp {X:Ext} (hX:XOk X) (n:Nat) (a0:ByteArray×Int×Bool×Unit) (a1:Int):qx7 (DD X (n+1)) a0 a1=q6y (DD X n) n a0 a1:=(qk X Tryz.func201 (by kernel_rfl) (hX 201 rfl) n _).trans (qbql ..)
theorem qbm0 {X:Ext} (hX:XOk X) (n:Nat) (a0:ByteArray×List Int×Bool×Unit) (a1:Int):qtr (DD X (n+1)) a0 a1=q0z (DD X n) n a0 a1:=(qk X Tryz.func202 (by kernel_rfl) (hX 202 rfl) n _).trans (qbmx ..)
theorem qbqs {X:Ext} (hX:XOk X) (n:Nat) (a0:ByteArray×Int×Bool×Unit):qyx (DD X (n+1)) a0=qbez (DD X n) n a0:=(qk X Tryz.func203 (by kernel_rfl) (hX 203 rfl) n _).trans (qbri ..)
theorem qbnq {X:Ext} (hX:XOk X) (n:Nat) (a0:ByteArray×List Int×Bool×Unit):qtz (DD X (n+1)) a0=q1t (DD X n) n a0:=(qk X Tryz.func204 (by kernel_rfl) (hX 204 rfl) n _).trans (qbnk ..)
theorem qbrk {X:Ext} (hX:XOk X) (n:Nat) (a0:ByteArray×Int×Bool×Unit) (a1:ByteArray×Int×Bool×Unit):qzm (DD X (n+1)) a0 a1=q6o (DD X n) n a0 a1:=(qk X Tryz.func205 (by kernel_rfl) (hX 205 rfl) n _).trans (qbp8 ..)
theorem qbm9 {X:Ext} (hX:XOk X) (n:Nat) (a0:ByteArray×List Int×Bool×Unit) (a1:ByteArray×List Int×Bool×Unit):qt8 (DD X (n+1)) a0 a1=q1y (DD X n) n a0 a1:=(qk X Tryz.func206 (by kernel_rfl) (hX 206 rfl) n _).trans (qbnj ..)
theorem qn5 {X:Ext} (hX:XOk X) (n:Nat) (a0:qd) (a1:Clo):qdk (DD X (n+1)) a0 a1=qdj (DD X n) n a0 a1:=(qk X Tryz.func207 (by kernel_rfl) (hX 207 rfl) n _).trans (qn2 ..)
theorem qbh8 {X:Ext} (hX:XOk X) (n:Nat) (a0:Int×Int×ByteArray×Unit):q6c (DD X (n+1)) a0=qwn (DD X n) n a0:=(qk X Tryz.func208 (by kernel_rfl) (hX 208 rfl) n _).trans (qbi9 ..)
theorem q8m {X:Ext} (hX:XOk X) (n:Nat) (a0:List Int) (a1:Int):qny (DD X (n+1)) a0 a1=qn1 (DD X n) n a0 a1:=(qk X Tryz.func210 (by kernel_rfl) (hX 210 rfl) n _).trans (q8p ..)
theorem qo8 {X:Ext} (hX:XOk X) (n:Nat) (a0:qd) (a1:Clo):qdy (DD X (n+1)) a0 a1=qdw (DD X n) n a0 a1:=(qk X Tryz.func213 (by kernel_rfl) (hX 213 rfl) n _).trans (qo7 ..)
end Go.G


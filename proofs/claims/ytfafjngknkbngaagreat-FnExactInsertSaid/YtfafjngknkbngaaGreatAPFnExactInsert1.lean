import Derived.Test.YtfafjngknkbngaaGreatAPFnExactInsert0
set_option linter.unusedVariables false
set_option linter.unusedSimpArgs false
set_option linter.unusedSectionVars false
namespace Go.G
set_option maxRecDepth 100000
set_option maxHeartbeats 0
open Go Go.V
noncomputable section
def qzh (D:DX)(n:Nat) (go:qd→qd→Int→Option ((Bool×Unit)×Unit)) (K0:qd→qd→Bool→Option ((Bool×Unit)×Unit)) (K1:qd→qd→Option ((Bool×Unit)×Unit)) (x0:qd) (x1:qd) (x2:Int):Option ((Bool×Unit)×Unit):=br (bif decide (x2<(↑(List.length x0):Int)) then decide (x2<(↑(List.length x1):Int)) else false) (br (decide (0≤x2)&&decide (x2<(↑(List.length x0):Int))) (br (decide (0≤x2)&&decide (x2<(↑(List.length x1):Int))) (qi (qpi D (List.getD x0 (Int.toNat x2) (0,0,ByteArray.empty,())) (List.getD x1 (Int.toNat x2) (0,0,ByteArray.empty,()))) fun b↦br (!Prod.fst (Prod.fst b)) (K0 x0 x1 false) (go x0 x1 (IntKind.wrap IntKind.i64 (x2+1)))) none) none) (K1 x0 x1)
def qjj (D:DX)(n:Nat) (K0:qd→qd→Bool→Option ((Bool×Unit)×Unit)) (K1:qd→qd→Option ((Bool×Unit)×Unit)):Nat→(qd)→(qd)→(Int)→Option ((Bool×Unit)×Unit) | 0=>(fun x0 x1 x2=>none) | m+1=>(fun x0 x1 x2=>qzh D n (qjj D n K0 K1 m) K0 K1 x0 x1 x2)
def qut (D:DX)(n:Nat) (v0_0:qd) (v0_1:qd) (v0_2:Bool):Option ((Bool×Unit)×Unit):=some ((v0_2,()),())
def qjx (D:DX)(n:Nat) (v1_0:qd) (v1_1:qd):Option ((Bool×Unit)×Unit):=some ((decide ((↑(List.length v1_0):Int)=(↑(List.length v1_1):Int)),()),())
def qw4 (D:DX)(n:Nat):(qd)→(qd)→(Int)→Option ((Bool×Unit)×Unit):=(fun x0 x1 x2=>qjj D n (fun v0_0 v0_1 v0_2=>qut D n v0_0 v0_1 v0_2) (fun v1_0 v1_1=>qjx D n v1_0 v1_1) n x0 x1 x2)
def q0y (D:DX)(n:Nat) (lp0:qd→qd→Int→Option ((Bool×Unit)×Unit)) (a0:qd) (a1:qd):Option ((Bool×Unit)×Unit):=lp0 a0 a1 0
def q0z (D:DX)(n:Nat) (a0:qd) (a1:qd):Option ((Bool×Unit)×Unit):=q0y D n (qw4 D n) a0 a1
def qi9 (x0:qd) (x1:qd) (x2:Int):St:=stq 33 [(0,AV.val (Ty.sl yV) x0),(1,AV.val (Ty.sl yV) x1),(5,avI x2)] [] 
def qn7 (v0_0:qd) (v0_1:qd) (v0_2:Bool):St:=stq 33 [(0,AV.val (Ty.sl yV) v0_0),(1,AV.val (Ty.sl yV) v0_1),(4,AV.val Ty.bool v0_2)] [] 
def qod (v1_0:qd) (v1_1:qd):St:=stq 33 [(0,AV.val (Ty.sl yV) v1_0),(1,AV.val (Ty.sl yV) v1_1)] [] 
theorem qbiz (D:DX)(n:Nat) (m:Nat) (K:Ex→St→Option (Out ctx 159)) (x0:qd) (x1:qd) (x2:Int) :
 LQ qc D n 159 [.r,.l,.r,.l] (m+1) (qi9 x0 x1 x2) K=qzh D n (fun x0 x1 x2=>LQ qc D n 159 [.r,.l,.r,.l] m (qi9 x0 x1 x2) K) (fun v0_0 v0_1 v0_2=>K (Ex.ret) (qn7 v0_0 v0_1 v0_2)) (fun v1_0 v1_1=>K (Ex.exit 0) (qod v1_0 v1_1)) x0 x1 x2:=by kernel_rfl
theorem q50 (D:DX)(n:Nat) (K:Ex→St→Option (Out ctx 159)):∀ (m:Nat) (x0:qd) (x1:qd) (x2:Int),LQ qc D n 159 [.r,.l,.r,.l] m (qi9 x0 x1 x2) K=qjj D n (fun v0_0 v0_1 v0_2=>K (Ex.ret) (qn7 v0_0 v0_1 v0_2)) (fun v1_0 v1_1=>K (Ex.exit 0) (qod v1_0 v1_1)) m x0 x1 x2
 | 0,x0,x1,x2=>qy ..
 | m+1,x0,x1,x2=>by
  have ih:(fun x0 x1 x2=>LQ qc D n 159 [.r,.l,.r,.l] m (qi9 x0 x1 x2) K)=qjj D n (fun v0_0 v0_1 v0_2=>K (Ex.ret) (qn7 v0_0 v0_1 v0_2)) (fun v1_0 v1_1=>K (Ex.exit 0) (qod v1_0 v1_1)) m:=by funext x0 x1 x2;exact q50 D n K m x0 x1 x2
  rw[qbiz]
  rw[ih];rfl
theorem qbfb (D:DX)(n:Nat) (v0_0:qd) (v0_1:qd) (v0_2:Bool) :
 (CQ qc D n 159 [] [.r,.l,.r,.l] (qh qc 159)) (Ex.ret) (qn7 v0_0 v0_1 v0_2)=qut D n v0_0 v0_1 v0_2:=by kernel_rfl
theorem qbfo (D:DX)(n:Nat) (v1_0:qd) (v1_1:qd) :
 (CQ qc D n 159 [] [.r,.l,.r,.l] (qh qc 159)) (Ex.exit 0) (qod v1_0 v1_1)=qjx D n v1_0 v1_1:=by kernel_rfl
theorem qbfq (D:DX)(n:Nat) (x0:qd) (x1:qd) (x2:Int) :
 LQ qc D n 159 [.r,.l,.r,.l] n (qi9 x0 x1 x2) (CQ qc D n 159 [] [.r,.l,.r,.l] (qh qc 159))=qw4 D n x0 x1 x2:=by
 rw[q50]
 simp only[qbfb,qbfo]
 rfl
theorem qbnp (D:DX)(n:Nat) (a0:qd) (a1:qd):rfC qc D n 159 (a0,(a1,()))=q0z D n a0 a1:=by
 have h:rfC qc D n 159 (a0,(a1,()))=q0y D n (fun x0 x1 x2=>LQ qc D n 159 [.r,.l,.r,.l] n (qi9 x0 x1 x2) (CQ qc D n 159 [] [.r,.l,.r,.l] (qh qc 159))) a0 a1:=by kernel_rfl
 rw[h]
 simp only[qbfq]
 rfl

def q6o (D:DX)(n:Nat) (a0:Int×Int×ByteArray×Unit) (a1:Int×Int×ByteArray×Unit):Option ((Bool×Unit)×Unit):=some ((qrt (Ty.pair (Ty.int IntKind.i64) (Ty.pair (Ty.int IntKind.i64) (Ty.pair Ty.str Ty.unit))) a0 a1,()),())
def qw8 (D:DX)(n:Nat) (a0:Int×Int×ByteArray×Unit) (a1:Int×Int×ByteArray×Unit):Option ((Bool×Unit)×Unit):=q6o D n a0 a1
theorem qbhp (D:DX)(n:Nat) (a0:Int×Int×ByteArray×Unit) (a1:Int×Int×ByteArray×Unit):rfC qc D n 160 (a0,(a1,()))=qw8 D n a0 a1:=by kernel_rfl

def q52 (D:DX)(n:Nat) (a0:Int×Int×ByteArray×Unit) (a1:Int×Int×ByteArray×Unit):Option ((Bool×Unit)×Unit):=br (Prod.fst a0 != Prod.fst a1) (some ((decide (Prod.fst a0<Prod.fst a1),()),())) (br (Prod.fst (Prod.snd a0) != Prod.fst (Prod.snd a1)) (some ((decide (Prod.fst (Prod.snd a0)<Prod.fst (Prod.snd a1)),()),())) (some ((Op.bytesLess (ByteArray.toList (Prod.fst (Prod.snd (Prod.snd a0)))) (ByteArray.toList (Prod.fst (Prod.snd (Prod.snd a1)))),()),())))
def qwz (D:DX)(n:Nat) (a0:Int×Int×ByteArray×Unit) (a1:Int×Int×ByteArray×Unit):Option ((Bool×Unit)×Unit):=q52 D n a0 a1
theorem qbih (D:DX)(n:Nat) (a0:Int×Int×ByteArray×Unit) (a1:Int×Int×ByteArray×Unit):rfC qc D n 161 (a0,(a1,()))=qwz D n a0 a1:=by kernel_rfl

def qk0 (D:DX)(n:Nat) (a0:qk):Option ((qk×Unit)×Unit):=br (decide (Int.toNat (↑(List.length a0):Int)=0)) (both (some (([],()),())) (br (decide (0+List.length a0≤qbl)) (some (([]++a0,()),())) none)) (br (decide (0+List.length a0≤qbl)) (some (([]++a0,()),())) none)
def qfw (D:DX)(n:Nat) (a0:qk):Option ((qk×Unit)×Unit):=qk0 D n a0
theorem qwp (D:DX)(n:Nat) (a0:qk):rfC qc D n 164 (a0,())=qfw D n a0:=by kernel_rfl

def qxm (D:DX)(n:Nat) (go:qd→Int→Option ((Bool×Unit)×Unit)) (K0:Bool→Option ((Bool×Unit)×Unit)) (K1:Option ((Bool×Unit)×Unit)) (x0:qd) (x1:Int):Option ((Bool×Unit)×Unit):=br (decide (x1<(↑(List.length x0):Int))) (br (decide (0≤x1)&&decide (x1<(↑(List.length x0):Int))) (br (decide (Prod.fst (List.getD x0 (Int.toNat x1) (0,0,ByteArray.empty,()))=0)) (K0 true) (go x0 (IntKind.wrap IntKind.i64 (x1+1)))) none) K1
def qjm (D:DX)(n:Nat) (K0:Bool→Option ((Bool×Unit)×Unit)) (K1:Option ((Bool×Unit)×Unit)):Nat→(qd)→(Int)→Option ((Bool×Unit)×Unit) | 0=>(fun x0 x1=>none) | m+1=>(fun x0 x1=>qxm D n (qjm D n K0 K1 m) K0 K1 x0 x1)
def q4m (D:DX)(n:Nat) (v0_0:Bool):Option ((Bool×Unit)×Unit):=some ((v0_0,()),())
def q4u (D:DX)(n:Nat):Option ((Bool×Unit)×Unit):=some ((false,()),())
def qv8 (D:DX)(n:Nat):(qd)→(Int)→Option ((Bool×Unit)×Unit):=(fun x0 x1=>qjm D n (fun v0_0=>q4m D n v0_0) (q4u D n) n x0 x1)
def q0h (D:DX)(n:Nat) (lp0:qd→Int→Option ((Bool×Unit)×Unit)) (a0:qd):Option ((Bool×Unit)×Unit):=lp0 a0 0
def q1w (D:DX)(n:Nat) (a0:qd):Option ((Bool×Unit)×Unit):=q0h D n (qv8 D n) a0
def qjp (x0:qd) (x1:Int):St:=stq 16 [(0,AV.val (Ty.sl yV) x0),(3,avI x1)] [] 
def qn5 (v0_0:Bool):St:=stq 16 [(2,AV.val Ty.bool v0_0)] [] 
def qn3:St:=stq 16 [] [] 
theorem qbii (D:DX)(n:Nat) (m:Nat) (K:Ex→St→Option (Out ctx 165)) (x0:qd) (x1:Int) :
 LQ qc D n 165 [.r,.l,.r,.l] (m+1) (qjp x0 x1) K=qxm D n (fun x0 x1=>LQ qc D n 165 [.r,.l,.r,.l] m (qjp x0 x1) K) (fun v0_0=>K (Ex.ret) (qn5 v0_0)) (K (Ex.exit 0) (qn3)) x0 x1:=by kernel_rfl
theorem q5j (D:DX)(n:Nat) (K:Ex→St→Option (Out ctx 165)):∀ (m:Nat) (x0:qd) (x1:Int),LQ qc D n 165 [.r,.l,.r,.l] m (qjp x0 x1) K=qjm D n (fun v0_0=>K (Ex.ret) (qn5 v0_0)) (K (Ex.exit 0) (qn3)) m x0 x1
 | 0,x0,x1=>qy ..
 | m+1,x0,x1=>by
  have ih:(fun x0 x1=>LQ qc D n 165 [.r,.l,.r,.l] m (qjp x0 x1) K)=qjm D n (fun v0_0=>K (Ex.ret) (qn5 v0_0)) (K (Ex.exit 0) (qn3)) m:=by funext x0 x1;exact q5j D n K m x0 x1
  rw[qbii]
  rw[ih];rfl
theorem qbfr (D:DX)(n:Nat) (v0_0:Bool) :
 (CQ qc D n 165 [] [.r,.l,.r,.l] (qh qc 165)) (Ex.ret) (qn5 v0_0)=q4m D n v0_0:=by kernel_rfl
theorem qbfl (D:DX)(n:Nat) :
 (CQ qc D n 165 [] [.r,.l,.r,.l] (qh qc 165)) (Ex.exit 0) (qn3)=q4u D n:=by kernel_rfl
theorem qbfw (D:DX)(n:Nat) (x0:qd) (x1:Int) :
 LQ qc D n 165 [.r,.l,.r,.l] n (qjp x0 x1) (CQ qc D n 165 [] [.r,.l,.r,.l] (qh qc 165))=qv8 D n x0 x1:=by
 rw[q5j]
 simp only[qbfr,qbfl]
 rfl
theorem qbm8 (D:DX)(n:Nat) (a0:qd):rfC qc D n 165 (a0,())=q1w D n a0:=by
 have h:rfC qc D n 165 (a0,())=q0h D n (fun x0 x1=>LQ qc D n 165 [.r,.l,.r,.l] n (qjp x0 x1) (CQ qc D n 165 [] [.r,.l,.r,.l] (qh qc 165))) a0:=by kernel_rfl
 rw[h]
 simp only[qbfw]
 rfl

def qtz (D:DX)(n:Nat) (go:ByteArray→Int→Option ((Bool×Unit)×Unit)) (K0:ByteArray→Bool→Option ((Bool×Unit)×Unit)) (K1:ByteArray→Option ((Bool×Unit)×Unit)) (x0:ByteArray) (x1:Int):Option ((Bool×Unit)×Unit):=br (decide (x1<(↑(ByteArray.size x0):Int))) (br (decide (0≤x1)&&decide (x1<(↑(ByteArray.size x0):Int))) (br (decide ((↑(UInt8.toNat (Array.getD (ByteArray.data x0) (Int.toNat x1) (UInt8.ofNat 0))):Int)<97)) (K0 x0 false) (br (decide (0≤x1)&&decide (x1<(↑(ByteArray.size x0):Int))) (br (decide ((↑(UInt8.toNat (Array.getD (ByteArray.data x0) (Int.toNat x1) (UInt8.ofNat 0))):Int)>122)) (K0 x0 false) (go x0 (IntKind.wrap IntKind.i64 (x1+1)))) none)) none) (K1 x0)
def qhg (D:DX)(n:Nat) (K0:ByteArray→Bool→Option ((Bool×Unit)×Unit)) (K1:ByteArray→Option ((Bool×Unit)×Unit)):Nat→(ByteArray)→(Int)→Option ((Bool×Unit)×Unit) | 0=>(fun x0 x1=>none) | m+1=>(fun x0 x1=>qtz D n (qhg D n K0 K1 m) K0 K1 x0 x1)
def q0d (D:DX)(n:Nat) (v0_0:ByteArray) (v0_1:Bool):Option ((Bool×Unit)×Unit):=some ((v0_1,()),())
def qqn (D:DX)(n:Nat) (v1_0:ByteArray):Option ((Bool×Unit)×Unit):=qi (qgp D (↑(ByteArray.size v1_0):Int) 1 12) fun b↦some ((Prod.fst (Prod.fst b),()),())
def qsa (D:DX)(n:Nat):(ByteArray)→(Int)→Option ((Bool×Unit)×Unit):=(fun x0 x1=>qhg D n (fun v0_0 v0_1=>q0d D n v0_0 v0_1) (fun v1_0=>qqn D n v1_0) n x0 x1)
def qwa (D:DX)(n:Nat) (lp0:ByteArray→Int→Option ((Bool×Unit)×Unit)) (a0:ByteArray):Option ((Bool×Unit)×Unit):=lp0 a0 0
def qwu (D:DX)(n:Nat) (a0:ByteArray):Option ((Bool×Unit)×Unit):=qwa D n (qsa D n) a0
def qg6 (x0:ByteArray) (x1:Int):St:=stq 23 [(0,AV.val Ty.str x0),(3,avI x1)] [] 
def qk5 (v0_0:ByteArray) (v0_1:Bool):St:=stq 23 [(0,AV.val Ty.str v0_0),(2,AV.val Ty.bool v0_1)] [] 
def qlg (v1_0:ByteArray):St:=stq 23 [(0,AV.val Ty.str v1_0)] [] 
theorem qbdg (D:DX)(n:Nat) (m:Nat) (K:Ex→St→Option (Out ctx 166)) (x0:ByteArray) (x1:Int) :
 LQ qc D n 166 [.r,.l,.r,.l] (m+1) (qg6 x0 x1) K=qtz D n (fun x0 x1=>LQ qc D n 166 [.r,.l,.r,.l] m (qg6 x0 x1) K) (fun v0_0 v0_1=>K (Ex.ret) (qk5 v0_0 v0_1)) (fun v1_0=>K (Ex.exit 0) (qlg v1_0)) x0 x1:=by kernel_rfl
theorem q2v (D:DX)(n:Nat) (K:Ex→St→Option (Out ctx 166)):∀ (m:Nat) (x0:ByteArray) (x1:Int),LQ qc D n 166 [.r,.l,.r,.l] m (qg6 x0 x1) K=qhg D n (fun v0_0 v0_1=>K (Ex.ret) (qk5 v0_0 v0_1)) (fun v1_0=>K (Ex.exit 0) (qlg v1_0)) m x0 x1
 | 0,x0,x1=>qy ..
 | m+1,x0,x1=>by
  have ih:(fun x0 x1=>LQ qc D n 166 [.r,.l,.r,.l] m (qg6 x0 x1) K)=qhg D n (fun v0_0 v0_1=>K (Ex.ret) (qk5 v0_0 v0_1)) (fun v1_0=>K (Ex.exit 0) (qlg v1_0)) m:=by funext x0 x1;exact q2v D n K m x0 x1
  rw[qbdg]
  rw[ih];rfl
theorem qbbr (D:DX)(n:Nat) (v0_0:ByteArray) (v0_1:Bool) :
 (CQ qc D n 166 [] [.r,.l,.r,.l] (qh qc 166)) (Ex.ret) (qk5 v0_0 v0_1)=q0d D n v0_0 v0_1:=by kernel_rfl
theorem qba1 (D:DX)(n:Nat) (v1_0:ByteArray) :
 (CQ qc D n 166 [] [.r,.l,.r,.l] (qh qc 166)) (Ex.exit 0) (qlg v1_0)=qqn D n v1_0:=by kernel_rfl
theorem qbbq (D:DX)(n:Nat) (x0:ByteArray) (x1:Int) :
 LQ qc D n 166 [.r,.l,.r,.l] n (qg6 x0 x1) (CQ qc D n 166 [] [.r,.l,.r,.l] (qh qc 166))=qsa D n x0 x1:=by
 rw[q2v]
 simp only[qbbr,qba1]
 rfl
theorem qbh3 (D:DX)(n:Nat) (a0:ByteArray):rfC qc D n 166 (a0,())=qwu D n a0:=by
 have h:rfC qc D n 166 (a0,())=qwa D n (fun x0 x1=>LQ qc D n 166 [.r,.l,.r,.l] n (qg6 x0 x1) (CQ qc D n 166 [] [.r,.l,.r,.l] (qh qc 166))) a0:=by kernel_rfl
 rw[h]
 simp only[qbbq]
 rfl

def q24 (D:DX)(n:Nat) (go:ByteArray→Int→tSch→Option ((Int×Unit)×Unit)) (K0:Int→Option ((Int×Unit)×Unit)) (K1:Option ((Int×Unit)×Unit)) (x0:ByteArray) (x1:Int) (x2:tSch):Option ((Int×Unit)×Unit):=br (decide (x1<(↑(List.length (Prod.fst x2)):Int))) (br (decide (0≤x1)&&decide (x1<(↑(List.length (Prod.fst x2)):Int))) (br (List.beq (ByteArray.toList (Prod.fst (List.getD (Prod.fst x2) (Int.toNat x1) (ByteArray.empty,0,false,())))) (ByteArray.toList x0)) (K0 x1) (go x0 (IntKind.wrap IntKind.i64 (x1+1)) x2)) none) K1
def qlx (D:DX)(n:Nat) (K0:Int→Option ((Int×Unit)×Unit)) (K1:Option ((Int×Unit)×Unit)):Nat→(ByteArray)→(Int)→(tSch)→Option ((Int×Unit)×Unit) | 0=>(fun x0 x1 x2=>none) | m+1=>(fun x0 x1 x2=>q24 D n (qlx D n K0 K1 m) K0 K1 x0 x1 x2)
def q7u (D:DX)(n:Nat) (v0_0:Int):Option ((Int×Unit)×Unit):=some ((v0_0,()),())
def q7l (D:DX)(n:Nat):Option ((Int×Unit)×Unit):=some ((-1,()),())
def q1i (D:DX)(n:Nat):(ByteArray)→(Int)→(tSch)→Option ((Int×Unit)×Unit):=(fun x0 x1 x2=>qlx D n (fun v0_0=>q7u D n v0_0) (q7l D n) n x0 x1 x2)
def q6f (D:DX)(n:Nat) (lp0:ByteArray→Int→tSch→Option ((Int×Unit)×Unit)) (a0:tSch) (a1:ByteArray):Option ((Int×Unit)×Unit):=lp0 a1 0 a0
def q6n (D:DX)(n:Nat) (a0:tSch) (a1:ByteArray):Option ((Int×Unit)×Unit):=q6f D n (q1i D n) a0 a1
def qlt (x0:ByteArray) (x1:Int) (x2:tSch):St:=stq 22 [(1,AV.val Ty.str x0),(2,AV.addr 2 []),(5,avI x1)] [(2,Root.mk yS Mk.no x2 true)] 
def qrd (v0_0:Int):St:=stq 22 [(4,avI v0_0)] [] 
def qrm:St:=stq 22 [] [] 
theorem qbmf (D:DX)(n:Nat) (m:Nat) (K:Ex→St→Option (Out ctx 167)) (x0:ByteArray) (x1:Int) (x2:tSch) :
 LQ qc D n 167 [.r,.l,.r,.l] (m+1) (qlt x0 x1 x2) K=q24 D n (fun x0 x1 x2=>LQ qc D n 167 [.r,.l,.r,.l] m (qlt x0 x1 x2) K) (fun v0_0=>K (Ex.ret) (qrd v0_0)) (K (Ex.exit 0) (qrm)) x0 x1 x2:=by kernel_rfl
theorem q87 (D:DX)(n:Nat) (K:Ex→St→Option (Out ctx 167)):∀ (m:Nat) (x0:ByteArray) (x1:Int) (x2:tSch),LQ qc D n 167 [.r,.l,.r,.l] m (qlt x0 x1 x2) K=qlx D n (fun v0_0=>K (Ex.ret) (qrd v0_0)) (K (Ex.exit 0) (qrm)) m x0 x1 x2
 | 0,x0,x1,x2=>qy ..
 | m+1,x0,x1,x2=>by
  have ih:(fun x0 x1 x2=>LQ qc D n 167 [.r,.l,.r,.l] m (qlt x0 x1 x2) K)=qlx D n (fun v0_0=>K (Ex.ret) (qrd v0_0)) (K (Ex.exit 0) (qrm)) m:=by funext x0 x1 x2;exact q87 D n K m x0 x1 x2
  rw[qbmf]
  rw[ih];rfl
theorem qbl9 (D:DX)(n:Nat) (v0_0:Int) :
 (CQ qc D n 167 [] [.r,.l,.r,.l] (qh qc 167)) (Ex.ret) (qrd v0_0)=q7u D n v0_0:=by kernel_rfl
theorem qbji (D:DX)(n:Nat) :
 (CQ qc D n 167 [] [.r,.l,.r,.l] (qh qc 167)) (Ex.exit 0) (qrm)=q7l D n:=by kernel_rfl
theorem qbjd (D:DX)(n:Nat) (x0:ByteArray) (x1:Int) (x2:tSch) :
 LQ qc D n 167 [.r,.l,.r,.l] n (qlt x0 x1 x2) (CQ qc D n 167 [] [.r,.l,.r,.l] (qh qc 167))=q1i D n x0 x1 x2:=by
 rw[q87]
 simp only[qbl9,qbji]
 rfl
theorem qbq9 (D:DX)(n:Nat) (a0:tSch) (a1:ByteArray):rfC qc D n 167 (a0,(a1,()))=q6n D n a0 a1:=by
 have h:rfC qc D n 167 (a0,(a1,()))=q6f D n (fun x0 x1 x2=>LQ qc D n 167 [.r,.l,.r,.l] n (qlt x0 x1 x2) (CQ qc D n 167 [] [.r,.l,.r,.l] (qh qc 167))) a0 a1:=by kernel_rfl
 rw[h]
 simp only[qbjd]
 rfl

def qt1 (D:DX)(n:Nat) (go:List Int→Int→Int→Int→tSch→Option ((Bool×Unit)×Unit)) (K0:List Int→Int→Bool→Int→tSch→Option ((Bool×Unit)×Unit)) (K1:List Int→Int→Int→tSch→Option ((Bool×Unit)×Unit)) (x1_0:List Int) (x1_1:Int) (x1_2:Int) (x1_3:Int) (x1_4:tSch):Option ((Bool×Unit)×Unit):=br (decide (x1_3<x1_2)) (br (decide (0≤x1_3)&&decide (x1_3<(↑(List.length x1_0):Int))) (br (decide (0≤x1_2)&&decide (x1_2<(↑(List.length x1_0):Int))) (br (decide (List.getD x1_0 (Int.toNat x1_3) 0=List.getD x1_0 (Int.toNat x1_2) 0)) (K0 x1_0 x1_1 false x1_2 x1_4) (go x1_0 x1_1 x1_2 (IntKind.wrap IntKind.i64 (x1_3+1)) x1_4)) none) none) (K1 x1_0 x1_1 x1_2 x1_4)
def qgz (D:DX)(n:Nat) (K0:List Int→Int→Bool→Int→tSch→Option ((Bool×Unit)×Unit)) (K1:List Int→Int→Int→tSch→Option ((Bool×Unit)×Unit)):Nat→(List Int)→(Int)→(Int)→(Int)→(tSch)→Option ((Bool×Unit)×Unit) | 0=>(fun x1_0 x1_1 x1_2 x1_3 x1_4=>none) | m+1=>(fun x1_0 x1_1 x1_2 x1_3 x1_4=>qt1 D n (qgz D n K0 K1 m) K0 K1 x1_0 x1_1 x1_2 x1_3 x1_4)
def qz2 (D:DX)(n:Nat) (go:List Int→Int→Int→tSch→Option ((Bool×Unit)×Unit)) (K0:List Int→Int→Bool→Option ((Bool×Unit)×Unit)) (K1:List Int→Int→Option ((Bool×Unit)×Unit)) (v0_0:List Int) (v0_1:Int) (v0_2:Bool) (v0_3:Int) (v0_4:tSch):Option ((Bool×Unit)×Unit):=K0 v0_0 v0_1 v0_2
def qqp (D:DX)(n:Nat) (go:List Int→Int→Int→tSch→Option ((Bool×Unit)×Unit)) (K0:List Int→Int→Bool→Option ((Bool×Unit)×Unit)) (K1:List Int→Int→Option ((Bool×Unit)×Unit)) (v1_0:List Int) (v1_1:Int) (v1_2:Int) (v1_3:tSch):Option ((Bool×Unit)×Unit):=go v1_0 v1_1 (IntKind.wrap IntKind.i64 (v1_2+1)) v1_3
def qs4 (D:DX)(n:Nat) (go:List Int→Int→Int→tSch→Option ((Bool×Unit)×Unit)) (K0:List Int→Int→Bool→Option ((Bool×Unit)×Unit)) (K1:List Int→Int→Option ((Bool×Unit)×Unit)):(List Int)→(Int)→(Int)→(Int)→(tSch)→Option ((Bool×Unit)×Unit):=(fun x1_0 x1_1 x1_2 x1_3 x1_4=>qgz D n (fun v0_0 v0_1 v0_2 v0_3 v0_4=>qz2 D n go K0 K1 v0_0 v0_1 v0_2 v0_3 v0_4) (fun v1_0 v1_1 v1_2 v1_3=>qqp D n go K0 K1 v1_0 v1_1 v1_2 v1_3) n x1_0 x1_1 x1_2 x1_3 x1_4)
def qva (D:DX)(n:Nat) (go:List Int→Int→Int→tSch→Option ((Bool×Unit)×Unit)) (K0:List Int→Int→Bool→Option ((Bool×Unit)×Unit)) (K1:List Int→Int→Option ((Bool×Unit)×Unit)) (lp1:List Int→Int→Int→Int→tSch→Option ((Bool×Unit)×Unit)) (x0:List Int) (x1:Int) (x2:Int) (x3:tSch):Option ((Bool×Unit)×Unit):=br (decide (x2<(↑(List.length x0):Int))) (br (decide (0≤x2)&&decide (x2<(↑(List.length x0):Int))) (qi (qgp D (List.getD x0 (Int.toNat x2) 0) 0 (IntKind.wrap IntKind.i64 ((↑(List.length (Prod.fst x3)):Int) - 1))) fun b↦br (!Prod.fst (Prod.fst b)) (K0 x0 x1 false) (lp1 x0 x1 x2 0 x3)) none) (K1 x0 x1)
def qd6 (D:DX)(n:Nat) (K0:List Int→Int→Bool→Option ((Bool×Unit)×Unit)) (K1:List Int→Int→Option ((Bool×Unit)×Unit)):Nat→(List Int)→(Int)→(Int)→(tSch)→Option ((Bool×Unit)×Unit) | 0=>(fun x0 x1 x2 x3=>none) | m+1=>(fun x0 x1 x2 x3=>qva D n (qd6 D n K0 K1 m) K0 K1 (qs4 D n (qd6 D n K0 K1 m) K0 K1) x0 x1 x2 x3)
def qqw (D:DX)(n:Nat) (v0_0:List Int) (v0_1:Int) (v0_2:Bool):Option ((Bool×Unit)×Unit):=some ((v0_2,()),())
def qla (D:DX)(n:Nat) (v1_0:List Int) (v1_1:Int):Option ((Bool×Unit)×Unit):=qi (qgp D (↑(List.length v1_0):Int) 1 v1_1) fun b↦some ((Prod.fst (Prod.fst b),()),())
def qs9 (D:DX)(n:Nat):(List Int)→(Int)→(Int)→(tSch)→Option ((Bool×Unit)×Unit):=(fun x0 x1 x2 x3=>qd6 D n (fun v0_0 v0_1 v0_2=>qqw D n v0_0 v0_1 v0_2) (fun v1_0 v1_1=>qla D n v1_0 v1_1) n x0 x1 x2 x3)
def qwi (D:DX)(n:Nat) (lp0:List Int→Int→Int→tSch→Option ((Bool×Unit)×Unit)) (a0:tSch) (a1:List Int) (a2:Int):Option ((Bool×Unit)×Unit):=lp0 a1 a2 0 a0
def qv0 (D:DX)(n:Nat) (a0:tSch) (a1:List Int) (a2:Int):Option ((Bool×Unit)×Unit):=qwi D n (qs9 D n) a0 a1 a2
def qdj (x0:List Int) (x1:Int) (x2:Int) (x3:tSch):St:=stq 43 [(1,AV.val (Ty.sl yI) x0),(2,avI x1),(3,AV.addr 3 []),(7,avI x2)] [(3,Root.mk yS Mk.no x3 true)] 
def qec (v0_0:List Int) (v0_1:Int) (v0_2:Bool):St:=stq 43 [(1,AV.val (Ty.sl yI) v0_0),(2,avI v0_1),(6,AV.val Ty.bool v0_2)] [] 
def qd8 (v1_0:List Int) (v1_1:Int):St:=stq 43 [(1,AV.val (Ty.sl yI) v1_0),(2,avI v1_1)] [] 
def qg7 (x1_0:List Int) (x1_1:Int) (x1_2:Int) (x1_3:Int) (x1_4:tSch):St:=stq 43 [(1,AV.val (Ty.sl yI) x1_0),(2,avI x1_1),(3,AV.addr 3 []),(7,avI x1_2),(8,avI x1_3)] [(3,Root.mk yS Mk.no x1_4 true)] 
def qlc (v0_0:List Int) (v0_1:Int) (v0_2:Bool) (v0_3:Int) (v0_4:tSch):St:=stq 43 [(1,AV.val (Ty.sl yI) v0_0),(2,avI v0_1),(3,AV.addr 3 []),(6,AV.val Ty.bool v0_2),(7,avI v0_3)] [(3,Root.mk yS Mk.no v0_4 true)] 
def qlf (v1_0:List Int) (v1_1:Int) (v1_2:Int) (v1_3:tSch):St:=stq 43 [(1,AV.val (Ty.sl yI) v1_0),(2,avI v1_1),(3,AV.addr 3 []),(7,avI v1_2)] [(3,Root.mk yS Mk.no v1_3 true)] 
theorem qbda (D:DX)(n:Nat) (m:Nat) (K:Ex→St→Option (Out ctx 168)) (x1_0:List Int) (x1_1:Int) (x1_2:Int) (x1_3:Int) (x1_4:tSch) :
 LQ qc D n 168 [.r,.l,.r,.l,.l,.r,.l,.l,.r,.r,.l] (m+1) (qg7 x1_0 x1_1 x1_2 x1_3 x1_4) K=qt1 D n (fun x1_0 x1_1 x1_2 x1_3 x1_4=>LQ qc D n 168 [.r,.l,.r,.l,.l,.r,.l,.l,.r,.r,.l] m (qg7 x1_0 x1_1 x1_2 x1_3 x1_4) K) (fun v0_0 v0_1 v0_2 v0_3 v0_4=>K (Ex.ret) (qlc v0_0 v0_1 v0_2 v0_3 v0_4)) (fun v1_0 v1_1 v1_2 v1_3=>K (Ex.exit 2) (qlf v1_0 v1_1 v1_2 v1_3)) x1_0 x1_1 x1_2 x1_3 x1_4:=by kernel_rfl
theorem q2x (D:DX)(n:Nat) (K:Ex→St→Option (Out ctx 168)):∀ (m:Nat) (x1_0:List Int) (x1_1:Int) (x1_2:Int) (x1_3:Int) (x1_4:tSch),LQ qc D n 168 [.r,.l,.r,.l,.l,.r,.l,.l,.r,.r,.l] m (qg7 x1_0 x1_1 x1_2 x1_3 x1_4) K=qgz D n (fun v0_0 v0_1 v0_2 v0_3 v0_4=>K (Ex.ret) (qlc v0_0 v0_1 v0_2 v0_3 v0_4)) (fun v1_0 v1_1 v1_2 v1_3=>K (Ex.exit 2) (qlf v1_0 v1_1 v1_2 v1_3)) m x1_0 x1_1 x1_2 x1_3 x1_4
 | 0,x1_0,x1_1,x1_2,x1_3,x1_4=>qy ..
 | m+1,x1_0,x1_1,x1_2,x1_3,x1_4=>by
  have ih:(fun x1_0 x1_1 x1_2 x1_3 x1_4=>LQ qc D n 168 [.r,.l,.r,.l,.l,.r,.l,.l,.r,.r,.l] m (qg7 x1_0 x1_1 x1_2 x1_3 x1_4) K)=qgz D n (fun v0_0 v0_1 v0_2 v0_3 v0_4=>K (Ex.ret) (qlc v0_0 v0_1 v0_2 v0_3 v0_4)) (fun v1_0 v1_1 v1_2 v1_3=>K (Ex.exit 2) (qlf v1_0 v1_1 v1_2 v1_3)) m:=by funext x1_0 x1_1 x1_2 x1_3 x1_4;exact q2x D n K m x1_0 x1_1 x1_2 x1_3 x1_4
  rw[qbda]
  rw[ih];rfl
theorem qbbt (D:DX)(n:Nat) (m:Nat) (K:Ex→St→Option (Out ctx 168)) (v0_0:List Int) (v0_1:Int) (v0_2:Bool) (v0_3:Int) (v0_4:tSch) :
 (CQ qc D n 168 [.r,.l,.r,.l,.l] [.r,.l,.l,.r,.r,.l] (LK qc D n 168 [.r,.l,.r,.l] m K)) (Ex.ret) (qlc v0_0 v0_1 v0_2 v0_3 v0_4)=qz2 D n (fun x0 x1 x2 x3=>LQ qc D n 168 [.r,.l,.r,.l] m (qdj x0 x1 x2 x3) K) (fun v0_0 v0_1 v0_2=>K (Ex.ret) (qec v0_0 v0_1 v0_2)) (fun v1_0 v1_1=>K (Ex.exit 0) (qd8 v1_0 v1_1)) v0_0 v0_1 v0_2 v0_3 v0_4:=by kernel_rfl
theorem qbbk (D:DX)(n:Nat) (m:Nat) (K:Ex→St→Option (Out ctx 168)) (v1_0:List Int) (v1_1:Int) (v1_2:Int) (v1_3:tSch) :
 (CQ qc D n 168 [.r,.l,.r,.l,.l] [.r,.l,.l,.r,.r,.l] (LK qc D n 168 [.r,.l,.r,.l] m K)) (Ex.exit 2) (qlf v1_0 v1_1 v1_2 v1_3)=qqp D n (fun x0 x1 x2 x3=>LQ qc D n 168 [.r,.l,.r,.l] m (qdj x0 x1 x2 x3) K) (fun v0_0 v0_1 v0_2=>K (Ex.ret) (qec v0_0 v0_1 v0_2)) (fun v1_0 v1_1=>K (Ex.exit 0) (qd8 v1_0 v1_1)) v1_0 v1_1 v1_2 v1_3:=by kernel_rfl
theorem qbaw (D:DX)(n:Nat) (m:Nat) (K:Ex→St→Option (Out ctx 168)) (x1_0:List Int) (x1_1:Int) (x1_2:Int) (x1_3:Int) (x1_4:tSch) :
 LQ qc D n 168 [.r,.l,.r,.l,.l,.r,.l,.l,.r,.r,.l] n (qg7 x1_0 x1_1 x1_2 x1_3 x1_4) (CQ qc D n 168 [.r,.l,.r,.l,.l] [.r,.l,.l,.r,.r,.l] (LK qc D n 168 [.r,.l,.r,.l] m K))=qs4 D n (fun x0 x1 x2 x3=>LQ qc D n 168 [.r,.l,.r,.l] m (qdj x0 x1 x2 x3) K) (fun v0_0 v0_1 v0_2=>K (Ex.ret) (qec v0_0 v0_1 v0_2)) (fun v1_0 v1_1=>K (Ex.exit 0) (qd8 v1_0 v1_1)) x1_0 x1_1 x1_2 x1_3 x1_4:=by
 rw[q2x]
 simp only[qbbt,qbbk]
 rfl
theorem qbeh (D:DX)(n:Nat) (m:Nat) (K:Ex→St→Option (Out ctx 168)) (x0:List Int) (x1:Int) (x2:Int) (x3:tSch) :
 LQ qc D n 168 [.r,.l,.r,.l] (m+1) (qdj x0 x1 x2 x3) K=qva D n (fun x0 x1 x2 x3=>LQ qc D n 168 [.r,.l,.r,.l] m (qdj x0 x1 x2 x3) K) (fun v0_0 v0_1 v0_2=>K (Ex.ret) (qec v0_0 v0_1 v0_2)) (fun v1_0 v1_1=>K (Ex.exit 0) (qd8 v1_0 v1_1)) (fun x1_0 x1_1 x1_2 x1_3 x1_4=>LQ qc D n 168 [.r,.l,.r,.l,.l,.r,.l,.l,.r,.r,.l] n (qg7 x1_0 x1_1 x1_2 x1_3 x1_4) (CQ qc D n 168 [.r,.l,.r,.l,.l] [.r,.l,.l,.r,.r,.l] (LK qc D n 168 [.r,.l,.r,.l] m K))) x0 x1 x2 x3:=by kernel_rfl
theorem q2h (D:DX)(n:Nat) (K:Ex→St→Option (Out ctx 168)):∀ (m:Nat) (x0:List Int) (x1:Int) (x2:Int) (x3:tSch),LQ qc D n 168 [.r,.l,.r,.l] m (qdj x0 x1 x2 x3) K=qd6 D n (fun v0_0 v0_1 v0_2=>K (Ex.ret) (qec v0_0 v0_1 v0_2)) (fun v1_0 v1_1=>K (Ex.exit 0) (qd8 v1_0 v1_1)) m x0 x1 x2 x3
 | 0,x0,x1,x2,x3=>qy ..
 | m+1,x0,x1,x2,x3=>by
  have ih:(fun x0 x1 x2 x3=>LQ qc D n 168 [.r,.l,.r,.l] m (qdj x0 x1 x2 x3) K)=qd6 D n (fun v0_0 v0_1 v0_2=>K (Ex.ret) (qec v0_0 v0_1 v0_2)) (fun v1_0 v1_1=>K (Ex.exit 0) (qd8 v1_0 v1_1)) m:=by funext x0 x1 x2 x3;exact q2h D n K m x0 x1 x2 x3
  rw[qbeh]
  simp only[qbaw]
  rw[ih];rfl
theorem qbbu (D:DX)(n:Nat) (v0_0:List Int) (v0_1:Int) (v0_2:Bool) :
 (CQ qc D n 168 [] [.r,.l,.r,.l] (qh qc 168)) (Ex.ret) (qec v0_0 v0_1 v0_2)=qqw D n v0_0 v0_1 v0_2:=by kernel_rfl
theorem qba0 (D:DX)(n:Nat) (v1_0:List Int) (v1_1:Int) :
 (CQ qc D n 168 [] [.r,.l,.r,.l] (qh qc 168)) (Ex.exit 0) (qd8 v1_0 v1_1)=qla D n v1_0 v1_1:=by kernel_rfl
theorem qbbx (D:DX)(n:Nat) (x0:List Int) (x1:Int) (x2:Int) (x3:tSch) :
 LQ qc D n 168 [.r,.l,.r,.l] n (qdj x0 x1 x2 x3) (CQ qc D n 168 [] [.r,.l,.r,.l] (qh qc 168))=qs9 D n x0 x1 x2 x3:=by
 rw[q2h]
 simp only[qbbu,qba0]
 rfl
theorem qbif (D:DX)(n:Nat) (a0:tSch) (a1:List Int) (a2:Int):rfC qc D n 168 (a0,(a1,(a2,())))=qv0 D n a0 a1 a2:=by
 have h:rfC qc D n 168 (a0,(a1,(a2,())))=qwi D n (fun x0 x1 x2 x3=>LQ qc D n 168 [.r,.l,.r,.l] n (qdj x0 x1 x2 x3) (CQ qc D n 168 [] [.r,.l,.r,.l] (qh qc 168))) a0 a1 a2:=by kernel_rfl
 rw[h]
 simp only[qbbx]
 rfl

def qsw (D:DX)(n:Nat) (go:Int→Int→tSch→ByteArray×List Int×Bool×Unit→Option ((Bool×Unit)×Unit)) (K0:Bool→Int→tSch→Option ((Bool×Unit)×Unit)) (K1:Int→tSch→Option ((Bool×Unit)×Unit)) (x1_0:Int) (x1_1:Int) (x1_2:tSch) (x1_3:ByteArray×List Int×Bool×Unit):Option ((Bool×Unit)×Unit):=br (decide (x1_1<x1_0)) (br (decide (0≤x1_1)&&decide (x1_1<(↑(List.length (Prod.fst (Prod.snd (Prod.snd x1_2)))):Int))) (br (List.beq (ByteArray.toList (Prod.fst (List.getD (Prod.fst (Prod.snd (Prod.snd x1_2))) (Int.toNat x1_1) (ByteArray.empty,[],false,())))) (ByteArray.toList (Prod.fst x1_3))) (K0 false x1_0 x1_2) (go x1_0 (IntKind.wrap IntKind.i64 (x1_1+1)) x1_2 x1_3)) none) (K1 x1_0 x1_2)
def qf7 (D:DX)(n:Nat) (K0:Bool→Int→tSch→Option ((Bool×Unit)×Unit)) (K1:Int→tSch→Option ((Bool×Unit)×Unit)):Nat→(Int)→(Int)→(tSch)→tIx→Option ((Bool×Unit)×Unit) | 0=>(fun x1_0 x1_1 x1_2 x1_3=>none) | m+1=>(fun x1_0 x1_1 x1_2 x1_3=>qsw D n (qf7 D n K0 K1 m) K0 K1 x1_0 x1_1 x1_2 x1_3)
def qyi (D:DX)(n:Nat) (go:Int→tSch→Option ((Bool×Unit)×Unit)) (K0:Bool→tSch→Option ((Bool×Unit)×Unit)) (K1:tSch→Option ((Bool×Unit)×Unit)) (v0_0:Bool) (v0_1:Int) (v0_2:tSch):Option ((Bool×Unit)×Unit):=K0 v0_0 v0_2
def qo2 (D:DX)(n:Nat) (go:Int→tSch→Option ((Bool×Unit)×Unit)) (K0:Bool→tSch→Option ((Bool×Unit)×Unit)) (K1:tSch→Option ((Bool×Unit)×Unit)) (v1_0:Int) (v1_1:tSch):Option ((Bool×Unit)×Unit):=go (IntKind.wrap IntKind.i64 (v1_0+1)) v1_1
def qqr (D:DX)(n:Nat) (go:Int→tSch→Option ((Bool×Unit)×Unit)) (K0:Bool→tSch→Option ((Bool×Unit)×Unit)) (K1:tSch→Option ((Bool×Unit)×Unit)):(Int)→(Int)→(tSch)→tIx→Option ((Bool×Unit)×Unit):=(fun x1_0 x1_1 x1_2 x1_3=>qf7 D n (fun v0_0 v0_1 v0_2=>qyi D n go K0 K1 v0_0 v0_1 v0_2) (fun v1_0 v1_1=>qo2 D n go K0 K1 v1_0 v1_1) n x1_0 x1_1 x1_2 x1_3)
def qs3 (D:DX)(n:Nat) (go:Int→tSch→Option ((Bool×Unit)×Unit)) (K0:Bool→tSch→Option ((Bool×Unit)×Unit)) (K1:tSch→Option ((Bool×Unit)×Unit)) (lp1:Int→Int→tSch→ByteArray×List Int×Bool×Unit→Option ((Bool×Unit)×Unit)) (x0:Int) (x1:tSch):Option ((Bool×Unit)×Unit):=br (decide (x0<(↑(List.length (Prod.fst (Prod.snd (Prod.snd x1)))):Int))) (br (decide (0≤x0)&&decide (x0<(↑(List.length (Prod.fst (Prod.snd (Prod.snd x1)))):Int))) (qi (qpp D (Prod.fst (List.getD (Prod.fst (Prod.snd (Prod.snd x1))) (Int.toNat x0) (ByteArray.empty,[],false,())))) fun b↦br (!Prod.fst (Prod.fst b)) (K0 false x1) (qi (qox D x1 (Prod.fst (Prod.snd (List.getD (Prod.fst (Prod.snd (Prod.snd x1))) (Int.toNat x0) (ByteArray.empty,[],false,())))) 3) fun b↦br (!Prod.fst (Prod.fst b)) (K0 false x1) (lp1 x0 0 x1 (List.getD (Prod.fst (Prod.snd (Prod.snd x1))) (Int.toNat x0) (ByteArray.empty,[],false,()))))) none) (K1 x1)
def qdr (D:DX)(n:Nat) (K0:Bool→tSch→Option ((Bool×Unit)×Unit)) (K1:tSch→Option ((Bool×Unit)×Unit)):Nat→(Int)→(tSch)→Option ((Bool×Unit)×Unit) | 0=>(fun x0 x1=>none) | m+1=>(fun x0 x1=>qs3 D n (qdr D n K0 K1 m) K0 K1 (qqr D n (qdr D n K0 K1 m) K0 K1) x0 x1)
def qps (D:DX)(n:Nat) (v0_0:Bool) (v0_1:tSch):Option ((Bool×Unit)×Unit):=some ((v0_0,()),())
def qpb (D:DX)(n:Nat) (v1_0:tSch):Option ((Bool×Unit)×Unit):=some ((decide ((↑(List.length (Prod.fst (Prod.snd (Prod.snd v1_0)))):Int)≤3),()),())
def qq0 (D:DX)(n:Nat):(Int)→(tSch)→Option ((Bool×Unit)×Unit):=(fun x0 x1=>qdr D n (fun v0_0 v0_1=>qps D n v0_0 v0_1) (fun v1_0=>qpb D n v1_0) n x0 x1)
def quz (D:DX)(n:Nat) (lp0:Int→tSch→Option ((Bool×Unit)×Unit)) (a0:tSch):Option ((Bool×Unit)×Unit):=lp0 0 a0
def qu0 (D:DX)(n:Nat) (a0:tSch):Option ((Bool×Unit)×Unit):=quz D n (qq0 D n) a0
def qdd (x0:Int) (x1:tSch):St:=stq 47 [(1,AV.addr 1 []),(3,avI x0)] [(1,Root.mk yS Mk.no x1 true)] 
def qd3 (v0_0:Bool) (v0_1:tSch):St:=stq 47 [(1,AV.addr 1 []),(2,AV.val Ty.bool v0_0)] [(1,Root.mk yS Mk.no v0_1 true)] 
def qdx (v1_0:tSch):St:=stq 47 [(1,AV.addr 1 [])] [(1,Root.mk yS Mk.no v1_0 true)] 
def qf1 (x1_0:Int) (x1_1:Int) (x1_2:tSch) (x1_3:ByteArray×List Int×Bool×Unit):St:=stq 47 [(1,AV.addr 1 []),(3,avI x1_0),(4,AV.addr 4 []),(5,avI x1_1)] [(1,Root.mk yS Mk.no x1_2 true),(4,Root.mk yX Mk.no x1_3 true)] 
def qke (v0_0:Bool) (v0_1:Int) (v0_2:tSch):St:=stq 47 [(1,AV.addr 1 []),(2,AV.val Ty.bool v0_0),(3,avI v0_1)] [(1,Root.mk yS Mk.no v0_2 true)] 
def qj5 (v1_0:Int) (v1_1:tSch):St:=stq 47 [(1,AV.addr 1 []),(3,avI v1_0)] [(1,Root.mk yS Mk.no v1_1 true)] 
theorem qba4 (D:DX)(n:Nat) (m:Nat) (K:Ex→St→Option (Out ctx 169)) (x1_0:Int) (x1_1:Int) (x1_2:tSch) (x1_3:ByteArray×List Int×Bool×Unit) :
 LQ qc D n 169 [.r,.l,.r,.l,.l,.r,.l,.l,.r,.r,.r,.l] (m+1) (qf1 x1_0 x1_1 x1_2 x1_3) K=qsw D n (fun x1_0 x1_1 x1_2 x1_3=>LQ qc D n 169 [.r,.l,.r,.l,.l,.r,.l,.l,.r,.r,.r,.l] m (qf1 x1_0 x1_1 x1_2 x1_3) K) (fun v0_0 v0_1 v0_2=>K (Ex.ret) (qke v0_0 v0_1 v0_2)) (fun v1_0 v1_1=>K (Ex.exit 2) (qj5 v1_0 v1_1)) x1_0 x1_1 x1_2 x1_3:=by kernel_rfl
theorem q0f (D:DX)(n:Nat) (K:Ex→St→Option (Out ctx 169)):∀ (m:Nat) (x1_0:Int) (x1_1:Int) (x1_2:tSch) (x1_3:ByteArray×List Int×Bool×Unit),LQ qc D n 169 [.r,.l,.r,.l,.l,.r,.l,.l,.r,.r,.r,.l] m (qf1 x1_0 x1_1 x1_2 x1_3) K=qf7 D n (fun v0_0 v0_1 v0_2=>K (Ex.ret) (qke v0_0 v0_1 v0_2)) (fun v1_0 v1_1=>K (Ex.exit 2) (qj5 v1_0 v1_1)) m x1_0 x1_1 x1_2 x1_3
 | 0,x1_0,x1_1,x1_2,x1_3=>qy ..
 | m+1,x1_0,x1_1,x1_2,x1_3=>by
  have ih:(fun x1_0 x1_1 x1_2 x1_3=>LQ qc D n 169 [.r,.l,.r,.l,.l,.r,.l,.l,.r,.r,.r,.l] m (qf1 x1_0 x1_1 x1_2 x1_3) K)=qf7 D n (fun v0_0 v0_1 v0_2=>K (Ex.ret) (qke v0_0 v0_1 v0_2)) (fun v1_0 v1_1=>K (Ex.exit 2) (qj5 v1_0 v1_1)) m:=by funext x1_0 x1_1 x1_2 x1_3;exact q0f D n K m x1_0 x1_1 x1_2 x1_3
  rw[qba4]
  rw[ih];rfl
theorem q97 (D:DX)(n:Nat) (m:Nat) (K:Ex→St→Option (Out ctx 169)) (v0_0:Bool) (v0_1:Int) (v0_2:tSch) :
 (CQ qc D n 169 [.r,.l,.r,.l,.l] [.r,.l,.l,.r,.r,.r,.l] (LK qc D n 169 [.r,.l,.r,.l] m K)) (Ex.ret) (qke v0_0 v0_1 v0_2)=qyi D n (fun x0 x1=>LQ qc D n 169 [.r,.l,.r,.l] m (qdd x0 x1) K) (fun v0_0 v0_1=>K (Ex.ret) (qd3 v0_0 v0_1)) (fun v1_0=>K (Ex.exit 0) (qdx v1_0)) v0_0 v0_1 v0_2:=by kernel_rfl
theorem q9p (D:DX)(n:Nat) (m:Nat) (K:Ex→St→Option (Out ctx 169)) (v1_0:Int) (v1_1:tSch) :
 (CQ qc D n 169 [.r,.l,.r,.l,.l] [.r,.l,.l,.r,.r,.r,.l] (LK qc D n 169 [.r,.l,.r,.l] m K)) (Ex.exit 2) (qj5 v1_0 v1_1)=qo2 D n (fun x0 x1=>LQ qc D n 169 [.r,.l,.r,.l] m (qdd x0 x1) K) (fun v0_0 v0_1=>K (Ex.ret) (qd3 v0_0 v0_1)) (fun v1_0=>K (Ex.exit 0) (qdx v1_0)) v1_0 v1_1:=by kernel_rfl
theorem qbab (D:DX)(n:Nat) (m:Nat) (K:Ex→St→Option (Out ctx 169)) (x1_0:Int) (x1_1:Int) (x1_2:tSch) (x1_3:ByteArray×List Int×Bool×Unit) :
 LQ qc D n 169 [.r,.l,.r,.l,.l,.r,.l,.l,.r,.r,.r,.l] n (qf1 x1_0 x1_1 x1_2 x1_3) (CQ qc D n 169 [.r,.l,.r,.l,.l] [.r,.l,.l,.r,.r,.r,.l] (LK qc D n 169 [.r,.l,.r,.l] m K))=qqr D n (fun x0 x1=>LQ qc D n 169 [.r,.l,.r,.l] m (qdd x0 x1) K) (fun v0_0 v0_1=>K (Ex.ret) (qd3 v0_0 v0_1)) (fun v1_0=>K (Ex.exit 0) (qdx v1_0)) x1_0 x1_1 x1_2 x1_3:=by
 rw[q0f]
 simp only[q97,q9p]
 rfl
theorem qbba (D:DX)(n:Nat) (m:Nat) (K:Ex→St→Option (Out ctx 169)) (x0:Int) (x1:tSch) :
 LQ qc D n 169 [.r,.l,.r,.l] (m+1) (qdd x0 x1) K=qs3 D n (fun x0 x1=>LQ qc D n 169 [.r,.l,.r,.l] m (qdd x0 x1) K) (fun v0_0 v0_1=>K (Ex.ret) (qd3 v0_0 v0_1)) (fun v1_0=>K (Ex.exit 0) (qdx v1_0)) (fun x1_0 x1_1 x1_2 x1_3=>LQ qc D n 169 [.r,.l,.r,.l,.l,.r,.l,.l,.r,.r,.r,.l] n (qf1 x1_0 x1_1 x1_2 x1_3) (CQ qc D n 169 [.r,.l,.r,.l,.l] [.r,.l,.l,.r,.r,.r,.l] (LK qc D n 169 [.r,.l,.r,.l] m K))) x0 x1:=by kernel_rfl
theorem q0a (D:DX)(n:Nat) (K:Ex→St→Option (Out ctx 169)):∀ (m:Nat) (x0:Int) (x1:tSch),LQ qc D n 169 [.r,.l,.r,.l] m (qdd x0 x1) K=qdr D n (fun v0_0 v0_1=>K (Ex.ret) (qd3 v0_0 v0_1)) (fun v1_0=>K (Ex.exit 0) (qdx v1_0)) m x0 x1
 | 0,x0,x1=>qy ..
 | m+1,x0,x1=>by
  have ih:(fun x0 x1=>LQ qc D n 169 [.r,.l,.r,.l] m (qdd x0 x1) K)=qdr D n (fun v0_0 v0_1=>K (Ex.ret) (qd3 v0_0 v0_1)) (fun v1_0=>K (Ex.exit 0) (qdx v1_0)) m:=by funext x0 x1;exact q0a D n K m x0 x1
  rw[qbba]
  simp only[qbab]
  rw[ih];rfl
theorem q9l (D:DX)(n:Nat) (v0_0:Bool) (v0_1:tSch) :
 (CQ qc D n 169 [] [.r,.l,.r,.l] (qh qc 169)) (Ex.ret) (qd3 v0_0 v0_1)=qps D n v0_0 v0_1:=by kernel_rfl
theorem q9t (D:DX)(n:Nat) (v1_0:tSch) :
 (CQ qc D n 169 [] [.r,.l,.r,.l] (qh qc 169)) (Ex.exit 0) (qdx v1_0)=qpb D n v1_0:=by kernel_rfl
theorem q9z (D:DX)(n:Nat) (x0:Int) (x1:tSch) :
 LQ qc D n 169 [.r,.l,.r,.l] n (qdd x0 x1) (CQ qc D n 169 [] [.r,.l,.r,.l] (qh qc 169))=qq0 D n x0 x1:=by
 rw[q0a]
 simp only[q9l,q9t]
 rfl
theorem qbfi (D:DX)(n:Nat) (a0:tSch):rfC qc D n 169 (a0,())=qu0 D n a0:=by
 have h:rfC qc D n 169 (a0,())=quz D n (fun x0 x1=>LQ qc D n 169 [.r,.l,.r,.l] n (qdd x0 x1) (CQ qc D n 169 [] [.r,.l,.r,.l] (qh qc 169))) a0:=by kernel_rfl
 rw[h]
 simp only[q9z]
 rfl

def q15 (D:DX)(n:Nat) (go:qk→Int→Int→Option ((Int×Unit)×Unit)) (K0:Int→Int→Option ((Int×Unit)×Unit)) (K1:Int→Option ((Int×Unit)×Unit)) (x0:qk) (x1:Int) (x2:Int):Option ((Int×Unit)×Unit):=br (decide (x2<(↑(List.length x0):Int))) (br (decide (0≤x2)&&decide (x2<(↑(List.length x0):Int))) (qi (qyg D (List.getD x0 (Int.toNat x2) (ByteArray.empty,0,false,())) x1) fun b↦br (decide (Prod.fst (Prod.fst b)<0)) (K0 (Prod.fst (Prod.fst b)) (-1)) (go x0 (Prod.fst (Prod.fst b)) (IntKind.wrap IntKind.i64 (x2+1)))) none) (K1 x1)
def qkr (D:DX)(n:Nat) (K0:Int→Int→Option ((Int×Unit)×Unit)) (K1:Int→Option ((Int×Unit)×Unit)):Nat→(qk)→(Int)→(Int)→Option ((Int×Unit)×Unit) | 0=>(fun x0 x1 x2=>none) | m+1=>(fun x0 x1 x2=>q15 D n (qkr D n K0 K1 m) K0 K1 x0 x1 x2)
def qwq (D:DX)(n:Nat) (v0_0:Int) (v0_1:Int):Option ((Int×Unit)×Unit):=some ((v0_1,()),())
def qwn (D:DX)(n:Nat) (v1_0:Int):Option ((Int×Unit)×Unit):=some ((v1_0,()),())
def qy5 (D:DX)(n:Nat):(qk)→(Int)→(Int)→Option ((Int×Unit)×Unit):=(fun x0 x1 x2=>qkr D n (fun v0_0 v0_1=>qwq D n v0_0 v0_1) (fun v1_0=>qwn D n v1_0) n x0 x1 x2)
def q3y (D:DX)(n:Nat) (lp0:qk→Int→Int→Option ((Int×Unit)×Unit)) (a0:qk) (a1:Int):Option ((Int×Unit)×Unit):=br (decide (IntKind.wrap IntKind.i64 (a1 - (↑(List.length a0):Int))<0)) (some ((-1,()),())) (lp0 a0 (IntKind.wrap IntKind.i64 (a1 - (↑(List.length a0):Int))) 0)
def q3p (D:DX)(n:Nat) (a0:qk) (a1:Int):Option ((Int×Unit)×Unit):=q3y D n (qy5 D n) a0 a1
def qkt (x0:qk) (x1:Int) (x2:Int):St:=stq 27 [(0,AV.val (Ty.sl yC) x0),(1,avI x1),(5,avI x2)] [] 
def qo3 (v0_0:Int) (v0_1:Int):St:=stq 27 [(1,avI v0_0),(4,avI v0_1)] [] 
def qoz (v1_0:Int):St:=stq 27 [(1,avI v1_0)] [] 
theorem qblo (D:DX)(n:Nat) (m:Nat) (K:Ex→St→Option (Out ctx 174)) (x0:qk) (x1:Int) (x2:Int) :
 LQ qc D n 174 [.r,.r,.r,.l,.r,.l] (m+1) (qkt x0 x1 x2) K=q15 D n (fun x0 x1 x2=>LQ qc D n 174 [.r,.r,.r,.l,.r,.l] m (qkt x0 x1 x2) K) (fun v0_0 v0_1=>K (Ex.ret) (qo3 v0_0 v0_1)) (fun v1_0=>K (Ex.exit 0) (qoz v1_0)) x0 x1 x2:=by kernel_rfl
theorem q65 (D:DX)(n:Nat) (K:Ex→St→Option (Out ctx 174)):∀ (m:Nat) (x0:qk) (x1:Int) (x2:Int),LQ qc D n 174 [.r,.r,.r,.l,.r,.l] m (qkt x0 x1 x2) K=qkr D n (fun v0_0 v0_1=>K (Ex.ret) (qo3 v0_0 v0_1)) (fun v1_0=>K (Ex.exit 0) (qoz v1_0)) m x0 x1 x2
 | 0,x0,x1,x2=>qy ..
 | m+1,x0,x1,x2=>by
  have ih:(fun x0 x1 x2=>LQ qc D n 174 [.r,.r,.r,.l,.r,.l] m (qkt x0 x1 x2) K)=qkr D n (fun v0_0 v0_1=>K (Ex.ret) (qo3 v0_0 v0_1)) (fun v1_0=>K (Ex.exit 0) (qoz v1_0)) m:=by funext x0 x1 x2;exact q65 D n K m x0 x1 x2
  rw[qblo]
  rw[ih];rfl
theorem qbij (D:DX)(n:Nat) (v0_0:Int) (v0_1:Int) :
 (CQ qc D n 174 [] [.r,.r,.r,.l,.r,.l] (qh qc 174)) (Ex.ret) (qo3 v0_0 v0_1)=qwq D n v0_0 v0_1:=by kernel_rfl
theorem qbhy (D:DX)(n:Nat) (v1_0:Int) :
 (CQ qc D n 174 [] [.r,.r,.r,.l,.r,.l] (qh qc 174)) (Ex.exit 0) (qoz v1_0)=qwn D n v1_0:=by kernel_rfl
theorem qbho (D:DX)(n:Nat) (x0:qk) (x1:Int) (x2:Int) :
 LQ qc D n 174 [.r,.r,.r,.l,.r,.l] n (qkt x0 x1 x2) (CQ qc D n 174 [] [.r,.r,.r,.l,.r,.l] (qh qc 174))=qy5 D n x0 x1 x2:=by
 rw[q65]
 simp only[qbij,qbhy]
 rfl
theorem qbo0 (D:DX)(n:Nat) (a0:qk) (a1:Int):rfC qc D n 174 (a0,(a1,()))=q3p D n a0 a1:=by
 have h:rfC qc D n 174 (a0,(a1,()))=q3y D n (fun x0 x1 x2=>LQ qc D n 174 [.r,.r,.r,.l,.r,.l] n (qkt x0 x1 x2) (CQ qc D n 174 [] [.r,.r,.r,.l,.r,.l] (qh qc 174))) a0 a1:=by kernel_rfl
 rw[h]
 simp only[qbho]
 rfl

def qbav (D:DX)(n:Nat) (a0:List Int) (a1:Int):Option ((Int×Unit)×Unit):=br (decide (IntKind.wrap IntKind.i64 (a1 - (↑(List.length a0):Int))<0)) (some ((-1,()),())) (some ((IntKind.wrap IntKind.i64 (a1 - (↑(List.length a0):Int)),()),()))
def q3h (D:DX)(n:Nat) (a0:List Int) (a1:Int):Option ((Int×Unit)×Unit):=qbav D n a0 a1
theorem qbo6 (D:DX)(n:Nat) (a0:List Int) (a1:Int):rfC qc D n 175 (a0,(a1,()))=q3h D n a0 a1:=by kernel_rfl

def qvx (D:DX)(n:Nat) (go:tIxs→Int→Int→Option ((Int×Unit)×Unit)) (K0:Int→Int→Option ((Int×Unit)×Unit)) (K1:Int→Option ((Int×Unit)×Unit)) (x0:tIxs) (x1:Int) (x2:Int):Option ((Int×Unit)×Unit):=br (decide (x2<(↑(List.length x0):Int))) (br (decide (0≤x2)&&decide (x2<(↑(List.length x0):Int))) (qi (qts D (List.getD x0 (Int.toNat x2) (ByteArray.empty,[],false,())) x1) fun b↦br (decide (Prod.fst (Prod.fst b)<0)) (K0 (Prod.fst (Prod.fst b)) (-1)) (go x0 (Prod.fst (Prod.fst b)) (IntKind.wrap IntKind.i64 (x2+1)))) none) (K1 x1)
def qh5 (D:DX)(n:Nat) (K0:Int→Int→Option ((Int×Unit)×Unit)) (K1:Int→Option ((Int×Unit)×Unit)):Nat→(tIxs)→(Int)→(Int)→Option ((Int×Unit)×Unit) | 0=>(fun x0 x1 x2=>none) | m+1=>(fun x0 x1 x2=>qvx D n (qh5 D n K0 K1 m) K0 K1 x0 x1 x2)
def qse (D:DX)(n:Nat) (v0_0:Int) (v0_1:Int):Option ((Int×Unit)×Unit):=some ((v0_1,()),())
def qsq (D:DX)(n:Nat) (v1_0:Int):Option ((Int×Unit)×Unit):=some ((v1_0,()),())
def quh (D:DX)(n:Nat):(tIxs)→(Int)→(Int)→Option ((Int×Unit)×Unit):=(fun x0 x1 x2=>qh5 D n (fun v0_0 v0_1=>qse D n v0_0 v0_1) (fun v1_0=>qsq D n v1_0) n x0 x1 x2)
def qx8 (D:DX)(n:Nat) (lp0:tIxs→Int→Int→Option ((Int×Unit)×Unit)) (a0:tIxs) (a1:Int):Option ((Int×Unit)×Unit):=br (decide (IntKind.wrap IntKind.i64 (a1 - (↑(List.length a0):Int))<0)) (some ((-1,()),())) (lp0 a0 (IntKind.wrap IntKind.i64 (a1 - (↑(List.length a0):Int))) 0)
def qy7 (D:DX)(n:Nat) (a0:tIxs) (a1:Int):Option ((Int×Unit)×Unit):=qx8 D n (quh D n) a0 a1
def qij (x0:tIxs) (x1:Int) (x2:Int):St:=stq 27 [(0,AV.val (Ty.sl yX) x0),(1,avI x1),(5,avI x2)] [] 
def qna (v0_0:Int) (v0_1:Int):St:=stq 27 [(1,avI v0_0),(4,avI v0_1)] [] 
def qnd (v1_0:Int):St:=stq 27 [(1,avI v1_0)] [] 
theorem qbf9 (D:DX)(n:Nat) (m:Nat) (K:Ex→St→Option (Out ctx 176)) (x0:tIxs) (x1:Int) (x2:Int) :
 LQ qc D n 176 [.r,.r,.r,.l,.r,.l] (m+1) (qij x0 x1 x2) K=qvx D n (fun x0 x1 x2=>LQ qc D n 176 [.r,.r,.r,.l,.r,.l] m (qij x0 x1 x2) K) (fun v0_0 v0_1=>K (Ex.ret) (qna v0_0 v0_1)) (fun v1_0=>K (Ex.exit 0) (qnd v1_0)) x0 x1 x2:=by kernel_rfl
theorem q4t (D:DX)(n:Nat) (K:Ex→St→Option (Out ctx 176)):∀ (m:Nat) (x0:tIxs) (x1:Int) (x2:Int),LQ qc D n 176 [.r,.r,.r,.l,.r,.l] m (qij x0 x1 x2) K=qh5 D n (fun v0_0 v0_1=>K (Ex.ret) (qna v0_0 v0_1)) (fun v1_0=>K (Ex.exit 0) (qnd v1_0)) m x0 x1 x2
 | 0,x0,x1,x2=>qy ..
 | m+1,x0,x1,x2=>by
  have ih:(fun x0 x1 x2=>LQ qc D n 176 [.r,.r,.r,.l,.r,.l] m (qij x0 x1 x2) K)=qh5 D n (fun v0_0 v0_1=>K (Ex.ret) (qna v0_0 v0_1)) (fun v1_0=>K (Ex.exit 0) (qnd v1_0)) m:=by funext x0 x1 x2;exact q4t D n K m x0 x1 x2
  rw[qbf9]
  rw[ih];rfl
theorem qbb9 (D:DX)(n:Nat) (v0_0:Int) (v0_1:Int) :
 (CQ qc D n 176 [] [.r,.r,.r,.l,.r,.l] (qh qc 176)) (Ex.ret) (qna v0_0 v0_1)=qse D n v0_0 v0_1:=by kernel_rfl
theorem qbb6 (D:DX)(n:Nat) (v1_0:Int) :
 (CQ qc D n 176 [] [.r,.r,.r,.l,.r,.l] (qh qc 176)) (Ex.exit 0) (qnd v1_0)=qsq D n v1_0:=by kernel_rfl
theorem qbcr (D:DX)(n:Nat) (x0:tIxs) (x1:Int) (x2:Int) :
 LQ qc D n 176 [.r,.r,.r,.l,.r,.l] n (qij x0 x1 x2) (CQ qc D n 176 [] [.r,.r,.r,.l,.r,.l] (qh qc 176))=quh D n x0 x1 x2:=by
 rw[q4t]
 simp only[qbb9,qbb6]
 rfl
theorem qbj9 (D:DX)(n:Nat) (a0:tIxs) (a1:Int):rfC qc D n 176 (a0,(a1,()))=qy7 D n a0 a1:=by
 have h:rfC qc D n 176 (a0,(a1,()))=qx8 D n (fun x0 x1 x2=>LQ qc D n 176 [.r,.r,.r,.l,.r,.l] n (qij x0 x1 x2) (CQ qc D n 176 [] [.r,.r,.r,.l,.r,.l] (qh qc 176))) a0 a1:=by kernel_rfl
 rw[h]
 simp only[qbcr]
 rfl

def q0j (D:DX)(n:Nat) (go:qk→Int→qk→Option ((qk×Unit)×Unit)) (K0:qk→Option ((qk×Unit)×Unit)) (x0:qk) (x1:Int) (x2:qk):Option ((qk×Unit)×Unit):=br (decide (x1<(↑(List.length x0):Int))) (br (decide (0≤x1)&&decide (x1<(↑(List.length x0):Int))) (qi (qyr D (List.getD x0 (Int.toNat x1) (ByteArray.empty,0,false,()))) fun b↦br (decide (0≤x1)&&decide (x1<(↑(List.length x2):Int))) (go x0 (IntKind.wrap IntKind.i64 (x1+1)) (List.set x2 (Int.toNat x1) (Prod.fst (Prod.fst b)))) none) none) (K0 x2)
def qki (D:DX)(n:Nat) (K0:qk→Option ((qk×Unit)×Unit)):Nat→(qk)→(Int)→(qk)→Option ((qk×Unit)×Unit) | 0=>(fun x0 x1 x2=>none) | m+1=>(fun x0 x1 x2=>q0j D n (qki D n K0 m) K0 x0 x1 x2)
def qpa (D:DX)(n:Nat) (v0_0:qk):Option ((qk×Unit)×Unit):=some ((v0_0,()),())
def qxv (D:DX)(n:Nat):(qk)→(Int)→(qk)→Option ((qk×Unit)×Unit):=(fun x0 x1 x2=>qki D n (fun v0_0=>qpa D n v0_0) n x0 x1 x2)
def q27 (D:DX)(n:Nat) (lp0:qk→Int→qk→Option ((qk×Unit)×Unit)) (a0:qk):Option ((qk×Unit)×Unit):=br (decide (0≤(↑(List.length a0):Int))&&decide ((↑(List.length a0):Int)≤(↑(List.length a0):Int))&&decide ((↑(List.length a0):Int)≤(↑qbl:Int))) (lp0 a0 0 (List.replicate (Int.toNat (↑(List.length a0):Int)) (ByteArray.empty,0,false,()))) none
def q3q (D:DX)(n:Nat) (a0:qk):Option ((qk×Unit)×Unit):=q27 D n (qxv D n) a0
def qkx (x0:qk) (x1:Int) (x2:qk):St:=stq 23 [(0,AV.val (Ty.sl yC) x0),(3,AV.brw 3 [] 0),(4,avI x1)] [(3,Root.mk (Ty.sl yC) (Mk.own 0 (Mk.pr Mk.no (Mk.pr Mk.no (Mk.pr Mk.no Mk.no)))) x2 false)] 
def qo4 (v0_0:qk):St:=stq 23 [(3,AV.brw 3 [] 0)] [(3,Root.mk (Ty.sl yC) (Mk.own 0 (Mk.pr Mk.no (Mk.pr Mk.no (Mk.pr Mk.no Mk.no)))) v0_0 false)] 
theorem qbku (D:DX)(n:Nat) (m:Nat) (K:Ex→St→Option (Out ctx 177)) (x0:qk) (x1:Int) (x2:qk) :
 LQ qc D n 177 [.r,.r,.l,.r,.l] (m+1) (qkx x0 x1 x2) K=q0j D n (fun x0 x1 x2=>LQ qc D n 177 [.r,.r,.l,.r,.l] m (qkx x0 x1 x2) K) (fun v0_0=>K (Ex.exit 0) (qo4 v0_0)) x0 x1 x2:=by kernel_rfl
theorem q7g (D:DX)(n:Nat) (K:Ex→St→Option (Out ctx 177)):∀ (m:Nat) (x0:qk) (x1:Int) (x2:qk),LQ qc D n 177 [.r,.r,.l,.r,.l] m (qkx x0 x1 x2) K=qki D n (fun v0_0=>K (Ex.exit 0) (qo4 v0_0)) m x0 x1 x2
 | 0,x0,x1,x2=>qy ..
 | m+1,x0,x1,x2=>by
  have ih:(fun x0 x1 x2=>LQ qc D n 177 [.r,.r,.l,.r,.l] m (qkx x0 x1 x2) K)=qki D n (fun v0_0=>K (Ex.exit 0) (qo4 v0_0)) m:=by funext x0 x1 x2;exact q7g D n K m x0 x1 x2
  rw[qbku]
  rw[ih];rfl
theorem qbin (D:DX)(n:Nat) (v0_0:qk) :
 (CQ qc D n 177 [] [.r,.r,.l,.r,.l] (qh qc 177)) (Ex.exit 0) (qo4 v0_0)=qpa D n v0_0:=by kernel_rfl
theorem qbhx (D:DX)(n:Nat) (x0:qk) (x1:Int) (x2:qk) :
 LQ qc D n 177 [.r,.r,.l,.r,.l] n (qkx x0 x1 x2) (CQ qc D n 177 [] [.r,.r,.l,.r,.l] (qh qc 177))=qxv D n x0 x1 x2:=by
 rw[q7g]
 simp only[qbin]
 rfl
theorem qbo9 (D:DX)(n:Nat) (a0:qk):rfC qc D n 177 (a0,())=q3q D n a0:=by
 have h:rfC qc D n 177 (a0,())=q27 D n (fun x0 x1 x2=>LQ qc D n 177 [.r,.r,.l,.r,.l] n (qkx x0 x1 x2) (CQ qc D n 177 [] [.r,.r,.l,.r,.l] (qh qc 177))) a0:=by kernel_rfl
 rw[h]
 simp only[qbhx]
 rfl

def q02 (D:DX)(n:Nat) (go:List Int→Int→List Int→Option ((List Int×Unit)×Unit)) (K0:List Int→Option ((List Int×Unit)×Unit)) (x0:List Int) (x1:Int) (x2:List Int):Option ((List Int×Unit)×Unit):=br (decide (x1<(↑(List.length x0):Int))) (br (decide (0≤x1)&&decide (x1<(↑(List.length x0):Int))) (br (decide (0≤x1)&&decide (x1<(↑(List.length x2):Int))) (go x0 (IntKind.wrap IntKind.i64 (x1+1)) (List.set x2 (Int.toNat x1) (List.getD x0 (Int.toNat x1) 0))) none) none) (K0 x2)
def qkq (D:DX)(n:Nat) (K0:List Int→Option ((List Int×Unit)×Unit)):Nat→(List Int)→(Int)→(List Int)→Option ((List Int×Unit)×Unit) | 0=>(fun x0 x1 x2=>none) | m+1=>(fun x0 x1 x2=>q02 D n (qkq D n K0 m) K0 x0 x1 x2)
def qo1 (D:DX)(n:Nat) (v0_0:List Int):Option ((List Int×Unit)×Unit):=some ((v0_0,()),())
def qzp (D:DX)(n:Nat):(List Int)→(Int)→(List Int)→Option ((List Int×Unit)×Unit):=(fun x0 x1 x2=>qkq D n (fun v0_0=>qo1 D n v0_0) n x0 x1 x2)
def q3s (D:DX)(n:Nat) (lp0:List Int→Int→List Int→Option ((List Int×Unit)×Unit)) (a0:List Int):Option ((List Int×Unit)×Unit):=br (decide (0≤(↑(List.length a0):Int))&&decide ((↑(List.length a0):Int)≤(↑(List.length a0):Int))&&decide ((↑(List.length a0):Int)≤(↑qbl:Int))) (lp0 a0 0 (List.replicate (Int.toNat (↑(List.length a0):Int)) 0)) none
def q3t (D:DX)(n:Nat) (a0:List Int):Option ((List Int×Unit)×Unit):=q3s D n (qzp D n) a0
def qkk (x0:List Int) (x1:Int) (x2:List Int):St:=stq 22 [(0,AV.val (Ty.sl yI) x0),(3,AV.brw 3 [] 0),(4,avI x1)] [(3,Root.mk (Ty.sl yI) (Mk.own 0 Mk.no) x2 false)] 
def qo8 (v0_0:List Int):St:=stq 22 [(3,AV.brw 3 [] 0)] [(3,Root.mk (Ty.sl yI) (Mk.own 0 Mk.no) v0_0 false)] 
theorem qbl0 (D:DX)(n:Nat) (m:Nat) (K:Ex→St→Option (Out ctx 178)) (x0:List Int) (x1:Int) (x2:List Int) :
 LQ qc D n 178 [.r,.r,.l,.r,.l] (m+1) (qkk x0 x1 x2) K=q02 D n (fun x0 x1 x2=>LQ qc D n 178 [.r,.r,.l,.r,.l] m (qkk x0 x1 x2) K) (fun v0_0=>K (Ex.exit 0) (qo8 v0_0)) x0 x1 x2:=by kernel_rfl
theorem q7n (D:DX)(n:Nat) (K:Ex→St→Option (Out ctx 178)):∀ (m:Nat) (x0:List Int) (x1:Int) (x2:List Int),LQ qc D n 178 [.r,.r,.l,.r,.l] m (qkk x0 x1 x2) K=qkq D n (fun v0_0=>K (Ex.exit 0) (qo8 v0_0)) m x0 x1 x2
 | 0,x0,x1,x2=>qy ..
 | m+1,x0,x1,x2=>by
  have ih:(fun x0 x1 x2=>LQ qc D n 178 [.r,.r,.l,.r,.l] m (qkk x0 x1 x2) K)=qkq D n (fun v0_0=>K (Ex.exit 0) (qo8 v0_0)) m:=by funext x0 x1 x2;exact q7n D n K m x0 x1 x2
  rw[qbl0]
  rw[ih];rfl
theorem qbiu (D:DX)(n:Nat) (v0_0:List Int) :
 (CQ qc D n 178 [] [.r,.r,.l,.r,.l] (qh qc 178)) (Ex.exit 0) (qo8 v0_0)=qo1 D n v0_0:=by kernel_rfl
theorem qbil (D:DX)(n:Nat) (x0:List Int) (x1:Int) (x2:List Int) :
 LQ qc D n 178 [.r,.r,.l,.r,.l] n (qkk x0 x1 x2) (CQ qc D n 178 [] [.r,.r,.l,.r,.l] (qh qc 178))=qzp D n x0 x1 x2:=by
 rw[q7n]
 simp only[qbiu]
 rfl
theorem qbo4 (D:DX)(n:Nat) (a0:List Int):rfC qc D n 178 (a0,())=q3t D n a0:=by
 have h:rfC qc D n 178 (a0,())=q3s D n (fun x0 x1 x2=>LQ qc D n 178 [.r,.r,.l,.r,.l] n (qkk x0 x1 x2) (CQ qc D n 178 [] [.r,.r,.l,.r,.l] (qh qc 178))) a0:=by kernel_rfl
 rw[h]
 simp only[qbil]
 rfl

def qvy (D:DX)(n:Nat) (go:tIxs→Int→tIxs→Option ((tIxs×Unit)×Unit)) (K0:tIxs→Option ((tIxs×Unit)×Unit)) (x0:tIxs) (x1:Int) (x2:tIxs):Option ((tIxs×Unit)×Unit):=br (decide (x1<(↑(List.length x0):Int))) (br (decide (0≤x1)&&decide (x1<(↑(List.length x0):Int))) (qi (qtf D (List.getD x0 (Int.toNat x1) (ByteArray.empty,[],false,()))) fun b↦br (decide (0≤x1)&&decide (x1<(↑(List.length x2):Int))) (go x0 (IntKind.wrap IntKind.i64 (x1+1)) (List.set x2 (Int.toNat x1) (Prod.fst (Prod.fst (Prod.fst b)),Prod.fst (Prod.snd (Prod.fst (Prod.fst b))),Prod.snd (Prod.snd (Prod.fst (Prod.fst b)))))) none) none) (K0 x2)
def qin (D:DX)(n:Nat) (K0:tIxs→Option ((tIxs×Unit)×Unit)):Nat→(tIxs)→(Int)→(tIxs)→Option ((tIxs×Unit)×Unit) | 0=>(fun x0 x1 x2=>none) | m+1=>(fun x0 x1 x2=>qvy D n (qin D n K0 m) K0 x0 x1 x2)
def qmp (D:DX)(n:Nat) (v0_0:tIxs):Option ((tIxs×Unit)×Unit):=some ((v0_0,()),())
def qu9 (D:DX)(n:Nat):(tIxs)→(Int)→(tIxs)→Option ((tIxs×Unit)×Unit):=(fun x0 x1 x2=>qin D n (fun v0_0=>qmp D n v0_0) n x0 x1 x2)
def qxq (D:DX)(n:Nat) (lp0:tIxs→Int→tIxs→Option ((tIxs×Unit)×Unit)) (a0:tIxs):Option ((tIxs×Unit)×Unit):=br (decide (0≤(↑(List.length a0):Int))&&decide ((↑(List.length a0):Int)≤(↑(List.length a0):Int))&&decide ((↑(List.length a0):Int)≤(↑qbl:Int))) (lp0 a0 0 (List.replicate (Int.toNat (↑(List.length a0):Int)) (ByteArray.empty,[],false,()))) none
def qyx (D:DX)(n:Nat) (a0:tIxs):Option ((tIxs×Unit)×Unit):=qxq D n (qu9 D n) a0
def qit (x0:tIxs) (x1:Int) (x2:tIxs):St:=stq 23 [(0,AV.val (Ty.sl yX) x0),(3,AV.brw 3 [] 0),(4,avI x1)] [(3,Root.mk (Ty.sl yX) (Mk.own 0 (Mk.pr Mk.no (Mk.pr (Mk.own 0 Mk.no) (Mk.pr Mk.no Mk.no)))) x2 false)] 
def qmf (v0_0:tIxs):St:=stq 23 [(3,AV.brw 3 [] 0)] [(3,Root.mk (Ty.sl yX) (Mk.own 0 (Mk.pr Mk.no (Mk.pr (Mk.own 0 Mk.no) (Mk.pr Mk.no Mk.no)))) v0_0 false)] 
theorem qbfd (D:DX)(n:Nat) (m:Nat) (K:Ex→St→Option (Out ctx 179)) (x0:tIxs) (x1:Int) (x2:tIxs) :
 LQ qc D n 179 [.r,.r,.l,.r,.l] (m+1) (qit x0 x1 x2) K=qvy D n (fun x0 x1 x2=>LQ qc D n 179 [.r,.r,.l,.r,.l] m (qit x0 x1 x2) K) (fun v0_0=>K (Ex.exit 0) (qmf v0_0)) x0 x1 x2:=by kernel_rfl
theorem q4c (D:DX)(n:Nat) (K:Ex→St→Option (Out ctx 179)):∀ (m:Nat) (x0:tIxs) (x1:Int) (x2:tIxs),LQ qc D n 179 [.r,.r,.l,.r,.l] m (qit x0 x1 x2) K=qin D n (fun v0_0=>K (Ex.exit 0) (qmf v0_0)) m x0 x1 x2
 | 0,x0,x1,x2=>qy ..
 | m+1,x0,x1,x2=>by
  have ih:(fun x0 x1 x2=>LQ qc D n 179 [.r,.r,.l,.r,.l] m (qit x0 x1 x2) K)=qin D n (fun v0_0=>K (Ex.exit 0) (qmf v0_0)) m:=by funext x0 x1 x2;exact q4c D n K m x0 x1 x2
  rw[qbfd]
  rw[ih];rfl
theorem qbdq (D:DX)(n:Nat) (v0_0:tIxs) :
 (CQ qc D n 179 [] [.r,.r,.l,.r,.l] (qh qc 179)) (Ex.exit 0) (qmf v0_0)=qmp D n v0_0:=by kernel_rfl
theorem qbd4 (D:DX)(n:Nat) (x0:tIxs) (x1:Int) (x2:tIxs) :
 LQ qc D n 179 [.r,.r,.l,.r,.l] n (qit x0 x1 x2) (CQ qc D n 179 [] [.r,.r,.l,.r,.l] (qh qc 179))=qu9 D n x0 x1 x2:=by
 rw[q4c]
 simp only[qbdq]
 rfl
theorem qblr (D:DX)(n:Nat) (a0:tIxs):rfC qc D n 179 (a0,())=qyx D n a0:=by
 have h:rfC qc D n 179 (a0,())=qxq D n (fun x0 x1 x2=>LQ qc D n 179 [.r,.r,.l,.r,.l] n (qit x0 x1 x2) (CQ qc D n 179 [] [.r,.r,.l,.r,.l] (qh qc 179))) a0:=by kernel_rfl
 rw[h]
 simp only[qbd4]
 rfl

def q1g (D:DX)(n:Nat) (go:qk→qk→Int→Option ((Bool×Unit)×Unit)) (K0:Bool→Option ((Bool×Unit)×Unit)) (K1:Option ((Bool×Unit)×Unit)) (x0:qk) (x1:qk) (x2:Int):Option ((Bool×Unit)×Unit):=br (decide (x2<(↑(List.length x0):Int))) (br (decide (0≤x2)&&decide (x2<(↑(List.length x0):Int))) (br (decide (0≤x2)&&decide (x2<(↑(List.length x1):Int))) (qi (qzs D (List.getD x0 (Int.toNat x2) (ByteArray.empty,0,false,())) (List.getD x1 (Int.toNat x2) (ByteArray.empty,0,false,()))) fun b↦br (!Prod.fst (Prod.fst b)) (K0 false) (go x0 x1 (IntKind.wrap IntKind.i64 (x2+1)))) none) none) K1
def qkp (D:DX)(n:Nat) (K0:Bool→Option ((Bool×Unit)×Unit)) (K1:Option ((Bool×Unit)×Unit)):Nat→(qk)→(qk)→(Int)→Option ((Bool×Unit)×Unit) | 0=>(fun x0 x1 x2=>none) | m+1=>(fun x0 x1 x2=>q1g D n (qkp D n K0 K1 m) K0 K1 x0 x1 x2)
def qpv (D:DX)(n:Nat) (v0_0:Bool):Option ((Bool×Unit)×Unit):=some ((v0_0,()),())
def qpx (D:DX)(n:Nat):Option ((Bool×Unit)×Unit):=some ((true,()),())
def qx5 (D:DX)(n:Nat):(qk)→(qk)→(Int)→Option ((Bool×Unit)×Unit):=(fun x0 x1 x2=>qkp D n (fun v0_0=>qpv D n v0_0) (qpx D n) n x0 x1 x2)
def q3b (D:DX)(n:Nat) (lp0:qk→qk→Int→Option ((Bool×Unit)×Unit)) (a0:qk) (a1:qk):Option ((Bool×Unit)×Unit):=br ((↑(List.length a0):Int) != (↑(List.length a1):Int)) (some ((false,()),())) (lp0 a0 a1 0)
def q29 (D:DX)(n:Nat) (a0:qk) (a1:qk):Option ((Bool×Unit)×Unit):=q3b D n (qx5 D n) a0 a1
def qks (x0:qk) (x1:qk) (x2:Int):St:=stq 27 [(0,AV.val (Ty.sl yC) x0),(1,AV.val (Ty.sl yC) x1),(5,avI x2)] [] 
def qpm (v0_0:Bool):St:=stq 27 [(4,AV.val Ty.bool v0_0)] [] 
def qpe:St:=stq 27 [] [] 
theorem qblc (D:DX)(n:Nat) (m:Nat) (K:Ex→St→Option (Out ctx 180)) (x0:qk) (x1:qk) (x2:Int) :
 LQ qc D n 180 [.r,.r,.l,.r,.l] (m+1) (qks x0 x1 x2) K=q1g D n (fun x0 x1 x2=>LQ qc D n 180 [.r,.r,.l,.r,.l] m (qks x0 x1 x2) K) (fun v0_0=>K (Ex.ret) (qpm v0_0)) (K (Ex.exit 0) (qpe)) x0 x1 x2:=by kernel_rfl
theorem q66 (D:DX)(n:Nat) (K:Ex→St→Option (Out ctx 180)):∀ (m:Nat) (x0:qk) (x1:qk) (x2:Int),LQ qc D n 180 [.r,.r,.l,.r,.l] m (qks x0 x1 x2) K=qkp D n (fun v0_0=>K (Ex.ret) (qpm v0_0)) (K (Ex.exit 0) (qpe)) m x0 x1 x2
 | 0,x0,x1,x2=>qy ..
 | m+1,x0,x1,x2=>by
  have ih:(fun x0 x1 x2=>LQ qc D n 180 [.r,.r,.l,.r,.l] m (qks x0 x1 x2) K)=qkp D n (fun v0_0=>K (Ex.ret) (qpm v0_0)) (K (Ex.exit 0) (qpe)) m:=by funext x0 x1 x2;exact q66 D n K m x0 x1 x2
  rw[qblc]
  rw[ih];rfl
theorem qbhz (D:DX)(n:Nat) (v0_0:Bool) :
 (CQ qc D n 180 [] [.r,.r,.l,.r,.l] (qh qc 180)) (Ex.ret) (qpm v0_0)=qpv D n v0_0:=by kernel_rfl
theorem qbh0 (D:DX)(n:Nat) :
 (CQ qc D n 180 [] [.r,.r,.l,.r,.l] (qh qc 180)) (Ex.exit 0) (qpe)=qpx D n:=by kernel_rfl
theorem qbhs (D:DX)(n:Nat) (x0:qk) (x1:qk) (x2:Int) :
 LQ qc D n 180 [.r,.r,.l,.r,.l] n (qks x0 x1 x2) (CQ qc D n 180 [] [.r,.r,.l,.r,.l] (qh qc 180))=qx5 D n x0 x1 x2:=by
 rw[q66]
 simp only[qbhz,qbh0]
 rfl
theorem qbo8 (D:DX)(n:Nat) (a0:qk) (a1:qk):rfC qc D n 180 (a0,(a1,()))=q29 D n a0 a1:=by
 have h:rfC qc D n 180 (a0,(a1,()))=q3b D n (fun x0 x1 x2=>LQ qc D n 180 [.r,.r,.l,.r,.l] n (qks x0 x1 x2) (CQ qc D n 180 [] [.r,.r,.l,.r,.l] (qh qc 180))) a0 a1:=by kernel_rfl
 rw[h]
 simp only[qbhs]
 rfl

def q1h (D:DX)(n:Nat) (go:List Int→List Int→Int→Option ((Bool×Unit)×Unit)) (K0:Bool→Option ((Bool×Unit)×Unit)) (K1:Option ((Bool×Unit)×Unit)) (x0:List Int) (x1:List Int) (x2:Int):Option ((Bool×Unit)×Unit):=br (decide (x2<(↑(List.length x0):Int))) (br (decide (0≤x2)&&decide (x2<(↑(List.length x0):Int))) (br (decide (0≤x2)&&decide (x2<(↑(List.length x1):Int))) (br (List.getD x0 (Int.toNat x2) 0 != List.getD x1 (Int.toNat x2) 0) (K0 false) (go x0 x1 (IntKind.wrap IntKind.i64 (x2+1)))) none) none) K1
def qko (D:DX)(n:Nat) (K0:Bool→Option ((Bool×Unit)×Unit)) (K1:Option ((Bool×Unit)×Unit)):Nat→(List Int)→(List Int)→(Int)→Option ((Bool×Unit)×Unit) | 0=>(fun x0 x1 x2=>none) | m+1=>(fun x0 x1 x2=>q1h D n (qko D n K0 K1 m) K0 K1 x0 x1 x2)
def qo5 (D:DX)(n:Nat) (v0_0:Bool):Option ((Bool×Unit)×Unit):=some ((v0_0,()),())
def qpk (D:DX)(n:Nat):Option ((Bool×Unit)×Unit):=some ((true,()),())
def qyc (D:DX)(n:Nat):(List Int)→(List Int)→(Int)→Option ((Bool×Unit)×Unit):=(fun x0 x1 x2=>qko D n (fun v0_0=>qo5 D n v0_0) (qpk D n) n x0 x1 x2)
def q3a (D:DX)(n:Nat) (lp0:List Int→List Int→Int→Option ((Bool×Unit)×Unit)) (a0:List Int) (a1:List Int):Option ((Bool×Unit)×Unit):=br ((↑(List.length a0):Int) != (↑(List.length a1):Int)) (some ((false,()),())) (lp0 a0 a1 0)
def q3l (D:DX)(n:Nat) (a0:List Int) (a1:List Int):Option ((Bool×Unit)×Unit):=q3a D n (qyc D n) a0 a1
def qkl (x0:List Int) (x1:List Int) (x2:Int):St:=stq 26 [(0,AV.val (Ty.sl yI) x0),(1,AV.val (Ty.sl yI) x1),(5,avI x2)] [] 
def qpu (v0_0:Bool):St:=stq 26 [(4,AV.val Ty.bool v0_0)] [] 
def qpr:St:=stq 26 [] [] 
theorem qbkt (D:DX)(n:Nat) (m:Nat) (K:Ex→St→Option (Out ctx 181)) (x0:List Int) (x1:List Int) (x2:Int) :
 LQ qc D n 181 [.r,.r,.l,.r,.l] (m+1) (qkl x0 x1 x2) K=q1h D n (fun x0 x1 x2=>LQ qc D n 181 [.r,.r,.l,.r,.l] m (qkl x0 x1 x2) K) (fun v0_0=>K (Ex.ret) (qpu v0_0)) (K (Ex.exit 0) (qpr)) x0 x1 x2:=by kernel_rfl
theorem q7h (D:DX)(n:Nat) (K:Ex→St→Option (Out ctx 181)):∀ (m:Nat) (x0:List Int) (x1:List Int) (x2:Int),LQ qc D n 181 [.r,.r,.l,.r,.l] m (qkl x0 x1 x2) K=qko D n (fun v0_0=>K (Ex.ret) (qpu v0_0)) (K (Ex.exit 0) (qpr)) m x0 x1 x2
 | 0,x0,x1,x2=>qy ..
 | m+1,x0,x1,x2=>by
  have ih:(fun x0 x1 x2=>LQ qc D n 181 [.r,.r,.l,.r,.l] m (qkl x0 x1 x2) K)=qko D n (fun v0_0=>K (Ex.ret) (qpu v0_0)) (K (Ex.exit 0) (qpr)) m:=by funext x0 x1 x2;exact q7h D n K m x0 x1 x2
  rw[qbkt]
  rw[ih];rfl
theorem qbhg (D:DX)(n:Nat) (v0_0:Bool) :
 (CQ qc D n 181 [] [.r,.r,.l,.r,.l] (qh qc 181)) (Ex.ret) (qpu v0_0)=qo5 D n v0_0:=by kernel_rfl
theorem qbiy (D:DX)(n:Nat) :
 (CQ qc D n 181 [] [.r,.r,.l,.r,.l] (qh qc 181)) (Ex.exit 0) (qpr)=qpk D n:=by kernel_rfl
theorem qbiq (D:DX)(n:Nat) (x0:List Int) (x1:List Int) (x2:Int) :
 LQ qc D n 181 [.r,.r,.l,.r,.l] n (qkl x0 x1 x2) (CQ qc D n 181 [] [.r,.r,.l,.r,.l] (qh qc 181))=qyc D n x0 x1 x2:=by
 rw[q7h]
 simp only[qbhg,qbiy]
 rfl
theorem qbo2 (D:DX)(n:Nat) (a0:List Int) (a1:List Int):rfC qc D n 181 (a0,(a1,()))=q3l D n a0 a1:=by
 have h:rfC qc D n 181 (a0,(a1,()))=q3a D n (fun x0 x1 x2=>LQ qc D n 181 [.r,.r,.l,.r,.l] n (qkl x0 x1 x2) (CQ qc D n 181 [] [.r,.r,.l,.r,.l] (qh qc 181))) a0 a1:=by kernel_rfl
 rw[h]
 simp only[qbiq]
 rfl

def qwf (D:DX)(n:Nat) (go:tIxs→tIxs→Int→Option ((Bool×Unit)×Unit)) (K0:Bool→Option ((Bool×Unit)×Unit)) (K1:Option ((Bool×Unit)×Unit)) (x0:tIxs) (x1:tIxs) (x2:Int):Option ((Bool×Unit)×Unit):=br (decide (x2<(↑(List.length x0):Int))) (br (decide (0≤x2)&&decide (x2<(↑(List.length x0):Int))) (br (decide (0≤x2)&&decide (x2<(↑(List.length x1):Int))) (qi (qtj D (List.getD x0 (Int.toNat x2) (ByteArray.empty,[],false,())) (List.getD x1 (Int.toNat x2) (ByteArray.empty,[],false,()))) fun b↦br (!Prod.fst (Prod.fst b)) (K0 false) (go x0 x1 (IntKind.wrap IntKind.i64 (x2+1)))) none) none) K1
def qh2 (D:DX)(n:Nat) (K0:Bool→Option ((Bool×Unit)×Unit)) (K1:Option ((Bool×Unit)×Unit)):Nat→(tIxs)→(tIxs)→(Int)→Option ((Bool×Unit)×Unit) | 0=>(fun x0 x1 x2=>none) | m+1=>(fun x0 x1 x2=>qwf D n (qh2 D n K0 K1 m) K0 K1 x0 x1 x2)
def qma (D:DX)(n:Nat) (v0_0:Bool):Option ((Bool×Unit)×Unit):=some ((v0_0,()),())
def qm0 (D:DX)(n:Nat):Option ((Bool×Unit)×Unit):=some ((true,()),())
def qt9 (D:DX)(n:Nat):(tIxs)→(tIxs)→(Int)→Option ((Bool×Unit)×Unit):=(fun x0 x1 x2=>qh2 D n (fun v0_0=>qma D n v0_0) (qm0 D n) n x0 x1 x2)
def qyp (D:DX)(n:Nat) (lp0:tIxs→tIxs→Int→Option ((Bool×Unit)×Unit)) (a0:tIxs) (a1:tIxs):Option ((Bool×Unit)×Unit):=br ((↑(List.length a0):Int) != (↑(List.length a1):Int)) (some ((false,()),())) (lp0 a0 a1 0)
def qzl (D:DX)(n:Nat) (a0:tIxs) (a1:tIxs):Option ((Bool×Unit)×Unit):=qyp D n (qt9 D n) a0 a1
def qh9 (x0:tIxs) (x1:tIxs) (x2:Int):St:=stq 27 [(0,AV.val (Ty.sl yX) x0),(1,AV.val (Ty.sl yX) x1),(5,avI x2)] [] 
def qml (v0_0:Bool):St:=stq 27 [(4,AV.val Ty.bool v0_0)] [] 
def qmc:St:=stq 27 [] [] 
theorem qbez (D:DX)(n:Nat) (m:Nat) (K:Ex→St→Option (Out ctx 182)) (x0:tIxs) (x1:tIxs) (x2:Int) :
 LQ qc D n 182 [.r,.r,.l,.r,.l] (m+1) (qh9 x0 x1 x2) K=qwf D n (fun x0 x1 x2=>LQ qc D n 182 [.r,.r,.l,.r,.l] m (qh9 x0 x1 x2) K) (fun v0_0=>K (Ex.ret) (qml v0_0)) (K (Ex.exit 0) (qmc)) x0 x1 x2:=by kernel_rfl
theorem q4f (D:DX)(n:Nat) (K:Ex→St→Option (Out ctx 182)):∀ (m:Nat) (x0:tIxs) (x1:tIxs) (x2:Int),LQ qc D n 182 [.r,.r,.l,.r,.l] m (qh9 x0 x1 x2) K=qh2 D n (fun v0_0=>K (Ex.ret) (qml v0_0)) (K (Ex.exit 0) (qmc)) m x0 x1 x2
 | 0,x0,x1,x2=>qy ..
 | m+1,x0,x1,x2=>by
  have ih:(fun x0 x1 x2=>LQ qc D n 182 [.r,.r,.l,.r,.l] m (qh9 x0 x1 x2) K)=qh2 D n (fun v0_0=>K (Ex.ret) (qml v0_0)) (K (Ex.exit 0) (qmc)) m:=by funext x0 x1 x2;exact q4f D n K m x0 x1 x2
  rw[qbez]
  rw[ih];rfl
theorem qbd2 (D:DX)(n:Nat) (v0_0:Bool) :
 (CQ qc D n 182 [] [.r,.r,.l,.r,.l] (qh qc 182)) (Ex.ret) (qml v0_0)=qma D n v0_0:=by kernel_rfl
theorem qbde (D:DX)(n:Nat) :
 (CQ qc D n 182 [] [.r,.r,.l,.r,.l] (qh qc 182)) (Ex.exit 0) (qmc)=qm0 D n:=by kernel_rfl
theorem qbc2 (D:DX)(n:Nat) (x0:tIxs) (x1:tIxs) (x2:Int) :
 LQ qc D n 182 [.r,.r,.l,.r,.l] n (qh9 x0 x1 x2) (CQ qc D n 182 [] [.r,.r,.l,.r,.l] (qh qc 182))=qt9 D n x0 x1 x2:=by
 rw[q4f]
 simp only[qbd2,qbde]
 rfl
theorem qbkm (D:DX)(n:Nat) (a0:tIxs) (a1:tIxs):rfC qc D n 182 (a0,(a1,()))=qzl D n a0 a1:=by
 have h:rfC qc D n 182 (a0,(a1,()))=qyp D n (fun x0 x1 x2=>LQ qc D n 182 [.r,.r,.l,.r,.l] n (qh9 x0 x1 x2) (CQ qc D n 182 [] [.r,.r,.l,.r,.l] (qh qc 182))) a0 a1:=by kernel_rfl
 rw[h]
 simp only[qbc2]
 rfl

def qv1 (D:DX)(n:Nat) (go:Int→Int→qk→Option ((Int×Unit)×qk×Unit)) (K0:Int→qk→Option ((Int×Unit)×qk×Unit)) (x0:Int) (x1:Int) (x2:qk):Option ((Int×Unit)×qk×Unit):=br (decide (x1<(↑(List.length x2):Int))) (qi (qe3 D x0) fun b↦br (decide (0≤x1)&&decide (x1<(↑(List.length x2):Int))) (br (decide (0≤x1)&&decide (x1<(↑(List.length (List.set x2 (Int.toNat x1) (Prod.fst (Prod.fst b),Prod.snd (List.getD x2 (Int.toNat x1) (ByteArray.empty,0,false,()))))):Int))) (br (decide (0≤x1)&&decide (x1<(↑(List.length (List.set (List.set x2 (Int.toNat x1) (Prod.fst (Prod.fst b),Prod.snd (List.getD x2 (Int.toNat x1) (ByteArray.empty,0,false,())))) (Int.toNat x1) (Prod.fst (List.getD (List.set x2 (Int.toNat x1) (Prod.fst (Prod.fst b),Prod.snd (List.getD x2 (Int.toNat x1) (ByteArray.empty,0,false,())))) (Int.toNat x1) (ByteArray.empty,0,false,())),IntKind.wrap IntKind.i64 (x0+1),Prod.snd (Prod.snd (List.getD (List.set x2 (Int.toNat x1) (Prod.fst (Prod.fst b),Prod.snd (List.getD x2 (Int.toNat x1) (ByteArray.empty,0,false,())))) (Int.toNat x1) (ByteArray.empty,0,false,())))))):Int))) (go (IntKind.wrap IntKind.i64 (IntKind.wrap IntKind.i64 (IntKind.wrap IntKind.i64 (x0+1)+1)+1)) (IntKind.wrap IntKind.i64 (x1+1)) (List.set (List.set (List.set x2 (Int.toNat x1) (Prod.fst (Prod.fst b),Prod.snd (List.getD x2 (Int.toNat x1) (ByteArray.empty,0,false,())))) (Int.toNat x1) (Prod.fst (List.getD (List.set x2 (Int.toNat x1) (Prod.fst (Prod.fst b),Prod.snd (List.getD x2 (Int.toNat x1) (ByteArray.empty,0,false,())))) (Int.toNat x1) (ByteArray.empty,0,false,())),IntKind.wrap IntKind.i64 (x0+1),Prod.snd (Prod.snd (List.getD (List.set x2 (Int.toNat x1) (Prod.fst (Prod.fst b),Prod.snd (List.getD x2 (Int.toNat x1) (ByteArray.empty,0,false,())))) (Int.toNat x1) (ByteArray.empty,0,false,()))))) (Int.toNat x1) (Prod.fst (List.getD (List.set (List.set x2 (Int.toNat x1) (Prod.fst (Prod.fst b),Prod.snd (List.getD x2 (Int.toNat x1) (ByteArray.empty,0,false,())))) (Int.toNat x1) (Prod.fst (List.getD (List.set x2 (Int.toNat x1) (Prod.fst (Prod.fst b),Prod.snd (List.getD x2 (Int.toNat x1) (ByteArray.empty,0,false,())))) (Int.toNat x1) (ByteArray.empty,0,false,())),IntKind.wrap IntKind.i64 (x0+1),Prod.snd (Prod.snd (List.getD (List.set x2 (Int.toNat x1) (Prod.fst (Prod.fst b),Prod.snd (List.getD x2 (Int.toNat x1) (ByteArray.empty,0,false,())))) (Int.toNat x1) (ByteArray.empty,0,false,()))))) (Int.toNat x1) (ByteArray.empty,0,false,())),Prod.fst (Prod.snd (List.getD (List.set (List.set x2 (Int.toNat x1) (Prod.fst (Prod.fst b),Prod.snd (List.getD x2 (Int.toNat x1) (ByteArray.empty,0,false,())))) (Int.toNat x1) (Prod.fst (List.getD (List.set x2 (Int.toNat x1) (Prod.fst (Prod.fst b),Prod.snd (List.getD x2 (Int.toNat x1) (ByteArray.empty,0,false,())))) (Int.toNat x1) (ByteArray.empty,0,false,())),IntKind.wrap IntKind.i64 (x0+1),Prod.snd (Prod.snd (List.getD (List.set x2 (Int.toNat x1) (Prod.fst (Prod.fst b),Prod.snd (List.getD x2 (Int.toNat x1) (ByteArray.empty,0,false,())))) (Int.toNat x1) (ByteArray.empty,0,false,()))))) (Int.toNat x1) (ByteArray.empty,0,false,()))),decide (Int.tmod (IntKind.wrap IntKind.i64 (IntKind.wrap IntKind.i64 (x0+1)+1)) 3=0),Prod.snd (Prod.snd (Prod.snd (List.getD (List.set (List.set x2 (Int.toNat x1) (Prod.fst (Prod.fst b),Prod.snd (List.getD x2 (Int.toNat x1) (ByteArray.empty,0,false,())))) (Int.toNat x1) (Prod.fst (List.getD (List.set x2 (Int.toNat x1) (Prod.fst (Prod.fst b),Prod.snd (List.getD x2 (Int.toNat x1) (ByteArray.empty,0,false,())))) (Int.toNat x1) (ByteArray.empty,0,false,())),IntKind.wrap IntKind.i64 (x0+1),Prod.snd (Prod.snd (List.getD (List.set x2 (Int.toNat x1) (Prod.fst (Prod.fst b),Prod.snd (List.getD x2 (Int.toNat x1) (ByteArray.empty,0,false,())))) (Int.toNat x1) (ByteArray.empty,0,false,()))))) (Int.toNat x1) (ByteArray.empty,0,false,()))))))) none) none) none) (K0 x0 x2)
def qh7 (D:DX)(n:Nat) (K0:Int→qk→Option ((Int×Unit)×qk×Unit)):Nat→(Int)→(Int)→(qk)→Option ((Int×Unit)×qk×Unit) | 0=>(fun x0 x1 x2=>none) | m+1=>(fun x0 x1 x2=>qv1 D n (qh7 D n K0 m) K0 x0 x1 x2)
def qnb (D:DX)(n:Nat) (v0_0:Int) (v0_1:qk):Option ((Int×Unit)×qk×Unit):=some ((v0_0,()),v0_1,())
def qu8 (D:DX)(n:Nat):(Int)→(Int)→(qk)→Option ((Int×Unit)×qk×Unit):=(fun x0 x1 x2=>qh7 D n (fun v0_0 v0_1=>qnb D n v0_0 v0_1) n x0 x1 x2)
def qyn (D:DX)(n:Nat) (lp0:Int→Int→qk→Option ((Int×Unit)×qk×Unit)) (a0:qk) (a1:Int):Option ((Int×Unit)×qk×Unit):=lp0 a1 0 a0
def qx4 (D:DX)(n:Nat) (a0:qk) (a1:Int):Option ((Int×Unit)×qk×Unit):=qyn D n (qu8 D n) a0 a1
def qiw (x0:Int) (x1:Int) (x2:qk):St:=stq 37 [(0,AV.brw 0 [] 1048576),(1,avI x0),(5,avI x1)] [(0,Root.mk (Ty.sl yC) (Mk.own 1048576 (Mk.pr Mk.no (Mk.pr Mk.no (Mk.pr Mk.no Mk.no)))) x2 false)] 
def qmd (v0_0:Int) (v0_1:qk):St:=stq 37 [(0,AV.brw 0 [] 1048576),(1,avI v0_0)] [(0,Root.mk (Ty.sl yC) (Mk.own 1048576 (Mk.pr Mk.no (Mk.pr Mk.no (Mk.pr Mk.no Mk.no)))) v0_1 false)] 
theorem qbff (D:DX)(n:Nat) (m:Nat) (K:Ex→St→Option (Out ctx 183)) (x0:Int) (x1:Int) (x2:qk) :
 LQ qc D n 183 [.r,.l,.r,.l] (m+1) (qiw x0 x1 x2) K=qv1 D n (fun x0 x1 x2=>LQ qc D n 183 [.r,.l,.r,.l] m (qiw x0 x1 x2) K) (fun v0_0 v0_1=>K (Ex.exit 0) (qmd v0_0 v0_1)) x0 x1 x2:=by kernel_rfl
theorem q4w (D:DX)(n:Nat) (K:Ex→St→Option (Out ctx 183)):∀ (m:Nat) (x0:Int) (x1:Int) (x2:qk),LQ qc D n 183 [.r,.l,.r,.l] m (qiw x0 x1 x2) K=qh7 D n (fun v0_0 v0_1=>K (Ex.exit 0) (qmd v0_0 v0_1)) m x0 x1 x2
 | 0,x0,x1,x2=>qy ..
 | m+1,x0,x1,x2=>by
  have ih:(fun x0 x1 x2=>LQ qc D n 183 [.r,.l,.r,.l] m (qiw x0 x1 x2) K)=qh7 D n (fun v0_0 v0_1=>K (Ex.exit 0) (qmd v0_0 v0_1)) m:=by funext x0 x1 x2;exact q4w D n K m x0 x1 x2
  rw[qbff]
  rw[ih];rfl
theorem qbcx (D:DX)(n:Nat) (v0_0:Int) (v0_1:qk) :
 (CQ qc D n 183 [] [.r,.l,.r,.l] (qh qc 183)) (Ex.exit 0) (qmd v0_0 v0_1)=qnb D n v0_0 v0_1:=by kernel_rfl
theorem qbd7 (D:DX)(n:Nat) (x0:Int) (x1:Int) (x2:qk) :
 LQ qc D n 183 [.r,.l,.r,.l] n (qiw x0 x1 x2) (CQ qc D n 183 [] [.r,.l,.r,.l] (qh qc 183))=qu8 D n x0 x1 x2:=by
 rw[q4w]
 simp only[qbcx]
 rfl
theorem qblz (D:DX)(n:Nat) (a0:qk) (a1:Int):rfC qc D n 183 (a0,(a1,()))=qx4 D n a0 a1:=by
 have h:rfC qc D n 183 (a0,(a1,()))=qyn D n (fun x0 x1 x2=>LQ qc D n 183 [.r,.l,.r,.l] n (qiw x0 x1 x2) (CQ qc D n 183 [] [.r,.l,.r,.l] (qh qc 183))) a0 a1:=by kernel_rfl
 rw[h]
 simp only[qbd7]
 rfl

def qwo (D:DX)(n:Nat) (go:Int→Int→List Int→Option ((Int×Unit)×List Int×Unit)) (K0:Int→List Int→Option ((Int×Unit)×List Int×Unit)) (x0:Int) (x1:Int) (x2:List Int):Option ((Int×Unit)×List Int×Unit):=br (decide (x1<(↑(List.length x2):Int))) (br (decide (0≤x1)&&decide (x1<(↑(List.length x2):Int))) (go (IntKind.wrap IntKind.i64 (x0+1)) (IntKind.wrap IntKind.i64 (x1+1)) (List.set x2 (Int.toNat x1) x0)) none) (K0 x0 x2)
def qh0 (D:DX)(n:Nat) (K0:Int→List Int→Option ((Int×Unit)×List Int×Unit)):Nat→(Int)→(Int)→(List Int)→Option ((Int×Unit)×List Int×Unit) | 0=>(fun x0 x1 x2=>none) | m+1=>(fun x0 x1 x2=>qwo D n (qh0 D n K0 m) K0 x0 x1 x2)
def qmj (D:DX)(n:Nat) (v0_0:Int) (v0_1:List Int):Option ((Int×Unit)×List Int×Unit):=some ((v0_0,()),v0_1,())
def qt2 (D:DX)(n:Nat):(Int)→(Int)→(List Int)→Option ((Int×Unit)×List Int×Unit):=(fun x0 x1 x2=>qh0 D n (fun v0_0 v0_1=>qmj D n v0_0 v0_1) n x0 x1 x2)
def qxj (D:DX)(n:Nat) (lp0:Int→Int→List Int→Option ((Int×Unit)×List Int×Unit)) (a0:List Int) (a1:Int):Option ((Int×Unit)×List Int×Unit):=lp0 a1 0 a0
def qyj (D:DX)(n:Nat) (a0:List Int) (a1:Int):Option ((Int×Unit)×List Int×Unit):=qxj D n (qt2 D n) a0 a1
def qim (x0:Int) (x1:Int) (x2:List Int):St:=stq 19 [(0,AV.brw 0 [] 1048576),(1,avI x0),(5,avI x1)] [(0,Root.mk (Ty.sl yI) (Mk.own 1048576 Mk.no) x2 false)] 
def qm6 (v0_0:Int) (v0_1:List Int):St:=stq 19 [(0,AV.brw 0 [] 1048576),(1,avI v0_0)] [(0,Root.mk (Ty.sl yI) (Mk.own 1048576 Mk.no) v0_1 false)] 
theorem qbe9 (D:DX)(n:Nat) (m:Nat) (K:Ex→St→Option (Out ctx 184)) (x0:Int) (x1:Int) (x2:List Int) :
 LQ qc D n 184 [.r,.l,.r,.l] (m+1) (qim x0 x1 x2) K=qwo D n (fun x0 x1 x2=>LQ qc D n 184 [.r,.l,.r,.l] m (qim x0 x1 x2) K) (fun v0_0 v0_1=>K (Ex.exit 0) (qm6 v0_0 v0_1)) x0 x1 x2:=by kernel_rfl
theorem q4l (D:DX)(n:Nat) (K:Ex→St→Option (Out ctx 184)):∀ (m:Nat) (x0:Int) (x1:Int) (x2:List Int),LQ qc D n 184 [.r,.l,.r,.l] m (qim x0 x1 x2) K=qh0 D n (fun v0_0 v0_1=>K (Ex.exit 0) (qm6 v0_0 v0_1)) m x0 x1 x2
 | 0,x0,x1,x2=>qy ..
 | m+1,x0,x1,x2=>by
  have ih:(fun x0 x1 x2=>LQ qc D n 184 [.r,.l,.r,.l] m (qim x0 x1 x2) K)=qh0 D n (fun v0_0 v0_1=>K (Ex.exit 0) (qm6 v0_0 v0_1)) m:=by funext x0 x1 x2;exact q4l D n K m x0 x1 x2
  rw[qbe9]
  rw[ih];rfl
theorem qbcm (D:DX)(n:Nat) (v0_0:Int) (v0_1:List Int) :
 (CQ qc D n 184 [] [.r,.l,.r,.l] (qh qc 184)) (Ex.exit 0) (qm6 v0_0 v0_1)=qmj D n v0_0 v0_1:=by kernel_rfl
theorem qbd1 (D:DX)(n:Nat) (x0:Int) (x1:Int) (x2:List Int) :
 LQ qc D n 184 [.r,.l,.r,.l] n (qim x0 x1 x2) (CQ qc D n 184 [] [.r,.l,.r,.l] (qh qc 184))=qt2 D n x0 x1 x2:=by
 rw[q4l]
 simp only[qbcm]
 rfl
theorem qbl2 (D:DX)(n:Nat) (a0:List Int) (a1:Int):rfC qc D n 184 (a0,(a1,()))=qyj D n a0 a1:=by
 have h:rfC qc D n 184 (a0,(a1,()))=qxj D n (fun x0 x1 x2=>LQ qc D n 184 [.r,.l,.r,.l] n (qim x0 x1 x2) (CQ qc D n 184 [] [.r,.l,.r,.l] (qh qc 184))) a0 a1:=by kernel_rfl
 rw[h]
 simp only[qbd1]
 rfl

def qsh (D:DX)(n:Nat) (go:Int→Int→tIxs→Option ((Int×Unit)×tIxs×Unit)) (K0:Int→tIxs→Option ((Int×Unit)×tIxs×Unit)) (x0:Int) (x1:Int) (x2:tIxs):Option ((Int×Unit)×tIxs×Unit):=br (decide (x1<(↑(List.length x2):Int))) (qi (qe3 D x0) fun b↦br (decide (0≤x1)&&decide (x1<(↑(List.length x2):Int))) (br (decide (0≤x1)&&decide (x1<(↑(List.length (List.set x2 (Int.toNat x1) (Prod.fst (Prod.fst b),Prod.snd (List.getD x2 (Int.toNat x1) (ByteArray.empty,[],false,()))))):Int))) (qi (qmg D (Prod.fst (Prod.snd (List.getD (List.set x2 (Int.toNat x1) (Prod.fst (Prod.fst b),Prod.snd (List.getD x2 (Int.toNat x1) (ByteArray.empty,[],false,())))) (Int.toNat x1) (ByteArray.empty,[],false,())))) (IntKind.wrap IntKind.i64 (x0+1))) fun b_1↦br (qg8 [PK.mutv (Ty.sl (Ty.int IntKind.i64)) (Mk.top (Ty.sl (Ty.int IntKind.i64))) (Mk.top (Ty.sl (Ty.int IntKind.i64))),PK.val (Ty.int IntKind.i64)] (List.map (ev (St.mk [AV.brw 0 [] 1048576,AV.val (Ty.int IntKind.i64) (IntKind.wrap IntKind.i64 (x0+1)),AV.undef,AV.undef,AV.undef,AV.val (Ty.int IntKind.i64) x1,AV.val (Ty.int IntKind.i64) x1,AV.brw 0 [] 1048576,AV.val (Ty.int IntKind.i64) (↑(List.length x2):Int),AV.val Ty.bool (decide (x1<(↑(List.length x2):Int))),AV.undef,AV.undef,AV.brw 0 [] 1048576,AV.val (Ty.int IntKind.i64) x1,AV.val (Ty.int IntKind.i64) x0,AV.val Ty.str (Prod.fst (Prod.fst b)),AV.addr 0 [Stp.idx (Int.toNat x1) 1048576],AV.addr 0 [Stp.idx (Int.toNat x1) 1048576,Stp.fst],AV.val (Ty.int IntKind.i64) x0,AV.val (Ty.int IntKind.i64) (IntKind.wrap IntKind.i64 (x0+1)),AV.brw 0 [] 1048576,AV.val (Ty.int IntKind.i64) x1,AV.addr 0 [Stp.idx (Int.toNat x1) 1048576],AV.addr 0 [Stp.idx (Int.toNat x1) 1048576,Stp.snd,Stp.fst],AV.brw 0 [Stp.idx (Int.toNat x1) 1048576,Stp.snd,Stp.fst] 0,AV.val (Ty.int IntKind.i64) (IntKind.wrap IntKind.i64 (x0+1)),AV.undef,AV.undef,AV.undef,AV.undef,AV.undef,AV.undef,AV.undef,AV.undef,AV.undef,AV.undef,AV.undef] [some (Root.mk (Ty.sl (Ty.pair Ty.str (Ty.pair (Ty.sl (Ty.int IntKind.i64)) (Ty.pair Ty.bool Ty.unit)))) (Mk.own 1048576 (Mk.pr Mk.no (Mk.pr (Mk.own 0 Mk.no) (Mk.pr Mk.no Mk.no)))) (List.set x2 (Int.toNat x1) (Prod.fst (Prod.fst b),Prod.snd (List.getD x2 (Int.toNat x1) (ByteArray.empty,[],false,())))) false),none,none,none,none,none,none,none,none,none,none,none,none,none,none,none,none,none,none,none,none,none,none,none,none,none,none,none,none,none,none,none,none,none,none,none,none])) [Operand.tmp 24,Operand.tmp 25]++qfk AV.unit)) (br (decide (0≤x1)&&decide (x1<(↑(List.length (List.set (List.set x2 (Int.toNat x1) (Prod.fst (Prod.fst b),Prod.snd (List.getD x2 (Int.toNat x1) (ByteArray.empty,[],false,())))) (Int.toNat x1) (Prod.fst (List.getD (List.set x2 (Int.toNat x1) (Prod.fst (Prod.fst b),Prod.snd (List.getD x2 (Int.toNat x1) (ByteArray.empty,[],false,())))) (Int.toNat x1) (ByteArray.empty,[],false,())),Prod.fst (Prod.snd b_1),Prod.snd (Prod.snd (List.getD (List.set x2 (Int.toNat x1) (Prod.fst (Prod.fst b),Prod.snd (List.getD x2 (Int.toNat x1) (ByteArray.empty,[],false,())))) (Int.toNat x1) (ByteArray.empty,[],false,())))))):Int))) (go (IntKind.wrap IntKind.i64 (Prod.fst (Prod.fst b_1)+1)) (IntKind.wrap IntKind.i64 (x1+1)) (List.set (List.set (List.set x2 (Int.toNat x1) (Prod.fst (Prod.fst b),Prod.snd (List.getD x2 (Int.toNat x1) (ByteArray.empty,[],false,())))) (Int.toNat x1) (Prod.fst (List.getD (List.set x2 (Int.toNat x1) (Prod.fst (Prod.fst b),Prod.snd (List.getD x2 (Int.toNat x1) (ByteArray.empty,[],false,())))) (Int.toNat x1) (ByteArray.empty,[],false,())),Prod.fst (Prod.snd b_1),Prod.snd (Prod.snd (List.getD (List.set x2 (Int.toNat x1) (Prod.fst (Prod.fst b),Prod.snd (List.getD x2 (Int.toNat x1) (ByteArray.empty,[],false,())))) (Int.toNat x1) (ByteArray.empty,[],false,()))))) (Int.toNat x1) (Prod.fst (List.getD (List.set (List.set x2 (Int.toNat x1) (Prod.fst (Prod.fst b),Prod.snd (List.getD x2 (Int.toNat x1) (ByteArray.empty,[],false,())))) (Int.toNat x1) (Prod.fst (List.getD (List.set x2 (Int.toNat x1) (Prod.fst (Prod.fst b),Prod.snd (List.getD x2 (Int.toNat x1) (ByteArray.empty,[],false,())))) (Int.toNat x1) (ByteArray.empty,[],false,())),Prod.fst (Prod.snd b_1),Prod.snd (Prod.snd (List.getD (List.set x2 (Int.toNat x1) (Prod.fst (Prod.fst b),Prod.snd (List.getD x2 (Int.toNat x1) (ByteArray.empty,[],false,())))) (Int.toNat x1) (ByteArray.empty,[],false,()))))) (Int.toNat x1) (ByteArray.empty,[],false,())),Prod.fst (Prod.snd (List.getD (List.set (List.set x2 (Int.toNat x1) (Prod.fst (Prod.fst b),Prod.snd (List.getD x2 (Int.toNat x1) (ByteArray.empty,[],false,())))) (Int.toNat x1) (Prod.fst (List.getD (List.set x2 (Int.toNat x1) (Prod.fst (Prod.fst b),Prod.snd (List.getD x2 (Int.toNat x1) (ByteArray.empty,[],false,())))) (Int.toNat x1) (ByteArray.empty,[],false,())),Prod.fst (Prod.snd b_1),Prod.snd (Prod.snd (List.getD (List.set x2 (Int.toNat x1) (Prod.fst (Prod.fst b),Prod.snd (List.getD x2 (Int.toNat x1) (ByteArray.empty,[],false,())))) (Int.toNat x1) (ByteArray.empty,[],false,()))))) (Int.toNat x1) (ByteArray.empty,[],false,()))),decide (Int.tmod (Prod.fst (Prod.fst b_1)) 3=0),Prod.snd (Prod.snd (Prod.snd (List.getD (List.set (List.set x2 (Int.toNat x1) (Prod.fst (Prod.fst b),Prod.snd (List.getD x2 (Int.toNat x1) (ByteArray.empty,[],false,())))) (Int.toNat x1) (Prod.fst (List.getD (List.set x2 (Int.toNat x1) (Prod.fst (Prod.fst b),Prod.snd (List.getD x2 (Int.toNat x1) (ByteArray.empty,[],false,())))) (Int.toNat x1) (ByteArray.empty,[],false,())),Prod.fst (Prod.snd b_1),Prod.snd (Prod.snd (List.getD (List.set x2 (Int.toNat x1) (Prod.fst (Prod.fst b),Prod.snd (List.getD x2 (Int.toNat x1) (ByteArray.empty,[],false,())))) (Int.toNat x1) (ByteArray.empty,[],false,()))))) (Int.toNat x1) (ByteArray.empty,[],false,()))))))) none) none) none) none) (K0 x0 x2)
def qgi (D:DX)(n:Nat) (K0:Int→tIxs→Option ((Int×Unit)×tIxs×Unit)):Nat→(Int)→(Int)→(tIxs)→Option ((Int×Unit)×tIxs×Unit) | 0=>(fun x0 x1 x2=>none) | m+1=>(fun x0 x1 x2=>qsh D n (qgi D n K0 m) K0 x0 x1 x2)
def qjz (D:DX)(n:Nat) (v0_0:Int) (v0_1:tIxs):Option ((Int×Unit)×tIxs×Unit):=some ((v0_0,()),v0_1,())
def qq4 (D:DX)(n:Nat):(Int)→(Int)→(tIxs)→Option ((Int×Unit)×tIxs×Unit):=(fun x0 x1 x2=>qgi D n (fun v0_0 v0_1=>qjz D n v0_0 v0_1) n x0 x1 x2)
def qvc (D:DX)(n:Nat) (lp0:Int→Int→tIxs→Option ((Int×Unit)×tIxs×Unit)) (a0:tIxs) (a1:Int):Option ((Int×Unit)×tIxs×Unit):=lp0 a1 0 a0
def qum (D:DX)(n:Nat) (a0:tIxs) (a1:Int):Option ((Int×Unit)×tIxs×Unit):=qvc D n (qq4 D n) a0 a1
def qf3 (x0:Int) (x1:Int) (x2:tIxs):St:=stq 37 [(0,AV.brw 0 [] 1048576),(1,avI x0),(5,avI x1)] [(0,Root.mk (Ty.sl yX) (Mk.own 1048576 (Mk.pr Mk.no (Mk.pr (Mk.own 0 Mk.no) (Mk.pr Mk.no Mk.no)))) x2 false)] 
def qkd (v0_0:Int) (v0_1:tIxs):St:=stq 37 [(0,AV.brw 0 [] 1048576),(1,avI v0_0)] [(0,Root.mk (Ty.sl yX) (Mk.own 1048576 (Mk.pr Mk.no (Mk.pr (Mk.own 0 Mk.no) (Mk.pr Mk.no Mk.no)))) v0_1 false)] 
theorem qbax (D:DX)(n:Nat) (m:Nat) (K:Ex→St→Option (Out ctx 185)) (x0:Int) (x1:Int) (x2:tIxs) :
 LQ qc D n 185 [.r,.l,.r,.l] (m+1) (qf3 x0 x1 x2) K=qsh D n (fun x0 x1 x2=>LQ qc D n 185 [.r,.l,.r,.l] m (qf3 x0 x1 x2) K) (fun v0_0 v0_1=>K (Ex.exit 0) (qkd v0_0 v0_1)) x0 x1 x2:=by kernel_rfl
theorem qz8 (D:DX)(n:Nat) (K:Ex→St→Option (Out ctx 185)):∀ (m:Nat) (x0:Int) (x1:Int) (x2:tIxs),LQ qc D n 185 [.r,.l,.r,.l] m (qf3 x0 x1 x2) K=qgi D n (fun v0_0 v0_1=>K (Ex.exit 0) (qkd v0_0 v0_1)) m x0 x1 x2
 | 0,x0,x1,x2=>qy ..
 | m+1,x0,x1,x2=>by
  have ih:(fun x0 x1 x2=>LQ qc D n 185 [.r,.l,.r,.l] m (qf3 x0 x1 x2) K)=qgi D n (fun v0_0 v0_1=>K (Ex.exit 0) (qkd v0_0 v0_1)) m:=by funext x0 x1 x2;exact qz8 D n K m x0 x1 x2
  rw[qbax]
  rw[ih];rfl
theorem q9r (D:DX)(n:Nat) (v0_0:Int) (v0_1:tIxs) :
 (CQ qc D n 185 [] [.r,.l,.r,.l] (qh qc 185)) (Ex.exit 0) (qkd v0_0 v0_1)=qjz D n v0_0 v0_1:=by kernel_rfl
theorem q95 (D:DX)(n:Nat) (x0:Int) (x1:Int) (x2:tIxs) :
 LQ qc D n 185 [.r,.l,.r,.l] n (qf3 x0 x1 x2) (CQ qc D n 185 [] [.r,.l,.r,.l] (qh qc 185))=qq4 D n x0 x1 x2:=by
 rw[qz8]
 simp only[q9r]
 rfl
theorem qbf7 (D:DX)(n:Nat) (a0:tIxs) (a1:Int):rfC qc D n 185 (a0,(a1,()))=qum D n a0 a1:=by
 have h:rfC qc D n 185 (a0,(a1,()))=qvc D n (fun x0 x1 x2=>LQ qc D n 185 [.r,.l,.r,.l] n (qf3 x0 x1 x2) (CQ qc D n 185 [] [.r,.l,.r,.l] (qh qc 185))) a0 a1:=by kernel_rfl
 rw[h]
 simp only[q95]
 rfl

def qw1 (D:DX)(n:Nat) (go:qk→Int→Int→Option ((Int×Unit)×Unit)) (K0:Int→Int→Option ((Int×Unit)×Unit)) (K1:Int→Option ((Int×Unit)×Unit)) (x0:qk) (x1:Int) (x2:Int):Option ((Int×Unit)×Unit):=br (decide (x2<(↑(List.length x0):Int))) (br (decide (0≤x2)&&decide (x2<(↑(List.length x0):Int))) (qi (qe3 D x1) fun b↦br (!List.beq (ByteArray.toList (Prod.fst (List.getD x0 (Int.toNat x2) (ByteArray.empty,0,false,())))) (ByteArray.toList (Prod.fst (Prod.fst b)))) (K0 x1 (-1)) (br (decide (0≤x2)&&decide (x2<(↑(List.length x0):Int))) (br (Prod.fst (Prod.snd (List.getD x0 (Int.toNat x2) (ByteArray.empty,0,false,()))) != IntKind.wrap IntKind.i64 (x1+1)) (K0 (IntKind.wrap IntKind.i64 (x1+1)) (-1)) (br (decide (0≤x2)&&decide (x2<(↑(List.length x0):Int))) (br (!decide (Prod.fst (Prod.snd (Prod.snd (List.getD x0 (Int.toNat x2) (ByteArray.empty,0,false,()))))=decide (Int.tmod (IntKind.wrap IntKind.i64 (IntKind.wrap IntKind.i64 (x1+1)+1)) 3=0))) (K0 (IntKind.wrap IntKind.i64 (IntKind.wrap IntKind.i64 (x1+1)+1)) (-1)) (go x0 (IntKind.wrap IntKind.i64 (IntKind.wrap IntKind.i64 (IntKind.wrap IntKind.i64 (x1+1)+1)+1)) (IntKind.wrap IntKind.i64 (x2+1)))) none)) none)) none) (K1 x1)
def qhz (D:DX)(n:Nat) (K0:Int→Int→Option ((Int×Unit)×Unit)) (K1:Int→Option ((Int×Unit)×Unit)):Nat→(qk)→(Int)→(Int)→Option ((Int×Unit)×Unit) | 0=>(fun x0 x1 x2=>none) | m+1=>(fun x0 x1 x2=>qw1 D n (qhz D n K0 K1 m) K0 K1 x0 x1 x2)
def qsy (D:DX)(n:Nat) (v0_0:Int) (v0_1:Int):Option ((Int×Unit)×Unit):=some ((v0_1,()),())
def ql8 (D:DX)(n:Nat) (v1_0:Int):Option ((Int×Unit)×Unit):=some ((v1_0,()),())
def qug (D:DX)(n:Nat):(qk)→(Int)→(Int)→Option ((Int×Unit)×Unit):=(fun x0 x1 x2=>qhz D n (fun v0_0 v0_1=>qsy D n v0_0 v0_1) (fun v1_0=>ql8 D n v1_0) n x0 x1 x2)
def qx6 (D:DX)(n:Nat) (lp0:qk→Int→Int→Option ((Int×Unit)×Unit)) (a0:qk) (a1:Int):Option ((Int×Unit)×Unit):=lp0 a0 a1 0
def qzf (D:DX)(n:Nat) (a0:qk) (a1:Int):Option ((Int×Unit)×Unit):=qx6 D n (qug D n) a0 a1
def qil (x0:qk) (x1:Int) (x2:Int):St:=stq 43 [(0,AV.val (Ty.sl yC) x0),(1,avI x1),(5,avI x2)] [] 
def qmu (v0_0:Int) (v0_1:Int):St:=stq 43 [(1,avI v0_0),(4,avI v0_1)] [] 
def qm2 (v1_0:Int):St:=stq 43 [(1,avI v1_0)] [] 
theorem qbf6 (D:DX)(n:Nat) (m:Nat) (K:Ex→St→Option (Out ctx 186)) (x0:qk) (x1:Int) (x2:Int) :
 LQ qc D n 186 [.r,.l,.r,.l] (m+1) (qil x0 x1 x2) K=qw1 D n (fun x0 x1 x2=>LQ qc D n 186 [.r,.l,.r,.l] m (qil x0 x1 x2) K) (fun v0_0 v0_1=>K (Ex.ret) (qmu v0_0 v0_1)) (fun v1_0=>K (Ex.exit 0) (qm2 v1_0)) x0 x1 x2:=by kernel_rfl
theorem q4b (D:DX)(n:Nat) (K:Ex→St→Option (Out ctx 186)):∀ (m:Nat) (x0:qk) (x1:Int) (x2:Int),LQ qc D n 186 [.r,.l,.r,.l] m (qil x0 x1 x2) K=qhz D n (fun v0_0 v0_1=>K (Ex.ret) (qmu v0_0 v0_1)) (fun v1_0=>K (Ex.exit 0) (qm2 v1_0)) m x0 x1 x2
 | 0,x0,x1,x2=>qy ..
 | m+1,x0,x1,x2=>by
  have ih:(fun x0 x1 x2=>LQ qc D n 186 [.r,.l,.r,.l] m (qil x0 x1 x2) K)=qhz D n (fun v0_0 v0_1=>K (Ex.ret) (qmu v0_0 v0_1)) (fun v1_0=>K (Ex.exit 0) (qm2 v1_0)) m:=by funext x0 x1 x2;exact q4b D n K m x0 x1 x2
  rw[qbf6]
  rw[ih];rfl
theorem qbdx (D:DX)(n:Nat) (v0_0:Int) (v0_1:Int) :
 (CQ qc D n 186 [] [.r,.l,.r,.l] (qh qc 186)) (Ex.ret) (qmu v0_0 v0_1)=qsy D n v0_0 v0_1:=by kernel_rfl
theorem qbca (D:DX)(n:Nat) (v1_0:Int) :
 (CQ qc D n 186 [] [.r,.l,.r,.l] (qh qc 186)) (Ex.exit 0) (qm2 v1_0)=ql8 D n v1_0:=by kernel_rfl
theorem qbej (D:DX)(n:Nat) (x0:qk) (x1:Int) (x2:Int) :
 LQ qc D n 186 [.r,.l,.r,.l] n (qil x0 x1 x2) (CQ qc D n 186 [] [.r,.l,.r,.l] (qh qc 186))=qug D n x0 x1 x2:=by
 rw[q4b]
 simp only[qbdx,qbca]
 rfl
theorem qbjn (D:DX)(n:Nat) (a0:qk) (a1:Int):rfC qc D n 186 (a0,(a1,()))=qzf D n a0 a1:=by
 have h:rfC qc D n 186 (a0,(a1,()))=qx6 D n (fun x0 x1 x2=>LQ qc D n 186 [.r,.l,.r,.l] n (qil x0 x1 x2) (CQ qc D n 186 [] [.r,.l,.r,.l] (qh qc 186))) a0 a1:=by kernel_rfl
 rw[h]
 simp only[qbej]
 rfl

def qvw (D:DX)(n:Nat) (go:List Int→Int→Int→Option ((Int×Unit)×Unit)) (K0:Int→Int→Option ((Int×Unit)×Unit)) (K1:Int→Option ((Int×Unit)×Unit)) (x0:List Int) (x1:Int) (x2:Int):Option ((Int×Unit)×Unit):=br (decide (x2<(↑(List.length x0):Int))) (br (decide (0≤x2)&&decide (x2<(↑(List.length x0):Int))) (br (List.getD x0 (Int.toNat x2) 0 != x1) (K0 x1 (-1)) (go x0 (IntKind.wrap IntKind.i64 (x1+1)) (IntKind.wrap IntKind.i64 (x2+1)))) none) (K1 x1)
def qhy (D:DX)(n:Nat) (K0:Int→Int→Option ((Int×Unit)×Unit)) (K1:Int→Option ((Int×Unit)×Unit)):Nat→(List Int)→(Int)→(Int)→Option ((Int×Unit)×Unit) | 0=>(fun x0 x1 x2=>none) | m+1=>(fun x0 x1 x2=>qvw D n (qhy D n K0 K1 m) K0 K1 x0 x1 x2)
def qsr (D:DX)(n:Nat) (v0_0:Int) (v0_1:Int):Option ((Int×Unit)×Unit):=some ((v0_1,()),())
def qnc (D:DX)(n:Nat) (v1_0:Int):Option ((Int×Unit)×Unit):=some ((v1_0,()),())
def quw (D:DX)(n:Nat):(List Int)→(Int)→(Int)→Option ((Int×Unit)×Unit):=(fun x0 x1 x2=>qhy D n (fun v0_0 v0_1=>qsr D n v0_0 v0_1) (fun v1_0=>qnc D n v1_0) n x0 x1 x2)
def qzm (D:DX)(n:Nat) (lp0:List Int→Int→Int→Option ((Int×Unit)×Unit)) (a0:List Int) (a1:Int):Option ((Int×Unit)×Unit):=lp0 a0 a1 0
def qy3 (D:DX)(n:Nat) (a0:List Int) (a1:Int):Option ((Int×Unit)×Unit):=qzm D n (quw D n) a0 a1
def qik (x0:List Int) (x1:Int) (x2:Int):St:=stq 21 [(0,AV.val (Ty.sl yI) x0),(1,avI x1),(5,avI x2)] [] 
def qmx (v0_0:Int) (v0_1:Int):St:=stq 21 [(1,avI v0_0),(4,avI v0_1)] [] 
def qmq (v1_0:Int):St:=stq 21 [(1,avI v1_0)] [] 
theorem qbgd (D:DX)(n:Nat) (m:Nat) (K:Ex→St→Option (Out ctx 187)) (x0:List Int) (x1:Int) (x2:Int) :
 LQ qc D n 187 [.r,.l,.r,.l] (m+1) (qik x0 x1 x2) K=qvw D n (fun x0 x1 x2=>LQ qc D n 187 [.r,.l,.r,.l] m (qik x0 x1 x2) K) (fun v0_0 v0_1=>K (Ex.ret) (qmx v0_0 v0_1)) (fun v1_0=>K (Ex.exit 0) (qmq v1_0)) x0 x1 x2:=by kernel_rfl
theorem q4j (D:DX)(n:Nat) (K:Ex→St→Option (Out ctx 187)):∀ (m:Nat) (x0:List Int) (x1:Int) (x2:Int),LQ qc D n 187 [.r,.l,.r,.l] m (qik x0 x1 x2) K=qhy D n (fun v0_0 v0_1=>K (Ex.ret) (qmx v0_0 v0_1)) (fun v1_0=>K (Ex.exit 0) (qmq v1_0)) m x0 x1 x2
 | 0,x0,x1,x2=>qy ..
 | m+1,x0,x1,x2=>by
  have ih:(fun x0 x1 x2=>LQ qc D n 187 [.r,.l,.r,.l] m (qik x0 x1 x2) K)=qhy D n (fun v0_0 v0_1=>K (Ex.ret) (qmx v0_0 v0_1)) (fun v1_0=>K (Ex.exit 0) (qmq v1_0)) m:=by funext x0 x1 x2;exact q4j D n K m x0 x1 x2
  rw[qbgd]
  rw[ih];rfl
theorem qbek (D:DX)(n:Nat) (v0_0:Int) (v0_1:Int) :
 (CQ qc D n 187 [] [.r,.l,.r,.l] (qh qc 187)) (Ex.ret) (qmx v0_0 v0_1)=qsr D n v0_0 v0_1:=by kernel_rfl
theorem qbcf (D:DX)(n:Nat) (v1_0:Int) :
 (CQ qc D n 187 [] [.r,.l,.r,.l] (qh qc 187)) (Ex.exit 0) (qmq v1_0)=qnc D n v1_0:=by kernel_rfl
theorem qbeb (D:DX)(n:Nat) (x0:List Int) (x1:Int) (x2:Int) :
 LQ qc D n 187 [.r,.l,.r,.l] n (qik x0 x1 x2) (CQ qc D n 187 [] [.r,.l,.r,.l] (qh qc 187))=quw D n x0 x1 x2:=by
 rw[q4j]
 simp only[qbek,qbcf]
 rfl
theorem qbjm (D:DX)(n:Nat) (a0:List Int) (a1:Int):rfC qc D n 187 (a0,(a1,()))=qy3 D n a0 a1:=by
 have h:rfC qc D n 187 (a0,(a1,()))=qzm D n (fun x0 x1 x2=>LQ qc D n 187 [.r,.l,.r,.l] n (qik x0 x1 x2) (CQ qc D n 187 [] [.r,.l,.r,.l] (qh qc 187))) a0 a1:=by kernel_rfl
 rw[h]
 simp only[qbeb]
 rfl

def qs2 (D:DX)(n:Nat) (go:tIxs→Int→Int→Option ((Int×Unit)×Unit)) (K0:Int→Int→Option ((Int×Unit)×Unit)) (K1:Int→Option ((Int×Unit)×Unit)) (x0:tIxs) (x1:Int) (x2:Int):Option ((Int×Unit)×Unit):=br (decide (x2<(↑(List.length x0):Int))) (br (decide (0≤x2)&&decide (x2<(↑(List.length x0):Int))) (qi (qe3 D x1) fun b↦br (!List.beq (ByteArray.toList (Prod.fst (List.getD x0 (Int.toNat x2) (ByteArray.empty,[],false,())))) (ByteArray.toList (Prod.fst (Prod.fst b)))) (K0 x1 (-1)) (br (decide (0≤x2)&&decide (x2<(↑(List.length x0):Int))) (qi (qne D (Prod.fst (Prod.snd (List.getD x0 (Int.toNat x2) (ByteArray.empty,[],false,())))) (IntKind.wrap IntKind.i64 (x1+1))) fun b↦br (decide (Prod.fst (Prod.fst b)<0)) (K0 (Prod.fst (Prod.fst b)) (-1)) (br (decide (0≤x2)&&decide (x2<(↑(List.length x0):Int))) (br (!decide (Prod.fst (Prod.snd (Prod.snd (List.getD x0 (Int.toNat x2) (ByteArray.empty,[],false,()))))=decide (Int.tmod (Prod.fst (Prod.fst b)) 3=0))) (K0 (Prod.fst (Prod.fst b)) (-1)) (go x0 (IntKind.wrap IntKind.i64 (Prod.fst (Prod.fst b)+1)) (IntKind.wrap IntKind.i64 (x2+1)))) none)) none)) none) (K1 x1)
def qgj (D:DX)(n:Nat) (K0:Int→Int→Option ((Int×Unit)×Unit)) (K1:Int→Option ((Int×Unit)×Unit)):Nat→(tIxs)→(Int)→(Int)→Option ((Int×Unit)×Unit) | 0=>(fun x0 x1 x2=>none) | m+1=>(fun x0 x1 x2=>qs2 D n (qgj D n K0 K1 m) K0 K1 x0 x1 x2)
def qo6 (D:DX)(n:Nat) (v0_0:Int) (v0_1:Int):Option ((Int×Unit)×Unit):=some ((v0_1,()),())
def qj6 (D:DX)(n:Nat) (v1_0:Int):Option ((Int×Unit)×Unit):=some ((v1_0,()),())
def qq3 (D:DX)(n:Nat):(tIxs)→(Int)→(Int)→Option ((Int×Unit)×Unit):=(fun x0 x1 x2=>qgj D n (fun v0_0 v0_1=>qo6 D n v0_0 v0_1) (fun v1_0=>qj6 D n v1_0) n x0 x1 x2)
def quk (D:DX)(n:Nat) (lp0:tIxs→Int→Int→Option ((Int×Unit)×Unit)) (a0:tIxs) (a1:Int):Option ((Int×Unit)×Unit):=lp0 a0 a1 0
def quq (D:DX)(n:Nat) (a0:tIxs) (a1:Int):Option ((Int×Unit)×Unit):=quk D n (qq3 D n) a0 a1
def qgh (x0:tIxs) (x1:Int) (x2:Int):St:=stq 43 [(0,AV.val (Ty.sl yX) x0),(1,avI x1),(5,avI x2)] [] 
def qj2 (v0_0:Int) (v0_1:Int):St:=stq 43 [(1,avI v0_0),(4,avI v0_1)] [] 
def qkc (v1_0:Int):St:=stq 43 [(1,avI v1_0)] [] 
theorem qbbi (D:DX)(n:Nat) (m:Nat) (K:Ex→St→Option (Out ctx 188)) (x0:tIxs) (x1:Int) (x2:Int) :
 LQ qc D n 188 [.r,.l,.r,.l] (m+1) (qgh x0 x1 x2) K=qs2 D n (fun x0 x1 x2=>LQ qc D n 188 [.r,.l,.r,.l] m (qgh x0 x1 x2) K) (fun v0_0 v0_1=>K (Ex.ret) (qj2 v0_0 v0_1)) (fun v1_0=>K (Ex.exit 0) (qkc v1_0)) x0 x1 x2:=by kernel_rfl
theorem qz1 (D:DX)(n:Nat) (K:Ex→St→Option (Out ctx 188)):∀ (m:Nat) (x0:tIxs) (x1:Int) (x2:Int),LQ qc D n 188 [.r,.l,.r,.l] m (qgh x0 x1 x2) K=qgj D n (fun v0_0 v0_1=>K (Ex.ret) (qj2 v0_0 v0_1)) (fun v1_0=>K (Ex.exit 0) (qkc v1_0)) m x0 x1 x2
 | 0,x0,x1,x2=>qy ..
 | m+1,x0,x1,x2=>by
  have ih:(fun x0 x1 x2=>LQ qc D n 188 [.r,.l,.r,.l] m (qgh x0 x1 x2) K)=qgj D n (fun v0_0 v0_1=>K (Ex.ret) (qj2 v0_0 v0_1)) (fun v1_0=>K (Ex.exit 0) (qkc v1_0)) m:=by funext x0 x1 x2;exact qz1 D n K m x0 x1 x2
  rw[qbbi]
  rw[ih];rfl
theorem q9u (D:DX)(n:Nat) (v0_0:Int) (v0_1:Int) :
 (CQ qc D n 188 [] [.r,.l,.r,.l] (qh qc 188)) (Ex.ret) (qj2 v0_0 v0_1)=qo6 D n v0_0 v0_1:=by kernel_rfl
theorem q96 (D:DX)(n:Nat) (v1_0:Int) :
 (CQ qc D n 188 [] [.r,.l,.r,.l] (qh qc 188)) (Ex.exit 0) (qkc v1_0)=qj6 D n v1_0:=by kernel_rfl
theorem q9x (D:DX)(n:Nat) (x0:tIxs) (x1:Int) (x2:Int) :
 LQ qc D n 188 [.r,.l,.r,.l] n (qgh x0 x1 x2) (CQ qc D n 188 [] [.r,.l,.r,.l] (qh qc 188))=qq3 D n x0 x1 x2:=by
 rw[qz1]
 simp only[q9u,q96]
 rfl
theorem qbf4 (D:DX)(n:Nat) (a0:tIxs) (a1:Int):rfC qc D n 188 (a0,(a1,()))=quq D n a0 a1:=by
 have h:rfC qc D n 188 (a0,(a1,()))=quk D n (fun x0 x1 x2=>LQ qc D n 188 [.r,.l,.r,.l] n (qgh x0 x1 x2) (CQ qc D n 188 [] [.r,.l,.r,.l] (qh qc 188))) a0 a1:=by kernel_rfl
 rw[h]
 simp only[q9x]
 rfl

def qs0 (D:DX)(n:Nat) (go:qd→Int→Int→Option ((Int×Unit)×Unit)) (K0:Int→Int→Option ((Int×Unit)×Unit)) (K1:Int→Option ((Int×Unit)×Unit)) (x0:qd) (x1:Int) (x2:Int):Option ((Int×Unit)×Unit):=br (decide (x2<(↑(List.length x0):Int))) (br (decide (0≤x2)&&decide (x2<(↑(List.length x0):Int))) (br (Prod.fst (List.getD x0 (Int.toNat x2) (0,0,ByteArray.empty,())) != x1) (K0 x1 (-1)) (br (decide (0≤x2)&&decide (x2<(↑(List.length x0):Int))) (br (Prod.fst (Prod.snd (List.getD x0 (Int.toNat x2) (0,0,ByteArray.empty,()))) != IntKind.wrap IntKind.i64 (x1+1)) (K0 (IntKind.wrap IntKind.i64 (x1+1)) (-1)) (br (decide (0≤x2)&&decide (x2<(↑(List.length x0):Int))) (qi (qe3 D (IntKind.wrap IntKind.i64 (IntKind.wrap IntKind.i64 (x1+1)+1))) fun b↦br (!List.beq (ByteArray.toList (Prod.fst (Prod.snd (Prod.snd (List.getD x0 (Int.toNat x2) (0,0,ByteArray.empty,())))))) (ByteArray.toList (Prod.fst (Prod.fst b)))) (K0 (IntKind.wrap IntKind.i64 (IntKind.wrap IntKind.i64 (x1+1)+1)) (-1)) (go x0 (IntKind.wrap IntKind.i64 (IntKind.wrap IntKind.i64 (IntKind.wrap IntKind.i64 (x1+1)+1)+1)) (IntKind.wrap IntKind.i64 (x2+1)))) none)) none)) none) (K1 x1)
def qf5 (D:DX)(n:Nat) (K0:Int→Int→Option ((Int×Unit)×Unit)) (K1:Int→Option ((Int×Unit)×Unit)):Nat→(qd)→(Int)→(Int)→Option ((Int×Unit)×Unit) | 0=>(fun x0 x1 x2=>none) | m+1=>(fun x0 x1 x2=>qs0 D n (qf5 D n K0 K1 m) K0 K1 x0 x1 x2)
def qpg (D:DX)(n:Nat) (v0_0:Int) (v0_1:Int):Option ((Int×Unit)×Unit):=some ((v0_1,()),())
def qj0 (D:DX)(n:Nat) (v1_0:Int):Option ((Int×Unit)×Unit):=some ((v1_0,()),())
def qqy (D:DX)(n:Nat):(qd)→(Int)→(Int)→Option ((Int×Unit)×Unit):=(fun x0 x1 x2=>qf5 D n (fun v0_0 v0_1=>qpg D n v0_0 v0_1) (fun v1_0=>qj0 D n v1_0) n x0 x1 x2)
def qtv (D:DX)(n:Nat) (lp0:qd→Int→Int→Option ((Int×Unit)×Unit)) (a0:qd) (a1:Int):Option ((Int×Unit)×Unit):=lp0 a0 a1 0
def qt0 (D:DX)(n:Nat) (a0:qd) (a1:Int):Option ((Int×Unit)×Unit):=qtv D n (qqy D n) a0 a1
def qgb (x0:qd) (x1:Int) (x2:Int):St:=stq 41 [(0,AV.val (Ty.sl yV) x0),(1,avI x1),(5,avI x2)] [] 
def qj8 (v0_0:Int) (v0_1:Int):St:=stq 41 [(1,avI v0_0),(4,avI v0_1)] [] 
def qj1 (v1_0:Int):St:=stq 41 [(1,avI v1_0)] [] 
theorem qbbn (D:DX)(n:Nat) (m:Nat) (K:Ex→St→Option (Out ctx 189)) (x0:qd) (x1:Int) (x2:Int) :
 LQ qc D n 189 [.r,.l,.r,.l] (m+1) (qgb x0 x1 x2) K=qs0 D n (fun x0 x1 x2=>LQ qc D n 189 [.r,.l,.r,.l] m (qgb x0 x1 x2) K) (fun v0_0 v0_1=>K (Ex.ret) (qj8 v0_0 v0_1)) (fun v1_0=>K (Ex.exit 0) (qj1 v1_0)) x0 x1 x2:=by kernel_rfl
theorem qz5 (D:DX)(n:Nat) (K:Ex→St→Option (Out ctx 189)):∀ (m:Nat) (x0:qd) (x1:Int) (x2:Int),LQ qc D n 189 [.r,.l,.r,.l] m (qgb x0 x1 x2) K=qf5 D n (fun v0_0 v0_1=>K (Ex.ret) (qj8 v0_0 v0_1)) (fun v1_0=>K (Ex.exit 0) (qj1 v1_0)) m x0 x1 x2
 | 0,x0,x1,x2=>qy ..
 | m+1,x0,x1,x2=>by
  have ih:(fun x0 x1 x2=>LQ qc D n 189 [.r,.l,.r,.l] m (qgb x0 x1 x2) K)=qf5 D n (fun v0_0 v0_1=>K (Ex.ret) (qj8 v0_0 v0_1)) (fun v1_0=>K (Ex.exit 0) (qj1 v1_0)) m:=by funext x0 x1 x2;exact qz5 D n K m x0 x1 x2
  rw[qbbn]
  rw[ih];rfl
theorem qbal (D:DX)(n:Nat) (v0_0:Int) (v0_1:Int) :
 (CQ qc D n 189 [] [.r,.l,.r,.l] (qh qc 189)) (Ex.ret) (qj8 v0_0 v0_1)=qpg D n v0_0 v0_1:=by kernel_rfl
theorem q9k (D:DX)(n:Nat) (v1_0:Int) :
 (CQ qc D n 189 [] [.r,.l,.r,.l] (qh qc 189)) (Ex.exit 0) (qj1 v1_0)=qj0 D n v1_0:=by kernel_rfl
theorem qbaq (D:DX)(n:Nat) (x0:qd) (x1:Int) (x2:Int) :
 LQ qc D n 189 [.r,.l,.r,.l] n (qgb x0 x1 x2) (CQ qc D n 189 [] [.r,.l,.r,.l] (qh qc 189))=qqy D n x0 x1 x2:=by
 rw[qz5]
 simp only[qbal,q9k]
 rfl
theorem qbe5 (D:DX)(n:Nat) (a0:qd) (a1:Int):rfC qc D n 189 (a0,(a1,()))=qt0 D n a0 a1:=by
 have h:rfC qc D n 189 (a0,(a1,()))=qtv D n (fun x0 x1 x2=>LQ qc D n 189 [.r,.l,.r,.l] n (qgb x0 x1 x2) (CQ qc D n 189 [] [.r,.l,.r,.l] (qh qc 189))) a0 a1:=by kernel_rfl
 rw[h]
 simp only[qbaq]
 rfl


def qdo (D:DX)(n:Nat) (a1:Clo) (go:tIxs→Int→Int→Option ((Int×Unit)×Unit)) (K0:Int→Option ((Int×Unit)×Unit)) (K1:Option ((Int×Unit)×Unit)) (x0:tIxs) (x1:Int) (x2:Int):Option ((Int×Unit)×Unit):=br (decide (x2<x1)) (br (decide (0≤x2)&&decide (x2<(↑(List.length x0):Int))) (qi (qcd ctx D a1 [CapV.val (Ty.pair Ty.str (Ty.pair (Ty.sl (Ty.int IntKind.i64)) (Ty.pair Ty.bool Ty.unit))) (List.getD x0 (Int.toNat x2) (ByteArray.empty,[],false,()))] Ty.bool) fun b↦br b (K0 x2) (go x0 x1 (IntKind.wrap IntKind.i64 (x2+1)))) none) K1
def qbq (D:DX)(n:Nat) (a1:Clo) (K0:Int→Option ((Int×Unit)×Unit)) (K1:Option ((Int×Unit)×Unit)):Nat→(tIxs)→(Int)→(Int)→Option ((Int×Unit)×Unit) | 0=>(fun x0 x1 x2=>none) | m+1=>(fun x0 x1 x2=>qdo D n a1 (qbq D n a1 K0 K1 m) K0 K1 x0 x1 x2)
def qfn (D:DX)(n:Nat) (a1:Clo) (v0_0:Int):Option ((Int×Unit)×Unit):=some ((v0_0,()),())
def qfq (D:DX)(n:Nat) (a1:Clo):Option ((Int×Unit)×Unit):=some ((-1,()),())
def qdm (D:DX)(n:Nat) (a1:Clo):(tIxs)→(Int)→(Int)→Option ((Int×Unit)×Unit):=(fun x0 x1 x2=>qbq D n a1 (fun v0_0=>qfn D n a1 v0_0) (qfq D n a1) n x0 x1 x2)
def qd0 (D:DX)(n:Nat) (a1:Clo) (lp0:tIxs→Int→Int→Option ((Int×Unit)×Unit)) (a0:tIxs):Option ((Int×Unit)×Unit):=lp0 a0 (↑(List.length a0):Int) 0
def qdu (D:DX)(n:Nat) (a0:tIxs) (a1:Clo):Option ((Int×Unit)×Unit):=qd0 D n a1 (qdm D n a1) a0
def qbt (a1:Clo) (x0:tIxs) (x1:Int) (x2:Int):St:=stq 19 [(0,AV.val (Ty.sl yX) x0),(1,AV.cloV a1),(7,avI x1),(8,avI x2)] [] 
def qcq (a1:Clo) (v0_0:Int):St:=stq 19 [(4,avI v0_0)] [] 
def qcr (a1:Clo):St:=stq 19 [] [] 
theorem qoe (D:DX)(n:Nat) (a1:Clo) (m:Nat) (K:Ex→St→Option (Out ctx 193)) (x0:tIxs) (x1:Int) (x2:Int) :
 LQ qc D n 193 [.r,.l,.r,.l] (m+1) (qbt a1 x0 x1 x2) K=qdo D n a1 (fun x0 x1 x2=>LQ qc D n 193 [.r,.l,.r,.l] m (qbt a1 x0 x1 x2) K) (fun v0_0=>K (Ex.ret) (qcq a1 v0_0)) (K (Ex.exit 0) (qcr a1)) x0 x1 x2:=by kernel_rfl
theorem qf4 (D:DX)(n:Nat) (a1:Clo) (K:Ex→St→Option (Out ctx 193)):∀ (m:Nat) (x0:tIxs) (x1:Int) (x2:Int),LQ qc D n 193 [.r,.l,.r,.l] m (qbt a1 x0 x1 x2) K=qbq D n a1 (fun v0_0=>K (Ex.ret) (qcq a1 v0_0)) (K (Ex.exit 0) (qcr a1)) m x0 x1 x2
 | 0,x0,x1,x2=>qy ..
 | m+1,x0,x1,x2=>by
  have ih:(fun x0 x1 x2=>LQ qc D n 193 [.r,.l,.r,.l] m (qbt a1 x0 x1 x2) K)=qbq D n a1 (fun v0_0=>K (Ex.ret) (qcq a1 v0_0)) (K (Ex.exit 0) (qcr a1)) m:=by funext x0 x1 x2;exact qf4 D n a1 K m x0 x1 x2
  rw[qoe]
  rw[ih];rfl
theorem qny (D:DX)(n:Nat) (a1:Clo) (v0_0:Int) :
 (CQ qc D n 193 [] [.r,.l,.r,.l] (qh qc 193)) (Ex.ret) (qcq a1 v0_0)=qfn D n a1 v0_0:=by kernel_rfl
theorem qnu (D:DX)(n:Nat) (a1:Clo) :
 (CQ qc D n 193 [] [.r,.l,.r,.l] (qh qc 193)) (Ex.exit 0) (qcr a1)=qfq D n a1:=by kernel_rfl
theorem qnt (D:DX)(n:Nat) (a1:Clo) (x0:tIxs) (x1:Int) (x2:Int) :
 LQ qc D n 193 [.r,.l,.r,.l] n (qbt a1 x0 x1 x2) (CQ qc D n 193 [] [.r,.l,.r,.l] (qh qc 193))=qdm D n a1 x0 x1 x2:=by
 rw[qf4]
 simp only[qny,qnu]
 rfl
theorem qpf (D:DX)(n:Nat) (a0:tIxs) (a1:Clo):rfC qc D n 193 (a0,(a1,()))=qdu D n a0 a1:=by
 have h:rfC qc D n 193 (a0,(a1,()))=qd0 D n a1 (fun x0 x1 x2=>LQ qc D n 193 [.r,.l,.r,.l] n (qbt a1 x0 x1 x2) (CQ qc D n 193 [] [.r,.l,.r,.l] (qh qc 193))) a0:=by kernel_rfl
 rw[h]
 simp only[qnt]
 rfl

def qeh (D:DX)(n:Nat) (go:qd→Int→Int→Int×Int×ByteArray×Unit→Option ((Int×Unit)×Unit)) (K0:Int→Option ((Int×Unit)×Unit)) (K1:Option ((Int×Unit)×Unit)) (x0:qd) (x1:Int) (x2:Int) (x3:Int×Int×ByteArray×Unit):Option ((Int×Unit)×Unit):=br (decide (x2<x1)) (br (decide (0≤x2)&&decide (x2<(↑(List.length x0):Int))) (br (qrt (Ty.pair (Ty.int IntKind.i64) (Ty.pair (Ty.int IntKind.i64) (Ty.pair Ty.str Ty.unit))) x3 (List.getD x0 (Int.toNat x2) (0,0,ByteArray.empty,()))) (K0 x2) (go x0 x1 (IntKind.wrap IntKind.i64 (x2+1)) x3)) none) K1
def qb4 (D:DX)(n:Nat) (K0:Int→Option ((Int×Unit)×Unit)) (K1:Option ((Int×Unit)×Unit)):Nat→(qd)→(Int)→(Int)→tVal→Option ((Int×Unit)×Unit) | 0=>(fun x0 x1 x2 x3=>none) | m+1=>(fun x0 x1 x2 x3=>qeh D n (qb4 D n K0 K1 m) K0 K1 x0 x1 x2 x3)
def qhm (D:DX)(n:Nat) (v0_0:Int):Option ((Int×Unit)×Unit):=some ((v0_0,()),())
def qhn (D:DX)(n:Nat):Option ((Int×Unit)×Unit):=some ((-1,()),())
def qd9 (D:DX)(n:Nat):(qd)→(Int)→(Int)→tVal→Option ((Int×Unit)×Unit):=(fun x0 x1 x2 x3=>qb4 D n (fun v0_0=>qhm D n v0_0) (qhn D n) n x0 x1 x2 x3)
def qeo (D:DX)(n:Nat) (lp0:qd→Int→Int→Int×Int×ByteArray×Unit→Option ((Int×Unit)×Unit)) (a0:qd) (a1:Int×Int×ByteArray×Unit):Option ((Int×Unit)×Unit):=lp0 a0 (↑(List.length a0):Int) 0 a1
def qex (D:DX)(n:Nat) (a0:qd) (a1:Int×Int×ByteArray×Unit):Option ((Int×Unit)×Unit):=qeo D n (qd9 D n) a0 a1
def qb3 (x0:qd) (x1:Int) (x2:Int) (x3:Int×Int×ByteArray×Unit):St:=stq 19 [(0,AV.val (Ty.sl yV) x0),(3,AV.addr 3 []),(7,avI x1),(8,avI x2)] [(3,Root.mk yV Mk.no x3 true)] 
def qc1 (v0_0:Int):St:=stq 19 [(4,avI v0_0)] [] 
def qc3:St:=stq 19 [] [] 
theorem qqx (D:DX)(n:Nat) (m:Nat) (K:Ex→St→Option (Out ctx 194)) (x0:qd) (x1:Int) (x2:Int) (x3:Int×Int×ByteArray×Unit) :
 LQ qc D n 194 [.r,.l,.r,.l] (m+1) (qb3 x0 x1 x2 x3) K=qeh D n (fun x0 x1 x2 x3=>LQ qc D n 194 [.r,.l,.r,.l] m (qb3 x0 x1 x2 x3) K) (fun v0_0=>K (Ex.ret) (qc1 v0_0)) (K (Ex.exit 0) (qc3)) x0 x1 x2 x3:=by kernel_rfl
theorem qhw (D:DX)(n:Nat) (K:Ex→St→Option (Out ctx 194)):∀ (m:Nat) (x0:qd) (x1:Int) (x2:Int) (x3:Int×Int×ByteArray×Unit),LQ qc D n 194 [.r,.l,.r,.l] m (qb3 x0 x1 x2 x3) K=qb4 D n (fun v0_0=>K (Ex.ret) (qc1 v0_0)) (K (Ex.exit 0) (qc3)) m x0 x1 x2 x3
 | 0,x0,x1,x2,x3=>qy ..
 | m+1,x0,x1,x2,x3=>by
  have ih:(fun x0 x1 x2 x3=>LQ qc D n 194 [.r,.l,.r,.l] m (qb3 x0 x1 x2 x3) K)=qb4 D n (fun v0_0=>K (Ex.ret) (qc1 v0_0)) (K (Ex.exit 0) (qc3)) m:=by funext x0 x1 x2 x3;exact qhw D n K m x0 x1 x2 x3
  rw[qqx]
  rw[ih];rfl
theorem qp9 (D:DX)(n:Nat) (v0_0:Int) :
 (CQ qc D n 194 [] [.r,.l,.r,.l] (qh qc 194)) (Ex.ret) (qc1 v0_0)=qhm D n v0_0:=by kernel_rfl
theorem qp3 (D:DX)(n:Nat) :
 (CQ qc D n 194 [] [.r,.l,.r,.l] (qh qc 194)) (Ex.exit 0) (qc3)=qhn D n:=by kernel_rfl
theorem qp4 (D:DX)(n:Nat) (x0:qd) (x1:Int) (x2:Int) (x3:Int×Int×ByteArray×Unit) :
 LQ qc D n 194 [.r,.l,.r,.l] n (qb3 x0 x1 x2 x3) (CQ qc D n 194 [] [.r,.l,.r,.l] (qh qc 194))=qd9 D n x0 x1 x2 x3:=by
 rw[qhw]
 simp only[qp9,qp3]
 rfl
theorem qsd (D:DX)(n:Nat) (a0:qd) (a1:Int×Int×ByteArray×Unit):rfC qc D n 194 (a0,(a1,()))=qex D n a0 a1:=by
 have h:rfC qc D n 194 (a0,(a1,()))=qeo D n (fun x0 x1 x2 x3=>LQ qc D n 194 [.r,.l,.r,.l] n (qb3 x0 x1 x2 x3) (CQ qc D n 194 [] [.r,.l,.r,.l] (qh qc 194))) a0 a1:=by kernel_rfl
 rw[h]
 simp only[qp4]
 rfl

def qeg (D:DX)(n:Nat) (a1:Clo) (go:qk→Int→Int→Option ((Int×Unit)×Unit)) (K0:Int→Option ((Int×Unit)×Unit)) (K1:Option ((Int×Unit)×Unit)) (x0:qk) (x1:Int) (x2:Int):Option ((Int×Unit)×Unit):=br (decide (x2<x1)) (br (decide (0≤x2)&&decide (x2<(↑(List.length x0):Int))) (qi (qcd ctx D a1 [CapV.val (Ty.pair Ty.str (Ty.pair (Ty.int IntKind.i64) (Ty.pair Ty.bool Ty.unit))) (List.getD x0 (Int.toNat x2) (ByteArray.empty,0,false,()))] Ty.bool) fun b↦br b (K0 x2) (go x0 x1 (IntKind.wrap IntKind.i64 (x2+1)))) none) K1
def qb2 (D:DX)(n:Nat) (a1:Clo) (K0:Int→Option ((Int×Unit)×Unit)) (K1:Option ((Int×Unit)×Unit)):Nat→(qk)→(Int)→(Int)→Option ((Int×Unit)×Unit) | 0=>(fun x0 x1 x2=>none) | m+1=>(fun x0 x1 x2=>qeg D n a1 (qb2 D n a1 K0 K1 m) K0 K1 x0 x1 x2)
def qho (D:DX)(n:Nat) (a1:Clo) (v0_0:Int):Option ((Int×Unit)×Unit):=some ((v0_0,()),())
def qhl (D:DX)(n:Nat) (a1:Clo):Option ((Int×Unit)×Unit):=some ((-1,()),())
def qed (D:DX)(n:Nat) (a1:Clo):(qk)→(Int)→(Int)→Option ((Int×Unit)×Unit):=(fun x0 x1 x2=>qb2 D n a1 (fun v0_0=>qho D n a1 v0_0) (qhl D n a1) n x0 x1 x2)
def qet (D:DX)(n:Nat) (a1:Clo) (lp0:qk→Int→Int→Option ((Int×Unit)×Unit)) (a0:qk):Option ((Int×Unit)×Unit):=lp0 a0 (↑(List.length a0):Int) 0
def qew (D:DX)(n:Nat) (a0:qk) (a1:Clo):Option ((Int×Unit)×Unit):=qet D n a1 (qed D n a1) a0
def qb1 (a1:Clo) (x0:qk) (x1:Int) (x2:Int):St:=stq 19 [(0,AV.val (Ty.sl yC) x0),(1,AV.cloV a1),(7,avI x1),(8,avI x2)] [] 
def qc4 (a1:Clo) (v0_0:Int):St:=stq 19 [(4,avI v0_0)] [] 
def qc2 (a1:Clo):St:=stq 19 [] [] 
theorem qqz (D:DX)(n:Nat) (a1:Clo) (m:Nat) (K:Ex→St→Option (Out ctx 195)) (x0:qk) (x1:Int) (x2:Int) :
 LQ qc D n 195 [.r,.l,.r,.l] (m+1) (qb1 a1 x0 x1 x2) K=qeg D n a1 (fun x0 x1 x2=>LQ qc D n 195 [.r,.l,.r,.l] m (qb1 a1 x0 x1 x2) K) (fun v0_0=>K (Ex.ret) (qc4 a1 v0_0)) (K (Ex.exit 0) (qc2 a1)) x0 x1 x2:=by kernel_rfl
theorem qhs (D:DX)(n:Nat) (a1:Clo) (K:Ex→St→Option (Out ctx 195)):∀ (m:Nat) (x0:qk) (x1:Int) (x2:Int),LQ qc D n 195 [.r,.l,.r,.l] m (qb1 a1 x0 x1 x2) K=qb2 D n a1 (fun v0_0=>K (Ex.ret) (qc4 a1 v0_0)) (K (Ex.exit 0) (qc2 a1)) m x0 x1 x2
 | 0,x0,x1,x2=>qy ..
 | m+1,x0,x1,x2=>by
  have ih:(fun x0 x1 x2=>LQ qc D n 195 [.r,.l,.r,.l] m (qb1 a1 x0 x1 x2) K)=qb2 D n a1 (fun v0_0=>K (Ex.ret) (qc4 a1 v0_0)) (K (Ex.exit 0) (qc2 a1)) m:=by funext x0 x1 x2;exact qhs D n a1 K m x0 x1 x2
  rw[qqz]
  rw[ih];rfl
theorem qp1 (D:DX)(n:Nat) (a1:Clo) (v0_0:Int) :
 (CQ qc D n 195 [] [.r,.l,.r,.l] (qh qc 195)) (Ex.ret) (qc4 a1 v0_0)=qho D n a1 v0_0:=by kernel_rfl
theorem qp2 (D:DX)(n:Nat) (a1:Clo) :
 (CQ qc D n 195 [] [.r,.l,.r,.l] (qh qc 195)) (Ex.exit 0) (qc2 a1)=qhl D n a1:=by kernel_rfl
theorem qpz (D:DX)(n:Nat) (a1:Clo) (x0:qk) (x1:Int) (x2:Int) :
 LQ qc D n 195 [.r,.l,.r,.l] n (qb1 a1 x0 x1 x2) (CQ qc D n 195 [] [.r,.l,.r,.l] (qh qc 195))=qed D n a1 x0 x1 x2:=by
 rw[qhs]
 simp only[qp1,qp2]
 rfl
theorem qsu (D:DX)(n:Nat) (a0:qk) (a1:Clo):rfC qc D n 195 (a0,(a1,()))=qew D n a0 a1:=by
 have h:rfC qc D n 195 (a0,(a1,()))=qet D n a1 (fun x0 x1 x2=>LQ qc D n 195 [.r,.l,.r,.l] n (qb1 a1 x0 x1 x2) (CQ qc D n 195 [] [.r,.l,.r,.l] (qh qc 195))) a0:=by kernel_rfl
 rw[h]
 simp only[qpz]
 rfl

def q9h (D:DX)(n:Nat) (a0:ByteArray×Int×Bool×Unit) (a1:ByteArray):Option ((Bool×Unit)×Unit):=some ((List.beq (ByteArray.toList (Prod.fst a0)) (ByteArray.toList a1),()),())
def q1e (D:DX)(n:Nat) (a0:ByteArray×Int×Bool×Unit) (a1:ByteArray):Option ((Bool×Unit)×Unit):=q9h D n a0 a1
theorem qbnn (D:DX)(n:Nat) (a0:ByteArray×Int×Bool×Unit) (a1:ByteArray):rfC qc D n 196 (a0,(a1,()))=q1e D n a0 a1:=by kernel_rfl

def qrj (D:DX)(n:Nat) (a0:List Int) (a1:Int):Option ((Bool×Unit)×Unit):=qi (qnj D a0 a1) fun b↦some ((decide (Prod.fst (Prod.fst b)≥0),()),())
def qj4 (D:DX)(n:Nat) (a0:List Int) (a1:Int):Option ((Bool×Unit)×Unit):=qrj D n a0 a1
theorem q45 (D:DX)(n:Nat) (a0:List Int) (a1:Int):rfC qc D n 197 (a0,(a1,()))=qj4 D n a0 a1:=by kernel_rfl

def qi5 (D:DX)(n:Nat) (a1:Clo) (go:List Int→Int→Int→Option ((Int×Unit)×Unit)) (K0:Int→Option ((Int×Unit)×Unit)) (K1:Option ((Int×Unit)×Unit)) (x0:List Int) (x1:Int) (x2:Int):Option ((Int×Unit)×Unit):=br (decide (x2<x1)) (br (decide (0≤x2)&&decide (x2<(↑(List.length x0):Int))) (qi (qcd ctx D a1 [CapV.val (Ty.int IntKind.i64) (List.getD x0 (Int.toNat x2) 0)] Ty.bool) fun b↦br b (K0 x2) (go x0 x1 (IntKind.wrap IntKind.i64 (x2+1)))) none) K1
def qc7 (D:DX)(n:Nat) (a1:Clo) (K0:Int→Option ((Int×Unit)×Unit)) (K1:Option ((Int×Unit)×Unit)):Nat→(List Int)→(Int)→(Int)→Option ((Int×Unit)×Unit) | 0=>(fun x0 x1 x2=>none) | m+1=>(fun x0 x1 x2=>qi5 D n a1 (qc7 D n a1 K0 K1 m) K0 K1 x0 x1 x2)
def qnr (D:DX)(n:Nat) (a1:Clo) (v0_0:Int):Option ((Int×Unit)×Unit):=some ((v0_0,()),())
def qns (D:DX)(n:Nat) (a1:Clo):Option ((Int×Unit)×Unit):=some ((-1,()),())
def qh1 (D:DX)(n:Nat) (a1:Clo):(List Int)→(Int)→(Int)→Option ((Int×Unit)×Unit):=(fun x0 x1 x2=>qc7 D n a1 (fun v0_0=>qnr D n a1 v0_0) (qns D n a1) n x0 x1 x2)
def qjt (D:DX)(n:Nat) (a1:Clo) (lp0:List Int→Int→Int→Option ((Int×Unit)×Unit)) (a0:List Int):Option ((Int×Unit)×Unit):=lp0 a0 (↑(List.length a0):Int) 0
def qju (D:DX)(n:Nat) (a0:List Int) (a1:Clo):Option ((Int×Unit)×Unit):=qjt D n a1 (qh1 D n a1) a0
def qc8 (a1:Clo) (x0:List Int) (x1:Int) (x2:Int):St:=stq 19 [(0,AV.val (Ty.sl yI) x0),(1,AV.cloV a1),(7,avI x1),(8,avI x2)] [] 
def qen (a1:Clo) (v0_0:Int):St:=stq 19 [(4,avI v0_0)] [] 
def qel (a1:Clo):St:=stq 19 [] [] 
theorem q1d (D:DX)(n:Nat) (a1:Clo) (m:Nat) (K:Ex→St→Option (Out ctx 198)) (x0:List Int) (x1:Int) (x2:Int) :
 LQ qc D n 198 [.r,.l,.r,.l] (m+1) (qc8 a1 x0 x1 x2) K=qi5 D n a1 (fun x0 x1 x2=>LQ qc D n 198 [.r,.l,.r,.l] m (qc8 a1 x0 x1 x2) K) (fun v0_0=>K (Ex.ret) (qen a1 v0_0)) (K (Ex.exit 0) (qel a1)) x0 x1 x2:=by kernel_rfl
theorem qol (D:DX)(n:Nat) (a1:Clo) (K:Ex→St→Option (Out ctx 198)):∀ (m:Nat) (x0:List Int) (x1:Int) (x2:Int),LQ qc D n 198 [.r,.l,.r,.l] m (qc8 a1 x0 x1 x2) K=qc7 D n a1 (fun v0_0=>K (Ex.ret) (qen a1 v0_0)) (K (Ex.exit 0) (qel a1)) m x0 x1 x2
 | 0,x0,x1,x2=>qy ..
 | m+1,x0,x1,x2=>by
  have ih:(fun x0 x1 x2=>LQ qc D n 198 [.r,.l,.r,.l] m (qc8 a1 x0 x1 x2) K)=qc7 D n a1 (fun v0_0=>K (Ex.ret) (qen a1 v0_0)) (K (Ex.exit 0) (qel a1)) m:=by funext x0 x1 x2;exact qol D n a1 K m x0 x1 x2
  rw[q1d]
  rw[ih];rfl
theorem qzw (D:DX)(n:Nat) (a1:Clo) (v0_0:Int) :
 (CQ qc D n 198 [] [.r,.l,.r,.l] (qh qc 198)) (Ex.ret) (qen a1 v0_0)=qnr D n a1 v0_0:=by kernel_rfl
theorem qzz (D:DX)(n:Nat) (a1:Clo) :
 (CQ qc D n 198 [] [.r,.l,.r,.l] (qh qc 198)) (Ex.exit 0) (qel a1)=qns D n a1:=by kernel_rfl
theorem qzy (D:DX)(n:Nat) (a1:Clo) (x0:List Int) (x1:Int) (x2:Int) :
 LQ qc D n 198 [.r,.l,.r,.l] n (qc8 a1 x0 x1 x2) (CQ qc D n 198 [] [.r,.l,.r,.l] (qh qc 198))=qh1 D n a1 x0 x1 x2:=by
 rw[qol]
 simp only[qzw,qzz]
 rfl
theorem q3j (D:DX)(n:Nat) (a0:List Int) (a1:Clo):rfC qc D n 198 (a0,(a1,()))=qju D n a0 a1:=by
 have h:rfC qc D n 198 (a0,(a1,()))=qjt D n a1 (fun x0 x1 x2=>LQ qc D n 198 [.r,.l,.r,.l] n (qc8 a1 x0 x1 x2) (CQ qc D n 198 [] [.r,.l,.r,.l] (qh qc 198))) a0:=by kernel_rfl
 rw[h]
 simp only[qzy]
 rfl

def qbc9 (D:DX)(n:Nat) (a0:ByteArray×Int×Bool×Unit) (a1:Int):Option ((Int×Unit)×Unit):=br (decide (IntKind.wrap IntKind.i64 (a1 - (↑(ByteArray.size (Prod.fst a0)):Int))<0)) (some ((-1,()),())) (some ((IntKind.wrap IntKind.i64 (a1 - (↑(ByteArray.size (Prod.fst a0)):Int)),()),()))
def q54 (D:DX)(n:Nat) (a0:ByteArray×Int×Bool×Unit) (a1:Int):Option ((Int×Unit)×Unit):=qbc9 D n a0 a1
theorem qbps (D:DX)(n:Nat) (a0:ByteArray×Int×Bool×Unit) (a1:Int):rfC qc D n 201 (a0,(a1,()))=q54 D n a0 a1:=by kernel_rfl

def q82 (D:DX)(n:Nat) (a0:ByteArray×List Int×Bool×Unit) (a1:Int):Option ((Int×Unit)×Unit):=br (decide (IntKind.wrap IntKind.i64 (a1 - (↑(ByteArray.size (Prod.fst a0)):Int))<0)) (some ((-1,()),())) (qi (qvm D (Prod.fst (Prod.snd a0)) (IntKind.wrap IntKind.i64 (a1 - (↑(ByteArray.size (Prod.fst a0)):Int)))) fun b↦br (decide (Prod.fst (Prod.fst b)<0)) (some ((-1,()),())) (some ((Prod.fst (Prod.fst b),()),())))
def q0w (D:DX)(n:Nat) (a0:ByteArray×List Int×Bool×Unit) (a1:Int):Option ((Int×Unit)×Unit):=q82 D n a0 a1
theorem qbny (D:DX)(n:Nat) (a0:ByteArray×List Int×Bool×Unit) (a1:Int):rfC qc D n 202 (a0,(a1,()))=q0w D n a0 a1:=by kernel_rfl

def qbq8 (D:DX)(n:Nat) (a0:ByteArray×Int×Bool×Unit):Option ((tCol×Unit)×Unit):=some (((Prod.fst a0,Prod.fst (Prod.snd a0),Prod.fst (Prod.snd (Prod.snd a0)),()),()),())
def qbdl (D:DX)(n:Nat) (a0:ByteArray×Int×Bool×Unit):Option ((tCol×Unit)×Unit):=qbq8 D n a0
theorem qbqj (D:DX)(n:Nat) (a0:ByteArray×Int×Bool×Unit):rfC qc D n 203 (a0,())=qbdl D n a0:=by kernel_rfl

def q9e (D:DX)(n:Nat) (a0:ByteArray×List Int×Bool×Unit):Option ((tIx×Unit)×Unit):=qi (qvp D (Prod.fst (Prod.snd a0))) fun b↦some (((Prod.fst a0,Prod.fst (Prod.fst b),Prod.fst (Prod.snd (Prod.snd a0)),()),()),())
def q04 (D:DX)(n:Nat) (a0:ByteArray×List Int×Bool×Unit):Option ((tIx×Unit)×Unit):=q9e D n a0
theorem qbnb (D:DX)(n:Nat) (a0:ByteArray×List Int×Bool×Unit):rfC qc D n 204 (a0,())=q04 D n a0:=by kernel_rfl

def qbc7 (D:DX)(n:Nat) (a0:ByteArray×Int×Bool×Unit) (a1:ByteArray×Int×Bool×Unit):Option ((Bool×Unit)×Unit):=br (!List.beq (ByteArray.toList (Prod.fst a0)) (ByteArray.toList (Prod.fst a1))) (some ((false,()),())) (br (Prod.fst (Prod.snd a0) != Prod.fst (Prod.snd a1)) (some ((false,()),())) (br (!decide (Prod.fst (Prod.snd (Prod.snd a0))=Prod.fst (Prod.snd (Prod.snd a1)))) (some ((false,()),())) (some ((true,()),()))))
def q5x (D:DX)(n:Nat) (a0:ByteArray×Int×Bool×Unit) (a1:ByteArray×Int×Bool×Unit):Option ((Bool×Unit)×Unit):=qbc7 D n a0 a1
theorem qbrl (D:DX)(n:Nat) (a0:ByteArray×Int×Bool×Unit) (a1:ByteArray×Int×Bool×Unit):rfC qc D n 205 (a0,(a1,()))=q5x D n a0 a1:=by kernel_rfl

def q8w (D:DX)(n:Nat) (a0:ByteArray×List Int×Bool×Unit) (a1:ByteArray×List Int×Bool×Unit):Option ((Bool×Unit)×Unit):=br (!List.beq (ByteArray.toList (Prod.fst a0)) (ByteArray.toList (Prod.fst a1))) (some ((false,()),())) (qi (qvo D (Prod.fst (Prod.snd a0)) (Prod.fst (Prod.snd a1))) fun b↦br (!Prod.fst (Prod.fst b)) (some ((false,()),())) (br (!decide (Prod.fst (Prod.snd (Prod.snd a0))=Prod.fst (Prod.snd (Prod.snd a1)))) (some ((false,()),())) (some ((true,()),()))))
def q14 (D:DX)(n:Nat) (a0:ByteArray×List Int×Bool×Unit) (a1:ByteArray×List Int×Bool×Unit):Option ((Bool×Unit)×Unit):=q8w D n a0 a1
theorem qbm0 (D:DX)(n:Nat) (a0:ByteArray×List Int×Bool×Unit) (a1:ByteArray×List Int×Bool×Unit):rfC qc D n 206 (a0,(a1,()))=q14 D n a0 a1:=by kernel_rfl



def qlo (D:DX)(n:Nat) (go:List Int→Int→Int→Int→Option ((Int×Unit)×Unit)) (K0:Int→Option ((Int×Unit)×Unit)) (K1:Option ((Int×Unit)×Unit)) (x0:List Int) (x1:Int) (x2:Int) (x3:Int):Option ((Int×Unit)×Unit):=br (decide (x3<x2)) (br (decide (0≤x3)&&decide (x3<(↑(List.length x0):Int))) (br (decide (x1=List.getD x0 (Int.toNat x3) 0)) (K0 x3) (go x0 x1 x2 (IntKind.wrap IntKind.i64 (x3+1)))) none) K1
def qds (D:DX)(n:Nat) (K0:Int→Option ((Int×Unit)×Unit)) (K1:Option ((Int×Unit)×Unit)):Nat→(List Int)→(Int)→(Int)→(Int)→Option ((Int×Unit)×Unit) | 0=>(fun x0 x1 x2 x3=>none) | m+1=>(fun x0 x1 x2 x3=>qlo D n (qds D n K0 K1 m) K0 K1 x0 x1 x2 x3)
def qrp (D:DX)(n:Nat) (v0_0:Int):Option ((Int×Unit)×Unit):=some ((v0_0,()),())
def qrg (D:DX)(n:Nat):Option ((Int×Unit)×Unit):=some ((-1,()),())
def qk1 (D:DX)(n:Nat):(List Int)→(Int)→(Int)→(Int)→Option ((Int×Unit)×Unit):=(fun x0 x1 x2 x3=>qds D n (fun v0_0=>qrp D n v0_0) (qrg D n) n x0 x1 x2 x3)
def qnn (D:DX)(n:Nat) (lp0:List Int→Int→Int→Int→Option ((Int×Unit)×Unit)) (a0:List Int) (a1:Int):Option ((Int×Unit)×Unit):=lp0 a0 a1 (↑(List.length a0):Int) 0
def qnl (D:DX)(n:Nat) (a0:List Int) (a1:Int):Option ((Int×Unit)×Unit):=qnn D n (qk1 D n) a0 a1
def qdt (x0:List Int) (x1:Int) (x2:Int) (x3:Int):St:=stq 19 [(0,AV.val (Ty.sl yI) x0),(1,avI x1),(7,avI x2),(8,avI x3)] [] 
def qgm (v0_0:Int):St:=stq 19 [(4,avI v0_0)] [] 
def qgn:St:=stq 19 [] [] 
theorem q6p (D:DX)(n:Nat) (m:Nat) (K:Ex→St→Option (Out ctx 210)) (x0:List Int) (x1:Int) (x2:Int) (x3:Int) :
 LQ qc D n 210 [.r,.l,.r,.l] (m+1) (qdt x0 x1 x2 x3) K=qlo D n (fun x0 x1 x2 x3=>LQ qc D n 210 [.r,.l,.r,.l] m (qdt x0 x1 x2 x3) K) (fun v0_0=>K (Ex.ret) (qgm v0_0)) (K (Ex.exit 0) (qgn)) x0 x1 x2 x3:=by kernel_rfl
theorem qsi (D:DX)(n:Nat) (K:Ex→St→Option (Out ctx 210)):∀ (m:Nat) (x0:List Int) (x1:Int) (x2:Int) (x3:Int),LQ qc D n 210 [.r,.l,.r,.l] m (qdt x0 x1 x2 x3) K=qds D n (fun v0_0=>K (Ex.ret) (qgm v0_0)) (K (Ex.exit 0) (qgn)) m x0 x1 x2 x3
 | 0,x0,x1,x2,x3=>qy ..
 | m+1,x0,x1,x2,x3=>by
  have ih:(fun x0 x1 x2 x3=>LQ qc D n 210 [.r,.l,.r,.l] m (qdt x0 x1 x2 x3) K)=qds D n (fun v0_0=>K (Ex.ret) (qgm v0_0)) (K (Ex.exit 0) (qgn)) m:=by funext x0 x1 x2 x3;exact qsi D n K m x0 x1 x2 x3
  rw[q6p]
  rw[ih];rfl
theorem q40 (D:DX)(n:Nat) (v0_0:Int) :
 (CQ qc D n 210 [] [.r,.l,.r,.l] (qh qc 210)) (Ex.ret) (qgm v0_0)=qrp D n v0_0:=by kernel_rfl
theorem q47 (D:DX)(n:Nat) :
 (CQ qc D n 210 [] [.r,.l,.r,.l] (qh qc 210)) (Ex.exit 0) (qgn)=qrg D n:=by kernel_rfl
theorem q44 (D:DX)(n:Nat) (x0:List Int) (x1:Int) (x2:Int) (x3:Int) :
 LQ qc D n 210 [.r,.l,.r,.l] n (qdt x0 x1 x2 x3) (CQ qc D n 210 [] [.r,.l,.r,.l] (qh qc 210))=qk1 D n x0 x1 x2 x3:=by
 rw[qsi]
 simp only[q40,q47]
 rfl
theorem q7w (D:DX)(n:Nat) (a0:List Int) (a1:Int):rfC qc D n 210 (a0,(a1,()))=qnl D n a0 a1:=by
 have h:rfC qc D n 210 (a0,(a1,()))=qnn D n (fun x0 x1 x2 x3=>LQ qc D n 210 [.r,.l,.r,.l] n (qdt x0 x1 x2 x3) (CQ qc D n 210 [] [.r,.l,.r,.l] (qh qc 210))) a0 a1:=by kernel_rfl
 rw[h]
 simp only[q44]
 rfl

end
end Go.G

namespace Go.G
set_option maxRecDepth 100000
open Go Go.V Go.Proofs
def XOk (X:Ext):Prop:=∀ k:Nat,(Nat.beq k 88||Nat.beq k 93||Nat.beq k 95||Nat.beq k 192)=false→X.is k=false
theorem q9q {X:Ext} (hX:XOk X) (n:Nat) (a0:(tSch)×qe×Unit) (a1:qd):qxz (DD X (n+1)) a0 a1=qpq (DD X n) n a0 a1:=(ql X Tryz.func10 (by kernel_rfl) (hX 10 rfl) n _).trans (qban ..)
theorem qbrk {X:Ext} (hX:XOk X) (n:Nat) (a0:(tSch)×qe×Unit):q6j (DD X (n+1)) a0=q6q (DD X n) n a0:=(ql X Tryz.func17 (by kernel_rfl) (hX 17 rfl) n _).trans (qbq0 ..)
theorem qbpd {X:Ext} (hX:XOk X) (n:Nat) (a0:(tSch)×qe×Unit) (a1:qd):qvr (DD X (n+1)) a0 a1=q3g (DD X n) n a0 a1:=(ql X Tryz.func18 (by kernel_rfl) (hX 18 rfl) n _).trans (qbpe ..)
theorem qbl4 {X:Ext} (hX:XOk X) (n:Nat) (a0:tSch) (a1:qd):qgy (DD X (n+1)) a0 a1=qzt (DD X n) n a0 a1:=(ql X Tryz.func23 (by kernel_rfl) (hX 23 rfl) n _).trans (qbi3 ..)
theorem qbpi {X:Ext} (hX:XOk X) (n:Nat) (a0:(tSch)×qe×Unit) (a1:qd):q3i (DD X (n+1)) a0 a1=q30 (DD X n) n a0 a1:=(ql X Tryz.func28 (by kernel_rfl) (hX 28 rfl) n _).trans (qbo5 ..)
theorem qbqg {X:Ext} (hX:XOk X) (n:Nat) (a0:(tSch)×qe×Unit):q6b (DD X (n+1)) a0=q5w (DD X n) n a0:=(ql X Tryz.func41 (by kernel_rfl) (hX 41 rfl) n _).trans (qbrf ..)
theorem qbgc {X:Ext} (hX:XOk X) (n:Nat) (a0:(tSch)×qe×Unit) (a1:Int):qu2 (DD X (n+1)) a0 a1=qux (DD X n) n a0 a1:=(ql X Tryz.func53 (by kernel_rfl) (hX 53 rfl) n _).trans (qbfj ..)
theorem qblg {X:Ext} (hX:XOk X) (n:Nat) (a0:qd) (a1:Int):qmn (DD X (n+1)) a0 a1=qxn (DD X n) n a0 a1:=(ql X Tryz.func54 (by kernel_rfl) (hX 54 rfl) n _).trans (qbjs ..)
theorem qbe7 {X:Ext} (hX:XOk X) (n:Nat) (a0:(tSch)×qe×Unit):qhe (DD X (n+1)) a0=qtx (DD X n) n a0:=(ql X Tryz.func55 (by kernel_rfl) (hX 55 rfl) n _).trans (qbfy ..)
theorem qbld {X:Ext} (hX:XOk X) (n:Nat) (a0:qd):qe6 (DD X (n+1)) a0=qze (DD X n) n a0:=(ql X Tryz.func56 (by kernel_rfl) (hX 56 rfl) n _).trans (qbkp ..)
theorem qbgi {X:Ext} (hX:XOk X) (n:Nat) (a0:(tSch)×qe×Unit) (a1:(tSch)×qe×Unit):qhb (DD X (n+1)) a0 a1=qui (DD X n) n a0 a1:=(ql X Tryz.func57 (by kernel_rfl) (hX 57 rfl) n _).trans (qbfu ..)
theorem qbma {X:Ext} (hX:XOk X) (n:Nat) (a0:qd) (a1:qd):qmm (DD X (n+1)) a0 a1=qyu (DD X n) n a0 a1:=(ql X Tryz.func58 (by kernel_rfl) (hX 58 rfl) n _).trans (qbj1 ..)
theorem qbbz {X:Ext} (hX:XOk X) (n:Nat) (a0:(tSch)×qe×Unit) (a1:Int):qk7 (DD X (n+1)) a0 a1=qq5 (DD X n) n a0 a1:=(ql X Tryz.func59 (by kernel_rfl) (hX 59 rfl) n _).trans (qbbp ..)
theorem qbfk {X:Ext} (hX:XOk X) (n:Nat) (a0:qd) (a1:Int):qoc (DD X (n+1)) a0 a1=qtu (DD X n) n a0 a1:=(ql X Tryz.func60 (by kernel_rfl) (hX 60 rfl) n _).trans (qbe3 ..)
theorem qbay {X:Ext} (hX:XOk X) (n:Nat) (a0:(tSch)×qe×Unit) (a1:Int):qk9 (DD X (n+1)) a0 a1=qql (DD X n) n a0 a1:=(ql X Tryz.func61 (by kernel_rfl) (hX 61 rfl) n _).trans (qbbc ..)
theorem qbsu {X:Ext} (hX:XOk X) (n:Nat) (a0:Int) (a1:Int) (a2:Int):qgq (DD X (n+1)) a0 a1 a2=q72 (DD X n) n a0 a1 a2:=(ql X Tryz.func68 (by kernel_rfl) (hX 68 rfl) n _).trans (qbsf ..)
theorem qbqq {X:Ext} (hX:XOk X) (n:Nat) (a0:tSch) (a1:qd):qyo (DD X (n+1)) a0 a1=q5q (DD X n) n a0 a1:=(ql X Tryz.func77 (by kernel_rfl) (hX 77 rfl) n _).trans (qbrh ..)
theorem qbh6 {X:Ext} (hX:XOk X) (n:Nat) (a0:qd) (a1:qd):qpo (DD X (n+1)) a0 a1=qwd (DD X n) n a0 a1:=(ql X Tryz.func78 (by kernel_rfl) (hX 78 rfl) n _).trans (qbhu ..)
theorem qnw {X:Ext} (hX:XOk X) (n:Nat) (a0:qe) (a1:Clo):qbn (DD X (n+1)) a0 a1=qdh (DD X n) n a0 a1:=(ql X Tryz.func79 (by kernel_rfl) (hX 79 rfl) n _).trans (qnz ..)
theorem qbmz {X:Ext} (hX:XOk X) (n:Nat) (a0:qd) (a1:(tSch)×qe×Unit) (a2:qd):q8q (DD X (n+1)) a0 a1 a2=q1l (DD X n) n a0 a1 a2:=(ql X Tryz.func80 (by kernel_rfl) (hX 80 rfl) n _).trans (qbnv ..)
theorem qbpy {X:Ext} (hX:XOk X) (n:Nat) (a0:tSch) (a1:qd) (a2:qd):qzb (DD X (n+1)) a0 a1 a2=q5t (DD X n) n a0 a1 a2:=(ql X Tryz.func81 (by kernel_rfl) (hX 81 rfl) n _).trans (qbpt ..)
theorem qbk5 {X:Ext} (hX:XOk X) (n:Nat) (a0:tSch):qrf (DD X (n+1)) a0=qyz (DD X n) n a0:=(ql X Tryz.func82 (by kernel_rfl) (hX 82 rfl) n _).trans (qbjt ..)
theorem qbbj {X:Ext} (hX:XOk X) (n:Nat) (a0:(tSch)×qe×Unit):qqk (DD X (n+1)) a0=qqu (DD X n) n a0:=(ql X Tryz.func83 (by kernel_rfl) (hX 83 rfl) n _).trans (qbbo ..)
theorem qbrr {X:Ext} (hX:XOk X) (n:Nat) (a0:(tSch)×qe×Unit) (a1:qd):q5z (DD X (n+1)) a0 a1=q56 (DD X n) n a0 a1:=(ql X Tryz.func84 (by kernel_rfl) (hX 84 rfl) n _).trans (qbr1 ..)
theorem qblx {X:Ext} (hX:XOk X) (n:Nat) (a0:qd) (a1:(tSch)×qe×Unit) (a2:qd):q6z (DD X (n+1)) a0 a1 a2=qx1 (DD X n) n a0 a1 a2:=(ql X Tryz.func85 (by kernel_rfl) (hX 85 rfl) n _).trans (qbke ..)
theorem qo7 {X:Ext} (hX:XOk X) (n:Nat) (a0:qe) (a1:Clo):qce (DD X (n+1)) a0 a1=qdz (DD X n) n a0 a1:=(ql X Tryz.func86 (by kernel_rfl) (hX 86 rfl) n _).trans (qpj ..)
theorem qbj0 {X:Ext} (hX:XOk X) (n:Nat) (a0:qd) (a1:qd) (a2:(tSch)×qe×Unit):q7d (DD X (n+1)) a0 a1 a2=qx3 (DD X n) n a0 a1 a2:=(ql X Tryz.func87 (by kernel_rfl) (hX 87 rfl) n _).trans (qbk2 ..)
theorem qs6 {X:Ext} (hX:XOk X) (n:Nat) (a0:qd):qcl (DD X (n+1)) a0=qeu (DD X n) n a0:=(ql X Tryz.func89 (by kernel_rfl) (hX 89 rfl) n _).trans (qsm ..)
theorem qbng {X:Ext} (hX:XOk X) (n:Nat) (a0:qd) (a1:List Int):qoo (DD X (n+1)) a0 a1=q03 (DD X n) n a0 a1:=(ql X Tryz.func94 (by kernel_rfl) (hX 94 rfl) n _).trans (qbnm ..)
theorem qbmh {X:Ext} (hX:XOk X) (n:Nat) (a0:(tSch)×qe×Unit):q1m (DD X (n+1)) a0=q00 (DD X n) n a0:=(ql X Tryz.func99 (by kernel_rfl) (hX 99 rfl) n _).trans (qbmi ..)
theorem qbq7 {X:Ext} (hX:XOk X) (n:Nat) (a0:tSch) (a1:qd):qxk (DD X (n+1)) a0 a1=q5p (DD X n) n a0 a1:=(ql X Tryz.func100 (by kernel_rfl) (hX 100 rfl) n _).trans (qbqc ..)
theorem qbp7 {X:Ext} (hX:XOk X) (n:Nat) (a0:(tSch)×qe×Unit) (a1:qd):q6e (DD X (n+1)) a0 a1=q51 (DD X n) n a0 a1:=(ql X Tryz.func101 (by kernel_rfl) (hX 101 rfl) n _).trans (qbrb ..)
theorem qbkk {X:Ext} (hX:XOk X) (n:Nat) (a0:tSch) (a1:qd):qe5 (DD X (n+1)) a0 a1=qyq (DD X n) n a0 a1:=(ql X Tryz.func102 (by kernel_rfl) (hX 102 rfl) n _).trans (qbi2 ..)
theorem qbhq {X:Ext} (hX:XOk X) (n:Nat) (a0:(tSch)×qe×Unit) (a1:qd) (a2:Int):qww (DD X (n+1)) a0 a1 a2=qw9 (DD X n) n a0 a1 a2:=(ql X Tryz.func103 (by kernel_rfl) (hX 103 rfl) n _).trans (qbig ..)
theorem qbip {X:Ext} (hX:XOk X) (n:Nat) (a0:qd) (a1:qd):qoy (DD X (n+1)) a0 a1=qwr (DD X n) n a0 a1:=(ql X Tryz.func104 (by kernel_rfl) (hX 104 rfl) n _).trans (qbix ..)
theorem qbmn {X:Ext} (hX:XOk X) (n:Nat) (a0:qe):qof (DD X (n+1)) a0=q1z (DD X n) n a0:=(ql X Tryz.func105 (by kernel_rfl) (hX 105 rfl) n _).trans (qbnf ..)
theorem qbfp {X:Ext} (hX:XOk X) (n:Nat) (a0:tSch):qt6 (DD X (n+1)) a0=qup (DD X n) n a0:=(ql X Tryz.func107 (by kernel_rfl) (hX 107 rfl) n _).trans (qbe2 ..)
theorem qbnx {X:Ext} (hX:XOk X) (n:Nat) (a0:tSch):q1y (DD X (n+1)) a0=q13 (DD X n) n a0:=(ql X Tryz.func108 (by kernel_rfl) (hX 108 rfl) n _).trans (qbnc ..)
theorem qbjv {X:Ext} (hX:XOk X) (n:Nat) (a0:tSch) (a1:qd) (a2:qd):qri (DD X (n+1)) a0 a1 a2=qxw (DD X n) n a0 a1 a2:=(ql X Tryz.func111 (by kernel_rfl) (hX 111 rfl) n _).trans (qblv ..)
theorem qbmb {X:Ext} (hX:XOk X) (n:Nat) (a0:tSch):qrl (DD X (n+1)) a0=qxs (DD X n) n a0:=(ql X Tryz.func112 (by kernel_rfl) (hX 112 rfl) n _).trans (qblk ..)
theorem qbsv {X:Ext} (hX:XOk X) (n:Nat) (a0:Int) (a1:Int) (a2:Int):qgp (DD X (n+1)) a0 a1 a2=q7y (DD X n) n a0 a1 a2:=(ql X Tryz.func117 (by kernel_rfl) (hX 117 rfl) n _).trans (qbr7 ..)
theorem qbmt {X:Ext} (hX:XOk X) (n:Nat) (a0:qd) (a1:List Int):qor (DD X (n+1)) a0 a1=q0u (DD X n) n a0 a1:=(ql X Tryz.func119 (by kernel_rfl) (hX 119 rfl) n _).trans (qbn0 ..)
theorem qbks {X:Ext} (hX:XOk X) (n:Nat) (a0:tSch) (a1:Int):qyv (DD X (n+1)) a0 a1=qys (DD X n) n a0 a1:=(ql X Tryz.func120 (by kernel_rfl) (hX 120 rfl) n _).trans (qbkv ..)
theorem qbir {X:Ext} (hX:XOk X) (n:Nat) (a0:qe) (a1:Int):qwj (DD X (n+1)) a0 a1=qw6 (DD X n) n a0 a1:=(ql X Tryz.func121 (by kernel_rfl) (hX 121 rfl) n _).trans (qbia ..)
theorem qbni {X:Ext} (hX:XOk X) (n:Nat) (a0:Int×Int×ByteArray×Unit) (a1:Int):qtn (DD X (n+1)) a0 a1=q0v (DD X n) n a0 a1:=(ql X Tryz.func122 (by kernel_rfl) (hX 122 rfl) n _).trans (qbm3 ..)
theorem qbkj {X:Ext} (hX:XOk X) (n:Nat) (a0:tSch):qy6 (DD X (n+1)) a0=qya (DD X n) n a0:=(ql X Tryz.func123 (by kernel_rfl) (hX 123 rfl) n _).trans (qbk6 ..)
theorem qbh1 {X:Ext} (hX:XOk X) (n:Nat) (a0:qe):qw7 (DD X (n+1)) a0=qw5 (DD X n) n a0:=(ql X Tryz.func124 (by kernel_rfl) (hX 124 rfl) n _).trans (qbh7 ..)
theorem qbm7 {X:Ext} (hX:XOk X) (n:Nat) (a0:Int×Int×ByteArray×Unit):qth (DD X (n+1)) a0=q83 (DD X n) n a0:=(ql X Tryz.func125 (by kernel_rfl) (hX 125 rfl) n _).trans (qbno ..)
theorem qbi6 {X:Ext} (hX:XOk X) (n:Nat) (a0:tSch) (a1:tSch):qy9 (DD X (n+1)) a0 a1=qzr (DD X n) n a0 a1:=(ql X Tryz.func126 (by kernel_rfl) (hX 126 rfl) n _).trans (qblp ..)
theorem qbis {X:Ext} (hX:XOk X) (n:Nat) (a0:qe) (a1:qe):qwh (DD X (n+1)) a0 a1=qxb (DD X n) n a0 a1:=(ql X Tryz.func127 (by kernel_rfl) (hX 127 rfl) n _).trans (qbhk ..)
theorem qbnr {X:Ext} (hX:XOk X) (n:Nat) (a0:Int×Int×ByteArray×Unit) (a1:Int×Int×ByteArray×Unit):qtb (DD X (n+1)) a0 a1=q1k (DD X n) n a0 a1:=(ql X Tryz.func128 (by kernel_rfl) (hX 128 rfl) n _).trans (qbnh ..)
theorem qbgb {X:Ext} (hX:XOk X) (n:Nat) (a0:tSch) (a1:Int):qud (DD X (n+1)) a0 a1=qua (DD X n) n a0 a1:=(ql X Tryz.func129 (by kernel_rfl) (hX 129 rfl) n _).trans (qbf2 ..)
theorem qbdn {X:Ext} (hX:XOk X) (n:Nat) (a0:qe) (a1:Int):qsb (DD X (n+1)) a0 a1=qta (DD X n) n a0 a1:=(ql X Tryz.func130 (by kernel_rfl) (hX 130 rfl) n _).trans (qbdy ..)
theorem qbjj {X:Ext} (hX:XOk X) (n:Nat) (a0:Int):qe3 (DD X (n+1)) a0=qx2 (DD X n) n a0:=(ql X Tryz.func131 (by kernel_rfl) (hX 131 rfl) n _).trans (qbli ..)
theorem qbgm {X:Ext} (hX:XOk X) (n:Nat) (a0:tSch) (a1:Int):qn6 (DD X (n+1)) a0 a1=qun (DD X n) n a0 a1:=(ql X Tryz.func132 (by kernel_rfl) (hX 132 rfl) n _).trans (qbfx ..)
theorem qbcg {X:Ext} (hX:XOk X) (n:Nat) (a0:qe) (a1:Int):qmv (DD X (n+1)) a0 a1=qrx (DD X n) n a0 a1:=(ql X Tryz.func133 (by kernel_rfl) (hX 133 rfl) n _).trans (qbcd ..)
theorem q70 {X:Ext} (hX:XOk X) (n:Nat) (a0:List Int):qiy (DD X (n+1)) a0=qno (DD X n) n a0:=(ql X Tryz.func138 (by kernel_rfl) (hX 138 rfl) n _).trans (q71 ..)
theorem qbmr {X:Ext} (hX:XOk X) (n:Nat) (a0:Int×Int×ByteArray×Unit):q1n (DD X (n+1)) a0=q1p (DD X n) n a0:=(ql X Tryz.func139 (by kernel_rfl) (hX 139 rfl) n _).trans (qbna ..)
theorem qf0 {X:Ext} (hX:XOk X) (n:Nat) (a0:qd) (a1:qd) (a2:Clo):qca (DD X (n+1)) a0 a1 a2=qb8 (DD X n) n a0 a1 a2:=(ql X Tryz.func140 (by kernel_rfl) (hX 140 rfl) n _).trans (qfy ..)
theorem qbmj {X:Ext} (hX:XOk X) (n:Nat) (a0:Int×Int×ByteArray×Unit) (a1:Int×Int×ByteArray×Unit):q09 (DD X (n+1)) a0 a1=q1a (DD X n) n a0 a1:=(ql X Tryz.func141 (by kernel_rfl) (hX 141 rfl) n _).trans (qbns ..)
theorem qn1 {X:Ext} (hX:XOk X) (n:Nat) (a0:tIxs) (a1:Clo):qcp (DD X (n+1)) a0 a1=qdg (DD X n) n a0 a1:=(ql X Tryz.func142 (by kernel_rfl) (hX 142 rfl) n _).trans (qn2 ..)
theorem qbnj {X:Ext} (hX:XOk X) (n:Nat) (a0:ByteArray×List Int×Bool×Unit) (a1:qd) (a2:qd):q8z (DD X (n+1)) a0 a1 a2=q11 (DD X n) n a0 a1 a2:=(ql X Tryz.func143 (by kernel_rfl) (hX 143 rfl) n _).trans (qbmq ..)
theorem qqd {X:Ext} (hX:XOk X) (n:Nat) (a0:qd) (a1:Int×Int×ByteArray×Unit):qd5 (DD X (n+1)) a0 a1=qd4 (DD X n) n a0 a1:=(ql X Tryz.func144 (by kernel_rfl) (hX 144 rfl) n _).trans (qp6 ..)
theorem qsj {X:Ext} (hX:XOk X) (n:Nat) (a0:qd) (a1:qd):qdc (DD X (n+1)) a0 a1=qeq (DD X n) n a0 a1:=(ql X Tryz.func145 (by kernel_rfl) (hX 145 rfl) n _).trans (qr1 ..)
theorem qbh2 {X:Ext} (hX:XOk X) (n:Nat) (a0:ByteArray):qo0 (DD X (n+1)) a0=qwt (DD X n) n a0:=(ql X Tryz.func146 (by kernel_rfl) (hX 146 rfl) n _).trans (qbit ..)
theorem qbqb {X:Ext} (hX:XOk X) (n:Nat) (a0:tSch) (a1:ByteArray):q5r (DD X (n+1)) a0 a1=q5v (DD X n) n a0 a1:=(ql X Tryz.func147 (by kernel_rfl) (hX 147 rfl) n _).trans (qbpx ..)
theorem qbj7 {X:Ext} (hX:XOk X) (n:Nat) (a0:tSch) (a1:List Int) (a2:Int):qrn (DD X (n+1)) a0 a1 a2=qyh (DD X n) n a0 a1 a2:=(ql X Tryz.func148 (by kernel_rfl) (hX 148 rfl) n _).trans (qbi5 ..)
theorem qbf3 {X:Ext} (hX:XOk X) (n:Nat) (a0:ByteArray×List Int×Bool×Unit) (a1:ByteArray×List Int×Bool×Unit):q32 (DD X (n+1)) a0 a1=quf (DD X n) n a0 a1:=(ql X Tryz.func149 (by kernel_rfl) (hX 149 rfl) n _).trans (qbft ..)
theorem qzx {X:Ext} (hX:XOk X) (n:Nat) (a0:List Int) (a1:Clo):qhq (DD X (n+1)) a0 a1=qhr (DD X n) n a0 a1:=(ql X Tryz.func150 (by kernel_rfl) (hX 150 rfl) n _).trans (qzv ..)
theorem qbfg {X:Ext} (hX:XOk X) (n:Nat) (a0:Int) (a1:tSch):q37 (DD X (n+1)) a0 a1=quc (DD X n) n a0 a1:=(ql X Tryz.func151 (by kernel_rfl) (hX 151 rfl) n _).trans (qbe8 ..)
theorem qbfe {X:Ext} (hX:XOk X) (n:Nat) (a0:qe):qvd (DD X (n+1)) a0=qub (DD X n) n a0:=(ql X Tryz.func152 (by kernel_rfl) (hX 152 rfl) n _).trans (qbga ..)
theorem qbnz {X:Ext} (hX:XOk X) (n:Nat) (a0:qd) (a1:(tSch)×qe×Unit) (a2:qd):q8x (DD X (n+1)) a0 a1 a2=q10 (DD X n) n a0 a1 a2:=(ql X Tryz.func153 (by kernel_rfl) (hX 153 rfl) n _).trans (qbm5 ..)
theorem qbmv {X:Ext} (hX:XOk X) (n:Nat) (a0:Int×Int×ByteArray×Unit):q0k (DD X (n+1)) a0=q0p (DD X n) n a0:=(ql X Tryz.func158 (by kernel_rfl) (hX 158 rfl) n _).trans (qbmu ..)
theorem qbmm {X:Ext} (hX:XOk X) (n:Nat) (a0:qd) (a1:qd):qtc (DD X (n+1)) a0 a1=q0z (DD X n) n a0 a1:=(ql X Tryz.func159 (by kernel_rfl) (hX 159 rfl) n _).trans (qbnp ..)
theorem qbhw {X:Ext} (hX:XOk X) (n:Nat) (a0:Int×Int×ByteArray×Unit) (a1:Int×Int×ByteArray×Unit):qpi (DD X (n+1)) a0 a1=qw8 (DD X n) n a0 a1:=(ql X Tryz.func160 (by kernel_rfl) (hX 160 rfl) n _).trans (qbhp ..)
theorem qbic {X:Ext} (hX:XOk X) (n:Nat) (a0:Int×Int×ByteArray×Unit) (a1:Int×Int×ByteArray×Unit):qwy (DD X (n+1)) a0 a1=qwz (DD X n) n a0 a1:=(ql X Tryz.func161 (by kernel_rfl) (hX 161 rfl) n _).trans (qbih ..)
theorem qv7 {X:Ext} (hX:XOk X) (n:Nat) (a0:qk):qfx (DD X (n+1)) a0=qfw (DD X n) n a0:=(ql X Tryz.func164 (by kernel_rfl) (hX 164 rfl) n _).trans (qwp ..)
theorem qbmy {X:Ext} (hX:XOk X) (n:Nat) (a0:qd):q08 (DD X (n+1)) a0=q1w (DD X n) n a0:=(ql X Tryz.func165 (by kernel_rfl) (hX 165 rfl) n _).trans (qbm8 ..)
theorem qbh5 {X:Ext} (hX:XOk X) (n:Nat) (a0:ByteArray):qpp (DD X (n+1)) a0=qwu (DD X n) n a0:=(ql X Tryz.func166 (by kernel_rfl) (hX 166 rfl) n _).trans (qbh3 ..)
theorem qbr2 {X:Ext} (hX:XOk X) (n:Nat) (a0:tSch) (a1:ByteArray):q6a (DD X (n+1)) a0 a1=q6n (DD X n) n a0 a1:=(ql X Tryz.func167 (by kernel_rfl) (hX 167 rfl) n _).trans (qbq9 ..)
theorem qbhl {X:Ext} (hX:XOk X) (n:Nat) (a0:tSch) (a1:List Int) (a2:Int):qox (DD X (n+1)) a0 a1 a2=qv0 (DD X n) n a0 a1 a2:=(ql X Tryz.func168 (by kernel_rfl) (hX 168 rfl) n _).trans (qbif ..)
theorem qbfz {X:Ext} (hX:XOk X) (n:Nat) (a0:tSch):qur (DD X (n+1)) a0=qu0 (DD X n) n a0:=(ql X Tryz.func169 (by kernel_rfl) (hX 169 rfl) n _).trans (qbfi ..)
theorem qboz {X:Ext} (hX:XOk X) (n:Nat) (a0:qk) (a1:Int):q3f (DD X (n+1)) a0 a1=q3p (DD X n) n a0 a1:=(ql X Tryz.func174 (by kernel_rfl) (hX 174 rfl) n _).trans (qbo0 ..)
theorem qbo3 {X:Ext} (hX:XOk X) (n:Nat) (a0:List Int) (a1:Int):qvm (DD X (n+1)) a0 a1=q3h (DD X n) n a0 a1:=(ql X Tryz.func175 (by kernel_rfl) (hX 175 rfl) n _).trans (qbo6 ..)
theorem qbkc {X:Ext} (hX:XOk X) (n:Nat) (a0:tIxs) (a1:Int):qzd (DD X (n+1)) a0 a1=qy7 (DD X n) n a0 a1:=(ql X Tryz.func176 (by kernel_rfl) (hX 176 rfl) n _).trans (qbj9 ..)
theorem qbo1 {X:Ext} (hX:XOk X) (n:Nat) (a0:qk):q3u (DD X (n+1)) a0=q3q (DD X n) n a0:=(ql X Tryz.func177 (by kernel_rfl) (hX 177 rfl) n _).trans (qbo9 ..)
theorem qbpf {X:Ext} (hX:XOk X) (n:Nat) (a0:List Int):qvp (DD X (n+1)) a0=q3t (DD X n) n a0:=(ql X Tryz.func178 (by kernel_rfl) (hX 178 rfl) n _).trans (qbo4 ..)
theorem qbjq {X:Ext} (hX:XOk X) (n:Nat) (a0:tIxs):qx0 (DD X (n+1)) a0=qyx (DD X n) n a0:=(ql X Tryz.func179 (by kernel_rfl) (hX 179 rfl) n _).trans (qblr ..)
theorem qbpc {X:Ext} (hX:XOk X) (n:Nat) (a0:qk) (a1:qk):q25 (DD X (n+1)) a0 a1=q29 (DD X n) n a0 a1:=(ql X Tryz.func180 (by kernel_rfl) (hX 180 rfl) n _).trans (qbo8 ..)
theorem qbpj {X:Ext} (hX:XOk X) (n:Nat) (a0:List Int) (a1:List Int):qvo (DD X (n+1)) a0 a1=q3l (DD X n) n a0 a1:=(ql X Tryz.func181 (by kernel_rfl) (hX 181 rfl) n _).trans (qbo2 ..)
theorem qbko {X:Ext} (hX:XOk X) (n:Nat) (a0:tIxs) (a1:tIxs):qxo (DD X (n+1)) a0 a1=qzl (DD X n) n a0 a1:=(ql X Tryz.func182 (by kernel_rfl) (hX 182 rfl) n _).trans (qbkm ..)
theorem qbkg {X:Ext} (hX:XOk X) (n:Nat) (a0:qk) (a1:Int):qzo (DD X (n+1)) a0 a1=qx4 (DD X n) n a0 a1:=(ql X Tryz.func183 (by kernel_rfl) (hX 183 rfl) n _).trans (qblz ..)
theorem qbl3 {X:Ext} (hX:XOk X) (n:Nat) (a0:List Int) (a1:Int):qmg (DD X (n+1)) a0 a1=qyj (DD X n) n a0 a1:=(ql X Tryz.func184 (by kernel_rfl) (hX 184 rfl) n _).trans (qbl2 ..)
theorem qbe4 {X:Ext} (hX:XOk X) (n:Nat) (a0:tIxs) (a1:Int):que (DD X (n+1)) a0 a1=qum (DD X n) n a0 a1:=(ql X Tryz.func185 (by kernel_rfl) (hX 185 rfl) n _).trans (qbf7 ..)
theorem qbi8 {X:Ext} (hX:XOk X) (n:Nat) (a0:qk) (a1:Int):qxt (DD X (n+1)) a0 a1=qzf (DD X n) n a0 a1:=(ql X Tryz.func186 (by kernel_rfl) (hX 186 rfl) n _).trans (qbjn ..)
theorem qbi9 {X:Ext} (hX:XOk X) (n:Nat) (a0:List Int) (a1:Int):qne (DD X (n+1)) a0 a1=qy3 (DD X n) n a0 a1:=(ql X Tryz.func187 (by kernel_rfl) (hX 187 rfl) n _).trans (qbjm ..)
theorem qbgj {X:Ext} (hX:XOk X) (n:Nat) (a0:tIxs) (a1:Int):quj (DD X (n+1)) a0 a1=quq (DD X n) n a0 a1:=(ql X Tryz.func188 (by kernel_rfl) (hX 188 rfl) n _).trans (qbf4 ..)
theorem qbf5 {X:Ext} (hX:XOk X) (n:Nat) (a0:qd) (a1:Int):qtw (DD X (n+1)) a0 a1=qt0 (DD X n) n a0 a1:=(ql X Tryz.func189 (by kernel_rfl) (hX 189 rfl) n _).trans (qbe5 ..)
theorem qpl {X:Ext} (hX:XOk X) (n:Nat) (a0:tIxs) (a1:Clo):qdv (DD X (n+1)) a0 a1=qdu (DD X n) n a0 a1:=(ql X Tryz.func193 (by kernel_rfl) (hX 193 rfl) n _).trans (qpf ..)
theorem qr3 {X:Ext} (hX:XOk X) (n:Nat) (a0:qd) (a1:Int×Int×ByteArray×Unit):qer (DD X (n+1)) a0 a1=qex (DD X n) n a0 a1:=(ql X Tryz.func194 (by kernel_rfl) (hX 194 rfl) n _).trans (qsd ..)
theorem qr7 {X:Ext} (hX:XOk X) (n:Nat) (a0:qk) (a1:Clo):qes (DD X (n+1)) a0 a1=qew (DD X n) n a0 a1:=(ql X Tryz.func195 (by kernel_rfl) (hX 195 rfl) n _).trans (qsu ..)
theorem qbm9 {X:Ext} (hX:XOk X) (n:Nat) (a0:ByteArray×Int×Bool×Unit) (a1:ByteArray):q89 (DD X (n+1)) a0 a1=q1e (DD X n) n a0 a1:=(ql X Tryz.func196 (by kernel_rfl) (hX 196 rfl) n _).trans (qbnn ..)
theorem q42 {X:Ext} (hX:XOk X) (n:Nat) (a0:List Int) (a1:Int):qkf (DD X (n+1)) a0 a1=qj4 (DD X n) n a0 a1:=(ql X Tryz.func197 (by kernel_rfl) (hX 197 rfl) n _).trans (q45 ..)
theorem q3z {X:Ext} (hX:XOk X) (n:Nat) (a0:List Int) (a1:Clo):qjv (DD X (n+1)) a0 a1=qju (DD X n) n a0 a1:=(ql X Tryz.func198 (by kernel_rfl) (hX 198 rfl) n _).trans (q3j ..)
theorem qbqx {X:Ext} (hX:XOk X) (n:Nat) (a0:ByteArray×Int×Bool×Unit) (a1:Int):qyg (DD X (n+1)) a0 a1=q54 (DD X n) n a0 a1:=(ql X Tryz.func201 (by kernel_rfl) (hX 201 rfl) n _).trans (qbps ..)
theorem qbm6 {X:Ext} (hX:XOk X) (n:Nat) (a0:ByteArray×List Int×Bool×Unit) (a1:Int):qts (DD X (n+1)) a0 a1=q0w (DD X n) n a0 a1:=(ql X Tryz.func202 (by kernel_rfl) (hX 202 rfl) n _).trans (qbny ..)
theorem qbqn {X:Ext} (hX:XOk X) (n:Nat) (a0:ByteArray×Int×Bool×Unit):qyr (DD X (n+1)) a0=qbdl (DD X n) n a0:=(ql X Tryz.func203 (by kernel_rfl) (hX 203 rfl) n _).trans (qbqj ..)
theorem qbn3 {X:Ext} (hX:XOk X) (n:Nat) (a0:ByteArray×List Int×Bool×Unit):qtf (DD X (n+1)) a0=q04 (DD X n) n a0:=(ql X Tryz.func204 (by kernel_rfl) (hX 204 rfl) n _).trans (qbnb ..)
theorem qbrq {X:Ext} (hX:XOk X) (n:Nat) (a0:ByteArray×Int×Bool×Unit) (a1:ByteArray×Int×Bool×Unit):qzs (DD X (n+1)) a0 a1=q5x (DD X n) n a0 a1:=(ql X Tryz.func205 (by kernel_rfl) (hX 205 rfl) n _).trans (qbrl ..)
theorem qbnt {X:Ext} (hX:XOk X) (n:Nat) (a0:ByteArray×List Int×Bool×Unit) (a1:ByteArray×List Int×Bool×Unit):qtj (DD X (n+1)) a0 a1=q14 (DD X n) n a0 a1:=(ql X Tryz.func206 (by kernel_rfl) (hX 206 rfl) n _).trans (qbm0 ..)
theorem q7z {X:Ext} (hX:XOk X) (n:Nat) (a0:List Int) (a1:Int):qnj (DD X (n+1)) a0 a1=qnl (DD X n) n a0 a1:=(ql X Tryz.func210 (by kernel_rfl) (hX 210 rfl) n _).trans (q7w ..)
end Go.G


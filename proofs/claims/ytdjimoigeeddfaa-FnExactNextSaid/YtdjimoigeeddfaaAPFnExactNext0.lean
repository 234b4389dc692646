import Derived.Test.YtdjimoigeeddfaaAV3
set_option linter.unusedVariables false
set_option linter.unusedSimpArgs false
set_option linter.unusedSectionVars false
namespace Go.G
open Go Go.V
abbrev DX:=Den ctx
abbrev avI:=AV.val (Ty.int IntKind.i64)
abbrev yI:=Ty.int IntKind.i64
end Go.G
namespace Go.G
open Go Go.V
noncomputable def qjc (D:Den ctx) (a0:Int×Int×Int×Unit) (a1:List (Int×Int×Unit)):Option ((Bool×Unit)×Unit):=D 3 (a0,(a1,()))
noncomputable def qis (D:Den ctx) (a0:List (Int×Int×Unit)) (a1:Int):Option ((Int×Unit)×Unit):=D 4 (a0,(a1,()))
noncomputable def ql2 (D:Den ctx) (a0:Int×Int×Int×Unit) (a1:List (Int×Int×Unit)):Option ((Int×Unit)×Unit):=D 5 (a0,(a1,()))
noncomputable def qi1 (D:Den ctx) (a0:Int×Int×Int×Unit):Option (((Int×Int×Int×Unit)×Unit)×Unit):=D 6 (a0,())
noncomputable def qev (D:Den ctx) (a0:List (Int×Int×Unit)):Option ((List (Int×Int×Unit)×Unit)×Unit):=D 7 (a0,())
noncomputable def qlx (D:Den ctx) (a0:Int×Int×Int×Unit) (a1:List (Int×Int×Unit)):Option ((Int×Unit)×Unit):=D 8 (a0,(a1,()))
noncomputable def qil (D:Den ctx) (a0:List (Int×Int×Unit)) (a1:List (Int×Int×Unit)):Option ((Bool×Unit)×Unit):=D 9 (a0,(a1,()))
noncomputable def qlq (D:Den ctx) (a0:Int×Int×Int×Unit):Option ((Bool×Unit)×Unit):=D 10 (a0,())
noncomputable def qky (D:Den ctx) (a0:Int×Int×Int×Unit) (a1:List (Int×Int×Unit)):Option (((List (Int×Int×Unit)×Int×Bool×Unit)×Unit)×Unit):=D 11 (a0,(a1,()))
noncomputable def qgo (D:Den ctx) (a0:Int×Int×Unit):Option (((Int×Int×Unit)×Unit)×Unit):=D 12 (a0,())
noncomputable def qlm (D:Den ctx) (a0:Int×Int×Int×Unit):Option ((Bool×Unit)×Unit):=D 13 (a0,())
noncomputable def qkt (D:Den ctx) (a0:Int×Int×Int×Unit) (a1:List (Int×Int×Unit)):Option (((List (Int×Int×Unit)×List Int×Int×Bool×Unit)×Unit)×Unit):=D 14 (a0,(a1,()))
noncomputable def qgn (D:Den ctx) (a0:Int×Int×Unit) (a1:Int×Int×Unit):Option ((Bool×Unit)×Unit):=D 15 (a0,(a1,()))
noncomputable def qcn (D:Den ctx) (a0:Int) (a1:Int) (a2:Int):Option ((Bool×Unit)×Unit):=D 16 (a0,(a1,(a2,())))
noncomputable def qk5 (D:Den ctx) (a0:Int):Option ((Bool×Unit)×Unit):=D 17 (a0,())
noncomputable def qho (D:Den ctx) (a0:Int):Option ((Bool×Unit)×Unit):=D 18 (a0,())
noncomputable def qew (D:Den ctx) (a0:Int):Option ((Bool×Unit)×Unit):=D 19 (a0,())
noncomputable def qcp (D:Den ctx) (a0:Int):Option ((Bool×Unit)×Unit):=D 20 (a0,())
noncomputable def qkj (D:Den ctx) (a0:List (Int×Int×Unit)×Int×Bool×Unit) (a1:Int×Int×Int×Unit):Option (Unit×(List (Int×Int×Unit)×Int×Bool×Unit)×Unit):=D 21 (a0,(a1,()))
noncomputable def qkw (D:Den ctx) (a0:List (Int×Int×Unit)×Int×Bool×Unit) (a1:Int×Int×Int×Unit):Option (Unit×(List (Int×Int×Unit)×Int×Bool×Unit)×Unit):=D 22 (a0,(a1,()))
noncomputable def qkp (D:Den ctx) (a0:List (Int×Int×Unit)×Int×Bool×Unit) (a1:Int×Int×Int×Unit):Option (Unit×(List (Int×Int×Unit)×Int×Bool×Unit)×Unit):=D 23 (a0,(a1,()))
noncomputable def qm (D:Den ctx) (a0:List (Int×Int×Unit)×Int×Bool×Unit) (a1:Int):Option ((Int×Unit)×(List (Int×Int×Unit)×Int×Bool×Unit)×Unit):=D 24 (a0,(a1,()))
noncomputable def qc8 (D:Den ctx) (a0:Int):Option ((Int×Unit)×Unit):=D 25 (a0,())
noncomputable def qcz (D:Den ctx) (a0:Int):Option ((Int×Unit)×Unit):=D 26 (a0,())
noncomputable def qc1 (D:Den ctx) (a0:Int):Option ((Int×Unit)×Unit):=D 27 (a0,())
noncomputable def qc0 (D:Den ctx):Option ((Int×Unit)×Unit):=D 28 ()
noncomputable def qjs (D:Den ctx) (a0:List (Int×Int×Unit)×Int×Bool×Unit):Option (Unit×(List (Int×Int×Unit)×Int×Bool×Unit)×Unit):=D 29 (a0,())
noncomputable def qcm (D:Den ctx) (a0:List (Int×Int×Unit)×Int×Bool×Unit) (a1:Bool):Option (Unit×(List (Int×Int×Unit)×Int×Bool×Unit)×Unit):=D 30 (a0,(a1,()))
noncomputable def qfu (D:Den ctx) (a0:Int):Option ((Int×Unit)×Unit):=D 31 (a0,())
noncomputable def qcs (D:Den ctx) (a0:Int):Option ((Bool×Unit)×Unit):=D 32 (a0,())
noncomputable def q0 (D:Den ctx) (a0:Int):Option ((Bool×Unit)×Unit):=D 33 (a0,())
noncomputable def qbo (D:Den ctx) (a0:Int):Option ((Bool×Unit)×Unit):=D 34 (a0,())
noncomputable def qbv (D:Den ctx) (a0:List (Int×Int×Unit)×List Int×Int×Bool×Unit) (a1:Int×Int×Int×Unit):Option (Unit×(List (Int×Int×Unit)×List Int×Int×Bool×Unit)×Unit):=D 35 (a0,(a1,()))
noncomputable def qg (D:Den ctx) (a0:List (Int×Int×Unit)×List Int×Int×Bool×Unit) (a1:Int):Option ((Int×Unit)×(List (Int×Int×Unit)×List Int×Int×Bool×Unit)×Unit):=D 36 (a0,(a1,()))
noncomputable def qb3 (D:Den ctx) (a0:Int):Option ((Int×Unit)×Unit):=D 37 (a0,())
noncomputable def qb6 (D:Den ctx) (a0:Int):Option ((Int×Unit)×Unit):=D 38 (a0,())
noncomputable def qb5 (D:Den ctx) (a0:Int):Option ((Int×Unit)×Unit):=D 39 (a0,())
noncomputable def qbe (D:Den ctx):Option ((Int×Unit)×Unit):=D 40 ()
noncomputable def qp (D:Den ctx) (a0:List (Int×Int×Unit)×List Int×Int×Bool×Unit) (a1:Bool):Option (Unit×(List (Int×Int×Unit)×List Int×Int×Bool×Unit)×Unit):=D 41 (a0,(a1,()))
noncomputable def qcd (D:Den ctx) (a0:Int):Option ((Int×Unit)×Unit):=D 42 (a0,())
noncomputable def qcj (D:Den ctx) (a0:Int):Option ((Int×Unit)×Unit):=D 43 (a0,())
noncomputable def qes (D:Den ctx) (a0:List (Int×Int×Unit)×Int×Bool×Unit) (a1:Int) (a2:List Int):Option (Unit×(List (Int×Int×Unit)×Int×Bool×Unit)×Unit):=D 44 (a0,(a1,(a2,())))
noncomputable def qln (D:Den ctx) (a0:List (Int×Int×Unit)) (a1:Int):Option ((Int×Bool×Unit)×Unit):=D 45 (a0,(a1,()))
noncomputable def qgh (D:Den ctx) (a0:Int) (a1:Int) (a2:Int):Option ((Bool×Unit)×Unit):=D 46 (a0,(a1,(a2,())))
noncomputable def qch (D:Den ctx) (a0:Int):Option ((Int×Unit)×Unit):=D 47 (a0,())
noncomputable def qcy (D:Den ctx) (a0:List (Int×Int×Unit)×List Int×Int×Bool×Unit) (a1:Int) (a2:List Int):Option (Unit×(List (Int×Int×Unit)×List Int×Int×Bool×Unit)×Unit):=D 48 (a0,(a1,(a2,())))
noncomputable def qlt (D:Den ctx) (a0:List (Int×Int×Unit)) (a1:Int):Option ((Int×Bool×Unit)×Unit):=D 49 (a0,(a1,()))
noncomputable def qd4 (D:Den ctx) (a0:Bool) (a1:Int):Option ((Int×Unit)×Unit):=D 50 (a0,(a1,()))
end Go.G

namespace Go.G
set_option maxRecDepth 100000
set_option maxHeartbeats 0
open Go Go.V
noncomputable section
def qji (D:DX)(n:Nat) (a0:Int×Int×Int×Unit) (a1:List (Int×Int×Unit)):Option ((Bool×Unit)×Unit):=qc (qis D a1 1048576) fun b↦br (decide (Prod.fst (Prod.fst b)<0)) (some ((true,()),())) (qc (qi1 D a0) fun b↦qc (qev D a1) fun b_1↦qc (ql2 D (Prod.fst (Prod.fst b)) (Prod.fst (Prod.fst b_1))) fun b↦qc (qev D a1) fun b_2↦qc (qi1 D a0) fun b_3↦qc (qlx D (Prod.fst (Prod.fst b_3)) (Prod.fst (Prod.fst b_2))) fun b_4↦br (Prod.fst (Prod.fst b_4) != Prod.fst (Prod.fst b)) (some ((false,()),())) (qc (qev D a1) fun b↦qc (qil D (Prod.fst (Prod.fst b_2)) (Prod.fst (Prod.fst b))) fun b↦br (!Prod.fst (Prod.fst b)) (some ((false,()),())) (some ((true,()),()))))
def qfo (D:DX)(n:Nat) (a0:Int×Int×Int×Unit) (a1:List (Int×Int×Unit)):Option ((Bool×Unit)×Unit):=qji D n a0 a1
theorem qol (D:DX)(n:Nat) (a0:Int×Int×Int×Unit) (a1:List (Int×Int×Unit)):rfC qe D n 3 (a0,(a1,()))=qfo D n a0 a1:=by kernel_rfl

def ql4 (D:DX)(n:Nat) (a0:List (Int×Int×Unit)) (a1:Int):Option ((Int×Unit)×Unit):=br (decide (IntKind.wrap IntKind.i64 (a1 - (↑(List.length a0):Int))<0)) (some ((-1,()),())) (some ((IntKind.wrap IntKind.i64 (a1 - (↑(List.length a0):Int)),()),()))
def qh1 (D:DX)(n:Nat) (a0:List (Int×Int×Unit)) (a1:Int):Option ((Int×Unit)×Unit):=ql4 D n a0 a1
theorem qrv (D:DX)(n:Nat) (a0:List (Int×Int×Unit)) (a1:Int):rfC qe D n 4 (a0,(a1,()))=qh1 D n a0 a1:=by kernel_rfl

def qpc (D:DX)(n:Nat) (a0:Int×Int×Int×Unit) (a1:List (Int×Int×Unit)):Option ((Int×Unit)×Unit):=qc (qlq D a0) fun b↦br (!Prod.fst (Prod.fst b)) (some ((-1,()),())) (qc (qky D a0 a1) fun b↦some ((Prod.fst (Prod.snd (Prod.fst (Prod.fst b))),()),()))
def qlk (D:DX)(n:Nat) (a0:Int×Int×Int×Unit) (a1:List (Int×Int×Unit)):Option ((Int×Unit)×Unit):=qpc D n a0 a1
theorem qwd (D:DX)(n:Nat) (a0:Int×Int×Int×Unit) (a1:List (Int×Int×Unit)):rfC qe D n 5 (a0,(a1,()))=qlk D n a0 a1:=by kernel_rfl

def qwl (D:DX)(n:Nat) (a0:Int×Int×Int×Unit):Option (((Int×Int×Int×Unit)×Unit)×Unit):=some (((Prod.fst a0,Prod.fst (Prod.snd a0),Prod.fst (Prod.snd (Prod.snd a0)),()),()),())
def qpo (D:DX)(n:Nat) (a0:Int×Int×Int×Unit):Option (((Int×Int×Int×Unit)×Unit)×Unit):=qwl D n a0
theorem qv6 (D:DX)(n:Nat) (a0:Int×Int×Int×Unit):rfC qe D n 6 (a0,())=qpo D n a0:=by kernel_rfl

def qhi (D:DX)(n:Nat) (go:List (Int×Int×Unit)→Int→List (Int×Int×Unit)→Option ((List (Int×Int×Unit)×Unit)×Unit)) (K0:List (Int×Int×Unit)→Option ((List (Int×Int×Unit)×Unit)×Unit)) (x0:List (Int×Int×Unit)) (x1:Int) (x2:List (Int×Int×Unit)):Option ((List (Int×Int×Unit)×Unit)×Unit):=br (decide (x1<(↑(List.length x0):Int))) (br (decide (0≤x1)&&decide (x1<(↑(List.length x0):Int))) (qc (qgo D (List.getD x0 (Int.toNat x1) (0,0,()))) fun b↦br (decide (0≤x1)&&decide (x1<(↑(List.length x2):Int))) (go x0 (IntKind.wrap IntKind.i64 (x1+1)) (List.set x2 (Int.toNat x1) (Prod.fst (Prod.fst b)))) none) none) (K0 x2)
def qda (D:DX)(n:Nat) (K0:List (Int×Int×Unit)→Option ((List (Int×Int×Unit)×Unit)×Unit)):Nat→(List (Int×Int×Unit))→(Int)→(List (Int×Int×Unit))→Option ((List (Int×Int×Unit)×Unit)×Unit) | 0=>(fun x0 x1 x2=>none) | m+1=>(fun x0 x1 x2=>qhi D n (qda D n K0 m) K0 x0 x1 x2)
def qei (D:DX)(n:Nat) (v0_0:List (Int×Int×Unit)):Option ((List (Int×Int×Unit)×Unit)×Unit):=some ((v0_0,()),())
def qgv (D:DX)(n:Nat):(List (Int×Int×Unit))→(Int)→(List (Int×Int×Unit))→Option ((List (Int×Int×Unit)×Unit)×Unit):=(fun x0 x1 x2=>qda D n (fun v0_0=>qei D n v0_0) n x0 x1 x2)
def qhu (D:DX)(n:Nat) (lp0:List (Int×Int×Unit)→Int→List (Int×Int×Unit)→Option ((List (Int×Int×Unit)×Unit)×Unit)) (a0:List (Int×Int×Unit)):Option ((List (Int×Int×Unit)×Unit)×Unit):=br (decide (0≤(↑(List.length a0):Int))&&decide ((↑(List.length a0):Int)≤(↑(List.length a0):Int))&&decide ((↑(List.length a0):Int)≤(↑qdg:Int))) (lp0 a0 0 (List.replicate (Int.toNat (↑(List.length a0):Int)) (0,0,()))) none
def qit (D:DX)(n:Nat) (a0:List (Int×Int×Unit)):Option ((List (Int×Int×Unit)×Unit)×Unit):=qhu D n (qgv D n) a0
def qdc (x0:List (Int×Int×Unit)) (x1:Int) (x2:List (Int×Int×Unit)):St:=stq 23 [(0,AV.val (Ty.sl (Ty.pair yI (Ty.pair yI Ty.unit))) x0),(3,AV.brw 3 [] 0),(4,avI x1)] [(3,Root.mk (Ty.sl (Ty.pair yI (Ty.pair yI Ty.unit))) (Mk.own 0 (Mk.pr Mk.no (Mk.pr Mk.no Mk.no))) x2 false)] 
def qeg (v0_0:List (Int×Int×Unit)):St:=stq 23 [(3,AV.brw 3 [] 0)] [(3,Root.mk (Ty.sl (Ty.pair yI (Ty.pair yI Ty.unit))) (Mk.own 0 (Mk.pr Mk.no (Mk.pr Mk.no Mk.no))) v0_0 false)] 
theorem qqc (D:DX)(n:Nat) (m:Nat) (K:Ex→St→Option (Out ctx 7)) (x0:List (Int×Int×Unit)) (x1:Int) (x2:List (Int×Int×Unit)) :
 LQ qe D n 7 [.r,.r,.l,.r,.l] (m+1) (qdc x0 x1 x2) K=qhi D n (fun x0 x1 x2=>LQ qe D n 7 [.r,.r,.l,.r,.l] m (qdc x0 x1 x2) K) (fun v0_0=>K (Ex.exit 0) (qeg v0_0)) x0 x1 x2:=by kernel_rfl
theorem qki (D:DX)(n:Nat) (K:Ex→St→Option (Out ctx 7)):∀ (m:Nat) (x0:List (Int×Int×Unit)) (x1:Int) (x2:List (Int×Int×Unit)),LQ qe D n 7 [.r,.r,.l,.r,.l] m (qdc x0 x1 x2) K=qda D n (fun v0_0=>K (Ex.exit 0) (qeg v0_0)) m x0 x1 x2
 | 0,x0,x1,x2=>qgx ..
 | m+1,x0,x1,x2=>by
  have ih:(fun x0 x1 x2=>LQ qe D n 7 [.r,.r,.l,.r,.l] m (qdc x0 x1 x2) K)=qda D n (fun v0_0=>K (Ex.exit 0) (qeg v0_0)) m:=by funext x0 x1 x2;exact qki D n K m x0 x1 x2
  rw[qqc]
  rw[ih];rfl
theorem qo3 (D:DX)(n:Nat) (v0_0:List (Int×Int×Unit)) :
 (CQ qe D n 7 [] [.r,.r,.l,.r,.l] (qb0 qe 7)) (Ex.exit 0) (qeg v0_0)=qei D n v0_0:=by kernel_rfl
theorem qo7 (D:DX)(n:Nat) (x0:List (Int×Int×Unit)) (x1:Int) (x2:List (Int×Int×Unit)) :
 LQ qe D n 7 [.r,.r,.l,.r,.l] n (qdc x0 x1 x2) (CQ qe D n 7 [] [.r,.r,.l,.r,.l] (qb0 qe 7))=qgv D n x0 x1 x2:=by
 rw[qki]
 simp only[qo3]
 rfl
theorem qre (D:DX)(n:Nat) (a0:List (Int×Int×Unit)):rfC qe D n 7 (a0,())=qit D n a0:=by
 have h:rfC qe D n 7 (a0,())=qhu D n (fun x0 x1 x2=>LQ qe D n 7 [.r,.r,.l,.r,.l] n (qdc x0 x1 x2) (CQ qe D n 7 [] [.r,.r,.l,.r,.l] (qb0 qe 7))) a0:=by kernel_rfl
 rw[h]
 simp only[qo7]
 rfl

def qpn (D:DX)(n:Nat) (a0:Int×Int×Int×Unit) (a1:List (Int×Int×Unit)):Option ((Int×Unit)×Unit):=qc (qlm D a0) fun b↦br (!Prod.fst (Prod.fst b)) (some ((-1,()),())) (qc (qkt D a0 a1) fun b↦some ((Prod.fst (Prod.snd (Prod.snd (Prod.fst (Prod.fst b)))),()),()))
def ql3 (D:DX)(n:Nat) (a0:Int×Int×Int×Unit) (a1:List (Int×Int×Unit)):Option ((Int×Unit)×Unit):=qpn D n a0 a1
theorem qv3 (D:DX)(n:Nat) (a0:Int×Int×Int×Unit) (a1:List (Int×Int×Unit)):rfC qe D n 8 (a0,(a1,()))=ql3 D n a0 a1:=by kernel_rfl

def qhe (D:DX)(n:Nat) (go:List (Int×Int×Unit)→List (Int×Int×Unit)→Int→Option ((Bool×Unit)×Unit)) (K0:Bool→Option ((Bool×Unit)×Unit)) (K1:Option ((Bool×Unit)×Unit)) (x0:List (Int×Int×Unit)) (x1:List (Int×Int×Unit)) (x2:Int):Option ((Bool×Unit)×Unit):=br (decide (x2<(↑(List.length x0):Int))) (br (decide (0≤x2)&&decide (x2<(↑(List.length x0):Int))) (br (decide (0≤x2)&&decide (x2<(↑(List.length x1):Int))) (qc (qgn D (List.getD x0 (Int.toNat x2) (0,0,())) (List.getD x1 (Int.toNat x2) (0,0,()))) fun b↦br (!Prod.fst (Prod.fst b)) (K0 false) (go x0 x1 (IntKind.wrap IntKind.i64 (x2+1)))) none) none) K1
def qdb (D:DX)(n:Nat) (K0:Bool→Option ((Bool×Unit)×Unit)) (K1:Option ((Bool×Unit)×Unit)):Nat→(List (Int×Int×Unit))→(List (Int×Int×Unit))→(Int)→Option ((Bool×Unit)×Unit) | 0=>(fun x0 x1 x2=>none) | m+1=>(fun x0 x1 x2=>qhe D n (qdb D n K0 K1 m) K0 K1 x0 x1 x2)
def qel (D:DX)(n:Nat) (v0_0:Bool):Option ((Bool×Unit)×Unit):=some ((v0_0,()),())
def qej (D:DX)(n:Nat):Option ((Bool×Unit)×Unit):=some ((true,()),())
def qgs (D:DX)(n:Nat):(List (Int×Int×Unit))→(List (Int×Int×Unit))→(Int)→Option ((Bool×Unit)×Unit):=(fun x0 x1 x2=>qdb D n (fun v0_0=>qel D n v0_0) (qej D n) n x0 x1 x2)
def qia (D:DX)(n:Nat) (lp0:List (Int×Int×Unit)→List (Int×Int×Unit)→Int→Option ((Bool×Unit)×Unit)) (a0:List (Int×Int×Unit)) (a1:List (Int×Int×Unit)):Option ((Bool×Unit)×Unit):=br ((↑(List.length a0):Int) != (↑(List.length a1):Int)) (some ((false,()),())) (lp0 a0 a1 0)
def qht (D:DX)(n:Nat) (a0:List (Int×Int×Unit)) (a1:List (Int×Int×Unit)):Option ((Bool×Unit)×Unit):=qia D n (qgs D n) a0 a1
def qdd (x0:List (Int×Int×Unit)) (x1:List (Int×Int×Unit)) (x2:Int):St:=stq 27 [(0,AV.val (Ty.sl (Ty.pair yI (Ty.pair yI Ty.unit))) x0),(1,AV.val (Ty.sl (Ty.pair yI (Ty.pair yI Ty.unit))) x1),(5,avI x2)] [] 
def qem (v0_0:Bool):St:=stq 27 [(4,AV.val Ty.bool v0_0)] [] 
def qeo:St:=stq 27 [] [] 
theorem qpu (D:DX)(n:Nat) (m:Nat) (K:Ex→St→Option (Out ctx 9)) (x0:List (Int×Int×Unit)) (x1:List (Int×Int×Unit)) (x2:Int) :
 LQ qe D n 9 [.r,.r,.l,.r,.l] (m+1) (qdd x0 x1 x2) K=qhe D n (fun x0 x1 x2=>LQ qe D n 9 [.r,.r,.l,.r,.l] m (qdd x0 x1 x2) K) (fun v0_0=>K (Ex.ret) (qem v0_0)) (K (Ex.exit 0) (qeo)) x0 x1 x2:=by kernel_rfl
theorem qkq (D:DX)(n:Nat) (K:Ex→St→Option (Out ctx 9)):∀ (m:Nat) (x0:List (Int×Int×Unit)) (x1:List (Int×Int×Unit)) (x2:Int),LQ qe D n 9 [.r,.r,.l,.r,.l] m (qdd x0 x1 x2) K=qdb D n (fun v0_0=>K (Ex.ret) (qem v0_0)) (K (Ex.exit 0) (qeo)) m x0 x1 x2
 | 0,x0,x1,x2=>qgx ..
 | m+1,x0,x1,x2=>by
  have ih:(fun x0 x1 x2=>LQ qe D n 9 [.r,.r,.l,.r,.l] m (qdd x0 x1 x2) K)=qdb D n (fun v0_0=>K (Ex.ret) (qem v0_0)) (K (Ex.exit 0) (qeo)) m:=by funext x0 x1 x2;exact qkq D n K m x0 x1 x2
  rw[qpu]
  rw[ih];rfl
theorem qo5 (D:DX)(n:Nat) (v0_0:Bool) :
 (CQ qe D n 9 [] [.r,.r,.l,.r,.l] (qb0 qe 9)) (Ex.ret) (qem v0_0)=qel D n v0_0:=by kernel_rfl
theorem qo6 (D:DX)(n:Nat) :
 (CQ qe D n 9 [] [.r,.r,.l,.r,.l] (qb0 qe 9)) (Ex.exit 0) (qeo)=qej D n:=by kernel_rfl
theorem qo4 (D:DX)(n:Nat) (x0:List (Int×Int×Unit)) (x1:List (Int×Int×Unit)) (x2:Int) :
 LQ qe D n 9 [.r,.r,.l,.r,.l] n (qdd x0 x1 x2) (CQ qe D n 9 [] [.r,.r,.l,.r,.l] (qb0 qe 9))=qgs D n x0 x1 x2:=by
 rw[qkq]
 simp only[qo5,qo6]
 rfl
theorem qrd (D:DX)(n:Nat) (a0:List (Int×Int×Unit)) (a1:List (Int×Int×Unit)):rfC qe D n 9 (a0,(a1,()))=qht D n a0 a1:=by
 have h:rfC qe D n 9 (a0,(a1,()))=qia D n (fun x0 x1 x2=>LQ qe D n 9 [.r,.r,.l,.r,.l] n (qdd x0 x1 x2) (CQ qe D n 9 [] [.r,.r,.l,.r,.l] (qb0 qe 9))) a0 a1:=by kernel_rfl
 rw[h]
 simp only[qo4]
 rfl

def qpi (D:DX)(n:Nat) (a0:Int×Int×Int×Unit):Option ((Bool×Unit)×Unit):=qc (qcn D (Prod.fst a0) 1 10) fun b↦br (!Prod.fst (Prod.fst b)) (some ((false,()),())) (qc (qk5 D (Prod.fst a0)) fun b↦br (Prod.fst (Prod.fst b)) (qc (qho D (Prod.fst (Prod.snd a0))) fun b↦br (decide (Prod.fst a0=6)) (qc (qcn D (Prod.fst (Prod.snd a0)) 0 2) fun b↦qc (qew D (Prod.fst a0)) fun b_1↦br (Prod.fst (Prod.fst b_1)) (br (Prod.fst (Prod.fst b)) (qc (qcp D (Prod.fst (Prod.snd (Prod.snd a0)))) fun b↦some ((Prod.fst (Prod.fst b),()),())) (some ((false,()),()))) (some ((bif Prod.fst (Prod.fst b) then decide (Prod.fst (Prod.snd (Prod.snd a0))=0) else false,()),()))) (qc (qew D (Prod.fst a0)) fun b_1↦br (Prod.fst (Prod.fst b_1)) (br (Prod.fst (Prod.fst b)) (qc (qcp D (Prod.fst (Prod.snd (Prod.snd a0)))) fun b↦some ((Prod.fst (Prod.fst b),()),())) (some ((false,()),()))) (some ((bif Prod.fst (Prod.fst b) then decide (Prod.fst (Prod.snd (Prod.snd a0))=0) else false,()),())))) (br (decide (Prod.fst a0=6)) (qc (qcn D (Prod.fst (Prod.snd a0)) 0 2) fun b↦qc (qew D (Prod.fst a0)) fun b_1↦br (Prod.fst (Prod.fst b_1)) (br (Prod.fst (Prod.fst b)) (qc (qcp D (Prod.fst (Prod.snd (Prod.snd a0)))) fun b↦some ((Prod.fst (Prod.fst b),()),())) (some ((false,()),()))) (some ((bif Prod.fst (Prod.fst b) then decide (Prod.fst (Prod.snd (Prod.snd a0))=0) else false,()),()))) (qc (qew D (Prod.fst a0)) fun b↦br (Prod.fst (Prod.fst b)) (br (decide (Prod.fst (Prod.snd a0)=0)) (qc (qcp D (Prod.fst (Prod.snd (Prod.snd a0)))) fun b↦some ((Prod.fst (Prod.fst b),()),())) (some ((false,()),()))) (some ((bif decide (Prod.fst (Prod.snd a0)=0) then decide (Prod.fst (Prod.snd (Prod.snd a0))=0) else false,()),())))))
def qly (D:DX)(n:Nat) (a0:Int×Int×Int×Unit):Option ((Bool×Unit)×Unit):=qpi D n a0
theorem qvz (D:DX)(n:Nat) (a0:Int×Int×Int×Unit):rfC qe D n 10 (a0,())=qly D n a0:=by kernel_rfl

def qjq (D:DX)(n:Nat) (go:Int→List (Int×Int×Unit)×Int×Bool×Unit→Option (((List (Int×Int×Unit)×Int×Bool×Unit)×Unit)×Unit)) (K0:List (Int×Int×Unit)×Int×Bool×Unit→Option (((List (Int×Int×Unit)×Int×Bool×Unit)×Unit)×Unit)) (x0:Int) (x1:List (Int×Int×Unit)×Int×Bool×Unit):Option (((List (Int×Int×Unit)×Int×Bool×Unit)×Unit)×Unit):=br (decide (x0<4)) (qc (qc8 D x0) fun b↦qc (qm D x1 (Prod.fst (Prod.fst b))) fun b↦go (IntKind.wrap IntKind.i64 (x0+1)) (Prod.fst (Prod.snd b))) (K0 x1)
def qdz (D:DX)(n:Nat) (K0:List (Int×Int×Unit)×Int×Bool×Unit→Option (((List (Int×Int×Unit)×Int×Bool×Unit)×Unit)×Unit)):Nat→(Int)→(List (Int×Int×Unit)×Int×Bool×Unit)→Option (((List (Int×Int×Unit)×Int×Bool×Unit)×Unit)×Unit) | 0=>(fun x0 x1=>none) | m+1=>(fun x0 x1=>qjq D n (qdz D n K0 m) K0 x0 x1)
def qhp (D:DX)(n:Nat) (v0_0:List (Int×Int×Unit)×Int×Bool×Unit):Option (((List (Int×Int×Unit)×Int×Bool×Unit)×Unit)×Unit):=some ((v0_0,()),())
def qh9 (D:DX)(n:Nat):(Int)→(List (Int×Int×Unit)×Int×Bool×Unit)→Option (((List (Int×Int×Unit)×Int×Bool×Unit)×Unit)×Unit):=(fun x0 x1=>qdz D n (fun v0_0=>qhp D n v0_0) n x0 x1)
def qke (D:DX)(n:Nat) (lp0:Int→List (Int×Int×Unit)×Int×Bool×Unit→Option (((List (Int×Int×Unit)×Int×Bool×Unit)×Unit)×Unit)) (a0:Int×Int×Int×Unit) (a1:List (Int×Int×Unit)):Option (((List (Int×Int×Unit)×Int×Bool×Unit)×Unit)×Unit):=br (decide (Prod.fst a0=1)) (qc (qkj D (a1,-1,false,()) a0) fun b↦some ((Prod.fst (Prod.snd b),()),())) (br (decide (Prod.fst a0=2)) (qc (qkw D (a1,-1,false,()) a0) fun b↦some ((Prod.fst (Prod.snd b),()),())) (br (decide (Prod.fst a0=3)) (qc (qkp D (a1,-1,false,()) a0) fun b↦some ((Prod.fst (Prod.snd b),()),())) (br (decide (Prod.fst a0=4)) (qc (qc8 D (Prod.fst (Prod.snd a0))) fun b↦qc (qm D (a1,-1,false,()) (Prod.fst (Prod.fst b))) fun b↦some ((Prod.fst (Prod.snd b),()),())) (br (decide (Prod.fst a0=5)) (qc (qcz D (Prod.fst (Prod.snd (Prod.snd a0)))) fun b↦qc (qm D (a1,-1,false,()) (Prod.fst (Prod.fst b))) fun b↦some ((Prod.fst (Prod.snd b),()),())) (br (decide (Prod.fst a0=6)) (qc (qc1 D (Prod.fst (Prod.snd a0))) fun b↦qc (qm D (a1,-1,false,()) (Prod.fst (Prod.fst b))) fun b↦some ((Prod.fst (Prod.snd b),()),())) (br (decide (Prod.fst a0=7)) (lp0 0 (a1,-1,false,())) (br (decide (Prod.fst a0=8)) (qc (qc0 D) fun b↦qc (qm D (a1,-1,false,()) (Prod.fst (Prod.fst b))) fun b↦some ((Prod.fst (Prod.snd b),()),())) (br (decide (Prod.fst a0=9)) (qc (qjs D (a1,-1,false,())) fun b↦some ((Prod.fst (Prod.snd b),()),())) (br (decide (Prod.fst a0=10)) (qc (qc0 D) fun b↦qc (qm D (a1,-1,false,()) (Prod.fst (Prod.fst b))) fun b↦qc (qcm D (Prod.fst (Prod.snd b)) (Prod.fst (Prod.fst b) != 5)) fun b↦qc (qfu D (Prod.fst (Prod.snd (Prod.snd a0)))) fun b_1↦qc (qm D (Prod.fst (Prod.snd b)) (Prod.fst (Prod.fst b_1))) fun b↦some ((Prod.fst (Prod.snd b),()),())) (some (((a1,-1,false,()),()),())))))))))))
def qj7 (D:DX)(n:Nat) (a0:Int×Int×Int×Unit) (a1:List (Int×Int×Unit)):Option (((List (Int×Int×Unit)×Int×Bool×Unit)×Unit)×Unit):=qke D n (qh9 D n) a0 a1
def qdy (x0:Int) (x1:List (Int×Int×Unit)×Int×Bool×Unit):St:=stq 81 [(5,AV.addr 9 []),(6,avI x0)] [(9,Root.mk (Ty.pair (Ty.sl (Ty.pair yI (Ty.pair yI Ty.unit))) (Ty.pair yI (Ty.pair Ty.bool Ty.unit))) Mk.no x1 true)] 
def qfn (v0_0:List (Int×Int×Unit)×Int×Bool×Unit):St:=stq 81 [(5,AV.addr 9 [])] [(9,Root.mk (Ty.pair (Ty.sl (Ty.pair yI (Ty.pair yI Ty.unit))) (Ty.pair yI (Ty.pair Ty.bool Ty.unit))) Mk.no v0_0 true)] 
theorem qrw (D:DX)(n:Nat) (m:Nat) (K:Ex→St→Option (Out ctx 11)) (x0:Int) (x1:List (Int×Int×Unit)×Int×Bool×Unit) :
 LQ qe D n 11 [.r,.r,.l,.r,.l,.r,.r,.r,.r,.r,.r,.r,.r,.r,.r,.r,.r,.r,.l,.r,.l] (m+1) (qdy x0 x1) K=qjq D n (fun x0 x1=>LQ qe D n 11 [.r,.r,.l,.r,.l,.r,.r,.r,.r,.r,.r,.r,.r,.r,.r,.r,.r,.r,.l,.r,.l] m (qdy x0 x1) K) (fun v0_0=>K (Ex.exit 1) (qfn v0_0)) x0 x1:=by kernel_rfl
theorem qms (D:DX)(n:Nat) (K:Ex→St→Option (Out ctx 11)):∀ (m:Nat) (x0:Int) (x1:List (Int×Int×Unit)×Int×Bool×Unit),LQ qe D n 11 [.r,.r,.l,.r,.l,.r,.r,.r,.r,.r,.r,.r,.r,.r,.r,.r,.r,.r,.l,.r,.l] m (qdy x0 x1) K=qdz D n (fun v0_0=>K (Ex.exit 1) (qfn v0_0)) m x0 x1
 | 0,x0,x1=>qgx ..
 | m+1,x0,x1=>by
  have ih:(fun x0 x1=>LQ qe D n 11 [.r,.r,.l,.r,.l,.r,.r,.r,.r,.r,.r,.r,.r,.r,.r,.r,.r,.r,.l,.r,.l] m (qdy x0 x1) K)=qdz D n (fun v0_0=>K (Ex.exit 1) (qfn v0_0)) m:=by funext x0 x1;exact qms D n K m x0 x1
  rw[qrw]
  rw[ih];rfl
theorem qqo (D:DX)(n:Nat) (v0_0:List (Int×Int×Unit)×Int×Bool×Unit) :
 (CQ qe D n 11 [] [.r,.r,.l,.r,.l,.r,.r,.r,.r,.r,.r,.r,.r,.r,.r,.r,.r,.r,.l,.r,.l] (qb0 qe 11)) (Ex.exit 1) (qfn v0_0)=qhp D n v0_0:=by kernel_rfl
theorem qq8 (D:DX)(n:Nat) (x0:Int) (x1:List (Int×Int×Unit)×Int×Bool×Unit) :
 LQ qe D n 11 [.r,.r,.l,.r,.l,.r,.r,.r,.r,.r,.r,.r,.r,.r,.r,.r,.r,.r,.l,.r,.l] n (qdy x0 x1) (CQ qe D n 11 [] [.r,.r,.l,.r,.l,.r,.r,.r,.r,.r,.r,.r,.r,.r,.r,.r,.r,.r,.l,.r,.l] (qb0 qe 11))=qh9 D n x0 x1:=by
 rw[qms]
 simp only[qqo]
 rfl
theorem qvk (D:DX)(n:Nat) (a0:Int×Int×Int×Unit) (a1:List (Int×Int×Unit)):rfC qe D n 11 (a0,(a1,()))=qj7 D n a0 a1:=by
 have h:rfC qe D n 11 (a0,(a1,()))=qke D n (fun x0 x1=>LQ qe D n 11 [.r,.r,.l,.r,.l,.r,.r,.r,.r,.r,.r,.r,.r,.r,.r,.r,.r,.r,.l,.r,.l] n (qdy x0 x1) (CQ qe D n 11 [] [.r,.r,.l,.r,.l,.r,.r,.r,.r,.r,.r,.r,.r,.r,.r,.r,.r,.r,.l,.r,.l] (qb0 qe 11))) a0 a1:=by kernel_rfl
 rw[h]
 simp only[qq8]
 rfl

def qti (D:DX)(n:Nat) (a0:Int×Int×Unit):Option (((Int×Int×Unit)×Unit)×Unit):=some (((Prod.fst a0,Prod.fst (Prod.snd a0),()),()),())
def qnm (D:DX)(n:Nat) (a0:Int×Int×Unit):Option (((Int×Int×Unit)×Unit)×Unit):=qti D n a0
theorem qte (D:DX)(n:Nat) (a0:Int×Int×Unit):rfC qe D n 12 (a0,())=qnm D n a0:=by kernel_rfl

def qpb (D:DX)(n:Nat) (a0:Int×Int×Int×Unit):Option ((Bool×Unit)×Unit):=br (decide (Prod.fst a0=1)) (br (decide (Prod.fst a0=1)) (qc (qcs D (Prod.fst (Prod.snd a0))) fun b↦br (Prod.fst (Prod.fst b)) (qc (q0 D (Prod.fst (Prod.snd (Prod.snd a0)))) fun b↦some ((Prod.fst (Prod.fst b),()),())) (some ((false,()),()))) (br (decide (Prod.fst a0=3)) (br (decide (Prod.fst a0=3)) (qc (qcs D (Prod.fst (Prod.snd a0))) fun b↦some ((bif Prod.fst (Prod.fst b) then decide (Prod.fst (Prod.snd (Prod.snd a0))=0) else false,()),())) (br (decide (Prod.fst a0=5)) (br (decide (Prod.fst a0=5)) (br (decide (Prod.fst (Prod.snd a0)=0)) (qc (q0 D (Prod.fst (Prod.snd (Prod.snd a0)))) fun b↦some ((Prod.fst (Prod.fst b),()),())) (some ((false,()),()))) (br (decide (Prod.fst a0=6)) (qc (qbo D (Prod.fst (Prod.snd a0))) fun b↦some ((bif Prod.fst (Prod.fst b) then decide (Prod.fst (Prod.snd (Prod.snd a0))=0) else false,()),())) (br (decide (Prod.fst a0=7)) (br (decide (Prod.fst a0=7)) (some ((bif decide (Prod.fst (Prod.snd a0)=0) then decide (Prod.fst (Prod.snd (Prod.snd a0))=0) else false,()),())) (some ((false,()),()))) (br (decide (Prod.fst a0=8)) (br (decide (Prod.fst a0=8)) (some ((bif decide (Prod.fst (Prod.snd a0)=0) then decide (Prod.fst (Prod.snd (Prod.snd a0))=0) else false,()),())) (some ((false,()),()))) (br (decide (Prod.fst a0=9)) (some ((bif decide (Prod.fst (Prod.snd a0)=0) then decide (Prod.fst (Prod.snd (Prod.snd a0))=0) else false,()),())) (some ((false,()),()))))))) (br (decide (Prod.fst a0=10)) (br (decide (Prod.fst (Prod.snd a0)=0)) (qc (q0 D (Prod.fst (Prod.snd (Prod.snd a0)))) fun b↦some ((Prod.fst (Prod.fst b),()),())) (some ((false,()),()))) (br (decide (Prod.fst a0=6)) (qc (qbo D (Prod.fst (Prod.snd a0))) fun b↦some ((bif Prod.fst (Prod.fst b) then decide (Prod.fst (Prod.snd (Prod.snd a0))=0) else false,()),())) (br (decide (Prod.fst a0=7)) (br (decide (Prod.fst a0=7)) (some ((bif decide (Prod.fst (Prod.snd a0)=0) then decide (Prod.fst (Prod.snd (Prod.snd a0))=0) else false,()),())) (some ((false,()),()))) (br (decide (Prod.fst a0=8)) (br (decide (Prod.fst a0=8)) (some ((bif decide (Prod.fst (Prod.snd a0)=0) then decide (Prod.fst (Prod.snd (Prod.snd a0))=0) else false,()),())) (some ((false,()),()))) (br (decide (Prod.fst a0=9)) (some ((bif decide (Prod.fst (Prod.snd a0)=0) then decide (Prod.fst (Prod.snd (Prod.snd a0))=0) else false,()),())) (some ((false,()),()))))))))) (br (decide (Prod.fst a0=4)) (qc (qcs D (Prod.fst (Prod.snd a0))) fun b↦some ((bif Prod.fst (Prod.fst b) then decide (Prod.fst (Prod.snd (Prod.snd a0))=0) else false,()),())) (br (decide (Prod.fst a0=5)) (br (decide (Prod.fst a0=5)) (br (decide (Prod.fst (Prod.snd a0)=0)) (qc (q0 D (Prod.fst (Prod.snd (Prod.snd a0)))) fun b↦some ((Prod.fst (Prod.fst b),()),())) (some ((false,()),()))) (br (decide (Prod.fst a0=6)) (qc (qbo D (Prod.fst (Prod.snd a0))) fun b↦some ((bif Prod.fst (Prod.fst b) then decide (Prod.fst (Prod.snd (Prod.snd a0))=0) else false,()),())) (br (decide (Prod.fst a0=7)) (br (decide (Prod.fst a0=7)) (some ((bif decide (Prod.fst (Prod.snd a0)=0) then decide (Prod.fst (Prod.snd (Prod.snd a0))=0) else false,()),())) (some ((false,()),()))) (br (decide (Prod.fst a0=8)) (br (decide (Prod.fst a0=8)) (some ((bif decide (Prod.fst (Prod.snd a0)=0) then decide (Prod.fst (Prod.snd (Prod.snd a0))=0) else false,()),())) (some ((false,()),()))) (br (decide (Prod.fst a0=9)) (some ((bif decide (Prod.fst (Prod.snd a0)=0) then decide (Prod.fst (Prod.snd (Prod.snd a0))=0) else false,()),())) (some ((false,()),()))))))) (br (decide (Prod.fst a0=10)) (br (decide (Prod.fst (Prod.snd a0)=0)) (qc (q0 D (Prod.fst (Prod.snd (Prod.snd a0)))) fun b↦some ((Prod.fst (Prod.fst b),()),())) (some ((false,()),()))) (br (decide (Prod.fst a0=6)) (qc (qbo D (Prod.fst (Prod.snd a0))) fun b↦some ((bif Prod.fst (Prod.fst b) then decide (Prod.fst (Prod.snd (Prod.snd a0))=0) else false,()),())) (br (decide (Prod.fst a0=7)) (br (decide (Prod.fst a0=7)) (some ((bif decide (Prod.fst (Prod.snd a0)=0) then decide (Prod.fst (Prod.snd (Prod.snd a0))=0) else false,()),())) (some ((false,()),()))) (br (decide (Prod.fst a0=8)) (br (decide (Prod.fst a0=8)) (some ((bif decide (Prod.fst (Prod.snd a0)=0) then decide (Prod.fst (Prod.snd (Prod.snd a0))=0) else false,()),())) (some ((false,()),()))) (br (decide (Prod.fst a0=9)) (some ((bif decide (Prod.fst (Prod.snd a0)=0) then decide (Prod.fst (Prod.snd (Prod.snd a0))=0) else false,()),())) (some ((false,()),()))))))))))) (br (decide (Prod.fst a0=2)) (qc (qcs D (Prod.fst (Prod.snd a0))) fun b↦br (Prod.fst (Prod.fst b)) (qc (q0 D (Prod.fst (Prod.snd (Prod.snd a0)))) fun b↦some ((Prod.fst (Prod.fst b),()),())) (some ((false,()),()))) (br (decide (Prod.fst a0=3)) (br (decide (Prod.fst a0=3)) (qc (qcs D (Prod.fst (Prod.snd a0))) fun b↦some ((bif Prod.fst (Prod.fst b) then decide (Prod.fst (Prod.snd (Prod.snd a0))=0) else false,()),())) (br (decide (Prod.fst a0=5)) (br (decide (Prod.fst a0=5)) (br (decide (Prod.fst (Prod.snd a0)=0)) (qc (q0 D (Prod.fst (Prod.snd (Prod.snd a0)))) fun b↦some ((Prod.fst (Prod.fst b),()),())) (some ((false,()),()))) (br (decide (Prod.fst a0=6)) (qc (qbo D (Prod.fst (Prod.snd a0))) fun b↦some ((bif Prod.fst (Prod.fst b) then decide (Prod.fst (Prod.snd (Prod.snd a0))=0) else false,()),())) (br (decide (Prod.fst a0=7)) (br (decide (Prod.fst a0=7)) (some ((bif decide (Prod.fst (Prod.snd a0)=0) then decide (Prod.fst (Prod.snd (Prod.snd a0))=0) else false,()),())) (some ((false,()),()))) (br (decide (Prod.fst a0=8)) (br (decide (Prod.fst a0=8)) (some ((bif decide (Prod.fst (Prod.snd a0)=0) then decide (Prod.fst (Prod.snd (Prod.snd a0))=0) else false,()),())) (some ((false,()),()))) (br (decide (Prod.fst a0=9)) (some ((bif decide (Prod.fst (Prod.snd a0)=0) then decide (Prod.fst (Prod.snd (Prod.snd a0))=0) else false,()),())) (some ((false,()),()))))))) (br (decide (Prod.fst a0=10)) (br (decide (Prod.fst (Prod.snd a0)=0)) (qc (q0 D (Prod.fst (Prod.snd (Prod.snd a0)))) fun b↦some ((Prod.fst (Prod.fst b),()),())) (some ((false,()),()))) (br (decide (Prod.fst a0=6)) (qc (qbo D (Prod.fst (Prod.snd a0))) fun b↦some ((bif Prod.fst (Prod.fst b) then decide (Prod.fst (Prod.snd (Prod.snd a0))=0) else false,()),())) (br (decide (Prod.fst a0=7)) (br (decide (Prod.fst a0=7)) (some ((bif decide (Prod.fst (Prod.snd a0)=0) then decide (Prod.fst (Prod.snd (Prod.snd a0))=0) else false,()),())) (some ((false,()),()))) (br (decide (Prod.fst a0=8)) (br (decide (Prod.fst a0=8)) (some ((bif decide (Prod.fst (Prod.snd a0)=0) then decide (Prod.fst (Prod.snd (Prod.snd a0))=0) else false,()),())) (some ((false,()),()))) (br (decide (Prod.fst a0=9)) (some ((bif decide (Prod.fst (Prod.snd a0)=0) then decide (Prod.fst (Prod.snd (Prod.snd a0))=0) else false,()),())) (some ((false,()),()))))))))) (br (decide (Prod.fst a0=4)) (qc (qcs D (Prod.fst (Prod.snd a0))) fun b↦some ((bif Prod.fst (Prod.fst b) then decide (Prod.fst (Prod.snd (Prod.snd a0))=0) else false,()),())) (br (decide (Prod.fst a0=5)) (br (decide (Prod.fst a0=5)) (br (decide (Prod.fst (Prod.snd a0)=0)) (qc (q0 D (Prod.fst (Prod.snd (Prod.snd a0)))) fun b↦some ((Prod.fst (Prod.fst b),()),())) (some ((false,()),()))) (br (decide (Prod.fst a0=6)) (qc (qbo D (Prod.fst (Prod.snd a0))) fun b↦some ((bif Prod.fst (Prod.fst b) then decide (Prod.fst (Prod.snd (Prod.snd a0))=0) else false,()),())) (br (decide (Prod.fst a0=7)) (br (decide (Prod.fst a0=7)) (some ((bif decide (Prod.fst (Prod.snd a0)=0) then decide (Prod.fst (Prod.snd (Prod.snd a0))=0) else false,()),())) (some ((false,()),()))) (br (decide (Prod.fst a0=8)) (br (decide (Prod.fst a0=8)) (some ((bif decide (Prod.fst (Prod.snd a0)=0) then decide (Prod.fst (Prod.snd (Prod.snd a0))=0) else false,()),())) (some ((false,()),()))) (br (decide (Prod.fst a0=9)) (some ((bif decide (Prod.fst (Prod.snd a0)=0) then decide (Prod.fst (Prod.snd (Prod.snd a0))=0) else false,()),())) (some ((false,()),()))))))) (br (decide (Prod.fst a0=10)) (br (decide (Prod.fst (Prod.snd a0)=0)) (qc (q0 D (Prod.fst (Prod.snd (Prod.snd a0)))) fun b↦some ((Prod.fst (Prod.fst b),()),())) (some ((false,()),()))) (br (decide (Prod.fst a0=6)) (qc (qbo D (Prod.fst (Prod.snd a0))) fun b↦some ((bif Prod.fst (Prod.fst b) then decide (Prod.fst (Prod.snd (Prod.snd a0))=0) else false,()),())) (br (decide (Prod.fst a0=7)) (br (decide (Prod.fst a0=7)) (some ((bif decide (Prod.fst (Prod.snd a0)=0) then decide (Prod.fst (Prod.snd (Prod.snd a0))=0) else false,()),())) (some ((false,()),()))) (br (decide (Prod.fst a0=8)) (br (decide (Prod.fst a0=8)) (some ((bif decide (Prod.fst (Prod.snd a0)=0) then decide (Prod.fst (Prod.snd (Prod.snd a0))=0) else false,()),())) (some ((false,()),()))) (br (decide (Prod.fst a0=9)) (some ((bif decide (Prod.fst (Prod.snd a0)=0) then decide (Prod.fst (Prod.snd (Prod.snd a0))=0) else false,()),())) (some ((false,()),())))))))))))
def qlr (D:DX)(n:Nat) (a0:Int×Int×Int×Unit):Option ((Bool×Unit)×Unit):=qpb D n a0
theorem qwb (D:DX)(n:Nat) (a0:Int×Int×Int×Unit):rfC qe D n 13 (a0,())=qlr D n a0:=by kernel_rfl

def qjr (D:DX)(n:Nat) (go:Int→List (Int×Int×Unit)×List Int×Int×Bool×Unit→Option (((List (Int×Int×Unit)×List Int×Int×Bool×Unit)×Unit)×Unit)) (K0:List (Int×Int×Unit)×List Int×Int×Bool×Unit→Option (((List (Int×Int×Unit)×List Int×Int×Bool×Unit)×Unit)×Unit)) (x0:Int) (x1:List (Int×Int×Unit)×List Int×Int×Bool×Unit):Option (((List (Int×Int×Unit)×List Int×Int×Bool×Unit)×Unit)×Unit):=br (decide (x0<4)) (qc (qb3 D x0) fun b↦qc (qg D x1 (Prod.fst (Prod.fst b))) fun b↦go (IntKind.wrap IntKind.i64 (x0+1)) (Prod.fst (Prod.snd b))) (K0 x1)
def qdx (D:DX)(n:Nat) (K0:List (Int×Int×Unit)×List Int×Int×Bool×Unit→Option (((List (Int×Int×Unit)×List Int×Int×Bool×Unit)×Unit)×Unit)):Nat→(Int)→(List (Int×Int×Unit)×List Int×Int×Bool×Unit)→Option (((List (Int×Int×Unit)×List Int×Int×Bool×Unit)×Unit)×Unit) | 0=>(fun x0 x1=>none) | m+1=>(fun x0 x1=>qjr D n (qdx D n K0 m) K0 x0 x1)
def qhd (D:DX)(n:Nat) (v0_0:List (Int×Int×Unit)×List Int×Int×Bool×Unit):Option (((List (Int×Int×Unit)×List Int×Int×Bool×Unit)×Unit)×Unit):=some ((v0_0,()),())
def qii (D:DX)(n:Nat):(Int)→(List (Int×Int×Unit)×List Int×Int×Bool×Unit)→Option (((List (Int×Int×Unit)×List Int×Int×Bool×Unit)×Unit)×Unit):=(fun x0 x1=>qdx D n (fun v0_0=>qhd D n v0_0) n x0 x1)
def qko (D:DX)(n:Nat) (lp0:Int→List (Int×Int×Unit)×List Int×Int×Bool×Unit→Option (((List (Int×Int×Unit)×List Int×Int×Bool×Unit)×Unit)×Unit)) (a0:Int×Int×Int×Unit) (a1:List (Int×Int×Unit)):Option (((List (Int×Int×Unit)×List Int×Int×Bool×Unit)×Unit)×Unit):=br (decide (Prod.fst a0=1)) (br (decide (Prod.fst a0=1)) (qc (qbv D (a1,[],-1,false,()) a0) fun b↦some ((Prod.fst (Prod.snd b),()),())) (br (decide (Prod.fst a0=4)) (qc (qb3 D (Prod.fst (Prod.snd a0))) fun b↦qc (qg D (a1,[],-1,false,()) (Prod.fst (Prod.fst b))) fun b↦some ((Prod.fst (Prod.snd b),()),())) (br (decide (Prod.fst a0=5)) (qc (qb6 D (Prod.fst (Prod.snd (Prod.snd a0)))) fun b↦qc (qg D (a1,[],-1,false,()) (Prod.fst (Prod.fst b))) fun b↦some ((Prod.fst (Prod.snd b),()),())) (br (decide (Prod.fst a0=6)) (qc (qb5 D (Prod.fst (Prod.snd a0))) fun b↦qc (qg D (a1,[],-1,false,()) (Prod.fst (Prod.fst b))) fun b↦some ((Prod.fst (Prod.snd b),()),())) (br (decide (Prod.fst a0=7)) (lp0 0 (a1,[],-1,false,())) (br (decide (Prod.fst a0=8)) (qc (qbe D) fun b↦qc (qg D (a1,[],-1,false,()) (Prod.fst (Prod.fst b))) fun b↦some ((Prod.fst (Prod.snd b),()),())) (br (decide (Prod.fst a0=9)) (qc (qbe D) fun b↦qc (qg D (a1,[],-1,false,()) (Prod.fst (Prod.fst b))) fun b↦qc (qp D (Prod.fst (Prod.snd b)) (bif decide (Prod.fst (Prod.fst b)<1) then true else decide (Prod.fst (Prod.fst b)>4))) fun b_1↦qc (qb3 D (IntKind.wrap IntKind.i64 (Prod.fst (Prod.fst b) - 1))) fun b↦qc (qg D (Prod.fst (Prod.snd b_1)) (Prod.fst (Prod.fst b))) fun b↦qc (q0 D (Prod.fst (Prod.fst b))) fun b_2↦qc (qp D (Prod.fst (Prod.snd b)) !Prod.fst (Prod.fst b_2)) fun b_3↦qc (qcd D (Prod.fst (Prod.fst b))) fun b↦qc (qg D (Prod.fst (Prod.snd b_3)) (Prod.fst (Prod.fst b))) fun b↦some ((Prod.fst (Prod.snd b),()),())) (br (decide (Prod.fst a0=10)) (qc (qbe D) fun b↦qc (qg D (a1,[],-1,false,()) (Prod.fst (Prod.fst b))) fun b↦qc (qp D (Prod.fst (Prod.snd b)) (Prod.fst (Prod.fst b) != 5)) fun b↦qc (qcd D (Prod.fst (Prod.snd (Prod.snd a0)))) fun b_1↦qc (qg D (Prod.fst (Prod.snd b)) (Prod.fst (Prod.fst b_1))) fun b↦some ((Prod.fst (Prod.snd b),()),())) (some (((a1,[],-1,false,()),()),())))))))))) (br (decide (Prod.fst a0=2)) (br (decide (Prod.fst a0=2)) (qc (qbv D (a1,[],-1,false,()) a0) fun b↦some ((Prod.fst (Prod.snd b),()),())) (br (decide (Prod.fst a0=4)) (qc (qb3 D (Prod.fst (Prod.snd a0))) fun b↦qc (qg D (a1,[],-1,false,()) (Prod.fst (Prod.fst b))) fun b↦some ((Prod.fst (Prod.snd b),()),())) (br (decide (Prod.fst a0=5)) (qc (qb6 D (Prod.fst (Prod.snd (Prod.snd a0)))) fun b↦qc (qg D (a1,[],-1,false,()) (Prod.fst (Prod.fst b))) fun b↦some ((Prod.fst (Prod.snd b),()),())) (br (decide (Prod.fst a0=6)) (qc (qb5 D (Prod.fst (Prod.snd a0))) fun b↦qc (qg D (a1,[],-1,false,()) (Prod.fst (Prod.fst b))) fun b↦some ((Prod.fst (Prod.snd b),()),())) (br (decide (Prod.fst a0=7)) (lp0 0 (a1,[],-1,false,())) (br (decide (Prod.fst a0=8)) (qc (qbe D) fun b↦qc (qg D (a1,[],-1,false,()) (Prod.fst (Prod.fst b))) fun b↦some ((Prod.fst (Prod.snd b),()),())) (br (decide (Prod.fst a0=9)) (qc (qbe D) fun b↦qc (qg D (a1,[],-1,false,()) (Prod.fst (Prod.fst b))) fun b↦qc (qp D (Prod.fst (Prod.snd b)) (bif decide (Prod.fst (Prod.fst b)<1) then true else decide (Prod.fst (Prod.fst b)>4))) fun b_1↦qc (qb3 D (IntKind.wrap IntKind.i64 (Prod.fst (Prod.fst b) - 1))) fun b↦qc (qg D (Prod.fst (Prod.snd b_1)) (Prod.fst (Prod.fst b))) fun b↦qc (q0 D (Prod.fst (Prod.fst b))) fun b_2↦qc (qp D (Prod.fst (Prod.snd b)) !Prod.fst (Prod.fst b_2)) fun b_3↦qc (qcd D (Prod.fst (Prod.fst b))) fun b↦qc (qg D (Prod.fst (Prod.snd b_3)) (Prod.fst (Prod.fst b))) fun b↦some ((Prod.fst (Prod.snd b),()),())) (br (decide (Prod.fst a0=10)) (qc (qbe D) fun b↦qc (qg D (a1,[],-1,false,()) (Prod.fst (Prod.fst b))) fun b↦qc (qp D (Prod.fst (Prod.snd b)) (Prod.fst (Prod.fst b) != 5)) fun b↦qc (qcd D (Prod.fst (Prod.snd (Prod.snd a0)))) fun b_1↦qc (qg D (Prod.fst (Prod.snd b)) (Prod.fst (Prod.fst b_1))) fun b↦some ((Prod.fst (Prod.snd b),()),())) (some (((a1,[],-1,false,()),()),())))))))))) (br (decide (Prod.fst a0=3)) (qc (qbv D (a1,[],-1,false,()) a0) fun b↦some ((Prod.fst (Prod.snd b),()),())) (br (decide (Prod.fst a0=4)) (qc (qb3 D (Prod.fst (Prod.snd a0))) fun b↦qc (qg D (a1,[],-1,false,()) (Prod.fst (Prod.fst b))) fun b↦some ((Prod.fst (Prod.snd b),()),())) (br (decide (Prod.fst a0=5)) (qc (qb6 D (Prod.fst (Prod.snd (Prod.snd a0)))) fun b↦qc (qg D (a1,[],-1,false,()) (Prod.fst (Prod.fst b))) fun b↦some ((Prod.fst (Prod.snd b),()),())) (br (decide (Prod.fst a0=6)) (qc (qb5 D (Prod.fst (Prod.snd a0))) fun b↦qc (qg D (a1,[],-1,false,()) (Prod.fst (Prod.fst b))) fun b↦some ((Prod.fst (Prod.snd b),()),())) (br (decide (Prod.fst a0=7)) (lp0 0 (a1,[],-1,false,())) (br (decide (Prod.fst a0=8)) (qc (qbe D) fun b↦qc (qg D (a1,[],-1,false,()) (Prod.fst (Prod.fst b))) fun b↦some ((Prod.fst (Prod.snd b),()),())) (br (decide (Prod.fst a0=9)) (qc (qbe D) fun b↦qc (qg D (a1,[],-1,false,()) (Prod.fst (Prod.fst b))) fun b↦qc (qp D (Prod.fst (Prod.snd b)) (bif decide (Prod.fst (Prod.fst b)<1) then true else decide (Prod.fst (Prod.fst b)>4))) fun b_1↦qc (qb3 D (IntKind.wrap IntKind.i64 (Prod.fst (Prod.fst b) - 1))) fun b↦qc (qg D (Prod.fst (Prod.snd b_1)) (Prod.fst (Prod.fst b))) fun b↦qc (q0 D (Prod.fst (Prod.fst b))) fun b_2↦qc (qp D (Prod.fst (Prod.snd b)) !Prod.fst (Prod.fst b_2)) fun b_3↦qc (qcd D (Prod.fst (Prod.fst b))) fun b↦qc (qg D (Prod.fst (Prod.snd b_3)) (Prod.fst (Prod.fst b))) fun b↦some ((Prod.fst (Prod.snd b),()),())) (br (decide (Prod.fst a0=10)) (qc (qbe D) fun b↦qc (qg D (a1,[],-1,false,()) (Prod.fst (Prod.fst b))) fun b↦qc (qp D (Prod.fst (Prod.snd b)) (Prod.fst (Prod.fst b) != 5)) fun b↦qc (qcd D (Prod.fst (Prod.snd (Prod.snd a0)))) fun b_1↦qc (qg D (Prod.fst (Prod.snd b)) (Prod.fst (Prod.fst b_1))) fun b↦some ((Prod.fst (Prod.snd b),()),())) (some (((a1,[],-1,false,()),()),())))))))))))
def qj5 (D:DX)(n:Nat) (a0:Int×Int×Int×Unit) (a1:List (Int×Int×Unit)):Option (((List (Int×Int×Unit)×List Int×Int×Bool×Unit)×Unit)×Unit):=qko D n (qii D n) a0 a1
def qd1 (x0:Int) (x1:List (Int×Int×Unit)×List Int×Int×Bool×Unit):St:=stq 100 [(5,AV.addr 12 []),(45,avI x0)] [(12,Root.mk (Ty.pair (Ty.sl (Ty.pair yI (Ty.pair yI Ty.unit))) (Ty.pair (Ty.sl yI) (Ty.pair yI (Ty.pair Ty.bool Ty.unit)))) (Mk.pr Mk.no (Mk.pr (Mk.own 0 Mk.no) Mk.no)) x1 true)] 
def qfk (v0_0:List (Int×Int×Unit)×List Int×Int×Bool×Unit):St:=stq 100 [(5,AV.addr 12 [])] [(12,Root.mk (Ty.pair (Ty.sl (Ty.pair yI (Ty.pair yI Ty.unit))) (Ty.pair (Ty.sl yI) (Ty.pair yI (Ty.pair Ty.bool Ty.unit)))) (Mk.pr Mk.no (Mk.pr (Mk.own 0 Mk.no) Mk.no)) v0_0 true)] 
theorem qr6 (D:DX)(n:Nat) (m:Nat) (K:Ex→St→Option (Out ctx 14)) (x0:Int) (x1:List (Int×Int×Unit)×List Int×Int×Bool×Unit) :
 LQ qe D n 14 [.r,.r,.l,.r,.l,.r,.r,.r,.r,.r,.r,.r,.r,.r,.l,.r,.l] (m+1) (qd1 x0 x1) K=qjr D n (fun x0 x1=>LQ qe D n 14 [.r,.r,.l,.r,.l,.r,.r,.r,.r,.r,.r,.r,.r,.r,.l,.r,.l] m (qd1 x0 x1) K) (fun v0_0=>K (Ex.exit 1) (qfk v0_0)) x0 x1:=by kernel_rfl
theorem qmm (D:DX)(n:Nat) (K:Ex→St→Option (Out ctx 14)):∀ (m:Nat) (x0:Int) (x1:List (Int×Int×Unit)×List Int×Int×Bool×Unit),LQ qe D n 14 [.r,.r,.l,.r,.l,.r,.r,.r,.r,.r,.r,.r,.r,.r,.l,.r,.l] m (qd1 x0 x1) K=qdx D n (fun v0_0=>K (Ex.exit 1) (qfk v0_0)) m x0 x1
 | 0,x0,x1=>qgx ..
 | m+1,x0,x1=>by
  have ih:(fun x0 x1=>LQ qe D n 14 [.r,.r,.l,.r,.l,.r,.r,.r,.r,.r,.r,.r,.r,.r,.l,.r,.l] m (qd1 x0 x1) K)=qdx D n (fun v0_0=>K (Ex.exit 1) (qfk v0_0)) m:=by funext x0 x1;exact qmm D n K m x0 x1
  rw[qr6]
  rw[ih];rfl
theorem qqg (D:DX)(n:Nat) (v0_0:List (Int×Int×Unit)×List Int×Int×Bool×Unit) :
 (CQ qe D n 14 [] [.r,.r,.l,.r,.l,.r,.r,.r,.r,.r,.r,.r,.r,.r,.l,.r,.l] (qb0 qe 14)) (Ex.exit 1) (qfk v0_0)=qhd D n v0_0:=by kernel_rfl
theorem qqy (D:DX)(n:Nat) (x0:Int) (x1:List (Int×Int×Unit)×List Int×Int×Bool×Unit) :
 LQ qe D n 14 [.r,.r,.l,.r,.l,.r,.r,.r,.r,.r,.r,.r,.r,.r,.l,.r,.l] n (qd1 x0 x1) (CQ qe D n 14 [] [.r,.r,.l,.r,.l,.r,.r,.r,.r,.r,.r,.r,.r,.r,.l,.r,.l] (qb0 qe 14))=qii D n x0 x1:=by
 rw[qmm]
 simp only[qqg]
 rfl
theorem qt4 (D:DX)(n:Nat) (a0:Int×Int×Int×Unit) (a1:List (Int×Int×Unit)):rfC qe D n 14 (a0,(a1,()))=qj5 D n a0 a1:=by
 have h:rfC qe D n 14 (a0,(a1,()))=qko D n (fun x0 x1=>LQ qe D n 14 [.r,.r,.l,.r,.l,.r,.r,.r,.r,.r,.r,.r,.r,.r,.l,.r,.l] n (qd1 x0 x1) (CQ qe D n 14 [] [.r,.r,.l,.r,.l,.r,.r,.r,.r,.r,.r,.r,.r,.r,.l,.r,.l] (qb0 qe 14))) a0 a1:=by kernel_rfl
 rw[h]
 simp only[qqy]
 rfl

def qnl (D:DX)(n:Nat) (a0:Int×Int×Unit) (a1:Int×Int×Unit):Option ((Bool×Unit)×Unit):=br (Prod.fst a0 != Prod.fst a1) (some ((false,()),())) (br (Prod.fst (Prod.snd a0) != Prod.fst (Prod.snd a1)) (some ((false,()),())) (some ((true,()),())))
def qjm (D:DX)(n:Nat) (a0:Int×Int×Unit) (a1:Int×Int×Unit):Option ((Bool×Unit)×Unit):=qnl D n a0 a1
theorem qto (D:DX)(n:Nat) (a0:Int×Int×Unit) (a1:Int×Int×Unit):rfC qe D n 15 (a0,(a1,()))=qjm D n a0 a1:=by kernel_rfl

def qv8 (D:DX)(n:Nat) (a0:Int) (a1:Int) (a2:Int):Option ((Bool×Unit)×Unit):=some ((bif decide (a0≥a1) then decide (a0≤a2) else false,()),())
def qps (D:DX)(n:Nat) (a0:Int) (a1:Int) (a2:Int):Option ((Bool×Unit)×Unit):=qv8 D n a0 a1 a2
theorem qvy (D:DX)(n:Nat) (a0:Int) (a1:Int) (a2:Int):rfC qe D n 16 (a0,(a1,(a2,())))=qps D n a0 a1 a2:=by kernel_rfl

def qn2 (D:DX)(n:Nat) (a0:Int):Option ((Bool×Unit)×Unit):=qc (qcn D a0 1 4) fun b↦some ((Prod.fst (Prod.fst b),()),())
def qkg (D:DX)(n:Nat) (a0:Int):Option ((Bool×Unit)×Unit):=qn2 D n a0
theorem qt5 (D:DX)(n:Nat) (a0:Int):rfC qe D n 17 (a0,())=qkg D n a0:=by kernel_rfl

def qoa (D:DX)(n:Nat) (a0:Int):Option ((Bool×Unit)×Unit):=qc (qcn D a0 0 3) fun b↦some ((Prod.fst (Prod.fst b),()),())
def qkb (D:DX)(n:Nat) (a0:Int):Option ((Bool×Unit)×Unit):=qoa D n a0
theorem qvo (D:DX)(n:Nat) (a0:Int):rfC qe D n 18 (a0,())=qkb D n a0:=by kernel_rfl

def qup (D:DX)(n:Nat) (a0:Int):Option ((Bool×Unit)×Unit):=some ((bif bif bif decide (a0=1) then true else decide (a0=2) then true else decide (a0=5) then true else decide (a0=10),()),())
def qnt (D:DX)(n:Nat) (a0:Int):Option ((Bool×Unit)×Unit):=qup D n a0
theorem qvq (D:DX)(n:Nat) (a0:Int):rfC qe D n 19 (a0,())=qnt D n a0:=by kernel_rfl

def qop (D:DX)(n:Nat) (a0:Int):Option ((Bool×Unit)×Unit):=qc (qcn D a0 1 6) fun b↦some ((Prod.fst (Prod.fst b),()),())
def qkv (D:DX)(n:Nat) (a0:Int):Option ((Bool×Unit)×Unit):=qop D n a0
theorem qvm (D:DX)(n:Nat) (a0:Int):rfC qe D n 20 (a0,())=qkv D n a0:=by kernel_rfl

def qof (D:DX)(n:Nat) (a0:List (Int×Int×Unit)×Int×Bool×Unit) (a1:Int×Int×Int×Unit):Option (Unit×(List (Int×Int×Unit)×Int×Bool×Unit)×Unit):=qc (qc8 D (Prod.fst (Prod.snd a1))) fun b↦qc (qm D a0 (Prod.fst (Prod.fst b))) fun b↦qc (qcm D (Prod.fst (Prod.snd b)) (Prod.fst (Prod.fst b) != 0)) fun b↦qc (qcz D (Prod.fst (Prod.snd (Prod.snd a1)))) fun b_1↦qc (qm D (Prod.fst (Prod.snd b)) (Prod.fst (Prod.fst b_1))) fun b↦qc (qcm D (Prod.fst (Prod.snd b)) (Prod.fst (Prod.fst b) != 0)) fun b↦qc (qcj D (Prod.fst (Prod.snd (Prod.snd a1)))) fun b_2↦qc (qc1 D (Prod.fst (Prod.fst b_2))) fun b_3↦qc (qm D (Prod.fst (Prod.snd b)) (Prod.fst (Prod.fst b_3))) fun b↦qc (qes D (Prod.fst (Prod.snd b)) (Prod.fst (Prod.snd a1)) [Prod.fst (Prod.snd (Prod.snd a1))]) fun b↦some ((),Prod.fst (Prod.snd b),())
def qkn (D:DX)(n:Nat) (a0:List (Int×Int×Unit)×Int×Bool×Unit) (a1:Int×Int×Int×Unit):Option (Unit×(List (Int×Int×Unit)×Int×Bool×Unit)×Unit):=qof D n a0 a1
theorem qt3 (D:DX)(n:Nat) (a0:List (Int×Int×Unit)×Int×Bool×Unit) (a1:Int×Int×Int×Unit):rfC qe D n 21 (a0,(a1,()))=qkn D n a0 a1:=by kernel_rfl

def qoc (D:DX)(n:Nat) (a0:List (Int×Int×Unit)×Int×Bool×Unit) (a1:Int×Int×Int×Unit):Option (Unit×(List (Int×Int×Unit)×Int×Bool×Unit)×Unit):=qc (qc8 D (Prod.fst (Prod.snd a1))) fun b↦qc (qm D a0 (Prod.fst (Prod.fst b))) fun b↦qc (qcm D (Prod.fst (Prod.snd b)) (bif decide (Prod.fst (Prod.fst b)=0) then true else decide (Prod.fst (Prod.fst b)=Prod.fst (Prod.snd (Prod.snd a1))))) fun b_1↦qc (qcz D (Prod.fst (Prod.snd (Prod.snd a1)))) fun b_2↦qc (qm D (Prod.fst (Prod.snd b_1)) (Prod.fst (Prod.fst b_2))) fun b_3↦qc (qcm D (Prod.fst (Prod.snd b_3)) (Prod.fst (Prod.fst b_3) != 0)) fun b_4↦qc (qcz D (Prod.fst (Prod.fst b))) fun b_5↦qc (qm D (Prod.fst (Prod.snd b_4)) (Prod.fst (Prod.fst b_5))) fun b_6↦qc (qcj D (Prod.fst (Prod.fst b))) fun b_7↦qc (qcj D (Prod.fst (Prod.snd (Prod.snd a1)))) fun b_8↦br (Prod.fst (Prod.fst b_7) != Prod.fst (Prod.fst b_8)) (qc (qcj D (Prod.fst (Prod.fst b))) fun b_9↦qc (qc1 D (Prod.fst (Prod.fst b_9))) fun b_10↦qc (qm D (Prod.fst (Prod.snd b_6)) (Prod.fst (Prod.fst b_10))) fun b_11↦qc (qcj D (Prod.fst (Prod.snd (Prod.snd a1)))) fun b_12↦qc (qc1 D (Prod.fst (Prod.fst b_12))) fun b_13↦qc (qm D (Prod.fst (Prod.snd b_11)) (Prod.fst (Prod.fst b_13))) fun b_14↦qc (qes D (Prod.fst (Prod.snd b_14)) (Prod.fst (Prod.snd a1)) [Prod.fst (Prod.fst b),Prod.fst (Prod.snd (Prod.snd a1))]) fun b↦some ((),Prod.fst (Prod.snd b),())) (qc (qes D (Prod.fst (Prod.snd b_6)) (Prod.fst (Prod.snd a1)) [Prod.fst (Prod.fst b),Prod.fst (Prod.snd (Prod.snd a1))]) fun b↦some ((),Prod.fst (Prod.snd b),()))
def qk2 (D:DX)(n:Nat) (a0:List (Int×Int×Unit)×Int×Bool×Unit) (a1:Int×Int×Int×Unit):Option (Unit×(List (Int×Int×Unit)×Int×Bool×Unit)×Unit):=qoc D n a0 a1
theorem qu9 (D:DX)(n:Nat) (a0:List (Int×Int×Unit)×Int×Bool×Unit) (a1:Int×Int×Int×Unit):rfC qe D n 22 (a0,(a1,()))=qk2 D n a0 a1:=by kernel_rfl

def qnu (D:DX)(n:Nat) (a0:List (Int×Int×Unit)×Int×Bool×Unit) (a1:Int×Int×Int×Unit):Option (Unit×(List (Int×Int×Unit)×Int×Bool×Unit)×Unit):=qc (qc8 D (Prod.fst (Prod.snd a1))) fun b↦qc (qm D a0 (Prod.fst (Prod.fst b))) fun b↦qc (qcm D (Prod.fst (Prod.snd b)) (decide (Prod.fst (Prod.fst b)=0))) fun b_1↦qc (qcz D (Prod.fst (Prod.fst b))) fun b_2↦qc (qm D (Prod.fst (Prod.snd b_1)) (Prod.fst (Prod.fst b_2))) fun b_3↦qc (qcj D (Prod.fst (Prod.fst b))) fun b_4↦qc (qc1 D (Prod.fst (Prod.fst b_4))) fun b_5↦qc (qm D (Prod.fst (Prod.snd b_3)) (Prod.fst (Prod.fst b_5))) fun b_6↦qc (qes D (Prod.fst (Prod.snd b_6)) (Prod.fst (Prod.snd a1)) [Prod.fst (Prod.fst b)]) fun b↦some ((),Prod.fst (Prod.snd b),())
def qk4 (D:DX)(n:Nat) (a0:List (Int×Int×Unit)×Int×Bool×Unit) (a1:Int×Int×Int×Unit):Option (Unit×(List (Int×Int×Unit)×Int×Bool×Unit)×Unit):=qnu D n a0 a1
theorem qu4 (D:DX)(n:Nat) (a0:List (Int×Int×Unit)×Int×Bool×Unit) (a1:Int×Int×Int×Unit):rfC qe D n 23 (a0,(a1,()))=qk4 D n a0 a1:=by kernel_rfl

def qfd (D:DX)(n:Nat) (a0:List (Int×Int×Unit)×Int×Bool×Unit) (a1:Int):Option ((Int×Unit)×(List (Int×Int×Unit)×Int×Bool×Unit)×Unit):=br (Prod.fst (Prod.snd (Prod.snd a0))) (some ((0,()),a0,())) (qc (qln D (Prod.fst a0) a1) fun b↦br (bif !Prod.fst (Prod.snd (Prod.fst b)) then true else decide (a1<0)) (some ((0,()),(Prod.fst a0,a1,true,Prod.snd (Prod.snd (Prod.snd a0))),())) (some ((Prod.fst (Prod.fst b),()),a0,())))
def qd2 (D:DX)(n:Nat) (a0:List (Int×Int×Unit)×Int×Bool×Unit) (a1:Int):Option ((Int×Unit)×(List (Int×Int×Unit)×Int×Bool×Unit)×Unit):=qfd D n a0 a1
theorem qtq (D:DX)(n:Nat) (a0:List (Int×Int×Unit)×Int×Bool×Unit) (a1:Int):rfC qe D n 24 (a0,(a1,()))=qd2 D n a0 a1:=by kernel_rfl

def qod (D:DX)(n:Nat) (a0:Int):Option ((Int×Unit)×Unit):=qc (qho D a0) fun b↦br (!Prod.fst (Prod.fst b)) (some ((-1,()),())) (some ((a0,()),()))
def qkx (D:DX)(n:Nat) (a0:Int):Option ((Int×Unit)×Unit):=qod D n a0
theorem qt9 (D:DX)(n:Nat) (a0:Int):rfC qe D n 25 (a0,())=qkx D n a0:=by kernel_rfl

def qml (D:DX)(n:Nat) (a0:Int):Option ((Int×Unit)×Unit):=qc (qcp D a0) fun b↦br (!Prod.fst (Prod.fst b)) (some ((-1,()),())) (some ((IntKind.wrap IntKind.i64 (3+a0),()),()))
def qhy (D:DX)(n:Nat) (a0:Int):Option ((Int×Unit)×Unit):=qml D n a0
theorem qr5 (D:DX)(n:Nat) (a0:Int):rfC qe D n 26 (a0,())=qhy D n a0:=by kernel_rfl

def qmg (D:DX)(n:Nat) (a0:Int):Option ((Int×Unit)×Unit):=qc (qcn D a0 0 2) fun b↦br (!Prod.fst (Prod.fst b)) (some ((-1,()),())) (some ((IntKind.wrap IntKind.i64 (10+a0),()),()))
def qiq (D:DX)(n:Nat) (a0:Int):Option ((Int×Unit)×Unit):=qmg D n a0
theorem qr3 (D:DX)(n:Nat) (a0:Int):rfC qe D n 27 (a0,())=qiq D n a0:=by kernel_rfl

def qrm (D:DX)(n:Nat):Option ((Int×Unit)×Unit):=some ((13,()),())
def ql8 (D:DX)(n:Nat):Option ((Int×Unit)×Unit):=qrm D n
theorem qse (D:DX)(n:Nat):rfC qe D n 28 ()=ql8 D n:=by kernel_rfl

def qnp (D:DX)(n:Nat) (a0:List (Int×Int×Unit)×Int×Bool×Unit):Option (Unit×(List (Int×Int×Unit)×Int×Bool×Unit)×Unit):=qc (qc0 D) fun b↦qc (qm D a0 (Prod.fst (Prod.fst b))) fun b↦qc (qcn D (Prod.fst (Prod.fst b)) 1 4) fun b_1↦qc (qcm D (Prod.fst (Prod.snd b)) !Prod.fst (Prod.fst b_1)) fun b_2↦qc (qc8 D (IntKind.wrap IntKind.i64 (Prod.fst (Prod.fst b) - 1))) fun b↦qc (qm D (Prod.fst (Prod.snd b_2)) (Prod.fst (Prod.fst b))) fun b↦br (Prod.fst (Prod.fst b) != 0) (qc (qfu D (Prod.fst (Prod.fst b))) fun b_3↦qc (qm D (Prod.fst (Prod.snd b)) (Prod.fst (Prod.fst b_3))) fun b↦some ((),Prod.fst (Prod.snd b),())) (some ((),Prod.fst (Prod.snd b),()))
def qjp (D:DX)(n:Nat) (a0:List (Int×Int×Unit)×Int×Bool×Unit):Option (Unit×(List (Int×Int×Unit)×Int×Bool×Unit)×Unit):=qnp D n a0
theorem qth (D:DX)(n:Nat) (a0:List (Int×Int×Unit)×Int×Bool×Unit):rfC qe D n 29 (a0,())=qjp D n a0:=by kernel_rfl

def qwh (D:DX)(n:Nat) (a0:List (Int×Int×Unit)×Int×Bool×Unit) (a1:Bool):Option (Unit×(List (Int×Int×Unit)×Int×Bool×Unit)×Unit):=some ((),(Prod.fst a0,Prod.fst (Prod.snd a0),bif Prod.fst (Prod.snd (Prod.snd a0)) then true else a1,Prod.snd (Prod.snd (Prod.snd a0))),())
def qpg (D:DX)(n:Nat) (a0:List (Int×Int×Unit)×Int×Bool×Unit) (a1:Bool):Option (Unit×(List (Int×Int×Unit)×Int×Bool×Unit)×Unit):=qwh D n a0 a1
theorem qwg (D:DX)(n:Nat) (a0:List (Int×Int×Unit)×Int×Bool×Unit) (a1:Bool):rfC qe D n 30 (a0,(a1,()))=qpg D n a0 a1:=by kernel_rfl

def qn5 (D:DX)(n:Nat) (a0:Int):Option ((Int×Unit)×Unit):=qc (qcp D a0) fun b↦br (!Prod.fst (Prod.fst b)) (some ((-1,()),())) (qc (qc0 D) fun b↦some ((IntKind.wrap IntKind.i64 (Prod.fst (Prod.fst b)+a0),()),()))
def qk6 (D:DX)(n:Nat) (a0:Int):Option ((Int×Unit)×Unit):=qn5 D n a0
theorem qu8 (D:DX)(n:Nat) (a0:Int):rfC qe D n 31 (a0,())=qk6 D n a0:=by kernel_rfl

def qnz (D:DX)(n:Nat) (a0:Int):Option ((Bool×Unit)×Unit):=qc (qgh D a0 0 3) fun b↦some ((Prod.fst (Prod.fst b),()),())
def qk0 (D:DX)(n:Nat) (a0:Int):Option ((Bool×Unit)×Unit):=qnz D n a0
theorem qu1 (D:DX)(n:Nat) (a0:Int):rfC qe D n 32 (a0,())=qk0 D n a0:=by kernel_rfl

def qn1 (D:DX)(n:Nat) (a0:Int):Option ((Bool×Unit)×Unit):=qc (qgh D a0 1 6) fun b↦some ((Prod.fst (Prod.fst b),()),())
def qkm (D:DX)(n:Nat) (a0:Int):Option ((Bool×Unit)×Unit):=qn1 D n a0
theorem qty (D:DX)(n:Nat) (a0:Int):rfC qe D n 33 (a0,())=qkm D n a0:=by kernel_rfl

def qmn (D:DX)(n:Nat) (a0:Int):Option ((Bool×Unit)×Unit):=qc (qgh D a0 0 2) fun b↦some ((Prod.fst (Prod.fst b),()),())
def qiv (D:DX)(n:Nat) (a0:Int):Option ((Bool×Unit)×Unit):=qmn D n a0
theorem qrf (D:DX)(n:Nat) (a0:Int):rfC qe D n 34 (a0,())=qiv D n a0:=by kernel_rfl

def qdt (D:DX)(n:Nat) (a0:List (Int×Int×Unit)×List Int×Int×Bool×Unit) (a1:Int×Int×Int×Unit):Option (Unit×(List (Int×Int×Unit)×List Int×Int×Bool×Unit)×Unit):=qc (qb3 D (Prod.fst (Prod.snd a1))) fun b↦qc (qg D a0 (Prod.fst (Prod.fst b))) fun b↦br (decide (Prod.fst a1=1)) (qc (qp D (Prod.fst (Prod.snd b)) (Prod.fst (Prod.fst b) != 0)) fun b↦qc (qb6 D (Prod.fst (Prod.snd (Prod.snd a1)))) fun b_1↦qc (qg D (Prod.fst (Prod.snd b)) (Prod.fst (Prod.fst b_1))) fun b↦qc (qp D (Prod.fst (Prod.snd b)) (Prod.fst (Prod.fst b) != 0)) fun b↦qc (qch D (Prod.fst (Prod.snd (Prod.snd a1)))) fun b_2↦qc (qb5 D (Prod.fst (Prod.fst b_2))) fun b_3↦qc (qg D (Prod.fst (Prod.snd b)) (Prod.fst (Prod.fst b_3))) fun b↦qc (qcy D (Prod.fst (Prod.snd b)) (Prod.fst (Prod.snd a1)) [Prod.fst (Prod.snd (Prod.snd a1))]) fun b↦some ((),Prod.fst (Prod.snd b),())) (br (decide (Prod.fst a1=2)) (qc (qp D (Prod.fst (Prod.snd b)) (bif decide (Prod.fst (Prod.fst b)=0) then true else decide (Prod.fst (Prod.fst b)=Prod.fst (Prod.snd (Prod.snd a1))))) fun b_1↦qc (qb6 D (Prod.fst (Prod.snd (Prod.snd a1)))) fun b_2↦qc (qg D (Prod.fst (Prod.snd b_1)) (Prod.fst (Prod.fst b_2))) fun b_3↦qc (qp D (Prod.fst (Prod.snd b_3)) (Prod.fst (Prod.fst b_3) != 0)) fun b_4↦qc (qb6 D (Prod.fst (Prod.fst b))) fun b_5↦qc (qg D (Prod.fst (Prod.snd b_4)) (Prod.fst (Prod.fst b_5))) fun b_6↦qc (qch D (Prod.fst (Prod.fst b))) fun b_7↦qc (qch D (Prod.fst (Prod.snd (Prod.snd a1)))) fun b_8↦br (Prod.fst (Prod.fst b_7) != Prod.fst (Prod.fst b_8)) (qc (qch D (Prod.fst (Prod.fst b))) fun b_9↦qc (qb5 D (Prod.fst (Prod.fst b_9))) fun b_10↦qc (qg D (Prod.fst (Prod.snd b_6)) (Prod.fst (Prod.fst b_10))) fun b_11↦qc (qch D (Prod.fst (Prod.snd (Prod.snd a1)))) fun b_12↦qc (qb5 D (Prod.fst (Prod.fst b_12))) fun b_13↦qc (qg D (Prod.fst (Prod.snd b_11)) (Prod.fst (Prod.fst b_13))) fun b_14↦qc (qcy D (Prod.fst (Prod.snd b_14)) (Prod.fst (Prod.snd a1)) [Prod.fst (Prod.fst b),Prod.fst (Prod.snd (Prod.snd a1))]) fun b↦some ((),Prod.fst (Prod.snd b),())) (qc (qcy D (Prod.fst (Prod.snd b_6)) (Prod.fst (Prod.snd a1)) [Prod.fst (Prod.fst b),Prod.fst (Prod.snd (Prod.snd a1))]) fun b↦some ((),Prod.fst (Prod.snd b),()))) (qc (qp D (Prod.fst (Prod.snd b)) (decide (Prod.fst (Prod.fst b)=0))) fun b_1↦qc (qb6 D (Prod.fst (Prod.fst b))) fun b_2↦qc (qg D (Prod.fst (Prod.snd b_1)) (Prod.fst (Prod.fst b_2))) fun b_3↦qc (qch D (Prod.fst (Prod.fst b))) fun b_4↦qc (qb5 D (Prod.fst (Prod.fst b_4))) fun b_5↦qc (qg D (Prod.fst (Prod.snd b_3)) (Prod.fst (Prod.fst b_5))) fun b_6↦qc (qcy D (Prod.fst (Prod.snd b_6)) (Prod.fst (Prod.snd a1)) [Prod.fst (Prod.fst b)]) fun b↦some ((),Prod.fst (Prod.snd b),())))
def qcx (D:DX)(n:Nat) (a0:List (Int×Int×Unit)×List Int×Int×Bool×Unit) (a1:Int×Int×Int×Unit):Option (Unit×(List (Int×Int×Unit)×List Int×Int×Bool×Unit)×Unit):=qdt D n a0 a1
theorem qnr (D:DX)(n:Nat) (a0:List (Int×Int×Unit)×List Int×Int×Bool×Unit) (a1:Int×Int×Int×Unit):rfC qe D n 35 (a0,(a1,()))=qcx D n a0 a1:=by kernel_rfl

def qe8 (D:DX)(n:Nat) (a0:List (Int×Int×Unit)×List Int×Int×Bool×Unit) (a1:Int):Option ((Int×Unit)×(List (Int×Int×Unit)×List Int×Int×Bool×Unit)×Unit):=br (Prod.fst (Prod.snd (Prod.snd (Prod.snd a0)))) (some ((0,()),a0,())) (qc (qlt D (Prod.fst a0) a1) fun b↦br (bif decide (a1<0) then true else !Prod.fst (Prod.snd (Prod.fst b))) (some ((0,()),(Prod.fst a0,Prod.fst (Prod.snd a0),a1,true,Prod.snd (Prod.snd (Prod.snd (Prod.snd a0)))),())) (br (decide (List.length (Prod.fst (Prod.snd a0))+1≤qdg)) (some ((Prod.fst (Prod.fst b),()),(Prod.fst a0,Prod.fst (Prod.snd a0)++[a1],Prod.snd (Prod.snd a0)),())) none))
def qdp (D:DX)(n:Nat) (a0:List (Int×Int×Unit)×List Int×Int×Bool×Unit) (a1:Int):Option ((Int×Unit)×(List (Int×Int×Unit)×List Int×Int×Bool×Unit)×Unit):=qe8 D n a0 a1
theorem qp9 (D:DX)(n:Nat) (a0:List (Int×Int×Unit)×List Int×Int×Bool×Unit) (a1:Int):rfC qe D n 36 (a0,(a1,()))=qdp D n a0 a1:=by kernel_rfl

def qon (D:DX)(n:Nat) (a0:Int):Option ((Int×Unit)×Unit):=qc (qcs D a0) fun b↦qc (qd4 D (Prod.fst (Prod.fst b)) a0) fun b↦some ((Prod.fst (Prod.fst b),()),())
def qkd (D:DX)(n:Nat) (a0:Int):Option ((Int×Unit)×Unit):=qon D n a0
theorem qvp (D:DX)(n:Nat) (a0:Int):rfC qe D n 37 (a0,())=qkd D n a0:=by kernel_rfl

def qmh (D:DX)(n:Nat) (a0:Int):Option ((Int×Unit)×Unit):=qc (q0 D a0) fun b↦qc (qd4 D (Prod.fst (Prod.fst b)) (IntKind.wrap IntKind.i64 (3+a0))) fun b↦some ((Prod.fst (Prod.fst b),()),())
def qhz (D:DX)(n:Nat) (a0:Int):Option ((Int×Unit)×Unit):=qmh D n a0
theorem qsh (D:DX)(n:Nat) (a0:Int):rfC qe D n 38 (a0,())=qhz D n a0:=by kernel_rfl

def qmd (D:DX)(n:Nat) (a0:Int):Option ((Int×Unit)×Unit):=qc (qbo D a0) fun b↦qc (qd4 D (Prod.fst (Prod.fst b)) (IntKind.wrap IntKind.i64 (10+a0))) fun b↦some ((Prod.fst (Prod.fst b),()),())
def qhs (D:DX)(n:Nat) (a0:Int):Option ((Int×Unit)×Unit):=qmd D n a0
theorem qrb (D:DX)(n:Nat) (a0:Int):rfC qe D n 39 (a0,())=qhs D n a0:=by kernel_rfl

def qr0 (D:DX)(n:Nat):Option ((Int×Unit)×Unit):=some ((13,()),())
def qmc (D:DX)(n:Nat):Option ((Int×Unit)×Unit):=qr0 D n
theorem qrg (D:DX)(n:Nat):rfC qe D n 40 ()=qmc D n:=by kernel_rfl

def qga (D:DX)(n:Nat) (a0:List (Int×Int×Unit)×List Int×Int×Bool×Unit) (a1:Bool):Option (Unit×(List (Int×Int×Unit)×List Int×Int×Bool×Unit)×Unit):=some ((),(Prod.fst a0,Prod.fst (Prod.snd a0),Prod.fst (Prod.snd (Prod.snd a0)),bif Prod.fst (Prod.snd (Prod.snd (Prod.snd a0))) then true else a1,Prod.snd (Prod.snd (Prod.snd (Prod.snd a0)))),())
def qek (D:DX)(n:Nat) (a0:List (Int×Int×Unit)×List Int×Int×Bool×Unit) (a1:Bool):Option (Unit×(List (Int×Int×Unit)×List Int×Int×Bool×Unit)×Unit):=qga D n a0 a1
theorem qo2 (D:DX)(n:Nat) (a0:List (Int×Int×Unit)×List Int×Int×Bool×Unit) (a1:Bool):rfC qe D n 41 (a0,(a1,()))=qek D n a0 a1:=by kernel_rfl

def qnx (D:DX)(n:Nat) (a0:Int):Option ((Int×Unit)×Unit):=qc (q0 D a0) fun b↦qc (qbe D) fun b_1↦qc (qd4 D (Prod.fst (Prod.fst b)) (IntKind.wrap IntKind.i64 (Prod.fst (Prod.fst b_1)+a0))) fun b↦some ((Prod.fst (Prod.fst b),()),())
def qkz (D:DX)(n:Nat) (a0:Int):Option ((Int×Unit)×Unit):=qnx D n a0
theorem quc (D:DX)(n:Nat) (a0:Int):rfC qe D n 42 (a0,())=qkz D n a0:=by kernel_rfl

def qmj (D:DX)(n:Nat) (a0:Int):Option ((Int×Unit)×Unit):=qc (qcp D a0) fun b↦br (!Prod.fst (Prod.fst b)) (some ((-1,()),())) (some ((Int.tmod a0 3,()),()))
def qh4 (D:DX)(n:Nat) (a0:Int):Option ((Int×Unit)×Unit):=qmj D n a0
theorem qrr (D:DX)(n:Nat) (a0:Int):rfC qe D n 43 (a0,())=qh4 D n a0:=by kernel_rfl

def qgl (D:DX)(n:Nat) (go:Int→List Int→Int→Int→List (Int×Int×Unit)×Int×Bool×Unit→Option (Unit×(List (Int×Int×Unit)×Int×Bool×Unit)×Unit)) (K0:List (Int×Int×Unit)×Int×Bool×Unit→Option (Unit×(List (Int×Int×Unit)×Int×Bool×Unit)×Unit)) (x0:Int) (x1:List Int) (x2:Int) (x3:Int) (x4:List (Int×Int×Unit)×Int×Bool×Unit):Option (Unit×(List (Int×Int×Unit)×Int×Bool×Unit)×Unit):=br (decide (x3<(↑(List.length x1):Int))) (br (decide (x2>IntKind.wrap IntKind.i64 (x0+1))) (br (decide (0≤x3)&&decide (x3<(↑(List.length x1):Int))) (qc (qfu D (List.getD x1 (Int.toNat x3) 0)) fun b↦qc (qm D x4 (Prod.fst (Prod.fst b))) fun b↦go x0 x1 x2 (IntKind.wrap IntKind.i64 (x3+1)) (Prod.fst (Prod.snd b))) none) (K0 x4)) (K0 x4)
def qdf (D:DX)(n:Nat) (K0:List (Int×Int×Unit)×Int×Bool×Unit→Option (Unit×(List (Int×Int×Unit)×Int×Bool×Unit)×Unit)):Nat→(Int)→(List Int)→(Int)→(Int)→(List (Int×Int×Unit)×Int×Bool×Unit)→Option (Unit×(List (Int×Int×Unit)×Int×Bool×Unit)×Unit) | 0=>(fun x0 x1 x2 x3 x4=>none) | m+1=>(fun x0 x1 x2 x3 x4=>qgl D n (qdf D n K0 m) K0 x0 x1 x2 x3 x4)
def qha (D:DX)(n:Nat) (v0_0:List (Int×Int×Unit)×Int×Bool×Unit):Option (Unit×(List (Int×Int×Unit)×Int×Bool×Unit)×Unit):=some ((),v0_0,())
def qif (D:DX)(n:Nat):(Int)→(List Int)→(Int)→(Int)→(List (Int×Int×Unit)×Int×Bool×Unit)→Option (Unit×(List (Int×Int×Unit)×Int×Bool×Unit)×Unit):=(fun x0 x1 x2 x3 x4=>qdf D n (fun v0_0=>qha D n v0_0) n x0 x1 x2 x3 x4)
def qku (D:DX)(n:Nat) (lp0:Int→List Int→Int→Int→List (Int×Int×Unit)×Int×Bool×Unit→Option (Unit×(List (Int×Int×Unit)×Int×Bool×Unit)×Unit)) (a0:List (Int×Int×Unit)×Int×Bool×Unit) (a1:Int) (a2:List Int):Option (Unit×(List (Int×Int×Unit)×Int×Bool×Unit)×Unit):=qc (qc0 D) fun b↦qc (qm D a0 (Prod.fst (Prod.fst b))) fun b↦lp0 a1 a2 (Prod.fst (Prod.fst b)) 0 (Prod.fst (Prod.snd b))
def qk3 (D:DX)(n:Nat) (a0:List (Int×Int×Unit)×Int×Bool×Unit) (a1:Int) (a2:List Int):Option (Unit×(List (Int×Int×Unit)×Int×Bool×Unit)×Unit):=qku D n (qif D n) a0 a1 a2
def qd0 (x0:Int) (x1:List Int) (x2:Int) (x3:Int) (x4:List (Int×Int×Unit)×Int×Bool×Unit):St:=stq 30 [(0,AV.addr 0 []),(1,avI x0),(2,AV.val (Ty.sl yI) x1),(6,avI x2),(7,avI x3)] [(0,Root.mk (Ty.pair (Ty.sl (Ty.pair yI (Ty.pair yI Ty.unit))) (Ty.pair yI (Ty.pair Ty.bool Ty.unit))) Mk.no x4 true)] 
def qfl (v0_0:List (Int×Int×Unit)×Int×Bool×Unit):St:=stq 30 [(0,AV.addr 0 [])] [(0,Root.mk (Ty.pair (Ty.sl (Ty.pair yI (Ty.pair yI Ty.unit))) (Ty.pair yI (Ty.pair Ty.bool Ty.unit))) Mk.no v0_0 true)] 
theorem qri (D:DX)(n:Nat) (m:Nat) (K:Ex→St→Option (Out ctx 44)) (x0:Int) (x1:List Int) (x2:Int) (x3:Int) (x4:List (Int×Int×Unit)×Int×Bool×Unit) :
 LQ qe D n 44 [.r,.r,.l] (m+1) (qd0 x0 x1 x2 x3 x4) K=qgl D n (fun x0 x1 x2 x3 x4=>LQ qe D n 44 [.r,.r,.l] m (qd0 x0 x1 x2 x3 x4) K) (fun v0_0=>K (Ex.exit 0) (qfl v0_0)) x0 x1 x2 x3 x4:=by kernel_rfl
theorem qmp (D:DX)(n:Nat) (K:Ex→St→Option (Out ctx 44)):∀ (m:Nat) (x0:Int) (x1:List Int) (x2:Int) (x3:Int) (x4:List (Int×Int×Unit)×Int×Bool×Unit),LQ qe D n 44 [.r,.r,.l] m (qd0 x0 x1 x2 x3 x4) K=qdf D n (fun v0_0=>K (Ex.exit 0) (qfl v0_0)) m x0 x1 x2 x3 x4
 | 0,x0,x1,x2,x3,x4=>qgx ..
 | m+1,x0,x1,x2,x3,x4=>by
  have ih:(fun x0 x1 x2 x3 x4=>LQ qe D n 44 [.r,.r,.l] m (qd0 x0 x1 x2 x3 x4) K)=qdf D n (fun v0_0=>K (Ex.exit 0) (qfl v0_0)) m:=by funext x0 x1 x2 x3 x4;exact qmp D n K m x0 x1 x2 x3 x4
  rw[qri]
  rw[ih];rfl
theorem qq4 (D:DX)(n:Nat) (v0_0:List (Int×Int×Unit)×Int×Bool×Unit) :
 (CQ qe D n 44 [] [.r,.r,.l] (qb0 qe 44)) (Ex.exit 0) (qfl v0_0)=qha D n v0_0:=by kernel_rfl
theorem qqt (D:DX)(n:Nat) (x0:Int) (x1:List Int) (x2:Int) (x3:Int) (x4:List (Int×Int×Unit)×Int×Bool×Unit) :
 LQ qe D n 44 [.r,.r,.l] n (qd0 x0 x1 x2 x3 x4) (CQ qe D n 44 [] [.r,.r,.l] (qb0 qe 44))=qif D n x0 x1 x2 x3 x4:=by
 rw[qmp]
 simp only[qq4]
 rfl
theorem qvi (D:DX)(n:Nat) (a0:List (Int×Int×Unit)×Int×Bool×Unit) (a1:Int) (a2:List Int):rfC qe D n 44 (a0,(a1,(a2,())))=qk3 D n a0 a1 a2:=by
 have h:rfC qe D n 44 (a0,(a1,(a2,())))=qku D n (fun x0 x1 x2 x3 x4=>LQ qe D n 44 [.r,.r,.l] n (qd0 x0 x1 x2 x3 x4) (CQ qe D n 44 [] [.r,.r,.l] (qb0 qe 44))) a0 a1 a2:=by kernel_rfl
 rw[h]
 simp only[qqt]
 rfl

def qka (D:DX)(n:Nat) (go:List (Int×Int×Unit)→Int→Int→Bool→Int→Option ((Int×Bool×Unit)×Unit)) (K0:Int→Bool→Option ((Int×Bool×Unit)×Unit)) (x0:List (Int×Int×Unit)) (x1:Int) (x2:Int) (x3:Bool) (x4:Int):Option ((Int×Bool×Unit)×Unit):=br (decide (x4<(↑(List.length x0):Int))) (br (decide (0≤x4)&&decide (x4<(↑(List.length x0):Int))) (br (decide (Prod.fst (List.getD x0 (Int.toNat x4) (0,0,()))=x1)) (br (decide (0≤x4)&&decide (x4<(↑(List.length x0):Int))) (go x0 x1 (Prod.fst (Prod.snd (List.getD x0 (Int.toNat x4) (0,0,())))) true (IntKind.wrap IntKind.i64 (x4+1))) none) (go x0 x1 x2 x3 (IntKind.wrap IntKind.i64 (x4+1)))) none) (K0 x2 x3)
def qep (D:DX)(n:Nat) (K0:Int→Bool→Option ((Int×Bool×Unit)×Unit)):Nat→(List (Int×Int×Unit))→(Int)→(Int)→(Bool)→(Int)→Option ((Int×Bool×Unit)×Unit) | 0=>(fun x0 x1 x2 x3 x4=>none) | m+1=>(fun x0 x1 x2 x3 x4=>qka D n (qep D n K0 m) K0 x0 x1 x2 x3 x4)
def qh5 (D:DX)(n:Nat) (v0_0:Int) (v0_1:Bool):Option ((Int×Bool×Unit)×Unit):=some ((v0_0,v0_1,()),())
def qjl (D:DX)(n:Nat):(List (Int×Int×Unit))→(Int)→(Int)→(Bool)→(Int)→Option ((Int×Bool×Unit)×Unit):=(fun x0 x1 x2 x3 x4=>qep D n (fun v0_0 v0_1=>qh5 D n v0_0 v0_1) n x0 x1 x2 x3 x4)
def qlo (D:DX)(n:Nat) (lp0:List (Int×Int×Unit)→Int→Int→Bool→Int→Option ((Int×Bool×Unit)×Unit)) (a0:List (Int×Int×Unit)) (a1:Int):Option ((Int×Bool×Unit)×Unit):=lp0 a0 a1 0 false 0
def qlw (D:DX)(n:Nat) (a0:List (Int×Int×Unit)) (a1:Int):Option ((Int×Bool×Unit)×Unit):=qlo D n (qjl D n) a0 a1
def qeq (x0:List (Int×Int×Unit)) (x1:Int) (x2:Int) (x3:Bool) (x4:Int):St:=stq 29 [(0,AV.val (Ty.sl (Ty.pair yI (Ty.pair yI Ty.unit))) x0),(1,avI x1),(6,avI x2),(7,AV.val Ty.bool x3),(8,avI x4)] [] 
def qf6 (v0_0:Int) (v0_1:Bool):St:=stq 29 [(6,avI v0_0),(7,AV.val Ty.bool v0_1)] [] 
theorem qtj (D:DX)(n:Nat) (m:Nat) (K:Ex→St→Option (Out ctx 45)) (x0:List (Int×Int×Unit)) (x1:Int) (x2:Int) (x3:Bool) (x4:Int) :
 LQ qe D n 45 [.r,.r,.r,.l,.r,.l] (m+1) (qeq x0 x1 x2 x3 x4) K=qka D n (fun x0 x1 x2 x3 x4=>LQ qe D n 45 [.r,.r,.r,.l,.r,.l] m (qeq x0 x1 x2 x3 x4) K) (fun v0_0 v0_1=>K (Ex.exit 0) (qf6 v0_0 v0_1)) x0 x1 x2 x3 x4:=by kernel_rfl
theorem qnn (D:DX)(n:Nat) (K:Ex→St→Option (Out ctx 45)):∀ (m:Nat) (x0:List (Int×Int×Unit)) (x1:Int) (x2:Int) (x3:Bool) (x4:Int),LQ qe D n 45 [.r,.r,.r,.l,.r,.l] m (qeq x0 x1 x2 x3 x4) K=qep D n (fun v0_0 v0_1=>K (Ex.exit 0) (qf6 v0_0 v0_1)) m x0 x1 x2 x3 x4
 | 0,x0,x1,x2,x3,x4=>qgx ..
 | m+1,x0,x1,x2,x3,x4=>by
  have ih:(fun x0 x1 x2 x3 x4=>LQ qe D n 45 [.r,.r,.r,.l,.r,.l] m (qeq x0 x1 x2 x3 x4) K)=qep D n (fun v0_0 v0_1=>K (Ex.exit 0) (qf6 v0_0 v0_1)) m:=by funext x0 x1 x2 x3 x4;exact qnn D n K m x0 x1 x2 x3 x4
  rw[qtj]
  rw[ih];rfl
theorem qrc (D:DX)(n:Nat) (v0_0:Int) (v0_1:Bool) :
 (CQ qe D n 45 [] [.r,.r,.r,.l,.r,.l] (qb0 qe 45)) (Ex.exit 0) (qf6 v0_0 v0_1)=qh5 D n v0_0 v0_1:=by kernel_rfl
theorem qsa (D:DX)(n:Nat) (x0:List (Int×Int×Unit)) (x1:Int) (x2:Int) (x3:Bool) (x4:Int) :
 LQ qe D n 45 [.r,.r,.r,.l,.r,.l] n (qeq x0 x1 x2 x3 x4) (CQ qe D n 45 [] [.r,.r,.r,.l,.r,.l] (qb0 qe 45))=qjl D n x0 x1 x2 x3 x4:=by
 rw[qnn]
 simp only[qrc]
 rfl
theorem qwm (D:DX)(n:Nat) (a0:List (Int×Int×Unit)) (a1:Int):rfC qe D n 45 (a0,(a1,()))=qlw D n a0 a1:=by
 have h:rfC qe D n 45 (a0,(a1,()))=qlo D n (fun x0 x1 x2 x3 x4=>LQ qe D n 45 [.r,.r,.r,.l,.r,.l] n (qeq x0 x1 x2 x3 x4) (CQ qe D n 45 [] [.r,.r,.r,.l,.r,.l] (qb0 qe 45))) a0 a1:=by kernel_rfl
 rw[h]
 simp only[qsa]
 rfl

def qwk (D:DX)(n:Nat) (a0:Int) (a1:Int) (a2:Int):Option ((Bool×Unit)×Unit):=some ((bif decide (a0≥a1) then decide (a0≤a2) else false,()),())
def qo9 (D:DX)(n:Nat) (a0:Int) (a1:Int) (a2:Int):Option ((Bool×Unit)×Unit):=qwk D n a0 a1 a2
theorem qv4 (D:DX)(n:Nat) (a0:Int) (a1:Int) (a2:Int):rfC qe D n 46 (a0,(a1,(a2,())))=qo9 D n a0 a1 a2:=by kernel_rfl

def ql9 (D:DX)(n:Nat) (a0:Int):Option ((Int×Unit)×Unit):=qc (q0 D a0) fun b↦br (!Prod.fst (Prod.fst b)) (some ((-1,()),())) (some ((Int.tmod a0 3,()),()))
def qh7 (D:DX)(n:Nat) (a0:Int):Option ((Int×Unit)×Unit):=ql9 D n a0
theorem qrp (D:DX)(n:Nat) (a0:Int):rfC qe D n 47 (a0,())=qh7 D n a0:=by kernel_rfl

def qen (D:DX)(n:Nat) (go:List Int→Int→Int→List (Int×Int×Unit)×List Int×Int×Bool×Unit→Option (Unit×(List (Int×Int×Unit)×List Int×Int×Bool×Unit)×Unit)) (K0:List (Int×Int×Unit)×List Int×Int×Bool×Unit→Option (Unit×(List (Int×Int×Unit)×List Int×Int×Bool×Unit)×Unit)) (x0:List Int) (x1:Int) (x2:Int) (x3:List (Int×Int×Unit)×List Int×Int×Bool×Unit):Option (Unit×(List (Int×Int×Unit)×List Int×Int×Bool×Unit)×Unit):=br (decide (x2<x1)) (br (decide (0≤x2)&&decide (x2<(↑(List.length x0):Int))) (qc (qcd D (List.getD x0 (Int.toNat x2) 0)) fun b↦qc (qg D x3 (Prod.fst (Prod.fst b))) fun b↦go x0 x1 (IntKind.wrap IntKind.i64 (x2+1)) (Prod.fst (Prod.snd b))) none) (K0 x3)
def qbu (D:DX)(n:Nat) (K0:List (Int×Int×Unit)×List Int×Int×Bool×Unit→Option (Unit×(List (Int×Int×Unit)×List Int×Int×Bool×Unit)×Unit)):Nat→(List Int)→(Int)→(Int)→(List (Int×Int×Unit)×List Int×Int×Bool×Unit)→Option (Unit×(List (Int×Int×Unit)×List Int×Int×Bool×Unit)×Unit) | 0=>(fun x0 x1 x2 x3=>none) | m+1=>(fun x0 x1 x2 x3=>qen D n (qbu D n K0 m) K0 x0 x1 x2 x3)
def qdq (D:DX)(n:Nat) (v0_0:List (Int×Int×Unit)×List Int×Int×Bool×Unit):Option (Unit×(List (Int×Int×Unit)×List Int×Int×Bool×Unit)×Unit):=some ((),v0_0,())
def qfv (D:DX)(n:Nat):(List Int)→(Int)→(Int)→(List (Int×Int×Unit)×List Int×Int×Bool×Unit)→Option (Unit×(List (Int×Int×Unit)×List Int×Int×Bool×Unit)×Unit):=(fun x0 x1 x2 x3=>qbu D n (fun v0_0=>qdq D n v0_0) n x0 x1 x2 x3)
def qgw (D:DX)(n:Nat) (lp0:List Int→Int→Int→List (Int×Int×Unit)×List Int×Int×Bool×Unit→Option (Unit×(List (Int×Int×Unit)×List Int×Int×Bool×Unit)×Unit)) (a0:List (Int×Int×Unit)×List Int×Int×Bool×Unit) (a1:Int) (a2:List Int):Option (Unit×(List (Int×Int×Unit)×List Int×Int×Bool×Unit)×Unit):=qc (qbe D) fun b↦qc (qg D a0 (Prod.fst (Prod.fst b))) fun b↦qc (qp D (Prod.fst (Prod.snd b)) (decide (Prod.fst (Prod.fst b)≤IntKind.wrap IntKind.i64 (a1+1)))) fun b↦lp0 a2 (↑(List.length a2):Int) 0 (Prod.fst (Prod.snd b))
def qgq (D:DX)(n:Nat) (a0:List (Int×Int×Unit)×List Int×Int×Bool×Unit) (a1:Int) (a2:List Int):Option (Unit×(List (Int×Int×Unit)×List Int×Int×Bool×Unit)×Unit):=qgw D n (qfv D n) a0 a1 a2
def qcu (x0:List Int) (x1:Int) (x2:Int) (x3:List (Int×Int×Unit)×List Int×Int×Bool×Unit):St:=stq 29 [(0,AV.addr 0 []),(18,AV.val (Ty.sl yI) x0),(19,avI x1),(20,avI x2)] [(0,Root.mk (Ty.pair (Ty.sl (Ty.pair yI (Ty.pair yI Ty.unit))) (Ty.pair (Ty.sl yI) (Ty.pair yI (Ty.pair Ty.bool Ty.unit)))) (Mk.pr Mk.no (Mk.pr (Mk.own 0 Mk.no) Mk.no)) x3 true)] 
def qdr (v0_0:List (Int×Int×Unit)×List Int×Int×Bool×Unit):St:=stq 29 [(0,AV.addr 0 [])] [(0,Root.mk (Ty.pair (Ty.sl (Ty.pair yI (Ty.pair yI Ty.unit))) (Ty.pair (Ty.sl yI) (Ty.pair yI (Ty.pair Ty.bool Ty.unit)))) (Mk.pr Mk.no (Mk.pr (Mk.own 0 Mk.no) Mk.no)) v0_0 true)] 
theorem qoj (D:DX)(n:Nat) (m:Nat) (K:Ex→St→Option (Out ctx 48)) (x0:List Int) (x1:Int) (x2:Int) (x3:List (Int×Int×Unit)×List Int×Int×Bool×Unit) :
 LQ qe D n 48 [.r,.r,.r,.l] (m+1) (qcu x0 x1 x2 x3) K=qen D n (fun x0 x1 x2 x3=>LQ qe D n 48 [.r,.r,.r,.l] m (qcu x0 x1 x2 x3) K) (fun v0_0=>K (Ex.exit 0) (qdr v0_0)) x0 x1 x2 x3:=by kernel_rfl
theorem qjb (D:DX)(n:Nat) (K:Ex→St→Option (Out ctx 48)):∀ (m:Nat) (x0:List Int) (x1:Int) (x2:Int) (x3:List (Int×Int×Unit)×List Int×Int×Bool×Unit),LQ qe D n 48 [.r,.r,.r,.l] m (qcu x0 x1 x2 x3) K=qbu D n (fun v0_0=>K (Ex.exit 0) (qdr v0_0)) m x0 x1 x2 x3
 | 0,x0,x1,x2,x3=>qgx ..
 | m+1,x0,x1,x2,x3=>by
  have ih:(fun x0 x1 x2 x3=>LQ qe D n 48 [.r,.r,.r,.l] m (qcu x0 x1 x2 x3) K)=qbu D n (fun v0_0=>K (Ex.exit 0) (qdr v0_0)) m:=by funext x0 x1 x2 x3;exact qjb D n K m x0 x1 x2 x3
  rw[qoj]
  rw[ih];rfl
theorem qnq (D:DX)(n:Nat) (v0_0:List (Int×Int×Unit)×List Int×Int×Bool×Unit) :
 (CQ qe D n 48 [] [.r,.r,.r,.l] (qb0 qe 48)) (Ex.exit 0) (qdr v0_0)=qdq D n v0_0:=by kernel_rfl
theorem qns (D:DX)(n:Nat) (x0:List Int) (x1:Int) (x2:Int) (x3:List (Int×Int×Unit)×List Int×Int×Bool×Unit) :
 LQ qe D n 48 [.r,.r,.r,.l] n (qcu x0 x1 x2 x3) (CQ qe D n 48 [] [.r,.r,.r,.l] (qb0 qe 48))=qfv D n x0 x1 x2 x3:=by
 rw[qjb]
 simp only[qnq]
 rfl
theorem qp8 (D:DX)(n:Nat) (a0:List (Int×Int×Unit)×List Int×Int×Bool×Unit) (a1:Int) (a2:List Int):rfC qe D n 48 (a0,(a1,(a2,())))=qgq D n a0 a1 a2:=by
 have h:rfC qe D n 48 (a0,(a1,(a2,())))=qgw D n (fun x0 x1 x2 x3=>LQ qe D n 48 [.r,.r,.r,.l] n (qcu x0 x1 x2 x3) (CQ qe D n 48 [] [.r,.r,.r,.l] (qb0 qe 48))) a0 a1 a2:=by kernel_rfl
 rw[h]
 simp only[qns]
 rfl

def qkf (D:DX)(n:Nat) (go:List (Int×Int×Unit)→Int→Int→Option ((Int×Bool×Unit)×Unit)) (K0:Int→Bool→Option ((Int×Bool×Unit)×Unit)) (K1:Option ((Int×Bool×Unit)×Unit)) (x0:List (Int×Int×Unit)) (x1:Int) (x2:Int):Option ((Int×Bool×Unit)×Unit):=br (decide (x2≥0)) (br (decide (0≤x2)&&decide (x2<(↑(List.length x0):Int))) (br (decide (Prod.fst (List.getD x0 (Int.toNat x2) (0,0,()))=x1)) (br (decide (0≤x2)&&decide (x2<(↑(List.length x0):Int))) (K0 (Prod.fst (Prod.snd (List.getD x0 (Int.toNat x2) (0,0,())))) true) none) (go x0 x1 (IntKind.wrap IntKind.i64 (x2 - 1)))) none) K1
def qez (D:DX)(n:Nat) (K0:Int→Bool→Option ((Int×Bool×Unit)×Unit)) (K1:Option ((Int×Bool×Unit)×Unit)):Nat→(List (Int×Int×Unit))→(Int)→(Int)→Option ((Int×Bool×Unit)×Unit) | 0=>(fun x0 x1 x2=>none) | m+1=>(fun x0 x1 x2=>qkf D n (qez D n K0 K1 m) K0 K1 x0 x1 x2)
def qib (D:DX)(n:Nat) (v0_0:Int) (v0_1:Bool):Option ((Int×Bool×Unit)×Unit):=some ((v0_0,v0_1,()),())
def qiu (D:DX)(n:Nat):Option ((Int×Bool×Unit)×Unit):=some ((0,false,()),())
def qjo (D:DX)(n:Nat):(List (Int×Int×Unit))→(Int)→(Int)→Option ((Int×Bool×Unit)×Unit):=(fun x0 x1 x2=>qez D n (fun v0_0 v0_1=>qib D n v0_0 v0_1) (qiu D n) n x0 x1 x2)
def ql1 (D:DX)(n:Nat) (lp0:List (Int×Int×Unit)→Int→Int→Option ((Int×Bool×Unit)×Unit)) (a0:List (Int×Int×Unit)) (a1:Int):Option ((Int×Bool×Unit)×Unit):=lp0 a0 a1 (IntKind.wrap IntKind.i64 ((↑(List.length a0):Int) - 1))
def qll (D:DX)(n:Nat) (a0:List (Int×Int×Unit)) (a1:Int):Option ((Int×Bool×Unit)×Unit):=ql1 D n (qjo D n) a0 a1
def qer (x0:List (Int×Int×Unit)) (x1:Int) (x2:Int):St:=stq 26 [(0,AV.val (Ty.sl (Ty.pair yI (Ty.pair yI Ty.unit))) x0),(1,avI x1),(6,avI x2)] [] 
def qf5 (v0_0:Int) (v0_1:Bool):St:=stq 26 [(4,avI v0_0),(5,AV.val Ty.bool v0_1)] [] 
def qf2:St:=stq 26 [] [] 
theorem qts (D:DX)(n:Nat) (m:Nat) (K:Ex→St→Option (Out ctx 49)) (x0:List (Int×Int×Unit)) (x1:Int) (x2:Int) :
 LQ qe D n 49 [.r,.l,.r,.l] (m+1) (qer x0 x1 x2) K=qkf D n (fun x0 x1 x2=>LQ qe D n 49 [.r,.l,.r,.l] m (qer x0 x1 x2) K) (fun v0_0 v0_1=>K (Ex.ret) (qf5 v0_0 v0_1)) (K (Ex.exit 0) (qf2)) x0 x1 x2:=by kernel_rfl
theorem qnj (D:DX)(n:Nat) (K:Ex→St→Option (Out ctx 49)):∀ (m:Nat) (x0:List (Int×Int×Unit)) (x1:Int) (x2:Int),LQ qe D n 49 [.r,.l,.r,.l] m (qer x0 x1 x2) K=qez D n (fun v0_0 v0_1=>K (Ex.ret) (qf5 v0_0 v0_1)) (K (Ex.exit 0) (qf2)) m x0 x1 x2
 | 0,x0,x1,x2=>qgx ..
 | m+1,x0,x1,x2=>by
  have ih:(fun x0 x1 x2=>LQ qe D n 49 [.r,.l,.r,.l] m (qer x0 x1 x2) K)=qez D n (fun v0_0 v0_1=>K (Ex.ret) (qf5 v0_0 v0_1)) (K (Ex.exit 0) (qf2)) m:=by funext x0 x1 x2;exact qnj D n K m x0 x1 x2
  rw[qts]
  rw[ih];rfl
theorem qsf (D:DX)(n:Nat) (v0_0:Int) (v0_1:Bool) :
 (CQ qe D n 49 [] [.r,.l,.r,.l] (qb0 qe 49)) (Ex.ret) (qf5 v0_0 v0_1)=qib D n v0_0 v0_1:=by kernel_rfl
theorem qru (D:DX)(n:Nat) :
 (CQ qe D n 49 [] [.r,.l,.r,.l] (qb0 qe 49)) (Ex.exit 0) (qf2)=qiu D n:=by kernel_rfl
theorem qrx (D:DX)(n:Nat) (x0:List (Int×Int×Unit)) (x1:Int) (x2:Int) :
 LQ qe D n 49 [.r,.l,.r,.l] n (qer x0 x1 x2) (CQ qe D n 49 [] [.r,.l,.r,.l] (qb0 qe 49))=qjo D n x0 x1 x2:=by
 rw[qnj]
 simp only[qsf,qru]
 rfl
theorem qwa (D:DX)(n:Nat) (a0:List (Int×Int×Unit)) (a1:Int):rfC qe D n 49 (a0,(a1,()))=qll D n a0 a1:=by
 have h:rfC qe D n 49 (a0,(a1,()))=ql1 D n (fun x0 x1 x2=>LQ qe D n 49 [.r,.l,.r,.l] n (qer x0 x1 x2) (CQ qe D n 49 [] [.r,.l,.r,.l] (qb0 qe 49))) a0 a1:=by kernel_rfl
 rw[h]
 simp only[qrx]
 rfl

def qtf (D:DX)(n:Nat) (a0:Bool) (a1:Int):Option ((Int×Unit)×Unit):=br (!a0) (some ((-1,()),())) (some ((a1,()),()))
def qnk (D:DX)(n:Nat) (a0:Bool) (a1:Int):Option ((Int×Unit)×Unit):=qtf D n a0 a1
theorem qtr (D:DX)(n:Nat) (a0:Bool) (a1:Int):rfC qe D n 50 (a0,(a1,()))=qnk D n a0 a1:=by kernel_rfl
end
end Go.G

namespace Go.G
set_option maxRecDepth 100000
open Go Go.V Go.Proofs
def XOk (X:Ext):Prop:=∀ k:Nat,(false)=false→X.is k=false
theorem qzf:XOk qqp:=fun _ _=>rfl
theorem qoi {X:Ext} (hX:XOk X) (n:Nat) (a0:Int×Int×Int×Unit) (a1:List (Int×Int×Unit)):qjc (DD X (n+1)) a0 a1=qfo (DD X n) n a0 a1:=(qt X Try.func3 (by kernel_rfl) (hX 3 rfl) n _).trans (qol ..)
theorem qr8 {X:Ext} (hX:XOk X) (n:Nat) (a0:List (Int×Int×Unit)) (a1:Int):qis (DD X (n+1)) a0 a1=qh1 (DD X n) n a0 a1:=(qt X Try.func4 (by kernel_rfl) (hX 4 rfl) n _).trans (qrv ..)
theorem qvw {X:Ext} (hX:XOk X) (n:Nat) (a0:Int×Int×Int×Unit) (a1:List (Int×Int×Unit)):ql2 (DD X (n+1)) a0 a1=qlk (DD X n) n a0 a1:=(qt X Try.func5 (by kernel_rfl) (hX 5 rfl) n _).trans (qwd ..)
theorem qvx {X:Ext} (hX:XOk X) (n:Nat) (a0:Int×Int×Int×Unit):qi1 (DD X (n+1)) a0=qpo (DD X n) n a0:=(qt X Try.func6 (by kernel_rfl) (hX 6 rfl) n _).trans (qv6 ..)
theorem qr7 {X:Ext} (hX:XOk X) (n:Nat) (a0:List (Int×Int×Unit)):qev (DD X (n+1)) a0=qit (DD X n) n a0:=(qt X Try.func7 (by kernel_rfl) (hX 7 rfl) n _).trans (qre ..)
theorem qv2 {X:Ext} (hX:XOk X) (n:Nat) (a0:Int×Int×Int×Unit) (a1:List (Int×Int×Unit)):qlx (DD X (n+1)) a0 a1=ql3 (DD X n) n a0 a1:=(qt X Try.func8 (by kernel_rfl) (hX 8 rfl) n _).trans (qv3 ..)
theorem qr1 {X:Ext} (hX:XOk X) (n:Nat) (a0:List (Int×Int×Unit)) (a1:List (Int×Int×Unit)):qil (DD X (n+1)) a0 a1=qht (DD X n) n a0 a1:=(qt X Try.func9 (by kernel_rfl) (hX 9 rfl) n _).trans (qrd ..)
theorem qv9 {X:Ext} (hX:XOk X) (n:Nat) (a0:Int×Int×Int×Unit):qlq (DD X (n+1)) a0=qly (DD X n) n a0:=(qt X Try.func10 (by kernel_rfl) (hX 10 rfl) n _).trans (qvz ..)
theorem qvc {X:Ext} (hX:XOk X) (n:Nat) (a0:Int×Int×Int×Unit) (a1:List (Int×Int×Unit)):qky (DD X (n+1)) a0 a1=qj7 (DD X n) n a0 a1:=(qt X Try.func11 (by kernel_rfl) (hX 11 rfl) n _).trans (qvk ..)
theorem qtp {X:Ext} (hX:XOk X) (n:Nat) (a0:Int×Int×Unit):qgo (DD X (n+1)) a0=qnm (DD X n) n a0:=(qt X Try.func12 (by kernel_rfl) (hX 12 rfl) n _).trans (qte ..)
theorem qvu {X:Ext} (hX:XOk X) (n:Nat) (a0:Int×Int×Int×Unit):qlm (DD X (n+1)) a0=qlr (DD X n) n a0:=(qt X Try.func13 (by kernel_rfl) (hX 13 rfl) n _).trans (qwb ..)
theorem qva {X:Ext} (hX:XOk X) (n:Nat) (a0:Int×Int×Int×Unit) (a1:List (Int×Int×Unit)):qkt (DD X (n+1)) a0 a1=qj5 (DD X n) n a0 a1:=(qt X Try.func14 (by kernel_rfl) (hX 14 rfl) n _).trans (qt4 ..)
theorem qtg {X:Ext} (hX:XOk X) (n:Nat) (a0:Int×Int×Unit) (a1:Int×Int×Unit):qgn (DD X (n+1)) a0 a1=qjm (DD X n) n a0 a1:=(qt X Try.func15 (by kernel_rfl) (hX 15 rfl) n _).trans (qto ..)
theorem qwo {X:Ext} (hX:XOk X) (n:Nat) (a0:Int) (a1:Int) (a2:Int):qcn (DD X (n+1)) a0 a1 a2=qps (DD X n) n a0 a1 a2:=(qt X Try.func16 (by kernel_rfl) (hX 16 rfl) n _).trans (qvy ..)
theorem qui {X:Ext} (hX:XOk X) (n:Nat) (a0:Int):qk5 (DD X (n+1)) a0=qkg (DD X n) n a0:=(qt X Try.func17 (by kernel_rfl) (hX 17 rfl) n _).trans (qt5 ..)
theorem qvh {X:Ext} (hX:XOk X) (n:Nat) (a0:Int):qho (DD X (n+1)) a0=qkb (DD X n) n a0:=(qt X Try.func18 (by kernel_rfl) (hX 18 rfl) n _).trans (qvo ..)
theorem qt6 {X:Ext} (hX:XOk X) (n:Nat) (a0:Int):qew (DD X (n+1)) a0=qnt (DD X n) n a0:=(qt X Try.func19 (by kernel_rfl) (hX 19 rfl) n _).trans (qvq ..)
theorem quh {X:Ext} (hX:XOk X) (n:Nat) (a0:Int):qcp (DD X (n+1)) a0=qkv (DD X n) n a0:=(qt X Try.func20 (by kernel_rfl) (hX 20 rfl) n _).trans (qvm ..)
theorem qu0 {X:Ext} (hX:XOk X) (n:Nat) (a0:List (Int×Int×Unit)×Int×Bool×Unit) (a1:Int×Int×Int×Unit):qkj (DD X (n+1)) a0 a1=qkn (DD X n) n a0 a1:=(qt X Try.func21 (by kernel_rfl) (hX 21 rfl) n _).trans (qt3 ..)
theorem qu5 {X:Ext} (hX:XOk X) (n:Nat) (a0:List (Int×Int×Unit)×Int×Bool×Unit) (a1:Int×Int×Int×Unit):qkw (DD X (n+1)) a0 a1=qk2 (DD X n) n a0 a1:=(qt X Try.func22 (by kernel_rfl) (hX 22 rfl) n _).trans (qu9 ..)
theorem qus {X:Ext} (hX:XOk X) (n:Nat) (a0:List (Int×Int×Unit)×Int×Bool×Unit) (a1:Int×Int×Int×Unit):qkp (DD X (n+1)) a0 a1=qk4 (DD X n) n a0 a1:=(qt X Try.func23 (by kernel_rfl) (hX 23 rfl) n _).trans (qu4 ..)
theorem qdw {X:Ext} (hX:XOk X) (n:Nat) (a0:List (Int×Int×Unit)×Int×Bool×Unit) (a1:Int):qm (DD X (n+1)) a0 a1=qd2 (DD X n) n a0 a1:=(qt X Try.func24 (by kernel_rfl) (hX 24 rfl) n _).trans (qtq ..)
theorem quj {X:Ext} (hX:XOk X) (n:Nat) (a0:Int):qc8 (DD X (n+1)) a0=qkx (DD X n) n a0:=(qt X Try.func25 (by kernel_rfl) (hX 25 rfl) n _).trans (qt9 ..)
theorem qrt {X:Ext} (hX:XOk X) (n:Nat) (a0:Int):qcz (DD X (n+1)) a0=qhy (DD X n) n a0:=(qt X Try.func26 (by kernel_rfl) (hX 26 rfl) n _).trans (qr5 ..)
theorem qrq {X:Ext} (hX:XOk X) (n:Nat) (a0:Int):qc1 (DD X (n+1)) a0=qiq (DD X n) n a0:=(qt X Try.func27 (by kernel_rfl) (hX 27 rfl) n _).trans (qr3 ..)
theorem qsj {X:Ext} (hX:XOk X) (n:Nat):qc0 (DD X (n+1))=ql8 (DD X n) n:=(qt X Try.func28 (by kernel_rfl) (hX 28 rfl) n _).trans (qse ..)
theorem qtl {X:Ext} (hX:XOk X) (n:Nat) (a0:List (Int×Int×Unit)×Int×Bool×Unit):qjs (DD X (n+1)) a0=qjp (DD X n) n a0:=(qt X Try.func29 (by kernel_rfl) (hX 29 rfl) n _).trans (qth ..)
theorem qpa {X:Ext} (hX:XOk X) (n:Nat) (a0:List (Int×Int×Unit)×Int×Bool×Unit) (a1:Bool):qcm (DD X (n+1)) a0 a1=qpg (DD X n) n a0 a1:=(qt X Try.func30 (by kernel_rfl) (hX 30 rfl) n _).trans (qwg ..)
theorem quy {X:Ext} (hX:XOk X) (n:Nat) (a0:Int):qfu (DD X (n+1)) a0=qk6 (DD X n) n a0:=(qt X Try.func31 (by kernel_rfl) (hX 31 rfl) n _).trans (qu8 ..)
theorem qvs {X:Ext} (hX:XOk X) (n:Nat) (a0:Int):qcs (DD X (n+1)) a0=qk0 (DD X n) n a0:=(qt X Try.func32 (by kernel_rfl) (hX 32 rfl) n _).trans (qu1 ..)
theorem qud {X:Ext} (hX:XOk X) (n:Nat) (a0:Int):q0 (DD X (n+1)) a0=qkm (DD X n) n a0:=(qt X Try.func33 (by kernel_rfl) (hX 33 rfl) n _).trans (qty ..)
theorem qsk {X:Ext} (hX:XOk X) (n:Nat) (a0:Int):qbo (DD X (n+1)) a0=qiv (DD X n) n a0:=(qt X Try.func34 (by kernel_rfl) (hX 34 rfl) n _).trans (qrf ..)
theorem qfj {X:Ext} (hX:XOk X) (n:Nat) (a0:List (Int×Int×Unit)×List Int×Int×Bool×Unit) (a1:Int×Int×Int×Unit):qbv (DD X (n+1)) a0 a1=qcx (DD X n) n a0 a1:=(qt X Try.func35 (by kernel_rfl) (hX 35 rfl) n _).trans (qnr ..)
theorem qgp {X:Ext} (hX:XOk X) (n:Nat) (a0:List (Int×Int×Unit)×List Int×Int×Bool×Unit) (a1:Int):qg (DD X (n+1)) a0 a1=qdp (DD X n) n a0 a1:=(qt X Try.func36 (by kernel_rfl) (hX 36 rfl) n _).trans (qp9 ..)
theorem quf {X:Ext} (hX:XOk X) (n:Nat) (a0:Int):qb3 (DD X (n+1)) a0=qkd (DD X n) n a0:=(qt X Try.func37 (by kernel_rfl) (hX 37 rfl) n _).trans (qvp ..)
theorem qrl {X:Ext} (hX:XOk X) (n:Nat) (a0:Int):qb6 (DD X (n+1)) a0=qhz (DD X n) n a0:=(qt X Try.func38 (by kernel_rfl) (hX 38 rfl) n _).trans (qsh ..)
theorem qro {X:Ext} (hX:XOk X) (n:Nat) (a0:Int):qb5 (DD X (n+1)) a0=qhs (DD X n) n a0:=(qt X Try.func39 (by kernel_rfl) (hX 39 rfl) n _).trans (qrb ..)
theorem qrn {X:Ext} (hX:XOk X) (n:Nat):qbe (DD X (n+1))=qmc (DD X n) n:=(qt X Try.func40 (by kernel_rfl) (hX 40 rfl) n _).trans (qrg ..)
theorem qef {X:Ext} (hX:XOk X) (n:Nat) (a0:List (Int×Int×Unit)×List Int×Int×Bool×Unit) (a1:Bool):qp (DD X (n+1)) a0 a1=qek (DD X n) n a0 a1:=(qt X Try.func41 (by kernel_rfl) (hX 41 rfl) n _).trans (qo2 ..)
theorem qt8 {X:Ext} (hX:XOk X) (n:Nat) (a0:Int):qcd (DD X (n+1)) a0=qkz (DD X n) n a0:=(qt X Try.func42 (by kernel_rfl) (hX 42 rfl) n _).trans (quc ..)
theorem qr2 {X:Ext} (hX:XOk X) (n:Nat) (a0:Int):qcj (DD X (n+1)) a0=qh4 (DD X n) n a0:=(qt X Try.func43 (by kernel_rfl) (hX 43 rfl) n _).trans (qrr ..)
theorem quz {X:Ext} (hX:XOk X) (n:Nat) (a0:List (Int×Int×Unit)×Int×Bool×Unit) (a1:Int) (a2:List Int):qes (DD X (n+1)) a0 a1 a2=qk3 (DD X n) n a0 a1 a2:=(qt X Try.func44 (by kernel_rfl) (hX 44 rfl) n _).trans (qvi ..)
theorem qv5 {X:Ext} (hX:XOk X) (n:Nat) (a0:List (Int×Int×Unit)) (a1:Int):qln (DD X (n+1)) a0 a1=qlw (DD X n) n a0 a1:=(qt X Try.func45 (by kernel_rfl) (hX 45 rfl) n _).trans (qwm ..)
theorem qwc {X:Ext} (hX:XOk X) (n:Nat) (a0:Int) (a1:Int) (a2:Int):qgh (DD X (n+1)) a0 a1 a2=qo9 (DD X n) n a0 a1 a2:=(qt X Try.func46 (by kernel_rfl) (hX 46 rfl) n _).trans (qv4 ..)
theorem qrs {X:Ext} (hX:XOk X) (n:Nat) (a0:Int):qch (DD X (n+1)) a0=qh7 (DD X n) n a0:=(qt X Try.func47 (by kernel_rfl) (hX 47 rfl) n _).trans (qrp ..)
theorem qqa {X:Ext} (hX:XOk X) (n:Nat) (a0:List (Int×Int×Unit)×List Int×Int×Bool×Unit) (a1:Int) (a2:List Int):qcy (DD X (n+1)) a0 a1 a2=qgq (DD X n) n a0 a1 a2:=(qt X Try.func48 (by kernel_rfl) (hX 48 rfl) n _).trans (qp8 ..)
theorem qvv {X:Ext} (hX:XOk X) (n:Nat) (a0:List (Int×Int×Unit)) (a1:Int):qlt (DD X (n+1)) a0 a1=qll (DD X n) n a0 a1:=(qt X Try.func49 (by kernel_rfl) (hX 49 rfl) n _).trans (qwa ..)
theorem qtm {X:Ext} (hX:XOk X) (n:Nat) (a0:Bool) (a1:Int):qd4 (DD X (n+1)) a0 a1=qnk (DD X n) n a0 a1:=(qt X Try.func50 (by kernel_rfl) (hX 50 rfl) n _).trans (qtr ..)
end Go.G


import Derived.Test.YtfafjngknkbngaaGreatAPFnExactReplace0
set_option linter.unusedVariables false
set_option linter.unusedSimpArgs false
set_option linter.unusedSectionVars false
namespace Go.G
set_option maxRecDepth 100000
set_option maxHeartbeats 0
open Go Go.V
noncomputable section
def spec_l21Some_b0 (D:DX)(n:Nat) (go:tVals→Int→Option ((Bool×Unit)×Unit)) (K0:Bool→Option ((Bool×Unit)×Unit)) (K1:Option ((Bool×Unit)×Unit)) (x0:tVals) (x1:Int):Option ((Bool×Unit)×Unit):=br (decide (x1<(↑(List.length x0):Int))) (br (decide (0≤x1)&&decide (x1<(↑(List.length x0):Int))) (br (decide (Prod.fst (List.getD x0 (Int.toNat x1) (0,0,ByteArray.empty,()))=0)) (K0 true) (go x0 (IntKind.wrap IntKind.i64 (x1+1)))) none) K1
def spec_l21Some_L0 (D:DX)(n:Nat) (K0:Bool→Option ((Bool×Unit)×Unit)) (K1:Option ((Bool×Unit)×Unit)):Nat→(tVals)→(Int)→Option ((Bool×Unit)×Unit) | 0=>(fun x0 x1=>none) | m+1=>(fun x0 x1=>spec_l21Some_b0 D n (spec_l21Some_L0 D n K0 K1 m) K0 K1 x0 x1)
def spec_l21Some_x0_0 (D:DX)(n:Nat) (v0_0:Bool):Option ((Bool×Unit)×Unit):=some ((v0_0,()),())
def spec_l21Some_x0_1 (D:DX)(n:Nat):Option ((Bool×Unit)×Unit):=some ((false,()),())
def spec_l21Some_LP0 (D:DX)(n:Nat):(tVals)→(Int)→Option ((Bool×Unit)×Unit):=(fun x0 x1=>spec_l21Some_L0 D n (fun v0_0=>spec_l21Some_x0_0 D n v0_0) (spec_l21Some_x0_1 D n) n x0 x1)
def spec_l21Some_e (D:DX)(n:Nat) (lp0:tVals→Int→Option ((Bool×Unit)×Unit)) (a0:tVals):Option ((Bool×Unit)×Unit):=lp0 a0 0
def F_spec_l21Some (D:DX)(n:Nat) (a0:tVals):Option ((Bool×Unit)×Unit):=spec_l21Some_e D n (spec_l21Some_LP0 D n) a0
def spec_l21Some_Q0 (x0:tVals) (x1:Int):St:=stq 16 [(0,AV.val (Ty.sl yV) x0),(3,avI x1)] [] 
def spec_l21Some_Q0_0 (v0_0:Bool):St:=stq 16 [(2,AV.val Ty.bool v0_0)] [] 
def spec_l21Some_Q0_1:St:=stq 16 [] [] 
theorem spec_l21Some_SB0 (D:DX)(n:Nat) (m:Nat) (K:Ex→St→Option (Out ctx 165)) (x0:tVals) (x1:Int) :
  LQ funcTab D n 165 [.r,.l,.r,.l] (m+1) (spec_l21Some_Q0 x0 x1) K=spec_l21Some_b0 D n (fun x0 x1=>LQ funcTab D n 165 [.r,.l,.r,.l] m (spec_l21Some_Q0 x0 x1) K) (fun v0_0=>K (Ex.ret) (spec_l21Some_Q0_0 v0_0)) (K (Ex.exit 0) (spec_l21Some_Q0_1)) x0 x1:=by kernel_rfl
theorem spec_l21Some_EL0 (D:DX)(n:Nat) (K:Ex→St→Option (Out ctx 165)):∀ (m:Nat) (x0:tVals) (x1:Int),LQ funcTab D n 165 [.r,.l,.r,.l] m (spec_l21Some_Q0 x0 x1) K=spec_l21Some_L0 D n (fun v0_0=>K (Ex.ret) (spec_l21Some_Q0_0 v0_0)) (K (Ex.exit 0) (spec_l21Some_Q0_1)) m x0 x1
  | 0,x0,x1=>LQ_zero ..
  | m+1,x0,x1=>by
    have ih:(fun x0 x1=>LQ funcTab D n 165 [.r,.l,.r,.l] m (spec_l21Some_Q0 x0 x1) K)=spec_l21Some_L0 D n (fun v0_0=>K (Ex.ret) (spec_l21Some_Q0_0 v0_0)) (K (Ex.exit 0) (spec_l21Some_Q0_1)) m:=by funext x0 x1;exact spec_l21Some_EL0 D n K m x0 x1
    rw[spec_l21Some_SB0]
    rw[ih];rfl
theorem spec_l21Some_X0_0 (D:DX)(n:Nat) (v0_0:Bool) :
  (CQ funcTab D n 165 [] [.r,.l,.r,.l] (lastK funcTab 165)) (Ex.ret) (spec_l21Some_Q0_0 v0_0)=spec_l21Some_x0_0 D n v0_0:=by kernel_rfl
theorem spec_l21Some_X0_1 (D:DX)(n:Nat) :
  (CQ funcTab D n 165 [] [.r,.l,.r,.l] (lastK funcTab 165)) (Ex.exit 0) (spec_l21Some_Q0_1)=spec_l21Some_x0_1 D n:=by kernel_rfl
theorem spec_l21Some_ELP0 (D:DX)(n:Nat) (x0:tVals) (x1:Int) :
  LQ funcTab D n 165 [.r,.l,.r,.l] n (spec_l21Some_Q0 x0 x1) (CQ funcTab D n 165 [] [.r,.l,.r,.l] (lastK funcTab 165))=spec_l21Some_LP0 D n x0 x1:=by
  rw[spec_l21Some_EL0]
  simp only[spec_l21Some_X0_0,spec_l21Some_X0_1]
  rfl
theorem E_spec_l21Some (D:DX)(n:Nat) (a0:tVals):rfC funcTab D n 165 (a0,())=F_spec_l21Some D n a0:=by
  have h:rfC funcTab D n 165 (a0,())=spec_l21Some_e D n (fun x0 x1=>LQ funcTab D n 165 [.r,.l,.r,.l] n (spec_l21Some_Q0 x0 x1) (CQ funcTab D n 165 [] [.r,.l,.r,.l] (lastK funcTab 165))) a0:=by kernel_rfl
  rw[h]
  simp only[spec_l21Some_ELP0]
  rfl

def spec_ColNameOk_b0 (D:DX)(n:Nat) (go:ByteArray→Int→Option ((Bool×Unit)×Unit)) (K0:ByteArray→Bool→Option ((Bool×Unit)×Unit)) (K1:ByteArray→Option ((Bool×Unit)×Unit)) (x0:ByteArray) (x1:Int):Option ((Bool×Unit)×Unit):=br (decide (x1<(↑(ByteArray.size x0):Int))) (br (decide (0≤x1)&&decide (x1<(↑(ByteArray.size x0):Int))) (br (decide ((↑(UInt8.toNat (Array.getD (ByteArray.data x0) (Int.toNat x1) (UInt8.ofNat 0))):Int)<97)) (K0 x0 false) (br (decide (0≤x1)&&decide (x1<(↑(ByteArray.size x0):Int))) (br (decide ((↑(UInt8.toNat (Array.getD (ByteArray.data x0) (Int.toNat x1) (UInt8.ofNat 0))):Int)>122)) (K0 x0 false) (go x0 (IntKind.wrap IntKind.i64 (x1+1)))) none)) none) (K1 x0)
def spec_ColNameOk_L0 (D:DX)(n:Nat) (K0:ByteArray→Bool→Option ((Bool×Unit)×Unit)) (K1:ByteArray→Option ((Bool×Unit)×Unit)):Nat→(ByteArray)→(Int)→Option ((Bool×Unit)×Unit) | 0=>(fun x0 x1=>none) | m+1=>(fun x0 x1=>spec_ColNameOk_b0 D n (spec_ColNameOk_L0 D n K0 K1 m) K0 K1 x0 x1)
def spec_ColNameOk_x0_0 (D:DX)(n:Nat) (v0_0:ByteArray) (v0_1:Bool):Option ((Bool×Unit)×Unit):=some ((v0_1,()),())
def spec_ColNameOk_x0_1 (D:DX)(n:Nat) (v1_0:ByteArray):Option ((Bool×Unit)×Unit):=bindD (C_spec_l1In D (↑(ByteArray.size v1_0):Int) 1 12) fun b↦some ((Prod.fst (Prod.fst b),()),())
def spec_ColNameOk_LP0 (D:DX)(n:Nat):(ByteArray)→(Int)→Option ((Bool×Unit)×Unit):=(fun x0 x1=>spec_ColNameOk_L0 D n (fun v0_0 v0_1=>spec_ColNameOk_x0_0 D n v0_0 v0_1) (fun v1_0=>spec_ColNameOk_x0_1 D n v1_0) n x0 x1)
def spec_ColNameOk_e (D:DX)(n:Nat) (lp0:ByteArray→Int→Option ((Bool×Unit)×Unit)) (a0:ByteArray):Option ((Bool×Unit)×Unit):=lp0 a0 0
def F_spec_ColNameOk (D:DX)(n:Nat) (a0:ByteArray):Option ((Bool×Unit)×Unit):=spec_ColNameOk_e D n (spec_ColNameOk_LP0 D n) a0
def spec_ColNameOk_Q0 (x0:ByteArray) (x1:Int):St:=stq 23 [(0,AV.val Ty.str x0),(3,avI x1)] [] 
def spec_ColNameOk_Q0_0 (v0_0:ByteArray) (v0_1:Bool):St:=stq 23 [(0,AV.val Ty.str v0_0),(2,AV.val Ty.bool v0_1)] [] 
def spec_ColNameOk_Q0_1 (v1_0:ByteArray):St:=stq 23 [(0,AV.val Ty.str v1_0)] [] 
theorem spec_ColNameOk_SB0 (D:DX)(n:Nat) (m:Nat) (K:Ex→St→Option (Out ctx 166)) (x0:ByteArray) (x1:Int) :
  LQ funcTab D n 166 [.r,.l,.r,.l] (m+1) (spec_ColNameOk_Q0 x0 x1) K=spec_ColNameOk_b0 D n (fun x0 x1=>LQ funcTab D n 166 [.r,.l,.r,.l] m (spec_ColNameOk_Q0 x0 x1) K) (fun v0_0 v0_1=>K (Ex.ret) (spec_ColNameOk_Q0_0 v0_0 v0_1)) (fun v1_0=>K (Ex.exit 0) (spec_ColNameOk_Q0_1 v1_0)) x0 x1:=by kernel_rfl
theorem spec_ColNameOk_EL0 (D:DX)(n:Nat) (K:Ex→St→Option (Out ctx 166)):∀ (m:Nat) (x0:ByteArray) (x1:Int),LQ funcTab D n 166 [.r,.l,.r,.l] m (spec_ColNameOk_Q0 x0 x1) K=spec_ColNameOk_L0 D n (fun v0_0 v0_1=>K (Ex.ret) (spec_ColNameOk_Q0_0 v0_0 v0_1)) (fun v1_0=>K (Ex.exit 0) (spec_ColNameOk_Q0_1 v1_0)) m x0 x1
  | 0,x0,x1=>LQ_zero ..
  | m+1,x0,x1=>by
    have ih:(fun x0 x1=>LQ funcTab D n 166 [.r,.l,.r,.l] m (spec_ColNameOk_Q0 x0 x1) K)=spec_ColNameOk_L0 D n (fun v0_0 v0_1=>K (Ex.ret) (spec_ColNameOk_Q0_0 v0_0 v0_1)) (fun v1_0=>K (Ex.exit 0) (spec_ColNameOk_Q0_1 v1_0)) m:=by funext x0 x1;exact spec_ColNameOk_EL0 D n K m x0 x1
    rw[spec_ColNameOk_SB0]
    rw[ih];rfl
theorem spec_ColNameOk_X0_0 (D:DX)(n:Nat) (v0_0:ByteArray) (v0_1:Bool) :
  (CQ funcTab D n 166 [] [.r,.l,.r,.l] (lastK funcTab 166)) (Ex.ret) (spec_ColNameOk_Q0_0 v0_0 v0_1)=spec_ColNameOk_x0_0 D n v0_0 v0_1:=by kernel_rfl
theorem spec_ColNameOk_X0_1 (D:DX)(n:Nat) (v1_0:ByteArray) :
  (CQ funcTab D n 166 [] [.r,.l,.r,.l] (lastK funcTab 166)) (Ex.exit 0) (spec_ColNameOk_Q0_1 v1_0)=spec_ColNameOk_x0_1 D n v1_0:=by kernel_rfl
theorem spec_ColNameOk_ELP0 (D:DX)(n:Nat) (x0:ByteArray) (x1:Int) :
  LQ funcTab D n 166 [.r,.l,.r,.l] n (spec_ColNameOk_Q0 x0 x1) (CQ funcTab D n 166 [] [.r,.l,.r,.l] (lastK funcTab 166))=spec_ColNameOk_LP0 D n x0 x1:=by
  rw[spec_ColNameOk_EL0]
  simp only[spec_ColNameOk_X0_0,spec_ColNameOk_X0_1]
  rfl
theorem E_spec_ColNameOk (D:DX)(n:Nat) (a0:ByteArray):rfC funcTab D n 166 (a0,())=F_spec_ColNameOk D n a0:=by
  have h:rfC funcTab D n 166 (a0,())=spec_ColNameOk_e D n (fun x0 x1=>LQ funcTab D n 166 [.r,.l,.r,.l] n (spec_ColNameOk_Q0 x0 x1) (CQ funcTab D n 166 [] [.r,.l,.r,.l] (lastK funcTab 166))) a0:=by kernel_rfl
  rw[h]
  simp only[spec_ColNameOk_ELP0]
  rfl

def spec_ColAt_b0 (D:DX)(n:Nat) (go:ByteArray→Int→tSch→Option ((Int×Unit)×Unit)) (K0:Int→Option ((Int×Unit)×Unit)) (K1:Option ((Int×Unit)×Unit)) (x0:ByteArray) (x1:Int) (x2:tSch):Option ((Int×Unit)×Unit):=br (decide (x1<(↑(List.length (Prod.fst x2)):Int))) (br (decide (0≤x1)&&decide (x1<(↑(List.length (Prod.fst x2)):Int))) (br (List.beq (ByteArray.toList (Prod.fst (List.getD (Prod.fst x2) (Int.toNat x1) (ByteArray.empty,0,false,())))) (ByteArray.toList x0)) (K0 x1) (go x0 (IntKind.wrap IntKind.i64 (x1+1)) x2)) none) K1
def spec_ColAt_L0 (D:DX)(n:Nat) (K0:Int→Option ((Int×Unit)×Unit)) (K1:Option ((Int×Unit)×Unit)):Nat→(ByteArray)→(Int)→(tSch)→Option ((Int×Unit)×Unit) | 0=>(fun x0 x1 x2=>none) | m+1=>(fun x0 x1 x2=>spec_ColAt_b0 D n (spec_ColAt_L0 D n K0 K1 m) K0 K1 x0 x1 x2)
def spec_ColAt_x0_0 (D:DX)(n:Nat) (v0_0:Int):Option ((Int×Unit)×Unit):=some ((v0_0,()),())
def spec_ColAt_x0_1 (D:DX)(n:Nat):Option ((Int×Unit)×Unit):=some ((-1,()),())
def spec_ColAt_LP0 (D:DX)(n:Nat):(ByteArray)→(Int)→(tSch)→Option ((Int×Unit)×Unit):=(fun x0 x1 x2=>spec_ColAt_L0 D n (fun v0_0=>spec_ColAt_x0_0 D n v0_0) (spec_ColAt_x0_1 D n) n x0 x1 x2)
def spec_ColAt_e (D:DX)(n:Nat) (lp0:ByteArray→Int→tSch→Option ((Int×Unit)×Unit)) (a0:tSch) (a1:ByteArray):Option ((Int×Unit)×Unit):=lp0 a1 0 a0
def F_spec_ColAt (D:DX)(n:Nat) (a0:tSch) (a1:ByteArray):Option ((Int×Unit)×Unit):=spec_ColAt_e D n (spec_ColAt_LP0 D n) a0 a1
def spec_ColAt_Q0 (x0:ByteArray) (x1:Int) (x2:tSch):St:=stq 22 [(1,AV.val Ty.str x0),(2,AV.addr 2 []),(5,avI x1)] [(2,Root.mk yS Mk.no x2 true)] 
def spec_ColAt_Q0_0 (v0_0:Int):St:=stq 22 [(4,avI v0_0)] [] 
def spec_ColAt_Q0_1:St:=stq 22 [] [] 
theorem spec_ColAt_SB0 (D:DX)(n:Nat) (m:Nat) (K:Ex→St→Option (Out ctx 167)) (x0:ByteArray) (x1:Int) (x2:tSch) :
  LQ funcTab D n 167 [.r,.l,.r,.l] (m+1) (spec_ColAt_Q0 x0 x1 x2) K=spec_ColAt_b0 D n (fun x0 x1 x2=>LQ funcTab D n 167 [.r,.l,.r,.l] m (spec_ColAt_Q0 x0 x1 x2) K) (fun v0_0=>K (Ex.ret) (spec_ColAt_Q0_0 v0_0)) (K (Ex.exit 0) (spec_ColAt_Q0_1)) x0 x1 x2:=by kernel_rfl
theorem spec_ColAt_EL0 (D:DX)(n:Nat) (K:Ex→St→Option (Out ctx 167)):∀ (m:Nat) (x0:ByteArray) (x1:Int) (x2:tSch),LQ funcTab D n 167 [.r,.l,.r,.l] m (spec_ColAt_Q0 x0 x1 x2) K=spec_ColAt_L0 D n (fun v0_0=>K (Ex.ret) (spec_ColAt_Q0_0 v0_0)) (K (Ex.exit 0) (spec_ColAt_Q0_1)) m x0 x1 x2
  | 0,x0,x1,x2=>LQ_zero ..
  | m+1,x0,x1,x2=>by
    have ih:(fun x0 x1 x2=>LQ funcTab D n 167 [.r,.l,.r,.l] m (spec_ColAt_Q0 x0 x1 x2) K)=spec_ColAt_L0 D n (fun v0_0=>K (Ex.ret) (spec_ColAt_Q0_0 v0_0)) (K (Ex.exit 0) (spec_ColAt_Q0_1)) m:=by funext x0 x1 x2;exact spec_ColAt_EL0 D n K m x0 x1 x2
    rw[spec_ColAt_SB0]
    rw[ih];rfl
theorem spec_ColAt_X0_0 (D:DX)(n:Nat) (v0_0:Int) :
  (CQ funcTab D n 167 [] [.r,.l,.r,.l] (lastK funcTab 167)) (Ex.ret) (spec_ColAt_Q0_0 v0_0)=spec_ColAt_x0_0 D n v0_0:=by kernel_rfl
theorem spec_ColAt_X0_1 (D:DX)(n:Nat) :
  (CQ funcTab D n 167 [] [.r,.l,.r,.l] (lastK funcTab 167)) (Ex.exit 0) (spec_ColAt_Q0_1)=spec_ColAt_x0_1 D n:=by kernel_rfl
theorem spec_ColAt_ELP0 (D:DX)(n:Nat) (x0:ByteArray) (x1:Int) (x2:tSch) :
  LQ funcTab D n 167 [.r,.l,.r,.l] n (spec_ColAt_Q0 x0 x1 x2) (CQ funcTab D n 167 [] [.r,.l,.r,.l] (lastK funcTab 167))=spec_ColAt_LP0 D n x0 x1 x2:=by
  rw[spec_ColAt_EL0]
  simp only[spec_ColAt_X0_0,spec_ColAt_X0_1]
  rfl
theorem E_spec_ColAt (D:DX)(n:Nat) (a0:tSch) (a1:ByteArray):rfC funcTab D n 167 (a0,(a1,()))=F_spec_ColAt D n a0 a1:=by
  have h:rfC funcTab D n 167 (a0,(a1,()))=spec_ColAt_e D n (fun x0 x1 x2=>LQ funcTab D n 167 [.r,.l,.r,.l] n (spec_ColAt_Q0 x0 x1 x2) (CQ funcTab D n 167 [] [.r,.l,.r,.l] (lastK funcTab 167))) a0 a1:=by kernel_rfl
  rw[h]
  simp only[spec_ColAt_ELP0]
  rfl

def spec_l19Places_b1 (D:DX)(n:Nat) (go:List Int→Int→Int→Int→tSch→Option ((Bool×Unit)×Unit)) (K0:List Int→Int→Bool→Int→tSch→Option ((Bool×Unit)×Unit)) (K1:List Int→Int→Int→tSch→Option ((Bool×Unit)×Unit)) (x1_0:List Int) (x1_1:Int) (x1_2:Int) (x1_3:Int) (x1_4:tSch):Option ((Bool×Unit)×Unit):=br (decide (x1_3<x1_2)) (br (decide (0≤x1_3)&&decide (x1_3<(↑(List.length x1_0):Int))) (br (decide (0≤x1_2)&&decide (x1_2<(↑(List.length x1_0):Int))) (br (decide (List.getD x1_0 (Int.toNat x1_3) 0=List.getD x1_0 (Int.toNat x1_2) 0)) (K0 x1_0 x1_1 false x1_2 x1_4) (go x1_0 x1_1 x1_2 (IntKind.wrap IntKind.i64 (x1_3+1)) x1_4)) none) none) (K1 x1_0 x1_1 x1_2 x1_4)
def spec_l19Places_L1 (D:DX)(n:Nat) (K0:List Int→Int→Bool→Int→tSch→Option ((Bool×Unit)×Unit)) (K1:List Int→Int→Int→tSch→Option ((Bool×Unit)×Unit)):Nat→(List Int)→(Int)→(Int)→(Int)→(tSch)→Option ((Bool×Unit)×Unit) | 0=>(fun x1_0 x1_1 x1_2 x1_3 x1_4=>none) | m+1=>(fun x1_0 x1_1 x1_2 x1_3 x1_4=>spec_l19Places_b1 D n (spec_l19Places_L1 D n K0 K1 m) K0 K1 x1_0 x1_1 x1_2 x1_3 x1_4)
def spec_l19Places_x1_0 (D:DX)(n:Nat) (go:List Int→Int→Int→tSch→Option ((Bool×Unit)×Unit)) (K0:List Int→Int→Bool→Option ((Bool×Unit)×Unit)) (K1:List Int→Int→Option ((Bool×Unit)×Unit)) (v0_0:List Int) (v0_1:Int) (v0_2:Bool) (v0_3:Int) (v0_4:tSch):Option ((Bool×Unit)×Unit):=K0 v0_0 v0_1 v0_2
def spec_l19Places_x1_1 (D:DX)(n:Nat) (go:List Int→Int→Int→tSch→Option ((Bool×Unit)×Unit)) (K0:List Int→Int→Bool→Option ((Bool×Unit)×Unit)) (K1:List Int→Int→Option ((Bool×Unit)×Unit)) (v1_0:List Int) (v1_1:Int) (v1_2:Int) (v1_3:tSch):Option ((Bool×Unit)×Unit):=go v1_0 v1_1 (IntKind.wrap IntKind.i64 (v1_2+1)) v1_3
def spec_l19Places_LP1 (D:DX)(n:Nat) (go:List Int→Int→Int→tSch→Option ((Bool×Unit)×Unit)) (K0:List Int→Int→Bool→Option ((Bool×Unit)×Unit)) (K1:List Int→Int→Option ((Bool×Unit)×Unit)):(List Int)→(Int)→(Int)→(Int)→(tSch)→Option ((Bool×Unit)×Unit):=(fun x1_0 x1_1 x1_2 x1_3 x1_4=>spec_l19Places_L1 D n (fun v0_0 v0_1 v0_2 v0_3 v0_4=>spec_l19Places_x1_0 D n go K0 K1 v0_0 v0_1 v0_2 v0_3 v0_4) (fun v1_0 v1_1 v1_2 v1_3=>spec_l19Places_x1_1 D n go K0 K1 v1_0 v1_1 v1_2 v1_3) n x1_0 x1_1 x1_2 x1_3 x1_4)
def spec_l19Places_b0 (D:DX)(n:Nat) (go:List Int→Int→Int→tSch→Option ((Bool×Unit)×Unit)) (K0:List Int→Int→Bool→Option ((Bool×Unit)×Unit)) (K1:List Int→Int→Option ((Bool×Unit)×Unit)) (lp1:List Int→Int→Int→Int→tSch→Option ((Bool×Unit)×Unit)) (x0:List Int) (x1:Int) (x2:Int) (x3:tSch):Option ((Bool×Unit)×Unit):=br (decide (x2<(↑(List.length x0):Int))) (br (decide (0≤x2)&&decide (x2<(↑(List.length x0):Int))) (bindD (C_spec_l1In D (List.getD x0 (Int.toNat x2) 0) 0 (IntKind.wrap IntKind.i64 ((↑(List.length (Prod.fst x3)):Int) - 1))) fun b↦br (!Prod.fst (Prod.fst b)) (K0 x0 x1 false) (lp1 x0 x1 x2 0 x3)) none) (K1 x0 x1)
def spec_l19Places_L0 (D:DX)(n:Nat) (K0:List Int→Int→Bool→Option ((Bool×Unit)×Unit)) (K1:List Int→Int→Option ((Bool×Unit)×Unit)):Nat→(List Int)→(Int)→(Int)→(tSch)→Option ((Bool×Unit)×Unit) | 0=>(fun x0 x1 x2 x3=>none) | m+1=>(fun x0 x1 x2 x3=>spec_l19Places_b0 D n (spec_l19Places_L0 D n K0 K1 m) K0 K1 (spec_l19Places_LP1 D n (spec_l19Places_L0 D n K0 K1 m) K0 K1) x0 x1 x2 x3)
def spec_l19Places_x0_0 (D:DX)(n:Nat) (v0_0:List Int) (v0_1:Int) (v0_2:Bool):Option ((Bool×Unit)×Unit):=some ((v0_2,()),())
def spec_l19Places_x0_1 (D:DX)(n:Nat) (v1_0:List Int) (v1_1:Int):Option ((Bool×Unit)×Unit):=bindD (C_spec_l1In D (↑(List.length v1_0):Int) 1 v1_1) fun b↦some ((Prod.fst (Prod.fst b),()),())
def spec_l19Places_LP0 (D:DX)(n:Nat):(List Int)→(Int)→(Int)→(tSch)→Option ((Bool×Unit)×Unit):=(fun x0 x1 x2 x3=>spec_l19Places_L0 D n (fun v0_0 v0_1 v0_2=>spec_l19Places_x0_0 D n v0_0 v0_1 v0_2) (fun v1_0 v1_1=>spec_l19Places_x0_1 D n v1_0 v1_1) n x0 x1 x2 x3)
def spec_l19Places_e (D:DX)(n:Nat) (lp0:List Int→Int→Int→tSch→Option ((Bool×Unit)×Unit)) (a0:tSch) (a1:List Int) (a2:Int):Option ((Bool×Unit)×Unit):=lp0 a1 a2 0 a0
def F_spec_l19Places (D:DX)(n:Nat) (a0:tSch) (a1:List Int) (a2:Int):Option ((Bool×Unit)×Unit):=spec_l19Places_e D n (spec_l19Places_LP0 D n) a0 a1 a2
def spec_l19Places_Q0 (x0:List Int) (x1:Int) (x2:Int) (x3:tSch):St:=stq 43 [(1,AV.val (Ty.sl yI) x0),(2,avI x1),(3,AV.addr 3 []),(7,avI x2)] [(3,Root.mk yS Mk.no x3 true)] 
def spec_l19Places_Q0_0 (v0_0:List Int) (v0_1:Int) (v0_2:Bool):St:=stq 43 [(1,AV.val (Ty.sl yI) v0_0),(2,avI v0_1),(6,AV.val Ty.bool v0_2)] [] 
def spec_l19Places_Q0_1 (v1_0:List Int) (v1_1:Int):St:=stq 43 [(1,AV.val (Ty.sl yI) v1_0),(2,avI v1_1)] [] 
def spec_l19Places_Q1 (x1_0:List Int) (x1_1:Int) (x1_2:Int) (x1_3:Int) (x1_4:tSch):St:=stq 43 [(1,AV.val (Ty.sl yI) x1_0),(2,avI x1_1),(3,AV.addr 3 []),(7,avI x1_2),(8,avI x1_3)] [(3,Root.mk yS Mk.no x1_4 true)] 
def spec_l19Places_Q1_0 (v0_0:List Int) (v0_1:Int) (v0_2:Bool) (v0_3:Int) (v0_4:tSch):St:=stq 43 [(1,AV.val (Ty.sl yI) v0_0),(2,avI v0_1),(3,AV.addr 3 []),(6,AV.val Ty.bool v0_2),(7,avI v0_3)] [(3,Root.mk yS Mk.no v0_4 true)] 
def spec_l19Places_Q1_1 (v1_0:List Int) (v1_1:Int) (v1_2:Int) (v1_3:tSch):St:=stq 43 [(1,AV.val (Ty.sl yI) v1_0),(2,avI v1_1),(3,AV.addr 3 []),(7,avI v1_2)] [(3,Root.mk yS Mk.no v1_3 true)] 
theorem spec_l19Places_SB1 (D:DX)(n:Nat) (m:Nat) (K:Ex→St→Option (Out ctx 168)) (x1_0:List Int) (x1_1:Int) (x1_2:Int) (x1_3:Int) (x1_4:tSch) :
  LQ funcTab D n 168 [.r,.l,.r,.l,.l,.r,.l,.l,.r,.r,.l] (m+1) (spec_l19Places_Q1 x1_0 x1_1 x1_2 x1_3 x1_4) K=spec_l19Places_b1 D n (fun x1_0 x1_1 x1_2 x1_3 x1_4=>LQ funcTab D n 168 [.r,.l,.r,.l,.l,.r,.l,.l,.r,.r,.l] m (spec_l19Places_Q1 x1_0 x1_1 x1_2 x1_3 x1_4) K) (fun v0_0 v0_1 v0_2 v0_3 v0_4=>K (Ex.ret) (spec_l19Places_Q1_0 v0_0 v0_1 v0_2 v0_3 v0_4)) (fun v1_0 v1_1 v1_2 v1_3=>K (Ex.exit 2) (spec_l19Places_Q1_1 v1_0 v1_1 v1_2 v1_3)) x1_0 x1_1 x1_2 x1_3 x1_4:=by kernel_rfl
theorem spec_l19Places_EL1 (D:DX)(n:Nat) (K:Ex→St→Option (Out ctx 168)):∀ (m:Nat) (x1_0:List Int) (x1_1:Int) (x1_2:Int) (x1_3:Int) (x1_4:tSch),LQ funcTab D n 168 [.r,.l,.r,.l,.l,.r,.l,.l,.r,.r,.l] m (spec_l19Places_Q1 x1_0 x1_1 x1_2 x1_3 x1_4) K=spec_l19Places_L1 D n (fun v0_0 v0_1 v0_2 v0_3 v0_4=>K (Ex.ret) (spec_l19Places_Q1_0 v0_0 v0_1 v0_2 v0_3 v0_4)) (fun v1_0 v1_1 v1_2 v1_3=>K (Ex.exit 2) (spec_l19Places_Q1_1 v1_0 v1_1 v1_2 v1_3)) m x1_0 x1_1 x1_2 x1_3 x1_4
  | 0,x1_0,x1_1,x1_2,x1_3,x1_4=>LQ_zero ..
  | m+1,x1_0,x1_1,x1_2,x1_3,x1_4=>by
    have ih:(fun x1_0 x1_1 x1_2 x1_3 x1_4=>LQ funcTab D n 168 [.r,.l,.r,.l,.l,.r,.l,.l,.r,.r,.l] m (spec_l19Places_Q1 x1_0 x1_1 x1_2 x1_3 x1_4) K)=spec_l19Places_L1 D n (fun v0_0 v0_1 v0_2 v0_3 v0_4=>K (Ex.ret) (spec_l19Places_Q1_0 v0_0 v0_1 v0_2 v0_3 v0_4)) (fun v1_0 v1_1 v1_2 v1_3=>K (Ex.exit 2) (spec_l19Places_Q1_1 v1_0 v1_1 v1_2 v1_3)) m:=by funext x1_0 x1_1 x1_2 x1_3 x1_4;exact spec_l19Places_EL1 D n K m x1_0 x1_1 x1_2 x1_3 x1_4
    rw[spec_l19Places_SB1]
    rw[ih];rfl
theorem spec_l19Places_X1_0 (D:DX)(n:Nat) (m:Nat) (K:Ex→St→Option (Out ctx 168)) (v0_0:List Int) (v0_1:Int) (v0_2:Bool) (v0_3:Int) (v0_4:tSch) :
  (CQ funcTab D n 168 [.r,.l,.r,.l,.l] [.r,.l,.l,.r,.r,.l] (LK funcTab D n 168 [.r,.l,.r,.l] m K)) (Ex.ret) (spec_l19Places_Q1_0 v0_0 v0_1 v0_2 v0_3 v0_4)=spec_l19Places_x1_0 D n (fun x0 x1 x2 x3=>LQ funcTab D n 168 [.r,.l,.r,.l] m (spec_l19Places_Q0 x0 x1 x2 x3) K) (fun v0_0 v0_1 v0_2=>K (Ex.ret) (spec_l19Places_Q0_0 v0_0 v0_1 v0_2)) (fun v1_0 v1_1=>K (Ex.exit 0) (spec_l19Places_Q0_1 v1_0 v1_1)) v0_0 v0_1 v0_2 v0_3 v0_4:=by kernel_rfl
theorem spec_l19Places_X1_1 (D:DX)(n:Nat) (m:Nat) (K:Ex→St→Option (Out ctx 168)) (v1_0:List Int) (v1_1:Int) (v1_2:Int) (v1_3:tSch) :
  (CQ funcTab D n 168 [.r,.l,.r,.l,.l] [.r,.l,.l,.r,.r,.l] (LK funcTab D n 168 [.r,.l,.r,.l] m K)) (Ex.exit 2) (spec_l19Places_Q1_1 v1_0 v1_1 v1_2 v1_3)=spec_l19Places_x1_1 D n (fun x0 x1 x2 x3=>LQ funcTab D n 168 [.r,.l,.r,.l] m (spec_l19Places_Q0 x0 x1 x2 x3) K) (fun v0_0 v0_1 v0_2=>K (Ex.ret) (spec_l19Places_Q0_0 v0_0 v0_1 v0_2)) (fun v1_0 v1_1=>K (Ex.exit 0) (spec_l19Places_Q0_1 v1_0 v1_1)) v1_0 v1_1 v1_2 v1_3:=by kernel_rfl
theorem spec_l19Places_ELP1 (D:DX)(n:Nat) (m:Nat) (K:Ex→St→Option (Out ctx 168)) (x1_0:List Int) (x1_1:Int) (x1_2:Int) (x1_3:Int) (x1_4:tSch) :
  LQ funcTab D n 168 [.r,.l,.r,.l,.l,.r,.l,.l,.r,.r,.l] n (spec_l19Places_Q1 x1_0 x1_1 x1_2 x1_3 x1_4) (CQ funcTab D n 168 [.r,.l,.r,.l,.l] [.r,.l,.l,.r,.r,.l] (LK funcTab D n 168 [.r,.l,.r,.l] m K))=spec_l19Places_LP1 D n (fun x0 x1 x2 x3=>LQ funcTab D n 168 [.r,.l,.r,.l] m (spec_l19Places_Q0 x0 x1 x2 x3) K) (fun v0_0 v0_1 v0_2=>K (Ex.ret) (spec_l19Places_Q0_0 v0_0 v0_1 v0_2)) (fun v1_0 v1_1=>K (Ex.exit 0) (spec_l19Places_Q0_1 v1_0 v1_1)) x1_0 x1_1 x1_2 x1_3 x1_4:=by
  rw[spec_l19Places_EL1]
  simp only[spec_l19Places_X1_0,spec_l19Places_X1_1]
  rfl
theorem spec_l19Places_SB0 (D:DX)(n:Nat) (m:Nat) (K:Ex→St→Option (Out ctx 168)) (x0:List Int) (x1:Int) (x2:Int) (x3:tSch) :
  LQ funcTab D n 168 [.r,.l,.r,.l] (m+1) (spec_l19Places_Q0 x0 x1 x2 x3) K=spec_l19Places_b0 D n (fun x0 x1 x2 x3=>LQ funcTab D n 168 [.r,.l,.r,.l] m (spec_l19Places_Q0 x0 x1 x2 x3) K) (fun v0_0 v0_1 v0_2=>K (Ex.ret) (spec_l19Places_Q0_0 v0_0 v0_1 v0_2)) (fun v1_0 v1_1=>K (Ex.exit 0) (spec_l19Places_Q0_1 v1_0 v1_1)) (fun x1_0 x1_1 x1_2 x1_3 x1_4=>LQ funcTab D n 168 [.r,.l,.r,.l,.l,.r,.l,.l,.r,.r,.l] n (spec_l19Places_Q1 x1_0 x1_1 x1_2 x1_3 x1_4) (CQ funcTab D n 168 [.r,.l,.r,.l,.l] [.r,.l,.l,.r,.r,.l] (LK funcTab D n 168 [.r,.l,.r,.l] m K))) x0 x1 x2 x3:=by kernel_rfl
theorem spec_l19Places_EL0 (D:DX)(n:Nat) (K:Ex→St→Option (Out ctx 168)):∀ (m:Nat) (x0:List Int) (x1:Int) (x2:Int) (x3:tSch),LQ funcTab D n 168 [.r,.l,.r,.l] m (spec_l19Places_Q0 x0 x1 x2 x3) K=spec_l19Places_L0 D n (fun v0_0 v0_1 v0_2=>K (Ex.ret) (spec_l19Places_Q0_0 v0_0 v0_1 v0_2)) (fun v1_0 v1_1=>K (Ex.exit 0) (spec_l19Places_Q0_1 v1_0 v1_1)) m x0 x1 x2 x3
  | 0,x0,x1,x2,x3=>LQ_zero ..
  | m+1,x0,x1,x2,x3=>by
    have ih:(fun x0 x1 x2 x3=>LQ funcTab D n 168 [.r,.l,.r,.l] m (spec_l19Places_Q0 x0 x1 x2 x3) K)=spec_l19Places_L0 D n (fun v0_0 v0_1 v0_2=>K (Ex.ret) (spec_l19Places_Q0_0 v0_0 v0_1 v0_2)) (fun v1_0 v1_1=>K (Ex.exit 0) (spec_l19Places_Q0_1 v1_0 v1_1)) m:=by funext x0 x1 x2 x3;exact spec_l19Places_EL0 D n K m x0 x1 x2 x3
    rw[spec_l19Places_SB0]
    simp only[spec_l19Places_ELP1]
    rw[ih];rfl
theorem spec_l19Places_X0_0 (D:DX)(n:Nat) (v0_0:List Int) (v0_1:Int) (v0_2:Bool) :
  (CQ funcTab D n 168 [] [.r,.l,.r,.l] (lastK funcTab 168)) (Ex.ret) (spec_l19Places_Q0_0 v0_0 v0_1 v0_2)=spec_l19Places_x0_0 D n v0_0 v0_1 v0_2:=by kernel_rfl
theorem spec_l19Places_X0_1 (D:DX)(n:Nat) (v1_0:List Int) (v1_1:Int) :
  (CQ funcTab D n 168 [] [.r,.l,.r,.l] (lastK funcTab 168)) (Ex.exit 0) (spec_l19Places_Q0_1 v1_0 v1_1)=spec_l19Places_x0_1 D n v1_0 v1_1:=by kernel_rfl
theorem spec_l19Places_ELP0 (D:DX)(n:Nat) (x0:List Int) (x1:Int) (x2:Int) (x3:tSch) :
  LQ funcTab D n 168 [.r,.l,.r,.l] n (spec_l19Places_Q0 x0 x1 x2 x3) (CQ funcTab D n 168 [] [.r,.l,.r,.l] (lastK funcTab 168))=spec_l19Places_LP0 D n x0 x1 x2 x3:=by
  rw[spec_l19Places_EL0]
  simp only[spec_l19Places_X0_0,spec_l19Places_X0_1]
  rfl
theorem E_spec_l19Places (D:DX)(n:Nat) (a0:tSch) (a1:List Int) (a2:Int):rfC funcTab D n 168 (a0,(a1,(a2,())))=F_spec_l19Places D n a0 a1 a2:=by
  have h:rfC funcTab D n 168 (a0,(a1,(a2,())))=spec_l19Places_e D n (fun x0 x1 x2 x3=>LQ funcTab D n 168 [.r,.l,.r,.l] n (spec_l19Places_Q0 x0 x1 x2 x3) (CQ funcTab D n 168 [] [.r,.l,.r,.l] (lastK funcTab 168))) a0 a1 a2:=by kernel_rfl
  rw[h]
  simp only[spec_l19Places_ELP0]
  rfl

def spec_l19Indexes_b1 (D:DX)(n:Nat) (go:Int→Int→tSch→ByteArray×List Int×Bool×Unit→Option ((Bool×Unit)×Unit)) (K0:Bool→Int→tSch→Option ((Bool×Unit)×Unit)) (K1:Int→tSch→Option ((Bool×Unit)×Unit)) (x1_0:Int) (x1_1:Int) (x1_2:tSch) (x1_3:ByteArray×List Int×Bool×Unit):Option ((Bool×Unit)×Unit):=br (decide (x1_1<x1_0)) (br (decide (0≤x1_1)&&decide (x1_1<(↑(List.length (Prod.fst (Prod.snd (Prod.snd x1_2)))):Int))) (br (List.beq (ByteArray.toList (Prod.fst (List.getD (Prod.fst (Prod.snd (Prod.snd x1_2))) (Int.toNat x1_1) (ByteArray.empty,[],false,())))) (ByteArray.toList (Prod.fst x1_3))) (K0 false x1_0 x1_2) (go x1_0 (IntKind.wrap IntKind.i64 (x1_1+1)) x1_2 x1_3)) none) (K1 x1_0 x1_2)
def spec_l19Indexes_L1 (D:DX)(n:Nat) (K0:Bool→Int→tSch→Option ((Bool×Unit)×Unit)) (K1:Int→tSch→Option ((Bool×Unit)×Unit)):Nat→(Int)→(Int)→(tSch)→tIx→Option ((Bool×Unit)×Unit) | 0=>(fun x1_0 x1_1 x1_2 x1_3=>none) | m+1=>(fun x1_0 x1_1 x1_2 x1_3=>spec_l19Indexes_b1 D n (spec_l19Indexes_L1 D n K0 K1 m) K0 K1 x1_0 x1_1 x1_2 x1_3)
def spec_l19Indexes_x1_0 (D:DX)(n:Nat) (go:Int→tSch→Option ((Bool×Unit)×Unit)) (K0:Bool→tSch→Option ((Bool×Unit)×Unit)) (K1:tSch→Option ((Bool×Unit)×Unit)) (v0_0:Bool) (v0_1:Int) (v0_2:tSch):Option ((Bool×Unit)×Unit):=K0 v0_0 v0_2
def spec_l19Indexes_x1_1 (D:DX)(n:Nat) (go:Int→tSch→Option ((Bool×Unit)×Unit)) (K0:Bool→tSch→Option ((Bool×Unit)×Unit)) (K1:tSch→Option ((Bool×Unit)×Unit)) (v1_0:Int) (v1_1:tSch):Option ((Bool×Unit)×Unit):=go (IntKind.wrap IntKind.i64 (v1_0+1)) v1_1
def spec_l19Indexes_LP1 (D:DX)(n:Nat) (go:Int→tSch→Option ((Bool×Unit)×Unit)) (K0:Bool→tSch→Option ((Bool×Unit)×Unit)) (K1:tSch→Option ((Bool×Unit)×Unit)):(Int)→(Int)→(tSch)→tIx→Option ((Bool×Unit)×Unit):=(fun x1_0 x1_1 x1_2 x1_3=>spec_l19Indexes_L1 D n (fun v0_0 v0_1 v0_2=>spec_l19Indexes_x1_0 D n go K0 K1 v0_0 v0_1 v0_2) (fun v1_0 v1_1=>spec_l19Indexes_x1_1 D n go K0 K1 v1_0 v1_1) n x1_0 x1_1 x1_2 x1_3)
def spec_l19Indexes_b0 (D:DX)(n:Nat) (go:Int→tSch→Option ((Bool×Unit)×Unit)) (K0:Bool→tSch→Option ((Bool×Unit)×Unit)) (K1:tSch→Option ((Bool×Unit)×Unit)) (lp1:Int→Int→tSch→ByteArray×List Int×Bool×Unit→Option ((Bool×Unit)×Unit)) (x0:Int) (x1:tSch):Option ((Bool×Unit)×Unit):=br (decide (x0<(↑(List.length (Prod.fst (Prod.snd (Prod.snd x1)))):Int))) (br (decide (0≤x0)&&decide (x0<(↑(List.length (Prod.fst (Prod.snd (Prod.snd x1)))):Int))) (bindD (C_spec_ColNameOk D (Prod.fst (List.getD (Prod.fst (Prod.snd (Prod.snd x1))) (Int.toNat x0) (ByteArray.empty,[],false,())))) fun b↦br (!Prod.fst (Prod.fst b)) (K0 false x1) (bindD (C_spec_l19Places D x1 (Prod.fst (Prod.snd (List.getD (Prod.fst (Prod.snd (Prod.snd x1))) (Int.toNat x0) (ByteArray.empty,[],false,())))) 3) fun b↦br (!Prod.fst (Prod.fst b)) (K0 false x1) (lp1 x0 0 x1 (List.getD (Prod.fst (Prod.snd (Prod.snd x1))) (Int.toNat x0) (ByteArray.empty,[],false,()))))) none) (K1 x1)
def spec_l19Indexes_L0 (D:DX)(n:Nat) (K0:Bool→tSch→Option ((Bool×Unit)×Unit)) (K1:tSch→Option ((Bool×Unit)×Unit)):Nat→(Int)→(tSch)→Option ((Bool×Unit)×Unit) | 0=>(fun x0 x1=>none) | m+1=>(fun x0 x1=>spec_l19Indexes_b0 D n (spec_l19Indexes_L0 D n K0 K1 m) K0 K1 (spec_l19Indexes_LP1 D n (spec_l19Indexes_L0 D n K0 K1 m) K0 K1) x0 x1)
def spec_l19Indexes_x0_0 (D:DX)(n:Nat) (v0_0:Bool) (v0_1:tSch):Option ((Bool×Unit)×Unit):=some ((v0_0,()),())
def spec_l19Indexes_x0_1 (D:DX)(n:Nat) (v1_0:tSch):Option ((Bool×Unit)×Unit):=some ((decide ((↑(List.length (Prod.fst (Prod.snd (Prod.snd v1_0)))):Int)≤3),()),())
def spec_l19Indexes_LP0 (D:DX)(n:Nat):(Int)→(tSch)→Option ((Bool×Unit)×Unit):=(fun x0 x1=>spec_l19Indexes_L0 D n (fun v0_0 v0_1=>spec_l19Indexes_x0_0 D n v0_0 v0_1) (fun v1_0=>spec_l19Indexes_x0_1 D n v1_0) n x0 x1)
def spec_l19Indexes_e (D:DX)(n:Nat) (lp0:Int→tSch→Option ((Bool×Unit)×Unit)) (a0:tSch):Option ((Bool×Unit)×Unit):=lp0 0 a0
def F_spec_l19Indexes (D:DX)(n:Nat) (a0:tSch):Option ((Bool×Unit)×Unit):=spec_l19Indexes_e D n (spec_l19Indexes_LP0 D n) a0
def spec_l19Indexes_Q0 (x0:Int) (x1:tSch):St:=stq 47 [(1,AV.addr 1 []),(3,avI x0)] [(1,Root.mk yS Mk.no x1 true)] 
def spec_l19Indexes_Q0_0 (v0_0:Bool) (v0_1:tSch):St:=stq 47 [(1,AV.addr 1 []),(2,AV.val Ty.bool v0_0)] [(1,Root.mk yS Mk.no v0_1 true)] 
def spec_l19Indexes_Q0_1 (v1_0:tSch):St:=stq 47 [(1,AV.addr 1 [])] [(1,Root.mk yS Mk.no v1_0 true)] 
def spec_l19Indexes_Q1 (x1_0:Int) (x1_1:Int) (x1_2:tSch) (x1_3:ByteArray×List Int×Bool×Unit):St:=stq 47 [(1,AV.addr 1 []),(3,avI x1_0),(4,AV.addr 4 []),(5,avI x1_1)] [(1,Root.mk yS Mk.no x1_2 true),(4,Root.mk yX Mk.no x1_3 true)] 
def spec_l19Indexes_Q1_0 (v0_0:Bool) (v0_1:Int) (v0_2:tSch):St:=stq 47 [(1,AV.addr 1 []),(2,AV.val Ty.bool v0_0),(3,avI v0_1)] [(1,Root.mk yS Mk.no v0_2 true)] 
def spec_l19Indexes_Q1_1 (v1_0:Int) (v1_1:tSch):St:=stq 47 [(1,AV.addr 1 []),(3,avI v1_0)] [(1,Root.mk yS Mk.no v1_1 true)] 
theorem spec_l19Indexes_SB1 (D:DX)(n:Nat) (m:Nat) (K:Ex→St→Option (Out ctx 169)) (x1_0:Int) (x1_1:Int) (x1_2:tSch) (x1_3:ByteArray×List Int×Bool×Unit) :
  LQ funcTab D n 169 [.r,.l,.r,.l,.l,.r,.l,.l,.r,.r,.r,.l] (m+1) (spec_l19Indexes_Q1 x1_0 x1_1 x1_2 x1_3) K=spec_l19Indexes_b1 D n (fun x1_0 x1_1 x1_2 x1_3=>LQ funcTab D n 169 [.r,.l,.r,.l,.l,.r,.l,.l,.r,.r,.r,.l] m (spec_l19Indexes_Q1 x1_0 x1_1 x1_2 x1_3) K) (fun v0_0 v0_1 v0_2=>K (Ex.ret) (spec_l19Indexes_Q1_0 v0_0 v0_1 v0_2)) (fun v1_0 v1_1=>K (Ex.exit 2) (spec_l19Indexes_Q1_1 v1_0 v1_1)) x1_0 x1_1 x1_2 x1_3:=by kernel_rfl
theorem spec_l19Indexes_EL1 (D:DX)(n:Nat) (K:Ex→St→Option (Out ctx 169)):∀ (m:Nat) (x1_0:Int) (x1_1:Int) (x1_2:tSch) (x1_3:ByteArray×List Int×Bool×Unit),LQ funcTab D n 169 [.r,.l,.r,.l,.l,.r,.l,.l,.r,.r,.r,.l] m (spec_l19Indexes_Q1 x1_0 x1_1 x1_2 x1_3) K=spec_l19Indexes_L1 D n (fun v0_0 v0_1 v0_2=>K (Ex.ret) (spec_l19Indexes_Q1_0 v0_0 v0_1 v0_2)) (fun v1_0 v1_1=>K (Ex.exit 2) (spec_l19Indexes_Q1_1 v1_0 v1_1)) m x1_0 x1_1 x1_2 x1_3
  | 0,x1_0,x1_1,x1_2,x1_3=>LQ_zero ..
  | m+1,x1_0,x1_1,x1_2,x1_3=>by
    have ih:(fun x1_0 x1_1 x1_2 x1_3=>LQ funcTab D n 169 [.r,.l,.r,.l,.l,.r,.l,.l,.r,.r,.r,.l] m (spec_l19Indexes_Q1 x1_0 x1_1 x1_2 x1_3) K)=spec_l19Indexes_L1 D n (fun v0_0 v0_1 v0_2=>K (Ex.ret) (spec_l19Indexes_Q1_0 v0_0 v0_1 v0_2)) (fun v1_0 v1_1=>K (Ex.exit 2) (spec_l19Indexes_Q1_1 v1_0 v1_1)) m:=by funext x1_0 x1_1 x1_2 x1_3;exact spec_l19Indexes_EL1 D n K m x1_0 x1_1 x1_2 x1_3
    rw[spec_l19Indexes_SB1]
    rw[ih];rfl
theorem spec_l19Indexes_X1_0 (D:DX)(n:Nat) (m:Nat) (K:Ex→St→Option (Out ctx 169)) (v0_0:Bool) (v0_1:Int) (v0_2:tSch) :
  (CQ funcTab D n 169 [.r,.l,.r,.l,.l] [.r,.l,.l,.r,.r,.r,.l] (LK funcTab D n 169 [.r,.l,.r,.l] m K)) (Ex.ret) (spec_l19Indexes_Q1_0 v0_0 v0_1 v0_2)=spec_l19Indexes_x1_0 D n (fun x0 x1=>LQ funcTab D n 169 [.r,.l,.r,.l] m (spec_l19Indexes_Q0 x0 x1) K) (fun v0_0 v0_1=>K (Ex.ret) (spec_l19Indexes_Q0_0 v0_0 v0_1)) (fun v1_0=>K (Ex.exit 0) (spec_l19Indexes_Q0_1 v1_0)) v0_0 v0_1 v0_2:=by kernel_rfl
theorem spec_l19Indexes_X1_1 (D:DX)(n:Nat) (m:Nat) (K:Ex→St→Option (Out ctx 169)) (v1_0:Int) (v1_1:tSch) :
  (CQ funcTab D n 169 [.r,.l,.r,.l,.l] [.r,.l,.l,.r,.r,.r,.l] (LK funcTab D n 169 [.r,.l,.r,.l] m K)) (Ex.exit 2) (spec_l19Indexes_Q1_1 v1_0 v1_1)=spec_l19Indexes_x1_1 D n (fun x0 x1=>LQ funcTab D n 169 [.r,.l,.r,.l] m (spec_l19Indexes_Q0 x0 x1) K) (fun v0_0 v0_1=>K (Ex.ret) (spec_l19Indexes_Q0_0 v0_0 v0_1)) (fun v1_0=>K (Ex.exit 0) (spec_l19Indexes_Q0_1 v1_0)) v1_0 v1_1:=by kernel_rfl
theorem spec_l19Indexes_ELP1 (D:DX)(n:Nat) (m:Nat) (K:Ex→St→Option (Out ctx 169)) (x1_0:Int) (x1_1:Int) (x1_2:tSch) (x1_3:ByteArray×List Int×Bool×Unit) :
  LQ funcTab D n 169 [.r,.l,.r,.l,.l,.r,.l,.l,.r,.r,.r,.l] n (spec_l19Indexes_Q1 x1_0 x1_1 x1_2 x1_3) (CQ funcTab D n 169 [.r,.l,.r,.l,.l] [.r,.l,.l,.r,.r,.r,.l] (LK funcTab D n 169 [.r,.l,.r,.l] m K))=spec_l19Indexes_LP1 D n (fun x0 x1=>LQ funcTab D n 169 [.r,.l,.r,.l] m (spec_l19Indexes_Q0 x0 x1) K) (fun v0_0 v0_1=>K (Ex.ret) (spec_l19Indexes_Q0_0 v0_0 v0_1)) (fun v1_0=>K (Ex.exit 0) (spec_l19Indexes_Q0_1 v1_0)) x1_0 x1_1 x1_2 x1_3:=by
  rw[spec_l19Indexes_EL1]
  simp only[spec_l19Indexes_X1_0,spec_l19Indexes_X1_1]
  rfl
theorem spec_l19Indexes_SB0 (D:DX)(n:Nat) (m:Nat) (K:Ex→St→Option (Out ctx 169)) (x0:Int) (x1:tSch) :
  LQ funcTab D n 169 [.r,.l,.r,.l] (m+1) (spec_l19Indexes_Q0 x0 x1) K=spec_l19Indexes_b0 D n (fun x0 x1=>LQ funcTab D n 169 [.r,.l,.r,.l] m (spec_l19Indexes_Q0 x0 x1) K) (fun v0_0 v0_1=>K (Ex.ret) (spec_l19Indexes_Q0_0 v0_0 v0_1)) (fun v1_0=>K (Ex.exit 0) (spec_l19Indexes_Q0_1 v1_0)) (fun x1_0 x1_1 x1_2 x1_3=>LQ funcTab D n 169 [.r,.l,.r,.l,.l,.r,.l,.l,.r,.r,.r,.l] n (spec_l19Indexes_Q1 x1_0 x1_1 x1_2 x1_3) (CQ funcTab D n 169 [.r,.l,.r,.l,.l] [.r,.l,.l,.r,.r,.r,.l] (LK funcTab D n 169 [.r,.l,.r,.l] m K))) x0 x1:=by kernel_rfl
theorem spec_l19Indexes_EL0 (D:DX)(n:Nat) (K:Ex→St→Option (Out ctx 169)):∀ (m:Nat) (x0:Int) (x1:tSch),LQ funcTab D n 169 [.r,.l,.r,.l] m (spec_l19Indexes_Q0 x0 x1) K=spec_l19Indexes_L0 D n (fun v0_0 v0_1=>K (Ex.ret) (spec_l19Indexes_Q0_0 v0_0 v0_1)) (fun v1_0=>K (Ex.exit 0) (spec_l19Indexes_Q0_1 v1_0)) m x0 x1
  | 0,x0,x1=>LQ_zero ..
  | m+1,x0,x1=>by
    have ih:(fun x0 x1=>LQ funcTab D n 169 [.r,.l,.r,.l] m (spec_l19Indexes_Q0 x0 x1) K)=spec_l19Indexes_L0 D n (fun v0_0 v0_1=>K (Ex.ret) (spec_l19Indexes_Q0_0 v0_0 v0_1)) (fun v1_0=>K (Ex.exit 0) (spec_l19Indexes_Q0_1 v1_0)) m:=by funext x0 x1;exact spec_l19Indexes_EL0 D n K m x0 x1
    rw[spec_l19Indexes_SB0]
    simp only[spec_l19Indexes_ELP1]
    rw[ih];rfl
theorem spec_l19Indexes_X0_0 (D:DX)(n:Nat) (v0_0:Bool) (v0_1:tSch) :
  (CQ funcTab D n 169 [] [.r,.l,.r,.l] (lastK funcTab 169)) (Ex.ret) (spec_l19Indexes_Q0_0 v0_0 v0_1)=spec_l19Indexes_x0_0 D n v0_0 v0_1:=by kernel_rfl
theorem spec_l19Indexes_X0_1 (D:DX)(n:Nat) (v1_0:tSch) :
  (CQ funcTab D n 169 [] [.r,.l,.r,.l] (lastK funcTab 169)) (Ex.exit 0) (spec_l19Indexes_Q0_1 v1_0)=spec_l19Indexes_x0_1 D n v1_0:=by kernel_rfl
theorem spec_l19Indexes_ELP0 (D:DX)(n:Nat) (x0:Int) (x1:tSch) :
  LQ funcTab D n 169 [.r,.l,.r,.l] n (spec_l19Indexes_Q0 x0 x1) (CQ funcTab D n 169 [] [.r,.l,.r,.l] (lastK funcTab 169))=spec_l19Indexes_LP0 D n x0 x1:=by
  rw[spec_l19Indexes_EL0]
  simp only[spec_l19Indexes_X0_0,spec_l19Indexes_X0_1]
  rfl
theorem E_spec_l19Indexes (D:DX)(n:Nat) (a0:tSch):rfC funcTab D n 169 (a0,())=F_spec_l19Indexes D n a0:=by
  have h:rfC funcTab D n 169 (a0,())=spec_l19Indexes_e D n (fun x0 x1=>LQ funcTab D n 169 [.r,.l,.r,.l] n (spec_l19Indexes_Q0 x0 x1) (CQ funcTab D n 169 [] [.r,.l,.r,.l] (lastK funcTab 169))) a0:=by kernel_rfl
  rw[h]
  simp only[spec_l19Indexes_ELP0]
  rfl

def laws_szColS_b0 (D:DX)(n:Nat) (go:tCols→Int→Int→Option ((Int×Unit)×Unit)) (K0:Int→Int→Option ((Int×Unit)×Unit)) (K1:Int→Option ((Int×Unit)×Unit)) (x0:tCols) (x1:Int) (x2:Int):Option ((Int×Unit)×Unit):=br (decide (x2<(↑(List.length x0):Int))) (br (decide (0≤x2)&&decide (x2<(↑(List.length x0):Int))) (bindD (C_laws_szCol D (List.getD x0 (Int.toNat x2) (ByteArray.empty,0,false,())) x1) fun b↦br (decide (Prod.fst (Prod.fst b)<0)) (K0 (Prod.fst (Prod.fst b)) (-1)) (go x0 (Prod.fst (Prod.fst b)) (IntKind.wrap IntKind.i64 (x2+1)))) none) (K1 x1)
def laws_szColS_L0 (D:DX)(n:Nat) (K0:Int→Int→Option ((Int×Unit)×Unit)) (K1:Int→Option ((Int×Unit)×Unit)):Nat→(tCols)→(Int)→(Int)→Option ((Int×Unit)×Unit) | 0=>(fun x0 x1 x2=>none) | m+1=>(fun x0 x1 x2=>laws_szColS_b0 D n (laws_szColS_L0 D n K0 K1 m) K0 K1 x0 x1 x2)
def laws_szColS_x0_0 (D:DX)(n:Nat) (v0_0:Int) (v0_1:Int):Option ((Int×Unit)×Unit):=some ((v0_1,()),())
def laws_szColS_x0_1 (D:DX)(n:Nat) (v1_0:Int):Option ((Int×Unit)×Unit):=some ((v1_0,()),())
def laws_szColS_LP0 (D:DX)(n:Nat):(tCols)→(Int)→(Int)→Option ((Int×Unit)×Unit):=(fun x0 x1 x2=>laws_szColS_L0 D n (fun v0_0 v0_1=>laws_szColS_x0_0 D n v0_0 v0_1) (fun v1_0=>laws_szColS_x0_1 D n v1_0) n x0 x1 x2)
def laws_szColS_e (D:DX)(n:Nat) (lp0:tCols→Int→Int→Option ((Int×Unit)×Unit)) (a0:tCols) (a1:Int):Option ((Int×Unit)×Unit):=br (decide (IntKind.wrap IntKind.i64 (a1 - (↑(List.length a0):Int))<0)) (some ((-1,()),())) (lp0 a0 (IntKind.wrap IntKind.i64 (a1 - (↑(List.length a0):Int))) 0)
def F_laws_szColS (D:DX)(n:Nat) (a0:tCols) (a1:Int):Option ((Int×Unit)×Unit):=laws_szColS_e D n (laws_szColS_LP0 D n) a0 a1
def laws_szColS_Q0 (x0:tCols) (x1:Int) (x2:Int):St:=stq 27 [(0,AV.val (Ty.sl yC) x0),(1,avI x1),(5,avI x2)] [] 
def laws_szColS_Q0_0 (v0_0:Int) (v0_1:Int):St:=stq 27 [(1,avI v0_0),(4,avI v0_1)] [] 
def laws_szColS_Q0_1 (v1_0:Int):St:=stq 27 [(1,avI v1_0)] [] 
theorem laws_szColS_SB0 (D:DX)(n:Nat) (m:Nat) (K:Ex→St→Option (Out ctx 174)) (x0:tCols) (x1:Int) (x2:Int) :
  LQ funcTab D n 174 [.r,.r,.r,.l,.r,.l] (m+1) (laws_szColS_Q0 x0 x1 x2) K=laws_szColS_b0 D n (fun x0 x1 x2=>LQ funcTab D n 174 [.r,.r,.r,.l,.r,.l] m (laws_szColS_Q0 x0 x1 x2) K) (fun v0_0 v0_1=>K (Ex.ret) (laws_szColS_Q0_0 v0_0 v0_1)) (fun v1_0=>K (Ex.exit 0) (laws_szColS_Q0_1 v1_0)) x0 x1 x2:=by kernel_rfl
theorem laws_szColS_EL0 (D:DX)(n:Nat) (K:Ex→St→Option (Out ctx 174)):∀ (m:Nat) (x0:tCols) (x1:Int) (x2:Int),LQ funcTab D n 174 [.r,.r,.r,.l,.r,.l] m (laws_szColS_Q0 x0 x1 x2) K=laws_szColS_L0 D n (fun v0_0 v0_1=>K (Ex.ret) (laws_szColS_Q0_0 v0_0 v0_1)) (fun v1_0=>K (Ex.exit 0) (laws_szColS_Q0_1 v1_0)) m x0 x1 x2
  | 0,x0,x1,x2=>LQ_zero ..
  | m+1,x0,x1,x2=>by
    have ih:(fun x0 x1 x2=>LQ funcTab D n 174 [.r,.r,.r,.l,.r,.l] m (laws_szColS_Q0 x0 x1 x2) K)=laws_szColS_L0 D n (fun v0_0 v0_1=>K (Ex.ret) (laws_szColS_Q0_0 v0_0 v0_1)) (fun v1_0=>K (Ex.exit 0) (laws_szColS_Q0_1 v1_0)) m:=by funext x0 x1 x2;exact laws_szColS_EL0 D n K m x0 x1 x2
    rw[laws_szColS_SB0]
    rw[ih];rfl
theorem laws_szColS_X0_0 (D:DX)(n:Nat) (v0_0:Int) (v0_1:Int) :
  (CQ funcTab D n 174 [] [.r,.r,.r,.l,.r,.l] (lastK funcTab 174)) (Ex.ret) (laws_szColS_Q0_0 v0_0 v0_1)=laws_szColS_x0_0 D n v0_0 v0_1:=by kernel_rfl
theorem laws_szColS_X0_1 (D:DX)(n:Nat) (v1_0:Int) :
  (CQ funcTab D n 174 [] [.r,.r,.r,.l,.r,.l] (lastK funcTab 174)) (Ex.exit 0) (laws_szColS_Q0_1 v1_0)=laws_szColS_x0_1 D n v1_0:=by kernel_rfl
theorem laws_szColS_ELP0 (D:DX)(n:Nat) (x0:tCols) (x1:Int) (x2:Int) :
  LQ funcTab D n 174 [.r,.r,.r,.l,.r,.l] n (laws_szColS_Q0 x0 x1 x2) (CQ funcTab D n 174 [] [.r,.r,.r,.l,.r,.l] (lastK funcTab 174))=laws_szColS_LP0 D n x0 x1 x2:=by
  rw[laws_szColS_EL0]
  simp only[laws_szColS_X0_0,laws_szColS_X0_1]
  rfl
theorem E_laws_szColS (D:DX)(n:Nat) (a0:tCols) (a1:Int):rfC funcTab D n 174 (a0,(a1,()))=F_laws_szColS D n a0 a1:=by
  have h:rfC funcTab D n 174 (a0,(a1,()))=laws_szColS_e D n (fun x0 x1 x2=>LQ funcTab D n 174 [.r,.r,.r,.l,.r,.l] n (laws_szColS_Q0 x0 x1 x2) (CQ funcTab D n 174 [] [.r,.r,.r,.l,.r,.l] (lastK funcTab 174))) a0 a1:=by kernel_rfl
  rw[h]
  simp only[laws_szColS_ELP0]
  rfl

def laws_szIntS_e (D:DX)(n:Nat) (a0:List Int) (a1:Int):Option ((Int×Unit)×Unit):=br (decide (IntKind.wrap IntKind.i64 (a1 - (↑(List.length a0):Int))<0)) (some ((-1,()),())) (some ((IntKind.wrap IntKind.i64 (a1 - (↑(List.length a0):Int)),()),()))
def F_laws_szIntS (D:DX)(n:Nat) (a0:List Int) (a1:Int):Option ((Int×Unit)×Unit):=laws_szIntS_e D n a0 a1
theorem E_laws_szIntS (D:DX)(n:Nat) (a0:List Int) (a1:Int):rfC funcTab D n 175 (a0,(a1,()))=F_laws_szIntS D n a0 a1:=by kernel_rfl

def laws_szIndexS_b0 (D:DX)(n:Nat) (go:tIxs→Int→Int→Option ((Int×Unit)×Unit)) (K0:Int→Int→Option ((Int×Unit)×Unit)) (K1:Int→Option ((Int×Unit)×Unit)) (x0:tIxs) (x1:Int) (x2:Int):Option ((Int×Unit)×Unit):=br (decide (x2<(↑(List.length x0):Int))) (br (decide (0≤x2)&&decide (x2<(↑(List.length x0):Int))) (bindD (C_laws_szIndex D (List.getD x0 (Int.toNat x2) (ByteArray.empty,[],false,())) x1) fun b↦br (decide (Prod.fst (Prod.fst b)<0)) (K0 (Prod.fst (Prod.fst b)) (-1)) (go x0 (Prod.fst (Prod.fst b)) (IntKind.wrap IntKind.i64 (x2+1)))) none) (K1 x1)
def laws_szIndexS_L0 (D:DX)(n:Nat) (K0:Int→Int→Option ((Int×Unit)×Unit)) (K1:Int→Option ((Int×Unit)×Unit)):Nat→(tIxs)→(Int)→(Int)→Option ((Int×Unit)×Unit) | 0=>(fun x0 x1 x2=>none) | m+1=>(fun x0 x1 x2=>laws_szIndexS_b0 D n (laws_szIndexS_L0 D n K0 K1 m) K0 K1 x0 x1 x2)
def laws_szIndexS_x0_0 (D:DX)(n:Nat) (v0_0:Int) (v0_1:Int):Option ((Int×Unit)×Unit):=some ((v0_1,()),())
def laws_szIndexS_x0_1 (D:DX)(n:Nat) (v1_0:Int):Option ((Int×Unit)×Unit):=some ((v1_0,()),())
def laws_szIndexS_LP0 (D:DX)(n:Nat):(tIxs)→(Int)→(Int)→Option ((Int×Unit)×Unit):=(fun x0 x1 x2=>laws_szIndexS_L0 D n (fun v0_0 v0_1=>laws_szIndexS_x0_0 D n v0_0 v0_1) (fun v1_0=>laws_szIndexS_x0_1 D n v1_0) n x0 x1 x2)
def laws_szIndexS_e (D:DX)(n:Nat) (lp0:tIxs→Int→Int→Option ((Int×Unit)×Unit)) (a0:tIxs) (a1:Int):Option ((Int×Unit)×Unit):=br (decide (IntKind.wrap IntKind.i64 (a1 - (↑(List.length a0):Int))<0)) (some ((-1,()),())) (lp0 a0 (IntKind.wrap IntKind.i64 (a1 - (↑(List.length a0):Int))) 0)
def F_laws_szIndexS (D:DX)(n:Nat) (a0:tIxs) (a1:Int):Option ((Int×Unit)×Unit):=laws_szIndexS_e D n (laws_szIndexS_LP0 D n) a0 a1
def laws_szIndexS_Q0 (x0:tIxs) (x1:Int) (x2:Int):St:=stq 27 [(0,AV.val (Ty.sl yX) x0),(1,avI x1),(5,avI x2)] [] 
def laws_szIndexS_Q0_0 (v0_0:Int) (v0_1:Int):St:=stq 27 [(1,avI v0_0),(4,avI v0_1)] [] 
def laws_szIndexS_Q0_1 (v1_0:Int):St:=stq 27 [(1,avI v1_0)] [] 
theorem laws_szIndexS_SB0 (D:DX)(n:Nat) (m:Nat) (K:Ex→St→Option (Out ctx 176)) (x0:tIxs) (x1:Int) (x2:Int) :
  LQ funcTab D n 176 [.r,.r,.r,.l,.r,.l] (m+1) (laws_szIndexS_Q0 x0 x1 x2) K=laws_szIndexS_b0 D n (fun x0 x1 x2=>LQ funcTab D n 176 [.r,.r,.r,.l,.r,.l] m (laws_szIndexS_Q0 x0 x1 x2) K) (fun v0_0 v0_1=>K (Ex.ret) (laws_szIndexS_Q0_0 v0_0 v0_1)) (fun v1_0=>K (Ex.exit 0) (laws_szIndexS_Q0_1 v1_0)) x0 x1 x2:=by kernel_rfl
theorem laws_szIndexS_EL0 (D:DX)(n:Nat) (K:Ex→St→Option (Out ctx 176)):∀ (m:Nat) (x0:tIxs) (x1:Int) (x2:Int),LQ funcTab D n 176 [.r,.r,.r,.l,.r,.l] m (laws_szIndexS_Q0 x0 x1 x2) K=laws_szIndexS_L0 D n (fun v0_0 v0_1=>K (Ex.ret) (laws_szIndexS_Q0_0 v0_0 v0_1)) (fun v1_0=>K (Ex.exit 0) (laws_szIndexS_Q0_1 v1_0)) m x0 x1 x2
  | 0,x0,x1,x2=>LQ_zero ..
  | m+1,x0,x1,x2=>by
    have ih:(fun x0 x1 x2=>LQ funcTab D n 176 [.r,.r,.r,.l,.r,.l] m (laws_szIndexS_Q0 x0 x1 x2) K)=laws_szIndexS_L0 D n (fun v0_0 v0_1=>K (Ex.ret) (laws_szIndexS_Q0_0 v0_0 v0_1)) (fun v1_0=>K (Ex.exit 0) (laws_szIndexS_Q0_1 v1_0)) m:=by funext x0 x1 x2;exact laws_szIndexS_EL0 D n K m x0 x1 x2
    rw[laws_szIndexS_SB0]
    rw[ih];rfl
theorem laws_szIndexS_X0_0 (D:DX)(n:Nat) (v0_0:Int) (v0_1:Int) :
  (CQ funcTab D n 176 [] [.r,.r,.r,.l,.r,.l] (lastK funcTab 176)) (Ex.ret) (laws_szIndexS_Q0_0 v0_0 v0_1)=laws_szIndexS_x0_0 D n v0_0 v0_1:=by kernel_rfl
theorem laws_szIndexS_X0_1 (D:DX)(n:Nat) (v1_0:Int) :
  (CQ funcTab D n 176 [] [.r,.r,.r,.l,.r,.l] (lastK funcTab 176)) (Ex.exit 0) (laws_szIndexS_Q0_1 v1_0)=laws_szIndexS_x0_1 D n v1_0:=by kernel_rfl
theorem laws_szIndexS_ELP0 (D:DX)(n:Nat) (x0:tIxs) (x1:Int) (x2:Int) :
  LQ funcTab D n 176 [.r,.r,.r,.l,.r,.l] n (laws_szIndexS_Q0 x0 x1 x2) (CQ funcTab D n 176 [] [.r,.r,.r,.l,.r,.l] (lastK funcTab 176))=laws_szIndexS_LP0 D n x0 x1 x2:=by
  rw[laws_szIndexS_EL0]
  simp only[laws_szIndexS_X0_0,laws_szIndexS_X0_1]
  rfl
theorem E_laws_szIndexS (D:DX)(n:Nat) (a0:tIxs) (a1:Int):rfC funcTab D n 176 (a0,(a1,()))=F_laws_szIndexS D n a0 a1:=by
  have h:rfC funcTab D n 176 (a0,(a1,()))=laws_szIndexS_e D n (fun x0 x1 x2=>LQ funcTab D n 176 [.r,.r,.r,.l,.r,.l] n (laws_szIndexS_Q0 x0 x1 x2) (CQ funcTab D n 176 [] [.r,.r,.r,.l,.r,.l] (lastK funcTab 176))) a0 a1:=by kernel_rfl
  rw[h]
  simp only[laws_szIndexS_ELP0]
  rfl

def laws_toColS_b0 (D:DX)(n:Nat) (go:tCols→Int→tCols→Option ((tCols×Unit)×Unit)) (K0:tCols→Option ((tCols×Unit)×Unit)) (x0:tCols) (x1:Int) (x2:tCols):Option ((tCols×Unit)×Unit):=br (decide (x1<(↑(List.length x0):Int))) (br (decide (0≤x1)&&decide (x1<(↑(List.length x0):Int))) (bindD (C_laws_toCol D (List.getD x0 (Int.toNat x1) (ByteArray.empty,0,false,()))) fun b↦br (decide (0≤x1)&&decide (x1<(↑(List.length x2):Int))) (go x0 (IntKind.wrap IntKind.i64 (x1+1)) (List.set x2 (Int.toNat x1) (Prod.fst (Prod.fst b)))) none) none) (K0 x2)
def laws_toColS_L0 (D:DX)(n:Nat) (K0:tCols→Option ((tCols×Unit)×Unit)):Nat→(tCols)→(Int)→(tCols)→Option ((tCols×Unit)×Unit) | 0=>(fun x0 x1 x2=>none) | m+1=>(fun x0 x1 x2=>laws_toColS_b0 D n (laws_toColS_L0 D n K0 m) K0 x0 x1 x2)
def laws_toColS_x0_0 (D:DX)(n:Nat) (v0_0:tCols):Option ((tCols×Unit)×Unit):=some ((v0_0,()),())
def laws_toColS_LP0 (D:DX)(n:Nat):(tCols)→(Int)→(tCols)→Option ((tCols×Unit)×Unit):=(fun x0 x1 x2=>laws_toColS_L0 D n (fun v0_0=>laws_toColS_x0_0 D n v0_0) n x0 x1 x2)
def laws_toColS_e (D:DX)(n:Nat) (lp0:tCols→Int→tCols→Option ((tCols×Unit)×Unit)) (a0:tCols):Option ((tCols×Unit)×Unit):=br (decide (0≤(↑(List.length a0):Int))&&decide ((↑(List.length a0):Int)≤(↑(List.length a0):Int))&&decide ((↑(List.length a0):Int)≤(↑bound:Int))) (lp0 a0 0 (List.replicate (Int.toNat (↑(List.length a0):Int)) (ByteArray.empty,0,false,()))) none
def F_laws_toColS (D:DX)(n:Nat) (a0:tCols):Option ((tCols×Unit)×Unit):=laws_toColS_e D n (laws_toColS_LP0 D n) a0
def laws_toColS_Q0 (x0:tCols) (x1:Int) (x2:tCols):St:=stq 23 [(0,AV.val (Ty.sl yC) x0),(3,AV.brw 3 [] 0),(4,avI x1)] [(3,Root.mk (Ty.sl yC) (Mk.own 0 (Mk.pr Mk.no (Mk.pr Mk.no (Mk.pr Mk.no Mk.no)))) x2 false)] 
def laws_toColS_Q0_0 (v0_0:tCols):St:=stq 23 [(3,AV.brw 3 [] 0)] [(3,Root.mk (Ty.sl yC) (Mk.own 0 (Mk.pr Mk.no (Mk.pr Mk.no (Mk.pr Mk.no Mk.no)))) v0_0 false)] 
theorem laws_toColS_SB0 (D:DX)(n:Nat) (m:Nat) (K:Ex→St→Option (Out ctx 177)) (x0:tCols) (x1:Int) (x2:tCols) :
  LQ funcTab D n 177 [.r,.r,.l,.r,.l] (m+1) (laws_toColS_Q0 x0 x1 x2) K=laws_toColS_b0 D n (fun x0 x1 x2=>LQ funcTab D n 177 [.r,.r,.l,.r,.l] m (laws_toColS_Q0 x0 x1 x2) K) (fun v0_0=>K (Ex.exit 0) (laws_toColS_Q0_0 v0_0)) x0 x1 x2:=by kernel_rfl
theorem laws_toColS_EL0 (D:DX)(n:Nat) (K:Ex→St→Option (Out ctx 177)):∀ (m:Nat) (x0:tCols) (x1:Int) (x2:tCols),LQ funcTab D n 177 [.r,.r,.l,.r,.l] m (laws_toColS_Q0 x0 x1 x2) K=laws_toColS_L0 D n (fun v0_0=>K (Ex.exit 0) (laws_toColS_Q0_0 v0_0)) m x0 x1 x2
  | 0,x0,x1,x2=>LQ_zero ..
  | m+1,x0,x1,x2=>by
    have ih:(fun x0 x1 x2=>LQ funcTab D n 177 [.r,.r,.l,.r,.l] m (laws_toColS_Q0 x0 x1 x2) K)=laws_toColS_L0 D n (fun v0_0=>K (Ex.exit 0) (laws_toColS_Q0_0 v0_0)) m:=by funext x0 x1 x2;exact laws_toColS_EL0 D n K m x0 x1 x2
    rw[laws_toColS_SB0]
    rw[ih];rfl
theorem laws_toColS_X0_0 (D:DX)(n:Nat) (v0_0:tCols) :
  (CQ funcTab D n 177 [] [.r,.r,.l,.r,.l] (lastK funcTab 177)) (Ex.exit 0) (laws_toColS_Q0_0 v0_0)=laws_toColS_x0_0 D n v0_0:=by kernel_rfl
theorem laws_toColS_ELP0 (D:DX)(n:Nat) (x0:tCols) (x1:Int) (x2:tCols) :
  LQ funcTab D n 177 [.r,.r,.l,.r,.l] n (laws_toColS_Q0 x0 x1 x2) (CQ funcTab D n 177 [] [.r,.r,.l,.r,.l] (lastK funcTab 177))=laws_toColS_LP0 D n x0 x1 x2:=by
  rw[laws_toColS_EL0]
  simp only[laws_toColS_X0_0]
  rfl
theorem E_laws_toColS (D:DX)(n:Nat) (a0:tCols):rfC funcTab D n 177 (a0,())=F_laws_toColS D n a0:=by
  have h:rfC funcTab D n 177 (a0,())=laws_toColS_e D n (fun x0 x1 x2=>LQ funcTab D n 177 [.r,.r,.l,.r,.l] n (laws_toColS_Q0 x0 x1 x2) (CQ funcTab D n 177 [] [.r,.r,.l,.r,.l] (lastK funcTab 177))) a0:=by kernel_rfl
  rw[h]
  simp only[laws_toColS_ELP0]
  rfl

def laws_toIntS_b0 (D:DX)(n:Nat) (go:List Int→Int→List Int→Option ((List Int×Unit)×Unit)) (K0:List Int→Option ((List Int×Unit)×Unit)) (x0:List Int) (x1:Int) (x2:List Int):Option ((List Int×Unit)×Unit):=br (decide (x1<(↑(List.length x0):Int))) (br (decide (0≤x1)&&decide (x1<(↑(List.length x0):Int))) (br (decide (0≤x1)&&decide (x1<(↑(List.length x2):Int))) (go x0 (IntKind.wrap IntKind.i64 (x1+1)) (List.set x2 (Int.toNat x1) (List.getD x0 (Int.toNat x1) 0))) none) none) (K0 x2)
def laws_toIntS_L0 (D:DX)(n:Nat) (K0:List Int→Option ((List Int×Unit)×Unit)):Nat→(List Int)→(Int)→(List Int)→Option ((List Int×Unit)×Unit) | 0=>(fun x0 x1 x2=>none) | m+1=>(fun x0 x1 x2=>laws_toIntS_b0 D n (laws_toIntS_L0 D n K0 m) K0 x0 x1 x2)
def laws_toIntS_x0_0 (D:DX)(n:Nat) (v0_0:List Int):Option ((List Int×Unit)×Unit):=some ((v0_0,()),())
def laws_toIntS_LP0 (D:DX)(n:Nat):(List Int)→(Int)→(List Int)→Option ((List Int×Unit)×Unit):=(fun x0 x1 x2=>laws_toIntS_L0 D n (fun v0_0=>laws_toIntS_x0_0 D n v0_0) n x0 x1 x2)
def laws_toIntS_e (D:DX)(n:Nat) (lp0:List Int→Int→List Int→Option ((List Int×Unit)×Unit)) (a0:List Int):Option ((List Int×Unit)×Unit):=br (decide (0≤(↑(List.length a0):Int))&&decide ((↑(List.length a0):Int)≤(↑(List.length a0):Int))&&decide ((↑(List.length a0):Int)≤(↑bound:Int))) (lp0 a0 0 (List.replicate (Int.toNat (↑(List.length a0):Int)) 0)) none
def F_laws_toIntS (D:DX)(n:Nat) (a0:List Int):Option ((List Int×Unit)×Unit):=laws_toIntS_e D n (laws_toIntS_LP0 D n) a0
def laws_toIntS_Q0 (x0:List Int) (x1:Int) (x2:List Int):St:=stq 22 [(0,AV.val (Ty.sl yI) x0),(3,AV.brw 3 [] 0),(4,avI x1)] [(3,Root.mk (Ty.sl yI) (Mk.own 0 Mk.no) x2 false)] 
def laws_toIntS_Q0_0 (v0_0:List Int):St:=stq 22 [(3,AV.brw 3 [] 0)] [(3,Root.mk (Ty.sl yI) (Mk.own 0 Mk.no) v0_0 false)] 
theorem laws_toIntS_SB0 (D:DX)(n:Nat) (m:Nat) (K:Ex→St→Option (Out ctx 178)) (x0:List Int) (x1:Int) (x2:List Int) :
  LQ funcTab D n 178 [.r,.r,.l,.r,.l] (m+1) (laws_toIntS_Q0 x0 x1 x2) K=laws_toIntS_b0 D n (fun x0 x1 x2=>LQ funcTab D n 178 [.r,.r,.l,.r,.l] m (laws_toIntS_Q0 x0 x1 x2) K) (fun v0_0=>K (Ex.exit 0) (laws_toIntS_Q0_0 v0_0)) x0 x1 x2:=by kernel_rfl
theorem laws_toIntS_EL0 (D:DX)(n:Nat) (K:Ex→St→Option (Out ctx 178)):∀ (m:Nat) (x0:List Int) (x1:Int) (x2:List Int),LQ funcTab D n 178 [.r,.r,.l,.r,.l] m (laws_toIntS_Q0 x0 x1 x2) K=laws_toIntS_L0 D n (fun v0_0=>K (Ex.exit 0) (laws_toIntS_Q0_0 v0_0)) m x0 x1 x2
  | 0,x0,x1,x2=>LQ_zero ..
  | m+1,x0,x1,x2=>by
    have ih:(fun x0 x1 x2=>LQ funcTab D n 178 [.r,.r,.l,.r,.l] m (laws_toIntS_Q0 x0 x1 x2) K)=laws_toIntS_L0 D n (fun v0_0=>K (Ex.exit 0) (laws_toIntS_Q0_0 v0_0)) m:=by funext x0 x1 x2;exact laws_toIntS_EL0 D n K m x0 x1 x2
    rw[laws_toIntS_SB0]
    rw[ih];rfl
theorem laws_toIntS_X0_0 (D:DX)(n:Nat) (v0_0:List Int) :
  (CQ funcTab D n 178 [] [.r,.r,.l,.r,.l] (lastK funcTab 178)) (Ex.exit 0) (laws_toIntS_Q0_0 v0_0)=laws_toIntS_x0_0 D n v0_0:=by kernel_rfl
theorem laws_toIntS_ELP0 (D:DX)(n:Nat) (x0:List Int) (x1:Int) (x2:List Int) :
  LQ funcTab D n 178 [.r,.r,.l,.r,.l] n (laws_toIntS_Q0 x0 x1 x2) (CQ funcTab D n 178 [] [.r,.r,.l,.r,.l] (lastK funcTab 178))=laws_toIntS_LP0 D n x0 x1 x2:=by
  rw[laws_toIntS_EL0]
  simp only[laws_toIntS_X0_0]
  rfl
theorem E_laws_toIntS (D:DX)(n:Nat) (a0:List Int):rfC funcTab D n 178 (a0,())=F_laws_toIntS D n a0:=by
  have h:rfC funcTab D n 178 (a0,())=laws_toIntS_e D n (fun x0 x1 x2=>LQ funcTab D n 178 [.r,.r,.l,.r,.l] n (laws_toIntS_Q0 x0 x1 x2) (CQ funcTab D n 178 [] [.r,.r,.l,.r,.l] (lastK funcTab 178))) a0:=by kernel_rfl
  rw[h]
  simp only[laws_toIntS_ELP0]
  rfl

def laws_toIndexS_b0 (D:DX)(n:Nat) (go:tIxs→Int→tIxs→Option ((tIxs×Unit)×Unit)) (K0:tIxs→Option ((tIxs×Unit)×Unit)) (x0:tIxs) (x1:Int) (x2:tIxs):Option ((tIxs×Unit)×Unit):=br (decide (x1<(↑(List.length x0):Int))) (br (decide (0≤x1)&&decide (x1<(↑(List.length x0):Int))) (bindD (C_laws_toIndex D (List.getD x0 (Int.toNat x1) (ByteArray.empty,[],false,()))) fun b↦br (decide (0≤x1)&&decide (x1<(↑(List.length x2):Int))) (go x0 (IntKind.wrap IntKind.i64 (x1+1)) (List.set x2 (Int.toNat x1) (Prod.fst (Prod.fst (Prod.fst b)),Prod.fst (Prod.snd (Prod.fst (Prod.fst b))),Prod.snd (Prod.snd (Prod.fst (Prod.fst b)))))) none) none) (K0 x2)
def laws_toIndexS_L0 (D:DX)(n:Nat) (K0:tIxs→Option ((tIxs×Unit)×Unit)):Nat→(tIxs)→(Int)→(tIxs)→Option ((tIxs×Unit)×Unit) | 0=>(fun x0 x1 x2=>none) | m+1=>(fun x0 x1 x2=>laws_toIndexS_b0 D n (laws_toIndexS_L0 D n K0 m) K0 x0 x1 x2)
def laws_toIndexS_x0_0 (D:DX)(n:Nat) (v0_0:tIxs):Option ((tIxs×Unit)×Unit):=some ((v0_0,()),())
def laws_toIndexS_LP0 (D:DX)(n:Nat):(tIxs)→(Int)→(tIxs)→Option ((tIxs×Unit)×Unit):=(fun x0 x1 x2=>laws_toIndexS_L0 D n (fun v0_0=>laws_toIndexS_x0_0 D n v0_0) n x0 x1 x2)
def laws_toIndexS_e (D:DX)(n:Nat) (lp0:tIxs→Int→tIxs→Option ((tIxs×Unit)×Unit)) (a0:tIxs):Option ((tIxs×Unit)×Unit):=br (decide (0≤(↑(List.length a0):Int))&&decide ((↑(List.length a0):Int)≤(↑(List.length a0):Int))&&decide ((↑(List.length a0):Int)≤(↑bound:Int))) (lp0 a0 0 (List.replicate (Int.toNat (↑(List.length a0):Int)) (ByteArray.empty,[],false,()))) none
def F_laws_toIndexS (D:DX)(n:Nat) (a0:tIxs):Option ((tIxs×Unit)×Unit):=laws_toIndexS_e D n (laws_toIndexS_LP0 D n) a0
def laws_toIndexS_Q0 (x0:tIxs) (x1:Int) (x2:tIxs):St:=stq 23 [(0,AV.val (Ty.sl yX) x0),(3,AV.brw 3 [] 0),(4,avI x1)] [(3,Root.mk (Ty.sl yX) (Mk.own 0 (Mk.pr Mk.no (Mk.pr (Mk.own 0 Mk.no) (Mk.pr Mk.no Mk.no)))) x2 false)] 
def laws_toIndexS_Q0_0 (v0_0:tIxs):St:=stq 23 [(3,AV.brw 3 [] 0)] [(3,Root.mk (Ty.sl yX) (Mk.own 0 (Mk.pr Mk.no (Mk.pr (Mk.own 0 Mk.no) (Mk.pr Mk.no Mk.no)))) v0_0 false)] 
theorem laws_toIndexS_SB0 (D:DX)(n:Nat) (m:Nat) (K:Ex→St→Option (Out ctx 179)) (x0:tIxs) (x1:Int) (x2:tIxs) :
  LQ funcTab D n 179 [.r,.r,.l,.r,.l] (m+1) (laws_toIndexS_Q0 x0 x1 x2) K=laws_toIndexS_b0 D n (fun x0 x1 x2=>LQ funcTab D n 179 [.r,.r,.l,.r,.l] m (laws_toIndexS_Q0 x0 x1 x2) K) (fun v0_0=>K (Ex.exit 0) (laws_toIndexS_Q0_0 v0_0)) x0 x1 x2:=by kernel_rfl
theorem laws_toIndexS_EL0 (D:DX)(n:Nat) (K:Ex→St→Option (Out ctx 179)):∀ (m:Nat) (x0:tIxs) (x1:Int) (x2:tIxs),LQ funcTab D n 179 [.r,.r,.l,.r,.l] m (laws_toIndexS_Q0 x0 x1 x2) K=laws_toIndexS_L0 D n (fun v0_0=>K (Ex.exit 0) (laws_toIndexS_Q0_0 v0_0)) m x0 x1 x2
  | 0,x0,x1,x2=>LQ_zero ..
  | m+1,x0,x1,x2=>by
    have ih:(fun x0 x1 x2=>LQ funcTab D n 179 [.r,.r,.l,.r,.l] m (laws_toIndexS_Q0 x0 x1 x2) K)=laws_toIndexS_L0 D n (fun v0_0=>K (Ex.exit 0) (laws_toIndexS_Q0_0 v0_0)) m:=by funext x0 x1 x2;exact laws_toIndexS_EL0 D n K m x0 x1 x2
    rw[laws_toIndexS_SB0]
    rw[ih];rfl
theorem laws_toIndexS_X0_0 (D:DX)(n:Nat) (v0_0:tIxs) :
  (CQ funcTab D n 179 [] [.r,.r,.l,.r,.l] (lastK funcTab 179)) (Ex.exit 0) (laws_toIndexS_Q0_0 v0_0)=laws_toIndexS_x0_0 D n v0_0:=by kernel_rfl
theorem laws_toIndexS_ELP0 (D:DX)(n:Nat) (x0:tIxs) (x1:Int) (x2:tIxs) :
  LQ funcTab D n 179 [.r,.r,.l,.r,.l] n (laws_toIndexS_Q0 x0 x1 x2) (CQ funcTab D n 179 [] [.r,.r,.l,.r,.l] (lastK funcTab 179))=laws_toIndexS_LP0 D n x0 x1 x2:=by
  rw[laws_toIndexS_EL0]
  simp only[laws_toIndexS_X0_0]
  rfl
theorem E_laws_toIndexS (D:DX)(n:Nat) (a0:tIxs):rfC funcTab D n 179 (a0,())=F_laws_toIndexS D n a0:=by
  have h:rfC funcTab D n 179 (a0,())=laws_toIndexS_e D n (fun x0 x1 x2=>LQ funcTab D n 179 [.r,.r,.l,.r,.l] n (laws_toIndexS_Q0 x0 x1 x2) (CQ funcTab D n 179 [] [.r,.r,.l,.r,.l] (lastK funcTab 179))) a0:=by kernel_rfl
  rw[h]
  simp only[laws_toIndexS_ELP0]
  rfl

def laws_eqColS_b0 (D:DX)(n:Nat) (go:tCols→tCols→Int→Option ((Bool×Unit)×Unit)) (K0:Bool→Option ((Bool×Unit)×Unit)) (K1:Option ((Bool×Unit)×Unit)) (x0:tCols) (x1:tCols) (x2:Int):Option ((Bool×Unit)×Unit):=br (decide (x2<(↑(List.length x0):Int))) (br (decide (0≤x2)&&decide (x2<(↑(List.length x0):Int))) (br (decide (0≤x2)&&decide (x2<(↑(List.length x1):Int))) (bindD (C_laws_eqCol D (List.getD x0 (Int.toNat x2) (ByteArray.empty,0,false,())) (List.getD x1 (Int.toNat x2) (ByteArray.empty,0,false,()))) fun b↦br (!Prod.fst (Prod.fst b)) (K0 false) (go x0 x1 (IntKind.wrap IntKind.i64 (x2+1)))) none) none) K1
def laws_eqColS_L0 (D:DX)(n:Nat) (K0:Bool→Option ((Bool×Unit)×Unit)) (K1:Option ((Bool×Unit)×Unit)):Nat→(tCols)→(tCols)→(Int)→Option ((Bool×Unit)×Unit) | 0=>(fun x0 x1 x2=>none) | m+1=>(fun x0 x1 x2=>laws_eqColS_b0 D n (laws_eqColS_L0 D n K0 K1 m) K0 K1 x0 x1 x2)
def laws_eqColS_x0_0 (D:DX)(n:Nat) (v0_0:Bool):Option ((Bool×Unit)×Unit):=some ((v0_0,()),())
def laws_eqColS_x0_1 (D:DX)(n:Nat):Option ((Bool×Unit)×Unit):=some ((true,()),())
def laws_eqColS_LP0 (D:DX)(n:Nat):(tCols)→(tCols)→(Int)→Option ((Bool×Unit)×Unit):=(fun x0 x1 x2=>laws_eqColS_L0 D n (fun v0_0=>laws_eqColS_x0_0 D n v0_0) (laws_eqColS_x0_1 D n) n x0 x1 x2)
def laws_eqColS_e (D:DX)(n:Nat) (lp0:tCols→tCols→Int→Option ((Bool×Unit)×Unit)) (a0:tCols) (a1:tCols):Option ((Bool×Unit)×Unit):=br ((↑(List.length a0):Int) != (↑(List.length a1):Int)) (some ((false,()),())) (lp0 a0 a1 0)
def F_laws_eqColS (D:DX)(n:Nat) (a0:tCols) (a1:tCols):Option ((Bool×Unit)×Unit):=laws_eqColS_e D n (laws_eqColS_LP0 D n) a0 a1
def laws_eqColS_Q0 (x0:tCols) (x1:tCols) (x2:Int):St:=stq 27 [(0,AV.val (Ty.sl yC) x0),(1,AV.val (Ty.sl yC) x1),(5,avI x2)] [] 
def laws_eqColS_Q0_0 (v0_0:Bool):St:=stq 27 [(4,AV.val Ty.bool v0_0)] [] 
def laws_eqColS_Q0_1:St:=stq 27 [] [] 
theorem laws_eqColS_SB0 (D:DX)(n:Nat) (m:Nat) (K:Ex→St→Option (Out ctx 180)) (x0:tCols) (x1:tCols) (x2:Int) :
  LQ funcTab D n 180 [.r,.r,.l,.r,.l] (m+1) (laws_eqColS_Q0 x0 x1 x2) K=laws_eqColS_b0 D n (fun x0 x1 x2=>LQ funcTab D n 180 [.r,.r,.l,.r,.l] m (laws_eqColS_Q0 x0 x1 x2) K) (fun v0_0=>K (Ex.ret) (laws_eqColS_Q0_0 v0_0)) (K (Ex.exit 0) (laws_eqColS_Q0_1)) x0 x1 x2:=by kernel_rfl
theorem laws_eqColS_EL0 (D:DX)(n:Nat) (K:Ex→St→Option (Out ctx 180)):∀ (m:Nat) (x0:tCols) (x1:tCols) (x2:Int),LQ funcTab D n 180 [.r,.r,.l,.r,.l] m (laws_eqColS_Q0 x0 x1 x2) K=laws_eqColS_L0 D n (fun v0_0=>K (Ex.ret) (laws_eqColS_Q0_0 v0_0)) (K (Ex.exit 0) (laws_eqColS_Q0_1)) m x0 x1 x2
  | 0,x0,x1,x2=>LQ_zero ..
  | m+1,x0,x1,x2=>by
    have ih:(fun x0 x1 x2=>LQ funcTab D n 180 [.r,.r,.l,.r,.l] m (laws_eqColS_Q0 x0 x1 x2) K)=laws_eqColS_L0 D n (fun v0_0=>K (Ex.ret) (laws_eqColS_Q0_0 v0_0)) (K (Ex.exit 0) (laws_eqColS_Q0_1)) m:=by funext x0 x1 x2;exact laws_eqColS_EL0 D n K m x0 x1 x2
    rw[laws_eqColS_SB0]
    rw[ih];rfl
theorem laws_eqColS_X0_0 (D:DX)(n:Nat) (v0_0:Bool) :
  (CQ funcTab D n 180 [] [.r,.r,.l,.r,.l] (lastK funcTab 180)) (Ex.ret) (laws_eqColS_Q0_0 v0_0)=laws_eqColS_x0_0 D n v0_0:=by kernel_rfl
theorem laws_eqColS_X0_1 (D:DX)(n:Nat) :
  (CQ funcTab D n 180 [] [.r,.r,.l,.r,.l] (lastK funcTab 180)) (Ex.exit 0) (laws_eqColS_Q0_1)=laws_eqColS_x0_1 D n:=by kernel_rfl
theorem laws_eqColS_ELP0 (D:DX)(n:Nat) (x0:tCols) (x1:tCols) (x2:Int) :
  LQ funcTab D n 180 [.r,.r,.l,.r,.l] n (laws_eqColS_Q0 x0 x1 x2) (CQ funcTab D n 180 [] [.r,.r,.l,.r,.l] (lastK funcTab 180))=laws_eqColS_LP0 D n x0 x1 x2:=by
  rw[laws_eqColS_EL0]
  simp only[laws_eqColS_X0_0,laws_eqColS_X0_1]
  rfl
theorem E_laws_eqColS (D:DX)(n:Nat) (a0:tCols) (a1:tCols):rfC funcTab D n 180 (a0,(a1,()))=F_laws_eqColS D n a0 a1:=by
  have h:rfC funcTab D n 180 (a0,(a1,()))=laws_eqColS_e D n (fun x0 x1 x2=>LQ funcTab D n 180 [.r,.r,.l,.r,.l] n (laws_eqColS_Q0 x0 x1 x2) (CQ funcTab D n 180 [] [.r,.r,.l,.r,.l] (lastK funcTab 180))) a0 a1:=by kernel_rfl
  rw[h]
  simp only[laws_eqColS_ELP0]
  rfl

def laws_eqIntS_b0 (D:DX)(n:Nat) (go:List Int→List Int→Int→Option ((Bool×Unit)×Unit)) (K0:Bool→Option ((Bool×Unit)×Unit)) (K1:Option ((Bool×Unit)×Unit)) (x0:List Int) (x1:List Int) (x2:Int):Option ((Bool×Unit)×Unit):=br (decide (x2<(↑(List.length x0):Int))) (br (decide (0≤x2)&&decide (x2<(↑(List.length x0):Int))) (br (decide (0≤x2)&&decide (x2<(↑(List.length x1):Int))) (br (List.getD x0 (Int.toNat x2) 0 != List.getD x1 (Int.toNat x2) 0) (K0 false) (go x0 x1 (IntKind.wrap IntKind.i64 (x2+1)))) none) none) K1
def laws_eqIntS_L0 (D:DX)(n:Nat) (K0:Bool→Option ((Bool×Unit)×Unit)) (K1:Option ((Bool×Unit)×Unit)):Nat→(List Int)→(List Int)→(Int)→Option ((Bool×Unit)×Unit) | 0=>(fun x0 x1 x2=>none) | m+1=>(fun x0 x1 x2=>laws_eqIntS_b0 D n (laws_eqIntS_L0 D n K0 K1 m) K0 K1 x0 x1 x2)
def laws_eqIntS_x0_0 (D:DX)(n:Nat) (v0_0:Bool):Option ((Bool×Unit)×Unit):=some ((v0_0,()),())
def laws_eqIntS_x0_1 (D:DX)(n:Nat):Option ((Bool×Unit)×Unit):=some ((true,()),())
def laws_eqIntS_LP0 (D:DX)(n:Nat):(List Int)→(List Int)→(Int)→Option ((Bool×Unit)×Unit):=(fun x0 x1 x2=>laws_eqIntS_L0 D n (fun v0_0=>laws_eqIntS_x0_0 D n v0_0) (laws_eqIntS_x0_1 D n) n x0 x1 x2)
def laws_eqIntS_e (D:DX)(n:Nat) (lp0:List Int→List Int→Int→Option ((Bool×Unit)×Unit)) (a0:List Int) (a1:List Int):Option ((Bool×Unit)×Unit):=br ((↑(List.length a0):Int) != (↑(List.length a1):Int)) (some ((false,()),())) (lp0 a0 a1 0)
def F_laws_eqIntS (D:DX)(n:Nat) (a0:List Int) (a1:List Int):Option ((Bool×Unit)×Unit):=laws_eqIntS_e D n (laws_eqIntS_LP0 D n) a0 a1
def laws_eqIntS_Q0 (x0:List Int) (x1:List Int) (x2:Int):St:=stq 26 [(0,AV.val (Ty.sl yI) x0),(1,AV.val (Ty.sl yI) x1),(5,avI x2)] [] 
def laws_eqIntS_Q0_0 (v0_0:Bool):St:=stq 26 [(4,AV.val Ty.bool v0_0)] [] 
def laws_eqIntS_Q0_1:St:=stq 26 [] [] 
theorem laws_eqIntS_SB0 (D:DX)(n:Nat) (m:Nat) (K:Ex→St→Option (Out ctx 181)) (x0:List Int) (x1:List Int) (x2:Int) :
  LQ funcTab D n 181 [.r,.r,.l,.r,.l] (m+1) (laws_eqIntS_Q0 x0 x1 x2) K=laws_eqIntS_b0 D n (fun x0 x1 x2=>LQ funcTab D n 181 [.r,.r,.l,.r,.l] m (laws_eqIntS_Q0 x0 x1 x2) K) (fun v0_0=>K (Ex.ret) (laws_eqIntS_Q0_0 v0_0)) (K (Ex.exit 0) (laws_eqIntS_Q0_1)) x0 x1 x2:=by kernel_rfl
theorem laws_eqIntS_EL0 (D:DX)(n:Nat) (K:Ex→St→Option (Out ctx 181)):∀ (m:Nat) (x0:List Int) (x1:List Int) (x2:Int),LQ funcTab D n 181 [.r,.r,.l,.r,.l] m (laws_eqIntS_Q0 x0 x1 x2) K=laws_eqIntS_L0 D n (fun v0_0=>K (Ex.ret) (laws_eqIntS_Q0_0 v0_0)) (K (Ex.exit 0) (laws_eqIntS_Q0_1)) m x0 x1 x2
  | 0,x0,x1,x2=>LQ_zero ..
  | m+1,x0,x1,x2=>by
    have ih:(fun x0 x1 x2=>LQ funcTab D n 181 [.r,.r,.l,.r,.l] m (laws_eqIntS_Q0 x0 x1 x2) K)=laws_eqIntS_L0 D n (fun v0_0=>K (Ex.ret) (laws_eqIntS_Q0_0 v0_0)) (K (Ex.exit 0) (laws_eqIntS_Q0_1)) m:=by funext x0 x1 x2;exact laws_eqIntS_EL0 D n K m x0 x1 x2
    rw[laws_eqIntS_SB0]
    rw[ih];rfl
theorem laws_eqIntS_X0_0 (D:DX)(n:Nat) (v0_0:Bool) :
  (CQ funcTab D n 181 [] [.r,.r,.l,.r,.l] (lastK funcTab 181)) (Ex.ret) (laws_eqIntS_Q0_0 v0_0)=laws_eqIntS_x0_0 D n v0_0:=by kernel_rfl
theorem laws_eqIntS_X0_1 (D:DX)(n:Nat) :
  (CQ funcTab D n 181 [] [.r,.r,.l,.r,.l] (lastK funcTab 181)) (Ex.exit 0) (laws_eqIntS_Q0_1)=laws_eqIntS_x0_1 D n:=by kernel_rfl
theorem laws_eqIntS_ELP0 (D:DX)(n:Nat) (x0:List Int) (x1:List Int) (x2:Int) :
  LQ funcTab D n 181 [.r,.r,.l,.r,.l] n (laws_eqIntS_Q0 x0 x1 x2) (CQ funcTab D n 181 [] [.r,.r,.l,.r,.l] (lastK funcTab 181))=laws_eqIntS_LP0 D n x0 x1 x2:=by
  rw[laws_eqIntS_EL0]
  simp only[laws_eqIntS_X0_0,laws_eqIntS_X0_1]
  rfl
theorem E_laws_eqIntS (D:DX)(n:Nat) (a0:List Int) (a1:List Int):rfC funcTab D n 181 (a0,(a1,()))=F_laws_eqIntS D n a0 a1:=by
  have h:rfC funcTab D n 181 (a0,(a1,()))=laws_eqIntS_e D n (fun x0 x1 x2=>LQ funcTab D n 181 [.r,.r,.l,.r,.l] n (laws_eqIntS_Q0 x0 x1 x2) (CQ funcTab D n 181 [] [.r,.r,.l,.r,.l] (lastK funcTab 181))) a0 a1:=by kernel_rfl
  rw[h]
  simp only[laws_eqIntS_ELP0]
  rfl

def laws_eqIndexS_b0 (D:DX)(n:Nat) (go:tIxs→tIxs→Int→Option ((Bool×Unit)×Unit)) (K0:Bool→Option ((Bool×Unit)×Unit)) (K1:Option ((Bool×Unit)×Unit)) (x0:tIxs) (x1:tIxs) (x2:Int):Option ((Bool×Unit)×Unit):=br (decide (x2<(↑(List.length x0):Int))) (br (decide (0≤x2)&&decide (x2<(↑(List.length x0):Int))) (br (decide (0≤x2)&&decide (x2<(↑(List.length x1):Int))) (bindD (C_laws_eqIndex D (List.getD x0 (Int.toNat x2) (ByteArray.empty,[],false,())) (List.getD x1 (Int.toNat x2) (ByteArray.empty,[],false,()))) fun b↦br (!Prod.fst (Prod.fst b)) (K0 false) (go x0 x1 (IntKind.wrap IntKind.i64 (x2+1)))) none) none) K1
def laws_eqIndexS_L0 (D:DX)(n:Nat) (K0:Bool→Option ((Bool×Unit)×Unit)) (K1:Option ((Bool×Unit)×Unit)):Nat→(tIxs)→(tIxs)→(Int)→Option ((Bool×Unit)×Unit) | 0=>(fun x0 x1 x2=>none) | m+1=>(fun x0 x1 x2=>laws_eqIndexS_b0 D n (laws_eqIndexS_L0 D n K0 K1 m) K0 K1 x0 x1 x2)
def laws_eqIndexS_x0_0 (D:DX)(n:Nat) (v0_0:Bool):Option ((Bool×Unit)×Unit):=some ((v0_0,()),())
def laws_eqIndexS_x0_1 (D:DX)(n:Nat):Option ((Bool×Unit)×Unit):=some ((true,()),())
def laws_eqIndexS_LP0 (D:DX)(n:Nat):(tIxs)→(tIxs)→(Int)→Option ((Bool×Unit)×Unit):=(fun x0 x1 x2=>laws_eqIndexS_L0 D n (fun v0_0=>laws_eqIndexS_x0_0 D n v0_0) (laws_eqIndexS_x0_1 D n) n x0 x1 x2)
def laws_eqIndexS_e (D:DX)(n:Nat) (lp0:tIxs→tIxs→Int→Option ((Bool×Unit)×Unit)) (a0:tIxs) (a1:tIxs):Option ((Bool×Unit)×Unit):=br ((↑(List.length a0):Int) != (↑(List.length a1):Int)) (some ((false,()),())) (lp0 a0 a1 0)
def F_laws_eqIndexS (D:DX)(n:Nat) (a0:tIxs) (a1:tIxs):Option ((Bool×Unit)×Unit):=laws_eqIndexS_e D n (laws_eqIndexS_LP0 D n) a0 a1
def laws_eqIndexS_Q0 (x0:tIxs) (x1:tIxs) (x2:Int):St:=stq 27 [(0,AV.val (Ty.sl yX) x0),(1,AV.val (Ty.sl yX) x1),(5,avI x2)] [] 
def laws_eqIndexS_Q0_0 (v0_0:Bool):St:=stq 27 [(4,AV.val Ty.bool v0_0)] [] 
def laws_eqIndexS_Q0_1:St:=stq 27 [] [] 
theorem laws_eqIndexS_SB0 (D:DX)(n:Nat) (m:Nat) (K:Ex→St→Option (Out ctx 182)) (x0:tIxs) (x1:tIxs) (x2:Int) :
  LQ funcTab D n 182 [.r,.r,.l,.r,.l] (m+1) (laws_eqIndexS_Q0 x0 x1 x2) K=laws_eqIndexS_b0 D n (fun x0 x1 x2=>LQ funcTab D n 182 [.r,.r,.l,.r,.l] m (laws_eqIndexS_Q0 x0 x1 x2) K) (fun v0_0=>K (Ex.ret) (laws_eqIndexS_Q0_0 v0_0)) (K (Ex.exit 0) (laws_eqIndexS_Q0_1)) x0 x1 x2:=by kernel_rfl
theorem laws_eqIndexS_EL0 (D:DX)(n:Nat) (K:Ex→St→Option (Out ctx 182)):∀ (m:Nat) (x0:tIxs) (x1:tIxs) (x2:Int),LQ funcTab D n 182 [.r,.r,.l,.r,.l] m (laws_eqIndexS_Q0 x0 x1 x2) K=laws_eqIndexS_L0 D n (fun v0_0=>K (Ex.ret) (laws_eqIndexS_Q0_0 v0_0)) (K (Ex.exit 0) (laws_eqIndexS_Q0_1)) m x0 x1 x2
  | 0,x0,x1,x2=>LQ_zero ..
  | m+1,x0,x1,x2=>by
    have ih:(fun x0 x1 x2=>LQ funcTab D n 182 [.r,.r,.l,.r,.l] m (laws_eqIndexS_Q0 x0 x1 x2) K)=laws_eqIndexS_L0 D n (fun v0_0=>K (Ex.ret) (laws_eqIndexS_Q0_0 v0_0)) (K (Ex.exit 0) (laws_eqIndexS_Q0_1)) m:=by funext x0 x1 x2;exact laws_eqIndexS_EL0 D n K m x0 x1 x2
    rw[laws_eqIndexS_SB0]
    rw[ih];rfl
theorem laws_eqIndexS_X0_0 (D:DX)(n:Nat) (v0_0:Bool) :
  (CQ funcTab D n 182 [] [.r,.r,.l,.r,.l] (lastK funcTab 182)) (Ex.ret) (laws_eqIndexS_Q0_0 v0_0)=laws_eqIndexS_x0_0 D n v0_0:=by kernel_rfl
theorem laws_eqIndexS_X0_1 (D:DX)(n:Nat) :
  (CQ funcTab D n 182 [] [.r,.r,.l,.r,.l] (lastK funcTab 182)) (Ex.exit 0) (laws_eqIndexS_Q0_1)=laws_eqIndexS_x0_1 D n:=by kernel_rfl
theorem laws_eqIndexS_ELP0 (D:DX)(n:Nat) (x0:tIxs) (x1:tIxs) (x2:Int) :
  LQ funcTab D n 182 [.r,.r,.l,.r,.l] n (laws_eqIndexS_Q0 x0 x1 x2) (CQ funcTab D n 182 [] [.r,.r,.l,.r,.l] (lastK funcTab 182))=laws_eqIndexS_LP0 D n x0 x1 x2:=by
  rw[laws_eqIndexS_EL0]
  simp only[laws_eqIndexS_X0_0,laws_eqIndexS_X0_1]
  rfl
theorem E_laws_eqIndexS (D:DX)(n:Nat) (a0:tIxs) (a1:tIxs):rfC funcTab D n 182 (a0,(a1,()))=F_laws_eqIndexS D n a0 a1:=by
  have h:rfC funcTab D n 182 (a0,(a1,()))=laws_eqIndexS_e D n (fun x0 x1 x2=>LQ funcTab D n 182 [.r,.r,.l,.r,.l] n (laws_eqIndexS_Q0 x0 x1 x2) (CQ funcTab D n 182 [] [.r,.r,.l,.r,.l] (lastK funcTab 182))) a0 a1:=by kernel_rfl
  rw[h]
  simp only[laws_eqIndexS_ELP0]
  rfl

def laws_markColS_b0 (D:DX)(n:Nat) (go:Int→Int→tCols→Option ((Int×Unit)×tCols×Unit)) (K0:Int→tCols→Option ((Int×Unit)×tCols×Unit)) (x0:Int) (x1:Int) (x2:tCols):Option ((Int×Unit)×tCols×Unit):=br (decide (x1<(↑(List.length x2):Int))) (bindD (C_laws_markText D x0) fun b↦br (decide (0≤x1)&&decide (x1<(↑(List.length x2):Int))) (br (decide (0≤x1)&&decide (x1<(↑(List.length (List.set x2 (Int.toNat x1) (Prod.fst (Prod.fst b),Prod.snd (List.getD x2 (Int.toNat x1) (ByteArray.empty,0,false,()))))):Int))) (br (decide (0≤x1)&&decide (x1<(↑(List.length (List.set (List.set x2 (Int.toNat x1) (Prod.fst (Prod.fst b),Prod.snd (List.getD x2 (Int.toNat x1) (ByteArray.empty,0,false,())))) (Int.toNat x1) (Prod.fst (List.getD (List.set x2 (Int.toNat x1) (Prod.fst (Prod.fst b),Prod.snd (List.getD x2 (Int.toNat x1) (ByteArray.empty,0,false,())))) (Int.toNat x1) (ByteArray.empty,0,false,())),IntKind.wrap IntKind.i64 (x0+1),Prod.snd (Prod.snd (List.getD (List.set x2 (Int.toNat x1) (Prod.fst (Prod.fst b),Prod.snd (List.getD x2 (Int.toNat x1) (ByteArray.empty,0,false,())))) (Int.toNat x1) (ByteArray.empty,0,false,())))))):Int))) (go (IntKind.wrap IntKind.i64 (IntKind.wrap IntKind.i64 (IntKind.wrap IntKind.i64 (x0+1)+1)+1)) (IntKind.wrap IntKind.i64 (x1+1)) (List.set (List.set (List.set x2 (Int.toNat x1) (Prod.fst (Prod.fst b),Prod.snd (List.getD x2 (Int.toNat x1) (ByteArray.empty,0,false,())))) (Int.toNat x1) (Prod.fst (List.getD (List.set x2 (Int.toNat x1) (Prod.fst (Prod.fst b),Prod.snd (List.getD x2 (Int.toNat x1) (ByteArray.empty,0,false,())))) (Int.toNat x1) (ByteArray.empty,0,false,())),IntKind.wrap IntKind.i64 (x0+1),Prod.snd (Prod.snd (List.getD (List.set x2 (Int.toNat x1) (Prod.fst (Prod.fst b),Prod.snd (List.getD x2 (Int.toNat x1) (ByteArray.empty,0,false,())))) (Int.toNat x1) (ByteArray.empty,0,false,()))))) (Int.toNat x1) (Prod.fst (List.getD (List.set (List.set x2 (Int.toNat x1) (Prod.fst (Prod.fst b),Prod.snd (List.getD x2 (Int.toNat x1) (ByteArray.empty,0,false,())))) (Int.toNat x1) (Prod.fst (List.getD (List.set x2 (Int.toNat x1) (Prod.fst (Prod.fst b),Prod.snd (List.getD x2 (Int.toNat x1) (ByteArray.empty,0,false,())))) (Int.toNat x1) (ByteArray.empty,0,false,())),IntKind.wrap IntKind.i64 (x0+1),Prod.snd (Prod.snd (List.getD (List.set x2 (Int.toNat x1) (Prod.fst (Prod.fst b),Prod.snd (List.getD x2 (Int.toNat x1) (ByteArray.empty,0,false,())))) (Int.toNat x1) (ByteArray.empty,0,false,()))))) (Int.toNat x1) (ByteArray.empty,0,false,())),Prod.fst (Prod.snd (List.getD (List.set (List.set x2 (Int.toNat x1) (Prod.fst (Prod.fst b),Prod.snd (List.getD x2 (Int.toNat x1) (ByteArray.empty,0,false,())))) (Int.toNat x1) (Prod.fst (List.getD (List.set x2 (Int.toNat x1) (Prod.fst (Prod.fst b),Prod.snd (List.getD x2 (Int.toNat x1) (ByteArray.empty,0,false,())))) (Int.toNat x1) (ByteArray.empty,0,false,())),IntKind.wrap IntKind.i64 (x0+1),Prod.snd (Prod.snd (List.getD (List.set x2 (Int.toNat x1) (Prod.fst (Prod.fst b),Prod.snd (List.getD x2 (Int.toNat x1) (ByteArray.empty,0,false,())))) (Int.toNat x1) (ByteArray.empty,0,false,()))))) (Int.toNat x1) (ByteArray.empty,0,false,()))),decide (Int.tmod (IntKind.wrap IntKind.i64 (IntKind.wrap IntKind.i64 (x0+1)+1)) 3=0),Prod.snd (Prod.snd (Prod.snd (List.getD (List.set (List.set x2 (Int.toNat x1) (Prod.fst (Prod.fst b),Prod.snd (List.getD x2 (Int.toNat x1) (ByteArray.empty,0,false,())))) (Int.toNat x1) (Prod.fst (List.getD (List.set x2 (Int.toNat x1) (Prod.fst (Prod.fst b),Prod.snd (List.getD x2 (Int.toNat x1) (ByteArray.empty,0,false,())))) (Int.toNat x1) (ByteArray.empty,0,false,())),IntKind.wrap IntKind.i64 (x0+1),Prod.snd (Prod.snd (List.getD (List.set x2 (Int.toNat x1) (Prod.fst (Prod.fst b),Prod.snd (List.getD x2 (Int.toNat x1) (ByteArray.empty,0,false,())))) (Int.toNat x1) (ByteArray.empty,0,false,()))))) (Int.toNat x1) (ByteArray.empty,0,false,()))))))) none) none) none) (K0 x0 x2)
def laws_markColS_L0 (D:DX)(n:Nat) (K0:Int→tCols→Option ((Int×Unit)×tCols×Unit)):Nat→(Int)→(Int)→(tCols)→Option ((Int×Unit)×tCols×Unit) | 0=>(fun x0 x1 x2=>none) | m+1=>(fun x0 x1 x2=>laws_markColS_b0 D n (laws_markColS_L0 D n K0 m) K0 x0 x1 x2)
def laws_markColS_x0_0 (D:DX)(n:Nat) (v0_0:Int) (v0_1:tCols):Option ((Int×Unit)×tCols×Unit):=some ((v0_0,()),v0_1,())
def laws_markColS_LP0 (D:DX)(n:Nat):(Int)→(Int)→(tCols)→Option ((Int×Unit)×tCols×Unit):=(fun x0 x1 x2=>laws_markColS_L0 D n (fun v0_0 v0_1=>laws_markColS_x0_0 D n v0_0 v0_1) n x0 x1 x2)
def laws_markColS_e (D:DX)(n:Nat) (lp0:Int→Int→tCols→Option ((Int×Unit)×tCols×Unit)) (a0:tCols) (a1:Int):Option ((Int×Unit)×tCols×Unit):=lp0 a1 0 a0
def F_laws_markColS (D:DX)(n:Nat) (a0:tCols) (a1:Int):Option ((Int×Unit)×tCols×Unit):=laws_markColS_e D n (laws_markColS_LP0 D n) a0 a1
def laws_markColS_Q0 (x0:Int) (x1:Int) (x2:tCols):St:=stq 37 [(0,AV.brw 0 [] 1048576),(1,avI x0),(5,avI x1)] [(0,Root.mk (Ty.sl yC) (Mk.own 1048576 (Mk.pr Mk.no (Mk.pr Mk.no (Mk.pr Mk.no Mk.no)))) x2 false)] 
def laws_markColS_Q0_0 (v0_0:Int) (v0_1:tCols):St:=stq 37 [(0,AV.brw 0 [] 1048576),(1,avI v0_0)] [(0,Root.mk (Ty.sl yC) (Mk.own 1048576 (Mk.pr Mk.no (Mk.pr Mk.no (Mk.pr Mk.no Mk.no)))) v0_1 false)] 
theorem laws_markColS_SB0 (D:DX)(n:Nat) (m:Nat) (K:Ex→St→Option (Out ctx 183)) (x0:Int) (x1:Int) (x2:tCols) :
  LQ funcTab D n 183 [.r,.l,.r,.l] (m+1) (laws_markColS_Q0 x0 x1 x2) K=laws_markColS_b0 D n (fun x0 x1 x2=>LQ funcTab D n 183 [.r,.l,.r,.l] m (laws_markColS_Q0 x0 x1 x2) K) (fun v0_0 v0_1=>K (Ex.exit 0) (laws_markColS_Q0_0 v0_0 v0_1)) x0 x1 x2:=by kernel_rfl
theorem laws_markColS_EL0 (D:DX)(n:Nat) (K:Ex→St→Option (Out ctx 183)):∀ (m:Nat) (x0:Int) (x1:Int) (x2:tCols),LQ funcTab D n 183 [.r,.l,.r,.l] m (laws_markColS_Q0 x0 x1 x2) K=laws_markColS_L0 D n (fun v0_0 v0_1=>K (Ex.exit 0) (laws_markColS_Q0_0 v0_0 v0_1)) m x0 x1 x2
  | 0,x0,x1,x2=>LQ_zero ..
  | m+1,x0,x1,x2=>by
    have ih:(fun x0 x1 x2=>LQ funcTab D n 183 [.r,.l,.r,.l] m (laws_markColS_Q0 x0 x1 x2) K)=laws_markColS_L0 D n (fun v0_0 v0_1=>K (Ex.exit 0) (laws_markColS_Q0_0 v0_0 v0_1)) m:=by funext x0 x1 x2;exact laws_markColS_EL0 D n K m x0 x1 x2
    rw[laws_markColS_SB0]
    rw[ih];rfl
theorem laws_markColS_X0_0 (D:DX)(n:Nat) (v0_0:Int) (v0_1:tCols) :
  (CQ funcTab D n 183 [] [.r,.l,.r,.l] (lastK funcTab 183)) (Ex.exit 0) (laws_markColS_Q0_0 v0_0 v0_1)=laws_markColS_x0_0 D n v0_0 v0_1:=by kernel_rfl
theorem laws_markColS_ELP0 (D:DX)(n:Nat) (x0:Int) (x1:Int) (x2:tCols) :
  LQ funcTab D n 183 [.r,.l,.r,.l] n (laws_markColS_Q0 x0 x1 x2) (CQ funcTab D n 183 [] [.r,.l,.r,.l] (lastK funcTab 183))=laws_markColS_LP0 D n x0 x1 x2:=by
  rw[laws_markColS_EL0]
  simp only[laws_markColS_X0_0]
  rfl
theorem E_laws_markColS (D:DX)(n:Nat) (a0:tCols) (a1:Int):rfC funcTab D n 183 (a0,(a1,()))=F_laws_markColS D n a0 a1:=by
  have h:rfC funcTab D n 183 (a0,(a1,()))=laws_markColS_e D n (fun x0 x1 x2=>LQ funcTab D n 183 [.r,.l,.r,.l] n (laws_markColS_Q0 x0 x1 x2) (CQ funcTab D n 183 [] [.r,.l,.r,.l] (lastK funcTab 183))) a0 a1:=by kernel_rfl
  rw[h]
  simp only[laws_markColS_ELP0]
  rfl

def laws_markIntS_b0 (D:DX)(n:Nat) (go:Int→Int→List Int→Option ((Int×Unit)×List Int×Unit)) (K0:Int→List Int→Option ((Int×Unit)×List Int×Unit)) (x0:Int) (x1:Int) (x2:List Int):Option ((Int×Unit)×List Int×Unit):=br (decide (x1<(↑(List.length x2):Int))) (br (decide (0≤x1)&&decide (x1<(↑(List.length x2):Int))) (go (IntKind.wrap IntKind.i64 (x0+1)) (IntKind.wrap IntKind.i64 (x1+1)) (List.set x2 (Int.toNat x1) x0)) none) (K0 x0 x2)
def laws_markIntS_L0 (D:DX)(n:Nat) (K0:Int→List Int→Option ((Int×Unit)×List Int×Unit)):Nat→(Int)→(Int)→(List Int)→Option ((Int×Unit)×List Int×Unit) | 0=>(fun x0 x1 x2=>none) | m+1=>(fun x0 x1 x2=>laws_markIntS_b0 D n (laws_markIntS_L0 D n K0 m) K0 x0 x1 x2)
def laws_markIntS_x0_0 (D:DX)(n:Nat) (v0_0:Int) (v0_1:List Int):Option ((Int×Unit)×List Int×Unit):=some ((v0_0,()),v0_1,())
def laws_markIntS_LP0 (D:DX)(n:Nat):(Int)→(Int)→(List Int)→Option ((Int×Unit)×List Int×Unit):=(fun x0 x1 x2=>laws_markIntS_L0 D n (fun v0_0 v0_1=>laws_markIntS_x0_0 D n v0_0 v0_1) n x0 x1 x2)
def laws_markIntS_e (D:DX)(n:Nat) (lp0:Int→Int→List Int→Option ((Int×Unit)×List Int×Unit)) (a0:List Int) (a1:Int):Option ((Int×Unit)×List Int×Unit):=lp0 a1 0 a0
def F_laws_markIntS (D:DX)(n:Nat) (a0:List Int) (a1:Int):Option ((Int×Unit)×List Int×Unit):=laws_markIntS_e D n (laws_markIntS_LP0 D n) a0 a1
def laws_markIntS_Q0 (x0:Int) (x1:Int) (x2:List Int):St:=stq 19 [(0,AV.brw 0 [] 1048576),(1,avI x0),(5,avI x1)] [(0,Root.mk (Ty.sl yI) (Mk.own 1048576 Mk.no) x2 false)] 
def laws_markIntS_Q0_0 (v0_0:Int) (v0_1:List Int):St:=stq 19 [(0,AV.brw 0 [] 1048576),(1,avI v0_0)] [(0,Root.mk (Ty.sl yI) (Mk.own 1048576 Mk.no) v0_1 false)] 
theorem laws_markIntS_SB0 (D:DX)(n:Nat) (m:Nat) (K:Ex→St→Option (Out ctx 184)) (x0:Int) (x1:Int) (x2:List Int) :
  LQ funcTab D n 184 [.r,.l,.r,.l] (m+1) (laws_markIntS_Q0 x0 x1 x2) K=laws_markIntS_b0 D n (fun x0 x1 x2=>LQ funcTab D n 184 [.r,.l,.r,.l] m (laws_markIntS_Q0 x0 x1 x2) K) (fun v0_0 v0_1=>K (Ex.exit 0) (laws_markIntS_Q0_0 v0_0 v0_1)) x0 x1 x2:=by kernel_rfl
theorem laws_markIntS_EL0 (D:DX)(n:Nat) (K:Ex→St→Option (Out ctx 184)):∀ (m:Nat) (x0:Int) (x1:Int) (x2:List Int),LQ funcTab D n 184 [.r,.l,.r,.l] m (laws_markIntS_Q0 x0 x1 x2) K=laws_markIntS_L0 D n (fun v0_0 v0_1=>K (Ex.exit 0) (laws_markIntS_Q0_0 v0_0 v0_1)) m x0 x1 x2
  | 0,x0,x1,x2=>LQ_zero ..
  | m+1,x0,x1,x2=>by
    have ih:(fun x0 x1 x2=>LQ funcTab D n 184 [.r,.l,.r,.l] m (laws_markIntS_Q0 x0 x1 x2) K)=laws_markIntS_L0 D n (fun v0_0 v0_1=>K (Ex.exit 0) (laws_markIntS_Q0_0 v0_0 v0_1)) m:=by funext x0 x1 x2;exact laws_markIntS_EL0 D n K m x0 x1 x2
    rw[laws_markIntS_SB0]
    rw[ih];rfl
theorem laws_markIntS_X0_0 (D:DX)(n:Nat) (v0_0:Int) (v0_1:List Int) :
  (CQ funcTab D n 184 [] [.r,.l,.r,.l] (lastK funcTab 184)) (Ex.exit 0) (laws_markIntS_Q0_0 v0_0 v0_1)=laws_markIntS_x0_0 D n v0_0 v0_1:=by kernel_rfl
theorem laws_markIntS_ELP0 (D:DX)(n:Nat) (x0:Int) (x1:Int) (x2:List Int) :
  LQ funcTab D n 184 [.r,.l,.r,.l] n (laws_markIntS_Q0 x0 x1 x2) (CQ funcTab D n 184 [] [.r,.l,.r,.l] (lastK funcTab 184))=laws_markIntS_LP0 D n x0 x1 x2:=by
  rw[laws_markIntS_EL0]
  simp only[laws_markIntS_X0_0]
  rfl
theorem E_laws_markIntS (D:DX)(n:Nat) (a0:List Int) (a1:Int):rfC funcTab D n 184 (a0,(a1,()))=F_laws_markIntS D n a0 a1:=by
  have h:rfC funcTab D n 184 (a0,(a1,()))=laws_markIntS_e D n (fun x0 x1 x2=>LQ funcTab D n 184 [.r,.l,.r,.l] n (laws_markIntS_Q0 x0 x1 x2) (CQ funcTab D n 184 [] [.r,.l,.r,.l] (lastK funcTab 184))) a0 a1:=by kernel_rfl
  rw[h]
  simp only[laws_markIntS_ELP0]
  rfl

def laws_markIndexS_b0 (D:DX)(n:Nat) (go:Int→Int→tIxs→Option ((Int×Unit)×tIxs×Unit)) (K0:Int→tIxs→Option ((Int×Unit)×tIxs×Unit)) (x0:Int) (x1:Int) (x2:tIxs):Option ((Int×Unit)×tIxs×Unit):=br (decide (x1<(↑(List.length x2):Int))) (bindD (C_laws_markText D x0) fun b↦br (decide (0≤x1)&&decide (x1<(↑(List.length x2):Int))) (br (decide (0≤x1)&&decide (x1<(↑(List.length (List.set x2 (Int.toNat x1) (Prod.fst (Prod.fst b),Prod.snd (List.getD x2 (Int.toNat x1) (ByteArray.empty,[],false,()))))):Int))) (bindD (C_laws_markIntS D (Prod.fst (Prod.snd (List.getD (List.set x2 (Int.toNat x1) (Prod.fst (Prod.fst b),Prod.snd (List.getD x2 (Int.toNat x1) (ByteArray.empty,[],false,())))) (Int.toNat x1) (ByteArray.empty,[],false,())))) (IntKind.wrap IntKind.i64 (x0+1))) fun b_1↦br (lendsOk [PK.mutv (Ty.sl (Ty.int IntKind.i64)) (Mk.top (Ty.sl (Ty.int IntKind.i64))) (Mk.top (Ty.sl (Ty.int IntKind.i64))),PK.val (Ty.int IntKind.i64)] (List.map (ev (St.mk [AV.brw 0 [] 1048576,AV.val (Ty.int IntKind.i64) (IntKind.wrap IntKind.i64 (x0+1)),AV.undef,AV.undef,AV.undef,AV.val (Ty.int IntKind.i64) x1,AV.val (Ty.int IntKind.i64) x1,AV.brw 0 [] 1048576,AV.val (Ty.int IntKind.i64) (↑(List.length x2):Int),AV.val Ty.bool (decide (x1<(↑(List.length x2):Int))),AV.undef,AV.undef,AV.brw 0 [] 1048576,AV.val (Ty.int IntKind.i64) x1,AV.val (Ty.int IntKind.i64) x0,AV.val Ty.str (Prod.fst (Prod.fst b)),AV.addr 0 [Stp.idx (Int.toNat x1) 1048576],AV.addr 0 [Stp.idx (Int.toNat x1) 1048576,Stp.fst],AV.val (Ty.int IntKind.i64) x0,AV.val (Ty.int IntKind.i64) (IntKind.wrap IntKind.i64 (x0+1)),AV.brw 0 [] 1048576,AV.val (Ty.int IntKind.i64) x1,AV.addr 0 [Stp.idx (Int.toNat x1) 1048576],AV.addr 0 [Stp.idx (Int.toNat x1) 1048576,Stp.snd,Stp.fst],AV.brw 0 [Stp.idx (Int.toNat x1) 1048576,Stp.snd,Stp.fst] 0,AV.val (Ty.int IntKind.i64) (IntKind.wrap IntKind.i64 (x0+1)),AV.undef,AV.undef,AV.undef,AV.undef,AV.undef,AV.undef,AV.undef,AV.undef,AV.undef,AV.undef,AV.undef] [some (Root.mk (Ty.sl (Ty.pair Ty.str (Ty.pair (Ty.sl (Ty.int IntKind.i64)) (Ty.pair Ty.bool Ty.unit)))) (Mk.own 1048576 (Mk.pr Mk.no (Mk.pr (Mk.own 0 Mk.no) (Mk.pr Mk.no Mk.no)))) (List.set x2 (Int.toNat x1) (Prod.fst (Prod.fst b),Prod.snd (List.getD x2 (Int.toNat x1) (ByteArray.empty,[],false,())))) false),none,none,none,none,none,none,none,none,none,none,none,none,none,none,none,none,none,none,none,none,none,none,none,none,none,none,none,none,none,none,none,none,none,none,none,none])) [Operand.tmp 24,Operand.tmp 25]++avList AV.unit)) (br (decide (0≤x1)&&decide (x1<(↑(List.length (List.set (List.set x2 (Int.toNat x1) (Prod.fst (Prod.fst b),Prod.snd (List.getD x2 (Int.toNat x1) (ByteArray.empty,[],false,())))) (Int.toNat x1) (Prod.fst (List.getD (List.set x2 (Int.toNat x1) (Prod.fst (Prod.fst b),Prod.snd (List.getD x2 (Int.toNat x1) (ByteArray.empty,[],false,())))) (Int.toNat x1) (ByteArray.empty,[],false,())),Prod.fst (Prod.snd b_1),Prod.snd (Prod.snd (List.getD (List.set x2 (Int.toNat x1) (Prod.fst (Prod.fst b),Prod.snd (List.getD x2 (Int.toNat x1) (ByteArray.empty,[],false,())))) (Int.toNat x1) (ByteArray.empty,[],false,())))))):Int))) (go (IntKind.wrap IntKind.i64 (Prod.fst (Prod.fst b_1)+1)) (IntKind.wrap IntKind.i64 (x1+1)) (List.set (List.set (List.set x2 (Int.toNat x1) (Prod.fst (Prod.fst b),Prod.snd (List.getD x2 (Int.toNat x1) (ByteArray.empty,[],false,())))) (Int.toNat x1) (Prod.fst (List.getD (List.set x2 (Int.toNat x1) (Prod.fst (Prod.fst b),Prod.snd (List.getD x2 (Int.toNat x1) (ByteArray.empty,[],false,())))) (Int.toNat x1) (ByteArray.empty,[],false,())),Prod.fst (Prod.snd b_1),Prod.snd (Prod.snd (List.getD (List.set x2 (Int.toNat x1) (Prod.fst (Prod.fst b),Prod.snd (List.getD x2 (Int.toNat x1) (ByteArray.empty,[],false,())))) (Int.toNat x1) (ByteArray.empty,[],false,()))))) (Int.toNat x1) (Prod.fst (List.getD (List.set (List.set x2 (Int.toNat x1) (Prod.fst (Prod.fst b),Prod.snd (List.getD x2 (Int.toNat x1) (ByteArray.empty,[],false,())))) (Int.toNat x1) (Prod.fst (List.getD (List.set x2 (Int.toNat x1) (Prod.fst (Prod.fst b),Prod.snd (List.getD x2 (Int.toNat x1) (ByteArray.empty,[],false,())))) (Int.toNat x1) (ByteArray.empty,[],false,())),Prod.fst (Prod.snd b_1),Prod.snd (Prod.snd (List.getD (List.set x2 (Int.toNat x1) (Prod.fst (Prod.fst b),Prod.snd (List.getD x2 (Int.toNat x1) (ByteArray.empty,[],false,())))) (Int.toNat x1) (ByteArray.empty,[],false,()))))) (Int.toNat x1) (ByteArray.empty,[],false,())),Prod.fst (Prod.snd (List.getD (List.set (List.set x2 (Int.toNat x1) (Prod.fst (Prod.fst b),Prod.snd (List.getD x2 (Int.toNat x1) (ByteArray.empty,[],false,())))) (Int.toNat x1) (Prod.fst (List.getD (List.set x2 (Int.toNat x1) (Prod.fst (Prod.fst b),Prod.snd (List.getD x2 (Int.toNat x1) (ByteArray.empty,[],false,())))) (Int.toNat x1) (ByteArray.empty,[],false,())),Prod.fst (Prod.snd b_1),Prod.snd (Prod.snd (List.getD (List.set x2 (Int.toNat x1) (Prod.fst (Prod.fst b),Prod.snd (List.getD x2 (Int.toNat x1) (ByteArray.empty,[],false,())))) (Int.toNat x1) (ByteArray.empty,[],false,()))))) (Int.toNat x1) (ByteArray.empty,[],false,()))),decide (Int.tmod (Prod.fst (Prod.fst b_1)) 3=0),Prod.snd (Prod.snd (Prod.snd (List.getD (List.set (List.set x2 (Int.toNat x1) (Prod.fst (Prod.fst b),Prod.snd (List.getD x2 (Int.toNat x1) (ByteArray.empty,[],false,())))) (Int.toNat x1) (Prod.fst (List.getD (List.set x2 (Int.toNat x1) (Prod.fst (Prod.fst b),Prod.snd (List.getD x2 (Int.toNat x1) (ByteArray.empty,[],false,())))) (Int.toNat x1) (ByteArray.empty,[],false,())),Prod.fst (Prod.snd b_1),Prod.snd (Prod.snd (List.getD (List.set x2 (Int.toNat x1) (Prod.fst (Prod.fst b),Prod.snd (List.getD x2 (Int.toNat x1) (ByteArray.empty,[],false,())))) (Int.toNat x1) (ByteArray.empty,[],false,()))))) (Int.toNat x1) (ByteArray.empty,[],false,()))))))) none) none) none) none) (K0 x0 x2)
def laws_markIndexS_L0 (D:DX)(n:Nat) (K0:Int→tIxs→Option ((Int×Unit)×tIxs×Unit)):Nat→(Int)→(Int)→(tIxs)→Option ((Int×Unit)×tIxs×Unit) | 0=>(fun x0 x1 x2=>none) | m+1=>(fun x0 x1 x2=>laws_markIndexS_b0 D n (laws_markIndexS_L0 D n K0 m) K0 x0 x1 x2)
def laws_markIndexS_x0_0 (D:DX)(n:Nat) (v0_0:Int) (v0_1:tIxs):Option ((Int×Unit)×tIxs×Unit):=some ((v0_0,()),v0_1,())
def laws_markIndexS_LP0 (D:DX)(n:Nat):(Int)→(Int)→(tIxs)→Option ((Int×Unit)×tIxs×Unit):=(fun x0 x1 x2=>laws_markIndexS_L0 D n (fun v0_0 v0_1=>laws_markIndexS_x0_0 D n v0_0 v0_1) n x0 x1 x2)
def laws_markIndexS_e (D:DX)(n:Nat) (lp0:Int→Int→tIxs→Option ((Int×Unit)×tIxs×Unit)) (a0:tIxs) (a1:Int):Option ((Int×Unit)×tIxs×Unit):=lp0 a1 0 a0
def F_laws_markIndexS (D:DX)(n:Nat) (a0:tIxs) (a1:Int):Option ((Int×Unit)×tIxs×Unit):=laws_markIndexS_e D n (laws_markIndexS_LP0 D n) a0 a1
def laws_markIndexS_Q0 (x0:Int) (x1:Int) (x2:tIxs):St:=stq 37 [(0,AV.brw 0 [] 1048576),(1,avI x0),(5,avI x1)] [(0,Root.mk (Ty.sl yX) (Mk.own 1048576 (Mk.pr Mk.no (Mk.pr (Mk.own 0 Mk.no) (Mk.pr Mk.no Mk.no)))) x2 false)] 
def laws_markIndexS_Q0_0 (v0_0:Int) (v0_1:tIxs):St:=stq 37 [(0,AV.brw 0 [] 1048576),(1,avI v0_0)] [(0,Root.mk (Ty.sl yX) (Mk.own 1048576 (Mk.pr Mk.no (Mk.pr (Mk.own 0 Mk.no) (Mk.pr Mk.no Mk.no)))) v0_1 false)] 
theorem laws_markIndexS_SB0 (D:DX)(n:Nat) (m:Nat) (K:Ex→St→Option (Out ctx 185)) (x0:Int) (x1:Int) (x2:tIxs) :
  LQ funcTab D n 185 [.r,.l,.r,.l] (m+1) (laws_markIndexS_Q0 x0 x1 x2) K=laws_markIndexS_b0 D n (fun x0 x1 x2=>LQ funcTab D n 185 [.r,.l,.r,.l] m (laws_markIndexS_Q0 x0 x1 x2) K) (fun v0_0 v0_1=>K (Ex.exit 0) (laws_markIndexS_Q0_0 v0_0 v0_1)) x0 x1 x2:=by kernel_rfl
theorem laws_markIndexS_EL0 (D:DX)(n:Nat) (K:Ex→St→Option (Out ctx 185)):∀ (m:Nat) (x0:Int) (x1:Int) (x2:tIxs),LQ funcTab D n 185 [.r,.l,.r,.l] m (laws_markIndexS_Q0 x0 x1 x2) K=laws_markIndexS_L0 D n (fun v0_0 v0_1=>K (Ex.exit 0) (laws_markIndexS_Q0_0 v0_0 v0_1)) m x0 x1 x2
  | 0,x0,x1,x2=>LQ_zero ..
  | m+1,x0,x1,x2=>by
    have ih:(fun x0 x1 x2=>LQ funcTab D n 185 [.r,.l,.r,.l] m (laws_markIndexS_Q0 x0 x1 x2) K)=laws_markIndexS_L0 D n (fun v0_0 v0_1=>K (Ex.exit 0) (laws_markIndexS_Q0_0 v0_0 v0_1)) m:=by funext x0 x1 x2;exact laws_markIndexS_EL0 D n K m x0 x1 x2
    rw[laws_markIndexS_SB0]
    rw[ih];rfl
theorem laws_markIndexS_X0_0 (D:DX)(n:Nat) (v0_0:Int) (v0_1:tIxs) :
  (CQ funcTab D n 185 [] [.r,.l,.r,.l] (lastK funcTab 185)) (Ex.exit 0) (laws_markIndexS_Q0_0 v0_0 v0_1)=laws_markIndexS_x0_0 D n v0_0 v0_1:=by kernel_rfl
theorem laws_markIndexS_ELP0 (D:DX)(n:Nat) (x0:Int) (x1:Int) (x2:tIxs) :
  LQ funcTab D n 185 [.r,.l,.r,.l] n (laws_markIndexS_Q0 x0 x1 x2) (CQ funcTab D n 185 [] [.r,.l,.r,.l] (lastK funcTab 185))=laws_markIndexS_LP0 D n x0 x1 x2:=by
  rw[laws_markIndexS_EL0]
  simp only[laws_markIndexS_X0_0]
  rfl
theorem E_laws_markIndexS (D:DX)(n:Nat) (a0:tIxs) (a1:Int):rfC funcTab D n 185 (a0,(a1,()))=F_laws_markIndexS D n a0 a1:=by
  have h:rfC funcTab D n 185 (a0,(a1,()))=laws_markIndexS_e D n (fun x0 x1 x2=>LQ funcTab D n 185 [.r,.l,.r,.l] n (laws_markIndexS_Q0 x0 x1 x2) (CQ funcTab D n 185 [] [.r,.l,.r,.l] (lastK funcTab 185))) a0 a1:=by kernel_rfl
  rw[h]
  simp only[laws_markIndexS_ELP0]
  rfl

def laws_heldColS_b0 (D:DX)(n:Nat) (go:tCols→Int→Int→Option ((Int×Unit)×Unit)) (K0:Int→Int→Option ((Int×Unit)×Unit)) (K1:Int→Option ((Int×Unit)×Unit)) (x0:tCols) (x1:Int) (x2:Int):Option ((Int×Unit)×Unit):=br (decide (x2<(↑(List.length x0):Int))) (br (decide (0≤x2)&&decide (x2<(↑(List.length x0):Int))) (bindD (C_laws_markText D x1) fun b↦br (!List.beq (ByteArray.toList (Prod.fst (List.getD x0 (Int.toNat x2) (ByteArray.empty,0,false,())))) (ByteArray.toList (Prod.fst (Prod.fst b)))) (K0 x1 (-1)) (br (decide (0≤x2)&&decide (x2<(↑(List.length x0):Int))) (br (Prod.fst (Prod.snd (List.getD x0 (Int.toNat x2) (ByteArray.empty,0,false,()))) != IntKind.wrap IntKind.i64 (x1+1)) (K0 (IntKind.wrap IntKind.i64 (x1+1)) (-1)) (br (decide (0≤x2)&&decide (x2<(↑(List.length x0):Int))) (br (!decide (Prod.fst (Prod.snd (Prod.snd (List.getD x0 (Int.toNat x2) (ByteArray.empty,0,false,()))))=decide (Int.tmod (IntKind.wrap IntKind.i64 (IntKind.wrap IntKind.i64 (x1+1)+1)) 3=0))) (K0 (IntKind.wrap IntKind.i64 (IntKind.wrap IntKind.i64 (x1+1)+1)) (-1)) (go x0 (IntKind.wrap IntKind.i64 (IntKind.wrap IntKind.i64 (IntKind.wrap IntKind.i64 (x1+1)+1)+1)) (IntKind.wrap IntKind.i64 (x2+1)))) none)) none)) none) (K1 x1)
def laws_heldColS_L0 (D:DX)(n:Nat) (K0:Int→Int→Option ((Int×Unit)×Unit)) (K1:Int→Option ((Int×Unit)×Unit)):Nat→(tCols)→(Int)→(Int)→Option ((Int×Unit)×Unit) | 0=>(fun x0 x1 x2=>none) | m+1=>(fun x0 x1 x2=>laws_heldColS_b0 D n (laws_heldColS_L0 D n K0 K1 m) K0 K1 x0 x1 x2)
def laws_heldColS_x0_0 (D:DX)(n:Nat) (v0_0:Int) (v0_1:Int):Option ((Int×Unit)×Unit):=some ((v0_1,()),())
def laws_heldColS_x0_1 (D:DX)(n:Nat) (v1_0:Int):Option ((Int×Unit)×Unit):=some ((v1_0,()),())
def laws_heldColS_LP0 (D:DX)(n:Nat):(tCols)→(Int)→(Int)→Option ((Int×Unit)×Unit):=(fun x0 x1 x2=>laws_heldColS_L0 D n (fun v0_0 v0_1=>laws_heldColS_x0_0 D n v0_0 v0_1) (fun v1_0=>laws_heldColS_x0_1 D n v1_0) n x0 x1 x2)
def laws_heldColS_e (D:DX)(n:Nat) (lp0:tCols→Int→Int→Option ((Int×Unit)×Unit)) (a0:tCols) (a1:Int):Option ((Int×Unit)×Unit):=lp0 a0 a1 0
def F_laws_heldColS (D:DX)(n:Nat) (a0:tCols) (a1:Int):Option ((Int×Unit)×Unit):=laws_heldColS_e D n (laws_heldColS_LP0 D n) a0 a1
def laws_heldColS_Q0 (x0:tCols) (x1:Int) (x2:Int):St:=stq 43 [(0,AV.val (Ty.sl yC) x0),(1,avI x1),(5,avI x2)] [] 
def laws_heldColS_Q0_0 (v0_0:Int) (v0_1:Int):St:=stq 43 [(1,avI v0_0),(4,avI v0_1)] [] 
def laws_heldColS_Q0_1 (v1_0:Int):St:=stq 43 [(1,avI v1_0)] [] 
theorem laws_heldColS_SB0 (D:DX)(n:Nat) (m:Nat) (K:Ex→St→Option (Out ctx 186)) (x0:tCols) (x1:Int) (x2:Int) :
  LQ funcTab D n 186 [.r,.l,.r,.l] (m+1) (laws_heldColS_Q0 x0 x1 x2) K=laws_heldColS_b0 D n (fun x0 x1 x2=>LQ funcTab D n 186 [.r,.l,.r,.l] m (laws_heldColS_Q0 x0 x1 x2) K) (fun v0_0 v0_1=>K (Ex.ret) (laws_heldColS_Q0_0 v0_0 v0_1)) (fun v1_0=>K (Ex.exit 0) (laws_heldColS_Q0_1 v1_0)) x0 x1 x2:=by kernel_rfl
theorem laws_heldColS_EL0 (D:DX)(n:Nat) (K:Ex→St→Option (Out ctx 186)):∀ (m:Nat) (x0:tCols) (x1:Int) (x2:Int),LQ funcTab D n 186 [.r,.l,.r,.l] m (laws_heldColS_Q0 x0 x1 x2) K=laws_heldColS_L0 D n (fun v0_0 v0_1=>K (Ex.ret) (laws_heldColS_Q0_0 v0_0 v0_1)) (fun v1_0=>K (Ex.exit 0) (laws_heldColS_Q0_1 v1_0)) m x0 x1 x2
  | 0,x0,x1,x2=>LQ_zero ..
  | m+1,x0,x1,x2=>by
    have ih:(fun x0 x1 x2=>LQ funcTab D n 186 [.r,.l,.r,.l] m (laws_heldColS_Q0 x0 x1 x2) K)=laws_heldColS_L0 D n (fun v0_0 v0_1=>K (Ex.ret) (laws_heldColS_Q0_0 v0_0 v0_1)) (fun v1_0=>K (Ex.exit 0) (laws_heldColS_Q0_1 v1_0)) m:=by funext x0 x1 x2;exact laws_heldColS_EL0 D n K m x0 x1 x2
    rw[laws_heldColS_SB0]
    rw[ih];rfl
theorem laws_heldColS_X0_0 (D:DX)(n:Nat) (v0_0:Int) (v0_1:Int) :
  (CQ funcTab D n 186 [] [.r,.l,.r,.l] (lastK funcTab 186)) (Ex.ret) (laws_heldColS_Q0_0 v0_0 v0_1)=laws_heldColS_x0_0 D n v0_0 v0_1:=by kernel_rfl
theorem laws_heldColS_X0_1 (D:DX)(n:Nat) (v1_0:Int) :
  (CQ funcTab D n 186 [] [.r,.l,.r,.l] (lastK funcTab 186)) (Ex.exit 0) (laws_heldColS_Q0_1 v1_0)=laws_heldColS_x0_1 D n v1_0:=by kernel_rfl
theorem laws_heldColS_ELP0 (D:DX)(n:Nat) (x0:tCols) (x1:Int) (x2:Int) :
  LQ funcTab D n 186 [.r,.l,.r,.l] n (laws_heldColS_Q0 x0 x1 x2) (CQ funcTab D n 186 [] [.r,.l,.r,.l] (lastK funcTab 186))=laws_heldColS_LP0 D n x0 x1 x2:=by
  rw[laws_heldColS_EL0]
  simp only[laws_heldColS_X0_0,laws_heldColS_X0_1]
  rfl
theorem E_laws_heldColS (D:DX)(n:Nat) (a0:tCols) (a1:Int):rfC funcTab D n 186 (a0,(a1,()))=F_laws_heldColS D n a0 a1:=by
  have h:rfC funcTab D n 186 (a0,(a1,()))=laws_heldColS_e D n (fun x0 x1 x2=>LQ funcTab D n 186 [.r,.l,.r,.l] n (laws_heldColS_Q0 x0 x1 x2) (CQ funcTab D n 186 [] [.r,.l,.r,.l] (lastK funcTab 186))) a0 a1:=by kernel_rfl
  rw[h]
  simp only[laws_heldColS_ELP0]
  rfl

def laws_heldIntS_b0 (D:DX)(n:Nat) (go:List Int→Int→Int→Option ((Int×Unit)×Unit)) (K0:Int→Int→Option ((Int×Unit)×Unit)) (K1:Int→Option ((Int×Unit)×Unit)) (x0:List Int) (x1:Int) (x2:Int):Option ((Int×Unit)×Unit):=br (decide (x2<(↑(List.length x0):Int))) (br (decide (0≤x2)&&decide (x2<(↑(List.length x0):Int))) (br (List.getD x0 (Int.toNat x2) 0 != x1) (K0 x1 (-1)) (go x0 (IntKind.wrap IntKind.i64 (x1+1)) (IntKind.wrap IntKind.i64 (x2+1)))) none) (K1 x1)
def laws_heldIntS_L0 (D:DX)(n:Nat) (K0:Int→Int→Option ((Int×Unit)×Unit)) (K1:Int→Option ((Int×Unit)×Unit)):Nat→(List Int)→(Int)→(Int)→Option ((Int×Unit)×Unit) | 0=>(fun x0 x1 x2=>none) | m+1=>(fun x0 x1 x2=>laws_heldIntS_b0 D n (laws_heldIntS_L0 D n K0 K1 m) K0 K1 x0 x1 x2)
def laws_heldIntS_x0_0 (D:DX)(n:Nat) (v0_0:Int) (v0_1:Int):Option ((Int×Unit)×Unit):=some ((v0_1,()),())
def laws_heldIntS_x0_1 (D:DX)(n:Nat) (v1_0:Int):Option ((Int×Unit)×Unit):=some ((v1_0,()),())
def laws_heldIntS_LP0 (D:DX)(n:Nat):(List Int)→(Int)→(Int)→Option ((Int×Unit)×Unit):=(fun x0 x1 x2=>laws_heldIntS_L0 D n (fun v0_0 v0_1=>laws_heldIntS_x0_0 D n v0_0 v0_1) (fun v1_0=>laws_heldIntS_x0_1 D n v1_0) n x0 x1 x2)
def laws_heldIntS_e (D:DX)(n:Nat) (lp0:List Int→Int→Int→Option ((Int×Unit)×Unit)) (a0:List Int) (a1:Int):Option ((Int×Unit)×Unit):=lp0 a0 a1 0
def F_laws_heldIntS (D:DX)(n:Nat) (a0:List Int) (a1:Int):Option ((Int×Unit)×Unit):=laws_heldIntS_e D n (laws_heldIntS_LP0 D n) a0 a1
def laws_heldIntS_Q0 (x0:List Int) (x1:Int) (x2:Int):St:=stq 21 [(0,AV.val (Ty.sl yI) x0),(1,avI x1),(5,avI x2)] [] 
def laws_heldIntS_Q0_0 (v0_0:Int) (v0_1:Int):St:=stq 21 [(1,avI v0_0),(4,avI v0_1)] [] 
def laws_heldIntS_Q0_1 (v1_0:Int):St:=stq 21 [(1,avI v1_0)] [] 
theorem laws_heldIntS_SB0 (D:DX)(n:Nat) (m:Nat) (K:Ex→St→Option (Out ctx 187)) (x0:List Int) (x1:Int) (x2:Int) :
  LQ funcTab D n 187 [.r,.l,.r,.l] (m+1) (laws_heldIntS_Q0 x0 x1 x2) K=laws_heldIntS_b0 D n (fun x0 x1 x2=>LQ funcTab D n 187 [.r,.l,.r,.l] m (laws_heldIntS_Q0 x0 x1 x2) K) (fun v0_0 v0_1=>K (Ex.ret) (laws_heldIntS_Q0_0 v0_0 v0_1)) (fun v1_0=>K (Ex.exit 0) (laws_heldIntS_Q0_1 v1_0)) x0 x1 x2:=by kernel_rfl
theorem laws_heldIntS_EL0 (D:DX)(n:Nat) (K:Ex→St→Option (Out ctx 187)):∀ (m:Nat) (x0:List Int) (x1:Int) (x2:Int),LQ funcTab D n 187 [.r,.l,.r,.l] m (laws_heldIntS_Q0 x0 x1 x2) K=laws_heldIntS_L0 D n (fun v0_0 v0_1=>K (Ex.ret) (laws_heldIntS_Q0_0 v0_0 v0_1)) (fun v1_0=>K (Ex.exit 0) (laws_heldIntS_Q0_1 v1_0)) m x0 x1 x2
  | 0,x0,x1,x2=>LQ_zero ..
  | m+1,x0,x1,x2=>by
    have ih:(fun x0 x1 x2=>LQ funcTab D n 187 [.r,.l,.r,.l] m (laws_heldIntS_Q0 x0 x1 x2) K)=laws_heldIntS_L0 D n (fun v0_0 v0_1=>K (Ex.ret) (laws_heldIntS_Q0_0 v0_0 v0_1)) (fun v1_0=>K (Ex.exit 0) (laws_heldIntS_Q0_1 v1_0)) m:=by funext x0 x1 x2;exact laws_heldIntS_EL0 D n K m x0 x1 x2
    rw[laws_heldIntS_SB0]
    rw[ih];rfl
theorem laws_heldIntS_X0_0 (D:DX)(n:Nat) (v0_0:Int) (v0_1:Int) :
  (CQ funcTab D n 187 [] [.r,.l,.r,.l] (lastK funcTab 187)) (Ex.ret) (laws_heldIntS_Q0_0 v0_0 v0_1)=laws_heldIntS_x0_0 D n v0_0 v0_1:=by kernel_rfl
theorem laws_heldIntS_X0_1 (D:DX)(n:Nat) (v1_0:Int) :
  (CQ funcTab D n 187 [] [.r,.l,.r,.l] (lastK funcTab 187)) (Ex.exit 0) (laws_heldIntS_Q0_1 v1_0)=laws_heldIntS_x0_1 D n v1_0:=by kernel_rfl
theorem laws_heldIntS_ELP0 (D:DX)(n:Nat) (x0:List Int) (x1:Int) (x2:Int) :
  LQ funcTab D n 187 [.r,.l,.r,.l] n (laws_heldIntS_Q0 x0 x1 x2) (CQ funcTab D n 187 [] [.r,.l,.r,.l] (lastK funcTab 187))=laws_heldIntS_LP0 D n x0 x1 x2:=by
  rw[laws_heldIntS_EL0]
  simp only[laws_heldIntS_X0_0,laws_heldIntS_X0_1]
  rfl
theorem E_laws_heldIntS (D:DX)(n:Nat) (a0:List Int) (a1:Int):rfC funcTab D n 187 (a0,(a1,()))=F_laws_heldIntS D n a0 a1:=by
  have h:rfC funcTab D n 187 (a0,(a1,()))=laws_heldIntS_e D n (fun x0 x1 x2=>LQ funcTab D n 187 [.r,.l,.r,.l] n (laws_heldIntS_Q0 x0 x1 x2) (CQ funcTab D n 187 [] [.r,.l,.r,.l] (lastK funcTab 187))) a0 a1:=by kernel_rfl
  rw[h]
  simp only[laws_heldIntS_ELP0]
  rfl

def laws_heldIndexS_b0 (D:DX)(n:Nat) (go:tIxs→Int→Int→Option ((Int×Unit)×Unit)) (K0:Int→Int→Option ((Int×Unit)×Unit)) (K1:Int→Option ((Int×Unit)×Unit)) (x0:tIxs) (x1:Int) (x2:Int):Option ((Int×Unit)×Unit):=br (decide (x2<(↑(List.length x0):Int))) (br (decide (0≤x2)&&decide (x2<(↑(List.length x0):Int))) (bindD (C_laws_markText D x1) fun b↦br (!List.beq (ByteArray.toList (Prod.fst (List.getD x0 (Int.toNat x2) (ByteArray.empty,[],false,())))) (ByteArray.toList (Prod.fst (Prod.fst b)))) (K0 x1 (-1)) (br (decide (0≤x2)&&decide (x2<(↑(List.length x0):Int))) (bindD (C_laws_heldIntS D (Prod.fst (Prod.snd (List.getD x0 (Int.toNat x2) (ByteArray.empty,[],false,())))) (IntKind.wrap IntKind.i64 (x1+1))) fun b↦br (decide (Prod.fst (Prod.fst b)<0)) (K0 (Prod.fst (Prod.fst b)) (-1)) (br (decide (0≤x2)&&decide (x2<(↑(List.length x0):Int))) (br (!decide (Prod.fst (Prod.snd (Prod.snd (List.getD x0 (Int.toNat x2) (ByteArray.empty,[],false,()))))=decide (Int.tmod (Prod.fst (Prod.fst b)) 3=0))) (K0 (Prod.fst (Prod.fst b)) (-1)) (go x0 (IntKind.wrap IntKind.i64 (Prod.fst (Prod.fst b)+1)) (IntKind.wrap IntKind.i64 (x2+1)))) none)) none)) none) (K1 x1)
def laws_heldIndexS_L0 (D:DX)(n:Nat) (K0:Int→Int→Option ((Int×Unit)×Unit)) (K1:Int→Option ((Int×Unit)×Unit)):Nat→(tIxs)→(Int)→(Int)→Option ((Int×Unit)×Unit) | 0=>(fun x0 x1 x2=>none) | m+1=>(fun x0 x1 x2=>laws_heldIndexS_b0 D n (laws_heldIndexS_L0 D n K0 K1 m) K0 K1 x0 x1 x2)
def laws_heldIndexS_x0_0 (D:DX)(n:Nat) (v0_0:Int) (v0_1:Int):Option ((Int×Unit)×Unit):=some ((v0_1,()),())
def laws_heldIndexS_x0_1 (D:DX)(n:Nat) (v1_0:Int):Option ((Int×Unit)×Unit):=some ((v1_0,()),())
def laws_heldIndexS_LP0 (D:DX)(n:Nat):(tIxs)→(Int)→(Int)→Option ((Int×Unit)×Unit):=(fun x0 x1 x2=>laws_heldIndexS_L0 D n (fun v0_0 v0_1=>laws_heldIndexS_x0_0 D n v0_0 v0_1) (fun v1_0=>laws_heldIndexS_x0_1 D n v1_0) n x0 x1 x2)
def laws_heldIndexS_e (D:DX)(n:Nat) (lp0:tIxs→Int→Int→Option ((Int×Unit)×Unit)) (a0:tIxs) (a1:Int):Option ((Int×Unit)×Unit):=lp0 a0 a1 0
def F_laws_heldIndexS (D:DX)(n:Nat) (a0:tIxs) (a1:Int):Option ((Int×Unit)×Unit):=laws_heldIndexS_e D n (laws_heldIndexS_LP0 D n) a0 a1
def laws_heldIndexS_Q0 (x0:tIxs) (x1:Int) (x2:Int):St:=stq 43 [(0,AV.val (Ty.sl yX) x0),(1,avI x1),(5,avI x2)] [] 
def laws_heldIndexS_Q0_0 (v0_0:Int) (v0_1:Int):St:=stq 43 [(1,avI v0_0),(4,avI v0_1)] [] 
def laws_heldIndexS_Q0_1 (v1_0:Int):St:=stq 43 [(1,avI v1_0)] [] 
theorem laws_heldIndexS_SB0 (D:DX)(n:Nat) (m:Nat) (K:Ex→St→Option (Out ctx 188)) (x0:tIxs) (x1:Int) (x2:Int) :
  LQ funcTab D n 188 [.r,.l,.r,.l] (m+1) (laws_heldIndexS_Q0 x0 x1 x2) K=laws_heldIndexS_b0 D n (fun x0 x1 x2=>LQ funcTab D n 188 [.r,.l,.r,.l] m (laws_heldIndexS_Q0 x0 x1 x2) K) (fun v0_0 v0_1=>K (Ex.ret) (laws_heldIndexS_Q0_0 v0_0 v0_1)) (fun v1_0=>K (Ex.exit 0) (laws_heldIndexS_Q0_1 v1_0)) x0 x1 x2:=by kernel_rfl
theorem laws_heldIndexS_EL0 (D:DX)(n:Nat) (K:Ex→St→Option (Out ctx 188)):∀ (m:Nat) (x0:tIxs) (x1:Int) (x2:Int),LQ funcTab D n 188 [.r,.l,.r,.l] m (laws_heldIndexS_Q0 x0 x1 x2) K=laws_heldIndexS_L0 D n (fun v0_0 v0_1=>K (Ex.ret) (laws_heldIndexS_Q0_0 v0_0 v0_1)) (fun v1_0=>K (Ex.exit 0) (laws_heldIndexS_Q0_1 v1_0)) m x0 x1 x2
  | 0,x0,x1,x2=>LQ_zero ..
  | m+1,x0,x1,x2=>by
    have ih:(fun x0 x1 x2=>LQ funcTab D n 188 [.r,.l,.r,.l] m (laws_heldIndexS_Q0 x0 x1 x2) K)=laws_heldIndexS_L0 D n (fun v0_0 v0_1=>K (Ex.ret) (laws_heldIndexS_Q0_0 v0_0 v0_1)) (fun v1_0=>K (Ex.exit 0) (laws_heldIndexS_Q0_1 v1_0)) m:=by funext x0 x1 x2;exact laws_heldIndexS_EL0 D n K m x0 x1 x2
    rw[laws_heldIndexS_SB0]
    rw[ih];rfl
theorem laws_heldIndexS_X0_0 (D:DX)(n:Nat) (v0_0:Int) (v0_1:Int) :
  (CQ funcTab D n 188 [] [.r,.l,.r,.l] (lastK funcTab 188)) (Ex.ret) (laws_heldIndexS_Q0_0 v0_0 v0_1)=laws_heldIndexS_x0_0 D n v0_0 v0_1:=by kernel_rfl
theorem laws_heldIndexS_X0_1 (D:DX)(n:Nat) (v1_0:Int) :
  (CQ funcTab D n 188 [] [.r,.l,.r,.l] (lastK funcTab 188)) (Ex.exit 0) (laws_heldIndexS_Q0_1 v1_0)=laws_heldIndexS_x0_1 D n v1_0:=by kernel_rfl
theorem laws_heldIndexS_ELP0 (D:DX)(n:Nat) (x0:tIxs) (x1:Int) (x2:Int) :
  LQ funcTab D n 188 [.r,.l,.r,.l] n (laws_heldIndexS_Q0 x0 x1 x2) (CQ funcTab D n 188 [] [.r,.l,.r,.l] (lastK funcTab 188))=laws_heldIndexS_LP0 D n x0 x1 x2:=by
  rw[laws_heldIndexS_EL0]
  simp only[laws_heldIndexS_X0_0,laws_heldIndexS_X0_1]
  rfl
theorem E_laws_heldIndexS (D:DX)(n:Nat) (a0:tIxs) (a1:Int):rfC funcTab D n 188 (a0,(a1,()))=F_laws_heldIndexS D n a0 a1:=by
  have h:rfC funcTab D n 188 (a0,(a1,()))=laws_heldIndexS_e D n (fun x0 x1 x2=>LQ funcTab D n 188 [.r,.l,.r,.l] n (laws_heldIndexS_Q0 x0 x1 x2) (CQ funcTab D n 188 [] [.r,.l,.r,.l] (lastK funcTab 188))) a0 a1:=by kernel_rfl
  rw[h]
  simp only[laws_heldIndexS_ELP0]
  rfl

def laws_heldValueS_b0 (D:DX)(n:Nat) (go:tVals→Int→Int→Option ((Int×Unit)×Unit)) (K0:Int→Int→Option ((Int×Unit)×Unit)) (K1:Int→Option ((Int×Unit)×Unit)) (x0:tVals) (x1:Int) (x2:Int):Option ((Int×Unit)×Unit):=br (decide (x2<(↑(List.length x0):Int))) (br (decide (0≤x2)&&decide (x2<(↑(List.length x0):Int))) (br (Prod.fst (List.getD x0 (Int.toNat x2) (0,0,ByteArray.empty,())) != x1) (K0 x1 (-1)) (br (decide (0≤x2)&&decide (x2<(↑(List.length x0):Int))) (br (Prod.fst (Prod.snd (List.getD x0 (Int.toNat x2) (0,0,ByteArray.empty,()))) != IntKind.wrap IntKind.i64 (x1+1)) (K0 (IntKind.wrap IntKind.i64 (x1+1)) (-1)) (br (decide (0≤x2)&&decide (x2<(↑(List.length x0):Int))) (bindD (C_laws_markText D (IntKind.wrap IntKind.i64 (IntKind.wrap IntKind.i64 (x1+1)+1))) fun b↦br (!List.beq (ByteArray.toList (Prod.fst (Prod.snd (Prod.snd (List.getD x0 (Int.toNat x2) (0,0,ByteArray.empty,())))))) (ByteArray.toList (Prod.fst (Prod.fst b)))) (K0 (IntKind.wrap IntKind.i64 (IntKind.wrap IntKind.i64 (x1+1)+1)) (-1)) (go x0 (IntKind.wrap IntKind.i64 (IntKind.wrap IntKind.i64 (IntKind.wrap IntKind.i64 (x1+1)+1)+1)) (IntKind.wrap IntKind.i64 (x2+1)))) none)) none)) none) (K1 x1)
def laws_heldValueS_L0 (D:DX)(n:Nat) (K0:Int→Int→Option ((Int×Unit)×Unit)) (K1:Int→Option ((Int×Unit)×Unit)):Nat→(tVals)→(Int)→(Int)→Option ((Int×Unit)×Unit) | 0=>(fun x0 x1 x2=>none) | m+1=>(fun x0 x1 x2=>laws_heldValueS_b0 D n (laws_heldValueS_L0 D n K0 K1 m) K0 K1 x0 x1 x2)
def laws_heldValueS_x0_0 (D:DX)(n:Nat) (v0_0:Int) (v0_1:Int):Option ((Int×Unit)×Unit):=some ((v0_1,()),())
def laws_heldValueS_x0_1 (D:DX)(n:Nat) (v1_0:Int):Option ((Int×Unit)×Unit):=some ((v1_0,()),())
def laws_heldValueS_LP0 (D:DX)(n:Nat):(tVals)→(Int)→(Int)→Option ((Int×Unit)×Unit):=(fun x0 x1 x2=>laws_heldValueS_L0 D n (fun v0_0 v0_1=>laws_heldValueS_x0_0 D n v0_0 v0_1) (fun v1_0=>laws_heldValueS_x0_1 D n v1_0) n x0 x1 x2)
def laws_heldValueS_e (D:DX)(n:Nat) (lp0:tVals→Int→Int→Option ((Int×Unit)×Unit)) (a0:tVals) (a1:Int):Option ((Int×Unit)×Unit):=lp0 a0 a1 0
def F_laws_heldValueS (D:DX)(n:Nat) (a0:tVals) (a1:Int):Option ((Int×Unit)×Unit):=laws_heldValueS_e D n (laws_heldValueS_LP0 D n) a0 a1
def laws_heldValueS_Q0 (x0:tVals) (x1:Int) (x2:Int):St:=stq 41 [(0,AV.val (Ty.sl yV) x0),(1,avI x1),(5,avI x2)] [] 
def laws_heldValueS_Q0_0 (v0_0:Int) (v0_1:Int):St:=stq 41 [(1,avI v0_0),(4,avI v0_1)] [] 
def laws_heldValueS_Q0_1 (v1_0:Int):St:=stq 41 [(1,avI v1_0)] [] 
theorem laws_heldValueS_SB0 (D:DX)(n:Nat) (m:Nat) (K:Ex→St→Option (Out ctx 189)) (x0:tVals) (x1:Int) (x2:Int) :
  LQ funcTab D n 189 [.r,.l,.r,.l] (m+1) (laws_heldValueS_Q0 x0 x1 x2) K=laws_heldValueS_b0 D n (fun x0 x1 x2=>LQ funcTab D n 189 [.r,.l,.r,.l] m (laws_heldValueS_Q0 x0 x1 x2) K) (fun v0_0 v0_1=>K (Ex.ret) (laws_heldValueS_Q0_0 v0_0 v0_1)) (fun v1_0=>K (Ex.exit 0) (laws_heldValueS_Q0_1 v1_0)) x0 x1 x2:=by kernel_rfl
theorem laws_heldValueS_EL0 (D:DX)(n:Nat) (K:Ex→St→Option (Out ctx 189)):∀ (m:Nat) (x0:tVals) (x1:Int) (x2:Int),LQ funcTab D n 189 [.r,.l,.r,.l] m (laws_heldValueS_Q0 x0 x1 x2) K=laws_heldValueS_L0 D n (fun v0_0 v0_1=>K (Ex.ret) (laws_heldValueS_Q0_0 v0_0 v0_1)) (fun v1_0=>K (Ex.exit 0) (laws_heldValueS_Q0_1 v1_0)) m x0 x1 x2
  | 0,x0,x1,x2=>LQ_zero ..
  | m+1,x0,x1,x2=>by
    have ih:(fun x0 x1 x2=>LQ funcTab D n 189 [.r,.l,.r,.l] m (laws_heldValueS_Q0 x0 x1 x2) K)=laws_heldValueS_L0 D n (fun v0_0 v0_1=>K (Ex.ret) (laws_heldValueS_Q0_0 v0_0 v0_1)) (fun v1_0=>K (Ex.exit 0) (laws_heldValueS_Q0_1 v1_0)) m:=by funext x0 x1 x2;exact laws_heldValueS_EL0 D n K m x0 x1 x2
    rw[laws_heldValueS_SB0]
    rw[ih];rfl
theorem laws_heldValueS_X0_0 (D:DX)(n:Nat) (v0_0:Int) (v0_1:Int) :
  (CQ funcTab D n 189 [] [.r,.l,.r,.l] (lastK funcTab 189)) (Ex.ret) (laws_heldValueS_Q0_0 v0_0 v0_1)=laws_heldValueS_x0_0 D n v0_0 v0_1:=by kernel_rfl
theorem laws_heldValueS_X0_1 (D:DX)(n:Nat) (v1_0:Int) :
  (CQ funcTab D n 189 [] [.r,.l,.r,.l] (lastK funcTab 189)) (Ex.exit 0) (laws_heldValueS_Q0_1 v1_0)=laws_heldValueS_x0_1 D n v1_0:=by kernel_rfl
theorem laws_heldValueS_ELP0 (D:DX)(n:Nat) (x0:tVals) (x1:Int) (x2:Int) :
  LQ funcTab D n 189 [.r,.l,.r,.l] n (laws_heldValueS_Q0 x0 x1 x2) (CQ funcTab D n 189 [] [.r,.l,.r,.l] (lastK funcTab 189))=laws_heldValueS_LP0 D n x0 x1 x2:=by
  rw[laws_heldValueS_EL0]
  simp only[laws_heldValueS_X0_0,laws_heldValueS_X0_1]
  rfl
theorem E_laws_heldValueS (D:DX)(n:Nat) (a0:tVals) (a1:Int):rfC funcTab D n 189 (a0,(a1,()))=F_laws_heldValueS D n a0 a1:=by
  have h:rfC funcTab D n 189 (a0,(a1,()))=laws_heldValueS_e D n (fun x0 x1 x2=>LQ funcTab D n 189 [.r,.l,.r,.l] n (laws_heldValueS_Q0 x0 x1 x2) (CQ funcTab D n 189 [] [.r,.l,.r,.l] (lastK funcTab 189))) a0 a1:=by kernel_rfl
  rw[h]
  simp only[laws_heldValueS_ELP0]
  rfl



def slices_IndexFunc_impl_Index_impl_Index_b0 (D:DX)(n:Nat) (a1:Clo) (go:tIxs→Int→Int→Option ((Int×Unit)×Unit)) (K0:Int→Option ((Int×Unit)×Unit)) (K1:Option ((Int×Unit)×Unit)) (x0:tIxs) (x1:Int) (x2:Int):Option ((Int×Unit)×Unit):=br (decide (x2<x1)) (br (decide (0≤x2)&&decide (x2<(↑(List.length x0):Int))) (bindD (applyClo ctx D a1 [CapV.val (Ty.pair Ty.str (Ty.pair (Ty.sl (Ty.int IntKind.i64)) (Ty.pair Ty.bool Ty.unit))) (List.getD x0 (Int.toNat x2) (ByteArray.empty,[],false,()))] Ty.bool) fun b↦br b (K0 x2) (go x0 x1 (IntKind.wrap IntKind.i64 (x2+1)))) none) K1
def slices_IndexFunc_impl_Index_impl_Index_L0 (D:DX)(n:Nat) (a1:Clo) (K0:Int→Option ((Int×Unit)×Unit)) (K1:Option ((Int×Unit)×Unit)):Nat→(tIxs)→(Int)→(Int)→Option ((Int×Unit)×Unit) | 0=>(fun x0 x1 x2=>none) | m+1=>(fun x0 x1 x2=>slices_IndexFunc_impl_Index_impl_Index_b0 D n a1 (slices_IndexFunc_impl_Index_impl_Index_L0 D n a1 K0 K1 m) K0 K1 x0 x1 x2)
def slices_IndexFunc_impl_Index_impl_Index_x0_0 (D:DX)(n:Nat) (a1:Clo) (v0_0:Int):Option ((Int×Unit)×Unit):=some ((v0_0,()),())
def slices_IndexFunc_impl_Index_impl_Index_x0_1 (D:DX)(n:Nat) (a1:Clo):Option ((Int×Unit)×Unit):=some ((-1,()),())
def slices_IndexFunc_impl_Index_impl_Index_LP0 (D:DX)(n:Nat) (a1:Clo):(tIxs)→(Int)→(Int)→Option ((Int×Unit)×Unit):=(fun x0 x1 x2=>slices_IndexFunc_impl_Index_impl_Index_L0 D n a1 (fun v0_0=>slices_IndexFunc_impl_Index_impl_Index_x0_0 D n a1 v0_0) (slices_IndexFunc_impl_Index_impl_Index_x0_1 D n a1) n x0 x1 x2)
def slices_IndexFunc_impl_Index_impl_Index_e (D:DX)(n:Nat) (a1:Clo) (lp0:tIxs→Int→Int→Option ((Int×Unit)×Unit)) (a0:tIxs):Option ((Int×Unit)×Unit):=lp0 a0 (↑(List.length a0):Int) 0
def F_slices_IndexFunc_impl_Index_impl_Index (D:DX)(n:Nat) (a0:tIxs) (a1:Clo):Option ((Int×Unit)×Unit):=slices_IndexFunc_impl_Index_impl_Index_e D n a1 (slices_IndexFunc_impl_Index_impl_Index_LP0 D n a1) a0
def slices_IndexFunc_impl_Index_impl_Index_Q0 (a1:Clo) (x0:tIxs) (x1:Int) (x2:Int):St:=stq 19 [(0,AV.val (Ty.sl yX) x0),(1,AV.cloV a1),(7,avI x1),(8,avI x2)] [] 
def slices_IndexFunc_impl_Index_impl_Index_Q0_0 (a1:Clo) (v0_0:Int):St:=stq 19 [(4,avI v0_0)] [] 
def slices_IndexFunc_impl_Index_impl_Index_Q0_1 (a1:Clo):St:=stq 19 [] [] 
theorem slices_IndexFunc_impl_Index_impl_Index_SB0 (D:DX)(n:Nat) (a1:Clo) (m:Nat) (K:Ex→St→Option (Out ctx 193)) (x0:tIxs) (x1:Int) (x2:Int) :
  LQ funcTab D n 193 [.r,.l,.r,.l] (m+1) (slices_IndexFunc_impl_Index_impl_Index_Q0 a1 x0 x1 x2) K=slices_IndexFunc_impl_Index_impl_Index_b0 D n a1 (fun x0 x1 x2=>LQ funcTab D n 193 [.r,.l,.r,.l] m (slices_IndexFunc_impl_Index_impl_Index_Q0 a1 x0 x1 x2) K) (fun v0_0=>K (Ex.ret) (slices_IndexFunc_impl_Index_impl_Index_Q0_0 a1 v0_0)) (K (Ex.exit 0) (slices_IndexFunc_impl_Index_impl_Index_Q0_1 a1)) x0 x1 x2:=by kernel_rfl
theorem slices_IndexFunc_impl_Index_impl_Index_EL0 (D:DX)(n:Nat) (a1:Clo) (K:Ex→St→Option (Out ctx 193)):∀ (m:Nat) (x0:tIxs) (x1:Int) (x2:Int),LQ funcTab D n 193 [.r,.l,.r,.l] m (slices_IndexFunc_impl_Index_impl_Index_Q0 a1 x0 x1 x2) K=slices_IndexFunc_impl_Index_impl_Index_L0 D n a1 (fun v0_0=>K (Ex.ret) (slices_IndexFunc_impl_Index_impl_Index_Q0_0 a1 v0_0)) (K (Ex.exit 0) (slices_IndexFunc_impl_Index_impl_Index_Q0_1 a1)) m x0 x1 x2
  | 0,x0,x1,x2=>LQ_zero ..
  | m+1,x0,x1,x2=>by
    have ih:(fun x0 x1 x2=>LQ funcTab D n 193 [.r,.l,.r,.l] m (slices_IndexFunc_impl_Index_impl_Index_Q0 a1 x0 x1 x2) K)=slices_IndexFunc_impl_Index_impl_Index_L0 D n a1 (fun v0_0=>K (Ex.ret) (slices_IndexFunc_impl_Index_impl_Index_Q0_0 a1 v0_0)) (K (Ex.exit 0) (slices_IndexFunc_impl_Index_impl_Index_Q0_1 a1)) m:=by funext x0 x1 x2;exact slices_IndexFunc_impl_Index_impl_Index_EL0 D n a1 K m x0 x1 x2
    rw[slices_IndexFunc_impl_Index_impl_Index_SB0]
    rw[ih];rfl
theorem slices_IndexFunc_impl_Index_impl_Index_X0_0 (D:DX)(n:Nat) (a1:Clo) (v0_0:Int) :
  (CQ funcTab D n 193 [] [.r,.l,.r,.l] (lastK funcTab 193)) (Ex.ret) (slices_IndexFunc_impl_Index_impl_Index_Q0_0 a1 v0_0)=slices_IndexFunc_impl_Index_impl_Index_x0_0 D n a1 v0_0:=by kernel_rfl
theorem slices_IndexFunc_impl_Index_impl_Index_X0_1 (D:DX)(n:Nat) (a1:Clo) :
  (CQ funcTab D n 193 [] [.r,.l,.r,.l] (lastK funcTab 193)) (Ex.exit 0) (slices_IndexFunc_impl_Index_impl_Index_Q0_1 a1)=slices_IndexFunc_impl_Index_impl_Index_x0_1 D n a1:=by kernel_rfl
theorem slices_IndexFunc_impl_Index_impl_Index_ELP0 (D:DX)(n:Nat) (a1:Clo) (x0:tIxs) (x1:Int) (x2:Int) :
  LQ funcTab D n 193 [.r,.l,.r,.l] n (slices_IndexFunc_impl_Index_impl_Index_Q0 a1 x0 x1 x2) (CQ funcTab D n 193 [] [.r,.l,.r,.l] (lastK funcTab 193))=slices_IndexFunc_impl_Index_impl_Index_LP0 D n a1 x0 x1 x2:=by
  rw[slices_IndexFunc_impl_Index_impl_Index_EL0]
  simp only[slices_IndexFunc_impl_Index_impl_Index_X0_0,slices_IndexFunc_impl_Index_impl_Index_X0_1]
  rfl
theorem E_slices_IndexFunc_impl_Index_impl_Index (D:DX)(n:Nat) (a0:tIxs) (a1:Clo):rfC funcTab D n 193 (a0,(a1,()))=F_slices_IndexFunc_impl_Index_impl_Index D n a0 a1:=by
  have h:rfC funcTab D n 193 (a0,(a1,()))=slices_IndexFunc_impl_Index_impl_Index_e D n a1 (fun x0 x1 x2=>LQ funcTab D n 193 [.r,.l,.r,.l] n (slices_IndexFunc_impl_Index_impl_Index_Q0 a1 x0 x1 x2) (CQ funcTab D n 193 [] [.r,.l,.r,.l] (lastK funcTab 193))) a0:=by kernel_rfl
  rw[h]
  simp only[slices_IndexFunc_impl_Index_impl_Index_ELP0]
  rfl

def slices_Index_impl_Value_impl_Value_b0 (D:DX)(n:Nat) (go:tVals→Int→Int→Int×Int×ByteArray×Unit→Option ((Int×Unit)×Unit)) (K0:Int→Option ((Int×Unit)×Unit)) (K1:Option ((Int×Unit)×Unit)) (x0:tVals) (x1:Int) (x2:Int) (x3:Int×Int×ByteArray×Unit):Option ((Int×Unit)×Unit):=br (decide (x2<x1)) (br (decide (0≤x2)&&decide (x2<(↑(List.length x0):Int))) (br (eqDen (Ty.pair (Ty.int IntKind.i64) (Ty.pair (Ty.int IntKind.i64) (Ty.pair Ty.str Ty.unit))) x3 (List.getD x0 (Int.toNat x2) (0,0,ByteArray.empty,()))) (K0 x2) (go x0 x1 (IntKind.wrap IntKind.i64 (x2+1)) x3)) none) K1
def slices_Index_impl_Value_impl_Value_L0 (D:DX)(n:Nat) (K0:Int→Option ((Int×Unit)×Unit)) (K1:Option ((Int×Unit)×Unit)):Nat→(tVals)→(Int)→(Int)→tVal→Option ((Int×Unit)×Unit) | 0=>(fun x0 x1 x2 x3=>none) | m+1=>(fun x0 x1 x2 x3=>slices_Index_impl_Value_impl_Value_b0 D n (slices_Index_impl_Value_impl_Value_L0 D n K0 K1 m) K0 K1 x0 x1 x2 x3)
def slices_Index_impl_Value_impl_Value_x0_0 (D:DX)(n:Nat) (v0_0:Int):Option ((Int×Unit)×Unit):=some ((v0_0,()),())
def slices_Index_impl_Value_impl_Value_x0_1 (D:DX)(n:Nat):Option ((Int×Unit)×Unit):=some ((-1,()),())
def slices_Index_impl_Value_impl_Value_LP0 (D:DX)(n:Nat):(tVals)→(Int)→(Int)→tVal→Option ((Int×Unit)×Unit):=(fun x0 x1 x2 x3=>slices_Index_impl_Value_impl_Value_L0 D n (fun v0_0=>slices_Index_impl_Value_impl_Value_x0_0 D n v0_0) (slices_Index_impl_Value_impl_Value_x0_1 D n) n x0 x1 x2 x3)
def slices_Index_impl_Value_impl_Value_e (D:DX)(n:Nat) (lp0:tVals→Int→Int→Int×Int×ByteArray×Unit→Option ((Int×Unit)×Unit)) (a0:tVals) (a1:Int×Int×ByteArray×Unit):Option ((Int×Unit)×Unit):=lp0 a0 (↑(List.length a0):Int) 0 a1
def F_slices_Index_impl_Value_impl_Value (D:DX)(n:Nat) (a0:tVals) (a1:Int×Int×ByteArray×Unit):Option ((Int×Unit)×Unit):=slices_Index_impl_Value_impl_Value_e D n (slices_Index_impl_Value_impl_Value_LP0 D n) a0 a1
def slices_Index_impl_Value_impl_Value_Q0 (x0:tVals) (x1:Int) (x2:Int) (x3:Int×Int×ByteArray×Unit):St:=stq 19 [(0,AV.val (Ty.sl yV) x0),(3,AV.addr 3 []),(7,avI x1),(8,avI x2)] [(3,Root.mk yV Mk.no x3 true)] 
def slices_Index_impl_Value_impl_Value_Q0_0 (v0_0:Int):St:=stq 19 [(4,avI v0_0)] [] 
def slices_Index_impl_Value_impl_Value_Q0_1:St:=stq 19 [] [] 
theorem slices_Index_impl_Value_impl_Value_SB0 (D:DX)(n:Nat) (m:Nat) (K:Ex→St→Option (Out ctx 194)) (x0:tVals) (x1:Int) (x2:Int) (x3:Int×Int×ByteArray×Unit) :
  LQ funcTab D n 194 [.r,.l,.r,.l] (m+1) (slices_Index_impl_Value_impl_Value_Q0 x0 x1 x2 x3) K=slices_Index_impl_Value_impl_Value_b0 D n (fun x0 x1 x2 x3=>LQ funcTab D n 194 [.r,.l,.r,.l] m (slices_Index_impl_Value_impl_Value_Q0 x0 x1 x2 x3) K) (fun v0_0=>K (Ex.ret) (slices_Index_impl_Value_impl_Value_Q0_0 v0_0)) (K (Ex.exit 0) (slices_Index_impl_Value_impl_Value_Q0_1)) x0 x1 x2 x3:=by kernel_rfl
theorem slices_Index_impl_Value_impl_Value_EL0 (D:DX)(n:Nat) (K:Ex→St→Option (Out ctx 194)):∀ (m:Nat) (x0:tVals) (x1:Int) (x2:Int) (x3:Int×Int×ByteArray×Unit),LQ funcTab D n 194 [.r,.l,.r,.l] m (slices_Index_impl_Value_impl_Value_Q0 x0 x1 x2 x3) K=slices_Index_impl_Value_impl_Value_L0 D n (fun v0_0=>K (Ex.ret) (slices_Index_impl_Value_impl_Value_Q0_0 v0_0)) (K (Ex.exit 0) (slices_Index_impl_Value_impl_Value_Q0_1)) m x0 x1 x2 x3
  | 0,x0,x1,x2,x3=>LQ_zero ..
  | m+1,x0,x1,x2,x3=>by
    have ih:(fun x0 x1 x2 x3=>LQ funcTab D n 194 [.r,.l,.r,.l] m (slices_Index_impl_Value_impl_Value_Q0 x0 x1 x2 x3) K)=slices_Index_impl_Value_impl_Value_L0 D n (fun v0_0=>K (Ex.ret) (slices_Index_impl_Value_impl_Value_Q0_0 v0_0)) (K (Ex.exit 0) (slices_Index_impl_Value_impl_Value_Q0_1)) m:=by funext x0 x1 x2 x3;exact slices_Index_impl_Value_impl_Value_EL0 D n K m x0 x1 x2 x3
    rw[slices_Index_impl_Value_impl_Value_SB0]
    rw[ih];rfl
theorem slices_Index_impl_Value_impl_Value_X0_0 (D:DX)(n:Nat) (v0_0:Int) :
  (CQ funcTab D n 194 [] [.r,.l,.r,.l] (lastK funcTab 194)) (Ex.ret) (slices_Index_impl_Value_impl_Value_Q0_0 v0_0)=slices_Index_impl_Value_impl_Value_x0_0 D n v0_0:=by kernel_rfl
theorem slices_Index_impl_Value_impl_Value_X0_1 (D:DX)(n:Nat) :
  (CQ funcTab D n 194 [] [.r,.l,.r,.l] (lastK funcTab 194)) (Ex.exit 0) (slices_Index_impl_Value_impl_Value_Q0_1)=slices_Index_impl_Value_impl_Value_x0_1 D n:=by kernel_rfl
theorem slices_Index_impl_Value_impl_Value_ELP0 (D:DX)(n:Nat) (x0:tVals) (x1:Int) (x2:Int) (x3:Int×Int×ByteArray×Unit) :
  LQ funcTab D n 194 [.r,.l,.r,.l] n (slices_Index_impl_Value_impl_Value_Q0 x0 x1 x2 x3) (CQ funcTab D n 194 [] [.r,.l,.r,.l] (lastK funcTab 194))=slices_Index_impl_Value_impl_Value_LP0 D n x0 x1 x2 x3:=by
  rw[slices_Index_impl_Value_impl_Value_EL0]
  simp only[slices_Index_impl_Value_impl_Value_X0_0,slices_Index_impl_Value_impl_Value_X0_1]
  rfl
theorem E_slices_Index_impl_Value_impl_Value (D:DX)(n:Nat) (a0:tVals) (a1:Int×Int×ByteArray×Unit):rfC funcTab D n 194 (a0,(a1,()))=F_slices_Index_impl_Value_impl_Value D n a0 a1:=by
  have h:rfC funcTab D n 194 (a0,(a1,()))=slices_Index_impl_Value_impl_Value_e D n (fun x0 x1 x2 x3=>LQ funcTab D n 194 [.r,.l,.r,.l] n (slices_Index_impl_Value_impl_Value_Q0 x0 x1 x2 x3) (CQ funcTab D n 194 [] [.r,.l,.r,.l] (lastK funcTab 194))) a0 a1:=by kernel_rfl
  rw[h]
  simp only[slices_Index_impl_Value_impl_Value_ELP0]
  rfl

def slices_IndexFunc_impl_Col_impl_Col_b0 (D:DX)(n:Nat) (a1:Clo) (go:tCols→Int→Int→Option ((Int×Unit)×Unit)) (K0:Int→Option ((Int×Unit)×Unit)) (K1:Option ((Int×Unit)×Unit)) (x0:tCols) (x1:Int) (x2:Int):Option ((Int×Unit)×Unit):=br (decide (x2<x1)) (br (decide (0≤x2)&&decide (x2<(↑(List.length x0):Int))) (bindD (applyClo ctx D a1 [CapV.val (Ty.pair Ty.str (Ty.pair (Ty.int IntKind.i64) (Ty.pair Ty.bool Ty.unit))) (List.getD x0 (Int.toNat x2) (ByteArray.empty,0,false,()))] Ty.bool) fun b↦br b (K0 x2) (go x0 x1 (IntKind.wrap IntKind.i64 (x2+1)))) none) K1
def slices_IndexFunc_impl_Col_impl_Col_L0 (D:DX)(n:Nat) (a1:Clo) (K0:Int→Option ((Int×Unit)×Unit)) (K1:Option ((Int×Unit)×Unit)):Nat→(tCols)→(Int)→(Int)→Option ((Int×Unit)×Unit) | 0=>(fun x0 x1 x2=>none) | m+1=>(fun x0 x1 x2=>slices_IndexFunc_impl_Col_impl_Col_b0 D n a1 (slices_IndexFunc_impl_Col_impl_Col_L0 D n a1 K0 K1 m) K0 K1 x0 x1 x2)
def slices_IndexFunc_impl_Col_impl_Col_x0_0 (D:DX)(n:Nat) (a1:Clo) (v0_0:Int):Option ((Int×Unit)×Unit):=some ((v0_0,()),())
def slices_IndexFunc_impl_Col_impl_Col_x0_1 (D:DX)(n:Nat) (a1:Clo):Option ((Int×Unit)×Unit):=some ((-1,()),())
def slices_IndexFunc_impl_Col_impl_Col_LP0 (D:DX)(n:Nat) (a1:Clo):(tCols)→(Int)→(Int)→Option ((Int×Unit)×Unit):=(fun x0 x1 x2=>slices_IndexFunc_impl_Col_impl_Col_L0 D n a1 (fun v0_0=>slices_IndexFunc_impl_Col_impl_Col_x0_0 D n a1 v0_0) (slices_IndexFunc_impl_Col_impl_Col_x0_1 D n a1) n x0 x1 x2)
def slices_IndexFunc_impl_Col_impl_Col_e (D:DX)(n:Nat) (a1:Clo) (lp0:tCols→Int→Int→Option ((Int×Unit)×Unit)) (a0:tCols):Option ((Int×Unit)×Unit):=lp0 a0 (↑(List.length a0):Int) 0
def F_slices_IndexFunc_impl_Col_impl_Col (D:DX)(n:Nat) (a0:tCols) (a1:Clo):Option ((Int×Unit)×Unit):=slices_IndexFunc_impl_Col_impl_Col_e D n a1 (slices_IndexFunc_impl_Col_impl_Col_LP0 D n a1) a0
def slices_IndexFunc_impl_Col_impl_Col_Q0 (a1:Clo) (x0:tCols) (x1:Int) (x2:Int):St:=stq 19 [(0,AV.val (Ty.sl yC) x0),(1,AV.cloV a1),(7,avI x1),(8,avI x2)] [] 
def slices_IndexFunc_impl_Col_impl_Col_Q0_0 (a1:Clo) (v0_0:Int):St:=stq 19 [(4,avI v0_0)] [] 
def slices_IndexFunc_impl_Col_impl_Col_Q0_1 (a1:Clo):St:=stq 19 [] [] 
theorem slices_IndexFunc_impl_Col_impl_Col_SB0 (D:DX)(n:Nat) (a1:Clo) (m:Nat) (K:Ex→St→Option (Out ctx 195)) (x0:tCols) (x1:Int) (x2:Int) :
  LQ funcTab D n 195 [.r,.l,.r,.l] (m+1) (slices_IndexFunc_impl_Col_impl_Col_Q0 a1 x0 x1 x2) K=slices_IndexFunc_impl_Col_impl_Col_b0 D n a1 (fun x0 x1 x2=>LQ funcTab D n 195 [.r,.l,.r,.l] m (slices_IndexFunc_impl_Col_impl_Col_Q0 a1 x0 x1 x2) K) (fun v0_0=>K (Ex.ret) (slices_IndexFunc_impl_Col_impl_Col_Q0_0 a1 v0_0)) (K (Ex.exit 0) (slices_IndexFunc_impl_Col_impl_Col_Q0_1 a1)) x0 x1 x2:=by kernel_rfl
theorem slices_IndexFunc_impl_Col_impl_Col_EL0 (D:DX)(n:Nat) (a1:Clo) (K:Ex→St→Option (Out ctx 195)):∀ (m:Nat) (x0:tCols) (x1:Int) (x2:Int),LQ funcTab D n 195 [.r,.l,.r,.l] m (slices_IndexFunc_impl_Col_impl_Col_Q0 a1 x0 x1 x2) K=slices_IndexFunc_impl_Col_impl_Col_L0 D n a1 (fun v0_0=>K (Ex.ret) (slices_IndexFunc_impl_Col_impl_Col_Q0_0 a1 v0_0)) (K (Ex.exit 0) (slices_IndexFunc_impl_Col_impl_Col_Q0_1 a1)) m x0 x1 x2
  | 0,x0,x1,x2=>LQ_zero ..
  | m+1,x0,x1,x2=>by
    have ih:(fun x0 x1 x2=>LQ funcTab D n 195 [.r,.l,.r,.l] m (slices_IndexFunc_impl_Col_impl_Col_Q0 a1 x0 x1 x2) K)=slices_IndexFunc_impl_Col_impl_Col_L0 D n a1 (fun v0_0=>K (Ex.ret) (slices_IndexFunc_impl_Col_impl_Col_Q0_0 a1 v0_0)) (K (Ex.exit 0) (slices_IndexFunc_impl_Col_impl_Col_Q0_1 a1)) m:=by funext x0 x1 x2;exact slices_IndexFunc_impl_Col_impl_Col_EL0 D n a1 K m x0 x1 x2
    rw[slices_IndexFunc_impl_Col_impl_Col_SB0]
    rw[ih];rfl
theorem slices_IndexFunc_impl_Col_impl_Col_X0_0 (D:DX)(n:Nat) (a1:Clo) (v0_0:Int) :
  (CQ funcTab D n 195 [] [.r,.l,.r,.l] (lastK funcTab 195)) (Ex.ret) (slices_IndexFunc_impl_Col_impl_Col_Q0_0 a1 v0_0)=slices_IndexFunc_impl_Col_impl_Col_x0_0 D n a1 v0_0:=by kernel_rfl
theorem slices_IndexFunc_impl_Col_impl_Col_X0_1 (D:DX)(n:Nat) (a1:Clo) :
  (CQ funcTab D n 195 [] [.r,.l,.r,.l] (lastK funcTab 195)) (Ex.exit 0) (slices_IndexFunc_impl_Col_impl_Col_Q0_1 a1)=slices_IndexFunc_impl_Col_impl_Col_x0_1 D n a1:=by kernel_rfl
theorem slices_IndexFunc_impl_Col_impl_Col_ELP0 (D:DX)(n:Nat) (a1:Clo) (x0:tCols) (x1:Int) (x2:Int) :
  LQ funcTab D n 195 [.r,.l,.r,.l] n (slices_IndexFunc_impl_Col_impl_Col_Q0 a1 x0 x1 x2) (CQ funcTab D n 195 [] [.r,.l,.r,.l] (lastK funcTab 195))=slices_IndexFunc_impl_Col_impl_Col_LP0 D n a1 x0 x1 x2:=by
  rw[slices_IndexFunc_impl_Col_impl_Col_EL0]
  simp only[slices_IndexFunc_impl_Col_impl_Col_X0_0,slices_IndexFunc_impl_Col_impl_Col_X0_1]
  rfl
theorem E_slices_IndexFunc_impl_Col_impl_Col (D:DX)(n:Nat) (a0:tCols) (a1:Clo):rfC funcTab D n 195 (a0,(a1,()))=F_slices_IndexFunc_impl_Col_impl_Col D n a0 a1:=by
  have h:rfC funcTab D n 195 (a0,(a1,()))=slices_IndexFunc_impl_Col_impl_Col_e D n a1 (fun x0 x1 x2=>LQ funcTab D n 195 [.r,.l,.r,.l] n (slices_IndexFunc_impl_Col_impl_Col_Q0 a1 x0 x1 x2) (CQ funcTab D n 195 [] [.r,.l,.r,.l] (lastK funcTab 195))) a0:=by kernel_rfl
  rw[h]
  simp only[slices_IndexFunc_impl_Col_impl_Col_ELP0]
  rfl

def impl_ColAt_1_e (D:DX)(n:Nat) (a0:ByteArray×Int×Bool×Unit) (a1:ByteArray):Option ((Bool×Unit)×Unit):=some ((List.beq (ByteArray.toList (Prod.fst a0)) (ByteArray.toList a1),()),())
def F_impl_ColAt_1 (D:DX)(n:Nat) (a0:ByteArray×Int×Bool×Unit) (a1:ByteArray):Option ((Bool×Unit)×Unit):=impl_ColAt_1_e D n a0 a1
theorem E_impl_ColAt_1 (D:DX)(n:Nat) (a0:ByteArray×Int×Bool×Unit) (a1:ByteArray):rfC funcTab D n 196 (a0,(a1,()))=F_impl_ColAt_1 D n a0 a1:=by kernel_rfl

def slices_Contains_int_int_e (D:DX)(n:Nat) (a0:List Int) (a1:Int):Option ((Bool×Unit)×Unit):=bindD (C_slices_Index_int_int D a0 a1) fun b↦some ((decide (Prod.fst (Prod.fst b)≥0),()),())
def F_slices_Contains_int_int (D:DX)(n:Nat) (a0:List Int) (a1:Int):Option ((Bool×Unit)×Unit):=slices_Contains_int_int_e D n a0 a1
theorem E_slices_Contains_int_int (D:DX)(n:Nat) (a0:List Int) (a1:Int):rfC funcTab D n 197 (a0,(a1,()))=F_slices_Contains_int_int D n a0 a1:=by kernel_rfl

def slices_IndexFunc_int_int_b0 (D:DX)(n:Nat) (a1:Clo) (go:List Int→Int→Int→Option ((Int×Unit)×Unit)) (K0:Int→Option ((Int×Unit)×Unit)) (K1:Option ((Int×Unit)×Unit)) (x0:List Int) (x1:Int) (x2:Int):Option ((Int×Unit)×Unit):=br (decide (x2<x1)) (br (decide (0≤x2)&&decide (x2<(↑(List.length x0):Int))) (bindD (applyClo ctx D a1 [CapV.val (Ty.int IntKind.i64) (List.getD x0 (Int.toNat x2) 0)] Ty.bool) fun b↦br b (K0 x2) (go x0 x1 (IntKind.wrap IntKind.i64 (x2+1)))) none) K1
def slices_IndexFunc_int_int_L0 (D:DX)(n:Nat) (a1:Clo) (K0:Int→Option ((Int×Unit)×Unit)) (K1:Option ((Int×Unit)×Unit)):Nat→(List Int)→(Int)→(Int)→Option ((Int×Unit)×Unit) | 0=>(fun x0 x1 x2=>none) | m+1=>(fun x0 x1 x2=>slices_IndexFunc_int_int_b0 D n a1 (slices_IndexFunc_int_int_L0 D n a1 K0 K1 m) K0 K1 x0 x1 x2)
def slices_IndexFunc_int_int_x0_0 (D:DX)(n:Nat) (a1:Clo) (v0_0:Int):Option ((Int×Unit)×Unit):=some ((v0_0,()),())
def slices_IndexFunc_int_int_x0_1 (D:DX)(n:Nat) (a1:Clo):Option ((Int×Unit)×Unit):=some ((-1,()),())
def slices_IndexFunc_int_int_LP0 (D:DX)(n:Nat) (a1:Clo):(List Int)→(Int)→(Int)→Option ((Int×Unit)×Unit):=(fun x0 x1 x2=>slices_IndexFunc_int_int_L0 D n a1 (fun v0_0=>slices_IndexFunc_int_int_x0_0 D n a1 v0_0) (slices_IndexFunc_int_int_x0_1 D n a1) n x0 x1 x2)
def slices_IndexFunc_int_int_e (D:DX)(n:Nat) (a1:Clo) (lp0:List Int→Int→Int→Option ((Int×Unit)×Unit)) (a0:List Int):Option ((Int×Unit)×Unit):=lp0 a0 (↑(List.length a0):Int) 0
def F_slices_IndexFunc_int_int (D:DX)(n:Nat) (a0:List Int) (a1:Clo):Option ((Int×Unit)×Unit):=slices_IndexFunc_int_int_e D n a1 (slices_IndexFunc_int_int_LP0 D n a1) a0
def slices_IndexFunc_int_int_Q0 (a1:Clo) (x0:List Int) (x1:Int) (x2:Int):St:=stq 19 [(0,AV.val (Ty.sl yI) x0),(1,AV.cloV a1),(7,avI x1),(8,avI x2)] [] 
def slices_IndexFunc_int_int_Q0_0 (a1:Clo) (v0_0:Int):St:=stq 19 [(4,avI v0_0)] [] 
def slices_IndexFunc_int_int_Q0_1 (a1:Clo):St:=stq 19 [] [] 
theorem slices_IndexFunc_int_int_SB0 (D:DX)(n:Nat) (a1:Clo) (m:Nat) (K:Ex→St→Option (Out ctx 198)) (x0:List Int) (x1:Int) (x2:Int) :
  LQ funcTab D n 198 [.r,.l,.r,.l] (m+1) (slices_IndexFunc_int_int_Q0 a1 x0 x1 x2) K=slices_IndexFunc_int_int_b0 D n a1 (fun x0 x1 x2=>LQ funcTab D n 198 [.r,.l,.r,.l] m (slices_IndexFunc_int_int_Q0 a1 x0 x1 x2) K) (fun v0_0=>K (Ex.ret) (slices_IndexFunc_int_int_Q0_0 a1 v0_0)) (K (Ex.exit 0) (slices_IndexFunc_int_int_Q0_1 a1)) x0 x1 x2:=by kernel_rfl
theorem slices_IndexFunc_int_int_EL0 (D:DX)(n:Nat) (a1:Clo) (K:Ex→St→Option (Out ctx 198)):∀ (m:Nat) (x0:List Int) (x1:Int) (x2:Int),LQ funcTab D n 198 [.r,.l,.r,.l] m (slices_IndexFunc_int_int_Q0 a1 x0 x1 x2) K=slices_IndexFunc_int_int_L0 D n a1 (fun v0_0=>K (Ex.ret) (slices_IndexFunc_int_int_Q0_0 a1 v0_0)) (K (Ex.exit 0) (slices_IndexFunc_int_int_Q0_1 a1)) m x0 x1 x2
  | 0,x0,x1,x2=>LQ_zero ..
  | m+1,x0,x1,x2=>by
    have ih:(fun x0 x1 x2=>LQ funcTab D n 198 [.r,.l,.r,.l] m (slices_IndexFunc_int_int_Q0 a1 x0 x1 x2) K)=slices_IndexFunc_int_int_L0 D n a1 (fun v0_0=>K (Ex.ret) (slices_IndexFunc_int_int_Q0_0 a1 v0_0)) (K (Ex.exit 0) (slices_IndexFunc_int_int_Q0_1 a1)) m:=by funext x0 x1 x2;exact slices_IndexFunc_int_int_EL0 D n a1 K m x0 x1 x2
    rw[slices_IndexFunc_int_int_SB0]
    rw[ih];rfl
theorem slices_IndexFunc_int_int_X0_0 (D:DX)(n:Nat) (a1:Clo) (v0_0:Int) :
  (CQ funcTab D n 198 [] [.r,.l,.r,.l] (lastK funcTab 198)) (Ex.ret) (slices_IndexFunc_int_int_Q0_0 a1 v0_0)=slices_IndexFunc_int_int_x0_0 D n a1 v0_0:=by kernel_rfl
theorem slices_IndexFunc_int_int_X0_1 (D:DX)(n:Nat) (a1:Clo) :
  (CQ funcTab D n 198 [] [.r,.l,.r,.l] (lastK funcTab 198)) (Ex.exit 0) (slices_IndexFunc_int_int_Q0_1 a1)=slices_IndexFunc_int_int_x0_1 D n a1:=by kernel_rfl
theorem slices_IndexFunc_int_int_ELP0 (D:DX)(n:Nat) (a1:Clo) (x0:List Int) (x1:Int) (x2:Int) :
  LQ funcTab D n 198 [.r,.l,.r,.l] n (slices_IndexFunc_int_int_Q0 a1 x0 x1 x2) (CQ funcTab D n 198 [] [.r,.l,.r,.l] (lastK funcTab 198))=slices_IndexFunc_int_int_LP0 D n a1 x0 x1 x2:=by
  rw[slices_IndexFunc_int_int_EL0]
  simp only[slices_IndexFunc_int_int_X0_0,slices_IndexFunc_int_int_X0_1]
  rfl
theorem E_slices_IndexFunc_int_int (D:DX)(n:Nat) (a0:List Int) (a1:Clo):rfC funcTab D n 198 (a0,(a1,()))=F_slices_IndexFunc_int_int D n a0 a1:=by
  have h:rfC funcTab D n 198 (a0,(a1,()))=slices_IndexFunc_int_int_e D n a1 (fun x0 x1 x2=>LQ funcTab D n 198 [.r,.l,.r,.l] n (slices_IndexFunc_int_int_Q0 a1 x0 x1 x2) (CQ funcTab D n 198 [] [.r,.l,.r,.l] (lastK funcTab 198))) a0:=by kernel_rfl
  rw[h]
  simp only[slices_IndexFunc_int_int_ELP0]
  rfl

def laws_szCol_e (D:DX)(n:Nat) (a0:ByteArray×Int×Bool×Unit) (a1:Int):Option ((Int×Unit)×Unit):=br (decide (IntKind.wrap IntKind.i64 (a1 - (↑(ByteArray.size (Prod.fst a0)):Int))<0)) (some ((-1,()),())) (some ((IntKind.wrap IntKind.i64 (a1 - (↑(ByteArray.size (Prod.fst a0)):Int)),()),()))
def F_laws_szCol (D:DX)(n:Nat) (a0:ByteArray×Int×Bool×Unit) (a1:Int):Option ((Int×Unit)×Unit):=laws_szCol_e D n a0 a1
theorem E_laws_szCol (D:DX)(n:Nat) (a0:ByteArray×Int×Bool×Unit) (a1:Int):rfC funcTab D n 201 (a0,(a1,()))=F_laws_szCol D n a0 a1:=by kernel_rfl

def laws_szIndex_e (D:DX)(n:Nat) (a0:ByteArray×List Int×Bool×Unit) (a1:Int):Option ((Int×Unit)×Unit):=br (decide (IntKind.wrap IntKind.i64 (a1 - (↑(ByteArray.size (Prod.fst a0)):Int))<0)) (some ((-1,()),())) (bindD (C_laws_szIntS D (Prod.fst (Prod.snd a0)) (IntKind.wrap IntKind.i64 (a1 - (↑(ByteArray.size (Prod.fst a0)):Int)))) fun b↦br (decide (Prod.fst (Prod.fst b)<0)) (some ((-1,()),())) (some ((Prod.fst (Prod.fst b),()),())))
def F_laws_szIndex (D:DX)(n:Nat) (a0:ByteArray×List Int×Bool×Unit) (a1:Int):Option ((Int×Unit)×Unit):=laws_szIndex_e D n a0 a1
theorem E_laws_szIndex (D:DX)(n:Nat) (a0:ByteArray×List Int×Bool×Unit) (a1:Int):rfC funcTab D n 202 (a0,(a1,()))=F_laws_szIndex D n a0 a1:=by kernel_rfl

def laws_toCol_e (D:DX)(n:Nat) (a0:ByteArray×Int×Bool×Unit):Option ((tCol×Unit)×Unit):=some (((Prod.fst a0,Prod.fst (Prod.snd a0),Prod.fst (Prod.snd (Prod.snd a0)),()),()),())
def F_laws_toCol (D:DX)(n:Nat) (a0:ByteArray×Int×Bool×Unit):Option ((tCol×Unit)×Unit):=laws_toCol_e D n a0
theorem E_laws_toCol (D:DX)(n:Nat) (a0:ByteArray×Int×Bool×Unit):rfC funcTab D n 203 (a0,())=F_laws_toCol D n a0:=by kernel_rfl

def laws_toIndex_e (D:DX)(n:Nat) (a0:ByteArray×List Int×Bool×Unit):Option ((tIx×Unit)×Unit):=bindD (C_laws_toIntS D (Prod.fst (Prod.snd a0))) fun b↦some (((Prod.fst a0,Prod.fst (Prod.fst b),Prod.fst (Prod.snd (Prod.snd a0)),()),()),())
def F_laws_toIndex (D:DX)(n:Nat) (a0:ByteArray×List Int×Bool×Unit):Option ((tIx×Unit)×Unit):=laws_toIndex_e D n a0
theorem E_laws_toIndex (D:DX)(n:Nat) (a0:ByteArray×List Int×Bool×Unit):rfC funcTab D n 204 (a0,())=F_laws_toIndex D n a0:=by kernel_rfl

def laws_eqCol_e (D:DX)(n:Nat) (a0:ByteArray×Int×Bool×Unit) (a1:ByteArray×Int×Bool×Unit):Option ((Bool×Unit)×Unit):=br (!List.beq (ByteArray.toList (Prod.fst a0)) (ByteArray.toList (Prod.fst a1))) (some ((false,()),())) (br (Prod.fst (Prod.snd a0) != Prod.fst (Prod.snd a1)) (some ((false,()),())) (br (!decide (Prod.fst (Prod.snd (Prod.snd a0))=Prod.fst (Prod.snd (Prod.snd a1)))) (some ((false,()),())) (some ((true,()),()))))
def F_laws_eqCol (D:DX)(n:Nat) (a0:ByteArray×Int×Bool×Unit) (a1:ByteArray×Int×Bool×Unit):Option ((Bool×Unit)×Unit):=laws_eqCol_e D n a0 a1
theorem E_laws_eqCol (D:DX)(n:Nat) (a0:ByteArray×Int×Bool×Unit) (a1:ByteArray×Int×Bool×Unit):rfC funcTab D n 205 (a0,(a1,()))=F_laws_eqCol D n a0 a1:=by kernel_rfl

def laws_eqIndex_e (D:DX)(n:Nat) (a0:ByteArray×List Int×Bool×Unit) (a1:ByteArray×List Int×Bool×Unit):Option ((Bool×Unit)×Unit):=br (!List.beq (ByteArray.toList (Prod.fst a0)) (ByteArray.toList (Prod.fst a1))) (some ((false,()),())) (bindD (C_laws_eqIntS D (Prod.fst (Prod.snd a0)) (Prod.fst (Prod.snd a1))) fun b↦br (!Prod.fst (Prod.fst b)) (some ((false,()),())) (br (!decide (Prod.fst (Prod.snd (Prod.snd a0))=Prod.fst (Prod.snd (Prod.snd a1)))) (some ((false,()),())) (some ((true,()),()))))
def F_laws_eqIndex (D:DX)(n:Nat) (a0:ByteArray×List Int×Bool×Unit) (a1:ByteArray×List Int×Bool×Unit):Option ((Bool×Unit)×Unit):=laws_eqIndex_e D n a0 a1
theorem E_laws_eqIndex (D:DX)(n:Nat) (a0:ByteArray×List Int×Bool×Unit) (a1:ByteArray×List Int×Bool×Unit):rfC funcTab D n 206 (a0,(a1,()))=F_laws_eqIndex D n a0 a1:=by kernel_rfl



def slices_Index_int_int_b0 (D:DX)(n:Nat) (go:List Int→Int→Int→Int→Option ((Int×Unit)×Unit)) (K0:Int→Option ((Int×Unit)×Unit)) (K1:Option ((Int×Unit)×Unit)) (x0:List Int) (x1:Int) (x2:Int) (x3:Int):Option ((Int×Unit)×Unit):=br (decide (x3<x2)) (br (decide (0≤x3)&&decide (x3<(↑(List.length x0):Int))) (br (decide (x1=List.getD x0 (Int.toNat x3) 0)) (K0 x3) (go x0 x1 x2 (IntKind.wrap IntKind.i64 (x3+1)))) none) K1
def slices_Index_int_int_L0 (D:DX)(n:Nat) (K0:Int→Option ((Int×Unit)×Unit)) (K1:Option ((Int×Unit)×Unit)):Nat→(List Int)→(Int)→(Int)→(Int)→Option ((Int×Unit)×Unit) | 0=>(fun x0 x1 x2 x3=>none) | m+1=>(fun x0 x1 x2 x3=>slices_Index_int_int_b0 D n (slices_Index_int_int_L0 D n K0 K1 m) K0 K1 x0 x1 x2 x3)
def slices_Index_int_int_x0_0 (D:DX)(n:Nat) (v0_0:Int):Option ((Int×Unit)×Unit):=some ((v0_0,()),())
def slices_Index_int_int_x0_1 (D:DX)(n:Nat):Option ((Int×Unit)×Unit):=some ((-1,()),())
def slices_Index_int_int_LP0 (D:DX)(n:Nat):(List Int)→(Int)→(Int)→(Int)→Option ((Int×Unit)×Unit):=(fun x0 x1 x2 x3=>slices_Index_int_int_L0 D n (fun v0_0=>slices_Index_int_int_x0_0 D n v0_0) (slices_Index_int_int_x0_1 D n) n x0 x1 x2 x3)
def slices_Index_int_int_e (D:DX)(n:Nat) (lp0:List Int→Int→Int→Int→Option ((Int×Unit)×Unit)) (a0:List Int) (a1:Int):Option ((Int×Unit)×Unit):=lp0 a0 a1 (↑(List.length a0):Int) 0
def F_slices_Index_int_int (D:DX)(n:Nat) (a0:List Int) (a1:Int):Option ((Int×Unit)×Unit):=slices_Index_int_int_e D n (slices_Index_int_int_LP0 D n) a0 a1
def slices_Index_int_int_Q0 (x0:List Int) (x1:Int) (x2:Int) (x3:Int):St:=stq 19 [(0,AV.val (Ty.sl yI) x0),(1,avI x1),(7,avI x2),(8,avI x3)] [] 
def slices_Index_int_int_Q0_0 (v0_0:Int):St:=stq 19 [(4,avI v0_0)] [] 
def slices_Index_int_int_Q0_1:St:=stq 19 [] [] 
theorem slices_Index_int_int_SB0 (D:DX)(n:Nat) (m:Nat) (K:Ex→St→Option (Out ctx 210)) (x0:List Int) (x1:Int) (x2:Int) (x3:Int) :
  LQ funcTab D n 210 [.r,.l,.r,.l] (m+1) (slices_Index_int_int_Q0 x0 x1 x2 x3) K=slices_Index_int_int_b0 D n (fun x0 x1 x2 x3=>LQ funcTab D n 210 [.r,.l,.r,.l] m (slices_Index_int_int_Q0 x0 x1 x2 x3) K) (fun v0_0=>K (Ex.ret) (slices_Index_int_int_Q0_0 v0_0)) (K (Ex.exit 0) (slices_Index_int_int_Q0_1)) x0 x1 x2 x3:=by kernel_rfl
theorem slices_Index_int_int_EL0 (D:DX)(n:Nat) (K:Ex→St→Option (Out ctx 210)):∀ (m:Nat) (x0:List Int) (x1:Int) (x2:Int) (x3:Int),LQ funcTab D n 210 [.r,.l,.r,.l] m (slices_Index_int_int_Q0 x0 x1 x2 x3) K=slices_Index_int_int_L0 D n (fun v0_0=>K (Ex.ret) (slices_Index_int_int_Q0_0 v0_0)) (K (Ex.exit 0) (slices_Index_int_int_Q0_1)) m x0 x1 x2 x3
  | 0,x0,x1,x2,x3=>LQ_zero ..
  | m+1,x0,x1,x2,x3=>by
    have ih:(fun x0 x1 x2 x3=>LQ funcTab D n 210 [.r,.l,.r,.l] m (slices_Index_int_int_Q0 x0 x1 x2 x3) K)=slices_Index_int_int_L0 D n (fun v0_0=>K (Ex.ret) (slices_Index_int_int_Q0_0 v0_0)) (K (Ex.exit 0) (slices_Index_int_int_Q0_1)) m:=by funext x0 x1 x2 x3;exact slices_Index_int_int_EL0 D n K m x0 x1 x2 x3
    rw[slices_Index_int_int_SB0]
    rw[ih];rfl
theorem slices_Index_int_int_X0_0 (D:DX)(n:Nat) (v0_0:Int) :
  (CQ funcTab D n 210 [] [.r,.l,.r,.l] (lastK funcTab 210)) (Ex.ret) (slices_Index_int_int_Q0_0 v0_0)=slices_Index_int_int_x0_0 D n v0_0:=by kernel_rfl
theorem slices_Index_int_int_X0_1 (D:DX)(n:Nat) :
  (CQ funcTab D n 210 [] [.r,.l,.r,.l] (lastK funcTab 210)) (Ex.exit 0) (slices_Index_int_int_Q0_1)=slices_Index_int_int_x0_1 D n:=by kernel_rfl
theorem slices_Index_int_int_ELP0 (D:DX)(n:Nat) (x0:List Int) (x1:Int) (x2:Int) (x3:Int) :
  LQ funcTab D n 210 [.r,.l,.r,.l] n (slices_Index_int_int_Q0 x0 x1 x2 x3) (CQ funcTab D n 210 [] [.r,.l,.r,.l] (lastK funcTab 210))=slices_Index_int_int_LP0 D n x0 x1 x2 x3:=by
  rw[slices_Index_int_int_EL0]
  simp only[slices_Index_int_int_X0_0,slices_Index_int_int_X0_1]
  rfl
theorem E_slices_Index_int_int (D:DX)(n:Nat) (a0:List Int) (a1:Int):rfC funcTab D n 210 (a0,(a1,()))=F_slices_Index_int_int D n a0 a1:=by
  have h:rfC funcTab D n 210 (a0,(a1,()))=slices_Index_int_int_e D n (fun x0 x1 x2 x3=>LQ funcTab D n 210 [.r,.l,.r,.l] n (slices_Index_int_int_Q0 x0 x1 x2 x3) (CQ funcTab D n 210 [] [.r,.l,.r,.l] (lastK funcTab 210))) a0 a1:=by kernel_rfl
  rw[h]
  simp only[slices_Index_int_int_ELP0]
  rfl

end
end Go.G

namespace Go.G
set_option maxRecDepth 100000
open Go Go.V Go.Proofs
def XOk (X:Ext):Prop:=∀ k:Nat,(Nat.beq k 88||Nat.beq k 93||Nat.beq k 95||Nat.beq k 192)=false→X.is k=false
theorem S_laws_FnExactReplace {X:Ext} (hX:XOk X) (n:Nat) (a0:(tSch)×tRows×Unit) (a1:tVals):C_laws_FnExactReplace (DD X (n+1)) a0 a1=F_laws_FnExactReplace (DD X n) n a0 a1:=(DD_succ X Tryz.func8 (by kernel_rfl) (hX 8 rfl) n _).trans (E_laws_FnExactReplace ..)
theorem S_impl_RelOk {X:Ext} (hX:XOk X) (n:Nat) (a0:(tSch)×tRows×Unit):C_impl_RelOk (DD X (n+1)) a0=F_impl_RelOk (DD X n) n a0:=(DD_succ X Tryz.func17 (by kernel_rfl) (hX 17 rfl) n _).trans (E_impl_RelOk ..)
theorem S_impl_KeyOfRow {X:Ext} (hX:XOk X) (n:Nat) (a0:tSch) (a1:tVals):C_impl_KeyOfRow (DD X (n+1)) a0 a1=F_impl_KeyOfRow (DD X n) n a0 a1:=(DD_succ X Tryz.func23 (by kernel_rfl) (hX 23 rfl) n _).trans (E_impl_KeyOfRow ..)
theorem S_impl_Replace {X:Ext} (hX:XOk X) (n:Nat) (a0:(tSch)×tRows×Unit) (a1:tVals):C_impl_Replace (DD X (n+1)) a0 a1=F_impl_Replace (DD X n) n a0 a1:=(DD_succ X Tryz.func26 (by kernel_rfl) (hX 26 rfl) n _).trans (E_impl_Replace ..)
theorem S_spec_Replace {X:Ext} (hX:XOk X) (n:Nat) (a0:(tSch)×tRows×Unit) (a1:tVals):C_spec_Replace (DD X (n+1)) a0 a1=F_spec_Replace (DD X n) n a0 a1:=(DD_succ X Tryz.func32 (by kernel_rfl) (hX 32 rfl) n _).trans (E_spec_Replace ..)
theorem S_spec_RelOk {X:Ext} (hX:XOk X) (n:Nat) (a0:(tSch)×tRows×Unit):C_spec_RelOk (DD X (n+1)) a0=F_spec_RelOk (DD X n) n a0:=(DD_succ X Tryz.func41 (by kernel_rfl) (hX 41 rfl) n _).trans (E_spec_RelOk ..)
theorem S_laws_szRelation {X:Ext} (hX:XOk X) (n:Nat) (a0:(tSch)×tRows×Unit) (a1:Int):C_laws_szRelation (DD X (n+1)) a0 a1=F_laws_szRelation (DD X n) n a0 a1:=(DD_succ X Tryz.func53 (by kernel_rfl) (hX 53 rfl) n _).trans (E_laws_szRelation ..)
theorem S_laws_szValueS {X:Ext} (hX:XOk X) (n:Nat) (a0:tVals) (a1:Int):C_laws_szValueS (DD X (n+1)) a0 a1=F_laws_szValueS (DD X n) n a0 a1:=(DD_succ X Tryz.func54 (by kernel_rfl) (hX 54 rfl) n _).trans (E_laws_szValueS ..)
theorem S_laws_toRelation {X:Ext} (hX:XOk X) (n:Nat) (a0:(tSch)×tRows×Unit):C_laws_toRelation (DD X (n+1)) a0=F_laws_toRelation (DD X n) n a0:=(DD_succ X Tryz.func55 (by kernel_rfl) (hX 55 rfl) n _).trans (E_laws_toRelation ..)
theorem S_laws_toValueS {X:Ext} (hX:XOk X) (n:Nat) (a0:tVals):C_laws_toValueS (DD X (n+1)) a0=F_laws_toValueS (DD X n) n a0:=(DD_succ X Tryz.func56 (by kernel_rfl) (hX 56 rfl) n _).trans (E_laws_toValueS ..)
theorem S_laws_eqRelation {X:Ext} (hX:XOk X) (n:Nat) (a0:(tSch)×tRows×Unit) (a1:(tSch)×tRows×Unit):C_laws_eqRelation (DD X (n+1)) a0 a1=F_laws_eqRelation (DD X n) n a0 a1:=(DD_succ X Tryz.func57 (by kernel_rfl) (hX 57 rfl) n _).trans (E_laws_eqRelation ..)
theorem S_laws_eqValueS {X:Ext} (hX:XOk X) (n:Nat) (a0:tVals) (a1:tVals):C_laws_eqValueS (DD X (n+1)) a0 a1=F_laws_eqValueS (DD X n) n a0 a1:=(DD_succ X Tryz.func58 (by kernel_rfl) (hX 58 rfl) n _).trans (E_laws_eqValueS ..)
theorem S_laws_markRelation {X:Ext} (hX:XOk X) (n:Nat) (a0:(tSch)×tRows×Unit) (a1:Int):C_laws_markRelation (DD X (n+1)) a0 a1=F_laws_markRelation (DD X n) n a0 a1:=(DD_succ X Tryz.func59 (by kernel_rfl) (hX 59 rfl) n _).trans (E_laws_markRelation ..)
theorem S_laws_markValueS {X:Ext} (hX:XOk X) (n:Nat) (a0:tVals) (a1:Int):C_laws_markValueS (DD X (n+1)) a0 a1=F_laws_markValueS (DD X n) n a0 a1:=(DD_succ X Tryz.func60 (by kernel_rfl) (hX 60 rfl) n _).trans (E_laws_markValueS ..)
theorem S_laws_heldRelation {X:Ext} (hX:XOk X) (n:Nat) (a0:(tSch)×tRows×Unit) (a1:Int):C_laws_heldRelation (DD X (n+1)) a0 a1=F_laws_heldRelation (DD X n) n a0 a1:=(DD_succ X Tryz.func61 (by kernel_rfl) (hX 61 rfl) n _).trans (E_laws_heldRelation ..)
theorem S_impl_from {X:Ext} (hX:XOk X) (n:Nat) (a0:Int) (a1:Int) (a2:Int):C_impl_from (DD X (n+1)) a0 a1 a2=F_impl_from (DD X n) n a0 a1 a2:=(DD_succ X Tryz.func68 (by kernel_rfl) (hX 68 rfl) n _).trans (E_impl_from ..)
theorem S_impl_RowOk {X:Ext} (hX:XOk X) (n:Nat) (a0:tSch) (a1:tVals):C_impl_RowOk (DD X (n+1)) a0 a1=F_impl_RowOk (DD X n) n a0 a1:=(DD_succ X Tryz.func77 (by kernel_rfl) (hX 77 rfl) n _).trans (E_impl_RowOk ..)
theorem S_impl_TupleLess {X:Ext} (hX:XOk X) (n:Nat) (a0:tVals) (a1:tVals):C_impl_TupleLess (DD X (n+1)) a0 a1=F_impl_TupleLess (DD X n) n a0 a1:=(DD_succ X Tryz.func78 (by kernel_rfl) (hX 78 rfl) n _).trans (E_impl_TupleLess ..)
theorem S_slices_ContainsFunc_impl_Value_impl_Value {X:Ext} (hX:XOk X) (n:Nat) (a0:tRows) (a1:Clo):C_slices_ContainsFunc_impl_Value_impl_Value (DD X (n+1)) a0 a1=F_slices_ContainsFunc_impl_Value_impl_Value (DD X n) n a0 a1:=(DD_succ X Tryz.func79 (by kernel_rfl) (hX 79 rfl) n _).trans (E_slices_ContainsFunc_impl_Value_impl_Value ..)
theorem S_impl_RelOk_1 {X:Ext} (hX:XOk X) (n:Nat) (a0:tVals) (a1:(tSch)×tRows×Unit) (a2:tVals):C_impl_RelOk_1 (DD X (n+1)) a0 a1 a2=F_impl_RelOk_1 (DD X n) n a0 a1 a2:=(DD_succ X Tryz.func80 (by kernel_rfl) (hX 80 rfl) n _).trans (E_impl_RelOk_1 ..)
theorem S_impl_clash {X:Ext} (hX:XOk X) (n:Nat) (a0:tSch) (a1:tVals) (a2:tVals):C_impl_clash (DD X (n+1)) a0 a1 a2=F_impl_clash (DD X n) n a0 a1 a2:=(DD_succ X Tryz.func81 (by kernel_rfl) (hX 81 rfl) n _).trans (E_impl_clash ..)
theorem S_impl_SchemaOk {X:Ext} (hX:XOk X) (n:Nat) (a0:tSch):C_impl_SchemaOk (DD X (n+1)) a0=F_impl_SchemaOk (DD X n) n a0:=(DD_succ X Tryz.func82 (by kernel_rfl) (hX 82 rfl) n _).trans (E_impl_SchemaOk ..)
theorem S_impl_copyRelation {X:Ext} (hX:XOk X) (n:Nat) (a0:(tSch)×tRows×Unit):C_impl_copyRelation (DD X (n+1)) a0=F_impl_copyRelation (DD X n) n a0:=(DD_succ X Tryz.func83 (by kernel_rfl) (hX 83 rfl) n _).trans (E_impl_copyRelation ..)
theorem S_impl_keyAt {X:Ext} (hX:XOk X) (n:Nat) (a0:(tSch)×tRows×Unit) (a1:tVals):C_impl_keyAt (DD X (n+1)) a0 a1=F_impl_keyAt (DD X n) n a0 a1:=(DD_succ X Tryz.func84 (by kernel_rfl) (hX 84 rfl) n _).trans (E_impl_keyAt ..)
theorem S_slices_IndexFunc_impl_Value_impl_Value {X:Ext} (hX:XOk X) (n:Nat) (a0:tRows) (a1:Clo):C_slices_IndexFunc_impl_Value_impl_Value (DD X (n+1)) a0 a1=F_slices_IndexFunc_impl_Value_impl_Value (DD X n) n a0 a1:=(DD_succ X Tryz.func86 (by kernel_rfl) (hX 86 rfl) n _).trans (E_slices_IndexFunc_impl_Value_impl_Value ..)
theorem S_slices_Clone_impl_Value_impl_Value {X:Ext} (hX:XOk X) (n:Nat) (a0:tVals):C_slices_Clone_impl_Value_impl_Value (DD X (n+1)) a0=F_slices_Clone_impl_Value_impl_Value (DD X n) n a0:=(DD_succ X Tryz.func89 (by kernel_rfl) (hX 89 rfl) n _).trans (E_slices_Clone_impl_Value_impl_Value ..)
theorem S_impl_Project {X:Ext} (hX:XOk X) (n:Nat) (a0:tVals) (a1:List Int):C_impl_Project (DD X (n+1)) a0 a1=F_impl_Project (DD X n) n a0 a1:=(DD_succ X Tryz.func94 (by kernel_rfl) (hX 94 rfl) n _).trans (E_impl_Project ..)
theorem S_spec_l21Copy {X:Ext} (hX:XOk X) (n:Nat) (a0:(tSch)×tRows×Unit):C_spec_l21Copy (DD X (n+1)) a0=F_spec_l21Copy (DD X n) n a0:=(DD_succ X Tryz.func99 (by kernel_rfl) (hX 99 rfl) n _).trans (E_spec_l21Copy ..)
theorem S_spec_RowOk {X:Ext} (hX:XOk X) (n:Nat) (a0:tSch) (a1:tVals):C_spec_RowOk (DD X (n+1)) a0 a1=F_spec_RowOk (DD X n) n a0 a1:=(DD_succ X Tryz.func100 (by kernel_rfl) (hX 100 rfl) n _).trans (E_spec_RowOk ..)
theorem S_spec_l21At {X:Ext} (hX:XOk X) (n:Nat) (a0:(tSch)×tRows×Unit) (a1:tVals):C_spec_l21At (DD X (n+1)) a0 a1=F_spec_l21At (DD X n) n a0 a1:=(DD_succ X Tryz.func101 (by kernel_rfl) (hX 101 rfl) n _).trans (E_spec_l21At ..)
theorem S_spec_KeyOfRow {X:Ext} (hX:XOk X) (n:Nat) (a0:tSch) (a1:tVals):C_spec_KeyOfRow (DD X (n+1)) a0 a1=F_spec_KeyOfRow (DD X n) n a0 a1:=(DD_succ X Tryz.func102 (by kernel_rfl) (hX 102 rfl) n _).trans (E_spec_KeyOfRow ..)
theorem S_spec_l21Others {X:Ext} (hX:XOk X) (n:Nat) (a0:(tSch)×tRows×Unit) (a1:tVals) (a2:Int):C_spec_l21Others (DD X (n+1)) a0 a1 a2=F_spec_l21Others (DD X n) n a0 a1 a2:=(DD_succ X Tryz.func103 (by kernel_rfl) (hX 103 rfl) n _).trans (E_spec_l21Others ..)
theorem S_spec_TupleLess {X:Ext} (hX:XOk X) (n:Nat) (a0:tVals) (a1:tVals):C_spec_TupleLess (DD X (n+1)) a0 a1=F_spec_TupleLess (DD X n) n a0 a1:=(DD_succ X Tryz.func104 (by kernel_rfl) (hX 104 rfl) n _).trans (E_spec_TupleLess ..)
theorem S_spec_l21Rows {X:Ext} (hX:XOk X) (n:Nat) (a0:tRows):C_spec_l21Rows (DD X (n+1)) a0=F_spec_l21Rows (DD X n) n a0:=(DD_succ X Tryz.func105 (by kernel_rfl) (hX 105 rfl) n _).trans (E_spec_l21Rows ..)
theorem S_impl_copySchema {X:Ext} (hX:XOk X) (n:Nat) (a0:tSch):C_impl_copySchema (DD X (n+1)) a0=F_impl_copySchema (DD X n) n a0:=(DD_succ X Tryz.func107 (by kernel_rfl) (hX 107 rfl) n _).trans (E_impl_copySchema ..)
theorem S_spec_l19Copy {X:Ext} (hX:XOk X) (n:Nat) (a0:tSch):C_spec_l19Copy (DD X (n+1)) a0=F_spec_l19Copy (DD X n) n a0:=(DD_succ X Tryz.func108 (by kernel_rfl) (hX 108 rfl) n _).trans (E_spec_l19Copy ..)
theorem S_spec_l21Clash {X:Ext} (hX:XOk X) (n:Nat) (a0:tSch) (a1:tVals) (a2:tVals):C_spec_l21Clash (DD X (n+1)) a0 a1 a2=F_spec_l21Clash (DD X n) n a0 a1 a2:=(DD_succ X Tryz.func111 (by kernel_rfl) (hX 111 rfl) n _).trans (E_spec_l21Clash ..)
theorem S_spec_SchemaOk {X:Ext} (hX:XOk X) (n:Nat) (a0:tSch):C_spec_SchemaOk (DD X (n+1)) a0=F_spec_SchemaOk (DD X n) n a0:=(DD_succ X Tryz.func112 (by kernel_rfl) (hX 112 rfl) n _).trans (E_spec_SchemaOk ..)
theorem S_spec_l1In {X:Ext} (hX:XOk X) (n:Nat) (a0:Int) (a1:Int) (a2:Int):C_spec_l1In (DD X (n+1)) a0 a1 a2=F_spec_l1In (DD X n) n a0 a1 a2:=(DD_succ X Tryz.func117 (by kernel_rfl) (hX 117 rfl) n _).trans (E_spec_l1In ..)
theorem S_spec_Project {X:Ext} (hX:XOk X) (n:Nat) (a0:tVals) (a1:List Int):C_spec_Project (DD X (n+1)) a0 a1=F_spec_Project (DD X n) n a0 a1:=(DD_succ X Tryz.func119 (by kernel_rfl) (hX 119 rfl) n _).trans (E_spec_Project ..)
theorem S_laws_szSchema {X:Ext} (hX:XOk X) (n:Nat) (a0:tSch) (a1:Int):C_laws_szSchema (DD X (n+1)) a0 a1=F_laws_szSchema (DD X n) n a0 a1:=(DD_succ X Tryz.func120 (by kernel_rfl) (hX 120 rfl) n _).trans (E_laws_szSchema ..)
theorem S_laws_szValueSS {X:Ext} (hX:XOk X) (n:Nat) (a0:tRows) (a1:Int):C_laws_szValueSS (DD X (n+1)) a0 a1=F_laws_szValueSS (DD X n) n a0 a1:=(DD_succ X Tryz.func121 (by kernel_rfl) (hX 121 rfl) n _).trans (E_laws_szValueSS ..)
theorem S_laws_szValue {X:Ext} (hX:XOk X) (n:Nat) (a0:Int×Int×ByteArray×Unit) (a1:Int):C_laws_szValue (DD X (n+1)) a0 a1=F_laws_szValue (DD X n) n a0 a1:=(DD_succ X Tryz.func122 (by kernel_rfl) (hX 122 rfl) n _).trans (E_laws_szValue ..)
theorem S_laws_toSchema {X:Ext} (hX:XOk X) (n:Nat) (a0:tSch):C_laws_toSchema (DD X (n+1)) a0=F_laws_toSchema (DD X n) n a0:=(DD_succ X Tryz.func123 (by kernel_rfl) (hX 123 rfl) n _).trans (E_laws_toSchema ..)
theorem S_laws_toValueSS {X:Ext} (hX:XOk X) (n:Nat) (a0:tRows):C_laws_toValueSS (DD X (n+1)) a0=F_laws_toValueSS (DD X n) n a0:=(DD_succ X Tryz.func124 (by kernel_rfl) (hX 124 rfl) n _).trans (E_laws_toValueSS ..)
theorem S_laws_toValue {X:Ext} (hX:XOk X) (n:Nat) (a0:Int×Int×ByteArray×Unit):C_laws_toValue (DD X (n+1)) a0=F_laws_toValue (DD X n) n a0:=(DD_succ X Tryz.func125 (by kernel_rfl) (hX 125 rfl) n _).trans (E_laws_toValue ..)
theorem S_laws_eqSchema {X:Ext} (hX:XOk X) (n:Nat) (a0:tSch) (a1:tSch):C_laws_eqSchema (DD X (n+1)) a0 a1=F_laws_eqSchema (DD X n) n a0 a1:=(DD_succ X Tryz.func126 (by kernel_rfl) (hX 126 rfl) n _).trans (E_laws_eqSchema ..)
theorem S_laws_eqValueSS {X:Ext} (hX:XOk X) (n:Nat) (a0:tRows) (a1:tRows):C_laws_eqValueSS (DD X (n+1)) a0 a1=F_laws_eqValueSS (DD X n) n a0 a1:=(DD_succ X Tryz.func127 (by kernel_rfl) (hX 127 rfl) n _).trans (E_laws_eqValueSS ..)
theorem S_laws_eqValue {X:Ext} (hX:XOk X) (n:Nat) (a0:Int×Int×ByteArray×Unit) (a1:Int×Int×ByteArray×Unit):C_laws_eqValue (DD X (n+1)) a0 a1=F_laws_eqValue (DD X n) n a0 a1:=(DD_succ X Tryz.func128 (by kernel_rfl) (hX 128 rfl) n _).trans (E_laws_eqValue ..)
theorem S_laws_markSchema {X:Ext} (hX:XOk X) (n:Nat) (a0:tSch) (a1:Int):C_laws_markSchema (DD X (n+1)) a0 a1=F_laws_markSchema (DD X n) n a0 a1:=(DD_succ X Tryz.func129 (by kernel_rfl) (hX 129 rfl) n _).trans (E_laws_markSchema ..)
theorem S_laws_markValueSS {X:Ext} (hX:XOk X) (n:Nat) (a0:tRows) (a1:Int):C_laws_markValueSS (DD X (n+1)) a0 a1=F_laws_markValueSS (DD X n) n a0 a1:=(DD_succ X Tryz.func130 (by kernel_rfl) (hX 130 rfl) n _).trans (E_laws_markValueSS ..)
theorem S_laws_markText {X:Ext} (hX:XOk X) (n:Nat) (a0:Int):C_laws_markText (DD X (n+1)) a0=F_laws_markText (DD X n) n a0:=(DD_succ X Tryz.func131 (by kernel_rfl) (hX 131 rfl) n _).trans (E_laws_markText ..)
theorem S_laws_heldSchema {X:Ext} (hX:XOk X) (n:Nat) (a0:tSch) (a1:Int):C_laws_heldSchema (DD X (n+1)) a0 a1=F_laws_heldSchema (DD X n) n a0 a1:=(DD_succ X Tryz.func132 (by kernel_rfl) (hX 132 rfl) n _).trans (E_laws_heldSchema ..)
theorem S_laws_heldValueSS {X:Ext} (hX:XOk X) (n:Nat) (a0:tRows) (a1:Int):C_laws_heldValueSS (DD X (n+1)) a0 a1=F_laws_heldValueSS (DD X n) n a0 a1:=(DD_succ X Tryz.func133 (by kernel_rfl) (hX 133 rfl) n _).trans (E_laws_heldValueSS ..)
theorem S_slices_Clone_int_int {X:Ext} (hX:XOk X) (n:Nat) (a0:List Int):C_slices_Clone_int_int (DD X (n+1)) a0=F_slices_Clone_int_int (DD X n) n a0:=(DD_succ X Tryz.func138 (by kernel_rfl) (hX 138 rfl) n _).trans (E_slices_Clone_int_int ..)
theorem S_impl_ValueOk {X:Ext} (hX:XOk X) (n:Nat) (a0:Int×Int×ByteArray×Unit):C_impl_ValueOk (DD X (n+1)) a0=F_impl_ValueOk (DD X n) n a0:=(DD_succ X Tryz.func139 (by kernel_rfl) (hX 139 rfl) n _).trans (E_impl_ValueOk ..)
theorem S_slices_CompareFunc_impl_Value_impl_Value_impl_Value_impl_Value {X:Ext} (hX:XOk X) (n:Nat) (a0:tVals) (a1:tVals) (a2:Clo):C_slices_CompareFunc_impl_Value_impl_Value_impl_Value_impl_Value (DD X (n+1)) a0 a1 a2=F_slices_CompareFunc_impl_Value_impl_Value_impl_Value_impl_Value (DD X n) n a0 a1 a2:=(DD_succ X Tryz.func140 (by kernel_rfl) (hX 140 rfl) n _).trans (E_slices_CompareFunc_impl_Value_impl_Value_impl_Value_impl_Value ..)
theorem S_impl_byValue {X:Ext} (hX:XOk X) (n:Nat) (a0:Int×Int×ByteArray×Unit) (a1:Int×Int×ByteArray×Unit):C_impl_byValue (DD X (n+1)) a0 a1=F_impl_byValue (DD X n) n a0 a1:=(DD_succ X Tryz.func141 (by kernel_rfl) (hX 141 rfl) n _).trans (E_impl_byValue ..)
theorem S_slices_ContainsFunc_impl_Index_impl_Index {X:Ext} (hX:XOk X) (n:Nat) (a0:tIxs) (a1:Clo):C_slices_ContainsFunc_impl_Index_impl_Index (DD X (n+1)) a0 a1=F_slices_ContainsFunc_impl_Index_impl_Index (DD X n) n a0 a1:=(DD_succ X Tryz.func142 (by kernel_rfl) (hX 142 rfl) n _).trans (E_slices_ContainsFunc_impl_Index_impl_Index ..)
theorem S_impl_clash_1 {X:Ext} (hX:XOk X) (n:Nat) (a0:ByteArray×List Int×Bool×Unit) (a1:tVals) (a2:tVals):C_impl_clash_1 (DD X (n+1)) a0 a1 a2=F_impl_clash_1 (DD X n) n a0 a1 a2:=(DD_succ X Tryz.func143 (by kernel_rfl) (hX 143 rfl) n _).trans (E_impl_clash_1 ..)
theorem S_slices_Contains_impl_Value_impl_Value {X:Ext} (hX:XOk X) (n:Nat) (a0:tVals) (a1:Int×Int×ByteArray×Unit):C_slices_Contains_impl_Value_impl_Value (DD X (n+1)) a0 a1=F_slices_Contains_impl_Value_impl_Value (DD X n) n a0 a1:=(DD_succ X Tryz.func144 (by kernel_rfl) (hX 144 rfl) n _).trans (E_slices_Contains_impl_Value_impl_Value ..)
theorem S_slices_Equal_impl_Value_impl_Value {X:Ext} (hX:XOk X) (n:Nat) (a0:tVals) (a1:tVals):C_slices_Equal_impl_Value_impl_Value (DD X (n+1)) a0 a1=F_slices_Equal_impl_Value_impl_Value (DD X n) n a0 a1:=(DD_succ X Tryz.func145 (by kernel_rfl) (hX 145 rfl) n _).trans (E_slices_Equal_impl_Value_impl_Value ..)
theorem S_impl_ColNameOk {X:Ext} (hX:XOk X) (n:Nat) (a0:ByteArray):C_impl_ColNameOk (DD X (n+1)) a0=F_impl_ColNameOk (DD X n) n a0:=(DD_succ X Tryz.func146 (by kernel_rfl) (hX 146 rfl) n _).trans (E_impl_ColNameOk ..)
theorem S_impl_ColAt {X:Ext} (hX:XOk X) (n:Nat) (a0:tSch) (a1:ByteArray):C_impl_ColAt (DD X (n+1)) a0 a1=F_impl_ColAt (DD X n) n a0 a1:=(DD_succ X Tryz.func147 (by kernel_rfl) (hX 147 rfl) n _).trans (E_impl_ColAt ..)
theorem S_impl_placesOk {X:Ext} (hX:XOk X) (n:Nat) (a0:tSch) (a1:List Int) (a2:Int):C_impl_placesOk (DD X (n+1)) a0 a1 a2=F_impl_placesOk (DD X n) n a0 a1 a2:=(DD_succ X Tryz.func148 (by kernel_rfl) (hX 148 rfl) n _).trans (E_impl_placesOk ..)
theorem S_impl_SchemaOk_1 {X:Ext} (hX:XOk X) (n:Nat) (a0:ByteArray×List Int×Bool×Unit) (a1:ByteArray×List Int×Bool×Unit):C_impl_SchemaOk_1 (DD X (n+1)) a0 a1=F_impl_SchemaOk_1 (DD X n) n a0 a1:=(DD_succ X Tryz.func149 (by kernel_rfl) (hX 149 rfl) n _).trans (E_impl_SchemaOk_1 ..)
theorem S_slices_ContainsFunc_int_int {X:Ext} (hX:XOk X) (n:Nat) (a0:List Int) (a1:Clo):C_slices_ContainsFunc_int_int (DD X (n+1)) a0 a1=F_slices_ContainsFunc_int_int (DD X n) n a0 a1:=(DD_succ X Tryz.func150 (by kernel_rfl) (hX 150 rfl) n _).trans (E_slices_ContainsFunc_int_int ..)
theorem S_impl_SchemaOk_2 {X:Ext} (hX:XOk X) (n:Nat) (a0:Int) (a1:tSch):C_impl_SchemaOk_2 (DD X (n+1)) a0 a1=F_impl_SchemaOk_2 (DD X n) n a0 a1:=(DD_succ X Tryz.func151 (by kernel_rfl) (hX 151 rfl) n _).trans (E_impl_SchemaOk_2 ..)
theorem S_impl_copyTuples {X:Ext} (hX:XOk X) (n:Nat) (a0:tRows):C_impl_copyTuples (DD X (n+1)) a0=F_impl_copyTuples (DD X n) n a0:=(DD_succ X Tryz.func152 (by kernel_rfl) (hX 152 rfl) n _).trans (E_impl_copyTuples ..)
theorem S_impl_keyAt_1 {X:Ext} (hX:XOk X) (n:Nat) (a0:tVals) (a1:(tSch)×tRows×Unit) (a2:tVals):C_impl_keyAt_1 (DD X (n+1)) a0 a1 a2=F_impl_keyAt_1 (DD X n) n a0 a1 a2:=(DD_succ X Tryz.func153 (by kernel_rfl) (hX 153 rfl) n _).trans (E_impl_keyAt_1 ..)
theorem S_spec_ValueOk {X:Ext} (hX:XOk X) (n:Nat) (a0:Int×Int×ByteArray×Unit):C_spec_ValueOk (DD X (n+1)) a0=F_spec_ValueOk (DD X n) n a0:=(DD_succ X Tryz.func158 (by kernel_rfl) (hX 158 rfl) n _).trans (E_spec_ValueOk ..)
theorem S_spec_l18Same {X:Ext} (hX:XOk X) (n:Nat) (a0:tVals) (a1:tVals):C_spec_l18Same (DD X (n+1)) a0 a1=F_spec_l18Same (DD X n) n a0 a1:=(DD_succ X Tryz.func159 (by kernel_rfl) (hX 159 rfl) n _).trans (E_spec_l18Same ..)
theorem S_spec_ValueSame {X:Ext} (hX:XOk X) (n:Nat) (a0:Int×Int×ByteArray×Unit) (a1:Int×Int×ByteArray×Unit):C_spec_ValueSame (DD X (n+1)) a0 a1=F_spec_ValueSame (DD X n) n a0 a1:=(DD_succ X Tryz.func160 (by kernel_rfl) (hX 160 rfl) n _).trans (E_spec_ValueSame ..)
theorem S_spec_ValueLess {X:Ext} (hX:XOk X) (n:Nat) (a0:Int×Int×ByteArray×Unit) (a1:Int×Int×ByteArray×Unit):C_spec_ValueLess (DD X (n+1)) a0 a1=F_spec_ValueLess (DD X n) n a0 a1:=(DD_succ X Tryz.func161 (by kernel_rfl) (hX 161 rfl) n _).trans (E_spec_ValueLess ..)
theorem S_slices_Clone_impl_Col_impl_Col {X:Ext} (hX:XOk X) (n:Nat) (a0:tCols):C_slices_Clone_impl_Col_impl_Col (DD X (n+1)) a0=F_slices_Clone_impl_Col_impl_Col (DD X n) n a0:=(DD_succ X Tryz.func164 (by kernel_rfl) (hX 164 rfl) n _).trans (E_slices_Clone_impl_Col_impl_Col ..)
theorem S_spec_l21Some {X:Ext} (hX:XOk X) (n:Nat) (a0:tVals):C_spec_l21Some (DD X (n+1)) a0=F_spec_l21Some (DD X n) n a0:=(DD_succ X Tryz.func165 (by kernel_rfl) (hX 165 rfl) n _).trans (E_spec_l21Some ..)
theorem S_spec_ColNameOk {X:Ext} (hX:XOk X) (n:Nat) (a0:ByteArray):C_spec_ColNameOk (DD X (n+1)) a0=F_spec_ColNameOk (DD X n) n a0:=(DD_succ X Tryz.func166 (by kernel_rfl) (hX 166 rfl) n _).trans (E_spec_ColNameOk ..)
theorem S_spec_ColAt {X:Ext} (hX:XOk X) (n:Nat) (a0:tSch) (a1:ByteArray):C_spec_ColAt (DD X (n+1)) a0 a1=F_spec_ColAt (DD X n) n a0 a1:=(DD_succ X Tryz.func167 (by kernel_rfl) (hX 167 rfl) n _).trans (E_spec_ColAt ..)
theorem S_spec_l19Places {X:Ext} (hX:XOk X) (n:Nat) (a0:tSch) (a1:List Int) (a2:Int):C_spec_l19Places (DD X (n+1)) a0 a1 a2=F_spec_l19Places (DD X n) n a0 a1 a2:=(DD_succ X Tryz.func168 (by kernel_rfl) (hX 168 rfl) n _).trans (E_spec_l19Places ..)
theorem S_spec_l19Indexes {X:Ext} (hX:XOk X) (n:Nat) (a0:tSch):C_spec_l19Indexes (DD X (n+1)) a0=F_spec_l19Indexes (DD X n) n a0:=(DD_succ X Tryz.func169 (by kernel_rfl) (hX 169 rfl) n _).trans (E_spec_l19Indexes ..)
theorem S_laws_szColS {X:Ext} (hX:XOk X) (n:Nat) (a0:tCols) (a1:Int):C_laws_szColS (DD X (n+1)) a0 a1=F_laws_szColS (DD X n) n a0 a1:=(DD_succ X Tryz.func174 (by kernel_rfl) (hX 174 rfl) n _).trans (E_laws_szColS ..)
theorem S_laws_szIntS {X:Ext} (hX:XOk X) (n:Nat) (a0:List Int) (a1:Int):C_laws_szIntS (DD X (n+1)) a0 a1=F_laws_szIntS (DD X n) n a0 a1:=(DD_succ X Tryz.func175 (by kernel_rfl) (hX 175 rfl) n _).trans (E_laws_szIntS ..)
theorem S_laws_szIndexS {X:Ext} (hX:XOk X) (n:Nat) (a0:tIxs) (a1:Int):C_laws_szIndexS (DD X (n+1)) a0 a1=F_laws_szIndexS (DD X n) n a0 a1:=(DD_succ X Tryz.func176 (by kernel_rfl) (hX 176 rfl) n _).trans (E_laws_szIndexS ..)
theorem S_laws_toColS {X:Ext} (hX:XOk X) (n:Nat) (a0:tCols):C_laws_toColS (DD X (n+1)) a0=F_laws_toColS (DD X n) n a0:=(DD_succ X Tryz.func177 (by kernel_rfl) (hX 177 rfl) n _).trans (E_laws_toColS ..)
theorem S_laws_toIntS {X:Ext} (hX:XOk X) (n:Nat) (a0:List Int):C_laws_toIntS (DD X (n+1)) a0=F_laws_toIntS (DD X n) n a0:=(DD_succ X Tryz.func178 (by kernel_rfl) (hX 178 rfl) n _).trans (E_laws_toIntS ..)
theorem S_laws_toIndexS {X:Ext} (hX:XOk X) (n:Nat) (a0:tIxs):C_laws_toIndexS (DD X (n+1)) a0=F_laws_toIndexS (DD X n) n a0:=(DD_succ X Tryz.func179 (by kernel_rfl) (hX 179 rfl) n _).trans (E_laws_toIndexS ..)
theorem S_laws_eqColS {X:Ext} (hX:XOk X) (n:Nat) (a0:tCols) (a1:tCols):C_laws_eqColS (DD X (n+1)) a0 a1=F_laws_eqColS (DD X n) n a0 a1:=(DD_succ X Tryz.func180 (by kernel_rfl) (hX 180 rfl) n _).trans (E_laws_eqColS ..)
theorem S_laws_eqIntS {X:Ext} (hX:XOk X) (n:Nat) (a0:List Int) (a1:List Int):C_laws_eqIntS (DD X (n+1)) a0 a1=F_laws_eqIntS (DD X n) n a0 a1:=(DD_succ X Tryz.func181 (by kernel_rfl) (hX 181 rfl) n _).trans (E_laws_eqIntS ..)
theorem S_laws_eqIndexS {X:Ext} (hX:XOk X) (n:Nat) (a0:tIxs) (a1:tIxs):C_laws_eqIndexS (DD X (n+1)) a0 a1=F_laws_eqIndexS (DD X n) n a0 a1:=(DD_succ X Tryz.func182 (by kernel_rfl) (hX 182 rfl) n _).trans (E_laws_eqIndexS ..)
theorem S_laws_markColS {X:Ext} (hX:XOk X) (n:Nat) (a0:tCols) (a1:Int):C_laws_markColS (DD X (n+1)) a0 a1=F_laws_markColS (DD X n) n a0 a1:=(DD_succ X Tryz.func183 (by kernel_rfl) (hX 183 rfl) n _).trans (E_laws_markColS ..)
theorem S_laws_markIntS {X:Ext} (hX:XOk X) (n:Nat) (a0:List Int) (a1:Int):C_laws_markIntS (DD X (n+1)) a0 a1=F_laws_markIntS (DD X n) n a0 a1:=(DD_succ X Tryz.func184 (by kernel_rfl) (hX 184 rfl) n _).trans (E_laws_markIntS ..)
theorem S_laws_markIndexS {X:Ext} (hX:XOk X) (n:Nat) (a0:tIxs) (a1:Int):C_laws_markIndexS (DD X (n+1)) a0 a1=F_laws_markIndexS (DD X n) n a0 a1:=(DD_succ X Tryz.func185 (by kernel_rfl) (hX 185 rfl) n _).trans (E_laws_markIndexS ..)
theorem S_laws_heldColS {X:Ext} (hX:XOk X) (n:Nat) (a0:tCols) (a1:Int):C_laws_heldColS (DD X (n+1)) a0 a1=F_laws_heldColS (DD X n) n a0 a1:=(DD_succ X Tryz.func186 (by kernel_rfl) (hX 186 rfl) n _).trans (E_laws_heldColS ..)
theorem S_laws_heldIntS {X:Ext} (hX:XOk X) (n:Nat) (a0:List Int) (a1:Int):C_laws_heldIntS (DD X (n+1)) a0 a1=F_laws_heldIntS (DD X n) n a0 a1:=(DD_succ X Tryz.func187 (by kernel_rfl) (hX 187 rfl) n _).trans (E_laws_heldIntS ..)
theorem S_laws_heldIndexS {X:Ext} (hX:XOk X) (n:Nat) (a0:tIxs) (a1:Int):C_laws_heldIndexS (DD X (n+1)) a0 a1=F_laws_heldIndexS (DD X n) n a0 a1:=(DD_succ X Tryz.func188 (by kernel_rfl) (hX 188 rfl) n _).trans (E_laws_heldIndexS ..)
theorem S_laws_heldValueS {X:Ext} (hX:XOk X) (n:Nat) (a0:tVals) (a1:Int):C_laws_heldValueS (DD X (n+1)) a0 a1=F_laws_heldValueS (DD X n) n a0 a1:=(DD_succ X Tryz.func189 (by kernel_rfl) (hX 189 rfl) n _).trans (E_laws_heldValueS ..)
theorem S_slices_IndexFunc_impl_Index_impl_Index {X:Ext} (hX:XOk X) (n:Nat) (a0:tIxs) (a1:Clo):C_slices_IndexFunc_impl_Index_impl_Index (DD X (n+1)) a0 a1=F_slices_IndexFunc_impl_Index_impl_Index (DD X n) n a0 a1:=(DD_succ X Tryz.func193 (by kernel_rfl) (hX 193 rfl) n _).trans (E_slices_IndexFunc_impl_Index_impl_Index ..)
theorem S_slices_Index_impl_Value_impl_Value {X:Ext} (hX:XOk X) (n:Nat) (a0:tVals) (a1:Int×Int×ByteArray×Unit):C_slices_Index_impl_Value_impl_Value (DD X (n+1)) a0 a1=F_slices_Index_impl_Value_impl_Value (DD X n) n a0 a1:=(DD_succ X Tryz.func194 (by kernel_rfl) (hX 194 rfl) n _).trans (E_slices_Index_impl_Value_impl_Value ..)
theorem S_slices_IndexFunc_impl_Col_impl_Col {X:Ext} (hX:XOk X) (n:Nat) (a0:tCols) (a1:Clo):C_slices_IndexFunc_impl_Col_impl_Col (DD X (n+1)) a0 a1=F_slices_IndexFunc_impl_Col_impl_Col (DD X n) n a0 a1:=(DD_succ X Tryz.func195 (by kernel_rfl) (hX 195 rfl) n _).trans (E_slices_IndexFunc_impl_Col_impl_Col ..)
theorem S_impl_ColAt_1 {X:Ext} (hX:XOk X) (n:Nat) (a0:ByteArray×Int×Bool×Unit) (a1:ByteArray):C_impl_ColAt_1 (DD X (n+1)) a0 a1=F_impl_ColAt_1 (DD X n) n a0 a1:=(DD_succ X Tryz.func196 (by kernel_rfl) (hX 196 rfl) n _).trans (E_impl_ColAt_1 ..)
theorem S_slices_Contains_int_int {X:Ext} (hX:XOk X) (n:Nat) (a0:List Int) (a1:Int):C_slices_Contains_int_int (DD X (n+1)) a0 a1=F_slices_Contains_int_int (DD X n) n a0 a1:=(DD_succ X Tryz.func197 (by kernel_rfl) (hX 197 rfl) n _).trans (E_slices_Contains_int_int ..)
theorem S_slices_IndexFunc_int_int {X:Ext} (hX:XOk X) (n:Nat) (a0:List Int) (a1:Clo):C_slices_IndexFunc_int_int (DD X (n+1)) a0 a1=F_slices_IndexFunc_int_int (DD X n) n a0 a1:=(DD_succ X Tryz.func198 (by kernel_rfl) (hX 198 rfl) n _).trans (E_slices_IndexFunc_int_int ..)
theorem S_laws_szCol {X:Ext} (hX:XOk X) (n:Nat) (a0:ByteArray×Int×Bool×Unit) (a1:Int):C_laws_szCol (DD X (n+1)) a0 a1=F_laws_szCol (DD X n) n a0 a1:=(DD_succ X Tryz.func201 (by kernel_rfl) (hX 201 rfl) n _).trans (E_laws_szCol ..)
theorem S_laws_szIndex {X:Ext} (hX:XOk X) (n:Nat) (a0:ByteArray×List Int×Bool×Unit) (a1:Int):C_laws_szIndex (DD X (n+1)) a0 a1=F_laws_szIndex (DD X n) n a0 a1:=(DD_succ X Tryz.func202 (by kernel_rfl) (hX 202 rfl) n _).trans (E_laws_szIndex ..)
theorem S_laws_toCol {X:Ext} (hX:XOk X) (n:Nat) (a0:ByteArray×Int×Bool×Unit):C_laws_toCol (DD X (n+1)) a0=F_laws_toCol (DD X n) n a0:=(DD_succ X Tryz.func203 (by kernel_rfl) (hX 203 rfl) n _).trans (E_laws_toCol ..)
theorem S_laws_toIndex {X:Ext} (hX:XOk X) (n:Nat) (a0:ByteArray×List Int×Bool×Unit):C_laws_toIndex (DD X (n+1)) a0=F_laws_toIndex (DD X n) n a0:=(DD_succ X Tryz.func204 (by kernel_rfl) (hX 204 rfl) n _).trans (E_laws_toIndex ..)
theorem S_laws_eqCol {X:Ext} (hX:XOk X) (n:Nat) (a0:ByteArray×Int×Bool×Unit) (a1:ByteArray×Int×Bool×Unit):C_laws_eqCol (DD X (n+1)) a0 a1=F_laws_eqCol (DD X n) n a0 a1:=(DD_succ X Tryz.func205 (by kernel_rfl) (hX 205 rfl) n _).trans (E_laws_eqCol ..)
theorem S_laws_eqIndex {X:Ext} (hX:XOk X) (n:Nat) (a0:ByteArray×List Int×Bool×Unit) (a1:ByteArray×List Int×Bool×Unit):C_laws_eqIndex (DD X (n+1)) a0 a1=F_laws_eqIndex (DD X n) n a0 a1:=(DD_succ X Tryz.func206 (by kernel_rfl) (hX 206 rfl) n _).trans (E_laws_eqIndex ..)
theorem S_slices_Index_int_int {X:Ext} (hX:XOk X) (n:Nat) (a0:List Int) (a1:Int):C_slices_Index_int_int (DD X (n+1)) a0 a1=F_slices_Index_int_int (DD X n) n a0 a1:=(DD_succ X Tryz.func210 (by kernel_rfl) (hX 210 rfl) n _).trans (E_slices_Index_int_int ..)
end Go.G


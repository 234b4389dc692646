import Derived.Test.YtfafjngknkbngaaAPFnExactWayOf0
set_option linter.unusedVariables false
set_option linter.unusedSimpArgs false
set_option linter.unusedSectionVars false
namespace Go.G
set_option maxRecDepth 100000
set_option maxHeartbeats 0
open Go Go.V
noncomputable section
def laws_toValueSS_b0 (D:DX)(n:Nat) (go:tRows→Int→tRows→Option ((tRows×Unit)×Unit)) (K0:tRows→Option ((tRows×Unit)×Unit)) (x0:tRows) (x1:Int) (x2:tRows):Option ((tRows×Unit)×Unit):=br (decide (x1<(↑(List.length x0):Int))) (br (decide (0≤x1)&&decide (x1<(↑(List.length x0):Int))) (bindD (C_laws_toValueS D (List.getD x0 (Int.toNat x1) [])) fun b↦br (decide (0≤x1)&&decide (x1<(↑(List.length x2):Int))) (go x0 (IntKind.wrap IntKind.i64 (x1+1)) (List.set x2 (Int.toNat x1) (Prod.fst (Prod.fst b)))) none) none) (K0 x2)
def laws_toValueSS_L0 (D:DX)(n:Nat) (K0:tRows→Option ((tRows×Unit)×Unit)):Nat→(tRows)→(Int)→(tRows)→Option ((tRows×Unit)×Unit) | 0=>(fun x0 x1 x2=>none) | m+1=>(fun x0 x1 x2=>laws_toValueSS_b0 D n (laws_toValueSS_L0 D n K0 m) K0 x0 x1 x2)
def laws_toValueSS_x0_0 (D:DX)(n:Nat) (v0_0:tRows):Option ((tRows×Unit)×Unit):=some ((v0_0,()),())
def laws_toValueSS_LP0 (D:DX)(n:Nat):(tRows)→(Int)→(tRows)→Option ((tRows×Unit)×Unit):=(fun x0 x1 x2=>laws_toValueSS_L0 D n (fun v0_0=>laws_toValueSS_x0_0 D n v0_0) n x0 x1 x2)
def laws_toValueSS_e (D:DX)(n:Nat) (lp0:tRows→Int→tRows→Option ((tRows×Unit)×Unit)) (a0:tRows):Option ((tRows×Unit)×Unit):=br (decide (0≤(↑(List.length a0):Int))&&decide ((↑(List.length a0):Int)≤(↑(List.length a0):Int))&&decide ((↑(List.length a0):Int)≤(↑bound:Int))) (lp0 a0 0 (List.replicate (Int.toNat (↑(List.length a0):Int)) [])) none
def F_laws_toValueSS (D:DX)(n:Nat) (a0:tRows):Option ((tRows×Unit)×Unit):=laws_toValueSS_e D n (laws_toValueSS_LP0 D n) a0
def laws_toValueSS_Q0 (x0:tRows) (x1:Int) (x2:tRows):St:=stq 23 [(0,AV.val (Ty.sl (Ty.sl yV)) x0),(3,AV.brw 3 [] 0),(4,avI x1)] [(3,Root.mk (Ty.sl (Ty.sl yV)) (Mk.own 0 (Mk.own 0 (Mk.pr Mk.no (Mk.pr Mk.no (Mk.pr Mk.no Mk.no))))) x2 false)] 
def laws_toValueSS_Q0_0 (v0_0:tRows):St:=stq 23 [(3,AV.brw 3 [] 0)] [(3,Root.mk (Ty.sl (Ty.sl yV)) (Mk.own 0 (Mk.own 0 (Mk.pr Mk.no (Mk.pr Mk.no (Mk.pr Mk.no Mk.no))))) v0_0 false)] 
theorem laws_toValueSS_SB0 (D:DX)(n:Nat) (m:Nat) (K:Ex→St→Option (Out ctx 110)) (x0:tRows) (x1:Int) (x2:tRows) :
  LQ funcTab D n 110 [.r,.r,.l,.r,.l] (m+1) (laws_toValueSS_Q0 x0 x1 x2) K=laws_toValueSS_b0 D n (fun x0 x1 x2=>LQ funcTab D n 110 [.r,.r,.l,.r,.l] m (laws_toValueSS_Q0 x0 x1 x2) K) (fun v0_0=>K (Ex.exit 0) (laws_toValueSS_Q0_0 v0_0)) x0 x1 x2:=by kernel_rfl
theorem laws_toValueSS_EL0 (D:DX)(n:Nat) (K:Ex→St→Option (Out ctx 110)):∀ (m:Nat) (x0:tRows) (x1:Int) (x2:tRows),LQ funcTab D n 110 [.r,.r,.l,.r,.l] m (laws_toValueSS_Q0 x0 x1 x2) K=laws_toValueSS_L0 D n (fun v0_0=>K (Ex.exit 0) (laws_toValueSS_Q0_0 v0_0)) m x0 x1 x2
  | 0,x0,x1,x2=>LQ_zero ..
  | m+1,x0,x1,x2=>by
    have ih:(fun x0 x1 x2=>LQ funcTab D n 110 [.r,.r,.l,.r,.l] m (laws_toValueSS_Q0 x0 x1 x2) K)=laws_toValueSS_L0 D n (fun v0_0=>K (Ex.exit 0) (laws_toValueSS_Q0_0 v0_0)) m:=by funext x0 x1 x2;exact laws_toValueSS_EL0 D n K m x0 x1 x2
    rw[laws_toValueSS_SB0]
    rw[ih];rfl
theorem laws_toValueSS_X0_0 (D:DX)(n:Nat) (v0_0:tRows) :
  (CQ funcTab D n 110 [] [.r,.r,.l,.r,.l] (lastK funcTab 110)) (Ex.exit 0) (laws_toValueSS_Q0_0 v0_0)=laws_toValueSS_x0_0 D n v0_0:=by kernel_rfl
theorem laws_toValueSS_ELP0 (D:DX)(n:Nat) (x0:tRows) (x1:Int) (x2:tRows) :
  LQ funcTab D n 110 [.r,.r,.l,.r,.l] n (laws_toValueSS_Q0 x0 x1 x2) (CQ funcTab D n 110 [] [.r,.r,.l,.r,.l] (lastK funcTab 110))=laws_toValueSS_LP0 D n x0 x1 x2:=by
  rw[laws_toValueSS_EL0]
  simp only[laws_toValueSS_X0_0]
  rfl
theorem E_laws_toValueSS (D:DX)(n:Nat) (a0:tRows):rfC funcTab D n 110 (a0,())=F_laws_toValueSS D n a0:=by
  have h:rfC funcTab D n 110 (a0,())=laws_toValueSS_e D n (fun x0 x1 x2=>LQ funcTab D n 110 [.r,.r,.l,.r,.l] n (laws_toValueSS_Q0 x0 x1 x2) (CQ funcTab D n 110 [] [.r,.r,.l,.r,.l] (lastK funcTab 110))) a0:=by kernel_rfl
  rw[h]
  simp only[laws_toValueSS_ELP0]
  rfl

def impl_way_e (D:DX)(n:Nat) (a0:tSch) (a1:Int) (a2:tVals):Option ((tWay×Unit)×Unit):=br (decide (0≤a1)&&decide (a1<(↑(List.length (Prod.fst (Prod.snd (Prod.snd a0)))):Int))) (bindD (C_impl_Project D a2 (Prod.fst (Prod.snd (List.getD (Prod.fst (Prod.snd (Prod.snd a0))) (Int.toNat a1) (ByteArray.empty,[],false,()))))) fun b↦bindD (C_impl_TupleBytes D (Prod.fst (Prod.fst b))) fun b↦bindD (C_impl_KeyOfRow D a0 a2) fun b_1↦bindD (C_impl_TupleBytes D (Prod.fst (Prod.fst b_1))) fun b_2↦some (((ByteArray.mk (List.toArray (List.map (fun n↦UInt8.ofNat (Int.toNat n)) (Prod.fst (Prod.fst b)))),ByteArray.mk (List.toArray (List.map (fun n↦UInt8.ofNat (Int.toNat n)) (Prod.fst (Prod.fst b_2)))),()),()),())) none
def F_impl_way (D:DX)(n:Nat) (a0:tSch) (a1:Int) (a2:tVals):Option ((tWay×Unit)×Unit):=impl_way_e D n a0 a1 a2
theorem E_impl_way (D:DX)(n:Nat) (a0:tSch) (a1:Int) (a2:tVals):rfC funcTab D n 111 (a0,(a1,(a2,())))=F_impl_way D n a0 a1 a2:=by kernel_rfl

def laws_eqValueSS_b0 (D:DX)(n:Nat) (go:tRows→tRows→Int→Option ((Bool×Unit)×Unit)) (K0:Bool→Option ((Bool×Unit)×Unit)) (K1:Option ((Bool×Unit)×Unit)) (x0:tRows) (x1:tRows) (x2:Int):Option ((Bool×Unit)×Unit):=br (decide (x2<(↑(List.length x0):Int))) (br (decide (0≤x2)&&decide (x2<(↑(List.length x0):Int))) (br (decide (0≤x2)&&decide (x2<(↑(List.length x1):Int))) (bindD (C_laws_eqValueS D (List.getD x0 (Int.toNat x2) []) (List.getD x1 (Int.toNat x2) [])) fun b↦br (!Prod.fst (Prod.fst b)) (K0 false) (go x0 x1 (IntKind.wrap IntKind.i64 (x2+1)))) none) none) K1
def laws_eqValueSS_L0 (D:DX)(n:Nat) (K0:Bool→Option ((Bool×Unit)×Unit)) (K1:Option ((Bool×Unit)×Unit)):Nat→(tRows)→(tRows)→(Int)→Option ((Bool×Unit)×Unit) | 0=>(fun x0 x1 x2=>none) | m+1=>(fun x0 x1 x2=>laws_eqValueSS_b0 D n (laws_eqValueSS_L0 D n K0 K1 m) K0 K1 x0 x1 x2)
def laws_eqValueSS_x0_0 (D:DX)(n:Nat) (v0_0:Bool):Option ((Bool×Unit)×Unit):=some ((v0_0,()),())
def laws_eqValueSS_x0_1 (D:DX)(n:Nat):Option ((Bool×Unit)×Unit):=some ((true,()),())
def laws_eqValueSS_LP0 (D:DX)(n:Nat):(tRows)→(tRows)→(Int)→Option ((Bool×Unit)×Unit):=(fun x0 x1 x2=>laws_eqValueSS_L0 D n (fun v0_0=>laws_eqValueSS_x0_0 D n v0_0) (laws_eqValueSS_x0_1 D n) n x0 x1 x2)
def laws_eqValueSS_e (D:DX)(n:Nat) (lp0:tRows→tRows→Int→Option ((Bool×Unit)×Unit)) (a0:tRows) (a1:tRows):Option ((Bool×Unit)×Unit):=br ((↑(List.length a0):Int) != (↑(List.length a1):Int)) (some ((false,()),())) (lp0 a0 a1 0)
def F_laws_eqValueSS (D:DX)(n:Nat) (a0:tRows) (a1:tRows):Option ((Bool×Unit)×Unit):=laws_eqValueSS_e D n (laws_eqValueSS_LP0 D n) a0 a1
def laws_eqValueSS_Q0 (x0:tRows) (x1:tRows) (x2:Int):St:=stq 27 [(0,AV.val (Ty.sl (Ty.sl yV)) x0),(1,AV.val (Ty.sl (Ty.sl yV)) x1),(5,avI x2)] [] 
def laws_eqValueSS_Q0_0 (v0_0:Bool):St:=stq 27 [(4,AV.val Ty.bool v0_0)] [] 
def laws_eqValueSS_Q0_1:St:=stq 27 [] [] 
theorem laws_eqValueSS_SB0 (D:DX)(n:Nat) (m:Nat) (K:Ex→St→Option (Out ctx 112)) (x0:tRows) (x1:tRows) (x2:Int) :
  LQ funcTab D n 112 [.r,.r,.l,.r,.l] (m+1) (laws_eqValueSS_Q0 x0 x1 x2) K=laws_eqValueSS_b0 D n (fun x0 x1 x2=>LQ funcTab D n 112 [.r,.r,.l,.r,.l] m (laws_eqValueSS_Q0 x0 x1 x2) K) (fun v0_0=>K (Ex.ret) (laws_eqValueSS_Q0_0 v0_0)) (K (Ex.exit 0) (laws_eqValueSS_Q0_1)) x0 x1 x2:=by kernel_rfl
theorem laws_eqValueSS_EL0 (D:DX)(n:Nat) (K:Ex→St→Option (Out ctx 112)):∀ (m:Nat) (x0:tRows) (x1:tRows) (x2:Int),LQ funcTab D n 112 [.r,.r,.l,.r,.l] m (laws_eqValueSS_Q0 x0 x1 x2) K=laws_eqValueSS_L0 D n (fun v0_0=>K (Ex.ret) (laws_eqValueSS_Q0_0 v0_0)) (K (Ex.exit 0) (laws_eqValueSS_Q0_1)) m x0 x1 x2
  | 0,x0,x1,x2=>LQ_zero ..
  | m+1,x0,x1,x2=>by
    have ih:(fun x0 x1 x2=>LQ funcTab D n 112 [.r,.r,.l,.r,.l] m (laws_eqValueSS_Q0 x0 x1 x2) K)=laws_eqValueSS_L0 D n (fun v0_0=>K (Ex.ret) (laws_eqValueSS_Q0_0 v0_0)) (K (Ex.exit 0) (laws_eqValueSS_Q0_1)) m:=by funext x0 x1 x2;exact laws_eqValueSS_EL0 D n K m x0 x1 x2
    rw[laws_eqValueSS_SB0]
    rw[ih];rfl
theorem laws_eqValueSS_X0_0 (D:DX)(n:Nat) (v0_0:Bool) :
  (CQ funcTab D n 112 [] [.r,.r,.l,.r,.l] (lastK funcTab 112)) (Ex.ret) (laws_eqValueSS_Q0_0 v0_0)=laws_eqValueSS_x0_0 D n v0_0:=by kernel_rfl
theorem laws_eqValueSS_X0_1 (D:DX)(n:Nat) :
  (CQ funcTab D n 112 [] [.r,.r,.l,.r,.l] (lastK funcTab 112)) (Ex.exit 0) (laws_eqValueSS_Q0_1)=laws_eqValueSS_x0_1 D n:=by kernel_rfl
theorem laws_eqValueSS_ELP0 (D:DX)(n:Nat) (x0:tRows) (x1:tRows) (x2:Int) :
  LQ funcTab D n 112 [.r,.r,.l,.r,.l] n (laws_eqValueSS_Q0 x0 x1 x2) (CQ funcTab D n 112 [] [.r,.r,.l,.r,.l] (lastK funcTab 112))=laws_eqValueSS_LP0 D n x0 x1 x2:=by
  rw[laws_eqValueSS_EL0]
  simp only[laws_eqValueSS_X0_0,laws_eqValueSS_X0_1]
  rfl
theorem E_laws_eqValueSS (D:DX)(n:Nat) (a0:tRows) (a1:tRows):rfC funcTab D n 112 (a0,(a1,()))=F_laws_eqValueSS D n a0 a1:=by
  have h:rfC funcTab D n 112 (a0,(a1,()))=laws_eqValueSS_e D n (fun x0 x1 x2=>LQ funcTab D n 112 [.r,.r,.l,.r,.l] n (laws_eqValueSS_Q0 x0 x1 x2) (CQ funcTab D n 112 [] [.r,.r,.l,.r,.l] (lastK funcTab 112))) a0 a1:=by kernel_rfl
  rw[h]
  simp only[laws_eqValueSS_ELP0]
  rfl

def spec_TupleLess_b0 (D:DX)(n:Nat) (go:tVals→tVals→Int→Option ((Bool×Unit)×Unit)) (K0:tVals→tVals→Bool→Option ((Bool×Unit)×Unit)) (K1:tVals→tVals→Option ((Bool×Unit)×Unit)) (x0:tVals) (x1:tVals) (x2:Int):Option ((Bool×Unit)×Unit):=br (bif decide (x2<(↑(List.length x0):Int)) then decide (x2<(↑(List.length x1):Int)) else false) (br (decide (0≤x2)&&decide (x2<(↑(List.length x0):Int))) (br (decide (0≤x2)&&decide (x2<(↑(List.length x1):Int))) (bindD (C_spec_ValueSame D (List.getD x0 (Int.toNat x2) (0,0,ByteArray.empty,())) (List.getD x1 (Int.toNat x2) (0,0,ByteArray.empty,()))) fun b↦br (!Prod.fst (Prod.fst b)) (br (decide (0≤x2)&&decide (x2<(↑(List.length x0):Int))) (br (decide (0≤x2)&&decide (x2<(↑(List.length x1):Int))) (bindD (C_spec_ValueLess D (List.getD x0 (Int.toNat x2) (0,0,ByteArray.empty,())) (List.getD x1 (Int.toNat x2) (0,0,ByteArray.empty,()))) fun b↦K0 x0 x1 (Prod.fst (Prod.fst b))) none) none) (go x0 x1 (IntKind.wrap IntKind.i64 (x2+1)))) none) none) (K1 x0 x1)
def spec_TupleLess_L0 (D:DX)(n:Nat) (K0:tVals→tVals→Bool→Option ((Bool×Unit)×Unit)) (K1:tVals→tVals→Option ((Bool×Unit)×Unit)):Nat→(tVals)→(tVals)→(Int)→Option ((Bool×Unit)×Unit) | 0=>(fun x0 x1 x2=>none) | m+1=>(fun x0 x1 x2=>spec_TupleLess_b0 D n (spec_TupleLess_L0 D n K0 K1 m) K0 K1 x0 x1 x2)
def spec_TupleLess_x0_0 (D:DX)(n:Nat) (v0_0:tVals) (v0_1:tVals) (v0_2:Bool):Option ((Bool×Unit)×Unit):=some ((v0_2,()),())
def spec_TupleLess_x0_1 (D:DX)(n:Nat) (v1_0:tVals) (v1_1:tVals):Option ((Bool×Unit)×Unit):=some ((decide ((↑(List.length v1_0):Int)<(↑(List.length v1_1):Int)),()),())
def spec_TupleLess_LP0 (D:DX)(n:Nat):(tVals)→(tVals)→(Int)→Option ((Bool×Unit)×Unit):=(fun x0 x1 x2=>spec_TupleLess_L0 D n (fun v0_0 v0_1 v0_2=>spec_TupleLess_x0_0 D n v0_0 v0_1 v0_2) (fun v1_0 v1_1=>spec_TupleLess_x0_1 D n v1_0 v1_1) n x0 x1 x2)
def spec_TupleLess_e (D:DX)(n:Nat) (lp0:tVals→tVals→Int→Option ((Bool×Unit)×Unit)) (a0:tVals) (a1:tVals):Option ((Bool×Unit)×Unit):=lp0 a0 a1 0
def F_spec_TupleLess (D:DX)(n:Nat) (a0:tVals) (a1:tVals):Option ((Bool×Unit)×Unit):=spec_TupleLess_e D n (spec_TupleLess_LP0 D n) a0 a1
def spec_TupleLess_Q0 (x0:tVals) (x1:tVals) (x2:Int):St:=stq 42 [(0,AV.val (Ty.sl yV) x0),(1,AV.val (Ty.sl yV) x1),(5,avI x2)] [] 
def spec_TupleLess_Q0_0 (v0_0:tVals) (v0_1:tVals) (v0_2:Bool):St:=stq 42 [(0,AV.val (Ty.sl yV) v0_0),(1,AV.val (Ty.sl yV) v0_1),(4,AV.val Ty.bool v0_2)] [] 
def spec_TupleLess_Q0_1 (v1_0:tVals) (v1_1:tVals):St:=stq 42 [(0,AV.val (Ty.sl yV) v1_0),(1,AV.val (Ty.sl yV) v1_1)] [] 
theorem spec_TupleLess_SB0 (D:DX)(n:Nat) (m:Nat) (K:Ex→St→Option (Out ctx 113)) (x0:tVals) (x1:tVals) (x2:Int) :
  LQ funcTab D n 113 [.r,.l,.r,.l] (m+1) (spec_TupleLess_Q0 x0 x1 x2) K=spec_TupleLess_b0 D n (fun x0 x1 x2=>LQ funcTab D n 113 [.r,.l,.r,.l] m (spec_TupleLess_Q0 x0 x1 x2) K) (fun v0_0 v0_1 v0_2=>K (Ex.ret) (spec_TupleLess_Q0_0 v0_0 v0_1 v0_2)) (fun v1_0 v1_1=>K (Ex.exit 0) (spec_TupleLess_Q0_1 v1_0 v1_1)) x0 x1 x2:=by kernel_rfl
theorem spec_TupleLess_EL0 (D:DX)(n:Nat) (K:Ex→St→Option (Out ctx 113)):∀ (m:Nat) (x0:tVals) (x1:tVals) (x2:Int),LQ funcTab D n 113 [.r,.l,.r,.l] m (spec_TupleLess_Q0 x0 x1 x2) K=spec_TupleLess_L0 D n (fun v0_0 v0_1 v0_2=>K (Ex.ret) (spec_TupleLess_Q0_0 v0_0 v0_1 v0_2)) (fun v1_0 v1_1=>K (Ex.exit 0) (spec_TupleLess_Q0_1 v1_0 v1_1)) m x0 x1 x2
  | 0,x0,x1,x2=>LQ_zero ..
  | m+1,x0,x1,x2=>by
    have ih:(fun x0 x1 x2=>LQ funcTab D n 113 [.r,.l,.r,.l] m (spec_TupleLess_Q0 x0 x1 x2) K)=spec_TupleLess_L0 D n (fun v0_0 v0_1 v0_2=>K (Ex.ret) (spec_TupleLess_Q0_0 v0_0 v0_1 v0_2)) (fun v1_0 v1_1=>K (Ex.exit 0) (spec_TupleLess_Q0_1 v1_0 v1_1)) m:=by funext x0 x1 x2;exact spec_TupleLess_EL0 D n K m x0 x1 x2
    rw[spec_TupleLess_SB0]
    rw[ih];rfl
theorem spec_TupleLess_X0_0 (D:DX)(n:Nat) (v0_0:tVals) (v0_1:tVals) (v0_2:Bool) :
  (CQ funcTab D n 113 [] [.r,.l,.r,.l] (lastK funcTab 113)) (Ex.ret) (spec_TupleLess_Q0_0 v0_0 v0_1 v0_2)=spec_TupleLess_x0_0 D n v0_0 v0_1 v0_2:=by kernel_rfl
theorem spec_TupleLess_X0_1 (D:DX)(n:Nat) (v1_0:tVals) (v1_1:tVals) :
  (CQ funcTab D n 113 [] [.r,.l,.r,.l] (lastK funcTab 113)) (Ex.exit 0) (spec_TupleLess_Q0_1 v1_0 v1_1)=spec_TupleLess_x0_1 D n v1_0 v1_1:=by kernel_rfl
theorem spec_TupleLess_ELP0 (D:DX)(n:Nat) (x0:tVals) (x1:tVals) (x2:Int) :
  LQ funcTab D n 113 [.r,.l,.r,.l] n (spec_TupleLess_Q0 x0 x1 x2) (CQ funcTab D n 113 [] [.r,.l,.r,.l] (lastK funcTab 113))=spec_TupleLess_LP0 D n x0 x1 x2:=by
  rw[spec_TupleLess_EL0]
  simp only[spec_TupleLess_X0_0,spec_TupleLess_X0_1]
  rfl
theorem E_spec_TupleLess (D:DX)(n:Nat) (a0:tVals) (a1:tVals):rfC funcTab D n 113 (a0,(a1,()))=F_spec_TupleLess D n a0 a1:=by
  have h:rfC funcTab D n 113 (a0,(a1,()))=spec_TupleLess_e D n (fun x0 x1 x2=>LQ funcTab D n 113 [.r,.l,.r,.l] n (spec_TupleLess_Q0 x0 x1 x2) (CQ funcTab D n 113 [] [.r,.l,.r,.l] (lastK funcTab 113))) a0 a1:=by kernel_rfl
  rw[h]
  simp only[spec_TupleLess_ELP0]
  rfl

def spec_l21Clash_b0 (D:DX)(n:Nat) (go:tVals→tVals→Int→tSch→Option ((Bool×Unit)×Unit)) (K0:Bool→Option ((Bool×Unit)×Unit)) (K1:Option ((Bool×Unit)×Unit)) (x0:tVals) (x1:tVals) (x2:Int) (x3:tSch):Option ((Bool×Unit)×Unit):=br (decide (x2<(↑(List.length (Prod.fst (Prod.snd (Prod.snd x3)))):Int))) (br (decide (0≤x2)&&decide (x2<(↑(List.length (Prod.fst (Prod.snd (Prod.snd x3)))):Int))) (bindD (C_spec_Project D x0 (Prod.fst (Prod.snd (List.getD (Prod.fst (Prod.snd (Prod.snd x3))) (Int.toNat x2) (ByteArray.empty,[],false,()))))) fun b↦bindD (C_spec_Project D x1 (Prod.fst (Prod.snd (List.getD (Prod.fst (Prod.snd (Prod.snd x3))) (Int.toNat x2) (ByteArray.empty,[],false,()))))) fun b_1↦br (Prod.fst (Prod.snd (Prod.snd (List.getD (Prod.fst (Prod.snd (Prod.snd x3))) (Int.toNat x2) (ByteArray.empty,[],false,()))))) (bindD (C_spec_l18Same D (Prod.fst (Prod.fst b)) (Prod.fst (Prod.fst b_1))) fun b_2↦br (Prod.fst (Prod.fst b_2)) (bindD (C_spec_l21Some D (Prod.fst (Prod.fst b))) fun b↦br (!Prod.fst (Prod.fst b)) (K0 true) (go x0 x1 (IntKind.wrap IntKind.i64 (x2+1)) x3)) (go x0 x1 (IntKind.wrap IntKind.i64 (x2+1)) x3)) (go x0 x1 (IntKind.wrap IntKind.i64 (x2+1)) x3)) none) K1
def spec_l21Clash_L0 (D:DX)(n:Nat) (K0:Bool→Option ((Bool×Unit)×Unit)) (K1:Option ((Bool×Unit)×Unit)):Nat→(tVals)→(tVals)→(Int)→(tSch)→Option ((Bool×Unit)×Unit) | 0=>(fun x0 x1 x2 x3=>none) | m+1=>(fun x0 x1 x2 x3=>spec_l21Clash_b0 D n (spec_l21Clash_L0 D n K0 K1 m) K0 K1 x0 x1 x2 x3)
def spec_l21Clash_x0_0 (D:DX)(n:Nat) (v0_0:Bool):Option ((Bool×Unit)×Unit):=some ((v0_0,()),())
def spec_l21Clash_x0_1 (D:DX)(n:Nat):Option ((Bool×Unit)×Unit):=some ((false,()),())
def spec_l21Clash_LP0 (D:DX)(n:Nat):(tVals)→(tVals)→(Int)→(tSch)→Option ((Bool×Unit)×Unit):=(fun x0 x1 x2 x3=>spec_l21Clash_L0 D n (fun v0_0=>spec_l21Clash_x0_0 D n v0_0) (spec_l21Clash_x0_1 D n) n x0 x1 x2 x3)
def spec_l21Clash_e (D:DX)(n:Nat) (lp0:tVals→tVals→Int→tSch→Option ((Bool×Unit)×Unit)) (a0:tSch) (a1:tVals) (a2:tVals):Option ((Bool×Unit)×Unit):=lp0 a1 a2 0 a0
def F_spec_l21Clash (D:DX)(n:Nat) (a0:tSch) (a1:tVals) (a2:tVals):Option ((Bool×Unit)×Unit):=spec_l21Clash_e D n (spec_l21Clash_LP0 D n) a0 a1 a2
def spec_l21Clash_Q0 (x0:tVals) (x1:tVals) (x2:Int) (x3:tSch):St:=stq 43 [(1,AV.val (Ty.sl yV) x0),(2,AV.val (Ty.sl yV) x1),(3,AV.addr 3 []),(7,avI x2)] [(3,Root.mk yS Mk.no x3 true)] 
def spec_l21Clash_Q0_0 (v0_0:Bool):St:=stq 43 [(6,AV.val Ty.bool v0_0)] [] 
def spec_l21Clash_Q0_1:St:=stq 43 [] [] 
theorem spec_l21Clash_SB0 (D:DX)(n:Nat) (m:Nat) (K:Ex→St→Option (Out ctx 114)) (x0:tVals) (x1:tVals) (x2:Int) (x3:tSch) :
  LQ funcTab D n 114 [.r,.l,.r,.l] (m+1) (spec_l21Clash_Q0 x0 x1 x2 x3) K=spec_l21Clash_b0 D n (fun x0 x1 x2 x3=>LQ funcTab D n 114 [.r,.l,.r,.l] m (spec_l21Clash_Q0 x0 x1 x2 x3) K) (fun v0_0=>K (Ex.ret) (spec_l21Clash_Q0_0 v0_0)) (K (Ex.exit 0) (spec_l21Clash_Q0_1)) x0 x1 x2 x3:=by kernel_rfl
theorem spec_l21Clash_EL0 (D:DX)(n:Nat) (K:Ex→St→Option (Out ctx 114)):∀ (m:Nat) (x0:tVals) (x1:tVals) (x2:Int) (x3:tSch),LQ funcTab D n 114 [.r,.l,.r,.l] m (spec_l21Clash_Q0 x0 x1 x2 x3) K=spec_l21Clash_L0 D n (fun v0_0=>K (Ex.ret) (spec_l21Clash_Q0_0 v0_0)) (K (Ex.exit 0) (spec_l21Clash_Q0_1)) m x0 x1 x2 x3
  | 0,x0,x1,x2,x3=>LQ_zero ..
  | m+1,x0,x1,x2,x3=>by
    have ih:(fun x0 x1 x2 x3=>LQ funcTab D n 114 [.r,.l,.r,.l] m (spec_l21Clash_Q0 x0 x1 x2 x3) K)=spec_l21Clash_L0 D n (fun v0_0=>K (Ex.ret) (spec_l21Clash_Q0_0 v0_0)) (K (Ex.exit 0) (spec_l21Clash_Q0_1)) m:=by funext x0 x1 x2 x3;exact spec_l21Clash_EL0 D n K m x0 x1 x2 x3
    rw[spec_l21Clash_SB0]
    rw[ih];rfl
theorem spec_l21Clash_X0_0 (D:DX)(n:Nat) (v0_0:Bool) :
  (CQ funcTab D n 114 [] [.r,.l,.r,.l] (lastK funcTab 114)) (Ex.ret) (spec_l21Clash_Q0_0 v0_0)=spec_l21Clash_x0_0 D n v0_0:=by kernel_rfl
theorem spec_l21Clash_X0_1 (D:DX)(n:Nat) :
  (CQ funcTab D n 114 [] [.r,.l,.r,.l] (lastK funcTab 114)) (Ex.exit 0) (spec_l21Clash_Q0_1)=spec_l21Clash_x0_1 D n:=by kernel_rfl
theorem spec_l21Clash_ELP0 (D:DX)(n:Nat) (x0:tVals) (x1:tVals) (x2:Int) (x3:tSch) :
  LQ funcTab D n 114 [.r,.l,.r,.l] n (spec_l21Clash_Q0 x0 x1 x2 x3) (CQ funcTab D n 114 [] [.r,.l,.r,.l] (lastK funcTab 114))=spec_l21Clash_LP0 D n x0 x1 x2 x3:=by
  rw[spec_l21Clash_EL0]
  simp only[spec_l21Clash_X0_0,spec_l21Clash_X0_1]
  rfl
theorem E_spec_l21Clash (D:DX)(n:Nat) (a0:tSch) (a1:tVals) (a2:tVals):rfC funcTab D n 114 (a0,(a1,(a2,())))=F_spec_l21Clash D n a0 a1 a2:=by
  have h:rfC funcTab D n 114 (a0,(a1,(a2,())))=spec_l21Clash_e D n (fun x0 x1 x2 x3=>LQ funcTab D n 114 [.r,.l,.r,.l] n (spec_l21Clash_Q0 x0 x1 x2 x3) (CQ funcTab D n 114 [] [.r,.l,.r,.l] (lastK funcTab 114))) a0 a1 a2:=by kernel_rfl
  rw[h]
  simp only[spec_l21Clash_ELP0]
  rfl

def impl_TupleLess_e (D:DX)(n:Nat) (a0:tVals) (a1:tVals):Option ((Bool×Unit)×Unit):=bindD (C_slices_CompareFunc_impl_Value_impl_Value_impl_Value_impl_Value D a0 a1 (Clo.mk 167 [])) fun b↦some ((decide (Prod.fst (Prod.fst b)<0),()),())
def F_impl_TupleLess (D:DX)(n:Nat) (a0:tVals) (a1:tVals):Option ((Bool×Unit)×Unit):=impl_TupleLess_e D n a0 a1
theorem E_impl_TupleLess (D:DX)(n:Nat) (a0:tVals) (a1:tVals):rfC funcTab D n 115 (a0,(a1,()))=F_impl_TupleLess D n a0 a1:=by kernel_rfl

def slices_ContainsFunc_impl_Value_impl_Valuex_e (D:DX)(n:Nat) (a1:Clo) (a0:tRows):Option ((Bool×Unit)×Unit):=bindD (C_slices_IndexFunc_impl_Value_impl_Value D a0 a1) fun b↦some ((decide (Prod.fst (Prod.fst b)≥0),()),())
def F_slices_ContainsFunc_impl_Value_impl_Valuex (D:DX)(n:Nat) (a0:tRows) (a1:Clo):Option ((Bool×Unit)×Unit):=slices_ContainsFunc_impl_Value_impl_Valuex_e D n a1 a0
theorem E_slices_ContainsFunc_impl_Value_impl_Valuex (D:DX)(n:Nat) (a0:tRows) (a1:Clo):rfC funcTab D n 116 (a0,(a1,()))=F_slices_ContainsFunc_impl_Value_impl_Valuex D n a0 a1:=by kernel_rfl

def impl_RelOk_1_e (D:DX)(n:Nat) (a0:tVals) (a1:(tSch)×tRows×Unit) (a2:tVals):Option ((Bool×Unit)×Unit):=bindD (C_impl_clash D (Prod.fst a1) a2 a0) fun b↦some ((Prod.fst (Prod.fst b),()),())
def F_impl_RelOk_1 (D:DX)(n:Nat) (a0:tVals) (a1:(tSch)×tRows×Unit) (a2:tVals):Option ((Bool×Unit)×Unit):=impl_RelOk_1_e D n a0 a1 a2
theorem E_impl_RelOk_1 (D:DX)(n:Nat) (a0:tVals) (a1:(tSch)×
  tRows×Unit) (a2:tVals):rfC funcTab D n 117 (a0,(a1,(a2,())))=F_impl_RelOk_1 D n a0 a1 a2:=by kernel_rfl

def impl_clash_e (D:DX)(n:Nat) (a0:tSch) (a1:tVals) (a2:tVals):Option ((Bool×Unit)×Unit):=bindD (C_slices_ContainsFunc_impl_Index_impl_Index D (Prod.fst (Prod.snd (Prod.snd a0))) (Clo.mk 168 [CapV.rptr (Ty.sl (Ty.pair (Ty.int IntKind.i64) (Ty.pair (Ty.int IntKind.i64) (Ty.pair Ty.str Ty.unit)))) a1,CapV.rptr (Ty.sl (Ty.pair (Ty.int IntKind.i64) (Ty.pair (Ty.int IntKind.i64) (Ty.pair Ty.str Ty.unit)))) a2])) fun b↦some ((Prod.fst (Prod.fst b),()),())
def F_impl_clash (D:DX)(n:Nat) (a0:tSch) (a1:tVals) (a2:tVals):Option ((Bool×Unit)×Unit):=impl_clash_e D n a0 a1 a2
theorem E_impl_clash (D:DX)(n:Nat) (a0:tSch) (a1:tVals) (a2:tVals):rfC funcTab D n 118 (a0,(a1,(a2,())))=F_impl_clash D n a0 a1 a2:=by kernel_rfl

def impl_keyAt_e (D:DX)(n:Nat) (a0:(tSch)×tRows×Unit) (a1:tVals):Option ((Int×Unit)×Unit):=bindD (C_slices_IndexFunc_impl_Value_impl_Value D (Prod.fst (Prod.snd a0)) (Clo.mk 173 [CapV.rptr (Ty.pair (Ty.pair (Ty.sl (Ty.pair Ty.str (Ty.pair (Ty.int IntKind.i64) (Ty.pair Ty.bool Ty.unit)))) (Ty.pair (Ty.sl (Ty.int IntKind.i64)) (Ty.pair (Ty.sl (Ty.pair Ty.str (Ty.pair (Ty.sl (Ty.int IntKind.i64)) (Ty.pair Ty.bool Ty.unit)))) Ty.unit))) (Ty.pair (Ty.sl (Ty.sl (Ty.pair (Ty.int IntKind.i64) (Ty.pair (Ty.int IntKind.i64) (Ty.pair Ty.str Ty.unit))))) Ty.unit)) a0,CapV.rptr (Ty.sl (Ty.pair (Ty.int IntKind.i64) (Ty.pair (Ty.int IntKind.i64) (Ty.pair Ty.str Ty.unit)))) a1])) fun b↦some ((Prod.fst (Prod.fst b),()),())
def F_impl_keyAt (D:DX)(n:Nat) (a0:(tSch)×tRows×Unit) (a1:tVals):Option ((Int×Unit)×Unit):=impl_keyAt_e D n a0 a1
theorem E_impl_keyAt (D:DX)(n:Nat) (a0:(tSch)×
  tRows×Unit) (a1:tVals):rfC funcTab D n 122 (a0,(a1,()))=F_impl_keyAt D n a0 a1:=by kernel_rfl

def slices_Clone_impl_Value_impl_Value_e (D:DX)(n:Nat) (a0:tVals):Option ((tVals×Unit)×Unit):=br (decide (Int.toNat (↑(List.length a0):Int)=0)) (both (some (([],()),())) (br (decide (0+List.length a0≤bound)) (some (([]++a0,()),())) none)) (br (decide (0+List.length a0≤bound)) (some (([]++a0,()),())) none)
def F_slices_Clone_impl_Value_impl_Value (D:DX)(n:Nat) (a0:tVals):Option ((tVals×Unit)×Unit):=slices_Clone_impl_Value_impl_Value_e D n a0
theorem E_slices_Clone_impl_Value_impl_Value (D:DX)(n:Nat) (a0:tVals):rfC funcTab D n 123 (a0,())=F_slices_Clone_impl_Value_impl_Value D n a0:=by kernel_rfl

def spec_l21At_b0 (D:DX)(n:Nat) (go:tVals→Int→(tSch)×tRows×Unit→Option ((Int×Unit)×Unit)) (K0:Int→Option ((Int×Unit)×Unit)) (K1:Option ((Int×Unit)×Unit)) (x0:tVals) (x1:Int) (x2:(tSch)×tRows×Unit):Option ((Int×Unit)×Unit):=br (decide (x1<(↑(List.length (Prod.fst (Prod.snd x2))):Int))) (br (decide (0≤x1)&&decide (x1<(↑(List.length (Prod.fst (Prod.snd x2))):Int))) (bindD (C_spec_KeyOfRow D (Prod.fst x2) (List.getD (Prod.fst (Prod.snd x2)) (Int.toNat x1) [])) fun b↦bindD (C_spec_l18Same D (Prod.fst (Prod.fst b)) x0) fun b↦br (Prod.fst (Prod.fst b)) (K0 x1) (go x0 (IntKind.wrap IntKind.i64 (x1+1)) x2)) none) K1
def spec_l21At_L0 (D:DX)(n:Nat) (K0:Int→Option ((Int×Unit)×Unit)) (K1:Option ((Int×Unit)×Unit)):Nat→(tVals)→(Int)→((tSch)×tRows×Unit)→Option ((Int×Unit)×Unit) | 0=>(fun x0 x1 x2=>none) | m+1=>(fun x0 x1 x2=>spec_l21At_b0 D n (spec_l21At_L0 D n K0 K1 m) K0 K1 x0 x1 x2)
def spec_l21At_x0_0 (D:DX)(n:Nat) (v0_0:Int):Option ((Int×Unit)×Unit):=some ((v0_0,()),())
def spec_l21At_x0_1 (D:DX)(n:Nat):Option ((Int×Unit)×Unit):=some ((-1,()),())
def spec_l21At_LP0 (D:DX)(n:Nat):(tVals)→(Int)→((tSch)×tRows×Unit)→Option ((Int×Unit)×Unit):=(fun x0 x1 x2=>spec_l21At_L0 D n (fun v0_0=>spec_l21At_x0_0 D n v0_0) (spec_l21At_x0_1 D n) n x0 x1 x2)
def spec_l21At_e (D:DX)(n:Nat) (lp0:tVals→Int→(tSch)×tRows×Unit→Option ((Int×Unit)×Unit)) (a0:(tSch)×tRows×Unit) (a1:tVals):Option ((Int×Unit)×Unit):=lp0 a1 0 a0
def F_spec_l21At (D:DX)(n:Nat) (a0:(tSch)×tRows×Unit) (a1:tVals):Option ((Int×Unit)×Unit):=spec_l21At_e D n (spec_l21At_LP0 D n) a0 a1
def spec_l21At_Q0 (x0:tVals) (x1:Int) (x2:(tSch)×tRows×Unit):St:=stq 24 [(1,AV.val (Ty.sl yV) x0),(2,AV.addr 2 []),(5,avI x1)] [(2,Root.mk (Ty.pair yS (Ty.pair (Ty.sl (Ty.sl yV)) Ty.unit)) Mk.no x2 true)] 
def spec_l21At_Q0_0 (v0_0:Int):St:=stq 24 [(4,avI v0_0)] [] 
def spec_l21At_Q0_1:St:=stq 24 [] [] 
theorem spec_l21At_SB0 (D:DX)(n:Nat) (m:Nat) (K:Ex→St→Option (Out ctx 125)) (x0:tVals) (x1:Int) (x2:(tSch)×
  tRows×Unit) :
  LQ funcTab D n 125 [.r,.l,.r,.l] (m+1) (spec_l21At_Q0 x0 x1 x2) K=spec_l21At_b0 D n (fun x0 x1 x2=>LQ funcTab D n 125 [.r,.l,.r,.l] m (spec_l21At_Q0 x0 x1 x2) K) (fun v0_0=>K (Ex.ret) (spec_l21At_Q0_0 v0_0)) (K (Ex.exit 0) (spec_l21At_Q0_1)) x0 x1 x2:=by kernel_rfl
theorem spec_l21At_EL0 (D:DX)(n:Nat) (K:Ex→St→Option (Out ctx 125)):∀ (m:Nat) (x0:tVals) (x1:Int) (x2:(tSch)×
  tRows×Unit),LQ funcTab D n 125 [.r,.l,.r,.l] m (spec_l21At_Q0 x0 x1 x2) K=spec_l21At_L0 D n (fun v0_0=>K (Ex.ret) (spec_l21At_Q0_0 v0_0)) (K (Ex.exit 0) (spec_l21At_Q0_1)) m x0 x1 x2
  | 0,x0,x1,x2=>LQ_zero ..
  | m+1,x0,x1,x2=>by
    have ih:(fun x0 x1 x2=>LQ funcTab D n 125 [.r,.l,.r,.l] m (spec_l21At_Q0 x0 x1 x2) K)=spec_l21At_L0 D n (fun v0_0=>K (Ex.ret) (spec_l21At_Q0_0 v0_0)) (K (Ex.exit 0) (spec_l21At_Q0_1)) m:=by funext x0 x1 x2;exact spec_l21At_EL0 D n K m x0 x1 x2
    rw[spec_l21At_SB0]
    rw[ih];rfl
theorem spec_l21At_X0_0 (D:DX)(n:Nat) (v0_0:Int) :
  (CQ funcTab D n 125 [] [.r,.l,.r,.l] (lastK funcTab 125)) (Ex.ret) (spec_l21At_Q0_0 v0_0)=spec_l21At_x0_0 D n v0_0:=by kernel_rfl
theorem spec_l21At_X0_1 (D:DX)(n:Nat) :
  (CQ funcTab D n 125 [] [.r,.l,.r,.l] (lastK funcTab 125)) (Ex.exit 0) (spec_l21At_Q0_1)=spec_l21At_x0_1 D n:=by kernel_rfl
theorem spec_l21At_ELP0 (D:DX)(n:Nat) (x0:tVals) (x1:Int) (x2:(tSch)×
  tRows×Unit) :
  LQ funcTab D n 125 [.r,.l,.r,.l] n (spec_l21At_Q0 x0 x1 x2) (CQ funcTab D n 125 [] [.r,.l,.r,.l] (lastK funcTab 125))=spec_l21At_LP0 D n x0 x1 x2:=by
  rw[spec_l21At_EL0]
  simp only[spec_l21At_X0_0,spec_l21At_X0_1]
  rfl
theorem E_spec_l21At (D:DX)(n:Nat) (a0:(tSch)×
  tRows×Unit) (a1:tVals):rfC funcTab D n 125 (a0,(a1,()))=F_spec_l21At D n a0 a1:=by
  have h:rfC funcTab D n 125 (a0,(a1,()))=spec_l21At_e D n (fun x0 x1 x2=>LQ funcTab D n 125 [.r,.l,.r,.l] n (spec_l21At_Q0 x0 x1 x2) (CQ funcTab D n 125 [] [.r,.l,.r,.l] (lastK funcTab 125))) a0 a1:=by kernel_rfl
  rw[h]
  simp only[spec_l21At_ELP0]
  rfl

def slices_IndexFunc_impl_Value_impl_Value_b0 (D:DX)(n:Nat) (a1:Clo) (go:tRows→Int→Int→Option ((Int×Unit)×Unit)) (K0:Int→Option ((Int×Unit)×Unit)) (K1:Option ((Int×Unit)×Unit)) (x0:tRows) (x1:Int) (x2:Int):Option ((Int×Unit)×Unit):=br (decide (x2<x1)) (br (decide (0≤x2)&&decide (x2<(↑(List.length x0):Int))) (bindD (applyClo ctx D a1 [CapV.val (Ty.sl (Ty.pair (Ty.int IntKind.i64) (Ty.pair (Ty.int IntKind.i64) (Ty.pair Ty.str Ty.unit)))) (List.getD x0 (Int.toNat x2) [])] Ty.bool) fun b↦br b (K0 x2) (go x0 x1 (IntKind.wrap IntKind.i64 (x2+1)))) none) K1
def slices_IndexFunc_impl_Value_impl_Value_L0 (D:DX)(n:Nat) (a1:Clo) (K0:Int→Option ((Int×Unit)×Unit)) (K1:Option ((Int×Unit)×Unit)):Nat→(tRows)→(Int)→(Int)→Option ((Int×Unit)×Unit) | 0=>(fun x0 x1 x2=>none) | m+1=>(fun x0 x1 x2=>slices_IndexFunc_impl_Value_impl_Value_b0 D n a1 (slices_IndexFunc_impl_Value_impl_Value_L0 D n a1 K0 K1 m) K0 K1 x0 x1 x2)
def slices_IndexFunc_impl_Value_impl_Value_x0_0 (D:DX)(n:Nat) (a1:Clo) (v0_0:Int):Option ((Int×Unit)×Unit):=some ((v0_0,()),())
def slices_IndexFunc_impl_Value_impl_Value_x0_1 (D:DX)(n:Nat) (a1:Clo):Option ((Int×Unit)×Unit):=some ((-1,()),())
def slices_IndexFunc_impl_Value_impl_Value_LP0 (D:DX)(n:Nat) (a1:Clo):(tRows)→(Int)→(Int)→Option ((Int×Unit)×Unit):=(fun x0 x1 x2=>slices_IndexFunc_impl_Value_impl_Value_L0 D n a1 (fun v0_0=>slices_IndexFunc_impl_Value_impl_Value_x0_0 D n a1 v0_0) (slices_IndexFunc_impl_Value_impl_Value_x0_1 D n a1) n x0 x1 x2)
def slices_IndexFunc_impl_Value_impl_Value_e (D:DX)(n:Nat) (a1:Clo) (lp0:tRows→Int→Int→Option ((Int×Unit)×Unit)) (a0:tRows):Option ((Int×Unit)×Unit):=lp0 a0 (↑(List.length a0):Int) 0
def F_slices_IndexFunc_impl_Value_impl_Value (D:DX)(n:Nat) (a0:tRows) (a1:Clo):Option ((Int×Unit)×Unit):=slices_IndexFunc_impl_Value_impl_Value_e D n a1 (slices_IndexFunc_impl_Value_impl_Value_LP0 D n a1) a0
def slices_IndexFunc_impl_Value_impl_Value_Q0 (a1:Clo) (x0:tRows) (x1:Int) (x2:Int):St:=stq 19 [(0,AV.val (Ty.sl (Ty.sl yV)) x0),(1,AV.cloV a1),(7,avI x1),(8,avI x2)] [] 
def slices_IndexFunc_impl_Value_impl_Value_Q0_0 (a1:Clo) (v0_0:Int):St:=stq 19 [(4,avI v0_0)] [] 
def slices_IndexFunc_impl_Value_impl_Value_Q0_1 (a1:Clo):St:=stq 19 [] [] 
theorem slices_IndexFunc_impl_Value_impl_Value_SB0 (D:DX)(n:Nat) (a1:Clo) (m:Nat) (K:Ex→St→Option (Out ctx 130)) (x0:tRows) (x1:Int) (x2:Int) :
  LQ funcTab D n 130 [.r,.l,.r,.l] (m+1) (slices_IndexFunc_impl_Value_impl_Value_Q0 a1 x0 x1 x2) K=slices_IndexFunc_impl_Value_impl_Value_b0 D n a1 (fun x0 x1 x2=>LQ funcTab D n 130 [.r,.l,.r,.l] m (slices_IndexFunc_impl_Value_impl_Value_Q0 a1 x0 x1 x2) K) (fun v0_0=>K (Ex.ret) (slices_IndexFunc_impl_Value_impl_Value_Q0_0 a1 v0_0)) (K (Ex.exit 0) (slices_IndexFunc_impl_Value_impl_Value_Q0_1 a1)) x0 x1 x2:=by kernel_rfl
theorem slices_IndexFunc_impl_Value_impl_Value_EL0 (D:DX)(n:Nat) (a1:Clo) (K:Ex→St→Option (Out ctx 130)):∀ (m:Nat) (x0:tRows) (x1:Int) (x2:Int),LQ funcTab D n 130 [.r,.l,.r,.l] m (slices_IndexFunc_impl_Value_impl_Value_Q0 a1 x0 x1 x2) K=slices_IndexFunc_impl_Value_impl_Value_L0 D n a1 (fun v0_0=>K (Ex.ret) (slices_IndexFunc_impl_Value_impl_Value_Q0_0 a1 v0_0)) (K (Ex.exit 0) (slices_IndexFunc_impl_Value_impl_Value_Q0_1 a1)) m x0 x1 x2
  | 0,x0,x1,x2=>LQ_zero ..
  | m+1,x0,x1,x2=>by
    have ih:(fun x0 x1 x2=>LQ funcTab D n 130 [.r,.l,.r,.l] m (slices_IndexFunc_impl_Value_impl_Value_Q0 a1 x0 x1 x2) K)=slices_IndexFunc_impl_Value_impl_Value_L0 D n a1 (fun v0_0=>K (Ex.ret) (slices_IndexFunc_impl_Value_impl_Value_Q0_0 a1 v0_0)) (K (Ex.exit 0) (slices_IndexFunc_impl_Value_impl_Value_Q0_1 a1)) m:=by funext x0 x1 x2;exact slices_IndexFunc_impl_Value_impl_Value_EL0 D n a1 K m x0 x1 x2
    rw[slices_IndexFunc_impl_Value_impl_Value_SB0]
    rw[ih];rfl
theorem slices_IndexFunc_impl_Value_impl_Value_X0_0 (D:DX)(n:Nat) (a1:Clo) (v0_0:Int) :
  (CQ funcTab D n 130 [] [.r,.l,.r,.l] (lastK funcTab 130)) (Ex.ret) (slices_IndexFunc_impl_Value_impl_Value_Q0_0 a1 v0_0)=slices_IndexFunc_impl_Value_impl_Value_x0_0 D n a1 v0_0:=by kernel_rfl
theorem slices_IndexFunc_impl_Value_impl_Value_X0_1 (D:DX)(n:Nat) (a1:Clo) :
  (CQ funcTab D n 130 [] [.r,.l,.r,.l] (lastK funcTab 130)) (Ex.exit 0) (slices_IndexFunc_impl_Value_impl_Value_Q0_1 a1)=slices_IndexFunc_impl_Value_impl_Value_x0_1 D n a1:=by kernel_rfl
theorem slices_IndexFunc_impl_Value_impl_Value_ELP0 (D:DX)(n:Nat) (a1:Clo) (x0:tRows) (x1:Int) (x2:Int) :
  LQ funcTab D n 130 [.r,.l,.r,.l] n (slices_IndexFunc_impl_Value_impl_Value_Q0 a1 x0 x1 x2) (CQ funcTab D n 130 [] [.r,.l,.r,.l] (lastK funcTab 130))=slices_IndexFunc_impl_Value_impl_Value_LP0 D n a1 x0 x1 x2:=by
  rw[slices_IndexFunc_impl_Value_impl_Value_EL0]
  simp only[slices_IndexFunc_impl_Value_impl_Value_X0_0,slices_IndexFunc_impl_Value_impl_Value_X0_1]
  rfl
theorem E_slices_IndexFunc_impl_Value_impl_Value (D:DX)(n:Nat) (a0:tRows) (a1:Clo):rfC funcTab D n 130 (a0,(a1,()))=F_slices_IndexFunc_impl_Value_impl_Value D n a0 a1:=by
  have h:rfC funcTab D n 130 (a0,(a1,()))=slices_IndexFunc_impl_Value_impl_Value_e D n a1 (fun x0 x1 x2=>LQ funcTab D n 130 [.r,.l,.r,.l] n (slices_IndexFunc_impl_Value_impl_Value_Q0 a1 x0 x1 x2) (CQ funcTab D n 130 [] [.r,.l,.r,.l] (lastK funcTab 130))) a0:=by kernel_rfl
  rw[h]
  simp only[slices_IndexFunc_impl_Value_impl_Value_ELP0]
  rfl

def laws_markValueSS_b0 (D:DX)(n:Nat) (go:Int→Int→tRows→Option ((Int×Unit)×tRows×Unit)) (K0:Int→tRows→Option ((Int×Unit)×tRows×Unit)) (x0:Int) (x1:Int) (x2:tRows):Option ((Int×Unit)×tRows×Unit):=br (decide (x1<(↑(List.length x2):Int))) (br (decide (0≤x1)&&decide (x1<(↑(List.length x2):Int))) (bindD (C_laws_markValueS D (List.getD x2 (Int.toNat x1) []) x0) fun b↦br (lendsOk [PK.mutv (Ty.sl (Ty.pair (Ty.int IntKind.i64) (Ty.pair (Ty.int IntKind.i64) (Ty.pair Ty.str Ty.unit)))) (Mk.top (Ty.sl (Ty.pair (Ty.int IntKind.i64) (Ty.pair (Ty.int IntKind.i64) (Ty.pair Ty.str Ty.unit))))) (Mk.top (Ty.sl (Ty.pair (Ty.int IntKind.i64) (Ty.pair (Ty.int IntKind.i64) (Ty.pair Ty.str Ty.unit))))),PK.val (Ty.int IntKind.i64)] (List.map (ev (St.mk [AV.brw 0 [] 1048576,AV.val (Ty.int IntKind.i64) x0,AV.undef,AV.undef,AV.undef,AV.val (Ty.int IntKind.i64) x1,AV.val (Ty.int IntKind.i64) x1,AV.brw 0 [] 1048576,AV.val (Ty.int IntKind.i64) (↑(List.length x2):Int),AV.val Ty.bool (decide (x1<(↑(List.length x2):Int))),AV.undef,AV.undef,AV.brw 0 [] 1048576,AV.val (Ty.int IntKind.i64) x1,AV.addr 0 [Stp.idx (Int.toNat x1) 1048576],AV.brw 0 [Stp.idx (Int.toNat x1) 1048576] 0,AV.val (Ty.int IntKind.i64) x0,AV.undef,AV.undef] [some (Root.mk (Ty.sl (Ty.sl (Ty.pair (Ty.int IntKind.i64) (Ty.pair (Ty.int IntKind.i64) (Ty.pair Ty.str Ty.unit))))) (Mk.own 1048576 (Mk.own 0 (Mk.pr Mk.no (Mk.pr Mk.no (Mk.pr Mk.no Mk.no))))) x2 false),none,none,none,none,none,none,none,none,none,none,none,none,none,none,none,none,none,none])) [Operand.tmp 15,Operand.tmp 16]++avList AV.unit)) (go (Prod.fst (Prod.fst b)) (IntKind.wrap IntKind.i64 (x1+1)) (List.set x2 (Int.toNat x1) (Prod.fst (Prod.snd b)))) none) none) (K0 x0 x2)
def laws_markValueSS_L0 (D:DX)(n:Nat) (K0:Int→tRows→Option ((Int×Unit)×tRows×Unit)):Nat→(Int)→(Int)→(tRows)→Option ((Int×Unit)×tRows×Unit) | 0=>(fun x0 x1 x2=>none) | m+1=>(fun x0 x1 x2=>laws_markValueSS_b0 D n (laws_markValueSS_L0 D n K0 m) K0 x0 x1 x2)
def laws_markValueSS_x0_0 (D:DX)(n:Nat) (v0_0:Int) (v0_1:tRows):Option ((Int×Unit)×tRows×Unit):=some ((v0_0,()),v0_1,())
def laws_markValueSS_LP0 (D:DX)(n:Nat):(Int)→(Int)→(tRows)→Option ((Int×Unit)×tRows×Unit):=(fun x0 x1 x2=>laws_markValueSS_L0 D n (fun v0_0 v0_1=>laws_markValueSS_x0_0 D n v0_0 v0_1) n x0 x1 x2)
def laws_markValueSS_e (D:DX)(n:Nat) (lp0:Int→Int→tRows→Option ((Int×Unit)×tRows×Unit)) (a0:tRows) (a1:Int):Option ((Int×Unit)×tRows×Unit):=lp0 a1 0 a0
def F_laws_markValueSS (D:DX)(n:Nat) (a0:tRows) (a1:Int):Option ((Int×Unit)×tRows×Unit):=laws_markValueSS_e D n (laws_markValueSS_LP0 D n) a0 a1
def laws_markValueSS_Q0 (x0:Int) (x1:Int) (x2:tRows):St:=stq 19 [(0,AV.brw 0 [] 1048576),(1,avI x0),(5,avI x1)] [(0,Root.mk (Ty.sl (Ty.sl yV)) (Mk.own 1048576 (Mk.own 0 (Mk.pr Mk.no (Mk.pr Mk.no (Mk.pr Mk.no Mk.no))))) x2 false)] 
def laws_markValueSS_Q0_0 (v0_0:Int) (v0_1:tRows):St:=stq 19 [(0,AV.brw 0 [] 1048576),(1,avI v0_0)] [(0,Root.mk (Ty.sl (Ty.sl yV)) (Mk.own 1048576 (Mk.own 0 (Mk.pr Mk.no (Mk.pr Mk.no (Mk.pr Mk.no Mk.no))))) v0_1 false)] 
theorem laws_markValueSS_SB0 (D:DX)(n:Nat) (m:Nat) (K:Ex→St→Option (Out ctx 133)) (x0:Int) (x1:Int) (x2:tRows) :
  LQ funcTab D n 133 [.r,.l,.r,.l] (m+1) (laws_markValueSS_Q0 x0 x1 x2) K=laws_markValueSS_b0 D n (fun x0 x1 x2=>LQ funcTab D n 133 [.r,.l,.r,.l] m (laws_markValueSS_Q0 x0 x1 x2) K) (fun v0_0 v0_1=>K (Ex.exit 0) (laws_markValueSS_Q0_0 v0_0 v0_1)) x0 x1 x2:=by kernel_rfl
theorem laws_markValueSS_EL0 (D:DX)(n:Nat) (K:Ex→St→Option (Out ctx 133)):∀ (m:Nat) (x0:Int) (x1:Int) (x2:tRows),LQ funcTab D n 133 [.r,.l,.r,.l] m (laws_markValueSS_Q0 x0 x1 x2) K=laws_markValueSS_L0 D n (fun v0_0 v0_1=>K (Ex.exit 0) (laws_markValueSS_Q0_0 v0_0 v0_1)) m x0 x1 x2
  | 0,x0,x1,x2=>LQ_zero ..
  | m+1,x0,x1,x2=>by
    have ih:(fun x0 x1 x2=>LQ funcTab D n 133 [.r,.l,.r,.l] m (laws_markValueSS_Q0 x0 x1 x2) K)=laws_markValueSS_L0 D n (fun v0_0 v0_1=>K (Ex.exit 0) (laws_markValueSS_Q0_0 v0_0 v0_1)) m:=by funext x0 x1 x2;exact laws_markValueSS_EL0 D n K m x0 x1 x2
    rw[laws_markValueSS_SB0]
    rw[ih];rfl
theorem laws_markValueSS_X0_0 (D:DX)(n:Nat) (v0_0:Int) (v0_1:tRows) :
  (CQ funcTab D n 133 [] [.r,.l,.r,.l] (lastK funcTab 133)) (Ex.exit 0) (laws_markValueSS_Q0_0 v0_0 v0_1)=laws_markValueSS_x0_0 D n v0_0 v0_1:=by kernel_rfl
theorem laws_markValueSS_ELP0 (D:DX)(n:Nat) (x0:Int) (x1:Int) (x2:tRows) :
  LQ funcTab D n 133 [.r,.l,.r,.l] n (laws_markValueSS_Q0 x0 x1 x2) (CQ funcTab D n 133 [] [.r,.l,.r,.l] (lastK funcTab 133))=laws_markValueSS_LP0 D n x0 x1 x2:=by
  rw[laws_markValueSS_EL0]
  simp only[laws_markValueSS_X0_0]
  rfl
theorem E_laws_markValueSS (D:DX)(n:Nat) (a0:tRows) (a1:Int):rfC funcTab D n 133 (a0,(a1,()))=F_laws_markValueSS D n a0 a1:=by
  have h:rfC funcTab D n 133 (a0,(a1,()))=laws_markValueSS_e D n (fun x0 x1 x2=>LQ funcTab D n 133 [.r,.l,.r,.l] n (laws_markValueSS_Q0 x0 x1 x2) (CQ funcTab D n 133 [] [.r,.l,.r,.l] (lastK funcTab 133))) a0 a1:=by kernel_rfl
  rw[h]
  simp only[laws_markValueSS_ELP0]
  rfl

def laws_heldSchema_e (D:DX)(n:Nat) (a0:tSch) (a1:Int):Option ((Int×Unit)×Unit):=bindD (C_laws_heldColS D (Prod.fst a0) a1) fun b↦br (decide (Prod.fst (Prod.fst b)<0)) (some ((-1,()),())) (bindD (C_laws_heldIntS D (Prod.fst (Prod.snd a0)) (Prod.fst (Prod.fst b))) fun b↦br (decide (Prod.fst (Prod.fst b)<0)) (some ((-1,()),())) (bindD (C_laws_heldIndexS D (Prod.fst (Prod.snd (Prod.snd a0))) (Prod.fst (Prod.fst b))) fun b↦br (decide (Prod.fst (Prod.fst b)<0)) (some ((-1,()),())) (some ((Prod.fst (Prod.fst b),()),()))))
def F_laws_heldSchema (D:DX)(n:Nat) (a0:tSch) (a1:Int):Option ((Int×Unit)×Unit):=laws_heldSchema_e D n a0 a1
theorem E_laws_heldSchema (D:DX)(n:Nat) (a0:tSch) (a1:Int):rfC funcTab D n 136 (a0,(a1,()))=F_laws_heldSchema D n a0 a1:=by kernel_rfl

def laws_heldValueSS_b0 (D:DX)(n:Nat) (go:tRows→Int→Int→Option ((Int×Unit)×Unit)) (K0:Int→Int→Option ((Int×Unit)×Unit)) (K1:Int→Option ((Int×Unit)×Unit)) (x0:tRows) (x1:Int) (x2:Int):Option ((Int×Unit)×Unit):=br (decide (x2<(↑(List.length x0):Int))) (br (decide (0≤x2)&&decide (x2<(↑(List.length x0):Int))) (bindD (C_laws_heldValueS D (List.getD x0 (Int.toNat x2) []) x1) fun b↦br (decide (Prod.fst (Prod.fst b)<0)) (K0 (Prod.fst (Prod.fst b)) (-1)) (go x0 (Prod.fst (Prod.fst b)) (IntKind.wrap IntKind.i64 (x2+1)))) none) (K1 x1)
def laws_heldValueSS_L0 (D:DX)(n:Nat) (K0:Int→Int→Option ((Int×Unit)×Unit)) (K1:Int→Option ((Int×Unit)×Unit)):Nat→(tRows)→(Int)→(Int)→Option ((Int×Unit)×Unit) | 0=>(fun x0 x1 x2=>none) | m+1=>(fun x0 x1 x2=>laws_heldValueSS_b0 D n (laws_heldValueSS_L0 D n K0 K1 m) K0 K1 x0 x1 x2)
def laws_heldValueSS_x0_0 (D:DX)(n:Nat) (v0_0:Int) (v0_1:Int):Option ((Int×Unit)×Unit):=some ((v0_1,()),())
def laws_heldValueSS_x0_1 (D:DX)(n:Nat) (v1_0:Int):Option ((Int×Unit)×Unit):=some ((v1_0,()),())
def laws_heldValueSS_LP0 (D:DX)(n:Nat):(tRows)→(Int)→(Int)→Option ((Int×Unit)×Unit):=(fun x0 x1 x2=>laws_heldValueSS_L0 D n (fun v0_0 v0_1=>laws_heldValueSS_x0_0 D n v0_0 v0_1) (fun v1_0=>laws_heldValueSS_x0_1 D n v1_0) n x0 x1 x2)
def laws_heldValueSS_e (D:DX)(n:Nat) (lp0:tRows→Int→Int→Option ((Int×Unit)×Unit)) (a0:tRows) (a1:Int):Option ((Int×Unit)×Unit):=lp0 a0 a1 0
def F_laws_heldValueSS (D:DX)(n:Nat) (a0:tRows) (a1:Int):Option ((Int×Unit)×Unit):=laws_heldValueSS_e D n (laws_heldValueSS_LP0 D n) a0 a1
def laws_heldValueSS_Q0 (x0:tRows) (x1:Int) (x2:Int):St:=stq 21 [(0,AV.val (Ty.sl (Ty.sl yV)) x0),(1,avI x1),(5,avI x2)] [] 
def laws_heldValueSS_Q0_0 (v0_0:Int) (v0_1:Int):St:=stq 21 [(1,avI v0_0),(4,avI v0_1)] [] 
def laws_heldValueSS_Q0_1 (v1_0:Int):St:=stq 21 [(1,avI v1_0)] [] 
theorem laws_heldValueSS_SB0 (D:DX)(n:Nat) (m:Nat) (K:Ex→St→Option (Out ctx 137)) (x0:tRows) (x1:Int) (x2:Int) :
  LQ funcTab D n 137 [.r,.l,.r,.l] (m+1) (laws_heldValueSS_Q0 x0 x1 x2) K=laws_heldValueSS_b0 D n (fun x0 x1 x2=>LQ funcTab D n 137 [.r,.l,.r,.l] m (laws_heldValueSS_Q0 x0 x1 x2) K) (fun v0_0 v0_1=>K (Ex.ret) (laws_heldValueSS_Q0_0 v0_0 v0_1)) (fun v1_0=>K (Ex.exit 0) (laws_heldValueSS_Q0_1 v1_0)) x0 x1 x2:=by kernel_rfl
theorem laws_heldValueSS_EL0 (D:DX)(n:Nat) (K:Ex→St→Option (Out ctx 137)):∀ (m:Nat) (x0:tRows) (x1:Int) (x2:Int),LQ funcTab D n 137 [.r,.l,.r,.l] m (laws_heldValueSS_Q0 x0 x1 x2) K=laws_heldValueSS_L0 D n (fun v0_0 v0_1=>K (Ex.ret) (laws_heldValueSS_Q0_0 v0_0 v0_1)) (fun v1_0=>K (Ex.exit 0) (laws_heldValueSS_Q0_1 v1_0)) m x0 x1 x2
  | 0,x0,x1,x2=>LQ_zero ..
  | m+1,x0,x1,x2=>by
    have ih:(fun x0 x1 x2=>LQ funcTab D n 137 [.r,.l,.r,.l] m (laws_heldValueSS_Q0 x0 x1 x2) K)=laws_heldValueSS_L0 D n (fun v0_0 v0_1=>K (Ex.ret) (laws_heldValueSS_Q0_0 v0_0 v0_1)) (fun v1_0=>K (Ex.exit 0) (laws_heldValueSS_Q0_1 v1_0)) m:=by funext x0 x1 x2;exact laws_heldValueSS_EL0 D n K m x0 x1 x2
    rw[laws_heldValueSS_SB0]
    rw[ih];rfl
theorem laws_heldValueSS_X0_0 (D:DX)(n:Nat) (v0_0:Int) (v0_1:Int) :
  (CQ funcTab D n 137 [] [.r,.l,.r,.l] (lastK funcTab 137)) (Ex.ret) (laws_heldValueSS_Q0_0 v0_0 v0_1)=laws_heldValueSS_x0_0 D n v0_0 v0_1:=by kernel_rfl
theorem laws_heldValueSS_X0_1 (D:DX)(n:Nat) (v1_0:Int) :
  (CQ funcTab D n 137 [] [.r,.l,.r,.l] (lastK funcTab 137)) (Ex.exit 0) (laws_heldValueSS_Q0_1 v1_0)=laws_heldValueSS_x0_1 D n v1_0:=by kernel_rfl
theorem laws_heldValueSS_ELP0 (D:DX)(n:Nat) (x0:tRows) (x1:Int) (x2:Int) :
  LQ funcTab D n 137 [.r,.l,.r,.l] n (laws_heldValueSS_Q0 x0 x1 x2) (CQ funcTab D n 137 [] [.r,.l,.r,.l] (lastK funcTab 137))=laws_heldValueSS_LP0 D n x0 x1 x2:=by
  rw[laws_heldValueSS_EL0]
  simp only[laws_heldValueSS_X0_0,laws_heldValueSS_X0_1]
  rfl
theorem E_laws_heldValueSS (D:DX)(n:Nat) (a0:tRows) (a1:Int):rfC funcTab D n 137 (a0,(a1,()))=F_laws_heldValueSS D n a0 a1:=by
  have h:rfC funcTab D n 137 (a0,(a1,()))=laws_heldValueSS_e D n (fun x0 x1 x2=>LQ funcTab D n 137 [.r,.l,.r,.l] n (laws_heldValueSS_Q0 x0 x1 x2) (CQ funcTab D n 137 [] [.r,.l,.r,.l] (lastK funcTab 137))) a0 a1:=by kernel_rfl
  rw[h]
  simp only[laws_heldValueSS_ELP0]
  rfl

def laws_szCol_e (D:DX)(n:Nat) (a0:ByteArray×Int×Bool×Unit) (a1:Int):Option ((Int×Unit)×Unit):=br (decide (IntKind.wrap IntKind.i64 (a1 - (↑(ByteArray.size (Prod.fst a0)):Int))<0)) (some ((-1,()),())) (some ((IntKind.wrap IntKind.i64 (a1 - (↑(ByteArray.size (Prod.fst a0)):Int)),()),()))
def F_laws_szCol (D:DX)(n:Nat) (a0:ByteArray×Int×Bool×Unit) (a1:Int):Option ((Int×Unit)×Unit):=laws_szCol_e D n a0 a1
theorem E_laws_szCol (D:DX)(n:Nat) (a0:ByteArray×Int×Bool×Unit) (a1:Int):rfC funcTab D n 143 (a0,(a1,()))=F_laws_szCol D n a0 a1:=by kernel_rfl

def laws_szIndex_e (D:DX)(n:Nat) (a0:ByteArray×List Int×Bool×Unit) (a1:Int):Option ((Int×Unit)×Unit):=br (decide (IntKind.wrap IntKind.i64 (a1 - (↑(ByteArray.size (Prod.fst a0)):Int))<0)) (some ((-1,()),())) (bindD (C_laws_szIntS D (Prod.fst (Prod.snd a0)) (IntKind.wrap IntKind.i64 (a1 - (↑(ByteArray.size (Prod.fst a0)):Int)))) fun b↦br (decide (Prod.fst (Prod.fst b)<0)) (some ((-1,()),())) (some ((Prod.fst (Prod.fst b),()),())))
def F_laws_szIndex (D:DX)(n:Nat) (a0:ByteArray×List Int×Bool×Unit) (a1:Int):Option ((Int×Unit)×Unit):=laws_szIndex_e D n a0 a1
theorem E_laws_szIndex (D:DX)(n:Nat) (a0:ByteArray×List Int×Bool×Unit) (a1:Int):rfC funcTab D n 144 (a0,(a1,()))=F_laws_szIndex D n a0 a1:=by kernel_rfl

def laws_toCol_e (D:DX)(n:Nat) (a0:ByteArray×Int×Bool×Unit):Option ((tCol×Unit)×Unit):=some (((Prod.fst a0,Prod.fst (Prod.snd a0),Prod.fst (Prod.snd (Prod.snd a0)),()),()),())
def F_laws_toCol (D:DX)(n:Nat) (a0:ByteArray×Int×Bool×Unit):Option ((tCol×Unit)×Unit):=laws_toCol_e D n a0
theorem E_laws_toCol (D:DX)(n:Nat) (a0:ByteArray×Int×Bool×Unit):rfC funcTab D n 145 (a0,())=F_laws_toCol D n a0:=by kernel_rfl

def laws_toIndex_e (D:DX)(n:Nat) (a0:ByteArray×List Int×Bool×Unit):Option ((tIx×Unit)×Unit):=bindD (C_laws_toIntS D (Prod.fst (Prod.snd a0))) fun b↦some (((Prod.fst a0,Prod.fst (Prod.fst b),Prod.fst (Prod.snd (Prod.snd a0)),()),()),())
def F_laws_toIndex (D:DX)(n:Nat) (a0:ByteArray×List Int×Bool×Unit):Option ((tIx×Unit)×Unit):=laws_toIndex_e D n a0
theorem E_laws_toIndex (D:DX)(n:Nat) (a0:ByteArray×List Int×Bool×Unit):rfC funcTab D n 146 (a0,())=F_laws_toIndex D n a0:=by kernel_rfl

def slices_Contains_int_int_e (D:DX)(n:Nat) (a0:List Int) (a1:Int):Option ((Bool×Unit)×Unit):=bindD (C_slices_Index_int_int D a0 a1) fun b↦some ((decide (Prod.fst (Prod.fst b)≥0),()),())
def F_slices_Contains_int_int (D:DX)(n:Nat) (a0:List Int) (a1:Int):Option ((Bool×Unit)×Unit):=slices_Contains_int_int_e D n a0 a1
theorem E_slices_Contains_int_int (D:DX)(n:Nat) (a0:List Int) (a1:Int):rfC funcTab D n 147 (a0,(a1,()))=F_slices_Contains_int_int D n a0 a1:=by kernel_rfl

def slices_IndexFunc_impl_Index_impl_Index_b0 (D:DX)(n:Nat) (a1:Clo) (go:tIxs→Int→Int→Option ((Int×Unit)×Unit)) (K0:Int→Option ((Int×Unit)×Unit)) (K1:Option ((Int×Unit)×Unit)) (x0:tIxs) (x1:Int) (x2:Int):Option ((Int×Unit)×Unit):=br (decide (x2<x1)) (br (decide (0≤x2)&&decide (x2<(↑(List.length x0):Int))) (bindD (applyClo ctx D a1 [CapV.val (Ty.pair Ty.str (Ty.pair (Ty.sl (Ty.int IntKind.i64)) (Ty.pair Ty.bool Ty.unit))) (List.getD x0 (Int.toNat x2) (ByteArray.empty,[],false,()))] Ty.bool) fun b↦br b (K0 x2) (go x0 x1 (IntKind.wrap IntKind.i64 (x2+1)))) none) K1
def slices_IndexFunc_impl_Index_impl_Index_L0 (D:DX)(n:Nat) (a1:Clo) (K0:Int→Option ((Int×Unit)×Unit)) (K1:Option ((Int×Unit)×Unit)):Nat→(tIxs)→(Int)→(Int)→Option ((Int×Unit)×Unit) | 0=>(fun x0 x1 x2=>none) | m+1=>(fun x0 x1 x2=>slices_IndexFunc_impl_Index_impl_Index_b0 D n a1 (slices_IndexFunc_impl_Index_impl_Index_L0 D n a1 K0 K1 m) K0 K1 x0 x1 x2)
def slices_IndexFunc_impl_Index_impl_Index_x0_0 (D:DX)(n:Nat) (a1:Clo) (v0_0:Int):Option ((Int×Unit)×Unit):=some ((v0_0,()),())
def slices_IndexFunc_impl_Index_impl_Index_x0_1 (D:DX)(n:Nat) (a1:Clo):Option ((Int×Unit)×Unit):=some ((-1,()),())
def slices_IndexFunc_impl_Index_impl_Index_LP0 (D:DX)(n:Nat) (a1:Clo):(tIxs)→(Int)→(Int)→Option ((Int×Unit)×Unit):=(fun x0 x1 x2=>slices_IndexFunc_impl_Index_impl_Index_L0 D n a1 (fun v0_0=>slices_IndexFunc_impl_Index_impl_Index_x0_0 D n a1 v0_0) (slices_IndexFunc_impl_Index_impl_Index_x0_1 D n a1) n x0 x1 x2)
def slices_IndexFunc_impl_Index_impl_Index_e (D:DX)(n:Nat) (a1:Clo) (lp0:tIxs→Int→Int→Option ((Int×Unit)×Unit)) (a0:tIxs):Option ((Int×Unit)×Unit):=lp0 a0 (↑(List.length a0):Int) 0
def F_slices_IndexFunc_impl_Index_impl_Index (D:DX)(n:Nat) (a0:tIxs) (a1:Clo):Option ((Int×Unit)×Unit):=slices_IndexFunc_impl_Index_impl_Index_e D n a1 (slices_IndexFunc_impl_Index_impl_Index_LP0 D n a1) a0
def slices_IndexFunc_impl_Index_impl_Index_Q0 (a1:Clo) (x0:tIxs) (x1:Int) (x2:Int):St:=stq 19 [(0,AV.val (Ty.sl yX) x0),(1,AV.cloV a1),(7,avI x1),(8,avI x2)] [] 
def slices_IndexFunc_impl_Index_impl_Index_Q0_0 (a1:Clo) (v0_0:Int):St:=stq 19 [(4,avI v0_0)] [] 
def slices_IndexFunc_impl_Index_impl_Index_Q0_1 (a1:Clo):St:=stq 19 [] [] 
theorem slices_IndexFunc_impl_Index_impl_Index_SB0 (D:DX)(n:Nat) (a1:Clo) (m:Nat) (K:Ex→St→Option (Out ctx 148)) (x0:tIxs) (x1:Int) (x2:Int) :
  LQ funcTab D n 148 [.r,.l,.r,.l] (m+1) (slices_IndexFunc_impl_Index_impl_Index_Q0 a1 x0 x1 x2) K=slices_IndexFunc_impl_Index_impl_Index_b0 D n a1 (fun x0 x1 x2=>LQ funcTab D n 148 [.r,.l,.r,.l] m (slices_IndexFunc_impl_Index_impl_Index_Q0 a1 x0 x1 x2) K) (fun v0_0=>K (Ex.ret) (slices_IndexFunc_impl_Index_impl_Index_Q0_0 a1 v0_0)) (K (Ex.exit 0) (slices_IndexFunc_impl_Index_impl_Index_Q0_1 a1)) x0 x1 x2:=by kernel_rfl
theorem slices_IndexFunc_impl_Index_impl_Index_EL0 (D:DX)(n:Nat) (a1:Clo) (K:Ex→St→Option (Out ctx 148)):∀ (m:Nat) (x0:tIxs) (x1:Int) (x2:Int),LQ funcTab D n 148 [.r,.l,.r,.l] m (slices_IndexFunc_impl_Index_impl_Index_Q0 a1 x0 x1 x2) K=slices_IndexFunc_impl_Index_impl_Index_L0 D n a1 (fun v0_0=>K (Ex.ret) (slices_IndexFunc_impl_Index_impl_Index_Q0_0 a1 v0_0)) (K (Ex.exit 0) (slices_IndexFunc_impl_Index_impl_Index_Q0_1 a1)) m x0 x1 x2
  | 0,x0,x1,x2=>LQ_zero ..
  | m+1,x0,x1,x2=>by
    have ih:(fun x0 x1 x2=>LQ funcTab D n 148 [.r,.l,.r,.l] m (slices_IndexFunc_impl_Index_impl_Index_Q0 a1 x0 x1 x2) K)=slices_IndexFunc_impl_Index_impl_Index_L0 D n a1 (fun v0_0=>K (Ex.ret) (slices_IndexFunc_impl_Index_impl_Index_Q0_0 a1 v0_0)) (K (Ex.exit 0) (slices_IndexFunc_impl_Index_impl_Index_Q0_1 a1)) m:=by funext x0 x1 x2;exact slices_IndexFunc_impl_Index_impl_Index_EL0 D n a1 K m x0 x1 x2
    rw[slices_IndexFunc_impl_Index_impl_Index_SB0]
    rw[ih];rfl
theorem slices_IndexFunc_impl_Index_impl_Index_X0_0 (D:DX)(n:Nat) (a1:Clo) (v0_0:Int) :
  (CQ funcTab D n 148 [] [.r,.l,.r,.l] (lastK funcTab 148)) (Ex.ret) (slices_IndexFunc_impl_Index_impl_Index_Q0_0 a1 v0_0)=slices_IndexFunc_impl_Index_impl_Index_x0_0 D n a1 v0_0:=by kernel_rfl
theorem slices_IndexFunc_impl_Index_impl_Index_X0_1 (D:DX)(n:Nat) (a1:Clo) :
  (CQ funcTab D n 148 [] [.r,.l,.r,.l] (lastK funcTab 148)) (Ex.exit 0) (slices_IndexFunc_impl_Index_impl_Index_Q0_1 a1)=slices_IndexFunc_impl_Index_impl_Index_x0_1 D n a1:=by kernel_rfl
theorem slices_IndexFunc_impl_Index_impl_Index_ELP0 (D:DX)(n:Nat) (a1:Clo) (x0:tIxs) (x1:Int) (x2:Int) :
  LQ funcTab D n 148 [.r,.l,.r,.l] n (slices_IndexFunc_impl_Index_impl_Index_Q0 a1 x0 x1 x2) (CQ funcTab D n 148 [] [.r,.l,.r,.l] (lastK funcTab 148))=slices_IndexFunc_impl_Index_impl_Index_LP0 D n a1 x0 x1 x2:=by
  rw[slices_IndexFunc_impl_Index_impl_Index_EL0]
  simp only[slices_IndexFunc_impl_Index_impl_Index_X0_0,slices_IndexFunc_impl_Index_impl_Index_X0_1]
  rfl
theorem E_slices_IndexFunc_impl_Index_impl_Index (D:DX)(n:Nat) (a0:tIxs) (a1:Clo):rfC funcTab D n 148 (a0,(a1,()))=F_slices_IndexFunc_impl_Index_impl_Index D n a0 a1:=by
  have h:rfC funcTab D n 148 (a0,(a1,()))=slices_IndexFunc_impl_Index_impl_Index_e D n a1 (fun x0 x1 x2=>LQ funcTab D n 148 [.r,.l,.r,.l] n (slices_IndexFunc_impl_Index_impl_Index_Q0 a1 x0 x1 x2) (CQ funcTab D n 148 [] [.r,.l,.r,.l] (lastK funcTab 148))) a0:=by kernel_rfl
  rw[h]
  simp only[slices_IndexFunc_impl_Index_impl_Index_ELP0]
  rfl

def slices_IndexFunc_int_int_b0 (D:DX)(n:Nat) (a1:Clo) (go:List Int→Int→Int→Option ((Int×Unit)×Unit)) (K0:Int→Option ((Int×Unit)×Unit)) (K1:Option ((Int×Unit)×Unit)) (x0:List Int) (x1:Int) (x2:Int):Option ((Int×Unit)×Unit):=br (decide (x2<x1)) (br (decide (0≤x2)&&decide (x2<(↑(List.length x0):Int))) (bindD (applyClo ctx D a1 [CapV.val (Ty.int IntKind.i64) (List.getD x0 (Int.toNat x2) 0)] Ty.bool) fun b↦br b (K0 x2) (go x0 x1 (IntKind.wrap IntKind.i64 (x2+1)))) none) K1
def slices_IndexFunc_int_int_L0 (D:DX)(n:Nat) (a1:Clo) (K0:Int→Option ((Int×Unit)×Unit)) (K1:Option ((Int×Unit)×Unit)):Nat→(List Int)→(Int)→(Int)→Option ((Int×Unit)×Unit) | 0=>(fun x0 x1 x2=>none) | m+1=>(fun x0 x1 x2=>slices_IndexFunc_int_int_b0 D n a1 (slices_IndexFunc_int_int_L0 D n a1 K0 K1 m) K0 K1 x0 x1 x2)
def slices_IndexFunc_int_int_x0_0 (D:DX)(n:Nat) (a1:Clo) (v0_0:Int):Option ((Int×Unit)×Unit):=some ((v0_0,()),())
def slices_IndexFunc_int_int_x0_1 (D:DX)(n:Nat) (a1:Clo):Option ((Int×Unit)×Unit):=some ((-1,()),())
def slices_IndexFunc_int_int_LP0 (D:DX)(n:Nat) (a1:Clo):(List Int)→(Int)→(Int)→Option ((Int×Unit)×Unit):=(fun x0 x1 x2=>slices_IndexFunc_int_int_L0 D n a1 (fun v0_0=>slices_IndexFunc_int_int_x0_0 D n a1 v0_0) (slices_IndexFunc_int_int_x0_1 D n a1) n x0 x1 x2)
def slices_IndexFunc_int_int_e (D:DX)(n:Nat) (a1:Clo) (lp0:List Int→Int→Int→Option ((Int×Unit)×Unit)) (a0:List Int):Option ((Int×Unit)×Unit):=lp0 a0 (↑(List.length a0):Int) 0
def F_slices_IndexFunc_int_int (D:DX)(n:Nat) (a0:List Int) (a1:Clo):Option ((Int×Unit)×Unit):=slices_IndexFunc_int_int_e D n a1 (slices_IndexFunc_int_int_LP0 D n a1) a0
def slices_IndexFunc_int_int_Q0 (a1:Clo) (x0:List Int) (x1:Int) (x2:Int):St:=stq 19 [(0,AV.val (Ty.sl yI) x0),(1,AV.cloV a1),(7,avI x1),(8,avI x2)] [] 
def slices_IndexFunc_int_int_Q0_0 (a1:Clo) (v0_0:Int):St:=stq 19 [(4,avI v0_0)] [] 
def slices_IndexFunc_int_int_Q0_1 (a1:Clo):St:=stq 19 [] [] 
theorem slices_IndexFunc_int_int_SB0 (D:DX)(n:Nat) (a1:Clo) (m:Nat) (K:Ex→St→Option (Out ctx 149)) (x0:List Int) (x1:Int) (x2:Int) :
  LQ funcTab D n 149 [.r,.l,.r,.l] (m+1) (slices_IndexFunc_int_int_Q0 a1 x0 x1 x2) K=slices_IndexFunc_int_int_b0 D n a1 (fun x0 x1 x2=>LQ funcTab D n 149 [.r,.l,.r,.l] m (slices_IndexFunc_int_int_Q0 a1 x0 x1 x2) K) (fun v0_0=>K (Ex.ret) (slices_IndexFunc_int_int_Q0_0 a1 v0_0)) (K (Ex.exit 0) (slices_IndexFunc_int_int_Q0_1 a1)) x0 x1 x2:=by kernel_rfl
theorem slices_IndexFunc_int_int_EL0 (D:DX)(n:Nat) (a1:Clo) (K:Ex→St→Option (Out ctx 149)):∀ (m:Nat) (x0:List Int) (x1:Int) (x2:Int),LQ funcTab D n 149 [.r,.l,.r,.l] m (slices_IndexFunc_int_int_Q0 a1 x0 x1 x2) K=slices_IndexFunc_int_int_L0 D n a1 (fun v0_0=>K (Ex.ret) (slices_IndexFunc_int_int_Q0_0 a1 v0_0)) (K (Ex.exit 0) (slices_IndexFunc_int_int_Q0_1 a1)) m x0 x1 x2
  | 0,x0,x1,x2=>LQ_zero ..
  | m+1,x0,x1,x2=>by
    have ih:(fun x0 x1 x2=>LQ funcTab D n 149 [.r,.l,.r,.l] m (slices_IndexFunc_int_int_Q0 a1 x0 x1 x2) K)=slices_IndexFunc_int_int_L0 D n a1 (fun v0_0=>K (Ex.ret) (slices_IndexFunc_int_int_Q0_0 a1 v0_0)) (K (Ex.exit 0) (slices_IndexFunc_int_int_Q0_1 a1)) m:=by funext x0 x1 x2;exact slices_IndexFunc_int_int_EL0 D n a1 K m x0 x1 x2
    rw[slices_IndexFunc_int_int_SB0]
    rw[ih];rfl
theorem slices_IndexFunc_int_int_X0_0 (D:DX)(n:Nat) (a1:Clo) (v0_0:Int) :
  (CQ funcTab D n 149 [] [.r,.l,.r,.l] (lastK funcTab 149)) (Ex.ret) (slices_IndexFunc_int_int_Q0_0 a1 v0_0)=slices_IndexFunc_int_int_x0_0 D n a1 v0_0:=by kernel_rfl
theorem slices_IndexFunc_int_int_X0_1 (D:DX)(n:Nat) (a1:Clo) :
  (CQ funcTab D n 149 [] [.r,.l,.r,.l] (lastK funcTab 149)) (Ex.exit 0) (slices_IndexFunc_int_int_Q0_1 a1)=slices_IndexFunc_int_int_x0_1 D n a1:=by kernel_rfl
theorem slices_IndexFunc_int_int_ELP0 (D:DX)(n:Nat) (a1:Clo) (x0:List Int) (x1:Int) (x2:Int) :
  LQ funcTab D n 149 [.r,.l,.r,.l] n (slices_IndexFunc_int_int_Q0 a1 x0 x1 x2) (CQ funcTab D n 149 [] [.r,.l,.r,.l] (lastK funcTab 149))=slices_IndexFunc_int_int_LP0 D n a1 x0 x1 x2:=by
  rw[slices_IndexFunc_int_int_EL0]
  simp only[slices_IndexFunc_int_int_X0_0,slices_IndexFunc_int_int_X0_1]
  rfl
theorem E_slices_IndexFunc_int_int (D:DX)(n:Nat) (a0:List Int) (a1:Clo):rfC funcTab D n 149 (a0,(a1,()))=F_slices_IndexFunc_int_int D n a0 a1:=by
  have h:rfC funcTab D n 149 (a0,(a1,()))=slices_IndexFunc_int_int_e D n a1 (fun x0 x1 x2=>LQ funcTab D n 149 [.r,.l,.r,.l] n (slices_IndexFunc_int_int_Q0 a1 x0 x1 x2) (CQ funcTab D n 149 [] [.r,.l,.r,.l] (lastK funcTab 149))) a0:=by kernel_rfl
  rw[h]
  simp only[slices_IndexFunc_int_int_ELP0]
  rfl

def laws_eqCol_e (D:DX)(n:Nat) (a0:ByteArray×Int×Bool×Unit) (a1:ByteArray×Int×Bool×Unit):Option ((Bool×Unit)×Unit):=br (!List.beq (ByteArray.toList (Prod.fst a0)) (ByteArray.toList (Prod.fst a1))) (some ((false,()),())) (br (Prod.fst (Prod.snd a0) != Prod.fst (Prod.snd a1)) (some ((false,()),())) (br (!decide (Prod.fst (Prod.snd (Prod.snd a0))=Prod.fst (Prod.snd (Prod.snd a1)))) (some ((false,()),())) (some ((true,()),()))))
def F_laws_eqCol (D:DX)(n:Nat) (a0:ByteArray×Int×Bool×Unit) (a1:ByteArray×Int×Bool×Unit):Option ((Bool×Unit)×Unit):=laws_eqCol_e D n a0 a1
theorem E_laws_eqCol (D:DX)(n:Nat) (a0:ByteArray×Int×Bool×Unit) (a1:ByteArray×Int×Bool×Unit):rfC funcTab D n 150 (a0,(a1,()))=F_laws_eqCol D n a0 a1:=by kernel_rfl

def laws_eqIndex_e (D:DX)(n:Nat) (a0:ByteArray×List Int×Bool×Unit) (a1:ByteArray×List Int×Bool×Unit):Option ((Bool×Unit)×Unit):=br (!List.beq (ByteArray.toList (Prod.fst a0)) (ByteArray.toList (Prod.fst a1))) (some ((false,()),())) (bindD (C_laws_eqIntS D (Prod.fst (Prod.snd a0)) (Prod.fst (Prod.snd a1))) fun b↦br (!Prod.fst (Prod.fst b)) (some ((false,()),())) (br (!decide (Prod.fst (Prod.snd (Prod.snd a0))=Prod.fst (Prod.snd (Prod.snd a1)))) (some ((false,()),())) (some ((true,()),()))))
def F_laws_eqIndex (D:DX)(n:Nat) (a0:ByteArray×List Int×Bool×Unit) (a1:ByteArray×List Int×Bool×Unit):Option ((Bool×Unit)×Unit):=laws_eqIndex_e D n a0 a1
theorem E_laws_eqIndex (D:DX)(n:Nat) (a0:ByteArray×List Int×Bool×Unit) (a1:ByteArray×List Int×Bool×Unit):rfC funcTab D n 151 (a0,(a1,()))=F_laws_eqIndex D n a0 a1:=by kernel_rfl

def slices_IndexFunc_impl_Value_impl_Valuex_b0 (D:DX)(n:Nat) (a1:Clo) (go:tVals→Int→Int→Option ((Int×Unit)×Unit)) (K0:Int→Option ((Int×Unit)×Unit)) (K1:Option ((Int×Unit)×Unit)) (x0:tVals) (x1:Int) (x2:Int):Option ((Int×Unit)×Unit):=br (decide (x2<x1)) (br (decide (0≤x2)&&decide (x2<(↑(List.length x0):Int))) (bindD (applyClo ctx D a1 [CapV.val (Ty.pair (Ty.int IntKind.i64) (Ty.pair (Ty.int IntKind.i64) (Ty.pair Ty.str Ty.unit))) (List.getD x0 (Int.toNat x2) (0,0,ByteArray.empty,()))] Ty.bool) fun b↦br b (K0 x2) (go x0 x1 (IntKind.wrap IntKind.i64 (x2+1)))) none) K1
def slices_IndexFunc_impl_Value_impl_Valuex_L0 (D:DX)(n:Nat) (a1:Clo) (K0:Int→Option ((Int×Unit)×Unit)) (K1:Option ((Int×Unit)×Unit)):Nat→(tVals)→(Int)→(Int)→Option ((Int×Unit)×Unit) | 0=>(fun x0 x1 x2=>none) | m+1=>(fun x0 x1 x2=>slices_IndexFunc_impl_Value_impl_Valuex_b0 D n a1 (slices_IndexFunc_impl_Value_impl_Valuex_L0 D n a1 K0 K1 m) K0 K1 x0 x1 x2)
def slices_IndexFunc_impl_Value_impl_Valuex_x0_0 (D:DX)(n:Nat) (a1:Clo) (v0_0:Int):Option ((Int×Unit)×Unit):=some ((v0_0,()),())
def slices_IndexFunc_impl_Value_impl_Valuex_x0_1 (D:DX)(n:Nat) (a1:Clo):Option ((Int×Unit)×Unit):=some ((-1,()),())
def slices_IndexFunc_impl_Value_impl_Valuex_LP0 (D:DX)(n:Nat) (a1:Clo):(tVals)→(Int)→(Int)→Option ((Int×Unit)×Unit):=(fun x0 x1 x2=>slices_IndexFunc_impl_Value_impl_Valuex_L0 D n a1 (fun v0_0=>slices_IndexFunc_impl_Value_impl_Valuex_x0_0 D n a1 v0_0) (slices_IndexFunc_impl_Value_impl_Valuex_x0_1 D n a1) n x0 x1 x2)
def slices_IndexFunc_impl_Value_impl_Valuex_e (D:DX)(n:Nat) (a1:Clo) (lp0:tVals→Int→Int→Option ((Int×Unit)×Unit)) (a0:tVals):Option ((Int×Unit)×Unit):=lp0 a0 (↑(List.length a0):Int) 0
def F_slices_IndexFunc_impl_Value_impl_Valuex (D:DX)(n:Nat) (a0:tVals) (a1:Clo):Option ((Int×Unit)×Unit):=slices_IndexFunc_impl_Value_impl_Valuex_e D n a1 (slices_IndexFunc_impl_Value_impl_Valuex_LP0 D n a1) a0
def slices_IndexFunc_impl_Value_impl_Valuex_Q0 (a1:Clo) (x0:tVals) (x1:Int) (x2:Int):St:=stq 19 [(0,AV.val (Ty.sl yV) x0),(1,AV.cloV a1),(7,avI x1),(8,avI x2)] [] 
def slices_IndexFunc_impl_Value_impl_Valuex_Q0_0 (a1:Clo) (v0_0:Int):St:=stq 19 [(4,avI v0_0)] [] 
def slices_IndexFunc_impl_Value_impl_Valuex_Q0_1 (a1:Clo):St:=stq 19 [] [] 
theorem slices_IndexFunc_impl_Value_impl_Valuex_SB0 (D:DX)(n:Nat) (a1:Clo) (m:Nat) (K:Ex→St→Option (Out ctx 158)) (x0:tVals) (x1:Int) (x2:Int) :
  LQ funcTab D n 158 [.r,.l,.r,.l] (m+1) (slices_IndexFunc_impl_Value_impl_Valuex_Q0 a1 x0 x1 x2) K=slices_IndexFunc_impl_Value_impl_Valuex_b0 D n a1 (fun x0 x1 x2=>LQ funcTab D n 158 [.r,.l,.r,.l] m (slices_IndexFunc_impl_Value_impl_Valuex_Q0 a1 x0 x1 x2) K) (fun v0_0=>K (Ex.ret) (slices_IndexFunc_impl_Value_impl_Valuex_Q0_0 a1 v0_0)) (K (Ex.exit 0) (slices_IndexFunc_impl_Value_impl_Valuex_Q0_1 a1)) x0 x1 x2:=by kernel_rfl
theorem slices_IndexFunc_impl_Value_impl_Valuex_EL0 (D:DX)(n:Nat) (a1:Clo) (K:Ex→St→Option (Out ctx 158)):∀ (m:Nat) (x0:tVals) (x1:Int) (x2:Int),LQ funcTab D n 158 [.r,.l,.r,.l] m (slices_IndexFunc_impl_Value_impl_Valuex_Q0 a1 x0 x1 x2) K=slices_IndexFunc_impl_Value_impl_Valuex_L0 D n a1 (fun v0_0=>K (Ex.ret) (slices_IndexFunc_impl_Value_impl_Valuex_Q0_0 a1 v0_0)) (K (Ex.exit 0) (slices_IndexFunc_impl_Value_impl_Valuex_Q0_1 a1)) m x0 x1 x2
  | 0,x0,x1,x2=>LQ_zero ..
  | m+1,x0,x1,x2=>by
    have ih:(fun x0 x1 x2=>LQ funcTab D n 158 [.r,.l,.r,.l] m (slices_IndexFunc_impl_Value_impl_Valuex_Q0 a1 x0 x1 x2) K)=slices_IndexFunc_impl_Value_impl_Valuex_L0 D n a1 (fun v0_0=>K (Ex.ret) (slices_IndexFunc_impl_Value_impl_Valuex_Q0_0 a1 v0_0)) (K (Ex.exit 0) (slices_IndexFunc_impl_Value_impl_Valuex_Q0_1 a1)) m:=by funext x0 x1 x2;exact slices_IndexFunc_impl_Value_impl_Valuex_EL0 D n a1 K m x0 x1 x2
    rw[slices_IndexFunc_impl_Value_impl_Valuex_SB0]
    rw[ih];rfl
theorem slices_IndexFunc_impl_Value_impl_Valuex_X0_0 (D:DX)(n:Nat) (a1:Clo) (v0_0:Int) :
  (CQ funcTab D n 158 [] [.r,.l,.r,.l] (lastK funcTab 158)) (Ex.ret) (slices_IndexFunc_impl_Value_impl_Valuex_Q0_0 a1 v0_0)=slices_IndexFunc_impl_Value_impl_Valuex_x0_0 D n a1 v0_0:=by kernel_rfl
theorem slices_IndexFunc_impl_Value_impl_Valuex_X0_1 (D:DX)(n:Nat) (a1:Clo) :
  (CQ funcTab D n 158 [] [.r,.l,.r,.l] (lastK funcTab 158)) (Ex.exit 0) (slices_IndexFunc_impl_Value_impl_Valuex_Q0_1 a1)=slices_IndexFunc_impl_Value_impl_Valuex_x0_1 D n a1:=by kernel_rfl
theorem slices_IndexFunc_impl_Value_impl_Valuex_ELP0 (D:DX)(n:Nat) (a1:Clo) (x0:tVals) (x1:Int) (x2:Int) :
  LQ funcTab D n 158 [.r,.l,.r,.l] n (slices_IndexFunc_impl_Value_impl_Valuex_Q0 a1 x0 x1 x2) (CQ funcTab D n 158 [] [.r,.l,.r,.l] (lastK funcTab 158))=slices_IndexFunc_impl_Value_impl_Valuex_LP0 D n a1 x0 x1 x2:=by
  rw[slices_IndexFunc_impl_Value_impl_Valuex_EL0]
  simp only[slices_IndexFunc_impl_Value_impl_Valuex_X0_0,slices_IndexFunc_impl_Value_impl_Valuex_X0_1]
  rfl
theorem E_slices_IndexFunc_impl_Value_impl_Valuex (D:DX)(n:Nat) (a0:tVals) (a1:Clo):rfC funcTab D n 158 (a0,(a1,()))=F_slices_IndexFunc_impl_Value_impl_Valuex D n a0 a1:=by
  have h:rfC funcTab D n 158 (a0,(a1,()))=slices_IndexFunc_impl_Value_impl_Valuex_e D n a1 (fun x0 x1 x2=>LQ funcTab D n 158 [.r,.l,.r,.l] n (slices_IndexFunc_impl_Value_impl_Valuex_Q0 a1 x0 x1 x2) (CQ funcTab D n 158 [] [.r,.l,.r,.l] (lastK funcTab 158))) a0:=by kernel_rfl
  rw[h]
  simp only[slices_IndexFunc_impl_Value_impl_Valuex_ELP0]
  rfl

def spec_TupleOk_b0 (D:DX)(n:Nat) (go:tVals→Int→Option ((Bool×Unit)×Unit)) (K0:tVals→Bool→Option ((Bool×Unit)×Unit)) (K1:tVals→Option ((Bool×Unit)×Unit)) (x0:tVals) (x1:Int):Option ((Bool×Unit)×Unit):=br (decide (x1<(↑(List.length x0):Int))) (br (decide (0≤x1)&&decide (x1<(↑(List.length x0):Int))) (bindD (C_spec_ValueOk D (List.getD x0 (Int.toNat x1) (0,0,ByteArray.empty,()))) fun b↦br (!Prod.fst (Prod.fst b)) (K0 x0 false) (go x0 (IntKind.wrap IntKind.i64 (x1+1)))) none) (K1 x0)
def spec_TupleOk_L0 (D:DX)(n:Nat) (K0:tVals→Bool→Option ((Bool×Unit)×Unit)) (K1:tVals→Option ((Bool×Unit)×Unit)):Nat→(tVals)→(Int)→Option ((Bool×Unit)×Unit) | 0=>(fun x0 x1=>none) | m+1=>(fun x0 x1=>spec_TupleOk_b0 D n (spec_TupleOk_L0 D n K0 K1 m) K0 K1 x0 x1)
def spec_TupleOk_x0_0 (D:DX)(n:Nat) (v0_0:tVals) (v0_1:Bool):Option ((Bool×Unit)×Unit):=some ((v0_1,()),())
def spec_TupleOk_x0_1 (D:DX)(n:Nat) (v1_0:tVals):Option ((Bool×Unit)×Unit):=some ((decide ((↑(List.length v1_0):Int)≤4),()),())
def spec_TupleOk_LP0 (D:DX)(n:Nat):(tVals)→(Int)→Option ((Bool×Unit)×Unit):=(fun x0 x1=>spec_TupleOk_L0 D n (fun v0_0 v0_1=>spec_TupleOk_x0_0 D n v0_0 v0_1) (fun v1_0=>spec_TupleOk_x0_1 D n v1_0) n x0 x1)
def spec_TupleOk_e (D:DX)(n:Nat) (lp0:tVals→Int→Option ((Bool×Unit)×Unit)) (a0:tVals):Option ((Bool×Unit)×Unit):=lp0 a0 0
def F_spec_TupleOk (D:DX)(n:Nat) (a0:tVals):Option ((Bool×Unit)×Unit):=spec_TupleOk_e D n (spec_TupleOk_LP0 D n) a0
def spec_TupleOk_Q0 (x0:tVals) (x1:Int):St:=stq 19 [(0,AV.val (Ty.sl yV) x0),(3,avI x1)] [] 
def spec_TupleOk_Q0_0 (v0_0:tVals) (v0_1:Bool):St:=stq 19 [(0,AV.val (Ty.sl yV) v0_0),(2,AV.val Ty.bool v0_1)] [] 
def spec_TupleOk_Q0_1 (v1_0:tVals):St:=stq 19 [(0,AV.val (Ty.sl yV) v1_0)] [] 
theorem spec_TupleOk_SB0 (D:DX)(n:Nat) (m:Nat) (K:Ex→St→Option (Out ctx 159)) (x0:tVals) (x1:Int) :
  LQ funcTab D n 159 [.r,.l,.r,.l] (m+1) (spec_TupleOk_Q0 x0 x1) K=spec_TupleOk_b0 D n (fun x0 x1=>LQ funcTab D n 159 [.r,.l,.r,.l] m (spec_TupleOk_Q0 x0 x1) K) (fun v0_0 v0_1=>K (Ex.ret) (spec_TupleOk_Q0_0 v0_0 v0_1)) (fun v1_0=>K (Ex.exit 0) (spec_TupleOk_Q0_1 v1_0)) x0 x1:=by kernel_rfl
theorem spec_TupleOk_EL0 (D:DX)(n:Nat) (K:Ex→St→Option (Out ctx 159)):∀ (m:Nat) (x0:tVals) (x1:Int),LQ funcTab D n 159 [.r,.l,.r,.l] m (spec_TupleOk_Q0 x0 x1) K=spec_TupleOk_L0 D n (fun v0_0 v0_1=>K (Ex.ret) (spec_TupleOk_Q0_0 v0_0 v0_1)) (fun v1_0=>K (Ex.exit 0) (spec_TupleOk_Q0_1 v1_0)) m x0 x1
  | 0,x0,x1=>LQ_zero ..
  | m+1,x0,x1=>by
    have ih:(fun x0 x1=>LQ funcTab D n 159 [.r,.l,.r,.l] m (spec_TupleOk_Q0 x0 x1) K)=spec_TupleOk_L0 D n (fun v0_0 v0_1=>K (Ex.ret) (spec_TupleOk_Q0_0 v0_0 v0_1)) (fun v1_0=>K (Ex.exit 0) (spec_TupleOk_Q0_1 v1_0)) m:=by funext x0 x1;exact spec_TupleOk_EL0 D n K m x0 x1
    rw[spec_TupleOk_SB0]
    rw[ih];rfl
theorem spec_TupleOk_X0_0 (D:DX)(n:Nat) (v0_0:tVals) (v0_1:Bool) :
  (CQ funcTab D n 159 [] [.r,.l,.r,.l] (lastK funcTab 159)) (Ex.ret) (spec_TupleOk_Q0_0 v0_0 v0_1)=spec_TupleOk_x0_0 D n v0_0 v0_1:=by kernel_rfl
theorem spec_TupleOk_X0_1 (D:DX)(n:Nat) (v1_0:tVals) :
  (CQ funcTab D n 159 [] [.r,.l,.r,.l] (lastK funcTab 159)) (Ex.exit 0) (spec_TupleOk_Q0_1 v1_0)=spec_TupleOk_x0_1 D n v1_0:=by kernel_rfl
theorem spec_TupleOk_ELP0 (D:DX)(n:Nat) (x0:tVals) (x1:Int) :
  LQ funcTab D n 159 [.r,.l,.r,.l] n (spec_TupleOk_Q0 x0 x1) (CQ funcTab D n 159 [] [.r,.l,.r,.l] (lastK funcTab 159))=spec_TupleOk_LP0 D n x0 x1:=by
  rw[spec_TupleOk_EL0]
  simp only[spec_TupleOk_X0_0,spec_TupleOk_X0_1]
  rfl
theorem E_spec_TupleOk (D:DX)(n:Nat) (a0:tVals):rfC funcTab D n 159 (a0,())=F_spec_TupleOk D n a0:=by
  have h:rfC funcTab D n 159 (a0,())=spec_TupleOk_e D n (fun x0 x1=>LQ funcTab D n 159 [.r,.l,.r,.l] n (spec_TupleOk_Q0 x0 x1) (CQ funcTab D n 159 [] [.r,.l,.r,.l] (lastK funcTab 159))) a0:=by kernel_rfl
  rw[h]
  simp only[spec_TupleOk_ELP0]
  rfl

def spec_l18Value_b0 (D:DX)(n:Nat) (go:Int→Int→List Int→Option ((List Int×Unit)×Unit)) (K0:List Int→Option ((List Int×Unit)×Unit)) (x0:Int) (x1:Int) (x2:List Int):Option ((List Int×Unit)×Unit):=br (decide (x1≥0)) (br (decide (x1<0)) none (br (decide (List.length x2+1≤bound)) (go x0 (IntKind.wrap IntKind.i64 (x1 - 8)) (x2++[IntKind.wrap IntKind.u8 (IntKind.wrap IntKind.i64 (↑(BitVec.toNat (BitVec.and (BitVec.ofInt (IntKind.bits IntKind.i64) (Int.fdiv x0 (Int.pow 2 (if Int.toNat x1≤IntKind.bits IntKind.i64 then Int.toNat x1 else IntKind.bits IntKind.i64)))) (BitVec.ofInt (IntKind.bits IntKind.i64) 255))):Int))])) none)) (K0 x2)
def spec_l18Value_L0 (D:DX)(n:Nat) (K0:List Int→Option ((List Int×Unit)×Unit)):Nat→(Int)→(Int)→(List Int)→Option ((List Int×Unit)×Unit) | 0=>(fun x0 x1 x2=>none) | m+1=>(fun x0 x1 x2=>spec_l18Value_b0 D n (spec_l18Value_L0 D n K0 m) K0 x0 x1 x2)
def spec_l18Value_x0_0 (D:DX)(n:Nat) (v0_0:List Int):Option ((List Int×Unit)×Unit):=some ((v0_0,()),())
def spec_l18Value_LP0 (D:DX)(n:Nat):(Int)→(Int)→(List Int)→Option ((List Int×Unit)×Unit):=(fun x0 x1 x2=>spec_l18Value_L0 D n (fun v0_0=>spec_l18Value_x0_0 D n v0_0) n x0 x1 x2)
def spec_l18Value_b1 (D:DX)(n:Nat) (go:Int→Int×Int×ByteArray×Unit→List Int→Option ((List Int×Unit)×Unit)) (K0:List Int→Option ((List Int×Unit)×Unit)) (x1_0:Int) (x1_1:Int×Int×ByteArray×Unit) (x1_2:List Int):Option ((List Int×Unit)×Unit):=br (decide (x1_0<(↑(ByteArray.size (Prod.fst (Prod.snd (Prod.snd x1_1)))):Int))) (br (decide (0≤x1_0)&&decide (x1_0<(↑(ByteArray.size (Prod.fst (Prod.snd (Prod.snd x1_1)))):Int))) (br (decide (List.length x1_2+1≤bound)) (br (decide (0≤x1_0)&&decide (x1_0<(↑(ByteArray.size (Prod.fst (Prod.snd (Prod.snd x1_1)))):Int))) (br (decide ((↑(UInt8.toNat (Array.getD (ByteArray.data (Prod.fst (Prod.snd (Prod.snd x1_1)))) (Int.toNat x1_0) (UInt8.ofNat 0))):Int)=0)) (br (decide (List.length (x1_2++[(↑(UInt8.toNat (Array.getD (ByteArray.data (Prod.fst (Prod.snd (Prod.snd x1_1)))) (Int.toNat x1_0) (UInt8.ofNat 0))):Int)])+1≤bound)) (go (IntKind.wrap IntKind.i64 (x1_0+1)) x1_1 (x1_2++[(↑(UInt8.toNat (Array.getD (ByteArray.data (Prod.fst (Prod.snd (Prod.snd x1_1)))) (Int.toNat x1_0) (UInt8.ofNat 0))):Int)]++[255])) none) (go (IntKind.wrap IntKind.i64 (x1_0+1)) x1_1 (x1_2++[(↑(UInt8.toNat (Array.getD (ByteArray.data (Prod.fst (Prod.snd (Prod.snd x1_1)))) (Int.toNat x1_0) (UInt8.ofNat 0))):Int)]))) none) none) none) (K0 x1_2)
def spec_l18Value_L1 (D:DX)(n:Nat) (K0:List Int→Option ((List Int×Unit)×Unit)):Nat→(Int)→tVal→(List Int)→Option ((List Int×Unit)×Unit) | 0=>(fun x1_0 x1_1 x1_2=>none) | m+1=>(fun x1_0 x1_1 x1_2=>spec_l18Value_b1 D n (spec_l18Value_L1 D n K0 m) K0 x1_0 x1_1 x1_2)
def spec_l18Value_x1_0 (D:DX)(n:Nat) (v0_0:List Int):Option ((List Int×Unit)×Unit):=br (decide (List.length v0_0+2≤bound)) (some ((v0_0++[0,1],()),())) none
def spec_l18Value_LP1 (D:DX)(n:Nat):(Int)→tVal→(List Int)→Option ((List Int×Unit)×Unit):=(fun x1_0 x1_1 x1_2=>spec_l18Value_L1 D n (fun v0_0=>spec_l18Value_x1_0 D n v0_0) n x1_0 x1_1 x1_2)
def spec_l18Value_e (D:DX)(n:Nat) (lp0:Int→Int→List Int→Option ((List Int×Unit)×Unit)) (lp1:Int→Int×Int×ByteArray×Unit→List Int→Option ((List Int×Unit)×Unit)) (a0:Int×Int×ByteArray×Unit):Option ((List Int×Unit)×Unit):=br (decide (Prod.fst a0=1)) (some (([IntKind.wrap IntKind.u8 (IntKind.wrap IntKind.i64 (Prod.fst a0+1))]++[IntKind.wrap IntKind.u8 (Prod.fst (Prod.snd a0))],()),())) (br (decide (Prod.fst a0=2)) (lp0 (IntKind.wrap IntKind.i64 (Prod.fst (Prod.snd a0)+4611686018427387904)) 56 [IntKind.wrap IntKind.u8 (IntKind.wrap IntKind.i64 (Prod.fst a0+1))]) (br (decide (Prod.fst a0=3)) (lp1 0 a0 [IntKind.wrap IntKind.u8 (IntKind.wrap IntKind.i64 (Prod.fst a0+1))]) (some (([IntKind.wrap IntKind.u8 (IntKind.wrap IntKind.i64 (Prod.fst a0+1))],()),()))))
def F_spec_l18Value (D:DX)(n:Nat) (a0:Int×Int×ByteArray×Unit):Option ((List Int×Unit)×Unit):=spec_l18Value_e D n (spec_l18Value_LP0 D n) (spec_l18Value_LP1 D n) a0
def spec_l18Value_Q0 (x0:Int) (x1:Int) (x2:List Int):St:=stq 67 [(3,AV.brw 3 [] 0),(4,avI x0),(5,avI x1)] [(3,Root.mk (Ty.sl (Ty.int IntKind.u8)) (Mk.own 0 Mk.no) x2 false)] 
def spec_l18Value_Q0_0 (v0_0:List Int):St:=stq 67 [(3,AV.brw 3 [] 0)] [(3,Root.mk (Ty.sl (Ty.int IntKind.u8)) (Mk.own 0 Mk.no) v0_0 false)] 
def spec_l18Value_Q1 (x1_0:Int) (x1_1:Int×Int×ByteArray×Unit) (x1_2:List Int):St:=stq 67 [(1,AV.addr 1 []),(3,AV.brw 3 [] 0),(6,avI x1_0)] [(1,Root.mk yV Mk.no x1_1 true),(3,Root.mk (Ty.sl (Ty.int IntKind.u8)) (Mk.own 0 Mk.no) x1_2 false)] 
def spec_l18Value_Q1_0 (v0_0:List Int):St:=stq 67 [(3,AV.brw 3 [] 0)] [(3,Root.mk (Ty.sl (Ty.int IntKind.u8)) (Mk.own 0 Mk.no) v0_0 false)] 
theorem spec_l18Value_SB0 (D:DX)(n:Nat) (m:Nat) (K:Ex→St→Option (Out ctx 160)) (x0:Int) (x1:Int) (x2:List Int) :
  LQ funcTab D n 160 [.r,.r,.l,.r,.l,.r,.r,.r,.l,.r,.r,.l] (m+1) (spec_l18Value_Q0 x0 x1 x2) K=spec_l18Value_b0 D n (fun x0 x1 x2=>LQ funcTab D n 160 [.r,.r,.l,.r,.l,.r,.r,.r,.l,.r,.r,.l] m (spec_l18Value_Q0 x0 x1 x2) K) (fun v0_0=>K (Ex.exit 1) (spec_l18Value_Q0_0 v0_0)) x0 x1 x2:=by kernel_rfl
theorem spec_l18Value_EL0 (D:DX)(n:Nat) (K:Ex→St→Option (Out ctx 160)):∀ (m:Nat) (x0:Int) (x1:Int) (x2:List Int),LQ funcTab D n 160 [.r,.r,.l,.r,.l,.r,.r,.r,.l,.r,.r,.l] m (spec_l18Value_Q0 x0 x1 x2) K=spec_l18Value_L0 D n (fun v0_0=>K (Ex.exit 1) (spec_l18Value_Q0_0 v0_0)) m x0 x1 x2
  | 0,x0,x1,x2=>LQ_zero ..
  | m+1,x0,x1,x2=>by
    have ih:(fun x0 x1 x2=>LQ funcTab D n 160 [.r,.r,.l,.r,.l,.r,.r,.r,.l,.r,.r,.l] m (spec_l18Value_Q0 x0 x1 x2) K)=spec_l18Value_L0 D n (fun v0_0=>K (Ex.exit 1) (spec_l18Value_Q0_0 v0_0)) m:=by funext x0 x1 x2;exact spec_l18Value_EL0 D n K m x0 x1 x2
    rw[spec_l18Value_SB0]
    rw[ih];rfl
theorem spec_l18Value_X0_0 (D:DX)(n:Nat) (v0_0:List Int) :
  (CQ funcTab D n 160 [] [.r,.r,.l,.r,.l,.r,.r,.r,.l,.r,.r,.l] (lastK funcTab 160)) (Ex.exit 1) (spec_l18Value_Q0_0 v0_0)=spec_l18Value_x0_0 D n v0_0:=by kernel_rfl
theorem spec_l18Value_ELP0 (D:DX)(n:Nat) (x0:Int) (x1:Int) (x2:List Int) :
  LQ funcTab D n 160 [.r,.r,.l,.r,.l,.r,.r,.r,.l,.r,.r,.l] n (spec_l18Value_Q0 x0 x1 x2) (CQ funcTab D n 160 [] [.r,.r,.l,.r,.l,.r,.r,.r,.l,.r,.r,.l] (lastK funcTab 160))=spec_l18Value_LP0 D n x0 x1 x2:=by
  rw[spec_l18Value_EL0]
  simp only[spec_l18Value_X0_0]
  rfl
theorem spec_l18Value_SB1 (D:DX)(n:Nat) (m:Nat) (K:Ex→St→Option (Out ctx 160)) (x1_0:Int) (x1_1:Int×Int×ByteArray×Unit) (x1_2:List Int) :
  LQ funcTab D n 160 [.r,.r,.l,.r,.l,.r,.r,.r,.r,.r,.l,.l,.r,.l] (m+1) (spec_l18Value_Q1 x1_0 x1_1 x1_2) K=spec_l18Value_b1 D n (fun x1_0 x1_1 x1_2=>LQ funcTab D n 160 [.r,.r,.l,.r,.l,.r,.r,.r,.r,.r,.l,.l,.r,.l] m (spec_l18Value_Q1 x1_0 x1_1 x1_2) K) (fun v0_0=>K (Ex.exit 3) (spec_l18Value_Q1_0 v0_0)) x1_0 x1_1 x1_2:=by kernel_rfl
theorem spec_l18Value_EL1 (D:DX)(n:Nat) (K:Ex→St→Option (Out ctx 160)):∀ (m:Nat) (x1_0:Int) (x1_1:Int×Int×ByteArray×Unit) (x1_2:List Int),LQ funcTab D n 160 [.r,.r,.l,.r,.l,.r,.r,.r,.r,.r,.l,.l,.r,.l] m (spec_l18Value_Q1 x1_0 x1_1 x1_2) K=spec_l18Value_L1 D n (fun v0_0=>K (Ex.exit 3) (spec_l18Value_Q1_0 v0_0)) m x1_0 x1_1 x1_2
  | 0,x1_0,x1_1,x1_2=>LQ_zero ..
  | m+1,x1_0,x1_1,x1_2=>by
    have ih:(fun x1_0 x1_1 x1_2=>LQ funcTab D n 160 [.r,.r,.l,.r,.l,.r,.r,.r,.r,.r,.l,.l,.r,.l] m (spec_l18Value_Q1 x1_0 x1_1 x1_2) K)=spec_l18Value_L1 D n (fun v0_0=>K (Ex.exit 3) (spec_l18Value_Q1_0 v0_0)) m:=by funext x1_0 x1_1 x1_2;exact spec_l18Value_EL1 D n K m x1_0 x1_1 x1_2
    rw[spec_l18Value_SB1]
    rw[ih];rfl
theorem spec_l18Value_X1_0 (D:DX)(n:Nat) (v0_0:List Int) :
  (CQ funcTab D n 160 [] [.r,.r,.l,.r,.l,.r,.r,.r,.r,.r,.l,.l,.r,.l] (lastK funcTab 160)) (Ex.exit 3) (spec_l18Value_Q1_0 v0_0)=spec_l18Value_x1_0 D n v0_0:=by kernel_rfl
theorem spec_l18Value_ELP1 (D:DX)(n:Nat) (x1_0:Int) (x1_1:Int×Int×ByteArray×Unit) (x1_2:List Int) :
  LQ funcTab D n 160 [.r,.r,.l,.r,.l,.r,.r,.r,.r,.r,.l,.l,.r,.l] n (spec_l18Value_Q1 x1_0 x1_1 x1_2) (CQ funcTab D n 160 [] [.r,.r,.l,.r,.l,.r,.r,.r,.r,.r,.l,.l,.r,.l] (lastK funcTab 160))=spec_l18Value_LP1 D n x1_0 x1_1 x1_2:=by
  rw[spec_l18Value_EL1]
  simp only[spec_l18Value_X1_0]
  rfl
theorem E_spec_l18Value (D:DX)(n:Nat) (a0:Int×Int×ByteArray×Unit):rfC funcTab D n 160 (a0,())=F_spec_l18Value D n a0:=by
  have h:rfC funcTab D n 160 (a0,())=spec_l18Value_e D n (fun x0 x1 x2=>LQ funcTab D n 160 [.r,.r,.l,.r,.l,.r,.r,.r,.l,.r,.r,.l] n (spec_l18Value_Q0 x0 x1 x2) (CQ funcTab D n 160 [] [.r,.r,.l,.r,.l,.r,.r,.r,.l,.r,.r,.l] (lastK funcTab 160))) (fun x1_0 x1_1 x1_2=>LQ funcTab D n 160 [.r,.r,.l,.r,.l,.r,.r,.r,.r,.r,.l,.l,.r,.l] n (spec_l18Value_Q1 x1_0 x1_1 x1_2) (CQ funcTab D n 160 [] [.r,.r,.l,.r,.l,.r,.r,.r,.r,.r,.l,.l,.r,.l] (lastK funcTab 160))) a0:=by kernel_rfl
  rw[h]
  simp only[spec_l18Value_ELP0,spec_l18Value_ELP1]
  rfl

def impl_TupleBytes_b1 (D:DX)(n:Nat) (go:Int→tVals→Int→Int→List Int→Int×Int×ByteArray×Unit→Option ((List Int×Unit)×Unit)) (K0:tVals→Int→Int→List Int→Option ((List Int×Unit)×Unit)) (x1_0:Int) (x1_1:tVals) (x1_2:Int) (x1_3:Int) (x1_4:List Int) (x1_5:Int×Int×ByteArray×Unit):Option ((List Int×Unit)×Unit):=br (decide (x1_0≥0)) (br (decide (IntKind.wrap IntKind.i64 (8 * x1_0)<0)) none (br (decide (List.length x1_4+1≤bound)) (go (IntKind.wrap IntKind.i64 (x1_0 - 1)) x1_1 x1_2 x1_3 (x1_4++[IntKind.wrap IntKind.u8 (Int.fdiv (IntKind.wrap IntKind.i64 (Prod.fst (Prod.snd x1_5)+4611686018427387904)) (Int.pow 2 (if Int.toNat (IntKind.wrap IntKind.i64 (8 * x1_0))≤IntKind.bits IntKind.i64 then Int.toNat (IntKind.wrap IntKind.i64 (8 * x1_0)) else IntKind.bits IntKind.i64)))]) x1_5) none)) (K0 x1_1 x1_2 x1_3 x1_4)
def impl_TupleBytes_L1 (D:DX)(n:Nat) (K0:tVals→Int→Int→List Int→Option ((List Int×Unit)×Unit)):Nat→(Int)→(tVals)→(Int)→(Int)→(List Int)→tVal→Option ((List Int×Unit)×Unit) | 0=>(fun x1_0 x1_1 x1_2 x1_3 x1_4 x1_5=>none) | m+1=>(fun x1_0 x1_1 x1_2 x1_3 x1_4 x1_5=>impl_TupleBytes_b1 D n (impl_TupleBytes_L1 D n K0 m) K0 x1_0 x1_1 x1_2 x1_3 x1_4 x1_5)
def impl_TupleBytes_x1_0 (D:DX)(n:Nat) (go:tVals→Int→Int→List Int→Option ((List Int×Unit)×Unit)) (K0:List Int→Option ((List Int×Unit)×Unit)) (v0_0:tVals) (v0_1:Int) (v0_2:Int) (v0_3:List Int):Option ((List Int×Unit)×Unit):=go v0_0 v0_1 (IntKind.wrap IntKind.i64 (v0_2+1)) v0_3
def impl_TupleBytes_LP1 (D:DX)(n:Nat) (go:tVals→Int→Int→List Int→Option ((List Int×Unit)×Unit)) (K0:List Int→Option ((List Int×Unit)×Unit)):(Int)→(tVals)→(Int)→(Int)→(List Int)→tVal→Option ((List Int×Unit)×Unit):=(fun x1_0 x1_1 x1_2 x1_3 x1_4 x1_5=>impl_TupleBytes_L1 D n (fun v0_0 v0_1 v0_2 v0_3=>impl_TupleBytes_x1_0 D n go K0 v0_0 v0_1 v0_2 v0_3) n x1_0 x1_1 x1_2 x1_3 x1_4 x1_5)
def impl_TupleBytes_b2 (D:DX)(n:Nat) (go:tVals→Int→Int→Int→Int→List Int→Int×Int×ByteArray×Unit→Option ((List Int×Unit)×Unit)) (K0:tVals→Int→Int→List Int→Option ((List Int×Unit)×Unit)) (x2_0:tVals) (x2_1:Int) (x2_2:Int) (x2_3:Int) (x2_4:Int) (x2_5:List Int) (x2_6:Int×Int×ByteArray×Unit):Option ((List Int×Unit)×Unit):=br (decide (x2_4<x2_3)) (br (decide (0≤x2_4)&&decide (x2_4<(↑(ByteArray.size (Prod.fst (Prod.snd (Prod.snd x2_6)))):Int))) (br (decide (List.length x2_5+1≤bound)) (br (decide (0≤x2_4)&&decide (x2_4<(↑(ByteArray.size (Prod.fst (Prod.snd (Prod.snd x2_6)))):Int))) (br (decide ((↑(UInt8.toNat (Array.getD (ByteArray.data (Prod.fst (Prod.snd (Prod.snd x2_6)))) (Int.toNat x2_4) (UInt8.ofNat 0))):Int)=0)) (br (decide (List.length (x2_5++[(↑(UInt8.toNat (Array.getD (ByteArray.data (Prod.fst (Prod.snd (Prod.snd x2_6)))) (Int.toNat x2_4) (UInt8.ofNat 0))):Int)])+1≤bound)) (go x2_0 x2_1 x2_2 x2_3 (IntKind.wrap IntKind.i64 (x2_4+1)) (x2_5++[(↑(UInt8.toNat (Array.getD (ByteArray.data (Prod.fst (Prod.snd (Prod.snd x2_6)))) (Int.toNat x2_4) (UInt8.ofNat 0))):Int)]++[255]) x2_6) none) (go x2_0 x2_1 x2_2 x2_3 (IntKind.wrap IntKind.i64 (x2_4+1)) (x2_5++[(↑(UInt8.toNat (Array.getD (ByteArray.data (Prod.fst (Prod.snd (Prod.snd x2_6)))) (Int.toNat x2_4) (UInt8.ofNat 0))):Int)]) x2_6)) none) none) none) (K0 x2_0 x2_1 x2_2 x2_5)
def impl_TupleBytes_L2 (D:DX)(n:Nat) (K0:tVals→Int→Int→List Int→Option ((List Int×Unit)×Unit)):Nat→(tVals)→(Int)→(Int)→(Int)→(Int)→(List Int)→tVal→Option ((List Int×Unit)×Unit) | 0=>(fun x2_0 x2_1 x2_2 x2_3 x2_4 x2_5 x2_6=>none) | m+1=>(fun x2_0 x2_1 x2_2 x2_3 x2_4 x2_5 x2_6=>impl_TupleBytes_b2 D n (impl_TupleBytes_L2 D n K0 m) K0 x2_0 x2_1 x2_2 x2_3 x2_4 x2_5 x2_6)
def impl_TupleBytes_x2_0 (D:DX)(n:Nat) (go:tVals→Int→Int→List Int→Option ((List Int×Unit)×Unit)) (K0:List Int→Option ((List Int×Unit)×Unit)) (v0_0:tVals) (v0_1:Int) (v0_2:Int) (v0_3:List Int):Option ((List Int×Unit)×Unit):=br (decide (List.length v0_3+2≤bound)) (go v0_0 v0_1 (IntKind.wrap IntKind.i64 (v0_2+1)) (v0_3++[0,1])) none
def impl_TupleBytes_LP2 (D:DX)(n:Nat) (go:tVals→Int→Int→List Int→Option ((List Int×Unit)×Unit)) (K0:List Int→Option ((List Int×Unit)×Unit)):(tVals)→(Int)→(Int)→(Int)→(Int)→(List Int)→tVal→Option ((List Int×Unit)×Unit):=(fun x2_0 x2_1 x2_2 x2_3 x2_4 x2_5 x2_6=>impl_TupleBytes_L2 D n (fun v0_0 v0_1 v0_2 v0_3=>impl_TupleBytes_x2_0 D n go K0 v0_0 v0_1 v0_2 v0_3) n x2_0 x2_1 x2_2 x2_3 x2_4 x2_5 x2_6)
def impl_TupleBytes_b0 (D:DX)(n:Nat) (go:tVals→Int→Int→List Int→Option ((List Int×Unit)×Unit)) (K0:List Int→Option ((List Int×Unit)×Unit)) (lp1:Int→tVals→Int→Int→List Int→Int×Int×ByteArray×Unit→Option ((List Int×Unit)×Unit)) (lp2:tVals→Int→Int→Int→Int→List Int→Int×Int×ByteArray×Unit→Option ((List Int×Unit)×Unit)) (x0:tVals) (x1:Int) (x2:Int) (x3:List Int):Option ((List Int×Unit)×Unit):=br (decide (x2<x1)) (br (decide (0≤x2)&&decide (x2<(↑(List.length x0):Int))) (br (decide (List.length x3+1≤bound)) (br (decide (Prod.fst (List.getD x0 (Int.toNat x2) (0,0,ByteArray.empty,()))=1)) (br (decide (List.length (x3++[IntKind.wrap IntKind.u8 (IntKind.wrap IntKind.i64 (Prod.fst (List.getD x0 (Int.toNat x2) (0,0,ByteArray.empty,()))+1))])+1≤bound)) (go x0 x1 (IntKind.wrap IntKind.i64 (x2+1)) (x3++[IntKind.wrap IntKind.u8 (IntKind.wrap IntKind.i64 (Prod.fst (List.getD x0 (Int.toNat x2) (0,0,ByteArray.empty,()))+1))]++[IntKind.wrap IntKind.u8 (Prod.fst (Prod.snd (List.getD x0 (Int.toNat x2) (0,0,ByteArray.empty,()))))])) none) (br (decide (Prod.fst (List.getD x0 (Int.toNat x2) (0,0,ByteArray.empty,()))=2)) (lp1 7 x0 x1 x2 (x3++[IntKind.wrap IntKind.u8 (IntKind.wrap IntKind.i64 (Prod.fst (List.getD x0 (Int.toNat x2) (0,0,ByteArray.empty,()))+1))]) (List.getD x0 (Int.toNat x2) (0,0,ByteArray.empty,()))) (br (decide (Prod.fst (List.getD x0 (Int.toNat x2) (0,0,ByteArray.empty,()))=3)) (lp2 x0 x1 x2 (↑(ByteArray.size (Prod.fst (Prod.snd (Prod.snd (List.getD x0 (Int.toNat x2) (0,0,ByteArray.empty,())))))):Int) 0 (x3++[IntKind.wrap IntKind.u8 (IntKind.wrap IntKind.i64 (Prod.fst (List.getD x0 (Int.toNat x2) (0,0,ByteArray.empty,()))+1))]) (List.getD x0 (Int.toNat x2) (0,0,ByteArray.empty,()))) (go x0 x1 (IntKind.wrap IntKind.i64 (x2+1)) (x3++[IntKind.wrap IntKind.u8 (IntKind.wrap IntKind.i64 (Prod.fst (List.getD x0 (Int.toNat x2) (0,0,ByteArray.empty,()))+1))]))))) none) none) (K0 x3)
def impl_TupleBytes_L0 (D:DX)(n:Nat) (K0:List Int→Option ((List Int×Unit)×Unit)):Nat→(tVals)→(Int)→(Int)→(List Int)→Option ((List Int×Unit)×Unit) | 0=>(fun x0 x1 x2 x3=>none) | m+1=>(fun x0 x1 x2 x3=>impl_TupleBytes_b0 D n (impl_TupleBytes_L0 D n K0 m) K0 (impl_TupleBytes_LP1 D n (impl_TupleBytes_L0 D n K0 m) K0) (impl_TupleBytes_LP2 D n (impl_TupleBytes_L0 D n K0 m) K0) x0 x1 x2 x3)
def impl_TupleBytes_x0_0 (D:DX)(n:Nat) (v0_0:List Int):Option ((List Int×Unit)×Unit):=some ((v0_0,()),())
def impl_TupleBytes_LP0 (D:DX)(n:Nat):(tVals)→(Int)→(Int)→(List Int)→Option ((List Int×Unit)×Unit):=(fun x0 x1 x2 x3=>impl_TupleBytes_L0 D n (fun v0_0=>impl_TupleBytes_x0_0 D n v0_0) n x0 x1 x2 x3)
def impl_TupleBytes_e (D:DX)(n:Nat) (lp0:tVals→Int→Int→List Int→Option ((List Int×Unit)×Unit)) (a0:tVals):Option ((List Int×Unit)×Unit):=bindD (C_impl_TupleOk D a0) fun b↦br (!Prod.fst (Prod.fst b)) (some (([],()),())) (lp0 a0 (↑(List.length a0):Int) 0 [])
def F_impl_TupleBytes (D:DX)(n:Nat) (a0:tVals):Option ((List Int×Unit)×Unit):=impl_TupleBytes_e D n (impl_TupleBytes_LP0 D n) a0
def impl_TupleBytes_Q0 (x0:tVals) (x1:Int) (x2:Int) (x3:List Int):St:=stq 81 [(3,AV.brw 3 [] 0),(13,AV.val (Ty.sl yV) x0),(14,avI x1),(15,avI x2)] [(3,Root.mk (Ty.sl (Ty.int IntKind.u8)) (Mk.own 0 Mk.no) x3 false)] 
def impl_TupleBytes_Q0_0 (v0_0:List Int):St:=stq 81 [(3,AV.brw 3 [] 0)] [(3,Root.mk (Ty.sl (Ty.int IntKind.u8)) (Mk.own 0 Mk.no) v0_0 false)] 
def impl_TupleBytes_Q1 (x1_0:Int) (x1_1:tVals) (x1_2:Int) (x1_3:Int) (x1_4:List Int) (x1_5:Int×Int×ByteArray×Unit):St:=stq 81 [(3,AV.brw 3 [] 0),(5,AV.addr 5 []),(6,avI x1_0),(13,AV.val (Ty.sl yV) x1_1),(14,avI x1_2),(15,avI x1_3)] [(3,Root.mk (Ty.sl (Ty.int IntKind.u8)) (Mk.own 0 Mk.no) x1_4 false),(5,Root.mk yV Mk.no x1_5 true)] 
def impl_TupleBytes_Q1_0 (v0_0:tVals) (v0_1:Int) (v0_2:Int) (v0_3:List Int):St:=stq 81 [(3,AV.brw 3 [] 0),(13,AV.val (Ty.sl yV) v0_0),(14,avI v0_1),(15,avI v0_2)] [(3,Root.mk (Ty.sl (Ty.int IntKind.u8)) (Mk.own 0 Mk.no) v0_3 false)] 
def impl_TupleBytes_Q2 (x2_0:tVals) (x2_1:Int) (x2_2:Int) (x2_3:Int) (x2_4:Int) (x2_5:List Int) (x2_6:Int×Int×ByteArray×Unit):St:=stq 81 [(3,AV.brw 3 [] 0),(5,AV.addr 5 []),(13,AV.val (Ty.sl yV) x2_0),(14,avI x2_1),(15,avI x2_2),(56,avI x2_3),(57,avI x2_4)] [(3,Root.mk (Ty.sl (Ty.int IntKind.u8)) (Mk.own 0 Mk.no) x2_5 false),(5,Root.mk yV Mk.no x2_6 true)] 
def impl_TupleBytes_Q2_0 (v0_0:tVals) (v0_1:Int) (v0_2:Int) (v0_3:List Int):St:=stq 81 [(3,AV.brw 3 [] 0),(13,AV.val (Ty.sl yV) v0_0),(14,avI v0_1),(15,avI v0_2)] [(3,Root.mk (Ty.sl (Ty.int IntKind.u8)) (Mk.own 0 Mk.no) v0_3 false)] 
theorem impl_TupleBytes_SB1 (D:DX)(n:Nat) (m:Nat) (K:Ex→St→Option (Out ctx 161)) (x1_0:Int) (x1_1:tVals) (x1_2:Int) (x1_3:Int) (x1_4:List Int) (x1_5:Int×Int×ByteArray×Unit) :
  LQ funcTab D n 161 [.r,.r,.r,.l,.r,.l,.l,.r,.r,.l,.l,.r,.r,.r,.l,.r,.r,.r,.l,.r,.l] (m+1) (impl_TupleBytes_Q1 x1_0 x1_1 x1_2 x1_3 x1_4 x1_5) K=impl_TupleBytes_b1 D n (fun x1_0 x1_1 x1_2 x1_3 x1_4 x1_5=>LQ funcTab D n 161 [.r,.r,.r,.l,.r,.l,.l,.r,.r,.l,.l,.r,.r,.r,.l,.r,.r,.r,.l,.r,.l] m (impl_TupleBytes_Q1 x1_0 x1_1 x1_2 x1_3 x1_4 x1_5) K) (fun v0_0 v0_1 v0_2 v0_3=>K (Ex.exit 3) (impl_TupleBytes_Q1_0 v0_0 v0_1 v0_2 v0_3)) x1_0 x1_1 x1_2 x1_3 x1_4 x1_5:=by kernel_rfl
theorem impl_TupleBytes_EL1 (D:DX)(n:Nat) (K:Ex→St→Option (Out ctx 161)):∀ (m:Nat) (x1_0:Int) (x1_1:tVals) (x1_2:Int) (x1_3:Int) (x1_4:List Int) (x1_5:Int×Int×ByteArray×Unit),LQ funcTab D n 161 [.r,.r,.r,.l,.r,.l,.l,.r,.r,.l,.l,.r,.r,.r,.l,.r,.r,.r,.l,.r,.l] m (impl_TupleBytes_Q1 x1_0 x1_1 x1_2 x1_3 x1_4 x1_5) K=impl_TupleBytes_L1 D n (fun v0_0 v0_1 v0_2 v0_3=>K (Ex.exit 3) (impl_TupleBytes_Q1_0 v0_0 v0_1 v0_2 v0_3)) m x1_0 x1_1 x1_2 x1_3 x1_4 x1_5
  | 0,x1_0,x1_1,x1_2,x1_3,x1_4,x1_5=>LQ_zero ..
  | m+1,x1_0,x1_1,x1_2,x1_3,x1_4,x1_5=>by
    have ih:(fun x1_0 x1_1 x1_2 x1_3 x1_4 x1_5=>LQ funcTab D n 161 [.r,.r,.r,.l,.r,.l,.l,.r,.r,.l,.l,.r,.r,.r,.l,.r,.r,.r,.l,.r,.l] m (impl_TupleBytes_Q1 x1_0 x1_1 x1_2 x1_3 x1_4 x1_5) K)=impl_TupleBytes_L1 D n (fun v0_0 v0_1 v0_2 v0_3=>K (Ex.exit 3) (impl_TupleBytes_Q1_0 v0_0 v0_1 v0_2 v0_3)) m:=by funext x1_0 x1_1 x1_2 x1_3 x1_4 x1_5;exact impl_TupleBytes_EL1 D n K m x1_0 x1_1 x1_2 x1_3 x1_4 x1_5
    rw[impl_TupleBytes_SB1]
    rw[ih];rfl
theorem impl_TupleBytes_X1_0 (D:DX)(n:Nat) (m:Nat) (K:Ex→St→Option (Out ctx 161)) (v0_0:tVals) (v0_1:Int) (v0_2:Int) (v0_3:List Int) :
  (CQ funcTab D n 161 [.r,.r,.r,.l,.r,.l,.l] [.r,.r,.l,.l,.r,.r,.r,.l,.r,.r,.r,.l,.r,.l] (LK funcTab D n 161 [.r,.r,.r,.l,.r,.l] m K)) (Ex.exit 3) (impl_TupleBytes_Q1_0 v0_0 v0_1 v0_2 v0_3)=impl_TupleBytes_x1_0 D n (fun x0 x1 x2 x3=>LQ funcTab D n 161 [.r,.r,.r,.l,.r,.l] m (impl_TupleBytes_Q0 x0 x1 x2 x3) K) (fun v0_0=>K (Ex.exit 0) (impl_TupleBytes_Q0_0 v0_0)) v0_0 v0_1 v0_2 v0_3:=by kernel_rfl
theorem impl_TupleBytes_ELP1 (D:DX)(n:Nat) (m:Nat) (K:Ex→St→Option (Out ctx 161)) (x1_0:Int) (x1_1:tVals) (x1_2:Int) (x1_3:Int) (x1_4:List Int) (x1_5:Int×Int×ByteArray×Unit) :
  LQ funcTab D n 161 [.r,.r,.r,.l,.r,.l,.l,.r,.r,.l,.l,.r,.r,.r,.l,.r,.r,.r,.l,.r,.l] n (impl_TupleBytes_Q1 x1_0 x1_1 x1_2 x1_3 x1_4 x1_5) (CQ funcTab D n 161 [.r,.r,.r,.l,.r,.l,.l] [.r,.r,.l,.l,.r,.r,.r,.l,.r,.r,.r,.l,.r,.l] (LK funcTab D n 161 [.r,.r,.r,.l,.r,.l] m K))=impl_TupleBytes_LP1 D n (fun x0 x1 x2 x3=>LQ funcTab D n 161 [.r,.r,.r,.l,.r,.l] m (impl_TupleBytes_Q0 x0 x1 x2 x3) K) (fun v0_0=>K (Ex.exit 0) (impl_TupleBytes_Q0_0 v0_0)) x1_0 x1_1 x1_2 x1_3 x1_4 x1_5:=by
  rw[impl_TupleBytes_EL1]
  simp only[impl_TupleBytes_X1_0]
  rfl
theorem impl_TupleBytes_SB2 (D:DX)(n:Nat) (m:Nat) (K:Ex→St→Option (Out ctx 161)) (x2_0:tVals) (x2_1:Int) (x2_2:Int) (x2_3:Int) (x2_4:Int) (x2_5:List Int) (x2_6:Int×Int×ByteArray×Unit) :
  LQ funcTab D n 161 [.r,.r,.r,.l,.r,.l,.l,.r,.r,.l,.l,.r,.r,.r,.l,.r,.r,.r,.r,.r,.l,.l,.r,.l] (m+1) (impl_TupleBytes_Q2 x2_0 x2_1 x2_2 x2_3 x2_4 x2_5 x2_6) K=impl_TupleBytes_b2 D n (fun x2_0 x2_1 x2_2 x2_3 x2_4 x2_5 x2_6=>LQ funcTab D n 161 [.r,.r,.r,.l,.r,.l,.l,.r,.r,.l,.l,.r,.r,.r,.l,.r,.r,.r,.r,.r,.l,.l,.r,.l] m (impl_TupleBytes_Q2 x2_0 x2_1 x2_2 x2_3 x2_4 x2_5 x2_6) K) (fun v0_0 v0_1 v0_2 v0_3=>K (Ex.exit 5) (impl_TupleBytes_Q2_0 v0_0 v0_1 v0_2 v0_3)) x2_0 x2_1 x2_2 x2_3 x2_4 x2_5 x2_6:=by kernel_rfl
theorem impl_TupleBytes_EL2 (D:DX)(n:Nat) (K:Ex→St→Option (Out ctx 161)):∀ (m:Nat) (x2_0:tVals) (x2_1:Int) (x2_2:Int) (x2_3:Int) (x2_4:Int) (x2_5:List Int) (x2_6:Int×Int×ByteArray×Unit),LQ funcTab D n 161 [.r,.r,.r,.l,.r,.l,.l,.r,.r,.l,.l,.r,.r,.r,.l,.r,.r,.r,.r,.r,.l,.l,.r,.l] m (impl_TupleBytes_Q2 x2_0 x2_1 x2_2 x2_3 x2_4 x2_5 x2_6) K=impl_TupleBytes_L2 D n (fun v0_0 v0_1 v0_2 v0_3=>K (Ex.exit 5) (impl_TupleBytes_Q2_0 v0_0 v0_1 v0_2 v0_3)) m x2_0 x2_1 x2_2 x2_3 x2_4 x2_5 x2_6
  | 0,x2_0,x2_1,x2_2,x2_3,x2_4,x2_5,x2_6=>LQ_zero ..
  | m+1,x2_0,x2_1,x2_2,x2_3,x2_4,x2_5,x2_6=>by
    have ih:(fun x2_0 x2_1 x2_2 x2_3 x2_4 x2_5 x2_6=>LQ funcTab D n 161 [.r,.r,.r,.l,.r,.l,.l,.r,.r,.l,.l,.r,.r,.r,.l,.r,.r,.r,.r,.r,.l,.l,.r,.l] m (impl_TupleBytes_Q2 x2_0 x2_1 x2_2 x2_3 x2_4 x2_5 x2_6) K)=impl_TupleBytes_L2 D n (fun v0_0 v0_1 v0_2 v0_3=>K (Ex.exit 5) (impl_TupleBytes_Q2_0 v0_0 v0_1 v0_2 v0_3)) m:=by funext x2_0 x2_1 x2_2 x2_3 x2_4 x2_5 x2_6;exact impl_TupleBytes_EL2 D n K m x2_0 x2_1 x2_2 x2_3 x2_4 x2_5 x2_6
    rw[impl_TupleBytes_SB2]
    rw[ih];rfl
theorem impl_TupleBytes_X2_0 (D:DX)(n:Nat) (m:Nat) (K:Ex→St→Option (Out ctx 161)) (v0_0:tVals) (v0_1:Int) (v0_2:Int) (v0_3:List Int) :
  (CQ funcTab D n 161 [.r,.r,.r,.l,.r,.l,.l] [.r,.r,.l,.l,.r,.r,.r,.l,.r,.r,.r,.r,.r,.l,.l,.r,.l] (LK funcTab D n 161 [.r,.r,.r,.l,.r,.l] m K)) (Ex.exit 5) (impl_TupleBytes_Q2_0 v0_0 v0_1 v0_2 v0_3)=impl_TupleBytes_x2_0 D n (fun x0 x1 x2 x3=>LQ funcTab D n 161 [.r,.r,.r,.l,.r,.l] m (impl_TupleBytes_Q0 x0 x1 x2 x3) K) (fun v0_0=>K (Ex.exit 0) (impl_TupleBytes_Q0_0 v0_0)) v0_0 v0_1 v0_2 v0_3:=by kernel_rfl
theorem impl_TupleBytes_ELP2 (D:DX)(n:Nat) (m:Nat) (K:Ex→St→Option (Out ctx 161)) (x2_0:tVals) (x2_1:Int) (x2_2:Int) (x2_3:Int) (x2_4:Int) (x2_5:List Int) (x2_6:Int×Int×ByteArray×Unit) :
  LQ funcTab D n 161 [.r,.r,.r,.l,.r,.l,.l,.r,.r,.l,.l,.r,.r,.r,.l,.r,.r,.r,.r,.r,.l,.l,.r,.l] n (impl_TupleBytes_Q2 x2_0 x2_1 x2_2 x2_3 x2_4 x2_5 x2_6) (CQ funcTab D n 161 [.r,.r,.r,.l,.r,.l,.l] [.r,.r,.l,.l,.r,.r,.r,.l,.r,.r,.r,.r,.r,.l,.l,.r,.l] (LK funcTab D n 161 [.r,.r,.r,.l,.r,.l] m K))=impl_TupleBytes_LP2 D n (fun x0 x1 x2 x3=>LQ funcTab D n 161 [.r,.r,.r,.l,.r,.l] m (impl_TupleBytes_Q0 x0 x1 x2 x3) K) (fun v0_0=>K (Ex.exit 0) (impl_TupleBytes_Q0_0 v0_0)) x2_0 x2_1 x2_2 x2_3 x2_4 x2_5 x2_6:=by
  rw[impl_TupleBytes_EL2]
  simp only[impl_TupleBytes_X2_0]
  rfl
theorem impl_TupleBytes_SB0 (D:DX)(n:Nat) (m:Nat) (K:Ex→St→Option (Out ctx 161)) (x0:tVals) (x1:Int) (x2:Int) (x3:List Int) :
  LQ funcTab D n 161 [.r,.r,.r,.l,.r,.l] (m+1) (impl_TupleBytes_Q0 x0 x1 x2 x3) K=impl_TupleBytes_b0 D n (fun x0 x1 x2 x3=>LQ funcTab D n 161 [.r,.r,.r,.l,.r,.l] m (impl_TupleBytes_Q0 x0 x1 x2 x3) K) (fun v0_0=>K (Ex.exit 0) (impl_TupleBytes_Q0_0 v0_0)) (fun x1_0 x1_1 x1_2 x1_3 x1_4 x1_5=>LQ funcTab D n 161 [.r,.r,.r,.l,.r,.l,.l,.r,.r,.l,.l,.r,.r,.r,.l,.r,.r,.r,.l,.r,.l] n (impl_TupleBytes_Q1 x1_0 x1_1 x1_2 x1_3 x1_4 x1_5) (CQ funcTab D n 161 [.r,.r,.r,.l,.r,.l,.l] [.r,.r,.l,.l,.r,.r,.r,.l,.r,.r,.r,.l,.r,.l] (LK funcTab D n 161 [.r,.r,.r,.l,.r,.l] m K))) (fun x2_0 x2_1 x2_2 x2_3 x2_4 x2_5 x2_6=>LQ funcTab D n 161 [.r,.r,.r,.l,.r,.l,.l,.r,.r,.l,.l,.r,.r,.r,.l,.r,.r,.r,.r,.r,.l,.l,.r,.l] n (impl_TupleBytes_Q2 x2_0 x2_1 x2_2 x2_3 x2_4 x2_5 x2_6) (CQ funcTab D n 161 [.r,.r,.r,.l,.r,.l,.l] [.r,.r,.l,.l,.r,.r,.r,.l,.r,.r,.r,.r,.r,.l,.l,.r,.l] (LK funcTab D n 161 [.r,.r,.r,.l,.r,.l] m K))) x0 x1 x2 x3:=by kernel_rfl
theorem impl_TupleBytes_EL0 (D:DX)(n:Nat) (K:Ex→St→Option (Out ctx 161)):∀ (m:Nat) (x0:tVals) (x1:Int) (x2:Int) (x3:List Int),LQ funcTab D n 161 [.r,.r,.r,.l,.r,.l] m (impl_TupleBytes_Q0 x0 x1 x2 x3) K=impl_TupleBytes_L0 D n (fun v0_0=>K (Ex.exit 0) (impl_TupleBytes_Q0_0 v0_0)) m x0 x1 x2 x3
  | 0,x0,x1,x2,x3=>LQ_zero ..
  | m+1,x0,x1,x2,x3=>by
    have ih:(fun x0 x1 x2 x3=>LQ funcTab D n 161 [.r,.r,.r,.l,.r,.l] m (impl_TupleBytes_Q0 x0 x1 x2 x3) K)=impl_TupleBytes_L0 D n (fun v0_0=>K (Ex.exit 0) (impl_TupleBytes_Q0_0 v0_0)) m:=by funext x0 x1 x2 x3;exact impl_TupleBytes_EL0 D n K m x0 x1 x2 x3
    rw[impl_TupleBytes_SB0]
    simp only[impl_TupleBytes_ELP1,impl_TupleBytes_ELP2]
    rw[ih];rfl
theorem impl_TupleBytes_X0_0 (D:DX)(n:Nat) (v0_0:List Int) :
  (CQ funcTab D n 161 [] [.r,.r,.r,.l,.r,.l] (lastK funcTab 161)) (Ex.exit 0) (impl_TupleBytes_Q0_0 v0_0)=impl_TupleBytes_x0_0 D n v0_0:=by kernel_rfl
theorem impl_TupleBytes_ELP0 (D:DX)(n:Nat) (x0:tVals) (x1:Int) (x2:Int) (x3:List Int) :
  LQ funcTab D n 161 [.r,.r,.r,.l,.r,.l] n (impl_TupleBytes_Q0 x0 x1 x2 x3) (CQ funcTab D n 161 [] [.r,.r,.r,.l,.r,.l] (lastK funcTab 161))=impl_TupleBytes_LP0 D n x0 x1 x2 x3:=by
  rw[impl_TupleBytes_EL0]
  simp only[impl_TupleBytes_X0_0]
  rfl
theorem E_impl_TupleBytes (D:DX)(n:Nat) (a0:tVals):rfC funcTab D n 161 (a0,())=F_impl_TupleBytes D n a0:=by
  have h:rfC funcTab D n 161 (a0,())=impl_TupleBytes_e D n (fun x0 x1 x2 x3=>LQ funcTab D n 161 [.r,.r,.r,.l,.r,.l] n (impl_TupleBytes_Q0 x0 x1 x2 x3) (CQ funcTab D n 161 [] [.r,.r,.r,.l,.r,.l] (lastK funcTab 161))) a0:=by kernel_rfl
  rw[h]
  simp only[impl_TupleBytes_ELP0]
  rfl

def spec_ValueSame_e (D:DX)(n:Nat) (a0:Int×Int×ByteArray×Unit) (a1:Int×Int×ByteArray×Unit):Option ((Bool×Unit)×Unit):=some ((eqDen (Ty.pair (Ty.int IntKind.i64) (Ty.pair (Ty.int IntKind.i64) (Ty.pair Ty.str Ty.unit))) a0 a1,()),())
def F_spec_ValueSame (D:DX)(n:Nat) (a0:Int×Int×ByteArray×Unit) (a1:Int×Int×ByteArray×Unit):Option ((Bool×Unit)×Unit):=spec_ValueSame_e D n a0 a1
theorem E_spec_ValueSame (D:DX)(n:Nat) (a0:Int×Int×ByteArray×Unit) (a1:Int×Int×ByteArray×Unit):rfC funcTab D n 162 (a0,(a1,()))=F_spec_ValueSame D n a0 a1:=by kernel_rfl

def spec_ValueLess_e (D:DX)(n:Nat) (a0:Int×Int×ByteArray×Unit) (a1:Int×Int×ByteArray×Unit):Option ((Bool×Unit)×Unit):=br (Prod.fst a0 != Prod.fst a1) (some ((decide (Prod.fst a0<Prod.fst a1),()),())) (br (Prod.fst (Prod.snd a0) != Prod.fst (Prod.snd a1)) (some ((decide (Prod.fst (Prod.snd a0)<Prod.fst (Prod.snd a1)),()),())) (some ((Op.bytesLess (ByteArray.toList (Prod.fst (Prod.snd (Prod.snd a0)))) (ByteArray.toList (Prod.fst (Prod.snd (Prod.snd a1)))),()),())))
def F_spec_ValueLess (D:DX)(n:Nat) (a0:Int×Int×ByteArray×Unit) (a1:Int×Int×ByteArray×Unit):Option ((Bool×Unit)×Unit):=spec_ValueLess_e D n a0 a1
theorem E_spec_ValueLess (D:DX)(n:Nat) (a0:Int×Int×ByteArray×Unit) (a1:Int×Int×ByteArray×Unit):rfC funcTab D n 163 (a0,(a1,()))=F_spec_ValueLess D n a0 a1:=by kernel_rfl

def spec_l18Same_b0 (D:DX)(n:Nat) (go:tVals→tVals→Int→Option ((Bool×Unit)×Unit)) (K0:tVals→tVals→Bool→Option ((Bool×Unit)×Unit)) (K1:tVals→tVals→Option ((Bool×Unit)×Unit)) (x0:tVals) (x1:tVals) (x2:Int):Option ((Bool×Unit)×Unit):=br (bif decide (x2<(↑(List.length x0):Int)) then decide (x2<(↑(List.length x1):Int)) else false) (br (decide (0≤x2)&&decide (x2<(↑(List.length x0):Int))) (br (decide (0≤x2)&&decide (x2<(↑(List.length x1):Int))) (bindD (C_spec_ValueSame D (List.getD x0 (Int.toNat x2) (0,0,ByteArray.empty,())) (List.getD x1 (Int.toNat x2) (0,0,ByteArray.empty,()))) fun b↦br (!Prod.fst (Prod.fst b)) (K0 x0 x1 false) (go x0 x1 (IntKind.wrap IntKind.i64 (x2+1)))) none) none) (K1 x0 x1)
def spec_l18Same_L0 (D:DX)(n:Nat) (K0:tVals→tVals→Bool→Option ((Bool×Unit)×Unit)) (K1:tVals→tVals→Option ((Bool×Unit)×Unit)):Nat→(tVals)→(tVals)→(Int)→Option ((Bool×Unit)×Unit) | 0=>(fun x0 x1 x2=>none) | m+1=>(fun x0 x1 x2=>spec_l18Same_b0 D n (spec_l18Same_L0 D n K0 K1 m) K0 K1 x0 x1 x2)
def spec_l18Same_x0_0 (D:DX)(n:Nat) (v0_0:tVals) (v0_1:tVals) (v0_2:Bool):Option ((Bool×Unit)×Unit):=some ((v0_2,()),())
def spec_l18Same_x0_1 (D:DX)(n:Nat) (v1_0:tVals) (v1_1:tVals):Option ((Bool×Unit)×Unit):=some ((decide ((↑(List.length v1_0):Int)=(↑(List.length v1_1):Int)),()),())
def spec_l18Same_LP0 (D:DX)(n:Nat):(tVals)→(tVals)→(Int)→Option ((Bool×Unit)×Unit):=(fun x0 x1 x2=>spec_l18Same_L0 D n (fun v0_0 v0_1 v0_2=>spec_l18Same_x0_0 D n v0_0 v0_1 v0_2) (fun v1_0 v1_1=>spec_l18Same_x0_1 D n v1_0 v1_1) n x0 x1 x2)
def spec_l18Same_e (D:DX)(n:Nat) (lp0:tVals→tVals→Int→Option ((Bool×Unit)×Unit)) (a0:tVals) (a1:tVals):Option ((Bool×Unit)×Unit):=lp0 a0 a1 0
def F_spec_l18Same (D:DX)(n:Nat) (a0:tVals) (a1:tVals):Option ((Bool×Unit)×Unit):=spec_l18Same_e D n (spec_l18Same_LP0 D n) a0 a1
def spec_l18Same_Q0 (x0:tVals) (x1:tVals) (x2:Int):St:=stq 33 [(0,AV.val (Ty.sl yV) x0),(1,AV.val (Ty.sl yV) x1),(5,avI x2)] [] 
def spec_l18Same_Q0_0 (v0_0:tVals) (v0_1:tVals) (v0_2:Bool):St:=stq 33 [(0,AV.val (Ty.sl yV) v0_0),(1,AV.val (Ty.sl yV) v0_1),(4,AV.val Ty.bool v0_2)] [] 
def spec_l18Same_Q0_1 (v1_0:tVals) (v1_1:tVals):St:=stq 33 [(0,AV.val (Ty.sl yV) v1_0),(1,AV.val (Ty.sl yV) v1_1)] [] 
theorem spec_l18Same_SB0 (D:DX)(n:Nat) (m:Nat) (K:Ex→St→Option (Out ctx 164)) (x0:tVals) (x1:tVals) (x2:Int) :
  LQ funcTab D n 164 [.r,.l,.r,.l] (m+1) (spec_l18Same_Q0 x0 x1 x2) K=spec_l18Same_b0 D n (fun x0 x1 x2=>LQ funcTab D n 164 [.r,.l,.r,.l] m (spec_l18Same_Q0 x0 x1 x2) K) (fun v0_0 v0_1 v0_2=>K (Ex.ret) (spec_l18Same_Q0_0 v0_0 v0_1 v0_2)) (fun v1_0 v1_1=>K (Ex.exit 0) (spec_l18Same_Q0_1 v1_0 v1_1)) x0 x1 x2:=by kernel_rfl
theorem spec_l18Same_EL0 (D:DX)(n:Nat) (K:Ex→St→Option (Out ctx 164)):∀ (m:Nat) (x0:tVals) (x1:tVals) (x2:Int),LQ funcTab D n 164 [.r,.l,.r,.l] m (spec_l18Same_Q0 x0 x1 x2) K=spec_l18Same_L0 D n (fun v0_0 v0_1 v0_2=>K (Ex.ret) (spec_l18Same_Q0_0 v0_0 v0_1 v0_2)) (fun v1_0 v1_1=>K (Ex.exit 0) (spec_l18Same_Q0_1 v1_0 v1_1)) m x0 x1 x2
  | 0,x0,x1,x2=>LQ_zero ..
  | m+1,x0,x1,x2=>by
    have ih:(fun x0 x1 x2=>LQ funcTab D n 164 [.r,.l,.r,.l] m (spec_l18Same_Q0 x0 x1 x2) K)=spec_l18Same_L0 D n (fun v0_0 v0_1 v0_2=>K (Ex.ret) (spec_l18Same_Q0_0 v0_0 v0_1 v0_2)) (fun v1_0 v1_1=>K (Ex.exit 0) (spec_l18Same_Q0_1 v1_0 v1_1)) m:=by funext x0 x1 x2;exact spec_l18Same_EL0 D n K m x0 x1 x2
    rw[spec_l18Same_SB0]
    rw[ih];rfl
theorem spec_l18Same_X0_0 (D:DX)(n:Nat) (v0_0:tVals) (v0_1:tVals) (v0_2:Bool) :
  (CQ funcTab D n 164 [] [.r,.l,.r,.l] (lastK funcTab 164)) (Ex.ret) (spec_l18Same_Q0_0 v0_0 v0_1 v0_2)=spec_l18Same_x0_0 D n v0_0 v0_1 v0_2:=by kernel_rfl
theorem spec_l18Same_X0_1 (D:DX)(n:Nat) (v1_0:tVals) (v1_1:tVals) :
  (CQ funcTab D n 164 [] [.r,.l,.r,.l] (lastK funcTab 164)) (Ex.exit 0) (spec_l18Same_Q0_1 v1_0 v1_1)=spec_l18Same_x0_1 D n v1_0 v1_1:=by kernel_rfl
theorem spec_l18Same_ELP0 (D:DX)(n:Nat) (x0:tVals) (x1:tVals) (x2:Int) :
  LQ funcTab D n 164 [.r,.l,.r,.l] n (spec_l18Same_Q0 x0 x1 x2) (CQ funcTab D n 164 [] [.r,.l,.r,.l] (lastK funcTab 164))=spec_l18Same_LP0 D n x0 x1 x2:=by
  rw[spec_l18Same_EL0]
  simp only[spec_l18Same_X0_0,spec_l18Same_X0_1]
  rfl
theorem E_spec_l18Same (D:DX)(n:Nat) (a0:tVals) (a1:tVals):rfC funcTab D n 164 (a0,(a1,()))=F_spec_l18Same D n a0 a1:=by
  have h:rfC funcTab D n 164 (a0,(a1,()))=spec_l18Same_e D n (fun x0 x1 x2=>LQ funcTab D n 164 [.r,.l,.r,.l] n (spec_l18Same_Q0 x0 x1 x2) (CQ funcTab D n 164 [] [.r,.l,.r,.l] (lastK funcTab 164))) a0 a1:=by kernel_rfl
  rw[h]
  simp only[spec_l18Same_ELP0]
  rfl

def spec_l21Some_b0 (D:DX)(n:Nat) (go:tVals→Int→Option ((Bool×Unit)×Unit)) (K0:Bool→Option ((Bool×Unit)×Unit)) (K1:Option ((Bool×Unit)×Unit)) (x0:tVals) (x1:Int):Option ((Bool×Unit)×Unit):=br (decide (x1<(↑(List.length x0):Int))) (br (decide (0≤x1)&&decide (x1<(↑(List.length x0):Int))) (br (decide (Prod.fst (List.getD x0 (Int.toNat x1) (0,0,ByteArray.empty,()))=0)) (K0 true) (go x0 (IntKind.wrap IntKind.i64 (x1+1)))) none) K1
def spec_l21Some_L0 (D:DX)(n:Nat) (K0:Bool→Option ((Bool×Unit)×Unit)) (K1:Option ((Bool×Unit)×Unit)):Nat→(tVals)→(Int)→Option ((Bool×Unit)×Unit) | 0=>(fun x0 x1=>none) | m+1=>(fun x0 x1=>spec_l21Some_b0 D n (spec_l21Some_L0 D n K0 K1 m) K0 K1 x0 x1)
def spec_l21Some_x0_0 (D:DX)(n:Nat) (v0_0:Bool):Option ((Bool×Unit)×Unit):=some ((v0_0,()),())
def spec_l21Some_x0_1 (D:DX)(n:Nat):Option ((Bool×Unit)×Unit):=some ((false,()),())
def spec_l21Some_LP0 (D:DX)(n:Nat):(tVals)→(Int)→Option ((Bool×Unit)×Unit):=(fun x0 x1=>spec_l21Some_L0 D n (fun v0_0=>spec_l21Some_x0_0 D n v0_0) (spec_l21Some_x0_1 D n) n x0 x1)
def spec_l21Some_e (D:DX)(n:Nat) (lp0:tVals→Int→Option ((Bool×Unit)×Unit)) (a0:tVals):Option ((Bool×Unit)×Unit):=lp0 a0 0
def F_spec_l21Some (D:DX)(n:Nat) (a0:tVals):Option ((Bool×Unit)×Unit):=spec_l21Some_e D n (spec_l21Some_LP0 D n) a0
def spec_l21Some_Q0 (x0:tVals) (x1:Int):St:=stq 16 [(0,AV.val (Ty.sl yV) x0),(3,avI x1)] [] 
def spec_l21Some_Q0_0 (v0_0:Bool):St:=stq 16 [(2,AV.val Ty.bool v0_0)] [] 
def spec_l21Some_Q0_1:St:=stq 16 [] [] 
theorem spec_l21Some_SB0 (D:DX)(n:Nat) (m:Nat) (K:Ex→St→Option (Out ctx 165)) (x0:tVals) (x1:Int) :
  LQ funcTab D n 165 [.r,.l,.r,.l] (m+1) (spec_l21Some_Q0 x0 x1) K=spec_l21Some_b0 D n (fun x0 x1=>LQ funcTab D n 165 [.r,.l,.r,.l] m (spec_l21Some_Q0 x0 x1) K) (fun v0_0=>K (Ex.ret) (spec_l21Some_Q0_0 v0_0)) (K (Ex.exit 0) (spec_l21Some_Q0_1)) x0 x1:=by kernel_rfl
theorem spec_l21Some_EL0 (D:DX)(n:Nat) (K:Ex→St→Option (Out ctx 165)):∀ (m:Nat) (x0:tVals) (x1:Int),LQ funcTab D n 165 [.r,.l,.r,.l] m (spec_l21Some_Q0 x0 x1) K=spec_l21Some_L0 D n (fun v0_0=>K (Ex.ret) (spec_l21Some_Q0_0 v0_0)) (K (Ex.exit 0) (spec_l21Some_Q0_1)) m x0 x1
  | 0,x0,x1=>LQ_zero ..
  | m+1,x0,x1=>by
    have ih:(fun x0 x1=>LQ funcTab D n 165 [.r,.l,.r,.l] m (spec_l21Some_Q0 x0 x1) K)=spec_l21Some_L0 D n (fun v0_0=>K (Ex.ret) (spec_l21Some_Q0_0 v0_0)) (K (Ex.exit 0) (spec_l21Some_Q0_1)) m:=by funext x0 x1;exact spec_l21Some_EL0 D n K m x0 x1
    rw[spec_l21Some_SB0]
    rw[ih];rfl
theorem spec_l21Some_X0_0 (D:DX)(n:Nat) (v0_0:Bool) :
  (CQ funcTab D n 165 [] [.r,.l,.r,.l] (lastK funcTab 165)) (Ex.ret) (spec_l21Some_Q0_0 v0_0)=spec_l21Some_x0_0 D n v0_0:=by kernel_rfl
theorem spec_l21Some_X0_1 (D:DX)(n:Nat) :
  (CQ funcTab D n 165 [] [.r,.l,.r,.l] (lastK funcTab 165)) (Ex.exit 0) (spec_l21Some_Q0_1)=spec_l21Some_x0_1 D n:=by kernel_rfl
theorem spec_l21Some_ELP0 (D:DX)(n:Nat) (x0:tVals) (x1:Int) :
  LQ funcTab D n 165 [.r,.l,.r,.l] n (spec_l21Some_Q0 x0 x1) (CQ funcTab D n 165 [] [.r,.l,.r,.l] (lastK funcTab 165))=spec_l21Some_LP0 D n x0 x1:=by
  rw[spec_l21Some_EL0]
  simp only[spec_l21Some_X0_0,spec_l21Some_X0_1]
  rfl
theorem E_spec_l21Some (D:DX)(n:Nat) (a0:tVals):rfC funcTab D n 165 (a0,())=F_spec_l21Some D n a0:=by
  have h:rfC funcTab D n 165 (a0,())=spec_l21Some_e D n (fun x0 x1=>LQ funcTab D n 165 [.r,.l,.r,.l] n (spec_l21Some_Q0 x0 x1) (CQ funcTab D n 165 [] [.r,.l,.r,.l] (lastK funcTab 165))) a0:=by kernel_rfl
  rw[h]
  simp only[spec_l21Some_ELP0]
  rfl

def slices_CompareFunc_impl_Value_impl_Value_impl_Value_impl_Value_b0 (D:DX)(n:Nat) (a2:Clo) (go:tVals→tVals→tVals→Int→Int→Option ((Int×Unit)×Unit)) (K0:tVals→tVals→Int→Option ((Int×Unit)×Unit)) (K1:tVals→tVals→Option ((Int×Unit)×Unit)) (x0:tVals) (x1:tVals) (x2:tVals) (x3:Int) (x4:Int):Option ((Int×Unit)×Unit):=br (decide (x4<x3)) (br (decide (0≤x4)&&decide (x4<(↑(List.length x2):Int))) (br (decide (x4≥(↑(List.length x1):Int))) (K0 x0 x1 1) (br (decide (0≤x4)&&decide (x4<(↑(List.length x1):Int))) (bindD (applyClo ctx D a2 [CapV.val (Ty.pair (Ty.int IntKind.i64) (Ty.pair (Ty.int IntKind.i64) (Ty.pair Ty.str Ty.unit))) (List.getD x2 (Int.toNat x4) (0,0,ByteArray.empty,())),CapV.val (Ty.pair (Ty.int IntKind.i64) (Ty.pair (Ty.int IntKind.i64) (Ty.pair Ty.str Ty.unit))) (List.getD x1 (Int.toNat x4) (0,0,ByteArray.empty,()))] (Ty.int IntKind.i64)) fun b↦br (b != 0) (K0 x0 x1 b) (go x0 x1 x2 x3 (IntKind.wrap IntKind.i64 (x4+1)))) none)) none) (K1 x0 x1)
def slices_CompareFunc_impl_Value_impl_Value_impl_Value_impl_Value_L0 (D:DX)(n:Nat) (a2:Clo) (K0:tVals→tVals→Int→Option ((Int×Unit)×Unit)) (K1:tVals→tVals→Option ((Int×Unit)×Unit)):Nat→(tVals)→(tVals)→(tVals)→(Int)→(Int)→Option ((Int×Unit)×Unit) | 0=>(fun x0 x1 x2 x3 x4=>none) | m+1=>(fun x0 x1 x2 x3 x4=>slices_CompareFunc_impl_Value_impl_Value_impl_Value_impl_Value_b0 D n a2 (slices_CompareFunc_impl_Value_impl_Value_impl_Value_impl_Value_L0 D n a2 K0 K1 m) K0 K1 x0 x1 x2 x3 x4)
def slices_CompareFunc_impl_Value_impl_Value_impl_Value_impl_Value_x0_0 (D:DX)(n:Nat) (a2:Clo) (v0_0:tVals) (v0_1:tVals) (v0_2:Int):Option ((Int×Unit)×Unit):=some ((v0_2,()),())
def slices_CompareFunc_impl_Value_impl_Value_impl_Value_impl_Value_x0_1 (D:DX)(n:Nat) (a2:Clo) (v1_0:tVals) (v1_1:tVals):Option ((Int×Unit)×Unit):=br (decide ((↑(List.length v1_0):Int)<(↑(List.length v1_1):Int))) (some ((-1,()),())) (some ((0,()),()))
def slices_CompareFunc_impl_Value_impl_Value_impl_Value_impl_Value_LP0 (D:DX)(n:Nat) (a2:Clo):(tVals)→(tVals)→(tVals)→(Int)→(Int)→Option ((Int×Unit)×Unit):=(fun x0 x1 x2 x3 x4=>slices_CompareFunc_impl_Value_impl_Value_impl_Value_impl_Value_L0 D n a2 (fun v0_0 v0_1 v0_2=>slices_CompareFunc_impl_Value_impl_Value_impl_Value_impl_Value_x0_0 D n a2 v0_0 v0_1 v0_2) (fun v1_0 v1_1=>slices_CompareFunc_impl_Value_impl_Value_impl_Value_impl_Value_x0_1 D n a2 v1_0 v1_1) n x0 x1 x2 x3 x4)
def slices_CompareFunc_impl_Value_impl_Value_impl_Value_impl_Value_e (D:DX)(n:Nat) (a2:Clo) (lp0:tVals→tVals→tVals→Int→Int→Option ((Int×Unit)×Unit)) (a0:tVals) (a1:tVals):Option ((Int×Unit)×Unit):=lp0 a0 a1 a0 (↑(List.length a0):Int) 0
def F_slices_CompareFunc_impl_Value_impl_Value_impl_Value_impl_Value (D:DX)(n:Nat) (a0:tVals) (a1:tVals) (a2:Clo):Option ((Int×Unit)×Unit):=slices_CompareFunc_impl_Value_impl_Value_impl_Value_impl_Value_e D n a2 (slices_CompareFunc_impl_Value_impl_Value_impl_Value_impl_Value_LP0 D n a2) a0 a1
def slices_CompareFunc_impl_Value_impl_Value_impl_Value_impl_Value_Q0 (a2:Clo) (x0:tVals) (x1:tVals) (x2:tVals) (x3:Int) (x4:Int):St:=stq 39 [(0,AV.val (Ty.sl yV) x0),(1,AV.val (Ty.sl yV) x1),(2,AV.cloV a2),(11,AV.val (Ty.sl yV) x2),(12,avI x3),(13,avI x4)] [] 
def slices_CompareFunc_impl_Value_impl_Value_impl_Value_impl_Value_Q0_0 (a2:Clo) (v0_0:tVals) (v0_1:tVals) (v0_2:Int):St:=stq 39 [(0,AV.val (Ty.sl yV) v0_0),(1,AV.val (Ty.sl yV) v0_1),(6,avI v0_2)] [] 
def slices_CompareFunc_impl_Value_impl_Value_impl_Value_impl_Value_Q0_1 (a2:Clo) (v1_0:tVals) (v1_1:tVals):St:=stq 39 [(0,AV.val (Ty.sl yV) v1_0),(1,AV.val (Ty.sl yV) v1_1)] [] 
theorem slices_CompareFunc_impl_Value_impl_Value_impl_Value_impl_Value_SB0 (D:DX)(n:Nat) (a2:Clo) (m:Nat) (K:Ex→St→Option (Out ctx 166)) (x0:tVals) (x1:tVals) (x2:tVals) (x3:Int) (x4:Int) :
  LQ funcTab D n 166 [.r,.l,.r,.l] (m+1) (slices_CompareFunc_impl_Value_impl_Value_impl_Value_impl_Value_Q0 a2 x0 x1 x2 x3 x4) K=slices_CompareFunc_impl_Value_impl_Value_impl_Value_impl_Value_b0 D n a2 (fun x0 x1 x2 x3 x4=>LQ funcTab D n 166 [.r,.l,.r,.l] m (slices_CompareFunc_impl_Value_impl_Value_impl_Value_impl_Value_Q0 a2 x0 x1 x2 x3 x4) K) (fun v0_0 v0_1 v0_2=>K (Ex.ret) (slices_CompareFunc_impl_Value_impl_Value_impl_Value_impl_Value_Q0_0 a2 v0_0 v0_1 v0_2)) (fun v1_0 v1_1=>K (Ex.exit 0) (slices_CompareFunc_impl_Value_impl_Value_impl_Value_impl_Value_Q0_1 a2 v1_0 v1_1)) x0 x1 x2 x3 x4:=by kernel_rfl
theorem slices_CompareFunc_impl_Value_impl_Value_impl_Value_impl_Value_EL0 (D:DX)(n:Nat) (a2:Clo) (K:Ex→St→Option (Out ctx 166)):∀ (m:Nat) (x0:tVals) (x1:tVals) (x2:tVals) (x3:Int) (x4:Int),LQ funcTab D n 166 [.r,.l,.r,.l] m (slices_CompareFunc_impl_Value_impl_Value_impl_Value_impl_Value_Q0 a2 x0 x1 x2 x3 x4) K=slices_CompareFunc_impl_Value_impl_Value_impl_Value_impl_Value_L0 D n a2 (fun v0_0 v0_1 v0_2=>K (Ex.ret) (slices_CompareFunc_impl_Value_impl_Value_impl_Value_impl_Value_Q0_0 a2 v0_0 v0_1 v0_2)) (fun v1_0 v1_1=>K (Ex.exit 0) (slices_CompareFunc_impl_Value_impl_Value_impl_Value_impl_Value_Q0_1 a2 v1_0 v1_1)) m x0 x1 x2 x3 x4
  | 0,x0,x1,x2,x3,x4=>LQ_zero ..
  | m+1,x0,x1,x2,x3,x4=>by
    have ih:(fun x0 x1 x2 x3 x4=>LQ funcTab D n 166 [.r,.l,.r,.l] m (slices_CompareFunc_impl_Value_impl_Value_impl_Value_impl_Value_Q0 a2 x0 x1 x2 x3 x4) K)=slices_CompareFunc_impl_Value_impl_Value_impl_Value_impl_Value_L0 D n a2 (fun v0_0 v0_1 v0_2=>K (Ex.ret) (slices_CompareFunc_impl_Value_impl_Value_impl_Value_impl_Value_Q0_0 a2 v0_0 v0_1 v0_2)) (fun v1_0 v1_1=>K (Ex.exit 0) (slices_CompareFunc_impl_Value_impl_Value_impl_Value_impl_Value_Q0_1 a2 v1_0 v1_1)) m:=by funext x0 x1 x2 x3 x4;exact slices_CompareFunc_impl_Value_impl_Value_impl_Value_impl_Value_EL0 D n a2 K m x0 x1 x2 x3 x4
    rw[slices_CompareFunc_impl_Value_impl_Value_impl_Value_impl_Value_SB0]
    rw[ih];rfl
theorem slices_CompareFunc_impl_Value_impl_Value_impl_Value_impl_Value_X0_0 (D:DX)(n:Nat) (a2:Clo) (v0_0:tVals) (v0_1:tVals) (v0_2:Int) :
  (CQ funcTab D n 166 [] [.r,.l,.r,.l] (lastK funcTab 166)) (Ex.ret) (slices_CompareFunc_impl_Value_impl_Value_impl_Value_impl_Value_Q0_0 a2 v0_0 v0_1 v0_2)=slices_CompareFunc_impl_Value_impl_Value_impl_Value_impl_Value_x0_0 D n a2 v0_0 v0_1 v0_2:=by kernel_rfl
theorem slices_CompareFunc_impl_Value_impl_Value_impl_Value_impl_Value_X0_1 (D:DX)(n:Nat) (a2:Clo) (v1_0:tVals) (v1_1:tVals) :
  (CQ funcTab D n 166 [] [.r,.l,.r,.l] (lastK funcTab 166)) (Ex.exit 0) (slices_CompareFunc_impl_Value_impl_Value_impl_Value_impl_Value_Q0_1 a2 v1_0 v1_1)=slices_CompareFunc_impl_Value_impl_Value_impl_Value_impl_Value_x0_1 D n a2 v1_0 v1_1:=by kernel_rfl
theorem slices_CompareFunc_impl_Value_impl_Value_impl_Value_impl_Value_ELP0 (D:DX)(n:Nat) (a2:Clo) (x0:tVals) (x1:tVals) (x2:tVals) (x3:Int) (x4:Int) :
  LQ funcTab D n 166 [.r,.l,.r,.l] n (slices_CompareFunc_impl_Value_impl_Value_impl_Value_impl_Value_Q0 a2 x0 x1 x2 x3 x4) (CQ funcTab D n 166 [] [.r,.l,.r,.l] (lastK funcTab 166))=slices_CompareFunc_impl_Value_impl_Value_impl_Value_impl_Value_LP0 D n a2 x0 x1 x2 x3 x4:=by
  rw[slices_CompareFunc_impl_Value_impl_Value_impl_Value_impl_Value_EL0]
  simp only[slices_CompareFunc_impl_Value_impl_Value_impl_Value_impl_Value_X0_0,slices_CompareFunc_impl_Value_impl_Value_impl_Value_impl_Value_X0_1]
  rfl
theorem E_slices_CompareFunc_impl_Value_impl_Value_impl_Value_impl_Value (D:DX)(n:Nat) (a0:tVals) (a1:tVals) (a2:Clo):rfC funcTab D n 166 (a0,(a1,(a2,())))=F_slices_CompareFunc_impl_Value_impl_Value_impl_Value_impl_Value D n a0 a1 a2:=by
  have h:rfC funcTab D n 166 (a0,(a1,(a2,())))=slices_CompareFunc_impl_Value_impl_Value_impl_Value_impl_Value_e D n a2 (fun x0 x1 x2 x3 x4=>LQ funcTab D n 166 [.r,.l,.r,.l] n (slices_CompareFunc_impl_Value_impl_Value_impl_Value_impl_Value_Q0 a2 x0 x1 x2 x3 x4) (CQ funcTab D n 166 [] [.r,.l,.r,.l] (lastK funcTab 166))) a0 a1:=by kernel_rfl
  rw[h]
  simp only[slices_CompareFunc_impl_Value_impl_Value_impl_Value_impl_Value_ELP0]
  rfl

def impl_byValue_e (D:DX)(n:Nat) (a0:Int×Int×ByteArray×Unit) (a1:Int×Int×ByteArray×Unit):Option ((Int×Unit)×Unit):=br (bif decide (Prod.fst a0<Prod.fst a1) then true else bif decide (Prod.fst a0=Prod.fst a1) then decide (Prod.fst (Prod.snd a0)<Prod.fst (Prod.snd a1)) else false) (some ((-1,()),())) (br (bif decide (Prod.fst a0>Prod.fst a1) then true else decide (Prod.fst (Prod.snd a0)>Prod.fst (Prod.snd a1))) (some ((1,()),())) (bindD (C_strings_Compare D (Prod.fst (Prod.snd (Prod.snd a0))) (Prod.fst (Prod.snd (Prod.snd a1)))) fun b↦some ((Prod.fst (Prod.fst b),()),())))
def F_impl_byValue (D:DX)(n:Nat) (a0:Int×Int×ByteArray×Unit) (a1:Int×Int×ByteArray×Unit):Option ((Int×Unit)×Unit):=impl_byValue_e D n a0 a1
theorem E_impl_byValue (D:DX)(n:Nat) (a0:Int×Int×ByteArray×Unit) (a1:Int×Int×ByteArray×Unit):rfC funcTab D n 167 (a0,(a1,()))=F_impl_byValue D n a0 a1:=by kernel_rfl

def impl_clash_1_e (D:DX)(n:Nat) (a0:ByteArray×List Int×Bool×Unit) (a1:tVals) (a2:tVals):Option ((Bool×Unit)×Unit):=bindD (C_impl_Project D a1 (Prod.fst (Prod.snd a0))) fun b↦br (Prod.fst (Prod.snd (Prod.snd a0))) (bindD (C_slices_Contains_impl_Value_impl_Value D (Prod.fst (Prod.fst b)) (0,0,ByteArray.empty,())) fun b_1↦br (!Prod.fst (Prod.fst b_1)) (bindD (C_impl_Project D a2 (Prod.fst (Prod.snd a0))) fun b_2↦bindD (C_slices_Equal_impl_Value_impl_Value D (Prod.fst (Prod.fst b)) (Prod.fst (Prod.fst b_2))) fun b↦some ((Prod.fst (Prod.fst b),()),())) (some ((false,()),()))) (some ((false,()),()))
def F_impl_clash_1 (D:DX)(n:Nat) (a0:ByteArray×List Int×Bool×Unit) (a1:tVals) (a2:tVals):Option ((Bool×Unit)×Unit):=impl_clash_1_e D n a0 a1 a2
theorem E_impl_clash_1 (D:DX)(n:Nat) (a0:ByteArray×List Int×Bool×Unit) (a1:tVals) (a2:tVals):rfC funcTab D n 168 (a0,(a1,(a2,())))=F_impl_clash_1 D n a0 a1 a2:=by kernel_rfl

def slices_Contains_impl_Value_impl_Value_e (D:DX)(n:Nat) (a0:tVals) (a1:Int×Int×ByteArray×Unit):Option ((Bool×Unit)×Unit):=bindD (C_slices_Index_impl_Value_impl_Value D a0 a1) fun b↦some ((decide (Prod.fst (Prod.fst b)≥0),()),())
def F_slices_Contains_impl_Value_impl_Value (D:DX)(n:Nat) (a0:tVals) (a1:Int×Int×ByteArray×Unit):Option ((Bool×Unit)×Unit):=slices_Contains_impl_Value_impl_Value_e D n a0 a1
theorem E_slices_Contains_impl_Value_impl_Value (D:DX)(n:Nat) (a0:tVals) (a1:Int×Int×ByteArray×Unit):rfC funcTab D n 169 (a0,(a1,()))=F_slices_Contains_impl_Value_impl_Value D n a0 a1:=by kernel_rfl

def slices_Equal_impl_Value_impl_Value_b0 (D:DX)(n:Nat) (go:tVals→tVals→Int→Int→Option ((Bool×Unit)×Unit)) (K0:Bool→Option ((Bool×Unit)×Unit)) (K1:Option ((Bool×Unit)×Unit)) (x0:tVals) (x1:tVals) (x2:Int) (x3:Int):Option ((Bool×Unit)×Unit):=br (decide (x3<x2)) (br (decide (0≤x3)&&decide (x3<(↑(List.length x0):Int))) (br (decide (0≤x3)&&decide (x3<(↑(List.length x1):Int))) (br (!eqDen (Ty.pair (Ty.int IntKind.i64) (Ty.pair (Ty.int IntKind.i64) (Ty.pair Ty.str Ty.unit))) (List.getD x0 (Int.toNat x3) (0,0,ByteArray.empty,())) (List.getD x1 (Int.toNat x3) (0,0,ByteArray.empty,()))) (K0 false) (go x0 x1 x2 (IntKind.wrap IntKind.i64 (x3+1)))) none) none) K1
def slices_Equal_impl_Value_impl_Value_L0 (D:DX)(n:Nat) (K0:Bool→Option ((Bool×Unit)×Unit)) (K1:Option ((Bool×Unit)×Unit)):Nat→(tVals)→(tVals)→(Int)→(Int)→Option ((Bool×Unit)×Unit) | 0=>(fun x0 x1 x2 x3=>none) | m+1=>(fun x0 x1 x2 x3=>slices_Equal_impl_Value_impl_Value_b0 D n (slices_Equal_impl_Value_impl_Value_L0 D n K0 K1 m) K0 K1 x0 x1 x2 x3)
def slices_Equal_impl_Value_impl_Value_x0_0 (D:DX)(n:Nat) (v0_0:Bool):Option ((Bool×Unit)×Unit):=some ((v0_0,()),())
def slices_Equal_impl_Value_impl_Value_x0_1 (D:DX)(n:Nat):Option ((Bool×Unit)×Unit):=some ((true,()),())
def slices_Equal_impl_Value_impl_Value_LP0 (D:DX)(n:Nat):(tVals)→(tVals)→(Int)→(Int)→Option ((Bool×Unit)×Unit):=(fun x0 x1 x2 x3=>slices_Equal_impl_Value_impl_Value_L0 D n (fun v0_0=>slices_Equal_impl_Value_impl_Value_x0_0 D n v0_0) (slices_Equal_impl_Value_impl_Value_x0_1 D n) n x0 x1 x2 x3)
def slices_Equal_impl_Value_impl_Value_e (D:DX)(n:Nat) (lp0:tVals→tVals→Int→Int→Option ((Bool×Unit)×Unit)) (a0:tVals) (a1:tVals):Option ((Bool×Unit)×Unit):=br ((↑(List.length a0):Int) != (↑(List.length a1):Int)) (some ((false,()),())) (lp0 a0 a1 (↑(List.length a0):Int) 0)
def F_slices_Equal_impl_Value_impl_Value (D:DX)(n:Nat) (a0:tVals) (a1:tVals):Option ((Bool×Unit)×Unit):=slices_Equal_impl_Value_impl_Value_e D n (slices_Equal_impl_Value_impl_Value_LP0 D n) a0 a1
def slices_Equal_impl_Value_impl_Value_Q0 (x0:tVals) (x1:tVals) (x2:Int) (x3:Int):St:=stq 26 [(0,AV.val (Ty.sl yV) x0),(1,AV.val (Ty.sl yV) x1),(12,avI x2),(13,avI x3)] [] 
def slices_Equal_impl_Value_impl_Value_Q0_0 (v0_0:Bool):St:=stq 26 [(4,AV.val Ty.bool v0_0)] [] 
def slices_Equal_impl_Value_impl_Value_Q0_1:St:=stq 26 [] [] 
theorem slices_Equal_impl_Value_impl_Value_SB0 (D:DX)(n:Nat) (m:Nat) (K:Ex→St→Option (Out ctx 170)) (x0:tVals) (x1:tVals) (x2:Int) (x3:Int) :
  LQ funcTab D n 170 [.r,.r,.l,.r,.l] (m+1) (slices_Equal_impl_Value_impl_Value_Q0 x0 x1 x2 x3) K=slices_Equal_impl_Value_impl_Value_b0 D n (fun x0 x1 x2 x3=>LQ funcTab D n 170 [.r,.r,.l,.r,.l] m (slices_Equal_impl_Value_impl_Value_Q0 x0 x1 x2 x3) K) (fun v0_0=>K (Ex.ret) (slices_Equal_impl_Value_impl_Value_Q0_0 v0_0)) (K (Ex.exit 0) (slices_Equal_impl_Value_impl_Value_Q0_1)) x0 x1 x2 x3:=by kernel_rfl
theorem slices_Equal_impl_Value_impl_Value_EL0 (D:DX)(n:Nat) (K:Ex→St→Option (Out ctx 170)):∀ (m:Nat) (x0:tVals) (x1:tVals) (x2:Int) (x3:Int),LQ funcTab D n 170 [.r,.r,.l,.r,.l] m (slices_Equal_impl_Value_impl_Value_Q0 x0 x1 x2 x3) K=slices_Equal_impl_Value_impl_Value_L0 D n (fun v0_0=>K (Ex.ret) (slices_Equal_impl_Value_impl_Value_Q0_0 v0_0)) (K (Ex.exit 0) (slices_Equal_impl_Value_impl_Value_Q0_1)) m x0 x1 x2 x3
  | 0,x0,x1,x2,x3=>LQ_zero ..
  | m+1,x0,x1,x2,x3=>by
    have ih:(fun x0 x1 x2 x3=>LQ funcTab D n 170 [.r,.r,.l,.r,.l] m (slices_Equal_impl_Value_impl_Value_Q0 x0 x1 x2 x3) K)=slices_Equal_impl_Value_impl_Value_L0 D n (fun v0_0=>K (Ex.ret) (slices_Equal_impl_Value_impl_Value_Q0_0 v0_0)) (K (Ex.exit 0) (slices_Equal_impl_Value_impl_Value_Q0_1)) m:=by funext x0 x1 x2 x3;exact slices_Equal_impl_Value_impl_Value_EL0 D n K m x0 x1 x2 x3
    rw[slices_Equal_impl_Value_impl_Value_SB0]
    rw[ih];rfl
theorem slices_Equal_impl_Value_impl_Value_X0_0 (D:DX)(n:Nat) (v0_0:Bool) :
  (CQ funcTab D n 170 [] [.r,.r,.l,.r,.l] (lastK funcTab 170)) (Ex.ret) (slices_Equal_impl_Value_impl_Value_Q0_0 v0_0)=slices_Equal_impl_Value_impl_Value_x0_0 D n v0_0:=by kernel_rfl
theorem slices_Equal_impl_Value_impl_Value_X0_1 (D:DX)(n:Nat) :
  (CQ funcTab D n 170 [] [.r,.r,.l,.r,.l] (lastK funcTab 170)) (Ex.exit 0) (slices_Equal_impl_Value_impl_Value_Q0_1)=slices_Equal_impl_Value_impl_Value_x0_1 D n:=by kernel_rfl
theorem slices_Equal_impl_Value_impl_Value_ELP0 (D:DX)(n:Nat) (x0:tVals) (x1:tVals) (x2:Int) (x3:Int) :
  LQ funcTab D n 170 [.r,.r,.l,.r,.l] n (slices_Equal_impl_Value_impl_Value_Q0 x0 x1 x2 x3) (CQ funcTab D n 170 [] [.r,.r,.l,.r,.l] (lastK funcTab 170))=slices_Equal_impl_Value_impl_Value_LP0 D n x0 x1 x2 x3:=by
  rw[slices_Equal_impl_Value_impl_Value_EL0]
  simp only[slices_Equal_impl_Value_impl_Value_X0_0,slices_Equal_impl_Value_impl_Value_X0_1]
  rfl
theorem E_slices_Equal_impl_Value_impl_Value (D:DX)(n:Nat) (a0:tVals) (a1:tVals):rfC funcTab D n 170 (a0,(a1,()))=F_slices_Equal_impl_Value_impl_Value D n a0 a1:=by
  have h:rfC funcTab D n 170 (a0,(a1,()))=slices_Equal_impl_Value_impl_Value_e D n (fun x0 x1 x2 x3=>LQ funcTab D n 170 [.r,.r,.l,.r,.l] n (slices_Equal_impl_Value_impl_Value_Q0 x0 x1 x2 x3) (CQ funcTab D n 170 [] [.r,.r,.l,.r,.l] (lastK funcTab 170))) a0 a1:=by kernel_rfl
  rw[h]
  simp only[slices_Equal_impl_Value_impl_Value_ELP0]
  rfl

def impl_keyAt_1_e (D:DX)(n:Nat) (a0:tVals) (a1:(tSch)×tRows×Unit) (a2:tVals):Option ((Bool×Unit)×Unit):=bindD (C_impl_KeyOfRow D (Prod.fst a1) a0) fun b↦bindD (C_slices_Equal_impl_Value_impl_Value D (Prod.fst (Prod.fst b)) a2) fun b↦some ((Prod.fst (Prod.fst b),()),())
def F_impl_keyAt_1 (D:DX)(n:Nat) (a0:tVals) (a1:(tSch)×tRows×Unit) (a2:tVals):Option ((Bool×Unit)×Unit):=impl_keyAt_1_e D n a0 a1 a2
theorem E_impl_keyAt_1 (D:DX)(n:Nat) (a0:tVals) (a1:(tSch)×
  tRows×Unit) (a2:tVals):rfC funcTab D n 173 (a0,(a1,(a2,())))=F_impl_keyAt_1 D n a0 a1 a2:=by kernel_rfl

def laws_heldColS_b0 (D:DX)(n:Nat) (go:tCols→Int→Int→Option ((Int×Unit)×Unit)) (K0:Int→Int→Option ((Int×Unit)×Unit)) (K1:Int→Option ((Int×Unit)×Unit)) (x0:tCols) (x1:Int) (x2:Int):Option ((Int×Unit)×Unit):=br (decide (x2<(↑(List.length x0):Int))) (br (decide (0≤x2)&&decide (x2<(↑(List.length x0):Int))) (bindD (C_laws_markText D x1) fun b↦br (!List.beq (ByteArray.toList (Prod.fst (List.getD x0 (Int.toNat x2) (ByteArray.empty,0,false,())))) (ByteArray.toList (Prod.fst (Prod.fst b)))) (K0 x1 (-1)) (br (decide (0≤x2)&&decide (x2<(↑(List.length x0):Int))) (br (Prod.fst (Prod.snd (List.getD x0 (Int.toNat x2) (ByteArray.empty,0,false,()))) != IntKind.wrap IntKind.i64 (x1+1)) (K0 (IntKind.wrap IntKind.i64 (x1+1)) (-1)) (br (decide (0≤x2)&&decide (x2<(↑(List.length x0):Int))) (br (!decide (Prod.fst (Prod.snd (Prod.snd (List.getD x0 (Int.toNat x2) (ByteArray.empty,0,false,()))))=decide (Int.tmod (IntKind.wrap IntKind.i64 (IntKind.wrap IntKind.i64 (x1+1)+1)) 3=0))) (K0 (IntKind.wrap IntKind.i64 (IntKind.wrap IntKind.i64 (x1+1)+1)) (-1)) (go x0 (IntKind.wrap IntKind.i64 (IntKind.wrap IntKind.i64 (IntKind.wrap IntKind.i64 (x1+1)+1)+1)) (IntKind.wrap IntKind.i64 (x2+1)))) none)) none)) none) (K1 x1)
def laws_heldColS_L0 (D:DX)(n:Nat) (K0:Int→Int→Option ((Int×Unit)×Unit)) (K1:Int→Option ((Int×Unit)×Unit)):Nat→(tCols)→(Int)→(Int)→Option ((Int×Unit)×Unit) | 0=>(fun x0 x1 x2=>none) | m+1=>(fun x0 x1 x2=>laws_heldColS_b0 D n (laws_heldColS_L0 D n K0 K1 m) K0 K1 x0 x1 x2)
def laws_heldColS_x0_0 (D:DX)(n:Nat) (v0_0:Int) (v0_1:Int):Option ((Int×Unit)×Unit):=some ((v0_1,()),())
def laws_heldColS_x0_1 (D:DX)(n:Nat) (v1_0:Int):Option ((Int×Unit)×Unit):=some ((v1_0,()),())
def laws_heldColS_LP0 (D:DX)(n:Nat):(tCols)→(Int)→(Int)→Option ((Int×Unit)×Unit):=(fun x0 x1 x2=>laws_heldColS_L0 D n (fun v0_0 v0_1=>laws_heldColS_x0_0 D n v0_0 v0_1) (fun v1_0=>laws_heldColS_x0_1 D n v1_0) n x0 x1 x2)
def laws_heldColS_e (D:DX)(n:Nat) (lp0:tCols→Int→Int→Option ((Int×Unit)×Unit)) (a0:tCols) (a1:Int):Option ((Int×Unit)×Unit):=lp0 a0 a1 0
def F_laws_heldColS (D:DX)(n:Nat) (a0:tCols) (a1:Int):Option ((Int×Unit)×Unit):=laws_heldColS_e D n (laws_heldColS_LP0 D n) a0 a1
def laws_heldColS_Q0 (x0:tCols) (x1:Int) (x2:Int):St:=stq 43 [(0,AV.val (Ty.sl yC) x0),(1,avI x1),(5,avI x2)] [] 
def laws_heldColS_Q0_0 (v0_0:Int) (v0_1:Int):St:=stq 43 [(1,avI v0_0),(4,avI v0_1)] [] 
def laws_heldColS_Q0_1 (v1_0:Int):St:=stq 43 [(1,avI v1_0)] [] 
theorem laws_heldColS_SB0 (D:DX)(n:Nat) (m:Nat) (K:Ex→St→Option (Out ctx 178)) (x0:tCols) (x1:Int) (x2:Int) :
  LQ funcTab D n 178 [.r,.l,.r,.l] (m+1) (laws_heldColS_Q0 x0 x1 x2) K=laws_heldColS_b0 D n (fun x0 x1 x2=>LQ funcTab D n 178 [.r,.l,.r,.l] m (laws_heldColS_Q0 x0 x1 x2) K) (fun v0_0 v0_1=>K (Ex.ret) (laws_heldColS_Q0_0 v0_0 v0_1)) (fun v1_0=>K (Ex.exit 0) (laws_heldColS_Q0_1 v1_0)) x0 x1 x2:=by kernel_rfl
theorem laws_heldColS_EL0 (D:DX)(n:Nat) (K:Ex→St→Option (Out ctx 178)):∀ (m:Nat) (x0:tCols) (x1:Int) (x2:Int),LQ funcTab D n 178 [.r,.l,.r,.l] m (laws_heldColS_Q0 x0 x1 x2) K=laws_heldColS_L0 D n (fun v0_0 v0_1=>K (Ex.ret) (laws_heldColS_Q0_0 v0_0 v0_1)) (fun v1_0=>K (Ex.exit 0) (laws_heldColS_Q0_1 v1_0)) m x0 x1 x2
  | 0,x0,x1,x2=>LQ_zero ..
  | m+1,x0,x1,x2=>by
    have ih:(fun x0 x1 x2=>LQ funcTab D n 178 [.r,.l,.r,.l] m (laws_heldColS_Q0 x0 x1 x2) K)=laws_heldColS_L0 D n (fun v0_0 v0_1=>K (Ex.ret) (laws_heldColS_Q0_0 v0_0 v0_1)) (fun v1_0=>K (Ex.exit 0) (laws_heldColS_Q0_1 v1_0)) m:=by funext x0 x1 x2;exact laws_heldColS_EL0 D n K m x0 x1 x2
    rw[laws_heldColS_SB0]
    rw[ih];rfl
theorem laws_heldColS_X0_0 (D:DX)(n:Nat) (v0_0:Int) (v0_1:Int) :
  (CQ funcTab D n 178 [] [.r,.l,.r,.l] (lastK funcTab 178)) (Ex.ret) (laws_heldColS_Q0_0 v0_0 v0_1)=laws_heldColS_x0_0 D n v0_0 v0_1:=by kernel_rfl
theorem laws_heldColS_X0_1 (D:DX)(n:Nat) (v1_0:Int) :
  (CQ funcTab D n 178 [] [.r,.l,.r,.l] (lastK funcTab 178)) (Ex.exit 0) (laws_heldColS_Q0_1 v1_0)=laws_heldColS_x0_1 D n v1_0:=by kernel_rfl
theorem laws_heldColS_ELP0 (D:DX)(n:Nat) (x0:tCols) (x1:Int) (x2:Int) :
  LQ funcTab D n 178 [.r,.l,.r,.l] n (laws_heldColS_Q0 x0 x1 x2) (CQ funcTab D n 178 [] [.r,.l,.r,.l] (lastK funcTab 178))=laws_heldColS_LP0 D n x0 x1 x2:=by
  rw[laws_heldColS_EL0]
  simp only[laws_heldColS_X0_0,laws_heldColS_X0_1]
  rfl
theorem E_laws_heldColS (D:DX)(n:Nat) (a0:tCols) (a1:Int):rfC funcTab D n 178 (a0,(a1,()))=F_laws_heldColS D n a0 a1:=by
  have h:rfC funcTab D n 178 (a0,(a1,()))=laws_heldColS_e D n (fun x0 x1 x2=>LQ funcTab D n 178 [.r,.l,.r,.l] n (laws_heldColS_Q0 x0 x1 x2) (CQ funcTab D n 178 [] [.r,.l,.r,.l] (lastK funcTab 178))) a0 a1:=by kernel_rfl
  rw[h]
  simp only[laws_heldColS_ELP0]
  rfl

def laws_heldIntS_b0 (D:DX)(n:Nat) (go:List Int→Int→Int→Option ((Int×Unit)×Unit)) (K0:Int→Int→Option ((Int×Unit)×Unit)) (K1:Int→Option ((Int×Unit)×Unit)) (x0:List Int) (x1:Int) (x2:Int):Option ((Int×Unit)×Unit):=br (decide (x2<(↑(List.length x0):Int))) (br (decide (0≤x2)&&decide (x2<(↑(List.length x0):Int))) (br (List.getD x0 (Int.toNat x2) 0 != x1) (K0 x1 (-1)) (go x0 (IntKind.wrap IntKind.i64 (x1+1)) (IntKind.wrap IntKind.i64 (x2+1)))) none) (K1 x1)
def laws_heldIntS_L0 (D:DX)(n:Nat) (K0:Int→Int→Option ((Int×Unit)×Unit)) (K1:Int→Option ((Int×Unit)×Unit)):Nat→(List Int)→(Int)→(Int)→Option ((Int×Unit)×Unit) | 0=>(fun x0 x1 x2=>none) | m+1=>(fun x0 x1 x2=>laws_heldIntS_b0 D n (laws_heldIntS_L0 D n K0 K1 m) K0 K1 x0 x1 x2)
def laws_heldIntS_x0_0 (D:DX)(n:Nat) (v0_0:Int) (v0_1:Int):Option ((Int×Unit)×Unit):=some ((v0_1,()),())
def laws_heldIntS_x0_1 (D:DX)(n:Nat) (v1_0:Int):Option ((Int×Unit)×Unit):=some ((v1_0,()),())
def laws_heldIntS_LP0 (D:DX)(n:Nat):(List Int)→(Int)→(Int)→Option ((Int×Unit)×Unit):=(fun x0 x1 x2=>laws_heldIntS_L0 D n (fun v0_0 v0_1=>laws_heldIntS_x0_0 D n v0_0 v0_1) (fun v1_0=>laws_heldIntS_x0_1 D n v1_0) n x0 x1 x2)
def laws_heldIntS_e (D:DX)(n:Nat) (lp0:List Int→Int→Int→Option ((Int×Unit)×Unit)) (a0:List Int) (a1:Int):Option ((Int×Unit)×Unit):=lp0 a0 a1 0
def F_laws_heldIntS (D:DX)(n:Nat) (a0:List Int) (a1:Int):Option ((Int×Unit)×Unit):=laws_heldIntS_e D n (laws_heldIntS_LP0 D n) a0 a1
def laws_heldIntS_Q0 (x0:List Int) (x1:Int) (x2:Int):St:=stq 21 [(0,AV.val (Ty.sl yI) x0),(1,avI x1),(5,avI x2)] [] 
def laws_heldIntS_Q0_0 (v0_0:Int) (v0_1:Int):St:=stq 21 [(1,avI v0_0),(4,avI v0_1)] [] 
def laws_heldIntS_Q0_1 (v1_0:Int):St:=stq 21 [(1,avI v1_0)] [] 
theorem laws_heldIntS_SB0 (D:DX)(n:Nat) (m:Nat) (K:Ex→St→Option (Out ctx 179)) (x0:List Int) (x1:Int) (x2:Int) :
  LQ funcTab D n 179 [.r,.l,.r,.l] (m+1) (laws_heldIntS_Q0 x0 x1 x2) K=laws_heldIntS_b0 D n (fun x0 x1 x2=>LQ funcTab D n 179 [.r,.l,.r,.l] m (laws_heldIntS_Q0 x0 x1 x2) K) (fun v0_0 v0_1=>K (Ex.ret) (laws_heldIntS_Q0_0 v0_0 v0_1)) (fun v1_0=>K (Ex.exit 0) (laws_heldIntS_Q0_1 v1_0)) x0 x1 x2:=by kernel_rfl
theorem laws_heldIntS_EL0 (D:DX)(n:Nat) (K:Ex→St→Option (Out ctx 179)):∀ (m:Nat) (x0:List Int) (x1:Int) (x2:Int),LQ funcTab D n 179 [.r,.l,.r,.l] m (laws_heldIntS_Q0 x0 x1 x2) K=laws_heldIntS_L0 D n (fun v0_0 v0_1=>K (Ex.ret) (laws_heldIntS_Q0_0 v0_0 v0_1)) (fun v1_0=>K (Ex.exit 0) (laws_heldIntS_Q0_1 v1_0)) m x0 x1 x2
  | 0,x0,x1,x2=>LQ_zero ..
  | m+1,x0,x1,x2=>by
    have ih:(fun x0 x1 x2=>LQ funcTab D n 179 [.r,.l,.r,.l] m (laws_heldIntS_Q0 x0 x1 x2) K)=laws_heldIntS_L0 D n (fun v0_0 v0_1=>K (Ex.ret) (laws_heldIntS_Q0_0 v0_0 v0_1)) (fun v1_0=>K (Ex.exit 0) (laws_heldIntS_Q0_1 v1_0)) m:=by funext x0 x1 x2;exact laws_heldIntS_EL0 D n K m x0 x1 x2
    rw[laws_heldIntS_SB0]
    rw[ih];rfl
theorem laws_heldIntS_X0_0 (D:DX)(n:Nat) (v0_0:Int) (v0_1:Int) :
  (CQ funcTab D n 179 [] [.r,.l,.r,.l] (lastK funcTab 179)) (Ex.ret) (laws_heldIntS_Q0_0 v0_0 v0_1)=laws_heldIntS_x0_0 D n v0_0 v0_1:=by kernel_rfl
theorem laws_heldIntS_X0_1 (D:DX)(n:Nat) (v1_0:Int) :
  (CQ funcTab D n 179 [] [.r,.l,.r,.l] (lastK funcTab 179)) (Ex.exit 0) (laws_heldIntS_Q0_1 v1_0)=laws_heldIntS_x0_1 D n v1_0:=by kernel_rfl
theorem laws_heldIntS_ELP0 (D:DX)(n:Nat) (x0:List Int) (x1:Int) (x2:Int) :
  LQ funcTab D n 179 [.r,.l,.r,.l] n (laws_heldIntS_Q0 x0 x1 x2) (CQ funcTab D n 179 [] [.r,.l,.r,.l] (lastK funcTab 179))=laws_heldIntS_LP0 D n x0 x1 x2:=by
  rw[laws_heldIntS_EL0]
  simp only[laws_heldIntS_X0_0,laws_heldIntS_X0_1]
  rfl
theorem E_laws_heldIntS (D:DX)(n:Nat) (a0:List Int) (a1:Int):rfC funcTab D n 179 (a0,(a1,()))=F_laws_heldIntS D n a0 a1:=by
  have h:rfC funcTab D n 179 (a0,(a1,()))=laws_heldIntS_e D n (fun x0 x1 x2=>LQ funcTab D n 179 [.r,.l,.r,.l] n (laws_heldIntS_Q0 x0 x1 x2) (CQ funcTab D n 179 [] [.r,.l,.r,.l] (lastK funcTab 179))) a0 a1:=by kernel_rfl
  rw[h]
  simp only[laws_heldIntS_ELP0]
  rfl

def laws_heldIndexS_b0 (D:DX)(n:Nat) (go:tIxs→Int→Int→Option ((Int×Unit)×Unit)) (K0:Int→Int→Option ((Int×Unit)×Unit)) (K1:Int→Option ((Int×Unit)×Unit)) (x0:tIxs) (x1:Int) (x2:Int):Option ((Int×Unit)×Unit):=br (decide (x2<(↑(List.length x0):Int))) (br (decide (0≤x2)&&decide (x2<(↑(List.length x0):Int))) (bindD (C_laws_markText D x1) fun b↦br (!List.beq (ByteArray.toList (Prod.fst (List.getD x0 (Int.toNat x2) (ByteArray.empty,[],false,())))) (ByteArray.toList (Prod.fst (Prod.fst b)))) (K0 x1 (-1)) (br (decide (0≤x2)&&decide (x2<(↑(List.length x0):Int))) (bindD (C_laws_heldIntS D (Prod.fst (Prod.snd (List.getD x0 (Int.toNat x2) (ByteArray.empty,[],false,())))) (IntKind.wrap IntKind.i64 (x1+1))) fun b↦br (decide (Prod.fst (Prod.fst b)<0)) (K0 (Prod.fst (Prod.fst b)) (-1)) (br (decide (0≤x2)&&decide (x2<(↑(List.length x0):Int))) (br (!decide (Prod.fst (Prod.snd (Prod.snd (List.getD x0 (Int.toNat x2) (ByteArray.empty,[],false,()))))=decide (Int.tmod (Prod.fst (Prod.fst b)) 3=0))) (K0 (Prod.fst (Prod.fst b)) (-1)) (go x0 (IntKind.wrap IntKind.i64 (Prod.fst (Prod.fst b)+1)) (IntKind.wrap IntKind.i64 (x2+1)))) none)) none)) none) (K1 x1)
def laws_heldIndexS_L0 (D:DX)(n:Nat) (K0:Int→Int→Option ((Int×Unit)×Unit)) (K1:Int→Option ((Int×Unit)×Unit)):Nat→(tIxs)→(Int)→(Int)→Option ((Int×Unit)×Unit) | 0=>(fun x0 x1 x2=>none) | m+1=>(fun x0 x1 x2=>laws_heldIndexS_b0 D n (laws_heldIndexS_L0 D n K0 K1 m) K0 K1 x0 x1 x2)
def laws_heldIndexS_x0_0 (D:DX)(n:Nat) (v0_0:Int) (v0_1:Int):Option ((Int×Unit)×Unit):=some ((v0_1,()),())
def laws_heldIndexS_x0_1 (D:DX)(n:Nat) (v1_0:Int):Option ((Int×Unit)×Unit):=some ((v1_0,()),())
def laws_heldIndexS_LP0 (D:DX)(n:Nat):(tIxs)→(Int)→(Int)→Option ((Int×Unit)×Unit):=(fun x0 x1 x2=>laws_heldIndexS_L0 D n (fun v0_0 v0_1=>laws_heldIndexS_x0_0 D n v0_0 v0_1) (fun v1_0=>laws_heldIndexS_x0_1 D n v1_0) n x0 x1 x2)
def laws_heldIndexS_e (D:DX)(n:Nat) (lp0:tIxs→Int→Int→Option ((Int×Unit)×Unit)) (a0:tIxs) (a1:Int):Option ((Int×Unit)×Unit):=lp0 a0 a1 0
def F_laws_heldIndexS (D:DX)(n:Nat) (a0:tIxs) (a1:Int):Option ((Int×Unit)×Unit):=laws_heldIndexS_e D n (laws_heldIndexS_LP0 D n) a0 a1
def laws_heldIndexS_Q0 (x0:tIxs) (x1:Int) (x2:Int):St:=stq 43 [(0,AV.val (Ty.sl yX) x0),(1,avI x1),(5,avI x2)] [] 
def laws_heldIndexS_Q0_0 (v0_0:Int) (v0_1:Int):St:=stq 43 [(1,avI v0_0),(4,avI v0_1)] [] 
def laws_heldIndexS_Q0_1 (v1_0:Int):St:=stq 43 [(1,avI v1_0)] [] 
theorem laws_heldIndexS_SB0 (D:DX)(n:Nat) (m:Nat) (K:Ex→St→Option (Out ctx 180)) (x0:tIxs) (x1:Int) (x2:Int) :
  LQ funcTab D n 180 [.r,.l,.r,.l] (m+1) (laws_heldIndexS_Q0 x0 x1 x2) K=laws_heldIndexS_b0 D n (fun x0 x1 x2=>LQ funcTab D n 180 [.r,.l,.r,.l] m (laws_heldIndexS_Q0 x0 x1 x2) K) (fun v0_0 v0_1=>K (Ex.ret) (laws_heldIndexS_Q0_0 v0_0 v0_1)) (fun v1_0=>K (Ex.exit 0) (laws_heldIndexS_Q0_1 v1_0)) x0 x1 x2:=by kernel_rfl
theorem laws_heldIndexS_EL0 (D:DX)(n:Nat) (K:Ex→St→Option (Out ctx 180)):∀ (m:Nat) (x0:tIxs) (x1:Int) (x2:Int),LQ funcTab D n 180 [.r,.l,.r,.l] m (laws_heldIndexS_Q0 x0 x1 x2) K=laws_heldIndexS_L0 D n (fun v0_0 v0_1=>K (Ex.ret) (laws_heldIndexS_Q0_0 v0_0 v0_1)) (fun v1_0=>K (Ex.exit 0) (laws_heldIndexS_Q0_1 v1_0)) m x0 x1 x2
  | 0,x0,x1,x2=>LQ_zero ..
  | m+1,x0,x1,x2=>by
    have ih:(fun x0 x1 x2=>LQ funcTab D n 180 [.r,.l,.r,.l] m (laws_heldIndexS_Q0 x0 x1 x2) K)=laws_heldIndexS_L0 D n (fun v0_0 v0_1=>K (Ex.ret) (laws_heldIndexS_Q0_0 v0_0 v0_1)) (fun v1_0=>K (Ex.exit 0) (laws_heldIndexS_Q0_1 v1_0)) m:=by funext x0 x1 x2;exact laws_heldIndexS_EL0 D n K m x0 x1 x2
    rw[laws_heldIndexS_SB0]
    rw[ih];rfl
theorem laws_heldIndexS_X0_0 (D:DX)(n:Nat) (v0_0:Int) (v0_1:Int) :
  (CQ funcTab D n 180 [] [.r,.l,.r,.l] (lastK funcTab 180)) (Ex.ret) (laws_heldIndexS_Q0_0 v0_0 v0_1)=laws_heldIndexS_x0_0 D n v0_0 v0_1:=by kernel_rfl
theorem laws_heldIndexS_X0_1 (D:DX)(n:Nat) (v1_0:Int) :
  (CQ funcTab D n 180 [] [.r,.l,.r,.l] (lastK funcTab 180)) (Ex.exit 0) (laws_heldIndexS_Q0_1 v1_0)=laws_heldIndexS_x0_1 D n v1_0:=by kernel_rfl
theorem laws_heldIndexS_ELP0 (D:DX)(n:Nat) (x0:tIxs) (x1:Int) (x2:Int) :
  LQ funcTab D n 180 [.r,.l,.r,.l] n (laws_heldIndexS_Q0 x0 x1 x2) (CQ funcTab D n 180 [] [.r,.l,.r,.l] (lastK funcTab 180))=laws_heldIndexS_LP0 D n x0 x1 x2:=by
  rw[laws_heldIndexS_EL0]
  simp only[laws_heldIndexS_X0_0,laws_heldIndexS_X0_1]
  rfl
theorem E_laws_heldIndexS (D:DX)(n:Nat) (a0:tIxs) (a1:Int):rfC funcTab D n 180 (a0,(a1,()))=F_laws_heldIndexS D n a0 a1:=by
  have h:rfC funcTab D n 180 (a0,(a1,()))=laws_heldIndexS_e D n (fun x0 x1 x2=>LQ funcTab D n 180 [.r,.l,.r,.l] n (laws_heldIndexS_Q0 x0 x1 x2) (CQ funcTab D n 180 [] [.r,.l,.r,.l] (lastK funcTab 180))) a0 a1:=by kernel_rfl
  rw[h]
  simp only[laws_heldIndexS_ELP0]
  rfl

def slices_Index_int_int_b0 (D:DX)(n:Nat) (go:List Int→Int→Int→Int→Option ((Int×Unit)×Unit)) (K0:Int→Option ((Int×Unit)×Unit)) (K1:Option ((Int×Unit)×Unit)) (x0:List Int) (x1:Int) (x2:Int) (x3:Int):Option ((Int×Unit)×Unit):=br (decide (x3<x2)) (br (decide (0≤x3)&&decide (x3<(↑(List.length x0):Int))) (br (decide (x1=List.getD x0 (Int.toNat x3) 0)) (K0 x3) (go x0 x1 x2 (IntKind.wrap IntKind.i64 (x3+1)))) none) K1
def slices_Index_int_int_L0 (D:DX)(n:Nat) (K0:Int→Option ((Int×Unit)×Unit)) (K1:Option ((Int×Unit)×Unit)):Nat→(List Int)→(Int)→(Int)→(Int)→Option ((Int×Unit)×Unit) | 0=>(fun x0 x1 x2 x3=>none) | m+1=>(fun x0 x1 x2 x3=>slices_Index_int_int_b0 D n (slices_Index_int_int_L0 D n K0 K1 m) K0 K1 x0 x1 x2 x3)
def slices_Index_int_int_x0_0 (D:DX)(n:Nat) (v0_0:Int):Option ((Int×Unit)×Unit):=some ((v0_0,()),())
def slices_Index_int_int_x0_1 (D:DX)(n:Nat):Option ((Int×Unit)×Unit):=some ((-1,()),())
def slices_Index_int_int_LP0 (D:DX)(n:Nat):(List Int)→(Int)→(Int)→(Int)→Option ((Int×Unit)×Unit):=(fun x0 x1 x2 x3=>slices_Index_int_int_L0 D n (fun v0_0=>slices_Index_int_int_x0_0 D n v0_0) (slices_Index_int_int_x0_1 D n) n x0 x1 x2 x3)
def slices_Index_int_int_e (D:DX)(n:Nat) (lp0:List Int→Int→Int→Int→Option ((Int×Unit)×Unit)) (a0:List Int) (a1:Int):Option ((Int×Unit)×Unit):=lp0 a0 a1 (↑(List.length a0):Int) 0
def F_slices_Index_int_int (D:DX)(n:Nat) (a0:List Int) (a1:Int):Option ((Int×Unit)×Unit):=slices_Index_int_int_e D n (slices_Index_int_int_LP0 D n) a0 a1
def slices_Index_int_int_Q0 (x0:List Int) (x1:Int) (x2:Int) (x3:Int):St:=stq 19 [(0,AV.val (Ty.sl yI) x0),(1,avI x1),(7,avI x2),(8,avI x3)] [] 
def slices_Index_int_int_Q0_0 (v0_0:Int):St:=stq 19 [(4,avI v0_0)] [] 
def slices_Index_int_int_Q0_1:St:=stq 19 [] [] 
theorem slices_Index_int_int_SB0 (D:DX)(n:Nat) (m:Nat) (K:Ex→St→Option (Out ctx 186)) (x0:List Int) (x1:Int) (x2:Int) (x3:Int) :
  LQ funcTab D n 186 [.r,.l,.r,.l] (m+1) (slices_Index_int_int_Q0 x0 x1 x2 x3) K=slices_Index_int_int_b0 D n (fun x0 x1 x2 x3=>LQ funcTab D n 186 [.r,.l,.r,.l] m (slices_Index_int_int_Q0 x0 x1 x2 x3) K) (fun v0_0=>K (Ex.ret) (slices_Index_int_int_Q0_0 v0_0)) (K (Ex.exit 0) (slices_Index_int_int_Q0_1)) x0 x1 x2 x3:=by kernel_rfl
theorem slices_Index_int_int_EL0 (D:DX)(n:Nat) (K:Ex→St→Option (Out ctx 186)):∀ (m:Nat) (x0:List Int) (x1:Int) (x2:Int) (x3:Int),LQ funcTab D n 186 [.r,.l,.r,.l] m (slices_Index_int_int_Q0 x0 x1 x2 x3) K=slices_Index_int_int_L0 D n (fun v0_0=>K (Ex.ret) (slices_Index_int_int_Q0_0 v0_0)) (K (Ex.exit 0) (slices_Index_int_int_Q0_1)) m x0 x1 x2 x3
  | 0,x0,x1,x2,x3=>LQ_zero ..
  | m+1,x0,x1,x2,x3=>by
    have ih:(fun x0 x1 x2 x3=>LQ funcTab D n 186 [.r,.l,.r,.l] m (slices_Index_int_int_Q0 x0 x1 x2 x3) K)=slices_Index_int_int_L0 D n (fun v0_0=>K (Ex.ret) (slices_Index_int_int_Q0_0 v0_0)) (K (Ex.exit 0) (slices_Index_int_int_Q0_1)) m:=by funext x0 x1 x2 x3;exact slices_Index_int_int_EL0 D n K m x0 x1 x2 x3
    rw[slices_Index_int_int_SB0]
    rw[ih];rfl
theorem slices_Index_int_int_X0_0 (D:DX)(n:Nat) (v0_0:Int) :
  (CQ funcTab D n 186 [] [.r,.l,.r,.l] (lastK funcTab 186)) (Ex.ret) (slices_Index_int_int_Q0_0 v0_0)=slices_Index_int_int_x0_0 D n v0_0:=by kernel_rfl
theorem slices_Index_int_int_X0_1 (D:DX)(n:Nat) :
  (CQ funcTab D n 186 [] [.r,.l,.r,.l] (lastK funcTab 186)) (Ex.exit 0) (slices_Index_int_int_Q0_1)=slices_Index_int_int_x0_1 D n:=by kernel_rfl
theorem slices_Index_int_int_ELP0 (D:DX)(n:Nat) (x0:List Int) (x1:Int) (x2:Int) (x3:Int) :
  LQ funcTab D n 186 [.r,.l,.r,.l] n (slices_Index_int_int_Q0 x0 x1 x2 x3) (CQ funcTab D n 186 [] [.r,.l,.r,.l] (lastK funcTab 186))=slices_Index_int_int_LP0 D n x0 x1 x2 x3:=by
  rw[slices_Index_int_int_EL0]
  simp only[slices_Index_int_int_X0_0,slices_Index_int_int_X0_1]
  rfl
theorem E_slices_Index_int_int (D:DX)(n:Nat) (a0:List Int) (a1:Int):rfC funcTab D n 186 (a0,(a1,()))=F_slices_Index_int_int D n a0 a1:=by
  have h:rfC funcTab D n 186 (a0,(a1,()))=slices_Index_int_int_e D n (fun x0 x1 x2 x3=>LQ funcTab D n 186 [.r,.l,.r,.l] n (slices_Index_int_int_Q0 x0 x1 x2 x3) (CQ funcTab D n 186 [] [.r,.l,.r,.l] (lastK funcTab 186))) a0 a1:=by kernel_rfl
  rw[h]
  simp only[slices_Index_int_int_ELP0]
  rfl

def strings_Compare_e (D:DX)(n:Nat) (a0:ByteArray) (a1:ByteArray):Option ((Int×Unit)×Unit):=none
def F_strings_Compare (D:DX)(n:Nat) (a0:ByteArray) (a1:ByteArray):Option ((Int×Unit)×Unit):=strings_Compare_e D n a0 a1
theorem E_strings_Compare (D:DX)(n:Nat) (a0:ByteArray) (a1:ByteArray):rfC funcTab D n 187 (a0,(a1,()))=F_strings_Compare D n a0 a1:=by kernel_rfl

def slices_Index_impl_Value_impl_Value_b0 (D:DX)(n:Nat) (go:tVals→Int→Int→Int×Int×ByteArray×Unit→Option ((Int×Unit)×Unit)) (K0:Int→Option ((Int×Unit)×Unit)) (K1:Option ((Int×Unit)×Unit)) (x0:tVals) (x1:Int) (x2:Int) (x3:Int×Int×ByteArray×Unit):Option ((Int×Unit)×Unit):=br (decide (x2<x1)) (br (decide (0≤x2)&&decide (x2<(↑(List.length x0):Int))) (br (eqDen (Ty.pair (Ty.int IntKind.i64) (Ty.pair (Ty.int IntKind.i64) (Ty.pair Ty.str Ty.unit))) x3 (List.getD x0 (Int.toNat x2) (0,0,ByteArray.empty,()))) (K0 x2) (go x0 x1 (IntKind.wrap IntKind.i64 (x2+1)) x3)) none) K1
def slices_Index_impl_Value_impl_Value_L0 (D:DX)(n:Nat) (K0:Int→Option ((Int×Unit)×Unit)) (K1:Option ((Int×Unit)×Unit)):Nat→(tVals)→(Int)→(Int)→tVal→Option ((Int×Unit)×Unit) | 0=>(fun x0 x1 x2 x3=>none) | m+1=>(fun x0 x1 x2 x3=>slices_Index_impl_Value_impl_Value_b0 D n (slices_Index_impl_Value_impl_Value_L0 D n K0 K1 m) K0 K1 x0 x1 x2 x3)
def slices_Index_impl_Value_impl_Value_x0_0 (D:DX)(n:Nat) (v0_0:Int):Option ((Int×Unit)×Unit):=some ((v0_0,()),())
def slices_Index_impl_Value_impl_Value_x0_1 (D:DX)(n:Nat):Option ((Int×Unit)×Unit):=some ((-1,()),())
def slices_Index_impl_Value_impl_Value_LP0 (D:DX)(n:Nat):(tVals)→(Int)→(Int)→tVal→Option ((Int×Unit)×Unit):=(fun x0 x1 x2 x3=>slices_Index_impl_Value_impl_Value_L0 D n (fun v0_0=>slices_Index_impl_Value_impl_Value_x0_0 D n v0_0) (slices_Index_impl_Value_impl_Value_x0_1 D n) n x0 x1 x2 x3)
def slices_Index_impl_Value_impl_Value_e (D:DX)(n:Nat) (lp0:tVals→Int→Int→Int×Int×ByteArray×Unit→Option ((Int×Unit)×Unit)) (a0:tVals) (a1:Int×Int×ByteArray×Unit):Option ((Int×Unit)×Unit):=lp0 a0 (↑(List.length a0):Int) 0 a1
def F_slices_Index_impl_Value_impl_Value (D:DX)(n:Nat) (a0:tVals) (a1:Int×Int×ByteArray×Unit):Option ((Int×Unit)×Unit):=slices_Index_impl_Value_impl_Value_e D n (slices_Index_impl_Value_impl_Value_LP0 D n) a0 a1
def slices_Index_impl_Value_impl_Value_Q0 (x0:tVals) (x1:Int) (x2:Int) (x3:Int×Int×ByteArray×Unit):St:=stq 19 [(0,AV.val (Ty.sl yV) x0),(3,AV.addr 3 []),(7,avI x1),(8,avI x2)] [(3,Root.mk yV Mk.no x3 true)] 
def slices_Index_impl_Value_impl_Value_Q0_0 (v0_0:Int):St:=stq 19 [(4,avI v0_0)] [] 
def slices_Index_impl_Value_impl_Value_Q0_1:St:=stq 19 [] [] 
theorem slices_Index_impl_Value_impl_Value_SB0 (D:DX)(n:Nat) (m:Nat) (K:Ex→St→Option (Out ctx 188)) (x0:tVals) (x1:Int) (x2:Int) (x3:Int×Int×ByteArray×Unit) :
  LQ funcTab D n 188 [.r,.l,.r,.l] (m+1) (slices_Index_impl_Value_impl_Value_Q0 x0 x1 x2 x3) K=slices_Index_impl_Value_impl_Value_b0 D n (fun x0 x1 x2 x3=>LQ funcTab D n 188 [.r,.l,.r,.l] m (slices_Index_impl_Value_impl_Value_Q0 x0 x1 x2 x3) K) (fun v0_0=>K (Ex.ret) (slices_Index_impl_Value_impl_Value_Q0_0 v0_0)) (K (Ex.exit 0) (slices_Index_impl_Value_impl_Value_Q0_1)) x0 x1 x2 x3:=by kernel_rfl
theorem slices_Index_impl_Value_impl_Value_EL0 (D:DX)(n:Nat) (K:Ex→St→Option (Out ctx 188)):∀ (m:Nat) (x0:tVals) (x1:Int) (x2:Int) (x3:Int×Int×ByteArray×Unit),LQ funcTab D n 188 [.r,.l,.r,.l] m (slices_Index_impl_Value_impl_Value_Q0 x0 x1 x2 x3) K=slices_Index_impl_Value_impl_Value_L0 D n (fun v0_0=>K (Ex.ret) (slices_Index_impl_Value_impl_Value_Q0_0 v0_0)) (K (Ex.exit 0) (slices_Index_impl_Value_impl_Value_Q0_1)) m x0 x1 x2 x3
  | 0,x0,x1,x2,x3=>LQ_zero ..
  | m+1,x0,x1,x2,x3=>by
    have ih:(fun x0 x1 x2 x3=>LQ funcTab D n 188 [.r,.l,.r,.l] m (slices_Index_impl_Value_impl_Value_Q0 x0 x1 x2 x3) K)=slices_Index_impl_Value_impl_Value_L0 D n (fun v0_0=>K (Ex.ret) (slices_Index_impl_Value_impl_Value_Q0_0 v0_0)) (K (Ex.exit 0) (slices_Index_impl_Value_impl_Value_Q0_1)) m:=by funext x0 x1 x2 x3;exact slices_Index_impl_Value_impl_Value_EL0 D n K m x0 x1 x2 x3
    rw[slices_Index_impl_Value_impl_Value_SB0]
    rw[ih];rfl
theorem slices_Index_impl_Value_impl_Value_X0_0 (D:DX)(n:Nat) (v0_0:Int) :
  (CQ funcTab D n 188 [] [.r,.l,.r,.l] (lastK funcTab 188)) (Ex.ret) (slices_Index_impl_Value_impl_Value_Q0_0 v0_0)=slices_Index_impl_Value_impl_Value_x0_0 D n v0_0:=by kernel_rfl
theorem slices_Index_impl_Value_impl_Value_X0_1 (D:DX)(n:Nat) :
  (CQ funcTab D n 188 [] [.r,.l,.r,.l] (lastK funcTab 188)) (Ex.exit 0) (slices_Index_impl_Value_impl_Value_Q0_1)=slices_Index_impl_Value_impl_Value_x0_1 D n:=by kernel_rfl
theorem slices_Index_impl_Value_impl_Value_ELP0 (D:DX)(n:Nat) (x0:tVals) (x1:Int) (x2:Int) (x3:Int×Int×ByteArray×Unit) :
  LQ funcTab D n 188 [.r,.l,.r,.l] n (slices_Index_impl_Value_impl_Value_Q0 x0 x1 x2 x3) (CQ funcTab D n 188 [] [.r,.l,.r,.l] (lastK funcTab 188))=slices_Index_impl_Value_impl_Value_LP0 D n x0 x1 x2 x3:=by
  rw[slices_Index_impl_Value_impl_Value_EL0]
  simp only[slices_Index_impl_Value_impl_Value_X0_0,slices_Index_impl_Value_impl_Value_X0_1]
  rfl
theorem E_slices_Index_impl_Value_impl_Value (D:DX)(n:Nat) (a0:tVals) (a1:Int×Int×ByteArray×Unit):rfC funcTab D n 188 (a0,(a1,()))=F_slices_Index_impl_Value_impl_Value D n a0 a1:=by
  have h:rfC funcTab D n 188 (a0,(a1,()))=slices_Index_impl_Value_impl_Value_e D n (fun x0 x1 x2 x3=>LQ funcTab D n 188 [.r,.l,.r,.l] n (slices_Index_impl_Value_impl_Value_Q0 x0 x1 x2 x3) (CQ funcTab D n 188 [] [.r,.l,.r,.l] (lastK funcTab 188))) a0 a1:=by kernel_rfl
  rw[h]
  simp only[slices_Index_impl_Value_impl_Value_ELP0]
  rfl
end
end Go.G

namespace Go.G
set_option maxRecDepth 100000
open Go Go.V Go.Proofs
def XOk (X:Ext):Prop:=∀ k:Nat,(Nat.beq k 132||Nat.beq k 139||Nat.beq k 184||Nat.beq k 187)=false→X.is k=false
theorem noExt_ok:XOk noExt:=fun _ _=>rfl
theorem S_laws_FnExactWayOf {X:Ext} (hX:XOk X) (n:Nat) (a0:(tSch)×tRows×Unit) (a1:Int) (a2:tVals):C_laws_FnExactWayOf (DD X (n+1)) a0 a1 a2=F_laws_FnExactWayOf (DD X n) n a0 a1 a2:=(DD_succ X Try.func7 (by kernel_rfl) (hX 7 rfl) n _).trans (E_laws_FnExactWayOf ..)
theorem S_laws_szSchema {X:Ext} (hX:XOk X) (n:Nat) (a0:tSch) (a1:Int):C_laws_szSchema (DD X (n+1)) a0 a1=F_laws_szSchema (DD X n) n a0 a1:=(DD_succ X Try.func15 (by kernel_rfl) (hX 15 rfl) n _).trans (E_laws_szSchema ..)
theorem S_spec_SchemaOk {X:Ext} (hX:XOk X) (n:Nat) (a0:tSch):C_spec_SchemaOk (DD X (n+1)) a0=F_spec_SchemaOk (DD X n) n a0:=(DD_succ X Try.func16 (by kernel_rfl) (hX 16 rfl) n _).trans (E_spec_SchemaOk ..)
theorem S_laws_toSchema {X:Ext} (hX:XOk X) (n:Nat) (a0:tSch):C_laws_toSchema (DD X (n+1)) a0=F_laws_toSchema (DD X n) n a0:=(DD_succ X Try.func17 (by kernel_rfl) (hX 17 rfl) n _).trans (E_laws_toSchema ..)
theorem S_impl_SchemaOk {X:Ext} (hX:XOk X) (n:Nat) (a0:tSch):C_impl_SchemaOk (DD X (n+1)) a0=F_impl_SchemaOk (DD X n) n a0:=(DD_succ X Try.func18 (by kernel_rfl) (hX 18 rfl) n _).trans (E_impl_SchemaOk ..)
theorem S_laws_eqSchema {X:Ext} (hX:XOk X) (n:Nat) (a0:tSch) (a1:tSch):C_laws_eqSchema (DD X (n+1)) a0 a1=F_laws_eqSchema (DD X n) n a0 a1:=(DD_succ X Try.func19 (by kernel_rfl) (hX 19 rfl) n _).trans (E_laws_eqSchema ..)
theorem S_impl_RowOk {X:Ext} (hX:XOk X) (n:Nat) (a0:tSch) (a1:tVals):C_impl_RowOk (DD X (n+1)) a0 a1=F_impl_RowOk (DD X n) n a0 a1:=(DD_succ X Try.func26 (by kernel_rfl) (hX 26 rfl) n _).trans (E_impl_RowOk ..)
theorem S_spec_RowOk {X:Ext} (hX:XOk X) (n:Nat) (a0:tSch) (a1:tVals):C_spec_RowOk (DD X (n+1)) a0 a1=F_spec_RowOk (DD X n) n a0 a1:=(DD_succ X Try.func27 (by kernel_rfl) (hX 27 rfl) n _).trans (E_spec_RowOk ..)
theorem S_impl_ColNameOk {X:Ext} (hX:XOk X) (n:Nat) (a0:ByteArray):C_impl_ColNameOk (DD X (n+1)) a0=F_impl_ColNameOk (DD X n) n a0:=(DD_succ X Try.func28 (by kernel_rfl) (hX 28 rfl) n _).trans (E_impl_ColNameOk ..)
theorem S_spec_ColNameOk {X:Ext} (hX:XOk X) (n:Nat) (a0:ByteArray):C_spec_ColNameOk (DD X (n+1)) a0=F_spec_ColNameOk (DD X n) n a0:=(DD_succ X Try.func29 (by kernel_rfl) (hX 29 rfl) n _).trans (E_spec_ColNameOk ..)
theorem S_impl_ColAt {X:Ext} (hX:XOk X) (n:Nat) (a0:tSch) (a1:ByteArray):C_impl_ColAt (DD X (n+1)) a0 a1=F_impl_ColAt (DD X n) n a0 a1:=(DD_succ X Try.func30 (by kernel_rfl) (hX 30 rfl) n _).trans (E_impl_ColAt ..)
theorem S_spec_ColAt {X:Ext} (hX:XOk X) (n:Nat) (a0:tSch) (a1:ByteArray):C_spec_ColAt (DD X (n+1)) a0 a1=F_spec_ColAt (DD X n) n a0 a1:=(DD_succ X Try.func31 (by kernel_rfl) (hX 31 rfl) n _).trans (E_spec_ColAt ..)
theorem S_impl_KeyOfRow {X:Ext} (hX:XOk X) (n:Nat) (a0:tSch) (a1:tVals):C_impl_KeyOfRow (DD X (n+1)) a0 a1=F_impl_KeyOfRow (DD X n) n a0 a1:=(DD_succ X Try.func33 (by kernel_rfl) (hX 33 rfl) n _).trans (E_impl_KeyOfRow ..)
theorem S_spec_KeyOfRow {X:Ext} (hX:XOk X) (n:Nat) (a0:tSch) (a1:tVals):C_spec_KeyOfRow (DD X (n+1)) a0 a1=F_spec_KeyOfRow (DD X n) n a0 a1:=(DD_succ X Try.func34 (by kernel_rfl) (hX 34 rfl) n _).trans (E_spec_KeyOfRow ..)
theorem S_impl_TupleOk {X:Ext} (hX:XOk X) (n:Nat) (a0:tVals):C_impl_TupleOk (DD X (n+1)) a0=F_impl_TupleOk (DD X n) n a0:=(DD_succ X Try.func35 (by kernel_rfl) (hX 35 rfl) n _).trans (E_impl_TupleOk ..)
theorem S_laws_szValueS {X:Ext} (hX:XOk X) (n:Nat) (a0:tVals) (a1:Int):C_laws_szValueS (DD X (n+1)) a0 a1=F_laws_szValueS (DD X n) n a0 a1:=(DD_succ X Try.func36 (by kernel_rfl) (hX 36 rfl) n _).trans (E_laws_szValueS ..)
theorem S_laws_toValueS {X:Ext} (hX:XOk X) (n:Nat) (a0:tVals):C_laws_toValueS (DD X (n+1)) a0=F_laws_toValueS (DD X n) n a0:=(DD_succ X Try.func37 (by kernel_rfl) (hX 37 rfl) n _).trans (E_laws_toValueS ..)
theorem S_laws_eqValueS {X:Ext} (hX:XOk X) (n:Nat) (a0:tVals) (a1:tVals):C_laws_eqValueS (DD X (n+1)) a0 a1=F_laws_eqValueS (DD X n) n a0 a1:=(DD_succ X Try.func38 (by kernel_rfl) (hX 38 rfl) n _).trans (E_laws_eqValueS ..)
theorem S_laws_markSchema {X:Ext} (hX:XOk X) (n:Nat) (a0:tSch) (a1:Int):C_laws_markSchema (DD X (n+1)) a0 a1=F_laws_markSchema (DD X n) n a0 a1:=(DD_succ X Try.func39 (by kernel_rfl) (hX 39 rfl) n _).trans (E_laws_markSchema ..)
theorem S_laws_markValueS {X:Ext} (hX:XOk X) (n:Nat) (a0:tVals) (a1:Int):C_laws_markValueS (DD X (n+1)) a0 a1=F_laws_markValueS (DD X n) n a0 a1:=(DD_succ X Try.func40 (by kernel_rfl) (hX 40 rfl) n _).trans (E_laws_markValueS ..)
theorem S_laws_heldValueS {X:Ext} (hX:XOk X) (n:Nat) (a0:tVals) (a1:Int):C_laws_heldValueS (DD X (n+1)) a0 a1=F_laws_heldValueS (DD X n) n a0 a1:=(DD_succ X Try.func41 (by kernel_rfl) (hX 41 rfl) n _).trans (E_laws_heldValueS ..)
theorem S_laws_szRelation {X:Ext} (hX:XOk X) (n:Nat) (a0:(tSch)×tRows×Unit) (a1:Int):C_laws_szRelation (DD X (n+1)) a0 a1=F_laws_szRelation (DD X n) n a0 a1:=(DD_succ X Try.func42 (by kernel_rfl) (hX 42 rfl) n _).trans (E_laws_szRelation ..)
theorem S_spec_WayOf {X:Ext} (hX:XOk X) (n:Nat) (a0:(tSch)×tRows×Unit) (a1:Int) (a2:tVals):C_spec_WayOf (DD X (n+1)) a0 a1 a2=F_spec_WayOf (DD X n) n a0 a1 a2:=(DD_succ X Try.func43 (by kernel_rfl) (hX 43 rfl) n _).trans (E_spec_WayOf ..)
theorem S_laws_toRelation {X:Ext} (hX:XOk X) (n:Nat) (a0:(tSch)×tRows×Unit):C_laws_toRelation (DD X (n+1)) a0=F_laws_toRelation (DD X n) n a0:=(DD_succ X Try.func44 (by kernel_rfl) (hX 44 rfl) n _).trans (E_laws_toRelation ..)
theorem S_impl_WayOf {X:Ext} (hX:XOk X) (n:Nat) (a0:(tSch)×tRows×Unit) (a1:Int) (a2:tVals):C_impl_WayOf (DD X (n+1)) a0 a1 a2=F_impl_WayOf (DD X n) n a0 a1 a2:=(DD_succ X Try.func45 (by kernel_rfl) (hX 45 rfl) n _).trans (E_impl_WayOf ..)
theorem S_laws_eqWay {X:Ext} (hX:XOk X) (n:Nat) (a0:ByteArray×ByteArray×Unit) (a1:ByteArray×ByteArray×Unit):C_laws_eqWay (DD X (n+1)) a0 a1=F_laws_eqWay (DD X n) n a0 a1:=(DD_succ X Try.func46 (by kernel_rfl) (hX 46 rfl) n _).trans (E_laws_eqWay ..)
theorem S_laws_eqRelation {X:Ext} (hX:XOk X) (n:Nat) (a0:(tSch)×tRows×Unit) (a1:(tSch)×tRows×Unit):C_laws_eqRelation (DD X (n+1)) a0 a1=F_laws_eqRelation (DD X n) n a0 a1:=(DD_succ X Try.func47 (by kernel_rfl) (hX 47 rfl) n _).trans (E_laws_eqRelation ..)
theorem S_spec_RelOk {X:Ext} (hX:XOk X) (n:Nat) (a0:(tSch)×tRows×Unit):C_spec_RelOk (DD X (n+1)) a0=F_spec_RelOk (DD X n) n a0:=(DD_succ X Try.func48 (by kernel_rfl) (hX 48 rfl) n _).trans (E_spec_RelOk ..)
theorem S_impl_RelOk {X:Ext} (hX:XOk X) (n:Nat) (a0:(tSch)×tRows×Unit):C_impl_RelOk (DD X (n+1)) a0=F_impl_RelOk (DD X n) n a0:=(DD_succ X Try.func49 (by kernel_rfl) (hX 49 rfl) n _).trans (E_impl_RelOk ..)
theorem S_impl_Lookup {X:Ext} (hX:XOk X) (n:Nat) (a0:(tSch)×tRows×Unit) (a1:tVals):C_impl_Lookup (DD X (n+1)) a0 a1=F_impl_Lookup (DD X n) n a0 a1:=(DD_succ X Try.func54 (by kernel_rfl) (hX 54 rfl) n _).trans (E_impl_Lookup ..)
theorem S_impl_Project {X:Ext} (hX:XOk X) (n:Nat) (a0:tVals) (a1:List Int):C_impl_Project (DD X (n+1)) a0 a1=F_impl_Project (DD X n) n a0 a1:=(DD_succ X Try.func56 (by kernel_rfl) (hX 56 rfl) n _).trans (E_impl_Project ..)
theorem S_spec_Lookup {X:Ext} (hX:XOk X) (n:Nat) (a0:(tSch)×tRows×Unit) (a1:tVals):C_spec_Lookup (DD X (n+1)) a0 a1=F_spec_Lookup (DD X n) n a0 a1:=(DD_succ X Try.func58 (by kernel_rfl) (hX 58 rfl) n _).trans (E_spec_Lookup ..)
theorem S_laws_markRelation {X:Ext} (hX:XOk X) (n:Nat) (a0:(tSch)×tRows×Unit) (a1:Int):C_laws_markRelation (DD X (n+1)) a0 a1=F_laws_markRelation (DD X n) n a0 a1:=(DD_succ X Try.func59 (by kernel_rfl) (hX 59 rfl) n _).trans (E_laws_markRelation ..)
theorem S_laws_heldRelation {X:Ext} (hX:XOk X) (n:Nat) (a0:(tSch)×tRows×Unit) (a1:Int):C_laws_heldRelation (DD X (n+1)) a0 a1=F_laws_heldRelation (DD X n) n a0 a1:=(DD_succ X Try.func62 (by kernel_rfl) (hX 62 rfl) n _).trans (E_laws_heldRelation ..)
theorem S_laws_szColS {X:Ext} (hX:XOk X) (n:Nat) (a0:tCols) (a1:Int):C_laws_szColS (DD X (n+1)) a0 a1=F_laws_szColS (DD X n) n a0 a1:=(DD_succ X Try.func70 (by kernel_rfl) (hX 70 rfl) n _).trans (E_laws_szColS ..)
theorem S_laws_szIntS {X:Ext} (hX:XOk X) (n:Nat) (a0:List Int) (a1:Int):C_laws_szIntS (DD X (n+1)) a0 a1=F_laws_szIntS (DD X n) n a0 a1:=(DD_succ X Try.func71 (by kernel_rfl) (hX 71 rfl) n _).trans (E_laws_szIntS ..)
theorem S_laws_szIndexS {X:Ext} (hX:XOk X) (n:Nat) (a0:tIxs) (a1:Int):C_laws_szIndexS (DD X (n+1)) a0 a1=F_laws_szIndexS (DD X n) n a0 a1:=(DD_succ X Try.func72 (by kernel_rfl) (hX 72 rfl) n _).trans (E_laws_szIndexS ..)
theorem S_spec_l1In {X:Ext} (hX:XOk X) (n:Nat) (a0:Int) (a1:Int) (a2:Int):C_spec_l1In (DD X (n+1)) a0 a1 a2=F_spec_l1In (DD X n) n a0 a1 a2:=(DD_succ X Try.func73 (by kernel_rfl) (hX 73 rfl) n _).trans (E_spec_l1In ..)
theorem S_spec_l19Places {X:Ext} (hX:XOk X) (n:Nat) (a0:tSch) (a1:List Int) (a2:Int):C_spec_l19Places (DD X (n+1)) a0 a1 a2=F_spec_l19Places (DD X n) n a0 a1 a2:=(DD_succ X Try.func74 (by kernel_rfl) (hX 74 rfl) n _).trans (E_spec_l19Places ..)
theorem S_spec_l19Indexes {X:Ext} (hX:XOk X) (n:Nat) (a0:tSch):C_spec_l19Indexes (DD X (n+1)) a0=F_spec_l19Indexes (DD X n) n a0:=(DD_succ X Try.func75 (by kernel_rfl) (hX 75 rfl) n _).trans (E_spec_l19Indexes ..)
theorem S_laws_toColS {X:Ext} (hX:XOk X) (n:Nat) (a0:tCols):C_laws_toColS (DD X (n+1)) a0=F_laws_toColS (DD X n) n a0:=(DD_succ X Try.func76 (by kernel_rfl) (hX 76 rfl) n _).trans (E_laws_toColS ..)
theorem S_laws_toIntS {X:Ext} (hX:XOk X) (n:Nat) (a0:List Int):C_laws_toIntS (DD X (n+1)) a0=F_laws_toIntS (DD X n) n a0:=(DD_succ X Try.func77 (by kernel_rfl) (hX 77 rfl) n _).trans (E_laws_toIntS ..)
theorem S_laws_toIndexS {X:Ext} (hX:XOk X) (n:Nat) (a0:tIxs):C_laws_toIndexS (DD X (n+1)) a0=F_laws_toIndexS (DD X n) n a0:=(DD_succ X Try.func78 (by kernel_rfl) (hX 78 rfl) n _).trans (E_laws_toIndexS ..)
theorem S_impl_from {X:Ext} (hX:XOk X) (n:Nat) (a0:Int) (a1:Int) (a2:Int):C_impl_from (DD X (n+1)) a0 a1 a2=F_impl_from (DD X n) n a0 a1 a2:=(DD_succ X Try.func79 (by kernel_rfl) (hX 79 rfl) n _).trans (E_impl_from ..)
theorem S_impl_placesOk {X:Ext} (hX:XOk X) (n:Nat) (a0:tSch) (a1:List Int) (a2:Int):C_impl_placesOk (DD X (n+1)) a0 a1 a2=F_impl_placesOk (DD X n) n a0 a1 a2:=(DD_succ X Try.func80 (by kernel_rfl) (hX 80 rfl) n _).trans (E_impl_placesOk ..)
theorem S_slices_ContainsFunc_impl_Index_impl_Index {X:Ext} (hX:XOk X) (n:Nat) (a0:tIxs) (a1:Clo):C_slices_ContainsFunc_impl_Index_impl_Index (DD X (n+1)) a0 a1=F_slices_ContainsFunc_impl_Index_impl_Index (DD X n) n a0 a1:=(DD_succ X Try.func81 (by kernel_rfl) (hX 81 rfl) n _).trans (E_slices_ContainsFunc_impl_Index_impl_Index ..)
theorem S_impl_SchemaOk_1 {X:Ext} (hX:XOk X) (n:Nat) (a0:ByteArray×List Int×Bool×Unit) (a1:ByteArray×List Int×Bool×Unit):C_impl_SchemaOk_1 (DD X (n+1)) a0 a1=F_impl_SchemaOk_1 (DD X n) n a0 a1:=(DD_succ X Try.func82 (by kernel_rfl) (hX 82 rfl) n _).trans (E_impl_SchemaOk_1 ..)
theorem S_slices_ContainsFunc_int_int {X:Ext} (hX:XOk X) (n:Nat) (a0:List Int) (a1:Clo):C_slices_ContainsFunc_int_int (DD X (n+1)) a0 a1=F_slices_ContainsFunc_int_int (DD X n) n a0 a1:=(DD_succ X Try.func83 (by kernel_rfl) (hX 83 rfl) n _).trans (E_slices_ContainsFunc_int_int ..)
theorem S_impl_SchemaOk_2 {X:Ext} (hX:XOk X) (n:Nat) (a0:Int) (a1:tSch):C_impl_SchemaOk_2 (DD X (n+1)) a0 a1=F_impl_SchemaOk_2 (DD X n) n a0 a1:=(DD_succ X Try.func84 (by kernel_rfl) (hX 84 rfl) n _).trans (E_impl_SchemaOk_2 ..)
theorem S_laws_eqColS {X:Ext} (hX:XOk X) (n:Nat) (a0:tCols) (a1:tCols):C_laws_eqColS (DD X (n+1)) a0 a1=F_laws_eqColS (DD X n) n a0 a1:=(DD_succ X Try.func85 (by kernel_rfl) (hX 85 rfl) n _).trans (E_laws_eqColS ..)
theorem S_laws_eqIntS {X:Ext} (hX:XOk X) (n:Nat) (a0:List Int) (a1:List Int):C_laws_eqIntS (DD X (n+1)) a0 a1=F_laws_eqIntS (DD X n) n a0 a1:=(DD_succ X Try.func86 (by kernel_rfl) (hX 86 rfl) n _).trans (E_laws_eqIntS ..)
theorem S_laws_eqIndexS {X:Ext} (hX:XOk X) (n:Nat) (a0:tIxs) (a1:tIxs):C_laws_eqIndexS (DD X (n+1)) a0 a1=F_laws_eqIndexS (DD X n) n a0 a1:=(DD_succ X Try.func87 (by kernel_rfl) (hX 87 rfl) n _).trans (E_laws_eqIndexS ..)
theorem S_impl_ValueOk {X:Ext} (hX:XOk X) (n:Nat) (a0:Int×Int×ByteArray×Unit):C_impl_ValueOk (DD X (n+1)) a0=F_impl_ValueOk (DD X n) n a0:=(DD_succ X Try.func94 (by kernel_rfl) (hX 94 rfl) n _).trans (E_impl_ValueOk ..)
theorem S_spec_ValueOk {X:Ext} (hX:XOk X) (n:Nat) (a0:Int×Int×ByteArray×Unit):C_spec_ValueOk (DD X (n+1)) a0=F_spec_ValueOk (DD X n) n a0:=(DD_succ X Try.func95 (by kernel_rfl) (hX 95 rfl) n _).trans (E_spec_ValueOk ..)
theorem S_slices_IndexFunc_impl_Col_impl_Col {X:Ext} (hX:XOk X) (n:Nat) (a0:tCols) (a1:Clo):C_slices_IndexFunc_impl_Col_impl_Col (DD X (n+1)) a0 a1=F_slices_IndexFunc_impl_Col_impl_Col (DD X n) n a0 a1:=(DD_succ X Try.func96 (by kernel_rfl) (hX 96 rfl) n _).trans (E_slices_IndexFunc_impl_Col_impl_Col ..)
theorem S_impl_ColAt_1 {X:Ext} (hX:XOk X) (n:Nat) (a0:ByteArray×Int×Bool×Unit) (a1:ByteArray):C_impl_ColAt_1 (DD X (n+1)) a0 a1=F_impl_ColAt_1 (DD X n) n a0 a1:=(DD_succ X Try.func97 (by kernel_rfl) (hX 97 rfl) n _).trans (E_impl_ColAt_1 ..)
theorem S_spec_Project {X:Ext} (hX:XOk X) (n:Nat) (a0:tVals) (a1:List Int):C_spec_Project (DD X (n+1)) a0 a1=F_spec_Project (DD X n) n a0 a1:=(DD_succ X Try.func98 (by kernel_rfl) (hX 98 rfl) n _).trans (E_spec_Project ..)
theorem S_slices_ContainsFunc_impl_Value_impl_Value {X:Ext} (hX:XOk X) (n:Nat) (a0:tVals) (a1:Clo):C_slices_ContainsFunc_impl_Value_impl_Value (DD X (n+1)) a0 a1=F_slices_ContainsFunc_impl_Value_impl_Value (DD X n) n a0 a1:=(DD_succ X Try.func99 (by kernel_rfl) (hX 99 rfl) n _).trans (E_slices_ContainsFunc_impl_Value_impl_Value ..)
theorem S_impl_TupleOk_1 {X:Ext} (hX:XOk X) (n:Nat) (a0:Int×Int×ByteArray×Unit):C_impl_TupleOk_1 (DD X (n+1)) a0=F_impl_TupleOk_1 (DD X n) n a0:=(DD_succ X Try.func100 (by kernel_rfl) (hX 100 rfl) n _).trans (E_impl_TupleOk_1 ..)
theorem S_laws_szValue {X:Ext} (hX:XOk X) (n:Nat) (a0:Int×Int×ByteArray×Unit) (a1:Int):C_laws_szValue (DD X (n+1)) a0 a1=F_laws_szValue (DD X n) n a0 a1:=(DD_succ X Try.func101 (by kernel_rfl) (hX 101 rfl) n _).trans (E_laws_szValue ..)
theorem S_laws_toValue {X:Ext} (hX:XOk X) (n:Nat) (a0:Int×Int×ByteArray×Unit):C_laws_toValue (DD X (n+1)) a0=F_laws_toValue (DD X n) n a0:=(DD_succ X Try.func102 (by kernel_rfl) (hX 102 rfl) n _).trans (E_laws_toValue ..)
theorem S_laws_eqValue {X:Ext} (hX:XOk X) (n:Nat) (a0:Int×Int×ByteArray×Unit) (a1:Int×Int×ByteArray×Unit):C_laws_eqValue (DD X (n+1)) a0 a1=F_laws_eqValue (DD X n) n a0 a1:=(DD_succ X Try.func103 (by kernel_rfl) (hX 103 rfl) n _).trans (E_laws_eqValue ..)
theorem S_laws_markColS {X:Ext} (hX:XOk X) (n:Nat) (a0:tCols) (a1:Int):C_laws_markColS (DD X (n+1)) a0 a1=F_laws_markColS (DD X n) n a0 a1:=(DD_succ X Try.func104 (by kernel_rfl) (hX 104 rfl) n _).trans (E_laws_markColS ..)
theorem S_laws_markIntS {X:Ext} (hX:XOk X) (n:Nat) (a0:List Int) (a1:Int):C_laws_markIntS (DD X (n+1)) a0 a1=F_laws_markIntS (DD X n) n a0 a1:=(DD_succ X Try.func105 (by kernel_rfl) (hX 105 rfl) n _).trans (E_laws_markIntS ..)
theorem S_laws_markIndexS {X:Ext} (hX:XOk X) (n:Nat) (a0:tIxs) (a1:Int):C_laws_markIndexS (DD X (n+1)) a0 a1=F_laws_markIndexS (DD X n) n a0 a1:=(DD_succ X Try.func106 (by kernel_rfl) (hX 106 rfl) n _).trans (E_laws_markIndexS ..)
theorem S_laws_markText {X:Ext} (hX:XOk X) (n:Nat) (a0:Int):C_laws_markText (DD X (n+1)) a0=F_laws_markText (DD X n) n a0:=(DD_succ X Try.func107 (by kernel_rfl) (hX 107 rfl) n _).trans (E_laws_markText ..)
theorem S_laws_szValueSS {X:Ext} (hX:XOk X) (n:Nat) (a0:tRows) (a1:Int):C_laws_szValueSS (DD X (n+1)) a0 a1=F_laws_szValueSS (DD X n) n a0 a1:=(DD_succ X Try.func108 (by kernel_rfl) (hX 108 rfl) n _).trans (E_laws_szValueSS ..)
theorem S_spec_TupleBytes {X:Ext} (hX:XOk X) (n:Nat) (a0:tVals):C_spec_TupleBytes (DD X (n+1)) a0=F_spec_TupleBytes (DD X n) n a0:=(DD_succ X Try.func109 (by kernel_rfl) (hX 109 rfl) n _).trans (E_spec_TupleBytes ..)
theorem S_laws_toValueSS {X:Ext} (hX:XOk X) (n:Nat) (a0:tRows):C_laws_toValueSS (DD X (n+1)) a0=F_laws_toValueSS (DD X n) n a0:=(DD_succ X Try.func110 (by kernel_rfl) (hX 110 rfl) n _).trans (E_laws_toValueSS ..)
theorem S_impl_way {X:Ext} (hX:XOk X) (n:Nat) (a0:tSch) (a1:Int) (a2:tVals):C_impl_way (DD X (n+1)) a0 a1 a2=F_impl_way (DD X n) n a0 a1 a2:=(DD_succ X Try.func111 (by kernel_rfl) (hX 111 rfl) n _).trans (E_impl_way ..)
theorem S_laws_eqValueSS {X:Ext} (hX:XOk X) (n:Nat) (a0:tRows) (a1:tRows):C_laws_eqValueSS (DD X (n+1)) a0 a1=F_laws_eqValueSS (DD X n) n a0 a1:=(DD_succ X Try.func112 (by kernel_rfl) (hX 112 rfl) n _).trans (E_laws_eqValueSS ..)
theorem S_spec_TupleLess {X:Ext} (hX:XOk X) (n:Nat) (a0:tVals) (a1:tVals):C_spec_TupleLess (DD X (n+1)) a0 a1=F_spec_TupleLess (DD X n) n a0 a1:=(DD_succ X Try.func113 (by kernel_rfl) (hX 113 rfl) n _).trans (E_spec_TupleLess ..)
theorem S_spec_l21Clash {X:Ext} (hX:XOk X) (n:Nat) (a0:tSch) (a1:tVals) (a2:tVals):C_spec_l21Clash (DD X (n+1)) a0 a1 a2=F_spec_l21Clash (DD X n) n a0 a1 a2:=(DD_succ X Try.func114 (by kernel_rfl) (hX 114 rfl) n _).trans (E_spec_l21Clash ..)
theorem S_impl_TupleLess {X:Ext} (hX:XOk X) (n:Nat) (a0:tVals) (a1:tVals):C_impl_TupleLess (DD X (n+1)) a0 a1=F_impl_TupleLess (DD X n) n a0 a1:=(DD_succ X Try.func115 (by kernel_rfl) (hX 115 rfl) n _).trans (E_impl_TupleLess ..)
theorem S_slices_ContainsFunc_impl_Value_impl_Valuex {X:Ext} (hX:XOk X) (n:Nat) (a0:tRows) (a1:Clo):C_slices_ContainsFunc_impl_Value_impl_Valuex (DD X (n+1)) a0 a1=F_slices_ContainsFunc_impl_Value_impl_Valuex (DD X n) n a0 a1:=(DD_succ X Try.func116 (by kernel_rfl) (hX 116 rfl) n _).trans (E_slices_ContainsFunc_impl_Value_impl_Valuex ..)
theorem S_impl_RelOk_1 {X:Ext} (hX:XOk X) (n:Nat) (a0:tVals) (a1:(tSch)×tRows×Unit) (a2:tVals):C_impl_RelOk_1 (DD X (n+1)) a0 a1 a2=F_impl_RelOk_1 (DD X n) n a0 a1 a2:=(DD_succ X Try.func117 (by kernel_rfl) (hX 117 rfl) n _).trans (E_impl_RelOk_1 ..)
theorem S_impl_clash {X:Ext} (hX:XOk X) (n:Nat) (a0:tSch) (a1:tVals) (a2:tVals):C_impl_clash (DD X (n+1)) a0 a1 a2=F_impl_clash (DD X n) n a0 a1 a2:=(DD_succ X Try.func118 (by kernel_rfl) (hX 118 rfl) n _).trans (E_impl_clash ..)
theorem S_impl_keyAt {X:Ext} (hX:XOk X) (n:Nat) (a0:(tSch)×tRows×Unit) (a1:tVals):C_impl_keyAt (DD X (n+1)) a0 a1=F_impl_keyAt (DD X n) n a0 a1:=(DD_succ X Try.func122 (by kernel_rfl) (hX 122 rfl) n _).trans (E_impl_keyAt ..)
theorem S_slices_Clone_impl_Value_impl_Value {X:Ext} (hX:XOk X) (n:Nat) (a0:tVals):C_slices_Clone_impl_Value_impl_Value (DD X (n+1)) a0=F_slices_Clone_impl_Value_impl_Value (DD X n) n a0:=(DD_succ X Try.func123 (by kernel_rfl) (hX 123 rfl) n _).trans (E_slices_Clone_impl_Value_impl_Value ..)
theorem S_spec_l21At {X:Ext} (hX:XOk X) (n:Nat) (a0:(tSch)×tRows×Unit) (a1:tVals):C_spec_l21At (DD X (n+1)) a0 a1=F_spec_l21At (DD X n) n a0 a1:=(DD_succ X Try.func125 (by kernel_rfl) (hX 125 rfl) n _).trans (E_spec_l21At ..)
theorem S_slices_IndexFunc_impl_Value_impl_Value {X:Ext} (hX:XOk X) (n:Nat) (a0:tRows) (a1:Clo):C_slices_IndexFunc_impl_Value_impl_Value (DD X (n+1)) a0 a1=F_slices_IndexFunc_impl_Value_impl_Value (DD X n) n a0 a1:=(DD_succ X Try.func130 (by kernel_rfl) (hX 130 rfl) n _).trans (E_slices_IndexFunc_impl_Value_impl_Value ..)
theorem S_laws_markValueSS {X:Ext} (hX:XOk X) (n:Nat) (a0:tRows) (a1:Int):C_laws_markValueSS (DD X (n+1)) a0 a1=F_laws_markValueSS (DD X n) n a0 a1:=(DD_succ X Try.func133 (by kernel_rfl) (hX 133 rfl) n _).trans (E_laws_markValueSS ..)
theorem S_laws_heldSchema {X:Ext} (hX:XOk X) (n:Nat) (a0:tSch) (a1:Int):C_laws_heldSchema (DD X (n+1)) a0 a1=F_laws_heldSchema (DD X n) n a0 a1:=(DD_succ X Try.func136 (by kernel_rfl) (hX 136 rfl) n _).trans (E_laws_heldSchema ..)
theorem S_laws_heldValueSS {X:Ext} (hX:XOk X) (n:Nat) (a0:tRows) (a1:Int):C_laws_heldValueSS (DD X (n+1)) a0 a1=F_laws_heldValueSS (DD X n) n a0 a1:=(DD_succ X Try.func137 (by kernel_rfl) (hX 137 rfl) n _).trans (E_laws_heldValueSS ..)
theorem S_laws_szCol {X:Ext} (hX:XOk X) (n:Nat) (a0:ByteArray×Int×Bool×Unit) (a1:Int):C_laws_szCol (DD X (n+1)) a0 a1=F_laws_szCol (DD X n) n a0 a1:=(DD_succ X Try.func143 (by kernel_rfl) (hX 143 rfl) n _).trans (E_laws_szCol ..)
theorem S_laws_szIndex {X:Ext} (hX:XOk X) (n:Nat) (a0:ByteArray×List Int×Bool×Unit) (a1:Int):C_laws_szIndex (DD X (n+1)) a0 a1=F_laws_szIndex (DD X n) n a0 a1:=(DD_succ X Try.func144 (by kernel_rfl) (hX 144 rfl) n _).trans (E_laws_szIndex ..)
theorem S_laws_toCol {X:Ext} (hX:XOk X) (n:Nat) (a0:ByteArray×Int×Bool×Unit):C_laws_toCol (DD X (n+1)) a0=F_laws_toCol (DD X n) n a0:=(DD_succ X Try.func145 (by kernel_rfl) (hX 145 rfl) n _).trans (E_laws_toCol ..)
theorem S_laws_toIndex {X:Ext} (hX:XOk X) (n:Nat) (a0:ByteArray×List Int×Bool×Unit):C_laws_toIndex (DD X (n+1)) a0=F_laws_toIndex (DD X n) n a0:=(DD_succ X Try.func146 (by kernel_rfl) (hX 146 rfl) n _).trans (E_laws_toIndex ..)
theorem S_slices_Contains_int_int {X:Ext} (hX:XOk X) (n:Nat) (a0:List Int) (a1:Int):C_slices_Contains_int_int (DD X (n+1)) a0 a1=F_slices_Contains_int_int (DD X n) n a0 a1:=(DD_succ X Try.func147 (by kernel_rfl) (hX 147 rfl) n _).trans (E_slices_Contains_int_int ..)
theorem S_slices_IndexFunc_impl_Index_impl_Index {X:Ext} (hX:XOk X) (n:Nat) (a0:tIxs) (a1:Clo):C_slices_IndexFunc_impl_Index_impl_Index (DD X (n+1)) a0 a1=F_slices_IndexFunc_impl_Index_impl_Index (DD X n) n a0 a1:=(DD_succ X Try.func148 (by kernel_rfl) (hX 148 rfl) n _).trans (E_slices_IndexFunc_impl_Index_impl_Index ..)
theorem S_slices_IndexFunc_int_int {X:Ext} (hX:XOk X) (n:Nat) (a0:List Int) (a1:Clo):C_slices_IndexFunc_int_int (DD X (n+1)) a0 a1=F_slices_IndexFunc_int_int (DD X n) n a0 a1:=(DD_succ X Try.func149 (by kernel_rfl) (hX 149 rfl) n _).trans (E_slices_IndexFunc_int_int ..)
theorem S_laws_eqCol {X:Ext} (hX:XOk X) (n:Nat) (a0:ByteArray×Int×Bool×Unit) (a1:ByteArray×Int×Bool×Unit):C_laws_eqCol (DD X (n+1)) a0 a1=F_laws_eqCol (DD X n) n a0 a1:=(DD_succ X Try.func150 (by kernel_rfl) (hX 150 rfl) n _).trans (E_laws_eqCol ..)
theorem S_laws_eqIndex {X:Ext} (hX:XOk X) (n:Nat) (a0:ByteArray×List Int×Bool×Unit) (a1:ByteArray×List Int×Bool×Unit):C_laws_eqIndex (DD X (n+1)) a0 a1=F_laws_eqIndex (DD X n) n a0 a1:=(DD_succ X Try.func151 (by kernel_rfl) (hX 151 rfl) n _).trans (E_laws_eqIndex ..)
theorem S_slices_IndexFunc_impl_Value_impl_Valuex {X:Ext} (hX:XOk X) (n:Nat) (a0:tVals) (a1:Clo):C_slices_IndexFunc_impl_Value_impl_Valuex (DD X (n+1)) a0 a1=F_slices_IndexFunc_impl_Value_impl_Valuex (DD X n) n a0 a1:=(DD_succ X Try.func158 (by kernel_rfl) (hX 158 rfl) n _).trans (E_slices_IndexFunc_impl_Value_impl_Valuex ..)
theorem S_spec_TupleOk {X:Ext} (hX:XOk X) (n:Nat) (a0:tVals):C_spec_TupleOk (DD X (n+1)) a0=F_spec_TupleOk (DD X n) n a0:=(DD_succ X Try.func159 (by kernel_rfl) (hX 159 rfl) n _).trans (E_spec_TupleOk ..)
theorem S_spec_l18Value {X:Ext} (hX:XOk X) (n:Nat) (a0:Int×Int×ByteArray×Unit):C_spec_l18Value (DD X (n+1)) a0=F_spec_l18Value (DD X n) n a0:=(DD_succ X Try.func160 (by kernel_rfl) (hX 160 rfl) n _).trans (E_spec_l18Value ..)
theorem S_impl_TupleBytes {X:Ext} (hX:XOk X) (n:Nat) (a0:tVals):C_impl_TupleBytes (DD X (n+1)) a0=F_impl_TupleBytes (DD X n) n a0:=(DD_succ X Try.func161 (by kernel_rfl) (hX 161 rfl) n _).trans (E_impl_TupleBytes ..)
theorem S_spec_ValueSame {X:Ext} (hX:XOk X) (n:Nat) (a0:Int×Int×ByteArray×Unit) (a1:Int×Int×ByteArray×Unit):C_spec_ValueSame (DD X (n+1)) a0 a1=F_spec_ValueSame (DD X n) n a0 a1:=(DD_succ X Try.func162 (by kernel_rfl) (hX 162 rfl) n _).trans (E_spec_ValueSame ..)
theorem S_spec_ValueLess {X:Ext} (hX:XOk X) (n:Nat) (a0:Int×Int×ByteArray×Unit) (a1:Int×Int×ByteArray×Unit):C_spec_ValueLess (DD X (n+1)) a0 a1=F_spec_ValueLess (DD X n) n a0 a1:=(DD_succ X Try.func163 (by kernel_rfl) (hX 163 rfl) n _).trans (E_spec_ValueLess ..)
theorem S_spec_l18Same {X:Ext} (hX:XOk X) (n:Nat) (a0:tVals) (a1:tVals):C_spec_l18Same (DD X (n+1)) a0 a1=F_spec_l18Same (DD X n) n a0 a1:=(DD_succ X Try.func164 (by kernel_rfl) (hX 164 rfl) n _).trans (E_spec_l18Same ..)
theorem S_spec_l21Some {X:Ext} (hX:XOk X) (n:Nat) (a0:tVals):C_spec_l21Some (DD X (n+1)) a0=F_spec_l21Some (DD X n) n a0:=(DD_succ X Try.func165 (by kernel_rfl) (hX 165 rfl) n _).trans (E_spec_l21Some ..)
theorem S_slices_CompareFunc_impl_Value_impl_Value_impl_Value_impl_Value {X:Ext} (hX:XOk X) (n:Nat) (a0:tVals) (a1:tVals) (a2:Clo):C_slices_CompareFunc_impl_Value_impl_Value_impl_Value_impl_Value (DD X (n+1)) a0 a1 a2=F_slices_CompareFunc_impl_Value_impl_Value_impl_Value_impl_Value (DD X n) n a0 a1 a2:=(DD_succ X Try.func166 (by kernel_rfl) (hX 166 rfl) n _).trans (E_slices_CompareFunc_impl_Value_impl_Value_impl_Value_impl_Value ..)
theorem S_impl_byValue {X:Ext} (hX:XOk X) (n:Nat) (a0:Int×Int×ByteArray×Unit) (a1:Int×Int×ByteArray×Unit):C_impl_byValue (DD X (n+1)) a0 a1=F_impl_byValue (DD X n) n a0 a1:=(DD_succ X Try.func167 (by kernel_rfl) (hX 167 rfl) n _).trans (E_impl_byValue ..)
theorem S_impl_clash_1 {X:Ext} (hX:XOk X) (n:Nat) (a0:ByteArray×List Int×Bool×Unit) (a1:tVals) (a2:tVals):C_impl_clash_1 (DD X (n+1)) a0 a1 a2=F_impl_clash_1 (DD X n) n a0 a1 a2:=(DD_succ X Try.func168 (by kernel_rfl) (hX 168 rfl) n _).trans (E_impl_clash_1 ..)
theorem S_slices_Contains_impl_Value_impl_Value {X:Ext} (hX:XOk X) (n:Nat) (a0:tVals) (a1:Int×Int×ByteArray×Unit):C_slices_Contains_impl_Value_impl_Value (DD X (n+1)) a0 a1=F_slices_Contains_impl_Value_impl_Value (DD X n) n a0 a1:=(DD_succ X Try.func169 (by kernel_rfl) (hX 169 rfl) n _).trans (E_slices_Contains_impl_Value_impl_Value ..)
theorem S_slices_Equal_impl_Value_impl_Value {X:Ext} (hX:XOk X) (n:Nat) (a0:tVals) (a1:tVals):C_slices_Equal_impl_Value_impl_Value (DD X (n+1)) a0 a1=F_slices_Equal_impl_Value_impl_Value (DD X n) n a0 a1:=(DD_succ X Try.func170 (by kernel_rfl) (hX 170 rfl) n _).trans (E_slices_Equal_impl_Value_impl_Value ..)
theorem S_impl_keyAt_1 {X:Ext} (hX:XOk X) (n:Nat) (a0:tVals) (a1:(tSch)×tRows×Unit) (a2:tVals):C_impl_keyAt_1 (DD X (n+1)) a0 a1 a2=F_impl_keyAt_1 (DD X n) n a0 a1 a2:=(DD_succ X Try.func173 (by kernel_rfl) (hX 173 rfl) n _).trans (E_impl_keyAt_1 ..)
theorem S_laws_heldColS {X:Ext} (hX:XOk X) (n:Nat) (a0:tCols) (a1:Int):C_laws_heldColS (DD X (n+1)) a0 a1=F_laws_heldColS (DD X n) n a0 a1:=(DD_succ X Try.func178 (by kernel_rfl) (hX 178 rfl) n _).trans (E_laws_heldColS ..)
theorem S_laws_heldIntS {X:Ext} (hX:XOk X) (n:Nat) (a0:List Int) (a1:Int):C_laws_heldIntS (DD X (n+1)) a0 a1=F_laws_heldIntS (DD X n) n a0 a1:=(DD_succ X Try.func179 (by kernel_rfl) (hX 179 rfl) n _).trans (E_laws_heldIntS ..)
theorem S_laws_heldIndexS {X:Ext} (hX:XOk X) (n:Nat) (a0:tIxs) (a1:Int):C_laws_heldIndexS (DD X (n+1)) a0 a1=F_laws_heldIndexS (DD X n) n a0 a1:=(DD_succ X Try.func180 (by kernel_rfl) (hX 180 rfl) n _).trans (E_laws_heldIndexS ..)
theorem S_slices_Index_int_int {X:Ext} (hX:XOk X) (n:Nat) (a0:List Int) (a1:Int):C_slices_Index_int_int (DD X (n+1)) a0 a1=F_slices_Index_int_int (DD X n) n a0 a1:=(DD_succ X Try.func186 (by kernel_rfl) (hX 186 rfl) n _).trans (E_slices_Index_int_int ..)
theorem S_slices_Index_impl_Value_impl_Value {X:Ext} (hX:XOk X) (n:Nat) (a0:tVals) (a1:Int×Int×ByteArray×Unit):C_slices_Index_impl_Value_impl_Value (DD X (n+1)) a0 a1=F_slices_Index_impl_Value_impl_Value (DD X n) n a0 a1:=(DD_succ X Try.func188 (by kernel_rfl) (hX 188 rfl) n _).trans (E_slices_Index_impl_Value_impl_Value ..)
end Go.G


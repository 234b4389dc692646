import Derived.Test.YtfafjngknkbngaaAPFnUnique0
set_option linter.unusedVariables false
set_option linter.unusedSimpArgs false
set_option linter.unusedSectionVars false
namespace Go.G
set_option maxRecDepth 100000
set_option maxHeartbeats 0
open Go Go.V
noncomputable section
def spec_l21Rows_b0 (D:DX)(n:Nat) (go:tRows→Int→tRows→Option ((tRows×Unit)×Unit)) (K0:tRows→Option ((tRows×Unit)×Unit)) (x0:tRows) (x1:Int) (x2:tRows):Option ((tRows×Unit)×Unit):=br (decide (x1<(↑(List.length x0):Int))) (br (decide (0≤x1)&&decide (x1<(↑(List.length x0):Int))) (br (decide (0+List.length (List.getD x0 (Int.toNat x1) [])≤bound)) (br (decide (List.length x2+1≤bound)) (go x0 (IntKind.wrap IntKind.i64 (x1+1)) (x2++[[]++List.getD x0 (Int.toNat x1) []])) none) none) none) (K0 x2)
def spec_l21Rows_L0 (D:DX)(n:Nat) (K0:tRows→Option ((tRows×Unit)×Unit)):Nat→(tRows)→(Int)→(tRows)→Option ((tRows×Unit)×Unit) | 0=>(fun x0 x1 x2=>none) | m+1=>(fun x0 x1 x2=>spec_l21Rows_b0 D n (spec_l21Rows_L0 D n K0 m) K0 x0 x1 x2)
def spec_l21Rows_x0_0 (D:DX)(n:Nat) (v0_0:tRows):Option ((tRows×Unit)×Unit):=some ((v0_0,()),())
def spec_l21Rows_LP0 (D:DX)(n:Nat):(tRows)→(Int)→(tRows)→Option ((tRows×Unit)×Unit):=(fun x0 x1 x2=>spec_l21Rows_L0 D n (fun v0_0=>spec_l21Rows_x0_0 D n v0_0) n x0 x1 x2)
def spec_l21Rows_e (D:DX)(n:Nat) (lp0:tRows→Int→tRows→Option ((tRows×Unit)×Unit)) (a0:tRows):Option ((tRows×Unit)×Unit):=lp0 a0 0 []
def F_spec_l21Rows (D:DX)(n:Nat) (a0:tRows):Option ((tRows×Unit)×Unit):=spec_l21Rows_e D n (spec_l21Rows_LP0 D n) a0
def spec_l21Rows_Q0 (x0:tRows) (x1:Int) (x2:tRows):St:=stq 22 [(0,AV.val (Ty.sl (Ty.sl yV)) x0),(3,AV.brw 3 [] 0),(4,avI x1)] [(3,Root.mk (Ty.sl (Ty.sl yV)) (Mk.own 0 (Mk.own 0 (Mk.pr Mk.no (Mk.pr Mk.no (Mk.pr Mk.no Mk.no))))) x2 false)] 
def spec_l21Rows_Q0_0 (v0_0:tRows):St:=stq 22 [(3,AV.brw 3 [] 0)] [(3,Root.mk (Ty.sl (Ty.sl yV)) (Mk.own 0 (Mk.own 0 (Mk.pr Mk.no (Mk.pr Mk.no (Mk.pr Mk.no Mk.no))))) v0_0 false)] 
theorem spec_l21Rows_SB0 (D:DX)(n:Nat) (m:Nat) (K:Ex→St→Option (Out ctx 138)) (x0:tRows) (x1:Int) (x2:tRows) :
  LQ funcTab D n 138 [.r,.r,.l,.r,.l] (m+1) (spec_l21Rows_Q0 x0 x1 x2) K=spec_l21Rows_b0 D n (fun x0 x1 x2=>LQ funcTab D n 138 [.r,.r,.l,.r,.l] m (spec_l21Rows_Q0 x0 x1 x2) K) (fun v0_0=>K (Ex.exit 0) (spec_l21Rows_Q0_0 v0_0)) x0 x1 x2:=by kernel_rfl
theorem spec_l21Rows_EL0 (D:DX)(n:Nat) (K:Ex→St→Option (Out ctx 138)):∀ (m:Nat) (x0:tRows) (x1:Int) (x2:tRows),LQ funcTab D n 138 [.r,.r,.l,.r,.l] m (spec_l21Rows_Q0 x0 x1 x2) K=spec_l21Rows_L0 D n (fun v0_0=>K (Ex.exit 0) (spec_l21Rows_Q0_0 v0_0)) m x0 x1 x2
  | 0,x0,x1,x2=>LQ_zero ..
  | m+1,x0,x1,x2=>by
    have ih:(fun x0 x1 x2=>LQ funcTab D n 138 [.r,.r,.l,.r,.l] m (spec_l21Rows_Q0 x0 x1 x2) K)=spec_l21Rows_L0 D n (fun v0_0=>K (Ex.exit 0) (spec_l21Rows_Q0_0 v0_0)) m:=by funext x0 x1 x2;exact spec_l21Rows_EL0 D n K m x0 x1 x2
    rw[spec_l21Rows_SB0]
    rw[ih];rfl
theorem spec_l21Rows_X0_0 (D:DX)(n:Nat) (v0_0:tRows) :
  (CQ funcTab D n 138 [] [.r,.r,.l,.r,.l] (lastK funcTab 138)) (Ex.exit 0) (spec_l21Rows_Q0_0 v0_0)=spec_l21Rows_x0_0 D n v0_0:=by kernel_rfl
theorem spec_l21Rows_ELP0 (D:DX)(n:Nat) (x0:tRows) (x1:Int) (x2:tRows) :
  LQ funcTab D n 138 [.r,.r,.l,.r,.l] n (spec_l21Rows_Q0 x0 x1 x2) (CQ funcTab D n 138 [] [.r,.r,.l,.r,.l] (lastK funcTab 138))=spec_l21Rows_LP0 D n x0 x1 x2:=by
  rw[spec_l21Rows_EL0]
  simp only[spec_l21Rows_X0_0]
  rfl
theorem E_spec_l21Rows (D:DX)(n:Nat) (a0:tRows):rfC funcTab D n 138 (a0,())=F_spec_l21Rows D n a0:=by
  have h:rfC funcTab D n 138 (a0,())=spec_l21Rows_e D n (fun x0 x1 x2=>LQ funcTab D n 138 [.r,.r,.l,.r,.l] n (spec_l21Rows_Q0 x0 x1 x2) (CQ funcTab D n 138 [] [.r,.r,.l,.r,.l] (lastK funcTab 138))) a0:=by kernel_rfl
  rw[h]
  simp only[spec_l21Rows_ELP0]
  rfl





def slices_Contains_int_int_e (D:DX)(n:Nat) (a0:List Int) (a1:Int):Option ((Bool×Unit)×Unit):=bindD (C_slices_Index_int_int D a0 a1) fun b↦some ((decide (Prod.fst (Prod.fst b)≥0),()),())
def F_slices_Contains_int_int (D:DX)(n:Nat) (a0:List Int) (a1:Int):Option ((Bool×Unit)×Unit):=slices_Contains_int_int_e D n a0 a1
theorem E_slices_Contains_int_int (D:DX)(n:Nat) (a0:List Int) (a1:Int):rfC funcTab D n 147 (a0,(a1,()))=F_slices_Contains_int_int D n a0 a1:=by kernel_rfl

def slices_IndexFunc_impl_Index_impl_Index_b0 (D:DX)(n:Nat) (a1:Clo) (go:tIxs→Int→Int→Option ((Int×Unit)×Unit)) (K0:Int→Option ((Int×Unit)×Unit)) (K1:Option ((Int×Unit)×Unit)) (x0:tIxs) (x1:Int) (x2:Int):Option ((Int×Unit)×Unit):=br (decide (x2<x1)) (br (decide (0≤x2)&&decide (x2<(↑(List.length x0):Int))) (bindD (applyClo ctx D a1 [CapV.val (Ty.pair Ty.str (Ty.pair (Ty.sl (Ty.int IntKind.i64)) (Ty.pair Ty.bool Ty.unit))) (List.getD x0 (Int.toNat x2) (ByteArray.empty,[],false,()))] Ty.bool) fun b↦br b (K0 x2) (go x0 x1 (IntKind.wrap IntKind.i64 (x2+1)))) none) K1
def slices_IndexFunc_impl_Index_impl_Index_L0 (D:DX)(n:Nat) (a1:Clo) (K0:Int→Option ((Int×Unit)×Unit)) (K1:Option ((Int×Unit)×Unit)):Nat→(tIxs)→(Int)→(Int)→Option ((Int×Unit)×Unit) | 0=>(fun x0 x1 x2=>none) | m+1=>(fun x0 x1 x2=>slices_IndexFunc_impl_Index_impl_Index_b0 D n a1 (slices_IndexFunc_impl_Index_impl_Index_L0 D n a1 K0 K1 m) K0 K1 x0 x1 x2)
def slices_IndexFunc_impl_Index_impl_Index_x0_0 (D:DX)(n:Nat) (a1:Clo) (v0_0:Int):Option ((Int×Unit)×Unit):=some ((v0_0,()),())
def slices_IndexFunc_impl_Index_impl_Index_x0_1 (D:DX)(n:Nat) (a1:Clo):Option ((Int×Unit)×Unit):=some ((-1,()),())
def slices_IndexFunc_impl_Index_impl_Index_LP0 (D:DX)(n:Nat) (a1:Clo):(tIxs)→(Int)→(Int)→Option ((Int×Unit)×Unit):=(fun x0 x1 x2=>slices_IndexFunc_impl_Index_impl_Index_L0 D n a1 (fun v0_0=>slices_IndexFunc_impl_Index_impl_Index_x0_0 D n a1 v0_0) (slices_IndexFunc_impl_Index_impl_Index_x0_1 D n a1) n x0 x1 x2)
def slices_IndexFunc_impl_Index_impl_Index_e (D:DX)(n:Nat) (a1:Clo) (lp0:tIxs→Int→Int→Option ((Int×Unit)×Unit)) (a0:tIxs):Option ((Int×Unit)×Unit):=lp0 a0 (↑(List.length a0):Int) 0
def F_slices_IndexFunc_impl_Index_impl_Index (D:DX)(n:Nat) (a0:tIxs) (a1:Clo):Option ((Int×Unit)×Unit):=slices_IndexFunc_impl_Index_impl_Index_e D n a1 (slices_IndexFunc_impl_Index_impl_Index_LP0 D n a1) a0
def slices_IndexFunc_impl_Index_impl_Index_Q0 (a1:Clo) (x0:tIxs) (x1:Int) (x2:Int):St:=stq 19 [(0,AV.val (Ty.sl yX) x0),(1,AV.cloV a1),(7,avI x1),(8,avI x2)] [] 
def slices_IndexFunc_impl_Index_impl_Index_Q0_0 (a1:Clo) (v0_0:Int):St:=stq 19 [(4,avI v0_0)] [] 
def slices_IndexFunc_impl_Index_impl_Index_Q0_1 (a1:Clo):St:=stq 19 [] [] 
theorem slices_IndexFunc_impl_Index_impl_Index_SB0 (D:DX)(n:Nat) (a1:Clo) (m:Nat) (K:Ex→St→Option (Out ctx 148)) (x0:tIxs) (x1:Int) (x2:Int) :
  LQ funcTab D n 148 [.r,.l,.r,.l] (m+1) (slices_IndexFunc_impl_Index_impl_Index_Q0 a1 x0 x1 x2) K=slices_IndexFunc_impl_Index_impl_Index_b0 D n a1 (fun x0 x1 x2=>LQ funcTab D n 148 [.r,.l,.r,.l] m (slices_IndexFunc_impl_Index_impl_Index_Q0 a1 x0 x1 x2) K) (fun v0_0=>K (Ex.ret) (slices_IndexFunc_impl_Index_impl_Index_Q0_0 a1 v0_0)) (K (Ex.exit 0) (slices_IndexFunc_impl_Index_impl_Index_Q0_1 a1)) x0 x1 x2:=by kernel_rfl
theorem slices_IndexFunc_impl_Index_impl_Index_EL0 (D:DX)(n:Nat) (a1:Clo) (K:Ex→St→Option (Out ctx 148)):∀ (m:Nat) (x0:tIxs) (x1:Int) (x2:Int),LQ funcTab D n 148 [.r,.l,.r,.l] m (slices_IndexFunc_impl_Index_impl_Index_Q0 a1 x0 x1 x2) K=slices_IndexFunc_impl_Index_impl_Index_L0 D n a1 (fun v0_0=>K (Ex.ret) (slices_IndexFunc_impl_Index_impl_Index_Q0_0 a1 v0_0)) (K (Ex.exit 0) (slices_IndexFunc_impl_Index_impl_Index_Q0_1 a1)) m x0 x1 x2
  | 0,x0,x1,x2=>LQ_zero ..
  | m+1,x0,x1,x2=>by
    have ih:(fun x0 x1 x2=>LQ funcTab D n 148 [.r,.l,.r,.l] m (slices_IndexFunc_impl_Index_impl_Index_Q0 a1 x0 x1 x2) K)=slices_IndexFunc_impl_Index_impl_Index_L0 D n a1 (fun v0_0=>K (Ex.ret) (slices_IndexFunc_impl_Index_impl_Index_Q0_0 a1 v0_0)) (K (Ex.exit 0) (slices_IndexFunc_impl_Index_impl_Index_Q0_1 a1)) m:=by funext x0 x1 x2;exact slices_IndexFunc_impl_Index_impl_Index_EL0 D n a1 K m x0 x1 x2
    rw[slices_IndexFunc_impl_Index_impl_Index_SB0]
    rw[ih];rfl
theorem slices_IndexFunc_impl_Index_impl_Index_X0_0 (D:DX)(n:Nat) (a1:Clo) (v0_0:Int) :
  (CQ funcTab D n 148 [] [.r,.l,.r,.l] (lastK funcTab 148)) (Ex.ret) (slices_IndexFunc_impl_Index_impl_Index_Q0_0 a1 v0_0)=slices_IndexFunc_impl_Index_impl_Index_x0_0 D n a1 v0_0:=by kernel_rfl
theorem slices_IndexFunc_impl_Index_impl_Index_X0_1 (D:DX)(n:Nat) (a1:Clo) :
  (CQ funcTab D n 148 [] [.r,.l,.r,.l] (lastK funcTab 148)) (Ex.exit 0) (slices_IndexFunc_impl_Index_impl_Index_Q0_1 a1)=slices_IndexFunc_impl_Index_impl_Index_x0_1 D n a1:=by kernel_rfl
theorem slices_IndexFunc_impl_Index_impl_Index_ELP0 (D:DX)(n:Nat) (a1:Clo) (x0:tIxs) (x1:Int) (x2:Int) :
  LQ funcTab D n 148 [.r,.l,.r,.l] n (slices_IndexFunc_impl_Index_impl_Index_Q0 a1 x0 x1 x2) (CQ funcTab D n 148 [] [.r,.l,.r,.l] (lastK funcTab 148))=slices_IndexFunc_impl_Index_impl_Index_LP0 D n a1 x0 x1 x2:=by
  rw[slices_IndexFunc_impl_Index_impl_Index_EL0]
  simp only[slices_IndexFunc_impl_Index_impl_Index_X0_0,slices_IndexFunc_impl_Index_impl_Index_X0_1]
  rfl
theorem E_slices_IndexFunc_impl_Index_impl_Index (D:DX)(n:Nat) (a0:tIxs) (a1:Clo):rfC funcTab D n 148 (a0,(a1,()))=F_slices_IndexFunc_impl_Index_impl_Index D n a0 a1:=by
  have h:rfC funcTab D n 148 (a0,(a1,()))=slices_IndexFunc_impl_Index_impl_Index_e D n a1 (fun x0 x1 x2=>LQ funcTab D n 148 [.r,.l,.r,.l] n (slices_IndexFunc_impl_Index_impl_Index_Q0 a1 x0 x1 x2) (CQ funcTab D n 148 [] [.r,.l,.r,.l] (lastK funcTab 148))) a0:=by kernel_rfl
  rw[h]
  simp only[slices_IndexFunc_impl_Index_impl_Index_ELP0]
  rfl

def slices_IndexFunc_int_int_b0 (D:DX)(n:Nat) (a1:Clo) (go:List Int→Int→Int→Option ((Int×Unit)×Unit)) (K0:Int→Option ((Int×Unit)×Unit)) (K1:Option ((Int×Unit)×Unit)) (x0:List Int) (x1:Int) (x2:Int):Option ((Int×Unit)×Unit):=br (decide (x2<x1)) (br (decide (0≤x2)&&decide (x2<(↑(List.length x0):Int))) (bindD (applyClo ctx D a1 [CapV.val (Ty.int IntKind.i64) (List.getD x0 (Int.toNat x2) 0)] Ty.bool) fun b↦br b (K0 x2) (go x0 x1 (IntKind.wrap IntKind.i64 (x2+1)))) none) K1
def slices_IndexFunc_int_int_L0 (D:DX)(n:Nat) (a1:Clo) (K0:Int→Option ((Int×Unit)×Unit)) (K1:Option ((Int×Unit)×Unit)):Nat→(List Int)→(Int)→(Int)→Option ((Int×Unit)×Unit) | 0=>(fun x0 x1 x2=>none) | m+1=>(fun x0 x1 x2=>slices_IndexFunc_int_int_b0 D n a1 (slices_IndexFunc_int_int_L0 D n a1 K0 K1 m) K0 K1 x0 x1 x2)
def slices_IndexFunc_int_int_x0_0 (D:DX)(n:Nat) (a1:Clo) (v0_0:Int):Option ((Int×Unit)×Unit):=some ((v0_0,()),())
def slices_IndexFunc_int_int_x0_1 (D:DX)(n:Nat) (a1:Clo):Option ((Int×Unit)×Unit):=some ((-1,()),())
def slices_IndexFunc_int_int_LP0 (D:DX)(n:Nat) (a1:Clo):(List Int)→(Int)→(Int)→Option ((Int×Unit)×Unit):=(fun x0 x1 x2=>slices_IndexFunc_int_int_L0 D n a1 (fun v0_0=>slices_IndexFunc_int_int_x0_0 D n a1 v0_0) (slices_IndexFunc_int_int_x0_1 D n a1) n x0 x1 x2)
def slices_IndexFunc_int_int_e (D:DX)(n:Nat) (a1:Clo) (lp0:List Int→Int→Int→Option ((Int×Unit)×Unit)) (a0:List Int):Option ((Int×Unit)×Unit):=lp0 a0 (↑(List.length a0):Int) 0
def F_slices_IndexFunc_int_int (D:DX)(n:Nat) (a0:List Int) (a1:Clo):Option ((Int×Unit)×Unit):=slices_IndexFunc_int_int_e D n a1 (slices_IndexFunc_int_int_LP0 D n a1) a0
def slices_IndexFunc_int_int_Q0 (a1:Clo) (x0:List Int) (x1:Int) (x2:Int):St:=stq 19 [(0,AV.val (Ty.sl yI) x0),(1,AV.cloV a1),(7,avI x1),(8,avI x2)] [] 
def slices_IndexFunc_int_int_Q0_0 (a1:Clo) (v0_0:Int):St:=stq 19 [(4,avI v0_0)] [] 
def slices_IndexFunc_int_int_Q0_1 (a1:Clo):St:=stq 19 [] [] 
theorem slices_IndexFunc_int_int_SB0 (D:DX)(n:Nat) (a1:Clo) (m:Nat) (K:Ex→St→Option (Out ctx 149)) (x0:List Int) (x1:Int) (x2:Int) :
  LQ funcTab D n 149 [.r,.l,.r,.l] (m+1) (slices_IndexFunc_int_int_Q0 a1 x0 x1 x2) K=slices_IndexFunc_int_int_b0 D n a1 (fun x0 x1 x2=>LQ funcTab D n 149 [.r,.l,.r,.l] m (slices_IndexFunc_int_int_Q0 a1 x0 x1 x2) K) (fun v0_0=>K (Ex.ret) (slices_IndexFunc_int_int_Q0_0 a1 v0_0)) (K (Ex.exit 0) (slices_IndexFunc_int_int_Q0_1 a1)) x0 x1 x2:=by kernel_rfl
theorem slices_IndexFunc_int_int_EL0 (D:DX)(n:Nat) (a1:Clo) (K:Ex→St→Option (Out ctx 149)):∀ (m:Nat) (x0:List Int) (x1:Int) (x2:Int),LQ funcTab D n 149 [.r,.l,.r,.l] m (slices_IndexFunc_int_int_Q0 a1 x0 x1 x2) K=slices_IndexFunc_int_int_L0 D n a1 (fun v0_0=>K (Ex.ret) (slices_IndexFunc_int_int_Q0_0 a1 v0_0)) (K (Ex.exit 0) (slices_IndexFunc_int_int_Q0_1 a1)) m x0 x1 x2
  | 0,x0,x1,x2=>LQ_zero ..
  | m+1,x0,x1,x2=>by
    have ih:(fun x0 x1 x2=>LQ funcTab D n 149 [.r,.l,.r,.l] m (slices_IndexFunc_int_int_Q0 a1 x0 x1 x2) K)=slices_IndexFunc_int_int_L0 D n a1 (fun v0_0=>K (Ex.ret) (slices_IndexFunc_int_int_Q0_0 a1 v0_0)) (K (Ex.exit 0) (slices_IndexFunc_int_int_Q0_1 a1)) m:=by funext x0 x1 x2;exact slices_IndexFunc_int_int_EL0 D n a1 K m x0 x1 x2
    rw[slices_IndexFunc_int_int_SB0]
    rw[ih];rfl
theorem slices_IndexFunc_int_int_X0_0 (D:DX)(n:Nat) (a1:Clo) (v0_0:Int) :
  (CQ funcTab D n 149 [] [.r,.l,.r,.l] (lastK funcTab 149)) (Ex.ret) (slices_IndexFunc_int_int_Q0_0 a1 v0_0)=slices_IndexFunc_int_int_x0_0 D n a1 v0_0:=by kernel_rfl
theorem slices_IndexFunc_int_int_X0_1 (D:DX)(n:Nat) (a1:Clo) :
  (CQ funcTab D n 149 [] [.r,.l,.r,.l] (lastK funcTab 149)) (Ex.exit 0) (slices_IndexFunc_int_int_Q0_1 a1)=slices_IndexFunc_int_int_x0_1 D n a1:=by kernel_rfl
theorem slices_IndexFunc_int_int_ELP0 (D:DX)(n:Nat) (a1:Clo) (x0:List Int) (x1:Int) (x2:Int) :
  LQ funcTab D n 149 [.r,.l,.r,.l] n (slices_IndexFunc_int_int_Q0 a1 x0 x1 x2) (CQ funcTab D n 149 [] [.r,.l,.r,.l] (lastK funcTab 149))=slices_IndexFunc_int_int_LP0 D n a1 x0 x1 x2:=by
  rw[slices_IndexFunc_int_int_EL0]
  simp only[slices_IndexFunc_int_int_X0_0,slices_IndexFunc_int_int_X0_1]
  rfl
theorem E_slices_IndexFunc_int_int (D:DX)(n:Nat) (a0:List Int) (a1:Clo):rfC funcTab D n 149 (a0,(a1,()))=F_slices_IndexFunc_int_int D n a0 a1:=by
  have h:rfC funcTab D n 149 (a0,(a1,()))=slices_IndexFunc_int_int_e D n a1 (fun x0 x1 x2=>LQ funcTab D n 149 [.r,.l,.r,.l] n (slices_IndexFunc_int_int_Q0 a1 x0 x1 x2) (CQ funcTab D n 149 [] [.r,.l,.r,.l] (lastK funcTab 149))) a0:=by kernel_rfl
  rw[h]
  simp only[slices_IndexFunc_int_int_ELP0]
  rfl



def spec_l19DrawRight_b0 (D:DX)(n:Nat) (go:Int→Int→List Int×Int×Int×Unit→tSch→tSch→List ByteArray→Option (((tSch)×Unit)×tCur×Unit)) (K0:Int→List Int×Int×Int×Unit→tSch→tSch→Option (((tSch)×Unit)×tCur×Unit)) (x0:Int) (x1:Int) (x2:List Int×Int×Int×Unit) (x3:tSch) (x4:tSch) (x5:List ByteArray):Option (((tSch)×Unit)×tCur×Unit):=br (decide (x1<x0)) (br (decide (0≤x1)&&decide (x1<(↑(List.length x5):Int))) (bindD (C_spec_l1Below D x2 3) fun b↦br (decide (x1>0)) (bindD (C_spec_l1Once D (Prod.fst (Prod.snd b)) 2) fun b_1↦br (decide (List.length (Prod.fst x4)+1≤bound)) (go x0 (IntKind.wrap IntKind.i64 (x1+1)) (Prod.fst (Prod.snd b_1)) x3 (Prod.fst x4++[(List.getD x5 (Int.toNat x1) ByteArray.empty,IntKind.wrap IntKind.i64 (1+Prod.fst (Prod.fst b)),Prod.fst (Prod.fst b_1),())],Prod.snd x4) x5) none) (br (decide (List.length (Prod.fst x4)+1≤bound)) (go x0 (IntKind.wrap IntKind.i64 (x1+1)) (Prod.fst (Prod.snd b)) x3 (Prod.fst x4++[(List.getD x5 (Int.toNat x1) ByteArray.empty,IntKind.wrap IntKind.i64 (1+Prod.fst (Prod.fst b)),false,())],Prod.snd x4) x5) none)) none) (K0 x0 x2 x3 x4)
def spec_l19DrawRight_L0 (D:DX)(n:Nat) (K0:Int→List Int×Int×Int×Unit→tSch→tSch→Option (((tSch)×Unit)×tCur×Unit)):Nat→(Int)→(Int)→tCur→(tSch)→(tSch)→(List ByteArray)→Option (((tSch)×Unit)×tCur×Unit) | 0=>(fun x0 x1 x2 x3 x4 x5=>none) | m+1=>(fun x0 x1 x2 x3 x4 x5=>spec_l19DrawRight_b0 D n (spec_l19DrawRight_L0 D n K0 m) K0 x0 x1 x2 x3 x4 x5)
def spec_l19DrawRight_b1 (D:DX)(n:Nat) (go:Int→Int→List Int×Int×Int×Unit→tSch→tSch→Option (((tSch)×Unit)×tCur×Unit)) (K0:List Int×Int×Int×Unit→tSch→tSch→Option (((tSch)×Unit)×tCur×Unit)) (x1_0:Int) (x1_1:Int) (x1_2:List Int×Int×Int×Unit) (x1_3:tSch) (x1_4:tSch):Option (((tSch)×Unit)×tCur×Unit):=bindD (C_spec_l1Below D x1_2 3) fun b↦br (decide (x1_1<Prod.fst (Prod.fst b))) (bindD (C_spec_l1Below D (Prod.fst (Prod.snd b)) (IntKind.wrap IntKind.i64 (x1_0 - 1))) fun b↦br (decide (0≤x1_1)&&decide (x1_1<(↑3:Int))) (bindD (C_spec_l1Once D (Prod.fst (Prod.snd b)) 2) fun b_1↦bindD (C_spec_l1Once D (Prod.fst (Prod.snd b_1)) 2) fun b_2↦br (Prod.fst (Prod.fst b_2)) (br (decide (x1_0=0)) none (br (decide (List.length (Prod.fst (Prod.snd (Prod.snd x1_4)))+1≤bound)) (go x1_0 (IntKind.wrap IntKind.i64 (x1_1+1)) (Prod.fst (Prod.snd b_2)) x1_3 (Prod.fst x1_4,Prod.fst (Prod.snd x1_4),Prod.fst (Prod.snd (Prod.snd x1_4))++[(List.getD [ByteArray.mk #[UInt8.ofNat 120],ByteArray.mk #[UInt8.ofNat 121],ByteArray.mk #[UInt8.ofNat 122]] (Int.toNat x1_1) ByteArray.empty,[IntKind.wrap IntKind.i64 (1+Prod.fst (Prod.fst b))]++[Int.tmod (IntKind.wrap IntKind.i64 (IntKind.wrap IntKind.i64 (1+Prod.fst (Prod.fst b))+1)) x1_0],Prod.fst (Prod.fst b_1),())],Prod.snd (Prod.snd (Prod.snd x1_4)))) none)) (br (decide (List.length (Prod.fst (Prod.snd (Prod.snd x1_4)))+1≤bound)) (go x1_0 (IntKind.wrap IntKind.i64 (x1_1+1)) (Prod.fst (Prod.snd b_2)) x1_3 (Prod.fst x1_4,Prod.fst (Prod.snd x1_4),Prod.fst (Prod.snd (Prod.snd x1_4))++[(List.getD [ByteArray.mk #[UInt8.ofNat 120],ByteArray.mk #[UInt8.ofNat 121],ByteArray.mk #[UInt8.ofNat 122]] (Int.toNat x1_1) ByteArray.empty,[IntKind.wrap IntKind.i64 (1+Prod.fst (Prod.fst b))],Prod.fst (Prod.fst b_1),())],Prod.snd (Prod.snd (Prod.snd x1_4)))) none)) none) (K0 (Prod.fst (Prod.snd b)) x1_3 x1_4)
def spec_l19DrawRight_L1 (D:DX)(n:Nat) (K0:List Int×Int×Int×Unit→tSch→tSch→Option (((tSch)×Unit)×tCur×Unit)):Nat→(Int)→(Int)→tCur→(tSch)→(tSch)→Option (((tSch)×Unit)×tCur×Unit) | 0=>(fun x1_0 x1_1 x1_2 x1_3 x1_4=>none) | m+1=>(fun x1_0 x1_1 x1_2 x1_3 x1_4=>spec_l19DrawRight_b1 D n (spec_l19DrawRight_L1 D n K0 m) K0 x1_0 x1_1 x1_2 x1_3 x1_4)
def spec_l19DrawRight_x1_0 (D:DX)(n:Nat) (v0_0:List Int×Int×Int×Unit) (v0_1:tSch) (v0_2:tSch):Option (((tSch)×Unit)×tCur×Unit):=bindD (C_spec_l1PickInt D v0_0 [2,3]) fun b↦br (decide (0≤0)&&decide (0<(↑(List.length (Prod.fst v0_2)):Int))) (some (((List.set (Prod.fst v0_2) 0 (Prod.fst (List.getD (Prod.fst v0_2) 0 (ByteArray.empty,0,false,())),Prod.fst (Prod.fst b),Prod.snd (Prod.snd (List.getD (Prod.fst v0_2) 0 (ByteArray.empty,0,false,())))),Prod.fst (Prod.snd v0_2),Prod.fst (Prod.snd (Prod.snd v0_2)),()),()),Prod.fst (Prod.snd b),())) none
def spec_l19DrawRight_LP1 (D:DX)(n:Nat):(Int)→(Int)→tCur→(tSch)→(tSch)→Option (((tSch)×Unit)×tCur×Unit):=(fun x1_0 x1_1 x1_2 x1_3 x1_4=>spec_l19DrawRight_L1 D n (fun v0_0 v0_1 v0_2=>spec_l19DrawRight_x1_0 D n v0_0 v0_1 v0_2) n x1_0 x1_1 x1_2 x1_3 x1_4)
def spec_l19DrawRight_x0_0 (D:DX)(n:Nat) (lp1:Int→Int→List Int×Int×Int×Unit→tSch→tSch→Option (((tSch)×Unit)×tCur×Unit)) (v0_0:Int) (v0_1:List Int×Int×Int×Unit) (v0_2:tSch) (v0_3:tSch):Option (((tSch)×Unit)×tCur×Unit):=lp1 v0_0 0 v0_1 v0_2 (Prod.fst v0_3,[0],Prod.snd (Prod.snd v0_3))
def spec_l19DrawRight_LP0 (D:DX)(n:Nat):(Int)→(Int)→tCur→(tSch)→(tSch)→(List ByteArray)→Option (((tSch)×Unit)×tCur×Unit):=(fun x0 x1 x2 x3 x4 x5=>spec_l19DrawRight_L0 D n (fun v0_0 v0_1 v0_2 v0_3=>spec_l19DrawRight_x0_0 D n (spec_l19DrawRight_LP1 D n) v0_0 v0_1 v0_2 v0_3) n x0 x1 x2 x3 x4 x5)
def spec_l19DrawRight_e (D:DX)(n:Nat) (lp0:Int→Int→List Int×Int×Int×Unit→tSch→tSch→List ByteArray→Option (((tSch)×Unit)×tCur×Unit)) (a0:List Int×Int×Int×Unit):Option (((tSch)×Unit)×tCur×Unit):=bindD (C_spec_l1Below D a0 3) fun b↦lp0 (IntKind.wrap IntKind.i64 (2+Prod.fst (Prod.fst b))) 0 (Prod.fst (Prod.snd b)) ([],[],[],()) ([],[],[],()) [ByteArray.mk #[UInt8.ofNat 105,UInt8.ofNat 100],ByteArray.mk #[UInt8.ofNat 110,UInt8.ofNat 97,UInt8.ofNat 109,UInt8.ofNat 101],ByteArray.mk #[UInt8.ofNat 115,UInt8.ofNat 105,UInt8.ofNat 122,UInt8.ofNat 101],ByteArray.mk #[UInt8.ofNat 111,UInt8.ofNat 110]]
def F_spec_l19DrawRight (D:DX)(n:Nat) (a0:List Int×Int×Int×Unit):Option (((tSch)×Unit)×tCur×Unit):=spec_l19DrawRight_e D n (spec_l19DrawRight_LP0 D n) a0
def spec_l19DrawRight_Q0 (x0:Int) (x1:Int) (x2:List Int×Int×Int×Unit) (x3:tSch) (x4:tSch) (x5:List ByteArray):St:=stq 86 [(0,AV.addr 0 []),(2,AV.addr 2 []),(3,AV.addr 3 []),(4,AV.brw 4 [] 0),(5,avI x0),(6,avI x1)] [(0,Root.mk (Ty.pair (Ty.sl (Ty.int IntKind.u8)) (Ty.pair yI (Ty.pair yI Ty.unit))) Mk.no x2 true),(2,Root.mk yS (Mk.pr (Mk.own 0 (Mk.pr Mk.no (Mk.pr Mk.no (Mk.pr Mk.no Mk.no)))) (Mk.pr (Mk.own 0 Mk.no) (Mk.pr (Mk.own 0 (Mk.pr Mk.no (Mk.pr (Mk.own 0 Mk.no) (Mk.pr Mk.no Mk.no)))) Mk.no))) x3 true),(3,Root.mk yS (Mk.pr (Mk.own 0 (Mk.pr Mk.no (Mk.pr Mk.no (Mk.pr Mk.no Mk.no)))) (Mk.pr (Mk.own 0 Mk.no) (Mk.pr (Mk.own 0 (Mk.pr Mk.no (Mk.pr (Mk.own 0 Mk.no) (Mk.pr Mk.no Mk.no)))) Mk.no))) x4 true),(4,Root.mk (Ty.sl Ty.str) (Mk.own 0 Mk.no) x5 false)] 
def spec_l19DrawRight_Q0_0 (v0_0:Int) (v0_1:List Int×Int×Int×Unit) (v0_2:tSch) (v0_3:tSch):St:=stq 86 [(0,AV.addr 0 []),(2,AV.addr 2 []),(3,AV.addr 3 []),(5,avI v0_0)] [(0,Root.mk (Ty.pair (Ty.sl (Ty.int IntKind.u8)) (Ty.pair yI (Ty.pair yI Ty.unit))) Mk.no v0_1 true),(2,Root.mk yS (Mk.pr (Mk.own 0 (Mk.pr Mk.no (Mk.pr Mk.no (Mk.pr Mk.no Mk.no)))) (Mk.pr (Mk.own 0 Mk.no) (Mk.pr (Mk.own 0 (Mk.pr Mk.no (Mk.pr (Mk.own 0 Mk.no) (Mk.pr Mk.no Mk.no)))) Mk.no))) v0_2 true),(3,Root.mk yS (Mk.pr (Mk.own 0 (Mk.pr Mk.no (Mk.pr Mk.no (Mk.pr Mk.no Mk.no)))) (Mk.pr (Mk.own 0 Mk.no) (Mk.pr (Mk.own 0 (Mk.pr Mk.no (Mk.pr (Mk.own 0 Mk.no) (Mk.pr Mk.no Mk.no)))) Mk.no))) v0_3 true)] 
def spec_l19DrawRight_Q1 (x1_0:Int) (x1_1:Int) (x1_2:List Int×Int×Int×Unit) (x1_3:tSch) (x1_4:tSch):St:=stq 86 [(0,AV.addr 0 []),(2,AV.addr 2 []),(3,AV.addr 3 []),(5,avI x1_0),(7,avI x1_1)] [(0,Root.mk (Ty.pair (Ty.sl (Ty.int IntKind.u8)) (Ty.pair yI (Ty.pair yI Ty.unit))) Mk.no x1_2 true),(2,Root.mk yS (Mk.pr (Mk.own 0 (Mk.pr Mk.no (Mk.pr Mk.no (Mk.pr Mk.no Mk.no)))) (Mk.pr (Mk.own 0 Mk.no) (Mk.pr (Mk.own 0 (Mk.pr Mk.no (Mk.pr (Mk.own 0 Mk.no) (Mk.pr Mk.no Mk.no)))) Mk.no))) x1_3 true),(3,Root.mk yS (Mk.pr (Mk.own 0 (Mk.pr Mk.no (Mk.pr Mk.no (Mk.pr Mk.no Mk.no)))) (Mk.pr (Mk.own 0 Mk.no) (Mk.pr (Mk.own 0 (Mk.pr Mk.no (Mk.pr (Mk.own 0 Mk.no) (Mk.pr Mk.no Mk.no)))) Mk.no))) x1_4 true)] 
def spec_l19DrawRight_Q1_0 (v0_0:List Int×Int×Int×Unit) (v0_1:tSch) (v0_2:tSch):St:=stq 86 [(0,AV.addr 0 []),(2,AV.addr 2 []),(3,AV.addr 3 [])] [(0,Root.mk (Ty.pair (Ty.sl (Ty.int IntKind.u8)) (Ty.pair yI (Ty.pair yI Ty.unit))) Mk.no v0_0 true),(2,Root.mk yS (Mk.pr (Mk.own 0 (Mk.pr Mk.no (Mk.pr Mk.no (Mk.pr Mk.no Mk.no)))) (Mk.pr (Mk.own 0 Mk.no) (Mk.pr (Mk.own 0 (Mk.pr Mk.no (Mk.pr (Mk.own 0 Mk.no) (Mk.pr Mk.no Mk.no)))) Mk.no))) v0_1 true),(3,Root.mk yS (Mk.pr (Mk.own 0 (Mk.pr Mk.no (Mk.pr Mk.no (Mk.pr Mk.no Mk.no)))) (Mk.pr (Mk.own 0 Mk.no) (Mk.pr (Mk.own 0 (Mk.pr Mk.no (Mk.pr (Mk.own 0 Mk.no) (Mk.pr Mk.no Mk.no)))) Mk.no))) v0_2 true)] 
theorem spec_l19DrawRight_SB0 (D:DX)(n:Nat) (m:Nat) (K:Ex→St→Option (Out ctx 152)) (x0:Int) (x1:Int) (x2:List Int×Int×Int×Unit) (x3:tSch) (x4:tSch) (x5:List ByteArray) :
  LQ funcTab D n 152 [.r,.r,.r,.r,.l,.r,.l] (m+1) (spec_l19DrawRight_Q0 x0 x1 x2 x3 x4 x5) K=spec_l19DrawRight_b0 D n (fun x0 x1 x2 x3 x4 x5=>LQ funcTab D n 152 [.r,.r,.r,.r,.l,.r,.l] m (spec_l19DrawRight_Q0 x0 x1 x2 x3 x4 x5) K) (fun v0_0 v0_1 v0_2 v0_3=>K (Ex.exit 0) (spec_l19DrawRight_Q0_0 v0_0 v0_1 v0_2 v0_3)) x0 x1 x2 x3 x4 x5:=by kernel_rfl
theorem spec_l19DrawRight_EL0 (D:DX)(n:Nat) (K:Ex→St→Option (Out ctx 152)):∀ (m:Nat) (x0:Int) (x1:Int) (x2:List Int×Int×Int×Unit) (x3:tSch) (x4:tSch) (x5:List ByteArray),LQ funcTab D n 152 [.r,.r,.r,.r,.l,.r,.l] m (spec_l19DrawRight_Q0 x0 x1 x2 x3 x4 x5) K=spec_l19DrawRight_L0 D n (fun v0_0 v0_1 v0_2 v0_3=>K (Ex.exit 0) (spec_l19DrawRight_Q0_0 v0_0 v0_1 v0_2 v0_3)) m x0 x1 x2 x3 x4 x5
  | 0,x0,x1,x2,x3,x4,x5=>LQ_zero ..
  | m+1,x0,x1,x2,x3,x4,x5=>by
    have ih:(fun x0 x1 x2 x3 x4 x5=>LQ funcTab D n 152 [.r,.r,.r,.r,.l,.r,.l] m (spec_l19DrawRight_Q0 x0 x1 x2 x3 x4 x5) K)=spec_l19DrawRight_L0 D n (fun v0_0 v0_1 v0_2 v0_3=>K (Ex.exit 0) (spec_l19DrawRight_Q0_0 v0_0 v0_1 v0_2 v0_3)) m:=by funext x0 x1 x2 x3 x4 x5;exact spec_l19DrawRight_EL0 D n K m x0 x1 x2 x3 x4 x5
    rw[spec_l19DrawRight_SB0]
    rw[ih];rfl
theorem spec_l19DrawRight_SB1 (D:DX)(n:Nat) (m:Nat) (K:Ex→St→Option (Out ctx 152)) (x1_0:Int) (x1_1:Int) (x1_2:List Int×Int×Int×Unit) (x1_3:tSch) (x1_4:tSch) :
  LQ funcTab D n 152 [.r,.r,.r,.r,.r,.r,.l,.r,.l] (m+1) (spec_l19DrawRight_Q1 x1_0 x1_1 x1_2 x1_3 x1_4) K=spec_l19DrawRight_b1 D n (fun x1_0 x1_1 x1_2 x1_3 x1_4=>LQ funcTab D n 152 [.r,.r,.r,.r,.r,.r,.l,.r,.l] m (spec_l19DrawRight_Q1 x1_0 x1_1 x1_2 x1_3 x1_4) K) (fun v0_0 v0_1 v0_2=>K (Ex.exit 2) (spec_l19DrawRight_Q1_0 v0_0 v0_1 v0_2)) x1_0 x1_1 x1_2 x1_3 x1_4:=by kernel_rfl
theorem spec_l19DrawRight_EL1 (D:DX)(n:Nat) (K:Ex→St→Option (Out ctx 152)):∀ (m:Nat) (x1_0:Int) (x1_1:Int) (x1_2:List Int×Int×Int×Unit) (x1_3:tSch) (x1_4:tSch),LQ funcTab D n 152 [.r,.r,.r,.r,.r,.r,.l,.r,.l] m (spec_l19DrawRight_Q1 x1_0 x1_1 x1_2 x1_3 x1_4) K=spec_l19DrawRight_L1 D n (fun v0_0 v0_1 v0_2=>K (Ex.exit 2) (spec_l19DrawRight_Q1_0 v0_0 v0_1 v0_2)) m x1_0 x1_1 x1_2 x1_3 x1_4
  | 0,x1_0,x1_1,x1_2,x1_3,x1_4=>LQ_zero ..
  | m+1,x1_0,x1_1,x1_2,x1_3,x1_4=>by
    have ih:(fun x1_0 x1_1 x1_2 x1_3 x1_4=>LQ funcTab D n 152 [.r,.r,.r,.r,.r,.r,.l,.r,.l] m (spec_l19DrawRight_Q1 x1_0 x1_1 x1_2 x1_3 x1_4) K)=spec_l19DrawRight_L1 D n (fun v0_0 v0_1 v0_2=>K (Ex.exit 2) (spec_l19DrawRight_Q1_0 v0_0 v0_1 v0_2)) m:=by funext x1_0 x1_1 x1_2 x1_3 x1_4;exact spec_l19DrawRight_EL1 D n K m x1_0 x1_1 x1_2 x1_3 x1_4
    rw[spec_l19DrawRight_SB1]
    rw[ih];rfl
theorem spec_l19DrawRight_X1_0 (D:DX)(n:Nat) (v0_0:List Int×Int×Int×Unit) (v0_1:tSch) (v0_2:tSch) :
  (CQ funcTab D n 152 [] [.r,.r,.r,.r,.r,.r,.l,.r,.l] (lastK funcTab 152)) (Ex.exit 2) (spec_l19DrawRight_Q1_0 v0_0 v0_1 v0_2)=spec_l19DrawRight_x1_0 D n v0_0 v0_1 v0_2:=by kernel_rfl
theorem spec_l19DrawRight_ELP1 (D:DX)(n:Nat) (x1_0:Int) (x1_1:Int) (x1_2:List Int×Int×Int×Unit) (x1_3:tSch) (x1_4:tSch) :
  LQ funcTab D n 152 [.r,.r,.r,.r,.r,.r,.l,.r,.l] n (spec_l19DrawRight_Q1 x1_0 x1_1 x1_2 x1_3 x1_4) (CQ funcTab D n 152 [] [.r,.r,.r,.r,.r,.r,.l,.r,.l] (lastK funcTab 152))=spec_l19DrawRight_LP1 D n x1_0 x1_1 x1_2 x1_3 x1_4:=by
  rw[spec_l19DrawRight_EL1]
  simp only[spec_l19DrawRight_X1_0]
  rfl
theorem spec_l19DrawRight_X0_0 (D:DX)(n:Nat) (v0_0:Int) (v0_1:List Int×Int×Int×Unit) (v0_2:tSch) (v0_3:tSch) :
  (CQ funcTab D n 152 [] [.r,.r,.r,.r,.l,.r,.l] (lastK funcTab 152)) (Ex.exit 0) (spec_l19DrawRight_Q0_0 v0_0 v0_1 v0_2 v0_3)=spec_l19DrawRight_x0_0 D n (fun x1_0 x1_1 x1_2 x1_3 x1_4=>LQ funcTab D n 152 [.r,.r,.r,.r,.r,.r,.l,.r,.l] n (spec_l19DrawRight_Q1 x1_0 x1_1 x1_2 x1_3 x1_4) (CQ funcTab D n 152 [] [.r,.r,.r,.r,.r,.r,.l,.r,.l] (lastK funcTab 152))) v0_0 v0_1 v0_2 v0_3:=by kernel_rfl
theorem spec_l19DrawRight_ELP0 (D:DX)(n:Nat) (x0:Int) (x1:Int) (x2:List Int×Int×Int×Unit) (x3:tSch) (x4:tSch) (x5:List ByteArray) :
  LQ funcTab D n 152 [.r,.r,.r,.r,.l,.r,.l] n (spec_l19DrawRight_Q0 x0 x1 x2 x3 x4 x5) (CQ funcTab D n 152 [] [.r,.r,.r,.r,.l,.r,.l] (lastK funcTab 152))=spec_l19DrawRight_LP0 D n x0 x1 x2 x3 x4 x5:=by
  rw[spec_l19DrawRight_EL0]
  simp only[spec_l19DrawRight_X0_0,spec_l19DrawRight_ELP1]
  rfl
theorem E_spec_l19DrawRight (D:DX)(n:Nat) (a0:List Int×Int×Int×Unit):rfC funcTab D n 152 (a0,())=F_spec_l19DrawRight D n a0:=by
  have h:rfC funcTab D n 152 (a0,())=spec_l19DrawRight_e D n (fun x0 x1 x2 x3 x4 x5=>LQ funcTab D n 152 [.r,.r,.r,.r,.l,.r,.l] n (spec_l19DrawRight_Q0 x0 x1 x2 x3 x4 x5) (CQ funcTab D n 152 [] [.r,.r,.r,.r,.l,.r,.l] (lastK funcTab 152))) a0:=by kernel_rfl
  rw[h]
  simp only[spec_l19DrawRight_ELP0]
  rfl

def spec_l1PickInt_e (D:DX)(n:Nat) (a0:List Int×Int×Int×Unit) (a1:List Int):Option ((Int×Unit)×tCur×Unit):=bindD (C_spec_l1Below D a0 (↑(List.length a1):Int)) fun b↦br (decide (0≤Prod.fst (Prod.fst b))&&decide (Prod.fst (Prod.fst b)<(↑(List.length a1):Int))) (some ((List.getD a1 (Int.toNat (Prod.fst (Prod.fst b))) 0,()),Prod.fst (Prod.snd b),())) none
def F_spec_l1PickInt (D:DX)(n:Nat) (a0:List Int×Int×Int×Unit) (a1:List Int):Option ((Int×Unit)×tCur×Unit):=spec_l1PickInt_e D n a0 a1
theorem E_spec_l1PickInt (D:DX)(n:Nat) (a0:List Int×Int×Int×Unit) (a1:List Int):rfC funcTab D n 153 (a0,(a1,()))=F_spec_l1PickInt D n a0 a1:=by kernel_rfl

def spec_l1Once_e (D:DX)(n:Nat) (a0:List Int×Int×Int×Unit) (a1:Int):Option ((Bool×Unit)×tCur×Unit):=bindD (C_spec_l1Below D a0 a1) fun b↦some ((decide (Prod.fst (Prod.fst b)=0),()),Prod.fst (Prod.snd b),())
def F_spec_l1Once (D:DX)(n:Nat) (a0:List Int×Int×Int×Unit) (a1:Int):Option ((Bool×Unit)×tCur×Unit):=spec_l1Once_e D n a0 a1
theorem E_spec_l1Once (D:DX)(n:Nat) (a0:List Int×Int×Int×Unit) (a1:Int):rfC funcTab D n 154 (a0,(a1,()))=F_spec_l1Once D n a0 a1:=by kernel_rfl

def spec_l17DrawOf_e (D:DX)(n:Nat) (a0:List Int×Int×Int×Unit) (a1:Int):Option ((tVal×Unit)×tCur×Unit):=br (decide (a1=1)) (bindD (C_spec_l1Below D a0 2) fun b↦some (((a1,Prod.fst (Prod.fst b),ByteArray.empty,()),()),Prod.fst (Prod.snd b),())) (br (decide (a1=2)) (bindD (C_spec_l1PickInt D a0 [0,1,-1,7,255,256,-1000000000000,1000000000000]) fun b↦some (((a1,Prod.fst (Prod.fst b),ByteArray.empty,()),()),Prod.fst (Prod.snd b),())) (br (decide (a1=3)) (bindD (C_spec_l1Pick D a0 (List.set (List.set (List.set (List.set (List.set (List.set (List.set (List.set (List.set (List.replicate 9 ByteArray.empty) 0 (ByteArray.mk #[])) 1 (ByteArray.mk #[UInt8.ofNat 97])) 2 (ByteArray.mk #[UInt8.ofNat 97,UInt8.ofNat 98])) 3 (ByteArray.mk #[UInt8.ofNat 97,UInt8.ofNat 0])) 4 (ByteArray.mk #[UInt8.ofNat 97,UInt8.ofNat 0,UInt8.ofNat 98])) 5 (ByteArray.mk #[UInt8.ofNat 0])) 6 (ByteArray.mk #[UInt8.ofNat 1])) 7 (ByteArray.mk #[UInt8.ofNat 255])) 8 (ByteArray.mk #[UInt8.ofNat 98]))) fun b↦some (((a1,0,Prod.fst (Prod.fst b),()),()),Prod.fst (Prod.snd b),())) (some (((0,0,ByteArray.empty,()),()),a0,()))))
def F_spec_l17DrawOf (D:DX)(n:Nat) (a0:List Int×Int×Int×Unit) (a1:Int):Option ((tVal×Unit)×tCur×Unit):=spec_l17DrawOf_e D n a0 a1
theorem E_spec_l17DrawOf (D:DX)(n:Nat) (a0:List Int×Int×Int×Unit) (a1:Int):rfC funcTab D n 155 (a0,(a1,()))=F_spec_l17DrawOf D n a0 a1:=by kernel_rfl

def spec_l1Byte_e (D:DX)(n:Nat) (a0:List Int×Int×Int×Unit):Option ((Int×Unit)×tCur×Unit):=br (decide (Prod.fst (Prod.snd a0)<(↑(List.length (Prod.fst a0)):Int))) (br (decide (0≤Prod.fst (Prod.snd a0))&&decide (Prod.fst (Prod.snd a0)<(↑(List.length (Prod.fst a0)):Int))) (some ((IntKind.wrap IntKind.i64 (↑(BitVec.toNat (BitVec.and (BitVec.ofInt (IntKind.bits IntKind.i64) (IntKind.wrap IntKind.i64 (IntKind.wrap IntKind.i64 (↑(BitVec.toNat (BitVec.and (BitVec.ofInt (IntKind.bits IntKind.i64) (IntKind.wrap IntKind.i64 (↑(BitVec.toNat (BitVec.xor (BitVec.ofInt (IntKind.bits IntKind.i64) (Int.fdiv (IntKind.wrap IntKind.i64 (IntKind.wrap IntKind.i64 (Prod.fst (Prod.snd (Prod.snd a0)) * 6364136223846793005)+1442695040888963407)) (Int.pow 2 (if Int.toNat 33≤IntKind.bits IntKind.i64 then Int.toNat 33 else IntKind.bits IntKind.i64)))) (BitVec.ofInt (IntKind.bits IntKind.i64) (Int.fdiv (IntKind.wrap IntKind.i64 (IntKind.wrap IntKind.i64 (Prod.fst (Prod.snd (Prod.snd a0)) * 6364136223846793005)+1442695040888963407)) (Int.pow 2 (if Int.toNat 45≤IntKind.bits IntKind.i64 then Int.toNat 45 else IntKind.bits IntKind.i64)))))):Int))) (BitVec.ofInt (IntKind.bits IntKind.i64) 255))):Int)+IntKind.wrap IntKind.i64 (List.getD (Prod.fst a0) (Int.toNat (Prod.fst (Prod.snd a0))) 0)))) (BitVec.ofInt (IntKind.bits IntKind.i64) 255))):Int),()),(Prod.fst a0,IntKind.wrap IntKind.i64 (Prod.fst (Prod.snd a0)+1),IntKind.wrap IntKind.i64 (IntKind.wrap IntKind.i64 (Prod.fst (Prod.snd (Prod.snd a0)) * 6364136223846793005)+1442695040888963407),Prod.snd (Prod.snd (Prod.snd a0))),())) none) (some ((IntKind.wrap IntKind.i64 (↑(BitVec.toNat (BitVec.and (BitVec.ofInt (IntKind.bits IntKind.i64) (IntKind.wrap IntKind.i64 (↑(BitVec.toNat (BitVec.xor (BitVec.ofInt (IntKind.bits IntKind.i64) (Int.fdiv (IntKind.wrap IntKind.i64 (IntKind.wrap IntKind.i64 (Prod.fst (Prod.snd (Prod.snd a0)) * 6364136223846793005)+1442695040888963407)) (Int.pow 2 (if Int.toNat 33≤IntKind.bits IntKind.i64 then Int.toNat 33 else IntKind.bits IntKind.i64)))) (BitVec.ofInt (IntKind.bits IntKind.i64) (Int.fdiv (IntKind.wrap IntKind.i64 (IntKind.wrap IntKind.i64 (Prod.fst (Prod.snd (Prod.snd a0)) * 6364136223846793005)+1442695040888963407)) (Int.pow 2 (if Int.toNat 45≤IntKind.bits IntKind.i64 then Int.toNat 45 else IntKind.bits IntKind.i64)))))):Int))) (BitVec.ofInt (IntKind.bits IntKind.i64) 255))):Int),()),(Prod.fst a0,Prod.fst (Prod.snd a0),IntKind.wrap IntKind.i64 (IntKind.wrap IntKind.i64 (Prod.fst (Prod.snd (Prod.snd a0)) * 6364136223846793005)+1442695040888963407),Prod.snd (Prod.snd (Prod.snd a0))),()))
def F_spec_l1Byte (D:DX)(n:Nat) (a0:List Int×Int×Int×Unit):Option ((Int×Unit)×tCur×Unit):=spec_l1Byte_e D n a0
theorem E_spec_l1Byte (D:DX)(n:Nat) (a0:List Int×Int×Int×Unit):rfC funcTab D n 156 (a0,())=F_spec_l1Byte D n a0:=by kernel_rfl



def spec_ValueSame_e (D:DX)(n:Nat) (a0:Int×Int×ByteArray×Unit) (a1:Int×Int×ByteArray×Unit):Option ((Bool×Unit)×Unit):=some ((eqDen (Ty.pair (Ty.int IntKind.i64) (Ty.pair (Ty.int IntKind.i64) (Ty.pair Ty.str Ty.unit))) a0 a1,()),())
def F_spec_ValueSame (D:DX)(n:Nat) (a0:Int×Int×ByteArray×Unit) (a1:Int×Int×ByteArray×Unit):Option ((Bool×Unit)×Unit):=spec_ValueSame_e D n a0 a1
theorem E_spec_ValueSame (D:DX)(n:Nat) (a0:Int×Int×ByteArray×Unit) (a1:Int×Int×ByteArray×Unit):rfC funcTab D n 162 (a0,(a1,()))=F_spec_ValueSame D n a0 a1:=by kernel_rfl

def spec_ValueLess_e (D:DX)(n:Nat) (a0:Int×Int×ByteArray×Unit) (a1:Int×Int×ByteArray×Unit):Option ((Bool×Unit)×Unit):=br (Prod.fst a0 != Prod.fst a1) (some ((decide (Prod.fst a0<Prod.fst a1),()),())) (br (Prod.fst (Prod.snd a0) != Prod.fst (Prod.snd a1)) (some ((decide (Prod.fst (Prod.snd a0)<Prod.fst (Prod.snd a1)),()),())) (some ((Op.bytesLess (ByteArray.toList (Prod.fst (Prod.snd (Prod.snd a0)))) (ByteArray.toList (Prod.fst (Prod.snd (Prod.snd a1)))),()),())))
def F_spec_ValueLess (D:DX)(n:Nat) (a0:Int×Int×ByteArray×Unit) (a1:Int×Int×ByteArray×Unit):Option ((Bool×Unit)×Unit):=spec_ValueLess_e D n a0 a1
theorem E_spec_ValueLess (D:DX)(n:Nat) (a0:Int×Int×ByteArray×Unit) (a1:Int×Int×ByteArray×Unit):rfC funcTab D n 163 (a0,(a1,()))=F_spec_ValueLess D n a0 a1:=by kernel_rfl

def spec_l18Same_b0 (D:DX)(n:Nat) (go:tVals→tVals→Int→Option ((Bool×Unit)×Unit)) (K0:tVals→tVals→Bool→Option ((Bool×Unit)×Unit)) (K1:tVals→tVals→Option ((Bool×Unit)×Unit)) (x0:tVals) (x1:tVals) (x2:Int):Option ((Bool×Unit)×Unit):=br (bif decide (x2<(↑(List.length x0):Int)) then decide (x2<(↑(List.length x1):Int)) else false) (br (decide (0≤x2)&&decide (x2<(↑(List.length x0):Int))) (br (decide (0≤x2)&&decide (x2<(↑(List.length x1):Int))) (bindD (C_spec_ValueSame D (List.getD x0 (Int.toNat x2) (0,0,ByteArray.empty,())) (List.getD x1 (Int.toNat x2) (0,0,ByteArray.empty,()))) fun b↦br (!Prod.fst (Prod.fst b)) (K0 x0 x1 false) (go x0 x1 (IntKind.wrap IntKind.i64 (x2+1)))) none) none) (K1 x0 x1)
def spec_l18Same_L0 (D:DX)(n:Nat) (K0:tVals→tVals→Bool→Option ((Bool×Unit)×Unit)) (K1:tVals→tVals→Option ((Bool×Unit)×Unit)):Nat→(tVals)→(tVals)→(Int)→Option ((Bool×Unit)×Unit) | 0=>(fun x0 x1 x2=>none) | m+1=>(fun x0 x1 x2=>spec_l18Same_b0 D n (spec_l18Same_L0 D n K0 K1 m) K0 K1 x0 x1 x2)
def spec_l18Same_x0_0 (D:DX)(n:Nat) (v0_0:tVals) (v0_1:tVals) (v0_2:Bool):Option ((Bool×Unit)×Unit):=some ((v0_2,()),())
def spec_l18Same_x0_1 (D:DX)(n:Nat) (v1_0:tVals) (v1_1:tVals):Option ((Bool×Unit)×Unit):=some ((decide ((↑(List.length v1_0):Int)=(↑(List.length v1_1):Int)),()),())
def spec_l18Same_LP0 (D:DX)(n:Nat):(tVals)→(tVals)→(Int)→Option ((Bool×Unit)×Unit):=(fun x0 x1 x2=>spec_l18Same_L0 D n (fun v0_0 v0_1 v0_2=>spec_l18Same_x0_0 D n v0_0 v0_1 v0_2) (fun v1_0 v1_1=>spec_l18Same_x0_1 D n v1_0 v1_1) n x0 x1 x2)
def spec_l18Same_e (D:DX)(n:Nat) (lp0:tVals→tVals→Int→Option ((Bool×Unit)×Unit)) (a0:tVals) (a1:tVals):Option ((Bool×Unit)×Unit):=lp0 a0 a1 0
def F_spec_l18Same (D:DX)(n:Nat) (a0:tVals) (a1:tVals):Option ((Bool×Unit)×Unit):=spec_l18Same_e D n (spec_l18Same_LP0 D n) a0 a1
def spec_l18Same_Q0 (x0:tVals) (x1:tVals) (x2:Int):St:=stq 33 [(0,AV.val (Ty.sl yV) x0),(1,AV.val (Ty.sl yV) x1),(5,avI x2)] [] 
def spec_l18Same_Q0_0 (v0_0:tVals) (v0_1:tVals) (v0_2:Bool):St:=stq 33 [(0,AV.val (Ty.sl yV) v0_0),(1,AV.val (Ty.sl yV) v0_1),(4,AV.val Ty.bool v0_2)] [] 
def spec_l18Same_Q0_1 (v1_0:tVals) (v1_1:tVals):St:=stq 33 [(0,AV.val (Ty.sl yV) v1_0),(1,AV.val (Ty.sl yV) v1_1)] [] 
theorem spec_l18Same_SB0 (D:DX)(n:Nat) (m:Nat) (K:Ex→St→Option (Out ctx 164)) (x0:tVals) (x1:tVals) (x2:Int) :
  LQ funcTab D n 164 [.r,.l,.r,.l] (m+1) (spec_l18Same_Q0 x0 x1 x2) K=spec_l18Same_b0 D n (fun x0 x1 x2=>LQ funcTab D n 164 [.r,.l,.r,.l] m (spec_l18Same_Q0 x0 x1 x2) K) (fun v0_0 v0_1 v0_2=>K (Ex.ret) (spec_l18Same_Q0_0 v0_0 v0_1 v0_2)) (fun v1_0 v1_1=>K (Ex.exit 0) (spec_l18Same_Q0_1 v1_0 v1_1)) x0 x1 x2:=by kernel_rfl
theorem spec_l18Same_EL0 (D:DX)(n:Nat) (K:Ex→St→Option (Out ctx 164)):∀ (m:Nat) (x0:tVals) (x1:tVals) (x2:Int),LQ funcTab D n 164 [.r,.l,.r,.l] m (spec_l18Same_Q0 x0 x1 x2) K=spec_l18Same_L0 D n (fun v0_0 v0_1 v0_2=>K (Ex.ret) (spec_l18Same_Q0_0 v0_0 v0_1 v0_2)) (fun v1_0 v1_1=>K (Ex.exit 0) (spec_l18Same_Q0_1 v1_0 v1_1)) m x0 x1 x2
  | 0,x0,x1,x2=>LQ_zero ..
  | m+1,x0,x1,x2=>by
    have ih:(fun x0 x1 x2=>LQ funcTab D n 164 [.r,.l,.r,.l] m (spec_l18Same_Q0 x0 x1 x2) K)=spec_l18Same_L0 D n (fun v0_0 v0_1 v0_2=>K (Ex.ret) (spec_l18Same_Q0_0 v0_0 v0_1 v0_2)) (fun v1_0 v1_1=>K (Ex.exit 0) (spec_l18Same_Q0_1 v1_0 v1_1)) m:=by funext x0 x1 x2;exact spec_l18Same_EL0 D n K m x0 x1 x2
    rw[spec_l18Same_SB0]
    rw[ih];rfl
theorem spec_l18Same_X0_0 (D:DX)(n:Nat) (v0_0:tVals) (v0_1:tVals) (v0_2:Bool) :
  (CQ funcTab D n 164 [] [.r,.l,.r,.l] (lastK funcTab 164)) (Ex.ret) (spec_l18Same_Q0_0 v0_0 v0_1 v0_2)=spec_l18Same_x0_0 D n v0_0 v0_1 v0_2:=by kernel_rfl
theorem spec_l18Same_X0_1 (D:DX)(n:Nat) (v1_0:tVals) (v1_1:tVals) :
  (CQ funcTab D n 164 [] [.r,.l,.r,.l] (lastK funcTab 164)) (Ex.exit 0) (spec_l18Same_Q0_1 v1_0 v1_1)=spec_l18Same_x0_1 D n v1_0 v1_1:=by kernel_rfl
theorem spec_l18Same_ELP0 (D:DX)(n:Nat) (x0:tVals) (x1:tVals) (x2:Int) :
  LQ funcTab D n 164 [.r,.l,.r,.l] n (spec_l18Same_Q0 x0 x1 x2) (CQ funcTab D n 164 [] [.r,.l,.r,.l] (lastK funcTab 164))=spec_l18Same_LP0 D n x0 x1 x2:=by
  rw[spec_l18Same_EL0]
  simp only[spec_l18Same_X0_0,spec_l18Same_X0_1]
  rfl
theorem E_spec_l18Same (D:DX)(n:Nat) (a0:tVals) (a1:tVals):rfC funcTab D n 164 (a0,(a1,()))=F_spec_l18Same D n a0 a1:=by
  have h:rfC funcTab D n 164 (a0,(a1,()))=spec_l18Same_e D n (fun x0 x1 x2=>LQ funcTab D n 164 [.r,.l,.r,.l] n (spec_l18Same_Q0 x0 x1 x2) (CQ funcTab D n 164 [] [.r,.l,.r,.l] (lastK funcTab 164))) a0 a1:=by kernel_rfl
  rw[h]
  simp only[spec_l18Same_ELP0]
  rfl

def spec_l21Some_b0 (D:DX)(n:Nat) (go:tVals→Int→Option ((Bool×Unit)×Unit)) (K0:Bool→Option ((Bool×Unit)×Unit)) (K1:Option ((Bool×Unit)×Unit)) (x0:tVals) (x1:Int):Option ((Bool×Unit)×Unit):=br (decide (x1<(↑(List.length x0):Int))) (br (decide (0≤x1)&&decide (x1<(↑(List.length x0):Int))) (br (decide (Prod.fst (List.getD x0 (Int.toNat x1) (0,0,ByteArray.empty,()))=0)) (K0 true) (go x0 (IntKind.wrap IntKind.i64 (x1+1)))) none) K1
def spec_l21Some_L0 (D:DX)(n:Nat) (K0:Bool→Option ((Bool×Unit)×Unit)) (K1:Option ((Bool×Unit)×Unit)):Nat→(tVals)→(Int)→Option ((Bool×Unit)×Unit) | 0=>(fun x0 x1=>none) | m+1=>(fun x0 x1=>spec_l21Some_b0 D n (spec_l21Some_L0 D n K0 K1 m) K0 K1 x0 x1)
def spec_l21Some_x0_0 (D:DX)(n:Nat) (v0_0:Bool):Option ((Bool×Unit)×Unit):=some ((v0_0,()),())
def spec_l21Some_x0_1 (D:DX)(n:Nat):Option ((Bool×Unit)×Unit):=some ((false,()),())
def spec_l21Some_LP0 (D:DX)(n:Nat):(tVals)→(Int)→Option ((Bool×Unit)×Unit):=(fun x0 x1=>spec_l21Some_L0 D n (fun v0_0=>spec_l21Some_x0_0 D n v0_0) (spec_l21Some_x0_1 D n) n x0 x1)
def spec_l21Some_e (D:DX)(n:Nat) (lp0:tVals→Int→Option ((Bool×Unit)×Unit)) (a0:tVals):Option ((Bool×Unit)×Unit):=lp0 a0 0
def F_spec_l21Some (D:DX)(n:Nat) (a0:tVals):Option ((Bool×Unit)×Unit):=spec_l21Some_e D n (spec_l21Some_LP0 D n) a0
def spec_l21Some_Q0 (x0:tVals) (x1:Int):St:=stq 16 [(0,AV.val (Ty.sl yV) x0),(3,avI x1)] [] 
def spec_l21Some_Q0_0 (v0_0:Bool):St:=stq 16 [(2,AV.val Ty.bool v0_0)] [] 
def spec_l21Some_Q0_1:St:=stq 16 [] [] 
theorem spec_l21Some_SB0 (D:DX)(n:Nat) (m:Nat) (K:Ex→St→Option (Out ctx 165)) (x0:tVals) (x1:Int) :
  LQ funcTab D n 165 [.r,.l,.r,.l] (m+1) (spec_l21Some_Q0 x0 x1) K=spec_l21Some_b0 D n (fun x0 x1=>LQ funcTab D n 165 [.r,.l,.r,.l] m (spec_l21Some_Q0 x0 x1) K) (fun v0_0=>K (Ex.ret) (spec_l21Some_Q0_0 v0_0)) (K (Ex.exit 0) (spec_l21Some_Q0_1)) x0 x1:=by kernel_rfl
theorem spec_l21Some_EL0 (D:DX)(n:Nat) (K:Ex→St→Option (Out ctx 165)):∀ (m:Nat) (x0:tVals) (x1:Int),LQ funcTab D n 165 [.r,.l,.r,.l] m (spec_l21Some_Q0 x0 x1) K=spec_l21Some_L0 D n (fun v0_0=>K (Ex.ret) (spec_l21Some_Q0_0 v0_0)) (K (Ex.exit 0) (spec_l21Some_Q0_1)) m x0 x1
  | 0,x0,x1=>LQ_zero ..
  | m+1,x0,x1=>by
    have ih:(fun x0 x1=>LQ funcTab D n 165 [.r,.l,.r,.l] m (spec_l21Some_Q0 x0 x1) K)=spec_l21Some_L0 D n (fun v0_0=>K (Ex.ret) (spec_l21Some_Q0_0 v0_0)) (K (Ex.exit 0) (spec_l21Some_Q0_1)) m:=by funext x0 x1;exact spec_l21Some_EL0 D n K m x0 x1
    rw[spec_l21Some_SB0]
    rw[ih];rfl
theorem spec_l21Some_X0_0 (D:DX)(n:Nat) (v0_0:Bool) :
  (CQ funcTab D n 165 [] [.r,.l,.r,.l] (lastK funcTab 165)) (Ex.ret) (spec_l21Some_Q0_0 v0_0)=spec_l21Some_x0_0 D n v0_0:=by kernel_rfl
theorem spec_l21Some_X0_1 (D:DX)(n:Nat) :
  (CQ funcTab D n 165 [] [.r,.l,.r,.l] (lastK funcTab 165)) (Ex.exit 0) (spec_l21Some_Q0_1)=spec_l21Some_x0_1 D n:=by kernel_rfl
theorem spec_l21Some_ELP0 (D:DX)(n:Nat) (x0:tVals) (x1:Int) :
  LQ funcTab D n 165 [.r,.l,.r,.l] n (spec_l21Some_Q0 x0 x1) (CQ funcTab D n 165 [] [.r,.l,.r,.l] (lastK funcTab 165))=spec_l21Some_LP0 D n x0 x1:=by
  rw[spec_l21Some_EL0]
  simp only[spec_l21Some_X0_0,spec_l21Some_X0_1]
  rfl
theorem E_spec_l21Some (D:DX)(n:Nat) (a0:tVals):rfC funcTab D n 165 (a0,())=F_spec_l21Some D n a0:=by
  have h:rfC funcTab D n 165 (a0,())=spec_l21Some_e D n (fun x0 x1=>LQ funcTab D n 165 [.r,.l,.r,.l] n (spec_l21Some_Q0 x0 x1) (CQ funcTab D n 165 [] [.r,.l,.r,.l] (lastK funcTab 165))) a0:=by kernel_rfl
  rw[h]
  simp only[spec_l21Some_ELP0]
  rfl

def slices_CompareFunc_impl_Value_impl_Value_impl_Value_impl_Value_b0 (D:DX)(n:Nat) (a2:Clo) (go:tVals→tVals→tVals→Int→Int→Option ((Int×Unit)×Unit)) (K0:tVals→tVals→Int→Option ((Int×Unit)×Unit)) (K1:tVals→tVals→Option ((Int×Unit)×Unit)) (x0:tVals) (x1:tVals) (x2:tVals) (x3:Int) (x4:Int):Option ((Int×Unit)×Unit):=br (decide (x4<x3)) (br (decide (0≤x4)&&decide (x4<(↑(List.length x2):Int))) (br (decide (x4≥(↑(List.length x1):Int))) (K0 x0 x1 1) (br (decide (0≤x4)&&decide (x4<(↑(List.length x1):Int))) (bindD (applyClo ctx D a2 [CapV.val (Ty.pair (Ty.int IntKind.i64) (Ty.pair (Ty.int IntKind.i64) (Ty.pair Ty.str Ty.unit))) (List.getD x2 (Int.toNat x4) (0,0,ByteArray.empty,())),CapV.val (Ty.pair (Ty.int IntKind.i64) (Ty.pair (Ty.int IntKind.i64) (Ty.pair Ty.str Ty.unit))) (List.getD x1 (Int.toNat x4) (0,0,ByteArray.empty,()))] (Ty.int IntKind.i64)) fun b↦br (b != 0) (K0 x0 x1 b) (go x0 x1 x2 x3 (IntKind.wrap IntKind.i64 (x4+1)))) none)) none) (K1 x0 x1)
def slices_CompareFunc_impl_Value_impl_Value_impl_Value_impl_Value_L0 (D:DX)(n:Nat) (a2:Clo) (K0:tVals→tVals→Int→Option ((Int×Unit)×Unit)) (K1:tVals→tVals→Option ((Int×Unit)×Unit)):Nat→(tVals)→(tVals)→(tVals)→(Int)→(Int)→Option ((Int×Unit)×Unit) | 0=>(fun x0 x1 x2 x3 x4=>none) | m+1=>(fun x0 x1 x2 x3 x4=>slices_CompareFunc_impl_Value_impl_Value_impl_Value_impl_Value_b0 D n a2 (slices_CompareFunc_impl_Value_impl_Value_impl_Value_impl_Value_L0 D n a2 K0 K1 m) K0 K1 x0 x1 x2 x3 x4)
def slices_CompareFunc_impl_Value_impl_Value_impl_Value_impl_Value_x0_0 (D:DX)(n:Nat) (a2:Clo) (v0_0:tVals) (v0_1:tVals) (v0_2:Int):Option ((Int×Unit)×Unit):=some ((v0_2,()),())
def slices_CompareFunc_impl_Value_impl_Value_impl_Value_impl_Value_x0_1 (D:DX)(n:Nat) (a2:Clo) (v1_0:tVals) (v1_1:tVals):Option ((Int×Unit)×Unit):=br (decide ((↑(List.length v1_0):Int)<(↑(List.length v1_1):Int))) (some ((-1,()),())) (some ((0,()),()))
def slices_CompareFunc_impl_Value_impl_Value_impl_Value_impl_Value_LP0 (D:DX)(n:Nat) (a2:Clo):(tVals)→(tVals)→(tVals)→(Int)→(Int)→Option ((Int×Unit)×Unit):=(fun x0 x1 x2 x3 x4=>slices_CompareFunc_impl_Value_impl_Value_impl_Value_impl_Value_L0 D n a2 (fun v0_0 v0_1 v0_2=>slices_CompareFunc_impl_Value_impl_Value_impl_Value_impl_Value_x0_0 D n a2 v0_0 v0_1 v0_2) (fun v1_0 v1_1=>slices_CompareFunc_impl_Value_impl_Value_impl_Value_impl_Value_x0_1 D n a2 v1_0 v1_1) n x0 x1 x2 x3 x4)
def slices_CompareFunc_impl_Value_impl_Value_impl_Value_impl_Value_e (D:DX)(n:Nat) (a2:Clo) (lp0:tVals→tVals→tVals→Int→Int→Option ((Int×Unit)×Unit)) (a0:tVals) (a1:tVals):Option ((Int×Unit)×Unit):=lp0 a0 a1 a0 (↑(List.length a0):Int) 0
def F_slices_CompareFunc_impl_Value_impl_Value_impl_Value_impl_Value (D:DX)(n:Nat) (a0:tVals) (a1:tVals) (a2:Clo):Option ((Int×Unit)×Unit):=slices_CompareFunc_impl_Value_impl_Value_impl_Value_impl_Value_e D n a2 (slices_CompareFunc_impl_Value_impl_Value_impl_Value_impl_Value_LP0 D n a2) a0 a1
def slices_CompareFunc_impl_Value_impl_Value_impl_Value_impl_Value_Q0 (a2:Clo) (x0:tVals) (x1:tVals) (x2:tVals) (x3:Int) (x4:Int):St:=stq 39 [(0,AV.val (Ty.sl yV) x0),(1,AV.val (Ty.sl yV) x1),(2,AV.cloV a2),(11,AV.val (Ty.sl yV) x2),(12,avI x3),(13,avI x4)] [] 
def slices_CompareFunc_impl_Value_impl_Value_impl_Value_impl_Value_Q0_0 (a2:Clo) (v0_0:tVals) (v0_1:tVals) (v0_2:Int):St:=stq 39 [(0,AV.val (Ty.sl yV) v0_0),(1,AV.val (Ty.sl yV) v0_1),(6,avI v0_2)] [] 
def slices_CompareFunc_impl_Value_impl_Value_impl_Value_impl_Value_Q0_1 (a2:Clo) (v1_0:tVals) (v1_1:tVals):St:=stq 39 [(0,AV.val (Ty.sl yV) v1_0),(1,AV.val (Ty.sl yV) v1_1)] [] 
theorem slices_CompareFunc_impl_Value_impl_Value_impl_Value_impl_Value_SB0 (D:DX)(n:Nat) (a2:Clo) (m:Nat) (K:Ex→St→Option (Out ctx 166)) (x0:tVals) (x1:tVals) (x2:tVals) (x3:Int) (x4:Int) :
  LQ funcTab D n 166 [.r,.l,.r,.l] (m+1) (slices_CompareFunc_impl_Value_impl_Value_impl_Value_impl_Value_Q0 a2 x0 x1 x2 x3 x4) K=slices_CompareFunc_impl_Value_impl_Value_impl_Value_impl_Value_b0 D n a2 (fun x0 x1 x2 x3 x4=>LQ funcTab D n 166 [.r,.l,.r,.l] m (slices_CompareFunc_impl_Value_impl_Value_impl_Value_impl_Value_Q0 a2 x0 x1 x2 x3 x4) K) (fun v0_0 v0_1 v0_2=>K (Ex.ret) (slices_CompareFunc_impl_Value_impl_Value_impl_Value_impl_Value_Q0_0 a2 v0_0 v0_1 v0_2)) (fun v1_0 v1_1=>K (Ex.exit 0) (slices_CompareFunc_impl_Value_impl_Value_impl_Value_impl_Value_Q0_1 a2 v1_0 v1_1)) x0 x1 x2 x3 x4:=by kernel_rfl
theorem slices_CompareFunc_impl_Value_impl_Value_impl_Value_impl_Value_EL0 (D:DX)(n:Nat) (a2:Clo) (K:Ex→St→Option (Out ctx 166)):∀ (m:Nat) (x0:tVals) (x1:tVals) (x2:tVals) (x3:Int) (x4:Int),LQ funcTab D n 166 [.r,.l,.r,.l] m (slices_CompareFunc_impl_Value_impl_Value_impl_Value_impl_Value_Q0 a2 x0 x1 x2 x3 x4) K=slices_CompareFunc_impl_Value_impl_Value_impl_Value_impl_Value_L0 D n a2 (fun v0_0 v0_1 v0_2=>K (Ex.ret) (slices_CompareFunc_impl_Value_impl_Value_impl_Value_impl_Value_Q0_0 a2 v0_0 v0_1 v0_2)) (fun v1_0 v1_1=>K (Ex.exit 0) (slices_CompareFunc_impl_Value_impl_Value_impl_Value_impl_Value_Q0_1 a2 v1_0 v1_1)) m x0 x1 x2 x3 x4
  | 0,x0,x1,x2,x3,x4=>LQ_zero ..
  | m+1,x0,x1,x2,x3,x4=>by
    have ih:(fun x0 x1 x2 x3 x4=>LQ funcTab D n 166 [.r,.l,.r,.l] m (slices_CompareFunc_impl_Value_impl_Value_impl_Value_impl_Value_Q0 a2 x0 x1 x2 x3 x4) K)=slices_CompareFunc_impl_Value_impl_Value_impl_Value_impl_Value_L0 D n a2 (fun v0_0 v0_1 v0_2=>K (Ex.ret) (slices_CompareFunc_impl_Value_impl_Value_impl_Value_impl_Value_Q0_0 a2 v0_0 v0_1 v0_2)) (fun v1_0 v1_1=>K (Ex.exit 0) (slices_CompareFunc_impl_Value_impl_Value_impl_Value_impl_Value_Q0_1 a2 v1_0 v1_1)) m:=by funext x0 x1 x2 x3 x4;exact slices_CompareFunc_impl_Value_impl_Value_impl_Value_impl_Value_EL0 D n a2 K m x0 x1 x2 x3 x4
    rw[slices_CompareFunc_impl_Value_impl_Value_impl_Value_impl_Value_SB0]
    rw[ih];rfl
theorem slices_CompareFunc_impl_Value_impl_Value_impl_Value_impl_Value_X0_0 (D:DX)(n:Nat) (a2:Clo) (v0_0:tVals) (v0_1:tVals) (v0_2:Int) :
  (CQ funcTab D n 166 [] [.r,.l,.r,.l] (lastK funcTab 166)) (Ex.ret) (slices_CompareFunc_impl_Value_impl_Value_impl_Value_impl_Value_Q0_0 a2 v0_0 v0_1 v0_2)=slices_CompareFunc_impl_Value_impl_Value_impl_Value_impl_Value_x0_0 D n a2 v0_0 v0_1 v0_2:=by kernel_rfl
theorem slices_CompareFunc_impl_Value_impl_Value_impl_Value_impl_Value_X0_1 (D:DX)(n:Nat) (a2:Clo) (v1_0:tVals) (v1_1:tVals) :
  (CQ funcTab D n 166 [] [.r,.l,.r,.l] (lastK funcTab 166)) (Ex.exit 0) (slices_CompareFunc_impl_Value_impl_Value_impl_Value_impl_Value_Q0_1 a2 v1_0 v1_1)=slices_CompareFunc_impl_Value_impl_Value_impl_Value_impl_Value_x0_1 D n a2 v1_0 v1_1:=by kernel_rfl
theorem slices_CompareFunc_impl_Value_impl_Value_impl_Value_impl_Value_ELP0 (D:DX)(n:Nat) (a2:Clo) (x0:tVals) (x1:tVals) (x2:tVals) (x3:Int) (x4:Int) :
  LQ funcTab D n 166 [.r,.l,.r,.l] n (slices_CompareFunc_impl_Value_impl_Value_impl_Value_impl_Value_Q0 a2 x0 x1 x2 x3 x4) (CQ funcTab D n 166 [] [.r,.l,.r,.l] (lastK funcTab 166))=slices_CompareFunc_impl_Value_impl_Value_impl_Value_impl_Value_LP0 D n a2 x0 x1 x2 x3 x4:=by
  rw[slices_CompareFunc_impl_Value_impl_Value_impl_Value_impl_Value_EL0]
  simp only[slices_CompareFunc_impl_Value_impl_Value_impl_Value_impl_Value_X0_0,slices_CompareFunc_impl_Value_impl_Value_impl_Value_impl_Value_X0_1]
  rfl
theorem E_slices_CompareFunc_impl_Value_impl_Value_impl_Value_impl_Value (D:DX)(n:Nat) (a0:tVals) (a1:tVals) (a2:Clo):rfC funcTab D n 166 (a0,(a1,(a2,())))=F_slices_CompareFunc_impl_Value_impl_Value_impl_Value_impl_Value D n a0 a1 a2:=by
  have h:rfC funcTab D n 166 (a0,(a1,(a2,())))=slices_CompareFunc_impl_Value_impl_Value_impl_Value_impl_Value_e D n a2 (fun x0 x1 x2 x3 x4=>LQ funcTab D n 166 [.r,.l,.r,.l] n (slices_CompareFunc_impl_Value_impl_Value_impl_Value_impl_Value_Q0 a2 x0 x1 x2 x3 x4) (CQ funcTab D n 166 [] [.r,.l,.r,.l] (lastK funcTab 166))) a0 a1:=by kernel_rfl
  rw[h]
  simp only[slices_CompareFunc_impl_Value_impl_Value_impl_Value_impl_Value_ELP0]
  rfl

def impl_byValue_e (D:DX)(n:Nat) (a0:Int×Int×ByteArray×Unit) (a1:Int×Int×ByteArray×Unit):Option ((Int×Unit)×Unit):=br (bif decide (Prod.fst a0<Prod.fst a1) then true else bif decide (Prod.fst a0=Prod.fst a1) then decide (Prod.fst (Prod.snd a0)<Prod.fst (Prod.snd a1)) else false) (some ((-1,()),())) (br (bif decide (Prod.fst a0>Prod.fst a1) then true else decide (Prod.fst (Prod.snd a0)>Prod.fst (Prod.snd a1))) (some ((1,()),())) (bindD (C_strings_Compare D (Prod.fst (Prod.snd (Prod.snd a0))) (Prod.fst (Prod.snd (Prod.snd a1)))) fun b↦some ((Prod.fst (Prod.fst b),()),())))
def F_impl_byValue (D:DX)(n:Nat) (a0:Int×Int×ByteArray×Unit) (a1:Int×Int×ByteArray×Unit):Option ((Int×Unit)×Unit):=impl_byValue_e D n a0 a1
theorem E_impl_byValue (D:DX)(n:Nat) (a0:Int×Int×ByteArray×Unit) (a1:Int×Int×ByteArray×Unit):rfC funcTab D n 167 (a0,(a1,()))=F_impl_byValue D n a0 a1:=by kernel_rfl

def impl_clash_1_e (D:DX)(n:Nat) (a0:ByteArray×List Int×Bool×Unit) (a1:tVals) (a2:tVals):Option ((Bool×Unit)×Unit):=bindD (C_impl_Project D a1 (Prod.fst (Prod.snd a0))) fun b↦br (Prod.fst (Prod.snd (Prod.snd a0))) (bindD (C_slices_Contains_impl_Value_impl_Value D (Prod.fst (Prod.fst b)) (0,0,ByteArray.empty,())) fun b_1↦br (!Prod.fst (Prod.fst b_1)) (bindD (C_impl_Project D a2 (Prod.fst (Prod.snd a0))) fun b_2↦bindD (C_slices_Equal_impl_Value_impl_Value D (Prod.fst (Prod.fst b)) (Prod.fst (Prod.fst b_2))) fun b↦some ((Prod.fst (Prod.fst b),()),())) (some ((false,()),()))) (some ((false,()),()))
def F_impl_clash_1 (D:DX)(n:Nat) (a0:ByteArray×List Int×Bool×Unit) (a1:tVals) (a2:tVals):Option ((Bool×Unit)×Unit):=impl_clash_1_e D n a0 a1 a2
theorem E_impl_clash_1 (D:DX)(n:Nat) (a0:ByteArray×List Int×Bool×Unit) (a1:tVals) (a2:tVals):rfC funcTab D n 168 (a0,(a1,(a2,())))=F_impl_clash_1 D n a0 a1 a2:=by kernel_rfl

def slices_Contains_impl_Value_impl_Value_e (D:DX)(n:Nat) (a0:tVals) (a1:Int×Int×ByteArray×Unit):Option ((Bool×Unit)×Unit):=bindD (C_slices_Index_impl_Value_impl_Value D a0 a1) fun b↦some ((decide (Prod.fst (Prod.fst b)≥0),()),())
def F_slices_Contains_impl_Value_impl_Value (D:DX)(n:Nat) (a0:tVals) (a1:Int×Int×ByteArray×Unit):Option ((Bool×Unit)×Unit):=slices_Contains_impl_Value_impl_Value_e D n a0 a1
theorem E_slices_Contains_impl_Value_impl_Value (D:DX)(n:Nat) (a0:tVals) (a1:Int×Int×ByteArray×Unit):rfC funcTab D n 169 (a0,(a1,()))=F_slices_Contains_impl_Value_impl_Value D n a0 a1:=by kernel_rfl

def slices_Equal_impl_Value_impl_Value_b0 (D:DX)(n:Nat) (go:tVals→tVals→Int→Int→Option ((Bool×Unit)×Unit)) (K0:Bool→Option ((Bool×Unit)×Unit)) (K1:Option ((Bool×Unit)×Unit)) (x0:tVals) (x1:tVals) (x2:Int) (x3:Int):Option ((Bool×Unit)×Unit):=br (decide (x3<x2)) (br (decide (0≤x3)&&decide (x3<(↑(List.length x0):Int))) (br (decide (0≤x3)&&decide (x3<(↑(List.length x1):Int))) (br (!eqDen (Ty.pair (Ty.int IntKind.i64) (Ty.pair (Ty.int IntKind.i64) (Ty.pair Ty.str Ty.unit))) (List.getD x0 (Int.toNat x3) (0,0,ByteArray.empty,())) (List.getD x1 (Int.toNat x3) (0,0,ByteArray.empty,()))) (K0 false) (go x0 x1 x2 (IntKind.wrap IntKind.i64 (x3+1)))) none) none) K1
def slices_Equal_impl_Value_impl_Value_L0 (D:DX)(n:Nat) (K0:Bool→Option ((Bool×Unit)×Unit)) (K1:Option ((Bool×Unit)×Unit)):Nat→(tVals)→(tVals)→(Int)→(Int)→Option ((Bool×Unit)×Unit) | 0=>(fun x0 x1 x2 x3=>none) | m+1=>(fun x0 x1 x2 x3=>slices_Equal_impl_Value_impl_Value_b0 D n (slices_Equal_impl_Value_impl_Value_L0 D n K0 K1 m) K0 K1 x0 x1 x2 x3)
def slices_Equal_impl_Value_impl_Value_x0_0 (D:DX)(n:Nat) (v0_0:Bool):Option ((Bool×Unit)×Unit):=some ((v0_0,()),())
def slices_Equal_impl_Value_impl_Value_x0_1 (D:DX)(n:Nat):Option ((Bool×Unit)×Unit):=some ((true,()),())
def slices_Equal_impl_Value_impl_Value_LP0 (D:DX)(n:Nat):(tVals)→(tVals)→(Int)→(Int)→Option ((Bool×Unit)×Unit):=(fun x0 x1 x2 x3=>slices_Equal_impl_Value_impl_Value_L0 D n (fun v0_0=>slices_Equal_impl_Value_impl_Value_x0_0 D n v0_0) (slices_Equal_impl_Value_impl_Value_x0_1 D n) n x0 x1 x2 x3)
def slices_Equal_impl_Value_impl_Value_e (D:DX)(n:Nat) (lp0:tVals→tVals→Int→Int→Option ((Bool×Unit)×Unit)) (a0:tVals) (a1:tVals):Option ((Bool×Unit)×Unit):=br ((↑(List.length a0):Int) != (↑(List.length a1):Int)) (some ((false,()),())) (lp0 a0 a1 (↑(List.length a0):Int) 0)
def F_slices_Equal_impl_Value_impl_Value (D:DX)(n:Nat) (a0:tVals) (a1:tVals):Option ((Bool×Unit)×Unit):=slices_Equal_impl_Value_impl_Value_e D n (slices_Equal_impl_Value_impl_Value_LP0 D n) a0 a1
def slices_Equal_impl_Value_impl_Value_Q0 (x0:tVals) (x1:tVals) (x2:Int) (x3:Int):St:=stq 26 [(0,AV.val (Ty.sl yV) x0),(1,AV.val (Ty.sl yV) x1),(12,avI x2),(13,avI x3)] [] 
def slices_Equal_impl_Value_impl_Value_Q0_0 (v0_0:Bool):St:=stq 26 [(4,AV.val Ty.bool v0_0)] [] 
def slices_Equal_impl_Value_impl_Value_Q0_1:St:=stq 26 [] [] 
theorem slices_Equal_impl_Value_impl_Value_SB0 (D:DX)(n:Nat) (m:Nat) (K:Ex→St→Option (Out ctx 170)) (x0:tVals) (x1:tVals) (x2:Int) (x3:Int) :
  LQ funcTab D n 170 [.r,.r,.l,.r,.l] (m+1) (slices_Equal_impl_Value_impl_Value_Q0 x0 x1 x2 x3) K=slices_Equal_impl_Value_impl_Value_b0 D n (fun x0 x1 x2 x3=>LQ funcTab D n 170 [.r,.r,.l,.r,.l] m (slices_Equal_impl_Value_impl_Value_Q0 x0 x1 x2 x3) K) (fun v0_0=>K (Ex.ret) (slices_Equal_impl_Value_impl_Value_Q0_0 v0_0)) (K (Ex.exit 0) (slices_Equal_impl_Value_impl_Value_Q0_1)) x0 x1 x2 x3:=by kernel_rfl
theorem slices_Equal_impl_Value_impl_Value_EL0 (D:DX)(n:Nat) (K:Ex→St→Option (Out ctx 170)):∀ (m:Nat) (x0:tVals) (x1:tVals) (x2:Int) (x3:Int),LQ funcTab D n 170 [.r,.r,.l,.r,.l] m (slices_Equal_impl_Value_impl_Value_Q0 x0 x1 x2 x3) K=slices_Equal_impl_Value_impl_Value_L0 D n (fun v0_0=>K (Ex.ret) (slices_Equal_impl_Value_impl_Value_Q0_0 v0_0)) (K (Ex.exit 0) (slices_Equal_impl_Value_impl_Value_Q0_1)) m x0 x1 x2 x3
  | 0,x0,x1,x2,x3=>LQ_zero ..
  | m+1,x0,x1,x2,x3=>by
    have ih:(fun x0 x1 x2 x3=>LQ funcTab D n 170 [.r,.r,.l,.r,.l] m (slices_Equal_impl_Value_impl_Value_Q0 x0 x1 x2 x3) K)=slices_Equal_impl_Value_impl_Value_L0 D n (fun v0_0=>K (Ex.ret) (slices_Equal_impl_Value_impl_Value_Q0_0 v0_0)) (K (Ex.exit 0) (slices_Equal_impl_Value_impl_Value_Q0_1)) m:=by funext x0 x1 x2 x3;exact slices_Equal_impl_Value_impl_Value_EL0 D n K m x0 x1 x2 x3
    rw[slices_Equal_impl_Value_impl_Value_SB0]
    rw[ih];rfl
theorem slices_Equal_impl_Value_impl_Value_X0_0 (D:DX)(n:Nat) (v0_0:Bool) :
  (CQ funcTab D n 170 [] [.r,.r,.l,.r,.l] (lastK funcTab 170)) (Ex.ret) (slices_Equal_impl_Value_impl_Value_Q0_0 v0_0)=slices_Equal_impl_Value_impl_Value_x0_0 D n v0_0:=by kernel_rfl
theorem slices_Equal_impl_Value_impl_Value_X0_1 (D:DX)(n:Nat) :
  (CQ funcTab D n 170 [] [.r,.r,.l,.r,.l] (lastK funcTab 170)) (Ex.exit 0) (slices_Equal_impl_Value_impl_Value_Q0_1)=slices_Equal_impl_Value_impl_Value_x0_1 D n:=by kernel_rfl
theorem slices_Equal_impl_Value_impl_Value_ELP0 (D:DX)(n:Nat) (x0:tVals) (x1:tVals) (x2:Int) (x3:Int) :
  LQ funcTab D n 170 [.r,.r,.l,.r,.l] n (slices_Equal_impl_Value_impl_Value_Q0 x0 x1 x2 x3) (CQ funcTab D n 170 [] [.r,.r,.l,.r,.l] (lastK funcTab 170))=slices_Equal_impl_Value_impl_Value_LP0 D n x0 x1 x2 x3:=by
  rw[slices_Equal_impl_Value_impl_Value_EL0]
  simp only[slices_Equal_impl_Value_impl_Value_X0_0,slices_Equal_impl_Value_impl_Value_X0_1]
  rfl
theorem E_slices_Equal_impl_Value_impl_Value (D:DX)(n:Nat) (a0:tVals) (a1:tVals):rfC funcTab D n 170 (a0,(a1,()))=F_slices_Equal_impl_Value_impl_Value D n a0 a1:=by
  have h:rfC funcTab D n 170 (a0,(a1,()))=slices_Equal_impl_Value_impl_Value_e D n (fun x0 x1 x2 x3=>LQ funcTab D n 170 [.r,.r,.l,.r,.l] n (slices_Equal_impl_Value_impl_Value_Q0 x0 x1 x2 x3) (CQ funcTab D n 170 [] [.r,.r,.l,.r,.l] (lastK funcTab 170))) a0 a1:=by kernel_rfl
  rw[h]
  simp only[slices_Equal_impl_Value_impl_Value_ELP0]
  rfl

def spec_Remove_e (D:DX)(n:Nat) (a0:(tSch)×tRows×Unit) (a1:tVals):Option ((((tSch)×tRows×Unit)×Int×Unit)×Unit):=bindD (C_spec_l21Copy D a0) fun b↦bindD (C_spec_RelOk D a0) fun b_1↦br (!Prod.fst (Prod.fst b_1)) (some ((((Prod.fst (Prod.fst (Prod.fst (Prod.fst b))),Prod.fst (Prod.snd (Prod.fst (Prod.fst (Prod.fst b)))),Prod.fst (Prod.snd (Prod.snd (Prod.fst (Prod.fst (Prod.fst b))))),()),Prod.fst (Prod.snd (Prod.fst (Prod.fst b))),()),1,()),())) (bindD (C_spec_l21At D a0 a1) fun b_2↦br (decide (Prod.fst (Prod.fst b_2)<0)) (some ((((Prod.fst (Prod.fst (Prod.fst (Prod.fst b))),Prod.fst (Prod.snd (Prod.fst (Prod.fst (Prod.fst b)))),Prod.fst (Prod.snd (Prod.snd (Prod.fst (Prod.fst (Prod.fst b))))),()),Prod.fst (Prod.snd (Prod.fst (Prod.fst b))),()),4,()),())) (br (decide (0≤0)&&decide (0≤Prod.fst (Prod.fst b_2))&&decide (Prod.fst (Prod.fst b_2)≤(↑(List.length (Prod.fst (Prod.snd a0))):Int))) (bindD (C_spec_l21Rows D (List.drop (Int.toNat 0) (List.take (Int.toNat (Prod.fst (Prod.fst b_2))) (Prod.fst (Prod.snd a0))))) fun b_3↦br (decide (0≤IntKind.wrap IntKind.i64 (Prod.fst (Prod.fst b_2)+1))&&decide (IntKind.wrap IntKind.i64 (Prod.fst (Prod.fst b_2)+1)≤(↑(List.length (Prod.fst (Prod.snd a0))):Int))&&decide ((↑(List.length (Prod.fst (Prod.snd a0))):Int)≤(↑(List.length (Prod.fst (Prod.snd a0))):Int))) (bindD (C_spec_l21Rows D (List.drop (Int.toNat (IntKind.wrap IntKind.i64 (Prod.fst (Prod.fst b_2)+1))) (List.take (Int.toNat (↑(List.length (Prod.fst (Prod.snd a0))):Int)) (Prod.fst (Prod.snd a0))))) fun b_4↦br (decide (List.length (Prod.fst (Prod.fst b_3))+List.length (Prod.fst (Prod.fst b_4))≤bound)) (some ((((Prod.fst (Prod.fst (Prod.fst (Prod.fst b))),Prod.fst (Prod.snd (Prod.fst (Prod.fst (Prod.fst b)))),Prod.fst (Prod.snd (Prod.snd (Prod.fst (Prod.fst (Prod.fst b))))),()),Prod.fst (Prod.fst b_3)++Prod.fst (Prod.fst b_4),()),0,()),())) none) none) none))
def F_spec_Remove (D:DX)(n:Nat) (a0:(tSch)×tRows×Unit) (a1:tVals):Option ((((tSch)×tRows×Unit)×Int×Unit)×Unit):=spec_Remove_e D n a0 a1
theorem E_spec_Remove (D:DX)(n:Nat) (a0:(tSch)×
  tRows×Unit) (a1:tVals):rfC funcTab D n 171 (a0,(a1,()))=F_spec_Remove D n a0 a1:=by kernel_rfl

def impl_copyTuples_b0 (D:DX)(n:Nat) (go:tRows→Int→Int→tRows→Option ((tRows×Unit)×Unit)) (K0:tRows→Option ((tRows×Unit)×Unit)) (x0:tRows) (x1:Int) (x2:Int) (x3:tRows):Option ((tRows×Unit)×Unit):=br (decide (x2<x1)) (br (decide (0≤x2)&&decide (x2<(↑(List.length x0):Int))) (bindD (C_slices_Clone_impl_Value_impl_Value D (List.getD x0 (Int.toNat x2) [])) fun b↦br (decide (List.length x3+1≤bound)) (go x0 x1 (IntKind.wrap IntKind.i64 (x2+1)) (x3++[Prod.fst (Prod.fst b)])) none) none) (K0 x3)
def impl_copyTuples_L0 (D:DX)(n:Nat) (K0:tRows→Option ((tRows×Unit)×Unit)):Nat→(tRows)→(Int)→(Int)→(tRows)→Option ((tRows×Unit)×Unit) | 0=>(fun x0 x1 x2 x3=>none) | m+1=>(fun x0 x1 x2 x3=>impl_copyTuples_b0 D n (impl_copyTuples_L0 D n K0 m) K0 x0 x1 x2 x3)
def impl_copyTuples_x0_0 (D:DX)(n:Nat) (v0_0:tRows):Option ((tRows×Unit)×Unit):=some ((v0_0,()),())
def impl_copyTuples_LP0 (D:DX)(n:Nat):(tRows)→(Int)→(Int)→(tRows)→Option ((tRows×Unit)×Unit):=(fun x0 x1 x2 x3=>impl_copyTuples_L0 D n (fun v0_0=>impl_copyTuples_x0_0 D n v0_0) n x0 x1 x2 x3)
def impl_copyTuples_e (D:DX)(n:Nat) (lp0:tRows→Int→Int→tRows→Option ((tRows×Unit)×Unit)) (a0:tRows):Option ((tRows×Unit)×Unit):=lp0 a0 (↑(List.length a0):Int) 0 []
def F_impl_copyTuples (D:DX)(n:Nat) (a0:tRows):Option ((tRows×Unit)×Unit):=impl_copyTuples_e D n (impl_copyTuples_LP0 D n) a0
def impl_copyTuples_Q0 (x0:tRows) (x1:Int) (x2:Int) (x3:tRows):St:=stq 20 [(3,AV.brw 3 [] 0),(7,AV.val (Ty.sl (Ty.sl yV)) x0),(8,avI x1),(9,avI x2)] [(3,Root.mk (Ty.sl (Ty.sl yV)) (Mk.own 0 (Mk.own 0 (Mk.pr Mk.no (Mk.pr Mk.no (Mk.pr Mk.no Mk.no))))) x3 false)] 
def impl_copyTuples_Q0_0 (v0_0:tRows):St:=stq 20 [(3,AV.brw 3 [] 0)] [(3,Root.mk (Ty.sl (Ty.sl yV)) (Mk.own 0 (Mk.own 0 (Mk.pr Mk.no (Mk.pr Mk.no (Mk.pr Mk.no Mk.no))))) v0_0 false)] 
theorem impl_copyTuples_SB0 (D:DX)(n:Nat) (m:Nat) (K:Ex→St→Option (Out ctx 172)) (x0:tRows) (x1:Int) (x2:Int) (x3:tRows) :
  LQ funcTab D n 172 [.r,.r,.l,.r,.l] (m+1) (impl_copyTuples_Q0 x0 x1 x2 x3) K=impl_copyTuples_b0 D n (fun x0 x1 x2 x3=>LQ funcTab D n 172 [.r,.r,.l,.r,.l] m (impl_copyTuples_Q0 x0 x1 x2 x3) K) (fun v0_0=>K (Ex.exit 0) (impl_copyTuples_Q0_0 v0_0)) x0 x1 x2 x3:=by kernel_rfl
theorem impl_copyTuples_EL0 (D:DX)(n:Nat) (K:Ex→St→Option (Out ctx 172)):∀ (m:Nat) (x0:tRows) (x1:Int) (x2:Int) (x3:tRows),LQ funcTab D n 172 [.r,.r,.l,.r,.l] m (impl_copyTuples_Q0 x0 x1 x2 x3) K=impl_copyTuples_L0 D n (fun v0_0=>K (Ex.exit 0) (impl_copyTuples_Q0_0 v0_0)) m x0 x1 x2 x3
  | 0,x0,x1,x2,x3=>LQ_zero ..
  | m+1,x0,x1,x2,x3=>by
    have ih:(fun x0 x1 x2 x3=>LQ funcTab D n 172 [.r,.r,.l,.r,.l] m (impl_copyTuples_Q0 x0 x1 x2 x3) K)=impl_copyTuples_L0 D n (fun v0_0=>K (Ex.exit 0) (impl_copyTuples_Q0_0 v0_0)) m:=by funext x0 x1 x2 x3;exact impl_copyTuples_EL0 D n K m x0 x1 x2 x3
    rw[impl_copyTuples_SB0]
    rw[ih];rfl
theorem impl_copyTuples_X0_0 (D:DX)(n:Nat) (v0_0:tRows) :
  (CQ funcTab D n 172 [] [.r,.r,.l,.r,.l] (lastK funcTab 172)) (Ex.exit 0) (impl_copyTuples_Q0_0 v0_0)=impl_copyTuples_x0_0 D n v0_0:=by kernel_rfl
theorem impl_copyTuples_ELP0 (D:DX)(n:Nat) (x0:tRows) (x1:Int) (x2:Int) (x3:tRows) :
  LQ funcTab D n 172 [.r,.r,.l,.r,.l] n (impl_copyTuples_Q0 x0 x1 x2 x3) (CQ funcTab D n 172 [] [.r,.r,.l,.r,.l] (lastK funcTab 172))=impl_copyTuples_LP0 D n x0 x1 x2 x3:=by
  rw[impl_copyTuples_EL0]
  simp only[impl_copyTuples_X0_0]
  rfl
theorem E_impl_copyTuples (D:DX)(n:Nat) (a0:tRows):rfC funcTab D n 172 (a0,())=F_impl_copyTuples D n a0:=by
  have h:rfC funcTab D n 172 (a0,())=impl_copyTuples_e D n (fun x0 x1 x2 x3=>LQ funcTab D n 172 [.r,.r,.l,.r,.l] n (impl_copyTuples_Q0 x0 x1 x2 x3) (CQ funcTab D n 172 [] [.r,.r,.l,.r,.l] (lastK funcTab 172))) a0:=by kernel_rfl
  rw[h]
  simp only[impl_copyTuples_ELP0]
  rfl

def impl_keyAt_1_e (D:DX)(n:Nat) (a0:tVals) (a1:(tSch)×tRows×Unit) (a2:tVals):Option ((Bool×Unit)×Unit):=bindD (C_impl_KeyOfRow D (Prod.fst a1) a0) fun b↦bindD (C_slices_Equal_impl_Value_impl_Value D (Prod.fst (Prod.fst b)) a2) fun b↦some ((Prod.fst (Prod.fst b),()),())
def F_impl_keyAt_1 (D:DX)(n:Nat) (a0:tVals) (a1:(tSch)×tRows×Unit) (a2:tVals):Option ((Bool×Unit)×Unit):=impl_keyAt_1_e D n a0 a1 a2
theorem E_impl_keyAt_1 (D:DX)(n:Nat) (a0:tVals) (a1:(tSch)×
  tRows×Unit) (a2:tVals):rfC funcTab D n 173 (a0,(a1,(a2,())))=F_impl_keyAt_1 D n a0 a1 a2:=by kernel_rfl

def slices_Clone_impl_Col_impl_Col_e (D:DX)(n:Nat) (a0:tCols):Option ((tCols×Unit)×Unit):=br (decide (Int.toNat (↑(List.length a0):Int)=0)) (both (some (([],()),())) (br (decide (0+List.length a0≤bound)) (some (([]++a0,()),())) none)) (br (decide (0+List.length a0≤bound)) (some (([]++a0,()),())) none)
def F_slices_Clone_impl_Col_impl_Col (D:DX)(n:Nat) (a0:tCols):Option ((tCols×Unit)×Unit):=slices_Clone_impl_Col_impl_Col_e D n a0
theorem E_slices_Clone_impl_Col_impl_Col (D:DX)(n:Nat) (a0:tCols):rfC funcTab D n 176 (a0,())=F_slices_Clone_impl_Col_impl_Col D n a0:=by kernel_rfl

def slices_Clone_int_int_e (D:DX)(n:Nat) (a0:List Int):Option ((List Int×Unit)×Unit):=br (decide (Int.toNat (↑(List.length a0):Int)=0)) (both (some (([],()),())) (br (decide (0+List.length a0≤bound)) (some (([]++a0,()),())) none)) (br (decide (0+List.length a0≤bound)) (some (([]++a0,()),())) none)
def F_slices_Clone_int_int (D:DX)(n:Nat) (a0:List Int):Option ((List Int×Unit)×Unit):=slices_Clone_int_int_e D n a0
theorem E_slices_Clone_int_int (D:DX)(n:Nat) (a0:List Int):rfC funcTab D n 177 (a0,())=F_slices_Clone_int_int D n a0:=by kernel_rfl




def slices_Index_int_int_b0 (D:DX)(n:Nat) (go:List Int→Int→Int→Int→Option ((Int×Unit)×Unit)) (K0:Int→Option ((Int×Unit)×Unit)) (K1:Option ((Int×Unit)×Unit)) (x0:List Int) (x1:Int) (x2:Int) (x3:Int):Option ((Int×Unit)×Unit):=br (decide (x3<x2)) (br (decide (0≤x3)&&decide (x3<(↑(List.length x0):Int))) (br (decide (x1=List.getD x0 (Int.toNat x3) 0)) (K0 x3) (go x0 x1 x2 (IntKind.wrap IntKind.i64 (x3+1)))) none) K1
def slices_Index_int_int_L0 (D:DX)(n:Nat) (K0:Int→Option ((Int×Unit)×Unit)) (K1:Option ((Int×Unit)×Unit)):Nat→(List Int)→(Int)→(Int)→(Int)→Option ((Int×Unit)×Unit) | 0=>(fun x0 x1 x2 x3=>none) | m+1=>(fun x0 x1 x2 x3=>slices_Index_int_int_b0 D n (slices_Index_int_int_L0 D n K0 K1 m) K0 K1 x0 x1 x2 x3)
def slices_Index_int_int_x0_0 (D:DX)(n:Nat) (v0_0:Int):Option ((Int×Unit)×Unit):=some ((v0_0,()),())
def slices_Index_int_int_x0_1 (D:DX)(n:Nat):Option ((Int×Unit)×Unit):=some ((-1,()),())
def slices_Index_int_int_LP0 (D:DX)(n:Nat):(List Int)→(Int)→(Int)→(Int)→Option ((Int×Unit)×Unit):=(fun x0 x1 x2 x3=>slices_Index_int_int_L0 D n (fun v0_0=>slices_Index_int_int_x0_0 D n v0_0) (slices_Index_int_int_x0_1 D n) n x0 x1 x2 x3)
def slices_Index_int_int_e (D:DX)(n:Nat) (lp0:List Int→Int→Int→Int→Option ((Int×Unit)×Unit)) (a0:List Int) (a1:Int):Option ((Int×Unit)×Unit):=lp0 a0 a1 (↑(List.length a0):Int) 0
def F_slices_Index_int_int (D:DX)(n:Nat) (a0:List Int) (a1:Int):Option ((Int×Unit)×Unit):=slices_Index_int_int_e D n (slices_Index_int_int_LP0 D n) a0 a1
def slices_Index_int_int_Q0 (x0:List Int) (x1:Int) (x2:Int) (x3:Int):St:=stq 19 [(0,AV.val (Ty.sl yI) x0),(1,avI x1),(7,avI x2),(8,avI x3)] [] 
def slices_Index_int_int_Q0_0 (v0_0:Int):St:=stq 19 [(4,avI v0_0)] [] 
def slices_Index_int_int_Q0_1:St:=stq 19 [] [] 
theorem slices_Index_int_int_SB0 (D:DX)(n:Nat) (m:Nat) (K:Ex→St→Option (Out ctx 186)) (x0:List Int) (x1:Int) (x2:Int) (x3:Int) :
  LQ funcTab D n 186 [.r,.l,.r,.l] (m+1) (slices_Index_int_int_Q0 x0 x1 x2 x3) K=slices_Index_int_int_b0 D n (fun x0 x1 x2 x3=>LQ funcTab D n 186 [.r,.l,.r,.l] m (slices_Index_int_int_Q0 x0 x1 x2 x3) K) (fun v0_0=>K (Ex.ret) (slices_Index_int_int_Q0_0 v0_0)) (K (Ex.exit 0) (slices_Index_int_int_Q0_1)) x0 x1 x2 x3:=by kernel_rfl
theorem slices_Index_int_int_EL0 (D:DX)(n:Nat) (K:Ex→St→Option (Out ctx 186)):∀ (m:Nat) (x0:List Int) (x1:Int) (x2:Int) (x3:Int),LQ funcTab D n 186 [.r,.l,.r,.l] m (slices_Index_int_int_Q0 x0 x1 x2 x3) K=slices_Index_int_int_L0 D n (fun v0_0=>K (Ex.ret) (slices_Index_int_int_Q0_0 v0_0)) (K (Ex.exit 0) (slices_Index_int_int_Q0_1)) m x0 x1 x2 x3
  | 0,x0,x1,x2,x3=>LQ_zero ..
  | m+1,x0,x1,x2,x3=>by
    have ih:(fun x0 x1 x2 x3=>LQ funcTab D n 186 [.r,.l,.r,.l] m (slices_Index_int_int_Q0 x0 x1 x2 x3) K)=slices_Index_int_int_L0 D n (fun v0_0=>K (Ex.ret) (slices_Index_int_int_Q0_0 v0_0)) (K (Ex.exit 0) (slices_Index_int_int_Q0_1)) m:=by funext x0 x1 x2 x3;exact slices_Index_int_int_EL0 D n K m x0 x1 x2 x3
    rw[slices_Index_int_int_SB0]
    rw[ih];rfl
theorem slices_Index_int_int_X0_0 (D:DX)(n:Nat) (v0_0:Int) :
  (CQ funcTab D n 186 [] [.r,.l,.r,.l] (lastK funcTab 186)) (Ex.ret) (slices_Index_int_int_Q0_0 v0_0)=slices_Index_int_int_x0_0 D n v0_0:=by kernel_rfl
theorem slices_Index_int_int_X0_1 (D:DX)(n:Nat) :
  (CQ funcTab D n 186 [] [.r,.l,.r,.l] (lastK funcTab 186)) (Ex.exit 0) (slices_Index_int_int_Q0_1)=slices_Index_int_int_x0_1 D n:=by kernel_rfl
theorem slices_Index_int_int_ELP0 (D:DX)(n:Nat) (x0:List Int) (x1:Int) (x2:Int) (x3:Int) :
  LQ funcTab D n 186 [.r,.l,.r,.l] n (slices_Index_int_int_Q0 x0 x1 x2 x3) (CQ funcTab D n 186 [] [.r,.l,.r,.l] (lastK funcTab 186))=slices_Index_int_int_LP0 D n x0 x1 x2 x3:=by
  rw[slices_Index_int_int_EL0]
  simp only[slices_Index_int_int_X0_0,slices_Index_int_int_X0_1]
  rfl
theorem E_slices_Index_int_int (D:DX)(n:Nat) (a0:List Int) (a1:Int):rfC funcTab D n 186 (a0,(a1,()))=F_slices_Index_int_int D n a0 a1:=by
  have h:rfC funcTab D n 186 (a0,(a1,()))=slices_Index_int_int_e D n (fun x0 x1 x2 x3=>LQ funcTab D n 186 [.r,.l,.r,.l] n (slices_Index_int_int_Q0 x0 x1 x2 x3) (CQ funcTab D n 186 [] [.r,.l,.r,.l] (lastK funcTab 186))) a0 a1:=by kernel_rfl
  rw[h]
  simp only[slices_Index_int_int_ELP0]
  rfl

def slices_Index_impl_Value_impl_Value_b0 (D:DX)(n:Nat) (go:tVals→Int→Int→Int×Int×ByteArray×Unit→Option ((Int×Unit)×Unit)) (K0:Int→Option ((Int×Unit)×Unit)) (K1:Option ((Int×Unit)×Unit)) (x0:tVals) (x1:Int) (x2:Int) (x3:Int×Int×ByteArray×Unit):Option ((Int×Unit)×Unit):=br (decide (x2<x1)) (br (decide (0≤x2)&&decide (x2<(↑(List.length x0):Int))) (br (eqDen (Ty.pair (Ty.int IntKind.i64) (Ty.pair (Ty.int IntKind.i64) (Ty.pair Ty.str Ty.unit))) x3 (List.getD x0 (Int.toNat x2) (0,0,ByteArray.empty,()))) (K0 x2) (go x0 x1 (IntKind.wrap IntKind.i64 (x2+1)) x3)) none) K1
def slices_Index_impl_Value_impl_Value_L0 (D:DX)(n:Nat) (K0:Int→Option ((Int×Unit)×Unit)) (K1:Option ((Int×Unit)×Unit)):Nat→(tVals)→(Int)→(Int)→tVal→Option ((Int×Unit)×Unit) | 0=>(fun x0 x1 x2 x3=>none) | m+1=>(fun x0 x1 x2 x3=>slices_Index_impl_Value_impl_Value_b0 D n (slices_Index_impl_Value_impl_Value_L0 D n K0 K1 m) K0 K1 x0 x1 x2 x3)
def slices_Index_impl_Value_impl_Value_x0_0 (D:DX)(n:Nat) (v0_0:Int):Option ((Int×Unit)×Unit):=some ((v0_0,()),())
def slices_Index_impl_Value_impl_Value_x0_1 (D:DX)(n:Nat):Option ((Int×Unit)×Unit):=some ((-1,()),())
def slices_Index_impl_Value_impl_Value_LP0 (D:DX)(n:Nat):(tVals)→(Int)→(Int)→tVal→Option ((Int×Unit)×Unit):=(fun x0 x1 x2 x3=>slices_Index_impl_Value_impl_Value_L0 D n (fun v0_0=>slices_Index_impl_Value_impl_Value_x0_0 D n v0_0) (slices_Index_impl_Value_impl_Value_x0_1 D n) n x0 x1 x2 x3)
def slices_Index_impl_Value_impl_Value_e (D:DX)(n:Nat) (lp0:tVals→Int→Int→Int×Int×ByteArray×Unit→Option ((Int×Unit)×Unit)) (a0:tVals) (a1:Int×Int×ByteArray×Unit):Option ((Int×Unit)×Unit):=lp0 a0 (↑(List.length a0):Int) 0 a1
def F_slices_Index_impl_Value_impl_Value (D:DX)(n:Nat) (a0:tVals) (a1:Int×Int×ByteArray×Unit):Option ((Int×Unit)×Unit):=slices_Index_impl_Value_impl_Value_e D n (slices_Index_impl_Value_impl_Value_LP0 D n) a0 a1
def slices_Index_impl_Value_impl_Value_Q0 (x0:tVals) (x1:Int) (x2:Int) (x3:Int×Int×ByteArray×Unit):St:=stq 19 [(0,AV.val (Ty.sl yV) x0),(3,AV.addr 3 []),(7,avI x1),(8,avI x2)] [(3,Root.mk yV Mk.no x3 true)] 
def slices_Index_impl_Value_impl_Value_Q0_0 (v0_0:Int):St:=stq 19 [(4,avI v0_0)] [] 
def slices_Index_impl_Value_impl_Value_Q0_1:St:=stq 19 [] [] 
theorem slices_Index_impl_Value_impl_Value_SB0 (D:DX)(n:Nat) (m:Nat) (K:Ex→St→Option (Out ctx 188)) (x0:tVals) (x1:Int) (x2:Int) (x3:Int×Int×ByteArray×Unit) :
  LQ funcTab D n 188 [.r,.l,.r,.l] (m+1) (slices_Index_impl_Value_impl_Value_Q0 x0 x1 x2 x3) K=slices_Index_impl_Value_impl_Value_b0 D n (fun x0 x1 x2 x3=>LQ funcTab D n 188 [.r,.l,.r,.l] m (slices_Index_impl_Value_impl_Value_Q0 x0 x1 x2 x3) K) (fun v0_0=>K (Ex.ret) (slices_Index_impl_Value_impl_Value_Q0_0 v0_0)) (K (Ex.exit 0) (slices_Index_impl_Value_impl_Value_Q0_1)) x0 x1 x2 x3:=by kernel_rfl
theorem slices_Index_impl_Value_impl_Value_EL0 (D:DX)(n:Nat) (K:Ex→St→Option (Out ctx 188)):∀ (m:Nat) (x0:tVals) (x1:Int) (x2:Int) (x3:Int×Int×ByteArray×Unit),LQ funcTab D n 188 [.r,.l,.r,.l] m (slices_Index_impl_Value_impl_Value_Q0 x0 x1 x2 x3) K=slices_Index_impl_Value_impl_Value_L0 D n (fun v0_0=>K (Ex.ret) (slices_Index_impl_Value_impl_Value_Q0_0 v0_0)) (K (Ex.exit 0) (slices_Index_impl_Value_impl_Value_Q0_1)) m x0 x1 x2 x3
  | 0,x0,x1,x2,x3=>LQ_zero ..
  | m+1,x0,x1,x2,x3=>by
    have ih:(fun x0 x1 x2 x3=>LQ funcTab D n 188 [.r,.l,.r,.l] m (slices_Index_impl_Value_impl_Value_Q0 x0 x1 x2 x3) K)=slices_Index_impl_Value_impl_Value_L0 D n (fun v0_0=>K (Ex.ret) (slices_Index_impl_Value_impl_Value_Q0_0 v0_0)) (K (Ex.exit 0) (slices_Index_impl_Value_impl_Value_Q0_1)) m:=by funext x0 x1 x2 x3;exact slices_Index_impl_Value_impl_Value_EL0 D n K m x0 x1 x2 x3
    rw[slices_Index_impl_Value_impl_Value_SB0]
    rw[ih];rfl
theorem slices_Index_impl_Value_impl_Value_X0_0 (D:DX)(n:Nat) (v0_0:Int) :
  (CQ funcTab D n 188 [] [.r,.l,.r,.l] (lastK funcTab 188)) (Ex.ret) (slices_Index_impl_Value_impl_Value_Q0_0 v0_0)=slices_Index_impl_Value_impl_Value_x0_0 D n v0_0:=by kernel_rfl
theorem slices_Index_impl_Value_impl_Value_X0_1 (D:DX)(n:Nat) :
  (CQ funcTab D n 188 [] [.r,.l,.r,.l] (lastK funcTab 188)) (Ex.exit 0) (slices_Index_impl_Value_impl_Value_Q0_1)=slices_Index_impl_Value_impl_Value_x0_1 D n:=by kernel_rfl
theorem slices_Index_impl_Value_impl_Value_ELP0 (D:DX)(n:Nat) (x0:tVals) (x1:Int) (x2:Int) (x3:Int×Int×ByteArray×Unit) :
  LQ funcTab D n 188 [.r,.l,.r,.l] n (slices_Index_impl_Value_impl_Value_Q0 x0 x1 x2 x3) (CQ funcTab D n 188 [] [.r,.l,.r,.l] (lastK funcTab 188))=slices_Index_impl_Value_impl_Value_LP0 D n x0 x1 x2 x3:=by
  rw[slices_Index_impl_Value_impl_Value_EL0]
  simp only[slices_Index_impl_Value_impl_Value_X0_0,slices_Index_impl_Value_impl_Value_X0_1]
  rfl
theorem E_slices_Index_impl_Value_impl_Value (D:DX)(n:Nat) (a0:tVals) (a1:Int×Int×ByteArray×Unit):rfC funcTab D n 188 (a0,(a1,()))=F_slices_Index_impl_Value_impl_Value D n a0 a1:=by
  have h:rfC funcTab D n 188 (a0,(a1,()))=slices_Index_impl_Value_impl_Value_e D n (fun x0 x1 x2 x3=>LQ funcTab D n 188 [.r,.l,.r,.l] n (slices_Index_impl_Value_impl_Value_Q0 x0 x1 x2 x3) (CQ funcTab D n 188 [] [.r,.l,.r,.l] (lastK funcTab 188))) a0 a1:=by kernel_rfl
  rw[h]
  simp only[slices_Index_impl_Value_impl_Value_ELP0]
  rfl
end
end Go.G

namespace Go.G
set_option maxRecDepth 100000
open Go Go.V Go.Proofs
def XOk (X:Ext):Prop:=∀ k:Nat,(Nat.beq k 132||Nat.beq k 139||Nat.beq k 184||Nat.beq k 187)=false→X.is k=false
theorem S_laws_FnUnique {X:Ext} (hX:XOk X) (n:Nat) (a0:List Int):C_laws_FnUnique (DD X (n+1)) a0=F_laws_FnUnique (DD X n) n a0:=(DD_succ X Try.func10 (by kernel_rfl) (hX 10 rfl) n _).trans (E_laws_FnUnique ..)
theorem S_spec_SchemaOk {X:Ext} (hX:XOk X) (n:Nat) (a0:tSch):C_spec_SchemaOk (DD X (n+1)) a0=F_spec_SchemaOk (DD X n) n a0:=(DD_succ X Try.func16 (by kernel_rfl) (hX 16 rfl) n _).trans (E_spec_SchemaOk ..)
theorem S_impl_SchemaOk {X:Ext} (hX:XOk X) (n:Nat) (a0:tSch):C_impl_SchemaOk (DD X (n+1)) a0=F_impl_SchemaOk (DD X n) n a0:=(DD_succ X Try.func18 (by kernel_rfl) (hX 18 rfl) n _).trans (E_impl_SchemaOk ..)
theorem S_laws_big {X:Ext} (hX:XOk X) (n:Nat) (a0:List Int):C_laws_big (DD X (n+1)) a0=F_laws_big (DD X n) n a0:=(DD_succ X Try.func20 (by kernel_rfl) (hX 20 rfl) n _).trans (E_laws_big ..)
theorem S_impl_RowOk {X:Ext} (hX:XOk X) (n:Nat) (a0:tSch) (a1:tVals):C_impl_RowOk (DD X (n+1)) a0 a1=F_impl_RowOk (DD X n) n a0 a1:=(DD_succ X Try.func26 (by kernel_rfl) (hX 26 rfl) n _).trans (E_impl_RowOk ..)
theorem S_spec_RowOk {X:Ext} (hX:XOk X) (n:Nat) (a0:tSch) (a1:tVals):C_spec_RowOk (DD X (n+1)) a0 a1=F_spec_RowOk (DD X n) n a0 a1:=(DD_succ X Try.func27 (by kernel_rfl) (hX 27 rfl) n _).trans (E_spec_RowOk ..)
theorem S_impl_ColNameOk {X:Ext} (hX:XOk X) (n:Nat) (a0:ByteArray):C_impl_ColNameOk (DD X (n+1)) a0=F_impl_ColNameOk (DD X n) n a0:=(DD_succ X Try.func28 (by kernel_rfl) (hX 28 rfl) n _).trans (E_impl_ColNameOk ..)
theorem S_spec_ColNameOk {X:Ext} (hX:XOk X) (n:Nat) (a0:ByteArray):C_spec_ColNameOk (DD X (n+1)) a0=F_spec_ColNameOk (DD X n) n a0:=(DD_succ X Try.func29 (by kernel_rfl) (hX 29 rfl) n _).trans (E_spec_ColNameOk ..)
theorem S_impl_ColAt {X:Ext} (hX:XOk X) (n:Nat) (a0:tSch) (a1:ByteArray):C_impl_ColAt (DD X (n+1)) a0 a1=F_impl_ColAt (DD X n) n a0 a1:=(DD_succ X Try.func30 (by kernel_rfl) (hX 30 rfl) n _).trans (E_impl_ColAt ..)
theorem S_spec_ColAt {X:Ext} (hX:XOk X) (n:Nat) (a0:tSch) (a1:ByteArray):C_spec_ColAt (DD X (n+1)) a0 a1=F_spec_ColAt (DD X n) n a0 a1:=(DD_succ X Try.func31 (by kernel_rfl) (hX 31 rfl) n _).trans (E_spec_ColAt ..)
theorem S_laws_sameTuple {X:Ext} (hX:XOk X) (n:Nat) (a0:tVals) (a1:tVals):C_laws_sameTuple (DD X (n+1)) a0 a1=F_laws_sameTuple (DD X n) n a0 a1:=(DD_succ X Try.func32 (by kernel_rfl) (hX 32 rfl) n _).trans (E_laws_sameTuple ..)
theorem S_impl_KeyOfRow {X:Ext} (hX:XOk X) (n:Nat) (a0:tSch) (a1:tVals):C_impl_KeyOfRow (DD X (n+1)) a0 a1=F_impl_KeyOfRow (DD X n) n a0 a1:=(DD_succ X Try.func33 (by kernel_rfl) (hX 33 rfl) n _).trans (E_impl_KeyOfRow ..)
theorem S_spec_KeyOfRow {X:Ext} (hX:XOk X) (n:Nat) (a0:tSch) (a1:tVals):C_spec_KeyOfRow (DD X (n+1)) a0 a1=F_spec_KeyOfRow (DD X n) n a0 a1:=(DD_succ X Try.func34 (by kernel_rfl) (hX 34 rfl) n _).trans (E_spec_KeyOfRow ..)
theorem S_spec_RelOk {X:Ext} (hX:XOk X) (n:Nat) (a0:(tSch)×tRows×Unit):C_spec_RelOk (DD X (n+1)) a0=F_spec_RelOk (DD X n) n a0:=(DD_succ X Try.func48 (by kernel_rfl) (hX 48 rfl) n _).trans (E_spec_RelOk ..)
theorem S_impl_RelOk {X:Ext} (hX:XOk X) (n:Nat) (a0:(tSch)×tRows×Unit):C_impl_RelOk (DD X (n+1)) a0=F_impl_RelOk (DD X n) n a0:=(DD_succ X Try.func49 (by kernel_rfl) (hX 49 rfl) n _).trans (E_impl_RelOk ..)
theorem S_spec_DrawRelation {X:Ext} (hX:XOk X) (n:Nat) (a0:List Int):C_spec_DrawRelation (DD X (n+1)) a0=F_spec_DrawRelation (DD X n) n a0:=(DD_succ X Try.func50 (by kernel_rfl) (hX 50 rfl) n _).trans (E_spec_DrawRelation ..)
theorem S_spec_Replace {X:Ext} (hX:XOk X) (n:Nat) (a0:(tSch)×tRows×Unit) (a1:tVals):C_spec_Replace (DD X (n+1)) a0 a1=F_spec_Replace (DD X n) n a0 a1:=(DD_succ X Try.func52 (by kernel_rfl) (hX 52 rfl) n _).trans (E_spec_Replace ..)
theorem S_impl_Insert {X:Ext} (hX:XOk X) (n:Nat) (a0:(tSch)×tRows×Unit) (a1:tVals):C_impl_Insert (DD X (n+1)) a0 a1=F_impl_Insert (DD X n) n a0 a1:=(DD_succ X Try.func55 (by kernel_rfl) (hX 55 rfl) n _).trans (E_impl_Insert ..)
theorem S_impl_Project {X:Ext} (hX:XOk X) (n:Nat) (a0:tVals) (a1:List Int):C_impl_Project (DD X (n+1)) a0 a1=F_impl_Project (DD X n) n a0 a1:=(DD_succ X Try.func56 (by kernel_rfl) (hX 56 rfl) n _).trans (E_impl_Project ..)
theorem S_laws_hasNull {X:Ext} (hX:XOk X) (n:Nat) (a0:tVals):C_laws_hasNull (DD X (n+1)) a0=F_laws_hasNull (DD X n) n a0:=(DD_succ X Try.func57 (by kernel_rfl) (hX 57 rfl) n _).trans (E_laws_hasNull ..)
theorem S_spec_RelNew {X:Ext} (hX:XOk X) (n:Nat) (a0:tSch):C_spec_RelNew (DD X (n+1)) a0=F_spec_RelNew (DD X n) n a0:=(DD_succ X Try.func60 (by kernel_rfl) (hX 60 rfl) n _).trans (E_spec_RelNew ..)
theorem S_spec_Insert {X:Ext} (hX:XOk X) (n:Nat) (a0:(tSch)×tRows×Unit) (a1:tVals):C_spec_Insert (DD X (n+1)) a0 a1=F_spec_Insert (DD X n) n a0 a1:=(DD_succ X Try.func63 (by kernel_rfl) (hX 63 rfl) n _).trans (E_spec_Insert ..)
theorem S_spec_l1In {X:Ext} (hX:XOk X) (n:Nat) (a0:Int) (a1:Int) (a2:Int):C_spec_l1In (DD X (n+1)) a0 a1 a2=F_spec_l1In (DD X n) n a0 a1 a2:=(DD_succ X Try.func73 (by kernel_rfl) (hX 73 rfl) n _).trans (E_spec_l1In ..)
theorem S_spec_l19Places {X:Ext} (hX:XOk X) (n:Nat) (a0:tSch) (a1:List Int) (a2:Int):C_spec_l19Places (DD X (n+1)) a0 a1 a2=F_spec_l19Places (DD X n) n a0 a1 a2:=(DD_succ X Try.func74 (by kernel_rfl) (hX 74 rfl) n _).trans (E_spec_l19Places ..)
theorem S_spec_l19Indexes {X:Ext} (hX:XOk X) (n:Nat) (a0:tSch):C_spec_l19Indexes (DD X (n+1)) a0=F_spec_l19Indexes (DD X n) n a0:=(DD_succ X Try.func75 (by kernel_rfl) (hX 75 rfl) n _).trans (E_spec_l19Indexes ..)
theorem S_impl_from {X:Ext} (hX:XOk X) (n:Nat) (a0:Int) (a1:Int) (a2:Int):C_impl_from (DD X (n+1)) a0 a1 a2=F_impl_from (DD X n) n a0 a1 a2:=(DD_succ X Try.func79 (by kernel_rfl) (hX 79 rfl) n _).trans (E_impl_from ..)
theorem S_impl_placesOk {X:Ext} (hX:XOk X) (n:Nat) (a0:tSch) (a1:List Int) (a2:Int):C_impl_placesOk (DD X (n+1)) a0 a1 a2=F_impl_placesOk (DD X n) n a0 a1 a2:=(DD_succ X Try.func80 (by kernel_rfl) (hX 80 rfl) n _).trans (E_impl_placesOk ..)
theorem S_slices_ContainsFunc_impl_Index_impl_Index {X:Ext} (hX:XOk X) (n:Nat) (a0:tIxs) (a1:Clo):C_slices_ContainsFunc_impl_Index_impl_Index (DD X (n+1)) a0 a1=F_slices_ContainsFunc_impl_Index_impl_Index (DD X n) n a0 a1:=(DD_succ X Try.func81 (by kernel_rfl) (hX 81 rfl) n _).trans (E_slices_ContainsFunc_impl_Index_impl_Index ..)
theorem S_impl_SchemaOk_1 {X:Ext} (hX:XOk X) (n:Nat) (a0:ByteArray×List Int×Bool×Unit) (a1:ByteArray×List Int×Bool×Unit):C_impl_SchemaOk_1 (DD X (n+1)) a0 a1=F_impl_SchemaOk_1 (DD X n) n a0 a1:=(DD_succ X Try.func82 (by kernel_rfl) (hX 82 rfl) n _).trans (E_impl_SchemaOk_1 ..)
theorem S_slices_ContainsFunc_int_int {X:Ext} (hX:XOk X) (n:Nat) (a0:List Int) (a1:Clo):C_slices_ContainsFunc_int_int (DD X (n+1)) a0 a1=F_slices_ContainsFunc_int_int (DD X n) n a0 a1:=(DD_succ X Try.func83 (by kernel_rfl) (hX 83 rfl) n _).trans (E_slices_ContainsFunc_int_int ..)
theorem S_impl_SchemaOk_2 {X:Ext} (hX:XOk X) (n:Nat) (a0:Int) (a1:tSch):C_impl_SchemaOk_2 (DD X (n+1)) a0 a1=F_impl_SchemaOk_2 (DD X n) n a0 a1:=(DD_succ X Try.func84 (by kernel_rfl) (hX 84 rfl) n _).trans (E_impl_SchemaOk_2 ..)
theorem S_spec_l1New {X:Ext} (hX:XOk X) (n:Nat) (a0:List Int):C_spec_l1New (DD X (n+1)) a0=F_spec_l1New (DD X n) n a0:=(DD_succ X Try.func88 (by kernel_rfl) (hX 88 rfl) n _).trans (E_spec_l1New ..)
theorem S_spec_l19DrawRow {X:Ext} (hX:XOk X) (n:Nat) (a0:List Int×Int×Int×Unit) (a1:tSch):C_spec_l19DrawRow (DD X (n+1)) a0 a1=F_spec_l19DrawRow (DD X n) n a0 a1:=(DD_succ X Try.func90 (by kernel_rfl) (hX 90 rfl) n _).trans (E_spec_l19DrawRow ..)
theorem S_spec_l1Below {X:Ext} (hX:XOk X) (n:Nat) (a0:List Int×Int×Int×Unit) (a1:Int):C_spec_l1Below (DD X (n+1)) a0 a1=F_spec_l1Below (DD X n) n a0 a1:=(DD_succ X Try.func91 (by kernel_rfl) (hX 91 rfl) n _).trans (E_spec_l1Below ..)
theorem S_spec_l1Pick {X:Ext} (hX:XOk X) (n:Nat) (a0:List Int×Int×Int×Unit) (a1:List ByteArray):C_spec_l1Pick (DD X (n+1)) a0 a1=F_spec_l1Pick (DD X n) n a0 a1:=(DD_succ X Try.func93 (by kernel_rfl) (hX 93 rfl) n _).trans (E_spec_l1Pick ..)
theorem S_impl_ValueOk {X:Ext} (hX:XOk X) (n:Nat) (a0:Int×Int×ByteArray×Unit):C_impl_ValueOk (DD X (n+1)) a0=F_impl_ValueOk (DD X n) n a0:=(DD_succ X Try.func94 (by kernel_rfl) (hX 94 rfl) n _).trans (E_impl_ValueOk ..)
theorem S_spec_ValueOk {X:Ext} (hX:XOk X) (n:Nat) (a0:Int×Int×ByteArray×Unit):C_spec_ValueOk (DD X (n+1)) a0=F_spec_ValueOk (DD X n) n a0:=(DD_succ X Try.func95 (by kernel_rfl) (hX 95 rfl) n _).trans (E_spec_ValueOk ..)
theorem S_slices_IndexFunc_impl_Col_impl_Col {X:Ext} (hX:XOk X) (n:Nat) (a0:tCols) (a1:Clo):C_slices_IndexFunc_impl_Col_impl_Col (DD X (n+1)) a0 a1=F_slices_IndexFunc_impl_Col_impl_Col (DD X n) n a0 a1:=(DD_succ X Try.func96 (by kernel_rfl) (hX 96 rfl) n _).trans (E_slices_IndexFunc_impl_Col_impl_Col ..)
theorem S_impl_ColAt_1 {X:Ext} (hX:XOk X) (n:Nat) (a0:ByteArray×Int×Bool×Unit) (a1:ByteArray):C_impl_ColAt_1 (DD X (n+1)) a0 a1=F_impl_ColAt_1 (DD X n) n a0 a1:=(DD_succ X Try.func97 (by kernel_rfl) (hX 97 rfl) n _).trans (E_impl_ColAt_1 ..)
theorem S_spec_Project {X:Ext} (hX:XOk X) (n:Nat) (a0:tVals) (a1:List Int):C_spec_Project (DD X (n+1)) a0 a1=F_spec_Project (DD X n) n a0 a1:=(DD_succ X Try.func98 (by kernel_rfl) (hX 98 rfl) n _).trans (E_spec_Project ..)
theorem S_spec_TupleLess {X:Ext} (hX:XOk X) (n:Nat) (a0:tVals) (a1:tVals):C_spec_TupleLess (DD X (n+1)) a0 a1=F_spec_TupleLess (DD X n) n a0 a1:=(DD_succ X Try.func113 (by kernel_rfl) (hX 113 rfl) n _).trans (E_spec_TupleLess ..)
theorem S_spec_l21Clash {X:Ext} (hX:XOk X) (n:Nat) (a0:tSch) (a1:tVals) (a2:tVals):C_spec_l21Clash (DD X (n+1)) a0 a1 a2=F_spec_l21Clash (DD X n) n a0 a1 a2:=(DD_succ X Try.func114 (by kernel_rfl) (hX 114 rfl) n _).trans (E_spec_l21Clash ..)
theorem S_impl_TupleLess {X:Ext} (hX:XOk X) (n:Nat) (a0:tVals) (a1:tVals):C_impl_TupleLess (DD X (n+1)) a0 a1=F_impl_TupleLess (DD X n) n a0 a1:=(DD_succ X Try.func115 (by kernel_rfl) (hX 115 rfl) n _).trans (E_impl_TupleLess ..)
theorem S_slices_ContainsFunc_impl_Value_impl_Valuex {X:Ext} (hX:XOk X) (n:Nat) (a0:tRows) (a1:Clo):C_slices_ContainsFunc_impl_Value_impl_Valuex (DD X (n+1)) a0 a1=F_slices_ContainsFunc_impl_Value_impl_Valuex (DD X n) n a0 a1:=(DD_succ X Try.func116 (by kernel_rfl) (hX 116 rfl) n _).trans (E_slices_ContainsFunc_impl_Value_impl_Valuex ..)
theorem S_impl_RelOk_1 {X:Ext} (hX:XOk X) (n:Nat) (a0:tVals) (a1:(tSch)×tRows×Unit) (a2:tVals):C_impl_RelOk_1 (DD X (n+1)) a0 a1 a2=F_impl_RelOk_1 (DD X n) n a0 a1 a2:=(DD_succ X Try.func117 (by kernel_rfl) (hX 117 rfl) n _).trans (E_impl_RelOk_1 ..)
theorem S_impl_clash {X:Ext} (hX:XOk X) (n:Nat) (a0:tSch) (a1:tVals) (a2:tVals):C_impl_clash (DD X (n+1)) a0 a1 a2=F_impl_clash (DD X n) n a0 a1 a2:=(DD_succ X Try.func118 (by kernel_rfl) (hX 118 rfl) n _).trans (E_impl_clash ..)
theorem S_spec_l21DrawRight {X:Ext} (hX:XOk X) (n:Nat) (a0:List Int×Int×Int×Unit):C_spec_l21DrawRight (DD X (n+1)) a0=F_spec_l21DrawRight (DD X n) n a0:=(DD_succ X Try.func119 (by kernel_rfl) (hX 119 rfl) n _).trans (E_spec_l21DrawRight ..)
theorem S_spec_l21DrawRow {X:Ext} (hX:XOk X) (n:Nat) (a0:List Int×Int×Int×Unit) (a1:(tSch)×tRows×Unit):C_spec_l21DrawRow (DD X (n+1)) a0 a1=F_spec_l21DrawRow (DD X n) n a0 a1:=(DD_succ X Try.func120 (by kernel_rfl) (hX 120 rfl) n _).trans (E_spec_l21DrawRow ..)
theorem S_impl_copyRelation {X:Ext} (hX:XOk X) (n:Nat) (a0:(tSch)×tRows×Unit):C_impl_copyRelation (DD X (n+1)) a0=F_impl_copyRelation (DD X n) n a0:=(DD_succ X Try.func121 (by kernel_rfl) (hX 121 rfl) n _).trans (E_impl_copyRelation ..)
theorem S_impl_keyAt {X:Ext} (hX:XOk X) (n:Nat) (a0:(tSch)×tRows×Unit) (a1:tVals):C_impl_keyAt (DD X (n+1)) a0 a1=F_impl_keyAt (DD X n) n a0 a1:=(DD_succ X Try.func122 (by kernel_rfl) (hX 122 rfl) n _).trans (E_impl_keyAt ..)
theorem S_slices_Clone_impl_Value_impl_Value {X:Ext} (hX:XOk X) (n:Nat) (a0:tVals):C_slices_Clone_impl_Value_impl_Value (DD X (n+1)) a0=F_slices_Clone_impl_Value_impl_Value (DD X n) n a0:=(DD_succ X Try.func123 (by kernel_rfl) (hX 123 rfl) n _).trans (E_slices_Clone_impl_Value_impl_Value ..)
theorem S_spec_l21Copy {X:Ext} (hX:XOk X) (n:Nat) (a0:(tSch)×tRows×Unit):C_spec_l21Copy (DD X (n+1)) a0=F_spec_l21Copy (DD X n) n a0:=(DD_succ X Try.func124 (by kernel_rfl) (hX 124 rfl) n _).trans (E_spec_l21Copy ..)
theorem S_spec_l21At {X:Ext} (hX:XOk X) (n:Nat) (a0:(tSch)×tRows×Unit) (a1:tVals):C_spec_l21At (DD X (n+1)) a0 a1=F_spec_l21At (DD X n) n a0 a1:=(DD_succ X Try.func125 (by kernel_rfl) (hX 125 rfl) n _).trans (E_spec_l21At ..)
theorem S_spec_l21Others {X:Ext} (hX:XOk X) (n:Nat) (a0:(tSch)×tRows×Unit) (a1:tVals) (a2:Int):C_spec_l21Others (DD X (n+1)) a0 a1 a2=F_spec_l21Others (DD X n) n a0 a1 a2:=(DD_succ X Try.func126 (by kernel_rfl) (hX 126 rfl) n _).trans (E_spec_l21Others ..)
theorem S_impl_Insert_1 {X:Ext} (hX:XOk X) (n:Nat) (a0:tVals) (a1:(tSch)×tRows×Unit) (a2:tVals):C_impl_Insert_1 (DD X (n+1)) a0 a1 a2=F_impl_Insert_1 (DD X n) n a0 a1 a2:=(DD_succ X Try.func129 (by kernel_rfl) (hX 129 rfl) n _).trans (E_impl_Insert_1 ..)
theorem S_slices_IndexFunc_impl_Value_impl_Value {X:Ext} (hX:XOk X) (n:Nat) (a0:tRows) (a1:Clo):C_slices_IndexFunc_impl_Value_impl_Value (DD X (n+1)) a0 a1=F_slices_IndexFunc_impl_Value_impl_Value (DD X n) n a0 a1:=(DD_succ X Try.func130 (by kernel_rfl) (hX 130 rfl) n _).trans (E_slices_IndexFunc_impl_Value_impl_Value ..)
theorem S_impl_Insert_2 {X:Ext} (hX:XOk X) (n:Nat) (a0:tVals) (a1:tVals) (a2:(tSch)×tRows×Unit):C_impl_Insert_2 (DD X (n+1)) a0 a1 a2=F_impl_Insert_2 (DD X n) n a0 a1 a2:=(DD_succ X Try.func131 (by kernel_rfl) (hX 131 rfl) n _).trans (E_impl_Insert_2 ..)
theorem S_spec_l19Copy {X:Ext} (hX:XOk X) (n:Nat) (a0:tSch):C_spec_l19Copy (DD X (n+1)) a0=F_spec_l19Copy (DD X n) n a0:=(DD_succ X Try.func134 (by kernel_rfl) (hX 134 rfl) n _).trans (E_spec_l19Copy ..)
theorem S_impl_copySchema {X:Ext} (hX:XOk X) (n:Nat) (a0:tSch):C_impl_copySchema (DD X (n+1)) a0=F_impl_copySchema (DD X n) n a0:=(DD_succ X Try.func135 (by kernel_rfl) (hX 135 rfl) n _).trans (E_impl_copySchema ..)
theorem S_spec_l21Rows {X:Ext} (hX:XOk X) (n:Nat) (a0:tRows):C_spec_l21Rows (DD X (n+1)) a0=F_spec_l21Rows (DD X n) n a0:=(DD_succ X Try.func138 (by kernel_rfl) (hX 138 rfl) n _).trans (E_spec_l21Rows ..)
theorem S_slices_Contains_int_int {X:Ext} (hX:XOk X) (n:Nat) (a0:List Int) (a1:Int):C_slices_Contains_int_int (DD X (n+1)) a0 a1=F_slices_Contains_int_int (DD X n) n a0 a1:=(DD_succ X Try.func147 (by kernel_rfl) (hX 147 rfl) n _).trans (E_slices_Contains_int_int ..)
theorem S_slices_IndexFunc_impl_Index_impl_Index {X:Ext} (hX:XOk X) (n:Nat) (a0:tIxs) (a1:Clo):C_slices_IndexFunc_impl_Index_impl_Index (DD X (n+1)) a0 a1=F_slices_IndexFunc_impl_Index_impl_Index (DD X n) n a0 a1:=(DD_succ X Try.func148 (by kernel_rfl) (hX 148 rfl) n _).trans (E_slices_IndexFunc_impl_Index_impl_Index ..)
theorem S_slices_IndexFunc_int_int {X:Ext} (hX:XOk X) (n:Nat) (a0:List Int) (a1:Clo):C_slices_IndexFunc_int_int (DD X (n+1)) a0 a1=F_slices_IndexFunc_int_int (DD X n) n a0 a1:=(DD_succ X Try.func149 (by kernel_rfl) (hX 149 rfl) n _).trans (E_slices_IndexFunc_int_int ..)
theorem S_spec_l19DrawRight {X:Ext} (hX:XOk X) (n:Nat) (a0:List Int×Int×Int×Unit):C_spec_l19DrawRight (DD X (n+1)) a0=F_spec_l19DrawRight (DD X n) n a0:=(DD_succ X Try.func152 (by kernel_rfl) (hX 152 rfl) n _).trans (E_spec_l19DrawRight ..)
theorem S_spec_l1PickInt {X:Ext} (hX:XOk X) (n:Nat) (a0:List Int×Int×Int×Unit) (a1:List Int):C_spec_l1PickInt (DD X (n+1)) a0 a1=F_spec_l1PickInt (DD X n) n a0 a1:=(DD_succ X Try.func153 (by kernel_rfl) (hX 153 rfl) n _).trans (E_spec_l1PickInt ..)
theorem S_spec_l1Once {X:Ext} (hX:XOk X) (n:Nat) (a0:List Int×Int×Int×Unit) (a1:Int):C_spec_l1Once (DD X (n+1)) a0 a1=F_spec_l1Once (DD X n) n a0 a1:=(DD_succ X Try.func154 (by kernel_rfl) (hX 154 rfl) n _).trans (E_spec_l1Once ..)
theorem S_spec_l17DrawOf {X:Ext} (hX:XOk X) (n:Nat) (a0:List Int×Int×Int×Unit) (a1:Int):C_spec_l17DrawOf (DD X (n+1)) a0 a1=F_spec_l17DrawOf (DD X n) n a0 a1:=(DD_succ X Try.func155 (by kernel_rfl) (hX 155 rfl) n _).trans (E_spec_l17DrawOf ..)
theorem S_spec_l1Byte {X:Ext} (hX:XOk X) (n:Nat) (a0:List Int×Int×Int×Unit):C_spec_l1Byte (DD X (n+1)) a0=F_spec_l1Byte (DD X n) n a0:=(DD_succ X Try.func156 (by kernel_rfl) (hX 156 rfl) n _).trans (E_spec_l1Byte ..)
theorem S_spec_ValueSame {X:Ext} (hX:XOk X) (n:Nat) (a0:Int×Int×ByteArray×Unit) (a1:Int×Int×ByteArray×Unit):C_spec_ValueSame (DD X (n+1)) a0 a1=F_spec_ValueSame (DD X n) n a0 a1:=(DD_succ X Try.func162 (by kernel_rfl) (hX 162 rfl) n _).trans (E_spec_ValueSame ..)
theorem S_spec_ValueLess {X:Ext} (hX:XOk X) (n:Nat) (a0:Int×Int×ByteArray×Unit) (a1:Int×Int×ByteArray×Unit):C_spec_ValueLess (DD X (n+1)) a0 a1=F_spec_ValueLess (DD X n) n a0 a1:=(DD_succ X Try.func163 (by kernel_rfl) (hX 163 rfl) n _).trans (E_spec_ValueLess ..)
theorem S_spec_l18Same {X:Ext} (hX:XOk X) (n:Nat) (a0:tVals) (a1:tVals):C_spec_l18Same (DD X (n+1)) a0 a1=F_spec_l18Same (DD X n) n a0 a1:=(DD_succ X Try.func164 (by kernel_rfl) (hX 164 rfl) n _).trans (E_spec_l18Same ..)
theorem S_spec_l21Some {X:Ext} (hX:XOk X) (n:Nat) (a0:tVals):C_spec_l21Some (DD X (n+1)) a0=F_spec_l21Some (DD X n) n a0:=(DD_succ X Try.func165 (by kernel_rfl) (hX 165 rfl) n _).trans (E_spec_l21Some ..)
theorem S_slices_CompareFunc_impl_Value_impl_Value_impl_Value_impl_Value {X:Ext} (hX:XOk X) (n:Nat) (a0:tVals) (a1:tVals) (a2:Clo):C_slices_CompareFunc_impl_Value_impl_Value_impl_Value_impl_Value (DD X (n+1)) a0 a1 a2=F_slices_CompareFunc_impl_Value_impl_Value_impl_Value_impl_Value (DD X n) n a0 a1 a2:=(DD_succ X Try.func166 (by kernel_rfl) (hX 166 rfl) n _).trans (E_slices_CompareFunc_impl_Value_impl_Value_impl_Value_impl_Value ..)
theorem S_impl_byValue {X:Ext} (hX:XOk X) (n:Nat) (a0:Int×Int×ByteArray×Unit) (a1:Int×Int×ByteArray×Unit):C_impl_byValue (DD X (n+1)) a0 a1=F_impl_byValue (DD X n) n a0 a1:=(DD_succ X Try.func167 (by kernel_rfl) (hX 167 rfl) n _).trans (E_impl_byValue ..)
theorem S_impl_clash_1 {X:Ext} (hX:XOk X) (n:Nat) (a0:ByteArray×List Int×Bool×Unit) (a1:tVals) (a2:tVals):C_impl_clash_1 (DD X (n+1)) a0 a1 a2=F_impl_clash_1 (DD X n) n a0 a1 a2:=(DD_succ X Try.func168 (by kernel_rfl) (hX 168 rfl) n _).trans (E_impl_clash_1 ..)
theorem S_slices_Contains_impl_Value_impl_Value {X:Ext} (hX:XOk X) (n:Nat) (a0:tVals) (a1:Int×Int×ByteArray×Unit):C_slices_Contains_impl_Value_impl_Value (DD X (n+1)) a0 a1=F_slices_Contains_impl_Value_impl_Value (DD X n) n a0 a1:=(DD_succ X Try.func169 (by kernel_rfl) (hX 169 rfl) n _).trans (E_slices_Contains_impl_Value_impl_Value ..)
theorem S_slices_Equal_impl_Value_impl_Value {X:Ext} (hX:XOk X) (n:Nat) (a0:tVals) (a1:tVals):C_slices_Equal_impl_Value_impl_Value (DD X (n+1)) a0 a1=F_slices_Equal_impl_Value_impl_Value (DD X n) n a0 a1:=(DD_succ X Try.func170 (by kernel_rfl) (hX 170 rfl) n _).trans (E_slices_Equal_impl_Value_impl_Value ..)
theorem S_spec_Remove {X:Ext} (hX:XOk X) (n:Nat) (a0:(tSch)×tRows×Unit) (a1:tVals):C_spec_Remove (DD X (n+1)) a0 a1=F_spec_Remove (DD X n) n a0 a1:=(DD_succ X Try.func171 (by kernel_rfl) (hX 171 rfl) n _).trans (E_spec_Remove ..)
theorem S_impl_copyTuples {X:Ext} (hX:XOk X) (n:Nat) (a0:tRows):C_impl_copyTuples (DD X (n+1)) a0=F_impl_copyTuples (DD X n) n a0:=(DD_succ X Try.func172 (by kernel_rfl) (hX 172 rfl) n _).trans (E_impl_copyTuples ..)
theorem S_impl_keyAt_1 {X:Ext} (hX:XOk X) (n:Nat) (a0:tVals) (a1:(tSch)×tRows×Unit) (a2:tVals):C_impl_keyAt_1 (DD X (n+1)) a0 a1 a2=F_impl_keyAt_1 (DD X n) n a0 a1 a2:=(DD_succ X Try.func173 (by kernel_rfl) (hX 173 rfl) n _).trans (E_impl_keyAt_1 ..)
theorem S_slices_Clone_impl_Col_impl_Col {X:Ext} (hX:XOk X) (n:Nat) (a0:tCols):C_slices_Clone_impl_Col_impl_Col (DD X (n+1)) a0=F_slices_Clone_impl_Col_impl_Col (DD X n) n a0:=(DD_succ X Try.func176 (by kernel_rfl) (hX 176 rfl) n _).trans (E_slices_Clone_impl_Col_impl_Col ..)
theorem S_slices_Clone_int_int {X:Ext} (hX:XOk X) (n:Nat) (a0:List Int):C_slices_Clone_int_int (DD X (n+1)) a0=F_slices_Clone_int_int (DD X n) n a0:=(DD_succ X Try.func177 (by kernel_rfl) (hX 177 rfl) n _).trans (E_slices_Clone_int_int ..)
theorem S_slices_Index_int_int {X:Ext} (hX:XOk X) (n:Nat) (a0:List Int) (a1:Int):C_slices_Index_int_int (DD X (n+1)) a0 a1=F_slices_Index_int_int (DD X n) n a0 a1:=(DD_succ X Try.func186 (by kernel_rfl) (hX 186 rfl) n _).trans (E_slices_Index_int_int ..)
theorem S_slices_Index_impl_Value_impl_Value {X:Ext} (hX:XOk X) (n:Nat) (a0:tVals) (a1:Int×Int×ByteArray×Unit):C_slices_Index_impl_Value_impl_Value (DD X (n+1)) a0 a1=F_slices_Index_impl_Value_impl_Value (DD X n) n a0 a1:=(DD_succ X Try.func188 (by kernel_rfl) (hX 188 rfl) n _).trans (E_slices_Index_impl_Value_impl_Value ..)
end Go.G


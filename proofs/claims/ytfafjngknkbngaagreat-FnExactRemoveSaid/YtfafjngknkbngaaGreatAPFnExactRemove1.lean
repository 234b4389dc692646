import Derived.Test.YtfafjngknkbngaaGreatAPFnExactRemove0
set_option linter.unusedVariables false
set_option linter.unusedSimpArgs false
set_option linter.unusedSectionVars false
namespace Go.G
set_option maxRecDepth 100000
set_option maxHeartbeats 0
open Go Go.V
noncomputable section
def qua (D:DX)(n:Nat) (go:List Int→Int→Int→Int→tSch→Option ((Bool×Unit)×Unit)) (K0:List Int→Int→Bool→Int→tSch→Option ((Bool×Unit)×Unit)) (K1:List Int→Int→Int→tSch→Option ((Bool×Unit)×Unit)) (x1_0:List Int) (x1_1:Int) (x1_2:Int) (x1_3:Int) (x1_4:tSch):Option ((Bool×Unit)×Unit):=br (decide (x1_3<x1_2)) (br (decide (0≤x1_3)&&decide (x1_3<(↑(List.length x1_0):Int))) (br (decide (0≤x1_2)&&decide (x1_2<(↑(List.length x1_0):Int))) (br (decide (List.getD x1_0 (Int.toNat x1_3) 0=List.getD x1_0 (Int.toNat x1_2) 0)) (K0 x1_0 x1_1 false x1_2 x1_4) (go x1_0 x1_1 x1_2 (IntKind.wrap IntKind.i64 (x1_3+1)) x1_4)) none) none) (K1 x1_0 x1_1 x1_2 x1_4)
def qg9 (D:DX)(n:Nat) (K0:List Int→Int→Bool→Int→tSch→Option ((Bool×Unit)×Unit)) (K1:List Int→Int→Int→tSch→Option ((Bool×Unit)×Unit)):Nat→(List Int)→(Int)→(Int)→(Int)→(tSch)→Option ((Bool×Unit)×Unit) | 0=>(fun x1_0 x1_1 x1_2 x1_3 x1_4=>none) | m+1=>(fun x1_0 x1_1 x1_2 x1_3 x1_4=>qua D n (qg9 D n K0 K1 m) K0 K1 x1_0 x1_1 x1_2 x1_3 x1_4)
def qze (D:DX)(n:Nat) (go:List Int→Int→Int→tSch→Option ((Bool×Unit)×Unit)) (K0:List Int→Int→Bool→Option ((Bool×Unit)×Unit)) (K1:List Int→Int→Option ((Bool×Unit)×Unit)) (v0_0:List Int) (v0_1:Int) (v0_2:Bool) (v0_3:Int) (v0_4:tSch):Option ((Bool×Unit)×Unit):=K0 v0_0 v0_1 v0_2
def qqo (D:DX)(n:Nat) (go:List Int→Int→Int→tSch→Option ((Bool×Unit)×Unit)) (K0:List Int→Int→Bool→Option ((Bool×Unit)×Unit)) (K1:List Int→Int→Option ((Bool×Unit)×Unit)) (v1_0:List Int) (v1_1:Int) (v1_2:Int) (v1_3:tSch):Option ((Bool×Unit)×Unit):=go v1_0 v1_1 (IntKind.wrap IntKind.i64 (v1_2+1)) v1_3
def qrd (D:DX)(n:Nat) (go:List Int→Int→Int→tSch→Option ((Bool×Unit)×Unit)) (K0:List Int→Int→Bool→Option ((Bool×Unit)×Unit)) (K1:List Int→Int→Option ((Bool×Unit)×Unit)):(List Int)→(Int)→(Int)→(Int)→(tSch)→Option ((Bool×Unit)×Unit):=(fun x1_0 x1_1 x1_2 x1_3 x1_4=>qg9 D n (fun v0_0 v0_1 v0_2 v0_3 v0_4=>qze D n go K0 K1 v0_0 v0_1 v0_2 v0_3 v0_4) (fun v1_0 v1_1 v1_2 v1_3=>qqo D n go K0 K1 v1_0 v1_1 v1_2 v1_3) n x1_0 x1_1 x1_2 x1_3 x1_4)
def qto (D:DX)(n:Nat) (go:List Int→Int→Int→tSch→Option ((Bool×Unit)×Unit)) (K0:List Int→Int→Bool→Option ((Bool×Unit)×Unit)) (K1:List Int→Int→Option ((Bool×Unit)×Unit)) (lp1:List Int→Int→Int→Int→tSch→Option ((Bool×Unit)×Unit)) (x0:List Int) (x1:Int) (x2:Int) (x3:tSch):Option ((Bool×Unit)×Unit):=br (decide (x2<(↑(List.length x0):Int))) (br (decide (0≤x2)&&decide (x2<(↑(List.length x0):Int))) (qi (qgl D (List.getD x0 (Int.toNat x2) 0) 0 (IntKind.wrap IntKind.i64 ((↑(List.length (Prod.fst x3)):Int) - 1))) fun b↦br (!Prod.fst (Prod.fst b)) (K0 x0 x1 false) (lp1 x0 x1 x2 0 x3)) none) (K1 x0 x1)
def qd4 (D:DX)(n:Nat) (K0:List Int→Int→Bool→Option ((Bool×Unit)×Unit)) (K1:List Int→Int→Option ((Bool×Unit)×Unit)):Nat→(List Int)→(Int)→(Int)→(tSch)→Option ((Bool×Unit)×Unit) | 0=>(fun x0 x1 x2 x3=>none) | m+1=>(fun x0 x1 x2 x3=>qto D n (qd4 D n K0 K1 m) K0 K1 (qrd D n (qd4 D n K0 K1 m) K0 K1) x0 x1 x2 x3)
def qqe (D:DX)(n:Nat) (v0_0:List Int) (v0_1:Int) (v0_2:Bool):Option ((Bool×Unit)×Unit):=some ((v0_2,()),())
def qku (D:DX)(n:Nat) (v1_0:List Int) (v1_1:Int):Option ((Bool×Unit)×Unit):=qi (qgl D (↑(List.length v1_0):Int) 1 v1_1) fun b↦some ((Prod.fst (Prod.fst b),()),())
def qrz (D:DX)(n:Nat):(List Int)→(Int)→(Int)→(tSch)→Option ((Bool×Unit)×Unit):=(fun x0 x1 x2 x3=>qd4 D n (fun v0_0 v0_1 v0_2=>qqe D n v0_0 v0_1 v0_2) (fun v1_0 v1_1=>qku D n v1_0 v1_1) n x0 x1 x2 x3)
def qve (D:DX)(n:Nat) (lp0:List Int→Int→Int→tSch→Option ((Bool×Unit)×Unit)) (a0:tSch) (a1:List Int) (a2:Int):Option ((Bool×Unit)×Unit):=lp0 a1 a2 0 a0
def qwn (D:DX)(n:Nat) (a0:tSch) (a1:List Int) (a2:Int):Option ((Bool×Unit)×Unit):=qve D n (qrz D n) a0 a1 a2
def qdf (x0:List Int) (x1:Int) (x2:Int) (x3:tSch):St:=stq 43 [(1,AV.val (Ty.sl yI) x0),(2,avI x1),(3,AV.addr 3 []),(7,avI x2)] [(3,Root.mk yS Mk.no x3 true)] 
def qd8 (v0_0:List Int) (v0_1:Int) (v0_2:Bool):St:=stq 43 [(1,AV.val (Ty.sl yI) v0_0),(2,avI v0_1),(6,AV.val Ty.bool v0_2)] [] 
def qea (v1_0:List Int) (v1_1:Int):St:=stq 43 [(1,AV.val (Ty.sl yI) v1_0),(2,avI v1_1)] [] 
def qg0 (x1_0:List Int) (x1_1:Int) (x1_2:Int) (x1_3:Int) (x1_4:tSch):St:=stq 43 [(1,AV.val (Ty.sl yI) x1_0),(2,avI x1_1),(3,AV.addr 3 []),(7,avI x1_2),(8,avI x1_3)] [(3,Root.mk yS Mk.no x1_4 true)] 
def qk3 (v0_0:List Int) (v0_1:Int) (v0_2:Bool) (v0_3:Int) (v0_4:tSch):St:=stq 43 [(1,AV.val (Ty.sl yI) v0_0),(2,avI v0_1),(3,AV.addr 3 []),(6,AV.val Ty.bool v0_2),(7,avI v0_3)] [(3,Root.mk yS Mk.no v0_4 true)] 
def qk1 (v1_0:List Int) (v1_1:Int) (v1_2:Int) (v1_3:tSch):St:=stq 43 [(1,AV.val (Ty.sl yI) v1_0),(2,avI v1_1),(3,AV.addr 3 []),(7,avI v1_2)] [(3,Root.mk yS Mk.no v1_3 true)] 
theorem qbci (D:DX)(n:Nat) (m:Nat) (K:Ex→St→Option (Out ctx 168)) (x1_0:List Int) (x1_1:Int) (x1_2:Int) (x1_3:Int) (x1_4:tSch) :
 LQ qc D n 168 [.r,.l,.r,.l,.l,.r,.l,.l,.r,.r,.l] (m+1) (qg0 x1_0 x1_1 x1_2 x1_3 x1_4) K=qua D n (fun x1_0 x1_1 x1_2 x1_3 x1_4=>LQ qc D n 168 [.r,.l,.r,.l,.l,.r,.l,.l,.r,.r,.l] m (qg0 x1_0 x1_1 x1_2 x1_3 x1_4) K) (fun v0_0 v0_1 v0_2 v0_3 v0_4=>K (Ex.ret) (qk3 v0_0 v0_1 v0_2 v0_3 v0_4)) (fun v1_0 v1_1 v1_2 v1_3=>K (Ex.exit 2) (qk1 v1_0 v1_1 v1_2 v1_3)) x1_0 x1_1 x1_2 x1_3 x1_4:=by kernel_rfl
theorem q1x (D:DX)(n:Nat) (K:Ex→St→Option (Out ctx 168)):∀ (m:Nat) (x1_0:List Int) (x1_1:Int) (x1_2:Int) (x1_3:Int) (x1_4:tSch),LQ qc D n 168 [.r,.l,.r,.l,.l,.r,.l,.l,.r,.r,.l] m (qg0 x1_0 x1_1 x1_2 x1_3 x1_4) K=qg9 D n (fun v0_0 v0_1 v0_2 v0_3 v0_4=>K (Ex.ret) (qk3 v0_0 v0_1 v0_2 v0_3 v0_4)) (fun v1_0 v1_1 v1_2 v1_3=>K (Ex.exit 2) (qk1 v1_0 v1_1 v1_2 v1_3)) m x1_0 x1_1 x1_2 x1_3 x1_4
 | 0,x1_0,x1_1,x1_2,x1_3,x1_4=>qx ..
 | m+1,x1_0,x1_1,x1_2,x1_3,x1_4=>by
  have ih:(fun x1_0 x1_1 x1_2 x1_3 x1_4=>LQ qc D n 168 [.r,.l,.r,.l,.l,.r,.l,.l,.r,.r,.l] m (qg0 x1_0 x1_1 x1_2 x1_3 x1_4) K)=qg9 D n (fun v0_0 v0_1 v0_2 v0_3 v0_4=>K (Ex.ret) (qk3 v0_0 v0_1 v0_2 v0_3 v0_4)) (fun v1_0 v1_1 v1_2 v1_3=>K (Ex.exit 2) (qk1 v1_0 v1_1 v1_2 v1_3)) m:=by funext x1_0 x1_1 x1_2 x1_3 x1_4;exact q1x D n K m x1_0 x1_1 x1_2 x1_3 x1_4
  rw[qbci]
  rw[ih];rfl
theorem qbay (D:DX)(n:Nat) (m:Nat) (K:Ex→St→Option (Out ctx 168)) (v0_0:List Int) (v0_1:Int) (v0_2:Bool) (v0_3:Int) (v0_4:tSch) :
 (CQ qc D n 168 [.r,.l,.r,.l,.l] [.r,.l,.l,.r,.r,.l] (LK qc D n 168 [.r,.l,.r,.l] m K)) (Ex.ret) (qk3 v0_0 v0_1 v0_2 v0_3 v0_4)=qze D n (fun x0 x1 x2 x3=>LQ qc D n 168 [.r,.l,.r,.l] m (qdf x0 x1 x2 x3) K) (fun v0_0 v0_1 v0_2=>K (Ex.ret) (qd8 v0_0 v0_1 v0_2)) (fun v1_0 v1_1=>K (Ex.exit 0) (qea v1_0 v1_1)) v0_0 v0_1 v0_2 v0_3 v0_4:=by kernel_rfl
theorem q96 (D:DX)(n:Nat) (m:Nat) (K:Ex→St→Option (Out ctx 168)) (v1_0:List Int) (v1_1:Int) (v1_2:Int) (v1_3:tSch) :
 (CQ qc D n 168 [.r,.l,.r,.l,.l] [.r,.l,.l,.r,.r,.l] (LK qc D n 168 [.r,.l,.r,.l] m K)) (Ex.exit 2) (qk1 v1_0 v1_1 v1_2 v1_3)=qqo D n (fun x0 x1 x2 x3=>LQ qc D n 168 [.r,.l,.r,.l] m (qdf x0 x1 x2 x3) K) (fun v0_0 v0_1 v0_2=>K (Ex.ret) (qd8 v0_0 v0_1 v0_2)) (fun v1_0 v1_1=>K (Ex.exit 0) (qea v1_0 v1_1)) v1_0 v1_1 v1_2 v1_3:=by kernel_rfl
theorem qbaz (D:DX)(n:Nat) (m:Nat) (K:Ex→St→Option (Out ctx 168)) (x1_0:List Int) (x1_1:Int) (x1_2:Int) (x1_3:Int) (x1_4:tSch) :
 LQ qc D n 168 [.r,.l,.r,.l,.l,.r,.l,.l,.r,.r,.l] n (qg0 x1_0 x1_1 x1_2 x1_3 x1_4) (CQ qc D n 168 [.r,.l,.r,.l,.l] [.r,.l,.l,.r,.r,.l] (LK qc D n 168 [.r,.l,.r,.l] m K))=qrd D n (fun x0 x1 x2 x3=>LQ qc D n 168 [.r,.l,.r,.l] m (qdf x0 x1 x2 x3) K) (fun v0_0 v0_1 v0_2=>K (Ex.ret) (qd8 v0_0 v0_1 v0_2)) (fun v1_0 v1_1=>K (Ex.exit 0) (qea v1_0 v1_1)) x1_0 x1_1 x1_2 x1_3 x1_4:=by
 rw[q1x]
 simp only[qbay,q96]
 rfl
theorem qbb3 (D:DX)(n:Nat) (m:Nat) (K:Ex→St→Option (Out ctx 168)) (x0:List Int) (x1:Int) (x2:Int) (x3:tSch) :
 LQ qc D n 168 [.r,.l,.r,.l] (m+1) (qdf x0 x1 x2 x3) K=qto D n (fun x0 x1 x2 x3=>LQ qc D n 168 [.r,.l,.r,.l] m (qdf x0 x1 x2 x3) K) (fun v0_0 v0_1 v0_2=>K (Ex.ret) (qd8 v0_0 v0_1 v0_2)) (fun v1_0 v1_1=>K (Ex.exit 0) (qea v1_0 v1_1)) (fun x1_0 x1_1 x1_2 x1_3 x1_4=>LQ qc D n 168 [.r,.l,.r,.l,.l,.r,.l,.l,.r,.r,.l] n (qg0 x1_0 x1_1 x1_2 x1_3 x1_4) (CQ qc D n 168 [.r,.l,.r,.l,.l] [.r,.l,.l,.r,.r,.l] (LK qc D n 168 [.r,.l,.r,.l] m K))) x0 x1 x2 x3:=by kernel_rfl
theorem q2b (D:DX)(n:Nat) (K:Ex→St→Option (Out ctx 168)):∀ (m:Nat) (x0:List Int) (x1:Int) (x2:Int) (x3:tSch),LQ qc D n 168 [.r,.l,.r,.l] m (qdf x0 x1 x2 x3) K=qd4 D n (fun v0_0 v0_1 v0_2=>K (Ex.ret) (qd8 v0_0 v0_1 v0_2)) (fun v1_0 v1_1=>K (Ex.exit 0) (qea v1_0 v1_1)) m x0 x1 x2 x3
 | 0,x0,x1,x2,x3=>qx ..
 | m+1,x0,x1,x2,x3=>by
  have ih:(fun x0 x1 x2 x3=>LQ qc D n 168 [.r,.l,.r,.l] m (qdf x0 x1 x2 x3) K)=qd4 D n (fun v0_0 v0_1 v0_2=>K (Ex.ret) (qd8 v0_0 v0_1 v0_2)) (fun v1_0 v1_1=>K (Ex.exit 0) (qea v1_0 v1_1)) m:=by funext x0 x1 x2 x3;exact q2b D n K m x0 x1 x2 x3
  rw[qbb3]
  simp only[qbaz]
  rw[ih];rfl
theorem qbai (D:DX)(n:Nat) (v0_0:List Int) (v0_1:Int) (v0_2:Bool) :
 (CQ qc D n 168 [] [.r,.l,.r,.l] (qh qc 168)) (Ex.ret) (qd8 v0_0 v0_1 v0_2)=qqe D n v0_0 v0_1 v0_2:=by kernel_rfl
theorem qbao (D:DX)(n:Nat) (v1_0:List Int) (v1_1:Int) :
 (CQ qc D n 168 [] [.r,.l,.r,.l] (qh qc 168)) (Ex.exit 0) (qea v1_0 v1_1)=qku D n v1_0 v1_1:=by kernel_rfl
theorem q97 (D:DX)(n:Nat) (x0:List Int) (x1:Int) (x2:Int) (x3:tSch) :
 LQ qc D n 168 [.r,.l,.r,.l] n (qdf x0 x1 x2 x3) (CQ qc D n 168 [] [.r,.l,.r,.l] (qh qc 168))=qrz D n x0 x1 x2 x3:=by
 rw[q2b]
 simp only[qbai,qbao]
 rfl
theorem qbgp (D:DX)(n:Nat) (a0:tSch) (a1:List Int) (a2:Int):rfC qc D n 168 (a0,(a1,(a2,())))=qwn D n a0 a1 a2:=by
 have h:rfC qc D n 168 (a0,(a1,(a2,())))=qve D n (fun x0 x1 x2 x3=>LQ qc D n 168 [.r,.l,.r,.l] n (qdf x0 x1 x2 x3) (CQ qc D n 168 [] [.r,.l,.r,.l] (qh qc 168))) a0 a1 a2:=by kernel_rfl
 rw[h]
 simp only[q97]
 rfl

def qsf (D:DX)(n:Nat) (go:Int→Int→tSch→ByteArray×List Int×Bool×Unit→Option ((Bool×Unit)×Unit)) (K0:Bool→Int→tSch→Option ((Bool×Unit)×Unit)) (K1:Int→tSch→Option ((Bool×Unit)×Unit)) (x1_0:Int) (x1_1:Int) (x1_2:tSch) (x1_3:ByteArray×List Int×Bool×Unit):Option ((Bool×Unit)×Unit):=br (decide (x1_1<x1_0)) (br (decide (0≤x1_1)&&decide (x1_1<(↑(List.length (Prod.fst (Prod.snd (Prod.snd x1_2)))):Int))) (br (List.beq (ByteArray.toList (Prod.fst (List.getD (Prod.fst (Prod.snd (Prod.snd x1_2))) (Int.toNat x1_1) (ByteArray.empty,[],false,())))) (ByteArray.toList (Prod.fst x1_3))) (K0 false x1_0 x1_2) (go x1_0 (IntKind.wrap IntKind.i64 (x1_1+1)) x1_2 x1_3)) none) (K1 x1_0 x1_2)
def qf4 (D:DX)(n:Nat) (K0:Bool→Int→tSch→Option ((Bool×Unit)×Unit)) (K1:Int→tSch→Option ((Bool×Unit)×Unit)):Nat→(Int)→(Int)→(tSch)→tIx→Option ((Bool×Unit)×Unit) | 0=>(fun x1_0 x1_1 x1_2 x1_3=>none) | m+1=>(fun x1_0 x1_1 x1_2 x1_3=>qsf D n (qf4 D n K0 K1 m) K0 K1 x1_0 x1_1 x1_2 x1_3)
def qw7 (D:DX)(n:Nat) (go:Int→tSch→Option ((Bool×Unit)×Unit)) (K0:Bool→tSch→Option ((Bool×Unit)×Unit)) (K1:tSch→Option ((Bool×Unit)×Unit)) (v0_0:Bool) (v0_1:Int) (v0_2:tSch):Option ((Bool×Unit)×Unit):=K0 v0_0 v0_2
def qo8 (D:DX)(n:Nat) (go:Int→tSch→Option ((Bool×Unit)×Unit)) (K0:Bool→tSch→Option ((Bool×Unit)×Unit)) (K1:tSch→Option ((Bool×Unit)×Unit)) (v1_0:Int) (v1_1:tSch):Option ((Bool×Unit)×Unit):=go (IntKind.wrap IntKind.i64 (v1_0+1)) v1_1
def qp7 (D:DX)(n:Nat) (go:Int→tSch→Option ((Bool×Unit)×Unit)) (K0:Bool→tSch→Option ((Bool×Unit)×Unit)) (K1:tSch→Option ((Bool×Unit)×Unit)):(Int)→(Int)→(tSch)→tIx→Option ((Bool×Unit)×Unit):=(fun x1_0 x1_1 x1_2 x1_3=>qf4 D n (fun v0_0 v0_1 v0_2=>qw7 D n go K0 K1 v0_0 v0_1 v0_2) (fun v1_0 v1_1=>qo8 D n go K0 K1 v1_0 v1_1) n x1_0 x1_1 x1_2 x1_3)
def qsr (D:DX)(n:Nat) (go:Int→tSch→Option ((Bool×Unit)×Unit)) (K0:Bool→tSch→Option ((Bool×Unit)×Unit)) (K1:tSch→Option ((Bool×Unit)×Unit)) (lp1:Int→Int→tSch→ByteArray×List Int×Bool×Unit→Option ((Bool×Unit)×Unit)) (x0:Int) (x1:tSch):Option ((Bool×Unit)×Unit):=br (decide (x0<(↑(List.length (Prod.fst (Prod.snd (Prod.snd x1)))):Int))) (br (decide (0≤x0)&&decide (x0<(↑(List.length (Prod.fst (Prod.snd (Prod.snd x1)))):Int))) (qi (qop D (Prod.fst (List.getD (Prod.fst (Prod.snd (Prod.snd x1))) (Int.toNat x0) (ByteArray.empty,[],false,())))) fun b↦br (!Prod.fst (Prod.fst b)) (K0 false x1) (qi (qoq D x1 (Prod.fst (Prod.snd (List.getD (Prod.fst (Prod.snd (Prod.snd x1))) (Int.toNat x0) (ByteArray.empty,[],false,())))) 3) fun b↦br (!Prod.fst (Prod.fst b)) (K0 false x1) (lp1 x0 0 x1 (List.getD (Prod.fst (Prod.snd (Prod.snd x1))) (Int.toNat x0) (ByteArray.empty,[],false,()))))) none) (K1 x1)
def qdn (D:DX)(n:Nat) (K0:Bool→tSch→Option ((Bool×Unit)×Unit)) (K1:tSch→Option ((Bool×Unit)×Unit)):Nat→(Int)→(tSch)→Option ((Bool×Unit)×Unit) | 0=>(fun x0 x1=>none) | m+1=>(fun x0 x1=>qsr D n (qdn D n K0 K1 m) K0 K1 (qp7 D n (qdn D n K0 K1 m) K0 K1) x0 x1)
def qph (D:DX)(n:Nat) (v0_0:Bool) (v0_1:tSch):Option ((Bool×Unit)×Unit):=some ((v0_0,()),())
def qox (D:DX)(n:Nat) (v1_0:tSch):Option ((Bool×Unit)×Unit):=some ((decide ((↑(List.length (Prod.fst (Prod.snd (Prod.snd v1_0)))):Int)≤3),()),())
def qp3 (D:DX)(n:Nat):(Int)→(tSch)→Option ((Bool×Unit)×Unit):=(fun x0 x1=>qdn D n (fun v0_0 v0_1=>qph D n v0_0 v0_1) (fun v1_0=>qox D n v1_0) n x0 x1)
def qt7 (D:DX)(n:Nat) (lp0:Int→tSch→Option ((Bool×Unit)×Unit)) (a0:tSch):Option ((Bool×Unit)×Unit):=lp0 0 a0
def qup (D:DX)(n:Nat) (a0:tSch):Option ((Bool×Unit)×Unit):=qt7 D n (qp3 D n) a0
def qc9 (x0:Int) (x1:tSch):St:=stq 47 [(1,AV.addr 1 []),(3,avI x0)] [(1,Root.mk yS Mk.no x1 true)] 
def qdz (v0_0:Bool) (v0_1:tSch):St:=stq 47 [(1,AV.addr 1 []),(2,AV.val Ty.bool v0_0)] [(1,Root.mk yS Mk.no v0_1 true)] 
def qdr (v1_0:tSch):St:=stq 47 [(1,AV.addr 1 [])] [(1,Root.mk yS Mk.no v1_0 true)] 
def qfz (x1_0:Int) (x1_1:Int) (x1_2:tSch) (x1_3:ByteArray×List Int×Bool×Unit):St:=stq 47 [(1,AV.addr 1 []),(3,avI x1_0),(4,AV.addr 4 []),(5,avI x1_1)] [(1,Root.mk yS Mk.no x1_2 true),(4,Root.mk yX Mk.no x1_3 true)] 
def qj4 (v0_0:Bool) (v0_1:Int) (v0_2:tSch):St:=stq 47 [(1,AV.addr 1 []),(2,AV.val Ty.bool v0_0),(3,avI v0_1)] [(1,Root.mk yS Mk.no v0_2 true)] 
def qj0 (v1_0:Int) (v1_1:tSch):St:=stq 47 [(1,AV.addr 1 []),(3,avI v1_0)] [(1,Root.mk yS Mk.no v1_1 true)] 
theorem qbar (D:DX)(n:Nat) (m:Nat) (K:Ex→St→Option (Out ctx 169)) (x1_0:Int) (x1_1:Int) (x1_2:tSch) (x1_3:ByteArray×List Int×Bool×Unit) :
 LQ qc D n 169 [.r,.l,.r,.l,.l,.r,.l,.l,.r,.r,.r,.l] (m+1) (qfz x1_0 x1_1 x1_2 x1_3) K=qsf D n (fun x1_0 x1_1 x1_2 x1_3=>LQ qc D n 169 [.r,.l,.r,.l,.l,.r,.l,.l,.r,.r,.r,.l] m (qfz x1_0 x1_1 x1_2 x1_3) K) (fun v0_0 v0_1 v0_2=>K (Ex.ret) (qj4 v0_0 v0_1 v0_2)) (fun v1_0 v1_1=>K (Ex.exit 2) (qj0 v1_0 v1_1)) x1_0 x1_1 x1_2 x1_3:=by kernel_rfl
theorem qy7 (D:DX)(n:Nat) (K:Ex→St→Option (Out ctx 169)):∀ (m:Nat) (x1_0:Int) (x1_1:Int) (x1_2:tSch) (x1_3:ByteArray×List Int×Bool×Unit),LQ qc D n 169 [.r,.l,.r,.l,.l,.r,.l,.l,.r,.r,.r,.l] m (qfz x1_0 x1_1 x1_2 x1_3) K=qf4 D n (fun v0_0 v0_1 v0_2=>K (Ex.ret) (qj4 v0_0 v0_1 v0_2)) (fun v1_0 v1_1=>K (Ex.exit 2) (qj0 v1_0 v1_1)) m x1_0 x1_1 x1_2 x1_3
 | 0,x1_0,x1_1,x1_2,x1_3=>qx ..
 | m+1,x1_0,x1_1,x1_2,x1_3=>by
  have ih:(fun x1_0 x1_1 x1_2 x1_3=>LQ qc D n 169 [.r,.l,.r,.l,.l,.r,.l,.l,.r,.r,.r,.l] m (qfz x1_0 x1_1 x1_2 x1_3) K)=qf4 D n (fun v0_0 v0_1 v0_2=>K (Ex.ret) (qj4 v0_0 v0_1 v0_2)) (fun v1_0 v1_1=>K (Ex.exit 2) (qj0 v1_0 v1_1)) m:=by funext x1_0 x1_1 x1_2 x1_3;exact qy7 D n K m x1_0 x1_1 x1_2 x1_3
  rw[qbar]
  rw[ih];rfl
theorem q89 (D:DX)(n:Nat) (m:Nat) (K:Ex→St→Option (Out ctx 169)) (v0_0:Bool) (v0_1:Int) (v0_2:tSch) :
 (CQ qc D n 169 [.r,.l,.r,.l,.l] [.r,.l,.l,.r,.r,.r,.l] (LK qc D n 169 [.r,.l,.r,.l] m K)) (Ex.ret) (qj4 v0_0 v0_1 v0_2)=qw7 D n (fun x0 x1=>LQ qc D n 169 [.r,.l,.r,.l] m (qc9 x0 x1) K) (fun v0_0 v0_1=>K (Ex.ret) (qdz v0_0 v0_1)) (fun v1_0=>K (Ex.exit 0) (qdr v1_0)) v0_0 v0_1 v0_2:=by kernel_rfl
theorem q8t (D:DX)(n:Nat) (m:Nat) (K:Ex→St→Option (Out ctx 169)) (v1_0:Int) (v1_1:tSch) :
 (CQ qc D n 169 [.r,.l,.r,.l,.l] [.r,.l,.l,.r,.r,.r,.l] (LK qc D n 169 [.r,.l,.r,.l] m K)) (Ex.exit 2) (qj0 v1_0 v1_1)=qo8 D n (fun x0 x1=>LQ qc D n 169 [.r,.l,.r,.l] m (qc9 x0 x1) K) (fun v0_0 v0_1=>K (Ex.ret) (qdz v0_0 v0_1)) (fun v1_0=>K (Ex.exit 0) (qdr v1_0)) v1_0 v1_1:=by kernel_rfl
theorem q9c (D:DX)(n:Nat) (m:Nat) (K:Ex→St→Option (Out ctx 169)) (x1_0:Int) (x1_1:Int) (x1_2:tSch) (x1_3:ByteArray×List Int×Bool×Unit) :
 LQ qc D n 169 [.r,.l,.r,.l,.l,.r,.l,.l,.r,.r,.r,.l] n (qfz x1_0 x1_1 x1_2 x1_3) (CQ qc D n 169 [.r,.l,.r,.l,.l] [.r,.l,.l,.r,.r,.r,.l] (LK qc D n 169 [.r,.l,.r,.l] m K))=qp7 D n (fun x0 x1=>LQ qc D n 169 [.r,.l,.r,.l] m (qc9 x0 x1) K) (fun v0_0 v0_1=>K (Ex.ret) (qdz v0_0 v0_1)) (fun v1_0=>K (Ex.exit 0) (qdr v1_0)) x1_0 x1_1 x1_2 x1_3:=by
 rw[qy7]
 simp only[q89,q8t]
 rfl
theorem qbak (D:DX)(n:Nat) (m:Nat) (K:Ex→St→Option (Out ctx 169)) (x0:Int) (x1:tSch) :
 LQ qc D n 169 [.r,.l,.r,.l] (m+1) (qc9 x0 x1) K=qsr D n (fun x0 x1=>LQ qc D n 169 [.r,.l,.r,.l] m (qc9 x0 x1) K) (fun v0_0 v0_1=>K (Ex.ret) (qdz v0_0 v0_1)) (fun v1_0=>K (Ex.exit 0) (qdr v1_0)) (fun x1_0 x1_1 x1_2 x1_3=>LQ qc D n 169 [.r,.l,.r,.l,.l,.r,.l,.l,.r,.r,.r,.l] n (qfz x1_0 x1_1 x1_2 x1_3) (CQ qc D n 169 [.r,.l,.r,.l,.l] [.r,.l,.l,.r,.r,.r,.l] (LK qc D n 169 [.r,.l,.r,.l] m K))) x0 x1:=by kernel_rfl
theorem qzb (D:DX)(n:Nat) (K:Ex→St→Option (Out ctx 169)):∀ (m:Nat) (x0:Int) (x1:tSch),LQ qc D n 169 [.r,.l,.r,.l] m (qc9 x0 x1) K=qdn D n (fun v0_0 v0_1=>K (Ex.ret) (qdz v0_0 v0_1)) (fun v1_0=>K (Ex.exit 0) (qdr v1_0)) m x0 x1
 | 0,x0,x1=>qx ..
 | m+1,x0,x1=>by
  have ih:(fun x0 x1=>LQ qc D n 169 [.r,.l,.r,.l] m (qc9 x0 x1) K)=qdn D n (fun v0_0 v0_1=>K (Ex.ret) (qdz v0_0 v0_1)) (fun v1_0=>K (Ex.exit 0) (qdr v1_0)) m:=by funext x0 x1;exact qzb D n K m x0 x1
  rw[qbak]
  simp only[q9c]
  rw[ih];rfl
theorem q9j (D:DX)(n:Nat) (v0_0:Bool) (v0_1:tSch) :
 (CQ qc D n 169 [] [.r,.l,.r,.l] (qh qc 169)) (Ex.ret) (qdz v0_0 v0_1)=qph D n v0_0 v0_1:=by kernel_rfl
theorem q81 (D:DX)(n:Nat) (v1_0:tSch) :
 (CQ qc D n 169 [] [.r,.l,.r,.l] (qh qc 169)) (Ex.exit 0) (qdr v1_0)=qox D n v1_0:=by kernel_rfl
theorem q9l (D:DX)(n:Nat) (x0:Int) (x1:tSch) :
 LQ qc D n 169 [.r,.l,.r,.l] n (qc9 x0 x1) (CQ qc D n 169 [] [.r,.l,.r,.l] (qh qc 169))=qp3 D n x0 x1:=by
 rw[qzb]
 simp only[q9j,q81]
 rfl
theorem qbfb (D:DX)(n:Nat) (a0:tSch):rfC qc D n 169 (a0,())=qup D n a0:=by
 have h:rfC qc D n 169 (a0,())=qt7 D n (fun x0 x1=>LQ qc D n 169 [.r,.l,.r,.l] n (qc9 x0 x1) (CQ qc D n 169 [] [.r,.l,.r,.l] (qh qc 169))) a0:=by kernel_rfl
 rw[h]
 simp only[q9l]
 rfl

def qz5 (D:DX)(n:Nat) (go:qj→Int→Int→Option ((Int×Unit)×Unit)) (K0:Int→Int→Option ((Int×Unit)×Unit)) (K1:Int→Option ((Int×Unit)×Unit)) (x0:qj) (x1:Int) (x2:Int):Option ((Int×Unit)×Unit):=br (decide (x2<(↑(List.length x0):Int))) (br (decide (0≤x2)&&decide (x2<(↑(List.length x0):Int))) (qi (qya D (List.getD x0 (Int.toNat x2) (ByteArray.empty,0,false,())) x1) fun b↦br (decide (Prod.fst (Prod.fst b)<0)) (K0 (Prod.fst (Prod.fst b)) (-1)) (go x0 (Prod.fst (Prod.fst b)) (IntKind.wrap IntKind.i64 (x2+1)))) none) (K1 x1)
def qkk (D:DX)(n:Nat) (K0:Int→Int→Option ((Int×Unit)×Unit)) (K1:Int→Option ((Int×Unit)×Unit)):Nat→(qj)→(Int)→(Int)→Option ((Int×Unit)×Unit) | 0=>(fun x0 x1 x2=>none) | m+1=>(fun x0 x1 x2=>qz5 D n (qkk D n K0 K1 m) K0 K1 x0 x1 x2)
def qv1 (D:DX)(n:Nat) (v0_0:Int) (v0_1:Int):Option ((Int×Unit)×Unit):=some ((v0_1,()),())
def qwq (D:DX)(n:Nat) (v1_0:Int):Option ((Int×Unit)×Unit):=some ((v1_0,()),())
def qyg (D:DX)(n:Nat):(qj)→(Int)→(Int)→Option ((Int×Unit)×Unit):=(fun x0 x1 x2=>qkk D n (fun v0_0 v0_1=>qv1 D n v0_0 v0_1) (fun v1_0=>qwq D n v1_0) n x0 x1 x2)
def q21 (D:DX)(n:Nat) (lp0:qj→Int→Int→Option ((Int×Unit)×Unit)) (a0:qj) (a1:Int):Option ((Int×Unit)×Unit):=br (decide (IntKind.wrap IntKind.i64 (a1 - (↑(List.length a0):Int))<0)) (some ((-1,()),())) (lp0 a0 (IntKind.wrap IntKind.i64 (a1 - (↑(List.length a0):Int))) 0)
def q2o (D:DX)(n:Nat) (a0:qj) (a1:Int):Option ((Int×Unit)×Unit):=q21 D n (qyg D n) a0 a1
def qkb (x0:qj) (x1:Int) (x2:Int):St:=stq 27 [(0,AV.val (Ty.sl yC) x0),(1,avI x1),(5,avI x2)] [] 
def qo6 (v0_0:Int) (v0_1:Int):St:=stq 27 [(1,avI v0_0),(4,avI v0_1)] [] 
def qok (v1_0:Int):St:=stq 27 [(1,avI v1_0)] [] 
theorem qbjf (D:DX)(n:Nat) (m:Nat) (K:Ex→St→Option (Out ctx 174)) (x0:qj) (x1:Int) (x2:Int) :
 LQ qc D n 174 [.r,.r,.r,.l,.r,.l] (m+1) (qkb x0 x1 x2) K=qz5 D n (fun x0 x1 x2=>LQ qc D n 174 [.r,.r,.r,.l,.r,.l] m (qkb x0 x1 x2) K) (fun v0_0 v0_1=>K (Ex.ret) (qo6 v0_0 v0_1)) (fun v1_0=>K (Ex.exit 0) (qok v1_0)) x0 x1 x2:=by kernel_rfl
theorem q6s (D:DX)(n:Nat) (K:Ex→St→Option (Out ctx 174)):∀ (m:Nat) (x0:qj) (x1:Int) (x2:Int),LQ qc D n 174 [.r,.r,.r,.l,.r,.l] m (qkb x0 x1 x2) K=qkk D n (fun v0_0 v0_1=>K (Ex.ret) (qo6 v0_0 v0_1)) (fun v1_0=>K (Ex.exit 0) (qok v1_0)) m x0 x1 x2
 | 0,x0,x1,x2=>qx ..
 | m+1,x0,x1,x2=>by
  have ih:(fun x0 x1 x2=>LQ qc D n 174 [.r,.r,.r,.l,.r,.l] m (qkb x0 x1 x2) K)=qkk D n (fun v0_0 v0_1=>K (Ex.ret) (qo6 v0_0 v0_1)) (fun v1_0=>K (Ex.exit 0) (qok v1_0)) m:=by funext x0 x1 x2;exact q6s D n K m x0 x1 x2
  rw[qbjf]
  rw[ih];rfl
theorem qbhb (D:DX)(n:Nat) (v0_0:Int) (v0_1:Int) :
 (CQ qc D n 174 [] [.r,.r,.r,.l,.r,.l] (qh qc 174)) (Ex.ret) (qo6 v0_0 v0_1)=qv1 D n v0_0 v0_1:=by kernel_rfl
theorem qbhq (D:DX)(n:Nat) (v1_0:Int) :
 (CQ qc D n 174 [] [.r,.r,.r,.l,.r,.l] (qh qc 174)) (Ex.exit 0) (qok v1_0)=qwq D n v1_0:=by kernel_rfl
theorem qbgo (D:DX)(n:Nat) (x0:qj) (x1:Int) (x2:Int) :
 LQ qc D n 174 [.r,.r,.r,.l,.r,.l] n (qkb x0 x1 x2) (CQ qc D n 174 [] [.r,.r,.r,.l,.r,.l] (qh qc 174))=qyg D n x0 x1 x2:=by
 rw[q6s]
 simp only[qbhb,qbhq]
 rfl
theorem qbnj (D:DX)(n:Nat) (a0:qj) (a1:Int):rfC qc D n 174 (a0,(a1,()))=q2o D n a0 a1:=by
 have h:rfC qc D n 174 (a0,(a1,()))=q21 D n (fun x0 x1 x2=>LQ qc D n 174 [.r,.r,.r,.l,.r,.l] n (qkb x0 x1 x2) (CQ qc D n 174 [] [.r,.r,.r,.l,.r,.l] (qh qc 174))) a0 a1:=by kernel_rfl
 rw[h]
 simp only[qbgo]
 rfl

def q9w (D:DX)(n:Nat) (a0:List Int) (a1:Int):Option ((Int×Unit)×Unit):=br (decide (IntKind.wrap IntKind.i64 (a1 - (↑(List.length a0):Int))<0)) (some ((-1,()),())) (some ((IntKind.wrap IntKind.i64 (a1 - (↑(List.length a0):Int)),()),()))
def q26 (D:DX)(n:Nat) (a0:List Int) (a1:Int):Option ((Int×Unit)×Unit):=q9w D n a0 a1
theorem qbno (D:DX)(n:Nat) (a0:List Int) (a1:Int):rfC qc D n 175 (a0,(a1,()))=q26 D n a0 a1:=by kernel_rfl

def qwh (D:DX)(n:Nat) (go:tIxs→Int→Int→Option ((Int×Unit)×Unit)) (K0:Int→Int→Option ((Int×Unit)×Unit)) (K1:Int→Option ((Int×Unit)×Unit)) (x0:tIxs) (x1:Int) (x2:Int):Option ((Int×Unit)×Unit):=br (decide (x2<(↑(List.length x0):Int))) (br (decide (0≤x2)&&decide (x2<(↑(List.length x0):Int))) (qi (qs2 D (List.getD x0 (Int.toNat x2) (ByteArray.empty,[],false,())) x1) fun b↦br (decide (Prod.fst (Prod.fst b)<0)) (K0 (Prod.fst (Prod.fst b)) (-1)) (go x0 (Prod.fst (Prod.fst b)) (IntKind.wrap IntKind.i64 (x2+1)))) none) (K1 x1)
def qif (D:DX)(n:Nat) (K0:Int→Int→Option ((Int×Unit)×Unit)) (K1:Int→Option ((Int×Unit)×Unit)):Nat→(tIxs)→(Int)→(Int)→Option ((Int×Unit)×Unit) | 0=>(fun x0 x1 x2=>none) | m+1=>(fun x0 x1 x2=>qwh D n (qif D n K0 K1 m) K0 K1 x0 x1 x2)
def qsj (D:DX)(n:Nat) (v0_0:Int) (v0_1:Int):Option ((Int×Unit)×Unit):=some ((v0_1,()),())
def qr6 (D:DX)(n:Nat) (v1_0:Int):Option ((Int×Unit)×Unit):=some ((v1_0,()),())
def qtz (D:DX)(n:Nat):(tIxs)→(Int)→(Int)→Option ((Int×Unit)×Unit):=(fun x0 x1 x2=>qif D n (fun v0_0 v0_1=>qsj D n v0_0 v0_1) (fun v1_0=>qr6 D n v1_0) n x0 x1 x2)
def qxu (D:DX)(n:Nat) (lp0:tIxs→Int→Int→Option ((Int×Unit)×Unit)) (a0:tIxs) (a1:Int):Option ((Int×Unit)×Unit):=br (decide (IntKind.wrap IntKind.i64 (a1 - (↑(List.length a0):Int))<0)) (some ((-1,()),())) (lp0 a0 (IntKind.wrap IntKind.i64 (a1 - (↑(List.length a0):Int))) 0)
def qyx (D:DX)(n:Nat) (a0:tIxs) (a1:Int):Option ((Int×Unit)×Unit):=qxu D n (qtz D n) a0 a1
def qid (x0:tIxs) (x1:Int) (x2:Int):St:=stq 27 [(0,AV.val (Ty.sl yX) x0),(1,avI x1),(5,avI x2)] [] 
def qm7 (v0_0:Int) (v0_1:Int):St:=stq 27 [(1,avI v0_0),(4,avI v0_1)] [] 
def qm1 (v1_0:Int):St:=stq 27 [(1,avI v1_0)] [] 
theorem qbey (D:DX)(n:Nat) (m:Nat) (K:Ex→St→Option (Out ctx 176)) (x0:tIxs) (x1:Int) (x2:Int) :
 LQ qc D n 176 [.r,.r,.r,.l,.r,.l] (m+1) (qid x0 x1 x2) K=qwh D n (fun x0 x1 x2=>LQ qc D n 176 [.r,.r,.r,.l,.r,.l] m (qid x0 x1 x2) K) (fun v0_0 v0_1=>K (Ex.ret) (qm7 v0_0 v0_1)) (fun v1_0=>K (Ex.exit 0) (qm1 v1_0)) x0 x1 x2:=by kernel_rfl
theorem q34 (D:DX)(n:Nat) (K:Ex→St→Option (Out ctx 176)):∀ (m:Nat) (x0:tIxs) (x1:Int) (x2:Int),LQ qc D n 176 [.r,.r,.r,.l,.r,.l] m (qid x0 x1 x2) K=qif D n (fun v0_0 v0_1=>K (Ex.ret) (qm7 v0_0 v0_1)) (fun v1_0=>K (Ex.exit 0) (qm1 v1_0)) m x0 x1 x2
 | 0,x0,x1,x2=>qx ..
 | m+1,x0,x1,x2=>by
  have ih:(fun x0 x1 x2=>LQ qc D n 176 [.r,.r,.r,.l,.r,.l] m (qid x0 x1 x2) K)=qif D n (fun v0_0 v0_1=>K (Ex.ret) (qm7 v0_0 v0_1)) (fun v1_0=>K (Ex.exit 0) (qm1 v1_0)) m:=by funext x0 x1 x2;exact q34 D n K m x0 x1 x2
  rw[qbey]
  rw[ih];rfl
theorem qbbi (D:DX)(n:Nat) (v0_0:Int) (v0_1:Int) :
 (CQ qc D n 176 [] [.r,.r,.r,.l,.r,.l] (qh qc 176)) (Ex.ret) (qm7 v0_0 v0_1)=qsj D n v0_0 v0_1:=by kernel_rfl
theorem qbbv (D:DX)(n:Nat) (v1_0:Int) :
 (CQ qc D n 176 [] [.r,.r,.r,.l,.r,.l] (qh qc 176)) (Ex.exit 0) (qm1 v1_0)=qr6 D n v1_0:=by kernel_rfl
theorem qbcx (D:DX)(n:Nat) (x0:tIxs) (x1:Int) (x2:Int) :
 LQ qc D n 176 [.r,.r,.r,.l,.r,.l] n (qid x0 x1 x2) (CQ qc D n 176 [] [.r,.r,.r,.l,.r,.l] (qh qc 176))=qtz D n x0 x1 x2:=by
 rw[q34]
 simp only[qbbi,qbbv]
 rfl
theorem qbkj (D:DX)(n:Nat) (a0:tIxs) (a1:Int):rfC qc D n 176 (a0,(a1,()))=qyx D n a0 a1:=by
 have h:rfC qc D n 176 (a0,(a1,()))=qxu D n (fun x0 x1 x2=>LQ qc D n 176 [.r,.r,.r,.l,.r,.l] n (qid x0 x1 x2) (CQ qc D n 176 [] [.r,.r,.r,.l,.r,.l] (qh qc 176))) a0 a1:=by kernel_rfl
 rw[h]
 simp only[qbcx]
 rfl

def q0o (D:DX)(n:Nat) (go:qj→Int→qj→Option ((qj×Unit)×Unit)) (K0:qj→Option ((qj×Unit)×Unit)) (x0:qj) (x1:Int) (x2:qj):Option ((qj×Unit)×Unit):=br (decide (x1<(↑(List.length x0):Int))) (br (decide (0≤x1)&&decide (x1<(↑(List.length x0):Int))) (qi (qxw D (List.getD x0 (Int.toNat x1) (ByteArray.empty,0,false,()))) fun b↦br (decide (0≤x1)&&decide (x1<(↑(List.length x2):Int))) (go x0 (IntKind.wrap IntKind.i64 (x1+1)) (List.set x2 (Int.toNat x1) (Prod.fst (Prod.fst b)))) none) none) (K0 x2)
def qki (D:DX)(n:Nat) (K0:qj→Option ((qj×Unit)×Unit)):Nat→(qj)→(Int)→(qj)→Option ((qj×Unit)×Unit) | 0=>(fun x0 x1 x2=>none) | m+1=>(fun x0 x1 x2=>q0o D n (qki D n K0 m) K0 x0 x1 x2)
def qor (D:DX)(n:Nat) (v0_0:qj):Option ((qj×Unit)×Unit):=some ((v0_0,()),())
def qxp (D:DX)(n:Nat):(qj)→(Int)→(qj)→Option ((qj×Unit)×Unit):=(fun x0 x1 x2=>qki D n (fun v0_0=>qor D n v0_0) n x0 x1 x2)
def q2m (D:DX)(n:Nat) (lp0:qj→Int→qj→Option ((qj×Unit)×Unit)) (a0:qj):Option ((qj×Unit)×Unit):=br (decide (0≤(↑(List.length a0):Int))&&decide ((↑(List.length a0):Int)≤(↑(List.length a0):Int))&&decide ((↑(List.length a0):Int)≤(↑qbk:Int))) (lp0 a0 0 (List.replicate (Int.toNat (↑(List.length a0):Int)) (ByteArray.empty,0,false,()))) none
def q29 (D:DX)(n:Nat) (a0:qj):Option ((qj×Unit)×Unit):=q2m D n (qxp D n) a0
def qke (x0:qj) (x1:Int) (x2:qj):St:=stq 23 [(0,AV.val (Ty.sl yC) x0),(3,AV.brw 3 [] 0),(4,avI x1)] [(3,Root.mk (Ty.sl yC) (Mk.own 0 (Mk.pr Mk.no (Mk.pr Mk.no (Mk.pr Mk.no Mk.no)))) x2 false)] 
def qov (v0_0:qj):St:=stq 23 [(3,AV.brw 3 [] 0)] [(3,Root.mk (Ty.sl yC) (Mk.own 0 (Mk.pr Mk.no (Mk.pr Mk.no (Mk.pr Mk.no Mk.no)))) v0_0 false)] 
theorem qbic (D:DX)(n:Nat) (m:Nat) (K:Ex→St→Option (Out ctx 177)) (x0:qj) (x1:Int) (x2:qj) :
 LQ qc D n 177 [.r,.r,.l,.r,.l] (m+1) (qke x0 x1 x2) K=q0o D n (fun x0 x1 x2=>LQ qc D n 177 [.r,.r,.l,.r,.l] m (qke x0 x1 x2) K) (fun v0_0=>K (Ex.exit 0) (qov v0_0)) x0 x1 x2:=by kernel_rfl
theorem q6w (D:DX)(n:Nat) (K:Ex→St→Option (Out ctx 177)):∀ (m:Nat) (x0:qj) (x1:Int) (x2:qj),LQ qc D n 177 [.r,.r,.l,.r,.l] m (qke x0 x1 x2) K=qki D n (fun v0_0=>K (Ex.exit 0) (qov v0_0)) m x0 x1 x2
 | 0,x0,x1,x2=>qx ..
 | m+1,x0,x1,x2=>by
  have ih:(fun x0 x1 x2=>LQ qc D n 177 [.r,.r,.l,.r,.l] m (qke x0 x1 x2) K)=qki D n (fun v0_0=>K (Ex.exit 0) (qov v0_0)) m:=by funext x0 x1 x2;exact q6w D n K m x0 x1 x2
  rw[qbic]
  rw[ih];rfl
theorem qbgg (D:DX)(n:Nat) (v0_0:qj) :
 (CQ qc D n 177 [] [.r,.r,.l,.r,.l] (qh qc 177)) (Ex.exit 0) (qov v0_0)=qor D n v0_0:=by kernel_rfl
theorem qbhc (D:DX)(n:Nat) (x0:qj) (x1:Int) (x2:qj) :
 LQ qc D n 177 [.r,.r,.l,.r,.l] n (qke x0 x1 x2) (CQ qc D n 177 [] [.r,.r,.l,.r,.l] (qh qc 177))=qxp D n x0 x1 x2:=by
 rw[q6w]
 simp only[qbgg]
 rfl
theorem qbnl (D:DX)(n:Nat) (a0:qj):rfC qc D n 177 (a0,())=q29 D n a0:=by
 have h:rfC qc D n 177 (a0,())=q2m D n (fun x0 x1 x2=>LQ qc D n 177 [.r,.r,.l,.r,.l] n (qke x0 x1 x2) (CQ qc D n 177 [] [.r,.r,.l,.r,.l] (qh qc 177))) a0:=by kernel_rfl
 rw[h]
 simp only[qbhc]
 rfl

def q0z (D:DX)(n:Nat) (go:List Int→Int→List Int→Option ((List Int×Unit)×Unit)) (K0:List Int→Option ((List Int×Unit)×Unit)) (x0:List Int) (x1:Int) (x2:List Int):Option ((List Int×Unit)×Unit):=br (decide (x1<(↑(List.length x0):Int))) (br (decide (0≤x1)&&decide (x1<(↑(List.length x0):Int))) (br (decide (0≤x1)&&decide (x1<(↑(List.length x2):Int))) (go x0 (IntKind.wrap IntKind.i64 (x1+1)) (List.set x2 (Int.toNat x1) (List.getD x0 (Int.toNat x1) 0))) none) none) (K0 x2)
def qkd (D:DX)(n:Nat) (K0:List Int→Option ((List Int×Unit)×Unit)):Nat→(List Int)→(Int)→(List Int)→Option ((List Int×Unit)×Unit) | 0=>(fun x0 x1 x2=>none) | m+1=>(fun x0 x1 x2=>q0z D n (qkd D n K0 m) K0 x0 x1 x2)
def qo3 (D:DX)(n:Nat) (v0_0:List Int):Option ((List Int×Unit)×Unit):=some ((v0_0,()),())
def qwx (D:DX)(n:Nat):(List Int)→(Int)→(List Int)→Option ((List Int×Unit)×Unit):=(fun x0 x1 x2=>qkd D n (fun v0_0=>qo3 D n v0_0) n x0 x1 x2)
def q2i (D:DX)(n:Nat) (lp0:List Int→Int→List Int→Option ((List Int×Unit)×Unit)) (a0:List Int):Option ((List Int×Unit)×Unit):=br (decide (0≤(↑(List.length a0):Int))&&decide ((↑(List.length a0):Int)≤(↑(List.length a0):Int))&&decide ((↑(List.length a0):Int)≤(↑qbk:Int))) (lp0 a0 0 (List.replicate (Int.toNat (↑(List.length a0):Int)) 0)) none
def q2w (D:DX)(n:Nat) (a0:List Int):Option ((List Int×Unit)×Unit):=q2i D n (qwx D n) a0
def qkl (x0:List Int) (x1:Int) (x2:List Int):St:=stq 22 [(0,AV.val (Ty.sl yI) x0),(3,AV.brw 3 [] 0),(4,avI x1)] [(3,Root.mk (Ty.sl yI) (Mk.own 0 Mk.no) x2 false)] 
def qow (v0_0:List Int):St:=stq 22 [(3,AV.brw 3 [] 0)] [(3,Root.mk (Ty.sl yI) (Mk.own 0 Mk.no) v0_0 false)] 
theorem qbjy (D:DX)(n:Nat) (m:Nat) (K:Ex→St→Option (Out ctx 178)) (x0:List Int) (x1:Int) (x2:List Int) :
 LQ qc D n 178 [.r,.r,.l,.r,.l] (m+1) (qkl x0 x1 x2) K=q0z D n (fun x0 x1 x2=>LQ qc D n 178 [.r,.r,.l,.r,.l] m (qkl x0 x1 x2) K) (fun v0_0=>K (Ex.exit 0) (qow v0_0)) x0 x1 x2:=by kernel_rfl
theorem q6d (D:DX)(n:Nat) (K:Ex→St→Option (Out ctx 178)):∀ (m:Nat) (x0:List Int) (x1:Int) (x2:List Int),LQ qc D n 178 [.r,.r,.l,.r,.l] m (qkl x0 x1 x2) K=qkd D n (fun v0_0=>K (Ex.exit 0) (qow v0_0)) m x0 x1 x2
 | 0,x0,x1,x2=>qx ..
 | m+1,x0,x1,x2=>by
  have ih:(fun x0 x1 x2=>LQ qc D n 178 [.r,.r,.l,.r,.l] m (qkl x0 x1 x2) K)=qkd D n (fun v0_0=>K (Ex.exit 0) (qow v0_0)) m:=by funext x0 x1 x2;exact q6d D n K m x0 x1 x2
  rw[qbjy]
  rw[ih];rfl
theorem qbf9 (D:DX)(n:Nat) (v0_0:List Int) :
 (CQ qc D n 178 [] [.r,.r,.l,.r,.l] (qh qc 178)) (Ex.exit 0) (qow v0_0)=qo3 D n v0_0:=by kernel_rfl
theorem qbhg (D:DX)(n:Nat) (x0:List Int) (x1:Int) (x2:List Int) :
 LQ qc D n 178 [.r,.r,.l,.r,.l] n (qkl x0 x1 x2) (CQ qc D n 178 [] [.r,.r,.l,.r,.l] (qh qc 178))=qwx D n x0 x1 x2:=by
 rw[q6d]
 simp only[qbf9]
 rfl
theorem qbng (D:DX)(n:Nat) (a0:List Int):rfC qc D n 178 (a0,())=q2w D n a0:=by
 have h:rfC qc D n 178 (a0,())=q2i D n (fun x0 x1 x2=>LQ qc D n 178 [.r,.r,.l,.r,.l] n (qkl x0 x1 x2) (CQ qc D n 178 [] [.r,.r,.l,.r,.l] (qh qc 178))) a0:=by kernel_rfl
 rw[h]
 simp only[qbhg]
 rfl

def qwe (D:DX)(n:Nat) (go:tIxs→Int→tIxs→Option ((tIxs×Unit)×Unit)) (K0:tIxs→Option ((tIxs×Unit)×Unit)) (x0:tIxs) (x1:Int) (x2:tIxs):Option ((tIxs×Unit)×Unit):=br (decide (x1<(↑(List.length x0):Int))) (br (decide (0≤x1)&&decide (x1<(↑(List.length x0):Int))) (qi (qs7 D (List.getD x0 (Int.toNat x1) (ByteArray.empty,[],false,()))) fun b↦br (decide (0≤x1)&&decide (x1<(↑(List.length x2):Int))) (go x0 (IntKind.wrap IntKind.i64 (x1+1)) (List.set x2 (Int.toNat x1) (Prod.fst (Prod.fst (Prod.fst b)),Prod.fst (Prod.snd (Prod.fst (Prod.fst b))),Prod.snd (Prod.snd (Prod.fst (Prod.fst b)))))) none) none) (K0 x2)
def qhz (D:DX)(n:Nat) (K0:tIxs→Option ((tIxs×Unit)×Unit)):Nat→(tIxs)→(Int)→(tIxs)→Option ((tIxs×Unit)×Unit) | 0=>(fun x0 x1 x2=>none) | m+1=>(fun x0 x1 x2=>qwe D n (qhz D n K0 m) K0 x0 x1 x2)
def qms (D:DX)(n:Nat) (v0_0:tIxs):Option ((tIxs×Unit)×Unit):=some ((v0_0,()),())
def qtj (D:DX)(n:Nat):(tIxs)→(Int)→(tIxs)→Option ((tIxs×Unit)×Unit):=(fun x0 x1 x2=>qhz D n (fun v0_0=>qms D n v0_0) n x0 x1 x2)
def qwy (D:DX)(n:Nat) (lp0:tIxs→Int→tIxs→Option ((tIxs×Unit)×Unit)) (a0:tIxs):Option ((tIxs×Unit)×Unit):=br (decide (0≤(↑(List.length a0):Int))&&decide ((↑(List.length a0):Int)≤(↑(List.length a0):Int))&&decide ((↑(List.length a0):Int)≤(↑qbk:Int))) (lp0 a0 0 (List.replicate (Int.toNat (↑(List.length a0):Int)) (ByteArray.empty,[],false,()))) none
def qyf (D:DX)(n:Nat) (a0:tIxs):Option ((tIxs×Unit)×Unit):=qwy D n (qtj D n) a0
def qig (x0:tIxs) (x1:Int) (x2:tIxs):St:=stq 23 [(0,AV.val (Ty.sl yX) x0),(3,AV.brw 3 [] 0),(4,avI x1)] [(3,Root.mk (Ty.sl yX) (Mk.own 0 (Mk.pr Mk.no (Mk.pr (Mk.own 0 Mk.no) (Mk.pr Mk.no Mk.no)))) x2 false)] 
def ql6 (v0_0:tIxs):St:=stq 23 [(3,AV.brw 3 [] 0)] [(3,Root.mk (Ty.sl yX) (Mk.own 0 (Mk.pr Mk.no (Mk.pr (Mk.own 0 Mk.no) (Mk.pr Mk.no Mk.no)))) v0_0 false)] 
theorem qben (D:DX)(n:Nat) (m:Nat) (K:Ex→St→Option (Out ctx 179)) (x0:tIxs) (x1:Int) (x2:tIxs) :
 LQ qc D n 179 [.r,.r,.l,.r,.l] (m+1) (qig x0 x1 x2) K=qwe D n (fun x0 x1 x2=>LQ qc D n 179 [.r,.r,.l,.r,.l] m (qig x0 x1 x2) K) (fun v0_0=>K (Ex.exit 0) (ql6 v0_0)) x0 x1 x2:=by kernel_rfl
theorem q3q (D:DX)(n:Nat) (K:Ex→St→Option (Out ctx 179)):∀ (m:Nat) (x0:tIxs) (x1:Int) (x2:tIxs),LQ qc D n 179 [.r,.r,.l,.r,.l] m (qig x0 x1 x2) K=qhz D n (fun v0_0=>K (Ex.exit 0) (ql6 v0_0)) m x0 x1 x2
 | 0,x0,x1,x2=>qx ..
 | m+1,x0,x1,x2=>by
  have ih:(fun x0 x1 x2=>LQ qc D n 179 [.r,.r,.l,.r,.l] m (qig x0 x1 x2) K)=qhz D n (fun v0_0=>K (Ex.exit 0) (ql6 v0_0)) m:=by funext x0 x1 x2;exact q3q D n K m x0 x1 x2
  rw[qben]
  rw[ih];rfl
theorem qba8 (D:DX)(n:Nat) (v0_0:tIxs) :
 (CQ qc D n 179 [] [.r,.r,.l,.r,.l] (qh qc 179)) (Ex.exit 0) (ql6 v0_0)=qms D n v0_0:=by kernel_rfl
theorem qba5 (D:DX)(n:Nat) (x0:tIxs) (x1:Int) (x2:tIxs) :
 LQ qc D n 179 [.r,.r,.l,.r,.l] n (qig x0 x1 x2) (CQ qc D n 179 [] [.r,.r,.l,.r,.l] (qh qc 179))=qtj D n x0 x1 x2:=by
 rw[q3q]
 simp only[qba8]
 rfl
theorem qbji (D:DX)(n:Nat) (a0:tIxs):rfC qc D n 179 (a0,())=qyf D n a0:=by
 have h:rfC qc D n 179 (a0,())=qwy D n (fun x0 x1 x2=>LQ qc D n 179 [.r,.r,.l,.r,.l] n (qig x0 x1 x2) (CQ qc D n 179 [] [.r,.r,.l,.r,.l] (qh qc 179))) a0:=by kernel_rfl
 rw[h]
 simp only[qba5]
 rfl

def qz4 (D:DX)(n:Nat) (go:qj→qj→Int→Option ((Bool×Unit)×Unit)) (K0:Bool→Option ((Bool×Unit)×Unit)) (K1:Option ((Bool×Unit)×Unit)) (x0:qj) (x1:qj) (x2:Int):Option ((Bool×Unit)×Unit):=br (decide (x2<(↑(List.length x0):Int))) (br (decide (0≤x2)&&decide (x2<(↑(List.length x0):Int))) (br (decide (0≤x2)&&decide (x2<(↑(List.length x1):Int))) (qi (qyw D (List.getD x0 (Int.toNat x2) (ByteArray.empty,0,false,())) (List.getD x1 (Int.toNat x2) (ByteArray.empty,0,false,()))) fun b↦br (!Prod.fst (Prod.fst b)) (K0 false) (go x0 x1 (IntKind.wrap IntKind.i64 (x2+1)))) none) none) K1
def qkn (D:DX)(n:Nat) (K0:Bool→Option ((Bool×Unit)×Unit)) (K1:Option ((Bool×Unit)×Unit)):Nat→(qj)→(qj)→(Int)→Option ((Bool×Unit)×Unit) | 0=>(fun x0 x1 x2=>none) | m+1=>(fun x0 x1 x2=>qz4 D n (qkn D n K0 K1 m) K0 K1 x0 x1 x2)
def qom (D:DX)(n:Nat) (v0_0:Bool):Option ((Bool×Unit)×Unit):=some ((v0_0,()),())
def qon (D:DX)(n:Nat):Option ((Bool×Unit)×Unit):=some ((true,()),())
def qxj (D:DX)(n:Nat):(qj)→(qj)→(Int)→Option ((Bool×Unit)×Unit):=(fun x0 x1 x2=>qkn D n (fun v0_0=>qom D n v0_0) (qon D n) n x0 x1 x2)
def q2f (D:DX)(n:Nat) (lp0:qj→qj→Int→Option ((Bool×Unit)×Unit)) (a0:qj) (a1:qj):Option ((Bool×Unit)×Unit):=br ((↑(List.length a0):Int) != (↑(List.length a1):Int)) (some ((false,()),())) (lp0 a0 a1 0)
def q2q (D:DX)(n:Nat) (a0:qj) (a1:qj):Option ((Bool×Unit)×Unit):=q2f D n (qxj D n) a0 a1
def qkc (x0:qj) (x1:qj) (x2:Int):St:=stq 27 [(0,AV.val (Ty.sl yC) x0),(1,AV.val (Ty.sl yC) x1),(5,avI x2)] [] 
def qot (v0_0:Bool):St:=stq 27 [(4,AV.val Ty.bool v0_0)] [] 
def qpg:St:=stq 27 [] [] 
theorem qbia (D:DX)(n:Nat) (m:Nat) (K:Ex→St→Option (Out ctx 180)) (x0:qj) (x1:qj) (x2:Int) :
 LQ qc D n 180 [.r,.r,.l,.r,.l] (m+1) (qkc x0 x1 x2) K=qz4 D n (fun x0 x1 x2=>LQ qc D n 180 [.r,.r,.l,.r,.l] m (qkc x0 x1 x2) K) (fun v0_0=>K (Ex.ret) (qot v0_0)) (K (Ex.exit 0) (qpg)) x0 x1 x2:=by kernel_rfl
theorem q6p (D:DX)(n:Nat) (K:Ex→St→Option (Out ctx 180)):∀ (m:Nat) (x0:qj) (x1:qj) (x2:Int),LQ qc D n 180 [.r,.r,.l,.r,.l] m (qkc x0 x1 x2) K=qkn D n (fun v0_0=>K (Ex.ret) (qot v0_0)) (K (Ex.exit 0) (qpg)) m x0 x1 x2
 | 0,x0,x1,x2=>qx ..
 | m+1,x0,x1,x2=>by
  have ih:(fun x0 x1 x2=>LQ qc D n 180 [.r,.r,.l,.r,.l] m (qkc x0 x1 x2) K)=qkn D n (fun v0_0=>K (Ex.ret) (qot v0_0)) (K (Ex.exit 0) (qpg)) m:=by funext x0 x1 x2;exact q6p D n K m x0 x1 x2
  rw[qbia]
  rw[ih];rfl
theorem qbgv (D:DX)(n:Nat) (v0_0:Bool) :
 (CQ qc D n 180 [] [.r,.r,.l,.r,.l] (qh qc 180)) (Ex.ret) (qot v0_0)=qom D n v0_0:=by kernel_rfl
theorem qbgy (D:DX)(n:Nat) :
 (CQ qc D n 180 [] [.r,.r,.l,.r,.l] (qh qc 180)) (Ex.exit 0) (qpg)=qon D n:=by kernel_rfl
theorem qbgi (D:DX)(n:Nat) (x0:qj) (x1:qj) (x2:Int) :
 LQ qc D n 180 [.r,.r,.l,.r,.l] n (qkc x0 x1 x2) (CQ qc D n 180 [] [.r,.r,.l,.r,.l] (qh qc 180))=qxj D n x0 x1 x2:=by
 rw[q6p]
 simp only[qbgv,qbgy]
 rfl
theorem qbnk (D:DX)(n:Nat) (a0:qj) (a1:qj):rfC qc D n 180 (a0,(a1,()))=q2q D n a0 a1:=by
 have h:rfC qc D n 180 (a0,(a1,()))=q2f D n (fun x0 x1 x2=>LQ qc D n 180 [.r,.r,.l,.r,.l] n (qkc x0 x1 x2) (CQ qc D n 180 [] [.r,.r,.l,.r,.l] (qh qc 180))) a0 a1:=by kernel_rfl
 rw[h]
 simp only[qbgi]
 rfl

def q0a (D:DX)(n:Nat) (go:List Int→List Int→Int→Option ((Bool×Unit)×Unit)) (K0:Bool→Option ((Bool×Unit)×Unit)) (K1:Option ((Bool×Unit)×Unit)) (x0:List Int) (x1:List Int) (x2:Int):Option ((Bool×Unit)×Unit):=br (decide (x2<(↑(List.length x0):Int))) (br (decide (0≤x2)&&decide (x2<(↑(List.length x0):Int))) (br (decide (0≤x2)&&decide (x2<(↑(List.length x1):Int))) (br (List.getD x0 (Int.toNat x2) 0 != List.getD x1 (Int.toNat x2) 0) (K0 false) (go x0 x1 (IntKind.wrap IntKind.i64 (x2+1)))) none) none) K1
def qkg (D:DX)(n:Nat) (K0:Bool→Option ((Bool×Unit)×Unit)) (K1:Option ((Bool×Unit)×Unit)):Nat→(List Int)→(List Int)→(Int)→Option ((Bool×Unit)×Unit) | 0=>(fun x0 x1 x2=>none) | m+1=>(fun x0 x1 x2=>q0a D n (qkg D n K0 K1 m) K0 K1 x0 x1 x2)
def qo4 (D:DX)(n:Nat) (v0_0:Bool):Option ((Bool×Unit)×Unit):=some ((v0_0,()),())
def qo5 (D:DX)(n:Nat):Option ((Bool×Unit)×Unit):=some ((true,()),())
def qyv (D:DX)(n:Nat):(List Int)→(List Int)→(Int)→Option ((Bool×Unit)×Unit):=(fun x0 x1 x2=>qkg D n (fun v0_0=>qo4 D n v0_0) (qo5 D n) n x0 x1 x2)
def q2p (D:DX)(n:Nat) (lp0:List Int→List Int→Int→Option ((Bool×Unit)×Unit)) (a0:List Int) (a1:List Int):Option ((Bool×Unit)×Unit):=br ((↑(List.length a0):Int) != (↑(List.length a1):Int)) (some ((false,()),())) (lp0 a0 a1 0)
def q2k (D:DX)(n:Nat) (a0:List Int) (a1:List Int):Option ((Bool×Unit)×Unit):=q2p D n (qyv D n) a0 a1
def qkf (x0:List Int) (x1:List Int) (x2:Int):St:=stq 26 [(0,AV.val (Ty.sl yI) x0),(1,AV.val (Ty.sl yI) x1),(5,avI x2)] [] 
def qoy (v0_0:Bool):St:=stq 26 [(4,AV.val Ty.bool v0_0)] [] 
def qo1:St:=stq 26 [] [] 
theorem qbhw (D:DX)(n:Nat) (m:Nat) (K:Ex→St→Option (Out ctx 181)) (x0:List Int) (x1:List Int) (x2:Int) :
 LQ qc D n 181 [.r,.r,.l,.r,.l] (m+1) (qkf x0 x1 x2) K=q0a D n (fun x0 x1 x2=>LQ qc D n 181 [.r,.r,.l,.r,.l] m (qkf x0 x1 x2) K) (fun v0_0=>K (Ex.ret) (qoy v0_0)) (K (Ex.exit 0) (qo1)) x0 x1 x2:=by kernel_rfl
theorem q59 (D:DX)(n:Nat) (K:Ex→St→Option (Out ctx 181)):∀ (m:Nat) (x0:List Int) (x1:List Int) (x2:Int),LQ qc D n 181 [.r,.r,.l,.r,.l] m (qkf x0 x1 x2) K=qkg D n (fun v0_0=>K (Ex.ret) (qoy v0_0)) (K (Ex.exit 0) (qo1)) m x0 x1 x2
 | 0,x0,x1,x2=>qx ..
 | m+1,x0,x1,x2=>by
  have ih:(fun x0 x1 x2=>LQ qc D n 181 [.r,.r,.l,.r,.l] m (qkf x0 x1 x2) K)=qkg D n (fun v0_0=>K (Ex.ret) (qoy v0_0)) (K (Ex.exit 0) (qo1)) m:=by funext x0 x1 x2;exact q59 D n K m x0 x1 x2
  rw[qbhw]
  rw[ih];rfl
theorem qbgt (D:DX)(n:Nat) (v0_0:Bool) :
 (CQ qc D n 181 [] [.r,.r,.l,.r,.l] (qh qc 181)) (Ex.ret) (qoy v0_0)=qo4 D n v0_0:=by kernel_rfl
theorem qbg2 (D:DX)(n:Nat) :
 (CQ qc D n 181 [] [.r,.r,.l,.r,.l] (qh qc 181)) (Ex.exit 0) (qo1)=qo5 D n:=by kernel_rfl
theorem qbg9 (D:DX)(n:Nat) (x0:List Int) (x1:List Int) (x2:Int) :
 LQ qc D n 181 [.r,.r,.l,.r,.l] n (qkf x0 x1 x2) (CQ qc D n 181 [] [.r,.r,.l,.r,.l] (qh qc 181))=qyv D n x0 x1 x2:=by
 rw[q59]
 simp only[qbgt,qbg2]
 rfl
theorem qbnz (D:DX)(n:Nat) (a0:List Int) (a1:List Int):rfC qc D n 181 (a0,(a1,()))=q2k D n a0 a1:=by
 have h:rfC qc D n 181 (a0,(a1,()))=q2p D n (fun x0 x1 x2=>LQ qc D n 181 [.r,.r,.l,.r,.l] n (qkf x0 x1 x2) (CQ qc D n 181 [] [.r,.r,.l,.r,.l] (qh qc 181))) a0 a1:=by kernel_rfl
 rw[h]
 simp only[qbg9]
 rfl

def qwi (D:DX)(n:Nat) (go:tIxs→tIxs→Int→Option ((Bool×Unit)×Unit)) (K0:Bool→Option ((Bool×Unit)×Unit)) (K1:Option ((Bool×Unit)×Unit)) (x0:tIxs) (x1:tIxs) (x2:Int):Option ((Bool×Unit)×Unit):=br (decide (x2<(↑(List.length x0):Int))) (br (decide (0≤x2)&&decide (x2<(↑(List.length x0):Int))) (br (decide (0≤x2)&&decide (x2<(↑(List.length x1):Int))) (qi (qs8 D (List.getD x0 (Int.toNat x2) (ByteArray.empty,[],false,())) (List.getD x1 (Int.toNat x2) (ByteArray.empty,[],false,()))) fun b↦br (!Prod.fst (Prod.fst b)) (K0 false) (go x0 x1 (IntKind.wrap IntKind.i64 (x2+1)))) none) none) K1
def qh4 (D:DX)(n:Nat) (K0:Bool→Option ((Bool×Unit)×Unit)) (K1:Option ((Bool×Unit)×Unit)):Nat→(tIxs)→(tIxs)→(Int)→Option ((Bool×Unit)×Unit) | 0=>(fun x0 x1 x2=>none) | m+1=>(fun x0 x1 x2=>qwi D n (qh4 D n K0 K1 m) K0 K1 x0 x1 x2)
def qmm (D:DX)(n:Nat) (v0_0:Bool):Option ((Bool×Unit)×Unit):=some ((v0_0,()),())
def qlz (D:DX)(n:Nat):Option ((Bool×Unit)×Unit):=some ((true,()),())
def qun (D:DX)(n:Nat):(tIxs)→(tIxs)→(Int)→Option ((Bool×Unit)×Unit):=(fun x0 x1 x2=>qh4 D n (fun v0_0=>qmm D n v0_0) (qlz D n) n x0 x1 x2)
def qx0 (D:DX)(n:Nat) (lp0:tIxs→tIxs→Int→Option ((Bool×Unit)×Unit)) (a0:tIxs) (a1:tIxs):Option ((Bool×Unit)×Unit):=br ((↑(List.length a0):Int) != (↑(List.length a1):Int)) (some ((false,()),())) (lp0 a0 a1 0)
def qxa (D:DX)(n:Nat) (a0:tIxs) (a1:tIxs):Option ((Bool×Unit)×Unit):=qx0 D n (qun D n) a0 a1
def qic (x0:tIxs) (x1:tIxs) (x2:Int):St:=stq 27 [(0,AV.val (Ty.sl yX) x0),(1,AV.val (Ty.sl yX) x1),(5,avI x2)] [] 
def qmb (v0_0:Bool):St:=stq 27 [(4,AV.val Ty.bool v0_0)] [] 
def qme:St:=stq 27 [] [] 
theorem qbek (D:DX)(n:Nat) (m:Nat) (K:Ex→St→Option (Out ctx 182)) (x0:tIxs) (x1:tIxs) (x2:Int) :
 LQ qc D n 182 [.r,.r,.l,.r,.l] (m+1) (qic x0 x1 x2) K=qwi D n (fun x0 x1 x2=>LQ qc D n 182 [.r,.r,.l,.r,.l] m (qic x0 x1 x2) K) (fun v0_0=>K (Ex.ret) (qmb v0_0)) (K (Ex.exit 0) (qme)) x0 x1 x2:=by kernel_rfl
theorem q3v (D:DX)(n:Nat) (K:Ex→St→Option (Out ctx 182)):∀ (m:Nat) (x0:tIxs) (x1:tIxs) (x2:Int),LQ qc D n 182 [.r,.r,.l,.r,.l] m (qic x0 x1 x2) K=qh4 D n (fun v0_0=>K (Ex.ret) (qmb v0_0)) (K (Ex.exit 0) (qme)) m x0 x1 x2
 | 0,x0,x1,x2=>qx ..
 | m+1,x0,x1,x2=>by
  have ih:(fun x0 x1 x2=>LQ qc D n 182 [.r,.r,.l,.r,.l] m (qic x0 x1 x2) K)=qh4 D n (fun v0_0=>K (Ex.ret) (qmb v0_0)) (K (Ex.exit 0) (qme)) m:=by funext x0 x1 x2;exact q3v D n K m x0 x1 x2
  rw[qbek]
  rw[ih];rfl
theorem qba9 (D:DX)(n:Nat) (v0_0:Bool) :
 (CQ qc D n 182 [] [.r,.r,.l,.r,.l] (qh qc 182)) (Ex.ret) (qmb v0_0)=qmm D n v0_0:=by kernel_rfl
theorem qbbu (D:DX)(n:Nat) :
 (CQ qc D n 182 [] [.r,.r,.l,.r,.l] (qh qc 182)) (Ex.exit 0) (qme)=qlz D n:=by kernel_rfl
theorem qbbb (D:DX)(n:Nat) (x0:tIxs) (x1:tIxs) (x2:Int) :
 LQ qc D n 182 [.r,.r,.l,.r,.l] n (qic x0 x1 x2) (CQ qc D n 182 [] [.r,.r,.l,.r,.l] (qh qc 182))=qun D n x0 x1 x2:=by
 rw[q3v]
 simp only[qba9,qbbu]
 rfl
theorem qbi5 (D:DX)(n:Nat) (a0:tIxs) (a1:tIxs):rfC qc D n 182 (a0,(a1,()))=qxa D n a0 a1:=by
 have h:rfC qc D n 182 (a0,(a1,()))=qx0 D n (fun x0 x1 x2=>LQ qc D n 182 [.r,.r,.l,.r,.l] n (qic x0 x1 x2) (CQ qc D n 182 [] [.r,.r,.l,.r,.l] (qh qc 182))) a0 a1:=by kernel_rfl
 rw[h]
 simp only[qbbb]
 rfl

def qv6 (D:DX)(n:Nat) (go:Int→Int→qj→Option ((Int×Unit)×qj×Unit)) (K0:Int→qj→Option ((Int×Unit)×qj×Unit)) (x0:Int) (x1:Int) (x2:qj):Option ((Int×Unit)×qj×Unit):=br (decide (x1<(↑(List.length x2):Int))) (qi (qe1 D x0) fun b↦br (decide (0≤x1)&&decide (x1<(↑(List.length x2):Int))) (br (decide (0≤x1)&&decide (x1<(↑(List.length (List.set x2 (Int.toNat x1) (Prod.fst (Prod.fst b),Prod.snd (List.getD x2 (Int.toNat x1) (ByteArray.empty,0,false,()))))):Int))) (br (decide (0≤x1)&&decide (x1<(↑(List.length (List.set (List.set x2 (Int.toNat x1) (Prod.fst (Prod.fst b),Prod.snd (List.getD x2 (Int.toNat x1) (ByteArray.empty,0,false,())))) (Int.toNat x1) (Prod.fst (List.getD (List.set x2 (Int.toNat x1) (Prod.fst (Prod.fst b),Prod.snd (List.getD x2 (Int.toNat x1) (ByteArray.empty,0,false,())))) (Int.toNat x1) (ByteArray.empty,0,false,())),IntKind.wrap IntKind.i64 (x0+1),Prod.snd (Prod.snd (List.getD (List.set x2 (Int.toNat x1) (Prod.fst (Prod.fst b),Prod.snd (List.getD x2 (Int.toNat x1) (ByteArray.empty,0,false,())))) (Int.toNat x1) (ByteArray.empty,0,false,())))))):Int))) (go (IntKind.wrap IntKind.i64 (IntKind.wrap IntKind.i64 (IntKind.wrap IntKind.i64 (x0+1)+1)+1)) (IntKind.wrap IntKind.i64 (x1+1)) (List.set (List.set (List.set x2 (Int.toNat x1) (Prod.fst (Prod.fst b),Prod.snd (List.getD x2 (Int.toNat x1) (ByteArray.empty,0,false,())))) (Int.toNat x1) (Prod.fst (List.getD (List.set x2 (Int.toNat x1) (Prod.fst (Prod.fst b),Prod.snd (List.getD x2 (Int.toNat x1) (ByteArray.empty,0,false,())))) (Int.toNat x1) (ByteArray.empty,0,false,())),IntKind.wrap IntKind.i64 (x0+1),Prod.snd (Prod.snd (List.getD (List.set x2 (Int.toNat x1) (Prod.fst (Prod.fst b),Prod.snd (List.getD x2 (Int.toNat x1) (ByteArray.empty,0,false,())))) (Int.toNat x1) (ByteArray.empty,0,false,()))))) (Int.toNat x1) (Prod.fst (List.getD (List.set (List.set x2 (Int.toNat x1) (Prod.fst (Prod.fst b),Prod.snd (List.getD x2 (Int.toNat x1) (ByteArray.empty,0,false,())))) (Int.toNat x1) (Prod.fst (List.getD (List.set x2 (Int.toNat x1) (Prod.fst (Prod.fst b),Prod.snd (List.getD x2 (Int.toNat x1) (ByteArray.empty,0,false,())))) (Int.toNat x1) (ByteArray.empty,0,false,())),IntKind.wrap IntKind.i64 (x0+1),Prod.snd (Prod.snd (List.getD (List.set x2 (Int.toNat x1) (Prod.fst (Prod.fst b),Prod.snd (List.getD x2 (Int.toNat x1) (ByteArray.empty,0,false,())))) (Int.toNat x1) (ByteArray.empty,0,false,()))))) (Int.toNat x1) (ByteArray.empty,0,false,())),Prod.fst (Prod.snd (List.getD (List.set (List.set x2 (Int.toNat x1) (Prod.fst (Prod.fst b),Prod.snd (List.getD x2 (Int.toNat x1) (ByteArray.empty,0,false,())))) (Int.toNat x1) (Prod.fst (List.getD (List.set x2 (Int.toNat x1) (Prod.fst (Prod.fst b),Prod.snd (List.getD x2 (Int.toNat x1) (ByteArray.empty,0,false,())))) (Int.toNat x1) (ByteArray.empty,0,false,())),IntKind.wrap IntKind.i64 (x0+1),Prod.snd (Prod.snd (List.getD (List.set x2 (Int.toNat x1) (Prod.fst (Prod.fst b),Prod.snd (List.getD x2 (Int.toNat x1) (ByteArray.empty,0,false,())))) (Int.toNat x1) (ByteArray.empty,0,false,()))))) (Int.toNat x1) (ByteArray.empty,0,false,()))),decide (Int.tmod (IntKind.wrap IntKind.i64 (IntKind.wrap IntKind.i64 (x0+1)+1)) 3=0),Prod.snd (Prod.snd (Prod.snd (List.getD (List.set (List.set x2 (Int.toNat x1) (Prod.fst (Prod.fst b),Prod.snd (List.getD x2 (Int.toNat x1) (ByteArray.empty,0,false,())))) (Int.toNat x1) (Prod.fst (List.getD (List.set x2 (Int.toNat x1) (Prod.fst (Prod.fst b),Prod.snd (List.getD x2 (Int.toNat x1) (ByteArray.empty,0,false,())))) (Int.toNat x1) (ByteArray.empty,0,false,())),IntKind.wrap IntKind.i64 (x0+1),Prod.snd (Prod.snd (List.getD (List.set x2 (Int.toNat x1) (Prod.fst (Prod.fst b),Prod.snd (List.getD x2 (Int.toNat x1) (ByteArray.empty,0,false,())))) (Int.toNat x1) (ByteArray.empty,0,false,()))))) (Int.toNat x1) (ByteArray.empty,0,false,()))))))) none) none) none) (K0 x0 x2)
def qib (D:DX)(n:Nat) (K0:Int→qj→Option ((Int×Unit)×qj×Unit)):Nat→(Int)→(Int)→(qj)→Option ((Int×Unit)×qj×Unit) | 0=>(fun x0 x1 x2=>none) | m+1=>(fun x0 x1 x2=>qv6 D n (qib D n K0 m) K0 x0 x1 x2)
def qmr (D:DX)(n:Nat) (v0_0:Int) (v0_1:qj):Option ((Int×Unit)×qj×Unit):=some ((v0_0,()),v0_1,())
def qtt (D:DX)(n:Nat):(Int)→(Int)→(qj)→Option ((Int×Unit)×qj×Unit):=(fun x0 x1 x2=>qib D n (fun v0_0 v0_1=>qmr D n v0_0 v0_1) n x0 x1 x2)
def qy0 (D:DX)(n:Nat) (lp0:Int→Int→qj→Option ((Int×Unit)×qj×Unit)) (a0:qj) (a1:Int):Option ((Int×Unit)×qj×Unit):=lp0 a1 0 a0
def qyn (D:DX)(n:Nat) (a0:qj) (a1:Int):Option ((Int×Unit)×qj×Unit):=qy0 D n (qtt D n) a0 a1
def qia (x0:Int) (x1:Int) (x2:qj):St:=stq 37 [(0,AV.brw 0 [] 1048576),(1,avI x0),(5,avI x1)] [(0,Root.mk (Ty.sl yC) (Mk.own 1048576 (Mk.pr Mk.no (Mk.pr Mk.no (Mk.pr Mk.no Mk.no)))) x2 false)] 
def qmj (v0_0:Int) (v0_1:qj):St:=stq 37 [(0,AV.brw 0 [] 1048576),(1,avI v0_0)] [(0,Root.mk (Ty.sl yC) (Mk.own 1048576 (Mk.pr Mk.no (Mk.pr Mk.no (Mk.pr Mk.no Mk.no)))) v0_1 false)] 
theorem qbe3 (D:DX)(n:Nat) (m:Nat) (K:Ex→St→Option (Out ctx 183)) (x0:Int) (x1:Int) (x2:qj) :
 LQ qc D n 183 [.r,.l,.r,.l] (m+1) (qia x0 x1 x2) K=qv6 D n (fun x0 x1 x2=>LQ qc D n 183 [.r,.l,.r,.l] m (qia x0 x1 x2) K) (fun v0_0 v0_1=>K (Ex.exit 0) (qmj v0_0 v0_1)) x0 x1 x2:=by kernel_rfl
theorem q3a (D:DX)(n:Nat) (K:Ex→St→Option (Out ctx 183)):∀ (m:Nat) (x0:Int) (x1:Int) (x2:qj),LQ qc D n 183 [.r,.l,.r,.l] m (qia x0 x1 x2) K=qib D n (fun v0_0 v0_1=>K (Ex.exit 0) (qmj v0_0 v0_1)) m x0 x1 x2
 | 0,x0,x1,x2=>qx ..
 | m+1,x0,x1,x2=>by
  have ih:(fun x0 x1 x2=>LQ qc D n 183 [.r,.l,.r,.l] m (qia x0 x1 x2) K)=qib D n (fun v0_0 v0_1=>K (Ex.exit 0) (qmj v0_0 v0_1)) m:=by funext x0 x1 x2;exact q3a D n K m x0 x1 x2
  rw[qbe3]
  rw[ih];rfl
theorem qbb8 (D:DX)(n:Nat) (v0_0:Int) (v0_1:qj) :
 (CQ qc D n 183 [] [.r,.l,.r,.l] (qh qc 183)) (Ex.exit 0) (qmj v0_0 v0_1)=qmr D n v0_0 v0_1:=by kernel_rfl
theorem qbcq (D:DX)(n:Nat) (x0:Int) (x1:Int) (x2:qj) :
 LQ qc D n 183 [.r,.l,.r,.l] n (qia x0 x1 x2) (CQ qc D n 183 [] [.r,.l,.r,.l] (qh qc 183))=qtt D n x0 x1 x2:=by
 rw[q3a]
 simp only[qbb8]
 rfl
theorem qbh0 (D:DX)(n:Nat) (a0:qj) (a1:Int):rfC qc D n 183 (a0,(a1,()))=qyn D n a0 a1:=by
 have h:rfC qc D n 183 (a0,(a1,()))=qy0 D n (fun x0 x1 x2=>LQ qc D n 183 [.r,.l,.r,.l] n (qia x0 x1 x2) (CQ qc D n 183 [] [.r,.l,.r,.l] (qh qc 183))) a0 a1:=by kernel_rfl
 rw[h]
 simp only[qbcq]
 rfl

def qvr (D:DX)(n:Nat) (go:Int→Int→List Int→Option ((Int×Unit)×List Int×Unit)) (K0:Int→List Int→Option ((Int×Unit)×List Int×Unit)) (x0:Int) (x1:Int) (x2:List Int):Option ((Int×Unit)×List Int×Unit):=br (decide (x1<(↑(List.length x2):Int))) (br (decide (0≤x1)&&decide (x1<(↑(List.length x2):Int))) (go (IntKind.wrap IntKind.i64 (x0+1)) (IntKind.wrap IntKind.i64 (x1+1)) (List.set x2 (Int.toNat x1) x0)) none) (K0 x0 x2)
def qij (D:DX)(n:Nat) (K0:Int→List Int→Option ((Int×Unit)×List Int×Unit)):Nat→(Int)→(Int)→(List Int)→Option ((Int×Unit)×List Int×Unit) | 0=>(fun x0 x1 x2=>none) | m+1=>(fun x0 x1 x2=>qvr D n (qij D n K0 m) K0 x0 x1 x2)
def qmx (D:DX)(n:Nat) (v0_0:Int) (v0_1:List Int):Option ((Int×Unit)×List Int×Unit):=some ((v0_0,()),v0_1,())
def qur (D:DX)(n:Nat):(Int)→(Int)→(List Int)→Option ((Int×Unit)×List Int×Unit):=(fun x0 x1 x2=>qij D n (fun v0_0 v0_1=>qmx D n v0_0 v0_1) n x0 x1 x2)
def qyh (D:DX)(n:Nat) (lp0:Int→Int→List Int→Option ((Int×Unit)×List Int×Unit)) (a0:List Int) (a1:Int):Option ((Int×Unit)×List Int×Unit):=lp0 a1 0 a0
def qxt (D:DX)(n:Nat) (a0:List Int) (a1:Int):Option ((Int×Unit)×List Int×Unit):=qyh D n (qur D n) a0 a1
def qii (x0:Int) (x1:Int) (x2:List Int):St:=stq 19 [(0,AV.brw 0 [] 1048576),(1,avI x0),(5,avI x1)] [(0,Root.mk (Ty.sl yI) (Mk.own 1048576 Mk.no) x2 false)] 
def qmf (v0_0:Int) (v0_1:List Int):St:=stq 19 [(0,AV.brw 0 [] 1048576),(1,avI v0_0)] [(0,Root.mk (Ty.sl yI) (Mk.own 1048576 Mk.no) v0_1 false)] 
theorem qbd1 (D:DX)(n:Nat) (m:Nat) (K:Ex→St→Option (Out ctx 184)) (x0:Int) (x1:Int) (x2:List Int) :
 LQ qc D n 184 [.r,.l,.r,.l] (m+1) (qii x0 x1 x2) K=qvr D n (fun x0 x1 x2=>LQ qc D n 184 [.r,.l,.r,.l] m (qii x0 x1 x2) K) (fun v0_0 v0_1=>K (Ex.exit 0) (qmf v0_0 v0_1)) x0 x1 x2:=by kernel_rfl
theorem q3z (D:DX)(n:Nat) (K:Ex→St→Option (Out ctx 184)):∀ (m:Nat) (x0:Int) (x1:Int) (x2:List Int),LQ qc D n 184 [.r,.l,.r,.l] m (qii x0 x1 x2) K=qij D n (fun v0_0 v0_1=>K (Ex.exit 0) (qmf v0_0 v0_1)) m x0 x1 x2
 | 0,x0,x1,x2=>qx ..
 | m+1,x0,x1,x2=>by
  have ih:(fun x0 x1 x2=>LQ qc D n 184 [.r,.l,.r,.l] m (qii x0 x1 x2) K)=qij D n (fun v0_0 v0_1=>K (Ex.exit 0) (qmf v0_0 v0_1)) m:=by funext x0 x1 x2;exact q3z D n K m x0 x1 x2
  rw[qbd1]
  rw[ih];rfl
theorem qbco (D:DX)(n:Nat) (v0_0:Int) (v0_1:List Int) :
 (CQ qc D n 184 [] [.r,.l,.r,.l] (qh qc 184)) (Ex.exit 0) (qmf v0_0 v0_1)=qmx D n v0_0 v0_1:=by kernel_rfl
theorem qbcn (D:DX)(n:Nat) (x0:Int) (x1:Int) (x2:List Int) :
 LQ qc D n 184 [.r,.l,.r,.l] n (qii x0 x1 x2) (CQ qc D n 184 [] [.r,.l,.r,.l] (qh qc 184))=qur D n x0 x1 x2:=by
 rw[q3z]
 simp only[qbco]
 rfl
theorem qbh1 (D:DX)(n:Nat) (a0:List Int) (a1:Int):rfC qc D n 184 (a0,(a1,()))=qxt D n a0 a1:=by
 have h:rfC qc D n 184 (a0,(a1,()))=qyh D n (fun x0 x1 x2=>LQ qc D n 184 [.r,.l,.r,.l] n (qii x0 x1 x2) (CQ qc D n 184 [] [.r,.l,.r,.l] (qh qc 184))) a0 a1:=by kernel_rfl
 rw[h]
 simp only[qbcn]
 rfl

def qrl (D:DX)(n:Nat) (go:Int→Int→tIxs→Option ((Int×Unit)×tIxs×Unit)) (K0:Int→tIxs→Option ((Int×Unit)×tIxs×Unit)) (x0:Int) (x1:Int) (x2:tIxs):Option ((Int×Unit)×tIxs×Unit):=br (decide (x1<(↑(List.length x2):Int))) (qi (qe1 D x0) fun b↦br (decide (0≤x1)&&decide (x1<(↑(List.length x2):Int))) (br (decide (0≤x1)&&decide (x1<(↑(List.length (List.set x2 (Int.toNat x1) (Prod.fst (Prod.fst b),Prod.snd (List.getD x2 (Int.toNat x1) (ByteArray.empty,[],false,()))))):Int))) (qi (qml D (Prod.fst (Prod.snd (List.getD (List.set x2 (Int.toNat x1) (Prod.fst (Prod.fst b),Prod.snd (List.getD x2 (Int.toNat x1) (ByteArray.empty,[],false,())))) (Int.toNat x1) (ByteArray.empty,[],false,())))) (IntKind.wrap IntKind.i64 (x0+1))) fun b_1↦br (qg1 [PK.mutv (Ty.sl (Ty.int IntKind.i64)) (Mk.top (Ty.sl (Ty.int IntKind.i64))) (Mk.top (Ty.sl (Ty.int IntKind.i64))),PK.val (Ty.int IntKind.i64)] (List.map (ev (St.mk [AV.brw 0 [] 1048576,AV.val (Ty.int IntKind.i64) (IntKind.wrap IntKind.i64 (x0+1)),AV.undef,AV.undef,AV.undef,AV.val (Ty.int IntKind.i64) x1,AV.val (Ty.int IntKind.i64) x1,AV.brw 0 [] 1048576,AV.val (Ty.int IntKind.i64) (↑(List.length x2):Int),AV.val Ty.bool (decide (x1<(↑(List.length x2):Int))),AV.undef,AV.undef,AV.brw 0 [] 1048576,AV.val (Ty.int IntKind.i64) x1,AV.val (Ty.int IntKind.i64) x0,AV.val Ty.str (Prod.fst (Prod.fst b)),AV.addr 0 [Stp.idx (Int.toNat x1) 1048576],AV.addr 0 [Stp.idx (Int.toNat x1) 1048576,Stp.fst],AV.val (Ty.int IntKind.i64) x0,AV.val (Ty.int IntKind.i64) (IntKind.wrap IntKind.i64 (x0+1)),AV.brw 0 [] 1048576,AV.val (Ty.int IntKind.i64) x1,AV.addr 0 [Stp.idx (Int.toNat x1) 1048576],AV.addr 0 [Stp.idx (Int.toNat x1) 1048576,Stp.snd,Stp.fst],AV.brw 0 [Stp.idx (Int.toNat x1) 1048576,Stp.snd,Stp.fst] 0,AV.val (Ty.int IntKind.i64) (IntKind.wrap IntKind.i64 (x0+1)),AV.undef,AV.undef,AV.undef,AV.undef,AV.undef,AV.undef,AV.undef,AV.undef,AV.undef,AV.undef,AV.undef] [some (Root.mk (Ty.sl (Ty.pair Ty.str (Ty.pair (Ty.sl (Ty.int IntKind.i64)) (Ty.pair Ty.bool Ty.unit)))) (Mk.own 1048576 (Mk.pr Mk.no (Mk.pr (Mk.own 0 Mk.no) (Mk.pr Mk.no Mk.no)))) (List.set x2 (Int.toNat x1) (Prod.fst (Prod.fst b),Prod.snd (List.getD x2 (Int.toNat x1) (ByteArray.empty,[],false,())))) false),none,none,none,none,none,none,none,none,none,none,none,none,none,none,none,none,none,none,none,none,none,none,none,none,none,none,none,none,none,none,none,none,none,none,none,none])) [Operand.tmp 24,Operand.tmp 25]++qfd AV.unit)) (br (decide (0≤x1)&&decide (x1<(↑(List.length (List.set (List.set x2 (Int.toNat x1) (Prod.fst (Prod.fst b),Prod.snd (List.getD x2 (Int.toNat x1) (ByteArray.empty,[],false,())))) (Int.toNat x1) (Prod.fst (List.getD (List.set x2 (Int.toNat x1) (Prod.fst (Prod.fst b),Prod.snd (List.getD x2 (Int.toNat x1) (ByteArray.empty,[],false,())))) (Int.toNat x1) (ByteArray.empty,[],false,())),Prod.fst (Prod.snd b_1),Prod.snd (Prod.snd (List.getD (List.set x2 (Int.toNat x1) (Prod.fst (Prod.fst b),Prod.snd (List.getD x2 (Int.toNat x1) (ByteArray.empty,[],false,())))) (Int.toNat x1) (ByteArray.empty,[],false,())))))):Int))) (go (IntKind.wrap IntKind.i64 (Prod.fst (Prod.fst b_1)+1)) (IntKind.wrap IntKind.i64 (x1+1)) (List.set (List.set (List.set x2 (Int.toNat x1) (Prod.fst (Prod.fst b),Prod.snd (List.getD x2 (Int.toNat x1) (ByteArray.empty,[],false,())))) (Int.toNat x1) (Prod.fst (List.getD (List.set x2 (Int.toNat x1) (Prod.fst (Prod.fst b),Prod.snd (List.getD x2 (Int.toNat x1) (ByteArray.empty,[],false,())))) (Int.toNat x1) (ByteArray.empty,[],false,())),Prod.fst (Prod.snd b_1),Prod.snd (Prod.snd (List.getD (List.set x2 (Int.toNat x1) (Prod.fst (Prod.fst b),Prod.snd (List.getD x2 (Int.toNat x1) (ByteArray.empty,[],false,())))) (Int.toNat x1) (ByteArray.empty,[],false,()))))) (Int.toNat x1) (Prod.fst (List.getD (List.set (List.set x2 (Int.toNat x1) (Prod.fst (Prod.fst b),Prod.snd (List.getD x2 (Int.toNat x1) (ByteArray.empty,[],false,())))) (Int.toNat x1) (Prod.fst (List.getD (List.set x2 (Int.toNat x1) (Prod.fst (Prod.fst b),Prod.snd (List.getD x2 (Int.toNat x1) (ByteArray.empty,[],false,())))) (Int.toNat x1) (ByteArray.empty,[],false,())),Prod.fst (Prod.snd b_1),Prod.snd (Prod.snd (List.getD (List.set x2 (Int.toNat x1) (Prod.fst (Prod.fst b),Prod.snd (List.getD x2 (Int.toNat x1) (ByteArray.empty,[],false,())))) (Int.toNat x1) (ByteArray.empty,[],false,()))))) (Int.toNat x1) (ByteArray.empty,[],false,())),Prod.fst (Prod.snd (List.getD (List.set (List.set x2 (Int.toNat x1) (Prod.fst (Prod.fst b),Prod.snd (List.getD x2 (Int.toNat x1) (ByteArray.empty,[],false,())))) (Int.toNat x1) (Prod.fst (List.getD (List.set x2 (Int.toNat x1) (Prod.fst (Prod.fst b),Prod.snd (List.getD x2 (Int.toNat x1) (ByteArray.empty,[],false,())))) (Int.toNat x1) (ByteArray.empty,[],false,())),Prod.fst (Prod.snd b_1),Prod.snd (Prod.snd (List.getD (List.set x2 (Int.toNat x1) (Prod.fst (Prod.fst b),Prod.snd (List.getD x2 (Int.toNat x1) (ByteArray.empty,[],false,())))) (Int.toNat x1) (ByteArray.empty,[],false,()))))) (Int.toNat x1) (ByteArray.empty,[],false,()))),decide (Int.tmod (Prod.fst (Prod.fst b_1)) 3=0),Prod.snd (Prod.snd (Prod.snd (List.getD (List.set (List.set x2 (Int.toNat x1) (Prod.fst (Prod.fst b),Prod.snd (List.getD x2 (Int.toNat x1) (ByteArray.empty,[],false,())))) (Int.toNat x1) (Prod.fst (List.getD (List.set x2 (Int.toNat x1) (Prod.fst (Prod.fst b),Prod.snd (List.getD x2 (Int.toNat x1) (ByteArray.empty,[],false,())))) (Int.toNat x1) (ByteArray.empty,[],false,())),Prod.fst (Prod.snd b_1),Prod.snd (Prod.snd (List.getD (List.set x2 (Int.toNat x1) (Prod.fst (Prod.fst b),Prod.snd (List.getD x2 (Int.toNat x1) (ByteArray.empty,[],false,())))) (Int.toNat x1) (ByteArray.empty,[],false,()))))) (Int.toNat x1) (ByteArray.empty,[],false,()))))))) none) none) none) none) (K0 x0 x2)
def qf0 (D:DX)(n:Nat) (K0:Int→tIxs→Option ((Int×Unit)×tIxs×Unit)):Nat→(Int)→(Int)→(tIxs)→Option ((Int×Unit)×tIxs×Unit) | 0=>(fun x0 x1 x2=>none) | m+1=>(fun x0 x1 x2=>qrl D n (qf0 D n K0 m) K0 x0 x1 x2)
def qjy (D:DX)(n:Nat) (v0_0:Int) (v0_1:tIxs):Option ((Int×Unit)×tIxs×Unit):=some ((v0_0,()),v0_1,())
def qqj (D:DX)(n:Nat):(Int)→(Int)→(tIxs)→Option ((Int×Unit)×tIxs×Unit):=(fun x0 x1 x2=>qf0 D n (fun v0_0 v0_1=>qjy D n v0_0 v0_1) n x0 x1 x2)
def qum (D:DX)(n:Nat) (lp0:Int→Int→tIxs→Option ((Int×Unit)×tIxs×Unit)) (a0:tIxs) (a1:Int):Option ((Int×Unit)×tIxs×Unit):=lp0 a1 0 a0
def qtu (D:DX)(n:Nat) (a0:tIxs) (a1:Int):Option ((Int×Unit)×tIxs×Unit):=qum D n (qqj D n) a0 a1
def qf5 (x0:Int) (x1:Int) (x2:tIxs):St:=stq 37 [(0,AV.brw 0 [] 1048576),(1,avI x0),(5,avI x1)] [(0,Root.mk (Ty.sl yX) (Mk.own 1048576 (Mk.pr Mk.no (Mk.pr (Mk.own 0 Mk.no) (Mk.pr Mk.no Mk.no)))) x2 false)] 
def qj6 (v0_0:Int) (v0_1:tIxs):St:=stq 37 [(0,AV.brw 0 [] 1048576),(1,avI v0_0)] [(0,Root.mk (Ty.sl yX) (Mk.own 1048576 (Mk.pr Mk.no (Mk.pr (Mk.own 0 Mk.no) (Mk.pr Mk.no Mk.no)))) v0_1 false)] 
theorem qban (D:DX)(n:Nat) (m:Nat) (K:Ex→St→Option (Out ctx 185)) (x0:Int) (x1:Int) (x2:tIxs) :
 LQ qc D n 185 [.r,.l,.r,.l] (m+1) (qf5 x0 x1 x2) K=qrl D n (fun x0 x1 x2=>LQ qc D n 185 [.r,.l,.r,.l] m (qf5 x0 x1 x2) K) (fun v0_0 v0_1=>K (Ex.exit 0) (qj6 v0_0 v0_1)) x0 x1 x2:=by kernel_rfl
theorem qzj (D:DX)(n:Nat) (K:Ex→St→Option (Out ctx 185)):∀ (m:Nat) (x0:Int) (x1:Int) (x2:tIxs),LQ qc D n 185 [.r,.l,.r,.l] m (qf5 x0 x1 x2) K=qf0 D n (fun v0_0 v0_1=>K (Ex.exit 0) (qj6 v0_0 v0_1)) m x0 x1 x2
 | 0,x0,x1,x2=>qx ..
 | m+1,x0,x1,x2=>by
  have ih:(fun x0 x1 x2=>LQ qc D n 185 [.r,.l,.r,.l] m (qf5 x0 x1 x2) K)=qf0 D n (fun v0_0 v0_1=>K (Ex.exit 0) (qj6 v0_0 v0_1)) m:=by funext x0 x1 x2;exact qzj D n K m x0 x1 x2
  rw[qban]
  rw[ih];rfl
theorem q8s (D:DX)(n:Nat) (v0_0:Int) (v0_1:tIxs) :
 (CQ qc D n 185 [] [.r,.l,.r,.l] (qh qc 185)) (Ex.exit 0) (qj6 v0_0 v0_1)=qjy D n v0_0 v0_1:=by kernel_rfl
theorem q8w (D:DX)(n:Nat) (x0:Int) (x1:Int) (x2:tIxs) :
 LQ qc D n 185 [.r,.l,.r,.l] n (qf5 x0 x1 x2) (CQ qc D n 185 [] [.r,.l,.r,.l] (qh qc 185))=qqj D n x0 x1 x2:=by
 rw[qzj]
 simp only[q8s]
 rfl
theorem qbfd (D:DX)(n:Nat) (a0:tIxs) (a1:Int):rfC qc D n 185 (a0,(a1,()))=qtu D n a0 a1:=by
 have h:rfC qc D n 185 (a0,(a1,()))=qum D n (fun x0 x1 x2=>LQ qc D n 185 [.r,.l,.r,.l] n (qf5 x0 x1 x2) (CQ qc D n 185 [] [.r,.l,.r,.l] (qh qc 185))) a0 a1:=by kernel_rfl
 rw[h]
 simp only[q8w]
 rfl

def qvk (D:DX)(n:Nat) (go:qj→Int→Int→Option ((Int×Unit)×Unit)) (K0:Int→Int→Option ((Int×Unit)×Unit)) (K1:Int→Option ((Int×Unit)×Unit)) (x0:qj) (x1:Int) (x2:Int):Option ((Int×Unit)×Unit):=br (decide (x2<(↑(List.length x0):Int))) (br (decide (0≤x2)&&decide (x2<(↑(List.length x0):Int))) (qi (qe1 D x1) fun b↦br (!List.beq (ByteArray.toList (Prod.fst (List.getD x0 (Int.toNat x2) (ByteArray.empty,0,false,())))) (ByteArray.toList (Prod.fst (Prod.fst b)))) (K0 x1 (-1)) (br (decide (0≤x2)&&decide (x2<(↑(List.length x0):Int))) (br (Prod.fst (Prod.snd (List.getD x0 (Int.toNat x2) (ByteArray.empty,0,false,()))) != IntKind.wrap IntKind.i64 (x1+1)) (K0 (IntKind.wrap IntKind.i64 (x1+1)) (-1)) (br (decide (0≤x2)&&decide (x2<(↑(List.length x0):Int))) (br (!decide (Prod.fst (Prod.snd (Prod.snd (List.getD x0 (Int.toNat x2) (ByteArray.empty,0,false,()))))=decide (Int.tmod (IntKind.wrap IntKind.i64 (IntKind.wrap IntKind.i64 (x1+1)+1)) 3=0))) (K0 (IntKind.wrap IntKind.i64 (IntKind.wrap IntKind.i64 (x1+1)+1)) (-1)) (go x0 (IntKind.wrap IntKind.i64 (IntKind.wrap IntKind.i64 (IntKind.wrap IntKind.i64 (x1+1)+1)+1)) (IntKind.wrap IntKind.i64 (x2+1)))) none)) none)) none) (K1 x1)
def qhu (D:DX)(n:Nat) (K0:Int→Int→Option ((Int×Unit)×Unit)) (K1:Int→Option ((Int×Unit)×Unit)):Nat→(qj)→(Int)→(Int)→Option ((Int×Unit)×Unit) | 0=>(fun x0 x1 x2=>none) | m+1=>(fun x0 x1 x2=>qvk D n (qhu D n K0 K1 m) K0 K1 x0 x1 x2)
def qsq (D:DX)(n:Nat) (v0_0:Int) (v0_1:Int):Option ((Int×Unit)×Unit):=some ((v0_1,()),())
def qmo (D:DX)(n:Nat) (v1_0:Int):Option ((Int×Unit)×Unit):=some ((v1_0,()),())
def qud (D:DX)(n:Nat):(qj)→(Int)→(Int)→Option ((Int×Unit)×Unit):=(fun x0 x1 x2=>qhu D n (fun v0_0 v0_1=>qsq D n v0_0 v0_1) (fun v1_0=>qmo D n v1_0) n x0 x1 x2)
def qxf (D:DX)(n:Nat) (lp0:qj→Int→Int→Option ((Int×Unit)×Unit)) (a0:qj) (a1:Int):Option ((Int×Unit)×Unit):=lp0 a0 a1 0
def qxg (D:DX)(n:Nat) (a0:qj) (a1:Int):Option ((Int×Unit)×Unit):=qxf D n (qud D n) a0 a1
def qim (x0:qj) (x1:Int) (x2:Int):St:=stq 43 [(0,AV.val (Ty.sl yC) x0),(1,avI x1),(5,avI x2)] [] 
def qm6 (v0_0:Int) (v0_1:Int):St:=stq 43 [(1,avI v0_0),(4,avI v0_1)] [] 
def qm5 (v1_0:Int):St:=stq 43 [(1,avI v1_0)] [] 
theorem qbet (D:DX)(n:Nat) (m:Nat) (K:Ex→St→Option (Out ctx 186)) (x0:qj) (x1:Int) (x2:Int) :
 LQ qc D n 186 [.r,.l,.r,.l] (m+1) (qim x0 x1 x2) K=qvk D n (fun x0 x1 x2=>LQ qc D n 186 [.r,.l,.r,.l] m (qim x0 x1 x2) K) (fun v0_0 v0_1=>K (Ex.ret) (qm6 v0_0 v0_1)) (fun v1_0=>K (Ex.exit 0) (qm5 v1_0)) x0 x1 x2:=by kernel_rfl
theorem q3y (D:DX)(n:Nat) (K:Ex→St→Option (Out ctx 186)):∀ (m:Nat) (x0:qj) (x1:Int) (x2:Int),LQ qc D n 186 [.r,.l,.r,.l] m (qim x0 x1 x2) K=qhu D n (fun v0_0 v0_1=>K (Ex.ret) (qm6 v0_0 v0_1)) (fun v1_0=>K (Ex.exit 0) (qm5 v1_0)) m x0 x1 x2
 | 0,x0,x1,x2=>qx ..
 | m+1,x0,x1,x2=>by
  have ih:(fun x0 x1 x2=>LQ qc D n 186 [.r,.l,.r,.l] m (qim x0 x1 x2) K)=qhu D n (fun v0_0 v0_1=>K (Ex.ret) (qm6 v0_0 v0_1)) (fun v1_0=>K (Ex.exit 0) (qm5 v1_0)) m:=by funext x0 x1 x2;exact q3y D n K m x0 x1 x2
  rw[qbet]
  rw[ih];rfl
theorem qbbs (D:DX)(n:Nat) (v0_0:Int) (v0_1:Int) :
 (CQ qc D n 186 [] [.r,.l,.r,.l] (qh qc 186)) (Ex.ret) (qm6 v0_0 v0_1)=qsq D n v0_0 v0_1:=by kernel_rfl
theorem qbcg (D:DX)(n:Nat) (v1_0:Int) :
 (CQ qc D n 186 [] [.r,.l,.r,.l] (qh qc 186)) (Ex.exit 0) (qm5 v1_0)=qmo D n v1_0:=by kernel_rfl
theorem qbc8 (D:DX)(n:Nat) (x0:qj) (x1:Int) (x2:Int) :
 LQ qc D n 186 [.r,.l,.r,.l] n (qim x0 x1 x2) (CQ qc D n 186 [] [.r,.l,.r,.l] (qh qc 186))=qud D n x0 x1 x2:=by
 rw[q3y]
 simp only[qbbs,qbcg]
 rfl
theorem qbhv (D:DX)(n:Nat) (a0:qj) (a1:Int):rfC qc D n 186 (a0,(a1,()))=qxg D n a0 a1:=by
 have h:rfC qc D n 186 (a0,(a1,()))=qxf D n (fun x0 x1 x2=>LQ qc D n 186 [.r,.l,.r,.l] n (qim x0 x1 x2) (CQ qc D n 186 [] [.r,.l,.r,.l] (qh qc 186))) a0 a1:=by kernel_rfl
 rw[h]
 simp only[qbc8]
 rfl

def qv3 (D:DX)(n:Nat) (go:List Int→Int→Int→Option ((Int×Unit)×Unit)) (K0:Int→Int→Option ((Int×Unit)×Unit)) (K1:Int→Option ((Int×Unit)×Unit)) (x0:List Int) (x1:Int) (x2:Int):Option ((Int×Unit)×Unit):=br (decide (x2<(↑(List.length x0):Int))) (br (decide (0≤x2)&&decide (x2<(↑(List.length x0):Int))) (br (List.getD x0 (Int.toNat x2) 0 != x1) (K0 x1 (-1)) (go x0 (IntKind.wrap IntKind.i64 (x1+1)) (IntKind.wrap IntKind.i64 (x2+1)))) none) (K1 x1)
def qhs (D:DX)(n:Nat) (K0:Int→Int→Option ((Int×Unit)×Unit)) (K1:Int→Option ((Int×Unit)×Unit)):Nat→(List Int)→(Int)→(Int)→Option ((Int×Unit)×Unit) | 0=>(fun x0 x1 x2=>none) | m+1=>(fun x0 x1 x2=>qv3 D n (qhs D n K0 K1 m) K0 K1 x0 x1 x2)
def qrs (D:DX)(n:Nat) (v0_0:Int) (v0_1:Int):Option ((Int×Unit)×Unit):=some ((v0_1,()),())
def qmv (D:DX)(n:Nat) (v1_0:Int):Option ((Int×Unit)×Unit):=some ((v1_0,()),())
def qti (D:DX)(n:Nat):(List Int)→(Int)→(Int)→Option ((Int×Unit)×Unit):=(fun x0 x1 x2=>qhs D n (fun v0_0 v0_1=>qrs D n v0_0 v0_1) (fun v1_0=>qmv D n v1_0) n x0 x1 x2)
def qxb (D:DX)(n:Nat) (lp0:List Int→Int→Int→Option ((Int×Unit)×Unit)) (a0:List Int) (a1:Int):Option ((Int×Unit)×Unit):=lp0 a0 a1 0
def qxk (D:DX)(n:Nat) (a0:List Int) (a1:Int):Option ((Int×Unit)×Unit):=qxb D n (qti D n) a0 a1
def qh0 (x0:List Int) (x1:Int) (x2:Int):St:=stq 21 [(0,AV.val (Ty.sl yI) x0),(1,avI x1),(5,avI x2)] [] 
def ql8 (v0_0:Int) (v0_1:Int):St:=stq 21 [(1,avI v0_0),(4,avI v0_1)] [] 
def qmw (v1_0:Int):St:=stq 21 [(1,avI v1_0)] [] 
theorem qbfh (D:DX)(n:Nat) (m:Nat) (K:Ex→St→Option (Out ctx 187)) (x0:List Int) (x1:Int) (x2:Int) :
 LQ qc D n 187 [.r,.l,.r,.l] (m+1) (qh0 x0 x1 x2) K=qv3 D n (fun x0 x1 x2=>LQ qc D n 187 [.r,.l,.r,.l] m (qh0 x0 x1 x2) K) (fun v0_0 v0_1=>K (Ex.ret) (ql8 v0_0 v0_1)) (fun v1_0=>K (Ex.exit 0) (qmw v1_0)) x0 x1 x2:=by kernel_rfl
theorem q3k (D:DX)(n:Nat) (K:Ex→St→Option (Out ctx 187)):∀ (m:Nat) (x0:List Int) (x1:Int) (x2:Int),LQ qc D n 187 [.r,.l,.r,.l] m (qh0 x0 x1 x2) K=qhs D n (fun v0_0 v0_1=>K (Ex.ret) (ql8 v0_0 v0_1)) (fun v1_0=>K (Ex.exit 0) (qmw v1_0)) m x0 x1 x2
 | 0,x0,x1,x2=>qx ..
 | m+1,x0,x1,x2=>by
  have ih:(fun x0 x1 x2=>LQ qc D n 187 [.r,.l,.r,.l] m (qh0 x0 x1 x2) K)=qhs D n (fun v0_0 v0_1=>K (Ex.ret) (ql8 v0_0 v0_1)) (fun v1_0=>K (Ex.exit 0) (qmw v1_0)) m:=by funext x0 x1 x2;exact q3k D n K m x0 x1 x2
  rw[qbfh]
  rw[ih];rfl
theorem qbbx (D:DX)(n:Nat) (v0_0:Int) (v0_1:Int) :
 (CQ qc D n 187 [] [.r,.l,.r,.l] (qh qc 187)) (Ex.ret) (ql8 v0_0 v0_1)=qrs D n v0_0 v0_1:=by kernel_rfl
theorem qbdb (D:DX)(n:Nat) (v1_0:Int) :
 (CQ qc D n 187 [] [.r,.l,.r,.l] (qh qc 187)) (Ex.exit 0) (qmw v1_0)=qmv D n v1_0:=by kernel_rfl
theorem qbbe (D:DX)(n:Nat) (x0:List Int) (x1:Int) (x2:Int) :
 LQ qc D n 187 [.r,.l,.r,.l] n (qh0 x0 x1 x2) (CQ qc D n 187 [] [.r,.l,.r,.l] (qh qc 187))=qti D n x0 x1 x2:=by
 rw[q3k]
 simp only[qbbx,qbdb]
 rfl
theorem qbht (D:DX)(n:Nat) (a0:List Int) (a1:Int):rfC qc D n 187 (a0,(a1,()))=qxk D n a0 a1:=by
 have h:rfC qc D n 187 (a0,(a1,()))=qxb D n (fun x0 x1 x2=>LQ qc D n 187 [.r,.l,.r,.l] n (qh0 x0 x1 x2) (CQ qc D n 187 [] [.r,.l,.r,.l] (qh qc 187))) a0 a1:=by kernel_rfl
 rw[h]
 simp only[qbbe]
 rfl

def qr5 (D:DX)(n:Nat) (go:tIxs→Int→Int→Option ((Int×Unit)×Unit)) (K0:Int→Int→Option ((Int×Unit)×Unit)) (K1:Int→Option ((Int×Unit)×Unit)) (x0:tIxs) (x1:Int) (x2:Int):Option ((Int×Unit)×Unit):=br (decide (x2<(↑(List.length x0):Int))) (br (decide (0≤x2)&&decide (x2<(↑(List.length x0):Int))) (qi (qe1 D x1) fun b↦br (!List.beq (ByteArray.toList (Prod.fst (List.getD x0 (Int.toNat x2) (ByteArray.empty,[],false,())))) (ByteArray.toList (Prod.fst (Prod.fst b)))) (K0 x1 (-1)) (br (decide (0≤x2)&&decide (x2<(↑(List.length x0):Int))) (qi (qm0 D (Prod.fst (Prod.snd (List.getD x0 (Int.toNat x2) (ByteArray.empty,[],false,())))) (IntKind.wrap IntKind.i64 (x1+1))) fun b↦br (decide (Prod.fst (Prod.fst b)<0)) (K0 (Prod.fst (Prod.fst b)) (-1)) (br (decide (0≤x2)&&decide (x2<(↑(List.length x0):Int))) (br (!decide (Prod.fst (Prod.snd (Prod.snd (List.getD x0 (Int.toNat x2) (ByteArray.empty,[],false,()))))=decide (Int.tmod (Prod.fst (Prod.fst b)) 3=0))) (K0 (Prod.fst (Prod.fst b)) (-1)) (go x0 (IntKind.wrap IntKind.i64 (Prod.fst (Prod.fst b)+1)) (IntKind.wrap IntKind.i64 (x2+1)))) none)) none)) none) (K1 x1)
def qgb (D:DX)(n:Nat) (K0:Int→Int→Option ((Int×Unit)×Unit)) (K1:Int→Option ((Int×Unit)×Unit)):Nat→(tIxs)→(Int)→(Int)→Option ((Int×Unit)×Unit) | 0=>(fun x0 x1 x2=>none) | m+1=>(fun x0 x1 x2=>qr5 D n (qgb D n K0 K1 m) K0 K1 x0 x1 x2)
def qpe (D:DX)(n:Nat) (v0_0:Int) (v0_1:Int):Option ((Int×Unit)×Unit):=some ((v0_1,()),())
def qj1 (D:DX)(n:Nat) (v1_0:Int):Option ((Int×Unit)×Unit):=some ((v1_0,()),())
def qqm (D:DX)(n:Nat):(tIxs)→(Int)→(Int)→Option ((Int×Unit)×Unit):=(fun x0 x1 x2=>qgb D n (fun v0_0 v0_1=>qpe D n v0_0 v0_1) (fun v1_0=>qj1 D n v1_0) n x0 x1 x2)
def quf (D:DX)(n:Nat) (lp0:tIxs→Int→Int→Option ((Int×Unit)×Unit)) (a0:tIxs) (a1:Int):Option ((Int×Unit)×Unit):=lp0 a0 a1 0
def qt1 (D:DX)(n:Nat) (a0:tIxs) (a1:Int):Option ((Int×Unit)×Unit):=quf D n (qqm D n) a0 a1
def qf2 (x0:tIxs) (x1:Int) (x2:Int):St:=stq 43 [(0,AV.val (Ty.sl yX) x0),(1,avI x1),(5,avI x2)] [] 
def qjz (v0_0:Int) (v0_1:Int):St:=stq 43 [(1,avI v0_0),(4,avI v0_1)] [] 
def qj5 (v1_0:Int):St:=stq 43 [(1,avI v1_0)] [] 
theorem qbah (D:DX)(n:Nat) (m:Nat) (K:Ex→St→Option (Out ctx 188)) (x0:tIxs) (x1:Int) (x2:Int) :
 LQ qc D n 188 [.r,.l,.r,.l] (m+1) (qf2 x0 x1 x2) K=qr5 D n (fun x0 x1 x2=>LQ qc D n 188 [.r,.l,.r,.l] m (qf2 x0 x1 x2) K) (fun v0_0 v0_1=>K (Ex.ret) (qjz v0_0 v0_1)) (fun v1_0=>K (Ex.exit 0) (qj5 v1_0)) x0 x1 x2:=by kernel_rfl
theorem qzg (D:DX)(n:Nat) (K:Ex→St→Option (Out ctx 188)):∀ (m:Nat) (x0:tIxs) (x1:Int) (x2:Int),LQ qc D n 188 [.r,.l,.r,.l] m (qf2 x0 x1 x2) K=qgb D n (fun v0_0 v0_1=>K (Ex.ret) (qjz v0_0 v0_1)) (fun v1_0=>K (Ex.exit 0) (qj5 v1_0)) m x0 x1 x2
 | 0,x0,x1,x2=>qx ..
 | m+1,x0,x1,x2=>by
  have ih:(fun x0 x1 x2=>LQ qc D n 188 [.r,.l,.r,.l] m (qf2 x0 x1 x2) K)=qgb D n (fun v0_0 v0_1=>K (Ex.ret) (qjz v0_0 v0_1)) (fun v1_0=>K (Ex.exit 0) (qj5 v1_0)) m:=by funext x0 x1 x2;exact qzg D n K m x0 x1 x2
  rw[qbah]
  rw[ih];rfl
theorem q8v (D:DX)(n:Nat) (v0_0:Int) (v0_1:Int) :
 (CQ qc D n 188 [] [.r,.l,.r,.l] (qh qc 188)) (Ex.ret) (qjz v0_0 v0_1)=qpe D n v0_0 v0_1:=by kernel_rfl
theorem q9r (D:DX)(n:Nat) (v1_0:Int) :
 (CQ qc D n 188 [] [.r,.l,.r,.l] (qh qc 188)) (Ex.exit 0) (qj5 v1_0)=qj1 D n v1_0:=by kernel_rfl
theorem q8y (D:DX)(n:Nat) (x0:tIxs) (x1:Int) (x2:Int) :
 LQ qc D n 188 [.r,.l,.r,.l] n (qf2 x0 x1 x2) (CQ qc D n 188 [] [.r,.l,.r,.l] (qh qc 188))=qqm D n x0 x1 x2:=by
 rw[qzg]
 simp only[q8v,q9r]
 rfl
theorem qbem (D:DX)(n:Nat) (a0:tIxs) (a1:Int):rfC qc D n 188 (a0,(a1,()))=qt1 D n a0 a1:=by
 have h:rfC qc D n 188 (a0,(a1,()))=quf D n (fun x0 x1 x2=>LQ qc D n 188 [.r,.l,.r,.l] n (qf2 x0 x1 x2) (CQ qc D n 188 [] [.r,.l,.r,.l] (qh qc 188))) a0 a1:=by kernel_rfl
 rw[h]
 simp only[q8y]
 rfl

def qrw (D:DX)(n:Nat) (go:qd→Int→Int→Option ((Int×Unit)×Unit)) (K0:Int→Int→Option ((Int×Unit)×Unit)) (K1:Int→Option ((Int×Unit)×Unit)) (x0:qd) (x1:Int) (x2:Int):Option ((Int×Unit)×Unit):=br (decide (x2<(↑(List.length x0):Int))) (br (decide (0≤x2)&&decide (x2<(↑(List.length x0):Int))) (br (Prod.fst (List.getD x0 (Int.toNat x2) (0,0,ByteArray.empty,())) != x1) (K0 x1 (-1)) (br (decide (0≤x2)&&decide (x2<(↑(List.length x0):Int))) (br (Prod.fst (Prod.snd (List.getD x0 (Int.toNat x2) (0,0,ByteArray.empty,()))) != IntKind.wrap IntKind.i64 (x1+1)) (K0 (IntKind.wrap IntKind.i64 (x1+1)) (-1)) (br (decide (0≤x2)&&decide (x2<(↑(List.length x0):Int))) (qi (qe1 D (IntKind.wrap IntKind.i64 (IntKind.wrap IntKind.i64 (x1+1)+1))) fun b↦br (!List.beq (ByteArray.toList (Prod.fst (Prod.snd (Prod.snd (List.getD x0 (Int.toNat x2) (0,0,ByteArray.empty,())))))) (ByteArray.toList (Prod.fst (Prod.fst b)))) (K0 (IntKind.wrap IntKind.i64 (IntKind.wrap IntKind.i64 (x1+1)+1)) (-1)) (go x0 (IntKind.wrap IntKind.i64 (IntKind.wrap IntKind.i64 (IntKind.wrap IntKind.i64 (x1+1)+1)+1)) (IntKind.wrap IntKind.i64 (x2+1)))) none)) none)) none) (K1 x1)
def qfx (D:DX)(n:Nat) (K0:Int→Int→Option ((Int×Unit)×Unit)) (K1:Int→Option ((Int×Unit)×Unit)):Nat→(qd)→(Int)→(Int)→Option ((Int×Unit)×Unit) | 0=>(fun x0 x1 x2=>none) | m+1=>(fun x0 x1 x2=>qrw D n (qfx D n K0 K1 m) K0 K1 x0 x1 x2)
def qos (D:DX)(n:Nat) (v0_0:Int) (v0_1:Int):Option ((Int×Unit)×Unit):=some ((v0_1,()),())
def qj3 (D:DX)(n:Nat) (v1_0:Int):Option ((Int×Unit)×Unit):=some ((v1_0,()),())
def qqg (D:DX)(n:Nat):(qd)→(Int)→(Int)→Option ((Int×Unit)×Unit):=(fun x0 x1 x2=>qfx D n (fun v0_0 v0_1=>qos D n v0_0 v0_1) (fun v1_0=>qj3 D n v1_0) n x0 x1 x2)
def qt5 (D:DX)(n:Nat) (lp0:qd→Int→Int→Option ((Int×Unit)×Unit)) (a0:qd) (a1:Int):Option ((Int×Unit)×Unit):=lp0 a0 a1 0
def qus (D:DX)(n:Nat) (a0:qd) (a1:Int):Option ((Int×Unit)×Unit):=qt5 D n (qqg D n) a0 a1
def qf7 (x0:qd) (x1:Int) (x2:Int):St:=stq 41 [(0,AV.val (Ty.sl yV) x0),(1,avI x1),(5,avI x2)] [] 
def qj9 (v0_0:Int) (v0_1:Int):St:=stq 41 [(1,avI v0_0),(4,avI v0_1)] [] 
def qj7 (v1_0:Int):St:=stq 41 [(1,avI v1_0)] [] 
theorem qbau (D:DX)(n:Nat) (m:Nat) (K:Ex→St→Option (Out ctx 189)) (x0:qd) (x1:Int) (x2:Int) :
 LQ qc D n 189 [.r,.l,.r,.l] (m+1) (qf7 x0 x1 x2) K=qrw D n (fun x0 x1 x2=>LQ qc D n 189 [.r,.l,.r,.l] m (qf7 x0 x1 x2) K) (fun v0_0 v0_1=>K (Ex.ret) (qj9 v0_0 v0_1)) (fun v1_0=>K (Ex.exit 0) (qj7 v1_0)) x0 x1 x2:=by kernel_rfl
theorem qza (D:DX)(n:Nat) (K:Ex→St→Option (Out ctx 189)):∀ (m:Nat) (x0:qd) (x1:Int) (x2:Int),LQ qc D n 189 [.r,.l,.r,.l] m (qf7 x0 x1 x2) K=qfx D n (fun v0_0 v0_1=>K (Ex.ret) (qj9 v0_0 v0_1)) (fun v1_0=>K (Ex.exit 0) (qj7 v1_0)) m x0 x1 x2
 | 0,x0,x1,x2=>qx ..
 | m+1,x0,x1,x2=>by
  have ih:(fun x0 x1 x2=>LQ qc D n 189 [.r,.l,.r,.l] m (qf7 x0 x1 x2) K)=qfx D n (fun v0_0 v0_1=>K (Ex.ret) (qj9 v0_0 v0_1)) (fun v1_0=>K (Ex.exit 0) (qj7 v1_0)) m:=by funext x0 x1 x2;exact qza D n K m x0 x1 x2
  rw[qbau]
  rw[ih];rfl
theorem q8r (D:DX)(n:Nat) (v0_0:Int) (v0_1:Int) :
 (CQ qc D n 189 [] [.r,.l,.r,.l] (qh qc 189)) (Ex.ret) (qj9 v0_0 v0_1)=qos D n v0_0 v0_1:=by kernel_rfl
theorem q83 (D:DX)(n:Nat) (v1_0:Int) :
 (CQ qc D n 189 [] [.r,.l,.r,.l] (qh qc 189)) (Ex.exit 0) (qj7 v1_0)=qj3 D n v1_0:=by kernel_rfl
theorem q87 (D:DX)(n:Nat) (x0:qd) (x1:Int) (x2:Int) :
 LQ qc D n 189 [.r,.l,.r,.l] n (qf7 x0 x1 x2) (CQ qc D n 189 [] [.r,.l,.r,.l] (qh qc 189))=qqg D n x0 x1 x2:=by
 rw[qza]
 simp only[q8r,q83]
 rfl
theorem qbfa (D:DX)(n:Nat) (a0:qd) (a1:Int):rfC qc D n 189 (a0,(a1,()))=qus D n a0 a1:=by
 have h:rfC qc D n 189 (a0,(a1,()))=qt5 D n (fun x0 x1 x2=>LQ qc D n 189 [.r,.l,.r,.l] n (qf7 x0 x1 x2) (CQ qc D n 189 [] [.r,.l,.r,.l] (qh qc 189))) a0 a1:=by kernel_rfl
 rw[h]
 simp only[q87]
 rfl


def qdk (D:DX)(n:Nat) (a1:Clo) (go:tIxs→Int→Int→Option ((Int×Unit)×Unit)) (K0:Int→Option ((Int×Unit)×Unit)) (K1:Option ((Int×Unit)×Unit)) (x0:tIxs) (x1:Int) (x2:Int):Option ((Int×Unit)×Unit):=br (decide (x2<x1)) (br (decide (0≤x2)&&decide (x2<(↑(List.length x0):Int))) (qi (qch ctx D a1 [CapV.val (Ty.pair Ty.str (Ty.pair (Ty.sl (Ty.int IntKind.i64)) (Ty.pair Ty.bool Ty.unit))) (List.getD x0 (Int.toNat x2) (ByteArray.empty,[],false,()))] Ty.bool) fun b↦br b (K0 x2) (go x0 x1 (IntKind.wrap IntKind.i64 (x2+1)))) none) K1
def qbo (D:DX)(n:Nat) (a1:Clo) (K0:Int→Option ((Int×Unit)×Unit)) (K1:Option ((Int×Unit)×Unit)):Nat→(tIxs)→(Int)→(Int)→Option ((Int×Unit)×Unit) | 0=>(fun x0 x1 x2=>none) | m+1=>(fun x0 x1 x2=>qdk D n a1 (qbo D n a1 K0 K1 m) K0 K1 x0 x1 x2)
def qfo (D:DX)(n:Nat) (a1:Clo) (v0_0:Int):Option ((Int×Unit)×Unit):=some ((v0_0,()),())
def qfm (D:DX)(n:Nat) (a1:Clo):Option ((Int×Unit)×Unit):=some ((-1,()),())
def qdh (D:DX)(n:Nat) (a1:Clo):(tIxs)→(Int)→(Int)→Option ((Int×Unit)×Unit):=(fun x0 x1 x2=>qbo D n a1 (fun v0_0=>qfo D n a1 v0_0) (qfm D n a1) n x0 x1 x2)
def qdw (D:DX)(n:Nat) (a1:Clo) (lp0:tIxs→Int→Int→Option ((Int×Unit)×Unit)) (a0:tIxs):Option ((Int×Unit)×Unit):=lp0 a0 (↑(List.length a0):Int) 0
def qd0 (D:DX)(n:Nat) (a0:tIxs) (a1:Clo):Option ((Int×Unit)×Unit):=qdw D n a1 (qdh D n a1) a0
def qbq (a1:Clo) (x0:tIxs) (x1:Int) (x2:Int):St:=stq 19 [(0,AV.val (Ty.sl yX) x0),(1,AV.cloV a1),(7,avI x1),(8,avI x2)] [] 
def qco (a1:Clo) (v0_0:Int):St:=stq 19 [(4,avI v0_0)] [] 
def qcl (a1:Clo):St:=stq 19 [] [] 
theorem qoh (D:DX)(n:Nat) (a1:Clo) (m:Nat) (K:Ex→St→Option (Out ctx 193)) (x0:tIxs) (x1:Int) (x2:Int) :
 LQ qc D n 193 [.r,.l,.r,.l] (m+1) (qbq a1 x0 x1 x2) K=qdk D n a1 (fun x0 x1 x2=>LQ qc D n 193 [.r,.l,.r,.l] m (qbq a1 x0 x1 x2) K) (fun v0_0=>K (Ex.ret) (qco a1 v0_0)) (K (Ex.exit 0) (qcl a1)) x0 x1 x2:=by kernel_rfl
theorem qf9 (D:DX)(n:Nat) (a1:Clo) (K:Ex→St→Option (Out ctx 193)):∀ (m:Nat) (x0:tIxs) (x1:Int) (x2:Int),LQ qc D n 193 [.r,.l,.r,.l] m (qbq a1 x0 x1 x2) K=qbo D n a1 (fun v0_0=>K (Ex.ret) (qco a1 v0_0)) (K (Ex.exit 0) (qcl a1)) m x0 x1 x2
 | 0,x0,x1,x2=>qx ..
 | m+1,x0,x1,x2=>by
  have ih:(fun x0 x1 x2=>LQ qc D n 193 [.r,.l,.r,.l] m (qbq a1 x0 x1 x2) K)=qbo D n a1 (fun v0_0=>K (Ex.ret) (qco a1 v0_0)) (K (Ex.exit 0) (qcl a1)) m:=by funext x0 x1 x2;exact qf9 D n a1 K m x0 x1 x2
  rw[qoh]
  rw[ih];rfl
theorem qnt (D:DX)(n:Nat) (a1:Clo) (v0_0:Int) :
 (CQ qc D n 193 [] [.r,.l,.r,.l] (qh qc 193)) (Ex.ret) (qco a1 v0_0)=qfo D n a1 v0_0:=by kernel_rfl
theorem qnq (D:DX)(n:Nat) (a1:Clo) :
 (CQ qc D n 193 [] [.r,.l,.r,.l] (qh qc 193)) (Ex.exit 0) (qcl a1)=qfm D n a1:=by kernel_rfl
theorem qnl (D:DX)(n:Nat) (a1:Clo) (x0:tIxs) (x1:Int) (x2:Int) :
 LQ qc D n 193 [.r,.l,.r,.l] n (qbq a1 x0 x1 x2) (CQ qc D n 193 [] [.r,.l,.r,.l] (qh qc 193))=qdh D n a1 x0 x1 x2:=by
 rw[qf9]
 simp only[qnt,qnq]
 rfl
theorem qo9 (D:DX)(n:Nat) (a0:tIxs) (a1:Clo):rfC qc D n 193 (a0,(a1,()))=qd0 D n a0 a1:=by
 have h:rfC qc D n 193 (a0,(a1,()))=qdw D n a1 (fun x0 x1 x2=>LQ qc D n 193 [.r,.l,.r,.l] n (qbq a1 x0 x1 x2) (CQ qc D n 193 [] [.r,.l,.r,.l] (qh qc 193))) a0:=by kernel_rfl
 rw[h]
 simp only[qnl]
 rfl

def qef (D:DX)(n:Nat) (go:qd→Int→Int→Int×Int×ByteArray×Unit→Option ((Int×Unit)×Unit)) (K0:Int→Option ((Int×Unit)×Unit)) (K1:Option ((Int×Unit)×Unit)) (x0:qd) (x1:Int) (x2:Int) (x3:Int×Int×ByteArray×Unit):Option ((Int×Unit)×Unit):=br (decide (x2<x1)) (br (decide (0≤x2)&&decide (x2<(↑(List.length x0):Int))) (br (qrb (Ty.pair (Ty.int IntKind.i64) (Ty.pair (Ty.int IntKind.i64) (Ty.pair Ty.str Ty.unit))) x3 (List.getD x0 (Int.toNat x2) (0,0,ByteArray.empty,()))) (K0 x2) (go x0 x1 (IntKind.wrap IntKind.i64 (x2+1)) x3)) none) K1
def qb3 (D:DX)(n:Nat) (K0:Int→Option ((Int×Unit)×Unit)) (K1:Option ((Int×Unit)×Unit)):Nat→(qd)→(Int)→(Int)→tVal→Option ((Int×Unit)×Unit) | 0=>(fun x0 x1 x2 x3=>none) | m+1=>(fun x0 x1 x2 x3=>qef D n (qb3 D n K0 K1 m) K0 K1 x0 x1 x2 x3)
def qhc (D:DX)(n:Nat) (v0_0:Int):Option ((Int×Unit)×Unit):=some ((v0_0,()),())
def qhf (D:DX)(n:Nat):Option ((Int×Unit)×Unit):=some ((-1,()),())
def qd5 (D:DX)(n:Nat):(qd)→(Int)→(Int)→tVal→Option ((Int×Unit)×Unit):=(fun x0 x1 x2 x3=>qb3 D n (fun v0_0=>qhc D n v0_0) (qhf D n) n x0 x1 x2 x3)
def qeu (D:DX)(n:Nat) (lp0:qd→Int→Int→Int×Int×ByteArray×Unit→Option ((Int×Unit)×Unit)) (a0:qd) (a1:Int×Int×ByteArray×Unit):Option ((Int×Unit)×Unit):=lp0 a0 (↑(List.length a0):Int) 0 a1
def qek (D:DX)(n:Nat) (a0:qd) (a1:Int×Int×ByteArray×Unit):Option ((Int×Unit)×Unit):=qeu D n (qd5 D n) a0 a1
def qb4 (x0:qd) (x1:Int) (x2:Int) (x3:Int×Int×ByteArray×Unit):St:=stq 19 [(0,AV.val (Ty.sl yV) x0),(3,AV.addr 3 []),(7,avI x1),(8,avI x2)] [(3,Root.mk yV Mk.no x3 true)] 
def qc0 (v0_0:Int):St:=stq 19 [(4,avI v0_0)] [] 
def qcz:St:=stq 19 [] [] 
theorem qqd (D:DX)(n:Nat) (m:Nat) (K:Ex→St→Option (Out ctx 194)) (x0:qd) (x1:Int) (x2:Int) (x3:Int×Int×ByteArray×Unit) :
 LQ qc D n 194 [.r,.l,.r,.l] (m+1) (qb4 x0 x1 x2 x3) K=qef D n (fun x0 x1 x2 x3=>LQ qc D n 194 [.r,.l,.r,.l] m (qb4 x0 x1 x2 x3) K) (fun v0_0=>K (Ex.ret) (qc0 v0_0)) (K (Ex.exit 0) (qcz)) x0 x1 x2 x3:=by kernel_rfl
theorem qhm (D:DX)(n:Nat) (K:Ex→St→Option (Out ctx 194)):∀ (m:Nat) (x0:qd) (x1:Int) (x2:Int) (x3:Int×Int×ByteArray×Unit),LQ qc D n 194 [.r,.l,.r,.l] m (qb4 x0 x1 x2 x3) K=qb3 D n (fun v0_0=>K (Ex.ret) (qc0 v0_0)) (K (Ex.exit 0) (qcz)) m x0 x1 x2 x3
 | 0,x0,x1,x2,x3=>qx ..
 | m+1,x0,x1,x2,x3=>by
  have ih:(fun x0 x1 x2 x3=>LQ qc D n 194 [.r,.l,.r,.l] m (qb4 x0 x1 x2 x3) K)=qb3 D n (fun v0_0=>K (Ex.ret) (qc0 v0_0)) (K (Ex.exit 0) (qcz)) m:=by funext x0 x1 x2 x3;exact qhm D n K m x0 x1 x2 x3
  rw[qqd]
  rw[ih];rfl
theorem qpr (D:DX)(n:Nat) (v0_0:Int) :
 (CQ qc D n 194 [] [.r,.l,.r,.l] (qh qc 194)) (Ex.ret) (qc0 v0_0)=qhc D n v0_0:=by kernel_rfl
theorem qpl (D:DX)(n:Nat) :
 (CQ qc D n 194 [] [.r,.l,.r,.l] (qh qc 194)) (Ex.exit 0) (qcz)=qhf D n:=by kernel_rfl
theorem qpt (D:DX)(n:Nat) (x0:qd) (x1:Int) (x2:Int) (x3:Int×Int×ByteArray×Unit) :
 LQ qc D n 194 [.r,.l,.r,.l] n (qb4 x0 x1 x2 x3) (CQ qc D n 194 [] [.r,.l,.r,.l] (qh qc 194))=qd5 D n x0 x1 x2 x3:=by
 rw[qhm]
 simp only[qpr,qpl]
 rfl
theorem qr1 (D:DX)(n:Nat) (a0:qd) (a1:Int×Int×ByteArray×Unit):rfC qc D n 194 (a0,(a1,()))=qek D n a0 a1:=by
 have h:rfC qc D n 194 (a0,(a1,()))=qeu D n (fun x0 x1 x2 x3=>LQ qc D n 194 [.r,.l,.r,.l] n (qb4 x0 x1 x2 x3) (CQ qc D n 194 [] [.r,.l,.r,.l] (qh qc 194))) a0 a1:=by kernel_rfl
 rw[h]
 simp only[qpt]
 rfl

def qee (D:DX)(n:Nat) (a1:Clo) (go:qj→Int→Int→Option ((Int×Unit)×Unit)) (K0:Int→Option ((Int×Unit)×Unit)) (K1:Option ((Int×Unit)×Unit)) (x0:qj) (x1:Int) (x2:Int):Option ((Int×Unit)×Unit):=br (decide (x2<x1)) (br (decide (0≤x2)&&decide (x2<(↑(List.length x0):Int))) (qi (qch ctx D a1 [CapV.val (Ty.pair Ty.str (Ty.pair (Ty.int IntKind.i64) (Ty.pair Ty.bool Ty.unit))) (List.getD x0 (Int.toNat x2) (ByteArray.empty,0,false,()))] Ty.bool) fun b↦br b (K0 x2) (go x0 x1 (IntKind.wrap IntKind.i64 (x2+1)))) none) K1
def qb0 (D:DX)(n:Nat) (a1:Clo) (K0:Int→Option ((Int×Unit)×Unit)) (K1:Option ((Int×Unit)×Unit)):Nat→(qj)→(Int)→(Int)→Option ((Int×Unit)×Unit) | 0=>(fun x0 x1 x2=>none) | m+1=>(fun x0 x1 x2=>qee D n a1 (qb0 D n a1 K0 K1 m) K0 K1 x0 x1 x2)
def qhi (D:DX)(n:Nat) (a1:Clo) (v0_0:Int):Option ((Int×Unit)×Unit):=some ((v0_0,()),())
def qhd (D:DX)(n:Nat) (a1:Clo):Option ((Int×Unit)×Unit):=some ((-1,()),())
def qd9 (D:DX)(n:Nat) (a1:Clo):(qj)→(Int)→(Int)→Option ((Int×Unit)×Unit):=(fun x0 x1 x2=>qb0 D n a1 (fun v0_0=>qhi D n a1 v0_0) (qhd D n a1) n x0 x1 x2)
def qel (D:DX)(n:Nat) (a1:Clo) (lp0:qj→Int→Int→Option ((Int×Unit)×Unit)) (a0:qj):Option ((Int×Unit)×Unit):=lp0 a0 (↑(List.length a0):Int) 0
def qen (D:DX)(n:Nat) (a0:qj) (a1:Clo):Option ((Int×Unit)×Unit):=qel D n a1 (qd9 D n a1) a0
def qb5 (a1:Clo) (x0:qj) (x1:Int) (x2:Int):St:=stq 19 [(0,AV.val (Ty.sl yC) x0),(1,AV.cloV a1),(7,avI x1),(8,avI x2)] [] 
def qc2 (a1:Clo) (v0_0:Int):St:=stq 19 [(4,avI v0_0)] [] 
def qcx (a1:Clo):St:=stq 19 [] [] 
theorem qp5 (D:DX)(n:Nat) (a1:Clo) (m:Nat) (K:Ex→St→Option (Out ctx 195)) (x0:qj) (x1:Int) (x2:Int) :
 LQ qc D n 195 [.r,.l,.r,.l] (m+1) (qb5 a1 x0 x1 x2) K=qee D n a1 (fun x0 x1 x2=>LQ qc D n 195 [.r,.l,.r,.l] m (qb5 a1 x0 x1 x2) K) (fun v0_0=>K (Ex.ret) (qc2 a1 v0_0)) (K (Ex.exit 0) (qcx a1)) x0 x1 x2:=by kernel_rfl
theorem qho (D:DX)(n:Nat) (a1:Clo) (K:Ex→St→Option (Out ctx 195)):∀ (m:Nat) (x0:qj) (x1:Int) (x2:Int),LQ qc D n 195 [.r,.l,.r,.l] m (qb5 a1 x0 x1 x2) K=qb0 D n a1 (fun v0_0=>K (Ex.ret) (qc2 a1 v0_0)) (K (Ex.exit 0) (qcx a1)) m x0 x1 x2
 | 0,x0,x1,x2=>qx ..
 | m+1,x0,x1,x2=>by
  have ih:(fun x0 x1 x2=>LQ qc D n 195 [.r,.l,.r,.l] m (qb5 a1 x0 x1 x2) K)=qb0 D n a1 (fun v0_0=>K (Ex.ret) (qc2 a1 v0_0)) (K (Ex.exit 0) (qcx a1)) m:=by funext x0 x1 x2;exact qho D n a1 K m x0 x1 x2
  rw[qp5]
  rw[ih];rfl
theorem qpo (D:DX)(n:Nat) (a1:Clo) (v0_0:Int) :
 (CQ qc D n 195 [] [.r,.l,.r,.l] (qh qc 195)) (Ex.ret) (qc2 a1 v0_0)=qhi D n a1 v0_0:=by kernel_rfl
theorem qpj (D:DX)(n:Nat) (a1:Clo) :
 (CQ qc D n 195 [] [.r,.l,.r,.l] (qh qc 195)) (Ex.exit 0) (qcx a1)=qhd D n a1:=by kernel_rfl
theorem qpw (D:DX)(n:Nat) (a1:Clo) (x0:qj) (x1:Int) (x2:Int) :
 LQ qc D n 195 [.r,.l,.r,.l] n (qb5 a1 x0 x1 x2) (CQ qc D n 195 [] [.r,.l,.r,.l] (qh qc 195))=qd9 D n a1 x0 x1 x2:=by
 rw[qho]
 simp only[qpo,qpj]
 rfl
theorem qsp (D:DX)(n:Nat) (a0:qj) (a1:Clo):rfC qc D n 195 (a0,(a1,()))=qen D n a0 a1:=by
 have h:rfC qc D n 195 (a0,(a1,()))=qel D n a1 (fun x0 x1 x2=>LQ qc D n 195 [.r,.l,.r,.l] n (qb5 a1 x0 x1 x2) (CQ qc D n 195 [] [.r,.l,.r,.l] (qh qc 195))) a0:=by kernel_rfl
 rw[h]
 simp only[qpw]
 rfl

def q7u (D:DX)(n:Nat) (a0:ByteArray×Int×Bool×Unit) (a1:ByteArray):Option ((Bool×Unit)×Unit):=some ((List.beq (ByteArray.toList (Prod.fst a0)) (ByteArray.toList a1),()),())
def qzw (D:DX)(n:Nat) (a0:ByteArray×Int×Bool×Unit) (a1:ByteArray):Option ((Bool×Unit)×Unit):=q7u D n a0 a1
theorem qbl1 (D:DX)(n:Nat) (a0:ByteArray×Int×Bool×Unit) (a1:ByteArray):rfC qc D n 196 (a0,(a1,()))=qzw D n a0 a1:=by kernel_rfl

def qqu (D:DX)(n:Nat) (a0:List Int) (a1:Int):Option ((Bool×Unit)×Unit):=qi (qna D a0 a1) fun b↦some ((decide (Prod.fst (Prod.fst b)≥0),()),())
def qj8 (D:DX)(n:Nat) (a0:List Int) (a1:Int):Option ((Bool×Unit)×Unit):=qqu D n a0 a1
theorem q4b (D:DX)(n:Nat) (a0:List Int) (a1:Int):rfC qc D n 197 (a0,(a1,()))=qj8 D n a0 a1:=by kernel_rfl

def qi0 (D:DX)(n:Nat) (a1:Clo) (go:List Int→Int→Int→Option ((Int×Unit)×Unit)) (K0:Int→Option ((Int×Unit)×Unit)) (K1:Option ((Int×Unit)×Unit)) (x0:List Int) (x1:Int) (x2:Int):Option ((Int×Unit)×Unit):=br (decide (x2<x1)) (br (decide (0≤x2)&&decide (x2<(↑(List.length x0):Int))) (qi (qch ctx D a1 [CapV.val (Ty.int IntKind.i64) (List.getD x0 (Int.toNat x2) 0)] Ty.bool) fun b↦br b (K0 x2) (go x0 x1 (IntKind.wrap IntKind.i64 (x2+1)))) none) K1
def qc5 (D:DX)(n:Nat) (a1:Clo) (K0:Int→Option ((Int×Unit)×Unit)) (K1:Option ((Int×Unit)×Unit)):Nat→(List Int)→(Int)→(Int)→Option ((Int×Unit)×Unit) | 0=>(fun x0 x1 x2=>none) | m+1=>(fun x0 x1 x2=>qi0 D n a1 (qc5 D n a1 K0 K1 m) K0 K1 x0 x1 x2)
def qnh (D:DX)(n:Nat) (a1:Clo) (v0_0:Int):Option ((Int×Unit)×Unit):=some ((v0_0,()),())
def qnj (D:DX)(n:Nat) (a1:Clo):Option ((Int×Unit)×Unit):=some ((-1,()),())
def qhv (D:DX)(n:Nat) (a1:Clo):(List Int)→(Int)→(Int)→Option ((Int×Unit)×Unit):=(fun x0 x1 x2=>qc5 D n a1 (fun v0_0=>qnh D n a1 v0_0) (qnj D n a1) n x0 x1 x2)
def qjm (D:DX)(n:Nat) (a1:Clo) (lp0:List Int→Int→Int→Option ((Int×Unit)×Unit)) (a0:List Int):Option ((Int×Unit)×Unit):=lp0 a0 (↑(List.length a0):Int) 0
def qjo (D:DX)(n:Nat) (a0:List Int) (a1:Clo):Option ((Int×Unit)×Unit):=qjm D n a1 (qhv D n a1) a0
def qc4 (a1:Clo) (x0:List Int) (x1:Int) (x2:Int):St:=stq 19 [(0,AV.val (Ty.sl yI) x0),(1,AV.cloV a1),(7,avI x1),(8,avI x2)] [] 
def qej (a1:Clo) (v0_0:Int):St:=stq 19 [(4,avI v0_0)] [] 
def qei (a1:Clo):St:=stq 19 [] [] 
theorem q0k (D:DX)(n:Nat) (a1:Clo) (m:Nat) (K:Ex→St→Option (Out ctx 198)) (x0:List Int) (x1:Int) (x2:Int) :
 LQ qc D n 198 [.r,.l,.r,.l] (m+1) (qc4 a1 x0 x1 x2) K=qi0 D n a1 (fun x0 x1 x2=>LQ qc D n 198 [.r,.l,.r,.l] m (qc4 a1 x0 x1 x2) K) (fun v0_0=>K (Ex.ret) (qej a1 v0_0)) (K (Ex.exit 0) (qei a1)) x0 x1 x2:=by kernel_rfl
theorem qn6 (D:DX)(n:Nat) (a1:Clo) (K:Ex→St→Option (Out ctx 198)):∀ (m:Nat) (x0:List Int) (x1:Int) (x2:Int),LQ qc D n 198 [.r,.l,.r,.l] m (qc4 a1 x0 x1 x2) K=qc5 D n a1 (fun v0_0=>K (Ex.ret) (qej a1 v0_0)) (K (Ex.exit 0) (qei a1)) m x0 x1 x2
 | 0,x0,x1,x2=>qx ..
 | m+1,x0,x1,x2=>by
  have ih:(fun x0 x1 x2=>LQ qc D n 198 [.r,.l,.r,.l] m (qc4 a1 x0 x1 x2) K)=qc5 D n a1 (fun v0_0=>K (Ex.ret) (qej a1 v0_0)) (K (Ex.exit 0) (qei a1)) m:=by funext x0 x1 x2;exact qn6 D n a1 K m x0 x1 x2
  rw[q0k]
  rw[ih];rfl
theorem qy5 (D:DX)(n:Nat) (a1:Clo) (v0_0:Int) :
 (CQ qc D n 198 [] [.r,.l,.r,.l] (qh qc 198)) (Ex.ret) (qej a1 v0_0)=qnh D n a1 v0_0:=by kernel_rfl
theorem qy4 (D:DX)(n:Nat) (a1:Clo) :
 (CQ qc D n 198 [] [.r,.l,.r,.l] (qh qc 198)) (Ex.exit 0) (qei a1)=qnj D n a1:=by kernel_rfl
theorem qy6 (D:DX)(n:Nat) (a1:Clo) (x0:List Int) (x1:Int) (x2:Int) :
 LQ qc D n 198 [.r,.l,.r,.l] n (qc4 a1 x0 x1 x2) (CQ qc D n 198 [] [.r,.l,.r,.l] (qh qc 198))=qhv D n a1 x0 x1 x2:=by
 rw[qn6]
 simp only[qy5,qy4]
 rfl
theorem q2d (D:DX)(n:Nat) (a0:List Int) (a1:Clo):rfC qc D n 198 (a0,(a1,()))=qjo D n a0 a1:=by
 have h:rfC qc D n 198 (a0,(a1,()))=qjm D n a1 (fun x0 x1 x2=>LQ qc D n 198 [.r,.l,.r,.l] n (qc4 a1 x0 x1 x2) (CQ qc D n 198 [] [.r,.l,.r,.l] (qh qc 198))) a0:=by kernel_rfl
 rw[h]
 simp only[qy6]
 rfl

def qbct (D:DX)(n:Nat) (a0:ByteArray×Int×Bool×Unit) (a1:Int):Option ((Int×Unit)×Unit):=br (decide (IntKind.wrap IntKind.i64 (a1 - (↑(ByteArray.size (Prod.fst a0)):Int))<0)) (some ((-1,()),())) (some ((IntKind.wrap IntKind.i64 (a1 - (↑(ByteArray.size (Prod.fst a0)):Int)),()),()))
def q41 (D:DX)(n:Nat) (a0:ByteArray×Int×Bool×Unit) (a1:Int):Option ((Int×Unit)×Unit):=qbct D n a0 a1
theorem qbph (D:DX)(n:Nat) (a0:ByteArray×Int×Bool×Unit) (a1:Int):rfC qc D n 201 (a0,(a1,()))=q41 D n a0 a1:=by kernel_rfl

def q8e (D:DX)(n:Nat) (a0:ByteArray×List Int×Bool×Unit) (a1:Int):Option ((Int×Unit)×Unit):=br (decide (IntKind.wrap IntKind.i64 (a1 - (↑(ByteArray.size (Prod.fst a0)):Int))<0)) (some ((-1,()),())) (qi (qu3 D (Prod.fst (Prod.snd a0)) (IntKind.wrap IntKind.i64 (a1 - (↑(ByteArray.size (Prod.fst a0)):Int)))) fun b↦br (decide (Prod.fst (Prod.fst b)<0)) (some ((-1,()),())) (some ((Prod.fst (Prod.fst b),()),())))
def q06 (D:DX)(n:Nat) (a0:ByteArray×List Int×Bool×Unit) (a1:Int):Option ((Int×Unit)×Unit):=q8e D n a0 a1
theorem qbl2 (D:DX)(n:Nat) (a0:ByteArray×List Int×Bool×Unit) (a1:Int):rfC qc D n 202 (a0,(a1,()))=q06 D n a0 a1:=by kernel_rfl

def qbql (D:DX)(n:Nat) (a0:ByteArray×Int×Bool×Unit):Option ((tCol×Unit)×Unit):=some (((Prod.fst a0,Prod.fst (Prod.snd a0),Prod.fst (Prod.snd (Prod.snd a0)),()),()),())
def qbc3 (D:DX)(n:Nat) (a0:ByteArray×Int×Bool×Unit):Option ((tCol×Unit)×Unit):=qbql D n a0
theorem qbpi (D:DX)(n:Nat) (a0:ByteArray×Int×Bool×Unit):rfC qc D n 203 (a0,())=qbc3 D n a0:=by kernel_rfl

def q75 (D:DX)(n:Nat) (a0:ByteArray×List Int×Bool×Unit):Option ((tIx×Unit)×Unit):=qi (qu4 D (Prod.fst (Prod.snd a0))) fun b↦some (((Prod.fst a0,Prod.fst (Prod.fst b),Prod.fst (Prod.snd (Prod.snd a0)),()),()),())
def qzy (D:DX)(n:Nat) (a0:ByteArray×List Int×Bool×Unit):Option ((tIx×Unit)×Unit):=q75 D n a0
theorem qbln (D:DX)(n:Nat) (a0:ByteArray×List Int×Bool×Unit):rfC qc D n 204 (a0,())=qzy D n a0:=by kernel_rfl

def qbcl (D:DX)(n:Nat) (a0:ByteArray×Int×Bool×Unit) (a1:ByteArray×Int×Bool×Unit):Option ((Bool×Unit)×Unit):=br (!List.beq (ByteArray.toList (Prod.fst a0)) (ByteArray.toList (Prod.fst a1))) (some ((false,()),())) (br (Prod.fst (Prod.snd a0) != Prod.fst (Prod.snd a1)) (some ((false,()),())) (br (!decide (Prod.fst (Prod.snd (Prod.snd a0))=Prod.fst (Prod.snd (Prod.snd a1)))) (some ((false,()),())) (some ((true,()),()))))
def q5e (D:DX)(n:Nat) (a0:ByteArray×Int×Bool×Unit) (a1:ByteArray×Int×Bool×Unit):Option ((Bool×Unit)×Unit):=qbcl D n a0 a1
theorem qbp7 (D:DX)(n:Nat) (a0:ByteArray×Int×Bool×Unit) (a1:ByteArray×Int×Bool×Unit):rfC qc D n 205 (a0,(a1,()))=q5e D n a0 a1:=by kernel_rfl

def q8j (D:DX)(n:Nat) (a0:ByteArray×List Int×Bool×Unit) (a1:ByteArray×List Int×Bool×Unit):Option ((Bool×Unit)×Unit):=br (!List.beq (ByteArray.toList (Prod.fst a0)) (ByteArray.toList (Prod.fst a1))) (some ((false,()),())) (qi (qu7 D (Prod.fst (Prod.snd a0)) (Prod.fst (Prod.snd a1))) fun b↦br (!Prod.fst (Prod.fst b)) (some ((false,()),())) (br (!decide (Prod.fst (Prod.snd (Prod.snd a0))=Prod.fst (Prod.snd (Prod.snd a1)))) (some ((false,()),())) (some ((true,()),()))))
def q0g (D:DX)(n:Nat) (a0:ByteArray×List Int×Bool×Unit) (a1:ByteArray×List Int×Bool×Unit):Option ((Bool×Unit)×Unit):=q8j D n a0 a1
theorem qblb (D:DX)(n:Nat) (a0:ByteArray×List Int×Bool×Unit) (a1:ByteArray×List Int×Bool×Unit):rfC qc D n 206 (a0,(a1,()))=q0g D n a0 a1:=by kernel_rfl



def qlb (D:DX)(n:Nat) (go:List Int→Int→Int→Int→Option ((Int×Unit)×Unit)) (K0:Int→Option ((Int×Unit)×Unit)) (K1:Option ((Int×Unit)×Unit)) (x0:List Int) (x1:Int) (x2:Int) (x3:Int):Option ((Int×Unit)×Unit):=br (decide (x3<x2)) (br (decide (0≤x3)&&decide (x3<(↑(List.length x0):Int))) (br (decide (x1=List.getD x0 (Int.toNat x3) 0)) (K0 x3) (go x0 x1 x2 (IntKind.wrap IntKind.i64 (x3+1)))) none) K1
def qdq (D:DX)(n:Nat) (K0:Int→Option ((Int×Unit)×Unit)) (K1:Option ((Int×Unit)×Unit)):Nat→(List Int)→(Int)→(Int)→(Int)→Option ((Int×Unit)×Unit) | 0=>(fun x0 x1 x2 x3=>none) | m+1=>(fun x0 x1 x2 x3=>qlb D n (qdq D n K0 K1 m) K0 K1 x0 x1 x2 x3)
def qq1 (D:DX)(n:Nat) (v0_0:Int):Option ((Int×Unit)×Unit):=some ((v0_0,()),())
def qq2 (D:DX)(n:Nat):Option ((Int×Unit)×Unit):=some ((-1,()),())
def qko (D:DX)(n:Nat):(List Int)→(Int)→(Int)→(Int)→Option ((Int×Unit)×Unit):=(fun x0 x1 x2 x3=>qdq D n (fun v0_0=>qq1 D n v0_0) (qq2 D n) n x0 x1 x2 x3)
def qnc (D:DX)(n:Nat) (lp0:List Int→Int→Int→Int→Option ((Int×Unit)×Unit)) (a0:List Int) (a1:Int):Option ((Int×Unit)×Unit):=lp0 a0 a1 (↑(List.length a0):Int) 0
def qnf (D:DX)(n:Nat) (a0:List Int) (a1:Int):Option ((Int×Unit)×Unit):=qnc D n (qko D n) a0 a1
def qdp (x0:List Int) (x1:Int) (x2:Int) (x3:Int):St:=stq 19 [(0,AV.val (Ty.sl yI) x0),(1,avI x1),(7,avI x2),(8,avI x3)] [] 
def qgj (v0_0:Int):St:=stq 19 [(4,avI v0_0)] [] 
def qgi:St:=stq 19 [] [] 
theorem q5l (D:DX)(n:Nat) (m:Nat) (K:Ex→St→Option (Out ctx 210)) (x0:List Int) (x1:Int) (x2:Int) (x3:Int) :
 LQ qc D n 210 [.r,.l,.r,.l] (m+1) (qdp x0 x1 x2 x3) K=qlb D n (fun x0 x1 x2 x3=>LQ qc D n 210 [.r,.l,.r,.l] m (qdp x0 x1 x2 x3) K) (fun v0_0=>K (Ex.ret) (qgj v0_0)) (K (Ex.exit 0) (qgi)) x0 x1 x2 x3:=by kernel_rfl
theorem qsh (D:DX)(n:Nat) (K:Ex→St→Option (Out ctx 210)):∀ (m:Nat) (x0:List Int) (x1:Int) (x2:Int) (x3:Int),LQ qc D n 210 [.r,.l,.r,.l] m (qdp x0 x1 x2 x3) K=qdq D n (fun v0_0=>K (Ex.ret) (qgj v0_0)) (K (Ex.exit 0) (qgi)) m x0 x1 x2 x3
 | 0,x0,x1,x2,x3=>qx ..
 | m+1,x0,x1,x2,x3=>by
  have ih:(fun x0 x1 x2 x3=>LQ qc D n 210 [.r,.l,.r,.l] m (qdp x0 x1 x2 x3) K)=qdq D n (fun v0_0=>K (Ex.ret) (qgj v0_0)) (K (Ex.exit 0) (qgi)) m:=by funext x0 x1 x2 x3;exact qsh D n K m x0 x1 x2 x3
  rw[q5l]
  rw[ih];rfl
theorem q39 (D:DX)(n:Nat) (v0_0:Int) :
 (CQ qc D n 210 [] [.r,.l,.r,.l] (qh qc 210)) (Ex.ret) (qgj v0_0)=qq1 D n v0_0:=by kernel_rfl
theorem q4g (D:DX)(n:Nat) :
 (CQ qc D n 210 [] [.r,.l,.r,.l] (qh qc 210)) (Ex.exit 0) (qgi)=qq2 D n:=by kernel_rfl
theorem q4d (D:DX)(n:Nat) (x0:List Int) (x1:Int) (x2:Int) (x3:Int) :
 LQ qc D n 210 [.r,.l,.r,.l] n (qdp x0 x1 x2 x3) (CQ qc D n 210 [] [.r,.l,.r,.l] (qh qc 210))=qko D n x0 x1 x2 x3:=by
 rw[qsh]
 simp only[q39,q4g]
 rfl
theorem q65 (D:DX)(n:Nat) (a0:List Int) (a1:Int):rfC qc D n 210 (a0,(a1,()))=qnf D n a0 a1:=by
 have h:rfC qc D n 210 (a0,(a1,()))=qnc D n (fun x0 x1 x2 x3=>LQ qc D n 210 [.r,.l,.r,.l] n (qdp x0 x1 x2 x3) (CQ qc D n 210 [] [.r,.l,.r,.l] (qh qc 210))) a0 a1:=by kernel_rfl
 rw[h]
 simp only[q4d]
 rfl

end
end Go.G

namespace Go.G
set_option maxRecDepth 100000
open Go Go.V Go.Proofs
def XOk (X:Ext):Prop:=∀ k:Nat,(Nat.beq k 88||Nat.beq k 93||Nat.beq k 95||Nat.beq k 192)=false→X.is k=false
theorem q9o {X:Ext} (hX:XOk X) (n:Nat) (a0:(tSch)×qe×Unit) (a1:qd):qw9 (DD X (n+1)) a0 a1=qpf (DD X n) n a0 a1:=(ql X Tryz.func7 (by kernel_rfl) (hX 7 rfl) n _).trans (q8u ..)
theorem qbo0 {X:Ext} (hX:XOk X) (n:Nat) (a0:(tSch)×qe×Unit):q5a (DD X (n+1)) a0=q51 (DD X n) n a0:=(ql X Tryz.func17 (by kernel_rfl) (hX 17 rfl) n _).trans (qbpa ..)
theorem qbkb {X:Ext} (hX:XOk X) (n:Nat) (a0:tSch) (a1:qd):ql9 (DD X (n+1)) a0 a1=qx3 (DD X n) n a0 a1:=(ql X Tryz.func23 (by kernel_rfl) (hX 23 rfl) n _).trans (qbi1 ..)
theorem qbnt {X:Ext} (hX:XOk X) (n:Nat) (a0:(tSch)×qe×Unit) (a1:qd):qva (DD X (n+1)) a0 a1=q22 (DD X n) n a0 a1:=(ql X Tryz.func24 (by kernel_rfl) (hX 24 rfl) n _).trans (qbnm ..)
theorem qbny {X:Ext} (hX:XOk X) (n:Nat) (a0:(tSch)×qe×Unit) (a1:qd):q2j (DD X (n+1)) a0 a1=q2z (DD X n) n a0 a1:=(ql X Tryz.func30 (by kernel_rfl) (hX 30 rfl) n _).trans (qbnr ..)
theorem qbo5 {X:Ext} (hX:XOk X) (n:Nat) (a0:(tSch)×qe×Unit):q5x (DD X (n+1)) a0=q5f (DD X n) n a0:=(ql X Tryz.func41 (by kernel_rfl) (hX 41 rfl) n _).trans (qbp2 ..)
theorem qbfg {X:Ext} (hX:XOk X) (n:Nat) (a0:(tSch)×qe×Unit) (a1:Int):qt6 (DD X (n+1)) a0 a1=qtk (DD X n) n a0 a1:=(ql X Tryz.func53 (by kernel_rfl) (hX 53 rfl) n _).trans (qbef ..)
theorem qbju {X:Ext} (hX:XOk X) (n:Nat) (a0:qd) (a1:Int):ql5 (DD X (n+1)) a0 a1=qw0 (DD X n) n a0 a1:=(ql X Tryz.func54 (by kernel_rfl) (hX 54 rfl) n _).trans (qbiu ..)
theorem qbdz {X:Ext} (hX:XOk X) (n:Nat) (a0:(tSch)×qe×Unit):qg6 (DD X (n+1)) a0=qtw (DD X n) n a0:=(ql X Tryz.func55 (by kernel_rfl) (hX 55 rfl) n _).trans (qbel ..)
theorem qbjd {X:Ext} (hX:XOk X) (n:Nat) (a0:qd):qe2 (DD X (n+1)) a0=qxd (DD X n) n a0:=(ql X Tryz.func56 (by kernel_rfl) (hX 56 rfl) n _).trans (qbj1 ..)
theorem qbfi {X:Ext} (hX:XOk X) (n:Nat) (a0:(tSch)×qe×Unit) (a1:(tSch)×qe×Unit):qgx (DD X (n+1)) a0 a1=qtn (DD X n) n a0 a1:=(ql X Tryz.func57 (by kernel_rfl) (hX 57 rfl) n _).trans (qbe9 ..)
theorem qbis {X:Ext} (hX:XOk X) (n:Nat) (a0:qd) (a1:qd):qm8 (DD X (n+1)) a0 a1=qxx (DD X n) n a0 a1:=(ql X Tryz.func58 (by kernel_rfl) (hX 58 rfl) n _).trans (qbjv ..)
theorem qbat {X:Ext} (hX:XOk X) (n:Nat) (a0:(tSch)×qe×Unit) (a1:Int):qk9 (DD X (n+1)) a0 a1=qp6 (DD X n) n a0 a1:=(ql X Tryz.func59 (by kernel_rfl) (hX 59 rfl) n _).trans (qbam ..)
theorem qbev {X:Ext} (hX:XOk X) (n:Nat) (a0:qd) (a1:Int):qn1 (DD X (n+1)) a0 a1=quq (DD X n) n a0 a1:=(ql X Tryz.func60 (by kernel_rfl) (hX 60 rfl) n _).trans (qbd4 ..)
theorem qba1 {X:Ext} (hX:XOk X) (n:Nat) (a0:(tSch)×qe×Unit) (a1:Int):qkz (DD X (n+1)) a0 a1=qp9 (DD X n) n a0 a1:=(ql X Tryz.func61 (by kernel_rfl) (hX 61 rfl) n _).trans (qbas ..)
theorem qbqv {X:Ext} (hX:XOk X) (n:Nat) (a0:Int) (a1:Int) (a2:Int):qgm (DD X (n+1)) a0 a1 a2=q62 (DD X n) n a0 a1 a2:=(ql X Tryz.func68 (by kernel_rfl) (hX 68 rfl) n _).trans (qbqz ..)
theorem qbpq {X:Ext} (hX:XOk X) (n:Nat) (a0:tSch) (a1:qd):q5v (DD X (n+1)) a0 a1=q5p (DD X n) n a0 a1:=(ql X Tryz.func77 (by kernel_rfl) (hX 77 rfl) n _).trans (qbqg ..)
theorem qbho {X:Ext} (hX:XOk X) (n:Nat) (a0:qd) (a1:qd):qvh (DD X (n+1)) a0 a1=qwc (DD X n) n a0 a1:=(ql X Tryz.func78 (by kernel_rfl) (hX 78 rfl) n _).trans (qbgr ..)
theorem qnk {X:Ext} (hX:XOk X) (n:Nat) (a0:qe) (a1:Clo):qb6 (DD X (n+1)) a0 a1=qdd (DD X n) n a0 a1:=(ql X Tryz.func79 (by kernel_rfl) (hX 79 rfl) n _).trans (qno ..)
theorem qbmi {X:Ext} (hX:XOk X) (n:Nat) (a0:qd) (a1:(tSch)×qe×Unit) (a2:qd):q79 (DD X (n+1)) a0 a1 a2=q0t (DD X n) n a0 a1 a2:=(ql X Tryz.func80 (by kernel_rfl) (hX 80 rfl) n _).trans (qblj ..)
theorem qbo2 {X:Ext} (hX:XOk X) (n:Nat) (a0:tSch) (a1:qd) (a2:qd):q4u (DD X (n+1)) a0 a1 a2=q45 (DD X n) n a0 a1 a2:=(ql X Tryz.func81 (by kernel_rfl) (hX 81 rfl) n _).trans (qbo4 ..)
theorem qbi8 {X:Ext} (hX:XOk X) (n:Nat) (a0:tSch):qq9 (DD X (n+1)) a0=qym (DD X n) n a0:=(ql X Tryz.func82 (by kernel_rfl) (hX 82 rfl) n _).trans (qbkh ..)
theorem qbag {X:Ext} (hX:XOk X) (n:Nat) (a0:(tSch)×qe×Unit):qp8 (DD X (n+1)) a0=qqh (DD X n) n a0:=(ql X Tryz.func83 (by kernel_rfl) (hX 83 rfl) n _).trans (q98 ..)
theorem qbpw {X:Ext} (hX:XOk X) (n:Nat) (a0:(tSch)×qe×Unit) (a1:qd):q56 (DD X (n+1)) a0 a1=q54 (DD X n) n a0 a1:=(ql X Tryz.func84 (by kernel_rfl) (hX 84 rfl) n _).trans (qbpj ..)
theorem qoz {X:Ext} (hX:XOk X) (n:Nat) (a0:qe) (a1:Clo):qct (DD X (n+1)) a0 a1=qdv (DD X n) n a0 a1:=(ql X Tryz.func86 (by kernel_rfl) (hX 86 rfl) n _).trans (qpb ..)
theorem qru {X:Ext} (hX:XOk X) (n:Nat) (a0:qd):qes (DD X (n+1)) a0=qer (DD X n) n a0:=(ql X Tryz.func89 (by kernel_rfl) (hX 89 rfl) n _).trans (qr7 ..)
theorem qbl4 {X:Ext} (hX:XOk X) (n:Nat) (a0:qd) (a1:List Int):qof (DD X (n+1)) a0 a1=q0r (DD X n) n a0 a1:=(ql X Tryz.func94 (by kernel_rfl) (hX 94 rfl) n _).trans (qbmm ..)
theorem qbl7 {X:Ext} (hX:XOk X) (n:Nat) (a0:(tSch)×qe×Unit):q0i (DD X (n+1)) a0=q1a (DD X n) n a0:=(ql X Tryz.func99 (by kernel_rfl) (hX 99 rfl) n _).trans (qblf ..)
theorem qbps {X:Ext} (hX:XOk X) (n:Nat) (a0:tSch) (a1:qd):q5i (DD X (n+1)) a0 a1=q5r (DD X n) n a0 a1:=(ql X Tryz.func100 (by kernel_rfl) (hX 100 rfl) n _).trans (qbpg ..)
theorem qbot {X:Ext} (hX:XOk X) (n:Nat) (a0:(tSch)×qe×Unit) (a1:qd):q5u (DD X (n+1)) a0 a1=q53 (DD X n) n a0 a1:=(ql X Tryz.func101 (by kernel_rfl) (hX 101 rfl) n _).trans (qbp6 ..)
theorem qbkz {X:Ext} (hX:XOk X) (n:Nat) (a0:tSch) (a1:qd):qmy (DD X (n+1)) a0 a1=qxz (DD X n) n a0 a1:=(ql X Tryz.func102 (by kernel_rfl) (hX 102 rfl) n _).trans (qbix ..)
theorem qbhk {X:Ext} (hX:XOk X) (n:Nat) (a0:qd) (a1:qd):qvz (DD X (n+1)) a0 a1=qwl (DD X n) n a0 a1:=(ql X Tryz.func104 (by kernel_rfl) (hX 104 rfl) n _).trans (qbgu ..)
theorem qblh {X:Ext} (hX:XOk X) (n:Nat) (a0:qe):qn9 (DD X (n+1)) a0=q0j (DD X n) n a0:=(ql X Tryz.func105 (by kernel_rfl) (hX 105 rfl) n _).trans (qbml ..)
theorem qbd5 {X:Ext} (hX:XOk X) (n:Nat) (a0:tSch):qte (DD X (n+1)) a0=qt3 (DD X n) n a0:=(ql X Tryz.func107 (by kernel_rfl) (hX 107 rfl) n _).trans (qbd0 ..)
theorem qbmf {X:Ext} (hX:XOk X) (n:Nat) (a0:tSch):q0u (DD X (n+1)) a0=q1e (DD X n) n a0:=(ql X Tryz.func108 (by kernel_rfl) (hX 108 rfl) n _).trans (qbly ..)
theorem qbh5 {X:Ext} (hX:XOk X) (n:Nat) (a0:tSch) (a1:qd) (a2:qd):qw3 (DD X (n+1)) a0 a1 a2=qx9 (DD X n) n a0 a1 a2:=(ql X Tryz.func111 (by kernel_rfl) (hX 111 rfl) n _).trans (qbim ..)
theorem qbjr {X:Ext} (hX:XOk X) (n:Nat) (a0:tSch):qqy (DD X (n+1)) a0=qxy (DD X n) n a0:=(ql X Tryz.func112 (by kernel_rfl) (hX 112 rfl) n _).trans (qbhs ..)
theorem qbq4 {X:Ext} (hX:XOk X) (n:Nat) (a0:Int) (a1:Int) (a2:Int):qgl (DD X (n+1)) a0 a1 a2=q63 (DD X n) n a0 a1 a2:=(ql X Tryz.func117 (by kernel_rfl) (hX 117 rfl) n _).trans (qbq9 ..)
theorem qblq {X:Ext} (hX:XOk X) (n:Nat) (a0:qd) (a1:List Int):qn7 (DD X (n+1)) a0 a1=q04 (DD X n) n a0 a1:=(ql X Tryz.func119 (by kernel_rfl) (hX 119 rfl) n _).trans (qbma ..)
theorem qbio {X:Ext} (hX:XOk X) (n:Nat) (a0:tSch) (a1:Int):qyq (DD X (n+1)) a0 a1=qww (DD X n) n a0 a1:=(ql X Tryz.func120 (by kernel_rfl) (hX 120 rfl) n _).trans (qbh3 ..)
theorem qbhf {X:Ext} (hX:XOk X) (n:Nat) (a0:qe) (a1:Int):qvw (DD X (n+1)) a0 a1=qvp (DD X n) n a0 a1:=(ql X Tryz.func121 (by kernel_rfl) (hX 121 rfl) n _).trans (qbgn ..)
theorem qbmh {X:Ext} (hX:XOk X) (n:Nat) (a0:Int×Int×ByteArray×Unit) (a1:Int):qs6 (DD X (n+1)) a0 a1=qz1 (DD X n) n a0 a1:=(ql X Tryz.func122 (by kernel_rfl) (hX 122 rfl) n _).trans (qbk6 ..)
theorem qbi9 {X:Ext} (hX:XOk X) (n:Nat) (a0:tSch):qw8 (DD X (n+1)) a0=qx7 (DD X n) n a0:=(ql X Tryz.func123 (by kernel_rfl) (hX 123 rfl) n _).trans (qbh9 ..)
theorem qbg5 {X:Ext} (hX:XOk X) (n:Nat) (a0:qe):qwf (DD X (n+1)) a0=qv4 (DD X n) n a0:=(ql X Tryz.func124 (by kernel_rfl) (hX 124 rfl) n _).trans (qbg8 ..)
theorem qbl9 {X:Ext} (hX:XOk X) (n:Nat) (a0:Int×Int×ByteArray×Unit):qst (DD X (n+1)) a0=q7c (DD X n) n a0:=(ql X Tryz.func125 (by kernel_rfl) (hX 125 rfl) n _).trans (qbk1 ..)
theorem qbil {X:Ext} (hX:XOk X) (n:Nat) (a0:tSch) (a1:tSch):qxq (DD X (n+1)) a0 a1=qyo (DD X n) n a0 a1:=(ql X Tryz.func126 (by kernel_rfl) (hX 126 rfl) n _).trans (qbin ..)
theorem qbhm {X:Ext} (hX:XOk X) (n:Nat) (a0:qe) (a1:qe):qv9 (DD X (n+1)) a0 a1=qwk (DD X n) n a0 a1:=(ql X Tryz.func127 (by kernel_rfl) (hX 127 rfl) n _).trans (qbgd ..)
theorem qblr {X:Ext} (hX:XOk X) (n:Nat) (a0:Int×Int×ByteArray×Unit) (a1:Int×Int×ByteArray×Unit):qs4 (DD X (n+1)) a0 a1=q0f (DD X n) n a0 a1:=(ql X Tryz.func128 (by kernel_rfl) (hX 128 rfl) n _).trans (qbmd ..)
theorem qbe5 {X:Ext} (hX:XOk X) (n:Nat) (a0:tSch) (a1:Int):quu (DD X (n+1)) a0 a1=qtf (DD X n) n a0 a1:=(ql X Tryz.func129 (by kernel_rfl) (hX 129 rfl) n _).trans (qbee ..)
theorem qbb4 {X:Ext} (hX:XOk X) (n:Nat) (a0:qe) (a1:Int):qrt (DD X (n+1)) a0 a1=qse (DD X n) n a0 a1:=(ql X Tryz.func130 (by kernel_rfl) (hX 130 rfl) n _).trans (qbdc ..)
theorem qbhy {X:Ext} (hX:XOk X) (n:Nat) (a0:Int):qe1 (DD X (n+1)) a0=qxi (DD X n) n a0:=(ql X Tryz.func131 (by kernel_rfl) (hX 131 rfl) n _).trans (qbky ..)
theorem qbes {X:Ext} (hX:XOk X) (n:Nat) (a0:tSch) (a1:Int):qn3 (DD X (n+1)) a0 a1=qt9 (DD X n) n a0 a1:=(ql X Tryz.func132 (by kernel_rfl) (hX 132 rfl) n _).trans (qbfj ..)
theorem qbde {X:Ext} (hX:XOk X) (n:Nat) (a0:qe) (a1:Int):qly (DD X (n+1)) a0 a1=qrr (DD X n) n a0 a1:=(ql X Tryz.func133 (by kernel_rfl) (hX 133 rfl) n _).trans (qba4 ..)
theorem q68 {X:Ext} (hX:XOk X) (n:Nat) (a0:List Int):qiw (DD X (n+1)) a0=qng (DD X n) n a0:=(ql X Tryz.func138 (by kernel_rfl) (hX 138 rfl) n _).trans (q60 ..)
theorem qbmn {X:Ext} (hX:XOk X) (n:Nat) (a0:Int×Int×ByteArray×Unit):qzu (DD X (n+1)) a0=q0q (DD X n) n a0:=(ql X Tryz.func139 (by kernel_rfl) (hX 139 rfl) n _).trans (qbls ..)
theorem qfv {X:Ext} (hX:XOk X) (n:Nat) (a0:qd) (a1:qd) (a2:Clo):qb8 (DD X (n+1)) a0 a1 a2=qb7 (DD X n) n a0 a1 a2:=(ql X Tryz.func140 (by kernel_rfl) (hX 140 rfl) n _).trans (qfr ..)
theorem qblx {X:Ext} (hX:XOk X) (n:Nat) (a0:Int×Int×ByteArray×Unit) (a1:Int×Int×ByteArray×Unit):q1d (DD X (n+1)) a0 a1=qzm (DD X n) n a0 a1:=(ql X Tryz.func141 (by kernel_rfl) (hX 141 rfl) n _).trans (qbk8 ..)
theorem qnr {X:Ext} (hX:XOk X) (n:Nat) (a0:tIxs) (a1:Clo):qcp (DD X (n+1)) a0 a1=qde (DD X n) n a0 a1:=(ql X Tryz.func142 (by kernel_rfl) (hX 142 rfl) n _).trans (qnp ..)
theorem qbk4 {X:Ext} (hX:XOk X) (n:Nat) (a0:ByteArray×List Int×Bool×Unit) (a1:qd) (a2:qd):q7w (DD X (n+1)) a0 a1 a2=q0m (DD X n) n a0 a1 a2:=(ql X Tryz.func143 (by kernel_rfl) (hX 143 rfl) n _).trans (qbk0 ..)
theorem qpm {X:Ext} (hX:XOk X) (n:Nat) (a0:qd) (a1:Int×Int×ByteArray×Unit):qd1 (DD X (n+1)) a0 a1=qd2 (DD X n) n a0 a1:=(ql X Tryz.func144 (by kernel_rfl) (hX 144 rfl) n _).trans (qpv ..)
theorem qrx {X:Ext} (hX:XOk X) (n:Nat) (a0:qd) (a1:qd):qda (DD X (n+1)) a0 a1=qeq (DD X n) n a0 a1:=(ql X Tryz.func145 (by kernel_rfl) (hX 145 rfl) n _).trans (qsc ..)
theorem qbgs {X:Ext} (hX:XOk X) (n:Nat) (a0:ByteArray):qpc (DD X (n+1)) a0=qvg (DD X n) n a0:=(ql X Tryz.func146 (by kernel_rfl) (hX 146 rfl) n _).trans (qbg4 ..)
theorem qbqa {X:Ext} (hX:XOk X) (n:Nat) (a0:tSch) (a1:ByteArray):q5k (DD X (n+1)) a0 a1=q52 (DD X n) n a0 a1:=(ql X Tryz.func147 (by kernel_rfl) (hX 147 rfl) n _).trans (qbo9 ..)
theorem qbiw {X:Ext} (hX:XOk X) (n:Nat) (a0:tSch) (a1:List Int) (a2:Int):qqv (DD X (n+1)) a0 a1 a2=qx5 (DD X n) n a0 a1 a2:=(ql X Tryz.func148 (by kernel_rfl) (hX 148 rfl) n _).trans (qbke ..)
theorem qbej {X:Ext} (hX:XOk X) (n:Nat) (a0:ByteArray×List Int×Bool×Unit) (a1:ByteArray×List Int×Bool×Unit):q36 (DD X (n+1)) a0 a1=quj (DD X n) n a0 a1:=(ql X Tryz.func149 (by kernel_rfl) (hX 149 rfl) n _).trans (qbeu ..)
theorem qy3 {X:Ext} (hX:XOk X) (n:Nat) (a0:List Int) (a1:Clo):qhj (DD X (n+1)) a0 a1=qhk (DD X n) n a0 a1:=(ql X Tryz.func150 (by kernel_rfl) (hX 150 rfl) n _).trans (qy2 ..)
theorem qbe2 {X:Ext} (hX:XOk X) (n:Nat) (a0:Int) (a1:tSch):q3p (DD X (n+1)) a0 a1=quh (DD X n) n a0 a1:=(ql X Tryz.func151 (by kernel_rfl) (hX 151 rfl) n _).trans (qbfk ..)
theorem qbe1 {X:Ext} (hX:XOk X) (n:Nat) (a0:qe):qtm (DD X (n+1)) a0=qt4 (DD X n) n a0:=(ql X Tryz.func152 (by kernel_rfl) (hX 152 rfl) n _).trans (qbed ..)
theorem qbmb {X:Ext} (hX:XOk X) (n:Nat) (a0:qd) (a1:(tSch)×qe×Unit) (a2:qd):q7d (DD X (n+1)) a0 a1 a2=qzv (DD X n) n a0 a1 a2:=(ql X Tryz.func153 (by kernel_rfl) (hX 153 rfl) n _).trans (qbld ..)
theorem qbmc {X:Ext} (hX:XOk X) (n:Nat) (a0:Int×Int×ByteArray×Unit):q0s (DD X (n+1)) a0=q07 (DD X n) n a0:=(ql X Tryz.func158 (by kernel_rfl) (hX 158 rfl) n _).trans (qblw ..)
theorem qbl0 {X:Ext} (hX:XOk X) (n:Nat) (a0:qd) (a1:qd):qs5 (DD X (n+1)) a0 a1=qz9 (DD X n) n a0 a1:=(ql X Tryz.func159 (by kernel_rfl) (hX 159 rfl) n _).trans (qbl5 ..)
theorem qbhl {X:Ext} (hX:XOk X) (n:Nat) (a0:Int×Int×ByteArray×Unit) (a1:Int×Int×ByteArray×Unit):qoj (DD X (n+1)) a0 a1=qv8 (DD X n) n a0 a1:=(ql X Tryz.func160 (by kernel_rfl) (hX 160 rfl) n _).trans (qbg6 ..)
theorem qbge {X:Ext} (hX:XOk X) (n:Nat) (a0:Int×Int×ByteArray×Unit) (a1:Int×Int×ByteArray×Unit):qvv (DD X (n+1)) a0 a1=qvf (DD X n) n a0 a1:=(ql X Tryz.func161 (by kernel_rfl) (hX 161 rfl) n _).trans (qbg7 ..)
theorem qvi {X:Ext} (hX:XOk X) (n:Nat) (a0:qj):qfw (DD X (n+1)) a0=qfq (DD X n) n a0:=(ql X Tryz.func164 (by kernel_rfl) (hX 164 rfl) n _).trans (qvu ..)
theorem qbk3 {X:Ext} (hX:XOk X) (n:Nat) (a0:qd):q0c (DD X (n+1)) a0=q05 (DD X n) n a0:=(ql X Tryz.func165 (by kernel_rfl) (hX 165 rfl) n _).trans (qbl8 ..)
theorem qbgl {X:Ext} (hX:XOk X) (n:Nat) (a0:ByteArray):qop (DD X (n+1)) a0=qwd (DD X n) n a0:=(ql X Tryz.func166 (by kernel_rfl) (hX 166 rfl) n _).trans (qbgm ..)
theorem qbpv {X:Ext} (hX:XOk X) (n:Nat) (a0:tSch) (a1:ByteArray):q57 (DD X (n+1)) a0 a1=q4t (DD X n) n a0 a1:=(ql X Tryz.func167 (by kernel_rfl) (hX 167 rfl) n _).trans (qbp3 ..)
theorem qbgz {X:Ext} (hX:XOk X) (n:Nat) (a0:tSch) (a1:List Int) (a2:Int):qoq (DD X (n+1)) a0 a1 a2=qwn (DD X n) n a0 a1 a2:=(ql X Tryz.func168 (by kernel_rfl) (hX 168 rfl) n _).trans (qbgp ..)
theorem qbe4 {X:Ext} (hX:XOk X) (n:Nat) (a0:tSch):qty (DD X (n+1)) a0=qup (DD X n) n a0:=(ql X Tryz.func169 (by kernel_rfl) (hX 169 rfl) n _).trans (qbfb ..)
theorem qbni {X:Ext} (hX:XOk X) (n:Nat) (a0:qj) (a1:Int):q2g (DD X (n+1)) a0 a1=q2o (DD X n) n a0 a1:=(ql X Tryz.func174 (by kernel_rfl) (hX 174 rfl) n _).trans (qbnj ..)
theorem qbnu {X:Ext} (hX:XOk X) (n:Nat) (a0:List Int) (a1:Int):qu3 (DD X (n+1)) a0 a1=q26 (DD X n) n a0 a1:=(ql X Tryz.func175 (by kernel_rfl) (hX 175 rfl) n _).trans (qbno ..)
theorem qbjx {X:Ext} (hX:XOk X) (n:Nat) (a0:tIxs) (a1:Int):qyl (DD X (n+1)) a0 a1=qyx (DD X n) n a0 a1:=(ql X Tryz.func176 (by kernel_rfl) (hX 176 rfl) n _).trans (qbkj ..)
theorem qbnv {X:Ext} (hX:XOk X) (n:Nat) (a0:qj):q2t (DD X (n+1)) a0=q29 (DD X n) n a0:=(ql X Tryz.func177 (by kernel_rfl) (hX 177 rfl) n _).trans (qbnl ..)
theorem qbnp {X:Ext} (hX:XOk X) (n:Nat) (a0:List Int):qu4 (DD X (n+1)) a0=q2w (DD X n) n a0:=(ql X Tryz.func178 (by kernel_rfl) (hX 178 rfl) n _).trans (qbng ..)
theorem qbjh {X:Ext} (hX:XOk X) (n:Nat) (a0:tIxs):qyi (DD X (n+1)) a0=qyf (DD X n) n a0:=(ql X Tryz.func179 (by kernel_rfl) (hX 179 rfl) n _).trans (qbji ..)
theorem qbnh {X:Ext} (hX:XOk X) (n:Nat) (a0:qj) (a1:qj):q2r (DD X (n+1)) a0 a1=q2q (DD X n) n a0 a1:=(ql X Tryz.func180 (by kernel_rfl) (hX 180 rfl) n _).trans (qbnk ..)
theorem qbns {X:Ext} (hX:XOk X) (n:Nat) (a0:List Int) (a1:List Int):qu7 (DD X (n+1)) a0 a1=q2k (DD X n) n a0 a1:=(ql X Tryz.func181 (by kernel_rfl) (hX 181 rfl) n _).trans (qbnz ..)
theorem qbku {X:Ext} (hX:XOk X) (n:Nat) (a0:tIxs) (a1:tIxs):qyj (DD X (n+1)) a0 a1=qxa (DD X n) n a0 a1:=(ql X Tryz.func182 (by kernel_rfl) (hX 182 rfl) n _).trans (qbi5 ..)
theorem qbj8 {X:Ext} (hX:XOk X) (n:Nat) (a0:qj) (a1:Int):qyt (DD X (n+1)) a0 a1=qyn (DD X n) n a0 a1:=(ql X Tryz.func183 (by kernel_rfl) (hX 183 rfl) n _).trans (qbh0 ..)
theorem qbjo {X:Ext} (hX:XOk X) (n:Nat) (a0:List Int) (a1:Int):qml (DD X (n+1)) a0 a1=qxt (DD X n) n a0 a1:=(ql X Tryz.func184 (by kernel_rfl) (hX 184 rfl) n _).trans (qbh1 ..)
theorem qbeb {X:Ext} (hX:XOk X) (n:Nat) (a0:tIxs) (a1:Int):qul (DD X (n+1)) a0 a1=qtu (DD X n) n a0 a1:=(ql X Tryz.func185 (by kernel_rfl) (hX 185 rfl) n _).trans (qbfd ..)
theorem qbit {X:Ext} (hX:XOk X) (n:Nat) (a0:qj) (a1:Int):qxs (DD X (n+1)) a0 a1=qxg (DD X n) n a0 a1:=(ql X Tryz.func186 (by kernel_rfl) (hX 186 rfl) n _).trans (qbhv ..)
theorem qbkm {X:Ext} (hX:XOk X) (n:Nat) (a0:List Int) (a1:Int):qm0 (DD X (n+1)) a0 a1=qxk (DD X n) n a0 a1:=(ql X Tryz.func187 (by kernel_rfl) (hX 187 rfl) n _).trans (qbht ..)
theorem qbd6 {X:Ext} (hX:XOk X) (n:Nat) (a0:tIxs) (a1:Int):que (DD X (n+1)) a0 a1=qt1 (DD X n) n a0 a1:=(ql X Tryz.func188 (by kernel_rfl) (hX 188 rfl) n _).trans (qbem ..)
theorem qbd9 {X:Ext} (hX:XOk X) (n:Nat) (a0:qd) (a1:Int):qtb (DD X (n+1)) a0 a1=qus (DD X n) n a0 a1:=(ql X Tryz.func189 (by kernel_rfl) (hX 189 rfl) n _).trans (qbfa ..)
theorem qo2 {X:Ext} (hX:XOk X) (n:Nat) (a0:tIxs) (a1:Clo):qdt (DD X (n+1)) a0 a1=qd0 (DD X n) n a0 a1:=(ql X Tryz.func193 (by kernel_rfl) (hX 193 rfl) n _).trans (qo9 ..)
theorem qrg {X:Ext} (hX:XOk X) (n:Nat) (a0:qd) (a1:Int×Int×ByteArray×Unit):qet (DD X (n+1)) a0 a1=qek (DD X n) n a0 a1:=(ql X Tryz.func194 (by kernel_rfl) (hX 194 rfl) n _).trans (qr1 ..)
theorem qsg {X:Ext} (hX:XOk X) (n:Nat) (a0:qj) (a1:Clo):qeo (DD X (n+1)) a0 a1=qen (DD X n) n a0 a1:=(ql X Tryz.func195 (by kernel_rfl) (hX 195 rfl) n _).trans (qsp ..)
theorem qblz {X:Ext} (hX:XOk X) (n:Nat) (a0:ByteArray×Int×Bool×Unit) (a1:ByteArray):q7p (DD X (n+1)) a0 a1=qzw (DD X n) n a0 a1:=(ql X Tryz.func196 (by kernel_rfl) (hX 196 rfl) n _).trans (qbl1 ..)
theorem q4h {X:Ext} (hX:XOk X) (n:Nat) (a0:List Int) (a1:Int):qjv (DD X (n+1)) a0 a1=qj8 (DD X n) n a0 a1:=(ql X Tryz.func197 (by kernel_rfl) (hX 197 rfl) n _).trans (q4b ..)
theorem q20 {X:Ext} (hX:XOk X) (n:Nat) (a0:List Int) (a1:Clo):qjp (DD X (n+1)) a0 a1=qjo (DD X n) n a0 a1:=(ql X Tryz.func198 (by kernel_rfl) (hX 198 rfl) n _).trans (q2d ..)
theorem qbp5 {X:Ext} (hX:XOk X) (n:Nat) (a0:ByteArray×Int×Bool×Unit) (a1:Int):qya (DD X (n+1)) a0 a1=q41 (DD X n) n a0 a1:=(ql X Tryz.func201 (by kernel_rfl) (hX 201 rfl) n _).trans (qbph ..)
theorem qbl3 {X:Ext} (hX:XOk X) (n:Nat) (a0:ByteArray×List Int×Bool×Unit) (a1:Int):qs2 (DD X (n+1)) a0 a1=q06 (DD X n) n a0 a1:=(ql X Tryz.func202 (by kernel_rfl) (hX 202 rfl) n _).trans (qbl2 ..)
theorem qbpn {X:Ext} (hX:XOk X) (n:Nat) (a0:ByteArray×Int×Bool×Unit):qxw (DD X (n+1)) a0=qbc3 (DD X n) n a0:=(ql X Tryz.func203 (by kernel_rfl) (hX 203 rfl) n _).trans (qbpi ..)
theorem qblu {X:Ext} (hX:XOk X) (n:Nat) (a0:ByteArray×List Int×Bool×Unit):qs7 (DD X (n+1)) a0=qzy (DD X n) n a0:=(ql X Tryz.func204 (by kernel_rfl) (hX 204 rfl) n _).trans (qbln ..)
theorem qbod {X:Ext} (hX:XOk X) (n:Nat) (a0:ByteArray×Int×Bool×Unit) (a1:ByteArray×Int×Bool×Unit):qyw (DD X (n+1)) a0 a1=q5e (DD X n) n a0 a1:=(ql X Tryz.func205 (by kernel_rfl) (hX 205 rfl) n _).trans (qbp7 ..)
theorem qbla {X:Ext} (hX:XOk X) (n:Nat) (a0:ByteArray×List Int×Bool×Unit) (a1:ByteArray×List Int×Bool×Unit):qs8 (DD X (n+1)) a0 a1=q0g (DD X n) n a0 a1:=(ql X Tryz.func206 (by kernel_rfl) (hX 206 rfl) n _).trans (qblb ..)
theorem q64 {X:Ext} (hX:XOk X) (n:Nat) (a0:List Int) (a1:Int):qna (DD X (n+1)) a0 a1=qnf (DD X n) n a0 a1:=(ql X Tryz.func210 (by kernel_rfl) (hX 210 rfl) n _).trans (q65 ..)
end Go.G


import Derived.Test.YtfafjngknkbngaaGreatAPFnRelations0
set_option linter.unusedVariables false
set_option linter.unusedSimpArgs false
set_option linter.unusedSectionVars false
namespace Go.G
set_option maxRecDepth 100000
set_option maxHeartbeats 0
open Go Go.V
noncomputable section
def qqe (D:DX)(n:Nat) (go:Int→List Int×Int×Int×Unit→tSch→qe→Option ((qe×Unit)×tCur×Unit)) (K0:List Int×Int×Int×Unit→qe→Option ((qe×Unit)×tCur×Unit)) (x0:Int) (x1:List Int×Int×Int×Unit) (x2:tSch) (x3:qe):Option ((qe×Unit)×tCur×Unit):=br (decide (x0<(↑(List.length (Prod.fst x2)):Int))) (br (decide (0≤x0)&&decide (x0<(↑(List.length (Prod.fst x2)):Int))) (br (Prod.fst (Prod.snd (Prod.snd (List.getD (Prod.fst x2) (Int.toNat x0) (ByteArray.empty,0,false,()))))) (qg (qjo D x1 3) fun b↦br (Prod.fst (Prod.fst b)) (br (decide (List.length x3+1≤qbj)) (go (IntKind.wrap IntKind.i64 (x0+1)) (Prod.fst (Prod.snd b)) x2 (x3++[(0,0,ByteArray.empty,())])) none) (br (decide (0≤x0)&&decide (x0<(↑(List.length (Prod.fst x2)):Int))) (qg (qn0 D (Prod.fst (Prod.snd b)) (Prod.fst (Prod.snd (List.getD (Prod.fst x2) (Int.toNat x0) (ByteArray.empty,0,false,()))))) fun b↦br (decide (List.length x3+1≤qbj)) (go (IntKind.wrap IntKind.i64 (x0+1)) (Prod.fst (Prod.snd b)) x2 (x3++[Prod.fst (Prod.fst b)])) none) none)) (br (decide (0≤x0)&&decide (x0<(↑(List.length (Prod.fst x2)):Int))) (qg (qn0 D x1 (Prod.fst (Prod.snd (List.getD (Prod.fst x2) (Int.toNat x0) (ByteArray.empty,0,false,()))))) fun b↦br (decide (List.length x3+1≤qbj)) (go (IntKind.wrap IntKind.i64 (x0+1)) (Prod.fst (Prod.snd b)) x2 (x3++[Prod.fst (Prod.fst b)])) none) none)) none) (K0 x1 x3)
def qew (D:DX)(n:Nat) (K0:List Int×Int×Int×Unit→qe→Option ((qe×Unit)×tCur×Unit)):Nat→(Int)→tCur→(tSch)→(qe)→Option ((qe×Unit)×tCur×Unit) | 0=>(fun x0 x1 x2 x3=>none) | m+1=>(fun x0 x1 x2 x3=>qqe D n (qew D n K0 m) K0 x0 x1 x2 x3)
def qnz (D:DX)(n:Nat) (v0_0:List Int×Int×Int×Unit) (v0_1:qe):Option ((qe×Unit)×tCur×Unit):=some ((v0_1,()),v0_0,())
def qpc (D:DX)(n:Nat):(Int)→tCur→(tSch)→(qe)→Option ((qe×Unit)×tCur×Unit):=(fun x0 x1 x2 x3=>qew D n (fun v0_0 v0_1=>qnz D n v0_0 v0_1) n x0 x1 x2 x3)
def qrr (D:DX)(n:Nat) (lp0:Int→List Int×Int×Int×Unit→tSch→qe→Option ((qe×Unit)×tCur×Unit)) (a0:List Int×Int×Int×Unit) (a1:tSch):Option ((qe×Unit)×tCur×Unit):=lp0 0 a0 a1 []
def qse (D:DX)(n:Nat) (a0:List Int×Int×Int×Unit) (a1:tSch):Option ((qe×Unit)×tCur×Unit):=qrr D n (qpc D n) a0 a1
def qgi (x0:Int) (x1:List Int×Int×Int×Unit) (x2:tSch) (x3:qe):St:=stq 41 [(0,AV.addr 0 []),(3,AV.addr 3 []),(5,AV.brw 5 [] 0),(6,avI x0)] [(0,Root.mk (Ty.pair (Ty.sl (Ty.int IntKind.u8)) (Ty.pair yI (Ty.pair yI Ty.unit))) Mk.no x1 true),(3,Root.mk yS Mk.no x2 true),(5,Root.mk (Ty.sl yV) (Mk.own 0 (Mk.pr Mk.no (Mk.pr Mk.no (Mk.pr Mk.no Mk.no)))) x3 false)] 
def qjz (v0_0:List Int×Int×Int×Unit) (v0_1:qe):St:=stq 41 [(0,AV.addr 0 []),(5,AV.brw 5 [] 0)] [(0,Root.mk (Ty.pair (Ty.sl (Ty.int IntKind.u8)) (Ty.pair yI (Ty.pair yI Ty.unit))) Mk.no v0_0 true),(5,Root.mk (Ty.sl yV) (Mk.own 0 (Mk.pr Mk.no (Mk.pr Mk.no (Mk.pr Mk.no Mk.no)))) v0_1 false)] 
theorem q8a (D:DX)(n:Nat) (m:Nat) (K:Ex→St→Option (Out ctx 136)) (x0:Int) (x1:List Int×Int×Int×Unit) (x2:tSch) (x3:qe) :
 LQ qc D n 136 [.r,.r,.l,.r,.l] (m+1) (qgi x0 x1 x2 x3) K=qqe D n (fun x0 x1 x2 x3=>LQ qc D n 136 [.r,.r,.l,.r,.l] m (qgi x0 x1 x2 x3) K) (fun v0_0 v0_1=>K (Ex.exit 0) (qjz v0_0 v0_1)) x0 x1 x2 x3:=by kernel_rfl
theorem qwa (D:DX)(n:Nat) (K:Ex→St→Option (Out ctx 136)):∀ (m:Nat) (x0:Int) (x1:List Int×Int×Int×Unit) (x2:tSch) (x3:qe),LQ qc D n 136 [.r,.r,.l,.r,.l] m (qgi x0 x1 x2 x3) K=qew D n (fun v0_0 v0_1=>K (Ex.exit 0) (qjz v0_0 v0_1)) m x0 x1 x2 x3
 | 0,x0,x1,x2,x3=>q8 ..
 | m+1,x0,x1,x2,x3=>by
  have ih:(fun x0 x1 x2 x3=>LQ qc D n 136 [.r,.r,.l,.r,.l] m (qgi x0 x1 x2 x3) K)=qew D n (fun v0_0 v0_1=>K (Ex.exit 0) (qjz v0_0 v0_1)) m:=by funext x0 x1 x2 x3;exact qwa D n K m x0 x1 x2 x3
  rw[q8a]
  rw[ih];rfl
theorem q55 (D:DX)(n:Nat) (v0_0:List Int×Int×Int×Unit) (v0_1:qe) :
 (CQ qc D n 136 [] [.r,.r,.l,.r,.l] (qi qc 136)) (Ex.exit 0) (qjz v0_0 v0_1)=qnz D n v0_0 v0_1:=by kernel_rfl
theorem q6o (D:DX)(n:Nat) (x0:Int) (x1:List Int×Int×Int×Unit) (x2:tSch) (x3:qe) :
 LQ qc D n 136 [.r,.r,.l,.r,.l] n (qgi x0 x1 x2 x3) (CQ qc D n 136 [] [.r,.r,.l,.r,.l] (qi qc 136))=qpc D n x0 x1 x2 x3:=by
 rw[qwa]
 simp only[q55]
 rfl
theorem qbby (D:DX)(n:Nat) (a0:List Int×Int×Int×Unit) (a1:tSch):rfC qc D n 136 (a0,(a1,()))=qse D n a0 a1:=by
 have h:rfC qc D n 136 (a0,(a1,()))=qrr D n (fun x0 x1 x2 x3=>LQ qc D n 136 [.r,.r,.l,.r,.l] n (qgi x0 x1 x2 x3) (CQ qc D n 136 [] [.r,.r,.l,.r,.l] (qi qc 136))) a0 a1:=by kernel_rfl
 rw[h]
 simp only[q6o]
 rfl


def qsz (D:DX)(n:Nat) (a0:List Int):Option ((List Int×Unit)×Unit):=br (decide (Int.toNat (↑(List.length a0):Int)=0)) (both (some (([],()),())) (br (decide (0+List.length a0≤qbj)) (some (([]++a0,()),())) none)) (br (decide (0+List.length a0≤qbj)) (some (([]++a0,()),())) none)
def ql8 (D:DX)(n:Nat) (a0:List Int):Option ((List Int×Unit)×Unit):=qsz D n a0
theorem q4b (D:DX)(n:Nat) (a0:List Int):rfC qc D n 138 (a0,())=ql8 D n a0:=by kernel_rfl

def q50 (D:DX)(n:Nat) (a0:Int×Int×ByteArray×Unit):Option ((Bool×Unit)×Unit):=br (decide (Prod.fst a0=0)) (some ((bif decide (Prod.fst (Prod.snd a0)=0) then List.beq (ByteArray.toList (Prod.fst (Prod.snd (Prod.snd a0)))) (ByteArray.toList (ByteArray.mk #[])) else false,()),())) (br (decide (Prod.fst a0=1)) (qg (qgr D (Prod.fst (Prod.snd a0)) 0 1) fun b↦some ((bif Prod.fst (Prod.fst b) then List.beq (ByteArray.toList (Prod.fst (Prod.snd (Prod.snd a0)))) (ByteArray.toList (ByteArray.mk #[])) else false,()),())) (br (decide (Prod.fst a0=2)) (qg (qgr D (Prod.fst (Prod.snd a0)) (-1000000000000) 1000000000000) fun b↦some ((bif Prod.fst (Prod.fst b) then List.beq (ByteArray.toList (Prod.fst (Prod.snd (Prod.snd a0)))) (ByteArray.toList (ByteArray.mk #[])) else false,()),())) (br (decide (Prod.fst a0=3)) (some ((bif decide (Prod.fst (Prod.snd a0)=0) then decide ((↑(ByteArray.size (Prod.fst (Prod.snd (Prod.snd a0)))):Int)≤20) else false,()),())) (some ((false,()),())))))
def qwo (D:DX)(n:Nat) (a0:Int×Int×ByteArray×Unit):Option ((Bool×Unit)×Unit):=q50 D n a0
theorem qbhq (D:DX)(n:Nat) (a0:Int×Int×ByteArray×Unit):rfC qc D n 139 (a0,())=qwo D n a0:=by kernel_rfl

def qby (D:DX)(n:Nat) (a2:Clo) (go:qe→qe→qe→Int→Int→Option ((Int×Unit)×Unit)) (K0:qe→qe→Int→Option ((Int×Unit)×Unit)) (K1:qe→qe→Option ((Int×Unit)×Unit)) (x0:qe) (x1:qe) (x2:qe) (x3:Int) (x4:Int):Option ((Int×Unit)×Unit):=br (decide (x4<x3)) (br (decide (0≤x4)&&decide (x4<(↑(List.length x2):Int))) (br (decide (x4≥(↑(List.length x1):Int))) (K0 x0 x1 1) (br (decide (0≤x4)&&decide (x4<(↑(List.length x1):Int))) (qg (qca ctx D a2 [CapV.val (Ty.pair (Ty.int IntKind.i64) (Ty.pair (Ty.int IntKind.i64) (Ty.pair Ty.str Ty.unit))) (List.getD x2 (Int.toNat x4) (0,0,ByteArray.empty,())),CapV.val (Ty.pair (Ty.int IntKind.i64) (Ty.pair (Ty.int IntKind.i64) (Ty.pair Ty.str Ty.unit))) (List.getD x1 (Int.toNat x4) (0,0,ByteArray.empty,()))] (Ty.int IntKind.i64)) fun b↦br (b != 0) (K0 x0 x1 b) (go x0 x1 x2 x3 (IntKind.wrap IntKind.i64 (x4+1)))) none)) none) (K1 x0 x1)
def qu (D:DX)(n:Nat) (a2:Clo) (K0:qe→qe→Int→Option ((Int×Unit)×Unit)) (K1:qe→qe→Option ((Int×Unit)×Unit)):Nat→(qe)→(qe)→(qe)→(Int)→(Int)→Option ((Int×Unit)×Unit) | 0=>(fun x0 x1 x2 x3 x4=>none) | m+1=>(fun x0 x1 x2 x3 x4=>qby D n a2 (qu D n a2 K0 K1 m) K0 K1 x0 x1 x2 x3 x4)
def qbu (D:DX)(n:Nat) (a2:Clo) (v0_0:qe) (v0_1:qe) (v0_2:Int):Option ((Int×Unit)×Unit):=some ((v0_2,()),())
def qbe (D:DX)(n:Nat) (a2:Clo) (v1_0:qe) (v1_1:qe):Option ((Int×Unit)×Unit):=br (decide ((↑(List.length v1_0):Int)<(↑(List.length v1_1):Int))) (some ((-1,()),())) (some ((0,()),()))
def qbv (D:DX)(n:Nat) (a2:Clo):(qe)→(qe)→(qe)→(Int)→(Int)→Option ((Int×Unit)×Unit):=(fun x0 x1 x2 x3 x4=>qu D n a2 (fun v0_0 v0_1 v0_2=>qbu D n a2 v0_0 v0_1 v0_2) (fun v1_0 v1_1=>qbe D n a2 v1_0 v1_1) n x0 x1 x2 x3 x4)
def qb7 (D:DX)(n:Nat) (a2:Clo) (lp0:qe→qe→qe→Int→Int→Option ((Int×Unit)×Unit)) (a0:qe) (a1:qe):Option ((Int×Unit)×Unit):=lp0 a0 a1 a0 (↑(List.length a0):Int) 0
def qb6 (D:DX)(n:Nat) (a0:qe) (a1:qe) (a2:Clo):Option ((Int×Unit)×Unit):=qb7 D n a2 (qbv D n a2) a0 a1
def qt (a2:Clo) (x0:qe) (x1:qe) (x2:qe) (x3:Int) (x4:Int):St:=stq 39 [(0,AV.val (Ty.sl yV) x0),(1,AV.val (Ty.sl yV) x1),(2,AV.cloV a2),(11,AV.val (Ty.sl yV) x2),(12,avI x3),(13,avI x4)] [] 
def qbc (a2:Clo) (v0_0:qe) (v0_1:qe) (v0_2:Int):St:=stq 39 [(0,AV.val (Ty.sl yV) v0_0),(1,AV.val (Ty.sl yV) v0_1),(6,avI v0_2)] [] 
def qbd (a2:Clo) (v1_0:qe) (v1_1:qe):St:=stq 39 [(0,AV.val (Ty.sl yV) v1_0),(1,AV.val (Ty.sl yV) v1_1)] [] 
theorem qfq (D:DX)(n:Nat) (a2:Clo) (m:Nat) (K:Ex→St→Option (Out ctx 140)) (x0:qe) (x1:qe) (x2:qe) (x3:Int) (x4:Int) :
 LQ qc D n 140 [.r,.l,.r,.l] (m+1) (qt a2 x0 x1 x2 x3 x4) K=qby D n a2 (fun x0 x1 x2 x3 x4=>LQ qc D n 140 [.r,.l,.r,.l] m (qt a2 x0 x1 x2 x3 x4) K) (fun v0_0 v0_1 v0_2=>K (Ex.ret) (qbc a2 v0_0 v0_1 v0_2)) (fun v1_0 v1_1=>K (Ex.exit 0) (qbd a2 v1_0 v1_1)) x0 x1 x2 x3 x4:=by kernel_rfl
theorem qcx (D:DX)(n:Nat) (a2:Clo) (K:Ex→St→Option (Out ctx 140)):∀ (m:Nat) (x0:qe) (x1:qe) (x2:qe) (x3:Int) (x4:Int),LQ qc D n 140 [.r,.l,.r,.l] m (qt a2 x0 x1 x2 x3 x4) K=qu D n a2 (fun v0_0 v0_1 v0_2=>K (Ex.ret) (qbc a2 v0_0 v0_1 v0_2)) (fun v1_0 v1_1=>K (Ex.exit 0) (qbd a2 v1_0 v1_1)) m x0 x1 x2 x3 x4
 | 0,x0,x1,x2,x3,x4=>q8 ..
 | m+1,x0,x1,x2,x3,x4=>by
  have ih:(fun x0 x1 x2 x3 x4=>LQ qc D n 140 [.r,.l,.r,.l] m (qt a2 x0 x1 x2 x3 x4) K)=qu D n a2 (fun v0_0 v0_1 v0_2=>K (Ex.ret) (qbc a2 v0_0 v0_1 v0_2)) (fun v1_0 v1_1=>K (Ex.exit 0) (qbd a2 v1_0 v1_1)) m:=by funext x0 x1 x2 x3 x4;exact qcx D n a2 K m x0 x1 x2 x3 x4
  rw[qfq]
  rw[ih];rfl
theorem qfm (D:DX)(n:Nat) (a2:Clo) (v0_0:qe) (v0_1:qe) (v0_2:Int) :
 (CQ qc D n 140 [] [.r,.l,.r,.l] (qi qc 140)) (Ex.ret) (qbc a2 v0_0 v0_1 v0_2)=qbu D n a2 v0_0 v0_1 v0_2:=by kernel_rfl
theorem qfk (D:DX)(n:Nat) (a2:Clo) (v1_0:qe) (v1_1:qe) :
 (CQ qc D n 140 [] [.r,.l,.r,.l] (qi qc 140)) (Ex.exit 0) (qbd a2 v1_0 v1_1)=qbe D n a2 v1_0 v1_1:=by kernel_rfl
theorem qfl (D:DX)(n:Nat) (a2:Clo) (x0:qe) (x1:qe) (x2:qe) (x3:Int) (x4:Int) :
 LQ qc D n 140 [.r,.l,.r,.l] n (qt a2 x0 x1 x2 x3 x4) (CQ qc D n 140 [] [.r,.l,.r,.l] (qi qc 140))=qbv D n a2 x0 x1 x2 x3 x4:=by
 rw[qcx]
 simp only[qfm,qfk]
 rfl
theorem qf2 (D:DX)(n:Nat) (a0:qe) (a1:qe) (a2:Clo):rfC qc D n 140 (a0,(a1,(a2,())))=qb6 D n a0 a1 a2:=by
 have h:rfC qc D n 140 (a0,(a1,(a2,())))=qb7 D n a2 (fun x0 x1 x2 x3 x4=>LQ qc D n 140 [.r,.l,.r,.l] n (qt a2 x0 x1 x2 x3 x4) (CQ qc D n 140 [] [.r,.l,.r,.l] (qi qc 140))) a0 a1:=by kernel_rfl
 rw[h]
 simp only[qfl]
 rfl

def q4v (D:DX)(n:Nat) (a0:Int×Int×ByteArray×Unit) (a1:Int×Int×ByteArray×Unit):Option ((Int×Unit)×Unit):=br (bif decide (Prod.fst a0<Prod.fst a1) then true else bif decide (Prod.fst a0=Prod.fst a1) then decide (Prod.fst (Prod.snd a0)<Prod.fst (Prod.snd a1)) else false) (some ((-1,()),())) (br (bif decide (Prod.fst a0>Prod.fst a1) then true else decide (Prod.fst (Prod.snd a0)>Prod.fst (Prod.snd a1))) (some ((1,()),())) (qg (q0m D (Prod.fst (Prod.snd (Prod.snd a0))) (Prod.fst (Prod.snd (Prod.snd a1)))) fun b↦some ((Prod.fst (Prod.fst b),()),())))
def qya (D:DX)(n:Nat) (a0:Int×Int×ByteArray×Unit) (a1:Int×Int×ByteArray×Unit):Option ((Int×Unit)×Unit):=q4v D n a0 a1
theorem qbhj (D:DX)(n:Nat) (a0:Int×Int×ByteArray×Unit) (a1:Int×Int×ByteArray×Unit):rfC qc D n 141 (a0,(a1,()))=qya D n a0 a1:=by kernel_rfl

def qfz (D:DX)(n:Nat) (a1:Clo) (a0:tIxs):Option ((Bool×Unit)×Unit):=qg (qd0 D a0 a1) fun b↦some ((decide (Prod.fst (Prod.fst b)≥0),()),())
def qdh (D:DX)(n:Nat) (a0:tIxs) (a1:Clo):Option ((Bool×Unit)×Unit):=qfz D n a1 a0
theorem qmr (D:DX)(n:Nat) (a0:tIxs) (a1:Clo):rfC qc D n 142 (a0,(a1,()))=qdh D n a0 a1:=by kernel_rfl

def q4y (D:DX)(n:Nat) (a0:ByteArray×List Int×Bool×Unit) (a1:qe) (a2:qe):Option ((Bool×Unit)×Unit):=qg (qni D a1 (Prod.fst (Prod.snd a0))) fun b↦br (Prod.fst (Prod.snd (Prod.snd a0))) (qg (qd6 D (Prod.fst (Prod.fst b)) (0,0,ByteArray.empty,())) fun b_1↦br (!Prod.fst (Prod.fst b_1)) (qg (qni D a2 (Prod.fst (Prod.snd a0))) fun b_2↦qg (qde D (Prod.fst (Prod.fst b)) (Prod.fst (Prod.fst b_2))) fun b↦some ((Prod.fst (Prod.fst b),()),())) (some ((false,()),()))) (some ((false,()),()))
def qws (D:DX)(n:Nat) (a0:ByteArray×List Int×Bool×Unit) (a1:qe) (a2:qe):Option ((Bool×Unit)×Unit):=q4y D n a0 a1 a2
theorem qbhs (D:DX)(n:Nat) (a0:ByteArray×List Int×Bool×Unit) (a1:qe) (a2:qe):rfC qc D n 143 (a0,(a1,(a2,())))=qws D n a0 a1 a2:=by kernel_rfl

def qhh (D:DX)(n:Nat) (a0:qe) (a1:Int×Int×ByteArray×Unit):Option ((Bool×Unit)×Unit):=qg (qe2 D a0 a1) fun b↦some ((decide (Prod.fst (Prod.fst b)≥0),()),())
def qd8 (D:DX)(n:Nat) (a0:qe) (a1:Int×Int×ByteArray×Unit):Option ((Bool×Unit)×Unit):=qhh D n a0 a1
theorem qop (D:DX)(n:Nat) (a0:qe) (a1:Int×Int×ByteArray×Unit):rfC qc D n 144 (a0,(a1,()))=qd8 D n a0 a1:=by kernel_rfl

def qen (D:DX)(n:Nat) (go:qe→qe→Int→Int→Option ((Bool×Unit)×Unit)) (K0:Bool→Option ((Bool×Unit)×Unit)) (K1:Option ((Bool×Unit)×Unit)) (x0:qe) (x1:qe) (x2:Int) (x3:Int):Option ((Bool×Unit)×Unit):=br (decide (x3<x2)) (br (decide (0≤x3)&&decide (x3<(↑(List.length x0):Int))) (br (decide (0≤x3)&&decide (x3<(↑(List.length x1):Int))) (br (!qkw (Ty.pair (Ty.int IntKind.i64) (Ty.pair (Ty.int IntKind.i64) (Ty.pair Ty.str Ty.unit))) (List.getD x0 (Int.toNat x3) (0,0,ByteArray.empty,())) (List.getD x1 (Int.toNat x3) (0,0,ByteArray.empty,()))) (K0 false) (go x0 x1 x2 (IntKind.wrap IntKind.i64 (x3+1)))) none) none) K1
def qb3 (D:DX)(n:Nat) (K0:Bool→Option ((Bool×Unit)×Unit)) (K1:Option ((Bool×Unit)×Unit)):Nat→(qe)→(qe)→(Int)→(Int)→Option ((Bool×Unit)×Unit) | 0=>(fun x0 x1 x2 x3=>none) | m+1=>(fun x0 x1 x2 x3=>qen D n (qb3 D n K0 K1 m) K0 K1 x0 x1 x2 x3)
def qhe (D:DX)(n:Nat) (v0_0:Bool):Option ((Bool×Unit)×Unit):=some ((v0_0,()),())
def qhd (D:DX)(n:Nat):Option ((Bool×Unit)×Unit):=some ((true,()),())
def qei (D:DX)(n:Nat):(qe)→(qe)→(Int)→(Int)→Option ((Bool×Unit)×Unit):=(fun x0 x1 x2 x3=>qb3 D n (fun v0_0=>qhe D n v0_0) (qhd D n) n x0 x1 x2 x3)
def qex (D:DX)(n:Nat) (lp0:qe→qe→Int→Int→Option ((Bool×Unit)×Unit)) (a0:qe) (a1:qe):Option ((Bool×Unit)×Unit):=br ((↑(List.length a0):Int) != (↑(List.length a1):Int)) (some ((false,()),())) (lp0 a0 a1 (↑(List.length a0):Int) 0)
def qey (D:DX)(n:Nat) (a0:qe) (a1:qe):Option ((Bool×Unit)×Unit):=qex D n (qei D n) a0 a1
def qb2 (x0:qe) (x1:qe) (x2:Int) (x3:Int):St:=stq 26 [(0,AV.val (Ty.sl yV) x0),(1,AV.val (Ty.sl yV) x1),(12,avI x2),(13,avI x3)] [] 
def qc3 (v0_0:Bool):St:=stq 26 [(4,AV.val Ty.bool v0_0)] [] 
def qcz:St:=stq 26 [] [] 
theorem qpg (D:DX)(n:Nat) (m:Nat) (K:Ex→St→Option (Out ctx 145)) (x0:qe) (x1:qe) (x2:Int) (x3:Int) :
 LQ qc D n 145 [.r,.r,.l,.r,.l] (m+1) (qb2 x0 x1 x2 x3) K=qen D n (fun x0 x1 x2 x3=>LQ qc D n 145 [.r,.r,.l,.r,.l] m (qb2 x0 x1 x2 x3) K) (fun v0_0=>K (Ex.ret) (qc3 v0_0)) (K (Ex.exit 0) (qcz)) x0 x1 x2 x3:=by kernel_rfl
theorem qhp (D:DX)(n:Nat) (K:Ex→St→Option (Out ctx 145)):∀ (m:Nat) (x0:qe) (x1:qe) (x2:Int) (x3:Int),LQ qc D n 145 [.r,.r,.l,.r,.l] m (qb2 x0 x1 x2 x3) K=qb3 D n (fun v0_0=>K (Ex.ret) (qc3 v0_0)) (K (Ex.exit 0) (qcz)) m x0 x1 x2 x3
 | 0,x0,x1,x2,x3=>q8 ..
 | m+1,x0,x1,x2,x3=>by
  have ih:(fun x0 x1 x2 x3=>LQ qc D n 145 [.r,.r,.l,.r,.l] m (qb2 x0 x1 x2 x3) K)=qb3 D n (fun v0_0=>K (Ex.ret) (qc3 v0_0)) (K (Ex.exit 0) (qcz)) m:=by funext x0 x1 x2 x3;exact qhp D n K m x0 x1 x2 x3
  rw[qpg]
  rw[ih];rfl
theorem qor (D:DX)(n:Nat) (v0_0:Bool) :
 (CQ qc D n 145 [] [.r,.r,.l,.r,.l] (qi qc 145)) (Ex.ret) (qc3 v0_0)=qhe D n v0_0:=by kernel_rfl
theorem qom (D:DX)(n:Nat) :
 (CQ qc D n 145 [] [.r,.r,.l,.r,.l] (qi qc 145)) (Ex.exit 0) (qcz)=qhd D n:=by kernel_rfl
theorem qol (D:DX)(n:Nat) (x0:qe) (x1:qe) (x2:Int) (x3:Int) :
 LQ qc D n 145 [.r,.r,.l,.r,.l] n (qb2 x0 x1 x2 x3) (CQ qc D n 145 [] [.r,.r,.l,.r,.l] (qi qc 145))=qei D n x0 x1 x2 x3:=by
 rw[qhp]
 simp only[qor,qom]
 rfl
theorem qp9 (D:DX)(n:Nat) (a0:qe) (a1:qe):rfC qc D n 145 (a0,(a1,()))=qey D n a0 a1:=by
 have h:rfC qc D n 145 (a0,(a1,()))=qex D n (fun x0 x1 x2 x3=>LQ qc D n 145 [.r,.r,.l,.r,.l] n (qb2 x0 x1 x2 x3) (CQ qc D n 145 [] [.r,.r,.l,.r,.l] (qi qc 145))) a0 a1:=by kernel_rfl
 rw[h]
 simp only[qol]
 rfl

def qsb (D:DX)(n:Nat) (go:ByteArray→Int→Int→Option ((Bool×Unit)×Unit)) (K0:ByteArray→Bool→Option ((Bool×Unit)×Unit)) (K1:ByteArray→Option ((Bool×Unit)×Unit)) (x0:ByteArray) (x1:Int) (x2:Int):Option ((Bool×Unit)×Unit):=br (decide (x2<x1)) (br (decide (0≤x2)&&decide (x2<(↑(ByteArray.size x0):Int))) (br (decide ((↑(UInt8.toNat (Array.getD (ByteArray.data x0) (Int.toNat x2) (UInt8.ofNat 0))):Int)<97)) (K0 x0 false) (br (decide (0≤x2)&&decide (x2<(↑(ByteArray.size x0):Int))) (br (decide ((↑(UInt8.toNat (Array.getD (ByteArray.data x0) (Int.toNat x2) (UInt8.ofNat 0))):Int)>122)) (K0 x0 false) (go x0 x1 (IntKind.wrap IntKind.i64 (x2+1)))) none)) none) (K1 x0)
def qg9 (D:DX)(n:Nat) (K0:ByteArray→Bool→Option ((Bool×Unit)×Unit)) (K1:ByteArray→Option ((Bool×Unit)×Unit)):Nat→(ByteArray)→(Int)→(Int)→Option ((Bool×Unit)×Unit) | 0=>(fun x0 x1 x2=>none) | m+1=>(fun x0 x1 x2=>qsb D n (qg9 D n K0 K1 m) K0 K1 x0 x1 x2)
def qwd (D:DX)(n:Nat) (v0_0:ByteArray) (v0_1:Bool):Option ((Bool×Unit)×Unit):=some ((v0_1,()),())
def qo2 (D:DX)(n:Nat) (v1_0:ByteArray):Option ((Bool×Unit)×Unit):=qg (qgr D (↑(ByteArray.size v1_0):Int) 1 12) fun b↦some ((Prod.fst (Prod.fst b),()),())
def qqq (D:DX)(n:Nat):(ByteArray)→(Int)→(Int)→Option ((Bool×Unit)×Unit):=(fun x0 x1 x2=>qg9 D n (fun v0_0 v0_1=>qwd D n v0_0 v0_1) (fun v1_0=>qo2 D n v1_0) n x0 x1 x2)
def qti (D:DX)(n:Nat) (lp0:ByteArray→Int→Int→Option ((Bool×Unit)×Unit)) (a0:ByteArray):Option ((Bool×Unit)×Unit):=lp0 a0 (↑(ByteArray.size a0):Int) 0
def qth (D:DX)(n:Nat) (a0:ByteArray):Option ((Bool×Unit)×Unit):=qti D n (qqq D n) a0
def qg6 (x0:ByteArray) (x1:Int) (x2:Int):St:=stq 23 [(0,AV.val Ty.str x0),(5,avI x1),(6,avI x2)] [] 
def qkv (v0_0:ByteArray) (v0_1:Bool):St:=stq 23 [(0,AV.val Ty.str v0_0),(2,AV.val Ty.bool v0_1)] [] 
def qkm (v1_0:ByteArray):St:=stq 23 [(0,AV.val Ty.str v1_0)] [] 
theorem q8y (D:DX)(n:Nat) (m:Nat) (K:Ex→St→Option (Out ctx 146)) (x0:ByteArray) (x1:Int) (x2:Int) :
 LQ qc D n 146 [.r,.l,.r,.l] (m+1) (qg6 x0 x1 x2) K=qsb D n (fun x0 x1 x2=>LQ qc D n 146 [.r,.l,.r,.l] m (qg6 x0 x1 x2) K) (fun v0_0 v0_1=>K (Ex.ret) (qkv v0_0 v0_1)) (fun v1_0=>K (Ex.exit 0) (qkm v1_0)) x0 x1 x2:=by kernel_rfl
theorem qzd (D:DX)(n:Nat) (K:Ex→St→Option (Out ctx 146)):∀ (m:Nat) (x0:ByteArray) (x1:Int) (x2:Int),LQ qc D n 146 [.r,.l,.r,.l] m (qg6 x0 x1 x2) K=qg9 D n (fun v0_0 v0_1=>K (Ex.ret) (qkv v0_0 v0_1)) (fun v1_0=>K (Ex.exit 0) (qkm v1_0)) m x0 x1 x2
 | 0,x0,x1,x2=>q8 ..
 | m+1,x0,x1,x2=>by
  have ih:(fun x0 x1 x2=>LQ qc D n 146 [.r,.l,.r,.l] m (qg6 x0 x1 x2) K)=qg9 D n (fun v0_0 v0_1=>K (Ex.ret) (qkv v0_0 v0_1)) (fun v1_0=>K (Ex.exit 0) (qkm v1_0)) m:=by funext x0 x1 x2;exact qzd D n K m x0 x1 x2
  rw[q8y]
  rw[ih];rfl
theorem q75 (D:DX)(n:Nat) (v0_0:ByteArray) (v0_1:Bool) :
 (CQ qc D n 146 [] [.r,.l,.r,.l] (qi qc 146)) (Ex.ret) (qkv v0_0 v0_1)=qwd D n v0_0 v0_1:=by kernel_rfl
theorem q7l (D:DX)(n:Nat) (v1_0:ByteArray) :
 (CQ qc D n 146 [] [.r,.l,.r,.l] (qi qc 146)) (Ex.exit 0) (qkm v1_0)=qo2 D n v1_0:=by kernel_rfl
theorem q76 (D:DX)(n:Nat) (x0:ByteArray) (x1:Int) (x2:Int) :
 LQ qc D n 146 [.r,.l,.r,.l] n (qg6 x0 x1 x2) (CQ qc D n 146 [] [.r,.l,.r,.l] (qi qc 146))=qqq D n x0 x1 x2:=by
 rw[qzd]
 simp only[q75,q7l]
 rfl
theorem qbde (D:DX)(n:Nat) (a0:ByteArray):rfC qc D n 146 (a0,())=qth D n a0:=by
 have h:rfC qc D n 146 (a0,())=qti D n (fun x0 x1 x2=>LQ qc D n 146 [.r,.l,.r,.l] n (qg6 x0 x1 x2) (CQ qc D n 146 [] [.r,.l,.r,.l] (qi qc 146))) a0:=by kernel_rfl
 rw[h]
 simp only[q76]
 rfl

def q9u (D:DX)(n:Nat) (a0:tSch) (a1:ByteArray):Option ((Int×Unit)×Unit):=qg (qez D (Prod.fst a0) (Clo.mk 196 [CapV.rptr Ty.str a1])) fun b↦some ((Prod.fst (Prod.fst b),()),())
def q1r (D:DX)(n:Nat) (a0:tSch) (a1:ByteArray):Option ((Int×Unit)×Unit):=q9u D n a0 a1
theorem qblt (D:DX)(n:Nat) (a0:tSch) (a1:ByteArray):rfC qc D n 147 (a0,(a1,()))=q1r D n a0 a1:=by kernel_rfl

def qtm (D:DX)(n:Nat) (go:List Int→Int→List Int→Int→Int→tSch→Option ((Bool×Unit)×Unit)) (K0:List Int→Int→Bool→Option ((Bool×Unit)×Unit)) (K1:List Int→Int→Option ((Bool×Unit)×Unit)) (x0:List Int) (x1:Int) (x2:List Int) (x3:Int) (x4:Int) (x5:tSch):Option ((Bool×Unit)×Unit):=br (decide (x4<x3)) (br (decide (0≤x4)&&decide (x4<(↑(List.length x2):Int))) (qg (qgr D (List.getD x2 (Int.toNat x4) 0) 0 (IntKind.wrap IntKind.i64 ((↑(List.length (Prod.fst x5)):Int) - 1))) fun b↦br (!Prod.fst (Prod.fst b)) (K0 x0 x1 false) (br (decide (0≤0)&&decide (0≤x4)&&decide (x4≤(↑(List.length x0):Int))) (qg (qj1 D (List.drop (Int.toNat 0) (List.take (Int.toNat x4) x0)) (List.getD x2 (Int.toNat x4) 0)) fun b↦br (Prod.fst (Prod.fst b)) (K0 x0 x1 false) (go x0 x1 x2 x3 (IntKind.wrap IntKind.i64 (x4+1)) x5)) none)) none) (K1 x0 x1)
def qid (D:DX)(n:Nat) (K0:List Int→Int→Bool→Option ((Bool×Unit)×Unit)) (K1:List Int→Int→Option ((Bool×Unit)×Unit)):Nat→(List Int)→(Int)→(List Int)→(Int)→(Int)→(tSch)→Option ((Bool×Unit)×Unit) | 0=>(fun x0 x1 x2 x3 x4 x5=>none) | m+1=>(fun x0 x1 x2 x3 x4 x5=>qtm D n (qid D n K0 K1 m) K0 K1 x0 x1 x2 x3 x4 x5)
def qyz (D:DX)(n:Nat) (v0_0:List Int) (v0_1:Int) (v0_2:Bool):Option ((Bool×Unit)×Unit):=some ((v0_2,()),())
def qrc (D:DX)(n:Nat) (v1_0:List Int) (v1_1:Int):Option ((Bool×Unit)×Unit):=qg (qgr D (↑(List.length v1_0):Int) 1 v1_1) fun b↦some ((Prod.fst (Prod.fst b),()),())
def qsf (D:DX)(n:Nat):(List Int)→(Int)→(List Int)→(Int)→(Int)→(tSch)→Option ((Bool×Unit)×Unit):=(fun x0 x1 x2 x3 x4 x5=>qid D n (fun v0_0 v0_1 v0_2=>qyz D n v0_0 v0_1 v0_2) (fun v1_0 v1_1=>qrc D n v1_0 v1_1) n x0 x1 x2 x3 x4 x5)
def qvk (D:DX)(n:Nat) (lp0:List Int→Int→List Int→Int→Int→tSch→Option ((Bool×Unit)×Unit)) (a0:tSch) (a1:List Int) (a2:Int):Option ((Bool×Unit)×Unit):=lp0 a1 a2 a1 (↑(List.length a1):Int) 0 a0
def qur (D:DX)(n:Nat) (a0:tSch) (a1:List Int) (a2:Int):Option ((Bool×Unit)×Unit):=qvk D n (qsf D n) a0 a1 a2
def qhw (x0:List Int) (x1:Int) (x2:List Int) (x3:Int) (x4:Int) (x5:tSch):St:=stq 35 [(1,AV.val (Ty.sl yI) x0),(2,avI x1),(3,AV.addr 3 []),(9,AV.val (Ty.sl yI) x2),(10,avI x3),(11,avI x4)] [(3,Root.mk yS Mk.no x5 true)] 
def ql2 (v0_0:List Int) (v0_1:Int) (v0_2:Bool):St:=stq 35 [(1,AV.val (Ty.sl yI) v0_0),(2,avI v0_1),(6,AV.val Ty.bool v0_2)] [] 
def ql6 (v1_0:List Int) (v1_1:Int):St:=stq 35 [(1,AV.val (Ty.sl yI) v1_0),(2,avI v1_1)] [] 
theorem qba4 (D:DX)(n:Nat) (m:Nat) (K:Ex→St→Option (Out ctx 148)) (x0:List Int) (x1:Int) (x2:List Int) (x3:Int) (x4:Int) (x5:tSch) :
 LQ qc D n 148 [.r,.l,.r,.l] (m+1) (qhw x0 x1 x2 x3 x4 x5) K=qtm D n (fun x0 x1 x2 x3 x4 x5=>LQ qc D n 148 [.r,.l,.r,.l] m (qhw x0 x1 x2 x3 x4 x5) K) (fun v0_0 v0_1 v0_2=>K (Ex.ret) (ql2 v0_0 v0_1 v0_2)) (fun v1_0 v1_1=>K (Ex.exit 0) (ql6 v1_0 v1_1)) x0 x1 x2 x3 x4 x5:=by kernel_rfl
theorem q02 (D:DX)(n:Nat) (K:Ex→St→Option (Out ctx 148)):∀ (m:Nat) (x0:List Int) (x1:Int) (x2:List Int) (x3:Int) (x4:Int) (x5:tSch),LQ qc D n 148 [.r,.l,.r,.l] m (qhw x0 x1 x2 x3 x4 x5) K=qid D n (fun v0_0 v0_1 v0_2=>K (Ex.ret) (ql2 v0_0 v0_1 v0_2)) (fun v1_0 v1_1=>K (Ex.exit 0) (ql6 v1_0 v1_1)) m x0 x1 x2 x3 x4 x5
 | 0,x0,x1,x2,x3,x4,x5=>q8 ..
 | m+1,x0,x1,x2,x3,x4,x5=>by
  have ih:(fun x0 x1 x2 x3 x4 x5=>LQ qc D n 148 [.r,.l,.r,.l] m (qhw x0 x1 x2 x3 x4 x5) K)=qid D n (fun v0_0 v0_1 v0_2=>K (Ex.ret) (ql2 v0_0 v0_1 v0_2)) (fun v1_0 v1_1=>K (Ex.exit 0) (ql6 v1_0 v1_1)) m:=by funext x0 x1 x2 x3 x4 x5;exact q02 D n K m x0 x1 x2 x3 x4 x5
  rw[qba4]
  rw[ih];rfl
theorem q9m (D:DX)(n:Nat) (v0_0:List Int) (v0_1:Int) (v0_2:Bool) :
 (CQ qc D n 148 [] [.r,.l,.r,.l] (qi qc 148)) (Ex.ret) (ql2 v0_0 v0_1 v0_2)=qyz D n v0_0 v0_1 v0_2:=by kernel_rfl
theorem q8f (D:DX)(n:Nat) (v1_0:List Int) (v1_1:Int) :
 (CQ qc D n 148 [] [.r,.l,.r,.l] (qi qc 148)) (Ex.exit 0) (ql6 v1_0 v1_1)=qrc D n v1_0 v1_1:=by kernel_rfl
theorem q8q (D:DX)(n:Nat) (x0:List Int) (x1:Int) (x2:List Int) (x3:Int) (x4:Int) (x5:tSch) :
 LQ qc D n 148 [.r,.l,.r,.l] n (qhw x0 x1 x2 x3 x4 x5) (CQ qc D n 148 [] [.r,.l,.r,.l] (qi qc 148))=qsf D n x0 x1 x2 x3 x4 x5:=by
 rw[q02]
 simp only[q9m,q8f]
 rfl
theorem qbed (D:DX)(n:Nat) (a0:tSch) (a1:List Int) (a2:Int):rfC qc D n 148 (a0,(a1,(a2,())))=qur D n a0 a1 a2:=by
 have h:rfC qc D n 148 (a0,(a1,(a2,())))=qvk D n (fun x0 x1 x2 x3 x4 x5=>LQ qc D n 148 [.r,.l,.r,.l] n (qhw x0 x1 x2 x3 x4 x5) (CQ qc D n 148 [] [.r,.l,.r,.l] (qi qc 148))) a0 a1 a2:=by kernel_rfl
 rw[h]
 simp only[q8q]
 rfl

def q00 (D:DX)(n:Nat) (a0:ByteArray×List Int×Bool×Unit) (a1:ByteArray×List Int×Bool×Unit):Option ((Bool×Unit)×Unit):=some ((List.beq (ByteArray.toList (Prod.fst a0)) (ByteArray.toList (Prod.fst a1)),()),())
def qsj (D:DX)(n:Nat) (a0:ByteArray×List Int×Bool×Unit) (a1:ByteArray×List Int×Bool×Unit):Option ((Bool×Unit)×Unit):=q00 D n a0 a1
theorem qbbu (D:DX)(n:Nat) (a0:ByteArray×List Int×Bool×Unit) (a1:ByteArray×List Int×Bool×Unit):rfC qc D n 149 (a0,(a1,()))=qsj D n a0 a1:=by kernel_rfl

def qmf (D:DX)(n:Nat) (a1:Clo) (a0:List Int):Option ((Bool×Unit)×Unit):=qg (qjm D a0 a1) fun b↦some ((decide (Prod.fst (Prod.fst b)≥0),()),())
def qhj (D:DX)(n:Nat) (a0:List Int) (a1:Clo):Option ((Bool×Unit)×Unit):=qmf D n a1 a0
theorem qv7 (D:DX)(n:Nat) (a0:List Int) (a1:Clo):rfC qc D n 150 (a0,(a1,()))=qhj D n a0 a1:=by kernel_rfl

def q0w (D:DX)(n:Nat) (a0:Int) (a1:tSch):Option ((Bool×Unit)×Unit):=br (decide (0≤a0)&&decide (a0<(↑(List.length (Prod.fst a1)):Int))) (some ((Prod.fst (Prod.snd (Prod.snd (List.getD (Prod.fst a1) (Int.toNat a0) (ByteArray.empty,0,false,())))),()),())) none
def qsc (D:DX)(n:Nat) (a0:Int) (a1:tSch):Option ((Bool×Unit)×Unit):=q0w D n a0 a1
theorem qbaq (D:DX)(n:Nat) (a0:Int) (a1:tSch):rfC qc D n 151 (a0,(a1,()))=qsc D n a0 a1:=by kernel_rfl

def qqh (D:DX)(n:Nat) (go:qd→Int→Int→qd→Option ((qd×Unit)×Unit)) (K0:qd→Option ((qd×Unit)×Unit)) (x0:qd) (x1:Int) (x2:Int) (x3:qd):Option ((qd×Unit)×Unit):=br (decide (x2<x1)) (br (decide (0≤x2)&&decide (x2<(↑(List.length x0):Int))) (qg (qbn D (List.getD x0 (Int.toNat x2) [])) fun b↦br (decide (List.length x3+1≤qbj)) (go x0 x1 (IntKind.wrap IntKind.i64 (x2+1)) (x3++[Prod.fst (Prod.fst b)])) none) none) (K0 x3)
def qgk (D:DX)(n:Nat) (K0:qd→Option ((qd×Unit)×Unit)):Nat→(qd)→(Int)→(Int)→(qd)→Option ((qd×Unit)×Unit) | 0=>(fun x0 x1 x2 x3=>none) | m+1=>(fun x0 x1 x2 x3=>qqh D n (qgk D n K0 m) K0 x0 x1 x2 x3)
def qvs (D:DX)(n:Nat) (v0_0:qd):Option ((qd×Unit)×Unit):=some ((v0_0,()),())
def qo3 (D:DX)(n:Nat):(qd)→(Int)→(Int)→(qd)→Option ((qd×Unit)×Unit):=(fun x0 x1 x2 x3=>qgk D n (fun v0_0=>qvs D n v0_0) n x0 x1 x2 x3)
def qsn (D:DX)(n:Nat) (lp0:qd→Int→Int→qd→Option ((qd×Unit)×Unit)) (a0:qd):Option ((qd×Unit)×Unit):=lp0 a0 (↑(List.length a0):Int) 0 []
def qsd (D:DX)(n:Nat) (a0:qd):Option ((qd×Unit)×Unit):=qsn D n (qo3 D n) a0
def qgc (x0:qd) (x1:Int) (x2:Int) (x3:qd):St:=stq 20 [(3,AV.brw 3 [] 0),(7,AV.val (Ty.sl (Ty.sl yV)) x0),(8,avI x1),(9,avI x2)] [(3,Root.mk (Ty.sl (Ty.sl yV)) (Mk.own 0 (Mk.own 0 (Mk.pr Mk.no (Mk.pr Mk.no (Mk.pr Mk.no Mk.no))))) x3 false)] 
def qjv (v0_0:qd):St:=stq 20 [(3,AV.brw 3 [] 0)] [(3,Root.mk (Ty.sl (Ty.sl yV)) (Mk.own 0 (Mk.own 0 (Mk.pr Mk.no (Mk.pr Mk.no (Mk.pr Mk.no Mk.no))))) v0_0 false)] 
theorem q74 (D:DX)(n:Nat) (m:Nat) (K:Ex→St→Option (Out ctx 152)) (x0:qd) (x1:Int) (x2:Int) (x3:qd) :
 LQ qc D n 152 [.r,.r,.l,.r,.l] (m+1) (qgc x0 x1 x2 x3) K=qqh D n (fun x0 x1 x2 x3=>LQ qc D n 152 [.r,.r,.l,.r,.l] m (qgc x0 x1 x2 x3) K) (fun v0_0=>K (Ex.exit 0) (qjv v0_0)) x0 x1 x2 x3:=by kernel_rfl
theorem qwf (D:DX)(n:Nat) (K:Ex→St→Option (Out ctx 152)):∀ (m:Nat) (x0:qd) (x1:Int) (x2:Int) (x3:qd),LQ qc D n 152 [.r,.r,.l,.r,.l] m (qgc x0 x1 x2 x3) K=qgk D n (fun v0_0=>K (Ex.exit 0) (qjv v0_0)) m x0 x1 x2 x3
 | 0,x0,x1,x2,x3=>q8 ..
 | m+1,x0,x1,x2,x3=>by
  have ih:(fun x0 x1 x2 x3=>LQ qc D n 152 [.r,.r,.l,.r,.l] m (qgc x0 x1 x2 x3) K)=qgk D n (fun v0_0=>K (Ex.exit 0) (qjv v0_0)) m:=by funext x0 x1 x2 x3;exact qwf D n K m x0 x1 x2 x3
  rw[q74]
  rw[ih];rfl
theorem q60 (D:DX)(n:Nat) (v0_0:qd) :
 (CQ qc D n 152 [] [.r,.r,.l,.r,.l] (qi qc 152)) (Ex.exit 0) (qjv v0_0)=qvs D n v0_0:=by kernel_rfl
theorem q6l (D:DX)(n:Nat) (x0:qd) (x1:Int) (x2:Int) (x3:qd) :
 LQ qc D n 152 [.r,.r,.l,.r,.l] n (qgc x0 x1 x2 x3) (CQ qc D n 152 [] [.r,.r,.l,.r,.l] (qi qc 152))=qo3 D n x0 x1 x2 x3:=by
 rw[qwf]
 simp only[q60]
 rfl
theorem qbb0 (D:DX)(n:Nat) (a0:qd):rfC qc D n 152 (a0,())=qsd D n a0:=by
 have h:rfC qc D n 152 (a0,())=qsn D n (fun x0 x1 x2 x3=>LQ qc D n 152 [.r,.r,.l,.r,.l] n (qgc x0 x1 x2 x3) (CQ qc D n 152 [] [.r,.r,.l,.r,.l] (qi qc 152))) a0:=by kernel_rfl
 rw[h]
 simp only[q6l]
 rfl

def q4q (D:DX)(n:Nat) (a0:qe) (a1:(tSch)×qd×Unit) (a2:qe):Option ((Bool×Unit)×Unit):=qg (qfh D (Prod.fst a1) a0) fun b↦qg (qde D (Prod.fst (Prod.fst b)) a2) fun b↦some ((Prod.fst (Prod.fst b),()),())
def qxt (D:DX)(n:Nat) (a0:qe) (a1:(tSch)×qd×Unit) (a2:qe):Option ((Bool×Unit)×Unit):=q4q D n a0 a1 a2
theorem qbh0 (D:DX)(n:Nat) (a0:qe) (a1:(tSch)×
 qd×Unit) (a2:qe):rfC qc D n 153 (a0,(a1,(a2,())))=qxt D n a0 a1 a2:=by kernel_rfl

def q5e (D:DX)(n:Nat) (a0:Int×Int×ByteArray×Unit):Option ((Bool×Unit)×Unit):=br (decide (Prod.fst a0=0)) (some ((bif decide (Prod.fst (Prod.snd a0)=0) then List.beq (ByteArray.toList (Prod.fst (Prod.snd (Prod.snd a0)))) (ByteArray.toList (ByteArray.mk #[])) else false,()),())) (br (decide (Prod.fst a0=1)) (qg (qgq D (Prod.fst (Prod.snd a0)) 0 1) fun b↦some ((bif Prod.fst (Prod.fst b) then List.beq (ByteArray.toList (Prod.fst (Prod.snd (Prod.snd a0)))) (ByteArray.toList (ByteArray.mk #[])) else false,()),())) (br (decide (Prod.fst a0=2)) (qg (qgq D (Prod.fst (Prod.snd a0)) (-1000000000000) 1000000000000) fun b↦some ((bif Prod.fst (Prod.fst b) then List.beq (ByteArray.toList (Prod.fst (Prod.snd (Prod.snd a0)))) (ByteArray.toList (ByteArray.mk #[])) else false,()),())) (br (decide (Prod.fst a0=3)) (some ((bif decide (Prod.fst (Prod.snd a0)=0) then decide ((↑(ByteArray.size (Prod.fst (Prod.snd (Prod.snd a0)))):Int)≤20) else false,()),())) (some ((false,()),())))))
def qxz (D:DX)(n:Nat) (a0:Int×Int×ByteArray×Unit):Option ((Bool×Unit)×Unit):=q5e D n a0
theorem qbg7 (D:DX)(n:Nat) (a0:Int×Int×ByteArray×Unit):rfC qc D n 158 (a0,())=qxz D n a0:=by kernel_rfl

def qve (D:DX)(n:Nat) (go:qe→qe→Int→Option ((Bool×Unit)×Unit)) (K0:qe→qe→Bool→Option ((Bool×Unit)×Unit)) (K1:qe→qe→Option ((Bool×Unit)×Unit)) (x0:qe) (x1:qe) (x2:Int):Option ((Bool×Unit)×Unit):=br (bif decide (x2<(↑(List.length x0):Int)) then decide (x2<(↑(List.length x1):Int)) else false) (br (decide (0≤x2)&&decide (x2<(↑(List.length x0):Int))) (br (decide (0≤x2)&&decide (x2<(↑(List.length x1):Int))) (qg (qnr D (List.getD x0 (Int.toNat x2) (0,0,ByteArray.empty,())) (List.getD x1 (Int.toNat x2) (0,0,ByteArray.empty,()))) fun b↦br (!Prod.fst (Prod.fst b)) (K0 x0 x1 false) (go x0 x1 (IntKind.wrap IntKind.i64 (x2+1)))) none) none) (K1 x0 x1)
def qjb (D:DX)(n:Nat) (K0:qe→qe→Bool→Option ((Bool×Unit)×Unit)) (K1:qe→qe→Option ((Bool×Unit)×Unit)):Nat→(qe)→(qe)→(Int)→Option ((Bool×Unit)×Unit) | 0=>(fun x0 x1 x2=>none) | m+1=>(fun x0 x1 x2=>qve D n (qjb D n K0 K1 m) K0 K1 x0 x1 x2)
def qry (D:DX)(n:Nat) (v0_0:qe) (v0_1:qe) (v0_2:Bool):Option ((Bool×Unit)×Unit):=some ((v0_2,()),())
def qjp (D:DX)(n:Nat) (v1_0:qe) (v1_1:qe):Option ((Bool×Unit)×Unit):=some ((decide ((↑(List.length v1_0):Int)=(↑(List.length v1_1):Int)),()),())
def qtc (D:DX)(n:Nat):(qe)→(qe)→(Int)→Option ((Bool×Unit)×Unit):=(fun x0 x1 x2=>qjb D n (fun v0_0 v0_1 v0_2=>qry D n v0_0 v0_1 v0_2) (fun v1_0 v1_1=>qjp D n v1_0 v1_1) n x0 x1 x2)
def qx0 (D:DX)(n:Nat) (lp0:qe→qe→Int→Option ((Bool×Unit)×Unit)) (a0:qe) (a1:qe):Option ((Bool×Unit)×Unit):=lp0 a0 a1 0
def qx4 (D:DX)(n:Nat) (a0:qe) (a1:qe):Option ((Bool×Unit)×Unit):=qx0 D n (qtc D n) a0 a1
def qi2 (x0:qe) (x1:qe) (x2:Int):St:=stq 33 [(0,AV.val (Ty.sl yV) x0),(1,AV.val (Ty.sl yV) x1),(5,avI x2)] [] 
def qm5 (v0_0:qe) (v0_1:qe) (v0_2:Bool):St:=stq 33 [(0,AV.val (Ty.sl yV) v0_0),(1,AV.val (Ty.sl yV) v0_1),(4,AV.val Ty.bool v0_2)] [] 
def qm7 (v1_0:qe) (v1_1:qe):St:=stq 33 [(0,AV.val (Ty.sl yV) v1_0),(1,AV.val (Ty.sl yV) v1_1)] [] 
theorem qbc0 (D:DX)(n:Nat) (m:Nat) (K:Ex→St→Option (Out ctx 159)) (x0:qe) (x1:qe) (x2:Int) :
 LQ qc D n 159 [.r,.l,.r,.l] (m+1) (qi2 x0 x1 x2) K=qve D n (fun x0 x1 x2=>LQ qc D n 159 [.r,.l,.r,.l] m (qi2 x0 x1 x2) K) (fun v0_0 v0_1 v0_2=>K (Ex.ret) (qm5 v0_0 v0_1 v0_2)) (fun v1_0 v1_1=>K (Ex.exit 0) (qm7 v1_0 v1_1)) x0 x1 x2:=by kernel_rfl
theorem q29 (D:DX)(n:Nat) (K:Ex→St→Option (Out ctx 159)):∀ (m:Nat) (x0:qe) (x1:qe) (x2:Int),LQ qc D n 159 [.r,.l,.r,.l] m (qi2 x0 x1 x2) K=qjb D n (fun v0_0 v0_1 v0_2=>K (Ex.ret) (qm5 v0_0 v0_1 v0_2)) (fun v1_0 v1_1=>K (Ex.exit 0) (qm7 v1_0 v1_1)) m x0 x1 x2
 | 0,x0,x1,x2=>q8 ..
 | m+1,x0,x1,x2=>by
  have ih:(fun x0 x1 x2=>LQ qc D n 159 [.r,.l,.r,.l] m (qi2 x0 x1 x2) K)=qjb D n (fun v0_0 v0_1 v0_2=>K (Ex.ret) (qm5 v0_0 v0_1 v0_2)) (fun v1_0 v1_1=>K (Ex.exit 0) (qm7 v1_0 v1_1)) m:=by funext x0 x1 x2;exact q29 D n K m x0 x1 x2
  rw[qbc0]
  rw[ih];rfl
theorem qbaz (D:DX)(n:Nat) (v0_0:qe) (v0_1:qe) (v0_2:Bool) :
 (CQ qc D n 159 [] [.r,.l,.r,.l] (qi qc 159)) (Ex.ret) (qm5 v0_0 v0_1 v0_2)=qry D n v0_0 v0_1 v0_2:=by kernel_rfl
theorem qbbs (D:DX)(n:Nat) (v1_0:qe) (v1_1:qe) :
 (CQ qc D n 159 [] [.r,.l,.r,.l] (qi qc 159)) (Ex.exit 0) (qm7 v1_0 v1_1)=qjp D n v1_0 v1_1:=by kernel_rfl
theorem qba0 (D:DX)(n:Nat) (x0:qe) (x1:qe) (x2:Int) :
 LQ qc D n 159 [.r,.l,.r,.l] n (qi2 x0 x1 x2) (CQ qc D n 159 [] [.r,.l,.r,.l] (qi qc 159))=qtc D n x0 x1 x2:=by
 rw[q29]
 simp only[qbaz,qbbs]
 rfl
theorem qbg3 (D:DX)(n:Nat) (a0:qe) (a1:qe):rfC qc D n 159 (a0,(a1,()))=qx4 D n a0 a1:=by
 have h:rfC qc D n 159 (a0,(a1,()))=qx0 D n (fun x0 x1 x2=>LQ qc D n 159 [.r,.l,.r,.l] n (qi2 x0 x1 x2) (CQ qc D n 159 [] [.r,.l,.r,.l] (qi qc 159))) a0 a1:=by kernel_rfl
 rw[h]
 simp only[qba0]
 rfl

def q2b (D:DX)(n:Nat) (a0:Int×Int×ByteArray×Unit) (a1:Int×Int×ByteArray×Unit):Option ((Bool×Unit)×Unit):=some ((qkw (Ty.pair (Ty.int IntKind.i64) (Ty.pair (Ty.int IntKind.i64) (Ty.pair Ty.str Ty.unit))) a0 a1,()),())
def qtn (D:DX)(n:Nat) (a0:Int×Int×ByteArray×Unit) (a1:Int×Int×ByteArray×Unit):Option ((Bool×Unit)×Unit):=q2b D n a0 a1
theorem qbd3 (D:DX)(n:Nat) (a0:Int×Int×ByteArray×Unit) (a1:Int×Int×ByteArray×Unit):rfC qc D n 160 (a0,(a1,()))=qtn D n a0 a1:=by kernel_rfl

def q2y (D:DX)(n:Nat) (a0:Int×Int×ByteArray×Unit) (a1:Int×Int×ByteArray×Unit):Option ((Bool×Unit)×Unit):=br (Prod.fst a0 != Prod.fst a1) (some ((decide (Prod.fst a0<Prod.fst a1),()),())) (br (Prod.fst (Prod.snd a0) != Prod.fst (Prod.snd a1)) (some ((decide (Prod.fst (Prod.snd a0)<Prod.fst (Prod.snd a1)),()),())) (some ((Op.bytesLess (ByteArray.toList (Prod.fst (Prod.snd (Prod.snd a0)))) (ByteArray.toList (Prod.fst (Prod.snd (Prod.snd a1)))),()),())))
def qt4 (D:DX)(n:Nat) (a0:Int×Int×ByteArray×Unit) (a1:Int×Int×ByteArray×Unit):Option ((Bool×Unit)×Unit):=q2y D n a0 a1
theorem qbdu (D:DX)(n:Nat) (a0:Int×Int×ByteArray×Unit) (a1:Int×Int×ByteArray×Unit):rfC qc D n 161 (a0,(a1,()))=qt4 D n a0 a1:=by kernel_rfl

def q7a (D:DX)(n:Nat) (a0:List Int×Int×Int×Unit) (a1:List ByteArray):Option ((ByteArray×Unit)×tCur×Unit):=qg (qb9 D a0 (↑(List.length a1):Int)) fun b↦br (decide (0≤Prod.fst (Prod.fst b))&&decide (Prod.fst (Prod.fst b)<(↑(List.length a1):Int))) (some ((List.getD a1 (Int.toNat (Prod.fst (Prod.fst b))) ByteArray.empty,()),Prod.fst (Prod.snd b),())) none
def q0b (D:DX)(n:Nat) (a0:List Int×Int×Int×Unit) (a1:List ByteArray):Option ((ByteArray×Unit)×tCur×Unit):=q7a D n a0 a1
theorem qbjl (D:DX)(n:Nat) (a0:List Int×Int×Int×Unit) (a1:List ByteArray):rfC qc D n 162 (a0,(a1,()))=q0b D n a0 a1:=by kernel_rfl

def q2s (D:DX)(n:Nat) (a0:List Int×Int×Int×Unit) (a1:List Int):Option ((Int×Unit)×tCur×Unit):=qg (qb9 D a0 (↑(List.length a1):Int)) fun b↦br (decide (0≤Prod.fst (Prod.fst b))&&decide (Prod.fst (Prod.fst b)<(↑(List.length a1):Int))) (some ((List.getD a1 (Int.toNat (Prod.fst (Prod.fst b))) 0,()),Prod.fst (Prod.snd b),())) none
def qtj (D:DX)(n:Nat) (a0:List Int×Int×Int×Unit) (a1:List Int):Option ((Int×Unit)×tCur×Unit):=q2s D n a0 a1
theorem qbdq (D:DX)(n:Nat) (a0:List Int×Int×Int×Unit) (a1:List Int):rfC qc D n 163 (a0,(a1,()))=qtj D n a0 a1:=by kernel_rfl

def qki (D:DX)(n:Nat) (a0:qdo):Option ((qdo×Unit)×Unit):=br (decide (Int.toNat (↑(List.length a0):Int)=0)) (both (some (([],()),())) (br (decide (0+List.length a0≤qbj)) (some (([]++a0,()),())) none)) (br (decide (0+List.length a0≤qbj)) (some (([]++a0,()),())) none)
def qf6 (D:DX)(n:Nat) (a0:qdo):Option ((qdo×Unit)×Unit):=qki D n a0
theorem qta (D:DX)(n:Nat) (a0:qdo):rfC qc D n 164 (a0,())=qf6 D n a0:=by kernel_rfl

def qvo (D:DX)(n:Nat) (go:qe→Int→Option ((Bool×Unit)×Unit)) (K0:Bool→Option ((Bool×Unit)×Unit)) (K1:Option ((Bool×Unit)×Unit)) (x0:qe) (x1:Int):Option ((Bool×Unit)×Unit):=br (decide (x1<(↑(List.length x0):Int))) (br (decide (0≤x1)&&decide (x1<(↑(List.length x0):Int))) (br (decide (Prod.fst (List.getD x0 (Int.toNat x1) (0,0,ByteArray.empty,()))=0)) (K0 true) (go x0 (IntKind.wrap IntKind.i64 (x1+1)))) none) K1
def qjd (D:DX)(n:Nat) (K0:Bool→Option ((Bool×Unit)×Unit)) (K1:Option ((Bool×Unit)×Unit)):Nat→(qe)→(Int)→Option ((Bool×Unit)×Unit) | 0=>(fun x0 x1=>none) | m+1=>(fun x0 x1=>qvo D n (qjd D n K0 K1 m) K0 K1 x0 x1)
def q0t (D:DX)(n:Nat) (v0_0:Bool):Option ((Bool×Unit)×Unit):=some ((v0_0,()),())
def q06 (D:DX)(n:Nat):Option ((Bool×Unit)×Unit):=some ((false,()),())
def qt6 (D:DX)(n:Nat):(qe)→(Int)→Option ((Bool×Unit)×Unit):=(fun x0 x1=>qjd D n (fun v0_0=>q0t D n v0_0) (q06 D n) n x0 x1)
def qx7 (D:DX)(n:Nat) (lp0:qe→Int→Option ((Bool×Unit)×Unit)) (a0:qe):Option ((Bool×Unit)×Unit):=lp0 a0 0
def qxl (D:DX)(n:Nat) (a0:qe):Option ((Bool×Unit)×Unit):=qx7 D n (qt6 D n) a0
def qi9 (x0:qe) (x1:Int):St:=stq 16 [(0,AV.val (Ty.sl yV) x0),(3,avI x1)] [] 
def qmz (v0_0:Bool):St:=stq 16 [(2,AV.val Ty.bool v0_0)] [] 
def qm0:St:=stq 16 [] [] 
theorem qbdm (D:DX)(n:Nat) (m:Nat) (K:Ex→St→Option (Out ctx 165)) (x0:qe) (x1:Int) :
 LQ qc D n 165 [.r,.l,.r,.l] (m+1) (qi9 x0 x1) K=qvo D n (fun x0 x1=>LQ qc D n 165 [.r,.l,.r,.l] m (qi9 x0 x1) K) (fun v0_0=>K (Ex.ret) (qmz v0_0)) (K (Ex.exit 0) (qm0)) x0 x1:=by kernel_rfl
theorem q17 (D:DX)(n:Nat) (K:Ex→St→Option (Out ctx 165)):∀ (m:Nat) (x0:qe) (x1:Int),LQ qc D n 165 [.r,.l,.r,.l] m (qi9 x0 x1) K=qjd D n (fun v0_0=>K (Ex.ret) (qmz v0_0)) (K (Ex.exit 0) (qm0)) m x0 x1
 | 0,x0,x1=>q8 ..
 | m+1,x0,x1=>by
  have ih:(fun x0 x1=>LQ qc D n 165 [.r,.l,.r,.l] m (qi9 x0 x1) K)=qjd D n (fun v0_0=>K (Ex.ret) (qmz v0_0)) (K (Ex.exit 0) (qm0)) m:=by funext x0 x1;exact q17 D n K m x0 x1
  rw[qbdm]
  rw[ih];rfl
theorem qbbh (D:DX)(n:Nat) (v0_0:Bool) :
 (CQ qc D n 165 [] [.r,.l,.r,.l] (qi qc 165)) (Ex.ret) (qmz v0_0)=q0t D n v0_0:=by kernel_rfl
theorem qbbg (D:DX)(n:Nat) :
 (CQ qc D n 165 [] [.r,.l,.r,.l] (qi qc 165)) (Ex.exit 0) (qm0)=q06 D n:=by kernel_rfl
theorem qbbt (D:DX)(n:Nat) (x0:qe) (x1:Int) :
 LQ qc D n 165 [.r,.l,.r,.l] n (qi9 x0 x1) (CQ qc D n 165 [] [.r,.l,.r,.l] (qi qc 165))=qt6 D n x0 x1:=by
 rw[q17]
 simp only[qbbh,qbbg]
 rfl
theorem qbhc (D:DX)(n:Nat) (a0:qe):rfC qc D n 165 (a0,())=qxl D n a0:=by
 have h:rfC qc D n 165 (a0,())=qx7 D n (fun x0 x1=>LQ qc D n 165 [.r,.l,.r,.l] n (qi9 x0 x1) (CQ qc D n 165 [] [.r,.l,.r,.l] (qi qc 165))) a0:=by kernel_rfl
 rw[h]
 simp only[qbbt]
 rfl

def qsi (D:DX)(n:Nat) (go:ByteArray→Int→Option ((Bool×Unit)×Unit)) (K0:ByteArray→Bool→Option ((Bool×Unit)×Unit)) (K1:ByteArray→Option ((Bool×Unit)×Unit)) (x0:ByteArray) (x1:Int):Option ((Bool×Unit)×Unit):=br (decide (x1<(↑(ByteArray.size x0):Int))) (br (decide (0≤x1)&&decide (x1<(↑(ByteArray.size x0):Int))) (br (decide ((↑(UInt8.toNat (Array.getD (ByteArray.data x0) (Int.toNat x1) (UInt8.ofNat 0))):Int)<97)) (K0 x0 false) (br (decide (0≤x1)&&decide (x1<(↑(ByteArray.size x0):Int))) (br (decide ((↑(UInt8.toNat (Array.getD (ByteArray.data x0) (Int.toNat x1) (UInt8.ofNat 0))):Int)>122)) (K0 x0 false) (go x0 (IntKind.wrap IntKind.i64 (x1+1)))) none)) none) (K1 x0)
def qg5 (D:DX)(n:Nat) (K0:ByteArray→Bool→Option ((Bool×Unit)×Unit)) (K1:ByteArray→Option ((Bool×Unit)×Unit)):Nat→(ByteArray)→(Int)→Option ((Bool×Unit)×Unit) | 0=>(fun x0 x1=>none) | m+1=>(fun x0 x1=>qsi D n (qg5 D n K0 K1 m) K0 K1 x0 x1)
def qwn (D:DX)(n:Nat) (v0_0:ByteArray) (v0_1:Bool):Option ((Bool×Unit)×Unit):=some ((v0_1,()),())
def qph (D:DX)(n:Nat) (v1_0:ByteArray):Option ((Bool×Unit)×Unit):=qg (qgq D (↑(ByteArray.size v1_0):Int) 1 12) fun b↦some ((Prod.fst (Prod.fst b),()),())
def qqw (D:DX)(n:Nat):(ByteArray)→(Int)→Option ((Bool×Unit)×Unit):=(fun x0 x1=>qg5 D n (fun v0_0 v0_1=>qwn D n v0_0 v0_1) (fun v1_0=>qph D n v1_0) n x0 x1)
def qtz (D:DX)(n:Nat) (lp0:ByteArray→Int→Option ((Bool×Unit)×Unit)) (a0:ByteArray):Option ((Bool×Unit)×Unit):=lp0 a0 0
def qtu (D:DX)(n:Nat) (a0:ByteArray):Option ((Bool×Unit)×Unit):=qtz D n (qqw D n) a0
def qha (x0:ByteArray) (x1:Int):St:=stq 23 [(0,AV.val Ty.str x0),(3,avI x1)] [] 
def qku (v0_0:ByteArray) (v0_1:Bool):St:=stq 23 [(0,AV.val Ty.str v0_0),(2,AV.val Ty.bool v0_1)] [] 
def qkr (v1_0:ByteArray):St:=stq 23 [(0,AV.val Ty.str v1_0)] [] 
theorem q8l (D:DX)(n:Nat) (m:Nat) (K:Ex→St→Option (Out ctx 166)) (x0:ByteArray) (x1:Int) :
 LQ qc D n 166 [.r,.l,.r,.l] (m+1) (qha x0 x1) K=qsi D n (fun x0 x1=>LQ qc D n 166 [.r,.l,.r,.l] m (qha x0 x1) K) (fun v0_0 v0_1=>K (Ex.ret) (qku v0_0 v0_1)) (fun v1_0=>K (Ex.exit 0) (qkr v1_0)) x0 x1:=by kernel_rfl
theorem qys (D:DX)(n:Nat) (K:Ex→St→Option (Out ctx 166)):∀ (m:Nat) (x0:ByteArray) (x1:Int),LQ qc D n 166 [.r,.l,.r,.l] m (qha x0 x1) K=qg5 D n (fun v0_0 v0_1=>K (Ex.ret) (qku v0_0 v0_1)) (fun v1_0=>K (Ex.exit 0) (qkr v1_0)) m x0 x1
 | 0,x0,x1=>q8 ..
 | m+1,x0,x1=>by
  have ih:(fun x0 x1=>LQ qc D n 166 [.r,.l,.r,.l] m (qha x0 x1) K)=qg5 D n (fun v0_0 v0_1=>K (Ex.ret) (qku v0_0 v0_1)) (fun v1_0=>K (Ex.exit 0) (qkr v1_0)) m:=by funext x0 x1;exact qys D n K m x0 x1
  rw[q8l]
  rw[ih];rfl
theorem q7o (D:DX)(n:Nat) (v0_0:ByteArray) (v0_1:Bool) :
 (CQ qc D n 166 [] [.r,.l,.r,.l] (qi qc 166)) (Ex.ret) (qku v0_0 v0_1)=qwn D n v0_0 v0_1:=by kernel_rfl
theorem q7n (D:DX)(n:Nat) (v1_0:ByteArray) :
 (CQ qc D n 166 [] [.r,.l,.r,.l] (qi qc 166)) (Ex.exit 0) (qkr v1_0)=qph D n v1_0:=by kernel_rfl
theorem q7q (D:DX)(n:Nat) (x0:ByteArray) (x1:Int) :
 LQ qc D n 166 [.r,.l,.r,.l] n (qha x0 x1) (CQ qc D n 166 [] [.r,.l,.r,.l] (qi qc 166))=qqw D n x0 x1:=by
 rw[qys]
 simp only[q7o,q7n]
 rfl
theorem qbc5 (D:DX)(n:Nat) (a0:ByteArray):rfC qc D n 166 (a0,())=qtu D n a0:=by
 have h:rfC qc D n 166 (a0,())=qtz D n (fun x0 x1=>LQ qc D n 166 [.r,.l,.r,.l] n (qha x0 x1) (CQ qc D n 166 [] [.r,.l,.r,.l] (qi qc 166))) a0:=by kernel_rfl
 rw[h]
 simp only[q7q]
 rfl

def qz2 (D:DX)(n:Nat) (go:ByteArray→Int→tSch→Option ((Int×Unit)×Unit)) (K0:Int→Option ((Int×Unit)×Unit)) (K1:Option ((Int×Unit)×Unit)) (x0:ByteArray) (x1:Int) (x2:tSch):Option ((Int×Unit)×Unit):=br (decide (x1<(↑(List.length (Prod.fst x2)):Int))) (br (decide (0≤x1)&&decide (x1<(↑(List.length (Prod.fst x2)):Int))) (br (List.beq (ByteArray.toList (Prod.fst (List.getD (Prod.fst x2) (Int.toNat x1) (ByteArray.empty,0,false,())))) (ByteArray.toList x0)) (K0 x1) (go x0 (IntKind.wrap IntKind.i64 (x1+1)) x2)) none) K1
def qk3 (D:DX)(n:Nat) (K0:Int→Option ((Int×Unit)×Unit)) (K1:Option ((Int×Unit)×Unit)):Nat→(ByteArray)→(Int)→(tSch)→Option ((Int×Unit)×Unit) | 0=>(fun x0 x1 x2=>none) | m+1=>(fun x0 x1 x2=>qz2 D n (qk3 D n K0 K1 m) K0 K1 x0 x1 x2)
def q3g (D:DX)(n:Nat) (v0_0:Int):Option ((Int×Unit)×Unit):=some ((v0_0,()),())
def q3r (D:DX)(n:Nat):Option ((Int×Unit)×Unit):=some ((-1,()),())
def qxq (D:DX)(n:Nat):(ByteArray)→(Int)→(tSch)→Option ((Int×Unit)×Unit):=(fun x0 x1 x2=>qk3 D n (fun v0_0=>q3g D n v0_0) (q3r D n) n x0 x1 x2)
def q21 (D:DX)(n:Nat) (lp0:ByteArray→Int→tSch→Option ((Int×Unit)×Unit)) (a0:tSch) (a1:ByteArray):Option ((Int×Unit)×Unit):=lp0 a1 0 a0
def q2d (D:DX)(n:Nat) (a0:tSch) (a1:ByteArray):Option ((Int×Unit)×Unit):=q21 D n (qxq D n) a0 a1
def qla (x0:ByteArray) (x1:Int) (x2:tSch):St:=stq 22 [(1,AV.val Ty.str x0),(2,AV.addr 2 []),(5,avI x1)] [(2,Root.mk yS Mk.no x2 true)] 
def qp3 (v0_0:Int):St:=stq 22 [(4,avI v0_0)] [] 
def qpx:St:=stq 22 [] [] 
theorem qbgn (D:DX)(n:Nat) (m:Nat) (K:Ex→St→Option (Out ctx 167)) (x0:ByteArray) (x1:Int) (x2:tSch) :
 LQ qc D n 167 [.r,.l,.r,.l] (m+1) (qla x0 x1 x2) K=qz2 D n (fun x0 x1 x2=>LQ qc D n 167 [.r,.l,.r,.l] m (qla x0 x1 x2) K) (fun v0_0=>K (Ex.ret) (qp3 v0_0)) (K (Ex.exit 0) (qpx)) x0 x1 x2:=by kernel_rfl
theorem q5y (D:DX)(n:Nat) (K:Ex→St→Option (Out ctx 167)):∀ (m:Nat) (x0:ByteArray) (x1:Int) (x2:tSch),LQ qc D n 167 [.r,.l,.r,.l] m (qla x0 x1 x2) K=qk3 D n (fun v0_0=>K (Ex.ret) (qp3 v0_0)) (K (Ex.exit 0) (qpx)) m x0 x1 x2
 | 0,x0,x1,x2=>q8 ..
 | m+1,x0,x1,x2=>by
  have ih:(fun x0 x1 x2=>LQ qc D n 167 [.r,.l,.r,.l] m (qla x0 x1 x2) K)=qk3 D n (fun v0_0=>K (Ex.ret) (qp3 v0_0)) (K (Ex.exit 0) (qpx)) m:=by funext x0 x1 x2;exact q5y D n K m x0 x1 x2
  rw[qbgn]
  rw[ih];rfl
theorem qbga (D:DX)(n:Nat) (v0_0:Int) :
 (CQ qc D n 167 [] [.r,.l,.r,.l] (qi qc 167)) (Ex.ret) (qp3 v0_0)=q3g D n v0_0:=by kernel_rfl
theorem qbd7 (D:DX)(n:Nat) :
 (CQ qc D n 167 [] [.r,.l,.r,.l] (qi qc 167)) (Ex.exit 0) (qpx)=q3r D n:=by kernel_rfl
theorem qbfl (D:DX)(n:Nat) (x0:ByteArray) (x1:Int) (x2:tSch) :
 LQ qc D n 167 [.r,.l,.r,.l] n (qla x0 x1 x2) (CQ qc D n 167 [] [.r,.l,.r,.l] (qi qc 167))=qxq D n x0 x1 x2:=by
 rw[q5y]
 simp only[qbga,qbd7]
 rfl
theorem qbks (D:DX)(n:Nat) (a0:tSch) (a1:ByteArray):rfC qc D n 167 (a0,(a1,()))=q2d D n a0 a1:=by
 have h:rfC qc D n 167 (a0,(a1,()))=q21 D n (fun x0 x1 x2=>LQ qc D n 167 [.r,.l,.r,.l] n (qla x0 x1 x2) (CQ qc D n 167 [] [.r,.l,.r,.l] (qi qc 167))) a0 a1:=by kernel_rfl
 rw[h]
 simp only[qbfl]
 rfl

def qrx (D:DX)(n:Nat) (go:List Int→Int→Int→Int→tSch→Option ((Bool×Unit)×Unit)) (K0:List Int→Int→Bool→Int→tSch→Option ((Bool×Unit)×Unit)) (K1:List Int→Int→Int→tSch→Option ((Bool×Unit)×Unit)) (x1_0:List Int) (x1_1:Int) (x1_2:Int) (x1_3:Int) (x1_4:tSch):Option ((Bool×Unit)×Unit):=br (decide (x1_3<x1_2)) (br (decide (0≤x1_3)&&decide (x1_3<(↑(List.length x1_0):Int))) (br (decide (0≤x1_2)&&decide (x1_2<(↑(List.length x1_0):Int))) (br (decide (List.getD x1_0 (Int.toNat x1_3) 0=List.getD x1_0 (Int.toNat x1_2) 0)) (K0 x1_0 x1_1 false x1_2 x1_4) (go x1_0 x1_1 x1_2 (IntKind.wrap IntKind.i64 (x1_3+1)) x1_4)) none) none) (K1 x1_0 x1_1 x1_2 x1_4)
def qg3 (D:DX)(n:Nat) (K0:List Int→Int→Bool→Int→tSch→Option ((Bool×Unit)×Unit)) (K1:List Int→Int→Int→tSch→Option ((Bool×Unit)×Unit)):Nat→(List Int)→(Int)→(Int)→(Int)→(tSch)→Option ((Bool×Unit)×Unit) | 0=>(fun x1_0 x1_1 x1_2 x1_3 x1_4=>none) | m+1=>(fun x1_0 x1_1 x1_2 x1_3 x1_4=>qrx D n (qg3 D n K0 K1 m) K0 K1 x1_0 x1_1 x1_2 x1_3 x1_4)
def qwm (D:DX)(n:Nat) (go:List Int→Int→Int→tSch→Option ((Bool×Unit)×Unit)) (K0:List Int→Int→Bool→Option ((Bool×Unit)×Unit)) (K1:List Int→Int→Option ((Bool×Unit)×Unit)) (v0_0:List Int) (v0_1:Int) (v0_2:Bool) (v0_3:Int) (v0_4:tSch):Option ((Bool×Unit)×Unit):=K0 v0_0 v0_1 v0_2
def qpf (D:DX)(n:Nat) (go:List Int→Int→Int→tSch→Option ((Bool×Unit)×Unit)) (K0:List Int→Int→Bool→Option ((Bool×Unit)×Unit)) (K1:List Int→Int→Option ((Bool×Unit)×Unit)) (v1_0:List Int) (v1_1:Int) (v1_2:Int) (v1_3:tSch):Option ((Bool×Unit)×Unit):=go v1_0 v1_1 (IntKind.wrap IntKind.i64 (v1_2+1)) v1_3
def qqj (D:DX)(n:Nat) (go:List Int→Int→Int→tSch→Option ((Bool×Unit)×Unit)) (K0:List Int→Int→Bool→Option ((Bool×Unit)×Unit)) (K1:List Int→Int→Option ((Bool×Unit)×Unit)):(List Int)→(Int)→(Int)→(Int)→(tSch)→Option ((Bool×Unit)×Unit):=(fun x1_0 x1_1 x1_2 x1_3 x1_4=>qg3 D n (fun v0_0 v0_1 v0_2 v0_3 v0_4=>qwm D n go K0 K1 v0_0 v0_1 v0_2 v0_3 v0_4) (fun v1_0 v1_1 v1_2 v1_3=>qpf D n go K0 K1 v1_0 v1_1 v1_2 v1_3) n x1_0 x1_1 x1_2 x1_3 x1_4)
def qr5 (D:DX)(n:Nat) (go:List Int→Int→Int→tSch→Option ((Bool×Unit)×Unit)) (K0:List Int→Int→Bool→Option ((Bool×Unit)×Unit)) (K1:List Int→Int→Option ((Bool×Unit)×Unit)) (lp1:List Int→Int→Int→Int→tSch→Option ((Bool×Unit)×Unit)) (x0:List Int) (x1:Int) (x2:Int) (x3:tSch):Option ((Bool×Unit)×Unit):=br (decide (x2<(↑(List.length x0):Int))) (br (decide (0≤x2)&&decide (x2<(↑(List.length x0):Int))) (qg (qgq D (List.getD x0 (Int.toNat x2) 0) 0 (IntKind.wrap IntKind.i64 ((↑(List.length (Prod.fst x3)):Int) - 1))) fun b↦br (!Prod.fst (Prod.fst b)) (K0 x0 x1 false) (lp1 x0 x1 x2 0 x3)) none) (K1 x0 x1)
def qed (D:DX)(n:Nat) (K0:List Int→Int→Bool→Option ((Bool×Unit)×Unit)) (K1:List Int→Int→Option ((Bool×Unit)×Unit)):Nat→(List Int)→(Int)→(Int)→(tSch)→Option ((Bool×Unit)×Unit) | 0=>(fun x0 x1 x2 x3=>none) | m+1=>(fun x0 x1 x2 x3=>qr5 D n (qed D n K0 K1 m) K0 K1 (qqj D n (qed D n K0 K1 m) K0 K1) x0 x1 x2 x3)
def qpi (D:DX)(n:Nat) (v0_0:List Int) (v0_1:Int) (v0_2:Bool):Option ((Bool×Unit)×Unit):=some ((v0_2,()),())
def qkl (D:DX)(n:Nat) (v1_0:List Int) (v1_1:Int):Option ((Bool×Unit)×Unit):=qg (qgq D (↑(List.length v1_0):Int) 1 v1_1) fun b↦some ((Prod.fst (Prod.fst b),()),())
def qqi (D:DX)(n:Nat):(List Int)→(Int)→(Int)→(tSch)→Option ((Bool×Unit)×Unit):=(fun x0 x1 x2 x3=>qed D n (fun v0_0 v0_1 v0_2=>qpi D n v0_0 v0_1 v0_2) (fun v1_0 v1_1=>qkl D n v1_0 v1_1) n x0 x1 x2 x3)
def qtv (D:DX)(n:Nat) (lp0:List Int→Int→Int→tSch→Option ((Bool×Unit)×Unit)) (a0:tSch) (a1:List Int) (a2:Int):Option ((Bool×Unit)×Unit):=lp0 a1 a2 0 a0
def qt3 (D:DX)(n:Nat) (a0:tSch) (a1:List Int) (a2:Int):Option ((Bool×Unit)×Unit):=qtv D n (qqi D n) a0 a1 a2
def qdj (x0:List Int) (x1:Int) (x2:Int) (x3:tSch):St:=stq 43 [(1,AV.val (Ty.sl yI) x0),(2,avI x1),(3,AV.addr 3 []),(7,avI x2)] [(3,Root.mk yS Mk.no x3 true)] 
def qeg (v0_0:List Int) (v0_1:Int) (v0_2:Bool):St:=stq 43 [(1,AV.val (Ty.sl yI) v0_0),(2,avI v0_1),(6,AV.val Ty.bool v0_2)] [] 
def qee (v1_0:List Int) (v1_1:Int):St:=stq 43 [(1,AV.val (Ty.sl yI) v1_0),(2,avI v1_1)] [] 
def qg7 (x1_0:List Int) (x1_1:Int) (x1_2:Int) (x1_3:Int) (x1_4:tSch):St:=stq 43 [(1,AV.val (Ty.sl yI) x1_0),(2,avI x1_1),(3,AV.addr 3 []),(7,avI x1_2),(8,avI x1_3)] [(3,Root.mk yS Mk.no x1_4 true)] 
def qko (v0_0:List Int) (v0_1:Int) (v0_2:Bool) (v0_3:Int) (v0_4:tSch):St:=stq 43 [(1,AV.val (Ty.sl yI) v0_0),(2,avI v0_1),(3,AV.addr 3 []),(6,AV.val Ty.bool v0_2),(7,avI v0_3)] [(3,Root.mk yS Mk.no v0_4 true)] 
def qky (v1_0:List Int) (v1_1:Int) (v1_2:Int) (v1_3:tSch):St:=stq 43 [(1,AV.val (Ty.sl yI) v1_0),(2,avI v1_1),(3,AV.addr 3 []),(7,avI v1_2)] [(3,Root.mk yS Mk.no v1_3 true)] 
theorem q8m (D:DX)(n:Nat) (m:Nat) (K:Ex→St→Option (Out ctx 168)) (x1_0:List Int) (x1_1:Int) (x1_2:Int) (x1_3:Int) (x1_4:tSch) :
 LQ qc D n 168 [.r,.l,.r,.l,.l,.r,.l,.l,.r,.r,.l] (m+1) (qg7 x1_0 x1_1 x1_2 x1_3 x1_4) K=qrx D n (fun x1_0 x1_1 x1_2 x1_3 x1_4=>LQ qc D n 168 [.r,.l,.r,.l,.l,.r,.l,.l,.r,.r,.l] m (qg7 x1_0 x1_1 x1_2 x1_3 x1_4) K) (fun v0_0 v0_1 v0_2 v0_3 v0_4=>K (Ex.ret) (qko v0_0 v0_1 v0_2 v0_3 v0_4)) (fun v1_0 v1_1 v1_2 v1_3=>K (Ex.exit 2) (qky v1_0 v1_1 v1_2 v1_3)) x1_0 x1_1 x1_2 x1_3 x1_4:=by kernel_rfl
theorem qzc (D:DX)(n:Nat) (K:Ex→St→Option (Out ctx 168)):∀ (m:Nat) (x1_0:List Int) (x1_1:Int) (x1_2:Int) (x1_3:Int) (x1_4:tSch),LQ qc D n 168 [.r,.l,.r,.l,.l,.r,.l,.l,.r,.r,.l] m (qg7 x1_0 x1_1 x1_2 x1_3 x1_4) K=qg3 D n (fun v0_0 v0_1 v0_2 v0_3 v0_4=>K (Ex.ret) (qko v0_0 v0_1 v0_2 v0_3 v0_4)) (fun v1_0 v1_1 v1_2 v1_3=>K (Ex.exit 2) (qky v1_0 v1_1 v1_2 v1_3)) m x1_0 x1_1 x1_2 x1_3 x1_4
 | 0,x1_0,x1_1,x1_2,x1_3,x1_4=>q8 ..
 | m+1,x1_0,x1_1,x1_2,x1_3,x1_4=>by
  have ih:(fun x1_0 x1_1 x1_2 x1_3 x1_4=>LQ qc D n 168 [.r,.l,.r,.l,.l,.r,.l,.l,.r,.r,.l] m (qg7 x1_0 x1_1 x1_2 x1_3 x1_4) K)=qg3 D n (fun v0_0 v0_1 v0_2 v0_3 v0_4=>K (Ex.ret) (qko v0_0 v0_1 v0_2 v0_3 v0_4)) (fun v1_0 v1_1 v1_2 v1_3=>K (Ex.exit 2) (qky v1_0 v1_1 v1_2 v1_3)) m:=by funext x1_0 x1_1 x1_2 x1_3 x1_4;exact qzc D n K m x1_0 x1_1 x1_2 x1_3 x1_4
  rw[q8m]
  rw[ih];rfl
theorem q7i (D:DX)(n:Nat) (m:Nat) (K:Ex→St→Option (Out ctx 168)) (v0_0:List Int) (v0_1:Int) (v0_2:Bool) (v0_3:Int) (v0_4:tSch) :
 (CQ qc D n 168 [.r,.l,.r,.l,.l] [.r,.l,.l,.r,.r,.l] (LK qc D n 168 [.r,.l,.r,.l] m K)) (Ex.ret) (qko v0_0 v0_1 v0_2 v0_3 v0_4)=qwm D n (fun x0 x1 x2 x3=>LQ qc D n 168 [.r,.l,.r,.l] m (qdj x0 x1 x2 x3) K) (fun v0_0 v0_1 v0_2=>K (Ex.ret) (qeg v0_0 v0_1 v0_2)) (fun v1_0 v1_1=>K (Ex.exit 0) (qee v1_0 v1_1)) v0_0 v0_1 v0_2 v0_3 v0_4:=by kernel_rfl
theorem q71 (D:DX)(n:Nat) (m:Nat) (K:Ex→St→Option (Out ctx 168)) (v1_0:List Int) (v1_1:Int) (v1_2:Int) (v1_3:tSch) :
 (CQ qc D n 168 [.r,.l,.r,.l,.l] [.r,.l,.l,.r,.r,.l] (LK qc D n 168 [.r,.l,.r,.l] m K)) (Ex.exit 2) (qky v1_0 v1_1 v1_2 v1_3)=qpf D n (fun x0 x1 x2 x3=>LQ qc D n 168 [.r,.l,.r,.l] m (qdj x0 x1 x2 x3) K) (fun v0_0 v0_1 v0_2=>K (Ex.ret) (qeg v0_0 v0_1 v0_2)) (fun v1_0 v1_1=>K (Ex.exit 0) (qee v1_0 v1_1)) v1_0 v1_1 v1_2 v1_3:=by kernel_rfl
theorem q7z (D:DX)(n:Nat) (m:Nat) (K:Ex→St→Option (Out ctx 168)) (x1_0:List Int) (x1_1:Int) (x1_2:Int) (x1_3:Int) (x1_4:tSch) :
 LQ qc D n 168 [.r,.l,.r,.l,.l,.r,.l,.l,.r,.r,.l] n (qg7 x1_0 x1_1 x1_2 x1_3 x1_4) (CQ qc D n 168 [.r,.l,.r,.l,.l] [.r,.l,.l,.r,.r,.l] (LK qc D n 168 [.r,.l,.r,.l] m K))=qqj D n (fun x0 x1 x2 x3=>LQ qc D n 168 [.r,.l,.r,.l] m (qdj x0 x1 x2 x3) K) (fun v0_0 v0_1 v0_2=>K (Ex.ret) (qeg v0_0 v0_1 v0_2)) (fun v1_0 v1_1=>K (Ex.exit 0) (qee v1_0 v1_1)) x1_0 x1_1 x1_2 x1_3 x1_4:=by
 rw[qzc]
 simp only[q7i,q71]
 rfl
theorem q89 (D:DX)(n:Nat) (m:Nat) (K:Ex→St→Option (Out ctx 168)) (x0:List Int) (x1:Int) (x2:Int) (x3:tSch) :
 LQ qc D n 168 [.r,.l,.r,.l] (m+1) (qdj x0 x1 x2 x3) K=qr5 D n (fun x0 x1 x2 x3=>LQ qc D n 168 [.r,.l,.r,.l] m (qdj x0 x1 x2 x3) K) (fun v0_0 v0_1 v0_2=>K (Ex.ret) (qeg v0_0 v0_1 v0_2)) (fun v1_0 v1_1=>K (Ex.exit 0) (qee v1_0 v1_1)) (fun x1_0 x1_1 x1_2 x1_3 x1_4=>LQ qc D n 168 [.r,.l,.r,.l,.l,.r,.l,.l,.r,.r,.l] n (qg7 x1_0 x1_1 x1_2 x1_3 x1_4) (CQ qc D n 168 [.r,.l,.r,.l,.l] [.r,.l,.l,.r,.r,.l] (LK qc D n 168 [.r,.l,.r,.l] m K))) x0 x1 x2 x3:=by kernel_rfl
theorem qyo (D:DX)(n:Nat) (K:Ex→St→Option (Out ctx 168)):∀ (m:Nat) (x0:List Int) (x1:Int) (x2:Int) (x3:tSch),LQ qc D n 168 [.r,.l,.r,.l] m (qdj x0 x1 x2 x3) K=qed D n (fun v0_0 v0_1 v0_2=>K (Ex.ret) (qeg v0_0 v0_1 v0_2)) (fun v1_0 v1_1=>K (Ex.exit 0) (qee v1_0 v1_1)) m x0 x1 x2 x3
 | 0,x0,x1,x2,x3=>q8 ..
 | m+1,x0,x1,x2,x3=>by
  have ih:(fun x0 x1 x2 x3=>LQ qc D n 168 [.r,.l,.r,.l] m (qdj x0 x1 x2 x3) K)=qed D n (fun v0_0 v0_1 v0_2=>K (Ex.ret) (qeg v0_0 v0_1 v0_2)) (fun v1_0 v1_1=>K (Ex.exit 0) (qee v1_0 v1_1)) m:=by funext x0 x1 x2 x3;exact qyo D n K m x0 x1 x2 x3
  rw[q89]
  simp only[q7z]
  rw[ih];rfl
theorem q8b (D:DX)(n:Nat) (v0_0:List Int) (v0_1:Int) (v0_2:Bool) :
 (CQ qc D n 168 [] [.r,.l,.r,.l] (qi qc 168)) (Ex.ret) (qeg v0_0 v0_1 v0_2)=qpi D n v0_0 v0_1 v0_2:=by kernel_rfl
theorem q7v (D:DX)(n:Nat) (v1_0:List Int) (v1_1:Int) :
 (CQ qc D n 168 [] [.r,.l,.r,.l] (qi qc 168)) (Ex.exit 0) (qee v1_0 v1_1)=qkl D n v1_0 v1_1:=by kernel_rfl
theorem q73 (D:DX)(n:Nat) (x0:List Int) (x1:Int) (x2:Int) (x3:tSch) :
 LQ qc D n 168 [.r,.l,.r,.l] n (qdj x0 x1 x2 x3) (CQ qc D n 168 [] [.r,.l,.r,.l] (qi qc 168))=qqi D n x0 x1 x2 x3:=by
 rw[qyo]
 simp only[q8b,q7v]
 rfl
theorem qbda (D:DX)(n:Nat) (a0:tSch) (a1:List Int) (a2:Int):rfC qc D n 168 (a0,(a1,(a2,())))=qt3 D n a0 a1 a2:=by
 have h:rfC qc D n 168 (a0,(a1,(a2,())))=qtv D n (fun x0 x1 x2 x3=>LQ qc D n 168 [.r,.l,.r,.l] n (qdj x0 x1 x2 x3) (CQ qc D n 168 [] [.r,.l,.r,.l] (qi qc 168))) a0 a1 a2:=by kernel_rfl
 rw[h]
 simp only[q73]
 rfl

def qqf (D:DX)(n:Nat) (go:Int→Int→tSch→ByteArray×List Int×Bool×Unit→Option ((Bool×Unit)×Unit)) (K0:Bool→Int→tSch→Option ((Bool×Unit)×Unit)) (K1:Int→tSch→Option ((Bool×Unit)×Unit)) (x1_0:Int) (x1_1:Int) (x1_2:tSch) (x1_3:ByteArray×List Int×Bool×Unit):Option ((Bool×Unit)×Unit):=br (decide (x1_1<x1_0)) (br (decide (0≤x1_1)&&decide (x1_1<(↑(List.length (Prod.fst (Prod.snd (Prod.snd x1_2)))):Int))) (br (List.beq (ByteArray.toList (Prod.fst (List.getD (Prod.fst (Prod.snd (Prod.snd x1_2))) (Int.toNat x1_1) (ByteArray.empty,[],false,())))) (ByteArray.toList (Prod.fst x1_3))) (K0 false x1_0 x1_2) (go x1_0 (IntKind.wrap IntKind.i64 (x1_1+1)) x1_2 x1_3)) none) (K1 x1_0 x1_2)
def qgb (D:DX)(n:Nat) (K0:Bool→Int→tSch→Option ((Bool×Unit)×Unit)) (K1:Int→tSch→Option ((Bool×Unit)×Unit)):Nat→(Int)→(Int)→(tSch)→tIx→Option ((Bool×Unit)×Unit) | 0=>(fun x1_0 x1_1 x1_2 x1_3=>none) | m+1=>(fun x1_0 x1_1 x1_2 x1_3=>qqf D n (qgb D n K0 K1 m) K0 K1 x1_0 x1_1 x1_2 x1_3)
def qvg (D:DX)(n:Nat) (go:Int→tSch→Option ((Bool×Unit)×Unit)) (K0:Bool→tSch→Option ((Bool×Unit)×Unit)) (K1:tSch→Option ((Bool×Unit)×Unit)) (v0_0:Bool) (v0_1:Int) (v0_2:tSch):Option ((Bool×Unit)×Unit):=K0 v0_0 v0_2
def qof (D:DX)(n:Nat) (go:Int→tSch→Option ((Bool×Unit)×Unit)) (K0:Bool→tSch→Option ((Bool×Unit)×Unit)) (K1:tSch→Option ((Bool×Unit)×Unit)) (v1_0:Int) (v1_1:tSch):Option ((Bool×Unit)×Unit):=go (IntKind.wrap IntKind.i64 (v1_0+1)) v1_1
def qpk (D:DX)(n:Nat) (go:Int→tSch→Option ((Bool×Unit)×Unit)) (K0:Bool→tSch→Option ((Bool×Unit)×Unit)) (K1:tSch→Option ((Bool×Unit)×Unit)):(Int)→(Int)→(tSch)→tIx→Option ((Bool×Unit)×Unit):=(fun x1_0 x1_1 x1_2 x1_3=>qgb D n (fun v0_0 v0_1 v0_2=>qvg D n go K0 K1 v0_0 v0_1 v0_2) (fun v1_0 v1_1=>qof D n go K0 K1 v1_0 v1_1) n x1_0 x1_1 x1_2 x1_3)
def qqg (D:DX)(n:Nat) (go:Int→tSch→Option ((Bool×Unit)×Unit)) (K0:Bool→tSch→Option ((Bool×Unit)×Unit)) (K1:tSch→Option ((Bool×Unit)×Unit)) (lp1:Int→Int→tSch→ByteArray×List Int×Bool×Unit→Option ((Bool×Unit)×Unit)) (x0:Int) (x1:tSch):Option ((Bool×Unit)×Unit):=br (decide (x0<(↑(List.length (Prod.fst (Prod.snd (Prod.snd x1)))):Int))) (br (decide (0≤x0)&&decide (x0<(↑(List.length (Prod.fst (Prod.snd (Prod.snd x1)))):Int))) (qg (qoc D (Prod.fst (List.getD (Prod.fst (Prod.snd (Prod.snd x1))) (Int.toNat x0) (ByteArray.empty,[],false,())))) fun b↦br (!Prod.fst (Prod.fst b)) (K0 false x1) (qg (qnx D x1 (Prod.fst (Prod.snd (List.getD (Prod.fst (Prod.snd (Prod.snd x1))) (Int.toNat x0) (ByteArray.empty,[],false,())))) 3) fun b↦br (!Prod.fst (Prod.fst b)) (K0 false x1) (lp1 x0 0 x1 (List.getD (Prod.fst (Prod.snd (Prod.snd x1))) (Int.toNat x0) (ByteArray.empty,[],false,()))))) none) (K1 x1)
def qdu (D:DX)(n:Nat) (K0:Bool→tSch→Option ((Bool×Unit)×Unit)) (K1:tSch→Option ((Bool×Unit)×Unit)):Nat→(Int)→(tSch)→Option ((Bool×Unit)×Unit) | 0=>(fun x0 x1=>none) | m+1=>(fun x0 x1=>qqg D n (qdu D n K0 K1 m) K0 K1 (qpk D n (qdu D n K0 K1 m) K0 K1) x0 x1)
def qn1 (D:DX)(n:Nat) (v0_0:Bool) (v0_1:tSch):Option ((Bool×Unit)×Unit):=some ((v0_0,()),())
def qn4 (D:DX)(n:Nat) (v1_0:tSch):Option ((Bool×Unit)×Unit):=some ((decide ((↑(List.length (Prod.fst (Prod.snd (Prod.snd v1_0)))):Int)≤3),()),())
def qo6 (D:DX)(n:Nat):(Int)→(tSch)→Option ((Bool×Unit)×Unit):=(fun x0 x1=>qdu D n (fun v0_0 v0_1=>qn1 D n v0_0 v0_1) (fun v1_0=>qn4 D n v1_0) n x0 x1)
def qrz (D:DX)(n:Nat) (lp0:Int→tSch→Option ((Bool×Unit)×Unit)) (a0:tSch):Option ((Bool×Unit)×Unit):=lp0 0 a0
def qsm (D:DX)(n:Nat) (a0:tSch):Option ((Bool×Unit)×Unit):=qrz D n (qo6 D n) a0
def qdd (x0:Int) (x1:tSch):St:=stq 47 [(1,AV.addr 1 []),(3,avI x0)] [(1,Root.mk yS Mk.no x1 true)] 
def qd4 (v0_0:Bool) (v0_1:tSch):St:=stq 47 [(1,AV.addr 1 []),(2,AV.val Ty.bool v0_0)] [(1,Root.mk yS Mk.no v0_1 true)] 
def qdy (v1_0:tSch):St:=stq 47 [(1,AV.addr 1 [])] [(1,Root.mk yS Mk.no v1_0 true)] 
def qgg (x1_0:Int) (x1_1:Int) (x1_2:tSch) (x1_3:ByteArray×List Int×Bool×Unit):St:=stq 47 [(1,AV.addr 1 []),(3,avI x1_0),(4,AV.addr 4 []),(5,avI x1_1)] [(1,Root.mk yS Mk.no x1_2 true),(4,Root.mk yX Mk.no x1_3 true)] 
def qj2 (v0_0:Bool) (v0_1:Int) (v0_2:tSch):St:=stq 47 [(1,AV.addr 1 []),(2,AV.val Ty.bool v0_0),(3,avI v0_1)] [(1,Root.mk yS Mk.no v0_2 true)] 
def qjw (v1_0:Int) (v1_1:tSch):St:=stq 47 [(1,AV.addr 1 []),(3,avI v1_0)] [(1,Root.mk yS Mk.no v1_1 true)] 
theorem q7t (D:DX)(n:Nat) (m:Nat) (K:Ex→St→Option (Out ctx 169)) (x1_0:Int) (x1_1:Int) (x1_2:tSch) (x1_3:ByteArray×List Int×Bool×Unit) :
 LQ qc D n 169 [.r,.l,.r,.l,.l,.r,.l,.l,.r,.r,.r,.l] (m+1) (qgg x1_0 x1_1 x1_2 x1_3) K=qqf D n (fun x1_0 x1_1 x1_2 x1_3=>LQ qc D n 169 [.r,.l,.r,.l,.l,.r,.l,.l,.r,.r,.r,.l] m (qgg x1_0 x1_1 x1_2 x1_3) K) (fun v0_0 v0_1 v0_2=>K (Ex.ret) (qj2 v0_0 v0_1 v0_2)) (fun v1_0 v1_1=>K (Ex.exit 2) (qjw v1_0 v1_1)) x1_0 x1_1 x1_2 x1_3:=by kernel_rfl
theorem qwc (D:DX)(n:Nat) (K:Ex→St→Option (Out ctx 169)):∀ (m:Nat) (x1_0:Int) (x1_1:Int) (x1_2:tSch) (x1_3:ByteArray×List Int×Bool×Unit),LQ qc D n 169 [.r,.l,.r,.l,.l,.r,.l,.l,.r,.r,.r,.l] m (qgg x1_0 x1_1 x1_2 x1_3) K=qgb D n (fun v0_0 v0_1 v0_2=>K (Ex.ret) (qj2 v0_0 v0_1 v0_2)) (fun v1_0 v1_1=>K (Ex.exit 2) (qjw v1_0 v1_1)) m x1_0 x1_1 x1_2 x1_3
 | 0,x1_0,x1_1,x1_2,x1_3=>q8 ..
 | m+1,x1_0,x1_1,x1_2,x1_3=>by
  have ih:(fun x1_0 x1_1 x1_2 x1_3=>LQ qc D n 169 [.r,.l,.r,.l,.l,.r,.l,.l,.r,.r,.r,.l] m (qgg x1_0 x1_1 x1_2 x1_3) K)=qgb D n (fun v0_0 v0_1 v0_2=>K (Ex.ret) (qj2 v0_0 v0_1 v0_2)) (fun v1_0 v1_1=>K (Ex.exit 2) (qjw v1_0 v1_1)) m:=by funext x1_0 x1_1 x1_2 x1_3;exact qwc D n K m x1_0 x1_1 x1_2 x1_3
  rw[q7t]
  rw[ih];rfl
theorem q6q (D:DX)(n:Nat) (m:Nat) (K:Ex→St→Option (Out ctx 169)) (v0_0:Bool) (v0_1:Int) (v0_2:tSch) :
 (CQ qc D n 169 [.r,.l,.r,.l,.l] [.r,.l,.l,.r,.r,.r,.l] (LK qc D n 169 [.r,.l,.r,.l] m K)) (Ex.ret) (qj2 v0_0 v0_1 v0_2)=qvg D n (fun x0 x1=>LQ qc D n 169 [.r,.l,.r,.l] m (qdd x0 x1) K) (fun v0_0 v0_1=>K (Ex.ret) (qd4 v0_0 v0_1)) (fun v1_0=>K (Ex.exit 0) (qdy v1_0)) v0_0 v0_1 v0_2:=by kernel_rfl
theorem q6p (D:DX)(n:Nat) (m:Nat) (K:Ex→St→Option (Out ctx 169)) (v1_0:Int) (v1_1:tSch) :
 (CQ qc D n 169 [.r,.l,.r,.l,.l] [.r,.l,.l,.r,.r,.r,.l] (LK qc D n 169 [.r,.l,.r,.l] m K)) (Ex.exit 2) (qjw v1_0 v1_1)=qof D n (fun x0 x1=>LQ qc D n 169 [.r,.l,.r,.l] m (qdd x0 x1) K) (fun v0_0 v0_1=>K (Ex.ret) (qd4 v0_0 v0_1)) (fun v1_0=>K (Ex.exit 0) (qdy v1_0)) v1_0 v1_1:=by kernel_rfl
theorem q6h (D:DX)(n:Nat) (m:Nat) (K:Ex→St→Option (Out ctx 169)) (x1_0:Int) (x1_1:Int) (x1_2:tSch) (x1_3:ByteArray×List Int×Bool×Unit) :
 LQ qc D n 169 [.r,.l,.r,.l,.l,.r,.l,.l,.r,.r,.r,.l] n (qgg x1_0 x1_1 x1_2 x1_3) (CQ qc D n 169 [.r,.l,.r,.l,.l] [.r,.l,.l,.r,.r,.r,.l] (LK qc D n 169 [.r,.l,.r,.l] m K))=qpk D n (fun x0 x1=>LQ qc D n 169 [.r,.l,.r,.l] m (qdd x0 x1) K) (fun v0_0 v0_1=>K (Ex.ret) (qd4 v0_0 v0_1)) (fun v1_0=>K (Ex.exit 0) (qdy v1_0)) x1_0 x1_1 x1_2 x1_3:=by
 rw[qwc]
 simp only[q6q,q6p]
 rfl
theorem q77 (D:DX)(n:Nat) (m:Nat) (K:Ex→St→Option (Out ctx 169)) (x0:Int) (x1:tSch) :
 LQ qc D n 169 [.r,.l,.r,.l] (m+1) (qdd x0 x1) K=qqg D n (fun x0 x1=>LQ qc D n 169 [.r,.l,.r,.l] m (qdd x0 x1) K) (fun v0_0 v0_1=>K (Ex.ret) (qd4 v0_0 v0_1)) (fun v1_0=>K (Ex.exit 0) (qdy v1_0)) (fun x1_0 x1_1 x1_2 x1_3=>LQ qc D n 169 [.r,.l,.r,.l,.l,.r,.l,.l,.r,.r,.r,.l] n (qgg x1_0 x1_1 x1_2 x1_3) (CQ qc D n 169 [.r,.l,.r,.l,.l] [.r,.l,.l,.r,.r,.r,.l] (LK qc D n 169 [.r,.l,.r,.l] m K))) x0 x1:=by kernel_rfl
theorem qwl (D:DX)(n:Nat) (K:Ex→St→Option (Out ctx 169)):∀ (m:Nat) (x0:Int) (x1:tSch),LQ qc D n 169 [.r,.l,.r,.l] m (qdd x0 x1) K=qdu D n (fun v0_0 v0_1=>K (Ex.ret) (qd4 v0_0 v0_1)) (fun v1_0=>K (Ex.exit 0) (qdy v1_0)) m x0 x1
 | 0,x0,x1=>q8 ..
 | m+1,x0,x1=>by
  have ih:(fun x0 x1=>LQ qc D n 169 [.r,.l,.r,.l] m (qdd x0 x1) K)=qdu D n (fun v0_0 v0_1=>K (Ex.ret) (qd4 v0_0 v0_1)) (fun v1_0=>K (Ex.exit 0) (qdy v1_0)) m:=by funext x0 x1;exact qwl D n K m x0 x1
  rw[q77]
  simp only[q6h]
  rw[ih];rfl
theorem q6u (D:DX)(n:Nat) (v0_0:Bool) (v0_1:tSch) :
 (CQ qc D n 169 [] [.r,.l,.r,.l] (qi qc 169)) (Ex.ret) (qd4 v0_0 v0_1)=qn1 D n v0_0 v0_1:=by kernel_rfl
theorem q6w (D:DX)(n:Nat) (v1_0:tSch) :
 (CQ qc D n 169 [] [.r,.l,.r,.l] (qi qc 169)) (Ex.exit 0) (qdy v1_0)=qn4 D n v1_0:=by kernel_rfl
theorem q51 (D:DX)(n:Nat) (x0:Int) (x1:tSch) :
 LQ qc D n 169 [.r,.l,.r,.l] n (qdd x0 x1) (CQ qc D n 169 [] [.r,.l,.r,.l] (qi qc 169))=qo6 D n x0 x1:=by
 rw[qwl]
 simp only[q6u,q6w]
 rfl
theorem qbbl (D:DX)(n:Nat) (a0:tSch):rfC qc D n 169 (a0,())=qsm D n a0:=by
 have h:rfC qc D n 169 (a0,())=qrz D n (fun x0 x1=>LQ qc D n 169 [.r,.l,.r,.l] n (qdd x0 x1) (CQ qc D n 169 [] [.r,.l,.r,.l] (qi qc 169))) a0:=by kernel_rfl
 rw[h]
 simp only[q51]
 rfl

def q64 (D:DX)(n:Nat) (a0:List Int×Int×Int×Unit):Option ((Int×Unit)×tCur×Unit):=br (decide (Prod.fst (Prod.snd a0)<(↑(List.length (Prod.fst a0)):Int))) (br (decide (0≤Prod.fst (Prod.snd a0))&&decide (Prod.fst (Prod.snd a0)<(↑(List.length (Prod.fst a0)):Int))) (some ((IntKind.wrap IntKind.i64 (↑(BitVec.toNat (BitVec.and (BitVec.ofInt (IntKind.bits IntKind.i64) (IntKind.wrap IntKind.i64 (IntKind.wrap IntKind.i64 (↑(BitVec.toNat (BitVec.and (BitVec.ofInt (IntKind.bits IntKind.i64) (IntKind.wrap IntKind.i64 (↑(BitVec.toNat (BitVec.xor (BitVec.ofInt (IntKind.bits IntKind.i64) (Int.fdiv (IntKind.wrap IntKind.i64 (IntKind.wrap IntKind.i64 (Prod.fst (Prod.snd (Prod.snd a0)) * 6364136223846793005)+1442695040888963407)) (Int.pow 2 (if Int.toNat 33≤IntKind.bits IntKind.i64 then Int.toNat 33 else IntKind.bits IntKind.i64)))) (BitVec.ofInt (IntKind.bits IntKind.i64) (Int.fdiv (IntKind.wrap IntKind.i64 (IntKind.wrap IntKind.i64 (Prod.fst (Prod.snd (Prod.snd a0)) * 6364136223846793005)+1442695040888963407)) (Int.pow 2 (if Int.toNat 45≤IntKind.bits IntKind.i64 then Int.toNat 45 else IntKind.bits IntKind.i64)))))):Int))) (BitVec.ofInt (IntKind.bits IntKind.i64) 255))):Int)+IntKind.wrap IntKind.i64 (List.getD (Prod.fst a0) (Int.toNat (Prod.fst (Prod.snd a0))) 0)))) (BitVec.ofInt (IntKind.bits IntKind.i64) 255))):Int),()),(Prod.fst a0,IntKind.wrap IntKind.i64 (Prod.fst (Prod.snd a0)+1),IntKind.wrap IntKind.i64 (IntKind.wrap IntKind.i64 (Prod.fst (Prod.snd (Prod.snd a0)) * 6364136223846793005)+1442695040888963407),Prod.snd (Prod.snd (Prod.snd a0))),())) none) (some ((IntKind.wrap IntKind.i64 (↑(BitVec.toNat (BitVec.and (BitVec.ofInt (IntKind.bits IntKind.i64) (IntKind.wrap IntKind.i64 (↑(BitVec.toNat (BitVec.xor (BitVec.ofInt (IntKind.bits IntKind.i64) (Int.fdiv (IntKind.wrap IntKind.i64 (IntKind.wrap IntKind.i64 (Prod.fst (Prod.snd (Prod.snd a0)) * 6364136223846793005)+1442695040888963407)) (Int.pow 2 (if Int.toNat 33≤IntKind.bits IntKind.i64 then Int.toNat 33 else IntKind.bits IntKind.i64)))) (BitVec.ofInt (IntKind.bits IntKind.i64) (Int.fdiv (IntKind.wrap IntKind.i64 (IntKind.wrap IntKind.i64 (Prod.fst (Prod.snd (Prod.snd a0)) * 6364136223846793005)+1442695040888963407)) (Int.pow 2 (if Int.toNat 45≤IntKind.bits IntKind.i64 then Int.toNat 45 else IntKind.bits IntKind.i64)))))):Int))) (BitVec.ofInt (IntKind.bits IntKind.i64) 255))):Int),()),(Prod.fst a0,Prod.fst (Prod.snd a0),IntKind.wrap IntKind.i64 (IntKind.wrap IntKind.i64 (Prod.fst (Prod.snd (Prod.snd a0)) * 6364136223846793005)+1442695040888963407),Prod.snd (Prod.snd (Prod.snd a0))),()))
def qzw (D:DX)(n:Nat) (a0:List Int×Int×Int×Unit):Option ((Int×Unit)×tCur×Unit):=q64 D n a0
theorem qbji (D:DX)(n:Nat) (a0:List Int×Int×Int×Unit):rfC qc D n 170 (a0,())=qzw D n a0:=by kernel_rfl



















def q2r (D:DX)(n:Nat) (a0:List Int×Int×Int×Unit) (a1:Int):Option ((tVal×Unit)×tCur×Unit):=br (decide (a1=1)) (qg (qb9 D a0 2) fun b↦some (((a1,Prod.fst (Prod.fst b),ByteArray.empty,()),()),Prod.fst (Prod.snd b),())) (br (decide (a1=2)) (qg (qkg D a0 [0,1,-1,7,255,256,-1000000000000,1000000000000]) fun b↦some (((a1,Prod.fst (Prod.fst b),ByteArray.empty,()),()),Prod.fst (Prod.snd b),())) (br (decide (a1=3)) (qg (qs5 D a0 (List.set (List.set (List.set (List.set (List.set (List.set (List.set (List.set (List.set (List.replicate 9 ByteArray.empty) 0 (ByteArray.mk #[])) 1 (ByteArray.mk #[UInt8.ofNat 97])) 2 (ByteArray.mk #[UInt8.ofNat 97,UInt8.ofNat 98])) 3 (ByteArray.mk #[UInt8.ofNat 97,UInt8.ofNat 0])) 4 (ByteArray.mk #[UInt8.ofNat 97,UInt8.ofNat 0,UInt8.ofNat 98])) 5 (ByteArray.mk #[UInt8.ofNat 0])) 6 (ByteArray.mk #[UInt8.ofNat 1])) 7 (ByteArray.mk #[UInt8.ofNat 255])) 8 (ByteArray.mk #[UInt8.ofNat 98]))) fun b↦some (((a1,0,Prod.fst (Prod.fst b),()),()),Prod.fst (Prod.snd b),())) (some (((0,0,ByteArray.empty,()),()),a0,()))))
def qtd (D:DX)(n:Nat) (a0:List Int×Int×Int×Unit) (a1:Int):Option ((tVal×Unit)×tCur×Unit):=q2r D n a0 a1
theorem qbc9 (D:DX)(n:Nat) (a0:List Int×Int×Int×Unit) (a1:Int):rfC qc D n 190 (a0,(a1,()))=qtd D n a0 a1:=by kernel_rfl


def qdq (D:DX)(n:Nat) (a1:Clo) (go:tIxs→Int→Int→Option ((Int×Unit)×Unit)) (K0:Int→Option ((Int×Unit)×Unit)) (K1:Option ((Int×Unit)×Unit)) (x0:tIxs) (x1:Int) (x2:Int):Option ((Int×Unit)×Unit):=br (decide (x2<x1)) (br (decide (0≤x2)&&decide (x2<(↑(List.length x0):Int))) (qg (qca ctx D a1 [CapV.val (Ty.pair Ty.str (Ty.pair (Ty.sl (Ty.int IntKind.i64)) (Ty.pair Ty.bool Ty.unit))) (List.getD x0 (Int.toNat x2) (ByteArray.empty,[],false,()))] Ty.bool) fun b↦br b (K0 x2) (go x0 x1 (IntKind.wrap IntKind.i64 (x2+1)))) none) K1
def qbq (D:DX)(n:Nat) (a1:Clo) (K0:Int→Option ((Int×Unit)×Unit)) (K1:Option ((Int×Unit)×Unit)):Nat→(tIxs)→(Int)→(Int)→Option ((Int×Unit)×Unit) | 0=>(fun x0 x1 x2=>none) | m+1=>(fun x0 x1 x2=>qdq D n a1 (qbq D n a1 K0 K1 m) K0 K1 x0 x1 x2)
def qf0 (D:DX)(n:Nat) (a1:Clo) (v0_0:Int):Option ((Int×Unit)×Unit):=some ((v0_0,()),())
def qfx (D:DX)(n:Nat) (a1:Clo):Option ((Int×Unit)×Unit):=some ((-1,()),())
def qdl (D:DX)(n:Nat) (a1:Clo):(tIxs)→(Int)→(Int)→Option ((Int×Unit)×Unit):=(fun x0 x1 x2=>qbq D n a1 (fun v0_0=>qf0 D n a1 v0_0) (qfx D n a1) n x0 x1 x2)
def qd5 (D:DX)(n:Nat) (a1:Clo) (lp0:tIxs→Int→Int→Option ((Int×Unit)×Unit)) (a0:tIxs):Option ((Int×Unit)×Unit):=lp0 a0 (↑(List.length a0):Int) 0
def qd1 (D:DX)(n:Nat) (a0:tIxs) (a1:Clo):Option ((Int×Unit)×Unit):=qd5 D n a1 (qdl D n a1) a0
def qbr (a1:Clo) (x0:tIxs) (x1:Int) (x2:Int):St:=stq 19 [(0,AV.val (Ty.sl yX) x0),(1,AV.cloV a1),(7,avI x1),(8,avI x2)] [] 
def qcn (a1:Clo) (v0_0:Int):St:=stq 19 [(4,avI v0_0)] [] 
def qcm (a1:Clo):St:=stq 19 [] [] 
theorem qnd (D:DX)(n:Nat) (a1:Clo) (m:Nat) (K:Ex→St→Option (Out ctx 193)) (x0:tIxs) (x1:Int) (x2:Int) :
 LQ qc D n 193 [.r,.l,.r,.l] (m+1) (qbr a1 x0 x1 x2) K=qdq D n a1 (fun x0 x1 x2=>LQ qc D n 193 [.r,.l,.r,.l] m (qbr a1 x0 x1 x2) K) (fun v0_0=>K (Ex.ret) (qcn a1 v0_0)) (K (Ex.exit 0) (qcm a1)) x0 x1 x2:=by kernel_rfl
theorem qgl (D:DX)(n:Nat) (a1:Clo) (K:Ex→St→Option (Out ctx 193)):∀ (m:Nat) (x0:tIxs) (x1:Int) (x2:Int),LQ qc D n 193 [.r,.l,.r,.l] m (qbr a1 x0 x1 x2) K=qbq D n a1 (fun v0_0=>K (Ex.ret) (qcn a1 v0_0)) (K (Ex.exit 0) (qcm a1)) m x0 x1 x2
 | 0,x0,x1,x2=>q8 ..
 | m+1,x0,x1,x2=>by
  have ih:(fun x0 x1 x2=>LQ qc D n 193 [.r,.l,.r,.l] m (qbr a1 x0 x1 x2) K)=qbq D n a1 (fun v0_0=>K (Ex.ret) (qcn a1 v0_0)) (K (Ex.exit 0) (qcm a1)) m:=by funext x0 x1 x2;exact qgl D n a1 K m x0 x1 x2
  rw[qnd]
  rw[ih];rfl
theorem qmp (D:DX)(n:Nat) (a1:Clo) (v0_0:Int) :
 (CQ qc D n 193 [] [.r,.l,.r,.l] (qi qc 193)) (Ex.ret) (qcn a1 v0_0)=qf0 D n a1 v0_0:=by kernel_rfl
theorem qmk (D:DX)(n:Nat) (a1:Clo) :
 (CQ qc D n 193 [] [.r,.l,.r,.l] (qi qc 193)) (Ex.exit 0) (qcm a1)=qfx D n a1:=by kernel_rfl
theorem qmq (D:DX)(n:Nat) (a1:Clo) (x0:tIxs) (x1:Int) (x2:Int) :
 LQ qc D n 193 [.r,.l,.r,.l] n (qbr a1 x0 x1 x2) (CQ qc D n 193 [] [.r,.l,.r,.l] (qi qc 193))=qdl D n a1 x0 x1 x2:=by
 rw[qgl]
 simp only[qmp,qmk]
 rfl
theorem qn8 (D:DX)(n:Nat) (a0:tIxs) (a1:Clo):rfC qc D n 193 (a0,(a1,()))=qd1 D n a0 a1:=by
 have h:rfC qc D n 193 (a0,(a1,()))=qd5 D n a1 (fun x0 x1 x2=>LQ qc D n 193 [.r,.l,.r,.l] n (qbr a1 x0 x1 x2) (CQ qc D n 193 [] [.r,.l,.r,.l] (qi qc 193))) a0:=by kernel_rfl
 rw[h]
 simp only[qmq]
 rfl

def qem (D:DX)(n:Nat) (go:qe→Int→Int→Int×Int×ByteArray×Unit→Option ((Int×Unit)×Unit)) (K0:Int→Option ((Int×Unit)×Unit)) (K1:Option ((Int×Unit)×Unit)) (x0:qe) (x1:Int) (x2:Int) (x3:Int×Int×ByteArray×Unit):Option ((Int×Unit)×Unit):=br (decide (x2<x1)) (br (decide (0≤x2)&&decide (x2<(↑(List.length x0):Int))) (br (qkw (Ty.pair (Ty.int IntKind.i64) (Ty.pair (Ty.int IntKind.i64) (Ty.pair Ty.str Ty.unit))) x3 (List.getD x0 (Int.toNat x2) (0,0,ByteArray.empty,()))) (K0 x2) (go x0 x1 (IntKind.wrap IntKind.i64 (x2+1)) x3)) none) K1
def qb5 (D:DX)(n:Nat) (K0:Int→Option ((Int×Unit)×Unit)) (K1:Option ((Int×Unit)×Unit)):Nat→(qe)→(Int)→(Int)→tVal→Option ((Int×Unit)×Unit) | 0=>(fun x0 x1 x2 x3=>none) | m+1=>(fun x0 x1 x2 x3=>qem D n (qb5 D n K0 K1 m) K0 K1 x0 x1 x2 x3)
def qhb (D:DX)(n:Nat) (v0_0:Int):Option ((Int×Unit)×Unit):=some ((v0_0,()),())
def qhg (D:DX)(n:Nat):Option ((Int×Unit)×Unit):=some ((-1,()),())
def qef (D:DX)(n:Nat):(qe)→(Int)→(Int)→tVal→Option ((Int×Unit)×Unit):=(fun x0 x1 x2 x3=>qb5 D n (fun v0_0=>qhb D n v0_0) (qhg D n) n x0 x1 x2 x3)
def qe5 (D:DX)(n:Nat) (lp0:qe→Int→Int→Int×Int×ByteArray×Unit→Option ((Int×Unit)×Unit)) (a0:qe) (a1:Int×Int×ByteArray×Unit):Option ((Int×Unit)×Unit):=lp0 a0 (↑(List.length a0):Int) 0 a1
def qe4 (D:DX)(n:Nat) (a0:qe) (a1:Int×Int×ByteArray×Unit):Option ((Int×Unit)×Unit):=qe5 D n (qef D n) a0 a1
def qb4 (x0:qe) (x1:Int) (x2:Int) (x3:Int×Int×ByteArray×Unit):St:=stq 19 [(0,AV.val (Ty.sl yV) x0),(3,AV.addr 3 []),(7,avI x1),(8,avI x2)] [(3,Root.mk yV Mk.no x3 true)] 
def qc5 (v0_0:Int):St:=stq 19 [(4,avI v0_0)] [] 
def qc1:St:=stq 19 [] [] 
theorem qo1 (D:DX)(n:Nat) (m:Nat) (K:Ex→St→Option (Out ctx 194)) (x0:qe) (x1:Int) (x2:Int) (x3:Int×Int×ByteArray×Unit) :
 LQ qc D n 194 [.r,.l,.r,.l] (m+1) (qb4 x0 x1 x2 x3) K=qem D n (fun x0 x1 x2 x3=>LQ qc D n 194 [.r,.l,.r,.l] m (qb4 x0 x1 x2 x3) K) (fun v0_0=>K (Ex.ret) (qc5 v0_0)) (K (Ex.exit 0) (qc1)) x0 x1 x2 x3:=by kernel_rfl
theorem qhq (D:DX)(n:Nat) (K:Ex→St→Option (Out ctx 194)):∀ (m:Nat) (x0:qe) (x1:Int) (x2:Int) (x3:Int×Int×ByteArray×Unit),LQ qc D n 194 [.r,.l,.r,.l] m (qb4 x0 x1 x2 x3) K=qb5 D n (fun v0_0=>K (Ex.ret) (qc5 v0_0)) (K (Ex.exit 0) (qc1)) m x0 x1 x2 x3
 | 0,x0,x1,x2,x3=>q8 ..
 | m+1,x0,x1,x2,x3=>by
  have ih:(fun x0 x1 x2 x3=>LQ qc D n 194 [.r,.l,.r,.l] m (qb4 x0 x1 x2 x3) K)=qb5 D n (fun v0_0=>K (Ex.ret) (qc5 v0_0)) (K (Ex.exit 0) (qc1)) m:=by funext x0 x1 x2 x3;exact qhq D n K m x0 x1 x2 x3
  rw[qo1]
  rw[ih];rfl
theorem qon (D:DX)(n:Nat) (v0_0:Int) :
 (CQ qc D n 194 [] [.r,.l,.r,.l] (qi qc 194)) (Ex.ret) (qc5 v0_0)=qhb D n v0_0:=by kernel_rfl
theorem qoh (D:DX)(n:Nat) :
 (CQ qc D n 194 [] [.r,.l,.r,.l] (qi qc 194)) (Ex.exit 0) (qc1)=qhg D n:=by kernel_rfl
theorem qov (D:DX)(n:Nat) (x0:qe) (x1:Int) (x2:Int) (x3:Int×Int×ByteArray×Unit) :
 LQ qc D n 194 [.r,.l,.r,.l] n (qb4 x0 x1 x2 x3) (CQ qc D n 194 [] [.r,.l,.r,.l] (qi qc 194))=qef D n x0 x1 x2 x3:=by
 rw[qhq]
 simp only[qon,qoh]
 rfl
theorem qqn (D:DX)(n:Nat) (a0:qe) (a1:Int×Int×ByteArray×Unit):rfC qc D n 194 (a0,(a1,()))=qe4 D n a0 a1:=by
 have h:rfC qc D n 194 (a0,(a1,()))=qe5 D n (fun x0 x1 x2 x3=>LQ qc D n 194 [.r,.l,.r,.l] n (qb4 x0 x1 x2 x3) (CQ qc D n 194 [] [.r,.l,.r,.l] (qi qc 194))) a0 a1:=by kernel_rfl
 rw[h]
 simp only[qov]
 rfl

def qeo (D:DX)(n:Nat) (a1:Clo) (go:qdo→Int→Int→Option ((Int×Unit)×Unit)) (K0:Int→Option ((Int×Unit)×Unit)) (K1:Option ((Int×Unit)×Unit)) (x0:qdo) (x1:Int) (x2:Int):Option ((Int×Unit)×Unit):=br (decide (x2<x1)) (br (decide (0≤x2)&&decide (x2<(↑(List.length x0):Int))) (qg (qca ctx D a1 [CapV.val (Ty.pair Ty.str (Ty.pair (Ty.int IntKind.i64) (Ty.pair Ty.bool Ty.unit))) (List.getD x0 (Int.toNat x2) (ByteArray.empty,0,false,()))] Ty.bool) fun b↦br b (K0 x2) (go x0 x1 (IntKind.wrap IntKind.i64 (x2+1)))) none) K1
def qb0 (D:DX)(n:Nat) (a1:Clo) (K0:Int→Option ((Int×Unit)×Unit)) (K1:Option ((Int×Unit)×Unit)):Nat→(qdo)→(Int)→(Int)→Option ((Int×Unit)×Unit) | 0=>(fun x0 x1 x2=>none) | m+1=>(fun x0 x1 x2=>qeo D n a1 (qb0 D n a1 K0 K1 m) K0 K1 x0 x1 x2)
def qhf (D:DX)(n:Nat) (a1:Clo) (v0_0:Int):Option ((Int×Unit)×Unit):=some ((v0_0,()),())
def qhc (D:DX)(n:Nat) (a1:Clo):Option ((Int×Unit)×Unit):=some ((-1,()),())
def qeh (D:DX)(n:Nat) (a1:Clo):(qdo)→(Int)→(Int)→Option ((Int×Unit)×Unit):=(fun x0 x1 x2=>qb0 D n a1 (fun v0_0=>qhf D n a1 v0_0) (qhc D n a1) n x0 x1 x2)
def qe3 (D:DX)(n:Nat) (a1:Clo) (lp0:qdo→Int→Int→Option ((Int×Unit)×Unit)) (a0:qdo):Option ((Int×Unit)×Unit):=lp0 a0 (↑(List.length a0):Int) 0
def qe0 (D:DX)(n:Nat) (a0:qdo) (a1:Clo):Option ((Int×Unit)×Unit):=qe3 D n a1 (qeh D n a1) a0
def qb1 (a1:Clo) (x0:qdo) (x1:Int) (x2:Int):St:=stq 19 [(0,AV.val (Ty.sl yC) x0),(1,AV.cloV a1),(7,avI x1),(8,avI x2)] [] 
def qc4 (a1:Clo) (v0_0:Int):St:=stq 19 [(4,avI v0_0)] [] 
def qc2 (a1:Clo):St:=stq 19 [] [] 
theorem qo7 (D:DX)(n:Nat) (a1:Clo) (m:Nat) (K:Ex→St→Option (Out ctx 195)) (x0:qdo) (x1:Int) (x2:Int) :
 LQ qc D n 195 [.r,.l,.r,.l] (m+1) (qb1 a1 x0 x1 x2) K=qeo D n a1 (fun x0 x1 x2=>LQ qc D n 195 [.r,.l,.r,.l] m (qb1 a1 x0 x1 x2) K) (fun v0_0=>K (Ex.ret) (qc4 a1 v0_0)) (K (Ex.exit 0) (qc2 a1)) x0 x1 x2:=by kernel_rfl
theorem qhr (D:DX)(n:Nat) (a1:Clo) (K:Ex→St→Option (Out ctx 195)):∀ (m:Nat) (x0:qdo) (x1:Int) (x2:Int),LQ qc D n 195 [.r,.l,.r,.l] m (qb1 a1 x0 x1 x2) K=qb0 D n a1 (fun v0_0=>K (Ex.ret) (qc4 a1 v0_0)) (K (Ex.exit 0) (qc2 a1)) m x0 x1 x2
 | 0,x0,x1,x2=>q8 ..
 | m+1,x0,x1,x2=>by
  have ih:(fun x0 x1 x2=>LQ qc D n 195 [.r,.l,.r,.l] m (qb1 a1 x0 x1 x2) K)=qb0 D n a1 (fun v0_0=>K (Ex.ret) (qc4 a1 v0_0)) (K (Ex.exit 0) (qc2 a1)) m:=by funext x0 x1 x2;exact qhr D n a1 K m x0 x1 x2
  rw[qo7]
  rw[ih];rfl
theorem qou (D:DX)(n:Nat) (a1:Clo) (v0_0:Int) :
 (CQ qc D n 195 [] [.r,.l,.r,.l] (qi qc 195)) (Ex.ret) (qc4 a1 v0_0)=qhf D n a1 v0_0:=by kernel_rfl
theorem qoi (D:DX)(n:Nat) (a1:Clo) :
 (CQ qc D n 195 [] [.r,.l,.r,.l] (qi qc 195)) (Ex.exit 0) (qc2 a1)=qhc D n a1:=by kernel_rfl
theorem qoo (D:DX)(n:Nat) (a1:Clo) (x0:qdo) (x1:Int) (x2:Int) :
 LQ qc D n 195 [.r,.l,.r,.l] n (qb1 a1 x0 x1 x2) (CQ qc D n 195 [] [.r,.l,.r,.l] (qi qc 195))=qeh D n a1 x0 x1 x2:=by
 rw[qhr]
 simp only[qou,qoi]
 rfl
theorem qq6 (D:DX)(n:Nat) (a0:qdo) (a1:Clo):rfC qc D n 195 (a0,(a1,()))=qe0 D n a0 a1:=by
 have h:rfC qc D n 195 (a0,(a1,()))=qe3 D n a1 (fun x0 x1 x2=>LQ qc D n 195 [.r,.l,.r,.l] n (qb1 a1 x0 x1 x2) (CQ qc D n 195 [] [.r,.l,.r,.l] (qi qc 195))) a0:=by kernel_rfl
 rw[h]
 simp only[qoo]
 rfl

def q5a (D:DX)(n:Nat) (a0:ByteArray×Int×Bool×Unit) (a1:ByteArray):Option ((Bool×Unit)×Unit):=some ((List.beq (ByteArray.toList (Prod.fst a0)) (ByteArray.toList a1),()),())
def qx5 (D:DX)(n:Nat) (a0:ByteArray×Int×Bool×Unit) (a1:ByteArray):Option ((Bool×Unit)×Unit):=q5a D n a0 a1
theorem qbg0 (D:DX)(n:Nat) (a0:ByteArray×Int×Bool×Unit) (a1:ByteArray):rfC qc D n 196 (a0,(a1,()))=qx5 D n a0 a1:=by kernel_rfl

def qp2 (D:DX)(n:Nat) (a0:List Int) (a1:Int):Option ((Bool×Unit)×Unit):=qg (qmb D a0 a1) fun b↦some ((decide (Prod.fst (Prod.fst b)≥0),()),())
def qjy (D:DX)(n:Nat) (a0:List Int) (a1:Int):Option ((Bool×Unit)×Unit):=qp2 D n a0 a1
theorem q1h (D:DX)(n:Nat) (a0:List Int) (a1:Int):rfC qc D n 197 (a0,(a1,()))=qjy D n a0 a1:=by kernel_rfl

def qit (D:DX)(n:Nat) (a1:Clo) (go:List Int→Int→Int→Option ((Int×Unit)×Unit)) (K0:Int→Option ((Int×Unit)×Unit)) (K1:Option ((Int×Unit)×Unit)) (x0:List Int) (x1:Int) (x2:Int):Option ((Int×Unit)×Unit):=br (decide (x2<x1)) (br (decide (0≤x2)&&decide (x2<(↑(List.length x0):Int))) (qg (qca ctx D a1 [CapV.val (Ty.int IntKind.i64) (List.getD x0 (Int.toNat x2) 0)] Ty.bool) fun b↦br b (K0 x2) (go x0 x1 (IntKind.wrap IntKind.i64 (x2+1)))) none) K1
def qc7 (D:DX)(n:Nat) (a1:Clo) (K0:Int→Option ((Int×Unit)×Unit)) (K1:Option ((Int×Unit)×Unit)):Nat→(List Int)→(Int)→(Int)→Option ((Int×Unit)×Unit) | 0=>(fun x0 x1 x2=>none) | m+1=>(fun x0 x1 x2=>qit D n a1 (qc7 D n a1 K0 K1 m) K0 K1 x0 x1 x2)
def qmh (D:DX)(n:Nat) (a1:Clo) (v0_0:Int):Option ((Int×Unit)×Unit):=some ((v0_0,()),())
def qmg (D:DX)(n:Nat) (a1:Clo):Option ((Int×Unit)×Unit):=some ((-1,()),())
def qh4 (D:DX)(n:Nat) (a1:Clo):(List Int)→(Int)→(Int)→Option ((Int×Unit)×Unit):=(fun x0 x1 x2=>qc7 D n a1 (fun v0_0=>qmh D n a1 v0_0) (qmg D n a1) n x0 x1 x2)
def qjn (D:DX)(n:Nat) (a1:Clo) (lp0:List Int→Int→Int→Option ((Int×Unit)×Unit)) (a0:List Int):Option ((Int×Unit)×Unit):=lp0 a0 (↑(List.length a0):Int) 0
def qjj (D:DX)(n:Nat) (a0:List Int) (a1:Clo):Option ((Int×Unit)×Unit):=qjn D n a1 (qh4 D n a1) a0
def qc8 (a1:Clo) (x0:List Int) (x1:Int) (x2:Int):St:=stq 19 [(0,AV.val (Ty.sl yI) x0),(1,AV.cloV a1),(7,avI x1),(8,avI x2)] [] 
def qer (a1:Clo) (v0_0:Int):St:=stq 19 [(4,avI v0_0)] [] 
def qeu (a1:Clo):St:=stq 19 [] [] 
theorem qxv (D:DX)(n:Nat) (a1:Clo) (m:Nat) (K:Ex→St→Option (Out ctx 198)) (x0:List Int) (x1:Int) (x2:Int) :
 LQ qc D n 198 [.r,.l,.r,.l] (m+1) (qc8 a1 x0 x1 x2) K=qit D n a1 (fun x0 x1 x2=>LQ qc D n 198 [.r,.l,.r,.l] m (qc8 a1 x0 x1 x2) K) (fun v0_0=>K (Ex.ret) (qer a1 v0_0)) (K (Ex.exit 0) (qeu a1)) x0 x1 x2:=by kernel_rfl
theorem qnp (D:DX)(n:Nat) (a1:Clo) (K:Ex→St→Option (Out ctx 198)):∀ (m:Nat) (x0:List Int) (x1:Int) (x2:Int),LQ qc D n 198 [.r,.l,.r,.l] m (qc8 a1 x0 x1 x2) K=qc7 D n a1 (fun v0_0=>K (Ex.ret) (qer a1 v0_0)) (K (Ex.exit 0) (qeu a1)) m x0 x1 x2
 | 0,x0,x1,x2=>q8 ..
 | m+1,x0,x1,x2=>by
  have ih:(fun x0 x1 x2=>LQ qc D n 198 [.r,.l,.r,.l] m (qc8 a1 x0 x1 x2) K)=qc7 D n a1 (fun v0_0=>K (Ex.ret) (qer a1 v0_0)) (K (Ex.exit 0) (qeu a1)) m:=by funext x0 x1 x2;exact qnp D n a1 K m x0 x1 x2
  rw[qxv]
  rw[ih];rfl
theorem qv8 (D:DX)(n:Nat) (a1:Clo) (v0_0:Int) :
 (CQ qc D n 198 [] [.r,.l,.r,.l] (qi qc 198)) (Ex.ret) (qer a1 v0_0)=qmh D n a1 v0_0:=by kernel_rfl
theorem qv9 (D:DX)(n:Nat) (a1:Clo) :
 (CQ qc D n 198 [] [.r,.l,.r,.l] (qi qc 198)) (Ex.exit 0) (qeu a1)=qmg D n a1:=by kernel_rfl
theorem qv5 (D:DX)(n:Nat) (a1:Clo) (x0:List Int) (x1:Int) (x2:Int) :
 LQ qc D n 198 [.r,.l,.r,.l] n (qc8 a1 x0 x1 x2) (CQ qc D n 198 [] [.r,.l,.r,.l] (qi qc 198))=qh4 D n a1 x0 x1 x2:=by
 rw[qnp]
 simp only[qv8,qv9]
 rfl
theorem qzm (D:DX)(n:Nat) (a0:List Int) (a1:Clo):rfC qc D n 198 (a0,(a1,()))=qjj D n a0 a1:=by
 have h:rfC qc D n 198 (a0,(a1,()))=qjn D n a1 (fun x0 x1 x2=>LQ qc D n 198 [.r,.l,.r,.l] n (qc8 a1 x0 x1 x2) (CQ qc D n 198 [] [.r,.l,.r,.l] (qi qc 198))) a0:=by kernel_rfl
 rw[h]
 simp only[qv5]
 rfl









def qk1 (D:DX)(n:Nat) (go:List Int→Int→Int→Int→Option ((Int×Unit)×Unit)) (K0:Int→Option ((Int×Unit)×Unit)) (K1:Option ((Int×Unit)×Unit)) (x0:List Int) (x1:Int) (x2:Int) (x3:Int):Option ((Int×Unit)×Unit):=br (decide (x3<x2)) (br (decide (0≤x3)&&decide (x3<(↑(List.length x0):Int))) (br (decide (x1=List.getD x0 (Int.toNat x3) 0)) (K0 x3) (go x0 x1 x2 (IntKind.wrap IntKind.i64 (x3+1)))) none) K1
def qdw (D:DX)(n:Nat) (K0:Int→Option ((Int×Unit)×Unit)) (K1:Option ((Int×Unit)×Unit)):Nat→(List Int)→(Int)→(Int)→(Int)→Option ((Int×Unit)×Unit) | 0=>(fun x0 x1 x2 x3=>none) | m+1=>(fun x0 x1 x2 x3=>qk1 D n (qdw D n K0 K1 m) K0 K1 x0 x1 x2 x3)
def qpr (D:DX)(n:Nat) (v0_0:Int):Option ((Int×Unit)×Unit):=some ((v0_0,()),())
def qp5 (D:DX)(n:Nat):Option ((Int×Unit)×Unit):=some ((-1,()),())
def qkh (D:DX)(n:Nat):(List Int)→(Int)→(Int)→(Int)→Option ((Int×Unit)×Unit):=(fun x0 x1 x2 x3=>qdw D n (fun v0_0=>qpr D n v0_0) (qp5 D n) n x0 x1 x2 x3)
def ql9 (D:DX)(n:Nat) (lp0:List Int→Int→Int→Int→Option ((Int×Unit)×Unit)) (a0:List Int) (a1:Int):Option ((Int×Unit)×Unit):=lp0 a0 a1 (↑(List.length a0):Int) 0
def qmd (D:DX)(n:Nat) (a0:List Int) (a1:Int):Option ((Int×Unit)×Unit):=ql9 D n (qkh D n) a0 a1
def qdv (x0:List Int) (x1:Int) (x2:Int) (x3:Int):St:=stq 19 [(0,AV.val (Ty.sl yI) x0),(1,avI x1),(7,avI x2),(8,avI x3)] [] 
def qgp (v0_0:Int):St:=stq 19 [(4,avI v0_0)] [] 
def qgn:St:=stq 19 [] [] 
theorem q2z (D:DX)(n:Nat) (m:Nat) (K:Ex→St→Option (Out ctx 210)) (x0:List Int) (x1:Int) (x2:Int) (x3:Int) :
 LQ qc D n 210 [.r,.l,.r,.l] (m+1) (qdv x0 x1 x2 x3) K=qk1 D n (fun x0 x1 x2 x3=>LQ qc D n 210 [.r,.l,.r,.l] m (qdv x0 x1 x2 x3) K) (fun v0_0=>K (Ex.ret) (qgp v0_0)) (K (Ex.exit 0) (qgn)) x0 x1 x2 x3:=by kernel_rfl
theorem qqp (D:DX)(n:Nat) (K:Ex→St→Option (Out ctx 210)):∀ (m:Nat) (x0:List Int) (x1:Int) (x2:Int) (x3:Int),LQ qc D n 210 [.r,.l,.r,.l] m (qdv x0 x1 x2 x3) K=qdw D n (fun v0_0=>K (Ex.ret) (qgp v0_0)) (K (Ex.exit 0) (qgn)) m x0 x1 x2 x3
 | 0,x0,x1,x2,x3=>q8 ..
 | m+1,x0,x1,x2,x3=>by
  have ih:(fun x0 x1 x2 x3=>LQ qc D n 210 [.r,.l,.r,.l] m (qdv x0 x1 x2 x3) K)=qdw D n (fun v0_0=>K (Ex.ret) (qgp v0_0)) (K (Ex.exit 0) (qgn)) m:=by funext x0 x1 x2 x3;exact qqp D n K m x0 x1 x2 x3
  rw[q2z]
  rw[ih];rfl
theorem q1j (D:DX)(n:Nat) (v0_0:Int) :
 (CQ qc D n 210 [] [.r,.l,.r,.l] (qi qc 210)) (Ex.ret) (qgp v0_0)=qpr D n v0_0:=by kernel_rfl
theorem q1a (D:DX)(n:Nat) :
 (CQ qc D n 210 [] [.r,.l,.r,.l] (qi qc 210)) (Ex.exit 0) (qgn)=qp5 D n:=by kernel_rfl
theorem q1e (D:DX)(n:Nat) (x0:List Int) (x1:Int) (x2:Int) (x3:Int) :
 LQ qc D n 210 [.r,.l,.r,.l] n (qdv x0 x1 x2 x3) (CQ qc D n 210 [] [.r,.l,.r,.l] (qi qc 210))=qkh D n x0 x1 x2 x3:=by
 rw[qqp]
 simp only[q1j,q1a]
 rfl
theorem q4n (D:DX)(n:Nat) (a0:List Int) (a1:Int):rfC qc D n 210 (a0,(a1,()))=qmd D n a0 a1:=by
 have h:rfC qc D n 210 (a0,(a1,()))=ql9 D n (fun x0 x1 x2 x3=>LQ qc D n 210 [.r,.l,.r,.l] n (qdv x0 x1 x2 x3) (CQ qc D n 210 [] [.r,.l,.r,.l] (qi qc 210))) a0 a1:=by kernel_rfl
 rw[h]
 simp only[q1e]
 rfl

end
end Go.G

namespace Go.G
set_option maxRecDepth 100000
open Go Go.V Go.Proofs
def XOk (X:Ext):Prop:=∀ k:Nat,(Nat.beq k 88||Nat.beq k 93||Nat.beq k 95||Nat.beq k 192)=false→X.is k=false
theorem q8c {X:Ext} (hX:XOk X) (n:Nat) (a0:List Int):qy0 (DD X (n+1)) a0=qq9 (DD X n) n a0:=(ql X Tryz.func5 (by kernel_rfl) (hX 5 rfl) n _).trans (q9p ..)
theorem qbn5 {X:Ext} (hX:XOk X) (n:Nat) (a0:List Int):q6t (DD X (n+1)) a0=qbe1 (DD X n) n a0:=(ql X Tryz.func11 (by kernel_rfl) (hX 11 rfl) n _).trans (qboq ..)
theorem qbk8 {X:Ext} (hX:XOk X) (n:Nat) (a0:(tSch)×qd×Unit):qch (DD X (n+1)) a0=q27 (DD X n) n a0:=(ql X Tryz.func17 (by kernel_rfl) (hX 17 rfl) n _).trans (qbkr ..)
theorem qbjk {X:Ext} (hX:XOk X) (n:Nat) (a0:(tSch)×qd×Unit) (a1:qe):qzl (DD X (n+1)) a0 a1=qz5 (DD X n) n a0 a1:=(ql X Tryz.func18 (by kernel_rfl) (hX 18 rfl) n _).trans (qbi8 ..)
theorem qbjs {X:Ext} (hX:XOk X) (n:Nat) (a0:(tSch)×qd×Unit) (a1:qe):qzs (DD X (n+1)) a0 a1=qz6 (DD X n) n a0 a1:=(ql X Tryz.func22 (by kernel_rfl) (hX 22 rfl) n _).trans (qbjo ..)
theorem qbf4 {X:Ext} (hX:XOk X) (n:Nat) (a0:tSch) (a1:qe):qfh (DD X (n+1)) a0 a1=quy (DD X n) n a0 a1:=(ql X Tryz.func23 (by kernel_rfl) (hX 23 rfl) n _).trans (qbeg ..)
theorem qbjf {X:Ext} (hX:XOk X) (n:Nat) (a0:(tSch)×qd×Unit) (a1:qe):qz4 (DD X (n+1)) a0 a1=qz1 (DD X n) n a0 a1:=(ql X Tryz.func24 (by kernel_rfl) (hX 24 rfl) n _).trans (qbjy ..)
theorem qbh6 {X:Ext} (hX:XOk X) (n:Nat) (a0:(tSch)×qd×Unit) (a1:qe):qwp (DD X (n+1)) a0 a1=qyf (DD X n) n a0 a1:=(ql X Tryz.func26 (by kernel_rfl) (hX 26 rfl) n _).trans (qbho ..)
theorem qbbb {X:Ext} (hX:XOk X) (n:Nat) (a0:List Int):qsl (DD X (n+1)) a0=qsr (DD X n) n a0:=(ql X Tryz.func27 (by kernel_rfl) (hX 27 rfl) n _).trans (qbbj ..)
theorem qbi3 {X:Ext} (hX:XOk X) (n:Nat) (a0:(tSch)×qd×Unit) (a1:qe):qs2 (DD X (n+1)) a0 a1=qzz (DD X n) n a0 a1:=(ql X Tryz.func28 (by kernel_rfl) (hX 28 rfl) n _).trans (qbjg ..)
theorem qbbd {X:Ext} (hX:XOk X) (n:Nat) (a0:List Int):qsa (DD X (n+1)) a0=qr4 (DD X n) n a0:=(ql X Tryz.func29 (by kernel_rfl) (hX 29 rfl) n _).trans (qbbr ..)
theorem qbjp {X:Ext} (hX:XOk X) (n:Nat) (a0:(tSch)×qd×Unit) (a1:qe):qs0 (DD X (n+1)) a0 a1=qzk (DD X n) n a0 a1:=(ql X Tryz.func30 (by kernel_rfl) (hX 30 rfl) n _).trans (qbi6 ..)
theorem q9q {X:Ext} (hX:XOk X) (n:Nat) (a0:List Int):qqo (DD X (n+1)) a0=qqa (DD X n) n a0:=(ql X Tryz.func31 (by kernel_rfl) (hX 31 rfl) n _).trans (q9n ..)
theorem qbhl {X:Ext} (hX:XOk X) (n:Nat) (a0:(tSch)×qd×Unit) (a1:qe):qro (DD X (n+1)) a0 a1=qyc (DD X n) n a0 a1:=(ql X Tryz.func32 (by kernel_rfl) (hX 32 rfl) n _).trans (qbg4 ..)
theorem qba2 {X:Ext} (hX:XOk X) (n:Nat) (a0:List Int):qrv (DD X (n+1)) a0=qrt (DD X n) n a0:=(ql X Tryz.func33 (by kernel_rfl) (hX 33 rfl) n _).trans (qbar ..)
theorem qbi7 {X:Ext} (hX:XOk X) (n:Nat) (a0:(tSch)×qd×Unit) (a1:qe):qzt (DD X (n+1)) a0 a1=qz7 (DD X n) n a0 a1:=(ql X Tryz.func34 (by kernel_rfl) (hX 34 rfl) n _).trans (qbjc ..)
theorem qbc2 {X:Ext} (hX:XOk X) (n:Nat) (a0:List Int):qts (DD X (n+1)) a0=qte (DD X n) n a0:=(ql X Tryz.func35 (by kernel_rfl) (hX 35 rfl) n _).trans (qbc7 ..)
theorem qbba {X:Ext} (hX:XOk X) (n:Nat) (a0:List Int):qr1 (DD X (n+1)) a0=qr6 (DD X n) n a0:=(ql X Tryz.func36 (by kernel_rfl) (hX 36 rfl) n _).trans (qbbf ..)
theorem qbjh {X:Ext} (hX:XOk X) (n:Nat) (a0:tSch):q0e (DD X (n+1)) a0=q0g (DD X n) n a0:=(ql X Tryz.func37 (by kernel_rfl) (hX 37 rfl) n _).trans (qbjt ..)
theorem qbjq {X:Ext} (hX:XOk X) (n:Nat) (a0:tSch):qs1 (DD X (n+1)) a0=qzy (DD X n) n a0:=(ql X Tryz.func38 (by kernel_rfl) (hX 38 rfl) n _).trans (qbja ..)
theorem qbhz {X:Ext} (hX:XOk X) (n:Nat) (a0:(tSch)×qd×Unit) (a1:(tSch)×qd×Unit):qcy (DD X (n+1)) a0 a1=qw3 (DD X n) n a0 a1:=(ql X Tryz.func39 (by kernel_rfl) (hX 39 rfl) n _).trans (qbgz ..)
theorem qbdp {X:Ext} (hX:XOk X) (n:Nat) (a0:qe) (a1:qe):qog (DD X (n+1)) a0 a1=qt8 (DD X n) n a0 a1:=(ql X Tryz.func40 (by kernel_rfl) (hX 40 rfl) n _).trans (qbdy ..)
theorem qblr {X:Ext} (hX:XOk X) (n:Nat) (a0:(tSch)×qd×Unit):qiy (DD X (n+1)) a0=q1u (DD X n) n a0:=(ql X Tryz.func41 (by kernel_rfl) (hX 41 rfl) n _).trans (qbj7 ..)
theorem qbky {X:Ext} (hX:XOk X) (n:Nat) (a0:List Int):qiu (DD X (n+1)) a0=q16 (DD X n) n a0:=(ql X Tryz.func65 (by kernel_rfl) (hX 65 rfl) n _).trans (qbku ..)
theorem q7x {X:Ext} (hX:XOk X) (n:Nat) (a0:List Int×Int×Int×Unit):qpd (DD X (n+1)) a0=qpb (DD X n) n a0:=(ql X Tryz.func66 (by kernel_rfl) (hX 66 rfl) n _).trans (q72 ..)
theorem qbax {X:Ext} (hX:XOk X) (n:Nat) (a0:List Int×Int×Int×Unit) (a1:(tSch)×qd×Unit):qg1 (DD X (n+1)) a0 a1=qso (DD X n) n a0 a1:=(ql X Tryz.func67 (by kernel_rfl) (hX 67 rfl) n _).trans (qbbp ..)
theorem qbmh {X:Ext} (hX:XOk X) (n:Nat) (a0:Int) (a1:Int) (a2:Int):qgr (DD X (n+1)) a0 a1 a2=q4f (DD X n) n a0 a1 a2:=(ql X Tryz.func68 (by kernel_rfl) (hX 68 rfl) n _).trans (qbme ..)
theorem qbla {X:Ext} (hX:XOk X) (n:Nat) (a0:tSch) (a1:qe):qq0 (DD X (n+1)) a0 a1=q11 (DD X n) n a0 a1:=(ql X Tryz.func77 (by kernel_rfl) (hX 77 rfl) n _).trans (qblw ..)
theorem qbds {X:Ext} (hX:XOk X) (n:Nat) (a0:qe) (a1:qe):qns (DD X (n+1)) a0 a1=qty (DD X n) n a0 a1:=(ql X Tryz.func78 (by kernel_rfl) (hX 78 rfl) n _).trans (qbd0 ..)
theorem qmj {X:Ext} (hX:XOk X) (n:Nat) (a0:qd) (a1:Clo):qbi (DD X (n+1)) a0 a1=qdi (DD X n) n a0 a1:=(ql X Tryz.func79 (by kernel_rfl) (hX 79 rfl) n _).trans (qmi ..)
theorem qbh2 {X:Ext} (hX:XOk X) (n:Nat) (a0:qe) (a1:(tSch)×qd×Unit) (a2:qe):q40 (DD X (n+1)) a0 a1 a2=qwx (DD X n) n a0 a1 a2:=(ql X Tryz.func80 (by kernel_rfl) (hX 80 rfl) n _).trans (qbgx ..)
theorem qbk7 {X:Ext} (hX:XOk X) (n:Nat) (a0:tSch) (a1:qe) (a2:qe):qqs (DD X (n+1)) a0 a1 a2=q1x (DD X n) n a0 a1 a2:=(ql X Tryz.func81 (by kernel_rfl) (hX 81 rfl) n _).trans (qblk ..)
theorem qbfr {X:Ext} (hX:XOk X) (n:Nat) (a0:tSch):qpm (DD X (n+1)) a0=qvy (DD X n) n a0:=(ql X Tryz.func82 (by kernel_rfl) (hX 82 rfl) n _).trans (qbe2 ..)
theorem q7s {X:Ext} (hX:XOk X) (n:Nat) (a0:(tSch)×qd×Unit):qho (DD X (n+1)) a0=qo5 (DD X n) n a0:=(ql X Tryz.func83 (by kernel_rfl) (hX 83 rfl) n _).trans (q7k ..)
theorem qbkq {X:Ext} (hX:XOk X) (n:Nat) (a0:(tSch)×qd×Unit) (a1:qe):qnm (DD X (n+1)) a0 a1=q22 (DD X n) n a0 a1:=(ql X Tryz.func84 (by kernel_rfl) (hX 84 rfl) n _).trans (qblg ..)
theorem qbf2 {X:Ext} (hX:XOk X) (n:Nat) (a0:qe) (a1:(tSch)×qd×Unit) (a2:qe):q3z (DD X (n+1)) a0 a1 a2=qv1 (DD X n) n a0 a1 a2:=(ql X Tryz.func85 (by kernel_rfl) (hX 85 rfl) n _).trans (qbe4 ..)
theorem qn7 {X:Ext} (hX:XOk X) (n:Nat) (a0:qd) (a1:Clo):qcc (DD X (n+1)) a0 a1=qd2 (DD X n) n a0 a1:=(ql X Tryz.func86 (by kernel_rfl) (hX 86 rfl) n _).trans (qny ..)
theorem qbeb {X:Ext} (hX:XOk X) (n:Nat) (a0:qe) (a1:qe) (a2:(tSch)×qd×Unit):q34 (DD X (n+1)) a0 a1 a2=qu4 (DD X n) n a0 a1 a2:=(ql X Tryz.func87 (by kernel_rfl) (hX 87 rfl) n _).trans (qbfb ..)
theorem qqc {X:Ext} (hX:XOk X) (n:Nat) (a0:qe):qbn (DD X (n+1)) a0=qe6 (DD X n) n a0:=(ql X Tryz.func89 (by kernel_rfl) (hX 89 rfl) n _).trans (qqx ..)
theorem qbg2 {X:Ext} (hX:XOk X) (n:Nat) (a0:qe) (a1:List Int):qni (DD X (n+1)) a0 a1=qxk (DD X n) n a0 a1:=(ql X Tryz.func94 (by kernel_rfl) (hX 94 rfl) n _).trans (qbhg ..)
theorem qbhd {X:Ext} (hX:XOk X) (n:Nat) (a0:List Int×Int×Int×Unit):qh8 (DD X (n+1)) a0=qw6 (DD X n) n a0:=(ql X Tryz.func98 (by kernel_rfl) (hX 98 rfl) n _).trans (qbhh ..)
theorem qbgh {X:Ext} (hX:XOk X) (n:Nat) (a0:(tSch)×qd×Unit):qnh (DD X (n+1)) a0=qw9 (DD X n) n a0:=(ql X Tryz.func99 (by kernel_rfl) (hX 99 rfl) n _).trans (qbhm ..)
theorem qbj5 {X:Ext} (hX:XOk X) (n:Nat) (a0:tSch) (a1:qe):qq4 (DD X (n+1)) a0 a1=q1y (DD X n) n a0 a1:=(ql X Tryz.func100 (by kernel_rfl) (hX 100 rfl) n _).trans (qbkz ..)
theorem qblo {X:Ext} (hX:XOk X) (n:Nat) (a0:(tSch)×qd×Unit) (a1:qe):qng (DD X (n+1)) a0 a1=q14 (DD X n) n a0 a1:=(ql X Tryz.func101 (by kernel_rfl) (hX 101 rfl) n _).trans (qbll ..)
theorem qbfw {X:Ext} (hX:XOk X) (n:Nat) (a0:tSch) (a1:qe):qc0 (DD X (n+1)) a0 a1=qv0 (DD X n) n a0 a1:=(ql X Tryz.func102 (by kernel_rfl) (hX 102 rfl) n _).trans (qbf9 ..)
theorem qbdf {X:Ext} (hX:XOk X) (n:Nat) (a0:(tSch)×qd×Unit) (a1:qe) (a2:Int):qnt (DD X (n+1)) a0 a1 a2=qtt (DD X n) n a0 a1 a2:=(ql X Tryz.func103 (by kernel_rfl) (hX 103 rfl) n _).trans (qbdz ..)
theorem qbdt {X:Ext} (hX:XOk X) (n:Nat) (a0:qe) (a1:qe):qnw (DD X (n+1)) a0 a1=qua (DD X n) n a0 a1:=(ql X Tryz.func104 (by kernel_rfl) (hX 104 rfl) n _).trans (qbdw ..)
theorem qbhk {X:Ext} (hX:XOk X) (n:Nat) (a0:qd):qia (DD X (n+1)) a0=qx8 (DD X n) n a0:=(ql X Tryz.func105 (by kernel_rfl) (hX 105 rfl) n _).trans (qbgf ..)
theorem qbh1 {X:Ext} (hX:XOk X) (n:Nat) (a0:List Int×Int×Int×Unit):qrl (DD X (n+1)) a0=qw8 (DD X n) n a0:=(ql X Tryz.func106 (by kernel_rfl) (hX 106 rfl) n _).trans (qbhi ..)
theorem qbbi {X:Ext} (hX:XOk X) (n:Nat) (a0:tSch):qm4 (DD X (n+1)) a0=qr9 (DD X n) n a0:=(ql X Tryz.func107 (by kernel_rfl) (hX 107 rfl) n _).trans (qbb1 ..)
theorem qbgu {X:Ext} (hX:XOk X) (n:Nat) (a0:tSch):qrj (DD X (n+1)) a0=qxn (DD X n) n a0:=(ql X Tryz.func108 (by kernel_rfl) (hX 108 rfl) n _).trans (qbgm ..)
theorem qbfk {X:Ext} (hX:XOk X) (n:Nat) (a0:qd) (a1:qd):qu3 (DD X (n+1)) a0 a1=qva (DD X n) n a0 a1:=(ql X Tryz.func109 (by kernel_rfl) (hX 109 rfl) n _).trans (qbf6 ..)
theorem qbel {X:Ext} (hX:XOk X) (n:Nat) (a0:List Int) (a1:List Int):qp1 (DD X (n+1)) a0 a1=qv2 (DD X n) n a0 a1:=(ql X Tryz.func110 (by kernel_rfl) (hX 110 rfl) n _).trans (qbey ..)
theorem qbfo {X:Ext} (hX:XOk X) (n:Nat) (a0:tSch) (a1:qe) (a2:qe):qpy (DD X (n+1)) a0 a1 a2=qvd (DD X n) n a0 a1 a2:=(ql X Tryz.func111 (by kernel_rfl) (hX 111 rfl) n _).trans (qbeh ..)
theorem qbet {X:Ext} (hX:XOk X) (n:Nat) (a0:tSch):qpw (DD X (n+1)) a0=qu6 (DD X n) n a0:=(ql X Tryz.func112 (by kernel_rfl) (hX 112 rfl) n _).trans (qbef ..)
theorem qbjr {X:Ext} (hX:XOk X) (n:Nat) (a0:List Int×Int×Int×Unit) (a1:Int):qjo (DD X (n+1)) a0 a1=qzn (DD X n) n a0 a1:=(ql X Tryz.func114 (by kernel_rfl) (hX 114 rfl) n _).trans (qbjn ..)
theorem qbhw {X:Ext} (hX:XOk X) (n:Nat) (a0:List Int×Int×Int×Unit) (a1:Int):qb9 (DD X (n+1)) a0 a1=qwz (DD X n) n a0 a1:=(ql X Tryz.func115 (by kernel_rfl) (hX 115 rfl) n _).trans (qbg1 ..)
theorem qbmg {X:Ext} (hX:XOk X) (n:Nat) (a0:Int) (a1:Int) (a2:Int):qgq (DD X (n+1)) a0 a1 a2=q4h (DD X n) n a0 a1 a2:=(ql X Tryz.func117 (by kernel_rfl) (hX 117 rfl) n _).trans (qbm2 ..)
theorem qbh7 {X:Ext} (hX:XOk X) (n:Nat) (a0:qe) (a1:List Int):qnj (DD X (n+1)) a0 a1=qxw (DD X n) n a0 a1:=(ql X Tryz.func119 (by kernel_rfl) (hX 119 rfl) n _).trans (qbgi ..)
theorem q7r {X:Ext} (hX:XOk X) (n:Nat) (a0:List Int×Int×Int×Unit):qkk (DD X (n+1)) a0=qo8 (DD X n) n a0:=(ql X Tryz.func135 (by kernel_rfl) (hX 135 rfl) n _).trans (q7y ..)
theorem qbbe {X:Ext} (hX:XOk X) (n:Nat) (a0:List Int×Int×Int×Unit) (a1:tSch):qjr (DD X (n+1)) a0 a1=qse (DD X n) n a0 a1:=(ql X Tryz.func136 (by kernel_rfl) (hX 136 rfl) n _).trans (qbby ..)
theorem q38 {X:Ext} (hX:XOk X) (n:Nat) (a0:List Int):qio (DD X (n+1)) a0=ql8 (DD X n) n a0:=(ql X Tryz.func138 (by kernel_rfl) (hX 138 rfl) n _).trans (q4b ..)
theorem qbgt {X:Ext} (hX:XOk X) (n:Nat) (a0:Int×Int×ByteArray×Unit):qxh (DD X (n+1)) a0=qwo (DD X n) n a0:=(ql X Tryz.func139 (by kernel_rfl) (hX 139 rfl) n _).trans (qbhq ..)
theorem qf8 {X:Ext} (hX:XOk X) (n:Nat) (a0:qe) (a1:qe) (a2:Clo):qb8 (DD X (n+1)) a0 a1 a2=qb6 (DD X n) n a0 a1 a2:=(ql X Tryz.func140 (by kernel_rfl) (hX 140 rfl) n _).trans (qf2 ..)
theorem qbht {X:Ext} (hX:XOk X) (n:Nat) (a0:Int×Int×ByteArray×Unit) (a1:Int×Int×ByteArray×Unit):qx6 (DD X (n+1)) a0 a1=qya (DD X n) n a0 a1:=(ql X Tryz.func141 (by kernel_rfl) (hX 141 rfl) n _).trans (qbhj ..)
theorem qml {X:Ext} (hX:XOk X) (n:Nat) (a0:tIxs) (a1:Clo):qco (DD X (n+1)) a0 a1=qdh (DD X n) n a0 a1:=(ql X Tryz.func142 (by kernel_rfl) (hX 142 rfl) n _).trans (qmr ..)
theorem qbha {X:Ext} (hX:XOk X) (n:Nat) (a0:ByteArray×List Int×Bool×Unit) (a1:qe) (a2:qe):q5t (DD X (n+1)) a0 a1 a2=qws (DD X n) n a0 a1 a2:=(ql X Tryz.func143 (by kernel_rfl) (hX 143 rfl) n _).trans (qbhs ..)
theorem qot {X:Ext} (hX:XOk X) (n:Nat) (a0:qe) (a1:Int×Int×ByteArray×Unit):qd6 (DD X (n+1)) a0 a1=qd8 (DD X n) n a0 a1:=(ql X Tryz.func144 (by kernel_rfl) (hX 144 rfl) n _).trans (qop ..)
theorem qqk {X:Ext} (hX:XOk X) (n:Nat) (a0:qe) (a1:qe):qde (DD X (n+1)) a0 a1=qey (DD X n) n a0 a1:=(ql X Tryz.func145 (by kernel_rfl) (hX 145 rfl) n _).trans (qp9 ..)
theorem qbdb {X:Ext} (hX:XOk X) (n:Nat) (a0:ByteArray):qn6 (DD X (n+1)) a0=qth (DD X n) n a0:=(ql X Tryz.func146 (by kernel_rfl) (hX 146 rfl) n _).trans (qbde ..)
theorem qbk4 {X:Ext} (hX:XOk X) (n:Nat) (a0:tSch) (a1:ByteArray):q2m (DD X (n+1)) a0 a1=q1r (DD X n) n a0 a1:=(ql X Tryz.func147 (by kernel_rfl) (hX 147 rfl) n _).trans (qblt ..)
theorem qbev {X:Ext} (hX:XOk X) (n:Nat) (a0:tSch) (a1:List Int) (a2:Int):qpq (DD X (n+1)) a0 a1 a2=qur (DD X n) n a0 a1 a2:=(ql X Tryz.func148 (by kernel_rfl) (hX 148 rfl) n _).trans (qbed ..)
theorem qbav {X:Ext} (hX:XOk X) (n:Nat) (a0:ByteArray×List Int×Bool×Unit) (a1:ByteArray×List Int×Bool×Unit):q07 (DD X (n+1)) a0 a1=qsj (DD X n) n a0 a1:=(ql X Tryz.func149 (by kernel_rfl) (hX 149 rfl) n _).trans (qbbu ..)
theorem qv6 {X:Ext} (hX:XOk X) (n:Nat) (a0:List Int) (a1:Clo):qhi (DD X (n+1)) a0 a1=qhj (DD X n) n a0 a1:=(ql X Tryz.func150 (by kernel_rfl) (hX 150 rfl) n _).trans (qv7 ..)
theorem qba6 {X:Ext} (hX:XOk X) (n:Nat) (a0:Int) (a1:tSch):q05 (DD X (n+1)) a0 a1=qsc (DD X n) n a0 a1:=(ql X Tryz.func151 (by kernel_rfl) (hX 151 rfl) n _).trans (qbaq ..)
theorem qbap {X:Ext} (hX:XOk X) (n:Nat) (a0:qd):qst (DD X (n+1)) a0=qsd (DD X n) n a0:=(ql X Tryz.func152 (by kernel_rfl) (hX 152 rfl) n _).trans (qbb0 ..)
theorem qbg8 {X:Ext} (hX:XOk X) (n:Nat) (a0:qe) (a1:(tSch)×qd×Unit) (a2:qe):q5d (DD X (n+1)) a0 a1 a2=qxt (DD X n) n a0 a1 a2:=(ql X Tryz.func153 (by kernel_rfl) (hX 153 rfl) n _).trans (qbh0 ..)
theorem qbg9 {X:Ext} (hX:XOk X) (n:Nat) (a0:Int×Int×ByteArray×Unit):qwt (DD X (n+1)) a0=qxz (DD X n) n a0:=(ql X Tryz.func158 (by kernel_rfl) (hX 158 rfl) n _).trans (qbg7 ..)
theorem qbhp {X:Ext} (hX:XOk X) (n:Nat) (a0:qe) (a1:qe):qrk (DD X (n+1)) a0 a1=qx4 (DD X n) n a0 a1:=(ql X Tryz.func159 (by kernel_rfl) (hX 159 rfl) n _).trans (qbg3 ..)
theorem qbcx {X:Ext} (hX:XOk X) (n:Nat) (a0:Int×Int×ByteArray×Unit) (a1:Int×Int×ByteArray×Unit):qnr (DD X (n+1)) a0 a1=qtn (DD X n) n a0 a1:=(ql X Tryz.func160 (by kernel_rfl) (hX 160 rfl) n _).trans (qbd3 ..)
theorem qbcs {X:Ext} (hX:XOk X) (n:Nat) (a0:Int×Int×ByteArray×Unit) (a1:Int×Int×ByteArray×Unit):qub (DD X (n+1)) a0 a1=qt4 (DD X n) n a0 a1:=(ql X Tryz.func161 (by kernel_rfl) (hX 161 rfl) n _).trans (qbdu ..)
theorem qbjw {X:Ext} (hX:XOk X) (n:Nat) (a0:List Int×Int×Int×Unit) (a1:List ByteArray):qs5 (DD X (n+1)) a0 a1=q0b (DD X n) n a0 a1:=(ql X Tryz.func162 (by kernel_rfl) (hX 162 rfl) n _).trans (qbjl ..)
theorem qbdv {X:Ext} (hX:XOk X) (n:Nat) (a0:List Int×Int×Int×Unit) (a1:List Int):qkg (DD X (n+1)) a0 a1=qtj (DD X n) n a0 a1:=(ql X Tryz.func163 (by kernel_rfl) (hX 163 rfl) n _).trans (qbdq ..)
theorem qtg {X:Ext} (hX:XOk X) (n:Nat) (a0:qdo):qf7 (DD X (n+1)) a0=qf6 (DD X n) n a0:=(ql X Tryz.func164 (by kernel_rfl) (hX 164 rfl) n _).trans (qta ..)
theorem qbgp {X:Ext} (hX:XOk X) (n:Nat) (a0:qe):qxy (DD X (n+1)) a0=qxl (DD X n) n a0:=(ql X Tryz.func165 (by kernel_rfl) (hX 165 rfl) n _).trans (qbhc ..)
theorem qbdn {X:Ext} (hX:XOk X) (n:Nat) (a0:ByteArray):qoc (DD X (n+1)) a0=qtu (DD X n) n a0:=(ql X Tryz.func166 (by kernel_rfl) (hX 166 rfl) n _).trans (qbc5 ..)
theorem qbk0 {X:Ext} (hX:XOk X) (n:Nat) (a0:tSch) (a1:ByteArray):q28 (DD X (n+1)) a0 a1=q2d (DD X n) n a0 a1:=(ql X Tryz.func167 (by kernel_rfl) (hX 167 rfl) n _).trans (qbks ..)
theorem qbc4 {X:Ext} (hX:XOk X) (n:Nat) (a0:tSch) (a1:List Int) (a2:Int):qnx (DD X (n+1)) a0 a1 a2=qt3 (DD X n) n a0 a1 a2:=(ql X Tryz.func168 (by kernel_rfl) (hX 168 rfl) n _).trans (qbda ..)
theorem qbbk {X:Ext} (hX:XOk X) (n:Nat) (a0:tSch):qsk (DD X (n+1)) a0=qsm (DD X n) n a0:=(ql X Tryz.func169 (by kernel_rfl) (hX 169 rfl) n _).trans (qbbl ..)
theorem qbjb {X:Ext} (hX:XOk X) (n:Nat) (a0:List Int×Int×Int×Unit):qjk (DD X (n+1)) a0=qzw (DD X n) n a0:=(ql X Tryz.func170 (by kernel_rfl) (hX 170 rfl) n _).trans (qbji ..)
theorem qbc3 {X:Ext} (hX:XOk X) (n:Nat) (a0:List Int×Int×Int×Unit) (a1:Int):qn0 (DD X (n+1)) a0 a1=qtd (DD X n) n a0 a1:=(ql X Tryz.func190 (by kernel_rfl) (hX 190 rfl) n _).trans (qbc9 ..)
theorem qnv {X:Ext} (hX:XOk X) (n:Nat) (a0:tIxs) (a1:Clo):qd0 (DD X (n+1)) a0 a1=qd1 (DD X n) n a0 a1:=(ql X Tryz.func193 (by kernel_rfl) (hX 193 rfl) n _).trans (qn8 ..)
theorem qqv {X:Ext} (hX:XOk X) (n:Nat) (a0:qe) (a1:Int×Int×ByteArray×Unit):qe2 (DD X (n+1)) a0 a1=qe4 (DD X n) n a0 a1:=(ql X Tryz.func194 (by kernel_rfl) (hX 194 rfl) n _).trans (qqn ..)
theorem qqd {X:Ext} (hX:XOk X) (n:Nat) (a0:qdo) (a1:Clo):qez (DD X (n+1)) a0 a1=qe0 (DD X n) n a0 a1:=(ql X Tryz.func195 (by kernel_rfl) (hX 195 rfl) n _).trans (qq6 ..)
theorem qbhb {X:Ext} (hX:XOk X) (n:Nat) (a0:ByteArray×Int×Bool×Unit) (a1:ByteArray):q43 (DD X (n+1)) a0 a1=qx5 (DD X n) n a0 a1:=(ql X Tryz.func196 (by kernel_rfl) (hX 196 rfl) n _).trans (qbg0 ..)
theorem q1g {X:Ext} (hX:XOk X) (n:Nat) (a0:List Int) (a1:Int):qj1 (DD X (n+1)) a0 a1=qjy (DD X n) n a0 a1:=(ql X Tryz.func197 (by kernel_rfl) (hX 197 rfl) n _).trans (q1h ..)
theorem qz3 {X:Ext} (hX:XOk X) (n:Nat) (a0:List Int) (a1:Clo):qjm (DD X (n+1)) a0 a1=qjj (DD X n) n a0 a1:=(ql X Tryz.func198 (by kernel_rfl) (hX 198 rfl) n _).trans (qzm ..)
theorem q4a {X:Ext} (hX:XOk X) (n:Nat) (a0:List Int) (a1:Int):qmb (DD X (n+1)) a0 a1=qmd (DD X n) n a0 a1:=(ql X Tryz.func210 (by kernel_rfl) (hX 210 rfl) n _).trans (q4n ..)
end Go.G


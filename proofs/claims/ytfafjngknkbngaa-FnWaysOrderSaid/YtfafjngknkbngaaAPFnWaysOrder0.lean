import Derived.Test.YtfafjngknkbngaaAV3
set_option linter.unusedVariables false
set_option linter.unusedSimpArgs false
set_option linter.unusedSectionVars false
namespace Go.G
open Go Go.V
abbrev DX:=Den ctx
abbrev tVal:=Int×Int×ByteArray×Unit
abbrev qd:=List tVal
abbrev qe:=List qd
abbrev tIx:=ByteArray×List Int×Bool×Unit
abbrev tIxs:=List tIx
abbrev tCol:=ByteArray×Int×Bool×Unit
abbrev qhd:=List tCol
abbrev tSch:=qhd×List Int×tIxs×Unit
abbrev tWay:=ByteArray×ByteArray×Unit
abbrev tCur:=List Int×Int×Int×Unit
abbrev avI:=AV.val (Ty.int IntKind.i64)
abbrev yI:=Ty.int IntKind.i64
abbrev yC:=Ty.pair Ty.str (Ty.pair yI (Ty.pair Ty.bool Ty.unit))
abbrev yX:=Ty.pair Ty.str (Ty.pair (Ty.sl yI) (Ty.pair Ty.bool Ty.unit))
abbrev yV:=Ty.pair yI (Ty.pair yI (Ty.pair Ty.str Ty.unit))
abbrev yS:=Ty.pair (Ty.sl yC) (Ty.pair (Ty.sl yI) (Ty.pair (Ty.sl yX) Ty.unit))
end Go.G
namespace Go.G
open Go Go.V
noncomputable def qzz (D:Den ctx) (a0:List Int):Option ((Bool×Unit)×Unit):=D 14 (a0,())
noncomputable def qqy (D:Den ctx) (a0:tSch):Option ((Bool×Unit)×Unit):=D 16 (a0,())
noncomputable def qq0 (D:Den ctx) (a0:tSch):Option ((Bool×Unit)×Unit):=D 18 (a0,())
noncomputable def q61 (D:Den ctx) (a0:List Int):Option ((Bool×Unit)×Unit):=D 20 (a0,())
noncomputable def q2v (D:Den ctx) (a0:tSch) (a1:qd):Option ((Bool×Unit)×Unit):=D 26 (a0,(a1,()))
noncomputable def qoh (D:Den ctx) (a0:tSch) (a1:qd):Option ((Bool×Unit)×Unit):=D 27 (a0,(a1,()))
noncomputable def qpd (D:Den ctx) (a0:ByteArray):Option ((Bool×Unit)×Unit):=D 28 (a0,())
noncomputable def qoo (D:Den ctx) (a0:ByteArray):Option ((Bool×Unit)×Unit):=D 29 (a0,())
noncomputable def q28 (D:Den ctx) (a0:tSch) (a1:ByteArray):Option ((Int×Unit)×Unit):=D 30 (a0,(a1,()))
noncomputable def q3m (D:Den ctx) (a0:tSch) (a1:ByteArray):Option ((Int×Unit)×Unit):=D 31 (a0,(a1,()))
noncomputable def qmm (D:Den ctx) (a0:tSch) (a1:qd):Option ((qd×Unit)×Unit):=D 33 (a0,(a1,()))
noncomputable def qdq (D:Den ctx) (a0:tSch) (a1:qd):Option ((qd×Unit)×Unit):=D 34 (a0,(a1,()))
noncomputable def qxn (D:Den ctx) (a0:qd):Option ((Bool×Unit)×Unit):=D 35 (a0,())
noncomputable def q3s (D:Den ctx) (a0:(tSch)×qe×Unit) (a1:Int) (a2:qd):Option ((tWay×Bool×Unit)×Unit):=D 43 (a0,(a1,(a2,())))
noncomputable def qk2 (D:Den ctx) (a0:(tSch)×qe×Unit):Option ((Bool×Unit)×Unit):=D 48 (a0,())
noncomputable def qwx (D:Den ctx) (a0:(tSch)×qe×Unit):Option ((Bool×Unit)×Unit):=D 49 (a0,())
noncomputable def qyj (D:Den ctx) (a0:(tSch)×qe×Unit) (a1:qd):Option ((((tSch)×qe×Unit)×Int×Unit)×Unit):=D 52 (a0,(a1,()))
noncomputable def qky (D:Den ctx) (a0:qd) (a1:List Int):Option ((qd×Unit)×Unit):=D 56 (a0,(a1,()))
noncomputable def q04 (D:Den ctx) (a0:tSch):Option ((((tSch)×qe×Unit)×Bool×Unit)×Unit):=D 60 (a0,())
noncomputable def q0m (D:Den ctx) (a0:(tSch)×qe×Unit) (a1:qd):Option ((((tSch)×qe×Unit)×Int×Unit)×Unit):=D 63 (a0,(a1,()))
noncomputable def qth (D:Den ctx) (a0:List Int):Option ((((tSch)×qe×Unit)×Int×Unit)×Unit):=D 65 (a0,())
noncomputable def q0l (D:Den ctx) (a0:(tSch)×qe×Unit) (a1:Int):Option ((List tWay×Unit)×Unit):=D 66 (a0,(a1,()))
noncomputable def qv9 (D:Den ctx) (a0:List tWay) (a1:List tWay):Option ((Bool×Unit)×Unit):=D 67 (a0,(a1,()))
noncomputable def q1e (D:Den ctx) (a0:(tSch)×qe×Unit) (a1:Int):Option ((List tWay×Unit)×Unit):=D 68 (a0,(a1,()))
noncomputable def qso (D:Den ctx) (a0:ByteArray×ByteArray×Unit) (a1:ByteArray×ByteArray×Unit):Option ((Bool×Unit)×Unit):=D 69 (a0,(a1,()))
noncomputable def qgk (D:Den ctx) (a0:Int) (a1:Int) (a2:Int):Option ((Bool×Unit)×Unit):=D 73 (a0,(a1,(a2,())))
noncomputable def qo4 (D:Den ctx) (a0:tSch) (a1:List Int) (a2:Int):Option ((Bool×Unit)×Unit):=D 74 (a0,(a1,(a2,())))
noncomputable def qs4 (D:Den ctx) (a0:tSch):Option ((Bool×Unit)×Unit):=D 75 (a0,())
noncomputable def qgd (D:Den ctx) (a0:Int) (a1:Int) (a2:Int):Option ((Bool×Unit)×Unit):=D 79 (a0,(a1,(a2,())))
noncomputable def qq6 (D:Den ctx) (a0:tSch) (a1:List Int) (a2:Int):Option ((Bool×Unit)×Unit):=D 80 (a0,(a1,(a2,())))
noncomputable def qcw (D:Den ctx) (a0:tIxs) (a1:Clo):Option ((Bool×Unit)×Unit):=D 81 (a0,(a1,()))
noncomputable def q1s (D:Den ctx) (a0:ByteArray×List Int×Bool×Unit) (a1:ByteArray×List Int×Bool×Unit):Option ((Bool×Unit)×Unit):=D 82 (a0,(a1,()))
noncomputable def qia (D:Den ctx) (a0:List Int) (a1:Clo):Option ((Bool×Unit)×Unit):=D 83 (a0,(a1,()))
noncomputable def q1j (D:Den ctx) (a0:Int) (a1:tSch):Option ((Bool×Unit)×Unit):=D 84 (a0,(a1,()))
noncomputable def q32 (D:Den ctx) (a0:List Int):Option ((tCur×Unit)×Unit):=D 88 (a0,())
noncomputable def qy8 (D:Den ctx) (a0:List Int×Int×Int×Unit):Option (((tSch)×Unit)×tCur×Unit):=D 89 (a0,())
noncomputable def qnr (D:Den ctx) (a0:List Int×Int×Int×Unit) (a1:tSch):Option ((qd×Unit)×tCur×Unit):=D 90 (a0,(a1,()))
noncomputable def qcg (D:Den ctx) (a0:List Int×Int×Int×Unit) (a1:Int):Option ((Int×Unit)×tCur×Unit):=D 91 (a0,(a1,()))
noncomputable def qt2 (D:Den ctx) (a0:List Int×Int×Int×Unit) (a1:List ByteArray):Option ((ByteArray×Unit)×tCur×Unit):=D 93 (a0,(a1,()))
noncomputable def qsi (D:Den ctx) (a0:Int×Int×ByteArray×Unit):Option ((Bool×Unit)×Unit):=D 94 (a0,())
noncomputable def qsl (D:Den ctx) (a0:Int×Int×ByteArray×Unit):Option ((Bool×Unit)×Unit):=D 95 (a0,())
noncomputable def qfl (D:Den ctx) (a0:qhd) (a1:Clo):Option ((Int×Unit)×Unit):=D 96 (a0,(a1,()))
noncomputable def q5w (D:Den ctx) (a0:ByteArray×Int×Bool×Unit) (a1:ByteArray):Option ((Bool×Unit)×Unit):=D 97 (a0,(a1,()))
noncomputable def qku (D:Den ctx) (a0:qd) (a1:List Int):Option ((qd×Unit)×Unit):=D 98 (a0,(a1,()))
noncomputable def qdw (D:Den ctx) (a0:qd) (a1:Clo):Option ((Bool×Unit)×Unit):=D 99 (a0,(a1,()))
noncomputable def q3d (D:Den ctx) (a0:Int×Int×ByteArray×Unit):Option ((Bool×Unit)×Unit):=D 100 (a0,())
noncomputable def qnn (D:Den ctx) (a0:qd):Option ((List Int×Unit)×Unit):=D 109 (a0,())
noncomputable def q7j (D:Den ctx) (a0:tSch) (a1:Int) (a2:qd):Option ((tWay×Unit)×Unit):=D 111 (a0,(a1,(a2,())))
noncomputable def qou (D:Den ctx) (a0:qd) (a1:qd):Option ((Bool×Unit)×Unit):=D 113 (a0,(a1,()))
noncomputable def qq5 (D:Den ctx) (a0:tSch) (a1:qd) (a2:qd):Option ((Bool×Unit)×Unit):=D 114 (a0,(a1,(a2,())))
noncomputable def qud (D:Den ctx) (a0:qd) (a1:qd):Option ((Bool×Unit)×Unit):=D 115 (a0,(a1,()))
noncomputable def qb0 (D:Den ctx) (a0:qe) (a1:Clo):Option ((Bool×Unit)×Unit):=D 116 (a0,(a1,()))
noncomputable def q5g (D:Den ctx) (a0:qd) (a1:(tSch)×qe×Unit) (a2:qd):Option ((Bool×Unit)×Unit):=D 117 (a0,(a1,(a2,())))
noncomputable def q2r (D:Den ctx) (a0:tSch) (a1:qd) (a2:qd):Option ((Bool×Unit)×Unit):=D 118 (a0,(a1,(a2,())))
noncomputable def qql (D:Den ctx) (a0:List Int×Int×Int×Unit):Option ((((tSch)×qe×Unit)×Unit)×tCur×Unit):=D 119 (a0,())
noncomputable def qn6 (D:Den ctx) (a0:(tSch)×qe×Unit):Option ((((tSch)×qe×Unit)×Unit)×Unit):=D 124 (a0,())
noncomputable def qrj (D:Den ctx) (a0:(tSch)×qe×Unit) (a1:qd):Option ((Int×Unit)×Unit):=D 125 (a0,(a1,()))
noncomputable def qo0 (D:Den ctx) (a0:(tSch)×qe×Unit) (a1:qd) (a2:Int):Option ((Bool×Unit)×Unit):=D 126 (a0,(a1,(a2,())))
noncomputable def qej (D:Den ctx) (a0:qe) (a1:Clo):Option ((Int×Unit)×Unit):=D 130 (a0,(a1,()))
noncomputable def qsw (D:Den ctx) (a0:tSch):Option (((tSch)×Unit)×Unit):=D 134 (a0,())
noncomputable def qi0 (D:Den ctx) (a0:qe):Option ((qe×Unit)×Unit):=D 138 (a0,())
noncomputable def qxq (D:Den ctx) (a0:List Int×Int×Int×Unit):Option ((((tSch)×qe×Unit)×Unit)×tCur×Unit):=D 140 (a0,())
noncomputable def q03 (D:Den ctx) (a0:List tWay) (a1:ByteArray×ByteArray×Unit):Option ((List tWay×Unit)×Unit):=D 141 (a0,(a1,()))
noncomputable def q0f (D:Den ctx) (a0:List tWay) (a1:ByteArray×ByteArray×Unit):Option ((List tWay×Unit)×Unit):=D 142 (a0,(a1,()))
noncomputable def qkk (D:Den ctx) (a0:List Int) (a1:Int):Option ((Bool×Unit)×Unit):=D 147 (a0,(a1,()))
noncomputable def qel (D:Den ctx) (a0:tIxs) (a1:Clo):Option ((Int×Unit)×Unit):=D 148 (a0,(a1,()))
noncomputable def qj5 (D:Den ctx) (a0:List Int) (a1:Clo):Option ((Int×Unit)×Unit):=D 149 (a0,(a1,()))
noncomputable def qli (D:Den ctx) (a0:List Int×Int×Int×Unit):Option (((tSch)×Unit)×tCur×Unit):=D 152 (a0,())
noncomputable def qk3 (D:Den ctx) (a0:List Int×Int×Int×Unit) (a1:List Int):Option ((Int×Unit)×tCur×Unit):=D 153 (a0,(a1,()))
noncomputable def ql2 (D:Den ctx) (a0:List Int×Int×Int×Unit) (a1:Int):Option ((Bool×Unit)×tCur×Unit):=D 154 (a0,(a1,()))
noncomputable def qox (D:Den ctx) (a0:List Int×Int×Int×Unit) (a1:Int):Option ((tVal×Unit)×tCur×Unit):=D 155 (a0,(a1,()))
noncomputable def qj6 (D:Den ctx) (a0:List Int×Int×Int×Unit):Option ((Int×Unit)×tCur×Unit):=D 156 (a0,())
noncomputable def qd3 (D:Den ctx) (a0:qd) (a1:Clo):Option ((Int×Unit)×Unit):=D 158 (a0,(a1,()))
noncomputable def qsp (D:Den ctx) (a0:qd):Option ((Bool×Unit)×Unit):=D 159 (a0,())
noncomputable def qwc (D:Den ctx) (a0:Int×Int×ByteArray×Unit):Option ((List Int×Unit)×Unit):=D 160 (a0,())
noncomputable def qnx (D:Den ctx) (a0:qd):Option ((List Int×Unit)×Unit):=D 161 (a0,())
noncomputable def qo1 (D:Den ctx) (a0:Int×Int×ByteArray×Unit) (a1:Int×Int×ByteArray×Unit):Option ((Bool×Unit)×Unit):=D 162 (a0,(a1,()))
noncomputable def qu6 (D:Den ctx) (a0:Int×Int×ByteArray×Unit) (a1:Int×Int×ByteArray×Unit):Option ((Bool×Unit)×Unit):=D 163 (a0,(a1,()))
noncomputable def qss (D:Den ctx) (a0:qd) (a1:qd):Option ((Bool×Unit)×Unit):=D 164 (a0,(a1,()))
noncomputable def qy2 (D:Den ctx) (a0:qd):Option ((Bool×Unit)×Unit):=D 165 (a0,())
noncomputable def qcc (D:Den ctx) (a0:qd) (a1:qd) (a2:Clo):Option ((Int×Unit)×Unit):=D 166 (a0,(a1,(a2,())))
noncomputable def qyb (D:Den ctx) (a0:Int×Int×ByteArray×Unit) (a1:Int×Int×ByteArray×Unit):Option ((Int×Unit)×Unit):=D 167 (a0,(a1,()))
noncomputable def q6j (D:Den ctx) (a0:ByteArray×List Int×Bool×Unit) (a1:qd) (a2:qd):Option ((Bool×Unit)×Unit):=D 168 (a0,(a1,(a2,())))
noncomputable def qep (D:Den ctx) (a0:qd) (a1:Int×Int×ByteArray×Unit):Option ((Bool×Unit)×Unit):=D 169 (a0,(a1,()))
noncomputable def qfn (D:Den ctx) (a0:qd) (a1:qd):Option ((Bool×Unit)×Unit):=D 170 (a0,(a1,()))
noncomputable def q0w (D:Den ctx) (a0:(tSch)×qe×Unit) (a1:qd):Option ((((tSch)×qe×Unit)×Int×Unit)×Unit):=D 171 (a0,(a1,()))
noncomputable def qgv (D:Den ctx) (a0:List tWay):Option ((List tWay×Unit)×Unit):=D 181 (a0,())
noncomputable def qfi (D:Den ctx) (a0:List tWay) (a1:Clo):Option ((Int×Unit)×Unit):=D 182 (a0,(a1,()))
noncomputable def q37 (D:Den ctx) (a0:ByteArray×ByteArray×Unit) (a1:ByteArray×ByteArray×Unit):Option ((Bool×Unit)×Unit):=D 183 (a0,(a1,()))
noncomputable def qx8 (D:Den ctx) (a0:ByteArray×ByteArray×Unit) (a1:ByteArray×ByteArray×Unit):Option ((Bool×Unit)×Unit):=D 185 (a0,(a1,()))
noncomputable def qm6 (D:Den ctx) (a0:List Int) (a1:Int):Option ((Int×Unit)×Unit):=D 186 (a0,(a1,()))
noncomputable def q1k (D:Den ctx) (a0:ByteArray) (a1:ByteArray):Option ((Int×Unit)×Unit):=D 187 (a0,(a1,()))
noncomputable def qfk (D:Den ctx) (a0:qd) (a1:Int×Int×ByteArray×Unit):Option ((Int×Unit)×Unit):=D 188 (a0,(a1,()))
noncomputable def qre (D:Den ctx) (a0:qe) (a1:Int) (a2:qe):Option ((qe×Unit)×Unit):=D 132 (a0,(a1,(a2,())))
noncomputable def qrf (D:Den ctx) (a0:qe) (a1:Int) (a2:Int):Option ((qe×Unit)×Unit):=D 139 (a0,(a1,(a2,())))
noncomputable def qcm (D:Den ctx) (a0:List tWay) (a1:Int) (a2:List tWay):Option ((List tWay×Unit)×Unit):=D 184 (a0,(a1,(a2,())))
end Go.G

namespace Go.G
set_option maxRecDepth 100000
set_option maxHeartbeats 0
open Go Go.V
noncomputable section
def qp7 (D:DX)(n:Nat) (go:Int→Int→(tSch)×qe×Unit→List tWay→Option ((Bool×Unit)×Unit)) (K0:Bool→Int→(tSch)×qe×Unit→List tWay→Option ((Bool×Unit)×Unit)) (K1:Int→(tSch)×qe×Unit→List tWay→Option ((Bool×Unit)×Unit)) (x0:Int) (x1:Int) (x2:(tSch)×qe×Unit) (x3:List tWay):Option ((Bool×Unit)×Unit):=br (decide (x1<(↑(List.length x3):Int))) (br (decide (0≤IntKind.wrap IntKind.i64 (x1 - 1))&&decide (IntKind.wrap IntKind.i64 (x1 - 1)<(↑(List.length x3):Int))) (br (decide (0≤x1)&&decide (x1<(↑(List.length x3):Int))) (qh (qso D (List.getD x3 (Int.toNat (IntKind.wrap IntKind.i64 (x1 - 1))) (ByteArray.empty,ByteArray.empty,())) (List.getD x3 (Int.toNat x1) (ByteArray.empty,ByteArray.empty,()))) fun b↦br (!Prod.fst (Prod.fst b)) (K0 false x0 x2 x3) (go x0 (IntKind.wrap IntKind.i64 (x1+1)) x2 x3)) none) none) (K1 x0 x2 x3)
def qgc (D:DX)(n:Nat) (K0:Bool→Int→(tSch)×qe×Unit→List tWay→Option ((Bool×Unit)×Unit)) (K1:Int→(tSch)×qe×Unit→List tWay→Option ((Bool×Unit)×Unit)):Nat→(Int)→(Int)→((tSch)×qe×Unit)→(List tWay)→Option ((Bool×Unit)×Unit) | 0=>(fun x0 x1 x2 x3=>none) | m+1=>(fun x0 x1 x2 x3=>qp7 D n (qgc D n K0 K1 m) K0 K1 x0 x1 x2 x3)
def qn2 (D:DX)(n:Nat) (v0_0:Bool) (v0_1:Int) (v0_2:(tSch)×qe×Unit) (v0_3:List tWay):Option ((Bool×Unit)×Unit):=some ((v0_0,()),())
def qjv (D:DX)(n:Nat) (v1_0:Int) (v1_1:(tSch)×qe×Unit) (v1_2:List tWay):Option ((Bool×Unit)×Unit):=qh (qwx D v1_1) fun b↦br (bif bif !Prod.fst (Prod.fst b) then true else decide (v1_0<0) then true else decide (v1_0≥(↑(List.length (Prod.fst (Prod.snd (Prod.snd (Prod.fst v1_1))))):Int))) (some ((decide ((↑(List.length v1_2):Int)=0),()),())) (some ((decide ((↑(List.length v1_2):Int)=(↑(List.length (Prod.fst (Prod.snd v1_1))):Int)),()),()))
def qpe (D:DX)(n:Nat):(Int)→(Int)→((tSch)×qe×Unit)→(List tWay)→Option ((Bool×Unit)×Unit):=(fun x0 x1 x2 x3=>qgc D n (fun v0_0 v0_1 v0_2 v0_3=>qn2 D n v0_0 v0_1 v0_2 v0_3) (fun v1_0 v1_1 v1_2=>qjv D n v1_0 v1_1 v1_2) n x0 x1 x2 x3)
def qrh (D:DX)(n:Nat) (lp0:Int→Int→(tSch)×qe×Unit→List tWay→Option ((Bool×Unit)×Unit)) (a0:List Int):Option ((Bool×Unit)×Unit):=qh (q61 D a0) fun b↦br (Prod.fst (Prod.fst b)) (some ((true,()),())) (qh (qth D a0) fun b↦qh (q0l D (Prod.fst (Prod.fst b)) (Prod.fst (Prod.snd (Prod.fst b)))) fun b_1↦qh (q1e D (Prod.fst (Prod.fst b)) (Prod.fst (Prod.snd (Prod.fst b)))) fun b_2↦qh (qv9 D (Prod.fst (Prod.fst b_1)) (Prod.fst (Prod.fst b_2))) fun b_3↦br (!Prod.fst (Prod.fst b_3)) (some ((false,()),())) (lp0 (Prod.fst (Prod.snd (Prod.fst b))) 1 (Prod.fst (Prod.fst b)) (Prod.fst (Prod.fst b_1))))
def qsb (D:DX)(n:Nat) (a0:List Int):Option ((Bool×Unit)×Unit):=qrh D n (qpe D n) a0
def qga (x0:Int) (x1:Int) (x2:(tSch)×qe×Unit) (x3:List tWay):St:=stq 64 [(3,AV.addr 3 []),(4,avI x0),(5,AV.brw 5 [] 0),(6,avI x1)] [(3,Root.mk (Ty.pair yS (Ty.pair (Ty.sl (Ty.sl yV)) Ty.unit)) Mk.no x2 true),(5,Root.mk (Ty.sl (Ty.pair Ty.str (Ty.pair Ty.str Ty.unit))) (Mk.own 0 (Mk.pr Mk.no (Mk.pr Mk.no Mk.no))) x3 false)] 
def qjr (v0_0:Bool) (v0_1:Int) (v0_2:(tSch)×qe×Unit) (v0_3:List tWay):St:=stq 64 [(2,AV.val Ty.bool v0_0),(3,AV.addr 3 []),(4,avI v0_1),(5,AV.brw 5 [] 0)] [(3,Root.mk (Ty.pair yS (Ty.pair (Ty.sl (Ty.sl yV)) Ty.unit)) Mk.no v0_2 true),(5,Root.mk (Ty.sl (Ty.pair Ty.str (Ty.pair Ty.str Ty.unit))) (Mk.own 0 (Mk.pr Mk.no (Mk.pr Mk.no Mk.no))) v0_3 false)] 
def qjp (v1_0:Int) (v1_1:(tSch)×qe×Unit) (v1_2:List tWay):St:=stq 64 [(3,AV.addr 3 []),(4,avI v1_0),(5,AV.brw 5 [] 0)] [(3,Root.mk (Ty.pair yS (Ty.pair (Ty.sl (Ty.sl yV)) Ty.unit)) Mk.no v1_1 true),(5,Root.mk (Ty.sl (Ty.pair Ty.str (Ty.pair Ty.str Ty.unit))) (Mk.own 0 (Mk.pr Mk.no (Mk.pr Mk.no Mk.no))) v1_2 false)] 
theorem q6w (D:DX)(n:Nat) (m:Nat) (K:Ex→St→Option (Out ctx 14)) (x0:Int) (x1:Int) (x2:(tSch)×
 qe×Unit) (x3:List tWay) :
 LQ qc D n 14 [.r,.r,.r,.r,.r,.l,.r,.l] (m+1) (qga x0 x1 x2 x3) K=qp7 D n (fun x0 x1 x2 x3=>LQ qc D n 14 [.r,.r,.r,.r,.r,.l,.r,.l] m (qga x0 x1 x2 x3) K) (fun v0_0 v0_1 v0_2 v0_3=>K (Ex.ret) (qjr v0_0 v0_1 v0_2 v0_3)) (fun v1_0 v1_1 v1_2=>K (Ex.exit 0) (qjp v1_0 v1_1 v1_2)) x0 x1 x2 x3:=by kernel_rfl
theorem qwk (D:DX)(n:Nat) (K:Ex→St→Option (Out ctx 14)):∀ (m:Nat) (x0:Int) (x1:Int) (x2:(tSch)×
 qe×Unit) (x3:List tWay),LQ qc D n 14 [.r,.r,.r,.r,.r,.l,.r,.l] m (qga x0 x1 x2 x3) K=qgc D n (fun v0_0 v0_1 v0_2 v0_3=>K (Ex.ret) (qjr v0_0 v0_1 v0_2 v0_3)) (fun v1_0 v1_1 v1_2=>K (Ex.exit 0) (qjp v1_0 v1_1 v1_2)) m x0 x1 x2 x3
 | 0,x0,x1,x2,x3=>qx ..
 | m+1,x0,x1,x2,x3=>by
  have ih:(fun x0 x1 x2 x3=>LQ qc D n 14 [.r,.r,.r,.r,.r,.l,.r,.l] m (qga x0 x1 x2 x3) K)=qgc D n (fun v0_0 v0_1 v0_2 v0_3=>K (Ex.ret) (qjr v0_0 v0_1 v0_2 v0_3)) (fun v1_0 v1_1 v1_2=>K (Ex.exit 0) (qjp v1_0 v1_1 v1_2)) m:=by funext x0 x1 x2 x3;exact qwk D n K m x0 x1 x2 x3
  rw[q6w]
  rw[ih];rfl
theorem q5t (D:DX)(n:Nat) (v0_0:Bool) (v0_1:Int) (v0_2:(tSch)×
 qe×Unit) (v0_3:List tWay) :
 (CQ qc D n 14 [] [.r,.r,.r,.r,.r,.l,.r,.l] (qi qc 14)) (Ex.ret) (qjr v0_0 v0_1 v0_2 v0_3)=qn2 D n v0_0 v0_1 v0_2 v0_3:=by kernel_rfl
theorem q6o (D:DX)(n:Nat) (v1_0:Int) (v1_1:(tSch)×
 qe×Unit) (v1_2:List tWay) :
 (CQ qc D n 14 [] [.r,.r,.r,.r,.r,.l,.r,.l] (qi qc 14)) (Ex.exit 0) (qjp v1_0 v1_1 v1_2)=qjv D n v1_0 v1_1 v1_2:=by kernel_rfl
theorem q59 (D:DX)(n:Nat) (x0:Int) (x1:Int) (x2:(tSch)×
 qe×Unit) (x3:List tWay) :
 LQ qc D n 14 [.r,.r,.r,.r,.r,.l,.r,.l] n (qga x0 x1 x2 x3) (CQ qc D n 14 [] [.r,.r,.r,.r,.r,.l,.r,.l] (qi qc 14))=qpe D n x0 x1 x2 x3:=by
 rw[qwk]
 simp only[q5t,q6o]
 rfl
theorem q9i (D:DX)(n:Nat) (a0:List Int):rfC qc D n 14 (a0,())=qsb D n a0:=by
 have h:rfC qc D n 14 (a0,())=qrh D n (fun x0 x1 x2 x3=>LQ qc D n 14 [.r,.r,.r,.r,.r,.l,.r,.l] n (qga x0 x1 x2 x3) (CQ qc D n 14 [] [.r,.r,.r,.r,.r,.l,.r,.l] (qi qc 14))) a0:=by kernel_rfl
 rw[h]
 simp only[q59]
 rfl


def quf (D:DX)(n:Nat) (go:Int→tSch→Option ((Bool×Unit)×Unit)) (K0:Bool→tSch→Option ((Bool×Unit)×Unit)) (K1:tSch→Option ((Bool×Unit)×Unit)) (x0:Int) (x1:tSch):Option ((Bool×Unit)×Unit):=br (decide (x0<(↑(List.length (Prod.fst x1)):Int))) (br (decide (0≤x0)&&decide (x0<(↑(List.length (Prod.fst x1)):Int))) (qh (qoo D (Prod.fst (List.getD (Prod.fst x1) (Int.toNat x0) (ByteArray.empty,0,false,())))) fun b↦br (!Prod.fst (Prod.fst b)) (K0 false x1) (br (decide (0≤x0)&&decide (x0<(↑(List.length (Prod.fst x1)):Int))) (qh (qgk D (Prod.fst (Prod.snd (List.getD (Prod.fst x1) (Int.toNat x0) (ByteArray.empty,0,false,())))) 1 3) fun b↦br (!Prod.fst (Prod.fst b)) (K0 false x1) (br (decide (0≤x0)&&decide (x0<(↑(List.length (Prod.fst x1)):Int))) (qh (q3m D x1 (Prod.fst (List.getD (Prod.fst x1) (Int.toNat x0) (ByteArray.empty,0,false,())))) fun b↦br (Prod.fst (Prod.fst b) != x0) (K0 false x1) (go (IntKind.wrap IntKind.i64 (x0+1)) x1)) none)) none)) none) (K1 x1)
def qi1 (D:DX)(n:Nat) (K0:Bool→tSch→Option ((Bool×Unit)×Unit)) (K1:tSch→Option ((Bool×Unit)×Unit)):Nat→(Int)→(tSch)→Option ((Bool×Unit)×Unit) | 0=>(fun x0 x1=>none) | m+1=>(fun x0 x1=>quf D n (qi1 D n K0 K1 m) K0 K1 x0 x1)
def qz9 (D:DX)(n:Nat) (v0_0:Bool) (v0_1:tSch):Option ((Bool×Unit)×Unit):=some ((v0_0,()),())
def qu2 (D:DX)(n:Nat) (go:Int→tSch→Option ((Bool×Unit)×Unit)) (K0:Bool→Option ((Bool×Unit)×Unit)) (K1:Option ((Bool×Unit)×Unit)) (x1_0:Int) (x1_1:tSch):Option ((Bool×Unit)×Unit):=br (decide (x1_0<(↑(List.length (Prod.fst (Prod.snd x1_1))):Int))) (br (decide (0≤x1_0)&&decide (x1_0<(↑(List.length (Prod.fst (Prod.snd x1_1))):Int))) (br (decide (0≤List.getD (Prod.fst (Prod.snd x1_1)) (Int.toNat x1_0) 0)&&decide (List.getD (Prod.fst (Prod.snd x1_1)) (Int.toNat x1_0) 0<(↑(List.length (Prod.fst x1_1)):Int))) (br (Prod.fst (Prod.snd (Prod.snd (List.getD (Prod.fst x1_1) (Int.toNat (List.getD (Prod.fst (Prod.snd x1_1)) (Int.toNat x1_0) 0)) (ByteArray.empty,0,false,()))))) (K0 false) (go (IntKind.wrap IntKind.i64 (x1_0+1)) x1_1)) none) none) K1
def qip (D:DX)(n:Nat) (K0:Bool→Option ((Bool×Unit)×Unit)) (K1:Option ((Bool×Unit)×Unit)):Nat→(Int)→(tSch)→Option ((Bool×Unit)×Unit) | 0=>(fun x1_0 x1_1=>none) | m+1=>(fun x1_0 x1_1=>qu2 D n (qip D n K0 K1 m) K0 K1 x1_0 x1_1)
def q0d (D:DX)(n:Nat) (v0_0:Bool):Option ((Bool×Unit)×Unit):=some ((v0_0,()),())
def qzv (D:DX)(n:Nat):Option ((Bool×Unit)×Unit):=some ((true,()),())
def qs0 (D:DX)(n:Nat):(Int)→(tSch)→Option ((Bool×Unit)×Unit):=(fun x1_0 x1_1=>qip D n (fun v0_0=>q0d D n v0_0) (qzv D n) n x1_0 x1_1)
def qr0 (D:DX)(n:Nat) (lp1:Int→tSch→Option ((Bool×Unit)×Unit)) (v1_0:tSch):Option ((Bool×Unit)×Unit):=qh (qgk D (↑(List.length (Prod.fst v1_0)):Int) 1 5) fun b↦br (!Prod.fst (Prod.fst b)) (some ((false,()),())) (qh (qo4 D v1_0 (Prod.fst (Prod.snd v1_0)) 4) fun b↦br (!Prod.fst (Prod.fst b)) (some ((false,()),())) (qh (qs4 D v1_0) fun b↦br (!Prod.fst (Prod.fst b)) (some ((false,()),())) (lp1 0 v1_0)))
def qtg (D:DX)(n:Nat):(Int)→(tSch)→Option ((Bool×Unit)×Unit):=(fun x0 x1=>qi1 D n (fun v0_0 v0_1=>qz9 D n v0_0 v0_1) (fun v1_0=>qr0 D n (qs0 D n) v1_0) n x0 x1)
def qv0 (D:DX)(n:Nat) (lp0:Int→tSch→Option ((Bool×Unit)×Unit)) (a0:tSch):Option ((Bool×Unit)×Unit):=lp0 0 a0
def qwp (D:DX)(n:Nat) (a0:tSch):Option ((Bool×Unit)×Unit):=qv0 D n (qtg D n) a0
def qix (x0:Int) (x1:tSch):St:=stq 76 [(1,AV.addr 1 []),(3,avI x0)] [(1,Root.mk yS Mk.no x1 true)] 
def qmq (v0_0:Bool) (v0_1:tSch):St:=stq 76 [(1,AV.addr 1 []),(2,AV.val Ty.bool v0_0)] [(1,Root.mk yS Mk.no v0_1 true)] 
def qmi (v1_0:tSch):St:=stq 76 [(1,AV.addr 1 [])] [(1,Root.mk yS Mk.no v1_0 true)] 
def qit (x1_0:Int) (x1_1:tSch):St:=stq 76 [(1,AV.addr 1 []),(4,avI x1_0)] [(1,Root.mk yS Mk.no x1_1 true)] 
def ql5 (v0_0:Bool):St:=stq 76 [(2,AV.val Ty.bool v0_0)] [] 
def qmo:St:=stq 76 [] [] 
theorem qbbz (D:DX)(n:Nat) (m:Nat) (K:Ex→St→Option (Out ctx 16)) (x0:Int) (x1:tSch) :
 LQ qc D n 16 [.r,.l,.r,.l] (m+1) (qix x0 x1) K=quf D n (fun x0 x1=>LQ qc D n 16 [.r,.l,.r,.l] m (qix x0 x1) K) (fun v0_0 v0_1=>K (Ex.ret) (qmq v0_0 v0_1)) (fun v1_0=>K (Ex.exit 0) (qmi v1_0)) x0 x1:=by kernel_rfl
theorem q1t (D:DX)(n:Nat) (K:Ex→St→Option (Out ctx 16)):∀ (m:Nat) (x0:Int) (x1:tSch),LQ qc D n 16 [.r,.l,.r,.l] m (qix x0 x1) K=qi1 D n (fun v0_0 v0_1=>K (Ex.ret) (qmq v0_0 v0_1)) (fun v1_0=>K (Ex.exit 0) (qmi v1_0)) m x0 x1
 | 0,x0,x1=>qx ..
 | m+1,x0,x1=>by
  have ih:(fun x0 x1=>LQ qc D n 16 [.r,.l,.r,.l] m (qix x0 x1) K)=qi1 D n (fun v0_0 v0_1=>K (Ex.ret) (qmq v0_0 v0_1)) (fun v1_0=>K (Ex.exit 0) (qmi v1_0)) m:=by funext x0 x1;exact q1t D n K m x0 x1
  rw[qbbz]
  rw[ih];rfl
theorem qbcb (D:DX)(n:Nat) (m:Nat) (K:Ex→St→Option (Out ctx 16)) (x1_0:Int) (x1_1:tSch) :
 LQ qc D n 16 [.r,.r,.r,.l,.r,.l] (m+1) (qit x1_0 x1_1) K=qu2 D n (fun x1_0 x1_1=>LQ qc D n 16 [.r,.r,.r,.l,.r,.l] m (qit x1_0 x1_1) K) (fun v0_0=>K (Ex.ret) (ql5 v0_0)) (K (Ex.exit 2) (qmo)) x1_0 x1_1:=by kernel_rfl
theorem q1v (D:DX)(n:Nat) (K:Ex→St→Option (Out ctx 16)):∀ (m:Nat) (x1_0:Int) (x1_1:tSch),LQ qc D n 16 [.r,.r,.r,.l,.r,.l] m (qit x1_0 x1_1) K=qip D n (fun v0_0=>K (Ex.ret) (ql5 v0_0)) (K (Ex.exit 2) (qmo)) m x1_0 x1_1
 | 0,x1_0,x1_1=>qx ..
 | m+1,x1_0,x1_1=>by
  have ih:(fun x1_0 x1_1=>LQ qc D n 16 [.r,.r,.r,.l,.r,.l] m (qit x1_0 x1_1) K)=qip D n (fun v0_0=>K (Ex.ret) (ql5 v0_0)) (K (Ex.exit 2) (qmo)) m:=by funext x1_0 x1_1;exact q1v D n K m x1_0 x1_1
  rw[qbcb]
  rw[ih];rfl
theorem qbac (D:DX)(n:Nat) (v0_0:Bool) :
 (CQ qc D n 16 [] [.r,.r,.r,.l,.r,.l] (qi qc 16)) (Ex.ret) (ql5 v0_0)=q0d D n v0_0:=by kernel_rfl
theorem q9q (D:DX)(n:Nat) :
 (CQ qc D n 16 [] [.r,.r,.r,.l,.r,.l] (qi qc 16)) (Ex.exit 2) (qmo)=qzv D n:=by kernel_rfl
theorem qbab (D:DX)(n:Nat) (x1_0:Int) (x1_1:tSch) :
 LQ qc D n 16 [.r,.r,.r,.l,.r,.l] n (qit x1_0 x1_1) (CQ qc D n 16 [] [.r,.r,.r,.l,.r,.l] (qi qc 16))=qs0 D n x1_0 x1_1:=by
 rw[q1v]
 simp only[qbac,q9q]
 rfl
theorem q9z (D:DX)(n:Nat) (v0_0:Bool) (v0_1:tSch) :
 (CQ qc D n 16 [] [.r,.l,.r,.l] (qi qc 16)) (Ex.ret) (qmq v0_0 v0_1)=qz9 D n v0_0 v0_1:=by kernel_rfl
theorem q95 (D:DX)(n:Nat) (v1_0:tSch) :
 (CQ qc D n 16 [] [.r,.l,.r,.l] (qi qc 16)) (Ex.exit 0) (qmi v1_0)=qr0 D n (fun x1_0 x1_1=>LQ qc D n 16 [.r,.r,.r,.l,.r,.l] n (qit x1_0 x1_1) (CQ qc D n 16 [] [.r,.r,.r,.l,.r,.l] (qi qc 16))) v1_0:=by kernel_rfl
theorem qbal (D:DX)(n:Nat) (x0:Int) (x1:tSch) :
 LQ qc D n 16 [.r,.l,.r,.l] n (qix x0 x1) (CQ qc D n 16 [] [.r,.l,.r,.l] (qi qc 16))=qtg D n x0 x1:=by
 rw[q1t]
 simp only[q9z,q95,qbab]
 rfl
theorem qbf2 (D:DX)(n:Nat) (a0:tSch):rfC qc D n 16 (a0,())=qwp D n a0:=by
 have h:rfC qc D n 16 (a0,())=qv0 D n (fun x0 x1=>LQ qc D n 16 [.r,.l,.r,.l] n (qix x0 x1) (CQ qc D n 16 [] [.r,.l,.r,.l] (qi qc 16))) a0:=by kernel_rfl
 rw[h]
 simp only[qbal]
 rfl


def qub (D:DX)(n:Nat) (go:qhd→Int→Int→tSch→Option ((Bool×Unit)×Unit)) (K0:Bool→tSch→Option ((Bool×Unit)×Unit)) (K1:tSch→Option ((Bool×Unit)×Unit)) (x0:qhd) (x1:Int) (x2:Int) (x3:tSch):Option ((Bool×Unit)×Unit):=br (decide (x2<x1)) (br (decide (0≤x2)&&decide (x2<(↑(List.length x0):Int))) (qh (qpd D (Prod.fst (List.getD x0 (Int.toNat x2) (ByteArray.empty,0,false,())))) fun b↦br (!Prod.fst (Prod.fst b)) (K0 false x3) (qh (qgd D (Prod.fst (Prod.snd (List.getD x0 (Int.toNat x2) (ByteArray.empty,0,false,())))) 1 3) fun b↦br (!Prod.fst (Prod.fst b)) (K0 false x3) (qh (q28 D x3 (Prod.fst (List.getD x0 (Int.toNat x2) (ByteArray.empty,0,false,())))) fun b↦br (Prod.fst (Prod.fst b) != x2) (K0 false x3) (go x0 x1 (IntKind.wrap IntKind.i64 (x2+1)) x3)))) none) (K1 x3)
def qi4 (D:DX)(n:Nat) (K0:Bool→tSch→Option ((Bool×Unit)×Unit)) (K1:tSch→Option ((Bool×Unit)×Unit)):Nat→(qhd)→(Int)→(Int)→(tSch)→Option ((Bool×Unit)×Unit) | 0=>(fun x0 x1 x2 x3=>none) | m+1=>(fun x0 x1 x2 x3=>qub D n (qi4 D n K0 K1 m) K0 K1 x0 x1 x2 x3)
def qzw (D:DX)(n:Nat) (v0_0:Bool) (v0_1:tSch):Option ((Bool×Unit)×Unit):=some ((v0_0,()),())
def quj (D:DX)(n:Nat) (go:tIxs→Int→Int→tSch→Option ((Bool×Unit)×Unit)) (K0:Bool→tSch→Option ((Bool×Unit)×Unit)) (K1:tSch→Option ((Bool×Unit)×Unit)) (x1_0:tIxs) (x1_1:Int) (x1_2:Int) (x1_3:tSch):Option ((Bool×Unit)×Unit):=br (decide (x1_2<x1_1)) (br (decide (0≤x1_2)&&decide (x1_2<(↑(List.length x1_0):Int))) (qh (qpd D (Prod.fst (List.getD x1_0 (Int.toNat x1_2) (ByteArray.empty,[],false,())))) fun b↦br (!Prod.fst (Prod.fst b)) (K0 false x1_3) (qh (qq6 D x1_3 (Prod.fst (Prod.snd (List.getD x1_0 (Int.toNat x1_2) (ByteArray.empty,[],false,())))) 3) fun b↦br (!Prod.fst (Prod.fst b)) (K0 false x1_3) (br (decide (0≤0)&&decide (0≤x1_2)&&decide (x1_2≤(↑(List.length (Prod.fst (Prod.snd (Prod.snd x1_3)))):Int))) (qh (qcw D (List.drop (Int.toNat 0) (List.take (Int.toNat x1_2) (Prod.fst (Prod.snd (Prod.snd x1_3))))) (Clo.mk 82 [CapV.rptr (Ty.pair Ty.str (Ty.pair (Ty.sl (Ty.int IntKind.i64)) (Ty.pair Ty.bool Ty.unit))) (List.getD x1_0 (Int.toNat x1_2) (ByteArray.empty,[],false,()))])) fun b↦br (Prod.fst (Prod.fst b)) (K0 false x1_3) (go x1_0 x1_1 (IntKind.wrap IntKind.i64 (x1_2+1)) x1_3)) none))) none) (K1 x1_3)
def qiu (D:DX)(n:Nat) (K0:Bool→tSch→Option ((Bool×Unit)×Unit)) (K1:tSch→Option ((Bool×Unit)×Unit)):Nat→(tIxs)→(Int)→(Int)→(tSch)→Option ((Bool×Unit)×Unit) | 0=>(fun x1_0 x1_1 x1_2 x1_3=>none) | m+1=>(fun x1_0 x1_1 x1_2 x1_3=>quj D n (qiu D n K0 K1 m) K0 K1 x1_0 x1_1 x1_2 x1_3)
def qz7 (D:DX)(n:Nat) (v0_0:Bool) (v0_1:tSch):Option ((Bool×Unit)×Unit):=some ((v0_0,()),())
def qsc (D:DX)(n:Nat) (v1_0:tSch):Option ((Bool×Unit)×Unit):=qh (qgd D (↑(List.length (Prod.fst v1_0)):Int) 1 5) fun b↦br (Prod.fst (Prod.fst b)) (qh (qq6 D v1_0 (Prod.fst (Prod.snd v1_0)) 4) fun b↦br (Prod.fst (Prod.fst b)) (qh (qia D (Prod.fst (Prod.snd v1_0)) (Clo.mk 84 [CapV.rptr (Ty.pair (Ty.sl (Ty.pair Ty.str (Ty.pair (Ty.int IntKind.i64) (Ty.pair Ty.bool Ty.unit)))) (Ty.pair (Ty.sl (Ty.int IntKind.i64)) (Ty.pair (Ty.sl (Ty.pair Ty.str (Ty.pair (Ty.sl (Ty.int IntKind.i64)) (Ty.pair Ty.bool Ty.unit)))) Ty.unit))) v1_0])) fun b↦some ((bif !Prod.fst (Prod.fst b) then decide ((↑(List.length (Prod.fst (Prod.snd (Prod.snd v1_0)))):Int)≤3) else false,()),())) (some ((false,()),()))) (some ((false,()),()))
def qs9 (D:DX)(n:Nat):(tIxs)→(Int)→(Int)→(tSch)→Option ((Bool×Unit)×Unit):=(fun x1_0 x1_1 x1_2 x1_3=>qiu D n (fun v0_0 v0_1=>qz7 D n v0_0 v0_1) (fun v1_0=>qsc D n v1_0) n x1_0 x1_1 x1_2 x1_3)
def qr3 (D:DX)(n:Nat) (lp1:tIxs→Int→Int→tSch→Option ((Bool×Unit)×Unit)) (v1_0:tSch):Option ((Bool×Unit)×Unit):=lp1 (Prod.fst (Prod.snd (Prod.snd v1_0))) (↑(List.length (Prod.fst (Prod.snd (Prod.snd v1_0)))):Int) 0 v1_0
def qtd (D:DX)(n:Nat):(qhd)→(Int)→(Int)→(tSch)→Option ((Bool×Unit)×Unit):=(fun x0 x1 x2 x3=>qi4 D n (fun v0_0 v0_1=>qzw D n v0_0 v0_1) (fun v1_0=>qr3 D n (qs9 D n) v1_0) n x0 x1 x2 x3)
def qwm (D:DX)(n:Nat) (lp0:qhd→Int→Int→tSch→Option ((Bool×Unit)×Unit)) (a0:tSch):Option ((Bool×Unit)×Unit):=lp0 (Prod.fst a0) (↑(List.length (Prod.fst a0)):Int) 0 a0
def qwn (D:DX)(n:Nat) (a0:tSch):Option ((Bool×Unit)×Unit):=qwm D n (qtd D n) a0
def qi5 (x0:qhd) (x1:Int) (x2:Int) (x3:tSch):St:=stq 85 [(1,AV.addr 1 []),(8,AV.val (Ty.sl yC) x0),(9,avI x1),(10,avI x2)] [(1,Root.mk yS Mk.no x3 true)] 
def qma (v0_0:Bool) (v0_1:tSch):St:=stq 85 [(1,AV.addr 1 []),(2,AV.val Ty.bool v0_0)] [(1,Root.mk yS Mk.no v0_1 true)] 
def qmf (v1_0:tSch):St:=stq 85 [(1,AV.addr 1 [])] [(1,Root.mk yS Mk.no v1_0 true)] 
def qis (x1_0:tIxs) (x1_1:Int) (x1_2:Int) (x1_3:tSch):St:=stq 85 [(1,AV.addr 1 []),(35,AV.val (Ty.sl yX) x1_0),(36,avI x1_1),(37,avI x1_2)] [(1,Root.mk yS Mk.no x1_3 true)] 
def ql3 (v0_0:Bool) (v0_1:tSch):St:=stq 85 [(1,AV.addr 1 []),(2,AV.val Ty.bool v0_0)] [(1,Root.mk yS Mk.no v0_1 true)] 
def qmv (v1_0:tSch):St:=stq 85 [(1,AV.addr 1 [])] [(1,Root.mk yS Mk.no v1_0 true)] 
theorem qbbr (D:DX)(n:Nat) (m:Nat) (K:Ex→St→Option (Out ctx 18)) (x0:qhd) (x1:Int) (x2:Int) (x3:tSch) :
 LQ qc D n 18 [.r,.l,.r,.l] (m+1) (qi5 x0 x1 x2 x3) K=qub D n (fun x0 x1 x2 x3=>LQ qc D n 18 [.r,.l,.r,.l] m (qi5 x0 x1 x2 x3) K) (fun v0_0 v0_1=>K (Ex.ret) (qma v0_0 v0_1)) (fun v1_0=>K (Ex.exit 0) (qmf v1_0)) x0 x1 x2 x3:=by kernel_rfl
theorem q1x (D:DX)(n:Nat) (K:Ex→St→Option (Out ctx 18)):∀ (m:Nat) (x0:qhd) (x1:Int) (x2:Int) (x3:tSch),LQ qc D n 18 [.r,.l,.r,.l] m (qi5 x0 x1 x2 x3) K=qi4 D n (fun v0_0 v0_1=>K (Ex.ret) (qma v0_0 v0_1)) (fun v1_0=>K (Ex.exit 0) (qmf v1_0)) m x0 x1 x2 x3
 | 0,x0,x1,x2,x3=>qx ..
 | m+1,x0,x1,x2,x3=>by
  have ih:(fun x0 x1 x2 x3=>LQ qc D n 18 [.r,.l,.r,.l] m (qi5 x0 x1 x2 x3) K)=qi4 D n (fun v0_0 v0_1=>K (Ex.ret) (qma v0_0 v0_1)) (fun v1_0=>K (Ex.exit 0) (qmf v1_0)) m:=by funext x0 x1 x2 x3;exact q1x D n K m x0 x1 x2 x3
  rw[qbbr]
  rw[ih];rfl
theorem qbcd (D:DX)(n:Nat) (m:Nat) (K:Ex→St→Option (Out ctx 18)) (x1_0:tIxs) (x1_1:Int) (x1_2:Int) (x1_3:tSch) :
 LQ qc D n 18 [.r,.r,.l,.r,.l] (m+1) (qis x1_0 x1_1 x1_2 x1_3) K=quj D n (fun x1_0 x1_1 x1_2 x1_3=>LQ qc D n 18 [.r,.r,.l,.r,.l] m (qis x1_0 x1_1 x1_2 x1_3) K) (fun v0_0 v0_1=>K (Ex.ret) (ql3 v0_0 v0_1)) (fun v1_0=>K (Ex.exit 2) (qmv v1_0)) x1_0 x1_1 x1_2 x1_3:=by kernel_rfl
theorem q1z (D:DX)(n:Nat) (K:Ex→St→Option (Out ctx 18)):∀ (m:Nat) (x1_0:tIxs) (x1_1:Int) (x1_2:Int) (x1_3:tSch),LQ qc D n 18 [.r,.r,.l,.r,.l] m (qis x1_0 x1_1 x1_2 x1_3) K=qiu D n (fun v0_0 v0_1=>K (Ex.ret) (ql3 v0_0 v0_1)) (fun v1_0=>K (Ex.exit 2) (qmv v1_0)) m x1_0 x1_1 x1_2 x1_3
 | 0,x1_0,x1_1,x1_2,x1_3=>qx ..
 | m+1,x1_0,x1_1,x1_2,x1_3=>by
  have ih:(fun x1_0 x1_1 x1_2 x1_3=>LQ qc D n 18 [.r,.r,.l,.r,.l] m (qis x1_0 x1_1 x1_2 x1_3) K)=qiu D n (fun v0_0 v0_1=>K (Ex.ret) (ql3 v0_0 v0_1)) (fun v1_0=>K (Ex.exit 2) (qmv v1_0)) m:=by funext x1_0 x1_1 x1_2 x1_3;exact q1z D n K m x1_0 x1_1 x1_2 x1_3
  rw[qbcd]
  rw[ih];rfl
theorem q9d (D:DX)(n:Nat) (v0_0:Bool) (v0_1:tSch) :
 (CQ qc D n 18 [] [.r,.r,.l,.r,.l] (qi qc 18)) (Ex.ret) (ql3 v0_0 v0_1)=qz7 D n v0_0 v0_1:=by kernel_rfl
theorem q9p (D:DX)(n:Nat) (v1_0:tSch) :
 (CQ qc D n 18 [] [.r,.r,.l,.r,.l] (qi qc 18)) (Ex.exit 2) (qmv v1_0)=qsc D n v1_0:=by kernel_rfl
theorem q89 (D:DX)(n:Nat) (x1_0:tIxs) (x1_1:Int) (x1_2:Int) (x1_3:tSch) :
 LQ qc D n 18 [.r,.r,.l,.r,.l] n (qis x1_0 x1_1 x1_2 x1_3) (CQ qc D n 18 [] [.r,.r,.l,.r,.l] (qi qc 18))=qs9 D n x1_0 x1_1 x1_2 x1_3:=by
 rw[q1z]
 simp only[q9d,q9p]
 rfl
theorem qbag (D:DX)(n:Nat) (v0_0:Bool) (v0_1:tSch) :
 (CQ qc D n 18 [] [.r,.l,.r,.l] (qi qc 18)) (Ex.ret) (qma v0_0 v0_1)=qzw D n v0_0 v0_1:=by kernel_rfl
theorem qbau (D:DX)(n:Nat) (v1_0:tSch) :
 (CQ qc D n 18 [] [.r,.l,.r,.l] (qi qc 18)) (Ex.exit 0) (qmf v1_0)=qr3 D n (fun x1_0 x1_1 x1_2 x1_3=>LQ qc D n 18 [.r,.r,.l,.r,.l] n (qis x1_0 x1_1 x1_2 x1_3) (CQ qc D n 18 [] [.r,.r,.l,.r,.l] (qi qc 18))) v1_0:=by kernel_rfl
theorem q9l (D:DX)(n:Nat) (x0:qhd) (x1:Int) (x2:Int) (x3:tSch) :
 LQ qc D n 18 [.r,.l,.r,.l] n (qi5 x0 x1 x2 x3) (CQ qc D n 18 [] [.r,.l,.r,.l] (qi qc 18))=qtd D n x0 x1 x2 x3:=by
 rw[q1x]
 simp only[qbag,qbau,q89]
 rfl
theorem qbgd (D:DX)(n:Nat) (a0:tSch):rfC qc D n 18 (a0,())=qwn D n a0:=by
 have h:rfC qc D n 18 (a0,())=qwm D n (fun x0 x1 x2 x3=>LQ qc D n 18 [.r,.l,.r,.l] n (qi5 x0 x1 x2 x3) (CQ qc D n 18 [] [.r,.l,.r,.l] (qi qc 18))) a0:=by kernel_rfl
 rw[h]
 simp only[q9l]
 rfl


def qbog (D:DX)(n:Nat) (a0:List Int):Option ((Bool×Unit)×Unit):=some ((decide ((↑(List.length a0):Int)>1048576),()),())
def qbfw (D:DX)(n:Nat) (a0:List Int):Option ((Bool×Unit)×Unit):=qbog D n a0
theorem qboh (D:DX)(n:Nat) (a0:List Int):rfC qc D n 20 (a0,())=qbfw D n a0:=by kernel_rfl

def q00 (D:DX)(n:Nat) (go:qd→Int→Int→tSch→Option ((Bool×Unit)×Unit)) (K0:Bool→Option ((Bool×Unit)×Unit)) (K1:Option ((Bool×Unit)×Unit)) (x0:qd) (x1:Int) (x2:Int) (x3:tSch):Option ((Bool×Unit)×Unit):=br (decide (x2<x1)) (br (decide (0≤x2)&&decide (x2<(↑(List.length x0):Int))) (br (decide (0≤x2)&&decide (x2<(↑(List.length (Prod.fst x3)):Int))) (qh (qsi D (List.getD x0 (Int.toNat x2) (0,0,ByteArray.empty,()))) fun b↦br (bif !Prod.fst (Prod.fst b) then true else bif Prod.fst (List.getD x0 (Int.toNat x2) (0,0,ByteArray.empty,())) != Prod.fst (Prod.snd (List.getD (Prod.fst x3) (Int.toNat x2) (ByteArray.empty,0,false,()))) then !bif decide (Prod.fst (List.getD x0 (Int.toNat x2) (0,0,ByteArray.empty,()))=0) then Prod.fst (Prod.snd (Prod.snd (List.getD (Prod.fst x3) (Int.toNat x2) (ByteArray.empty,0,false,())))) else false else false) (K0 false) (go x0 x1 (IntKind.wrap IntKind.i64 (x2+1)) x3)) none) none) K1
def qlp (D:DX)(n:Nat) (K0:Bool→Option ((Bool×Unit)×Unit)) (K1:Option ((Bool×Unit)×Unit)):Nat→(qd)→(Int)→(Int)→(tSch)→Option ((Bool×Unit)×Unit) | 0=>(fun x0 x1 x2 x3=>none) | m+1=>(fun x0 x1 x2 x3=>q00 D n (qlp D n K0 K1 m) K0 K1 x0 x1 x2 x3)
def q4q (D:DX)(n:Nat) (v0_0:Bool):Option ((Bool×Unit)×Unit):=some ((v0_0,()),())
def q4l (D:DX)(n:Nat):Option ((Bool×Unit)×Unit):=some ((true,()),())
def qzf (D:DX)(n:Nat):(qd)→(Int)→(Int)→(tSch)→Option ((Bool×Unit)×Unit):=(fun x0 x1 x2 x3=>qlp D n (fun v0_0=>q4q D n v0_0) (q4l D n) n x0 x1 x2 x3)
def q30 (D:DX)(n:Nat) (lp0:qd→Int→Int→tSch→Option ((Bool×Unit)×Unit)) (a0:tSch) (a1:qd):Option ((Bool×Unit)×Unit):=qh (qq0 D a0) fun b↦br (bif !Prod.fst (Prod.fst b) then true else (↑(List.length a1):Int) != (↑(List.length (Prod.fst a0)):Int)) (some ((false,()),())) (lp0 a1 (↑(List.length a1):Int) 0 a0)
def q2j (D:DX)(n:Nat) (a0:tSch) (a1:qd):Option ((Bool×Unit)×Unit):=q30 D n (qzf D n) a0 a1
def qlz (x0:qd) (x1:Int) (x2:Int) (x3:tSch):St:=stq 52 [(2,AV.addr 2 []),(19,AV.val (Ty.sl yV) x0),(20,avI x1),(21,avI x2)] [(2,Root.mk yS Mk.no x3 true)] 
def qqz (v0_0:Bool):St:=stq 52 [(4,AV.val Ty.bool v0_0)] [] 
def qq8:St:=stq 52 [] [] 
theorem qbho (D:DX)(n:Nat) (m:Nat) (K:Ex→St→Option (Out ctx 26)) (x0:qd) (x1:Int) (x2:Int) (x3:tSch) :
 LQ qc D n 26 [.r,.r,.l,.r,.l] (m+1) (qlz x0 x1 x2 x3) K=q00 D n (fun x0 x1 x2 x3=>LQ qc D n 26 [.r,.r,.l,.r,.l] m (qlz x0 x1 x2 x3) K) (fun v0_0=>K (Ex.ret) (qqz v0_0)) (K (Ex.exit 0) (qq8)) x0 x1 x2 x3:=by kernel_rfl
theorem q57 (D:DX)(n:Nat) (K:Ex→St→Option (Out ctx 26)):∀ (m:Nat) (x0:qd) (x1:Int) (x2:Int) (x3:tSch),LQ qc D n 26 [.r,.r,.l,.r,.l] m (qlz x0 x1 x2 x3) K=qlp D n (fun v0_0=>K (Ex.ret) (qqz v0_0)) (K (Ex.exit 0) (qq8)) m x0 x1 x2 x3
 | 0,x0,x1,x2,x3=>qx ..
 | m+1,x0,x1,x2,x3=>by
  have ih:(fun x0 x1 x2 x3=>LQ qc D n 26 [.r,.r,.l,.r,.l] m (qlz x0 x1 x2 x3) K)=qlp D n (fun v0_0=>K (Ex.ret) (qqz v0_0)) (K (Ex.exit 0) (qq8)) m:=by funext x0 x1 x2 x3;exact q57 D n K m x0 x1 x2 x3
  rw[qbho]
  rw[ih];rfl
theorem qbf1 (D:DX)(n:Nat) (v0_0:Bool) :
 (CQ qc D n 26 [] [.r,.r,.l,.r,.l] (qi qc 26)) (Ex.ret) (qqz v0_0)=q4q D n v0_0:=by kernel_rfl
theorem qbfq (D:DX)(n:Nat) :
 (CQ qc D n 26 [] [.r,.r,.l,.r,.l] (qi qc 26)) (Ex.exit 0) (qq8)=q4l D n:=by kernel_rfl
theorem qbfn (D:DX)(n:Nat) (x0:qd) (x1:Int) (x2:Int) (x3:tSch) :
 LQ qc D n 26 [.r,.r,.l,.r,.l] n (qlz x0 x1 x2 x3) (CQ qc D n 26 [] [.r,.r,.l,.r,.l] (qi qc 26))=qzf D n x0 x1 x2 x3:=by
 rw[q57]
 simp only[qbf1,qbfq]
 rfl
theorem qblu (D:DX)(n:Nat) (a0:tSch) (a1:qd):rfC qc D n 26 (a0,(a1,()))=q2j D n a0 a1:=by
 have h:rfC qc D n 26 (a0,(a1,()))=q30 D n (fun x0 x1 x2 x3=>LQ qc D n 26 [.r,.r,.l,.r,.l] n (qlz x0 x1 x2 x3) (CQ qc D n 26 [] [.r,.r,.l,.r,.l] (qi qc 26))) a0 a1:=by kernel_rfl
 rw[h]
 simp only[qbfn]
 rfl

def q0k (D:DX)(n:Nat) (go:qd→Int→tSch→Option ((Bool×Unit)×Unit)) (K0:Bool→Option ((Bool×Unit)×Unit)) (K1:Option ((Bool×Unit)×Unit)) (x0:qd) (x1:Int) (x2:tSch):Option ((Bool×Unit)×Unit):=br (decide (x1<(↑(List.length x0):Int))) (br (decide (0≤x1)&&decide (x1<(↑(List.length x0):Int))) (qh (qsl D (List.getD x0 (Int.toNat x1) (0,0,ByteArray.empty,()))) fun b↦br (!Prod.fst (Prod.fst b)) (K0 false) (br (decide (0≤x1)&&decide (x1<(↑(List.length x0):Int))) (br (decide (0≤x1)&&decide (x1<(↑(List.length (Prod.fst x2)):Int))) (br (Prod.fst (List.getD x0 (Int.toNat x1) (0,0,ByteArray.empty,())) != Prod.fst (Prod.snd (List.getD (Prod.fst x2) (Int.toNat x1) (ByteArray.empty,0,false,())))) (br (decide (0≤x1)&&decide (x1<(↑(List.length (Prod.fst x2)):Int))) (br (Prod.fst (Prod.snd (Prod.snd (List.getD (Prod.fst x2) (Int.toNat x1) (ByteArray.empty,0,false,()))))) (br (decide (0≤x1)&&decide (x1<(↑(List.length x0):Int))) (br (!decide (Prod.fst (List.getD x0 (Int.toNat x1) (0,0,ByteArray.empty,()))=0)) (K0 false) (go x0 (IntKind.wrap IntKind.i64 (x1+1)) x2)) none) (K0 false)) none) (go x0 (IntKind.wrap IntKind.i64 (x1+1)) x2)) none) none)) none) K1
def qlx (D:DX)(n:Nat) (K0:Bool→Option ((Bool×Unit)×Unit)) (K1:Option ((Bool×Unit)×Unit)):Nat→(qd)→(Int)→(tSch)→Option ((Bool×Unit)×Unit) | 0=>(fun x0 x1 x2=>none) | m+1=>(fun x0 x1 x2=>q0k D n (qlx D n K0 K1 m) K0 K1 x0 x1 x2)
def q39 (D:DX)(n:Nat) (v0_0:Bool):Option ((Bool×Unit)×Unit):=some ((v0_0,()),())
def q4u (D:DX)(n:Nat):Option ((Bool×Unit)×Unit):=some ((true,()),())
def qyw (D:DX)(n:Nat):(qd)→(Int)→(tSch)→Option ((Bool×Unit)×Unit):=(fun x0 x1 x2=>qlx D n (fun v0_0=>q39 D n v0_0) (q4u D n) n x0 x1 x2)
def q2q (D:DX)(n:Nat) (lp0:qd→Int→tSch→Option ((Bool×Unit)×Unit)) (a0:tSch) (a1:qd):Option ((Bool×Unit)×Unit):=qh (qqy D a0) fun b↦br (bif !Prod.fst (Prod.fst b) then true else (↑(List.length a1):Int) != (↑(List.length (Prod.fst a0)):Int)) (some ((false,()),())) (lp0 a1 0 a0)
def q3q (D:DX)(n:Nat) (a0:tSch) (a1:qd):Option ((Bool×Unit)×Unit):=q2q D n (qyw D n) a0 a1
def qlv (x0:qd) (x1:Int) (x2:tSch):St:=stq 60 [(1,AV.val (Ty.sl yV) x0),(2,AV.addr 2 []),(5,avI x1)] [(2,Root.mk yS Mk.no x2 true)] 
def qq7 (v0_0:Bool):St:=stq 60 [(4,AV.val Ty.bool v0_0)] [] 
def qqr:St:=stq 60 [] [] 
theorem qbh7 (D:DX)(n:Nat) (m:Nat) (K:Ex→St→Option (Out ctx 27)) (x0:qd) (x1:Int) (x2:tSch) :
 LQ qc D n 27 [.r,.r,.l,.r,.l] (m+1) (qlv x0 x1 x2) K=q0k D n (fun x0 x1 x2=>LQ qc D n 27 [.r,.r,.l,.r,.l] m (qlv x0 x1 x2) K) (fun v0_0=>K (Ex.ret) (qq7 v0_0)) (K (Ex.exit 0) (qqr)) x0 x1 x2:=by kernel_rfl
theorem q5d (D:DX)(n:Nat) (K:Ex→St→Option (Out ctx 27)):∀ (m:Nat) (x0:qd) (x1:Int) (x2:tSch),LQ qc D n 27 [.r,.r,.l,.r,.l] m (qlv x0 x1 x2) K=qlx D n (fun v0_0=>K (Ex.ret) (qq7 v0_0)) (K (Ex.exit 0) (qqr)) m x0 x1 x2
 | 0,x0,x1,x2=>qx ..
 | m+1,x0,x1,x2=>by
  have ih:(fun x0 x1 x2=>LQ qc D n 27 [.r,.r,.l,.r,.l] m (qlv x0 x1 x2) K)=qlx D n (fun v0_0=>K (Ex.ret) (qq7 v0_0)) (K (Ex.exit 0) (qqr)) m:=by funext x0 x1 x2;exact q5d D n K m x0 x1 x2
  rw[qbh7]
  rw[ih];rfl
theorem qbgr (D:DX)(n:Nat) (v0_0:Bool) :
 (CQ qc D n 27 [] [.r,.r,.l,.r,.l] (qi qc 27)) (Ex.ret) (qq7 v0_0)=q39 D n v0_0:=by kernel_rfl
theorem qbf3 (D:DX)(n:Nat) :
 (CQ qc D n 27 [] [.r,.r,.l,.r,.l] (qi qc 27)) (Ex.exit 0) (qqr)=q4u D n:=by kernel_rfl
theorem qbgk (D:DX)(n:Nat) (x0:qd) (x1:Int) (x2:tSch) :
 LQ qc D n 27 [.r,.r,.l,.r,.l] n (qlv x0 x1 x2) (CQ qc D n 27 [] [.r,.r,.l,.r,.l] (qi qc 27))=qyw D n x0 x1 x2:=by
 rw[q5d]
 simp only[qbgr,qbf3]
 rfl
theorem qblw (D:DX)(n:Nat) (a0:tSch) (a1:qd):rfC qc D n 27 (a0,(a1,()))=q3q D n a0 a1:=by
 have h:rfC qc D n 27 (a0,(a1,()))=q2q D n (fun x0 x1 x2=>LQ qc D n 27 [.r,.r,.l,.r,.l] n (qlv x0 x1 x2) (CQ qc D n 27 [] [.r,.r,.l,.r,.l] (qi qc 27))) a0 a1:=by kernel_rfl
 rw[h]
 simp only[qbgk]
 rfl

def qs2 (D:DX)(n:Nat) (go:ByteArray→Int→Int→Option ((Bool×Unit)×Unit)) (K0:ByteArray→Bool→Option ((Bool×Unit)×Unit)) (K1:ByteArray→Option ((Bool×Unit)×Unit)) (x0:ByteArray) (x1:Int) (x2:Int):Option ((Bool×Unit)×Unit):=br (decide (x2<x1)) (br (decide (0≤x2)&&decide (x2<(↑(ByteArray.size x0):Int))) (br (decide ((↑(UInt8.toNat (Array.getD (ByteArray.data x0) (Int.toNat x2) (UInt8.ofNat 0))):Int)<97)) (K0 x0 false) (br (decide (0≤x2)&&decide (x2<(↑(ByteArray.size x0):Int))) (br (decide ((↑(UInt8.toNat (Array.getD (ByteArray.data x0) (Int.toNat x2) (UInt8.ofNat 0))):Int)>122)) (K0 x0 false) (go x0 x1 (IntKind.wrap IntKind.i64 (x2+1)))) none)) none) (K1 x0)
def qhs (D:DX)(n:Nat) (K0:ByteArray→Bool→Option ((Bool×Unit)×Unit)) (K1:ByteArray→Option ((Bool×Unit)×Unit)):Nat→(ByteArray)→(Int)→(Int)→Option ((Bool×Unit)×Unit) | 0=>(fun x0 x1 x2=>none) | m+1=>(fun x0 x1 x2=>qs2 D n (qhs D n K0 K1 m) K0 K1 x0 x1 x2)
def qxd (D:DX)(n:Nat) (v0_0:ByteArray) (v0_1:Bool):Option ((Bool×Unit)×Unit):=some ((v0_1,()),())
def qqd (D:DX)(n:Nat) (v1_0:ByteArray):Option ((Bool×Unit)×Unit):=qh (qgd D (↑(ByteArray.size v1_0):Int) 1 12) fun b↦some ((Prod.fst (Prod.fst b),()),())
def qsa (D:DX)(n:Nat):(ByteArray)→(Int)→(Int)→Option ((Bool×Unit)×Unit):=(fun x0 x1 x2=>qhs D n (fun v0_0 v0_1=>qxd D n v0_0 v0_1) (fun v1_0=>qqd D n v1_0) n x0 x1 x2)
def qur (D:DX)(n:Nat) (lp0:ByteArray→Int→Int→Option ((Bool×Unit)×Unit)) (a0:ByteArray):Option ((Bool×Unit)×Unit):=lp0 a0 (↑(ByteArray.size a0):Int) 0
def quh (D:DX)(n:Nat) (a0:ByteArray):Option ((Bool×Unit)×Unit):=qur D n (qsa D n) a0
def qhp (x0:ByteArray) (x1:Int) (x2:Int):St:=stq 23 [(0,AV.val Ty.str x0),(5,avI x1),(6,avI x2)] [] 
def qlf (v0_0:ByteArray) (v0_1:Bool):St:=stq 23 [(0,AV.val Ty.str v0_0),(2,AV.val Ty.bool v0_1)] [] 
def qk7 (v1_0:ByteArray):St:=stq 23 [(0,AV.val Ty.str v1_0)] [] 
theorem q9o (D:DX)(n:Nat) (m:Nat) (K:Ex→St→Option (Out ctx 28)) (x0:ByteArray) (x1:Int) (x2:Int) :
 LQ qc D n 28 [.r,.l,.r,.l] (m+1) (qhp x0 x1 x2) K=qs2 D n (fun x0 x1 x2=>LQ qc D n 28 [.r,.l,.r,.l] m (qhp x0 x1 x2) K) (fun v0_0 v0_1=>K (Ex.ret) (qlf v0_0 v0_1)) (fun v1_0=>K (Ex.exit 0) (qk7 v1_0)) x0 x1 x2:=by kernel_rfl
theorem qz6 (D:DX)(n:Nat) (K:Ex→St→Option (Out ctx 28)):∀ (m:Nat) (x0:ByteArray) (x1:Int) (x2:Int),LQ qc D n 28 [.r,.l,.r,.l] m (qhp x0 x1 x2) K=qhs D n (fun v0_0 v0_1=>K (Ex.ret) (qlf v0_0 v0_1)) (fun v1_0=>K (Ex.exit 0) (qk7 v1_0)) m x0 x1 x2
 | 0,x0,x1,x2=>qx ..
 | m+1,x0,x1,x2=>by
  have ih:(fun x0 x1 x2=>LQ qc D n 28 [.r,.l,.r,.l] m (qhp x0 x1 x2) K)=qhs D n (fun v0_0 v0_1=>K (Ex.ret) (qlf v0_0 v0_1)) (fun v1_0=>K (Ex.exit 0) (qk7 v1_0)) m:=by funext x0 x1 x2;exact qz6 D n K m x0 x1 x2
  rw[q9o]
  rw[ih];rfl
theorem q8p (D:DX)(n:Nat) (v0_0:ByteArray) (v0_1:Bool) :
 (CQ qc D n 28 [] [.r,.l,.r,.l] (qi qc 28)) (Ex.ret) (qlf v0_0 v0_1)=qxd D n v0_0 v0_1:=by kernel_rfl
theorem q8f (D:DX)(n:Nat) (v1_0:ByteArray) :
 (CQ qc D n 28 [] [.r,.l,.r,.l] (qi qc 28)) (Ex.exit 0) (qk7 v1_0)=qqd D n v1_0:=by kernel_rfl
theorem q81 (D:DX)(n:Nat) (x0:ByteArray) (x1:Int) (x2:Int) :
 LQ qc D n 28 [.r,.l,.r,.l] n (qhp x0 x1 x2) (CQ qc D n 28 [] [.r,.l,.r,.l] (qi qc 28))=qsa D n x0 x1 x2:=by
 rw[qz6]
 simp only[q8p,q8f]
 rfl
theorem qbdh (D:DX)(n:Nat) (a0:ByteArray):rfC qc D n 28 (a0,())=quh D n a0:=by
 have h:rfC qc D n 28 (a0,())=qur D n (fun x0 x1 x2=>LQ qc D n 28 [.r,.l,.r,.l] n (qhp x0 x1 x2) (CQ qc D n 28 [] [.r,.l,.r,.l] (qi qc 28))) a0:=by kernel_rfl
 rw[h]
 simp only[q81]
 rfl

def qtj (D:DX)(n:Nat) (go:ByteArray→Int→Option ((Bool×Unit)×Unit)) (K0:ByteArray→Bool→Option ((Bool×Unit)×Unit)) (K1:ByteArray→Option ((Bool×Unit)×Unit)) (x0:ByteArray) (x1:Int):Option ((Bool×Unit)×Unit):=br (decide (x1<(↑(ByteArray.size x0):Int))) (br (decide (0≤x1)&&decide (x1<(↑(ByteArray.size x0):Int))) (br (decide ((↑(UInt8.toNat (Array.getD (ByteArray.data x0) (Int.toNat x1) (UInt8.ofNat 0))):Int)<97)) (K0 x0 false) (br (decide (0≤x1)&&decide (x1<(↑(ByteArray.size x0):Int))) (br (decide ((↑(UInt8.toNat (Array.getD (ByteArray.data x0) (Int.toNat x1) (UInt8.ofNat 0))):Int)>122)) (K0 x0 false) (go x0 (IntKind.wrap IntKind.i64 (x1+1)))) none)) none) (K1 x0)
def qhy (D:DX)(n:Nat) (K0:ByteArray→Bool→Option ((Bool×Unit)×Unit)) (K1:ByteArray→Option ((Bool×Unit)×Unit)):Nat→(ByteArray)→(Int)→Option ((Bool×Unit)×Unit) | 0=>(fun x0 x1=>none) | m+1=>(fun x0 x1=>qtj D n (qhy D n K0 K1 m) K0 K1 x0 x1)
def qxh (D:DX)(n:Nat) (v0_0:ByteArray) (v0_1:Bool):Option ((Bool×Unit)×Unit):=some ((v0_1,()),())
def qqb (D:DX)(n:Nat) (v1_0:ByteArray):Option ((Bool×Unit)×Unit):=qh (qgk D (↑(ByteArray.size v1_0):Int) 1 12) fun b↦some ((Prod.fst (Prod.fst b),()),())
def qr4 (D:DX)(n:Nat):(ByteArray)→(Int)→Option ((Bool×Unit)×Unit):=(fun x0 x1=>qhy D n (fun v0_0 v0_1=>qxh D n v0_0 v0_1) (fun v1_0=>qqb D n v1_0) n x0 x1)
def qug (D:DX)(n:Nat) (lp0:ByteArray→Int→Option ((Bool×Unit)×Unit)) (a0:ByteArray):Option ((Bool×Unit)×Unit):=lp0 a0 0
def qut (D:DX)(n:Nat) (a0:ByteArray):Option ((Bool×Unit)×Unit):=qug D n (qr4 D n) a0
def qhz (x0:ByteArray) (x1:Int):St:=stq 23 [(0,AV.val Ty.str x0),(3,avI x1)] [] 
def qld (v0_0:ByteArray) (v0_1:Bool):St:=stq 23 [(0,AV.val Ty.str v0_0),(2,AV.val Ty.bool v0_1)] [] 
def qlg (v1_0:ByteArray):St:=stq 23 [(0,AV.val Ty.str v1_0)] [] 
theorem qbae (D:DX)(n:Nat) (m:Nat) (K:Ex→St→Option (Out ctx 29)) (x0:ByteArray) (x1:Int) :
 LQ qc D n 29 [.r,.l,.r,.l] (m+1) (qhz x0 x1) K=qtj D n (fun x0 x1=>LQ qc D n 29 [.r,.l,.r,.l] m (qhz x0 x1) K) (fun v0_0 v0_1=>K (Ex.ret) (qld v0_0 v0_1)) (fun v1_0=>K (Ex.exit 0) (qlg v1_0)) x0 x1:=by kernel_rfl
theorem qzr (D:DX)(n:Nat) (K:Ex→St→Option (Out ctx 29)):∀ (m:Nat) (x0:ByteArray) (x1:Int),LQ qc D n 29 [.r,.l,.r,.l] m (qhz x0 x1) K=qhy D n (fun v0_0 v0_1=>K (Ex.ret) (qld v0_0 v0_1)) (fun v1_0=>K (Ex.exit 0) (qlg v1_0)) m x0 x1
 | 0,x0,x1=>qx ..
 | m+1,x0,x1=>by
  have ih:(fun x0 x1=>LQ qc D n 29 [.r,.l,.r,.l] m (qhz x0 x1) K)=qhy D n (fun v0_0 v0_1=>K (Ex.ret) (qld v0_0 v0_1)) (fun v1_0=>K (Ex.exit 0) (qlg v1_0)) m:=by funext x0 x1;exact qzr D n K m x0 x1
  rw[qbae]
  rw[ih];rfl
theorem q8x (D:DX)(n:Nat) (v0_0:ByteArray) (v0_1:Bool) :
 (CQ qc D n 29 [] [.r,.l,.r,.l] (qi qc 29)) (Ex.ret) (qld v0_0 v0_1)=qxh D n v0_0 v0_1:=by kernel_rfl
theorem q8k (D:DX)(n:Nat) (v1_0:ByteArray) :
 (CQ qc D n 29 [] [.r,.l,.r,.l] (qi qc 29)) (Ex.exit 0) (qlg v1_0)=qqb D n v1_0:=by kernel_rfl
theorem q8m (D:DX)(n:Nat) (x0:ByteArray) (x1:Int) :
 LQ qc D n 29 [.r,.l,.r,.l] n (qhz x0 x1) (CQ qc D n 29 [] [.r,.l,.r,.l] (qi qc 29))=qr4 D n x0 x1:=by
 rw[qzr]
 simp only[q8x,q8k]
 rfl
theorem qbd4 (D:DX)(n:Nat) (a0:ByteArray):rfC qc D n 29 (a0,())=qut D n a0:=by
 have h:rfC qc D n 29 (a0,())=qug D n (fun x0 x1=>LQ qc D n 29 [.r,.l,.r,.l] n (qhz x0 x1) (CQ qc D n 29 [] [.r,.l,.r,.l] (qi qc 29))) a0:=by kernel_rfl
 rw[h]
 simp only[q8m]
 rfl

def qbaa (D:DX)(n:Nat) (a0:tSch) (a1:ByteArray):Option ((Int×Unit)×Unit):=qh (qfl D (Prod.fst a0) (Clo.mk 97 [CapV.rptr Ty.str a1])) fun b↦some ((Prod.fst (Prod.fst b),()),())
def q27 (D:DX)(n:Nat) (a0:tSch) (a1:ByteArray):Option ((Int×Unit)×Unit):=qbaa D n a0 a1
theorem qbkx (D:DX)(n:Nat) (a0:tSch) (a1:ByteArray):rfC qc D n 30 (a0,(a1,()))=q27 D n a0 a1:=by kernel_rfl

def q0r (D:DX)(n:Nat) (go:ByteArray→Int→tSch→Option ((Int×Unit)×Unit)) (K0:Int→Option ((Int×Unit)×Unit)) (K1:Option ((Int×Unit)×Unit)) (x0:ByteArray) (x1:Int) (x2:tSch):Option ((Int×Unit)×Unit):=br (decide (x1<(↑(List.length (Prod.fst x2)):Int))) (br (decide (0≤x1)&&decide (x1<(↑(List.length (Prod.fst x2)):Int))) (br (List.beq (ByteArray.toList (Prod.fst (List.getD (Prod.fst x2) (Int.toNat x1) (ByteArray.empty,0,false,())))) (ByteArray.toList x0)) (K0 x1) (go x0 (IntKind.wrap IntKind.i64 (x1+1)) x2)) none) K1
def ql0 (D:DX)(n:Nat) (K0:Int→Option ((Int×Unit)×Unit)) (K1:Option ((Int×Unit)×Unit)):Nat→(ByteArray)→(Int)→(tSch)→Option ((Int×Unit)×Unit) | 0=>(fun x0 x1 x2=>none) | m+1=>(fun x0 x1 x2=>q0r D n (ql0 D n K0 K1 m) K0 K1 x0 x1 x2)
def q4i (D:DX)(n:Nat) (v0_0:Int):Option ((Int×Unit)×Unit):=some ((v0_0,()),())
def q38 (D:DX)(n:Nat):Option ((Int×Unit)×Unit):=some ((-1,()),())
def qyq (D:DX)(n:Nat):(ByteArray)→(Int)→(tSch)→Option ((Int×Unit)×Unit):=(fun x0 x1 x2=>ql0 D n (fun v0_0=>q4i D n v0_0) (q38 D n) n x0 x1 x2)
def q2z (D:DX)(n:Nat) (lp0:ByteArray→Int→tSch→Option ((Int×Unit)×Unit)) (a0:tSch) (a1:ByteArray):Option ((Int×Unit)×Unit):=lp0 a1 0 a0
def q3c (D:DX)(n:Nat) (a0:tSch) (a1:ByteArray):Option ((Int×Unit)×Unit):=q2z D n (qyq D n) a0 a1
def qls (x0:ByteArray) (x1:Int) (x2:tSch):St:=stq 22 [(1,AV.val Ty.str x0),(2,AV.addr 2 []),(5,avI x1)] [(2,Root.mk yS Mk.no x2 true)] 
def qra (v0_0:Int):St:=stq 22 [(4,avI v0_0)] [] 
def qqt:St:=stq 22 [] [] 
theorem qbh0 (D:DX)(n:Nat) (m:Nat) (K:Ex→St→Option (Out ctx 31)) (x0:ByteArray) (x1:Int) (x2:tSch) :
 LQ qc D n 31 [.r,.l,.r,.l] (m+1) (qls x0 x1 x2) K=q0r D n (fun x0 x1 x2=>LQ qc D n 31 [.r,.l,.r,.l] m (qls x0 x1 x2) K) (fun v0_0=>K (Ex.ret) (qra v0_0)) (K (Ex.exit 0) (qqt)) x0 x1 x2:=by kernel_rfl
theorem q6f (D:DX)(n:Nat) (K:Ex→St→Option (Out ctx 31)):∀ (m:Nat) (x0:ByteArray) (x1:Int) (x2:tSch),LQ qc D n 31 [.r,.l,.r,.l] m (qls x0 x1 x2) K=ql0 D n (fun v0_0=>K (Ex.ret) (qra v0_0)) (K (Ex.exit 0) (qqt)) m x0 x1 x2
 | 0,x0,x1,x2=>qx ..
 | m+1,x0,x1,x2=>by
  have ih:(fun x0 x1 x2=>LQ qc D n 31 [.r,.l,.r,.l] m (qls x0 x1 x2) K)=ql0 D n (fun v0_0=>K (Ex.ret) (qra v0_0)) (K (Ex.exit 0) (qqt)) m:=by funext x0 x1 x2;exact q6f D n K m x0 x1 x2
  rw[qbh0]
  rw[ih];rfl
theorem qbgb (D:DX)(n:Nat) (v0_0:Int) :
 (CQ qc D n 31 [] [.r,.l,.r,.l] (qi qc 31)) (Ex.ret) (qra v0_0)=q4i D n v0_0:=by kernel_rfl
theorem qbgo (D:DX)(n:Nat) :
 (CQ qc D n 31 [] [.r,.l,.r,.l] (qi qc 31)) (Ex.exit 0) (qqt)=q38 D n:=by kernel_rfl
theorem qbey (D:DX)(n:Nat) (x0:ByteArray) (x1:Int) (x2:tSch) :
 LQ qc D n 31 [.r,.l,.r,.l] n (qls x0 x1 x2) (CQ qc D n 31 [] [.r,.l,.r,.l] (qi qc 31))=qyq D n x0 x1 x2:=by
 rw[q6f]
 simp only[qbgb,qbgo]
 rfl
theorem qbmv (D:DX)(n:Nat) (a0:tSch) (a1:ByteArray):rfC qc D n 31 (a0,(a1,()))=q3c D n a0 a1:=by
 have h:rfC qc D n 31 (a0,(a1,()))=q2z D n (fun x0 x1 x2=>LQ qc D n 31 [.r,.l,.r,.l] n (qls x0 x1 x2) (CQ qc D n 31 [] [.r,.l,.r,.l] (qi qc 31))) a0 a1:=by kernel_rfl
 rw[h]
 simp only[qbey]
 rfl

def q4j (D:DX)(n:Nat) (a0:tSch) (a1:qd):Option ((qd×Unit)×Unit):=qh (qky D a1 (Prod.fst (Prod.snd a0))) fun b↦some ((Prod.fst (Prod.fst b),()),())
def qvq (D:DX)(n:Nat) (a0:tSch) (a1:qd):Option ((qd×Unit)×Unit):=q4j D n a0 a1
theorem qbgl (D:DX)(n:Nat) (a0:tSch) (a1:qd):rfC qc D n 33 (a0,(a1,()))=qvq D n a0 a1:=by kernel_rfl

def q4p (D:DX)(n:Nat) (a0:tSch) (a1:qd):Option ((qd×Unit)×Unit):=qh (qku D a1 (Prod.fst (Prod.snd a0))) fun b↦some ((Prod.fst (Prod.fst b),()),())
def qvs (D:DX)(n:Nat) (a0:tSch) (a1:qd):Option ((qd×Unit)×Unit):=q4p D n a0 a1
theorem qbes (D:DX)(n:Nat) (a0:tSch) (a1:qd):rfC qc D n 34 (a0,(a1,()))=qvs D n a0 a1:=by kernel_rfl

def q6k (D:DX)(n:Nat) (a0:qd):Option ((Bool×Unit)×Unit):=br (decide ((↑(List.length a0):Int)≤4)) (qh (qdw D a0 (Clo.mk 100 [])) fun b↦some ((!Prod.fst (Prod.fst b),()),())) (some ((false,()),()))
def qyp (D:DX)(n:Nat) (a0:qd):Option ((Bool×Unit)×Unit):=q6k D n a0
theorem qbhs (D:DX)(n:Nat) (a0:qd):rfC qc D n 35 (a0,())=qyp D n a0:=by kernel_rfl








def q9s (D:DX)(n:Nat) (a0:(tSch)×qe×Unit) (a1:Int) (a2:qd):Option ((tWay×Bool×Unit)×Unit):=qh (qoh D (Prod.fst a0) a2) fun b↦br (!Prod.fst (Prod.fst b)) (some (((ByteArray.empty,ByteArray.empty,()),false,()),())) (qh (qgk D a1 0 (IntKind.wrap IntKind.i64 ((↑(List.length (Prod.fst (Prod.snd (Prod.snd (Prod.fst a0))))):Int) - 1))) fun b↦br (!Prod.fst (Prod.fst b)) (some (((ByteArray.empty,ByteArray.empty,()),false,()),())) (br (decide (0≤a1)&&decide (a1<(↑(List.length (Prod.fst (Prod.snd (Prod.snd (Prod.fst a0))))):Int))) (qh (qku D a2 (Prod.fst (Prod.snd (List.getD (Prod.fst (Prod.snd (Prod.snd (Prod.fst a0)))) (Int.toNat a1) (ByteArray.empty,[],false,()))))) fun b↦qh (qnn D (Prod.fst (Prod.fst b))) fun b↦qh (qdq D (Prod.fst a0) a2) fun b_1↦qh (qnn D (Prod.fst (Prod.fst b_1))) fun b_2↦some (((ByteArray.mk (List.toArray (List.map (fun n↦UInt8.ofNat (Int.toNat n)) (Prod.fst (Prod.fst b)))),ByteArray.mk (List.toArray (List.map (fun n↦UInt8.ofNat (Int.toNat n)) (Prod.fst (Prod.fst b_2)))),()),true,()),())) none))
def q3i (D:DX)(n:Nat) (a0:(tSch)×qe×Unit) (a1:Int) (a2:qd):Option ((tWay×Bool×Unit)×Unit):=q9s D n a0 a1 a2
theorem qbml (D:DX)(n:Nat) (a0:(tSch)×
 qe×Unit) (a1:Int) (a2:qd):rfC qc D n 43 (a0,(a1,(a2,())))=q3i D n a0 a1 a2:=by kernel_rfl





def q06 (D:DX)(n:Nat) (go:Int→Int→(tSch)×qe×Unit→Option ((Bool×Unit)×Unit)) (K0:Bool→Int→(tSch)×qe×Unit→Option ((Bool×Unit)×Unit)) (K1:Int→(tSch)×qe×Unit→Option ((Bool×Unit)×Unit)) (x1_0:Int) (x1_1:Int) (x1_2:(tSch)×qe×Unit):Option ((Bool×Unit)×Unit):=br (decide (x1_1<x1_0)) (br (decide (0≤x1_1)&&decide (x1_1<(↑(List.length (Prod.fst (Prod.snd x1_2))):Int))) (br (decide (0≤x1_0)&&decide (x1_0<(↑(List.length (Prod.fst (Prod.snd x1_2))):Int))) (qh (qq5 D (Prod.fst x1_2) (List.getD (Prod.fst (Prod.snd x1_2)) (Int.toNat x1_1) []) (List.getD (Prod.fst (Prod.snd x1_2)) (Int.toNat x1_0) [])) fun b↦br (Prod.fst (Prod.fst b)) (K0 false x1_0 x1_2) (go x1_0 (IntKind.wrap IntKind.i64 (x1_1+1)) x1_2)) none) none) (K1 x1_0 x1_2)
def qlw (D:DX)(n:Nat) (K0:Bool→Int→(tSch)×qe×Unit→Option ((Bool×Unit)×Unit)) (K1:Int→(tSch)×qe×Unit→Option ((Bool×Unit)×Unit)):Nat→(Int)→(Int)→((tSch)×qe×Unit)→Option ((Bool×Unit)×Unit) | 0=>(fun x1_0 x1_1 x1_2=>none) | m+1=>(fun x1_0 x1_1 x1_2=>q06 D n (qlw D n K0 K1 m) K0 K1 x1_0 x1_1 x1_2)
def qvt (D:DX)(n:Nat) (go:Int→(tSch)×qe×Unit→Option ((Bool×Unit)×Unit)) (K0:Bool→(tSch)×qe×Unit→Option ((Bool×Unit)×Unit)) (K1:(tSch)×qe×Unit→Option ((Bool×Unit)×Unit)) (v0_0:Bool) (v0_1:Int) (v0_2:(tSch)×qe×Unit):Option ((Bool×Unit)×Unit):=K0 v0_0 v0_2
def qrc (D:DX)(n:Nat) (go:Int→(tSch)×qe×Unit→Option ((Bool×Unit)×Unit)) (K0:Bool→(tSch)×qe×Unit→Option ((Bool×Unit)×Unit)) (K1:(tSch)×qe×Unit→Option ((Bool×Unit)×Unit)) (v1_0:Int) (v1_1:(tSch)×qe×Unit):Option ((Bool×Unit)×Unit):=go (IntKind.wrap IntKind.i64 (v1_0+1)) v1_1
def qyy (D:DX)(n:Nat) (go:Int→(tSch)×qe×Unit→Option ((Bool×Unit)×Unit)) (K0:Bool→(tSch)×qe×Unit→Option ((Bool×Unit)×Unit)) (K1:(tSch)×qe×Unit→Option ((Bool×Unit)×Unit)):(Int)→(Int)→((tSch)×qe×Unit)→Option ((Bool×Unit)×Unit):=(fun x1_0 x1_1 x1_2=>qlw D n (fun v0_0 v0_1 v0_2=>qvt D n go K0 K1 v0_0 v0_1 v0_2) (fun v1_0 v1_1=>qrc D n go K0 K1 v1_0 v1_1) n x1_0 x1_1 x1_2)
def q0q (D:DX)(n:Nat) (go:Int→(tSch)×qe×Unit→Option ((Bool×Unit)×Unit)) (K0:Bool→(tSch)×qe×Unit→Option ((Bool×Unit)×Unit)) (K1:(tSch)×qe×Unit→Option ((Bool×Unit)×Unit)) (lp1:Int→Int→(tSch)×qe×Unit→Option ((Bool×Unit)×Unit)) (x0:Int) (x1:(tSch)×qe×Unit):Option ((Bool×Unit)×Unit):=br (decide (x0<(↑(List.length (Prod.fst (Prod.snd x1))):Int))) (br (decide (0≤x0)&&decide (x0<(↑(List.length (Prod.fst (Prod.snd x1))):Int))) (qh (qoh D (Prod.fst x1) (List.getD (Prod.fst (Prod.snd x1)) (Int.toNat x0) [])) fun b↦br (!Prod.fst (Prod.fst b)) (K0 false x1) (br (decide (x0>0)) (br (decide (0≤IntKind.wrap IntKind.i64 (x0 - 1))&&decide (IntKind.wrap IntKind.i64 (x0 - 1)<(↑(List.length (Prod.fst (Prod.snd x1))):Int))) (qh (qdq D (Prod.fst x1) (List.getD (Prod.fst (Prod.snd x1)) (Int.toNat (IntKind.wrap IntKind.i64 (x0 - 1))) [])) fun b↦br (decide (0≤x0)&&decide (x0<(↑(List.length (Prod.fst (Prod.snd x1))):Int))) (qh (qdq D (Prod.fst x1) (List.getD (Prod.fst (Prod.snd x1)) (Int.toNat x0) [])) fun b_1↦qh (qou D (Prod.fst (Prod.fst b)) (Prod.fst (Prod.fst b_1))) fun b↦br (!Prod.fst (Prod.fst b)) (K0 false x1) (lp1 x0 0 x1)) none) none) (lp1 x0 0 x1))) none) (K1 x1)
def qfu (D:DX)(n:Nat) (K0:Bool→(tSch)×qe×Unit→Option ((Bool×Unit)×Unit)) (K1:(tSch)×qe×Unit→Option ((Bool×Unit)×Unit)):Nat→(Int)→((tSch)×qe×Unit)→Option ((Bool×Unit)×Unit) | 0=>(fun x0 x1=>none) | m+1=>(fun x0 x1=>q0q D n (qfu D n K0 K1 m) K0 K1 (qyy D n (qfu D n K0 K1 m) K0 K1) x0 x1)
def qhh (D:DX)(n:Nat) (v0_0:Bool) (v0_1:(tSch)×qe×Unit):Option ((Bool×Unit)×Unit):=some ((v0_0,()),())
def qf5 (D:DX)(n:Nat) (v1_0:(tSch)×qe×Unit):Option ((Bool×Unit)×Unit):=qh (qqy D (Prod.fst v1_0)) fun b↦some ((bif Prod.fst (Prod.fst b) then decide ((↑(List.length (Prod.fst (Prod.snd v1_0))):Int)≤12) else false,()),())
def qyx (D:DX)(n:Nat):(Int)→((tSch)×qe×Unit)→Option ((Bool×Unit)×Unit):=(fun x0 x1=>qfu D n (fun v0_0 v0_1=>qhh D n v0_0 v0_1) (fun v1_0=>qf5 D n v1_0) n x0 x1)
def q33 (D:DX)(n:Nat) (lp0:Int→(tSch)×qe×Unit→Option ((Bool×Unit)×Unit)) (a0:(tSch)×qe×Unit):Option ((Bool×Unit)×Unit):=lp0 0 a0
def q2k (D:DX)(n:Nat) (a0:(tSch)×qe×Unit):Option ((Bool×Unit)×Unit):=q33 D n (qyx D n) a0
def qgm (x0:Int) (x1:(tSch)×qe×Unit):St:=stq 73 [(1,AV.addr 1 []),(3,avI x0)] [(1,Root.mk (Ty.pair yS (Ty.pair (Ty.sl (Ty.sl yV)) Ty.unit)) Mk.no x1 true)] 
def qhi (v0_0:Bool) (v0_1:(tSch)×qe×Unit):St:=stq 73 [(1,AV.addr 1 []),(2,AV.val Ty.bool v0_0)] [(1,Root.mk (Ty.pair yS (Ty.pair (Ty.sl (Ty.sl yV)) Ty.unit)) Mk.no v0_1 true)] 
def qhm (v1_0:(tSch)×qe×Unit):St:=stq 73 [(1,AV.addr 1 [])] [(1,Root.mk (Ty.pair yS (Ty.pair (Ty.sl (Ty.sl yV)) Ty.unit)) Mk.no v1_0 true)] 
def qly (x1_0:Int) (x1_1:Int) (x1_2:(tSch)×qe×Unit):St:=stq 73 [(1,AV.addr 1 []),(3,avI x1_0),(4,avI x1_1)] [(1,Root.mk (Ty.pair yS (Ty.pair (Ty.sl (Ty.sl yV)) Ty.unit)) Mk.no x1_2 true)] 
def qq9 (v0_0:Bool) (v0_1:Int) (v0_2:(tSch)×qe×Unit):St:=stq 73 [(1,AV.addr 1 []),(2,AV.val Ty.bool v0_0),(3,avI v0_1)] [(1,Root.mk (Ty.pair yS (Ty.pair (Ty.sl (Ty.sl yV)) Ty.unit)) Mk.no v0_2 true)] 
def qqq (v1_0:Int) (v1_1:(tSch)×qe×Unit):St:=stq 73 [(1,AV.addr 1 []),(3,avI v1_0)] [(1,Root.mk (Ty.pair yS (Ty.pair (Ty.sl (Ty.sl yV)) Ty.unit)) Mk.no v1_1 true)] 
theorem qbih (D:DX)(n:Nat) (m:Nat) (K:Ex→St→Option (Out ctx 48)) (x1_0:Int) (x1_1:Int) (x1_2:(tSch)×
 qe×Unit) :
 LQ qc D n 48 [.r,.l,.r,.l,.l,.r,.l,.l,.r,.r,.l] (m+1) (qly x1_0 x1_1 x1_2) K=q06 D n (fun x1_0 x1_1 x1_2=>LQ qc D n 48 [.r,.l,.r,.l,.l,.r,.l,.l,.r,.r,.l] m (qly x1_0 x1_1 x1_2) K) (fun v0_0 v0_1 v0_2=>K (Ex.ret) (qq9 v0_0 v0_1 v0_2)) (fun v1_0 v1_1=>K (Ex.exit 2) (qqq v1_0 v1_1)) x1_0 x1_1 x1_2:=by kernel_rfl
theorem q54 (D:DX)(n:Nat) (K:Ex→St→Option (Out ctx 48)):∀ (m:Nat) (x1_0:Int) (x1_1:Int) (x1_2:(tSch)×
 qe×Unit),LQ qc D n 48 [.r,.l,.r,.l,.l,.r,.l,.l,.r,.r,.l] m (qly x1_0 x1_1 x1_2) K=qlw D n (fun v0_0 v0_1 v0_2=>K (Ex.ret) (qq9 v0_0 v0_1 v0_2)) (fun v1_0 v1_1=>K (Ex.exit 2) (qqq v1_0 v1_1)) m x1_0 x1_1 x1_2
 | 0,x1_0,x1_1,x1_2=>qx ..
 | m+1,x1_0,x1_1,x1_2=>by
  have ih:(fun x1_0 x1_1 x1_2=>LQ qc D n 48 [.r,.l,.r,.l,.l,.r,.l,.l,.r,.r,.l] m (qly x1_0 x1_1 x1_2) K)=qlw D n (fun v0_0 v0_1 v0_2=>K (Ex.ret) (qq9 v0_0 v0_1 v0_2)) (fun v1_0 v1_1=>K (Ex.exit 2) (qqq v1_0 v1_1)) m:=by funext x1_0 x1_1 x1_2;exact q54 D n K m x1_0 x1_1 x1_2
  rw[qbih]
  rw[ih];rfl
theorem qbev (D:DX)(n:Nat) (m:Nat) (K:Ex→St→Option (Out ctx 48)) (v0_0:Bool) (v0_1:Int) (v0_2:(tSch)×
 qe×Unit) :
 (CQ qc D n 48 [.r,.l,.r,.l,.l] [.r,.l,.l,.r,.r,.l] (LK qc D n 48 [.r,.l,.r,.l] m K)) (Ex.ret) (qq9 v0_0 v0_1 v0_2)=qvt D n (fun x0 x1=>LQ qc D n 48 [.r,.l,.r,.l] m (qgm x0 x1) K) (fun v0_0 v0_1=>K (Ex.ret) (qhi v0_0 v0_1)) (fun v1_0=>K (Ex.exit 0) (qhm v1_0)) v0_0 v0_1 v0_2:=by kernel_rfl
theorem qbfc (D:DX)(n:Nat) (m:Nat) (K:Ex→St→Option (Out ctx 48)) (v1_0:Int) (v1_1:(tSch)×
 qe×Unit) :
 (CQ qc D n 48 [.r,.l,.r,.l,.l] [.r,.l,.l,.r,.r,.l] (LK qc D n 48 [.r,.l,.r,.l] m K)) (Ex.exit 2) (qqq v1_0 v1_1)=qrc D n (fun x0 x1=>LQ qc D n 48 [.r,.l,.r,.l] m (qgm x0 x1) K) (fun v0_0 v0_1=>K (Ex.ret) (qhi v0_0 v0_1)) (fun v1_0=>K (Ex.exit 0) (qhm v1_0)) v1_0 v1_1:=by kernel_rfl
theorem qbgw (D:DX)(n:Nat) (m:Nat) (K:Ex→St→Option (Out ctx 48)) (x1_0:Int) (x1_1:Int) (x1_2:(tSch)×
 qe×Unit) :
 LQ qc D n 48 [.r,.l,.r,.l,.l,.r,.l,.l,.r,.r,.l] n (qly x1_0 x1_1 x1_2) (CQ qc D n 48 [.r,.l,.r,.l,.l] [.r,.l,.l,.r,.r,.l] (LK qc D n 48 [.r,.l,.r,.l] m K))=qyy D n (fun x0 x1=>LQ qc D n 48 [.r,.l,.r,.l] m (qgm x0 x1) K) (fun v0_0 v0_1=>K (Ex.ret) (qhi v0_0 v0_1)) (fun v1_0=>K (Ex.exit 0) (qhm v1_0)) x1_0 x1_1 x1_2:=by
 rw[q54]
 simp only[qbev,qbfc]
 rfl
theorem qbhc (D:DX)(n:Nat) (m:Nat) (K:Ex→St→Option (Out ctx 48)) (x0:Int) (x1:(tSch)×
 qe×Unit) :
 LQ qc D n 48 [.r,.l,.r,.l] (m+1) (qgm x0 x1) K=q0q D n (fun x0 x1=>LQ qc D n 48 [.r,.l,.r,.l] m (qgm x0 x1) K) (fun v0_0 v0_1=>K (Ex.ret) (qhi v0_0 v0_1)) (fun v1_0=>K (Ex.exit 0) (qhm v1_0)) (fun x1_0 x1_1 x1_2=>LQ qc D n 48 [.r,.l,.r,.l,.l,.r,.l,.l,.r,.r,.l] n (qly x1_0 x1_1 x1_2) (CQ qc D n 48 [.r,.l,.r,.l,.l] [.r,.l,.l,.r,.r,.l] (LK qc D n 48 [.r,.l,.r,.l] m K))) x0 x1:=by kernel_rfl
theorem q6h (D:DX)(n:Nat) (K:Ex→St→Option (Out ctx 48)):∀ (m:Nat) (x0:Int) (x1:(tSch)×
 qe×Unit),LQ qc D n 48 [.r,.l,.r,.l] m (qgm x0 x1) K=qfu D n (fun v0_0 v0_1=>K (Ex.ret) (qhi v0_0 v0_1)) (fun v1_0=>K (Ex.exit 0) (qhm v1_0)) m x0 x1
 | 0,x0,x1=>qx ..
 | m+1,x0,x1=>by
  have ih:(fun x0 x1=>LQ qc D n 48 [.r,.l,.r,.l] m (qgm x0 x1) K)=qfu D n (fun v0_0 v0_1=>K (Ex.ret) (qhi v0_0 v0_1)) (fun v1_0=>K (Ex.exit 0) (qhm v1_0)) m:=by funext x0 x1;exact q6h D n K m x0 x1
  rw[qbhc]
  simp only[qbgw]
  rw[ih];rfl
theorem qbfp (D:DX)(n:Nat) (v0_0:Bool) (v0_1:(tSch)×
 qe×Unit) :
 (CQ qc D n 48 [] [.r,.l,.r,.l] (qi qc 48)) (Ex.ret) (qhi v0_0 v0_1)=qhh D n v0_0 v0_1:=by kernel_rfl
theorem qbfk (D:DX)(n:Nat) (v1_0:(tSch)×
 qe×Unit) :
 (CQ qc D n 48 [] [.r,.l,.r,.l] (qi qc 48)) (Ex.exit 0) (qhm v1_0)=qf5 D n v1_0:=by kernel_rfl
theorem qbfh (D:DX)(n:Nat) (x0:Int) (x1:(tSch)×
 qe×Unit) :
 LQ qc D n 48 [.r,.l,.r,.l] n (qgm x0 x1) (CQ qc D n 48 [] [.r,.l,.r,.l] (qi qc 48))=qyx D n x0 x1:=by
 rw[q6h]
 simp only[qbfp,qbfk]
 rfl
theorem qblp (D:DX)(n:Nat) (a0:(tSch)×
 qe×Unit):rfC qc D n 48 (a0,())=q2k D n a0:=by
 have h:rfC qc D n 48 (a0,())=q33 D n (fun x0 x1=>LQ qc D n 48 [.r,.l,.r,.l] n (qgm x0 x1) (CQ qc D n 48 [] [.r,.l,.r,.l] (qi qc 48))) a0:=by kernel_rfl
 rw[h]
 simp only[qbfh]
 rfl

def q0j (D:DX)(n:Nat) (go:qe→Int→Int→(tSch)×qe×Unit→Option ((Bool×Unit)×Unit)) (K0:Bool→(tSch)×qe×Unit→Option ((Bool×Unit)×Unit)) (K1:(tSch)×qe×Unit→Option ((Bool×Unit)×Unit)) (x0:qe) (x1:Int) (x2:Int) (x3:(tSch)×qe×Unit):Option ((Bool×Unit)×Unit):=br (decide (x2<x1)) (br (decide (0≤x2)&&decide (x2<(↑(List.length x0):Int))) (qh (q2v D (Prod.fst x3) (List.getD x0 (Int.toNat x2) [])) fun b↦br (!Prod.fst (Prod.fst b)) (K0 false x3) (br (decide (x2>0)) (br (decide (0≤IntKind.wrap IntKind.i64 (x2 - 1))&&decide (IntKind.wrap IntKind.i64 (x2 - 1)<(↑(List.length (Prod.fst (Prod.snd x3))):Int))) (qh (qmm D (Prod.fst x3) (List.getD (Prod.fst (Prod.snd x3)) (Int.toNat (IntKind.wrap IntKind.i64 (x2 - 1))) [])) fun b↦qh (qmm D (Prod.fst x3) (List.getD x0 (Int.toNat x2) [])) fun b_1↦qh (qud D (Prod.fst (Prod.fst b)) (Prod.fst (Prod.fst b_1))) fun b↦br (!Prod.fst (Prod.fst b)) (K0 false x3) (br (decide (0≤0)&&decide (0≤x2)&&decide (x2≤(↑(List.length (Prod.fst (Prod.snd x3))):Int))) (qh (qb0 D (List.drop (Int.toNat 0) (List.take (Int.toNat x2) (Prod.fst (Prod.snd x3)))) (Clo.mk 117 [CapV.rptr (Ty.pair (Ty.pair (Ty.sl (Ty.pair Ty.str (Ty.pair (Ty.int IntKind.i64) (Ty.pair Ty.bool Ty.unit)))) (Ty.pair (Ty.sl (Ty.int IntKind.i64)) (Ty.pair (Ty.sl (Ty.pair Ty.str (Ty.pair (Ty.sl (Ty.int IntKind.i64)) (Ty.pair Ty.bool Ty.unit)))) Ty.unit))) (Ty.pair (Ty.sl (Ty.sl (Ty.pair (Ty.int IntKind.i64) (Ty.pair (Ty.int IntKind.i64) (Ty.pair Ty.str Ty.unit))))) Ty.unit)) x3,CapV.rptr (Ty.sl (Ty.pair (Ty.int IntKind.i64) (Ty.pair (Ty.int IntKind.i64) (Ty.pair Ty.str Ty.unit)))) (List.getD x0 (Int.toNat x2) [])])) fun b↦br (Prod.fst (Prod.fst b)) (K0 false x3) (go x0 x1 (IntKind.wrap IntKind.i64 (x2+1)) x3)) none)) none) (br (decide (0≤0)&&decide (0≤x2)&&decide (x2≤(↑(List.length (Prod.fst (Prod.snd x3))):Int))) (qh (qb0 D (List.drop (Int.toNat 0) (List.take (Int.toNat x2) (Prod.fst (Prod.snd x3)))) (Clo.mk 117 [CapV.rptr (Ty.pair (Ty.pair (Ty.sl (Ty.pair Ty.str (Ty.pair (Ty.int IntKind.i64) (Ty.pair Ty.bool Ty.unit)))) (Ty.pair (Ty.sl (Ty.int IntKind.i64)) (Ty.pair (Ty.sl (Ty.pair Ty.str (Ty.pair (Ty.sl (Ty.int IntKind.i64)) (Ty.pair Ty.bool Ty.unit)))) Ty.unit))) (Ty.pair (Ty.sl (Ty.sl (Ty.pair (Ty.int IntKind.i64) (Ty.pair (Ty.int IntKind.i64) (Ty.pair Ty.str Ty.unit))))) Ty.unit)) x3,CapV.rptr (Ty.sl (Ty.pair (Ty.int IntKind.i64) (Ty.pair (Ty.int IntKind.i64) (Ty.pair Ty.str Ty.unit)))) (List.getD x0 (Int.toNat x2) [])])) fun b↦br (Prod.fst (Prod.fst b)) (K0 false x3) (go x0 x1 (IntKind.wrap IntKind.i64 (x2+1)) x3)) none))) none) (K1 x3)
def qlr (D:DX)(n:Nat) (K0:Bool→(tSch)×qe×Unit→Option ((Bool×Unit)×Unit)) (K1:(tSch)×qe×Unit→Option ((Bool×Unit)×Unit)):Nat→(qe)→(Int)→(Int)→((tSch)×qe×Unit)→Option ((Bool×Unit)×Unit) | 0=>(fun x0 x1 x2 x3=>none) | m+1=>(fun x0 x1 x2 x3=>q0j D n (qlr D n K0 K1 m) K0 K1 x0 x1 x2 x3)
def q4k (D:DX)(n:Nat) (v0_0:Bool) (v0_1:(tSch)×qe×Unit):Option ((Bool×Unit)×Unit):=some ((v0_0,()),())
def qwi (D:DX)(n:Nat) (v1_0:(tSch)×qe×Unit):Option ((Bool×Unit)×Unit):=qh (qq0 D (Prod.fst v1_0)) fun b↦some ((bif Prod.fst (Prod.fst b) then decide ((↑(List.length (Prod.fst (Prod.snd v1_0))):Int)≤12) else false,()),())
def qzi (D:DX)(n:Nat):(qe)→(Int)→(Int)→((tSch)×qe×Unit)→Option ((Bool×Unit)×Unit):=(fun x0 x1 x2 x3=>qlr D n (fun v0_0 v0_1=>q4k D n v0_0 v0_1) (fun v1_0=>qwi D n v1_0) n x0 x1 x2 x3)
def q31 (D:DX)(n:Nat) (lp0:qe→Int→Int→(tSch)×qe×Unit→Option ((Bool×Unit)×Unit)) (a0:(tSch)×qe×Unit):Option ((Bool×Unit)×Unit):=lp0 (Prod.fst (Prod.snd a0)) (↑(List.length (Prod.fst (Prod.snd a0))):Int) 0 a0
def q3n (D:DX)(n:Nat) (a0:(tSch)×qe×Unit):Option ((Bool×Unit)×Unit):=q31 D n (qzi D n) a0
def qlq (x0:qe) (x1:Int) (x2:Int) (x3:(tSch)×qe×Unit):St:=stq 55 [(1,AV.addr 1 []),(6,AV.val (Ty.sl (Ty.sl yV)) x0),(7,avI x1),(8,avI x2)] [(1,Root.mk (Ty.pair yS (Ty.pair (Ty.sl (Ty.sl yV)) Ty.unit)) Mk.no x3 true)] 
def qq4 (v0_0:Bool) (v0_1:(tSch)×qe×Unit):St:=stq 55 [(1,AV.addr 1 []),(2,AV.val Ty.bool v0_0)] [(1,Root.mk (Ty.pair yS (Ty.pair (Ty.sl (Ty.sl yV)) Ty.unit)) Mk.no v0_1 true)] 
def qq1 (v1_0:(tSch)×qe×Unit):St:=stq 55 [(1,AV.addr 1 [])] [(1,Root.mk (Ty.pair yS (Ty.pair (Ty.sl (Ty.sl yV)) Ty.unit)) Mk.no v1_0 true)] 
theorem qbil (D:DX)(n:Nat) (m:Nat) (K:Ex→St→Option (Out ctx 49)) (x0:qe) (x1:Int) (x2:Int) (x3:(tSch)×
 qe×Unit) :
 LQ qc D n 49 [.r,.l,.r,.l] (m+1) (qlq x0 x1 x2 x3) K=q0j D n (fun x0 x1 x2 x3=>LQ qc D n 49 [.r,.l,.r,.l] m (qlq x0 x1 x2 x3) K) (fun v0_0 v0_1=>K (Ex.ret) (qq4 v0_0 v0_1)) (fun v1_0=>K (Ex.exit 0) (qq1 v1_0)) x0 x1 x2 x3:=by kernel_rfl
theorem q5v (D:DX)(n:Nat) (K:Ex→St→Option (Out ctx 49)):∀ (m:Nat) (x0:qe) (x1:Int) (x2:Int) (x3:(tSch)×
 qe×Unit),LQ qc D n 49 [.r,.l,.r,.l] m (qlq x0 x1 x2 x3) K=qlr D n (fun v0_0 v0_1=>K (Ex.ret) (qq4 v0_0 v0_1)) (fun v1_0=>K (Ex.exit 0) (qq1 v1_0)) m x0 x1 x2 x3
 | 0,x0,x1,x2,x3=>qx ..
 | m+1,x0,x1,x2,x3=>by
  have ih:(fun x0 x1 x2 x3=>LQ qc D n 49 [.r,.l,.r,.l] m (qlq x0 x1 x2 x3) K)=qlr D n (fun v0_0 v0_1=>K (Ex.ret) (qq4 v0_0 v0_1)) (fun v1_0=>K (Ex.exit 0) (qq1 v1_0)) m:=by funext x0 x1 x2 x3;exact q5v D n K m x0 x1 x2 x3
  rw[qbil]
  rw[ih];rfl
theorem qbgz (D:DX)(n:Nat) (v0_0:Bool) (v0_1:(tSch)×
 qe×Unit) :
 (CQ qc D n 49 [] [.r,.l,.r,.l] (qi qc 49)) (Ex.ret) (qq4 v0_0 v0_1)=q4k D n v0_0 v0_1:=by kernel_rfl
theorem qbf6 (D:DX)(n:Nat) (v1_0:(tSch)×
 qe×Unit) :
 (CQ qc D n 49 [] [.r,.l,.r,.l] (qi qc 49)) (Ex.exit 0) (qq1 v1_0)=qwi D n v1_0:=by kernel_rfl
theorem qbg0 (D:DX)(n:Nat) (x0:qe) (x1:Int) (x2:Int) (x3:(tSch)×
 qe×Unit) :
 LQ qc D n 49 [.r,.l,.r,.l] n (qlq x0 x1 x2 x3) (CQ qc D n 49 [] [.r,.l,.r,.l] (qi qc 49))=qzi D n x0 x1 x2 x3:=by
 rw[q5v]
 simp only[qbgz,qbf6]
 rfl
theorem qbly (D:DX)(n:Nat) (a0:(tSch)×
 qe×Unit):rfC qc D n 49 (a0,())=q3n D n a0:=by
 have h:rfC qc D n 49 (a0,())=q31 D n (fun x0 x1 x2 x3=>LQ qc D n 49 [.r,.l,.r,.l] n (qlq x0 x1 x2 x3) (CQ qc D n 49 [] [.r,.l,.r,.l] (qi qc 49))) a0:=by kernel_rfl
 rw[h]
 simp only[qbg0]
 rfl



def q50 (D:DX)(n:Nat) (a0:(tSch)×qe×Unit) (a1:qd):Option ((((tSch)×qe×Unit)×Int×Unit)×Unit):=qh (qn6 D a0) fun b↦qh (qk2 D a0) fun b_1↦br (!Prod.fst (Prod.fst b_1)) (some ((((Prod.fst (Prod.fst (Prod.fst (Prod.fst b))),Prod.fst (Prod.snd (Prod.fst (Prod.fst (Prod.fst b)))),Prod.fst (Prod.snd (Prod.snd (Prod.fst (Prod.fst (Prod.fst b))))),()),Prod.fst (Prod.snd (Prod.fst (Prod.fst b))),()),1,()),())) (qh (qoh D (Prod.fst a0) a1) fun b_2↦br (!Prod.fst (Prod.fst b_2)) (some ((((Prod.fst (Prod.fst (Prod.fst (Prod.fst b))),Prod.fst (Prod.snd (Prod.fst (Prod.fst (Prod.fst b)))),Prod.fst (Prod.snd (Prod.snd (Prod.fst (Prod.fst (Prod.fst b))))),()),Prod.fst (Prod.snd (Prod.fst (Prod.fst b))),()),1,()),())) (qh (qdq D (Prod.fst a0) a1) fun b_3↦qh (qrj D a0 (Prod.fst (Prod.fst b_3))) fun b_4↦br (decide (Prod.fst (Prod.fst b_4)<0)) (some ((((Prod.fst (Prod.fst (Prod.fst (Prod.fst b))),Prod.fst (Prod.snd (Prod.fst (Prod.fst (Prod.fst b)))),Prod.fst (Prod.snd (Prod.snd (Prod.fst (Prod.fst (Prod.fst b))))),()),Prod.fst (Prod.snd (Prod.fst (Prod.fst b))),()),4,()),())) (qh (qo0 D a0 a1 (Prod.fst (Prod.fst b_4))) fun b_5↦br (Prod.fst (Prod.fst b_5)) (some ((((Prod.fst (Prod.fst (Prod.fst (Prod.fst b))),Prod.fst (Prod.snd (Prod.fst (Prod.fst (Prod.fst b)))),Prod.fst (Prod.snd (Prod.snd (Prod.fst (Prod.fst (Prod.fst b))))),()),Prod.fst (Prod.snd (Prod.fst (Prod.fst b))),()),3,()),())) (br (decide (0+List.length a1≤q9)) (br (decide (0≤Prod.fst (Prod.fst b_4))&&decide (Prod.fst (Prod.fst b_4)<(↑(List.length (Prod.fst (Prod.snd (Prod.fst (Prod.fst b))))):Int))) (some ((((Prod.fst (Prod.fst (Prod.fst (Prod.fst b))),Prod.fst (Prod.snd (Prod.fst (Prod.fst (Prod.fst b)))),Prod.fst (Prod.snd (Prod.snd (Prod.fst (Prod.fst (Prod.fst b))))),()),List.set (Prod.fst (Prod.snd (Prod.fst (Prod.fst b)))) (Int.toNat (Prod.fst (Prod.fst b_4))) ([]++a1),()),0,()),())) none) none))))
def qyh (D:DX)(n:Nat) (a0:(tSch)×qe×Unit) (a1:qd):Option ((((tSch)×qe×Unit)×Int×Unit)×Unit):=q50 D n a0 a1
theorem qbid (D:DX)(n:Nat) (a0:(tSch)×
 qe×Unit) (a1:qd):rfC qc D n 52 (a0,(a1,()))=qyh D n a0 a1:=by kernel_rfl



def qwh (D:DX)(n:Nat) (go:qd→List Int→Int→Int→qd→Option ((qd×Unit)×Unit)) (K0:qd→Option ((qd×Unit)×Unit)) (x0:qd) (x1:List Int) (x2:Int) (x3:Int) (x4:qd):Option ((qd×Unit)×Unit):=br (decide (x3<x2)) (br (decide (0≤x3)&&decide (x3<(↑(List.length x1):Int))) (qh (qgd D (List.getD x1 (Int.toNat x3) 0) 0 (IntKind.wrap IntKind.i64 ((↑(List.length x0):Int) - 1))) fun b↦br (Prod.fst (Prod.fst b)) (br (decide (0≤List.getD x1 (Int.toNat x3) 0)&&decide (List.getD x1 (Int.toNat x3) 0<(↑(List.length x0):Int))) (br (decide (List.length x4+1≤q9)) (go x0 x1 x2 (IntKind.wrap IntKind.i64 (x3+1)) (x4++[List.getD x0 (Int.toNat (List.getD x1 (Int.toNat x3) 0)) (0,0,ByteArray.empty,())])) none) none) (go x0 x1 x2 (IntKind.wrap IntKind.i64 (x3+1)) x4)) none) (K0 x4)
def qjo (D:DX)(n:Nat) (K0:qd→Option ((qd×Unit)×Unit)):Nat→(qd)→(List Int)→(Int)→(Int)→(qd)→Option ((qd×Unit)×Unit) | 0=>(fun x0 x1 x2 x3 x4=>none) | m+1=>(fun x0 x1 x2 x3 x4=>qwh D n (qjo D n K0 m) K0 x0 x1 x2 x3 x4)
def q1w (D:DX)(n:Nat) (v0_0:qd):Option ((qd×Unit)×Unit):=some ((v0_0,()),())
def quz (D:DX)(n:Nat):(qd)→(List Int)→(Int)→(Int)→(qd)→Option ((qd×Unit)×Unit):=(fun x0 x1 x2 x3 x4=>qjo D n (fun v0_0=>q1w D n v0_0) n x0 x1 x2 x3 x4)
def qyz (D:DX)(n:Nat) (lp0:qd→List Int→Int→Int→qd→Option ((qd×Unit)×Unit)) (a0:qd) (a1:List Int):Option ((qd×Unit)×Unit):=lp0 a0 a1 (↑(List.length a1):Int) 0 []
def qxx (D:DX)(n:Nat) (a0:qd) (a1:List Int):Option ((qd×Unit)×Unit):=qyz D n (quz D n) a0 a1
def qjs (x0:qd) (x1:List Int) (x2:Int) (x3:Int) (x4:qd):St:=stq 29 [(0,AV.val (Ty.sl yV) x0),(5,AV.brw 5 [] 0),(9,AV.val (Ty.sl yI) x1),(10,avI x2),(11,avI x3)] [(5,Root.mk (Ty.sl yV) (Mk.own 0 (Mk.pr Mk.no (Mk.pr Mk.no (Mk.pr Mk.no Mk.no)))) x4 false)] 
def qnt (v0_0:qd):St:=stq 29 [(5,AV.brw 5 [] 0)] [(5,Root.mk (Ty.sl yV) (Mk.own 0 (Mk.pr Mk.no (Mk.pr Mk.no (Mk.pr Mk.no Mk.no)))) v0_0 false)] 
theorem qbej (D:DX)(n:Nat) (m:Nat) (K:Ex→St→Option (Out ctx 56)) (x0:qd) (x1:List Int) (x2:Int) (x3:Int) (x4:qd) :
 LQ qc D n 56 [.r,.r,.l,.r,.l] (m+1) (qjs x0 x1 x2 x3 x4) K=qwh D n (fun x0 x1 x2 x3 x4=>LQ qc D n 56 [.r,.r,.l,.r,.l] m (qjs x0 x1 x2 x3 x4) K) (fun v0_0=>K (Ex.exit 0) (qnt v0_0)) x0 x1 x2 x3 x4:=by kernel_rfl
theorem q3w (D:DX)(n:Nat) (K:Ex→St→Option (Out ctx 56)):∀ (m:Nat) (x0:qd) (x1:List Int) (x2:Int) (x3:Int) (x4:qd),LQ qc D n 56 [.r,.r,.l,.r,.l] m (qjs x0 x1 x2 x3 x4) K=qjo D n (fun v0_0=>K (Ex.exit 0) (qnt v0_0)) m x0 x1 x2 x3 x4
 | 0,x0,x1,x2,x3,x4=>qx ..
 | m+1,x0,x1,x2,x3,x4=>by
  have ih:(fun x0 x1 x2 x3 x4=>LQ qc D n 56 [.r,.r,.l,.r,.l] m (qjs x0 x1 x2 x3 x4) K)=qjo D n (fun v0_0=>K (Ex.exit 0) (qnt v0_0)) m:=by funext x0 x1 x2 x3 x4;exact q3w D n K m x0 x1 x2 x3 x4
  rw[qbej]
  rw[ih];rfl
theorem qbb9 (D:DX)(n:Nat) (v0_0:qd) :
 (CQ qc D n 56 [] [.r,.r,.l,.r,.l] (qi qc 56)) (Ex.exit 0) (qnt v0_0)=q1w D n v0_0:=by kernel_rfl
theorem qbcf (D:DX)(n:Nat) (x0:qd) (x1:List Int) (x2:Int) (x3:Int) (x4:qd) :
 LQ qc D n 56 [.r,.r,.l,.r,.l] n (qjs x0 x1 x2 x3 x4) (CQ qc D n 56 [] [.r,.r,.l,.r,.l] (qi qc 56))=quz D n x0 x1 x2 x3 x4:=by
 rw[q3w]
 simp only[qbb9]
 rfl
theorem qbiz (D:DX)(n:Nat) (a0:qd) (a1:List Int):rfC qc D n 56 (a0,(a1,()))=qxx D n a0 a1:=by
 have h:rfC qc D n 56 (a0,(a1,()))=qyz D n (fun x0 x1 x2 x3 x4=>LQ qc D n 56 [.r,.r,.l,.r,.l] n (qjs x0 x1 x2 x3 x4) (CQ qc D n 56 [] [.r,.r,.l,.r,.l] (qi qc 56))) a0 a1:=by kernel_rfl
 rw[h]
 simp only[qbcf]
 rfl



def q79 (D:DX)(n:Nat) (a0:tSch):Option ((((tSch)×qe×Unit)×Bool×Unit)×Unit):=qh (qsw D a0) fun b↦qh (qk2 D ((Prod.fst (Prod.fst (Prod.fst b)),Prod.fst (Prod.snd (Prod.fst (Prod.fst b))),Prod.fst (Prod.snd (Prod.snd (Prod.fst (Prod.fst b)))),()),[],())) fun b_1↦br (!Prod.fst (Prod.fst b_1)) (some (((([],[],[],()),[],()),false,()),())) (some ((((Prod.fst (Prod.fst (Prod.fst b)),Prod.fst (Prod.snd (Prod.fst (Prod.fst b))),Prod.fst (Prod.snd (Prod.snd (Prod.fst (Prod.fst b)))),()),[],()),true,()),()))
def q05 (D:DX)(n:Nat) (a0:tSch):Option ((((tSch)×qe×Unit)×Bool×Unit)×Unit):=q79 D n a0
theorem qbj8 (D:DX)(n:Nat) (a0:tSch):rfC qc D n 60 (a0,())=q05 D n a0:=by kernel_rfl



def qye (D:DX)(n:Nat) (go:qd→Int→(tSch)×qe×Unit→(tSch)×qe×Unit→(tSch)×qe×Unit→Option ((((tSch)×qe×Unit)×Int×Unit)×Unit)) (K0:qd→Int→(tSch)×qe×Unit→(tSch)×qe×Unit→(tSch)×qe×Unit→Option ((((tSch)×qe×Unit)×Int×Unit)×Unit)) (x0:qd) (x1:Int) (x2:(tSch)×qe×Unit) (x3:(tSch)×qe×Unit) (x4:(tSch)×qe×Unit):Option ((((tSch)×qe×Unit)×Int×Unit)×Unit):=br (decide (x1<(↑(List.length (Prod.fst (Prod.snd x2))):Int))) (br (decide (0≤x1)&&decide (x1<(↑(List.length (Prod.fst (Prod.snd x2))):Int))) (qh (qdq D (Prod.fst x2) (List.getD (Prod.fst (Prod.snd x2)) (Int.toNat x1) [])) fun b↦qh (qdq D (Prod.fst x2) x0) fun b_1↦qh (qou D (Prod.fst (Prod.fst b)) (Prod.fst (Prod.fst b_1))) fun b↦br (Prod.fst (Prod.fst b)) (go x0 (IntKind.wrap IntKind.i64 (x1+1)) x2 x3 x4) (K0 x0 x1 x2 x3 x4)) none) (K0 x0 x1 x2 x3 x4)
def qks (D:DX)(n:Nat) (K0:qd→Int→(tSch)×qe×Unit→(tSch)×qe×Unit→(tSch)×qe×Unit→Option ((((tSch)×qe×Unit)×Int×Unit)×Unit)):Nat→(qd)→(Int)→((tSch)×qe×Unit)→((tSch)×qe×Unit)→((tSch)×qe×Unit)→Option ((((tSch)×qe×Unit)×Int×Unit)×Unit) | 0=>(fun x0 x1 x2 x3 x4=>none) | m+1=>(fun x0 x1 x2 x3 x4=>qye D n (qks D n K0 m) K0 x0 x1 x2 x3 x4)
def qiz (D:DX)(n:Nat) (v0_0:qd) (v0_1:Int) (v0_2:(tSch)×qe×Unit) (v0_3:(tSch)×qe×Unit) (v0_4:(tSch)×qe×Unit):Option ((((tSch)×qe×Unit)×Int×Unit)×Unit):=br (decide (0≤0)&&decide (0≤v0_1)&&decide (v0_1≤(↑(List.length (Prod.fst (Prod.snd v0_2))):Int))) (qh (qi0 D (List.drop (Int.toNat 0) (List.take (Int.toNat v0_1) (Prod.fst (Prod.snd v0_2))))) fun b↦br (decide (0+List.length v0_0≤q9)) (br (decide (List.length (Prod.fst (Prod.fst b))+1≤q9)) (br (decide (0≤v0_1)&&decide (v0_1≤(↑(List.length (Prod.fst (Prod.snd v0_2))):Int))&&decide ((↑(List.length (Prod.fst (Prod.snd v0_2))):Int)≤(↑(List.length (Prod.fst (Prod.snd v0_2))):Int))) (qh (qi0 D (List.drop (Int.toNat v0_1) (List.take (Int.toNat (↑(List.length (Prod.fst (Prod.snd v0_2))):Int)) (Prod.fst (Prod.snd v0_2))))) fun b_1↦br (decide (List.length (Prod.fst (Prod.fst b)++[[]++v0_0])+List.length (Prod.fst (Prod.fst b_1))≤q9)) (some ((((Prod.fst (Prod.fst v0_4),Prod.fst (Prod.snd (Prod.fst v0_4)),Prod.fst (Prod.snd (Prod.snd (Prod.fst v0_4))),()),Prod.fst (Prod.fst b)++[[]++v0_0]++Prod.fst (Prod.fst b_1),()),0,()),())) none) none) none) none) none
def qwe (D:DX)(n:Nat):(qd)→(Int)→((tSch)×qe×Unit)→((tSch)×qe×Unit)→((tSch)×qe×Unit)→Option ((((tSch)×qe×Unit)×Int×Unit)×Unit):=(fun x0 x1 x2 x3 x4=>qks D n (fun v0_0 v0_1 v0_2 v0_3 v0_4=>qiz D n v0_0 v0_1 v0_2 v0_3 v0_4) n x0 x1 x2 x3 x4)
def q0i (D:DX)(n:Nat) (lp0:qd→Int→(tSch)×qe×Unit→(tSch)×qe×Unit→(tSch)×qe×Unit→Option ((((tSch)×qe×Unit)×Int×Unit)×Unit)) (a0:(tSch)×qe×Unit) (a1:qd):Option ((((tSch)×qe×Unit)×Int×Unit)×Unit):=qh (qn6 D a0) fun b↦qh (qk2 D a0) fun b_1↦br (!Prod.fst (Prod.fst b_1)) (some ((((Prod.fst (Prod.fst (Prod.fst (Prod.fst b))),Prod.fst (Prod.snd (Prod.fst (Prod.fst (Prod.fst b)))),Prod.fst (Prod.snd (Prod.snd (Prod.fst (Prod.fst (Prod.fst b))))),()),Prod.fst (Prod.snd (Prod.fst (Prod.fst b))),()),1,()),())) (qh (qoh D (Prod.fst a0) a1) fun b_2↦br (!Prod.fst (Prod.fst b_2)) (some ((((Prod.fst (Prod.fst (Prod.fst (Prod.fst b))),Prod.fst (Prod.snd (Prod.fst (Prod.fst (Prod.fst b)))),Prod.fst (Prod.snd (Prod.snd (Prod.fst (Prod.fst (Prod.fst b))))),()),Prod.fst (Prod.snd (Prod.fst (Prod.fst b))),()),1,()),())) (qh (qdq D (Prod.fst a0) a1) fun b_3↦qh (qrj D a0 (Prod.fst (Prod.fst b_3))) fun b_4↦br (decide (Prod.fst (Prod.fst b_4)≥0)) (some ((((Prod.fst (Prod.fst (Prod.fst (Prod.fst b))),Prod.fst (Prod.snd (Prod.fst (Prod.fst (Prod.fst b)))),Prod.fst (Prod.snd (Prod.snd (Prod.fst (Prod.fst (Prod.fst b))))),()),Prod.fst (Prod.snd (Prod.fst (Prod.fst b))),()),2,()),())) (qh (qo0 D a0 a1 (-1)) fun b_5↦br (Prod.fst (Prod.fst b_5)) (some ((((Prod.fst (Prod.fst (Prod.fst (Prod.fst b))),Prod.fst (Prod.snd (Prod.fst (Prod.fst (Prod.fst b)))),Prod.fst (Prod.snd (Prod.snd (Prod.fst (Prod.fst (Prod.fst b))))),()),Prod.fst (Prod.snd (Prod.fst (Prod.fst b))),()),3,()),())) (br (decide ((↑(List.length (Prod.fst (Prod.snd a0))):Int)≥12)) (some ((((Prod.fst (Prod.fst (Prod.fst (Prod.fst b))),Prod.fst (Prod.snd (Prod.fst (Prod.fst (Prod.fst b)))),Prod.fst (Prod.snd (Prod.snd (Prod.fst (Prod.fst (Prod.fst b))))),()),Prod.fst (Prod.snd (Prod.fst (Prod.fst b))),()),5,()),())) (lp0 a1 0 a0 (([],[],[],()),[],()) ((Prod.fst (Prod.fst (Prod.fst (Prod.fst b))),Prod.fst (Prod.snd (Prod.fst (Prod.fst (Prod.fst b)))),Prod.fst (Prod.snd (Prod.snd (Prod.fst (Prod.fst (Prod.fst b))))),()),Prod.fst (Prod.snd (Prod.fst (Prod.fst b))),()))))))
def q02 (D:DX)(n:Nat) (a0:(tSch)×qe×Unit) (a1:qd):Option ((((tSch)×qe×Unit)×Int×Unit)×Unit):=q0i D n (qwe D n) a0 a1
def qkt (x0:qd) (x1:Int) (x2:(tSch)×qe×Unit) (x3:(tSch)×qe×Unit) (x4:(tSch)×qe×Unit):St:=stq 91 [(1,AV.val (Ty.sl yV) x0),(2,AV.addr 2 []),(4,AV.addr 4 []),(6,AV.addr 6 []),(7,avI x1)] [(2,Root.mk (Ty.pair yS (Ty.pair (Ty.sl (Ty.sl yV)) Ty.unit)) Mk.no x2 true),(4,Root.mk (Ty.pair yS (Ty.pair (Ty.sl (Ty.sl yV)) Ty.unit)) (Mk.pr (Mk.pr (Mk.own 0 (Mk.pr Mk.no (Mk.pr Mk.no (Mk.pr Mk.no Mk.no)))) (Mk.pr (Mk.own 0 Mk.no) (Mk.pr (Mk.own 0 (Mk.pr Mk.no (Mk.pr (Mk.own 0 Mk.no) (Mk.pr Mk.no Mk.no)))) Mk.no))) (Mk.pr (Mk.own 0 (Mk.own 0 (Mk.pr Mk.no (Mk.pr Mk.no (Mk.pr Mk.no Mk.no))))) Mk.no)) x3 true),(6,Root.mk (Ty.pair yS (Ty.pair (Ty.sl (Ty.sl yV)) Ty.unit)) (Mk.pr (Mk.pr (Mk.own 0 (Mk.pr Mk.no (Mk.pr Mk.no (Mk.pr Mk.no Mk.no)))) (Mk.pr (Mk.own 0 Mk.no) (Mk.pr (Mk.own 0 (Mk.pr Mk.no (Mk.pr (Mk.own 0 Mk.no) (Mk.pr Mk.no Mk.no)))) Mk.no))) (Mk.pr (Mk.own 0 (Mk.own 0 (Mk.pr Mk.no (Mk.pr Mk.no (Mk.pr Mk.no Mk.no))))) Mk.no)) x4 true)] 
def qpc (v0_0:qd) (v0_1:Int) (v0_2:(tSch)×qe×Unit) (v0_3:(tSch)×qe×Unit) (v0_4:(tSch)×qe×Unit):St:=stq 91 [(1,AV.val (Ty.sl yV) v0_0),(2,AV.addr 2 []),(4,AV.addr 4 []),(6,AV.addr 6 []),(7,avI v0_1)] [(2,Root.mk (Ty.pair yS (Ty.pair (Ty.sl (Ty.sl yV)) Ty.unit)) Mk.no v0_2 true),(4,Root.mk (Ty.pair yS (Ty.pair (Ty.sl (Ty.sl yV)) Ty.unit)) (Mk.pr (Mk.pr (Mk.own 0 (Mk.pr Mk.no (Mk.pr Mk.no (Mk.pr Mk.no Mk.no)))) (Mk.pr (Mk.own 0 Mk.no) (Mk.pr (Mk.own 0 (Mk.pr Mk.no (Mk.pr (Mk.own 0 Mk.no) (Mk.pr Mk.no Mk.no)))) Mk.no))) (Mk.pr (Mk.own 0 (Mk.own 0 (Mk.pr Mk.no (Mk.pr Mk.no (Mk.pr Mk.no Mk.no))))) Mk.no)) v0_3 true),(6,Root.mk (Ty.pair yS (Ty.pair (Ty.sl (Ty.sl yV)) Ty.unit)) (Mk.pr (Mk.pr (Mk.own 0 (Mk.pr Mk.no (Mk.pr Mk.no (Mk.pr Mk.no Mk.no)))) (Mk.pr (Mk.own 0 Mk.no) (Mk.pr (Mk.own 0 (Mk.pr Mk.no (Mk.pr (Mk.own 0 Mk.no) (Mk.pr Mk.no Mk.no)))) Mk.no))) (Mk.pr (Mk.own 0 (Mk.own 0 (Mk.pr Mk.no (Mk.pr Mk.no (Mk.pr Mk.no Mk.no))))) Mk.no)) v0_4 true)] 
theorem qbgf (D:DX)(n:Nat) (m:Nat) (K:Ex→St→Option (Out ctx 63)) (x0:qd) (x1:Int) (x2:(tSch)×
 qe×Unit) (x3:(tSch)×
 qe×Unit) (x4:(tSch)×
 qe×Unit) :
 LQ qc D n 63 [.r,.r,.r,.r,.l,.l] (m+1) (qkt x0 x1 x2 x3 x4) K=qye D n (fun x0 x1 x2 x3 x4=>LQ qc D n 63 [.r,.r,.r,.r,.l,.l] m (qkt x0 x1 x2 x3 x4) K) (fun v0_0 v0_1 v0_2 v0_3 v0_4=>K (Ex.exit 1) (qpc v0_0 v0_1 v0_2 v0_3 v0_4)) x0 x1 x2 x3 x4:=by kernel_rfl
theorem q4h (D:DX)(n:Nat) (K:Ex→St→Option (Out ctx 63)):∀ (m:Nat) (x0:qd) (x1:Int) (x2:(tSch)×
 qe×Unit) (x3:(tSch)×
 qe×Unit) (x4:(tSch)×
 qe×Unit),LQ qc D n 63 [.r,.r,.r,.r,.l,.l] m (qkt x0 x1 x2 x3 x4) K=qks D n (fun v0_0 v0_1 v0_2 v0_3 v0_4=>K (Ex.exit 1) (qpc v0_0 v0_1 v0_2 v0_3 v0_4)) m x0 x1 x2 x3 x4
 | 0,x0,x1,x2,x3,x4=>qx ..
 | m+1,x0,x1,x2,x3,x4=>by
  have ih:(fun x0 x1 x2 x3 x4=>LQ qc D n 63 [.r,.r,.r,.r,.l,.l] m (qkt x0 x1 x2 x3 x4) K)=qks D n (fun v0_0 v0_1 v0_2 v0_3 v0_4=>K (Ex.exit 1) (qpc v0_0 v0_1 v0_2 v0_3 v0_4)) m:=by funext x0 x1 x2 x3 x4;exact q4h D n K m x0 x1 x2 x3 x4
  rw[qbgf]
  rw[ih];rfl
theorem qbdt (D:DX)(n:Nat) (v0_0:qd) (v0_1:Int) (v0_2:(tSch)×
 qe×Unit) (v0_3:(tSch)×
 qe×Unit) (v0_4:(tSch)×
 qe×Unit) :
 (CQ qc D n 63 [] [.r,.r,.r,.r,.l,.l] (qi qc 63)) (Ex.exit 1) (qpc v0_0 v0_1 v0_2 v0_3 v0_4)=qiz D n v0_0 v0_1 v0_2 v0_3 v0_4:=by kernel_rfl
theorem qbd3 (D:DX)(n:Nat) (x0:qd) (x1:Int) (x2:(tSch)×
 qe×Unit) (x3:(tSch)×
 qe×Unit) (x4:(tSch)×
 qe×Unit) :
 LQ qc D n 63 [.r,.r,.r,.r,.l,.l] n (qkt x0 x1 x2 x3 x4) (CQ qc D n 63 [] [.r,.r,.r,.r,.l,.l] (qi qc 63))=qwe D n x0 x1 x2 x3 x4:=by
 rw[q4h]
 simp only[qbdt]
 rfl
theorem qbka (D:DX)(n:Nat) (a0:(tSch)×
 qe×Unit) (a1:qd):rfC qc D n 63 (a0,(a1,()))=q02 D n a0 a1:=by
 have h:rfC qc D n 63 (a0,(a1,()))=q0i D n (fun x0 x1 x2 x3 x4=>LQ qc D n 63 [.r,.r,.r,.r,.l,.l] n (qkt x0 x1 x2 x3 x4) (CQ qc D n 63 [] [.r,.r,.r,.r,.l,.l] (qi qc 63))) a0 a1:=by kernel_rfl
 rw[h]
 simp only[qbd3]
 rfl


def q1o (D:DX)(n:Nat) (a0:List Int):Option ((((tSch)×qe×Unit)×Int×Unit)×Unit):=qh (q32 D a0) fun b↦qh (qxq D (Prod.fst (Prod.fst b))) fun b↦qh (qcg D (Prod.fst (Prod.snd b)) 4) fun b_1↦some ((Prod.fst (Prod.fst b),IntKind.wrap IntKind.i64 (Prod.fst (Prod.fst b_1) - 1),()),())
def qta (D:DX)(n:Nat) (a0:List Int):Option ((((tSch)×qe×Unit)×Int×Unit)×Unit):=q1o D n a0
theorem qbb7 (D:DX)(n:Nat) (a0:List Int):rfC qc D n 65 (a0,())=qta D n a0:=by kernel_rfl

def qy1 (D:DX)(n:Nat) (go:Int→qe→Int→Int→(tSch)×qe×Unit→List tWay→Option ((List tWay×Unit)×Unit)) (K0:List tWay→Option ((List tWay×Unit)×Unit)) (x0:Int) (x1:qe) (x2:Int) (x3:Int) (x4:(tSch)×qe×Unit) (x5:List tWay):Option ((List tWay×Unit)×Unit):=br (decide (x3<x2)) (br (decide (0≤x3)&&decide (x3<(↑(List.length x1):Int))) (qh (q7j D (Prod.fst x4) x0 (List.getD x1 (Int.toNat x3) [])) fun b↦qh (q03 D x5 (Prod.fst (Prod.fst b))) fun b↦go x0 x1 x2 (IntKind.wrap IntKind.i64 (x3+1)) x4 (Prod.fst (Prod.fst b))) none) (K0 x5)
def qk1 (D:DX)(n:Nat) (K0:List tWay→Option ((List tWay×Unit)×Unit)):Nat→(Int)→(qe)→(Int)→(Int)→((tSch)×qe×Unit)→(List tWay)→Option ((List tWay×Unit)×Unit) | 0=>(fun x0 x1 x2 x3 x4 x5=>none) | m+1=>(fun x0 x1 x2 x3 x4 x5=>qy1 D n (qk1 D n K0 m) K0 x0 x1 x2 x3 x4 x5)
def quu (D:DX)(n:Nat) (v0_0:List tWay):Option ((List tWay×Unit)×Unit):=some ((v0_0,()),())
def qvn (D:DX)(n:Nat):(Int)→(qe)→(Int)→(Int)→((tSch)×qe×Unit)→(List tWay)→Option ((List tWay×Unit)×Unit):=(fun x0 x1 x2 x3 x4 x5=>qk1 D n (fun v0_0=>quu D n v0_0) n x0 x1 x2 x3 x4 x5)
def q0y (D:DX)(n:Nat) (lp0:Int→qe→Int→Int→(tSch)×qe×Unit→List tWay→Option ((List tWay×Unit)×Unit)) (a0:(tSch)×qe×Unit) (a1:Int):Option ((List tWay×Unit)×Unit):=qh (qwx D a0) fun b↦br (!Prod.fst (Prod.fst b)) (some (([],()),())) (qh (qgd D a1 0 (IntKind.wrap IntKind.i64 ((↑(List.length (Prod.fst (Prod.snd (Prod.snd (Prod.fst a0))))):Int) - 1))) fun b↦br (!Prod.fst (Prod.fst b)) (some (([],()),())) (lp0 a1 (Prod.fst (Prod.snd a0)) (↑(List.length (Prod.fst (Prod.snd a0))):Int) 0 a0 []))
def q0s (D:DX)(n:Nat) (a0:(tSch)×qe×Unit) (a1:Int):Option ((List tWay×Unit)×Unit):=q0y D n (qvn D n) a0 a1
def qkv (x0:Int) (x1:qe) (x2:Int) (x3:Int) (x4:(tSch)×qe×Unit) (x5:List tWay):St:=stq 39 [(1,avI x0),(2,AV.addr 2 []),(5,AV.brw 5 [] 0),(24,AV.val (Ty.sl (Ty.sl yV)) x1),(25,avI x2),(26,avI x3)] [(2,Root.mk (Ty.pair yS (Ty.pair (Ty.sl (Ty.sl yV)) Ty.unit)) Mk.no x4 true),(5,Root.mk (Ty.sl (Ty.pair Ty.str (Ty.pair Ty.str Ty.unit))) (Mk.own 0 (Mk.pr Mk.no (Mk.pr Mk.no Mk.no))) x5 false)] 
def qon (v0_0:List tWay):St:=stq 39 [(5,AV.brw 5 [] 0)] [(5,Root.mk (Ty.sl (Ty.pair Ty.str (Ty.pair Ty.str Ty.unit))) (Mk.own 0 (Mk.pr Mk.no (Mk.pr Mk.no Mk.no))) v0_0 false)] 
theorem qbgc (D:DX)(n:Nat) (m:Nat) (K:Ex→St→Option (Out ctx 66)) (x0:Int) (x1:qe) (x2:Int) (x3:Int) (x4:(tSch)×
 qe×Unit) (x5:List tWay) :
 LQ qc D n 66 [.r,.r,.r,.l,.r,.l] (m+1) (qkv x0 x1 x2 x3 x4 x5) K=qy1 D n (fun x0 x1 x2 x3 x4 x5=>LQ qc D n 66 [.r,.r,.r,.l,.r,.l] m (qkv x0 x1 x2 x3 x4 x5) K) (fun v0_0=>K (Ex.exit 0) (qon v0_0)) x0 x1 x2 x3 x4 x5:=by kernel_rfl
theorem q36 (D:DX)(n:Nat) (K:Ex→St→Option (Out ctx 66)):∀ (m:Nat) (x0:Int) (x1:qe) (x2:Int) (x3:Int) (x4:(tSch)×
 qe×Unit) (x5:List tWay),LQ qc D n 66 [.r,.r,.r,.l,.r,.l] m (qkv x0 x1 x2 x3 x4 x5) K=qk1 D n (fun v0_0=>K (Ex.exit 0) (qon v0_0)) m x0 x1 x2 x3 x4 x5
 | 0,x0,x1,x2,x3,x4,x5=>qx ..
 | m+1,x0,x1,x2,x3,x4,x5=>by
  have ih:(fun x0 x1 x2 x3 x4 x5=>LQ qc D n 66 [.r,.r,.r,.l,.r,.l] m (qkv x0 x1 x2 x3 x4 x5) K)=qk1 D n (fun v0_0=>K (Ex.exit 0) (qon v0_0)) m:=by funext x0 x1 x2 x3 x4 x5;exact q36 D n K m x0 x1 x2 x3 x4 x5
  rw[qbgc]
  rw[ih];rfl
theorem qbdx (D:DX)(n:Nat) (v0_0:List tWay) :
 (CQ qc D n 66 [] [.r,.r,.r,.l,.r,.l] (qi qc 66)) (Ex.exit 0) (qon v0_0)=quu D n v0_0:=by kernel_rfl
theorem qbdd (D:DX)(n:Nat) (x0:Int) (x1:qe) (x2:Int) (x3:Int) (x4:(tSch)×
 qe×Unit) (x5:List tWay) :
 LQ qc D n 66 [.r,.r,.r,.l,.r,.l] n (qkv x0 x1 x2 x3 x4 x5) (CQ qc D n 66 [] [.r,.r,.r,.l,.r,.l] (qi qc 66))=qvn D n x0 x1 x2 x3 x4 x5:=by
 rw[q36]
 simp only[qbdx]
 rfl
theorem qbke (D:DX)(n:Nat) (a0:(tSch)×
 qe×Unit) (a1:Int):rfC qc D n 66 (a0,(a1,()))=q0s D n a0 a1:=by
 have h:rfC qc D n 66 (a0,(a1,()))=q0y D n (fun x0 x1 x2 x3 x4 x5=>LQ qc D n 66 [.r,.r,.r,.l,.r,.l] n (qkv x0 x1 x2 x3 x4 x5) (CQ qc D n 66 [] [.r,.r,.r,.l,.r,.l] (qi qc 66))) a0 a1:=by kernel_rfl
 rw[h]
 simp only[qbdd]
 rfl

def qux (D:DX)(n:Nat) (go:List tWay→List tWay→Int→Option ((Bool×Unit)×Unit)) (K0:Bool→Option ((Bool×Unit)×Unit)) (K1:Option ((Bool×Unit)×Unit)) (x0:List tWay) (x1:List tWay) (x2:Int):Option ((Bool×Unit)×Unit):=br (decide (x2<(↑(List.length x0):Int))) (br (decide (0≤x2)&&decide (x2<(↑(List.length x0):Int))) (br (decide (0≤x2)&&decide (x2<(↑(List.length x1):Int))) (br (!qkl (Ty.pair Ty.str (Ty.pair Ty.str Ty.unit)) (List.getD x0 (Int.toNat x2) (ByteArray.empty,ByteArray.empty,())) (List.getD x1 (Int.toNat x2) (ByteArray.empty,ByteArray.empty,()))) (K0 false) (go x0 x1 (IntKind.wrap IntKind.i64 (x2+1)))) none) none) K1
def qiv (D:DX)(n:Nat) (K0:Bool→Option ((Bool×Unit)×Unit)) (K1:Option ((Bool×Unit)×Unit)):Nat→(List tWay)→(List tWay)→(Int)→Option ((Bool×Unit)×Unit) | 0=>(fun x0 x1 x2=>none) | m+1=>(fun x0 x1 x2=>qux D n (qiv D n K0 K1 m) K0 K1 x0 x1 x2)
def qz2 (D:DX)(n:Nat) (v0_0:Bool):Option ((Bool×Unit)×Unit):=some ((v0_0,()),())
def qzu (D:DX)(n:Nat):Option ((Bool×Unit)×Unit):=some ((true,()),())
def qtb (D:DX)(n:Nat):(List tWay)→(List tWay)→(Int)→Option ((Bool×Unit)×Unit):=(fun x0 x1 x2=>qiv D n (fun v0_0=>qz2 D n v0_0) (qzu D n) n x0 x1 x2)
def qvv (D:DX)(n:Nat) (lp0:List tWay→List tWay→Int→Option ((Bool×Unit)×Unit)) (a0:List tWay) (a1:List tWay):Option ((Bool×Unit)×Unit):=br ((↑(List.length a0):Int) != (↑(List.length a1):Int)) (some ((false,()),())) (lp0 a0 a1 0)
def qwq (D:DX)(n:Nat) (a0:List tWay) (a1:List tWay):Option ((Bool×Unit)×Unit):=qvv D n (qtb D n) a0 a1
def qi2 (x0:List tWay) (x1:List tWay) (x2:Int):St:=stq 26 [(0,AV.val (Ty.sl (Ty.pair Ty.str (Ty.pair Ty.str Ty.unit))) x0),(1,AV.val (Ty.sl (Ty.pair Ty.str (Ty.pair Ty.str Ty.unit))) x1),(5,avI x2)] [] 
def ql7 (v0_0:Bool):St:=stq 26 [(4,AV.val Ty.bool v0_0)] [] 
def qml:St:=stq 26 [] [] 
theorem qbbi (D:DX)(n:Nat) (m:Nat) (K:Ex→St→Option (Out ctx 67)) (x0:List tWay) (x1:List tWay) (x2:Int) :
 LQ qc D n 67 [.r,.r,.l,.r,.l] (m+1) (qi2 x0 x1 x2) K=qux D n (fun x0 x1 x2=>LQ qc D n 67 [.r,.r,.l,.r,.l] m (qi2 x0 x1 x2) K) (fun v0_0=>K (Ex.ret) (ql7 v0_0)) (K (Ex.exit 0) (qml)) x0 x1 x2:=by kernel_rfl
theorem q1g (D:DX)(n:Nat) (K:Ex→St→Option (Out ctx 67)):∀ (m:Nat) (x0:List tWay) (x1:List tWay) (x2:Int),LQ qc D n 67 [.r,.r,.l,.r,.l] m (qi2 x0 x1 x2) K=qiv D n (fun v0_0=>K (Ex.ret) (ql7 v0_0)) (K (Ex.exit 0) (qml)) m x0 x1 x2
 | 0,x0,x1,x2=>qx ..
 | m+1,x0,x1,x2=>by
  have ih:(fun x0 x1 x2=>LQ qc D n 67 [.r,.r,.l,.r,.l] m (qi2 x0 x1 x2) K)=qiv D n (fun v0_0=>K (Ex.ret) (ql7 v0_0)) (K (Ex.exit 0) (qml)) m:=by funext x0 x1 x2;exact q1g D n K m x0 x1 x2
  rw[qbbi]
  rw[ih];rfl
theorem qbav (D:DX)(n:Nat) (v0_0:Bool) :
 (CQ qc D n 67 [] [.r,.r,.l,.r,.l] (qi qc 67)) (Ex.ret) (ql7 v0_0)=qz2 D n v0_0:=by kernel_rfl
theorem q9n (D:DX)(n:Nat) :
 (CQ qc D n 67 [] [.r,.r,.l,.r,.l] (qi qc 67)) (Ex.exit 0) (qml)=qzu D n:=by kernel_rfl
theorem qbaf (D:DX)(n:Nat) (x0:List tWay) (x1:List tWay) (x2:Int) :
 LQ qc D n 67 [.r,.r,.l,.r,.l] n (qi2 x0 x1 x2) (CQ qc D n 67 [] [.r,.r,.l,.r,.l] (qi qc 67))=qtb D n x0 x1 x2:=by
 rw[q1g]
 simp only[qbav,q9n]
 rfl
theorem qbgs (D:DX)(n:Nat) (a0:List tWay) (a1:List tWay):rfC qc D n 67 (a0,(a1,()))=qwq D n a0 a1:=by
 have h:rfC qc D n 67 (a0,(a1,()))=qvv D n (fun x0 x1 x2=>LQ qc D n 67 [.r,.r,.l,.r,.l] n (qi2 x0 x1 x2) (CQ qc D n 67 [] [.r,.r,.l,.r,.l] (qi qc 67))) a0 a1:=by kernel_rfl
 rw[h]
 simp only[qbaf]
 rfl

def qya (D:DX)(n:Nat) (go:Int→Int→(tSch)×qe×Unit→List tWay→Option ((List tWay×Unit)×Unit)) (K0:List tWay→Option ((List tWay×Unit)×Unit)) (x0:Int) (x1:Int) (x2:(tSch)×qe×Unit) (x3:List tWay):Option ((List tWay×Unit)×Unit):=br (decide (x1<(↑(List.length (Prod.fst (Prod.snd x2))):Int))) (qh (qk2 D x2) fun b↦br (Prod.fst (Prod.fst b)) (br (decide (0≤x1)&&decide (x1<(↑(List.length (Prod.fst (Prod.snd x2))):Int))) (qh (q3s D x2 x0 (List.getD (Prod.fst (Prod.snd x2)) (Int.toNat x1) [])) fun b↦br (Prod.fst (Prod.snd (Prod.fst b))) (qh (q0f D x3 (Prod.fst (Prod.fst b))) fun b↦go x0 (IntKind.wrap IntKind.i64 (x1+1)) x2 (Prod.fst (Prod.fst b))) (go x0 (IntKind.wrap IntKind.i64 (x1+1)) x2 x3)) none) (K0 x3)) (K0 x3)
def qk0 (D:DX)(n:Nat) (K0:List tWay→Option ((List tWay×Unit)×Unit)):Nat→(Int)→(Int)→((tSch)×qe×Unit)→(List tWay)→Option ((List tWay×Unit)×Unit) | 0=>(fun x0 x1 x2 x3=>none) | m+1=>(fun x0 x1 x2 x3=>qya D n (qk0 D n K0 m) K0 x0 x1 x2 x3)
def qt8 (D:DX)(n:Nat) (v0_0:List tWay):Option ((List tWay×Unit)×Unit):=some ((v0_0,()),())
def qwt (D:DX)(n:Nat):(Int)→(Int)→((tSch)×qe×Unit)→(List tWay)→Option ((List tWay×Unit)×Unit):=(fun x0 x1 x2 x3=>qk0 D n (fun v0_0=>qt8 D n v0_0) n x0 x1 x2 x3)
def q0n (D:DX)(n:Nat) (lp0:Int→Int→(tSch)×qe×Unit→List tWay→Option ((List tWay×Unit)×Unit)) (a0:(tSch)×qe×Unit) (a1:Int):Option ((List tWay×Unit)×Unit):=lp0 a1 0 a0 []
def q0g (D:DX)(n:Nat) (a0:(tSch)×qe×Unit) (a1:Int):Option ((List tWay×Unit)×Unit):=q0n D n (qwt D n) a0 a1
def qkn (x0:Int) (x1:Int) (x2:(tSch)×qe×Unit) (x3:List tWay):St:=stq 37 [(1,avI x0),(2,AV.addr 2 []),(5,AV.brw 5 [] 0),(6,avI x1)] [(2,Root.mk (Ty.pair yS (Ty.pair (Ty.sl (Ty.sl yV)) Ty.unit)) Mk.no x2 true),(5,Root.mk (Ty.sl (Ty.pair Ty.str (Ty.pair Ty.str Ty.unit))) (Mk.own 0 (Mk.pr Mk.no (Mk.pr Mk.no Mk.no))) x3 false)] 
def qo2 (v0_0:List tWay):St:=stq 37 [(5,AV.brw 5 [] 0)] [(5,Root.mk (Ty.sl (Ty.pair Ty.str (Ty.pair Ty.str Ty.unit))) (Mk.own 0 (Mk.pr Mk.no (Mk.pr Mk.no Mk.no))) v0_0 false)] 
theorem qbgt (D:DX)(n:Nat) (m:Nat) (K:Ex→St→Option (Out ctx 68)) (x0:Int) (x1:Int) (x2:(tSch)×
 qe×Unit) (x3:List tWay) :
 LQ qc D n 68 [.r,.r,.l,.r,.l] (m+1) (qkn x0 x1 x2 x3) K=qya D n (fun x0 x1 x2 x3=>LQ qc D n 68 [.r,.r,.l,.r,.l] m (qkn x0 x1 x2 x3) K) (fun v0_0=>K (Ex.exit 0) (qo2 v0_0)) x0 x1 x2 x3:=by kernel_rfl
theorem q4g (D:DX)(n:Nat) (K:Ex→St→Option (Out ctx 68)):∀ (m:Nat) (x0:Int) (x1:Int) (x2:(tSch)×
 qe×Unit) (x3:List tWay),LQ qc D n 68 [.r,.r,.l,.r,.l] m (qkn x0 x1 x2 x3) K=qk0 D n (fun v0_0=>K (Ex.exit 0) (qo2 v0_0)) m x0 x1 x2 x3
 | 0,x0,x1,x2,x3=>qx ..
 | m+1,x0,x1,x2,x3=>by
  have ih:(fun x0 x1 x2 x3=>LQ qc D n 68 [.r,.r,.l,.r,.l] m (qkn x0 x1 x2 x3) K)=qk0 D n (fun v0_0=>K (Ex.exit 0) (qo2 v0_0)) m:=by funext x0 x1 x2 x3;exact q4g D n K m x0 x1 x2 x3
  rw[qbgt]
  rw[ih];rfl
theorem qben (D:DX)(n:Nat) (v0_0:List tWay) :
 (CQ qc D n 68 [] [.r,.r,.l,.r,.l] (qi qc 68)) (Ex.exit 0) (qo2 v0_0)=qt8 D n v0_0:=by kernel_rfl
theorem qbdm (D:DX)(n:Nat) (x0:Int) (x1:Int) (x2:(tSch)×
 qe×Unit) (x3:List tWay) :
 LQ qc D n 68 [.r,.r,.l,.r,.l] n (qkn x0 x1 x2 x3) (CQ qc D n 68 [] [.r,.r,.l,.r,.l] (qi qc 68))=qwt D n x0 x1 x2 x3:=by
 rw[q4g]
 simp only[qben]
 rfl
theorem qbkg (D:DX)(n:Nat) (a0:(tSch)×
 qe×Unit) (a1:Int):rfC qc D n 68 (a0,(a1,()))=q0g D n a0 a1:=by
 have h:rfC qc D n 68 (a0,(a1,()))=q0n D n (fun x0 x1 x2 x3=>LQ qc D n 68 [.r,.r,.l,.r,.l] n (qkn x0 x1 x2 x3) (CQ qc D n 68 [] [.r,.r,.l,.r,.l] (qi qc 68))) a0 a1:=by kernel_rfl
 rw[h]
 simp only[qbdm]
 rfl

def qbh2 (D:DX)(n:Nat) (a0:ByteArray×ByteArray×Unit) (a1:ByteArray×ByteArray×Unit):Option ((Bool×Unit)×Unit):=some ((bif Op.bytesLess (ByteArray.toList (Prod.fst a0)) (ByteArray.toList (Prod.fst a1)) then true else bif List.beq (ByteArray.toList (Prod.fst a0)) (ByteArray.toList (Prod.fst a1)) then Op.bytesLess (ByteArray.toList (Prod.fst (Prod.snd a0))) (ByteArray.toList (Prod.fst (Prod.snd a1))) else false,()),())
def q6m (D:DX)(n:Nat) (a0:ByteArray×ByteArray×Unit) (a1:ByteArray×ByteArray×Unit):Option ((Bool×Unit)×Unit):=qbh2 D n a0 a1
theorem qbij (D:DX)(n:Nat) (a0:ByteArray×ByteArray×Unit) (a1:ByteArray×ByteArray×Unit):rfC qc D n 69 (a0,(a1,()))=q6m D n a0 a1:=by kernel_rfl




def qbc3 (D:DX)(n:Nat) (a0:Int) (a1:Int) (a2:Int):Option ((Bool×Unit)×Unit):=some ((bif decide (a0≥a1) then decide (a0≤a2) else false,()),())
def q44 (D:DX)(n:Nat) (a0:Int) (a1:Int) (a2:Int):Option ((Bool×Unit)×Unit):=qbc3 D n a0 a1 a2
theorem qbng (D:DX)(n:Nat) (a0:Int) (a1:Int) (a2:Int):rfC qc D n 73 (a0,(a1,(a2,())))=q44 D n a0 a1 a2:=by kernel_rfl

def qsz (D:DX)(n:Nat) (go:List Int→Int→Int→Int→tSch→Option ((Bool×Unit)×Unit)) (K0:List Int→Int→Bool→Int→tSch→Option ((Bool×Unit)×Unit)) (K1:List Int→Int→Int→tSch→Option ((Bool×Unit)×Unit)) (x1_0:List Int) (x1_1:Int) (x1_2:Int) (x1_3:Int) (x1_4:tSch):Option ((Bool×Unit)×Unit):=br (decide (x1_3<x1_2)) (br (decide (0≤x1_3)&&decide (x1_3<(↑(List.length x1_0):Int))) (br (decide (0≤x1_2)&&decide (x1_2<(↑(List.length x1_0):Int))) (br (decide (List.getD x1_0 (Int.toNat x1_3) 0=List.getD x1_0 (Int.toNat x1_2) 0)) (K0 x1_0 x1_1 false x1_2 x1_4) (go x1_0 x1_1 x1_2 (IntKind.wrap IntKind.i64 (x1_3+1)) x1_4)) none) none) (K1 x1_0 x1_1 x1_2 x1_4)
def qhv (D:DX)(n:Nat) (K0:List Int→Int→Bool→Int→tSch→Option ((Bool×Unit)×Unit)) (K1:List Int→Int→Int→tSch→Option ((Bool×Unit)×Unit)):Nat→(List Int)→(Int)→(Int)→(Int)→(tSch)→Option ((Bool×Unit)×Unit) | 0=>(fun x1_0 x1_1 x1_2 x1_3 x1_4=>none) | m+1=>(fun x1_0 x1_1 x1_2 x1_3 x1_4=>qsz D n (qhv D n K0 K1 m) K0 K1 x1_0 x1_1 x1_2 x1_3 x1_4)
def qxe (D:DX)(n:Nat) (go:List Int→Int→Int→tSch→Option ((Bool×Unit)×Unit)) (K0:List Int→Int→Bool→Option ((Bool×Unit)×Unit)) (K1:List Int→Int→Option ((Bool×Unit)×Unit)) (v0_0:List Int) (v0_1:Int) (v0_2:Bool) (v0_3:Int) (v0_4:tSch):Option ((Bool×Unit)×Unit):=K0 v0_0 v0_1 v0_2
def qqc (D:DX)(n:Nat) (go:List Int→Int→Int→tSch→Option ((Bool×Unit)×Unit)) (K0:List Int→Int→Bool→Option ((Bool×Unit)×Unit)) (K1:List Int→Int→Option ((Bool×Unit)×Unit)) (v1_0:List Int) (v1_1:Int) (v1_2:Int) (v1_3:tSch):Option ((Bool×Unit)×Unit):=go v1_0 v1_1 (IntKind.wrap IntKind.i64 (v1_2+1)) v1_3
def qsf (D:DX)(n:Nat) (go:List Int→Int→Int→tSch→Option ((Bool×Unit)×Unit)) (K0:List Int→Int→Bool→Option ((Bool×Unit)×Unit)) (K1:List Int→Int→Option ((Bool×Unit)×Unit)):(List Int)→(Int)→(Int)→(Int)→(tSch)→Option ((Bool×Unit)×Unit):=(fun x1_0 x1_1 x1_2 x1_3 x1_4=>qhv D n (fun v0_0 v0_1 v0_2 v0_3 v0_4=>qxe D n go K0 K1 v0_0 v0_1 v0_2 v0_3 v0_4) (fun v1_0 v1_1 v1_2 v1_3=>qqc D n go K0 K1 v1_0 v1_1 v1_2 v1_3) n x1_0 x1_1 x1_2 x1_3 x1_4)
def qto (D:DX)(n:Nat) (go:List Int→Int→Int→tSch→Option ((Bool×Unit)×Unit)) (K0:List Int→Int→Bool→Option ((Bool×Unit)×Unit)) (K1:List Int→Int→Option ((Bool×Unit)×Unit)) (lp1:List Int→Int→Int→Int→tSch→Option ((Bool×Unit)×Unit)) (x0:List Int) (x1:Int) (x2:Int) (x3:tSch):Option ((Bool×Unit)×Unit):=br (decide (x2<(↑(List.length x0):Int))) (br (decide (0≤x2)&&decide (x2<(↑(List.length x0):Int))) (qh (qgk D (List.getD x0 (Int.toNat x2) 0) 0 (IntKind.wrap IntKind.i64 ((↑(List.length (Prod.fst x3)):Int) - 1))) fun b↦br (!Prod.fst (Prod.fst b)) (K0 x0 x1 false) (lp1 x0 x1 x2 0 x3)) none) (K1 x0 x1)
def qer (D:DX)(n:Nat) (K0:List Int→Int→Bool→Option ((Bool×Unit)×Unit)) (K1:List Int→Int→Option ((Bool×Unit)×Unit)):Nat→(List Int)→(Int)→(Int)→(tSch)→Option ((Bool×Unit)×Unit) | 0=>(fun x0 x1 x2 x3=>none) | m+1=>(fun x0 x1 x2 x3=>qto D n (qer D n K0 K1 m) K0 K1 (qsf D n (qer D n K0 K1 m) K0 K1) x0 x1 x2 x3)
def qp4 (D:DX)(n:Nat) (v0_0:List Int) (v0_1:Int) (v0_2:Bool):Option ((Bool×Unit)×Unit):=some ((v0_2,()),())
def qlj (D:DX)(n:Nat) (v1_0:List Int) (v1_1:Int):Option ((Bool×Unit)×Unit):=qh (qgk D (↑(List.length v1_0):Int) 1 v1_1) fun b↦some ((Prod.fst (Prod.fst b),()),())
def qr1 (D:DX)(n:Nat):(List Int)→(Int)→(Int)→(tSch)→Option ((Bool×Unit)×Unit):=(fun x0 x1 x2 x3=>qer D n (fun v0_0 v0_1 v0_2=>qp4 D n v0_0 v0_1 v0_2) (fun v1_0 v1_1=>qlj D n v1_0 v1_1) n x0 x1 x2 x3)
def qt7 (D:DX)(n:Nat) (lp0:List Int→Int→Int→tSch→Option ((Bool×Unit)×Unit)) (a0:tSch) (a1:List Int) (a2:Int):Option ((Bool×Unit)×Unit):=lp0 a1 a2 0 a0
def qus (D:DX)(n:Nat) (a0:tSch) (a1:List Int) (a2:Int):Option ((Bool×Unit)×Unit):=qt7 D n (qr1 D n) a0 a1 a2
def qdy (x0:List Int) (x1:Int) (x2:Int) (x3:tSch):St:=stq 43 [(1,AV.val (Ty.sl yI) x0),(2,avI x1),(3,AV.addr 3 []),(7,avI x2)] [(3,Root.mk yS Mk.no x3 true)] 
def qes (v0_0:List Int) (v0_1:Int) (v0_2:Bool):St:=stq 43 [(1,AV.val (Ty.sl yI) v0_0),(2,avI v0_1),(6,AV.val Ty.bool v0_2)] [] 
def qey (v1_0:List Int) (v1_1:Int):St:=stq 43 [(1,AV.val (Ty.sl yI) v1_0),(2,avI v1_1)] [] 
def qhw (x1_0:List Int) (x1_1:Int) (x1_2:Int) (x1_3:Int) (x1_4:tSch):St:=stq 43 [(1,AV.val (Ty.sl yI) x1_0),(2,avI x1_1),(3,AV.addr 3 []),(7,avI x1_2),(8,avI x1_3)] [(3,Root.mk yS Mk.no x1_4 true)] 
def qlb (v0_0:List Int) (v0_1:Int) (v0_2:Bool) (v0_3:Int) (v0_4:tSch):St:=stq 43 [(1,AV.val (Ty.sl yI) v0_0),(2,avI v0_1),(3,AV.addr 3 []),(6,AV.val Ty.bool v0_2),(7,avI v0_3)] [(3,Root.mk yS Mk.no v0_4 true)] 
def qla (v1_0:List Int) (v1_1:Int) (v1_2:Int) (v1_3:tSch):St:=stq 43 [(1,AV.val (Ty.sl yI) v1_0),(2,avI v1_1),(3,AV.addr 3 []),(7,avI v1_2)] [(3,Root.mk yS Mk.no v1_3 true)] 
theorem qbar (D:DX)(n:Nat) (m:Nat) (K:Ex→St→Option (Out ctx 74)) (x1_0:List Int) (x1_1:Int) (x1_2:Int) (x1_3:Int) (x1_4:tSch) :
 LQ qc D n 74 [.r,.l,.r,.l,.l,.r,.l,.l,.r,.r,.l] (m+1) (qhw x1_0 x1_1 x1_2 x1_3 x1_4) K=qsz D n (fun x1_0 x1_1 x1_2 x1_3 x1_4=>LQ qc D n 74 [.r,.l,.r,.l,.l,.r,.l,.l,.r,.r,.l] m (qhw x1_0 x1_1 x1_2 x1_3 x1_4) K) (fun v0_0 v0_1 v0_2 v0_3 v0_4=>K (Ex.ret) (qlb v0_0 v0_1 v0_2 v0_3 v0_4)) (fun v1_0 v1_1 v1_2 v1_3=>K (Ex.exit 2) (qla v1_0 v1_1 v1_2 v1_3)) x1_0 x1_1 x1_2 x1_3 x1_4:=by kernel_rfl
theorem q0c (D:DX)(n:Nat) (K:Ex→St→Option (Out ctx 74)):∀ (m:Nat) (x1_0:List Int) (x1_1:Int) (x1_2:Int) (x1_3:Int) (x1_4:tSch),LQ qc D n 74 [.r,.l,.r,.l,.l,.r,.l,.l,.r,.r,.l] m (qhw x1_0 x1_1 x1_2 x1_3 x1_4) K=qhv D n (fun v0_0 v0_1 v0_2 v0_3 v0_4=>K (Ex.ret) (qlb v0_0 v0_1 v0_2 v0_3 v0_4)) (fun v1_0 v1_1 v1_2 v1_3=>K (Ex.exit 2) (qla v1_0 v1_1 v1_2 v1_3)) m x1_0 x1_1 x1_2 x1_3 x1_4
 | 0,x1_0,x1_1,x1_2,x1_3,x1_4=>qx ..
 | m+1,x1_0,x1_1,x1_2,x1_3,x1_4=>by
  have ih:(fun x1_0 x1_1 x1_2 x1_3 x1_4=>LQ qc D n 74 [.r,.l,.r,.l,.l,.r,.l,.l,.r,.r,.l] m (qhw x1_0 x1_1 x1_2 x1_3 x1_4) K)=qhv D n (fun v0_0 v0_1 v0_2 v0_3 v0_4=>K (Ex.ret) (qlb v0_0 v0_1 v0_2 v0_3 v0_4)) (fun v1_0 v1_1 v1_2 v1_3=>K (Ex.exit 2) (qla v1_0 v1_1 v1_2 v1_3)) m:=by funext x1_0 x1_1 x1_2 x1_3 x1_4;exact q0c D n K m x1_0 x1_1 x1_2 x1_3 x1_4
  rw[qbar]
  rw[ih];rfl
theorem q8n (D:DX)(n:Nat) (m:Nat) (K:Ex→St→Option (Out ctx 74)) (v0_0:List Int) (v0_1:Int) (v0_2:Bool) (v0_3:Int) (v0_4:tSch) :
 (CQ qc D n 74 [.r,.l,.r,.l,.l] [.r,.l,.l,.r,.r,.l] (LK qc D n 74 [.r,.l,.r,.l] m K)) (Ex.ret) (qlb v0_0 v0_1 v0_2 v0_3 v0_4)=qxe D n (fun x0 x1 x2 x3=>LQ qc D n 74 [.r,.l,.r,.l] m (qdy x0 x1 x2 x3) K) (fun v0_0 v0_1 v0_2=>K (Ex.ret) (qes v0_0 v0_1 v0_2)) (fun v1_0 v1_1=>K (Ex.exit 0) (qey v1_0 v1_1)) v0_0 v0_1 v0_2 v0_3 v0_4:=by kernel_rfl
theorem q85 (D:DX)(n:Nat) (m:Nat) (K:Ex→St→Option (Out ctx 74)) (v1_0:List Int) (v1_1:Int) (v1_2:Int) (v1_3:tSch) :
 (CQ qc D n 74 [.r,.l,.r,.l,.l] [.r,.l,.l,.r,.r,.l] (LK qc D n 74 [.r,.l,.r,.l] m K)) (Ex.exit 2) (qla v1_0 v1_1 v1_2 v1_3)=qqc D n (fun x0 x1 x2 x3=>LQ qc D n 74 [.r,.l,.r,.l] m (qdy x0 x1 x2 x3) K) (fun v0_0 v0_1 v0_2=>K (Ex.ret) (qes v0_0 v0_1 v0_2)) (fun v1_0 v1_1=>K (Ex.exit 0) (qey v1_0 v1_1)) v1_0 v1_1 v1_2 v1_3:=by kernel_rfl
theorem q8j (D:DX)(n:Nat) (m:Nat) (K:Ex→St→Option (Out ctx 74)) (x1_0:List Int) (x1_1:Int) (x1_2:Int) (x1_3:Int) (x1_4:tSch) :
 LQ qc D n 74 [.r,.l,.r,.l,.l,.r,.l,.l,.r,.r,.l] n (qhw x1_0 x1_1 x1_2 x1_3 x1_4) (CQ qc D n 74 [.r,.l,.r,.l,.l] [.r,.l,.l,.r,.r,.l] (LK qc D n 74 [.r,.l,.r,.l] m K))=qsf D n (fun x0 x1 x2 x3=>LQ qc D n 74 [.r,.l,.r,.l] m (qdy x0 x1 x2 x3) K) (fun v0_0 v0_1 v0_2=>K (Ex.ret) (qes v0_0 v0_1 v0_2)) (fun v1_0 v1_1=>K (Ex.exit 0) (qey v1_0 v1_1)) x1_0 x1_1 x1_2 x1_3 x1_4:=by
 rw[q0c]
 simp only[q8n,q85]
 rfl
theorem qbam (D:DX)(n:Nat) (m:Nat) (K:Ex→St→Option (Out ctx 74)) (x0:List Int) (x1:Int) (x2:Int) (x3:tSch) :
 LQ qc D n 74 [.r,.l,.r,.l] (m+1) (qdy x0 x1 x2 x3) K=qto D n (fun x0 x1 x2 x3=>LQ qc D n 74 [.r,.l,.r,.l] m (qdy x0 x1 x2 x3) K) (fun v0_0 v0_1 v0_2=>K (Ex.ret) (qes v0_0 v0_1 v0_2)) (fun v1_0 v1_1=>K (Ex.exit 0) (qey v1_0 v1_1)) (fun x1_0 x1_1 x1_2 x1_3 x1_4=>LQ qc D n 74 [.r,.l,.r,.l,.l,.r,.l,.l,.r,.r,.l] n (qhw x1_0 x1_1 x1_2 x1_3 x1_4) (CQ qc D n 74 [.r,.l,.r,.l,.l] [.r,.l,.l,.r,.r,.l] (LK qc D n 74 [.r,.l,.r,.l] m K))) x0 x1 x2 x3:=by kernel_rfl
theorem qzn (D:DX)(n:Nat) (K:Ex→St→Option (Out ctx 74)):∀ (m:Nat) (x0:List Int) (x1:Int) (x2:Int) (x3:tSch),LQ qc D n 74 [.r,.l,.r,.l] m (qdy x0 x1 x2 x3) K=qer D n (fun v0_0 v0_1 v0_2=>K (Ex.ret) (qes v0_0 v0_1 v0_2)) (fun v1_0 v1_1=>K (Ex.exit 0) (qey v1_0 v1_1)) m x0 x1 x2 x3
 | 0,x0,x1,x2,x3=>qx ..
 | m+1,x0,x1,x2,x3=>by
  have ih:(fun x0 x1 x2 x3=>LQ qc D n 74 [.r,.l,.r,.l] m (qdy x0 x1 x2 x3) K)=qer D n (fun v0_0 v0_1 v0_2=>K (Ex.ret) (qes v0_0 v0_1 v0_2)) (fun v1_0 v1_1=>K (Ex.exit 0) (qey v1_0 v1_1)) m:=by funext x0 x1 x2 x3;exact qzn D n K m x0 x1 x2 x3
  rw[qbam]
  simp only[q8j]
  rw[ih];rfl
theorem q80 (D:DX)(n:Nat) (v0_0:List Int) (v0_1:Int) (v0_2:Bool) :
 (CQ qc D n 74 [] [.r,.l,.r,.l] (qi qc 74)) (Ex.ret) (qes v0_0 v0_1 v0_2)=qp4 D n v0_0 v0_1 v0_2:=by kernel_rfl
theorem q8h (D:DX)(n:Nat) (v1_0:List Int) (v1_1:Int) :
 (CQ qc D n 74 [] [.r,.l,.r,.l] (qi qc 74)) (Ex.exit 0) (qey v1_0 v1_1)=qlj D n v1_0 v1_1:=by kernel_rfl
theorem q84 (D:DX)(n:Nat) (x0:List Int) (x1:Int) (x2:Int) (x3:tSch) :
 LQ qc D n 74 [.r,.l,.r,.l] n (qdy x0 x1 x2 x3) (CQ qc D n 74 [] [.r,.l,.r,.l] (qi qc 74))=qr1 D n x0 x1 x2 x3:=by
 rw[qzn]
 simp only[q80,q8h]
 rfl
theorem qbei (D:DX)(n:Nat) (a0:tSch) (a1:List Int) (a2:Int):rfC qc D n 74 (a0,(a1,(a2,())))=qus D n a0 a1 a2:=by
 have h:rfC qc D n 74 (a0,(a1,(a2,())))=qt7 D n (fun x0 x1 x2 x3=>LQ qc D n 74 [.r,.l,.r,.l] n (qdy x0 x1 x2 x3) (CQ qc D n 74 [] [.r,.l,.r,.l] (qi qc 74))) a0 a1 a2:=by kernel_rfl
 rw[h]
 simp only[q84]
 rfl

def qr9 (D:DX)(n:Nat) (go:Int→Int→tSch→ByteArray×List Int×Bool×Unit→Option ((Bool×Unit)×Unit)) (K0:Bool→Int→tSch→Option ((Bool×Unit)×Unit)) (K1:Int→tSch→Option ((Bool×Unit)×Unit)) (x1_0:Int) (x1_1:Int) (x1_2:tSch) (x1_3:ByteArray×List Int×Bool×Unit):Option ((Bool×Unit)×Unit):=br (decide (x1_1<x1_0)) (br (decide (0≤x1_1)&&decide (x1_1<(↑(List.length (Prod.fst (Prod.snd (Prod.snd x1_2)))):Int))) (br (List.beq (ByteArray.toList (Prod.fst (List.getD (Prod.fst (Prod.snd (Prod.snd x1_2))) (Int.toNat x1_1) (ByteArray.empty,[],false,())))) (ByteArray.toList (Prod.fst x1_3))) (K0 false x1_0 x1_2) (go x1_0 (IntKind.wrap IntKind.i64 (x1_1+1)) x1_2 x1_3)) none) (K1 x1_0 x1_2)
def qg1 (D:DX)(n:Nat) (K0:Bool→Int→tSch→Option ((Bool×Unit)×Unit)) (K1:Int→tSch→Option ((Bool×Unit)×Unit)):Nat→(Int)→(Int)→(tSch)→tIx→Option ((Bool×Unit)×Unit) | 0=>(fun x1_0 x1_1 x1_2 x1_3=>none) | m+1=>(fun x1_0 x1_1 x1_2 x1_3=>qr9 D n (qg1 D n K0 K1 m) K0 K1 x1_0 x1_1 x1_2 x1_3)
def qw1 (D:DX)(n:Nat) (go:Int→tSch→Option ((Bool×Unit)×Unit)) (K0:Bool→tSch→Option ((Bool×Unit)×Unit)) (K1:tSch→Option ((Bool×Unit)×Unit)) (v0_0:Bool) (v0_1:Int) (v0_2:tSch):Option ((Bool×Unit)×Unit):=K0 v0_0 v0_2
def qos (D:DX)(n:Nat) (go:Int→tSch→Option ((Bool×Unit)×Unit)) (K0:Bool→tSch→Option ((Bool×Unit)×Unit)) (K1:tSch→Option ((Bool×Unit)×Unit)) (v1_0:Int) (v1_1:tSch):Option ((Bool×Unit)×Unit):=go (IntKind.wrap IntKind.i64 (v1_0+1)) v1_1
def qp9 (D:DX)(n:Nat) (go:Int→tSch→Option ((Bool×Unit)×Unit)) (K0:Bool→tSch→Option ((Bool×Unit)×Unit)) (K1:tSch→Option ((Bool×Unit)×Unit)):(Int)→(Int)→(tSch)→tIx→Option ((Bool×Unit)×Unit):=(fun x1_0 x1_1 x1_2 x1_3=>qg1 D n (fun v0_0 v0_1 v0_2=>qw1 D n go K0 K1 v0_0 v0_1 v0_2) (fun v1_0 v1_1=>qos D n go K0 K1 v1_0 v1_1) n x1_0 x1_1 x1_2 x1_3)
def qrn (D:DX)(n:Nat) (go:Int→tSch→Option ((Bool×Unit)×Unit)) (K0:Bool→tSch→Option ((Bool×Unit)×Unit)) (K1:tSch→Option ((Bool×Unit)×Unit)) (lp1:Int→Int→tSch→ByteArray×List Int×Bool×Unit→Option ((Bool×Unit)×Unit)) (x0:Int) (x1:tSch):Option ((Bool×Unit)×Unit):=br (decide (x0<(↑(List.length (Prod.fst (Prod.snd (Prod.snd x1)))):Int))) (br (decide (0≤x0)&&decide (x0<(↑(List.length (Prod.fst (Prod.snd (Prod.snd x1)))):Int))) (qh (qoo D (Prod.fst (List.getD (Prod.fst (Prod.snd (Prod.snd x1))) (Int.toNat x0) (ByteArray.empty,[],false,())))) fun b↦br (!Prod.fst (Prod.fst b)) (K0 false x1) (qh (qo4 D x1 (Prod.fst (Prod.snd (List.getD (Prod.fst (Prod.snd (Prod.snd x1))) (Int.toNat x0) (ByteArray.empty,[],false,())))) 3) fun b↦br (!Prod.fst (Prod.fst b)) (K0 false x1) (lp1 x0 0 x1 (List.getD (Prod.fst (Prod.snd (Prod.snd x1))) (Int.toNat x0) (ByteArray.empty,[],false,()))))) none) (K1 x1)
def qeb (D:DX)(n:Nat) (K0:Bool→tSch→Option ((Bool×Unit)×Unit)) (K1:tSch→Option ((Bool×Unit)×Unit)):Nat→(Int)→(tSch)→Option ((Bool×Unit)×Unit) | 0=>(fun x0 x1=>none) | m+1=>(fun x0 x1=>qrn D n (qeb D n K0 K1 m) K0 K1 (qp9 D n (qeb D n K0 K1 m) K0 K1) x0 x1)
def qom (D:DX)(n:Nat) (v0_0:Bool) (v0_1:tSch):Option ((Bool×Unit)×Unit):=some ((v0_0,()),())
def qow (D:DX)(n:Nat) (v1_0:tSch):Option ((Bool×Unit)×Unit):=some ((decide ((↑(List.length (Prod.fst (Prod.snd (Prod.snd v1_0)))):Int)≤3),()),())
def qqe (D:DX)(n:Nat):(Int)→(tSch)→Option ((Bool×Unit)×Unit):=(fun x0 x1=>qeb D n (fun v0_0 v0_1=>qom D n v0_0 v0_1) (fun v1_0=>qow D n v1_0) n x0 x1)
def qs5 (D:DX)(n:Nat) (lp0:Int→tSch→Option ((Bool×Unit)×Unit)) (a0:tSch):Option ((Bool×Unit)×Unit):=lp0 0 a0
def qtm (D:DX)(n:Nat) (a0:tSch):Option ((Bool×Unit)×Unit):=qs5 D n (qqe D n) a0
def qdp (x0:Int) (x1:tSch):St:=stq 47 [(1,AV.addr 1 []),(3,avI x0)] [(1,Root.mk yS Mk.no x1 true)] 
def qeh (v0_0:Bool) (v0_1:tSch):St:=stq 47 [(1,AV.addr 1 []),(2,AV.val Ty.bool v0_0)] [(1,Root.mk yS Mk.no v0_1 true)] 
def qei (v1_0:tSch):St:=stq 47 [(1,AV.addr 1 [])] [(1,Root.mk yS Mk.no v1_0 true)] 
def qg7 (x1_0:Int) (x1_1:Int) (x1_2:tSch) (x1_3:ByteArray×List Int×Bool×Unit):St:=stq 47 [(1,AV.addr 1 []),(3,avI x1_0),(4,AV.addr 4 []),(5,avI x1_1)] [(1,Root.mk yS Mk.no x1_2 true),(4,Root.mk yX Mk.no x1_3 true)] 
def qkd (v0_0:Bool) (v0_1:Int) (v0_2:tSch):St:=stq 47 [(1,AV.addr 1 []),(2,AV.val Ty.bool v0_0),(3,avI v0_1)] [(1,Root.mk yS Mk.no v0_2 true)] 
def qki (v1_0:Int) (v1_1:tSch):St:=stq 47 [(1,AV.addr 1 []),(3,avI v1_0)] [(1,Root.mk yS Mk.no v1_1 true)] 
theorem q82 (D:DX)(n:Nat) (m:Nat) (K:Ex→St→Option (Out ctx 75)) (x1_0:Int) (x1_1:Int) (x1_2:tSch) (x1_3:ByteArray×List Int×Bool×Unit) :
 LQ qc D n 75 [.r,.l,.r,.l,.l,.r,.l,.l,.r,.r,.r,.l] (m+1) (qg7 x1_0 x1_1 x1_2 x1_3) K=qr9 D n (fun x1_0 x1_1 x1_2 x1_3=>LQ qc D n 75 [.r,.l,.r,.l,.l,.r,.l,.l,.r,.r,.r,.l] m (qg7 x1_0 x1_1 x1_2 x1_3) K) (fun v0_0 v0_1 v0_2=>K (Ex.ret) (qkd v0_0 v0_1 v0_2)) (fun v1_0 v1_1=>K (Ex.exit 2) (qki v1_0 v1_1)) x1_0 x1_1 x1_2 x1_3:=by kernel_rfl
theorem qxa (D:DX)(n:Nat) (K:Ex→St→Option (Out ctx 75)):∀ (m:Nat) (x1_0:Int) (x1_1:Int) (x1_2:tSch) (x1_3:ByteArray×List Int×Bool×Unit),LQ qc D n 75 [.r,.l,.r,.l,.l,.r,.l,.l,.r,.r,.r,.l] m (qg7 x1_0 x1_1 x1_2 x1_3) K=qg1 D n (fun v0_0 v0_1 v0_2=>K (Ex.ret) (qkd v0_0 v0_1 v0_2)) (fun v1_0 v1_1=>K (Ex.exit 2) (qki v1_0 v1_1)) m x1_0 x1_1 x1_2 x1_3
 | 0,x1_0,x1_1,x1_2,x1_3=>qx ..
 | m+1,x1_0,x1_1,x1_2,x1_3=>by
  have ih:(fun x1_0 x1_1 x1_2 x1_3=>LQ qc D n 75 [.r,.l,.r,.l,.l,.r,.l,.l,.r,.r,.r,.l] m (qg7 x1_0 x1_1 x1_2 x1_3) K)=qg1 D n (fun v0_0 v0_1 v0_2=>K (Ex.ret) (qkd v0_0 v0_1 v0_2)) (fun v1_0 v1_1=>K (Ex.exit 2) (qki v1_0 v1_1)) m:=by funext x1_0 x1_1 x1_2 x1_3;exact qxa D n K m x1_0 x1_1 x1_2 x1_3
  rw[q82]
  rw[ih];rfl
theorem q6q (D:DX)(n:Nat) (m:Nat) (K:Ex→St→Option (Out ctx 75)) (v0_0:Bool) (v0_1:Int) (v0_2:tSch) :
 (CQ qc D n 75 [.r,.l,.r,.l,.l] [.r,.l,.l,.r,.r,.r,.l] (LK qc D n 75 [.r,.l,.r,.l] m K)) (Ex.ret) (qkd v0_0 v0_1 v0_2)=qw1 D n (fun x0 x1=>LQ qc D n 75 [.r,.l,.r,.l] m (qdp x0 x1) K) (fun v0_0 v0_1=>K (Ex.ret) (qeh v0_0 v0_1)) (fun v1_0=>K (Ex.exit 0) (qei v1_0)) v0_0 v0_1 v0_2:=by kernel_rfl
theorem q7l (D:DX)(n:Nat) (m:Nat) (K:Ex→St→Option (Out ctx 75)) (v1_0:Int) (v1_1:tSch) :
 (CQ qc D n 75 [.r,.l,.r,.l,.l] [.r,.l,.l,.r,.r,.r,.l] (LK qc D n 75 [.r,.l,.r,.l] m K)) (Ex.exit 2) (qki v1_0 v1_1)=qos D n (fun x0 x1=>LQ qc D n 75 [.r,.l,.r,.l] m (qdp x0 x1) K) (fun v0_0 v0_1=>K (Ex.ret) (qeh v0_0 v0_1)) (fun v1_0=>K (Ex.exit 0) (qei v1_0)) v1_0 v1_1:=by kernel_rfl
theorem q7q (D:DX)(n:Nat) (m:Nat) (K:Ex→St→Option (Out ctx 75)) (x1_0:Int) (x1_1:Int) (x1_2:tSch) (x1_3:ByteArray×List Int×Bool×Unit) :
 LQ qc D n 75 [.r,.l,.r,.l,.l,.r,.l,.l,.r,.r,.r,.l] n (qg7 x1_0 x1_1 x1_2 x1_3) (CQ qc D n 75 [.r,.l,.r,.l,.l] [.r,.l,.l,.r,.r,.r,.l] (LK qc D n 75 [.r,.l,.r,.l] m K))=qp9 D n (fun x0 x1=>LQ qc D n 75 [.r,.l,.r,.l] m (qdp x0 x1) K) (fun v0_0 v0_1=>K (Ex.ret) (qeh v0_0 v0_1)) (fun v1_0=>K (Ex.exit 0) (qei v1_0)) x1_0 x1_1 x1_2 x1_3:=by
 rw[qxa]
 simp only[q6q,q7l]
 rfl
theorem q8r (D:DX)(n:Nat) (m:Nat) (K:Ex→St→Option (Out ctx 75)) (x0:Int) (x1:tSch) :
 LQ qc D n 75 [.r,.l,.r,.l] (m+1) (qdp x0 x1) K=qrn D n (fun x0 x1=>LQ qc D n 75 [.r,.l,.r,.l] m (qdp x0 x1) K) (fun v0_0 v0_1=>K (Ex.ret) (qeh v0_0 v0_1)) (fun v1_0=>K (Ex.exit 0) (qei v1_0)) (fun x1_0 x1_1 x1_2 x1_3=>LQ qc D n 75 [.r,.l,.r,.l,.l,.r,.l,.l,.r,.r,.r,.l] n (qg7 x1_0 x1_1 x1_2 x1_3) (CQ qc D n 75 [.r,.l,.r,.l,.l] [.r,.l,.l,.r,.r,.r,.l] (LK qc D n 75 [.r,.l,.r,.l] m K))) x0 x1:=by kernel_rfl
theorem qxj (D:DX)(n:Nat) (K:Ex→St→Option (Out ctx 75)):∀ (m:Nat) (x0:Int) (x1:tSch),LQ qc D n 75 [.r,.l,.r,.l] m (qdp x0 x1) K=qeb D n (fun v0_0 v0_1=>K (Ex.ret) (qeh v0_0 v0_1)) (fun v1_0=>K (Ex.exit 0) (qei v1_0)) m x0 x1
 | 0,x0,x1=>qx ..
 | m+1,x0,x1=>by
  have ih:(fun x0 x1=>LQ qc D n 75 [.r,.l,.r,.l] m (qdp x0 x1) K)=qeb D n (fun v0_0 v0_1=>K (Ex.ret) (qeh v0_0 v0_1)) (fun v1_0=>K (Ex.exit 0) (qei v1_0)) m:=by funext x0 x1;exact qxj D n K m x0 x1
  rw[q8r]
  simp only[q7q]
  rw[ih];rfl
theorem q7n (D:DX)(n:Nat) (v0_0:Bool) (v0_1:tSch) :
 (CQ qc D n 75 [] [.r,.l,.r,.l] (qi qc 75)) (Ex.ret) (qeh v0_0 v0_1)=qom D n v0_0 v0_1:=by kernel_rfl
theorem q65 (D:DX)(n:Nat) (v1_0:tSch) :
 (CQ qc D n 75 [] [.r,.l,.r,.l] (qi qc 75)) (Ex.exit 0) (qei v1_0)=qow D n v1_0:=by kernel_rfl
theorem q68 (D:DX)(n:Nat) (x0:Int) (x1:tSch) :
 LQ qc D n 75 [.r,.l,.r,.l] n (qdp x0 x1) (CQ qc D n 75 [] [.r,.l,.r,.l] (qi qc 75))=qqe D n x0 x1:=by
 rw[qxj]
 simp only[q7n,q65]
 rfl
theorem qbbw (D:DX)(n:Nat) (a0:tSch):rfC qc D n 75 (a0,())=qtm D n a0:=by
 have h:rfC qc D n 75 (a0,())=qs5 D n (fun x0 x1=>LQ qc D n 75 [.r,.l,.r,.l] n (qdp x0 x1) (CQ qc D n 75 [] [.r,.l,.r,.l] (qi qc 75))) a0:=by kernel_rfl
 rw[h]
 simp only[q68]
 rfl




def qbc0 (D:DX)(n:Nat) (a0:Int) (a1:Int) (a2:Int):Option ((Bool×Unit)×Unit):=some ((bif decide (a0≥a1) then decide (a0≤a2) else false,()),())
def q41 (D:DX)(n:Nat) (a0:Int) (a1:Int) (a2:Int):Option ((Bool×Unit)×Unit):=qbc0 D n a0 a1 a2
theorem qbm8 (D:DX)(n:Nat) (a0:Int) (a1:Int) (a2:Int):rfC qc D n 79 (a0,(a1,(a2,())))=q41 D n a0 a1 a2:=by kernel_rfl

def quc (D:DX)(n:Nat) (go:List Int→Int→List Int→Int→Int→tSch→Option ((Bool×Unit)×Unit)) (K0:List Int→Int→Bool→Option ((Bool×Unit)×Unit)) (K1:List Int→Int→Option ((Bool×Unit)×Unit)) (x0:List Int) (x1:Int) (x2:List Int) (x3:Int) (x4:Int) (x5:tSch):Option ((Bool×Unit)×Unit):=br (decide (x4<x3)) (br (decide (0≤x4)&&decide (x4<(↑(List.length x2):Int))) (qh (qgd D (List.getD x2 (Int.toNat x4) 0) 0 (IntKind.wrap IntKind.i64 ((↑(List.length (Prod.fst x5)):Int) - 1))) fun b↦br (!Prod.fst (Prod.fst b)) (K0 x0 x1 false) (br (decide (0≤0)&&decide (0≤x4)&&decide (x4≤(↑(List.length x0):Int))) (qh (qkk D (List.drop (Int.toNat 0) (List.take (Int.toNat x4) x0)) (List.getD x2 (Int.toNat x4) 0)) fun b↦br (Prod.fst (Prod.fst b)) (K0 x0 x1 false) (go x0 x1 x2 x3 (IntKind.wrap IntKind.i64 (x4+1)) x5)) none)) none) (K1 x0 x1)
def qi3 (D:DX)(n:Nat) (K0:List Int→Int→Bool→Option ((Bool×Unit)×Unit)) (K1:List Int→Int→Option ((Bool×Unit)×Unit)):Nat→(List Int)→(Int)→(List Int)→(Int)→(Int)→(tSch)→Option ((Bool×Unit)×Unit) | 0=>(fun x0 x1 x2 x3 x4 x5=>none) | m+1=>(fun x0 x1 x2 x3 x4 x5=>quc D n (qi3 D n K0 K1 m) K0 K1 x0 x1 x2 x3 x4 x5)
def qzs (D:DX)(n:Nat) (v0_0:List Int) (v0_1:Int) (v0_2:Bool):Option ((Bool×Unit)×Unit):=some ((v0_2,()),())
def qri (D:DX)(n:Nat) (v1_0:List Int) (v1_1:Int):Option ((Bool×Unit)×Unit):=qh (qgd D (↑(List.length v1_0):Int) 1 v1_1) fun b↦some ((Prod.fst (Prod.fst b),()),())
def qs1 (D:DX)(n:Nat):(List Int)→(Int)→(List Int)→(Int)→(Int)→(tSch)→Option ((Bool×Unit)×Unit):=(fun x0 x1 x2 x3 x4 x5=>qi3 D n (fun v0_0 v0_1 v0_2=>qzs D n v0_0 v0_1 v0_2) (fun v1_0 v1_1=>qri D n v1_0 v1_1) n x0 x1 x2 x3 x4 x5)
def qwf (D:DX)(n:Nat) (lp0:List Int→Int→List Int→Int→Int→tSch→Option ((Bool×Unit)×Unit)) (a0:tSch) (a1:List Int) (a2:Int):Option ((Bool×Unit)×Unit):=lp0 a1 a2 a1 (↑(List.length a1):Int) 0 a0
def qwa (D:DX)(n:Nat) (a0:tSch) (a1:List Int) (a2:Int):Option ((Bool×Unit)×Unit):=qwf D n (qs1 D n) a0 a1 a2
def qir (x0:List Int) (x1:Int) (x2:List Int) (x3:Int) (x4:Int) (x5:tSch):St:=stq 35 [(1,AV.val (Ty.sl yI) x0),(2,avI x1),(3,AV.addr 3 []),(9,AV.val (Ty.sl yI) x2),(10,avI x3),(11,avI x4)] [(3,Root.mk yS Mk.no x5 true)] 
def qmg (v0_0:List Int) (v0_1:Int) (v0_2:Bool):St:=stq 35 [(1,AV.val (Ty.sl yI) v0_0),(2,avI v0_1),(6,AV.val Ty.bool v0_2)] [] 
def ql9 (v1_0:List Int) (v1_1:Int):St:=stq 35 [(1,AV.val (Ty.sl yI) v1_0),(2,avI v1_1)] [] 
theorem qbbk (D:DX)(n:Nat) (m:Nat) (K:Ex→St→Option (Out ctx 80)) (x0:List Int) (x1:Int) (x2:List Int) (x3:Int) (x4:Int) (x5:tSch) :
 LQ qc D n 80 [.r,.l,.r,.l] (m+1) (qir x0 x1 x2 x3 x4 x5) K=quc D n (fun x0 x1 x2 x3 x4 x5=>LQ qc D n 80 [.r,.l,.r,.l] m (qir x0 x1 x2 x3 x4 x5) K) (fun v0_0 v0_1 v0_2=>K (Ex.ret) (qmg v0_0 v0_1 v0_2)) (fun v1_0 v1_1=>K (Ex.exit 0) (ql9 v1_0 v1_1)) x0 x1 x2 x3 x4 x5:=by kernel_rfl
theorem q1f (D:DX)(n:Nat) (K:Ex→St→Option (Out ctx 80)):∀ (m:Nat) (x0:List Int) (x1:Int) (x2:List Int) (x3:Int) (x4:Int) (x5:tSch),LQ qc D n 80 [.r,.l,.r,.l] m (qir x0 x1 x2 x3 x4 x5) K=qi3 D n (fun v0_0 v0_1 v0_2=>K (Ex.ret) (qmg v0_0 v0_1 v0_2)) (fun v1_0 v1_1=>K (Ex.exit 0) (ql9 v1_0 v1_1)) m x0 x1 x2 x3 x4 x5
 | 0,x0,x1,x2,x3,x4,x5=>qx ..
 | m+1,x0,x1,x2,x3,x4,x5=>by
  have ih:(fun x0 x1 x2 x3 x4 x5=>LQ qc D n 80 [.r,.l,.r,.l] m (qir x0 x1 x2 x3 x4 x5) K)=qi3 D n (fun v0_0 v0_1 v0_2=>K (Ex.ret) (qmg v0_0 v0_1 v0_2)) (fun v1_0 v1_1=>K (Ex.exit 0) (ql9 v1_0 v1_1)) m:=by funext x0 x1 x2 x3 x4 x5;exact q1f D n K m x0 x1 x2 x3 x4 x5
  rw[qbbk]
  rw[ih];rfl
theorem q97 (D:DX)(n:Nat) (v0_0:List Int) (v0_1:Int) (v0_2:Bool) :
 (CQ qc D n 80 [] [.r,.l,.r,.l] (qi qc 80)) (Ex.ret) (qmg v0_0 v0_1 v0_2)=qzs D n v0_0 v0_1 v0_2:=by kernel_rfl
theorem q92 (D:DX)(n:Nat) (v1_0:List Int) (v1_1:Int) :
 (CQ qc D n 80 [] [.r,.l,.r,.l] (qi qc 80)) (Ex.exit 0) (ql9 v1_0 v1_1)=qri D n v1_0 v1_1:=by kernel_rfl
theorem q91 (D:DX)(n:Nat) (x0:List Int) (x1:Int) (x2:List Int) (x3:Int) (x4:Int) (x5:tSch) :
 LQ qc D n 80 [.r,.l,.r,.l] n (qir x0 x1 x2 x3 x4 x5) (CQ qc D n 80 [] [.r,.l,.r,.l] (qi qc 80))=qs1 D n x0 x1 x2 x3 x4 x5:=by
 rw[q1f]
 simp only[q97,q92]
 rfl
theorem qbe0 (D:DX)(n:Nat) (a0:tSch) (a1:List Int) (a2:Int):rfC qc D n 80 (a0,(a1,(a2,())))=qwa D n a0 a1 a2:=by
 have h:rfC qc D n 80 (a0,(a1,(a2,())))=qwf D n (fun x0 x1 x2 x3 x4 x5=>LQ qc D n 80 [.r,.l,.r,.l] n (qir x0 x1 x2 x3 x4 x5) (CQ qc D n 80 [] [.r,.l,.r,.l] (qi qc 80))) a0 a1 a2:=by kernel_rfl
 rw[h]
 simp only[q91]
 rfl

def qgo (D:DX)(n:Nat) (a1:Clo) (a0:tIxs):Option ((Bool×Unit)×Unit):=qh (qel D a0 a1) fun b↦some ((decide (Prod.fst (Prod.fst b)≥0),()),())
def qdu (D:DX)(n:Nat) (a0:tIxs) (a1:Clo):Option ((Bool×Unit)×Unit):=qgo D n a1 a0
theorem qnh (D:DX)(n:Nat) (a0:tIxs) (a1:Clo):rfC qc D n 81 (a0,(a1,()))=qdu D n a0 a1:=by kernel_rfl

def q1n (D:DX)(n:Nat) (a0:ByteArray×List Int×Bool×Unit) (a1:ByteArray×List Int×Bool×Unit):Option ((Bool×Unit)×Unit):=some ((List.beq (ByteArray.toList (Prod.fst a0)) (ByteArray.toList (Prod.fst a1)),()),())
def qs6 (D:DX)(n:Nat) (a0:ByteArray×List Int×Bool×Unit) (a1:ByteArray×List Int×Bool×Unit):Option ((Bool×Unit)×Unit):=q1n D n a0 a1
theorem qbb0 (D:DX)(n:Nat) (a0:ByteArray×List Int×Bool×Unit) (a1:ByteArray×List Int×Bool×Unit):rfC qc D n 82 (a0,(a1,()))=qs6 D n a0 a1:=by kernel_rfl

def qnb (D:DX)(n:Nat) (a1:Clo) (a0:List Int):Option ((Bool×Unit)×Unit):=qh (qj5 D a0 a1) fun b↦some ((decide (Prod.fst (Prod.fst b)≥0),()),())
def qh9 (D:DX)(n:Nat) (a0:List Int) (a1:Clo):Option ((Bool×Unit)×Unit):=qnb D n a1 a0
theorem qw6 (D:DX)(n:Nat) (a0:List Int) (a1:Clo):rfC qc D n 83 (a0,(a1,()))=qh9 D n a0 a1:=by kernel_rfl

def q1i (D:DX)(n:Nat) (a0:Int) (a1:tSch):Option ((Bool×Unit)×Unit):=br (decide (0≤a0)&&decide (a0<(↑(List.length (Prod.fst a1)):Int))) (some ((Prod.fst (Prod.snd (Prod.snd (List.getD (Prod.fst a1) (Int.toNat a0) (ByteArray.empty,0,false,())))),()),())) none
def qtn (D:DX)(n:Nat) (a0:Int) (a1:tSch):Option ((Bool×Unit)×Unit):=q1i D n a0 a1
theorem qbbq (D:DX)(n:Nat) (a0:Int) (a1:tSch):rfC qc D n 84 (a0,(a1,()))=qtn D n a0 a1:=by kernel_rfl




def q0u (D:DX)(n:Nat) (go:List Int→Int→Int→Option ((tCur×Unit)×Unit)) (K0:List Int→Int→Option ((tCur×Unit)×Unit)) (x0:List Int) (x1:Int) (x2:Int):Option ((tCur×Unit)×Unit):=br (bif decide (x2<(↑(List.length x0):Int)) then decide (x2<4000) else false) (br (decide (0≤x2)&&decide (x2<(↑(List.length x0):Int))) (go x0 (IntKind.wrap IntKind.i64 (↑(BitVec.toNat (BitVec.and (BitVec.ofInt (IntKind.bits IntKind.i64) (IntKind.wrap IntKind.i64 (IntKind.wrap IntKind.i64 (IntKind.wrap IntKind.i64 (x1 * 131)+IntKind.wrap IntKind.i64 (List.getD x0 (Int.toNat x2) 0))+7))) (BitVec.ofInt (IntKind.bits IntKind.i64) 1073741823))):Int)) (IntKind.wrap IntKind.i64 (x2+1))) none) (K0 x0 x1)
def qlt (D:DX)(n:Nat) (K0:List Int→Int→Option ((tCur×Unit)×Unit)):Nat→(List Int)→(Int)→(Int)→Option ((tCur×Unit)×Unit) | 0=>(fun x0 x1 x2=>none) | m+1=>(fun x0 x1 x2=>q0u D n (qlt D n K0 m) K0 x0 x1 x2)
def qvp (D:DX)(n:Nat) (v0_0:List Int) (v0_1:Int):Option ((tCur×Unit)×Unit):=some (((v0_0,0,v0_1,()),()),())
def qy6 (D:DX)(n:Nat):(List Int)→(Int)→(Int)→Option ((tCur×Unit)×Unit):=(fun x0 x1 x2=>qlt D n (fun v0_0 v0_1=>qvp D n v0_0 v0_1) n x0 x1 x2)
def q3h (D:DX)(n:Nat) (lp0:List Int→Int→Int→Option ((tCur×Unit)×Unit)) (a0:List Int):Option ((tCur×Unit)×Unit):=lp0 a0 (IntKind.wrap IntKind.i64 (27323+(↑(List.length a0):Int))) 0
def q3z (D:DX)(n:Nat) (a0:List Int):Option ((tCur×Unit)×Unit):=q3h D n (qy6 D n) a0
def qln (x0:List Int) (x1:Int) (x2:Int):St:=stq 32 [(0,AV.val (Ty.sl (Ty.int IntKind.u8)) x0),(3,avI x1),(4,avI x2)] [] 
def qq3 (v0_0:List Int) (v0_1:Int):St:=stq 32 [(0,AV.val (Ty.sl (Ty.int IntKind.u8)) v0_0),(3,avI v0_1)] [] 
theorem qbh8 (D:DX)(n:Nat) (m:Nat) (K:Ex→St→Option (Out ctx 88)) (x0:List Int) (x1:Int) (x2:Int) :
 LQ qc D n 88 [.r,.r,.l,.r,.l] (m+1) (qln x0 x1 x2) K=q0u D n (fun x0 x1 x2=>LQ qc D n 88 [.r,.r,.l,.r,.l] m (qln x0 x1 x2) K) (fun v0_0 v0_1=>K (Ex.exit 0) (qq3 v0_0 v0_1)) x0 x1 x2:=by kernel_rfl
theorem q51 (D:DX)(n:Nat) (K:Ex→St→Option (Out ctx 88)):∀ (m:Nat) (x0:List Int) (x1:Int) (x2:Int),LQ qc D n 88 [.r,.r,.l,.r,.l] m (qln x0 x1 x2) K=qlt D n (fun v0_0 v0_1=>K (Ex.exit 0) (qq3 v0_0 v0_1)) m x0 x1 x2
 | 0,x0,x1,x2=>qx ..
 | m+1,x0,x1,x2=>by
  have ih:(fun x0 x1 x2=>LQ qc D n 88 [.r,.r,.l,.r,.l] m (qln x0 x1 x2) K)=qlt D n (fun v0_0 v0_1=>K (Ex.exit 0) (qq3 v0_0 v0_1)) m:=by funext x0 x1 x2;exact q51 D n K m x0 x1 x2
  rw[qbh8]
  rw[ih];rfl
theorem qbfr (D:DX)(n:Nat) (v0_0:List Int) (v0_1:Int) :
 (CQ qc D n 88 [] [.r,.r,.l,.r,.l] (qi qc 88)) (Ex.exit 0) (qq3 v0_0 v0_1)=qvp D n v0_0 v0_1:=by kernel_rfl
theorem qbfe (D:DX)(n:Nat) (x0:List Int) (x1:Int) (x2:Int) :
 LQ qc D n 88 [.r,.r,.l,.r,.l] n (qln x0 x1 x2) (CQ qc D n 88 [] [.r,.r,.l,.r,.l] (qi qc 88))=qy6 D n x0 x1 x2:=by
 rw[q51]
 simp only[qbfr]
 rfl
theorem qbln (D:DX)(n:Nat) (a0:List Int):rfC qc D n 88 (a0,())=q3z D n a0:=by
 have h:rfC qc D n 88 (a0,())=q3h D n (fun x0 x1 x2=>LQ qc D n 88 [.r,.r,.l,.r,.l] n (qln x0 x1 x2) (CQ qc D n 88 [] [.r,.r,.l,.r,.l] (qi qc 88))) a0:=by kernel_rfl
 rw[h]
 simp only[qbfe]
 rfl

def q5l (D:DX)(n:Nat) (a0:List Int×Int×Int×Unit):Option (((tSch)×Unit)×tCur×Unit):=qh (qli D a0) fun b↦qh (qcg D (Prod.fst (Prod.snd b)) 12) fun b_1↦br (decide (Prod.fst (Prod.fst b_1)=0)) (qh (qt2 D (Prod.fst (Prod.snd b_1)) [ByteArray.mk #[],ByteArray.mk #[UInt8.ofNat 105,UInt8.ofNat 100],ByteArray.mk #[UInt8.ofNat 65],ByteArray.mk #[UInt8.ofNat 97,UInt8.ofNat 98,UInt8.ofNat 99,UInt8.ofNat 100,UInt8.ofNat 101,UInt8.ofNat 102,UInt8.ofNat 103,UInt8.ofNat 104,UInt8.ofNat 105,UInt8.ofNat 106,UInt8.ofNat 107,UInt8.ofNat 108,UInt8.ofNat 109]]) fun b_2↦br (decide (0≤1)&&decide (1<(↑(List.length (Prod.fst (Prod.fst (Prod.fst b)))):Int))) (some (((List.set (Prod.fst (Prod.fst (Prod.fst b))) 1 (Prod.fst (Prod.fst b_2),Prod.snd (List.getD (Prod.fst (Prod.fst (Prod.fst b))) 1 (ByteArray.empty,0,false,()))),Prod.fst (Prod.snd (Prod.fst (Prod.fst b))),Prod.fst (Prod.snd (Prod.snd (Prod.fst (Prod.fst b)))),()),()),Prod.fst (Prod.snd b_2),())) none) (br (decide (Prod.fst (Prod.fst b_1)=1)) (qh (qk3 D (Prod.fst (Prod.snd b_1)) [0,3,4]) fun b_2↦br (decide (0≤1)&&decide (1<(↑(List.length (Prod.fst (Prod.fst (Prod.fst b)))):Int))) (some (((List.set (Prod.fst (Prod.fst (Prod.fst b))) 1 (Prod.fst (List.getD (Prod.fst (Prod.fst (Prod.fst b))) 1 (ByteArray.empty,0,false,())),Prod.fst (Prod.fst b_2),Prod.snd (Prod.snd (List.getD (Prod.fst (Prod.fst (Prod.fst b))) 1 (ByteArray.empty,0,false,())))),Prod.fst (Prod.snd (Prod.fst (Prod.fst b))),Prod.fst (Prod.snd (Prod.snd (Prod.fst (Prod.fst b)))),()),()),Prod.fst (Prod.snd b_2),())) none) (br (decide (Prod.fst (Prod.fst b_1)=2)) (qh (qcg D (Prod.fst (Prod.snd b_1)) 6) fun b_2↦br (decide (List.length (Prod.fst (Prod.snd (Prod.fst (Prod.fst b))))+1≤q9)) (some (((Prod.fst (Prod.fst (Prod.fst b)),Prod.fst (Prod.snd (Prod.fst (Prod.fst b)))++[IntKind.wrap IntKind.i64 (Prod.fst (Prod.fst b_2) - 1)],Prod.fst (Prod.snd (Prod.snd (Prod.fst (Prod.fst b)))),()),()),Prod.fst (Prod.snd b_2),())) none) (br (decide (Prod.fst (Prod.fst b_1)=3)) (br (decide (0≤0)&&decide (0<(↑(List.length (Prod.fst (Prod.fst (Prod.fst b)))):Int))) (some (((List.set (Prod.fst (Prod.fst (Prod.fst b))) 0 (Prod.fst (List.getD (Prod.fst (Prod.fst (Prod.fst b))) 0 (ByteArray.empty,0,false,())),Prod.fst (Prod.snd (List.getD (Prod.fst (Prod.fst (Prod.fst b))) 0 (ByteArray.empty,0,false,()))),true,Prod.snd (Prod.snd (Prod.snd (List.getD (Prod.fst (Prod.fst (Prod.fst b))) 0 (ByteArray.empty,0,false,()))))),Prod.fst (Prod.snd (Prod.fst (Prod.fst b))),Prod.fst (Prod.snd (Prod.snd (Prod.fst (Prod.fst b)))),()),()),Prod.fst (Prod.snd b_1),())) none) (br (decide (Prod.fst (Prod.fst b_1)=4)) (qh (qcg D (Prod.fst (Prod.snd b_1)) 6) fun b_2↦br (decide (List.length (Prod.fst (Prod.snd (Prod.snd (Prod.fst (Prod.fst b)))))+1≤q9)) (some (((Prod.fst (Prod.fst (Prod.fst b)),Prod.fst (Prod.snd (Prod.fst (Prod.fst b))),Prod.fst (Prod.snd (Prod.snd (Prod.fst (Prod.fst b))))++[(ByteArray.mk #[UInt8.ofNat 120],[IntKind.wrap IntKind.i64 (Prod.fst (Prod.fst b_2) - 1)],false,())],()),()),Prod.fst (Prod.snd b_2),())) none) (some (((Prod.fst (Prod.fst (Prod.fst b)),Prod.fst (Prod.snd (Prod.fst (Prod.fst b))),Prod.fst (Prod.snd (Prod.snd (Prod.fst (Prod.fst b)))),()),()),Prod.fst (Prod.snd b_1),()))))))
def qyd (D:DX)(n:Nat) (a0:List Int×Int×Int×Unit):Option (((tSch)×Unit)×tCur×Unit):=q5l D n a0
theorem qbhz (D:DX)(n:Nat) (a0:List Int×Int×Int×Unit):rfC qc D n 89 (a0,())=qyd D n a0:=by kernel_rfl

def qse (D:DX)(n:Nat) (go:Int→List Int×Int×Int×Unit→tSch→qd→Option ((qd×Unit)×tCur×Unit)) (K0:List Int×Int×Int×Unit→qd→Option ((qd×Unit)×tCur×Unit)) (x0:Int) (x1:List Int×Int×Int×Unit) (x2:tSch) (x3:qd):Option ((qd×Unit)×tCur×Unit):=br (decide (x0<(↑(List.length (Prod.fst x2)):Int))) (br (decide (0≤x0)&&decide (x0<(↑(List.length (Prod.fst x2)):Int))) (br (Prod.fst (Prod.snd (Prod.snd (List.getD (Prod.fst x2) (Int.toNat x0) (ByteArray.empty,0,false,()))))) (qh (ql2 D x1 3) fun b↦br (Prod.fst (Prod.fst b)) (br (decide (List.length x3+1≤q9)) (go (IntKind.wrap IntKind.i64 (x0+1)) (Prod.fst (Prod.snd b)) x2 (x3++[(0,0,ByteArray.empty,())])) none) (br (decide (0≤x0)&&decide (x0<(↑(List.length (Prod.fst x2)):Int))) (qh (qox D (Prod.fst (Prod.snd b)) (Prod.fst (Prod.snd (List.getD (Prod.fst x2) (Int.toNat x0) (ByteArray.empty,0,false,()))))) fun b↦br (decide (List.length x3+1≤q9)) (go (IntKind.wrap IntKind.i64 (x0+1)) (Prod.fst (Prod.snd b)) x2 (x3++[Prod.fst (Prod.fst b)])) none) none)) (br (decide (0≤x0)&&decide (x0<(↑(List.length (Prod.fst x2)):Int))) (qh (qox D x1 (Prod.fst (Prod.snd (List.getD (Prod.fst x2) (Int.toNat x0) (ByteArray.empty,0,false,()))))) fun b↦br (decide (List.length x3+1≤q9)) (go (IntKind.wrap IntKind.i64 (x0+1)) (Prod.fst (Prod.snd b)) x2 (x3++[Prod.fst (Prod.fst b)])) none) none)) none) (K0 x1 x3)
def qfb (D:DX)(n:Nat) (K0:List Int×Int×Int×Unit→qd→Option ((qd×Unit)×tCur×Unit)):Nat→(Int)→tCur→(tSch)→(qd)→Option ((qd×Unit)×tCur×Unit) | 0=>(fun x0 x1 x2 x3=>none) | m+1=>(fun x0 x1 x2 x3=>qse D n (qfb D n K0 m) K0 x0 x1 x2 x3)
def qok (D:DX)(n:Nat) (v0_0:List Int×Int×Int×Unit) (v0_1:qd):Option ((qd×Unit)×tCur×Unit):=some ((v0_1,()),v0_0,())
def qp6 (D:DX)(n:Nat):(Int)→tCur→(tSch)→(qd)→Option ((qd×Unit)×tCur×Unit):=(fun x0 x1 x2 x3=>qfb D n (fun v0_0 v0_1=>qok D n v0_0 v0_1) n x0 x1 x2 x3)
def qs8 (D:DX)(n:Nat) (lp0:Int→List Int×Int×Int×Unit→tSch→qd→Option ((qd×Unit)×tCur×Unit)) (a0:List Int×Int×Int×Unit) (a1:tSch):Option ((qd×Unit)×tCur×Unit):=lp0 0 a0 a1 []
def qtc (D:DX)(n:Nat) (a0:List Int×Int×Int×Unit) (a1:tSch):Option ((qd×Unit)×tCur×Unit):=qs8 D n (qp6 D n) a0 a1
def qg3 (x0:Int) (x1:List Int×Int×Int×Unit) (x2:tSch) (x3:qd):St:=stq 41 [(0,AV.addr 0 []),(3,AV.addr 3 []),(5,AV.brw 5 [] 0),(6,avI x0)] [(0,Root.mk (Ty.pair (Ty.sl (Ty.int IntKind.u8)) (Ty.pair yI (Ty.pair yI Ty.unit))) Mk.no x1 true),(3,Root.mk yS Mk.no x2 true),(5,Root.mk (Ty.sl yV) (Mk.own 0 (Mk.pr Mk.no (Mk.pr Mk.no (Mk.pr Mk.no Mk.no)))) x3 false)] 
def qkb (v0_0:List Int×Int×Int×Unit) (v0_1:qd):St:=stq 41 [(0,AV.addr 0 []),(5,AV.brw 5 [] 0)] [(0,Root.mk (Ty.pair (Ty.sl (Ty.int IntKind.u8)) (Ty.pair yI (Ty.pair yI Ty.unit))) Mk.no v0_0 true),(5,Root.mk (Ty.sl yV) (Mk.own 0 (Mk.pr Mk.no (Mk.pr Mk.no (Mk.pr Mk.no Mk.no)))) v0_1 false)] 
theorem q8g (D:DX)(n:Nat) (m:Nat) (K:Ex→St→Option (Out ctx 90)) (x0:Int) (x1:List Int×Int×Int×Unit) (x2:tSch) (x3:qd) :
 LQ qc D n 90 [.r,.r,.l,.r,.l] (m+1) (qg3 x0 x1 x2 x3) K=qse D n (fun x0 x1 x2 x3=>LQ qc D n 90 [.r,.r,.l,.r,.l] m (qg3 x0 x1 x2 x3) K) (fun v0_0 v0_1=>K (Ex.exit 0) (qkb v0_0 v0_1)) x0 x1 x2 x3:=by kernel_rfl
theorem qw8 (D:DX)(n:Nat) (K:Ex→St→Option (Out ctx 90)):∀ (m:Nat) (x0:Int) (x1:List Int×Int×Int×Unit) (x2:tSch) (x3:qd),LQ qc D n 90 [.r,.r,.l,.r,.l] m (qg3 x0 x1 x2 x3) K=qfb D n (fun v0_0 v0_1=>K (Ex.exit 0) (qkb v0_0 v0_1)) m x0 x1 x2 x3
 | 0,x0,x1,x2,x3=>qx ..
 | m+1,x0,x1,x2,x3=>by
  have ih:(fun x0 x1 x2 x3=>LQ qc D n 90 [.r,.r,.l,.r,.l] m (qg3 x0 x1 x2 x3) K)=qfb D n (fun v0_0 v0_1=>K (Ex.exit 0) (qkb v0_0 v0_1)) m:=by funext x0 x1 x2 x3;exact qw8 D n K m x0 x1 x2 x3
  rw[q8g]
  rw[ih];rfl
theorem q6z (D:DX)(n:Nat) (v0_0:List Int×Int×Int×Unit) (v0_1:qd) :
 (CQ qc D n 90 [] [.r,.r,.l,.r,.l] (qi qc 90)) (Ex.exit 0) (qkb v0_0 v0_1)=qok D n v0_0 v0_1:=by kernel_rfl
theorem q66 (D:DX)(n:Nat) (x0:Int) (x1:List Int×Int×Int×Unit) (x2:tSch) (x3:qd) :
 LQ qc D n 90 [.r,.r,.l,.r,.l] n (qg3 x0 x1 x2 x3) (CQ qc D n 90 [] [.r,.r,.l,.r,.l] (qi qc 90))=qp6 D n x0 x1 x2 x3:=by
 rw[qw8]
 simp only[q6z]
 rfl
theorem qbbx (D:DX)(n:Nat) (a0:List Int×Int×Int×Unit) (a1:tSch):rfC qc D n 90 (a0,(a1,()))=qtc D n a0 a1:=by
 have h:rfC qc D n 90 (a0,(a1,()))=qs8 D n (fun x0 x1 x2 x3=>LQ qc D n 90 [.r,.r,.l,.r,.l] n (qg3 x0 x1 x2 x3) (CQ qc D n 90 [] [.r,.r,.l,.r,.l] (qi qc 90))) a0 a1:=by kernel_rfl
 rw[h]
 simp only[q66]
 rfl

def q5o (D:DX)(n:Nat) (a0:List Int×Int×Int×Unit) (a1:Int):Option ((Int×Unit)×tCur×Unit):=br (decide (a1≤0)) (some ((0,()),a0,())) (br (decide (a1≤256)) (qh (qj6 D a0) fun b↦br (decide (a1=0)) none (some ((Int.tmod (Prod.fst (Prod.fst b)) a1,()),Prod.fst (Prod.snd b),()))) (qh (qj6 D a0) fun b↦qh (qj6 D (Prod.fst (Prod.snd b))) fun b_1↦qh (qj6 D (Prod.fst (Prod.snd b_1))) fun b_2↦qh (qj6 D (Prod.fst (Prod.snd b_2))) fun b_3↦br (decide (a1=0)) none (some ((Int.tmod (IntKind.wrap IntKind.i64 (IntKind.wrap IntKind.i64 (IntKind.wrap IntKind.i64 (IntKind.wrap IntKind.i64 (Prod.fst (Prod.fst b) * 16777216)+IntKind.wrap IntKind.i64 (Prod.fst (Prod.fst b_1) * 65536))+IntKind.wrap IntKind.i64 (Prod.fst (Prod.fst b_2) * 256))+Prod.fst (Prod.fst b_3))) a1,()),Prod.fst (Prod.snd b_3),()))))
def qyf (D:DX)(n:Nat) (a0:List Int×Int×Int×Unit) (a1:Int):Option ((Int×Unit)×tCur×Unit):=q5o D n a0 a1
theorem qbh6 (D:DX)(n:Nat) (a0:List Int×Int×Int×Unit) (a1:Int):rfC qc D n 91 (a0,(a1,()))=qyf D n a0 a1:=by kernel_rfl


def q77 (D:DX)(n:Nat) (a0:List Int×Int×Int×Unit) (a1:List ByteArray):Option ((ByteArray×Unit)×tCur×Unit):=qh (qcg D a0 (↑(List.length a1):Int)) fun b↦br (decide (0≤Prod.fst (Prod.fst b))&&decide (Prod.fst (Prod.fst b)<(↑(List.length a1):Int))) (some ((List.getD a1 (Int.toNat (Prod.fst (Prod.fst b))) ByteArray.empty,()),Prod.fst (Prod.snd b),())) none
def q0o (D:DX)(n:Nat) (a0:List Int×Int×Int×Unit) (a1:List ByteArray):Option ((ByteArray×Unit)×tCur×Unit):=q77 D n a0 a1
theorem qbj0 (D:DX)(n:Nat) (a0:List Int×Int×Int×Unit) (a1:List ByteArray):rfC qc D n 93 (a0,(a1,()))=q0o D n a0 a1:=by kernel_rfl

def q5u (D:DX)(n:Nat) (a0:Int×Int×ByteArray×Unit):Option ((Bool×Unit)×Unit):=br (decide (Prod.fst a0=0)) (some ((bif decide (Prod.fst (Prod.snd a0)=0) then List.beq (ByteArray.toList (Prod.fst (Prod.snd (Prod.snd a0)))) (ByteArray.toList (ByteArray.mk #[])) else false,()),())) (br (decide (Prod.fst a0=1)) (qh (qgd D (Prod.fst (Prod.snd a0)) 0 1) fun b↦some ((bif Prod.fst (Prod.fst b) then List.beq (ByteArray.toList (Prod.fst (Prod.snd (Prod.snd a0)))) (ByteArray.toList (ByteArray.mk #[])) else false,()),())) (br (decide (Prod.fst a0=2)) (qh (qgd D (Prod.fst (Prod.snd a0)) (-1000000000000) 1000000000000) fun b↦some ((bif Prod.fst (Prod.fst b) then List.beq (ByteArray.toList (Prod.fst (Prod.snd (Prod.snd a0)))) (ByteArray.toList (ByteArray.mk #[])) else false,()),())) (br (decide (Prod.fst a0=3)) (some ((bif decide (Prod.fst (Prod.snd a0)=0) then decide ((↑(ByteArray.size (Prod.fst (Prod.snd (Prod.snd a0)))):Int)≤20) else false,()),())) (some ((false,()),())))))
def qxl (D:DX)(n:Nat) (a0:Int×Int×ByteArray×Unit):Option ((Bool×Unit)×Unit):=q5u D n a0
theorem qbim (D:DX)(n:Nat) (a0:Int×Int×ByteArray×Unit):rfC qc D n 94 (a0,())=qxl D n a0:=by kernel_rfl

def q52 (D:DX)(n:Nat) (a0:Int×Int×ByteArray×Unit):Option ((Bool×Unit)×Unit):=br (decide (Prod.fst a0=0)) (some ((bif decide (Prod.fst (Prod.snd a0)=0) then List.beq (ByteArray.toList (Prod.fst (Prod.snd (Prod.snd a0)))) (ByteArray.toList (ByteArray.mk #[])) else false,()),())) (br (decide (Prod.fst a0=1)) (qh (qgk D (Prod.fst (Prod.snd a0)) 0 1) fun b↦some ((bif Prod.fst (Prod.fst b) then List.beq (ByteArray.toList (Prod.fst (Prod.snd (Prod.snd a0)))) (ByteArray.toList (ByteArray.mk #[])) else false,()),())) (br (decide (Prod.fst a0=2)) (qh (qgk D (Prod.fst (Prod.snd a0)) (-1000000000000) 1000000000000) fun b↦some ((bif Prod.fst (Prod.fst b) then List.beq (ByteArray.toList (Prod.fst (Prod.snd (Prod.snd a0)))) (ByteArray.toList (ByteArray.mk #[])) else false,()),())) (br (decide (Prod.fst a0=3)) (some ((bif decide (Prod.fst (Prod.snd a0)=0) then decide ((↑(ByteArray.size (Prod.fst (Prod.snd (Prod.snd a0)))):Int)≤20) else false,()),())) (some ((false,()),())))))
def qze (D:DX)(n:Nat) (a0:Int×Int×ByteArray×Unit):Option ((Bool×Unit)×Unit):=q52 D n a0
theorem qbht (D:DX)(n:Nat) (a0:Int×Int×ByteArray×Unit):rfC qc D n 95 (a0,())=qze D n a0:=by kernel_rfl

def qe4 (D:DX)(n:Nat) (a1:Clo) (go:qhd→Int→Int→Option ((Int×Unit)×Unit)) (K0:Int→Option ((Int×Unit)×Unit)) (K1:Option ((Int×Unit)×Unit)) (x0:qhd) (x1:Int) (x2:Int):Option ((Int×Unit)×Unit):=br (decide (x2<x1)) (br (decide (0≤x2)&&decide (x2<(↑(List.length x0):Int))) (qh (qbp ctx D a1 [CapV.val (Ty.pair Ty.str (Ty.pair (Ty.int IntKind.i64) (Ty.pair Ty.bool Ty.unit))) (List.getD x0 (Int.toNat x2) (ByteArray.empty,0,false,()))] Ty.bool) fun b↦br b (K0 x2) (go x0 x1 (IntKind.wrap IntKind.i64 (x2+1)))) none) K1
def qb7 (D:DX)(n:Nat) (a1:Clo) (K0:Int→Option ((Int×Unit)×Unit)) (K1:Option ((Int×Unit)×Unit)):Nat→(qhd)→(Int)→(Int)→Option ((Int×Unit)×Unit) | 0=>(fun x0 x1 x2=>none) | m+1=>(fun x0 x1 x2=>qe4 D n a1 (qb7 D n a1 K0 K1 m) K0 K1 x0 x1 x2)
def qh5 (D:DX)(n:Nat) (a1:Clo) (v0_0:Int):Option ((Int×Unit)×Unit):=some ((v0_0,()),())
def qh1 (D:DX)(n:Nat) (a1:Clo):Option ((Int×Unit)×Unit):=some ((-1,()),())
def qet (D:DX)(n:Nat) (a1:Clo):(qhd)→(Int)→(Int)→Option ((Int×Unit)×Unit):=(fun x0 x1 x2=>qb7 D n a1 (fun v0_0=>qh5 D n a1 v0_0) (qh1 D n a1) n x0 x1 x2)
def qfp (D:DX)(n:Nat) (a1:Clo) (lp0:qhd→Int→Int→Option ((Int×Unit)×Unit)) (a0:qhd):Option ((Int×Unit)×Unit):=lp0 a0 (↑(List.length a0):Int) 0
def qfc (D:DX)(n:Nat) (a0:qhd) (a1:Clo):Option ((Int×Unit)×Unit):=qfp D n a1 (qet D n a1) a0
def qb6 (a1:Clo) (x0:qhd) (x1:Int) (x2:Int):St:=stq 19 [(0,AV.val (Ty.sl yC) x0),(1,AV.cloV a1),(7,avI x1),(8,avI x2)] [] 
def qde (a1:Clo) (v0_0:Int):St:=stq 19 [(4,avI v0_0)] [] 
def qdd (a1:Clo):St:=stq 19 [] [] 
theorem qqh (D:DX)(n:Nat) (a1:Clo) (m:Nat) (K:Ex→St→Option (Out ctx 96)) (x0:qhd) (x1:Int) (x2:Int) :
 LQ qc D n 96 [.r,.l,.r,.l] (m+1) (qb6 a1 x0 x1 x2) K=qe4 D n a1 (fun x0 x1 x2=>LQ qc D n 96 [.r,.l,.r,.l] m (qb6 a1 x0 x1 x2) K) (fun v0_0=>K (Ex.ret) (qde a1 v0_0)) (K (Ex.exit 0) (qdd a1)) x0 x1 x2:=by kernel_rfl
theorem qii (D:DX)(n:Nat) (a1:Clo) (K:Ex→St→Option (Out ctx 96)):∀ (m:Nat) (x0:qhd) (x1:Int) (x2:Int),LQ qc D n 96 [.r,.l,.r,.l] m (qb6 a1 x0 x1 x2) K=qb7 D n a1 (fun v0_0=>K (Ex.ret) (qde a1 v0_0)) (K (Ex.exit 0) (qdd a1)) m x0 x1 x2
 | 0,x0,x1,x2=>qx ..
 | m+1,x0,x1,x2=>by
  have ih:(fun x0 x1 x2=>LQ qc D n 96 [.r,.l,.r,.l] m (qb6 a1 x0 x1 x2) K)=qb7 D n a1 (fun v0_0=>K (Ex.ret) (qde a1 v0_0)) (K (Ex.exit 0) (qdd a1)) m:=by funext x0 x1 x2;exact qii D n a1 K m x0 x1 x2
  rw[qqh]
  rw[ih];rfl
theorem qpo (D:DX)(n:Nat) (a1:Clo) (v0_0:Int) :
 (CQ qc D n 96 [] [.r,.l,.r,.l] (qi qc 96)) (Ex.ret) (qde a1 v0_0)=qh5 D n a1 v0_0:=by kernel_rfl
theorem qpm (D:DX)(n:Nat) (a1:Clo) :
 (CQ qc D n 96 [] [.r,.l,.r,.l] (qi qc 96)) (Ex.exit 0) (qdd a1)=qh1 D n a1:=by kernel_rfl
theorem qpr (D:DX)(n:Nat) (a1:Clo) (x0:qhd) (x1:Int) (x2:Int) :
 LQ qc D n 96 [.r,.l,.r,.l] n (qb6 a1 x0 x1 x2) (CQ qc D n 96 [] [.r,.l,.r,.l] (qi qc 96))=qet D n a1 x0 x1 x2:=by
 rw[qii]
 simp only[qpo,qpm]
 rfl
theorem qr5 (D:DX)(n:Nat) (a0:qhd) (a1:Clo):rfC qc D n 96 (a0,(a1,()))=qfc D n a0 a1:=by
 have h:rfC qc D n 96 (a0,(a1,()))=qfp D n a1 (fun x0 x1 x2=>LQ qc D n 96 [.r,.l,.r,.l] n (qb6 a1 x0 x1 x2) (CQ qc D n 96 [] [.r,.l,.r,.l] (qi qc 96))) a0:=by kernel_rfl
 rw[h]
 simp only[qpr]
 rfl

def q5s (D:DX)(n:Nat) (a0:ByteArray×Int×Bool×Unit) (a1:ByteArray):Option ((Bool×Unit)×Unit):=some ((List.beq (ByteArray.toList (Prod.fst a0)) (ByteArray.toList a1),()),())
def qxm (D:DX)(n:Nat) (a0:ByteArray×Int×Bool×Unit) (a1:ByteArray):Option ((Bool×Unit)×Unit):=q5s D n a0 a1
theorem qbhl (D:DX)(n:Nat) (a0:ByteArray×Int×Bool×Unit) (a1:ByteArray):rfC qc D n 97 (a0,(a1,()))=qxm D n a0 a1:=by kernel_rfl

def qwy (D:DX)(n:Nat) (go:qd→List Int→Int→qd→Option ((qd×Unit)×Unit)) (K0:qd→Option ((qd×Unit)×Unit)) (x0:qd) (x1:List Int) (x2:Int) (x3:qd):Option ((qd×Unit)×Unit):=br (decide (x2<(↑(List.length x1):Int))) (br (decide (0≤x2)&&decide (x2<(↑(List.length x1):Int))) (qh (qgk D (List.getD x1 (Int.toNat x2) 0) 0 (IntKind.wrap IntKind.i64 ((↑(List.length x0):Int) - 1))) fun b↦br (Prod.fst (Prod.fst b)) (br (decide (0≤x2)&&decide (x2<(↑(List.length x1):Int))) (br (decide (0≤List.getD x1 (Int.toNat x2) 0)&&decide (List.getD x1 (Int.toNat x2) 0<(↑(List.length x0):Int))) (br (decide (List.length x3+1≤q9)) (go x0 x1 (IntKind.wrap IntKind.i64 (x2+1)) (x3++[List.getD x0 (Int.toNat (List.getD x1 (Int.toNat x2) 0)) (0,0,ByteArray.empty,())])) none) none) none) (go x0 x1 (IntKind.wrap IntKind.i64 (x2+1)) x3)) none) (K0 x3)
def qjw (D:DX)(n:Nat) (K0:qd→Option ((qd×Unit)×Unit)):Nat→(qd)→(List Int)→(Int)→(qd)→Option ((qd×Unit)×Unit) | 0=>(fun x0 x1 x2 x3=>none) | m+1=>(fun x0 x1 x2 x3=>qwy D n (qjw D n K0 m) K0 x0 x1 x2 x3)
def q11 (D:DX)(n:Nat) (v0_0:qd):Option ((qd×Unit)×Unit):=some ((v0_0,()),())
def qu8 (D:DX)(n:Nat):(qd)→(List Int)→(Int)→(qd)→Option ((qd×Unit)×Unit):=(fun x0 x1 x2 x3=>qjw D n (fun v0_0=>q11 D n v0_0) n x0 x1 x2 x3)
def qxy (D:DX)(n:Nat) (lp0:qd→List Int→Int→qd→Option ((qd×Unit)×Unit)) (a0:qd) (a1:List Int):Option ((qd×Unit)×Unit):=lp0 a0 a1 0 []
def qza (D:DX)(n:Nat) (a0:qd) (a1:List Int):Option ((qd×Unit)×Unit):=qxy D n (qu8 D n) a0 a1
def qju (x0:qd) (x1:List Int) (x2:Int) (x3:qd):St:=stq 33 [(0,AV.val (Ty.sl yV) x0),(1,AV.val (Ty.sl yI) x1),(5,AV.brw 5 [] 0),(6,avI x2)] [(5,Root.mk (Ty.sl yV) (Mk.own 0 (Mk.pr Mk.no (Mk.pr Mk.no (Mk.pr Mk.no Mk.no)))) x3 false)] 
def qnp (v0_0:qd):St:=stq 33 [(5,AV.brw 5 [] 0)] [(5,Root.mk (Ty.sl yV) (Mk.own 0 (Mk.pr Mk.no (Mk.pr Mk.no (Mk.pr Mk.no Mk.no)))) v0_0 false)] 
theorem qbdj (D:DX)(n:Nat) (m:Nat) (K:Ex→St→Option (Out ctx 98)) (x0:qd) (x1:List Int) (x2:Int) (x3:qd) :
 LQ qc D n 98 [.r,.r,.l,.r,.l] (m+1) (qju x0 x1 x2 x3) K=qwy D n (fun x0 x1 x2 x3=>LQ qc D n 98 [.r,.r,.l,.r,.l] m (qju x0 x1 x2 x3) K) (fun v0_0=>K (Ex.exit 0) (qnp v0_0)) x0 x1 x2 x3:=by kernel_rfl
theorem q3e (D:DX)(n:Nat) (K:Ex→St→Option (Out ctx 98)):∀ (m:Nat) (x0:qd) (x1:List Int) (x2:Int) (x3:qd),LQ qc D n 98 [.r,.r,.l,.r,.l] m (qju x0 x1 x2 x3) K=qjw D n (fun v0_0=>K (Ex.exit 0) (qnp v0_0)) m x0 x1 x2 x3
 | 0,x0,x1,x2,x3=>qx ..
 | m+1,x0,x1,x2,x3=>by
  have ih:(fun x0 x1 x2 x3=>LQ qc D n 98 [.r,.r,.l,.r,.l] m (qju x0 x1 x2 x3) K)=qjw D n (fun v0_0=>K (Ex.exit 0) (qnp v0_0)) m:=by funext x0 x1 x2 x3;exact q3e D n K m x0 x1 x2 x3
  rw[qbdj]
  rw[ih];rfl
theorem qbbv (D:DX)(n:Nat) (v0_0:qd) :
 (CQ qc D n 98 [] [.r,.r,.l,.r,.l] (qi qc 98)) (Ex.exit 0) (qnp v0_0)=q11 D n v0_0:=by kernel_rfl
theorem qbbn (D:DX)(n:Nat) (x0:qd) (x1:List Int) (x2:Int) (x3:qd) :
 LQ qc D n 98 [.r,.r,.l,.r,.l] n (qju x0 x1 x2 x3) (CQ qc D n 98 [] [.r,.r,.l,.r,.l] (qi qc 98))=qu8 D n x0 x1 x2 x3:=by
 rw[q3e]
 simp only[qbbv]
 rfl
theorem qbha (D:DX)(n:Nat) (a0:qd) (a1:List Int):rfC qc D n 98 (a0,(a1,()))=qza D n a0 a1:=by
 have h:rfC qc D n 98 (a0,(a1,()))=qxy D n (fun x0 x1 x2 x3=>LQ qc D n 98 [.r,.r,.l,.r,.l] n (qju x0 x1 x2 x3) (CQ qc D n 98 [] [.r,.r,.l,.r,.l] (qi qc 98))) a0 a1:=by kernel_rfl
 rw[h]
 simp only[qbbn]
 rfl

def qgr (D:DX)(n:Nat) (a1:Clo) (a0:qd):Option ((Bool×Unit)×Unit):=qh (qd3 D a0 a1) fun b↦some ((decide (Prod.fst (Prod.fst b)≥0),()),())
def qdx (D:DX)(n:Nat) (a0:qd) (a1:Clo):Option ((Bool×Unit)×Unit):=qgr D n a1 a0
theorem qnc (D:DX)(n:Nat) (a0:qd) (a1:Clo):rfC qc D n 99 (a0,(a1,()))=qdx D n a0 a1:=by kernel_rfl

def q2s (D:DX)(n:Nat) (a0:Int×Int×ByteArray×Unit):Option ((Bool×Unit)×Unit):=qh (qsi D a0) fun b↦some ((!Prod.fst (Prod.fst b),()),())
def qui (D:DX)(n:Nat) (a0:Int×Int×ByteArray×Unit):Option ((Bool×Unit)×Unit):=q2s D n a0
theorem qbdl (D:DX)(n:Nat) (a0:Int×Int×ByteArray×Unit):rfC qc D n 100 (a0,())=qui D n a0:=by kernel_rfl









def ql4 (D:DX)(n:Nat) (go:qd→Int→List Int→Option ((List Int×Unit)×Unit)) (K0:List Int→Option ((List Int×Unit)×Unit)) (x0:qd) (x1:Int) (x2:List Int):Option ((List Int×Unit)×Unit):=br (decide (x1<(↑(List.length x0):Int))) (qh (qsp D x0) fun b↦br (Prod.fst (Prod.fst b)) (br (decide (0≤x1)&&decide (x1<(↑(List.length x0):Int))) (qh (qwc D (List.getD x0 (Int.toNat x1) (0,0,ByteArray.empty,()))) fun b↦br (decide (List.length x2+List.length (Prod.fst (Prod.fst b))≤q9)) (go x0 (IntKind.wrap IntKind.i64 (x1+1)) (x2++Prod.fst (Prod.fst b))) none) none) (K0 x2)) (K0 x2)
def qfd (D:DX)(n:Nat) (K0:List Int→Option ((List Int×Unit)×Unit)):Nat→(qd)→(Int)→(List Int)→Option ((List Int×Unit)×Unit) | 0=>(fun x0 x1 x2=>none) | m+1=>(fun x0 x1 x2=>ql4 D n (qfd D n K0 m) K0 x0 x1 x2)
def qwg (D:DX)(n:Nat) (v0_0:List Int):Option ((List Int×Unit)×Unit):=some ((v0_0,()),())
def qqo (D:DX)(n:Nat):(qd)→(Int)→(List Int)→Option ((List Int×Unit)×Unit):=(fun x0 x1 x2=>qfd D n (fun v0_0=>qwg D n v0_0) n x0 x1 x2)
def qti (D:DX)(n:Nat) (lp0:qd→Int→List Int→Option ((List Int×Unit)×Unit)) (a0:qd):Option ((List Int×Unit)×Unit):=lp0 a0 0 []
def qtf (D:DX)(n:Nat) (a0:qd):Option ((List Int×Unit)×Unit):=qti D n (qqo D n) a0
def qha (x0:qd) (x1:Int) (x2:List Int):St:=stq 24 [(0,AV.val (Ty.sl yV) x0),(3,AV.brw 3 [] 0),(4,avI x1)] [(3,Root.mk (Ty.sl (Ty.int IntKind.u8)) (Mk.own 0 Mk.no) x2 false)] 
def qkj (v0_0:List Int):St:=stq 24 [(3,AV.brw 3 [] 0)] [(3,Root.mk (Ty.sl (Ty.int IntKind.u8)) (Mk.own 0 Mk.no) v0_0 false)] 
theorem q8w (D:DX)(n:Nat) (m:Nat) (K:Ex→St→Option (Out ctx 109)) (x0:qd) (x1:Int) (x2:List Int) :
 LQ qc D n 109 [.r,.r,.l,.r,.l] (m+1) (qha x0 x1 x2) K=ql4 D n (fun x0 x1 x2=>LQ qc D n 109 [.r,.r,.l,.r,.l] m (qha x0 x1 x2) K) (fun v0_0=>K (Ex.exit 0) (qkj v0_0)) x0 x1 x2:=by kernel_rfl
theorem qxg (D:DX)(n:Nat) (K:Ex→St→Option (Out ctx 109)):∀ (m:Nat) (x0:qd) (x1:Int) (x2:List Int),LQ qc D n 109 [.r,.r,.l,.r,.l] m (qha x0 x1 x2) K=qfd D n (fun v0_0=>K (Ex.exit 0) (qkj v0_0)) m x0 x1 x2
 | 0,x0,x1,x2=>qx ..
 | m+1,x0,x1,x2=>by
  have ih:(fun x0 x1 x2=>LQ qc D n 109 [.r,.r,.l,.r,.l] m (qha x0 x1 x2) K)=qfd D n (fun v0_0=>K (Ex.exit 0) (qkj v0_0)) m:=by funext x0 x1 x2;exact qxg D n K m x0 x1 x2
  rw[q8w]
  rw[ih];rfl
theorem q71 (D:DX)(n:Nat) (v0_0:List Int) :
 (CQ qc D n 109 [] [.r,.r,.l,.r,.l] (qi qc 109)) (Ex.exit 0) (qkj v0_0)=qwg D n v0_0:=by kernel_rfl
theorem q6u (D:DX)(n:Nat) (x0:qd) (x1:Int) (x2:List Int) :
 LQ qc D n 109 [.r,.r,.l,.r,.l] n (qha x0 x1 x2) (CQ qc D n 109 [] [.r,.r,.l,.r,.l] (qi qc 109))=qqo D n x0 x1 x2:=by
 rw[qxg]
 simp only[q71]
 rfl
theorem qbb2 (D:DX)(n:Nat) (a0:qd):rfC qc D n 109 (a0,())=qtf D n a0:=by
 have h:rfC qc D n 109 (a0,())=qti D n (fun x0 x1 x2=>LQ qc D n 109 [.r,.r,.l,.r,.l] n (qha x0 x1 x2) (CQ qc D n 109 [] [.r,.r,.l,.r,.l] (qi qc 109))) a0:=by kernel_rfl
 rw[h]
 simp only[q6u]
 rfl


def qbe3 (D:DX)(n:Nat) (a0:tSch) (a1:Int) (a2:qd):Option ((tWay×Unit)×Unit):=br (decide (0≤a1)&&decide (a1<(↑(List.length (Prod.fst (Prod.snd (Prod.snd a0)))):Int))) (qh (qky D a2 (Prod.fst (Prod.snd (List.getD (Prod.fst (Prod.snd (Prod.snd a0))) (Int.toNat a1) (ByteArray.empty,[],false,()))))) fun b↦qh (qnx D (Prod.fst (Prod.fst b))) fun b↦qh (qmm D a0 a2) fun b_1↦qh (qnx D (Prod.fst (Prod.fst b_1))) fun b_2↦some (((ByteArray.mk (List.toArray (List.map (fun n↦UInt8.ofNat (Int.toNat n)) (Prod.fst (Prod.fst b)))),ByteArray.mk (List.toArray (List.map (fun n↦UInt8.ofNat (Int.toNat n)) (Prod.fst (Prod.fst b_2)))),()),()),())) none
def q7e (D:DX)(n:Nat) (a0:tSch) (a1:Int) (a2:qd):Option ((tWay×Unit)×Unit):=qbe3 D n a0 a1 a2
theorem qbpg (D:DX)(n:Nat) (a0:tSch) (a1:Int) (a2:qd):rfC qc D n 111 (a0,(a1,(a2,())))=q7e D n a0 a1 a2:=by kernel_rfl


def qsx (D:DX)(n:Nat) (go:qd→qd→Int→Option ((Bool×Unit)×Unit)) (K0:qd→qd→Bool→Option ((Bool×Unit)×Unit)) (K1:qd→qd→Option ((Bool×Unit)×Unit)) (x0:qd) (x1:qd) (x2:Int):Option ((Bool×Unit)×Unit):=br (bif decide (x2<(↑(List.length x0):Int)) then decide (x2<(↑(List.length x1):Int)) else false) (br (decide (0≤x2)&&decide (x2<(↑(List.length x0):Int))) (br (decide (0≤x2)&&decide (x2<(↑(List.length x1):Int))) (qh (qo1 D (List.getD x0 (Int.toNat x2) (0,0,ByteArray.empty,())) (List.getD x1 (Int.toNat x2) (0,0,ByteArray.empty,()))) fun b↦br (!Prod.fst (Prod.fst b)) (br (decide (0≤x2)&&decide (x2<(↑(List.length x0):Int))) (br (decide (0≤x2)&&decide (x2<(↑(List.length x1):Int))) (qh (qu6 D (List.getD x0 (Int.toNat x2) (0,0,ByteArray.empty,())) (List.getD x1 (Int.toNat x2) (0,0,ByteArray.empty,()))) fun b↦K0 x0 x1 (Prod.fst (Prod.fst b))) none) none) (go x0 x1 (IntKind.wrap IntKind.i64 (x2+1)))) none) none) (K1 x0 x1)
def qhr (D:DX)(n:Nat) (K0:qd→qd→Bool→Option ((Bool×Unit)×Unit)) (K1:qd→qd→Option ((Bool×Unit)×Unit)):Nat→(qd)→(qd)→(Int)→Option ((Bool×Unit)×Unit) | 0=>(fun x0 x1 x2=>none) | m+1=>(fun x0 x1 x2=>qsx D n (qhr D n K0 K1 m) K0 K1 x0 x1 x2)
def qqp (D:DX)(n:Nat) (v0_0:qd) (v0_1:qd) (v0_2:Bool):Option ((Bool×Unit)×Unit):=some ((v0_2,()),())
def qig (D:DX)(n:Nat) (v1_0:qd) (v1_1:qd):Option ((Bool×Unit)×Unit):=some ((decide ((↑(List.length v1_0):Int)<(↑(List.length v1_1):Int)),()),())
def qrm (D:DX)(n:Nat):(qd)→(qd)→(Int)→Option ((Bool×Unit)×Unit):=(fun x0 x1 x2=>qhr D n (fun v0_0 v0_1 v0_2=>qqp D n v0_0 v0_1 v0_2) (fun v1_0 v1_1=>qig D n v1_0 v1_1) n x0 x1 x2)
def qua (D:DX)(n:Nat) (lp0:qd→qd→Int→Option ((Bool×Unit)×Unit)) (a0:qd) (a1:qd):Option ((Bool×Unit)×Unit):=lp0 a0 a1 0
def qum (D:DX)(n:Nat) (a0:qd) (a1:qd):Option ((Bool×Unit)×Unit):=qua D n (qrm D n) a0 a1
def qhx (x0:qd) (x1:qd) (x2:Int):St:=stq 42 [(0,AV.val (Ty.sl yV) x0),(1,AV.val (Ty.sl yV) x1),(5,avI x2)] [] 
def qk8 (v0_0:qd) (v0_1:qd) (v0_2:Bool):St:=stq 42 [(0,AV.val (Ty.sl yV) v0_0),(1,AV.val (Ty.sl yV) v0_1),(4,AV.val Ty.bool v0_2)] [] 
def qk9 (v1_0:qd) (v1_1:qd):St:=stq 42 [(0,AV.val (Ty.sl yV) v1_0),(1,AV.val (Ty.sl yV) v1_1)] [] 
theorem q9w (D:DX)(n:Nat) (m:Nat) (K:Ex→St→Option (Out ctx 113)) (x0:qd) (x1:qd) (x2:Int) :
 LQ qc D n 113 [.r,.l,.r,.l] (m+1) (qhx x0 x1 x2) K=qsx D n (fun x0 x1 x2=>LQ qc D n 113 [.r,.l,.r,.l] m (qhx x0 x1 x2) K) (fun v0_0 v0_1 v0_2=>K (Ex.ret) (qk8 v0_0 v0_1 v0_2)) (fun v1_0 v1_1=>K (Ex.exit 0) (qk9 v1_0 v1_1)) x0 x1 x2:=by kernel_rfl
theorem qzx (D:DX)(n:Nat) (K:Ex→St→Option (Out ctx 113)):∀ (m:Nat) (x0:qd) (x1:qd) (x2:Int),LQ qc D n 113 [.r,.l,.r,.l] m (qhx x0 x1 x2) K=qhr D n (fun v0_0 v0_1 v0_2=>K (Ex.ret) (qk8 v0_0 v0_1 v0_2)) (fun v1_0 v1_1=>K (Ex.exit 0) (qk9 v1_0 v1_1)) m x0 x1 x2
 | 0,x0,x1,x2=>qx ..
 | m+1,x0,x1,x2=>by
  have ih:(fun x0 x1 x2=>LQ qc D n 113 [.r,.l,.r,.l] m (qhx x0 x1 x2) K)=qhr D n (fun v0_0 v0_1 v0_2=>K (Ex.ret) (qk8 v0_0 v0_1 v0_2)) (fun v1_0 v1_1=>K (Ex.exit 0) (qk9 v1_0 v1_1)) m:=by funext x0 x1 x2;exact qzx D n K m x0 x1 x2
  rw[q9w]
  rw[ih];rfl
theorem q8o (D:DX)(n:Nat) (v0_0:qd) (v0_1:qd) (v0_2:Bool) :
 (CQ qc D n 113 [] [.r,.l,.r,.l] (qi qc 113)) (Ex.ret) (qk8 v0_0 v0_1 v0_2)=qqp D n v0_0 v0_1 v0_2:=by kernel_rfl
theorem q8l (D:DX)(n:Nat) (v1_0:qd) (v1_1:qd) :
 (CQ qc D n 113 [] [.r,.l,.r,.l] (qi qc 113)) (Ex.exit 0) (qk9 v1_0 v1_1)=qig D n v1_0 v1_1:=by kernel_rfl
theorem q8q (D:DX)(n:Nat) (x0:qd) (x1:qd) (x2:Int) :
 LQ qc D n 113 [.r,.l,.r,.l] n (qhx x0 x1 x2) (CQ qc D n 113 [] [.r,.l,.r,.l] (qi qc 113))=qrm D n x0 x1 x2:=by
 rw[qzx]
 simp only[q8o,q8l]
 rfl
theorem qbd8 (D:DX)(n:Nat) (a0:qd) (a1:qd):rfC qc D n 113 (a0,(a1,()))=qum D n a0 a1:=by
 have h:rfC qc D n 113 (a0,(a1,()))=qua D n (fun x0 x1 x2=>LQ qc D n 113 [.r,.l,.r,.l] n (qhx x0 x1 x2) (CQ qc D n 113 [] [.r,.l,.r,.l] (qi qc 113))) a0 a1:=by kernel_rfl
 rw[h]
 simp only[q8q]
 rfl

def quq (D:DX)(n:Nat) (go:qd→qd→Int→tSch→Option ((Bool×Unit)×Unit)) (K0:Bool→Option ((Bool×Unit)×Unit)) (K1:Option ((Bool×Unit)×Unit)) (x0:qd) (x1:qd) (x2:Int) (x3:tSch):Option ((Bool×Unit)×Unit):=br (decide (x2<(↑(List.length (Prod.fst (Prod.snd (Prod.snd x3)))):Int))) (br (decide (0≤x2)&&decide (x2<(↑(List.length (Prod.fst (Prod.snd (Prod.snd x3)))):Int))) (qh (qku D x0 (Prod.fst (Prod.snd (List.getD (Prod.fst (Prod.snd (Prod.snd x3))) (Int.toNat x2) (ByteArray.empty,[],false,()))))) fun b↦qh (qku D x1 (Prod.fst (Prod.snd (List.getD (Prod.fst (Prod.snd (Prod.snd x3))) (Int.toNat x2) (ByteArray.empty,[],false,()))))) fun b_1↦br (Prod.fst (Prod.snd (Prod.snd (List.getD (Prod.fst (Prod.snd (Prod.snd x3))) (Int.toNat x2) (ByteArray.empty,[],false,()))))) (qh (qss D (Prod.fst (Prod.fst b)) (Prod.fst (Prod.fst b_1))) fun b_2↦br (Prod.fst (Prod.fst b_2)) (qh (qy2 D (Prod.fst (Prod.fst b))) fun b↦br (!Prod.fst (Prod.fst b)) (K0 true) (go x0 x1 (IntKind.wrap IntKind.i64 (x2+1)) x3)) (go x0 x1 (IntKind.wrap IntKind.i64 (x2+1)) x3)) (go x0 x1 (IntKind.wrap IntKind.i64 (x2+1)) x3)) none) K1
def qin (D:DX)(n:Nat) (K0:Bool→Option ((Bool×Unit)×Unit)) (K1:Option ((Bool×Unit)×Unit)):Nat→(qd)→(qd)→(Int)→(tSch)→Option ((Bool×Unit)×Unit) | 0=>(fun x0 x1 x2 x3=>none) | m+1=>(fun x0 x1 x2 x3=>quq D n (qin D n K0 K1 m) K0 K1 x0 x1 x2 x3)
def q0e (D:DX)(n:Nat) (v0_0:Bool):Option ((Bool×Unit)×Unit):=some ((v0_0,()),())
def qzy (D:DX)(n:Nat):Option ((Bool×Unit)×Unit):=some ((false,()),())
def qtp (D:DX)(n:Nat):(qd)→(qd)→(Int)→(tSch)→Option ((Bool×Unit)×Unit):=(fun x0 x1 x2 x3=>qin D n (fun v0_0=>q0e D n v0_0) (qzy D n) n x0 x1 x2 x3)
def qv3 (D:DX)(n:Nat) (lp0:qd→qd→Int→tSch→Option ((Bool×Unit)×Unit)) (a0:tSch) (a1:qd) (a2:qd):Option ((Bool×Unit)×Unit):=lp0 a1 a2 0 a0
def qvw (D:DX)(n:Nat) (a0:tSch) (a1:qd) (a2:qd):Option ((Bool×Unit)×Unit):=qv3 D n (qtp D n) a0 a1 a2
def qil (x0:qd) (x1:qd) (x2:Int) (x3:tSch):St:=stq 43 [(1,AV.val (Ty.sl yV) x0),(2,AV.val (Ty.sl yV) x1),(3,AV.addr 3 []),(7,avI x2)] [(3,Root.mk yS Mk.no x3 true)] 
def qme (v0_0:Bool):St:=stq 43 [(6,AV.val Ty.bool v0_0)] [] 
def qmt:St:=stq 43 [] [] 
theorem qbby (D:DX)(n:Nat) (m:Nat) (K:Ex→St→Option (Out ctx 114)) (x0:qd) (x1:qd) (x2:Int) (x3:tSch) :
 LQ qc D n 114 [.r,.l,.r,.l] (m+1) (qil x0 x1 x2 x3) K=quq D n (fun x0 x1 x2 x3=>LQ qc D n 114 [.r,.l,.r,.l] m (qil x0 x1 x2 x3) K) (fun v0_0=>K (Ex.ret) (qme v0_0)) (K (Ex.exit 0) (qmt)) x0 x1 x2 x3:=by kernel_rfl
theorem q1p (D:DX)(n:Nat) (K:Ex→St→Option (Out ctx 114)):∀ (m:Nat) (x0:qd) (x1:qd) (x2:Int) (x3:tSch),LQ qc D n 114 [.r,.l,.r,.l] m (qil x0 x1 x2 x3) K=qin D n (fun v0_0=>K (Ex.ret) (qme v0_0)) (K (Ex.exit 0) (qmt)) m x0 x1 x2 x3
 | 0,x0,x1,x2,x3=>qx ..
 | m+1,x0,x1,x2,x3=>by
  have ih:(fun x0 x1 x2 x3=>LQ qc D n 114 [.r,.l,.r,.l] m (qil x0 x1 x2 x3) K)=qin D n (fun v0_0=>K (Ex.ret) (qme v0_0)) (K (Ex.exit 0) (qmt)) m:=by funext x0 x1 x2 x3;exact q1p D n K m x0 x1 x2 x3
  rw[qbby]
  rw[ih];rfl
theorem qbaj (D:DX)(n:Nat) (v0_0:Bool) :
 (CQ qc D n 114 [] [.r,.l,.r,.l] (qi qc 114)) (Ex.ret) (qme v0_0)=q0e D n v0_0:=by kernel_rfl
theorem q9k (D:DX)(n:Nat) :
 (CQ qc D n 114 [] [.r,.l,.r,.l] (qi qc 114)) (Ex.exit 0) (qmt)=qzy D n:=by kernel_rfl
theorem qbai (D:DX)(n:Nat) (x0:qd) (x1:qd) (x2:Int) (x3:tSch) :
 LQ qc D n 114 [.r,.l,.r,.l] n (qil x0 x1 x2 x3) (CQ qc D n 114 [] [.r,.l,.r,.l] (qi qc 114))=qtp D n x0 x1 x2 x3:=by
 rw[q1p]
 simp only[qbaj,q9k]
 rfl
theorem qbfy (D:DX)(n:Nat) (a0:tSch) (a1:qd) (a2:qd):rfC qc D n 114 (a0,(a1,(a2,())))=qvw D n a0 a1 a2:=by
 have h:rfC qc D n 114 (a0,(a1,(a2,())))=qv3 D n (fun x0 x1 x2 x3=>LQ qc D n 114 [.r,.l,.r,.l] n (qil x0 x1 x2 x3) (CQ qc D n 114 [] [.r,.l,.r,.l] (qi qc 114))) a0 a1 a2:=by kernel_rfl
 rw[h]
 simp only[qbai]
 rfl

def q20 (D:DX)(n:Nat) (a0:qd) (a1:qd):Option ((Bool×Unit)×Unit):=qh (qcc D a0 a1 (Clo.mk 167 [])) fun b↦some ((decide (Prod.fst (Prod.fst b)<0),()),())
def qu7 (D:DX)(n:Nat) (a0:qd) (a1:qd):Option ((Bool×Unit)×Unit):=q20 D n a0 a1
theorem qbdg (D:DX)(n:Nat) (a0:qd) (a1:qd):rfC qc D n 115 (a0,(a1,()))=qu7 D n a0 a1:=by kernel_rfl

def qge (D:DX)(n:Nat) (a1:Clo) (a0:qe):Option ((Bool×Unit)×Unit):=qh (qej D a0 a1) fun b↦some ((decide (Prod.fst (Prod.fst b)≥0),()),())
def qdr (D:DX)(n:Nat) (a0:qe) (a1:Clo):Option ((Bool×Unit)×Unit):=qge D n a1 a0
theorem qm8 (D:DX)(n:Nat) (a0:qe) (a1:Clo):rfC qc D n 116 (a0,(a1,()))=qdr D n a0 a1:=by kernel_rfl

def q5r (D:DX)(n:Nat) (a0:qd) (a1:(tSch)×qe×Unit) (a2:qd):Option ((Bool×Unit)×Unit):=qh (q2r D (Prod.fst a1) a2 a0) fun b↦some ((Prod.fst (Prod.fst b),()),())
def qy9 (D:DX)(n:Nat) (a0:qd) (a1:(tSch)×qe×Unit) (a2:qd):Option ((Bool×Unit)×Unit):=q5r D n a0 a1 a2
theorem qbh3 (D:DX)(n:Nat) (a0:qd) (a1:(tSch)×
 qe×Unit) (a2:qd):rfC qc D n 117 (a0,(a1,(a2,())))=qy9 D n a0 a1 a2:=by kernel_rfl

def q9f (D:DX)(n:Nat) (a0:tSch) (a1:qd) (a2:qd):Option ((Bool×Unit)×Unit):=qh (qcw D (Prod.fst (Prod.snd (Prod.snd a0))) (Clo.mk 168 [CapV.rptr (Ty.sl (Ty.pair (Ty.int IntKind.i64) (Ty.pair (Ty.int IntKind.i64) (Ty.pair Ty.str Ty.unit)))) a1,CapV.rptr (Ty.sl (Ty.pair (Ty.int IntKind.i64) (Ty.pair (Ty.int IntKind.i64) (Ty.pair Ty.str Ty.unit)))) a2])) fun b↦some ((Prod.fst (Prod.fst b),()),())
def q2n (D:DX)(n:Nat) (a0:tSch) (a1:qd) (a2:qd):Option ((Bool×Unit)×Unit):=q9f D n a0 a1 a2
theorem qbk9 (D:DX)(n:Nat) (a0:tSch) (a1:qd) (a2:qd):rfC qc D n 118 (a0,(a1,(a2,())))=q2n D n a0 a1 a2:=by kernel_rfl

def qpa (D:DX)(n:Nat) (go:Int→List Int×Int×Int×Unit→(tSch)×qe×Unit→(tSch)×qe×Unit→Option ((((tSch)×qe×Unit)×Unit)×tCur×Unit)) (K0:List Int×Int×Int×Unit→(tSch)×qe×Unit→(tSch)×qe×Unit→Option ((((tSch)×qe×Unit)×Unit)×tCur×Unit)) (x0:Int) (x1:List Int×Int×Int×Unit) (x2:(tSch)×qe×Unit) (x3:(tSch)×qe×Unit):Option ((((tSch)×qe×Unit)×Unit)×tCur×Unit):=qh (qcg D x1 9) fun b↦br (decide (x0<Prod.fst (Prod.fst b))) (qh (qnr D (Prod.fst (Prod.snd b)) (Prod.fst x3)) fun b↦qh (qcg D (Prod.fst (Prod.snd b)) 6) fun b_1↦br (decide (Prod.fst (Prod.fst b_1)=0)) (qh (qdq D (Prod.fst x3) (Prod.fst (Prod.fst b))) fun b↦qh (q0w D (Prod.fst x3,Prod.fst (Prod.snd x3),()) (Prod.fst (Prod.fst b))) fun b↦go (IntKind.wrap IntKind.i64 (x0+1)) (Prod.fst (Prod.snd b_1)) x2 (Prod.fst (Prod.fst (Prod.fst b)),Prod.fst (Prod.snd (Prod.fst (Prod.fst b))),())) (br (decide (Prod.fst (Prod.fst b_1)=1)) (qh (qyj D (Prod.fst x3,Prod.fst (Prod.snd x3),()) (Prod.fst (Prod.fst b))) fun b↦go (IntKind.wrap IntKind.i64 (x0+1)) (Prod.fst (Prod.snd b_1)) x2 (Prod.fst (Prod.fst (Prod.fst b)),Prod.fst (Prod.snd (Prod.fst (Prod.fst b))),())) (qh (q0m D (Prod.fst x3,Prod.fst (Prod.snd x3),()) (Prod.fst (Prod.fst b))) fun b↦go (IntKind.wrap IntKind.i64 (x0+1)) (Prod.fst (Prod.snd b_1)) x2 (Prod.fst (Prod.fst (Prod.fst b)),Prod.fst (Prod.snd (Prod.fst (Prod.fst b))),())))) (K0 (Prod.fst (Prod.snd b)) x2 x3)
def qfw (D:DX)(n:Nat) (K0:List Int×Int×Int×Unit→(tSch)×qe×Unit→(tSch)×qe×Unit→Option ((((tSch)×qe×Unit)×Unit)×tCur×Unit)):Nat→(Int)→tCur→((tSch)×qe×Unit)→((tSch)×qe×Unit)→Option ((((tSch)×qe×Unit)×Unit)×tCur×Unit) | 0=>(fun x0 x1 x2 x3=>none) | m+1=>(fun x0 x1 x2 x3=>qpa D n (qfw D n K0 m) K0 x0 x1 x2 x3)
def qm4 (D:DX)(n:Nat) (v0_0:List Int×Int×Int×Unit) (v0_1:(tSch)×qe×Unit) (v0_2:(tSch)×qe×Unit):Option ((((tSch)×qe×Unit)×Unit)×tCur×Unit):=some (((Prod.fst v0_2,Prod.fst (Prod.snd v0_2),()),()),v0_0,())
def qof (D:DX)(n:Nat):(Int)→tCur→((tSch)×qe×Unit)→((tSch)×qe×Unit)→Option ((((tSch)×qe×Unit)×Unit)×tCur×Unit):=(fun x0 x1 x2 x3=>qfw D n (fun v0_0 v0_1 v0_2=>qm4 D n v0_0 v0_1 v0_2) n x0 x1 x2 x3)
def qqj (D:DX)(n:Nat) (lp0:Int→List Int×Int×Int×Unit→(tSch)×qe×Unit→(tSch)×qe×Unit→Option ((((tSch)×qe×Unit)×Unit)×tCur×Unit)) (a0:List Int×Int×Int×Unit):Option ((((tSch)×qe×Unit)×Unit)×tCur×Unit):=qh (qli D a0) fun b↦qh (q04 D (Prod.fst (Prod.fst b))) fun b_1↦lp0 0 (Prod.fst (Prod.snd b)) (([],[],[],()),[],()) (Prod.fst (Prod.fst (Prod.fst b_1)),Prod.fst (Prod.snd (Prod.fst (Prod.fst b_1))),())
def qqn (D:DX)(n:Nat) (a0:List Int×Int×Int×Unit):Option ((((tSch)×qe×Unit)×Unit)×tCur×Unit):=qqj D n (qof D n) a0
def qf3 (x0:Int) (x1:List Int×Int×Int×Unit) (x2:(tSch)×qe×Unit) (x3:(tSch)×qe×Unit):St:=stq 51 [(0,AV.addr 0 []),(2,AV.addr 2 []),(3,AV.addr 3 []),(5,avI x0)] [(0,Root.mk (Ty.pair (Ty.sl (Ty.int IntKind.u8)) (Ty.pair yI (Ty.pair yI Ty.unit))) Mk.no x1 true),(2,Root.mk (Ty.pair yS (Ty.pair (Ty.sl (Ty.sl yV)) Ty.unit)) (Mk.pr (Mk.pr (Mk.own 0 (Mk.pr Mk.no (Mk.pr Mk.no (Mk.pr Mk.no Mk.no)))) (Mk.pr (Mk.own 0 Mk.no) (Mk.pr (Mk.own 0 (Mk.pr Mk.no (Mk.pr (Mk.own 0 Mk.no) (Mk.pr Mk.no Mk.no)))) Mk.no))) (Mk.pr (Mk.own 0 (Mk.own 0 (Mk.pr Mk.no (Mk.pr Mk.no (Mk.pr Mk.no Mk.no))))) Mk.no)) x2 true),(3,Root.mk (Ty.pair yS (Ty.pair (Ty.sl (Ty.sl yV)) Ty.unit)) (Mk.pr Mk.no (Mk.pr (Mk.own 0 Mk.no) Mk.no)) x3 true)] 
def qjf (v0_0:List Int×Int×Int×Unit) (v0_1:(tSch)×qe×Unit) (v0_2:(tSch)×qe×Unit):St:=stq 51 [(0,AV.addr 0 []),(2,AV.addr 2 []),(3,AV.addr 3 [])] [(0,Root.mk (Ty.pair (Ty.sl (Ty.int IntKind.u8)) (Ty.pair yI (Ty.pair yI Ty.unit))) Mk.no v0_0 true),(2,Root.mk (Ty.pair yS (Ty.pair (Ty.sl (Ty.sl yV)) Ty.unit)) (Mk.pr (Mk.pr (Mk.own 0 (Mk.pr Mk.no (Mk.pr Mk.no (Mk.pr Mk.no Mk.no)))) (Mk.pr (Mk.own 0 Mk.no) (Mk.pr (Mk.own 0 (Mk.pr Mk.no (Mk.pr (Mk.own 0 Mk.no) (Mk.pr Mk.no Mk.no)))) Mk.no))) (Mk.pr (Mk.own 0 (Mk.own 0 (Mk.pr Mk.no (Mk.pr Mk.no (Mk.pr Mk.no Mk.no))))) Mk.no)) v0_1 true),(3,Root.mk (Ty.pair yS (Ty.pair (Ty.sl (Ty.sl yV)) Ty.unit)) (Mk.pr Mk.no (Mk.pr (Mk.own 0 Mk.no) Mk.no)) v0_2 true)] 
theorem q5q (D:DX)(n:Nat) (m:Nat) (K:Ex→St→Option (Out ctx 119)) (x0:Int) (x1:List Int×Int×Int×Unit) (x2:(tSch)×
 qe×Unit) (x3:(tSch)×
 qe×Unit) :
 LQ qc D n 119 [.r,.r,.l,.r,.l] (m+1) (qf3 x0 x1 x2 x3) K=qpa D n (fun x0 x1 x2 x3=>LQ qc D n 119 [.r,.r,.l,.r,.l] m (qf3 x0 x1 x2 x3) K) (fun v0_0 v0_1 v0_2=>K (Ex.exit 0) (qjf v0_0 v0_1 v0_2)) x0 x1 x2 x3:=by kernel_rfl
theorem qvi (D:DX)(n:Nat) (K:Ex→St→Option (Out ctx 119)):∀ (m:Nat) (x0:Int) (x1:List Int×Int×Int×Unit) (x2:(tSch)×
 qe×Unit) (x3:(tSch)×
 qe×Unit),LQ qc D n 119 [.r,.r,.l,.r,.l] m (qf3 x0 x1 x2 x3) K=qfw D n (fun v0_0 v0_1 v0_2=>K (Ex.exit 0) (qjf v0_0 v0_1 v0_2)) m x0 x1 x2 x3
 | 0,x0,x1,x2,x3=>qx ..
 | m+1,x0,x1,x2,x3=>by
  have ih:(fun x0 x1 x2 x3=>LQ qc D n 119 [.r,.r,.l,.r,.l] m (qf3 x0 x1 x2 x3) K)=qfw D n (fun v0_0 v0_1 v0_2=>K (Ex.exit 0) (qjf v0_0 v0_1 v0_2)) m:=by funext x0 x1 x2 x3;exact qvi D n K m x0 x1 x2 x3
  rw[q5q]
  rw[ih];rfl
theorem q4x (D:DX)(n:Nat) (v0_0:List Int×Int×Int×Unit) (v0_1:(tSch)×
 qe×Unit) (v0_2:(tSch)×
 qe×Unit) :
 (CQ qc D n 119 [] [.r,.r,.l,.r,.l] (qi qc 119)) (Ex.exit 0) (qjf v0_0 v0_1 v0_2)=qm4 D n v0_0 v0_1 v0_2:=by kernel_rfl
theorem q49 (D:DX)(n:Nat) (x0:Int) (x1:List Int×Int×Int×Unit) (x2:(tSch)×
 qe×Unit) (x3:(tSch)×
 qe×Unit) :
 LQ qc D n 119 [.r,.r,.l,.r,.l] n (qf3 x0 x1 x2 x3) (CQ qc D n 119 [] [.r,.r,.l,.r,.l] (qi qc 119))=qof D n x0 x1 x2 x3:=by
 rw[qvi]
 simp only[q4x]
 rfl
theorem q8y (D:DX)(n:Nat) (a0:List Int×Int×Int×Unit):rfC qc D n 119 (a0,())=qqn D n a0:=by
 have h:rfC qc D n 119 (a0,())=qqj D n (fun x0 x1 x2 x3=>LQ qc D n 119 [.r,.r,.l,.r,.l] n (qf3 x0 x1 x2 x3) (CQ qc D n 119 [] [.r,.r,.l,.r,.l] (qi qc 119))) a0:=by kernel_rfl
 rw[h]
 simp only[q49]
 rfl





def q5j (D:DX)(n:Nat) (a0:(tSch)×qe×Unit):Option ((((tSch)×qe×Unit)×Unit)×Unit):=qh (qsw D (Prod.fst a0)) fun b↦qh (qi0 D (Prod.fst (Prod.snd a0))) fun b_1↦some ((((Prod.fst (Prod.fst (Prod.fst b)),Prod.fst (Prod.snd (Prod.fst (Prod.fst b))),Prod.fst (Prod.snd (Prod.snd (Prod.fst (Prod.fst b)))),()),Prod.fst (Prod.fst b_1),()),()),())
def qxu (D:DX)(n:Nat) (a0:(tSch)×qe×Unit):Option ((((tSch)×qe×Unit)×Unit)×Unit):=q5j D n a0
theorem qbhe (D:DX)(n:Nat) (a0:(tSch)×
 qe×Unit):rfC qc D n 124 (a0,())=qxu D n a0:=by kernel_rfl

def q0v (D:DX)(n:Nat) (go:qd→Int→(tSch)×qe×Unit→Option ((Int×Unit)×Unit)) (K0:Int→Option ((Int×Unit)×Unit)) (K1:Option ((Int×Unit)×Unit)) (x0:qd) (x1:Int) (x2:(tSch)×qe×Unit):Option ((Int×Unit)×Unit):=br (decide (x1<(↑(List.length (Prod.fst (Prod.snd x2))):Int))) (br (decide (0≤x1)&&decide (x1<(↑(List.length (Prod.fst (Prod.snd x2))):Int))) (qh (qdq D (Prod.fst x2) (List.getD (Prod.fst (Prod.snd x2)) (Int.toNat x1) [])) fun b↦qh (qss D (Prod.fst (Prod.fst b)) x0) fun b↦br (Prod.fst (Prod.fst b)) (K0 x1) (go x0 (IntKind.wrap IntKind.i64 (x1+1)) x2)) none) K1
def qll (D:DX)(n:Nat) (K0:Int→Option ((Int×Unit)×Unit)) (K1:Option ((Int×Unit)×Unit)):Nat→(qd)→(Int)→((tSch)×qe×Unit)→Option ((Int×Unit)×Unit) | 0=>(fun x0 x1 x2=>none) | m+1=>(fun x0 x1 x2=>q0v D n (qll D n K0 K1 m) K0 K1 x0 x1 x2)
def q4c (D:DX)(n:Nat) (v0_0:Int):Option ((Int×Unit)×Unit):=some ((v0_0,()),())
def q4s (D:DX)(n:Nat):Option ((Int×Unit)×Unit):=some ((-1,()),())
def qxw (D:DX)(n:Nat):(qd)→(Int)→((tSch)×qe×Unit)→Option ((Int×Unit)×Unit):=(fun x0 x1 x2=>qll D n (fun v0_0=>q4c D n v0_0) (q4s D n) n x0 x1 x2)
def q2t (D:DX)(n:Nat) (lp0:qd→Int→(tSch)×qe×Unit→Option ((Int×Unit)×Unit)) (a0:(tSch)×qe×Unit) (a1:qd):Option ((Int×Unit)×Unit):=lp0 a1 0 a0
def q3g (D:DX)(n:Nat) (a0:(tSch)×qe×Unit) (a1:qd):Option ((Int×Unit)×Unit):=q2t D n (qxw D n) a0 a1
def qlm (x0:qd) (x1:Int) (x2:(tSch)×qe×Unit):St:=stq 24 [(1,AV.val (Ty.sl yV) x0),(2,AV.addr 2 []),(5,avI x1)] [(2,Root.mk (Ty.pair yS (Ty.pair (Ty.sl (Ty.sl yV)) Ty.unit)) Mk.no x2 true)] 
def qqs (v0_0:Int):St:=stq 24 [(4,avI v0_0)] [] 
def qqu:St:=stq 24 [] [] 
theorem qbg4 (D:DX)(n:Nat) (m:Nat) (K:Ex→St→Option (Out ctx 125)) (x0:qd) (x1:Int) (x2:(tSch)×
 qe×Unit) :
 LQ qc D n 125 [.r,.l,.r,.l] (m+1) (qlm x0 x1 x2) K=q0v D n (fun x0 x1 x2=>LQ qc D n 125 [.r,.l,.r,.l] m (qlm x0 x1 x2) K) (fun v0_0=>K (Ex.ret) (qqs v0_0)) (K (Ex.exit 0) (qqu)) x0 x1 x2:=by kernel_rfl
theorem q58 (D:DX)(n:Nat) (K:Ex→St→Option (Out ctx 125)):∀ (m:Nat) (x0:qd) (x1:Int) (x2:(tSch)×
 qe×Unit),LQ qc D n 125 [.r,.l,.r,.l] m (qlm x0 x1 x2) K=qll D n (fun v0_0=>K (Ex.ret) (qqs v0_0)) (K (Ex.exit 0) (qqu)) m x0 x1 x2
 | 0,x0,x1,x2=>qx ..
 | m+1,x0,x1,x2=>by
  have ih:(fun x0 x1 x2=>LQ qc D n 125 [.r,.l,.r,.l] m (qlm x0 x1 x2) K)=qll D n (fun v0_0=>K (Ex.ret) (qqs v0_0)) (K (Ex.exit 0) (qqu)) m:=by funext x0 x1 x2;exact q58 D n K m x0 x1 x2
  rw[qbg4]
  rw[ih];rfl
theorem qbgq (D:DX)(n:Nat) (v0_0:Int) :
 (CQ qc D n 125 [] [.r,.l,.r,.l] (qi qc 125)) (Ex.ret) (qqs v0_0)=q4c D n v0_0:=by kernel_rfl
theorem qbfv (D:DX)(n:Nat) :
 (CQ qc D n 125 [] [.r,.l,.r,.l] (qi qc 125)) (Ex.exit 0) (qqu)=q4s D n:=by kernel_rfl
theorem qbe7 (D:DX)(n:Nat) (x0:qd) (x1:Int) (x2:(tSch)×
 qe×Unit) :
 LQ qc D n 125 [.r,.l,.r,.l] n (qlm x0 x1 x2) (CQ qc D n 125 [] [.r,.l,.r,.l] (qi qc 125))=qxw D n x0 x1 x2:=by
 rw[q58]
 simp only[qbgq,qbfv]
 rfl
theorem qblb (D:DX)(n:Nat) (a0:(tSch)×
 qe×Unit) (a1:qd):rfC qc D n 125 (a0,(a1,()))=q3g D n a0 a1:=by
 have h:rfC qc D n 125 (a0,(a1,()))=q2t D n (fun x0 x1 x2=>LQ qc D n 125 [.r,.l,.r,.l] n (qlm x0 x1 x2) (CQ qc D n 125 [] [.r,.l,.r,.l] (qi qc 125))) a0 a1:=by kernel_rfl
 rw[h]
 simp only[qbe7]
 rfl

def qs3 (D:DX)(n:Nat) (go:qd→Int→Int→(tSch)×qe×Unit→Option ((Bool×Unit)×Unit)) (K0:Bool→Option ((Bool×Unit)×Unit)) (K1:Option ((Bool×Unit)×Unit)) (x0:qd) (x1:Int) (x2:Int) (x3:(tSch)×qe×Unit):Option ((Bool×Unit)×Unit):=br (decide (x2<(↑(List.length (Prod.fst (Prod.snd x3))):Int))) (br (x2 != x1) (br (decide (0≤x2)&&decide (x2<(↑(List.length (Prod.fst (Prod.snd x3))):Int))) (qh (qq5 D (Prod.fst x3) (List.getD (Prod.fst (Prod.snd x3)) (Int.toNat x2) []) x0) fun b↦br (Prod.fst (Prod.fst b)) (K0 true) (go x0 x1 (IntKind.wrap IntKind.i64 (x2+1)) x3)) none) (go x0 x1 (IntKind.wrap IntKind.i64 (x2+1)) x3)) K1
def qhq (D:DX)(n:Nat) (K0:Bool→Option ((Bool×Unit)×Unit)) (K1:Option ((Bool×Unit)×Unit)):Nat→(qd)→(Int)→(Int)→((tSch)×qe×Unit)→Option ((Bool×Unit)×Unit) | 0=>(fun x0 x1 x2 x3=>none) | m+1=>(fun x0 x1 x2 x3=>qs3 D n (qhq D n K0 K1 m) K0 K1 x0 x1 x2 x3)
def qxf (D:DX)(n:Nat) (v0_0:Bool):Option ((Bool×Unit)×Unit):=some ((v0_0,()),())
def qxi (D:DX)(n:Nat):Option ((Bool×Unit)×Unit):=some ((false,()),())
def qrs (D:DX)(n:Nat):(qd)→(Int)→(Int)→((tSch)×qe×Unit)→Option ((Bool×Unit)×Unit):=(fun x0 x1 x2 x3=>qhq D n (fun v0_0=>qxf D n v0_0) (qxi D n) n x0 x1 x2 x3)
def qu0 (D:DX)(n:Nat) (lp0:qd→Int→Int→(tSch)×qe×Unit→Option ((Bool×Unit)×Unit)) (a0:(tSch)×qe×Unit) (a1:qd) (a2:Int):Option ((Bool×Unit)×Unit):=lp0 a1 a2 0 a0
def qul (D:DX)(n:Nat) (a0:(tSch)×qe×Unit) (a1:qd) (a2:Int):Option ((Bool×Unit)×Unit):=qu0 D n (qrs D n) a0 a1 a2
def qhu (x0:qd) (x1:Int) (x2:Int) (x3:(tSch)×qe×Unit):St:=stq 29 [(1,AV.val (Ty.sl yV) x0),(2,avI x1),(3,AV.addr 3 []),(7,avI x2)] [(3,Root.mk (Ty.pair yS (Ty.pair (Ty.sl (Ty.sl yV)) Ty.unit)) Mk.no x3 true)] 
def qle (v0_0:Bool):St:=stq 29 [(6,AV.val Ty.bool v0_0)] [] 
def qlh:St:=stq 29 [] [] 
theorem qbax (D:DX)(n:Nat) (m:Nat) (K:Ex→St→Option (Out ctx 126)) (x0:qd) (x1:Int) (x2:Int) (x3:(tSch)×
 qe×Unit) :
 LQ qc D n 126 [.r,.l,.r,.l] (m+1) (qhu x0 x1 x2 x3) K=qs3 D n (fun x0 x1 x2 x3=>LQ qc D n 126 [.r,.l,.r,.l] m (qhu x0 x1 x2 x3) K) (fun v0_0=>K (Ex.ret) (qle v0_0)) (K (Ex.exit 0) (qlh)) x0 x1 x2 x3:=by kernel_rfl
theorem qzo (D:DX)(n:Nat) (K:Ex→St→Option (Out ctx 126)):∀ (m:Nat) (x0:qd) (x1:Int) (x2:Int) (x3:(tSch)×
 qe×Unit),LQ qc D n 126 [.r,.l,.r,.l] m (qhu x0 x1 x2 x3) K=qhq D n (fun v0_0=>K (Ex.ret) (qle v0_0)) (K (Ex.exit 0) (qlh)) m x0 x1 x2 x3
 | 0,x0,x1,x2,x3=>qx ..
 | m+1,x0,x1,x2,x3=>by
  have ih:(fun x0 x1 x2 x3=>LQ qc D n 126 [.r,.l,.r,.l] m (qhu x0 x1 x2 x3) K)=qhq D n (fun v0_0=>K (Ex.ret) (qle v0_0)) (K (Ex.exit 0) (qlh)) m:=by funext x0 x1 x2 x3;exact qzo D n K m x0 x1 x2 x3
  rw[qbax]
  rw[ih];rfl
theorem q8z (D:DX)(n:Nat) (v0_0:Bool) :
 (CQ qc D n 126 [] [.r,.l,.r,.l] (qi qc 126)) (Ex.ret) (qle v0_0)=qxf D n v0_0:=by kernel_rfl
theorem q86 (D:DX)(n:Nat) :
 (CQ qc D n 126 [] [.r,.l,.r,.l] (qi qc 126)) (Ex.exit 0) (qlh)=qxi D n:=by kernel_rfl
theorem q8s (D:DX)(n:Nat) (x0:qd) (x1:Int) (x2:Int) (x3:(tSch)×
 qe×Unit) :
 LQ qc D n 126 [.r,.l,.r,.l] n (qhu x0 x1 x2 x3) (CQ qc D n 126 [] [.r,.l,.r,.l] (qi qc 126))=qrs D n x0 x1 x2 x3:=by
 rw[qzo]
 simp only[q8z,q86]
 rfl
theorem qbel (D:DX)(n:Nat) (a0:(tSch)×
 qe×Unit) (a1:qd) (a2:Int):rfC qc D n 126 (a0,(a1,(a2,())))=qul D n a0 a1 a2:=by
 have h:rfC qc D n 126 (a0,(a1,(a2,())))=qu0 D n (fun x0 x1 x2 x3=>LQ qc D n 126 [.r,.l,.r,.l] n (qhu x0 x1 x2 x3) (CQ qc D n 126 [] [.r,.l,.r,.l] (qi qc 126))) a0 a1 a2:=by kernel_rfl
 rw[h]
 simp only[q8s]
 rfl


def qd4 (D:DX)(n:Nat) (a1:Clo) (go:qe→Int→Int→Option ((Int×Unit)×Unit)) (K0:Int→Option ((Int×Unit)×Unit)) (K1:Option ((Int×Unit)×Unit)) (x0:qe) (x1:Int) (x2:Int):Option ((Int×Unit)×Unit):=br (decide (x2<x1)) (br (decide (0≤x2)&&decide (x2<(↑(List.length x0):Int))) (qh (qbp ctx D a1 [CapV.val (Ty.sl (Ty.pair (Ty.int IntKind.i64) (Ty.pair (Ty.int IntKind.i64) (Ty.pair Ty.str Ty.unit)))) (List.getD x0 (Int.toNat x2) [])] Ty.bool) fun b↦br b (K0 x2) (go x0 x1 (IntKind.wrap IntKind.i64 (x2+1)))) none) K1
def qbs (D:DX)(n:Nat) (a1:Clo) (K0:Int→Option ((Int×Unit)×Unit)) (K1:Option ((Int×Unit)×Unit)):Nat→(qe)→(Int)→(Int)→Option ((Int×Unit)×Unit) | 0=>(fun x0 x1 x2=>none) | m+1=>(fun x0 x1 x2=>qd4 D n a1 (qbs D n a1 K0 K1 m) K0 K1 x0 x1 x2)
def qgq (D:DX)(n:Nat) (a1:Clo) (v0_0:Int):Option ((Int×Unit)×Unit):=some ((v0_0,()),())
def qgs (D:DX)(n:Nat) (a1:Clo):Option ((Int×Unit)×Unit):=some ((-1,()),())
def qdz (D:DX)(n:Nat) (a1:Clo):(qe)→(Int)→(Int)→Option ((Int×Unit)×Unit):=(fun x0 x1 x2=>qbs D n a1 (fun v0_0=>qgq D n a1 v0_0) (qgs D n a1) n x0 x1 x2)
def qee (D:DX)(n:Nat) (a1:Clo) (lp0:qe→Int→Int→Option ((Int×Unit)×Unit)) (a0:qe):Option ((Int×Unit)×Unit):=lp0 a0 (↑(List.length a0):Int) 0
def qef (D:DX)(n:Nat) (a0:qe) (a1:Clo):Option ((Int×Unit)×Unit):=qee D n a1 (qdz D n a1) a0
def qbt (a1:Clo) (x0:qe) (x1:Int) (x2:Int):St:=stq 19 [(0,AV.val (Ty.sl (Ty.sl yV)) x0),(1,AV.cloV a1),(7,avI x1),(8,avI x2)] [] 
def qc0 (a1:Clo) (v0_0:Int):St:=stq 19 [(4,avI v0_0)] [] 
def qcy (a1:Clo):St:=stq 19 [] [] 
theorem qn9 (D:DX)(n:Nat) (a1:Clo) (m:Nat) (K:Ex→St→Option (Out ctx 130)) (x0:qe) (x1:Int) (x2:Int) :
 LQ qc D n 130 [.r,.l,.r,.l] (m+1) (qbt a1 x0 x1 x2) K=qd4 D n a1 (fun x0 x1 x2=>LQ qc D n 130 [.r,.l,.r,.l] m (qbt a1 x0 x1 x2) K) (fun v0_0=>K (Ex.ret) (qc0 a1 v0_0)) (K (Ex.exit 0) (qcy a1)) x0 x1 x2:=by kernel_rfl
theorem qg6 (D:DX)(n:Nat) (a1:Clo) (K:Ex→St→Option (Out ctx 130)):∀ (m:Nat) (x0:qe) (x1:Int) (x2:Int),LQ qc D n 130 [.r,.l,.r,.l] m (qbt a1 x0 x1 x2) K=qbs D n a1 (fun v0_0=>K (Ex.ret) (qc0 a1 v0_0)) (K (Ex.exit 0) (qcy a1)) m x0 x1 x2
 | 0,x0,x1,x2=>qx ..
 | m+1,x0,x1,x2=>by
  have ih:(fun x0 x1 x2=>LQ qc D n 130 [.r,.l,.r,.l] m (qbt a1 x0 x1 x2) K)=qbs D n a1 (fun v0_0=>K (Ex.ret) (qc0 a1 v0_0)) (K (Ex.exit 0) (qcy a1)) m:=by funext x0 x1 x2;exact qg6 D n a1 K m x0 x1 x2
  rw[qn9]
  rw[ih];rfl
theorem qnm (D:DX)(n:Nat) (a1:Clo) (v0_0:Int) :
 (CQ qc D n 130 [] [.r,.l,.r,.l] (qi qc 130)) (Ex.ret) (qc0 a1 v0_0)=qgq D n a1 v0_0:=by kernel_rfl
theorem qnj (D:DX)(n:Nat) (a1:Clo) :
 (CQ qc D n 130 [] [.r,.l,.r,.l] (qi qc 130)) (Ex.exit 0) (qcy a1)=qgs D n a1:=by kernel_rfl
theorem qnf (D:DX)(n:Nat) (a1:Clo) (x0:qe) (x1:Int) (x2:Int) :
 LQ qc D n 130 [.r,.l,.r,.l] n (qbt a1 x0 x1 x2) (CQ qc D n 130 [] [.r,.l,.r,.l] (qi qc 130))=qdz D n a1 x0 x1 x2:=by
 rw[qg6]
 simp only[qnm,qnj]
 rfl
theorem qot (D:DX)(n:Nat) (a0:qe) (a1:Clo):rfC qc D n 130 (a0,(a1,()))=qef D n a0 a1:=by
 have h:rfC qc D n 130 (a0,(a1,()))=qee D n a1 (fun x0 x1 x2=>LQ qc D n 130 [.r,.l,.r,.l] n (qbt a1 x0 x1 x2) (CQ qc D n 130 [] [.r,.l,.r,.l] (qi qc 130))) a0:=by kernel_rfl
 rw[h]
 simp only[qnf]
 rfl



def qv2 (D:DX)(n:Nat) (go:Int→tSch→tSch→tSch→Option (((tSch)×Unit)×Unit)) (K0:tSch→tSch→Option (((tSch)×Unit)×Unit)) (x0:Int) (x1:tSch) (x2:tSch) (x3:tSch):Option (((tSch)×Unit)×Unit):=br (decide (x0<(↑(List.length (Prod.fst (Prod.snd (Prod.snd x1)))):Int))) (br (decide (0≤x0)&&decide (x0<(↑(List.length (Prod.fst (Prod.snd (Prod.snd x1)))):Int))) (br (decide (0+List.length (Prod.fst (Prod.snd (List.getD (Prod.fst (Prod.snd (Prod.snd x1))) (Int.toNat x0) (ByteArray.empty,[],false,()))))≤q9)) (br (decide (List.length (Prod.fst (Prod.snd (Prod.snd x3)))+1≤q9)) (go (IntKind.wrap IntKind.i64 (x0+1)) x1 x2 (Prod.fst x3,Prod.fst (Prod.snd x3),Prod.fst (Prod.snd (Prod.snd x3))++[(Prod.fst (List.getD (Prod.fst (Prod.snd (Prod.snd x1))) (Int.toNat x0) (ByteArray.empty,[],false,())),[]++Prod.fst (Prod.snd (List.getD (Prod.fst (Prod.snd (Prod.snd x1))) (Int.toNat x0) (ByteArray.empty,[],false,()))),Prod.fst (Prod.snd (Prod.snd (List.getD (Prod.fst (Prod.snd (Prod.snd x1))) (Int.toNat x0) (ByteArray.empty,[],false,())))),())],Prod.snd (Prod.snd (Prod.snd x3)))) none) none) none) (K0 x2 x3)
def qj1 (D:DX)(n:Nat) (K0:tSch→tSch→Option (((tSch)×Unit)×Unit)):Nat→(Int)→(tSch)→(tSch)→(tSch)→Option (((tSch)×Unit)×Unit) | 0=>(fun x0 x1 x2 x3=>none) | m+1=>(fun x0 x1 x2 x3=>qv2 D n (qj1 D n K0 m) K0 x0 x1 x2 x3)
def q10 (D:DX)(n:Nat) (v0_0:tSch) (v0_1:tSch):Option (((tSch)×Unit)×Unit):=some (((Prod.fst v0_1,Prod.fst (Prod.snd v0_1),Prod.fst (Prod.snd (Prod.snd v0_1)),()),()),())
def qun (D:DX)(n:Nat):(Int)→(tSch)→(tSch)→(tSch)→Option (((tSch)×Unit)×Unit):=(fun x0 x1 x2 x3=>qj1 D n (fun v0_0 v0_1=>q10 D n v0_0 v0_1) n x0 x1 x2 x3)
def qzg (D:DX)(n:Nat) (lp0:Int→tSch→tSch→tSch→Option (((tSch)×Unit)×Unit)) (a0:tSch):Option (((tSch)×Unit)×Unit):=br (decide (0+List.length (Prod.fst a0)≤q9)) (br (decide (0+List.length (Prod.fst (Prod.snd a0))≤q9)) (lp0 0 a0 ([],[],[],()) ([]++Prod.fst a0,[]++Prod.fst (Prod.snd a0),[],())) none) none
def qy5 (D:DX)(n:Nat) (a0:tSch):Option (((tSch)×Unit)×Unit):=qzg D n (qun D n) a0
def qj0 (x0:Int) (x1:tSch) (x2:tSch) (x3:tSch):St:=stq 42 [(1,AV.addr 1 []),(2,AV.addr 2 []),(3,AV.addr 3 []),(4,avI x0)] [(1,Root.mk yS Mk.no x1 true),(2,Root.mk yS (Mk.pr (Mk.own 0 (Mk.pr Mk.no (Mk.pr Mk.no (Mk.pr Mk.no Mk.no)))) (Mk.pr (Mk.own 0 Mk.no) (Mk.pr (Mk.own 0 (Mk.pr Mk.no (Mk.pr (Mk.own 0 Mk.no) (Mk.pr Mk.no Mk.no)))) Mk.no))) x2 true),(3,Root.mk yS (Mk.pr (Mk.own 0 (Mk.pr Mk.no (Mk.pr Mk.no (Mk.pr Mk.no Mk.no)))) (Mk.pr (Mk.own 0 Mk.no) (Mk.pr (Mk.own 0 (Mk.pr Mk.no (Mk.pr (Mk.own 0 Mk.no) (Mk.pr Mk.no Mk.no)))) Mk.no))) x3 true)] 
def qn0 (v0_0:tSch) (v0_1:tSch):St:=stq 42 [(2,AV.addr 2 []),(3,AV.addr 3 [])] [(2,Root.mk yS (Mk.pr (Mk.own 0 (Mk.pr Mk.no (Mk.pr Mk.no (Mk.pr Mk.no Mk.no)))) (Mk.pr (Mk.own 0 Mk.no) (Mk.pr (Mk.own 0 (Mk.pr Mk.no (Mk.pr (Mk.own 0 Mk.no) (Mk.pr Mk.no Mk.no)))) Mk.no))) v0_0 true),(3,Root.mk yS (Mk.pr (Mk.own 0 (Mk.pr Mk.no (Mk.pr Mk.no (Mk.pr Mk.no Mk.no)))) (Mk.pr (Mk.own 0 Mk.no) (Mk.pr (Mk.own 0 (Mk.pr Mk.no (Mk.pr (Mk.own 0 Mk.no) (Mk.pr Mk.no Mk.no)))) Mk.no))) v0_1 true)] 
theorem qbd6 (D:DX)(n:Nat) (m:Nat) (K:Ex→St→Option (Out ctx 134)) (x0:Int) (x1:tSch) (x2:tSch) (x3:tSch) :
 LQ qc D n 134 [.r,.r,.l,.r,.l] (m+1) (qj0 x0 x1 x2 x3) K=qv2 D n (fun x0 x1 x2 x3=>LQ qc D n 134 [.r,.r,.l,.r,.l] m (qj0 x0 x1 x2 x3) K) (fun v0_0 v0_1=>K (Ex.exit 0) (qn0 v0_0 v0_1)) x0 x1 x2 x3:=by kernel_rfl
theorem q3r (D:DX)(n:Nat) (K:Ex→St→Option (Out ctx 134)):∀ (m:Nat) (x0:Int) (x1:tSch) (x2:tSch) (x3:tSch),LQ qc D n 134 [.r,.r,.l,.r,.l] m (qj0 x0 x1 x2 x3) K=qj1 D n (fun v0_0 v0_1=>K (Ex.exit 0) (qn0 v0_0 v0_1)) m x0 x1 x2 x3
 | 0,x0,x1,x2,x3=>qx ..
 | m+1,x0,x1,x2,x3=>by
  have ih:(fun x0 x1 x2 x3=>LQ qc D n 134 [.r,.r,.l,.r,.l] m (qj0 x0 x1 x2 x3) K)=qj1 D n (fun v0_0 v0_1=>K (Ex.exit 0) (qn0 v0_0 v0_1)) m:=by funext x0 x1 x2 x3;exact q3r D n K m x0 x1 x2 x3
  rw[qbd6]
  rw[ih];rfl
theorem qbci (D:DX)(n:Nat) (v0_0:tSch) (v0_1:tSch) :
 (CQ qc D n 134 [] [.r,.r,.l,.r,.l] (qi qc 134)) (Ex.exit 0) (qn0 v0_0 v0_1)=q10 D n v0_0 v0_1:=by kernel_rfl
theorem qbb3 (D:DX)(n:Nat) (x0:Int) (x1:tSch) (x2:tSch) (x3:tSch) :
 LQ qc D n 134 [.r,.r,.l,.r,.l] n (qj0 x0 x1 x2 x3) (CQ qc D n 134 [] [.r,.r,.l,.r,.l] (qi qc 134))=qun D n x0 x1 x2 x3:=by
 rw[q3r]
 simp only[qbci]
 rfl
theorem qbhh (D:DX)(n:Nat) (a0:tSch):rfC qc D n 134 (a0,())=qy5 D n a0:=by
 have h:rfC qc D n 134 (a0,())=qzg D n (fun x0 x1 x2 x3=>LQ qc D n 134 [.r,.r,.l,.r,.l] n (qj0 x0 x1 x2 x3) (CQ qc D n 134 [] [.r,.r,.l,.r,.l] (qi qc 134))) a0:=by kernel_rfl
 rw[h]
 simp only[qbb3]
 rfl




def qwu (D:DX)(n:Nat) (go:qe→Int→qe→Option ((qe×Unit)×Unit)) (K0:qe→Option ((qe×Unit)×Unit)) (x0:qe) (x1:Int) (x2:qe):Option ((qe×Unit)×Unit):=br (decide (x1<(↑(List.length x0):Int))) (br (decide (0≤x1)&&decide (x1<(↑(List.length x0):Int))) (br (decide (0+List.length (List.getD x0 (Int.toNat x1) [])≤q9)) (br (decide (List.length x2+1≤q9)) (go x0 (IntKind.wrap IntKind.i64 (x1+1)) (x2++[[]++List.getD x0 (Int.toNat x1) []])) none) none) none) (K0 x2)
def qj3 (D:DX)(n:Nat) (K0:qe→Option ((qe×Unit)×Unit)):Nat→(qe)→(Int)→(qe)→Option ((qe×Unit)×Unit) | 0=>(fun x0 x1 x2=>none) | m+1=>(fun x0 x1 x2=>qwu D n (qj3 D n K0 m) K0 x0 x1 x2)
def q1h (D:DX)(n:Nat) (v0_0:qe):Option ((qe×Unit)×Unit):=some ((v0_0,()),())
def qt4 (D:DX)(n:Nat):(qe)→(Int)→(qe)→Option ((qe×Unit)×Unit):=(fun x0 x1 x2=>qj3 D n (fun v0_0=>q1h D n v0_0) n x0 x1 x2)
def qyu (D:DX)(n:Nat) (lp0:qe→Int→qe→Option ((qe×Unit)×Unit)) (a0:qe):Option ((qe×Unit)×Unit):=lp0 a0 0 []
def qyg (D:DX)(n:Nat) (a0:qe):Option ((qe×Unit)×Unit):=qyu D n (qt4 D n) a0
def qjq (x0:qe) (x1:Int) (x2:qe):St:=stq 22 [(0,AV.val (Ty.sl (Ty.sl yV)) x0),(3,AV.brw 3 [] 0),(4,avI x1)] [(3,Root.mk (Ty.sl (Ty.sl yV)) (Mk.own 0 (Mk.own 0 (Mk.pr Mk.no (Mk.pr Mk.no (Mk.pr Mk.no Mk.no))))) x2 false)] 
def qnq (v0_0:qe):St:=stq 22 [(3,AV.brw 3 [] 0)] [(3,Root.mk (Ty.sl (Ty.sl yV)) (Mk.own 0 (Mk.own 0 (Mk.pr Mk.no (Mk.pr Mk.no (Mk.pr Mk.no Mk.no))))) v0_0 false)] 
theorem qbeo (D:DX)(n:Nat) (m:Nat) (K:Ex→St→Option (Out ctx 138)) (x0:qe) (x1:Int) (x2:qe) :
 LQ qc D n 138 [.r,.r,.l,.r,.l] (m+1) (qjq x0 x1 x2) K=qwu D n (fun x0 x1 x2=>LQ qc D n 138 [.r,.r,.l,.r,.l] m (qjq x0 x1 x2) K) (fun v0_0=>K (Ex.exit 0) (qnq v0_0)) x0 x1 x2:=by kernel_rfl
theorem q26 (D:DX)(n:Nat) (K:Ex→St→Option (Out ctx 138)):∀ (m:Nat) (x0:qe) (x1:Int) (x2:qe),LQ qc D n 138 [.r,.r,.l,.r,.l] m (qjq x0 x1 x2) K=qj3 D n (fun v0_0=>K (Ex.exit 0) (qnq v0_0)) m x0 x1 x2
 | 0,x0,x1,x2=>qx ..
 | m+1,x0,x1,x2=>by
  have ih:(fun x0 x1 x2=>LQ qc D n 138 [.r,.r,.l,.r,.l] m (qjq x0 x1 x2) K)=qj3 D n (fun v0_0=>K (Ex.exit 0) (qnq v0_0)) m:=by funext x0 x1 x2;exact q26 D n K m x0 x1 x2
  rw[qbeo]
  rw[ih];rfl
theorem qbbl (D:DX)(n:Nat) (v0_0:qe) :
 (CQ qc D n 138 [] [.r,.r,.l,.r,.l] (qi qc 138)) (Ex.exit 0) (qnq v0_0)=q1h D n v0_0:=by kernel_rfl
theorem qbce (D:DX)(n:Nat) (x0:qe) (x1:Int) (x2:qe) :
 LQ qc D n 138 [.r,.r,.l,.r,.l] n (qjq x0 x1 x2) (CQ qc D n 138 [] [.r,.r,.l,.r,.l] (qi qc 138))=qt4 D n x0 x1 x2:=by
 rw[q26]
 simp only[qbbl]
 rfl
theorem qbhm (D:DX)(n:Nat) (a0:qe):rfC qc D n 138 (a0,())=qyg D n a0:=by
 have h:rfC qc D n 138 (a0,())=qyu D n (fun x0 x1 x2=>LQ qc D n 138 [.r,.r,.l,.r,.l] n (qjq x0 x1 x2) (CQ qc D n 138 [] [.r,.r,.l,.r,.l] (qi qc 138))) a0:=by kernel_rfl
 rw[h]
 simp only[qbce]
 rfl

def q56 (D:DX)(n:Nat) (a0:List Int×Int×Int×Unit):Option ((((tSch)×qe×Unit)×Unit)×tCur×Unit):=qh (qql D a0) fun b↦qh (qcg D (Prod.fst (Prod.snd b)) 10) fun b_1↦br (decide (Prod.fst (Prod.fst b_1)=0)) (qh (qy8 D (Prod.fst (Prod.snd b_1))) fun b_2↦some (((Prod.fst (Prod.fst b_2),Prod.fst (Prod.snd (Prod.fst (Prod.fst b))),()),()),Prod.fst (Prod.snd b_2),())) (br (decide (Prod.fst (Prod.fst b_1)=1)) (qh (qnr D (Prod.fst (Prod.snd b_1)) (Prod.fst (Prod.fst (Prod.fst b)))) fun b_2↦br (decide (List.length (Prod.fst (Prod.snd (Prod.fst (Prod.fst b))))+1≤q9)) (some (((Prod.fst (Prod.fst (Prod.fst b)),Prod.fst (Prod.snd (Prod.fst (Prod.fst b)))++[Prod.fst (Prod.fst b_2)],()),()),Prod.fst (Prod.snd b_2),())) none) (some (((Prod.fst (Prod.fst (Prod.fst b)),Prod.fst (Prod.snd (Prod.fst (Prod.fst b))),()),()),Prod.fst (Prod.snd b_1),())))
def qxp (D:DX)(n:Nat) (a0:List Int×Int×Int×Unit):Option ((((tSch)×qe×Unit)×Unit)×tCur×Unit):=q56 D n a0
theorem qbh5 (D:DX)(n:Nat) (a0:List Int×Int×Int×Unit):rfC qc D n 140 (a0,())=qxp D n a0:=by kernel_rfl

def q8d (D:DX)(n:Nat) (a0:List tWay) (a1:ByteArray×ByteArray×Unit):Option ((List tWay×Unit)×Unit):=qh (qgv D a0) fun b↦qh (qfi D a0 (Clo.mk 183 [CapV.rptr (Ty.pair Ty.str (Ty.pair Ty.str Ty.unit)) a1])) fun b_1↦br (decide (Prod.fst (Prod.fst b_1)<0)) (qh (qcm D (Prod.fst (Prod.fst b)) (↑(List.length a0):Int) [a1]) fun b↦some ((Prod.fst (Prod.fst b),()),())) (br (decide (0≤Prod.fst (Prod.fst b_1))&&decide (Prod.fst (Prod.fst b_1)<(↑(List.length a0):Int))) (br (qkl (Ty.pair Ty.str (Ty.pair Ty.str Ty.unit)) (List.getD a0 (Int.toNat (Prod.fst (Prod.fst b_1))) (ByteArray.empty,ByteArray.empty,())) a1) (some ((Prod.fst (Prod.fst b),()),())) (qh (qcm D (Prod.fst (Prod.fst b)) (Prod.fst (Prod.fst b_1)) [a1]) fun b↦some ((Prod.fst (Prod.fst b),()),()))) none)
def q1d (D:DX)(n:Nat) (a0:List tWay) (a1:ByteArray×ByteArray×Unit):Option ((List tWay×Unit)×Unit):=q8d D n a0 a1
theorem qbkq (D:DX)(n:Nat) (a0:List tWay) (a1:ByteArray×ByteArray×Unit):rfC qc D n 141 (a0,(a1,()))=q1d D n a0 a1:=by kernel_rfl
end
end Go.G


import Derived.Test.YtfafjngknkbngaaGreatAV3
set_option linter.unusedVariables false
set_option linter.unusedSimpArgs false
set_option linter.unusedSectionVars false
namespace Go.G
open Go Go.V
abbrev DX:=Den ctx
abbrev tVal:=Int×Int×ByteArray×Unit
abbrev qd:=List tVal
abbrev qf:=List qd
abbrev tIx:=ByteArray×List Int×Bool×Unit
abbrev tIxs:=List tIx
abbrev tCol:=ByteArray×Int×Bool×Unit
abbrev qhq:=List tCol
abbrev tSch:=qhq×List Int×tIxs×Unit
abbrev tWay:=ByteArray×ByteArray×Unit
abbrev tCur:=List Int×Int×Int×Unit
abbrev avI:=AV.val (Ty.int IntKind.i64)
abbrev yI:=Ty.int IntKind.i64
abbrev yC:=Ty.pair Ty.str (Ty.pair yI (Ty.pair Ty.bool Ty.unit))
abbrev yX:=Ty.pair Ty.str (Ty.pair (Ty.sl yI) (Ty.pair Ty.bool Ty.unit))
abbrev yV:=Ty.pair yI (Ty.pair yI (Ty.pair Ty.str Ty.unit))
abbrev yS:=Ty.pair (Ty.sl yC) (Ty.pair (Ty.sl yI) (Ty.pair (Ty.sl yX) Ty.unit))
end Go.G
namespace Go.G
open Go Go.V
noncomputable def qbab (D:Den ctx) (a0:List Int):Option ((Bool×Unit)×Unit):=D 6 (a0,())
noncomputable def q9s (D:Den ctx) (a0:List Int):Option ((Bool×Unit)×Unit):=D 11 (a0,())
noncomputable def q2g (D:Den ctx) (a0:(tSch)×qf×Unit) (a1:Int):Option ((List tWay×Unit)×Unit):=D 13 (a0,(a1,()))
noncomputable def q4h (D:Den ctx) (a0:(tSch)×qf×Unit):Option ((Bool×Unit)×Unit):=D 17 (a0,())
noncomputable def q41 (D:Den ctx) (a0:(tSch)×qf×Unit) (a1:Int) (a2:qd):Option ((tWay×Bool×Unit)×Unit):=D 19 (a0,(a1,(a2,())))
noncomputable def qm2 (D:Den ctx) (a0:List tWay) (a1:List tWay):Option ((Bool×Unit)×Unit):=D 20 (a0,(a1,()))
noncomputable def qu6 (D:Den ctx) (a0:List tWay) (a1:ByteArray×ByteArray×Unit):Option ((List tWay×Unit)×Unit):=D 21 (a0,(a1,()))
noncomputable def qm7 (D:Den ctx) (a0:tSch) (a1:qd):Option ((qd×Unit)×Unit):=D 23 (a0,(a1,()))
noncomputable def q2n (D:Den ctx) (a0:List tWay) (a1:ByteArray×ByteArray×Unit):Option ((List tWay×Unit)×Unit):=D 25 (a0,(a1,()))
noncomputable def q1v (D:Den ctx) (a0:(tSch)×qf×Unit) (a1:qd):Option ((((tSch)×qf×Unit)×Int×Unit)×Unit):=D 28 (a0,(a1,()))
noncomputable def q2p (D:Den ctx) (a0:(tSch)×qf×Unit) (a1:qd):Option ((((tSch)×qf×Unit)×Int×Unit)×Unit):=D 30 (a0,(a1,()))
noncomputable def q0t (D:Den ctx) (a0:(tSch)×qf×Unit) (a1:qd):Option ((((tSch)×qf×Unit)×Int×Unit)×Unit):=D 32 (a0,(a1,()))
noncomputable def q1z (D:Den ctx) (a0:tSch):Option ((((tSch)×qf×Unit)×Bool×Unit)×Unit):=D 38 (a0,())
noncomputable def qlm (D:Den ctx) (a0:(tSch)×qf×Unit):Option ((Bool×Unit)×Unit):=D 41 (a0,())
noncomputable def quh (D:Den ctx) (a0:List Int):Option ((List tWay×tWay×Unit)×Unit):=D 42 (a0,())
noncomputable def qus (D:Den ctx) (a0:List Int):Option ((List tWay×tWay×Unit)×Unit):=D 43 (a0,())
noncomputable def qsu (D:Den ctx) (a0:List Int):Option ((tWay×tWay×Unit)×Unit):=D 44 (a0,())
noncomputable def qvx (D:Den ctx) (a0:List Int):Option ((((tSch)×qf×Unit)×Int×qd×Unit)×Unit):=D 45 (a0,())
noncomputable def qxl (D:Den ctx) (a0:(tSch)×qf×Unit) (a1:Int) (a2:qd):Option ((tWay×Bool×Unit)×Unit):=D 46 (a0,(a1,(a2,())))
noncomputable def quf (D:Den ctx) (a0:List Int):Option ((((tSch)×qf×Unit)×Int×Unit)×Unit):=D 47 (a0,())
noncomputable def qqq (D:Den ctx) (a0:List tWay) (a1:ByteArray×ByteArray×Unit):Option ((List tWay×Unit)×Unit):=D 48 (a0,(a1,()))
noncomputable def q2y (D:Den ctx) (a0:List tWay) (a1:ByteArray×ByteArray×Unit):Option ((List tWay×Unit)×Unit):=D 49 (a0,(a1,()))
noncomputable def qlg (D:Den ctx) (a0:ByteArray×ByteArray×Unit) (a1:ByteArray×ByteArray×Unit):Option ((Bool×Unit)×Unit):=D 50 (a0,(a1,()))
noncomputable def qtt (D:Den ctx) (a0:ByteArray×ByteArray×Unit) (a1:ByteArray×ByteArray×Unit):Option ((Bool×Unit)×Unit):=D 51 (a0,(a1,()))
noncomputable def q2q (D:Den ctx) (a0:(tSch)×qf×Unit) (a1:Int):Option ((List tWay×Unit)×Unit):=D 52 (a0,(a1,()))
noncomputable def qlk (D:Den ctx) (a0:List Int):Option ((tCur×Unit)×Unit):=D 65 (a0,())
noncomputable def qri (D:Den ctx) (a0:List Int×Int×Int×Unit):Option ((((tSch)×qf×Unit)×Unit)×tCur×Unit):=D 66 (a0,())
noncomputable def quv (D:Den ctx) (a0:List Int×Int×Int×Unit) (a1:(tSch)×qf×Unit):Option ((qd×Unit)×tCur×Unit):=D 67 (a0,(a1,()))
noncomputable def qf5 (D:Den ctx) (a0:Int) (a1:Int) (a2:Int):Option ((Bool×Unit)×Unit):=D 68 (a0,(a1,(a2,())))
noncomputable def q32 (D:Den ctx) (a0:tSch) (a1:Int) (a2:qd):Option ((tWay×Unit)×Unit):=D 69 (a0,(a1,(a2,())))
noncomputable def qwz (D:Den ctx) (a0:tSch) (a1:qd):Option ((Bool×Unit)×Unit):=D 77 (a0,(a1,()))
noncomputable def qwh (D:Den ctx) (a0:qd) (a1:qd):Option ((Bool×Unit)×Unit):=D 78 (a0,(a1,()))
noncomputable def qcf (D:Den ctx) (a0:qf) (a1:Clo):Option ((Bool×Unit)×Unit):=D 79 (a0,(a1,()))
noncomputable def q7o (D:Den ctx) (a0:qd) (a1:(tSch)×qf×Unit) (a2:qd):Option ((Bool×Unit)×Unit):=D 80 (a0,(a1,(a2,())))
noncomputable def q4s (D:Den ctx) (a0:tSch) (a1:qd) (a2:qd):Option ((Bool×Unit)×Unit):=D 81 (a0,(a1,(a2,())))
noncomputable def qr2 (D:Den ctx) (a0:tSch):Option ((Bool×Unit)×Unit):=D 82 (a0,())
noncomputable def qew (D:Den ctx) (a0:qf) (a1:Clo):Option ((Int×Unit)×Unit):=D 86 (a0,(a1,()))
noncomputable def qex (D:Den ctx) (a0:List tWay):Option ((List tWay×Unit)×Unit):=D 90 (a0,())
noncomputable def qdx (D:Den ctx) (a0:List tWay) (a1:Clo):Option ((Int×Unit)×Unit):=D 91 (a0,(a1,()))
noncomputable def q6r (D:Den ctx) (a0:ByteArray×ByteArray×Unit) (a1:ByteArray×ByteArray×Unit):Option ((Bool×Unit)×Unit):=D 92 (a0,(a1,()))
noncomputable def qla (D:Den ctx) (a0:qd) (a1:List Int):Option ((qd×Unit)×Unit):=D 94 (a0,(a1,()))
noncomputable def qfg (D:Den ctx) (a0:List tWay) (a1:Clo):Option ((List tWay×Unit)×Unit):=D 96 (a0,(a1,()))
noncomputable def q5y (D:Den ctx) (a0:ByteArray×ByteArray×Unit) (a1:ByteArray×ByteArray×Unit):Option ((Bool×Unit)×Unit):=D 97 (a0,(a1,()))
noncomputable def qtk (D:Den ctx) (a0:List Int×Int×Int×Unit):Option ((((tSch)×qf×Unit)×Unit)×tCur×Unit):=D 98 (a0,())
noncomputable def qox (D:Den ctx) (a0:(tSch)×qf×Unit):Option ((((tSch)×qf×Unit)×Unit)×Unit):=D 99 (a0,())
noncomputable def qor (D:Den ctx) (a0:tSch) (a1:qd):Option ((Bool×Unit)×Unit):=D 100 (a0,(a1,()))
noncomputable def qsr (D:Den ctx) (a0:(tSch)×qf×Unit) (a1:qd):Option ((Int×Unit)×Unit):=D 101 (a0,(a1,()))
noncomputable def qd0 (D:Den ctx) (a0:tSch) (a1:qd):Option ((qd×Unit)×Unit):=D 102 (a0,(a1,()))
noncomputable def qp3 (D:Den ctx) (a0:(tSch)×qf×Unit) (a1:qd) (a2:Int):Option ((Bool×Unit)×Unit):=D 103 (a0,(a1,(a2,())))
noncomputable def qpj (D:Den ctx) (a0:qd) (a1:qd):Option ((Bool×Unit)×Unit):=D 104 (a0,(a1,()))
noncomputable def qi2 (D:Den ctx) (a0:qf):Option ((qf×Unit)×Unit):=D 105 (a0,())
noncomputable def qzy (D:Den ctx) (a0:List Int×Int×Int×Unit):Option (((tSch)×Unit)×tCur×Unit):=D 106 (a0,())
noncomputable def qtq (D:Den ctx) (a0:tSch):Option (((tSch)×Unit)×Unit):=D 108 (a0,())
noncomputable def qry (D:Den ctx) (a0:tSch) (a1:qd) (a2:qd):Option ((Bool×Unit)×Unit):=D 111 (a0,(a1,(a2,())))
noncomputable def qrs (D:Den ctx) (a0:tSch):Option ((Bool×Unit)×Unit):=D 112 (a0,())
noncomputable def qnd (D:Den ctx) (a0:List Int×Int×Int×Unit):Option ((List tWay×Unit)×tCur×Unit):=D 113 (a0,())
noncomputable def qf2 (D:Den ctx) (a0:List Int×Int×Int×Unit) (a1:Int):Option ((Bool×Unit)×tCur×Unit):=D 114 (a0,(a1,()))
noncomputable def qbj (D:Den ctx) (a0:List Int×Int×Int×Unit) (a1:Int):Option ((Int×Unit)×tCur×Unit):=D 115 (a0,(a1,()))
noncomputable def qdp (D:Den ctx) (a0:List Int×Int×Int×Unit):Option ((tWay×Unit)×tCur×Unit):=D 116 (a0,())
noncomputable def qgq (D:Den ctx) (a0:Int) (a1:Int) (a2:Int):Option ((Bool×Unit)×Unit):=D 117 (a0,(a1,(a2,())))
noncomputable def qoa (D:Den ctx) (a0:qd):Option ((List Int×Unit)×Unit):=D 118 (a0,())
noncomputable def qlb (D:Den ctx) (a0:qd) (a1:List Int):Option ((qd×Unit)×Unit):=D 119 (a0,(a1,()))
noncomputable def qls (D:Den ctx) (a0:List Int×Int×Int×Unit):Option (((tSch)×Unit)×tCur×Unit):=D 135 (a0,())
noncomputable def qkl (D:Den ctx) (a0:List Int×Int×Int×Unit) (a1:tSch):Option ((qd×Unit)×tCur×Unit):=D 136 (a0,(a1,()))
noncomputable def qod (D:Den ctx) (a0:qd):Option ((List Int×Unit)×Unit):=D 137 (a0,())
noncomputable def qtm (D:Den ctx) (a0:Int×Int×ByteArray×Unit):Option ((Bool×Unit)×Unit):=D 139 (a0,())
noncomputable def qcg (D:Den ctx) (a0:qd) (a1:qd) (a2:Clo):Option ((Int×Unit)×Unit):=D 140 (a0,(a1,(a2,())))
noncomputable def qzt (D:Den ctx) (a0:Int×Int×ByteArray×Unit) (a1:Int×Int×ByteArray×Unit):Option ((Int×Unit)×Unit):=D 141 (a0,(a1,()))
noncomputable def qcv (D:Den ctx) (a0:tIxs) (a1:Clo):Option ((Bool×Unit)×Unit):=D 142 (a0,(a1,()))
noncomputable def q75 (D:Den ctx) (a0:ByteArray×List Int×Bool×Unit) (a1:qd) (a2:qd):Option ((Bool×Unit)×Unit):=D 143 (a0,(a1,(a2,())))
noncomputable def qez (D:Den ctx) (a0:qd) (a1:Int×Int×ByteArray×Unit):Option ((Bool×Unit)×Unit):=D 144 (a0,(a1,()))
noncomputable def qfq (D:Den ctx) (a0:qd) (a1:qd):Option ((Bool×Unit)×Unit):=D 145 (a0,(a1,()))
noncomputable def qpw (D:Den ctx) (a0:ByteArray):Option ((Bool×Unit)×Unit):=D 146 (a0,())
noncomputable def q5u (D:Den ctx) (a0:tSch) (a1:ByteArray):Option ((Int×Unit)×Unit):=D 147 (a0,(a1,()))
noncomputable def qr7 (D:Den ctx) (a0:tSch) (a1:List Int) (a2:Int):Option ((Bool×Unit)×Unit):=D 148 (a0,(a1,(a2,())))
noncomputable def q3n (D:Den ctx) (a0:ByteArray×List Int×Bool×Unit) (a1:ByteArray×List Int×Bool×Unit):Option ((Bool×Unit)×Unit):=D 149 (a0,(a1,()))
noncomputable def qij (D:Den ctx) (a0:List Int) (a1:Clo):Option ((Bool×Unit)×Unit):=D 150 (a0,(a1,()))
noncomputable def q3k (D:Den ctx) (a0:Int) (a1:tSch):Option ((Bool×Unit)×Unit):=D 151 (a0,(a1,()))
noncomputable def qti (D:Den ctx) (a0:Int×Int×ByteArray×Unit):Option ((Bool×Unit)×Unit):=D 158 (a0,())
noncomputable def qtl (D:Den ctx) (a0:qd) (a1:qd):Option ((Bool×Unit)×Unit):=D 159 (a0,(a1,()))
noncomputable def qpr (D:Den ctx) (a0:Int×Int×ByteArray×Unit) (a1:Int×Int×ByteArray×Unit):Option ((Bool×Unit)×Unit):=D 160 (a0,(a1,()))
noncomputable def qvr (D:Den ctx) (a0:Int×Int×ByteArray×Unit) (a1:Int×Int×ByteArray×Unit):Option ((Bool×Unit)×Unit):=D 161 (a0,(a1,()))
noncomputable def qqb (D:Den ctx) (a0:List Int×Int×Int×Unit) (a1:List ByteArray):Option ((ByteArray×Unit)×tCur×Unit):=D 162 (a0,(a1,()))
noncomputable def qll (D:Den ctx) (a0:List Int×Int×Int×Unit) (a1:List Int):Option ((Int×Unit)×tCur×Unit):=D 163 (a0,(a1,()))
noncomputable def qzb (D:Den ctx) (a0:qd):Option ((Bool×Unit)×Unit):=D 165 (a0,())
noncomputable def qpf (D:Den ctx) (a0:ByteArray):Option ((Bool×Unit)×Unit):=D 166 (a0,())
noncomputable def q4e (D:Den ctx) (a0:tSch) (a1:ByteArray):Option ((Int×Unit)×Unit):=D 167 (a0,(a1,()))
noncomputable def qp1 (D:Den ctx) (a0:tSch) (a1:List Int) (a2:Int):Option ((Bool×Unit)×Unit):=D 168 (a0,(a1,(a2,())))
noncomputable def qt5 (D:Den ctx) (a0:tSch):Option ((Bool×Unit)×Unit):=D 169 (a0,())
noncomputable def qkh (D:Den ctx) (a0:List Int×Int×Int×Unit):Option ((Int×Unit)×tCur×Unit):=D 170 (a0,())
noncomputable def qoe (D:Den ctx) (a0:List Int×Int×Int×Unit):Option ((ByteArray×Unit)×tCur×Unit):=D 171 (a0,())
noncomputable def qts (D:Den ctx) (a0:qd):Option ((Bool×Unit)×Unit):=D 172 (a0,())
noncomputable def qxd (D:Den ctx) (a0:Int×Int×ByteArray×Unit):Option ((List Int×Unit)×Unit):=D 173 (a0,())
noncomputable def qpg (D:Den ctx) (a0:List Int×Int×Int×Unit) (a1:Int):Option ((tVal×Unit)×tCur×Unit):=D 190 (a0,(a1,()))
noncomputable def q0g (D:Den ctx) (a0:qd):Option ((Bool×Unit)×Unit):=D 191 (a0,())
noncomputable def qeq (D:Den ctx) (a0:tIxs) (a1:Clo):Option ((Int×Unit)×Unit):=D 193 (a0,(a1,()))
noncomputable def qfp (D:Den ctx) (a0:qd) (a1:Int×Int×ByteArray×Unit):Option ((Int×Unit)×Unit):=D 194 (a0,(a1,()))
noncomputable def qft (D:Den ctx) (a0:qhq) (a1:Clo):Option ((Int×Unit)×Unit):=D 195 (a0,(a1,()))
noncomputable def q8d (D:Den ctx) (a0:ByteArray×Int×Bool×Unit) (a1:ByteArray):Option ((Bool×Unit)×Unit):=D 196 (a0,(a1,()))
noncomputable def qkp (D:Den ctx) (a0:List Int) (a1:Int):Option ((Bool×Unit)×Unit):=D 197 (a0,(a1,()))
noncomputable def qkj (D:Den ctx) (a0:List Int) (a1:Clo):Option ((Int×Unit)×Unit):=D 198 (a0,(a1,()))
noncomputable def qd2 (D:Den ctx) (a0:qd) (a1:Clo):Option ((Bool×Unit)×Unit):=D 207 (a0,(a1,()))
noncomputable def q4l (D:Den ctx) (a0:Int×Int×ByteArray×Unit):Option ((Bool×Unit)×Unit):=D 208 (a0,())
noncomputable def qnl (D:Den ctx) (a0:List Int) (a1:Int):Option ((Int×Unit)×Unit):=D 210 (a0,(a1,()))
noncomputable def qef (D:Den ctx) (a0:qd) (a1:Clo):Option ((Int×Unit)×Unit):=D 213 (a0,(a1,()))
noncomputable def qsc (D:Den ctx) (a0:qf) (a1:Int) (a2:qf):Option ((qf×Unit)×Unit):=D 88 (a0,(a1,(a2,())))
noncomputable def qcm (D:Den ctx) (a0:List tWay) (a1:Int) (a2:List tWay):Option ((List tWay×Unit)×Unit):=D 93 (a0,(a1,(a2,())))
noncomputable def qsb (D:Den ctx) (a0:qf) (a1:Int) (a2:Int):Option ((qf×Unit)×Unit):=D 95 (a0,(a1,(a2,())))
noncomputable def q3o (D:Den ctx) (a0:ByteArray) (a1:ByteArray):Option ((Int×Unit)×Unit):=D 192 (a0,(a1,()))
end Go.G

namespace Go.G
set_option maxRecDepth 100000
set_option maxHeartbeats 0
open Go Go.V
noncomputable section
def qzv (D:DX)(n:Nat) (go:Int→ByteArray×ByteArray×Unit→List tWay→ByteArray×ByteArray×Unit→List tWay→ByteArray×ByteArray×Unit→ByteArray×ByteArray×Unit→Option ((Bool×Unit)×Unit)) (K0:Bool→ByteArray×ByteArray×Unit→List tWay→ByteArray×ByteArray×Unit→ByteArray×ByteArray×Unit→Option ((Bool×Unit)×Unit)) (K1:ByteArray×ByteArray×Unit→List tWay→ByteArray×ByteArray×Unit→ByteArray×ByteArray×Unit→Option ((Bool×Unit)×Unit)) (x0:Int) (x1:ByteArray×ByteArray×Unit) (x2:List tWay) (x3:ByteArray×ByteArray×Unit) (x4:List tWay) (x5:ByteArray×ByteArray×Unit) (x6:ByteArray×ByteArray×Unit):Option ((Bool×Unit)×Unit):=br (decide (x0<(↑(List.length x4):Int))) (br (decide (0≤x0)&&decide (x0<(↑(List.length x4):Int))) (br (qgg (Ty.pair Ty.str (Ty.pair Ty.str Ty.unit)) (List.getD x4 (Int.toNat x0) (ByteArray.empty,ByteArray.empty,())) x3) (K0 false x1 x2 x5 x6) (go (IntKind.wrap IntKind.i64 (x0+1)) x1 x2 x3 x4 x5 x6)) none) (K1 x1 x2 x5 x6)
def qkx (D:DX)(n:Nat) (K0:Bool→ByteArray×ByteArray×Unit→List tWay→ByteArray×ByteArray×Unit→ByteArray×ByteArray×Unit→Option ((Bool×Unit)×Unit)) (K1:ByteArray×ByteArray×Unit→List tWay→ByteArray×ByteArray×Unit→ByteArray×ByteArray×Unit→Option ((Bool×Unit)×Unit)):Nat→(Int)→tWay→(List tWay)→tWay→(List tWay)→tWay→tWay→Option ((Bool×Unit)×Unit) | 0=>(fun x0 x1 x2 x3 x4 x5 x6=>none) | m+1=>(fun x0 x1 x2 x3 x4 x5 x6=>qzv D n (qkx D n K0 K1 m) K0 K1 x0 x1 x2 x3 x4 x5 x6)
def qvk (D:DX)(n:Nat) (v0_0:Bool) (v0_1:ByteArray×ByteArray×Unit) (v0_2:List tWay) (v0_3:ByteArray×ByteArray×Unit) (v0_4:ByteArray×ByteArray×Unit):Option ((Bool×Unit)×Unit):=some ((v0_0,()),())
def qy9 (D:DX)(n:Nat) (go:Int→Int→ByteArray×ByteArray×Unit→List tWay→ByteArray×ByteArray×Unit→ByteArray×ByteArray×Unit→Option ((Bool×Unit)×Unit)) (K0:Int→ByteArray×ByteArray×Unit→ByteArray×ByteArray×Unit→Option ((Bool×Unit)×Unit)) (x1_0:Int) (x1_1:Int) (x1_2:ByteArray×ByteArray×Unit) (x1_3:List tWay) (x1_4:ByteArray×ByteArray×Unit) (x1_5:ByteArray×ByteArray×Unit):Option ((Bool×Unit)×Unit):=br (decide (x1_1<(↑(List.length x1_3):Int))) (br (decide (0≤x1_1)&&decide (x1_1<(↑(List.length x1_3):Int))) (br (qgg (Ty.pair Ty.str (Ty.pair Ty.str Ty.unit)) (List.getD x1_3 (Int.toNat x1_1) (ByteArray.empty,ByteArray.empty,())) x1_2) (go (IntKind.wrap IntKind.i64 (x1_0+1)) (IntKind.wrap IntKind.i64 (x1_1+1)) x1_2 x1_3 x1_4 x1_5) (go x1_0 (IntKind.wrap IntKind.i64 (x1_1+1)) x1_2 x1_3 x1_4 x1_5)) none) (K0 x1_0 x1_4 x1_5)
def qk3 (D:DX)(n:Nat) (K0:Int→ByteArray×ByteArray×Unit→ByteArray×ByteArray×Unit→Option ((Bool×Unit)×Unit)):Nat→(Int)→(Int)→tWay→(List tWay)→tWay→tWay→Option ((Bool×Unit)×Unit) | 0=>(fun x1_0 x1_1 x1_2 x1_3 x1_4 x1_5=>none) | m+1=>(fun x1_0 x1_1 x1_2 x1_3 x1_4 x1_5=>qy9 D n (qk3 D n K0 m) K0 x1_0 x1_1 x1_2 x1_3 x1_4 x1_5)
def qpa (D:DX)(n:Nat) (v0_0:Int) (v0_1:ByteArray×ByteArray×Unit) (v0_2:ByteArray×ByteArray×Unit):Option ((Bool×Unit)×Unit):=br (decide (v0_0≥1)) (qh (qlg D v0_1 v0_2) fun b↦br (Prod.fst (Prod.fst b)) (some ((true,()),())) (qh (qlg D v0_2 v0_1) fun b↦some ((bif Prod.fst (Prod.fst b) then true else qgg (Ty.pair Ty.str (Ty.pair Ty.str Ty.unit)) v0_1 v0_2,()),()))) (some ((false,()),()))
def qrm (D:DX)(n:Nat):(Int)→(Int)→tWay→(List tWay)→tWay→tWay→Option ((Bool×Unit)×Unit):=(fun x1_0 x1_1 x1_2 x1_3 x1_4 x1_5=>qk3 D n (fun v0_0 v0_1 v0_2=>qpa D n v0_0 v0_1 v0_2) n x1_0 x1_1 x1_2 x1_3 x1_4 x1_5)
def qp0 (D:DX)(n:Nat) (lp1:Int→Int→ByteArray×ByteArray×Unit→List tWay→ByteArray×ByteArray×Unit→ByteArray×ByteArray×Unit→Option ((Bool×Unit)×Unit)) (v1_0:ByteArray×ByteArray×Unit) (v1_1:List tWay) (v1_2:ByteArray×ByteArray×Unit) (v1_3:ByteArray×ByteArray×Unit):Option ((Bool×Unit)×Unit):=lp1 0 0 v1_0 v1_1 v1_2 v1_3
def qxj (D:DX)(n:Nat):(Int)→tWay→(List tWay)→tWay→(List tWay)→tWay→tWay→Option ((Bool×Unit)×Unit):=(fun x0 x1 x2 x3 x4 x5 x6=>qkx D n (fun v0_0 v0_1 v0_2 v0_3 v0_4=>qvk D n v0_0 v0_1 v0_2 v0_3 v0_4) (fun v1_0 v1_1 v1_2 v1_3=>qp0 D n (qrm D n) v1_0 v1_1 v1_2 v1_3) n x0 x1 x2 x3 x4 x5 x6)
def q15 (D:DX)(n:Nat) (lp0:Int→ByteArray×ByteArray×Unit→List tWay→ByteArray×ByteArray×Unit→List tWay→ByteArray×ByteArray×Unit→ByteArray×ByteArray×Unit→Option ((Bool×Unit)×Unit)) (a0:List Int):Option ((Bool×Unit)×Unit):=qh (q9s D a0) fun b↦br (Prod.fst (Prod.fst b)) (some ((true,()),())) (qh (quh D a0) fun b↦qh (qu6 D (Prod.fst (Prod.fst b)) (Prod.fst (Prod.snd (Prod.fst b)))) fun b_1↦qh (qus D a0) fun b_2↦qh (q2n D (Prod.fst (Prod.fst b_2)) (Prod.fst (Prod.snd (Prod.fst b_2)))) fun b_3↦qh (qsu D a0) fun b_4↦qh (qvx D a0) fun b_5↦qh (q41 D (Prod.fst (Prod.fst b_5)) (Prod.fst (Prod.snd (Prod.fst b_5))) (Prod.fst (Prod.snd (Prod.snd (Prod.fst b_5))))) fun b_6↦qh (qxl D (Prod.fst (Prod.fst b_5)) (Prod.fst (Prod.snd (Prod.fst b_5))) (Prod.fst (Prod.snd (Prod.snd (Prod.fst b_5))))) fun b_7↦qh (quf D a0) fun b_8↦qh (qqq D (Prod.fst (Prod.fst b)) (Prod.fst (Prod.snd (Prod.fst b)))) fun b_9↦qh (qm2 D (Prod.fst (Prod.fst b_1)) (Prod.fst (Prod.fst b_9))) fun b_10↦br (!Prod.fst (Prod.fst b_10)) (some ((false,()),())) (qh (q2y D (Prod.fst (Prod.fst b_2)) (Prod.fst (Prod.snd (Prod.fst b_2)))) fun b_11↦qh (qm2 D (Prod.fst (Prod.fst b_3)) (Prod.fst (Prod.fst b_11))) fun b_12↦br (!Prod.fst (Prod.fst b_12)) (some ((false,()),())) (qh (qlg D (Prod.fst (Prod.fst b_4)) (Prod.fst (Prod.snd (Prod.fst b_4)))) fun b_13↦qh (qtt D (Prod.fst (Prod.fst b_4)) (Prod.fst (Prod.snd (Prod.fst b_4)))) fun b_14↦br (bif bif !decide (Prod.fst (Prod.fst b_13)=Prod.fst (Prod.fst b_14)) then true else !qgg (Ty.pair Ty.str (Ty.pair Ty.str Ty.unit)) (Prod.fst (Prod.fst b_6)) (Prod.fst (Prod.fst b_7)) then true else !decide (Prod.fst (Prod.snd (Prod.fst b_6))=Prod.fst (Prod.snd (Prod.fst b_7)))) (some ((false,()),())) (qh (q2g D (Prod.fst (Prod.fst b_8)) (Prod.fst (Prod.snd (Prod.fst b_8)))) fun b_15↦qh (q2q D (Prod.fst (Prod.fst b_8)) (Prod.fst (Prod.snd (Prod.fst b_8)))) fun b_16↦qh (qm2 D (Prod.fst (Prod.fst b_15)) (Prod.fst (Prod.fst b_16))) fun b_17↦br (!Prod.fst (Prod.fst b_17)) (some ((false,()),())) (lp0 0 (Prod.fst (Prod.snd (Prod.fst b))) (Prod.fst (Prod.fst b_1)) (Prod.fst (Prod.snd (Prod.fst b_2))) (Prod.fst (Prod.fst b_3)) (Prod.fst (Prod.fst b_4)) (Prod.fst (Prod.snd (Prod.fst b_4))))))))
def q1s (D:DX)(n:Nat) (a0:List Int):Option ((Bool×Unit)×Unit):=q15 D n (qxj D n) a0
def qk6 (x0:Int) (x1:ByteArray×ByteArray×Unit) (x2:List tWay) (x3:ByteArray×ByteArray×Unit) (x4:List tWay) (x5:ByteArray×ByteArray×Unit) (x6:ByteArray×ByteArray×Unit):St:=stq 157 [(4,AV.addr 4 []),(5,AV.brw 5 [] 0),(7,AV.addr 7 []),(8,AV.brw 8 [] 0),(9,AV.addr 9 []),(10,AV.addr 10 []),(20,avI x0)] [(4,Root.mk (Ty.pair Ty.str (Ty.pair Ty.str Ty.unit)) Mk.no x1 true),(5,Root.mk (Ty.sl (Ty.pair Ty.str (Ty.pair Ty.str Ty.unit))) (Mk.own 0 (Mk.pr Mk.no (Mk.pr Mk.no Mk.no))) x2 false),(7,Root.mk (Ty.pair Ty.str (Ty.pair Ty.str Ty.unit)) Mk.no x3 true),(8,Root.mk (Ty.sl (Ty.pair Ty.str (Ty.pair Ty.str Ty.unit))) (Mk.own 0 (Mk.pr Mk.no (Mk.pr Mk.no Mk.no))) x4 false),(9,Root.mk (Ty.pair Ty.str (Ty.pair Ty.str Ty.unit)) Mk.no x5 true),(10,Root.mk (Ty.pair Ty.str (Ty.pair Ty.str Ty.unit)) Mk.no x6 true)] 
def qps (v0_0:Bool) (v0_1:ByteArray×ByteArray×Unit) (v0_2:List tWay) (v0_3:ByteArray×ByteArray×Unit) (v0_4:ByteArray×ByteArray×Unit):St:=stq 157 [(2,AV.val Ty.bool v0_0),(4,AV.addr 4 []),(5,AV.brw 5 [] 0),(9,AV.addr 9 []),(10,AV.addr 10 [])] [(4,Root.mk (Ty.pair Ty.str (Ty.pair Ty.str Ty.unit)) Mk.no v0_1 true),(5,Root.mk (Ty.sl (Ty.pair Ty.str (Ty.pair Ty.str Ty.unit))) (Mk.own 0 (Mk.pr Mk.no (Mk.pr Mk.no Mk.no))) v0_2 false),(9,Root.mk (Ty.pair Ty.str (Ty.pair Ty.str Ty.unit)) Mk.no v0_3 true),(10,Root.mk (Ty.pair Ty.str (Ty.pair Ty.str Ty.unit)) Mk.no v0_4 true)] 
def qpy (v1_0:ByteArray×ByteArray×Unit) (v1_1:List tWay) (v1_2:ByteArray×ByteArray×Unit) (v1_3:ByteArray×ByteArray×Unit):St:=stq 157 [(4,AV.addr 4 []),(5,AV.brw 5 [] 0),(9,AV.addr 9 []),(10,AV.addr 10 [])] [(4,Root.mk (Ty.pair Ty.str (Ty.pair Ty.str Ty.unit)) Mk.no v1_0 true),(5,Root.mk (Ty.sl (Ty.pair Ty.str (Ty.pair Ty.str Ty.unit))) (Mk.own 0 (Mk.pr Mk.no (Mk.pr Mk.no Mk.no))) v1_1 false),(9,Root.mk (Ty.pair Ty.str (Ty.pair Ty.str Ty.unit)) Mk.no v1_2 true),(10,Root.mk (Ty.pair Ty.str (Ty.pair Ty.str Ty.unit)) Mk.no v1_3 true)] 
def qk7 (x1_0:Int) (x1_1:Int) (x1_2:ByteArray×ByteArray×Unit) (x1_3:List tWay) (x1_4:ByteArray×ByteArray×Unit) (x1_5:ByteArray×ByteArray×Unit):St:=stq 157 [(4,AV.addr 4 []),(5,AV.brw 5 [] 0),(9,AV.addr 9 []),(10,AV.addr 10 []),(21,avI x1_0),(22,avI x1_1)] [(4,Root.mk (Ty.pair Ty.str (Ty.pair Ty.str Ty.unit)) Mk.no x1_2 true),(5,Root.mk (Ty.sl (Ty.pair Ty.str (Ty.pair Ty.str Ty.unit))) (Mk.own 0 (Mk.pr Mk.no (Mk.pr Mk.no Mk.no))) x1_3 false),(9,Root.mk (Ty.pair Ty.str (Ty.pair Ty.str Ty.unit)) Mk.no x1_4 true),(10,Root.mk (Ty.pair Ty.str (Ty.pair Ty.str Ty.unit)) Mk.no x1_5 true)] 
def qpm (v0_0:Int) (v0_1:ByteArray×ByteArray×Unit) (v0_2:ByteArray×ByteArray×Unit):St:=stq 157 [(9,AV.addr 9 []),(10,AV.addr 10 []),(21,avI v0_0)] [(9,Root.mk (Ty.pair Ty.str (Ty.pair Ty.str Ty.unit)) Mk.no v0_1 true),(10,Root.mk (Ty.pair Ty.str (Ty.pair Ty.str Ty.unit)) Mk.no v0_2 true)] 
theorem qbim (D:DX)(n:Nat) (m:Nat) (K:Ex→St→Option (Out ctx 6)) (x0:Int) (x1:ByteArray×ByteArray×Unit) (x2:List tWay) (x3:ByteArray×ByteArray×Unit) (x4:List tWay) (x5:ByteArray×ByteArray×Unit) (x6:ByteArray×ByteArray×Unit) :
 LQ qc D n 6 [.r,.r,.r,.r,.r,.r,.r,.r,.r,.r,.r,.r,.l,.r,.l] (m+1) (qk6 x0 x1 x2 x3 x4 x5 x6) K=qzv D n (fun x0 x1 x2 x3 x4 x5 x6=>LQ qc D n 6 [.r,.r,.r,.r,.r,.r,.r,.r,.r,.r,.r,.r,.l,.r,.l] m (qk6 x0 x1 x2 x3 x4 x5 x6) K) (fun v0_0 v0_1 v0_2 v0_3 v0_4=>K (Ex.ret) (qps v0_0 v0_1 v0_2 v0_3 v0_4)) (fun v1_0 v1_1 v1_2 v1_3=>K (Ex.exit 0) (qpy v1_0 v1_1 v1_2 v1_3)) x0 x1 x2 x3 x4 x5 x6:=by kernel_rfl
theorem q6c (D:DX)(n:Nat) (K:Ex→St→Option (Out ctx 6)):∀ (m:Nat) (x0:Int) (x1:ByteArray×ByteArray×Unit) (x2:List tWay) (x3:ByteArray×ByteArray×Unit) (x4:List tWay) (x5:ByteArray×ByteArray×Unit) (x6:ByteArray×ByteArray×Unit),LQ qc D n 6 [.r,.r,.r,.r,.r,.r,.r,.r,.r,.r,.r,.r,.l,.r,.l] m (qk6 x0 x1 x2 x3 x4 x5 x6) K=qkx D n (fun v0_0 v0_1 v0_2 v0_3 v0_4=>K (Ex.ret) (qps v0_0 v0_1 v0_2 v0_3 v0_4)) (fun v1_0 v1_1 v1_2 v1_3=>K (Ex.exit 0) (qpy v1_0 v1_1 v1_2 v1_3)) m x0 x1 x2 x3 x4 x5 x6
 | 0,x0,x1,x2,x3,x4,x5,x6=>qw ..
 | m+1,x0,x1,x2,x3,x4,x5,x6=>by
  have ih:(fun x0 x1 x2 x3 x4 x5 x6=>LQ qc D n 6 [.r,.r,.r,.r,.r,.r,.r,.r,.r,.r,.r,.r,.l,.r,.l] m (qk6 x0 x1 x2 x3 x4 x5 x6) K)=qkx D n (fun v0_0 v0_1 v0_2 v0_3 v0_4=>K (Ex.ret) (qps v0_0 v0_1 v0_2 v0_3 v0_4)) (fun v1_0 v1_1 v1_2 v1_3=>K (Ex.exit 0) (qpy v1_0 v1_1 v1_2 v1_3)) m:=by funext x0 x1 x2 x3 x4 x5 x6;exact q6c D n K m x0 x1 x2 x3 x4 x5 x6
  rw[qbim]
  rw[ih];rfl
theorem qbhn (D:DX)(n:Nat) (m:Nat) (K:Ex→St→Option (Out ctx 6)) (x1_0:Int) (x1_1:Int) (x1_2:ByteArray×ByteArray×Unit) (x1_3:List tWay) (x1_4:ByteArray×ByteArray×Unit) (x1_5:ByteArray×ByteArray×Unit) :
 LQ qc D n 6 [.r,.r,.r,.r,.r,.r,.r,.r,.r,.r,.r,.r,.r,.r,.l,.r,.l] (m+1) (qk7 x1_0 x1_1 x1_2 x1_3 x1_4 x1_5) K=qy9 D n (fun x1_0 x1_1 x1_2 x1_3 x1_4 x1_5=>LQ qc D n 6 [.r,.r,.r,.r,.r,.r,.r,.r,.r,.r,.r,.r,.r,.r,.l,.r,.l] m (qk7 x1_0 x1_1 x1_2 x1_3 x1_4 x1_5) K) (fun v0_0 v0_1 v0_2=>K (Ex.exit 2) (qpm v0_0 v0_1 v0_2)) x1_0 x1_1 x1_2 x1_3 x1_4 x1_5:=by kernel_rfl
theorem q6j (D:DX)(n:Nat) (K:Ex→St→Option (Out ctx 6)):∀ (m:Nat) (x1_0:Int) (x1_1:Int) (x1_2:ByteArray×ByteArray×Unit) (x1_3:List tWay) (x1_4:ByteArray×ByteArray×Unit) (x1_5:ByteArray×ByteArray×Unit),LQ qc D n 6 [.r,.r,.r,.r,.r,.r,.r,.r,.r,.r,.r,.r,.r,.r,.l,.r,.l] m (qk7 x1_0 x1_1 x1_2 x1_3 x1_4 x1_5) K=qk3 D n (fun v0_0 v0_1 v0_2=>K (Ex.exit 2) (qpm v0_0 v0_1 v0_2)) m x1_0 x1_1 x1_2 x1_3 x1_4 x1_5
 | 0,x1_0,x1_1,x1_2,x1_3,x1_4,x1_5=>qw ..
 | m+1,x1_0,x1_1,x1_2,x1_3,x1_4,x1_5=>by
  have ih:(fun x1_0 x1_1 x1_2 x1_3 x1_4 x1_5=>LQ qc D n 6 [.r,.r,.r,.r,.r,.r,.r,.r,.r,.r,.r,.r,.r,.r,.l,.r,.l] m (qk7 x1_0 x1_1 x1_2 x1_3 x1_4 x1_5) K)=qk3 D n (fun v0_0 v0_1 v0_2=>K (Ex.exit 2) (qpm v0_0 v0_1 v0_2)) m:=by funext x1_0 x1_1 x1_2 x1_3 x1_4 x1_5;exact q6j D n K m x1_0 x1_1 x1_2 x1_3 x1_4 x1_5
  rw[qbhn]
  rw[ih];rfl
theorem qbg3 (D:DX)(n:Nat) (v0_0:Int) (v0_1:ByteArray×ByteArray×Unit) (v0_2:ByteArray×ByteArray×Unit) :
 (CQ qc D n 6 [] [.r,.r,.r,.r,.r,.r,.r,.r,.r,.r,.r,.r,.r,.r,.l,.r,.l] (qi qc 6)) (Ex.exit 2) (qpm v0_0 v0_1 v0_2)=qpa D n v0_0 v0_1 v0_2:=by kernel_rfl
theorem qbgp (D:DX)(n:Nat) (x1_0:Int) (x1_1:Int) (x1_2:ByteArray×ByteArray×Unit) (x1_3:List tWay) (x1_4:ByteArray×ByteArray×Unit) (x1_5:ByteArray×ByteArray×Unit) :
 LQ qc D n 6 [.r,.r,.r,.r,.r,.r,.r,.r,.r,.r,.r,.r,.r,.r,.l,.r,.l] n (qk7 x1_0 x1_1 x1_2 x1_3 x1_4 x1_5) (CQ qc D n 6 [] [.r,.r,.r,.r,.r,.r,.r,.r,.r,.r,.r,.r,.r,.r,.l,.r,.l] (qi qc 6))=qrm D n x1_0 x1_1 x1_2 x1_3 x1_4 x1_5:=by
 rw[q6j]
 simp only[qbg3]
 rfl
theorem qbfy (D:DX)(n:Nat) (v0_0:Bool) (v0_1:ByteArray×ByteArray×Unit) (v0_2:List tWay) (v0_3:ByteArray×ByteArray×Unit) (v0_4:ByteArray×ByteArray×Unit) :
 (CQ qc D n 6 [] [.r,.r,.r,.r,.r,.r,.r,.r,.r,.r,.r,.r,.l,.r,.l] (qi qc 6)) (Ex.ret) (qps v0_0 v0_1 v0_2 v0_3 v0_4)=qvk D n v0_0 v0_1 v0_2 v0_3 v0_4:=by kernel_rfl
theorem qbgl (D:DX)(n:Nat) (v1_0:ByteArray×ByteArray×Unit) (v1_1:List tWay) (v1_2:ByteArray×ByteArray×Unit) (v1_3:ByteArray×ByteArray×Unit) :
 (CQ qc D n 6 [] [.r,.r,.r,.r,.r,.r,.r,.r,.r,.r,.r,.r,.l,.r,.l] (qi qc 6)) (Ex.exit 0) (qpy v1_0 v1_1 v1_2 v1_3)=qp0 D n (fun x1_0 x1_1 x1_2 x1_3 x1_4 x1_5=>LQ qc D n 6 [.r,.r,.r,.r,.r,.r,.r,.r,.r,.r,.r,.r,.r,.r,.l,.r,.l] n (qk7 x1_0 x1_1 x1_2 x1_3 x1_4 x1_5) (CQ qc D n 6 [] [.r,.r,.r,.r,.r,.r,.r,.r,.r,.r,.r,.r,.r,.r,.l,.r,.l] (qi qc 6))) v1_0 v1_1 v1_2 v1_3:=by kernel_rfl
theorem qbgn (D:DX)(n:Nat) (x0:Int) (x1:ByteArray×ByteArray×Unit) (x2:List tWay) (x3:ByteArray×ByteArray×Unit) (x4:List tWay) (x5:ByteArray×ByteArray×Unit) (x6:ByteArray×ByteArray×Unit) :
 LQ qc D n 6 [.r,.r,.r,.r,.r,.r,.r,.r,.r,.r,.r,.r,.l,.r,.l] n (qk6 x0 x1 x2 x3 x4 x5 x6) (CQ qc D n 6 [] [.r,.r,.r,.r,.r,.r,.r,.r,.r,.r,.r,.r,.l,.r,.l] (qi qc 6))=qxj D n x0 x1 x2 x3 x4 x5 x6:=by
 rw[q6c]
 simp only[qbfy,qbgl,qbgp]
 rfl
theorem qbnn (D:DX)(n:Nat) (a0:List Int):rfC qc D n 6 (a0,())=q1s D n a0:=by
 have h:rfC qc D n 6 (a0,())=q15 D n (fun x0 x1 x2 x3 x4 x5 x6=>LQ qc D n 6 [.r,.r,.r,.r,.r,.r,.r,.r,.r,.r,.r,.r,.l,.r,.l] n (qk6 x0 x1 x2 x3 x4 x5 x6) (CQ qc D n 6 [] [.r,.r,.r,.r,.r,.r,.r,.r,.r,.r,.r,.r,.l,.r,.l] (qi qc 6))) a0:=by kernel_rfl
 rw[h]
 simp only[qbgn]
 rfl

def qbrv (D:DX)(n:Nat) (a0:List Int):Option ((Bool×Unit)×Unit):=some ((decide ((↑(List.length a0):Int)>1048576),()),())
def qbjn (D:DX)(n:Nat) (a0:List Int):Option ((Bool×Unit)×Unit):=qbrv D n a0
theorem qbsa (D:DX)(n:Nat) (a0:List Int):rfC qc D n 11 (a0,())=qbjn D n a0:=by kernel_rfl


def qy4 (D:DX)(n:Nat) (go:Int→qf→Int→Int→(tSch)×qf×Unit→List tWay→Option ((List tWay×Unit)×Unit)) (K0:List tWay→Option ((List tWay×Unit)×Unit)) (x0:Int) (x1:qf) (x2:Int) (x3:Int) (x4:(tSch)×qf×Unit) (x5:List tWay):Option ((List tWay×Unit)×Unit):=br (decide (x3<x2)) (br (decide (0≤x3)&&decide (x3<(↑(List.length x1):Int))) (qh (q32 D (Prod.fst x4) x0 (List.getD x1 (Int.toNat x3) [])) fun b↦qh (qu6 D x5 (Prod.fst (Prod.fst b))) fun b↦go x0 x1 x2 (IntKind.wrap IntKind.i64 (x3+1)) x4 (Prod.fst (Prod.fst b))) none) (K0 x5)
def qlh (D:DX)(n:Nat) (K0:List tWay→Option ((List tWay×Unit)×Unit)):Nat→(Int)→(qf)→(Int)→(Int)→((tSch)×qf×Unit)→(List tWay)→Option ((List tWay×Unit)×Unit) | 0=>(fun x0 x1 x2 x3 x4 x5=>none) | m+1=>(fun x0 x1 x2 x3 x4 x5=>qy4 D n (qlh D n K0 m) K0 x0 x1 x2 x3 x4 x5)
def qvi (D:DX)(n:Nat) (v0_0:List tWay):Option ((List tWay×Unit)×Unit):=some ((v0_0,()),())
def qxm (D:DX)(n:Nat):(Int)→(qf)→(Int)→(Int)→((tSch)×qf×Unit)→(List tWay)→Option ((List tWay×Unit)×Unit):=(fun x0 x1 x2 x3 x4 x5=>qlh D n (fun v0_0=>qvi D n v0_0) n x0 x1 x2 x3 x4 x5)
def q2u (D:DX)(n:Nat) (lp0:Int→qf→Int→Int→(tSch)×qf×Unit→List tWay→Option ((List tWay×Unit)×Unit)) (a0:(tSch)×qf×Unit) (a1:Int):Option ((List tWay×Unit)×Unit):=qh (q4h D a0) fun b↦br (!Prod.fst (Prod.fst b)) (some (([],()),())) (qh (qf5 D a1 0 (IntKind.wrap IntKind.i64 ((↑(List.length (Prod.fst (Prod.snd (Prod.snd (Prod.fst a0))))):Int) - 1))) fun b↦br (!Prod.fst (Prod.fst b)) (some (([],()),())) (lp0 a1 (Prod.fst (Prod.snd a0)) (↑(List.length (Prod.fst (Prod.snd a0))):Int) 0 a0 []))
def q10 (D:DX)(n:Nat) (a0:(tSch)×qf×Unit) (a1:Int):Option ((List tWay×Unit)×Unit):=q2u D n (qxm D n) a0 a1
def qk1 (x0:Int) (x1:qf) (x2:Int) (x3:Int) (x4:(tSch)×qf×Unit) (x5:List tWay):St:=stq 39 [(1,avI x0),(2,AV.addr 2 []),(5,AV.brw 5 [] 0),(24,AV.val (Ty.sl (Ty.sl yV)) x1),(25,avI x2),(26,avI x3)] [(2,Root.mk (Ty.pair yS (Ty.pair (Ty.sl (Ty.sl yV)) Ty.unit)) Mk.no x4 true),(5,Root.mk (Ty.sl (Ty.pair Ty.str (Ty.pair Ty.str Ty.unit))) (Mk.own 0 (Mk.pr Mk.no (Mk.pr Mk.no Mk.no))) x5 false)] 
def qpv (v0_0:List tWay):St:=stq 39 [(5,AV.brw 5 [] 0)] [(5,Root.mk (Ty.sl (Ty.pair Ty.str (Ty.pair Ty.str Ty.unit))) (Mk.own 0 (Mk.pr Mk.no (Mk.pr Mk.no Mk.no))) v0_0 false)] 
theorem qbhy (D:DX)(n:Nat) (m:Nat) (K:Ex→St→Option (Out ctx 13)) (x0:Int) (x1:qf) (x2:Int) (x3:Int) (x4:(tSch)×
 qf×Unit) (x5:List tWay) :
 LQ qc D n 13 [.r,.r,.r,.l,.r,.l] (m+1) (qk1 x0 x1 x2 x3 x4 x5) K=qy4 D n (fun x0 x1 x2 x3 x4 x5=>LQ qc D n 13 [.r,.r,.r,.l,.r,.l] m (qk1 x0 x1 x2 x3 x4 x5) K) (fun v0_0=>K (Ex.exit 0) (qpv v0_0)) x0 x1 x2 x3 x4 x5:=by kernel_rfl
theorem q6d (D:DX)(n:Nat) (K:Ex→St→Option (Out ctx 13)):∀ (m:Nat) (x0:Int) (x1:qf) (x2:Int) (x3:Int) (x4:(tSch)×
 qf×Unit) (x5:List tWay),LQ qc D n 13 [.r,.r,.r,.l,.r,.l] m (qk1 x0 x1 x2 x3 x4 x5) K=qlh D n (fun v0_0=>K (Ex.exit 0) (qpv v0_0)) m x0 x1 x2 x3 x4 x5
 | 0,x0,x1,x2,x3,x4,x5=>qw ..
 | m+1,x0,x1,x2,x3,x4,x5=>by
  have ih:(fun x0 x1 x2 x3 x4 x5=>LQ qc D n 13 [.r,.r,.r,.l,.r,.l] m (qk1 x0 x1 x2 x3 x4 x5) K)=qlh D n (fun v0_0=>K (Ex.exit 0) (qpv v0_0)) m:=by funext x0 x1 x2 x3 x4 x5;exact q6d D n K m x0 x1 x2 x3 x4 x5
  rw[qbhy]
  rw[ih];rfl
theorem qbfo (D:DX)(n:Nat) (v0_0:List tWay) :
 (CQ qc D n 13 [] [.r,.r,.r,.l,.r,.l] (qi qc 13)) (Ex.exit 0) (qpv v0_0)=qvi D n v0_0:=by kernel_rfl
theorem qbf9 (D:DX)(n:Nat) (x0:Int) (x1:qf) (x2:Int) (x3:Int) (x4:(tSch)×
 qf×Unit) (x5:List tWay) :
 LQ qc D n 13 [.r,.r,.r,.l,.r,.l] n (qk1 x0 x1 x2 x3 x4 x5) (CQ qc D n 13 [] [.r,.r,.r,.l,.r,.l] (qi qc 13))=qxm D n x0 x1 x2 x3 x4 x5:=by
 rw[q6d]
 simp only[qbfo]
 rfl
theorem qbmv (D:DX)(n:Nat) (a0:(tSch)×
 qf×Unit) (a1:Int):rfC qc D n 13 (a0,(a1,()))=q10 D n a0 a1:=by
 have h:rfC qc D n 13 (a0,(a1,()))=q2u D n (fun x0 x1 x2 x3 x4 x5=>LQ qc D n 13 [.r,.r,.r,.l,.r,.l] n (qk1 x0 x1 x2 x3 x4 x5) (CQ qc D n 13 [] [.r,.r,.r,.l,.r,.l] (qi qc 13))) a0 a1:=by kernel_rfl
 rw[h]
 simp only[qbf9]
 rfl

def q2o (D:DX)(n:Nat) (go:qf→Int→Int→(tSch)×qf×Unit→Option ((Bool×Unit)×Unit)) (K0:Bool→(tSch)×qf×Unit→Option ((Bool×Unit)×Unit)) (K1:(tSch)×qf×Unit→Option ((Bool×Unit)×Unit)) (x0:qf) (x1:Int) (x2:Int) (x3:(tSch)×qf×Unit):Option ((Bool×Unit)×Unit):=br (decide (x2<x1)) (br (decide (0≤x2)&&decide (x2<(↑(List.length x0):Int))) (qh (qwz D (Prod.fst x3) (List.getD x0 (Int.toNat x2) [])) fun b↦br (!Prod.fst (Prod.fst b)) (K0 false x3) (br (decide (x2>0)) (br (decide (0≤IntKind.wrap IntKind.i64 (x2 - 1))&&decide (IntKind.wrap IntKind.i64 (x2 - 1)<(↑(List.length (Prod.fst (Prod.snd x3))):Int))) (qh (qm7 D (Prod.fst x3) (List.getD (Prod.fst (Prod.snd x3)) (Int.toNat (IntKind.wrap IntKind.i64 (x2 - 1))) [])) fun b↦qh (qm7 D (Prod.fst x3) (List.getD x0 (Int.toNat x2) [])) fun b_1↦qh (qwh D (Prod.fst (Prod.fst b)) (Prod.fst (Prod.fst b_1))) fun b↦br (!Prod.fst (Prod.fst b)) (K0 false x3) (br (decide (0≤0)&&decide (0≤x2)&&decide (x2≤(↑(List.length (Prod.fst (Prod.snd x3))):Int))) (qh (qcf D (List.drop (Int.toNat 0) (List.take (Int.toNat x2) (Prod.fst (Prod.snd x3)))) (Clo.mk 80 [CapV.rptr (Ty.pair (Ty.pair (Ty.sl (Ty.pair Ty.str (Ty.pair (Ty.int IntKind.i64) (Ty.pair Ty.bool Ty.unit)))) (Ty.pair (Ty.sl (Ty.int IntKind.i64)) (Ty.pair (Ty.sl (Ty.pair Ty.str (Ty.pair (Ty.sl (Ty.int IntKind.i64)) (Ty.pair Ty.bool Ty.unit)))) Ty.unit))) (Ty.pair (Ty.sl (Ty.sl (Ty.pair (Ty.int IntKind.i64) (Ty.pair (Ty.int IntKind.i64) (Ty.pair Ty.str Ty.unit))))) Ty.unit)) x3,CapV.rptr (Ty.sl (Ty.pair (Ty.int IntKind.i64) (Ty.pair (Ty.int IntKind.i64) (Ty.pair Ty.str Ty.unit)))) (List.getD x0 (Int.toNat x2) [])])) fun b↦br (Prod.fst (Prod.fst b)) (K0 false x3) (go x0 x1 (IntKind.wrap IntKind.i64 (x2+1)) x3)) none)) none) (br (decide (0≤0)&&decide (0≤x2)&&decide (x2≤(↑(List.length (Prod.fst (Prod.snd x3))):Int))) (qh (qcf D (List.drop (Int.toNat 0) (List.take (Int.toNat x2) (Prod.fst (Prod.snd x3)))) (Clo.mk 80 [CapV.rptr (Ty.pair (Ty.pair (Ty.sl (Ty.pair Ty.str (Ty.pair (Ty.int IntKind.i64) (Ty.pair Ty.bool Ty.unit)))) (Ty.pair (Ty.sl (Ty.int IntKind.i64)) (Ty.pair (Ty.sl (Ty.pair Ty.str (Ty.pair (Ty.sl (Ty.int IntKind.i64)) (Ty.pair Ty.bool Ty.unit)))) Ty.unit))) (Ty.pair (Ty.sl (Ty.sl (Ty.pair (Ty.int IntKind.i64) (Ty.pair (Ty.int IntKind.i64) (Ty.pair Ty.str Ty.unit))))) Ty.unit)) x3,CapV.rptr (Ty.sl (Ty.pair (Ty.int IntKind.i64) (Ty.pair (Ty.int IntKind.i64) (Ty.pair Ty.str Ty.unit)))) (List.getD x0 (Int.toNat x2) [])])) fun b↦br (Prod.fst (Prod.fst b)) (K0 false x3) (go x0 x1 (IntKind.wrap IntKind.i64 (x2+1)) x3)) none))) none) (K1 x3)
def ql6 (D:DX)(n:Nat) (K0:Bool→(tSch)×qf×Unit→Option ((Bool×Unit)×Unit)) (K1:(tSch)×qf×Unit→Option ((Bool×Unit)×Unit)):Nat→(qf)→(Int)→(Int)→((tSch)×qf×Unit)→Option ((Bool×Unit)×Unit) | 0=>(fun x0 x1 x2 x3=>none) | m+1=>(fun x0 x1 x2 x3=>q2o D n (ql6 D n K0 K1 m) K0 K1 x0 x1 x2 x3)
def q6q (D:DX)(n:Nat) (v0_0:Bool) (v0_1:(tSch)×qf×Unit):Option ((Bool×Unit)×Unit):=some ((v0_0,()),())
def qx7 (D:DX)(n:Nat) (v1_0:(tSch)×qf×Unit):Option ((Bool×Unit)×Unit):=qh (qr2 D (Prod.fst v1_0)) fun b↦some ((bif Prod.fst (Prod.fst b) then decide ((↑(List.length (Prod.fst (Prod.snd v1_0))):Int)≤12) else false,()),())
def qzp (D:DX)(n:Nat):(qf)→(Int)→(Int)→((tSch)×qf×Unit)→Option ((Bool×Unit)×Unit):=(fun x0 x1 x2 x3=>ql6 D n (fun v0_0 v0_1=>q6q D n v0_0 v0_1) (fun v1_0=>qx7 D n v1_0) n x0 x1 x2 x3)
def q4n (D:DX)(n:Nat) (lp0:qf→Int→Int→(tSch)×qf×Unit→Option ((Bool×Unit)×Unit)) (a0:(tSch)×qf×Unit):Option ((Bool×Unit)×Unit):=lp0 (Prod.fst (Prod.snd a0)) (↑(List.length (Prod.fst (Prod.snd a0))):Int) 0 a0
def q4t (D:DX)(n:Nat) (a0:(tSch)×qf×Unit):Option ((Bool×Unit)×Unit):=q4n D n (qzp D n) a0
def qmb (x0:qf) (x1:Int) (x2:Int) (x3:(tSch)×qf×Unit):St:=stq 55 [(1,AV.addr 1 []),(6,AV.val (Ty.sl (Ty.sl yV)) x0),(7,avI x1),(8,avI x2)] [(1,Root.mk (Ty.pair yS (Ty.pair (Ty.sl (Ty.sl yV)) Ty.unit)) Mk.no x3 true)] 
def qrv (v0_0:Bool) (v0_1:(tSch)×qf×Unit):St:=stq 55 [(1,AV.addr 1 []),(2,AV.val Ty.bool v0_0)] [(1,Root.mk (Ty.pair yS (Ty.pair (Ty.sl (Ty.sl yV)) Ty.unit)) Mk.no v0_1 true)] 
def qrl (v1_0:(tSch)×qf×Unit):St:=stq 55 [(1,AV.addr 1 [])] [(1,Root.mk (Ty.pair yS (Ty.pair (Ty.sl (Ty.sl yV)) Ty.unit)) Mk.no v1_0 true)] 
theorem qblk (D:DX)(n:Nat) (m:Nat) (K:Ex→St→Option (Out ctx 17)) (x0:qf) (x1:Int) (x2:Int) (x3:(tSch)×
 qf×Unit) :
 LQ qc D n 17 [.r,.l,.r,.l] (m+1) (qmb x0 x1 x2 x3) K=q2o D n (fun x0 x1 x2 x3=>LQ qc D n 17 [.r,.l,.r,.l] m (qmb x0 x1 x2 x3) K) (fun v0_0 v0_1=>K (Ex.ret) (qrv v0_0 v0_1)) (fun v1_0=>K (Ex.exit 0) (qrl v1_0)) x0 x1 x2 x3:=by kernel_rfl
theorem q7m (D:DX)(n:Nat) (K:Ex→St→Option (Out ctx 17)):∀ (m:Nat) (x0:qf) (x1:Int) (x2:Int) (x3:(tSch)×
 qf×Unit),LQ qc D n 17 [.r,.l,.r,.l] m (qmb x0 x1 x2 x3) K=ql6 D n (fun v0_0 v0_1=>K (Ex.ret) (qrv v0_0 v0_1)) (fun v1_0=>K (Ex.exit 0) (qrl v1_0)) m x0 x1 x2 x3
 | 0,x0,x1,x2,x3=>qw ..
 | m+1,x0,x1,x2,x3=>by
  have ih:(fun x0 x1 x2 x3=>LQ qc D n 17 [.r,.l,.r,.l] m (qmb x0 x1 x2 x3) K)=ql6 D n (fun v0_0 v0_1=>K (Ex.ret) (qrv v0_0 v0_1)) (fun v1_0=>K (Ex.exit 0) (qrl v1_0)) m:=by funext x0 x1 x2 x3;exact q7m D n K m x0 x1 x2 x3
  rw[qblk]
  rw[ih];rfl
theorem qbjm (D:DX)(n:Nat) (v0_0:Bool) (v0_1:(tSch)×
 qf×Unit) :
 (CQ qc D n 17 [] [.r,.l,.r,.l] (qi qc 17)) (Ex.ret) (qrv v0_0 v0_1)=q6q D n v0_0 v0_1:=by kernel_rfl
theorem qbir (D:DX)(n:Nat) (v1_0:(tSch)×
 qf×Unit) :
 (CQ qc D n 17 [] [.r,.l,.r,.l] (qi qc 17)) (Ex.exit 0) (qrl v1_0)=qx7 D n v1_0:=by kernel_rfl
theorem qbjo (D:DX)(n:Nat) (x0:qf) (x1:Int) (x2:Int) (x3:(tSch)×
 qf×Unit) :
 LQ qc D n 17 [.r,.l,.r,.l] n (qmb x0 x1 x2 x3) (CQ qc D n 17 [] [.r,.l,.r,.l] (qi qc 17))=qzp D n x0 x1 x2 x3:=by
 rw[q7m]
 simp only[qbjm,qbir]
 rfl
theorem qbn3 (D:DX)(n:Nat) (a0:(tSch)×
 qf×Unit):rfC qc D n 17 (a0,())=q4t D n a0:=by
 have h:rfC qc D n 17 (a0,())=q4n D n (fun x0 x1 x2 x3=>LQ qc D n 17 [.r,.l,.r,.l] n (qmb x0 x1 x2 x3) (CQ qc D n 17 [] [.r,.l,.r,.l] (qi qc 17))) a0:=by kernel_rfl
 rw[h]
 simp only[qbjo]
 rfl


def qbbt (D:DX)(n:Nat) (a0:(tSch)×qf×Unit) (a1:Int) (a2:qd):Option ((tWay×Bool×Unit)×Unit):=qh (qwz D (Prod.fst a0) a2) fun b↦br (!Prod.fst (Prod.fst b)) (some (((ByteArray.empty,ByteArray.empty,()),false,()),())) (qh (qf5 D a1 0 (IntKind.wrap IntKind.i64 ((↑(List.length (Prod.fst (Prod.snd (Prod.snd (Prod.fst a0))))):Int) - 1))) fun b↦br (!Prod.fst (Prod.fst b)) (some (((ByteArray.empty,ByteArray.empty,()),false,()),())) (qh (q32 D (Prod.fst a0) a1 a2) fun b↦some ((Prod.fst (Prod.fst b),true,()),())))
def q5b (D:DX)(n:Nat) (a0:(tSch)×qf×Unit) (a1:Int) (a2:qd):Option ((tWay×Bool×Unit)×Unit):=qbbt D n a0 a1 a2
theorem qbot (D:DX)(n:Nat) (a0:(tSch)×
 qf×Unit) (a1:Int) (a2:qd):rfC qc D n 19 (a0,(a1,(a2,())))=q5b D n a0 a1 a2:=by kernel_rfl

def qwg (D:DX)(n:Nat) (go:List tWay→List tWay→Int→Option ((Bool×Unit)×Unit)) (K0:Bool→Option ((Bool×Unit)×Unit)) (K1:Option ((Bool×Unit)×Unit)) (x0:List tWay) (x1:List tWay) (x2:Int):Option ((Bool×Unit)×Unit):=br (decide (x2<(↑(List.length x0):Int))) (br (decide (0≤x2)&&decide (x2<(↑(List.length x0):Int))) (br (decide (0≤x2)&&decide (x2<(↑(List.length x1):Int))) (br (!qgg (Ty.pair Ty.str (Ty.pair Ty.str Ty.unit)) (List.getD x0 (Int.toNat x2) (ByteArray.empty,ByteArray.empty,())) (List.getD x1 (Int.toNat x2) (ByteArray.empty,ByteArray.empty,()))) (K0 false) (go x0 x1 (IntKind.wrap IntKind.i64 (x2+1)))) none) none) K1
def qjc (D:DX)(n:Nat) (K0:Bool→Option ((Bool×Unit)×Unit)) (K1:Option ((Bool×Unit)×Unit)):Nat→(List tWay)→(List tWay)→(Int)→Option ((Bool×Unit)×Unit) | 0=>(fun x0 x1 x2=>none) | m+1=>(fun x0 x1 x2=>qwg D n (qjc D n K0 K1 m) K0 K1 x0 x1 x2)
def q1m (D:DX)(n:Nat) (v0_0:Bool):Option ((Bool×Unit)×Unit):=some ((v0_0,()),())
def q1o (D:DX)(n:Nat):Option ((Bool×Unit)×Unit):=some ((true,()),())
def quc (D:DX)(n:Nat):(List tWay)→(List tWay)→(Int)→Option ((Bool×Unit)×Unit):=(fun x0 x1 x2=>qjc D n (fun v0_0=>q1m D n v0_0) (q1o D n) n x0 x1 x2)
def qwt (D:DX)(n:Nat) (lp0:List tWay→List tWay→Int→Option ((Bool×Unit)×Unit)) (a0:List tWay) (a1:List tWay):Option ((Bool×Unit)×Unit):=br ((↑(List.length a0):Int) != (↑(List.length a1):Int)) (some ((false,()),())) (lp0 a0 a1 0)
def qxp (D:DX)(n:Nat) (a0:List tWay) (a1:List tWay):Option ((Bool×Unit)×Unit):=qwt D n (quc D n) a0 a1
def qjd (x0:List tWay) (x1:List tWay) (x2:Int):St:=stq 26 [(0,AV.val (Ty.sl (Ty.pair Ty.str (Ty.pair Ty.str Ty.unit))) x0),(1,AV.val (Ty.sl (Ty.pair Ty.str (Ty.pair Ty.str Ty.unit))) x1),(5,avI x2)] [] 
def qna (v0_0:Bool):St:=stq 26 [(4,AV.val Ty.bool v0_0)] [] 
def qm8:St:=stq 26 [] [] 
theorem qbet (D:DX)(n:Nat) (m:Nat) (K:Ex→St→Option (Out ctx 20)) (x0:List tWay) (x1:List tWay) (x2:Int) :
 LQ qc D n 20 [.r,.r,.l,.r,.l] (m+1) (qjd x0 x1 x2) K=qwg D n (fun x0 x1 x2=>LQ qc D n 20 [.r,.r,.l,.r,.l] m (qjd x0 x1 x2) K) (fun v0_0=>K (Ex.ret) (qna v0_0)) (K (Ex.exit 0) (qm8)) x0 x1 x2:=by kernel_rfl
theorem q20 (D:DX)(n:Nat) (K:Ex→St→Option (Out ctx 20)):∀ (m:Nat) (x0:List tWay) (x1:List tWay) (x2:Int),LQ qc D n 20 [.r,.r,.l,.r,.l] m (qjd x0 x1 x2) K=qjc D n (fun v0_0=>K (Ex.ret) (qna v0_0)) (K (Ex.exit 0) (qm8)) m x0 x1 x2
 | 0,x0,x1,x2=>qw ..
 | m+1,x0,x1,x2=>by
  have ih:(fun x0 x1 x2=>LQ qc D n 20 [.r,.r,.l,.r,.l] m (qjd x0 x1 x2) K)=qjc D n (fun v0_0=>K (Ex.ret) (qna v0_0)) (K (Ex.exit 0) (qm8)) m:=by funext x0 x1 x2;exact q20 D n K m x0 x1 x2
  rw[qbet]
  rw[ih];rfl
theorem qbbq (D:DX)(n:Nat) (v0_0:Bool) :
 (CQ qc D n 20 [] [.r,.r,.l,.r,.l] (qi qc 20)) (Ex.ret) (qna v0_0)=q1m D n v0_0:=by kernel_rfl
theorem qbcg (D:DX)(n:Nat) :
 (CQ qc D n 20 [] [.r,.r,.l,.r,.l] (qi qc 20)) (Ex.exit 0) (qm8)=q1o D n:=by kernel_rfl
theorem qbck (D:DX)(n:Nat) (x0:List tWay) (x1:List tWay) (x2:Int) :
 LQ qc D n 20 [.r,.r,.l,.r,.l] n (qjd x0 x1 x2) (CQ qc D n 20 [] [.r,.r,.l,.r,.l] (qi qc 20))=quc D n x0 x1 x2:=by
 rw[q20]
 simp only[qbbq,qbcg]
 rfl
theorem qbi9 (D:DX)(n:Nat) (a0:List tWay) (a1:List tWay):rfC qc D n 20 (a0,(a1,()))=qxp D n a0 a1:=by
 have h:rfC qc D n 20 (a0,(a1,()))=qwt D n (fun x0 x1 x2=>LQ qc D n 20 [.r,.r,.l,.r,.l] n (qjd x0 x1 x2) (CQ qc D n 20 [] [.r,.r,.l,.r,.l] (qi qc 20))) a0 a1:=by kernel_rfl
 rw[h]
 simp only[qbck]
 rfl

def q95 (D:DX)(n:Nat) (a0:List tWay) (a1:ByteArray×ByteArray×Unit):Option ((List tWay×Unit)×Unit):=qh (qex D a0) fun b↦qh (qdx D a0 (Clo.mk 92 [CapV.rptr (Ty.pair Ty.str (Ty.pair Ty.str Ty.unit)) a1])) fun b_1↦br (decide (Prod.fst (Prod.fst b_1)<0)) (qh (qcm D (Prod.fst (Prod.fst b)) (↑(List.length a0):Int) [a1]) fun b↦some ((Prod.fst (Prod.fst b),()),())) (br (decide (0≤Prod.fst (Prod.fst b_1))&&decide (Prod.fst (Prod.fst b_1)<(↑(List.length a0):Int))) (br (qgg (Ty.pair Ty.str (Ty.pair Ty.str Ty.unit)) (List.getD a0 (Int.toNat (Prod.fst (Prod.fst b_1))) (ByteArray.empty,ByteArray.empty,())) a1) (some ((Prod.fst (Prod.fst b),()),())) (qh (qcm D (Prod.fst (Prod.fst b)) (Prod.fst (Prod.fst b_1)) [a1]) fun b↦some ((Prod.fst (Prod.fst b),()),()))) none)
def q2j (D:DX)(n:Nat) (a0:List tWay) (a1:ByteArray×ByteArray×Unit):Option ((List tWay×Unit)×Unit):=q95 D n a0 a1
theorem qbnc (D:DX)(n:Nat) (a0:List tWay) (a1:ByteArray×ByteArray×Unit):rfC qc D n 21 (a0,(a1,()))=q2j D n a0 a1:=by kernel_rfl


def q6i (D:DX)(n:Nat) (a0:tSch) (a1:qd):Option ((qd×Unit)×Unit):=qh (qla D a1 (Prod.fst (Prod.snd a0))) fun b↦some ((Prod.fst (Prod.fst b),()),())
def qw6 (D:DX)(n:Nat) (a0:tSch) (a1:qd):Option ((qd×Unit)×Unit):=q6i D n a0 a1
theorem qbjs (D:DX)(n:Nat) (a0:tSch) (a1:qd):rfC qc D n 23 (a0,(a1,()))=qw6 D n a0 a1:=by kernel_rfl


def qbaa (D:DX)(n:Nat) (a0:List tWay) (a1:ByteArray×ByteArray×Unit):Option ((List tWay×Unit)×Unit):=qh (qex D a0) fun b↦qh (qfg D (Prod.fst (Prod.fst b)) (Clo.mk 97 [CapV.rptr (Ty.pair Ty.str (Ty.pair Ty.str Ty.unit)) a1])) fun b↦some ((Prod.fst (Prod.fst b),()),())
def q2i (D:DX)(n:Nat) (a0:List tWay) (a1:ByteArray×ByteArray×Unit):Option ((List tWay×Unit)×Unit):=qbaa D n a0 a1
theorem qbm9 (D:DX)(n:Nat) (a0:List tWay) (a1:ByteArray×ByteArray×Unit):rfC qc D n 25 (a0,(a1,()))=q2i D n a0 a1:=by kernel_rfl


def qyu (D:DX)(n:Nat) (go:qd→Int→(tSch)×qf×Unit→(tSch)×qf×Unit→(tSch)×qf×Unit→Option ((((tSch)×qf×Unit)×Int×Unit)×Unit)) (K0:qd→Int→(tSch)×qf×Unit→(tSch)×qf×Unit→(tSch)×qf×Unit→Option ((((tSch)×qf×Unit)×Int×Unit)×Unit)) (x0:qd) (x1:Int) (x2:(tSch)×qf×Unit) (x3:(tSch)×qf×Unit) (x4:(tSch)×qf×Unit):Option ((((tSch)×qf×Unit)×Int×Unit)×Unit):=br (decide (x1<(↑(List.length (Prod.fst (Prod.snd x2))):Int))) (br (decide (0≤x1)&&decide (x1<(↑(List.length (Prod.fst (Prod.snd x2))):Int))) (qh (qd0 D (Prod.fst x2) (List.getD (Prod.fst (Prod.snd x2)) (Int.toNat x1) [])) fun b↦qh (qd0 D (Prod.fst x2) x0) fun b_1↦qh (qpj D (Prod.fst (Prod.fst b)) (Prod.fst (Prod.fst b_1))) fun b↦br (Prod.fst (Prod.fst b)) (go x0 (IntKind.wrap IntKind.i64 (x1+1)) x2 x3 x4) (K0 x0 x1 x2 x3 x4)) none) (K0 x0 x1 x2 x3 x4)
def qk2 (D:DX)(n:Nat) (K0:qd→Int→(tSch)×qf×Unit→(tSch)×qf×Unit→(tSch)×qf×Unit→Option ((((tSch)×qf×Unit)×Int×Unit)×Unit)):Nat→(qd)→(Int)→((tSch)×qf×Unit)→((tSch)×qf×Unit)→((tSch)×qf×Unit)→Option ((((tSch)×qf×Unit)×Int×Unit)×Unit) | 0=>(fun x0 x1 x2 x3 x4=>none) | m+1=>(fun x0 x1 x2 x3 x4=>qyu D n (qk2 D n K0 m) K0 x0 x1 x2 x3 x4)
def qiz (D:DX)(n:Nat) (v0_0:qd) (v0_1:Int) (v0_2:(tSch)×qf×Unit) (v0_3:(tSch)×qf×Unit) (v0_4:(tSch)×qf×Unit):Option ((((tSch)×qf×Unit)×Int×Unit)×Unit):=br (decide (0≤0)&&decide (0≤v0_1)&&decide (v0_1≤(↑(List.length (Prod.fst (Prod.snd v0_2))):Int))) (qh (qi2 D (List.drop (Int.toNat 0) (List.take (Int.toNat v0_1) (Prod.fst (Prod.snd v0_2))))) fun b↦br (decide (0+List.length v0_0≤q0)) (br (decide (List.length (Prod.fst (Prod.fst b))+1≤q0)) (br (decide (0≤v0_1)&&decide (v0_1≤(↑(List.length (Prod.fst (Prod.snd v0_2))):Int))&&decide ((↑(List.length (Prod.fst (Prod.snd v0_2))):Int)≤(↑(List.length (Prod.fst (Prod.snd v0_2))):Int))) (qh (qi2 D (List.drop (Int.toNat v0_1) (List.take (Int.toNat (↑(List.length (Prod.fst (Prod.snd v0_2))):Int)) (Prod.fst (Prod.snd v0_2))))) fun b_1↦br (decide (List.length (Prod.fst (Prod.fst b)++[[]++v0_0])+List.length (Prod.fst (Prod.fst b_1))≤q0)) (some ((((Prod.fst (Prod.fst v0_4),Prod.fst (Prod.snd (Prod.fst v0_4)),Prod.fst (Prod.snd (Prod.snd (Prod.fst v0_4))),()),Prod.fst (Prod.fst b)++[[]++v0_0]++Prod.fst (Prod.fst b_1),()),0,()),())) none) none) none) none) none
def qwv (D:DX)(n:Nat):(qd)→(Int)→((tSch)×qf×Unit)→((tSch)×qf×Unit)→((tSch)×qf×Unit)→Option ((((tSch)×qf×Unit)×Int×Unit)×Unit):=(fun x0 x1 x2 x3 x4=>qk2 D n (fun v0_0 v0_1 v0_2 v0_3 v0_4=>qiz D n v0_0 v0_1 v0_2 v0_3 v0_4) n x0 x1 x2 x3 x4)
def q2s (D:DX)(n:Nat) (lp0:qd→Int→(tSch)×qf×Unit→(tSch)×qf×Unit→(tSch)×qf×Unit→Option ((((tSch)×qf×Unit)×Int×Unit)×Unit)) (a0:(tSch)×qf×Unit) (a1:qd):Option ((((tSch)×qf×Unit)×Int×Unit)×Unit):=qh (qox D a0) fun b↦qh (qlm D a0) fun b_1↦br (!Prod.fst (Prod.fst b_1)) (some ((((Prod.fst (Prod.fst (Prod.fst (Prod.fst b))),Prod.fst (Prod.snd (Prod.fst (Prod.fst (Prod.fst b)))),Prod.fst (Prod.snd (Prod.snd (Prod.fst (Prod.fst (Prod.fst b))))),()),Prod.fst (Prod.snd (Prod.fst (Prod.fst b))),()),1,()),())) (qh (qor D (Prod.fst a0) a1) fun b_2↦br (!Prod.fst (Prod.fst b_2)) (some ((((Prod.fst (Prod.fst (Prod.fst (Prod.fst b))),Prod.fst (Prod.snd (Prod.fst (Prod.fst (Prod.fst b)))),Prod.fst (Prod.snd (Prod.snd (Prod.fst (Prod.fst (Prod.fst b))))),()),Prod.fst (Prod.snd (Prod.fst (Prod.fst b))),()),1,()),())) (qh (qd0 D (Prod.fst a0) a1) fun b_3↦qh (qsr D a0 (Prod.fst (Prod.fst b_3))) fun b_4↦br (decide (Prod.fst (Prod.fst b_4)≥0)) (some ((((Prod.fst (Prod.fst (Prod.fst (Prod.fst b))),Prod.fst (Prod.snd (Prod.fst (Prod.fst (Prod.fst b)))),Prod.fst (Prod.snd (Prod.snd (Prod.fst (Prod.fst (Prod.fst b))))),()),Prod.fst (Prod.snd (Prod.fst (Prod.fst b))),()),2,()),())) (qh (qp3 D a0 a1 (-1)) fun b_5↦br (Prod.fst (Prod.fst b_5)) (some ((((Prod.fst (Prod.fst (Prod.fst (Prod.fst b))),Prod.fst (Prod.snd (Prod.fst (Prod.fst (Prod.fst b)))),Prod.fst (Prod.snd (Prod.snd (Prod.fst (Prod.fst (Prod.fst b))))),()),Prod.fst (Prod.snd (Prod.fst (Prod.fst b))),()),3,()),())) (br (decide ((↑(List.length (Prod.fst (Prod.snd a0))):Int)≥12)) (some ((((Prod.fst (Prod.fst (Prod.fst (Prod.fst b))),Prod.fst (Prod.snd (Prod.fst (Prod.fst (Prod.fst b)))),Prod.fst (Prod.snd (Prod.snd (Prod.fst (Prod.fst (Prod.fst b))))),()),Prod.fst (Prod.snd (Prod.fst (Prod.fst b))),()),5,()),())) (lp0 a1 0 a0 (([],[],[],()),[],()) ((Prod.fst (Prod.fst (Prod.fst (Prod.fst b))),Prod.fst (Prod.snd (Prod.fst (Prod.fst (Prod.fst b)))),Prod.fst (Prod.snd (Prod.snd (Prod.fst (Prod.fst (Prod.fst b))))),()),Prod.fst (Prod.snd (Prod.fst (Prod.fst b))),()))))))
def q1t (D:DX)(n:Nat) (a0:(tSch)×qf×Unit) (a1:qd):Option ((((tSch)×qf×Unit)×Int×Unit)×Unit):=q2s D n (qwv D n) a0 a1
def qky (x0:qd) (x1:Int) (x2:(tSch)×qf×Unit) (x3:(tSch)×qf×Unit) (x4:(tSch)×qf×Unit):St:=stq 91 [(1,AV.val (Ty.sl yV) x0),(2,AV.addr 2 []),(4,AV.addr 4 []),(6,AV.addr 6 []),(7,avI x1)] [(2,Root.mk (Ty.pair yS (Ty.pair (Ty.sl (Ty.sl yV)) Ty.unit)) Mk.no x2 true),(4,Root.mk (Ty.pair yS (Ty.pair (Ty.sl (Ty.sl yV)) Ty.unit)) (Mk.pr (Mk.pr (Mk.own 0 (Mk.pr Mk.no (Mk.pr Mk.no (Mk.pr Mk.no Mk.no)))) (Mk.pr (Mk.own 0 Mk.no) (Mk.pr (Mk.own 0 (Mk.pr Mk.no (Mk.pr (Mk.own 0 Mk.no) (Mk.pr Mk.no Mk.no)))) Mk.no))) (Mk.pr (Mk.own 0 (Mk.own 0 (Mk.pr Mk.no (Mk.pr Mk.no (Mk.pr Mk.no Mk.no))))) Mk.no)) x3 true),(6,Root.mk (Ty.pair yS (Ty.pair (Ty.sl (Ty.sl yV)) Ty.unit)) (Mk.pr (Mk.pr (Mk.own 0 (Mk.pr Mk.no (Mk.pr Mk.no (Mk.pr Mk.no Mk.no)))) (Mk.pr (Mk.own 0 Mk.no) (Mk.pr (Mk.own 0 (Mk.pr Mk.no (Mk.pr (Mk.own 0 Mk.no) (Mk.pr Mk.no Mk.no)))) Mk.no))) (Mk.pr (Mk.own 0 (Mk.own 0 (Mk.pr Mk.no (Mk.pr Mk.no (Mk.pr Mk.no Mk.no))))) Mk.no)) x4 true)] 
def qpi (v0_0:qd) (v0_1:Int) (v0_2:(tSch)×qf×Unit) (v0_3:(tSch)×qf×Unit) (v0_4:(tSch)×qf×Unit):St:=stq 91 [(1,AV.val (Ty.sl yV) v0_0),(2,AV.addr 2 []),(4,AV.addr 4 []),(6,AV.addr 6 []),(7,avI v0_1)] [(2,Root.mk (Ty.pair yS (Ty.pair (Ty.sl (Ty.sl yV)) Ty.unit)) Mk.no v0_2 true),(4,Root.mk (Ty.pair yS (Ty.pair (Ty.sl (Ty.sl yV)) Ty.unit)) (Mk.pr (Mk.pr (Mk.own 0 (Mk.pr Mk.no (Mk.pr Mk.no (Mk.pr Mk.no Mk.no)))) (Mk.pr (Mk.own 0 Mk.no) (Mk.pr (Mk.own 0 (Mk.pr Mk.no (Mk.pr (Mk.own 0 Mk.no) (Mk.pr Mk.no Mk.no)))) Mk.no))) (Mk.pr (Mk.own 0 (Mk.own 0 (Mk.pr Mk.no (Mk.pr Mk.no (Mk.pr Mk.no Mk.no))))) Mk.no)) v0_3 true),(6,Root.mk (Ty.pair yS (Ty.pair (Ty.sl (Ty.sl yV)) Ty.unit)) (Mk.pr (Mk.pr (Mk.own 0 (Mk.pr Mk.no (Mk.pr Mk.no (Mk.pr Mk.no Mk.no)))) (Mk.pr (Mk.own 0 Mk.no) (Mk.pr (Mk.own 0 (Mk.pr Mk.no (Mk.pr (Mk.own 0 Mk.no) (Mk.pr Mk.no Mk.no)))) Mk.no))) (Mk.pr (Mk.own 0 (Mk.own 0 (Mk.pr Mk.no (Mk.pr Mk.no (Mk.pr Mk.no Mk.no))))) Mk.no)) v0_4 true)] 
theorem qbiy (D:DX)(n:Nat) (m:Nat) (K:Ex→St→Option (Out ctx 28)) (x0:qd) (x1:Int) (x2:(tSch)×
 qf×Unit) (x3:(tSch)×
 qf×Unit) (x4:(tSch)×
 qf×Unit) :
 LQ qc D n 28 [.r,.r,.r,.r,.l,.l] (m+1) (qky x0 x1 x2 x3 x4) K=qyu D n (fun x0 x1 x2 x3 x4=>LQ qc D n 28 [.r,.r,.r,.r,.l,.l] m (qky x0 x1 x2 x3 x4) K) (fun v0_0 v0_1 v0_2 v0_3 v0_4=>K (Ex.exit 1) (qpi v0_0 v0_1 v0_2 v0_3 v0_4)) x0 x1 x2 x3 x4:=by kernel_rfl
theorem q6h (D:DX)(n:Nat) (K:Ex→St→Option (Out ctx 28)):∀ (m:Nat) (x0:qd) (x1:Int) (x2:(tSch)×
 qf×Unit) (x3:(tSch)×
 qf×Unit) (x4:(tSch)×
 qf×Unit),LQ qc D n 28 [.r,.r,.r,.r,.l,.l] m (qky x0 x1 x2 x3 x4) K=qk2 D n (fun v0_0 v0_1 v0_2 v0_3 v0_4=>K (Ex.exit 1) (qpi v0_0 v0_1 v0_2 v0_3 v0_4)) m x0 x1 x2 x3 x4
 | 0,x0,x1,x2,x3,x4=>qw ..
 | m+1,x0,x1,x2,x3,x4=>by
  have ih:(fun x0 x1 x2 x3 x4=>LQ qc D n 28 [.r,.r,.r,.r,.l,.l] m (qky x0 x1 x2 x3 x4) K)=qk2 D n (fun v0_0 v0_1 v0_2 v0_3 v0_4=>K (Ex.exit 1) (qpi v0_0 v0_1 v0_2 v0_3 v0_4)) m:=by funext x0 x1 x2 x3 x4;exact q6h D n K m x0 x1 x2 x3 x4
  rw[qbiy]
  rw[ih];rfl
theorem qbf2 (D:DX)(n:Nat) (v0_0:qd) (v0_1:Int) (v0_2:(tSch)×
 qf×Unit) (v0_3:(tSch)×
 qf×Unit) (v0_4:(tSch)×
 qf×Unit) :
 (CQ qc D n 28 [] [.r,.r,.r,.r,.l,.l] (qi qc 28)) (Ex.exit 1) (qpi v0_0 v0_1 v0_2 v0_3 v0_4)=qiz D n v0_0 v0_1 v0_2 v0_3 v0_4:=by kernel_rfl
theorem qbfv (D:DX)(n:Nat) (x0:qd) (x1:Int) (x2:(tSch)×
 qf×Unit) (x3:(tSch)×
 qf×Unit) (x4:(tSch)×
 qf×Unit) :
 LQ qc D n 28 [.r,.r,.r,.r,.l,.l] n (qky x0 x1 x2 x3 x4) (CQ qc D n 28 [] [.r,.r,.r,.r,.l,.l] (qi qc 28))=qwv D n x0 x1 x2 x3 x4:=by
 rw[q6h]
 simp only[qbf2]
 rfl
theorem qbni (D:DX)(n:Nat) (a0:(tSch)×
 qf×Unit) (a1:qd):rfC qc D n 28 (a0,(a1,()))=q1t D n a0 a1:=by
 have h:rfC qc D n 28 (a0,(a1,()))=q2s D n (fun x0 x1 x2 x3 x4=>LQ qc D n 28 [.r,.r,.r,.r,.l,.l] n (qky x0 x1 x2 x3 x4) (CQ qc D n 28 [] [.r,.r,.r,.r,.l,.l] (qi qc 28))) a0 a1:=by kernel_rfl
 rw[h]
 simp only[qbfv]
 rfl

def q91 (D:DX)(n:Nat) (a0:(tSch)×qf×Unit) (a1:qd):Option ((((tSch)×qf×Unit)×Int×Unit)×Unit):=qh (qox D a0) fun b↦qh (qlm D a0) fun b_1↦br (!Prod.fst (Prod.fst b_1)) (some ((((Prod.fst (Prod.fst (Prod.fst (Prod.fst b))),Prod.fst (Prod.snd (Prod.fst (Prod.fst (Prod.fst b)))),Prod.fst (Prod.snd (Prod.snd (Prod.fst (Prod.fst (Prod.fst b))))),()),Prod.fst (Prod.snd (Prod.fst (Prod.fst b))),()),1,()),())) (qh (qsr D a0 a1) fun b_2↦br (decide (Prod.fst (Prod.fst b_2)<0)) (some ((((Prod.fst (Prod.fst (Prod.fst (Prod.fst b))),Prod.fst (Prod.snd (Prod.fst (Prod.fst (Prod.fst b)))),Prod.fst (Prod.snd (Prod.snd (Prod.fst (Prod.fst (Prod.fst b))))),()),Prod.fst (Prod.snd (Prod.fst (Prod.fst b))),()),4,()),())) (br (decide (0≤0)&&decide (0≤Prod.fst (Prod.fst b_2))&&decide (Prod.fst (Prod.fst b_2)≤(↑(List.length (Prod.fst (Prod.snd a0))):Int))) (qh (qi2 D (List.drop (Int.toNat 0) (List.take (Int.toNat (Prod.fst (Prod.fst b_2))) (Prod.fst (Prod.snd a0))))) fun b_3↦br (decide (0≤IntKind.wrap IntKind.i64 (Prod.fst (Prod.fst b_2)+1))&&decide (IntKind.wrap IntKind.i64 (Prod.fst (Prod.fst b_2)+1)≤(↑(List.length (Prod.fst (Prod.snd a0))):Int))&&decide ((↑(List.length (Prod.fst (Prod.snd a0))):Int)≤(↑(List.length (Prod.fst (Prod.snd a0))):Int))) (qh (qi2 D (List.drop (Int.toNat (IntKind.wrap IntKind.i64 (Prod.fst (Prod.fst b_2)+1))) (List.take (Int.toNat (↑(List.length (Prod.fst (Prod.snd a0))):Int)) (Prod.fst (Prod.snd a0))))) fun b_4↦br (decide (List.length (Prod.fst (Prod.fst b_3))+List.length (Prod.fst (Prod.fst b_4))≤q0)) (some ((((Prod.fst (Prod.fst (Prod.fst (Prod.fst b))),Prod.fst (Prod.snd (Prod.fst (Prod.fst (Prod.fst b)))),Prod.fst (Prod.snd (Prod.snd (Prod.fst (Prod.fst (Prod.fst b))))),()),Prod.fst (Prod.fst b_3)++Prod.fst (Prod.fst b_4),()),0,()),())) none) none) none))
def q2a (D:DX)(n:Nat) (a0:(tSch)×qf×Unit) (a1:qd):Option ((((tSch)×qf×Unit)×Int×Unit)×Unit):=q91 D n a0 a1
theorem qbnl (D:DX)(n:Nat) (a0:(tSch)×
 qf×Unit) (a1:qd):rfC qc D n 30 (a0,(a1,()))=q2a D n a0 a1:=by kernel_rfl

def q7d (D:DX)(n:Nat) (a0:(tSch)×qf×Unit) (a1:qd):Option ((((tSch)×qf×Unit)×Int×Unit)×Unit):=qh (qox D a0) fun b↦qh (qlm D a0) fun b_1↦br (!Prod.fst (Prod.fst b_1)) (some ((((Prod.fst (Prod.fst (Prod.fst (Prod.fst b))),Prod.fst (Prod.snd (Prod.fst (Prod.fst (Prod.fst b)))),Prod.fst (Prod.snd (Prod.snd (Prod.fst (Prod.fst (Prod.fst b))))),()),Prod.fst (Prod.snd (Prod.fst (Prod.fst b))),()),1,()),())) (qh (qor D (Prod.fst a0) a1) fun b_2↦br (!Prod.fst (Prod.fst b_2)) (some ((((Prod.fst (Prod.fst (Prod.fst (Prod.fst b))),Prod.fst (Prod.snd (Prod.fst (Prod.fst (Prod.fst b)))),Prod.fst (Prod.snd (Prod.snd (Prod.fst (Prod.fst (Prod.fst b))))),()),Prod.fst (Prod.snd (Prod.fst (Prod.fst b))),()),1,()),())) (qh (qd0 D (Prod.fst a0) a1) fun b_3↦qh (qsr D a0 (Prod.fst (Prod.fst b_3))) fun b_4↦br (decide (Prod.fst (Prod.fst b_4)<0)) (some ((((Prod.fst (Prod.fst (Prod.fst (Prod.fst b))),Prod.fst (Prod.snd (Prod.fst (Prod.fst (Prod.fst b)))),Prod.fst (Prod.snd (Prod.snd (Prod.fst (Prod.fst (Prod.fst b))))),()),Prod.fst (Prod.snd (Prod.fst (Prod.fst b))),()),4,()),())) (qh (qp3 D a0 a1 (Prod.fst (Prod.fst b_4))) fun b_5↦br (Prod.fst (Prod.fst b_5)) (some ((((Prod.fst (Prod.fst (Prod.fst (Prod.fst b))),Prod.fst (Prod.snd (Prod.fst (Prod.fst (Prod.fst b)))),Prod.fst (Prod.snd (Prod.snd (Prod.fst (Prod.fst (Prod.fst b))))),()),Prod.fst (Prod.snd (Prod.fst (Prod.fst b))),()),3,()),())) (br (decide (0+List.length a1≤q0)) (br (decide (0≤Prod.fst (Prod.fst b_4))&&decide (Prod.fst (Prod.fst b_4)<(↑(List.length (Prod.fst (Prod.snd (Prod.fst (Prod.fst b))))):Int))) (some ((((Prod.fst (Prod.fst (Prod.fst (Prod.fst b))),Prod.fst (Prod.snd (Prod.fst (Prod.fst (Prod.fst b)))),Prod.fst (Prod.snd (Prod.snd (Prod.fst (Prod.fst (Prod.fst b))))),()),List.set (Prod.fst (Prod.snd (Prod.fst (Prod.fst b)))) (Int.toNat (Prod.fst (Prod.fst b_4))) ([]++a1),()),0,()),())) none) none))))
def q0j (D:DX)(n:Nat) (a0:(tSch)×qf×Unit) (a1:qd):Option ((((tSch)×qf×Unit)×Int×Unit)×Unit):=q7d D n a0 a1
theorem qbka (D:DX)(n:Nat) (a0:(tSch)×
 qf×Unit) (a1:qd):rfC qc D n 32 (a0,(a1,()))=q0j D n a0 a1:=by kernel_rfl



def q92 (D:DX)(n:Nat) (a0:tSch):Option ((((tSch)×qf×Unit)×Bool×Unit)×Unit):=qh (qtq D a0) fun b↦qh (qlm D ((Prod.fst (Prod.fst (Prod.fst b)),Prod.fst (Prod.snd (Prod.fst (Prod.fst b))),Prod.fst (Prod.snd (Prod.snd (Prod.fst (Prod.fst b)))),()),[],())) fun b_1↦br (!Prod.fst (Prod.fst b_1)) (some (((([],[],[],()),[],()),false,()),())) (some ((((Prod.fst (Prod.fst (Prod.fst b)),Prod.fst (Prod.snd (Prod.fst (Prod.fst b))),Prod.fst (Prod.snd (Prod.snd (Prod.fst (Prod.fst b)))),()),[],()),true,()),()))
def q2b (D:DX)(n:Nat) (a0:tSch):Option ((((tSch)×qf×Unit)×Bool×Unit)×Unit):=q92 D n a0
theorem qbnb (D:DX)(n:Nat) (a0:tSch):rfC qc D n 38 (a0,())=q2b D n a0:=by kernel_rfl

def q2k (D:DX)(n:Nat) (go:Int→Int→(tSch)×qf×Unit→Option ((Bool×Unit)×Unit)) (K0:Bool→Int→(tSch)×qf×Unit→Option ((Bool×Unit)×Unit)) (K1:Int→(tSch)×qf×Unit→Option ((Bool×Unit)×Unit)) (x1_0:Int) (x1_1:Int) (x1_2:(tSch)×qf×Unit):Option ((Bool×Unit)×Unit):=br (decide (x1_1<x1_0)) (br (decide (0≤x1_1)&&decide (x1_1<(↑(List.length (Prod.fst (Prod.snd x1_2))):Int))) (br (decide (0≤x1_0)&&decide (x1_0<(↑(List.length (Prod.fst (Prod.snd x1_2))):Int))) (qh (qry D (Prod.fst x1_2) (List.getD (Prod.fst (Prod.snd x1_2)) (Int.toNat x1_1) []) (List.getD (Prod.fst (Prod.snd x1_2)) (Int.toNat x1_0) [])) fun b↦br (Prod.fst (Prod.fst b)) (K0 false x1_0 x1_2) (go x1_0 (IntKind.wrap IntKind.i64 (x1_1+1)) x1_2)) none) none) (K1 x1_0 x1_2)
def ql7 (D:DX)(n:Nat) (K0:Bool→Int→(tSch)×qf×Unit→Option ((Bool×Unit)×Unit)) (K1:Int→(tSch)×qf×Unit→Option ((Bool×Unit)×Unit)):Nat→(Int)→(Int)→((tSch)×qf×Unit)→Option ((Bool×Unit)×Unit) | 0=>(fun x1_0 x1_1 x1_2=>none) | m+1=>(fun x1_0 x1_1 x1_2=>q2k D n (ql7 D n K0 K1 m) K0 K1 x1_0 x1_1 x1_2)
def qx6 (D:DX)(n:Nat) (go:Int→(tSch)×qf×Unit→Option ((Bool×Unit)×Unit)) (K0:Bool→(tSch)×qf×Unit→Option ((Bool×Unit)×Unit)) (K1:(tSch)×qf×Unit→Option ((Bool×Unit)×Unit)) (v0_0:Bool) (v0_1:Int) (v0_2:(tSch)×qf×Unit):Option ((Bool×Unit)×Unit):=K0 v0_0 v0_2
def qr0 (D:DX)(n:Nat) (go:Int→(tSch)×qf×Unit→Option ((Bool×Unit)×Unit)) (K0:Bool→(tSch)×qf×Unit→Option ((Bool×Unit)×Unit)) (K1:(tSch)×qf×Unit→Option ((Bool×Unit)×Unit)) (v1_0:Int) (v1_1:(tSch)×qf×Unit):Option ((Bool×Unit)×Unit):=go (IntKind.wrap IntKind.i64 (v1_0+1)) v1_1
def qz0 (D:DX)(n:Nat) (go:Int→(tSch)×qf×Unit→Option ((Bool×Unit)×Unit)) (K0:Bool→(tSch)×qf×Unit→Option ((Bool×Unit)×Unit)) (K1:(tSch)×qf×Unit→Option ((Bool×Unit)×Unit)):(Int)→(Int)→((tSch)×qf×Unit)→Option ((Bool×Unit)×Unit):=(fun x1_0 x1_1 x1_2=>ql7 D n (fun v0_0 v0_1 v0_2=>qx6 D n go K0 K1 v0_0 v0_1 v0_2) (fun v1_0 v1_1=>qr0 D n go K0 K1 v1_0 v1_1) n x1_0 x1_1 x1_2)
def q18 (D:DX)(n:Nat) (go:Int→(tSch)×qf×Unit→Option ((Bool×Unit)×Unit)) (K0:Bool→(tSch)×qf×Unit→Option ((Bool×Unit)×Unit)) (K1:(tSch)×qf×Unit→Option ((Bool×Unit)×Unit)) (lp1:Int→Int→(tSch)×qf×Unit→Option ((Bool×Unit)×Unit)) (x0:Int) (x1:(tSch)×qf×Unit):Option ((Bool×Unit)×Unit):=br (decide (x0<(↑(List.length (Prod.fst (Prod.snd x1))):Int))) (br (decide (0≤x0)&&decide (x0<(↑(List.length (Prod.fst (Prod.snd x1))):Int))) (qh (qor D (Prod.fst x1) (List.getD (Prod.fst (Prod.snd x1)) (Int.toNat x0) [])) fun b↦br (!Prod.fst (Prod.fst b)) (K0 false x1) (br (decide (x0>0)) (br (decide (0≤IntKind.wrap IntKind.i64 (x0 - 1))&&decide (IntKind.wrap IntKind.i64 (x0 - 1)<(↑(List.length (Prod.fst (Prod.snd x1))):Int))) (qh (qd0 D (Prod.fst x1) (List.getD (Prod.fst (Prod.snd x1)) (Int.toNat (IntKind.wrap IntKind.i64 (x0 - 1))) [])) fun b↦br (decide (0≤x0)&&decide (x0<(↑(List.length (Prod.fst (Prod.snd x1))):Int))) (qh (qd0 D (Prod.fst x1) (List.getD (Prod.fst (Prod.snd x1)) (Int.toNat x0) [])) fun b_1↦qh (qpj D (Prod.fst (Prod.fst b)) (Prod.fst (Prod.fst b_1))) fun b↦br (!Prod.fst (Prod.fst b)) (K0 false x1) (lp1 x0 0 x1)) none) none) (lp1 x0 0 x1))) none) (K1 x1)
def qf4 (D:DX)(n:Nat) (K0:Bool→(tSch)×qf×Unit→Option ((Bool×Unit)×Unit)) (K1:(tSch)×qf×Unit→Option ((Bool×Unit)×Unit)):Nat→(Int)→((tSch)×qf×Unit)→Option ((Bool×Unit)×Unit) | 0=>(fun x0 x1=>none) | m+1=>(fun x0 x1=>q18 D n (qf4 D n K0 K1 m) K0 K1 (qz0 D n (qf4 D n K0 K1 m) K0 K1) x0 x1)
def qhx (D:DX)(n:Nat) (v0_0:Bool) (v0_1:(tSch)×qf×Unit):Option ((Bool×Unit)×Unit):=some ((v0_0,()),())
def qgh (D:DX)(n:Nat) (v1_0:(tSch)×qf×Unit):Option ((Bool×Unit)×Unit):=qh (qrs D (Prod.fst v1_0)) fun b↦some ((bif Prod.fst (Prod.fst b) then decide ((↑(List.length (Prod.fst (Prod.snd v1_0))):Int)≤12) else false,()),())
def qy0 (D:DX)(n:Nat):(Int)→((tSch)×qf×Unit)→Option ((Bool×Unit)×Unit):=(fun x0 x1=>qf4 D n (fun v0_0 v0_1=>qhx D n v0_0 v0_1) (fun v1_0=>qgh D n v1_0) n x0 x1)
def q4z (D:DX)(n:Nat) (lp0:Int→(tSch)×qf×Unit→Option ((Bool×Unit)×Unit)) (a0:(tSch)×qf×Unit):Option ((Bool×Unit)×Unit):=lp0 0 a0
def q47 (D:DX)(n:Nat) (a0:(tSch)×qf×Unit):Option ((Bool×Unit)×Unit):=q4z D n (qy0 D n) a0
def qgx (x0:Int) (x1:(tSch)×qf×Unit):St:=stq 73 [(1,AV.addr 1 []),(3,avI x0)] [(1,Root.mk (Ty.pair yS (Ty.pair (Ty.sl (Ty.sl yV)) Ty.unit)) Mk.no x1 true)] 
def qhy (v0_0:Bool) (v0_1:(tSch)×qf×Unit):St:=stq 73 [(1,AV.addr 1 []),(2,AV.val Ty.bool v0_0)] [(1,Root.mk (Ty.pair yS (Ty.pair (Ty.sl (Ty.sl yV)) Ty.unit)) Mk.no v0_1 true)] 
def qhu (v1_0:(tSch)×qf×Unit):St:=stq 73 [(1,AV.addr 1 [])] [(1,Root.mk (Ty.pair yS (Ty.pair (Ty.sl (Ty.sl yV)) Ty.unit)) Mk.no v1_0 true)] 
def ql5 (x1_0:Int) (x1_1:Int) (x1_2:(tSch)×qf×Unit):St:=stq 73 [(1,AV.addr 1 []),(3,avI x1_0),(4,avI x1_1)] [(1,Root.mk (Ty.pair yS (Ty.pair (Ty.sl (Ty.sl yV)) Ty.unit)) Mk.no x1_2 true)] 
def qrp (v0_0:Bool) (v0_1:Int) (v0_2:(tSch)×qf×Unit):St:=stq 73 [(1,AV.addr 1 []),(2,AV.val Ty.bool v0_0),(3,avI v0_1)] [(1,Root.mk (Ty.pair yS (Ty.pair (Ty.sl (Ty.sl yV)) Ty.unit)) Mk.no v0_2 true)] 
def qrt (v1_0:Int) (v1_1:(tSch)×qf×Unit):St:=stq 73 [(1,AV.addr 1 []),(3,avI v1_0)] [(1,Root.mk (Ty.pair yS (Ty.pair (Ty.sl (Ty.sl yV)) Ty.unit)) Mk.no v1_1 true)] 
theorem qblj (D:DX)(n:Nat) (m:Nat) (K:Ex→St→Option (Out ctx 41)) (x1_0:Int) (x1_1:Int) (x1_2:(tSch)×
 qf×Unit) :
 LQ qc D n 41 [.r,.l,.r,.l,.l,.r,.l,.l,.r,.r,.l] (m+1) (ql5 x1_0 x1_1 x1_2) K=q2k D n (fun x1_0 x1_1 x1_2=>LQ qc D n 41 [.r,.l,.r,.l,.l,.r,.l,.l,.r,.r,.l] m (ql5 x1_0 x1_1 x1_2) K) (fun v0_0 v0_1 v0_2=>K (Ex.ret) (qrp v0_0 v0_1 v0_2)) (fun v1_0 v1_1=>K (Ex.exit 2) (qrt v1_0 v1_1)) x1_0 x1_1 x1_2:=by kernel_rfl
theorem q7p (D:DX)(n:Nat) (K:Ex→St→Option (Out ctx 41)):∀ (m:Nat) (x1_0:Int) (x1_1:Int) (x1_2:(tSch)×
 qf×Unit),LQ qc D n 41 [.r,.l,.r,.l,.l,.r,.l,.l,.r,.r,.l] m (ql5 x1_0 x1_1 x1_2) K=ql7 D n (fun v0_0 v0_1 v0_2=>K (Ex.ret) (qrp v0_0 v0_1 v0_2)) (fun v1_0 v1_1=>K (Ex.exit 2) (qrt v1_0 v1_1)) m x1_0 x1_1 x1_2
 | 0,x1_0,x1_1,x1_2=>qw ..
 | m+1,x1_0,x1_1,x1_2=>by
  have ih:(fun x1_0 x1_1 x1_2=>LQ qc D n 41 [.r,.l,.r,.l,.l,.r,.l,.l,.r,.r,.l] m (ql5 x1_0 x1_1 x1_2) K)=ql7 D n (fun v0_0 v0_1 v0_2=>K (Ex.ret) (qrp v0_0 v0_1 v0_2)) (fun v1_0 v1_1=>K (Ex.exit 2) (qrt v1_0 v1_1)) m:=by funext x1_0 x1_1 x1_2;exact q7p D n K m x1_0 x1_1 x1_2
  rw[qblj]
  rw[ih];rfl
theorem qbiv (D:DX)(n:Nat) (m:Nat) (K:Ex→St→Option (Out ctx 41)) (v0_0:Bool) (v0_1:Int) (v0_2:(tSch)×
 qf×Unit) :
 (CQ qc D n 41 [.r,.l,.r,.l,.l] [.r,.l,.l,.r,.r,.l] (LK qc D n 41 [.r,.l,.r,.l] m K)) (Ex.ret) (qrp v0_0 v0_1 v0_2)=qx6 D n (fun x0 x1=>LQ qc D n 41 [.r,.l,.r,.l] m (qgx x0 x1) K) (fun v0_0 v0_1=>K (Ex.ret) (qhy v0_0 v0_1)) (fun v1_0=>K (Ex.exit 0) (qhu v1_0)) v0_0 v0_1 v0_2:=by kernel_rfl
theorem qbik (D:DX)(n:Nat) (m:Nat) (K:Ex→St→Option (Out ctx 41)) (v1_0:Int) (v1_1:(tSch)×
 qf×Unit) :
 (CQ qc D n 41 [.r,.l,.r,.l,.l] [.r,.l,.l,.r,.r,.l] (LK qc D n 41 [.r,.l,.r,.l] m K)) (Ex.exit 2) (qrt v1_0 v1_1)=qr0 D n (fun x0 x1=>LQ qc D n 41 [.r,.l,.r,.l] m (qgx x0 x1) K) (fun v0_0 v0_1=>K (Ex.ret) (qhy v0_0 v0_1)) (fun v1_0=>K (Ex.exit 0) (qhu v1_0)) v1_0 v1_1:=by kernel_rfl
theorem qbiq (D:DX)(n:Nat) (m:Nat) (K:Ex→St→Option (Out ctx 41)) (x1_0:Int) (x1_1:Int) (x1_2:(tSch)×
 qf×Unit) :
 LQ qc D n 41 [.r,.l,.r,.l,.l,.r,.l,.l,.r,.r,.l] n (ql5 x1_0 x1_1 x1_2) (CQ qc D n 41 [.r,.l,.r,.l,.l] [.r,.l,.l,.r,.r,.l] (LK qc D n 41 [.r,.l,.r,.l] m K))=qz0 D n (fun x0 x1=>LQ qc D n 41 [.r,.l,.r,.l] m (qgx x0 x1) K) (fun v0_0 v0_1=>K (Ex.ret) (qhy v0_0 v0_1)) (fun v1_0=>K (Ex.exit 0) (qhu v1_0)) x1_0 x1_1 x1_2:=by
 rw[q7p]
 simp only[qbiv,qbik]
 rfl
theorem qbk5 (D:DX)(n:Nat) (m:Nat) (K:Ex→St→Option (Out ctx 41)) (x0:Int) (x1:(tSch)×
 qf×Unit) :
 LQ qc D n 41 [.r,.l,.r,.l] (m+1) (qgx x0 x1) K=q18 D n (fun x0 x1=>LQ qc D n 41 [.r,.l,.r,.l] m (qgx x0 x1) K) (fun v0_0 v0_1=>K (Ex.ret) (qhy v0_0 v0_1)) (fun v1_0=>K (Ex.exit 0) (qhu v1_0)) (fun x1_0 x1_1 x1_2=>LQ qc D n 41 [.r,.l,.r,.l,.l,.r,.l,.l,.r,.r,.l] n (ql5 x1_0 x1_1 x1_2) (CQ qc D n 41 [.r,.l,.r,.l,.l] [.r,.l,.l,.r,.r,.l] (LK qc D n 41 [.r,.l,.r,.l] m K))) x0 x1:=by kernel_rfl
theorem q8e (D:DX)(n:Nat) (K:Ex→St→Option (Out ctx 41)):∀ (m:Nat) (x0:Int) (x1:(tSch)×
 qf×Unit),LQ qc D n 41 [.r,.l,.r,.l] m (qgx x0 x1) K=qf4 D n (fun v0_0 v0_1=>K (Ex.ret) (qhy v0_0 v0_1)) (fun v1_0=>K (Ex.exit 0) (qhu v1_0)) m x0 x1
 | 0,x0,x1=>qw ..
 | m+1,x0,x1=>by
  have ih:(fun x0 x1=>LQ qc D n 41 [.r,.l,.r,.l] m (qgx x0 x1) K)=qf4 D n (fun v0_0 v0_1=>K (Ex.ret) (qhy v0_0 v0_1)) (fun v1_0=>K (Ex.exit 0) (qhu v1_0)) m:=by funext x0 x1;exact q8e D n K m x0 x1
  rw[qbk5]
  simp only[qbiq]
  rw[ih];rfl
theorem qbji (D:DX)(n:Nat) (v0_0:Bool) (v0_1:(tSch)×
 qf×Unit) :
 (CQ qc D n 41 [] [.r,.l,.r,.l] (qi qc 41)) (Ex.ret) (qhy v0_0 v0_1)=qhx D n v0_0 v0_1:=by kernel_rfl
theorem qbit (D:DX)(n:Nat) (v1_0:(tSch)×
 qf×Unit) :
 (CQ qc D n 41 [] [.r,.l,.r,.l] (qi qc 41)) (Ex.exit 0) (qhu v1_0)=qgh D n v1_0:=by kernel_rfl
theorem qbin (D:DX)(n:Nat) (x0:Int) (x1:(tSch)×
 qf×Unit) :
 LQ qc D n 41 [.r,.l,.r,.l] n (qgx x0 x1) (CQ qc D n 41 [] [.r,.l,.r,.l] (qi qc 41))=qy0 D n x0 x1:=by
 rw[q8e]
 simp only[qbji,qbit]
 rfl
theorem qbo3 (D:DX)(n:Nat) (a0:(tSch)×
 qf×Unit):rfC qc D n 41 (a0,())=q47 D n a0:=by
 have h:rfC qc D n 41 (a0,())=q4z D n (fun x0 x1=>LQ qc D n 41 [.r,.l,.r,.l] n (qgx x0 x1) (CQ qc D n 41 [] [.r,.l,.r,.l] (qi qc 41))) a0:=by kernel_rfl
 rw[h]
 simp only[qbin]
 rfl

def q3d (D:DX)(n:Nat) (a0:List Int):Option ((List tWay×tWay×Unit)×Unit):=qh (qlk D a0) fun b↦qh (qnd D (Prod.fst (Prod.fst b))) fun b↦br (decide ((↑(List.length (Prod.fst (Prod.fst b))):Int)>0)) (qh (qf2 D (Prod.fst (Prod.snd b)) 2) fun b_1↦br (Prod.fst (Prod.fst b_1)) (qh (qbj D (Prod.fst (Prod.snd b_1)) (↑(List.length (Prod.fst (Prod.fst b))):Int)) fun b_2↦br (decide (0≤Prod.fst (Prod.fst b_2))&&decide (Prod.fst (Prod.fst b_2)<(↑(List.length (Prod.fst (Prod.fst b))):Int))) (some ((Prod.fst (Prod.fst b),List.getD (Prod.fst (Prod.fst b)) (Int.toNat (Prod.fst (Prod.fst b_2))) (ByteArray.empty,ByteArray.empty,()),()),())) none) (qh (qdp D (Prod.fst (Prod.snd b_1))) fun b_2↦some ((Prod.fst (Prod.fst b),Prod.fst (Prod.fst b_2),()),()))) (qh (qdp D (Prod.fst (Prod.snd b))) fun b_1↦some ((Prod.fst (Prod.fst b),Prod.fst (Prod.fst b_1),()),()))
def qug (D:DX)(n:Nat) (a0:List Int):Option ((List tWay×tWay×Unit)×Unit):=q3d D n a0
theorem qbdx (D:DX)(n:Nat) (a0:List Int):rfC qc D n 42 (a0,())=qug D n a0:=by kernel_rfl

def q3j (D:DX)(n:Nat) (a0:List Int):Option ((List tWay×tWay×Unit)×Unit):=qh (qlk D a0) fun b↦qh (qnd D (Prod.fst (Prod.fst b))) fun b↦br (decide ((↑(List.length (Prod.fst (Prod.fst b))):Int)>0)) (qh (qf2 D (Prod.fst (Prod.snd b)) 2) fun b_1↦br (Prod.fst (Prod.fst b_1)) (qh (qbj D (Prod.fst (Prod.snd b_1)) (↑(List.length (Prod.fst (Prod.fst b))):Int)) fun b_2↦br (decide (0≤Prod.fst (Prod.fst b_2))&&decide (Prod.fst (Prod.fst b_2)<(↑(List.length (Prod.fst (Prod.fst b))):Int))) (some ((Prod.fst (Prod.fst b),List.getD (Prod.fst (Prod.fst b)) (Int.toNat (Prod.fst (Prod.fst b_2))) (ByteArray.empty,ByteArray.empty,()),()),())) none) (qh (qdp D (Prod.fst (Prod.snd b_1))) fun b_2↦some ((Prod.fst (Prod.fst b),Prod.fst (Prod.fst b_2),()),()))) (qh (qdp D (Prod.fst (Prod.snd b))) fun b_1↦some ((Prod.fst (Prod.fst b),Prod.fst (Prod.fst b_1),()),()))
def qt8 (D:DX)(n:Nat) (a0:List Int):Option ((List tWay×tWay×Unit)×Unit):=q3j D n a0
theorem qbeo (D:DX)(n:Nat) (a0:List Int):rfC qc D n 43 (a0,())=qt8 D n a0:=by kernel_rfl

def q04 (D:DX)(n:Nat) (a0:List Int):Option ((tWay×tWay×Unit)×Unit):=qh (qlk D a0) fun b↦qh (qdp D (Prod.fst (Prod.fst b))) fun b↦qh (qdp D (Prod.fst (Prod.snd b))) fun b_1↦some ((Prod.fst (Prod.fst b),Prod.fst (Prod.fst b_1),()),())
def qss (D:DX)(n:Nat) (a0:List Int):Option ((tWay×tWay×Unit)×Unit):=q04 D n a0
theorem qbbc (D:DX)(n:Nat) (a0:List Int):rfC qc D n 44 (a0,())=qss D n a0:=by kernel_rfl

def q4u (D:DX)(n:Nat) (a0:List Int):Option ((((tSch)×qf×Unit)×Int×qd×Unit)×Unit):=qh (qlk D a0) fun b↦qh (qtk D (Prod.fst (Prod.fst b))) fun b↦qh (qbj D (Prod.fst (Prod.snd b)) 4) fun b_1↦qh (quv D (Prod.fst (Prod.snd b_1)) (Prod.fst (Prod.fst b))) fun b_2↦some ((Prod.fst (Prod.fst b),IntKind.wrap IntKind.i64 (Prod.fst (Prod.fst b_1) - 1),Prod.fst (Prod.fst b_2),()),())
def qwd (D:DX)(n:Nat) (a0:List Int):Option ((((tSch)×qf×Unit)×Int×qd×Unit)×Unit):=q4u D n a0
theorem qbfq (D:DX)(n:Nat) (a0:List Int):rfC qc D n 45 (a0,())=qwd D n a0:=by kernel_rfl

def qbcw (D:DX)(n:Nat) (a0:(tSch)×qf×Unit) (a1:Int) (a2:qd):Option ((tWay×Bool×Unit)×Unit):=qh (qor D (Prod.fst a0) a2) fun b↦br (!Prod.fst (Prod.fst b)) (some (((ByteArray.empty,ByteArray.empty,()),false,()),())) (qh (qgq D a1 0 (IntKind.wrap IntKind.i64 ((↑(List.length (Prod.fst (Prod.snd (Prod.snd (Prod.fst a0))))):Int) - 1))) fun b↦br (!Prod.fst (Prod.fst b)) (some (((ByteArray.empty,ByteArray.empty,()),false,()),())) (br (decide (0≤a1)&&decide (a1<(↑(List.length (Prod.fst (Prod.snd (Prod.snd (Prod.fst a0))))):Int))) (qh (qlb D a2 (Prod.fst (Prod.snd (List.getD (Prod.fst (Prod.snd (Prod.snd (Prod.fst a0)))) (Int.toNat a1) (ByteArray.empty,[],false,()))))) fun b↦qh (qoa D (Prod.fst (Prod.fst b))) fun b↦qh (qd0 D (Prod.fst a0) a2) fun b_1↦qh (qoa D (Prod.fst (Prod.fst b_1))) fun b_2↦some (((ByteArray.mk (List.toArray (List.map (fun n↦UInt8.ofNat (Int.toNat n)) (Prod.fst (Prod.fst b)))),ByteArray.mk (List.toArray (List.map (fun n↦UInt8.ofNat (Int.toNat n)) (Prod.fst (Prod.fst b_2)))),()),true,()),())) none))
def q43 (D:DX)(n:Nat) (a0:(tSch)×qf×Unit) (a1:Int) (a2:qd):Option ((tWay×Bool×Unit)×Unit):=qbcw D n a0 a1 a2
theorem qbpn (D:DX)(n:Nat) (a0:(tSch)×
 qf×Unit) (a1:Int) (a2:qd):rfC qc D n 46 (a0,(a1,(a2,())))=q43 D n a0 a1 a2:=by kernel_rfl

def q3b (D:DX)(n:Nat) (a0:List Int):Option ((((tSch)×qf×Unit)×Int×Unit)×Unit):=qh (qlk D a0) fun b↦qh (qtk D (Prod.fst (Prod.fst b))) fun b↦qh (qbj D (Prod.fst (Prod.snd b)) 4) fun b_1↦some ((Prod.fst (Prod.fst b),IntKind.wrap IntKind.i64 (Prod.fst (Prod.fst b_1) - 1),()),())
def qul (D:DX)(n:Nat) (a0:List Int):Option ((((tSch)×qf×Unit)×Int×Unit)×Unit):=q3b D n a0
theorem qbeh (D:DX)(n:Nat) (a0:List Int):rfC qc D n 47 (a0,())=qul D n a0:=by kernel_rfl

def q0l (D:DX)(n:Nat) (go:List tWay→Int→ByteArray×ByteArray×Unit→Option ((List tWay×Unit)×Unit)) (K0:List tWay→Int→ByteArray×ByteArray×Unit→Option ((List tWay×Unit)×Unit)) (x0:List tWay) (x1:Int) (x2:ByteArray×ByteArray×Unit):Option ((List tWay×Unit)×Unit):=br (decide (x1<(↑(List.length x0):Int))) (br (decide (0≤x1)&&decide (x1<(↑(List.length x0):Int))) (qh (qtt D (List.getD x0 (Int.toNat x1) (ByteArray.empty,ByteArray.empty,())) x2) fun b↦br (Prod.fst (Prod.fst b)) (go x0 (IntKind.wrap IntKind.i64 (x1+1)) x2) (K0 x0 x1 x2)) none) (K0 x0 x1 x2)
def qkz (D:DX)(n:Nat) (K0:List tWay→Int→ByteArray×ByteArray×Unit→Option ((List tWay×Unit)×Unit)):Nat→(List tWay)→(Int)→tWay→Option ((List tWay×Unit)×Unit) | 0=>(fun x0 x1 x2=>none) | m+1=>(fun x0 x1 x2=>q0l D n (qkz D n K0 m) K0 x0 x1 x2)
def qiv (D:DX)(n:Nat) (v0_0:List tWay) (v0_1:Int) (v0_2:ByteArray×ByteArray×Unit):Option ((List tWay×Unit)×Unit):=br (decide (v0_1<(↑(List.length v0_0):Int))) (br (decide (0≤v0_1)&&decide (v0_1<(↑(List.length v0_0):Int))) (br (qgg (Ty.pair Ty.str (Ty.pair Ty.str Ty.unit)) (List.getD v0_0 (Int.toNat v0_1) (ByteArray.empty,ByteArray.empty,())) v0_2) (br (decide (0+List.length v0_0≤q0)) (some (([]++v0_0,()),())) none) (br (decide (0≤0)&&decide (0≤v0_1)&&decide (v0_1≤(↑(List.length v0_0):Int))) (br (decide (0+List.length (List.drop (Int.toNat 0) (List.take (Int.toNat v0_1) v0_0))≤q0)) (br (decide (List.length ([]++List.drop (Int.toNat 0) (List.take (Int.toNat v0_1) v0_0))+1≤q0)) (br (decide (0≤v0_1)&&decide (v0_1≤(↑(List.length v0_0):Int))&&decide ((↑(List.length v0_0):Int)≤(↑(List.length v0_0):Int))) (br (decide (List.length ([]++List.drop (Int.toNat 0) (List.take (Int.toNat v0_1) v0_0)++[v0_2])+List.length (List.drop (Int.toNat v0_1) (List.take (Int.toNat (↑(List.length v0_0):Int)) v0_0))≤q0)) (some (([]++List.drop (Int.toNat 0) (List.take (Int.toNat v0_1) v0_0)++[v0_2]++List.drop (Int.toNat v0_1) (List.take (Int.toNat (↑(List.length v0_0):Int)) v0_0),()),())) none) none) none) none) none)) none) (br (decide (0≤0)&&decide (0≤v0_1)&&decide (v0_1≤(↑(List.length v0_0):Int))) (br (decide (0+List.length (List.drop (Int.toNat 0) (List.take (Int.toNat v0_1) v0_0))≤q0)) (br (decide (List.length ([]++List.drop (Int.toNat 0) (List.take (Int.toNat v0_1) v0_0))+1≤q0)) (br (decide (0≤v0_1)&&decide (v0_1≤(↑(List.length v0_0):Int))&&decide ((↑(List.length v0_0):Int)≤(↑(List.length v0_0):Int))) (br (decide (List.length ([]++List.drop (Int.toNat 0) (List.take (Int.toNat v0_1) v0_0)++[v0_2])+List.length (List.drop (Int.toNat v0_1) (List.take (Int.toNat (↑(List.length v0_0):Int)) v0_0))≤q0)) (some (([]++List.drop (Int.toNat 0) (List.take (Int.toNat v0_1) v0_0)++[v0_2]++List.drop (Int.toNat v0_1) (List.take (Int.toNat (↑(List.length v0_0):Int)) v0_0),()),())) none) none) none) none) none)
def qya (D:DX)(n:Nat):(List tWay)→(Int)→tWay→Option ((List tWay×Unit)×Unit):=(fun x0 x1 x2=>qkz D n (fun v0_0 v0_1 v0_2=>qiv D n v0_0 v0_1 v0_2) n x0 x1 x2)
def q2c (D:DX)(n:Nat) (lp0:List tWay→Int→ByteArray×ByteArray×Unit→Option ((List tWay×Unit)×Unit)) (a0:List tWay) (a1:ByteArray×ByteArray×Unit):Option ((List tWay×Unit)×Unit):=lp0 a0 0 a1
def q1w (D:DX)(n:Nat) (a0:List tWay) (a1:ByteArray×ByteArray×Unit):Option ((List tWay×Unit)×Unit):=q2c D n (qya D n) a0 a1
def qk9 (x0:List tWay) (x1:Int) (x2:ByteArray×ByteArray×Unit):St:=stq 50 [(0,AV.val (Ty.sl (Ty.pair Ty.str (Ty.pair Ty.str Ty.unit))) x0),(3,AV.addr 3 []),(5,avI x1)] [(3,Root.mk (Ty.pair Ty.str (Ty.pair Ty.str Ty.unit)) Mk.no x2 true)] 
def qp7 (v0_0:List tWay) (v0_1:Int) (v0_2:ByteArray×ByteArray×Unit):St:=stq 50 [(0,AV.val (Ty.sl (Ty.pair Ty.str (Ty.pair Ty.str Ty.unit))) v0_0),(3,AV.addr 3 []),(5,avI v0_1)] [(3,Root.mk (Ty.pair Ty.str (Ty.pair Ty.str Ty.unit)) Mk.no v0_2 true)] 
theorem qbih (D:DX)(n:Nat) (m:Nat) (K:Ex→St→Option (Out ctx 48)) (x0:List tWay) (x1:Int) (x2:ByteArray×ByteArray×Unit) :
 LQ qc D n 48 [.r,.r,.l,.l] (m+1) (qk9 x0 x1 x2) K=q0l D n (fun x0 x1 x2=>LQ qc D n 48 [.r,.r,.l,.l] m (qk9 x0 x1 x2) K) (fun v0_0 v0_1 v0_2=>K (Ex.exit 0) (qp7 v0_0 v0_1 v0_2)) x0 x1 x2:=by kernel_rfl
theorem q52 (D:DX)(n:Nat) (K:Ex→St→Option (Out ctx 48)):∀ (m:Nat) (x0:List tWay) (x1:Int) (x2:ByteArray×ByteArray×Unit),LQ qc D n 48 [.r,.r,.l,.l] m (qk9 x0 x1 x2) K=qkz D n (fun v0_0 v0_1 v0_2=>K (Ex.exit 0) (qp7 v0_0 v0_1 v0_2)) m x0 x1 x2
 | 0,x0,x1,x2=>qw ..
 | m+1,x0,x1,x2=>by
  have ih:(fun x0 x1 x2=>LQ qc D n 48 [.r,.r,.l,.l] m (qk9 x0 x1 x2) K)=qkz D n (fun v0_0 v0_1 v0_2=>K (Ex.exit 0) (qp7 v0_0 v0_1 v0_2)) m:=by funext x0 x1 x2;exact q52 D n K m x0 x1 x2
  rw[qbih]
  rw[ih];rfl
theorem qbgo (D:DX)(n:Nat) (v0_0:List tWay) (v0_1:Int) (v0_2:ByteArray×ByteArray×Unit) :
 (CQ qc D n 48 [] [.r,.r,.l,.l] (qi qc 48)) (Ex.exit 0) (qp7 v0_0 v0_1 v0_2)=qiv D n v0_0 v0_1 v0_2:=by kernel_rfl
theorem qbfr (D:DX)(n:Nat) (x0:List tWay) (x1:Int) (x2:ByteArray×ByteArray×Unit) :
 LQ qc D n 48 [.r,.r,.l,.l] n (qk9 x0 x1 x2) (CQ qc D n 48 [] [.r,.r,.l,.l] (qi qc 48))=qya D n x0 x1 x2:=by
 rw[q52]
 simp only[qbgo]
 rfl
theorem qbnf (D:DX)(n:Nat) (a0:List tWay) (a1:ByteArray×ByteArray×Unit):rfC qc D n 48 (a0,(a1,()))=q1w D n a0 a1:=by
 have h:rfC qc D n 48 (a0,(a1,()))=q2c D n (fun x0 x1 x2=>LQ qc D n 48 [.r,.r,.l,.l] n (qk9 x0 x1 x2) (CQ qc D n 48 [] [.r,.r,.l,.l] (qi qc 48))) a0 a1:=by kernel_rfl
 rw[h]
 simp only[qbfr]
 rfl

def qzg (D:DX)(n:Nat) (go:List tWay→Int→ByteArray×ByteArray×Unit→List tWay→Option ((List tWay×Unit)×Unit)) (K0:List tWay→Option ((List tWay×Unit)×Unit)) (x0:List tWay) (x1:Int) (x2:ByteArray×ByteArray×Unit) (x3:List tWay):Option ((List tWay×Unit)×Unit):=br (decide (x1<(↑(List.length x0):Int))) (br (decide (0≤x1)&&decide (x1<(↑(List.length x0):Int))) (br (!qgg (Ty.pair Ty.str (Ty.pair Ty.str Ty.unit)) (List.getD x0 (Int.toNat x1) (ByteArray.empty,ByteArray.empty,())) x2) (br (decide (0≤x1)&&decide (x1<(↑(List.length x0):Int))) (br (decide (List.length x3+1≤q0)) (go x0 (IntKind.wrap IntKind.i64 (x1+1)) x2 (x3++[List.getD x0 (Int.toNat x1) (ByteArray.empty,ByteArray.empty,())])) none) none) (go x0 (IntKind.wrap IntKind.i64 (x1+1)) x2 x3)) none) (K0 x3)
def qk5 (D:DX)(n:Nat) (K0:List tWay→Option ((List tWay×Unit)×Unit)):Nat→(List tWay)→(Int)→tWay→(List tWay)→Option ((List tWay×Unit)×Unit) | 0=>(fun x0 x1 x2 x3=>none) | m+1=>(fun x0 x1 x2 x3=>qzg D n (qk5 D n K0 m) K0 x0 x1 x2 x3)
def qpt (D:DX)(n:Nat) (v0_0:List tWay):Option ((List tWay×Unit)×Unit):=some ((v0_0,()),())
def qxk (D:DX)(n:Nat):(List tWay)→(Int)→tWay→(List tWay)→Option ((List tWay×Unit)×Unit):=(fun x0 x1 x2 x3=>qk5 D n (fun v0_0=>qpt D n v0_0) n x0 x1 x2 x3)
def q2e (D:DX)(n:Nat) (lp0:List tWay→Int→ByteArray×ByteArray×Unit→List tWay→Option ((List tWay×Unit)×Unit)) (a0:List tWay) (a1:ByteArray×ByteArray×Unit):Option ((List tWay×Unit)×Unit):=lp0 a0 0 a1 []
def q1x (D:DX)(n:Nat) (a0:List tWay) (a1:ByteArray×ByteArray×Unit):Option ((List tWay×Unit)×Unit):=q2e D n (qxk D n) a0 a1
def qlf (x0:List tWay) (x1:Int) (x2:ByteArray×ByteArray×Unit) (x3:List tWay):St:=stq 28 [(0,AV.val (Ty.sl (Ty.pair Ty.str (Ty.pair Ty.str Ty.unit))) x0),(3,AV.addr 3 []),(5,AV.brw 5 [] 0),(6,avI x1)] [(3,Root.mk (Ty.pair Ty.str (Ty.pair Ty.str Ty.unit)) Mk.no x2 true),(5,Root.mk (Ty.sl (Ty.pair Ty.str (Ty.pair Ty.str Ty.unit))) (Mk.own 0 (Mk.pr Mk.no (Mk.pr Mk.no Mk.no))) x3 false)] 
def qpd (v0_0:List tWay):St:=stq 28 [(5,AV.brw 5 [] 0)] [(5,Root.mk (Ty.sl (Ty.pair Ty.str (Ty.pair Ty.str Ty.unit))) (Mk.own 0 (Mk.pr Mk.no (Mk.pr Mk.no Mk.no))) v0_0 false)] 
theorem qbiu (D:DX)(n:Nat) (m:Nat) (K:Ex→St→Option (Out ctx 49)) (x0:List tWay) (x1:Int) (x2:ByteArray×ByteArray×Unit) (x3:List tWay) :
 LQ qc D n 49 [.r,.r,.l,.r,.l] (m+1) (qlf x0 x1 x2 x3) K=qzg D n (fun x0 x1 x2 x3=>LQ qc D n 49 [.r,.r,.l,.r,.l] m (qlf x0 x1 x2 x3) K) (fun v0_0=>K (Ex.exit 0) (qpd v0_0)) x0 x1 x2 x3:=by kernel_rfl
theorem q6o (D:DX)(n:Nat) (K:Ex→St→Option (Out ctx 49)):∀ (m:Nat) (x0:List tWay) (x1:Int) (x2:ByteArray×ByteArray×Unit) (x3:List tWay),LQ qc D n 49 [.r,.r,.l,.r,.l] m (qlf x0 x1 x2 x3) K=qk5 D n (fun v0_0=>K (Ex.exit 0) (qpd v0_0)) m x0 x1 x2 x3
 | 0,x0,x1,x2,x3=>qw ..
 | m+1,x0,x1,x2,x3=>by
  have ih:(fun x0 x1 x2 x3=>LQ qc D n 49 [.r,.r,.l,.r,.l] m (qlf x0 x1 x2 x3) K)=qk5 D n (fun v0_0=>K (Ex.exit 0) (qpd v0_0)) m:=by funext x0 x1 x2 x3;exact q6o D n K m x0 x1 x2 x3
  rw[qbiu]
  rw[ih];rfl
theorem qbgk (D:DX)(n:Nat) (v0_0:List tWay) :
 (CQ qc D n 49 [] [.r,.r,.l,.r,.l] (qi qc 49)) (Ex.exit 0) (qpd v0_0)=qpt D n v0_0:=by kernel_rfl
theorem qbg2 (D:DX)(n:Nat) (x0:List tWay) (x1:Int) (x2:ByteArray×ByteArray×Unit) (x3:List tWay) :
 LQ qc D n 49 [.r,.r,.l,.r,.l] n (qlf x0 x1 x2 x3) (CQ qc D n 49 [] [.r,.r,.l,.r,.l] (qi qc 49))=qxk D n x0 x1 x2 x3:=by
 rw[q6o]
 simp only[qbgk]
 rfl
theorem qbmx (D:DX)(n:Nat) (a0:List tWay) (a1:ByteArray×ByteArray×Unit):rfC qc D n 49 (a0,(a1,()))=q1x D n a0 a1:=by
 have h:rfC qc D n 49 (a0,(a1,()))=q2e D n (fun x0 x1 x2 x3=>LQ qc D n 49 [.r,.r,.l,.r,.l] n (qlf x0 x1 x2 x3) (CQ qc D n 49 [] [.r,.r,.l,.r,.l] (qi qc 49))) a0 a1:=by kernel_rfl
 rw[h]
 simp only[qbg2]
 rfl

def qbk2 (D:DX)(n:Nat) (a0:ByteArray×ByteArray×Unit) (a1:ByteArray×ByteArray×Unit):Option ((Bool×Unit)×Unit):=some ((bif Op.bytesLess (ByteArray.toList (Prod.fst a0)) (ByteArray.toList (Prod.fst a1)) then true else bif List.beq (ByteArray.toList (Prod.fst a0)) (ByteArray.toList (Prod.fst a1)) then Op.bytesLess (ByteArray.toList (Prod.fst (Prod.snd a0))) (ByteArray.toList (Prod.fst (Prod.snd a1))) else false,()),())
def q7y (D:DX)(n:Nat) (a0:ByteArray×ByteArray×Unit) (a1:ByteArray×ByteArray×Unit):Option ((Bool×Unit)×Unit):=qbk2 D n a0 a1
theorem qbkz (D:DX)(n:Nat) (a0:ByteArray×ByteArray×Unit) (a1:ByteArray×ByteArray×Unit):rfC qc D n 50 (a0,(a1,()))=q7y D n a0 a1:=by kernel_rfl

def qbkt (D:DX)(n:Nat) (a0:ByteArray×ByteArray×Unit) (a1:ByteArray×ByteArray×Unit):Option ((Bool×Unit)×Unit):=some ((bif Op.bytesLess (ByteArray.toList (Prod.fst a0)) (ByteArray.toList (Prod.fst a1)) then true else bif List.beq (ByteArray.toList (Prod.fst a0)) (ByteArray.toList (Prod.fst a1)) then Op.bytesLess (ByteArray.toList (Prod.fst (Prod.snd a0))) (ByteArray.toList (Prod.fst (Prod.snd a1))) else false,()),())
def q7s (D:DX)(n:Nat) (a0:ByteArray×ByteArray×Unit) (a1:ByteArray×ByteArray×Unit):Option ((Bool×Unit)×Unit):=qbkt D n a0 a1
theorem qbj1 (D:DX)(n:Nat) (a0:ByteArray×ByteArray×Unit) (a1:ByteArray×ByteArray×Unit):rfC qc D n 51 (a0,(a1,()))=q7s D n a0 a1:=by kernel_rfl

def q0d (D:DX)(n:Nat) (go:Int→Int→(tSch)×qf×Unit→List tWay→Option ((List tWay×Unit)×Unit)) (K0:List tWay→Option ((List tWay×Unit)×Unit)) (x0:Int) (x1:Int) (x2:(tSch)×qf×Unit) (x3:List tWay):Option ((List tWay×Unit)×Unit):=br (decide (x1<(↑(List.length (Prod.fst (Prod.snd x2))):Int))) (qh (qlm D x2) fun b↦br (Prod.fst (Prod.fst b)) (br (decide (0≤x1)&&decide (x1<(↑(List.length (Prod.fst (Prod.snd x2))):Int))) (qh (qxl D x2 x0 (List.getD (Prod.fst (Prod.snd x2)) (Int.toNat x1) [])) fun b↦br (Prod.fst (Prod.snd (Prod.fst b))) (qh (qqq D x3 (Prod.fst (Prod.fst b))) fun b↦go x0 (IntKind.wrap IntKind.i64 (x1+1)) x2 (Prod.fst (Prod.fst b))) (go x0 (IntKind.wrap IntKind.i64 (x1+1)) x2 x3)) none) (K0 x3)) (K0 x3)
def qk4 (D:DX)(n:Nat) (K0:List tWay→Option ((List tWay×Unit)×Unit)):Nat→(Int)→(Int)→((tSch)×qf×Unit)→(List tWay)→Option ((List tWay×Unit)×Unit) | 0=>(fun x0 x1 x2 x3=>none) | m+1=>(fun x0 x1 x2 x3=>q0d D n (qk4 D n K0 m) K0 x0 x1 x2 x3)
def qvo (D:DX)(n:Nat) (v0_0:List tWay):Option ((List tWay×Unit)×Unit):=some ((v0_0,()),())
def qx2 (D:DX)(n:Nat):(Int)→(Int)→((tSch)×qf×Unit)→(List tWay)→Option ((List tWay×Unit)×Unit):=(fun x0 x1 x2 x3=>qk4 D n (fun v0_0=>qvo D n v0_0) n x0 x1 x2 x3)
def q19 (D:DX)(n:Nat) (lp0:Int→Int→(tSch)×qf×Unit→List tWay→Option ((List tWay×Unit)×Unit)) (a0:(tSch)×qf×Unit) (a1:Int):Option ((List tWay×Unit)×Unit):=lp0 a1 0 a0 []
def q2d (D:DX)(n:Nat) (a0:(tSch)×qf×Unit) (a1:Int):Option ((List tWay×Unit)×Unit):=q19 D n (qx2 D n) a0 a1
def qld (x0:Int) (x1:Int) (x2:(tSch)×qf×Unit) (x3:List tWay):St:=stq 37 [(1,avI x0),(2,AV.addr 2 []),(5,AV.brw 5 [] 0),(6,avI x1)] [(2,Root.mk (Ty.pair yS (Ty.pair (Ty.sl (Ty.sl yV)) Ty.unit)) Mk.no x2 true),(5,Root.mk (Ty.sl (Ty.pair Ty.str (Ty.pair Ty.str Ty.unit))) (Mk.own 0 (Mk.pr Mk.no (Mk.pr Mk.no Mk.no))) x3 false)] 
def qpb (v0_0:List tWay):St:=stq 37 [(5,AV.brw 5 [] 0)] [(5,Root.mk (Ty.sl (Ty.pair Ty.str (Ty.pair Ty.str Ty.unit))) (Mk.own 0 (Mk.pr Mk.no (Mk.pr Mk.no Mk.no))) v0_0 false)] 
theorem qbh3 (D:DX)(n:Nat) (m:Nat) (K:Ex→St→Option (Out ctx 52)) (x0:Int) (x1:Int) (x2:(tSch)×
 qf×Unit) (x3:List tWay) :
 LQ qc D n 52 [.r,.r,.l,.r,.l] (m+1) (qld x0 x1 x2 x3) K=q0d D n (fun x0 x1 x2 x3=>LQ qc D n 52 [.r,.r,.l,.r,.l] m (qld x0 x1 x2 x3) K) (fun v0_0=>K (Ex.exit 0) (qpb v0_0)) x0 x1 x2 x3:=by kernel_rfl
theorem q59 (D:DX)(n:Nat) (K:Ex→St→Option (Out ctx 52)):∀ (m:Nat) (x0:Int) (x1:Int) (x2:(tSch)×
 qf×Unit) (x3:List tWay),LQ qc D n 52 [.r,.r,.l,.r,.l] m (qld x0 x1 x2 x3) K=qk4 D n (fun v0_0=>K (Ex.exit 0) (qpb v0_0)) m x0 x1 x2 x3
 | 0,x0,x1,x2,x3=>qw ..
 | m+1,x0,x1,x2,x3=>by
  have ih:(fun x0 x1 x2 x3=>LQ qc D n 52 [.r,.r,.l,.r,.l] m (qld x0 x1 x2 x3) K)=qk4 D n (fun v0_0=>K (Ex.exit 0) (qpb v0_0)) m:=by funext x0 x1 x2 x3;exact q59 D n K m x0 x1 x2 x3
  rw[qbh3]
  rw[ih];rfl
theorem qbge (D:DX)(n:Nat) (v0_0:List tWay) :
 (CQ qc D n 52 [] [.r,.r,.l,.r,.l] (qi qc 52)) (Ex.exit 0) (qpb v0_0)=qvo D n v0_0:=by kernel_rfl
theorem qbg1 (D:DX)(n:Nat) (x0:Int) (x1:Int) (x2:(tSch)×
 qf×Unit) (x3:List tWay) :
 LQ qc D n 52 [.r,.r,.l,.r,.l] n (qld x0 x1 x2 x3) (CQ qc D n 52 [] [.r,.r,.l,.r,.l] (qi qc 52))=qx2 D n x0 x1 x2 x3:=by
 rw[q59]
 simp only[qbge]
 rfl
theorem qbm0 (D:DX)(n:Nat) (a0:(tSch)×
 qf×Unit) (a1:Int):rfC qc D n 52 (a0,(a1,()))=q2d D n a0 a1:=by
 have h:rfC qc D n 52 (a0,(a1,()))=q19 D n (fun x0 x1 x2 x3=>LQ qc D n 52 [.r,.r,.l,.r,.l] n (qld x0 x1 x2 x3) (CQ qc D n 52 [] [.r,.r,.l,.r,.l] (qi qc 52))) a0 a1:=by kernel_rfl
 rw[h]
 simp only[qbg1]
 rfl













def q16 (D:DX)(n:Nat) (go:List Int→Int→Int→Option ((tCur×Unit)×Unit)) (K0:List Int→Int→Option ((tCur×Unit)×Unit)) (x0:List Int) (x1:Int) (x2:Int):Option ((tCur×Unit)×Unit):=br (bif decide (x2<(↑(List.length x0):Int)) then decide (x2<4000) else false) (br (decide (0≤x2)&&decide (x2<(↑(List.length x0):Int))) (go x0 (IntKind.wrap IntKind.i64 (↑(BitVec.toNat (BitVec.and (BitVec.ofInt (IntKind.bits IntKind.i64) (IntKind.wrap IntKind.i64 (IntKind.wrap IntKind.i64 (IntKind.wrap IntKind.i64 (x1 * 131)+IntKind.wrap IntKind.i64 (List.getD x0 (Int.toNat x2) 0))+7))) (BitVec.ofInt (IntKind.bits IntKind.i64) 1073741823))):Int)) (IntKind.wrap IntKind.i64 (x2+1))) none) (K0 x0 x1)
def ql4 (D:DX)(n:Nat) (K0:List Int→Int→Option ((tCur×Unit)×Unit)):Nat→(List Int)→(Int)→(Int)→Option ((tCur×Unit)×Unit) | 0=>(fun x0 x1 x2=>none) | m+1=>(fun x0 x1 x2=>q16 D n (ql4 D n K0 m) K0 x0 x1 x2)
def qxn (D:DX)(n:Nat) (v0_0:List Int) (v0_1:Int):Option ((tCur×Unit)×Unit):=some (((v0_0,0,v0_1,()),()),())
def qzz (D:DX)(n:Nat):(List Int)→(Int)→(Int)→Option ((tCur×Unit)×Unit):=(fun x0 x1 x2=>ql4 D n (fun v0_0 v0_1=>qxn D n v0_0 v0_1) n x0 x1 x2)
def q4v (D:DX)(n:Nat) (lp0:List Int→Int→Int→Option ((tCur×Unit)×Unit)) (a0:List Int):Option ((tCur×Unit)×Unit):=lp0 a0 (IntKind.wrap IntKind.i64 (27323+(↑(List.length a0):Int))) 0
def q4b (D:DX)(n:Nat) (a0:List Int):Option ((tCur×Unit)×Unit):=q4v D n (qzz D n) a0
def qmg (x0:List Int) (x1:Int) (x2:Int):St:=stq 32 [(0,AV.val (Ty.sl (Ty.int IntKind.u8)) x0),(3,avI x1),(4,avI x2)] [] 
def qro (v0_0:List Int) (v0_1:Int):St:=stq 32 [(0,AV.val (Ty.sl (Ty.int IntKind.u8)) v0_0),(3,avI v0_1)] [] 
theorem qbkh (D:DX)(n:Nat) (m:Nat) (K:Ex→St→Option (Out ctx 65)) (x0:List Int) (x1:Int) (x2:Int) :
 LQ qc D n 65 [.r,.r,.l,.r,.l] (m+1) (qmg x0 x1 x2) K=q16 D n (fun x0 x1 x2=>LQ qc D n 65 [.r,.r,.l,.r,.l] m (qmg x0 x1 x2) K) (fun v0_0 v0_1=>K (Ex.exit 0) (qro v0_0 v0_1)) x0 x1 x2:=by kernel_rfl
theorem q8a (D:DX)(n:Nat) (K:Ex→St→Option (Out ctx 65)):∀ (m:Nat) (x0:List Int) (x1:Int) (x2:Int),LQ qc D n 65 [.r,.r,.l,.r,.l] m (qmg x0 x1 x2) K=ql4 D n (fun v0_0 v0_1=>K (Ex.exit 0) (qro v0_0 v0_1)) m x0 x1 x2
 | 0,x0,x1,x2=>qw ..
 | m+1,x0,x1,x2=>by
  have ih:(fun x0 x1 x2=>LQ qc D n 65 [.r,.r,.l,.r,.l] m (qmg x0 x1 x2) K)=ql4 D n (fun v0_0 v0_1=>K (Ex.exit 0) (qro v0_0 v0_1)) m:=by funext x0 x1 x2;exact q8a D n K m x0 x1 x2
  rw[qbkh]
  rw[ih];rfl
theorem qbi6 (D:DX)(n:Nat) (v0_0:List Int) (v0_1:Int) :
 (CQ qc D n 65 [] [.r,.r,.l,.r,.l] (qi qc 65)) (Ex.exit 0) (qro v0_0 v0_1)=qxn D n v0_0 v0_1:=by kernel_rfl
theorem qbhl (D:DX)(n:Nat) (x0:List Int) (x1:Int) (x2:Int) :
 LQ qc D n 65 [.r,.r,.l,.r,.l] n (qmg x0 x1 x2) (CQ qc D n 65 [] [.r,.r,.l,.r,.l] (qi qc 65))=qzz D n x0 x1 x2:=by
 rw[q8a]
 simp only[qbi6]
 rfl
theorem qbn7 (D:DX)(n:Nat) (a0:List Int):rfC qc D n 65 (a0,())=q4b D n a0:=by
 have h:rfC qc D n 65 (a0,())=q4v D n (fun x0 x1 x2=>LQ qc D n 65 [.r,.r,.l,.r,.l] n (qmg x0 x1 x2) (CQ qc D n 65 [] [.r,.r,.l,.r,.l] (qi qc 65))) a0:=by kernel_rfl
 rw[h]
 simp only[qbhl]
 rfl

def qpn (D:DX)(n:Nat) (go:Int→List Int×Int×Int×Unit→(tSch)×qf×Unit→(tSch)×qf×Unit→Option ((((tSch)×qf×Unit)×Unit)×tCur×Unit)) (K0:List Int×Int×Int×Unit→(tSch)×qf×Unit→(tSch)×qf×Unit→Option ((((tSch)×qf×Unit)×Unit)×tCur×Unit)) (x0:Int) (x1:List Int×Int×Int×Unit) (x2:(tSch)×qf×Unit) (x3:(tSch)×qf×Unit):Option ((((tSch)×qf×Unit)×Unit)×tCur×Unit):=qh (qbj D x1 9) fun b↦br (decide (x0<Prod.fst (Prod.fst b))) (qh (qkl D (Prod.fst (Prod.snd b)) (Prod.fst x3)) fun b↦qh (qbj D (Prod.fst (Prod.snd b)) 6) fun b_1↦br (decide (Prod.fst (Prod.fst b_1)=0)) (qh (qd0 D (Prod.fst x3) (Prod.fst (Prod.fst b))) fun b↦qh (q2p D (Prod.fst x3,Prod.fst (Prod.snd x3),()) (Prod.fst (Prod.fst b))) fun b↦go (IntKind.wrap IntKind.i64 (x0+1)) (Prod.fst (Prod.snd b_1)) x2 (Prod.fst (Prod.fst (Prod.fst b)),Prod.fst (Prod.snd (Prod.fst (Prod.fst b))),())) (br (decide (Prod.fst (Prod.fst b_1)=1)) (qh (q0t D (Prod.fst x3,Prod.fst (Prod.snd x3),()) (Prod.fst (Prod.fst b))) fun b↦go (IntKind.wrap IntKind.i64 (x0+1)) (Prod.fst (Prod.snd b_1)) x2 (Prod.fst (Prod.fst (Prod.fst b)),Prod.fst (Prod.snd (Prod.fst (Prod.fst b))),())) (qh (q1v D (Prod.fst x3,Prod.fst (Prod.snd x3),()) (Prod.fst (Prod.fst b))) fun b↦go (IntKind.wrap IntKind.i64 (x0+1)) (Prod.fst (Prod.snd b_1)) x2 (Prod.fst (Prod.fst (Prod.fst b)),Prod.fst (Prod.snd (Prod.fst (Prod.fst b))),())))) (K0 (Prod.fst (Prod.snd b)) x2 x3)
def qgd (D:DX)(n:Nat) (K0:List Int×Int×Int×Unit→(tSch)×qf×Unit→(tSch)×qf×Unit→Option ((((tSch)×qf×Unit)×Unit)×tCur×Unit)):Nat→(Int)→tCur→((tSch)×qf×Unit)→((tSch)×qf×Unit)→Option ((((tSch)×qf×Unit)×Unit)×tCur×Unit) | 0=>(fun x0 x1 x2 x3=>none) | m+1=>(fun x0 x1 x2 x3=>qpn D n (qgd D n K0 m) K0 x0 x1 x2 x3)
def qnn (D:DX)(n:Nat) (v0_0:List Int×Int×Int×Unit) (v0_1:(tSch)×qf×Unit) (v0_2:(tSch)×qf×Unit):Option ((((tSch)×qf×Unit)×Unit)×tCur×Unit):=some (((Prod.fst v0_2,Prod.fst (Prod.snd v0_2),()),()),v0_0,())
def qoq (D:DX)(n:Nat):(Int)→tCur→((tSch)×qf×Unit)→((tSch)×qf×Unit)→Option ((((tSch)×qf×Unit)×Unit)×tCur×Unit):=(fun x0 x1 x2 x3=>qgd D n (fun v0_0 v0_1 v0_2=>qnn D n v0_0 v0_1 v0_2) n x0 x1 x2 x3)
def qrh (D:DX)(n:Nat) (lp0:Int→List Int×Int×Int×Unit→(tSch)×qf×Unit→(tSch)×qf×Unit→Option ((((tSch)×qf×Unit)×Unit)×tCur×Unit)) (a0:List Int×Int×Int×Unit):Option ((((tSch)×qf×Unit)×Unit)×tCur×Unit):=qh (qls D a0) fun b↦qh (q1z D (Prod.fst (Prod.fst b))) fun b_1↦lp0 0 (Prod.fst (Prod.snd b)) (([],[],[],()),[],()) (Prod.fst (Prod.fst (Prod.fst b_1)),Prod.fst (Prod.snd (Prod.fst (Prod.fst b_1))),())
def qq5 (D:DX)(n:Nat) (a0:List Int×Int×Int×Unit):Option ((((tSch)×qf×Unit)×Unit)×tCur×Unit):=qrh D n (qoq D n) a0
def qf7 (x0:Int) (x1:List Int×Int×Int×Unit) (x2:(tSch)×qf×Unit) (x3:(tSch)×qf×Unit):St:=stq 51 [(0,AV.addr 0 []),(2,AV.addr 2 []),(3,AV.addr 3 []),(5,avI x0)] [(0,Root.mk (Ty.pair (Ty.sl (Ty.int IntKind.u8)) (Ty.pair yI (Ty.pair yI Ty.unit))) Mk.no x1 true),(2,Root.mk (Ty.pair yS (Ty.pair (Ty.sl (Ty.sl yV)) Ty.unit)) (Mk.pr (Mk.pr (Mk.own 0 (Mk.pr Mk.no (Mk.pr Mk.no (Mk.pr Mk.no Mk.no)))) (Mk.pr (Mk.own 0 Mk.no) (Mk.pr (Mk.own 0 (Mk.pr Mk.no (Mk.pr (Mk.own 0 Mk.no) (Mk.pr Mk.no Mk.no)))) Mk.no))) (Mk.pr (Mk.own 0 (Mk.own 0 (Mk.pr Mk.no (Mk.pr Mk.no (Mk.pr Mk.no Mk.no))))) Mk.no)) x2 true),(3,Root.mk (Ty.pair yS (Ty.pair (Ty.sl (Ty.sl yV)) Ty.unit)) (Mk.pr Mk.no (Mk.pr (Mk.own 0 Mk.no) Mk.no)) x3 true)] 
def qjj (v0_0:List Int×Int×Int×Unit) (v0_1:(tSch)×qf×Unit) (v0_2:(tSch)×qf×Unit):St:=stq 51 [(0,AV.addr 0 []),(2,AV.addr 2 []),(3,AV.addr 3 [])] [(0,Root.mk (Ty.pair (Ty.sl (Ty.int IntKind.u8)) (Ty.pair yI (Ty.pair yI Ty.unit))) Mk.no v0_0 true),(2,Root.mk (Ty.pair yS (Ty.pair (Ty.sl (Ty.sl yV)) Ty.unit)) (Mk.pr (Mk.pr (Mk.own 0 (Mk.pr Mk.no (Mk.pr Mk.no (Mk.pr Mk.no Mk.no)))) (Mk.pr (Mk.own 0 Mk.no) (Mk.pr (Mk.own 0 (Mk.pr Mk.no (Mk.pr (Mk.own 0 Mk.no) (Mk.pr Mk.no Mk.no)))) Mk.no))) (Mk.pr (Mk.own 0 (Mk.own 0 (Mk.pr Mk.no (Mk.pr Mk.no (Mk.pr Mk.no Mk.no))))) Mk.no)) v0_1 true),(3,Root.mk (Ty.pair yS (Ty.pair (Ty.sl (Ty.sl yV)) Ty.unit)) (Mk.pr Mk.no (Mk.pr (Mk.own 0 Mk.no) Mk.no)) v0_2 true)] 
theorem q8i (D:DX)(n:Nat) (m:Nat) (K:Ex→St→Option (Out ctx 66)) (x0:Int) (x1:List Int×Int×Int×Unit) (x2:(tSch)×
 qf×Unit) (x3:(tSch)×
 qf×Unit) :
 LQ qc D n 66 [.r,.r,.l,.r,.l] (m+1) (qf7 x0 x1 x2 x3) K=qpn D n (fun x0 x1 x2 x3=>LQ qc D n 66 [.r,.r,.l,.r,.l] m (qf7 x0 x1 x2 x3) K) (fun v0_0 v0_1 v0_2=>K (Ex.exit 0) (qjj v0_0 v0_1 v0_2)) x0 x1 x2 x3:=by kernel_rfl
theorem qwj (D:DX)(n:Nat) (K:Ex→St→Option (Out ctx 66)):∀ (m:Nat) (x0:Int) (x1:List Int×Int×Int×Unit) (x2:(tSch)×
 qf×Unit) (x3:(tSch)×
 qf×Unit),LQ qc D n 66 [.r,.r,.l,.r,.l] m (qf7 x0 x1 x2 x3) K=qgd D n (fun v0_0 v0_1 v0_2=>K (Ex.exit 0) (qjj v0_0 v0_1 v0_2)) m x0 x1 x2 x3
 | 0,x0,x1,x2,x3=>qw ..
 | m+1,x0,x1,x2,x3=>by
  have ih:(fun x0 x1 x2 x3=>LQ qc D n 66 [.r,.r,.l,.r,.l] m (qf7 x0 x1 x2 x3) K)=qgd D n (fun v0_0 v0_1 v0_2=>K (Ex.exit 0) (qjj v0_0 v0_1 v0_2)) m:=by funext x0 x1 x2 x3;exact qwj D n K m x0 x1 x2 x3
  rw[q8i]
  rw[ih];rfl
theorem q61 (D:DX)(n:Nat) (v0_0:List Int×Int×Int×Unit) (v0_1:(tSch)×
 qf×Unit) (v0_2:(tSch)×
 qf×Unit) :
 (CQ qc D n 66 [] [.r,.r,.l,.r,.l] (qi qc 66)) (Ex.exit 0) (qjj v0_0 v0_1 v0_2)=qnn D n v0_0 v0_1 v0_2:=by kernel_rfl
theorem q62 (D:DX)(n:Nat) (x0:Int) (x1:List Int×Int×Int×Unit) (x2:(tSch)×
 qf×Unit) (x3:(tSch)×
 qf×Unit) :
 LQ qc D n 66 [.r,.r,.l,.r,.l] n (qf7 x0 x1 x2 x3) (CQ qc D n 66 [] [.r,.r,.l,.r,.l] (qi qc 66))=qoq D n x0 x1 x2 x3:=by
 rw[qwj]
 simp only[q61]
 rfl
theorem qbat (D:DX)(n:Nat) (a0:List Int×Int×Int×Unit):rfC qc D n 66 (a0,())=qq5 D n a0:=by
 have h:rfC qc D n 66 (a0,())=qrh D n (fun x0 x1 x2 x3=>LQ qc D n 66 [.r,.r,.l,.r,.l] n (qf7 x0 x1 x2 x3) (CQ qc D n 66 [] [.r,.r,.l,.r,.l] (qi qc 66))) a0:=by kernel_rfl
 rw[h]
 simp only[q62]
 rfl

def q3i (D:DX)(n:Nat) (a0:List Int×Int×Int×Unit) (a1:(tSch)×qf×Unit):Option ((qd×Unit)×tCur×Unit):=qh (qkl D a0 (Prod.fst a1)) fun b↦br (bif decide ((↑(List.length (Prod.fst (Prod.snd a1))):Int)>0) then decide ((↑(List.length (Prod.fst (Prod.fst b))):Int)>0) else false) (qh (qf2 D (Prod.fst (Prod.snd b)) 2) fun b_1↦br (Prod.fst (Prod.fst b_1)) (qh (qbj D (Prod.fst (Prod.snd b_1)) (↑(List.length (Prod.fst (Prod.snd a1))):Int)) fun b_2↦br (decide (0≤Prod.fst (Prod.fst b_2))&&decide (Prod.fst (Prod.fst b_2)<(↑(List.length (Prod.fst (Prod.snd a1))):Int))) (br (decide ((↑(List.length (List.getD (Prod.fst (Prod.snd a1)) (Int.toNat (Prod.fst (Prod.fst b_2))) [])):Int)>0)) (br (decide (0≤0)&&decide (0<(↑(List.length (List.getD (Prod.fst (Prod.snd a1)) (Int.toNat (Prod.fst (Prod.fst b_2))) [])):Int))) (br (decide (0≤0)&&decide (0<(↑(List.length (Prod.fst (Prod.fst b))):Int))) (some ((List.set (Prod.fst (Prod.fst b)) 0 (List.getD (List.getD (Prod.fst (Prod.snd a1)) (Int.toNat (Prod.fst (Prod.fst b_2))) []) (Int.toNat 0) (0,0,ByteArray.empty,())),()),Prod.fst (Prod.snd b_2),())) none) none) (some ((Prod.fst (Prod.fst b),()),Prod.fst (Prod.snd b_2),()))) none) (some ((Prod.fst (Prod.fst b),()),Prod.fst (Prod.snd b_1),()))) (some ((Prod.fst (Prod.fst b),()),Prod.fst (Prod.snd b),()))
def qut (D:DX)(n:Nat) (a0:List Int×Int×Int×Unit) (a1:(tSch)×qf×Unit):Option ((qd×Unit)×tCur×Unit):=q3i D n a0 a1
theorem qbd4 (D:DX)(n:Nat) (a0:List Int×Int×Int×Unit) (a1:(tSch)×
 qf×Unit):rfC qc D n 67 (a0,(a1,()))=qut D n a0 a1:=by kernel_rfl

def qbe1 (D:DX)(n:Nat) (a0:Int) (a1:Int) (a2:Int):Option ((Bool×Unit)×Unit):=some ((bif decide (a0≥a1) then decide (a0≤a2) else false,()),())
def q63 (D:DX)(n:Nat) (a0:Int) (a1:Int) (a2:Int):Option ((Bool×Unit)×Unit):=qbe1 D n a0 a1 a2
theorem qbqf (D:DX)(n:Nat) (a0:Int) (a1:Int) (a2:Int):rfC qc D n 68 (a0,(a1,(a2,())))=q63 D n a0 a1 a2:=by kernel_rfl

def q81 (D:DX)(n:Nat) (a0:tSch) (a1:Int) (a2:qd):Option ((tWay×Unit)×Unit):=br (decide (0≤a1)&&decide (a1<(↑(List.length (Prod.fst (Prod.snd (Prod.snd a0)))):Int))) (qh (qla D a2 (Prod.fst (Prod.snd (List.getD (Prod.fst (Prod.snd (Prod.snd a0))) (Int.toNat a1) (ByteArray.empty,[],false,()))))) fun b↦qh (qod D (Prod.fst (Prod.fst b))) fun b↦qh (qm7 D a0 a2) fun b_1↦qh (qod D (Prod.fst (Prod.fst b_1))) fun b_2↦some (((ByteArray.mk (List.toArray (List.map (fun n↦UInt8.ofNat (Int.toNat n)) (Prod.fst (Prod.fst b)))),ByteArray.mk (List.toArray (List.map (fun n↦UInt8.ofNat (Int.toNat n)) (Prod.fst (Prod.fst b_2)))),()),()),())) none
def q31 (D:DX)(n:Nat) (a0:tSch) (a1:Int) (a2:qd):Option ((tWay×Unit)×Unit):=q81 D n a0 a1 a2
theorem qbrt (D:DX)(n:Nat) (a0:tSch) (a1:Int) (a2:qd):rfC qc D n 69 (a0,(a1,(a2,())))=q31 D n a0 a1 a2:=by kernel_rfl

def q2v (D:DX)(n:Nat) (go:qd→Int→Int→tSch→Option ((Bool×Unit)×Unit)) (K0:Bool→Option ((Bool×Unit)×Unit)) (K1:Option ((Bool×Unit)×Unit)) (x0:qd) (x1:Int) (x2:Int) (x3:tSch):Option ((Bool×Unit)×Unit):=br (decide (x2<x1)) (br (decide (0≤x2)&&decide (x2<(↑(List.length x0):Int))) (br (decide (0≤x2)&&decide (x2<(↑(List.length (Prod.fst x3)):Int))) (qh (qtm D (List.getD x0 (Int.toNat x2) (0,0,ByteArray.empty,()))) fun b↦br (bif !Prod.fst (Prod.fst b) then true else bif Prod.fst (List.getD x0 (Int.toNat x2) (0,0,ByteArray.empty,())) != Prod.fst (Prod.snd (List.getD (Prod.fst x3) (Int.toNat x2) (ByteArray.empty,0,false,()))) then !bif decide (Prod.fst (List.getD x0 (Int.toNat x2) (0,0,ByteArray.empty,()))=0) then Prod.fst (Prod.snd (Prod.snd (List.getD (Prod.fst x3) (Int.toNat x2) (ByteArray.empty,0,false,())))) else false else false) (K0 false) (go x0 x1 (IntKind.wrap IntKind.i64 (x2+1)) x3)) none) none) K1
def qma (D:DX)(n:Nat) (K0:Bool→Option ((Bool×Unit)×Unit)) (K1:Option ((Bool×Unit)×Unit)):Nat→(qd)→(Int)→(Int)→(tSch)→Option ((Bool×Unit)×Unit) | 0=>(fun x0 x1 x2 x3=>none) | m+1=>(fun x0 x1 x2 x3=>q2v D n (qma D n K0 K1 m) K0 K1 x0 x1 x2 x3)
def q6m (D:DX)(n:Nat) (v0_0:Bool):Option ((Bool×Unit)×Unit):=some ((v0_0,()),())
def q6s (D:DX)(n:Nat):Option ((Bool×Unit)×Unit):=some ((true,()),())
def qyw (D:DX)(n:Nat):(qd)→(Int)→(Int)→(tSch)→Option ((Bool×Unit)×Unit):=(fun x0 x1 x2 x3=>qma D n (fun v0_0=>q6m D n v0_0) (q6s D n) n x0 x1 x2 x3)
def q4i (D:DX)(n:Nat) (lp0:qd→Int→Int→tSch→Option ((Bool×Unit)×Unit)) (a0:tSch) (a1:qd):Option ((Bool×Unit)×Unit):=qh (qr2 D a0) fun b↦br (bif !Prod.fst (Prod.fst b) then true else (↑(List.length a1):Int) != (↑(List.length (Prod.fst a0)):Int)) (some ((false,()),())) (lp0 a1 (↑(List.length a1):Int) 0 a0)
def q4m (D:DX)(n:Nat) (a0:tSch) (a1:qd):Option ((Bool×Unit)×Unit):=q4i D n (qyw D n) a0 a1
def qmf (x0:qd) (x1:Int) (x2:Int) (x3:tSch):St:=stq 52 [(2,AV.addr 2 []),(19,AV.val (Ty.sl yV) x0),(20,avI x1),(21,avI x2)] [(2,Root.mk yS Mk.no x3 true)] 
def qru (v0_0:Bool):St:=stq 52 [(4,AV.val Ty.bool v0_0)] [] 
def qr8:St:=stq 52 [] [] 
theorem qbk1 (D:DX)(n:Nat) (m:Nat) (K:Ex→St→Option (Out ctx 77)) (x0:qd) (x1:Int) (x2:Int) (x3:tSch) :
 LQ qc D n 77 [.r,.r,.l,.r,.l] (m+1) (qmf x0 x1 x2 x3) K=q2v D n (fun x0 x1 x2 x3=>LQ qc D n 77 [.r,.r,.l,.r,.l] m (qmf x0 x1 x2 x3) K) (fun v0_0=>K (Ex.ret) (qru v0_0)) (K (Ex.exit 0) (qr8)) x0 x1 x2 x3:=by kernel_rfl
theorem q8b (D:DX)(n:Nat) (K:Ex→St→Option (Out ctx 77)):∀ (m:Nat) (x0:qd) (x1:Int) (x2:Int) (x3:tSch),LQ qc D n 77 [.r,.r,.l,.r,.l] m (qmf x0 x1 x2 x3) K=qma D n (fun v0_0=>K (Ex.ret) (qru v0_0)) (K (Ex.exit 0) (qr8)) m x0 x1 x2 x3
 | 0,x0,x1,x2,x3=>qw ..
 | m+1,x0,x1,x2,x3=>by
  have ih:(fun x0 x1 x2 x3=>LQ qc D n 77 [.r,.r,.l,.r,.l] m (qmf x0 x1 x2 x3) K)=qma D n (fun v0_0=>K (Ex.ret) (qru v0_0)) (K (Ex.exit 0) (qr8)) m:=by funext x0 x1 x2 x3;exact q8b D n K m x0 x1 x2 x3
  rw[qbk1]
  rw[ih];rfl
theorem qbjj (D:DX)(n:Nat) (v0_0:Bool) :
 (CQ qc D n 77 [] [.r,.r,.l,.r,.l] (qi qc 77)) (Ex.ret) (qru v0_0)=q6m D n v0_0:=by kernel_rfl
theorem qbh6 (D:DX)(n:Nat) :
 (CQ qc D n 77 [] [.r,.r,.l,.r,.l] (qi qc 77)) (Ex.exit 0) (qr8)=q6s D n:=by kernel_rfl
theorem qbi2 (D:DX)(n:Nat) (x0:qd) (x1:Int) (x2:Int) (x3:tSch) :
 LQ qc D n 77 [.r,.r,.l,.r,.l] n (qmf x0 x1 x2 x3) (CQ qc D n 77 [] [.r,.r,.l,.r,.l] (qi qc 77))=qyw D n x0 x1 x2 x3:=by
 rw[q8b]
 simp only[qbjj,qbh6]
 rfl
theorem qbob (D:DX)(n:Nat) (a0:tSch) (a1:qd):rfC qc D n 77 (a0,(a1,()))=q4m D n a0 a1:=by
 have h:rfC qc D n 77 (a0,(a1,()))=q4i D n (fun x0 x1 x2 x3=>LQ qc D n 77 [.r,.r,.l,.r,.l] n (qmf x0 x1 x2 x3) (CQ qc D n 77 [] [.r,.r,.l,.r,.l] (qi qc 77))) a0 a1:=by kernel_rfl
 rw[h]
 simp only[qbi2]
 rfl

def q40 (D:DX)(n:Nat) (a0:qd) (a1:qd):Option ((Bool×Unit)×Unit):=qh (qcg D a0 a1 (Clo.mk 141 [])) fun b↦some ((decide (Prod.fst (Prod.fst b)<0),()),())
def qv8 (D:DX)(n:Nat) (a0:qd) (a1:qd):Option ((Bool×Unit)×Unit):=q40 D n a0 a1
theorem qbgr (D:DX)(n:Nat) (a0:qd) (a1:qd):rfC qc D n 78 (a0,(a1,()))=qv8 D n a0 a1:=by kernel_rfl

def qg3 (D:DX)(n:Nat) (a1:Clo) (a0:qf):Option ((Bool×Unit)×Unit):=qh (qew D a0 a1) fun b↦some ((decide (Prod.fst (Prod.fst b)≥0),()),())
def qd5 (D:DX)(n:Nat) (a0:qf) (a1:Clo):Option ((Bool×Unit)×Unit):=qg3 D n a1 a0
theorem qn2 (D:DX)(n:Nat) (a0:qf) (a1:Clo):rfC qc D n 79 (a0,(a1,()))=qd5 D n a0 a1:=by kernel_rfl

def q8c (D:DX)(n:Nat) (a0:qd) (a1:(tSch)×qf×Unit) (a2:qd):Option ((Bool×Unit)×Unit):=qh (q4s D (Prod.fst a1) a2 a0) fun b↦some ((Prod.fst (Prod.fst b),()),())
def qze (D:DX)(n:Nat) (a0:qd) (a1:(tSch)×qf×Unit) (a2:qd):Option ((Bool×Unit)×Unit):=q8c D n a0 a1 a2
theorem qbj5 (D:DX)(n:Nat) (a0:qd) (a1:(tSch)×
 qf×Unit) (a2:qd):rfC qc D n 80 (a0,(a1,(a2,())))=qze D n a0 a1 a2:=by kernel_rfl

def qbbg (D:DX)(n:Nat) (a0:tSch) (a1:qd) (a2:qd):Option ((Bool×Unit)×Unit):=qh (qcv D (Prod.fst (Prod.snd (Prod.snd a0))) (Clo.mk 143 [CapV.rptr (Ty.sl (Ty.pair (Ty.int IntKind.i64) (Ty.pair (Ty.int IntKind.i64) (Ty.pair Ty.str Ty.unit)))) a1,CapV.rptr (Ty.sl (Ty.pair (Ty.int IntKind.i64) (Ty.pair (Ty.int IntKind.i64) (Ty.pair Ty.str Ty.unit)))) a2])) fun b↦some ((Prod.fst (Prod.fst b),()),())
def q44 (D:DX)(n:Nat) (a0:tSch) (a1:qd) (a2:qd):Option ((Bool×Unit)×Unit):=qbbg D n a0 a1 a2
theorem qboy (D:DX)(n:Nat) (a0:tSch) (a1:qd) (a2:qd):rfC qc D n 81 (a0,(a1,(a2,())))=q44 D n a0 a1 a2:=by kernel_rfl

def qwf (D:DX)(n:Nat) (go:qhq→Int→Int→tSch→Option ((Bool×Unit)×Unit)) (K0:Bool→tSch→Option ((Bool×Unit)×Unit)) (K1:tSch→Option ((Bool×Unit)×Unit)) (x0:qhq) (x1:Int) (x2:Int) (x3:tSch):Option ((Bool×Unit)×Unit):=br (decide (x2<x1)) (br (decide (0≤x2)&&decide (x2<(↑(List.length x0):Int))) (qh (qpw D (Prod.fst (List.getD x0 (Int.toNat x2) (ByteArray.empty,0,false,())))) fun b↦br (!Prod.fst (Prod.fst b)) (K0 false x3) (qh (qf5 D (Prod.fst (Prod.snd (List.getD x0 (Int.toNat x2) (ByteArray.empty,0,false,())))) 1 3) fun b↦br (!Prod.fst (Prod.fst b)) (K0 false x3) (qh (q5u D x3 (Prod.fst (List.getD x0 (Int.toNat x2) (ByteArray.empty,0,false,())))) fun b↦br (Prod.fst (Prod.fst b) != x2) (K0 false x3) (go x0 x1 (IntKind.wrap IntKind.i64 (x2+1)) x3)))) none) (K1 x3)
def qi5 (D:DX)(n:Nat) (K0:Bool→tSch→Option ((Bool×Unit)×Unit)) (K1:tSch→Option ((Bool×Unit)×Unit)):Nat→(qhq)→(Int)→(Int)→(tSch)→Option ((Bool×Unit)×Unit) | 0=>(fun x0 x1 x2 x3=>none) | m+1=>(fun x0 x1 x2 x3=>qwf D n (qi5 D n K0 K1 m) K0 K1 x0 x1 x2 x3)
def q1e (D:DX)(n:Nat) (v0_0:Bool) (v0_1:tSch):Option ((Bool×Unit)×Unit):=some ((v0_0,()),())
def qvn (D:DX)(n:Nat) (go:tIxs→Int→Int→tSch→Option ((Bool×Unit)×Unit)) (K0:Bool→tSch→Option ((Bool×Unit)×Unit)) (K1:tSch→Option ((Bool×Unit)×Unit)) (x1_0:tIxs) (x1_1:Int) (x1_2:Int) (x1_3:tSch):Option ((Bool×Unit)×Unit):=br (decide (x1_2<x1_1)) (br (decide (0≤x1_2)&&decide (x1_2<(↑(List.length x1_0):Int))) (qh (qpw D (Prod.fst (List.getD x1_0 (Int.toNat x1_2) (ByteArray.empty,[],false,())))) fun b↦br (!Prod.fst (Prod.fst b)) (K0 false x1_3) (qh (qr7 D x1_3 (Prod.fst (Prod.snd (List.getD x1_0 (Int.toNat x1_2) (ByteArray.empty,[],false,())))) 3) fun b↦br (!Prod.fst (Prod.fst b)) (K0 false x1_3) (br (decide (0≤0)&&decide (0≤x1_2)&&decide (x1_2≤(↑(List.length (Prod.fst (Prod.snd (Prod.snd x1_3)))):Int))) (qh (qcv D (List.drop (Int.toNat 0) (List.take (Int.toNat x1_2) (Prod.fst (Prod.snd (Prod.snd x1_3))))) (Clo.mk 149 [CapV.rptr (Ty.pair Ty.str (Ty.pair (Ty.sl (Ty.int IntKind.i64)) (Ty.pair Ty.bool Ty.unit))) (List.getD x1_0 (Int.toNat x1_2) (ByteArray.empty,[],false,()))])) fun b↦br (Prod.fst (Prod.fst b)) (K0 false x1_3) (go x1_0 x1_1 (IntKind.wrap IntKind.i64 (x1_2+1)) x1_3)) none))) none) (K1 x1_3)
def qi1 (D:DX)(n:Nat) (K0:Bool→tSch→Option ((Bool×Unit)×Unit)) (K1:tSch→Option ((Bool×Unit)×Unit)):Nat→(tIxs)→(Int)→(Int)→(tSch)→Option ((Bool×Unit)×Unit) | 0=>(fun x1_0 x1_1 x1_2 x1_3=>none) | m+1=>(fun x1_0 x1_1 x1_2 x1_3=>qvn D n (qi1 D n K0 K1 m) K0 K1 x1_0 x1_1 x1_2 x1_3)
def q09 (D:DX)(n:Nat) (v0_0:Bool) (v0_1:tSch):Option ((Bool×Unit)×Unit):=some ((v0_0,()),())
def qs9 (D:DX)(n:Nat) (v1_0:tSch):Option ((Bool×Unit)×Unit):=qh (qf5 D (↑(List.length (Prod.fst v1_0)):Int) 1 5) fun b↦br (Prod.fst (Prod.fst b)) (qh (qr7 D v1_0 (Prod.fst (Prod.snd v1_0)) 4) fun b↦br (Prod.fst (Prod.fst b)) (qh (qij D (Prod.fst (Prod.snd v1_0)) (Clo.mk 151 [CapV.rptr (Ty.pair (Ty.sl (Ty.pair Ty.str (Ty.pair (Ty.int IntKind.i64) (Ty.pair Ty.bool Ty.unit)))) (Ty.pair (Ty.sl (Ty.int IntKind.i64)) (Ty.pair (Ty.sl (Ty.pair Ty.str (Ty.pair (Ty.sl (Ty.int IntKind.i64)) (Ty.pair Ty.bool Ty.unit)))) Ty.unit))) v1_0])) fun b↦some ((bif !Prod.fst (Prod.fst b) then decide ((↑(List.length (Prod.fst (Prod.snd (Prod.snd v1_0)))):Int)≤3) else false,()),())) (some ((false,()),()))) (some ((false,()),()))
def qtx (D:DX)(n:Nat):(tIxs)→(Int)→(Int)→(tSch)→Option ((Bool×Unit)×Unit):=(fun x1_0 x1_1 x1_2 x1_3=>qi1 D n (fun v0_0 v0_1=>q09 D n v0_0 v0_1) (fun v1_0=>qs9 D n v1_0) n x1_0 x1_1 x1_2 x1_3)
def qsw (D:DX)(n:Nat) (lp1:tIxs→Int→Int→tSch→Option ((Bool×Unit)×Unit)) (v1_0:tSch):Option ((Bool×Unit)×Unit):=lp1 (Prod.fst (Prod.snd (Prod.snd v1_0))) (↑(List.length (Prod.fst (Prod.snd (Prod.snd v1_0)))):Int) 0 v1_0
def qt7 (D:DX)(n:Nat):(qhq)→(Int)→(Int)→(tSch)→Option ((Bool×Unit)×Unit):=(fun x0 x1 x2 x3=>qi5 D n (fun v0_0 v0_1=>q1e D n v0_0 v0_1) (fun v1_0=>qsw D n (qtx D n) v1_0) n x0 x1 x2 x3)
def qx1 (D:DX)(n:Nat) (lp0:qhq→Int→Int→tSch→Option ((Bool×Unit)×Unit)) (a0:tSch):Option ((Bool×Unit)×Unit):=lp0 (Prod.fst a0) (↑(List.length (Prod.fst a0)):Int) 0 a0
def qwu (D:DX)(n:Nat) (a0:tSch):Option ((Bool×Unit)×Unit):=qx1 D n (qt7 D n) a0
def qja (x0:qhq) (x1:Int) (x2:Int) (x3:tSch):St:=stq 85 [(1,AV.addr 1 []),(8,AV.val (Ty.sl yC) x0),(9,avI x1),(10,avI x2)] [(1,Root.mk yS Mk.no x3 true)] 
def qm5 (v0_0:Bool) (v0_1:tSch):St:=stq 85 [(1,AV.addr 1 []),(2,AV.val Ty.bool v0_0)] [(1,Root.mk yS Mk.no v0_1 true)] 
def qni (v1_0:tSch):St:=stq 85 [(1,AV.addr 1 [])] [(1,Root.mk yS Mk.no v1_0 true)] 
def qi6 (x1_0:tIxs) (x1_1:Int) (x1_2:Int) (x1_3:tSch):St:=stq 85 [(1,AV.addr 1 []),(35,AV.val (Ty.sl yX) x1_0),(36,avI x1_1),(37,avI x1_2)] [(1,Root.mk yS Mk.no x1_3 true)] 
def qmn (v0_0:Bool) (v0_1:tSch):St:=stq 85 [(1,AV.addr 1 []),(2,AV.val Ty.bool v0_0)] [(1,Root.mk yS Mk.no v0_1 true)] 
def qm1 (v1_0:tSch):St:=stq 85 [(1,AV.addr 1 [])] [(1,Root.mk yS Mk.no v1_0 true)] 
theorem qbed (D:DX)(n:Nat) (m:Nat) (K:Ex→St→Option (Out ctx 82)) (x0:qhq) (x1:Int) (x2:Int) (x3:tSch) :
 LQ qc D n 82 [.r,.l,.r,.l] (m+1) (qja x0 x1 x2 x3) K=qwf D n (fun x0 x1 x2 x3=>LQ qc D n 82 [.r,.l,.r,.l] m (qja x0 x1 x2 x3) K) (fun v0_0 v0_1=>K (Ex.ret) (qm5 v0_0 v0_1)) (fun v1_0=>K (Ex.exit 0) (qni v1_0)) x0 x1 x2 x3:=by kernel_rfl
theorem q22 (D:DX)(n:Nat) (K:Ex→St→Option (Out ctx 82)):∀ (m:Nat) (x0:qhq) (x1:Int) (x2:Int) (x3:tSch),LQ qc D n 82 [.r,.l,.r,.l] m (qja x0 x1 x2 x3) K=qi5 D n (fun v0_0 v0_1=>K (Ex.ret) (qm5 v0_0 v0_1)) (fun v1_0=>K (Ex.exit 0) (qni v1_0)) m x0 x1 x2 x3
 | 0,x0,x1,x2,x3=>qw ..
 | m+1,x0,x1,x2,x3=>by
  have ih:(fun x0 x1 x2 x3=>LQ qc D n 82 [.r,.l,.r,.l] m (qja x0 x1 x2 x3) K)=qi5 D n (fun v0_0 v0_1=>K (Ex.ret) (qm5 v0_0 v0_1)) (fun v1_0=>K (Ex.exit 0) (qni v1_0)) m:=by funext x0 x1 x2 x3;exact q22 D n K m x0 x1 x2 x3
  rw[qbed]
  rw[ih];rfl
theorem qbea (D:DX)(n:Nat) (m:Nat) (K:Ex→St→Option (Out ctx 82)) (x1_0:tIxs) (x1_1:Int) (x1_2:Int) (x1_3:tSch) :
 LQ qc D n 82 [.r,.r,.l,.r,.l] (m+1) (qi6 x1_0 x1_1 x1_2 x1_3) K=qvn D n (fun x1_0 x1_1 x1_2 x1_3=>LQ qc D n 82 [.r,.r,.l,.r,.l] m (qi6 x1_0 x1_1 x1_2 x1_3) K) (fun v0_0 v0_1=>K (Ex.ret) (qmn v0_0 v0_1)) (fun v1_0=>K (Ex.exit 2) (qm1 v1_0)) x1_0 x1_1 x1_2 x1_3:=by kernel_rfl
theorem q29 (D:DX)(n:Nat) (K:Ex→St→Option (Out ctx 82)):∀ (m:Nat) (x1_0:tIxs) (x1_1:Int) (x1_2:Int) (x1_3:tSch),LQ qc D n 82 [.r,.r,.l,.r,.l] m (qi6 x1_0 x1_1 x1_2 x1_3) K=qi1 D n (fun v0_0 v0_1=>K (Ex.ret) (qmn v0_0 v0_1)) (fun v1_0=>K (Ex.exit 2) (qm1 v1_0)) m x1_0 x1_1 x1_2 x1_3
 | 0,x1_0,x1_1,x1_2,x1_3=>qw ..
 | m+1,x1_0,x1_1,x1_2,x1_3=>by
  have ih:(fun x1_0 x1_1 x1_2 x1_3=>LQ qc D n 82 [.r,.r,.l,.r,.l] m (qi6 x1_0 x1_1 x1_2 x1_3) K)=qi1 D n (fun v0_0 v0_1=>K (Ex.ret) (qmn v0_0 v0_1)) (fun v1_0=>K (Ex.exit 2) (qm1 v1_0)) m:=by funext x1_0 x1_1 x1_2 x1_3;exact q29 D n K m x1_0 x1_1 x1_2 x1_3
  rw[qbea]
  rw[ih];rfl
theorem qbbb (D:DX)(n:Nat) (v0_0:Bool) (v0_1:tSch) :
 (CQ qc D n 82 [] [.r,.r,.l,.r,.l] (qi qc 82)) (Ex.ret) (qmn v0_0 v0_1)=q09 D n v0_0 v0_1:=by kernel_rfl
theorem qbb1 (D:DX)(n:Nat) (v1_0:tSch) :
 (CQ qc D n 82 [] [.r,.r,.l,.r,.l] (qi qc 82)) (Ex.exit 2) (qm1 v1_0)=qs9 D n v1_0:=by kernel_rfl
theorem qbcl (D:DX)(n:Nat) (x1_0:tIxs) (x1_1:Int) (x1_2:Int) (x1_3:tSch) :
 LQ qc D n 82 [.r,.r,.l,.r,.l] n (qi6 x1_0 x1_1 x1_2 x1_3) (CQ qc D n 82 [] [.r,.r,.l,.r,.l] (qi qc 82))=qtx D n x1_0 x1_1 x1_2 x1_3:=by
 rw[q29]
 simp only[qbbb,qbb1]
 rfl
theorem qbcy (D:DX)(n:Nat) (v0_0:Bool) (v0_1:tSch) :
 (CQ qc D n 82 [] [.r,.l,.r,.l] (qi qc 82)) (Ex.ret) (qm5 v0_0 v0_1)=q1e D n v0_0 v0_1:=by kernel_rfl
theorem qbbx (D:DX)(n:Nat) (v1_0:tSch) :
 (CQ qc D n 82 [] [.r,.l,.r,.l] (qi qc 82)) (Ex.exit 0) (qni v1_0)=qsw D n (fun x1_0 x1_1 x1_2 x1_3=>LQ qc D n 82 [.r,.r,.l,.r,.l] n (qi6 x1_0 x1_1 x1_2 x1_3) (CQ qc D n 82 [] [.r,.r,.l,.r,.l] (qi qc 82))) v1_0:=by kernel_rfl
theorem qbbf (D:DX)(n:Nat) (x0:qhq) (x1:Int) (x2:Int) (x3:tSch) :
 LQ qc D n 82 [.r,.l,.r,.l] n (qja x0 x1 x2 x3) (CQ qc D n 82 [] [.r,.l,.r,.l] (qi qc 82))=qt7 D n x0 x1 x2 x3:=by
 rw[q22]
 simp only[qbcy,qbbx,qbcl]
 rfl
theorem qbh0 (D:DX)(n:Nat) (a0:tSch):rfC qc D n 82 (a0,())=qwu D n a0:=by
 have h:rfC qc D n 82 (a0,())=qx1 D n (fun x0 x1 x2 x3=>LQ qc D n 82 [.r,.l,.r,.l] n (qja x0 x1 x2 x3) (CQ qc D n 82 [] [.r,.l,.r,.l] (qi qc 82))) a0:=by kernel_rfl
 rw[h]
 simp only[qbbf]
 rfl




def qed (D:DX)(n:Nat) (a1:Clo) (go:qf→Int→Int→Option ((Int×Unit)×Unit)) (K0:Int→Option ((Int×Unit)×Unit)) (K1:Option ((Int×Unit)×Unit)) (x0:qf) (x1:Int) (x2:Int):Option ((Int×Unit)×Unit):=br (decide (x2<x1)) (br (decide (0≤x2)&&decide (x2<(↑(List.length x0):Int))) (qh (qbl ctx D a1 [CapV.val (Ty.sl (Ty.pair (Ty.int IntKind.i64) (Ty.pair (Ty.int IntKind.i64) (Ty.pair Ty.str Ty.unit)))) (List.getD x0 (Int.toNat x2) [])] Ty.bool) fun b↦br b (K0 x2) (go x0 x1 (IntKind.wrap IntKind.i64 (x2+1)))) none) K1
def qbs (D:DX)(n:Nat) (a1:Clo) (K0:Int→Option ((Int×Unit)×Unit)) (K1:Option ((Int×Unit)×Unit)):Nat→(qf)→(Int)→(Int)→Option ((Int×Unit)×Unit) | 0=>(fun x0 x1 x2=>none) | m+1=>(fun x0 x1 x2=>qed D n a1 (qbs D n a1 K0 K1 m) K0 K1 x0 x1 x2)
def qg1 (D:DX)(n:Nat) (a1:Clo) (v0_0:Int):Option ((Int×Unit)×Unit):=some ((v0_0,()),())
def qgy (D:DX)(n:Nat) (a1:Clo):Option ((Int×Unit)×Unit):=some ((-1,()),())
def qeb (D:DX)(n:Nat) (a1:Clo):(qf)→(Int)→(Int)→Option ((Int×Unit)×Unit):=(fun x0 x1 x2=>qbs D n a1 (fun v0_0=>qg1 D n a1 v0_0) (qgy D n a1) n x0 x1 x2)
def qer (D:DX)(n:Nat) (a1:Clo) (lp0:qf→Int→Int→Option ((Int×Unit)×Unit)) (a0:qf):Option ((Int×Unit)×Unit):=lp0 a0 (↑(List.length a0):Int) 0
def qet (D:DX)(n:Nat) (a0:qf) (a1:Clo):Option ((Int×Unit)×Unit):=qer D n a1 (qeb D n a1) a0
def qbt (a1:Clo) (x0:qf) (x1:Int) (x2:Int):St:=stq 19 [(0,AV.val (Ty.sl (Ty.sl yV)) x0),(1,AV.cloV a1),(7,avI x1),(8,avI x2)] [] 
def qcx (a1:Clo) (v0_0:Int):St:=stq 19 [(4,avI v0_0)] [] 
def qcy (a1:Clo):St:=stq 19 [] [] 
theorem qon (D:DX)(n:Nat) (a1:Clo) (m:Nat) (K:Ex→St→Option (Out ctx 86)) (x0:qf) (x1:Int) (x2:Int) :
 LQ qc D n 86 [.r,.l,.r,.l] (m+1) (qbt a1 x0 x1 x2) K=qed D n a1 (fun x0 x1 x2=>LQ qc D n 86 [.r,.l,.r,.l] m (qbt a1 x0 x1 x2) K) (fun v0_0=>K (Ex.ret) (qcx a1 v0_0)) (K (Ex.exit 0) (qcy a1)) x0 x1 x2:=by kernel_rfl
theorem qhl (D:DX)(n:Nat) (a1:Clo) (K:Ex→St→Option (Out ctx 86)):∀ (m:Nat) (x0:qf) (x1:Int) (x2:Int),LQ qc D n 86 [.r,.l,.r,.l] m (qbt a1 x0 x1 x2) K=qbs D n a1 (fun v0_0=>K (Ex.ret) (qcx a1 v0_0)) (K (Ex.exit 0) (qcy a1)) m x0 x1 x2
 | 0,x0,x1,x2=>qw ..
 | m+1,x0,x1,x2=>by
  have ih:(fun x0 x1 x2=>LQ qc D n 86 [.r,.l,.r,.l] m (qbt a1 x0 x1 x2) K)=qbs D n a1 (fun v0_0=>K (Ex.ret) (qcx a1 v0_0)) (K (Ex.exit 0) (qcy a1)) m:=by funext x0 x1 x2;exact qhl D n a1 K m x0 x1 x2
  rw[qon]
  rw[ih];rfl
theorem qny (D:DX)(n:Nat) (a1:Clo) (v0_0:Int) :
 (CQ qc D n 86 [] [.r,.l,.r,.l] (qi qc 86)) (Ex.ret) (qcx a1 v0_0)=qg1 D n a1 v0_0:=by kernel_rfl
theorem qn7 (D:DX)(n:Nat) (a1:Clo) :
 (CQ qc D n 86 [] [.r,.l,.r,.l] (qi qc 86)) (Ex.exit 0) (qcy a1)=qgy D n a1:=by kernel_rfl
theorem qn3 (D:DX)(n:Nat) (a1:Clo) (x0:qf) (x1:Int) (x2:Int) :
 LQ qc D n 86 [.r,.l,.r,.l] n (qbt a1 x0 x1 x2) (CQ qc D n 86 [] [.r,.l,.r,.l] (qi qc 86))=qeb D n a1 x0 x1 x2:=by
 rw[qhl]
 simp only[qny,qn7]
 rfl
theorem qo6 (D:DX)(n:Nat) (a0:qf) (a1:Clo):rfC qc D n 86 (a0,(a1,()))=qet D n a0 a1:=by
 have h:rfC qc D n 86 (a0,(a1,()))=qer D n a1 (fun x0 x1 x2=>LQ qc D n 86 [.r,.l,.r,.l] n (qbt a1 x0 x1 x2) (CQ qc D n 86 [] [.r,.l,.r,.l] (qi qc 86))) a0:=by kernel_rfl
 rw[h]
 simp only[qn3]
 rfl



def qlj (D:DX)(n:Nat) (a0:List tWay):Option ((List tWay×Unit)×Unit):=br (decide (Int.toNat (↑(List.length a0):Int)=0)) (both (some (([],()),())) (br (decide (0+List.length a0≤q0)) (some (([]++a0,()),())) none)) (br (decide (0+List.length a0≤q0)) (some (([]++a0,()),())) none)
def qg7 (D:DX)(n:Nat) (a0:List tWay):Option ((List tWay×Unit)×Unit):=qlj D n a0
theorem qvl (D:DX)(n:Nat) (a0:List tWay):rfC qc D n 90 (a0,())=qg7 D n a0:=by kernel_rfl

def qdr (D:DX)(n:Nat) (a1:Clo) (go:List tWay→Int→Int→Option ((Int×Unit)×Unit)) (K0:Int→Option ((Int×Unit)×Unit)) (K1:Option ((Int×Unit)×Unit)) (x0:List tWay) (x1:Int) (x2:Int):Option ((Int×Unit)×Unit):=br (decide (x2<x1)) (br (decide (0≤x2)&&decide (x2<(↑(List.length x0):Int))) (qh (qbl ctx D a1 [CapV.val (Ty.pair Ty.str (Ty.pair Ty.str Ty.unit)) (List.getD x0 (Int.toNat x2) (ByteArray.empty,ByteArray.empty,()))] Ty.bool) fun b↦br b (K0 x2) (go x0 x1 (IntKind.wrap IntKind.i64 (x2+1)))) none) K1
def q7 (D:DX)(n:Nat) (a1:Clo) (K0:Int→Option ((Int×Unit)×Unit)) (K1:Option ((Int×Unit)×Unit)):Nat→(List tWay)→(Int)→(Int)→Option ((Int×Unit)×Unit) | 0=>(fun x0 x1 x2=>none) | m+1=>(fun x0 x1 x2=>qdr D n a1 (q7 D n a1 K0 K1 m) K0 K1 x0 x1 x2)
def qda (D:DX)(n:Nat) (a1:Clo) (v0_0:Int):Option ((Int×Unit)×Unit):=some ((v0_0,()),())
def qdc (D:DX)(n:Nat) (a1:Clo):Option ((Int×Unit)×Unit):=some ((-1,()),())
def qdl (D:DX)(n:Nat) (a1:Clo):(List tWay)→(Int)→(Int)→Option ((Int×Unit)×Unit):=(fun x0 x1 x2=>q7 D n a1 (fun v0_0=>qda D n a1 v0_0) (qdc D n a1) n x0 x1 x2)
def qdz (D:DX)(n:Nat) (a1:Clo) (lp0:List tWay→Int→Int→Option ((Int×Unit)×Unit)) (a0:List tWay):Option ((Int×Unit)×Unit):=lp0 a0 (↑(List.length a0):Int) 0
def qdt (D:DX)(n:Nat) (a0:List tWay) (a1:Clo):Option ((Int×Unit)×Unit):=qdz D n a1 (qdl D n a1) a0
def qb8 (a1:Clo) (x0:List tWay) (x1:Int) (x2:Int):St:=stq 19 [(0,AV.val (Ty.sl (Ty.pair Ty.str (Ty.pair Ty.str Ty.unit))) x0),(1,AV.cloV a1),(7,avI x1),(8,avI x2)] [] 
def qdb (a1:Clo) (v0_0:Int):St:=stq 19 [(4,avI v0_0)] [] 
def qdd (a1:Clo):St:=stq 19 [] [] 
theorem qrd (D:DX)(n:Nat) (a1:Clo) (m:Nat) (K:Ex→St→Option (Out ctx 91)) (x0:List tWay) (x1:Int) (x2:Int) :
 LQ qc D n 91 [.r,.l,.r,.l] (m+1) (qb8 a1 x0 x1 x2) K=qdr D n a1 (fun x0 x1 x2=>LQ qc D n 91 [.r,.l,.r,.l] m (qb8 a1 x0 x1 x2) K) (fun v0_0=>K (Ex.ret) (qdb a1 v0_0)) (K (Ex.exit 0) (qdd a1)) x0 x1 x2:=by kernel_rfl
theorem qiq (D:DX)(n:Nat) (a1:Clo) (K:Ex→St→Option (Out ctx 91)):∀ (m:Nat) (x0:List tWay) (x1:Int) (x2:Int),LQ qc D n 91 [.r,.l,.r,.l] m (qb8 a1 x0 x1 x2) K=q7 D n a1 (fun v0_0=>K (Ex.ret) (qdb a1 v0_0)) (K (Ex.exit 0) (qdd a1)) m x0 x1 x2
 | 0,x0,x1,x2=>qw ..
 | m+1,x0,x1,x2=>by
  have ih:(fun x0 x1 x2=>LQ qc D n 91 [.r,.l,.r,.l] m (qb8 a1 x0 x1 x2) K)=q7 D n a1 (fun v0_0=>K (Ex.ret) (qdb a1 v0_0)) (K (Ex.exit 0) (qdd a1)) m:=by funext x0 x1 x2;exact qiq D n a1 K m x0 x1 x2
  rw[qrd]
  rw[ih];rfl
theorem qqa (D:DX)(n:Nat) (a1:Clo) (v0_0:Int) :
 (CQ qc D n 91 [] [.r,.l,.r,.l] (qi qc 91)) (Ex.ret) (qdb a1 v0_0)=qda D n a1 v0_0:=by kernel_rfl
theorem qqs (D:DX)(n:Nat) (a1:Clo) :
 (CQ qc D n 91 [] [.r,.l,.r,.l] (qi qc 91)) (Ex.exit 0) (qdd a1)=qdc D n a1:=by kernel_rfl
theorem qqe (D:DX)(n:Nat) (a1:Clo) (x0:List tWay) (x1:Int) (x2:Int) :
 LQ qc D n 91 [.r,.l,.r,.l] n (qb8 a1 x0 x1 x2) (CQ qc D n 91 [] [.r,.l,.r,.l] (qi qc 91))=qdl D n a1 x0 x1 x2:=by
 rw[qiq]
 simp only[qqa,qqs]
 rfl
theorem qsq (D:DX)(n:Nat) (a0:List tWay) (a1:Clo):rfC qc D n 91 (a0,(a1,()))=qdt D n a0 a1:=by
 have h:rfC qc D n 91 (a0,(a1,()))=qdz D n a1 (fun x0 x1 x2=>LQ qc D n 91 [.r,.l,.r,.l] n (qb8 a1 x0 x1 x2) (CQ qc D n 91 [] [.r,.l,.r,.l] (qi qc 91))) a0:=by kernel_rfl
 rw[h]
 simp only[qqe]
 rfl

def q54 (D:DX)(n:Nat) (a0:ByteArray×ByteArray×Unit) (a1:ByteArray×ByteArray×Unit):Option ((Bool×Unit)×Unit):=qh (qlg D a0 a1) fun b↦some ((!Prod.fst (Prod.fst b),()),())
def qxv (D:DX)(n:Nat) (a0:ByteArray×ByteArray×Unit) (a1:ByteArray×ByteArray×Unit):Option ((Bool×Unit)×Unit):=q54 D n a0 a1
theorem qbhe (D:DX)(n:Nat) (a0:ByteArray×ByteArray×Unit) (a1:ByteArray×ByteArray×Unit):rfC qc D n 92 (a0,(a1,()))=qxv D n a0 a1:=by kernel_rfl

def qw1 (D:DX)(n:Nat) (go:qd→List Int→Int→Int→qd→Option ((qd×Unit)×Unit)) (K0:qd→Option ((qd×Unit)×Unit)) (x0:qd) (x1:List Int) (x2:Int) (x3:Int) (x4:qd):Option ((qd×Unit)×Unit):=br (decide (x3<x2)) (br (decide (0≤x3)&&decide (x3<(↑(List.length x1):Int))) (qh (qf5 D (List.getD x1 (Int.toNat x3) 0) 0 (IntKind.wrap IntKind.i64 ((↑(List.length x0):Int) - 1))) fun b↦br (Prod.fst (Prod.fst b)) (br (decide (0≤List.getD x1 (Int.toNat x3) 0)&&decide (List.getD x1 (Int.toNat x3) 0<(↑(List.length x0):Int))) (br (decide (List.length x4+1≤q0)) (go x0 x1 x2 (IntKind.wrap IntKind.i64 (x3+1)) (x4++[List.getD x0 (Int.toNat (List.getD x1 (Int.toNat x3) 0)) (0,0,ByteArray.empty,())])) none) none) (go x0 x1 x2 (IntKind.wrap IntKind.i64 (x3+1)) x4)) none) (K0 x4)
def qj9 (D:DX)(n:Nat) (K0:qd→Option ((qd×Unit)×Unit)):Nat→(qd)→(List Int)→(Int)→(Int)→(qd)→Option ((qd×Unit)×Unit) | 0=>(fun x0 x1 x2 x3 x4=>none) | m+1=>(fun x0 x1 x2 x3 x4=>qw1 D n (qj9 D n K0 m) K0 x0 x1 x2 x3 x4)
def q21 (D:DX)(n:Nat) (v0_0:qd):Option ((qd×Unit)×Unit):=some ((v0_0,()),())
def qvw (D:DX)(n:Nat):(qd)→(List Int)→(Int)→(Int)→(qd)→Option ((qd×Unit)×Unit):=(fun x0 x1 x2 x3 x4=>qj9 D n (fun v0_0=>q21 D n v0_0) n x0 x1 x2 x3 x4)
def qzf (D:DX)(n:Nat) (lp0:qd→List Int→Int→Int→qd→Option ((qd×Unit)×Unit)) (a0:qd) (a1:List Int):Option ((qd×Unit)×Unit):=lp0 a0 a1 (↑(List.length a1):Int) 0 []
def qz1 (D:DX)(n:Nat) (a0:qd) (a1:List Int):Option ((qd×Unit)×Unit):=qzf D n (qvw D n) a0 a1
def qj6 (x0:qd) (x1:List Int) (x2:Int) (x3:Int) (x4:qd):St:=stq 29 [(0,AV.val (Ty.sl yV) x0),(5,AV.brw 5 [] 0),(9,AV.val (Ty.sl yI) x1),(10,avI x2),(11,avI x3)] [(5,Root.mk (Ty.sl yV) (Mk.own 0 (Mk.pr Mk.no (Mk.pr Mk.no (Mk.pr Mk.no Mk.no)))) x4 false)] 
def qoh (v0_0:qd):St:=stq 29 [(5,AV.brw 5 [] 0)] [(5,Root.mk (Ty.sl yV) (Mk.own 0 (Mk.pr Mk.no (Mk.pr Mk.no (Mk.pr Mk.no Mk.no)))) v0_0 false)] 
theorem qbfu (D:DX)(n:Nat) (m:Nat) (K:Ex→St→Option (Out ctx 94)) (x0:qd) (x1:List Int) (x2:Int) (x3:Int) (x4:qd) :
 LQ qc D n 94 [.r,.r,.l,.r,.l] (m+1) (qj6 x0 x1 x2 x3 x4) K=qw1 D n (fun x0 x1 x2 x3 x4=>LQ qc D n 94 [.r,.r,.l,.r,.l] m (qj6 x0 x1 x2 x3 x4) K) (fun v0_0=>K (Ex.exit 0) (qoh v0_0)) x0 x1 x2 x3 x4:=by kernel_rfl
theorem q5a (D:DX)(n:Nat) (K:Ex→St→Option (Out ctx 94)):∀ (m:Nat) (x0:qd) (x1:List Int) (x2:Int) (x3:Int) (x4:qd),LQ qc D n 94 [.r,.r,.l,.r,.l] m (qj6 x0 x1 x2 x3 x4) K=qj9 D n (fun v0_0=>K (Ex.exit 0) (qoh v0_0)) m x0 x1 x2 x3 x4
 | 0,x0,x1,x2,x3,x4=>qw ..
 | m+1,x0,x1,x2,x3,x4=>by
  have ih:(fun x0 x1 x2 x3 x4=>LQ qc D n 94 [.r,.r,.l,.r,.l] m (qj6 x0 x1 x2 x3 x4) K)=qj9 D n (fun v0_0=>K (Ex.exit 0) (qoh v0_0)) m:=by funext x0 x1 x2 x3 x4;exact q5a D n K m x0 x1 x2 x3 x4
  rw[qbfu]
  rw[ih];rfl
theorem qbdm (D:DX)(n:Nat) (v0_0:qd) :
 (CQ qc D n 94 [] [.r,.r,.l,.r,.l] (qi qc 94)) (Ex.exit 0) (qoh v0_0)=q21 D n v0_0:=by kernel_rfl
theorem qbdv (D:DX)(n:Nat) (x0:qd) (x1:List Int) (x2:Int) (x3:Int) (x4:qd) :
 LQ qc D n 94 [.r,.r,.l,.r,.l] n (qj6 x0 x1 x2 x3 x4) (CQ qc D n 94 [] [.r,.r,.l,.r,.l] (qi qc 94))=qvw D n x0 x1 x2 x3 x4:=by
 rw[q5a]
 simp only[qbdm]
 rfl
theorem qbkw (D:DX)(n:Nat) (a0:qd) (a1:List Int):rfC qc D n 94 (a0,(a1,()))=qz1 D n a0 a1:=by
 have h:rfC qc D n 94 (a0,(a1,()))=qzf D n (fun x0 x1 x2 x3 x4=>LQ qc D n 94 [.r,.r,.l,.r,.l] n (qj6 x0 x1 x2 x3 x4) (CQ qc D n 94 [] [.r,.r,.l,.r,.l] (qi qc 94))) a0 a1:=by kernel_rfl
 rw[h]
 simp only[qbdv]
 rfl

def qe6 (D:DX)(n:Nat) (a1:Clo) (go:Int→Int→List tWay→Option ((List tWay×Unit)×Unit)) (K0:Int→List tWay→Option ((List tWay×Unit)×Unit)) (x0:Int) (x1:Int) (x2:List tWay):Option ((List tWay×Unit)×Unit):=br (decide (x1<(↑(List.length x2):Int))) (br (decide (0≤x1)&&decide (x1<(↑(List.length x2):Int))) (qh (qbl ctx D a1 [CapV.val (Ty.pair Ty.str (Ty.pair Ty.str Ty.unit)) (List.getD x2 (Int.toNat x1) (ByteArray.empty,ByteArray.empty,()))] Ty.bool) fun b↦br (!b) (br (decide (0≤x0)&&decide (x0<(↑(List.length x2):Int))) (go (IntKind.wrap IntKind.i64 (x0+1)) (IntKind.wrap IntKind.i64 (x1+1)) (List.set x2 (Int.toNat x0) (List.getD x2 (Int.toNat x1) (ByteArray.empty,ByteArray.empty,())))) none) (go x0 (IntKind.wrap IntKind.i64 (x1+1)) x2)) none) (K0 x0 x2)
def qb2 (D:DX)(n:Nat) (a1:Clo) (K0:Int→List tWay→Option ((List tWay×Unit)×Unit)):Nat→(Int)→(Int)→(List tWay)→Option ((List tWay×Unit)×Unit) | 0=>(fun x0 x1 x2=>none) | m+1=>(fun x0 x1 x2=>qe6 D n a1 (qb2 D n a1 K0 m) K0 x0 x1 x2)
def qc5 (D:DX)(n:Nat) (a1:Clo) (v0_0:Int) (v0_1:List tWay):Option ((List tWay×Unit)×Unit):=br (decide (0≤v0_0)&&decide (v0_0≤(↑(List.length v0_1):Int))) (br (decide (Int.toNat v0_0<List.length v0_1)) (br (decide (0≤v0_0)&&decide (v0_0≤(↑(List.length (qir (Ty.pair Ty.str (Ty.pair Ty.str Ty.unit)) v0_1 (Int.toNat v0_0) (List.length v0_1))):Int))) (some ((List.take (Int.toNat v0_0) (qir (Ty.pair Ty.str (Ty.pair Ty.str Ty.unit)) v0_1 (Int.toNat v0_0) (List.length v0_1)),()),())) none) (br (decide (0≤v0_0)&&decide (v0_0≤(↑(List.length v0_1):Int))) (some ((List.take (Int.toNat v0_0) v0_1,()),())) none)) none
def qe0 (D:DX)(n:Nat) (a1:Clo):(Int)→(Int)→(List tWay)→Option ((List tWay×Unit)×Unit):=(fun x0 x1 x2=>qb2 D n a1 (fun v0_0 v0_1=>qc5 D n a1 v0_0 v0_1) n x0 x1 x2)
def qff (D:DX)(n:Nat) (a1:Clo) (lp0:Int→Int→List tWay→Option ((List tWay×Unit)×Unit)) (a0:List tWay):Option ((List tWay×Unit)×Unit):=qh (qdx D a0 a1) fun b↦br (decide (Prod.fst (Prod.fst b) = -1)) (some ((a0,()),())) (lp0 (Prod.fst (Prod.fst b)) (IntKind.wrap IntKind.i64 (Prod.fst (Prod.fst b)+1)) a0)
def qfk (D:DX)(n:Nat) (a0:List tWay) (a1:Clo):Option ((List tWay×Unit)×Unit):=qff D n a1 (qe0 D n a1) a0
def qb3 (a1:Clo) (x0:Int) (x1:Int) (x2:List tWay):St:=stq 42 [(0,AV.brw 0 [] 0),(1,AV.cloV a1),(5,avI x0),(6,avI x1)] [(0,Root.mk (Ty.sl (Ty.pair Ty.str (Ty.pair Ty.str Ty.unit))) (Mk.own 0 (Mk.pr Mk.no (Mk.pr Mk.no Mk.no))) x2 false)] 
def qc6 (a1:Clo) (v0_0:Int) (v0_1:List tWay):St:=stq 42 [(0,AV.brw 0 [] 0),(5,avI v0_0)] [(0,Root.mk (Ty.sl (Ty.pair Ty.str (Ty.pair Ty.str Ty.unit))) (Mk.own 0 (Mk.pr Mk.no (Mk.pr Mk.no Mk.no))) v0_1 false)] 
theorem qqm (D:DX)(n:Nat) (a1:Clo) (m:Nat) (K:Ex→St→Option (Out ctx 96)) (x0:Int) (x1:Int) (x2:List tWay) :
 LQ qc D n 96 [.r,.r,.r,.l,.r,.l] (m+1) (qb3 a1 x0 x1 x2) K=qe6 D n a1 (fun x0 x1 x2=>LQ qc D n 96 [.r,.r,.r,.l,.r,.l] m (qb3 a1 x0 x1 x2) K) (fun v0_0 v0_1=>K (Ex.exit 0) (qc6 a1 v0_0 v0_1)) x0 x1 x2:=by kernel_rfl
theorem qig (D:DX)(n:Nat) (a1:Clo) (K:Ex→St→Option (Out ctx 96)):∀ (m:Nat) (x0:Int) (x1:Int) (x2:List tWay),LQ qc D n 96 [.r,.r,.r,.l,.r,.l] m (qb3 a1 x0 x1 x2) K=qb2 D n a1 (fun v0_0 v0_1=>K (Ex.exit 0) (qc6 a1 v0_0 v0_1)) m x0 x1 x2
 | 0,x0,x1,x2=>qw ..
 | m+1,x0,x1,x2=>by
  have ih:(fun x0 x1 x2=>LQ qc D n 96 [.r,.r,.r,.l,.r,.l] m (qb3 a1 x0 x1 x2) K)=qb2 D n a1 (fun v0_0 v0_1=>K (Ex.exit 0) (qc6 a1 v0_0 v0_1)) m:=by funext x0 x1 x2;exact qig D n a1 K m x0 x1 x2
  rw[qqm]
  rw[ih];rfl
theorem qph (D:DX)(n:Nat) (a1:Clo) (v0_0:Int) (v0_1:List tWay) :
 (CQ qc D n 96 [] [.r,.r,.r,.l,.r,.l] (qi qc 96)) (Ex.exit 0) (qc6 a1 v0_0 v0_1)=qc5 D n a1 v0_0 v0_1:=by kernel_rfl
theorem qpp (D:DX)(n:Nat) (a1:Clo) (x0:Int) (x1:Int) (x2:List tWay) :
 LQ qc D n 96 [.r,.r,.r,.l,.r,.l] n (qb3 a1 x0 x1 x2) (CQ qc D n 96 [] [.r,.r,.r,.l,.r,.l] (qi qc 96))=qe0 D n a1 x0 x1 x2:=by
 rw[qig]
 simp only[qph]
 rfl
theorem qr9 (D:DX)(n:Nat) (a0:List tWay) (a1:Clo):rfC qc D n 96 (a0,(a1,()))=qfk D n a0 a1:=by
 have h:rfC qc D n 96 (a0,(a1,()))=qff D n a1 (fun x0 x1 x2=>LQ qc D n 96 [.r,.r,.r,.l,.r,.l] n (qb3 a1 x0 x1 x2) (CQ qc D n 96 [] [.r,.r,.r,.l,.r,.l] (qi qc 96))) a0:=by kernel_rfl
 rw[h]
 simp only[qpp]
 rfl

def q6p (D:DX)(n:Nat) (a0:ByteArray×ByteArray×Unit) (a1:ByteArray×ByteArray×Unit):Option ((Bool×Unit)×Unit):=some ((qgg (Ty.pair Ty.str (Ty.pair Ty.str Ty.unit)) a0 a1,()),())
def qw2 (D:DX)(n:Nat) (a0:ByteArray×ByteArray×Unit) (a1:ByteArray×ByteArray×Unit):Option ((Bool×Unit)×Unit):=q6p D n a0 a1
theorem qbij (D:DX)(n:Nat) (a0:ByteArray×ByteArray×Unit) (a1:ByteArray×ByteArray×Unit):rfC qc D n 97 (a0,(a1,()))=qw2 D n a0 a1:=by kernel_rfl

def q7h (D:DX)(n:Nat) (a0:List Int×Int×Int×Unit):Option ((((tSch)×qf×Unit)×Unit)×tCur×Unit):=qh (qri D a0) fun b↦qh (qbj D (Prod.fst (Prod.snd b)) 10) fun b_1↦br (decide (Prod.fst (Prod.fst b_1)=0)) (qh (qzy D (Prod.fst (Prod.snd b_1))) fun b_2↦some (((Prod.fst (Prod.fst b_2),Prod.fst (Prod.snd (Prod.fst (Prod.fst b))),()),()),Prod.fst (Prod.snd b_2),())) (br (decide (Prod.fst (Prod.fst b_1)=1)) (qh (qkl D (Prod.fst (Prod.snd b_1)) (Prod.fst (Prod.fst (Prod.fst b)))) fun b_2↦br (decide (List.length (Prod.fst (Prod.snd (Prod.fst (Prod.fst b))))+1≤q0)) (some (((Prod.fst (Prod.fst (Prod.fst b)),Prod.fst (Prod.snd (Prod.fst (Prod.fst b)))++[Prod.fst (Prod.fst b_2)],()),()),Prod.fst (Prod.snd b_2),())) none) (some (((Prod.fst (Prod.fst (Prod.fst b)),Prod.fst (Prod.snd (Prod.fst (Prod.fst b))),()),()),Prod.fst (Prod.snd b_1),())))
def qyy (D:DX)(n:Nat) (a0:List Int×Int×Int×Unit):Option ((((tSch)×qf×Unit)×Unit)×tCur×Unit):=q7h D n a0
theorem qble (D:DX)(n:Nat) (a0:List Int×Int×Int×Unit):rfC qc D n 98 (a0,())=qyy D n a0:=by kernel_rfl

def q8h (D:DX)(n:Nat) (a0:(tSch)×qf×Unit):Option ((((tSch)×qf×Unit)×Unit)×Unit):=qh (qtq D (Prod.fst a0)) fun b↦qh (qi2 D (Prod.fst (Prod.snd a0))) fun b_1↦some ((((Prod.fst (Prod.fst (Prod.fst b)),Prod.fst (Prod.snd (Prod.fst (Prod.fst b))),Prod.fst (Prod.snd (Prod.snd (Prod.fst (Prod.fst b)))),()),Prod.fst (Prod.fst b_1),()),()),())
def q0s (D:DX)(n:Nat) (a0:(tSch)×qf×Unit):Option ((((tSch)×qf×Unit)×Unit)×Unit):=q8h D n a0
theorem qbju (D:DX)(n:Nat) (a0:(tSch)×
 qf×Unit):rfC qc D n 99 (a0,())=q0s D n a0:=by kernel_rfl

def q2x (D:DX)(n:Nat) (go:qd→Int→tSch→Option ((Bool×Unit)×Unit)) (K0:Bool→Option ((Bool×Unit)×Unit)) (K1:Option ((Bool×Unit)×Unit)) (x0:qd) (x1:Int) (x2:tSch):Option ((Bool×Unit)×Unit):=br (decide (x1<(↑(List.length x0):Int))) (br (decide (0≤x1)&&decide (x1<(↑(List.length x0):Int))) (qh (qti D (List.getD x0 (Int.toNat x1) (0,0,ByteArray.empty,()))) fun b↦br (!Prod.fst (Prod.fst b)) (K0 false) (br (decide (0≤x1)&&decide (x1<(↑(List.length x0):Int))) (br (decide (0≤x1)&&decide (x1<(↑(List.length (Prod.fst x2)):Int))) (br (Prod.fst (List.getD x0 (Int.toNat x1) (0,0,ByteArray.empty,())) != Prod.fst (Prod.snd (List.getD (Prod.fst x2) (Int.toNat x1) (ByteArray.empty,0,false,())))) (br (decide (0≤x1)&&decide (x1<(↑(List.length (Prod.fst x2)):Int))) (br (Prod.fst (Prod.snd (Prod.snd (List.getD (Prod.fst x2) (Int.toNat x1) (ByteArray.empty,0,false,()))))) (br (decide (0≤x1)&&decide (x1<(↑(List.length x0):Int))) (br (!decide (Prod.fst (List.getD x0 (Int.toNat x1) (0,0,ByteArray.empty,()))=0)) (K0 false) (go x0 (IntKind.wrap IntKind.i64 (x1+1)) x2)) none) (K0 false)) none) (go x0 (IntKind.wrap IntKind.i64 (x1+1)) x2)) none) none)) none) K1
def qmc (D:DX)(n:Nat) (K0:Bool→Option ((Bool×Unit)×Unit)) (K1:Option ((Bool×Unit)×Unit)):Nat→(qd)→(Int)→(tSch)→Option ((Bool×Unit)×Unit) | 0=>(fun x0 x1 x2=>none) | m+1=>(fun x0 x1 x2=>q2x D n (qmc D n K0 K1 m) K0 K1 x0 x1 x2)
def q6e (D:DX)(n:Nat) (v0_0:Bool):Option ((Bool×Unit)×Unit):=some ((v0_0,()),())
def q55 (D:DX)(n:Nat):Option ((Bool×Unit)×Unit):=some ((true,()),())
def q0b (D:DX)(n:Nat):(qd)→(Int)→(tSch)→Option ((Bool×Unit)×Unit):=(fun x0 x1 x2=>qmc D n (fun v0_0=>q6e D n v0_0) (q55 D n) n x0 x1 x2)
def q5e (D:DX)(n:Nat) (lp0:qd→Int→tSch→Option ((Bool×Unit)×Unit)) (a0:tSch) (a1:qd):Option ((Bool×Unit)×Unit):=qh (qrs D a0) fun b↦br (bif !Prod.fst (Prod.fst b) then true else (↑(List.length a1):Int) != (↑(List.length (Prod.fst a0)):Int)) (some ((false,()),())) (lp0 a1 0 a0)
def q4p (D:DX)(n:Nat) (a0:tSch) (a1:qd):Option ((Bool×Unit)×Unit):=q5e D n (q0b D n) a0 a1
def qmi (x0:qd) (x1:Int) (x2:tSch):St:=stq 60 [(1,AV.val (Ty.sl yV) x0),(2,AV.addr 2 []),(5,avI x1)] [(2,Root.mk yS Mk.no x2 true)] 
def qrw (v0_0:Bool):St:=stq 60 [(4,AV.val Ty.bool v0_0)] [] 
def qrz:St:=stq 60 [] [] 
theorem qbln (D:DX)(n:Nat) (m:Nat) (K:Ex→St→Option (Out ctx 100)) (x0:qd) (x1:Int) (x2:tSch) :
 LQ qc D n 100 [.r,.r,.l,.r,.l] (m+1) (qmi x0 x1 x2) K=q2x D n (fun x0 x1 x2=>LQ qc D n 100 [.r,.r,.l,.r,.l] m (qmi x0 x1 x2) K) (fun v0_0=>K (Ex.ret) (qrw v0_0)) (K (Ex.exit 0) (qrz)) x0 x1 x2:=by kernel_rfl
theorem q7c (D:DX)(n:Nat) (K:Ex→St→Option (Out ctx 100)):∀ (m:Nat) (x0:qd) (x1:Int) (x2:tSch),LQ qc D n 100 [.r,.r,.l,.r,.l] m (qmi x0 x1 x2) K=qmc D n (fun v0_0=>K (Ex.ret) (qrw v0_0)) (K (Ex.exit 0) (qrz)) m x0 x1 x2
 | 0,x0,x1,x2=>qw ..
 | m+1,x0,x1,x2=>by
  have ih:(fun x0 x1 x2=>LQ qc D n 100 [.r,.r,.l,.r,.l] m (qmi x0 x1 x2) K)=qmc D n (fun v0_0=>K (Ex.ret) (qrw v0_0)) (K (Ex.exit 0) (qrz)) m:=by funext x0 x1 x2;exact q7c D n K m x0 x1 x2
  rw[qbln]
  rw[ih];rfl
theorem qbig (D:DX)(n:Nat) (v0_0:Bool) :
 (CQ qc D n 100 [] [.r,.r,.l,.r,.l] (qi qc 100)) (Ex.ret) (qrw v0_0)=q6e D n v0_0:=by kernel_rfl
theorem qbh8 (D:DX)(n:Nat) :
 (CQ qc D n 100 [] [.r,.r,.l,.r,.l] (qi qc 100)) (Ex.exit 0) (qrz)=q55 D n:=by kernel_rfl
theorem qbhs (D:DX)(n:Nat) (x0:qd) (x1:Int) (x2:tSch) :
 LQ qc D n 100 [.r,.r,.l,.r,.l] n (qmi x0 x1 x2) (CQ qc D n 100 [] [.r,.r,.l,.r,.l] (qi qc 100))=q0b D n x0 x1 x2:=by
 rw[q7c]
 simp only[qbig,qbh8]
 rfl
theorem qboh (D:DX)(n:Nat) (a0:tSch) (a1:qd):rfC qc D n 100 (a0,(a1,()))=q4p D n a0 a1:=by
 have h:rfC qc D n 100 (a0,(a1,()))=q5e D n (fun x0 x1 x2=>LQ qc D n 100 [.r,.r,.l,.r,.l] n (qmi x0 x1 x2) (CQ qc D n 100 [] [.r,.r,.l,.r,.l] (qi qc 100))) a0 a1:=by kernel_rfl
 rw[h]
 simp only[qbhs]
 rfl

def q11 (D:DX)(n:Nat) (go:qd→Int→(tSch)×qf×Unit→Option ((Int×Unit)×Unit)) (K0:Int→Option ((Int×Unit)×Unit)) (K1:Option ((Int×Unit)×Unit)) (x0:qd) (x1:Int) (x2:(tSch)×qf×Unit):Option ((Int×Unit)×Unit):=br (decide (x1<(↑(List.length (Prod.fst (Prod.snd x2))):Int))) (br (decide (0≤x1)&&decide (x1<(↑(List.length (Prod.fst (Prod.snd x2))):Int))) (qh (qd0 D (Prod.fst x2) (List.getD (Prod.fst (Prod.snd x2)) (Int.toNat x1) [])) fun b↦qh (qtl D (Prod.fst (Prod.fst b)) x0) fun b↦br (Prod.fst (Prod.fst b)) (K0 x1) (go x0 (IntKind.wrap IntKind.i64 (x1+1)) x2)) none) K1
def qmh (D:DX)(n:Nat) (K0:Int→Option ((Int×Unit)×Unit)) (K1:Option ((Int×Unit)×Unit)):Nat→(qd)→(Int)→((tSch)×qf×Unit)→Option ((Int×Unit)×Unit) | 0=>(fun x0 x1 x2=>none) | m+1=>(fun x0 x1 x2=>q11 D n (qmh D n K0 K1 m) K0 K1 x0 x1 x2)
def q51 (D:DX)(n:Nat) (v0_0:Int):Option ((Int×Unit)×Unit):=some ((v0_0,()),())
def q58 (D:DX)(n:Nat):Option ((Int×Unit)×Unit):=some ((-1,()),())
def qz4 (D:DX)(n:Nat):(qd)→(Int)→((tSch)×qf×Unit)→Option ((Int×Unit)×Unit):=(fun x0 x1 x2=>qmh D n (fun v0_0=>q51 D n v0_0) (q58 D n) n x0 x1 x2)
def q5p (D:DX)(n:Nat) (lp0:qd→Int→(tSch)×qf×Unit→Option ((Int×Unit)×Unit)) (a0:(tSch)×qf×Unit) (a1:qd):Option ((Int×Unit)×Unit):=lp0 a1 0 a0
def q4y (D:DX)(n:Nat) (a0:(tSch)×qf×Unit) (a1:qd):Option ((Int×Unit)×Unit):=q5p D n (qz4 D n) a0 a1
def qmd (x0:qd) (x1:Int) (x2:(tSch)×qf×Unit):St:=stq 24 [(1,AV.val (Ty.sl yV) x0),(2,AV.addr 2 []),(5,avI x1)] [(2,Root.mk (Ty.pair yS (Ty.pair (Ty.sl (Ty.sl yV)) Ty.unit)) Mk.no x2 true)] 
def qr5 (v0_0:Int):St:=stq 24 [(4,avI v0_0)] [] 
def qr6:St:=stq 24 [] [] 
theorem qbkj (D:DX)(n:Nat) (m:Nat) (K:Ex→St→Option (Out ctx 101)) (x0:qd) (x1:Int) (x2:(tSch)×
 qf×Unit) :
 LQ qc D n 101 [.r,.l,.r,.l] (m+1) (qmd x0 x1 x2) K=q11 D n (fun x0 x1 x2=>LQ qc D n 101 [.r,.l,.r,.l] m (qmd x0 x1 x2) K) (fun v0_0=>K (Ex.ret) (qr5 v0_0)) (K (Ex.exit 0) (qr6)) x0 x1 x2:=by kernel_rfl
theorem q7e (D:DX)(n:Nat) (K:Ex→St→Option (Out ctx 101)):∀ (m:Nat) (x0:qd) (x1:Int) (x2:(tSch)×
 qf×Unit),LQ qc D n 101 [.r,.l,.r,.l] m (qmd x0 x1 x2) K=qmh D n (fun v0_0=>K (Ex.ret) (qr5 v0_0)) (K (Ex.exit 0) (qr6)) m x0 x1 x2
 | 0,x0,x1,x2=>qw ..
 | m+1,x0,x1,x2=>by
  have ih:(fun x0 x1 x2=>LQ qc D n 101 [.r,.l,.r,.l] m (qmd x0 x1 x2) K)=qmh D n (fun v0_0=>K (Ex.ret) (qr5 v0_0)) (K (Ex.exit 0) (qr6)) m:=by funext x0 x1 x2;exact q7e D n K m x0 x1 x2
  rw[qbkj]
  rw[ih];rfl
theorem qbhv (D:DX)(n:Nat) (v0_0:Int) :
 (CQ qc D n 101 [] [.r,.l,.r,.l] (qi qc 101)) (Ex.ret) (qr5 v0_0)=q51 D n v0_0:=by kernel_rfl
theorem qbiz (D:DX)(n:Nat) :
 (CQ qc D n 101 [] [.r,.l,.r,.l] (qi qc 101)) (Ex.exit 0) (qr6)=q58 D n:=by kernel_rfl
theorem qbie (D:DX)(n:Nat) (x0:qd) (x1:Int) (x2:(tSch)×
 qf×Unit) :
 LQ qc D n 101 [.r,.l,.r,.l] n (qmd x0 x1 x2) (CQ qc D n 101 [] [.r,.l,.r,.l] (qi qc 101))=qz4 D n x0 x1 x2:=by
 rw[q7e]
 simp only[qbhv,qbiz]
 rfl
theorem qbpj (D:DX)(n:Nat) (a0:(tSch)×
 qf×Unit) (a1:qd):rfC qc D n 101 (a0,(a1,()))=q4y D n a0 a1:=by
 have h:rfC qc D n 101 (a0,(a1,()))=q5p D n (fun x0 x1 x2=>LQ qc D n 101 [.r,.l,.r,.l] n (qmd x0 x1 x2) (CQ qc D n 101 [] [.r,.l,.r,.l] (qi qc 101))) a0 a1:=by kernel_rfl
 rw[h]
 simp only[qbie]
 rfl

def q6t (D:DX)(n:Nat) (a0:tSch) (a1:qd):Option ((qd×Unit)×Unit):=qh (qlb D a1 (Prod.fst (Prod.snd a0))) fun b↦some ((Prod.fst (Prod.fst b),()),())
def qxi (D:DX)(n:Nat) (a0:tSch) (a1:qd):Option ((qd×Unit)×Unit):=q6t D n a0 a1
theorem qbi0 (D:DX)(n:Nat) (a0:tSch) (a1:qd):rfC qc D n 102 (a0,(a1,()))=qxi D n a0 a1:=by kernel_rfl

def qua (D:DX)(n:Nat) (go:qd→Int→Int→(tSch)×qf×Unit→Option ((Bool×Unit)×Unit)) (K0:Bool→Option ((Bool×Unit)×Unit)) (K1:Option ((Bool×Unit)×Unit)) (x0:qd) (x1:Int) (x2:Int) (x3:(tSch)×qf×Unit):Option ((Bool×Unit)×Unit):=br (decide (x2<(↑(List.length (Prod.fst (Prod.snd x3))):Int))) (br (x2 != x1) (br (decide (0≤x2)&&decide (x2<(↑(List.length (Prod.fst (Prod.snd x3))):Int))) (qh (qry D (Prod.fst x3) (List.getD (Prod.fst (Prod.snd x3)) (Int.toNat x2) []) x0) fun b↦br (Prod.fst (Prod.fst b)) (K0 true) (go x0 x1 (IntKind.wrap IntKind.i64 (x2+1)) x3)) none) (go x0 x1 (IntKind.wrap IntKind.i64 (x2+1)) x3)) K1
def qh3 (D:DX)(n:Nat) (K0:Bool→Option ((Bool×Unit)×Unit)) (K1:Option ((Bool×Unit)×Unit)):Nat→(qd)→(Int)→(Int)→((tSch)×qf×Unit)→Option ((Bool×Unit)×Unit) | 0=>(fun x0 x1 x2 x3=>none) | m+1=>(fun x0 x1 x2 x3=>qua D n (qh3 D n K0 K1 m) K0 K1 x0 x1 x2 x3)
def qyr (D:DX)(n:Nat) (v0_0:Bool):Option ((Bool×Unit)×Unit):=some ((v0_0,()),())
def qyj (D:DX)(n:Nat):Option ((Bool×Unit)×Unit):=some ((false,()),())
def qsx (D:DX)(n:Nat):(qd)→(Int)→(Int)→((tSch)×qf×Unit)→Option ((Bool×Unit)×Unit):=(fun x0 x1 x2 x3=>qh3 D n (fun v0_0=>qyr D n v0_0) (qyj D n) n x0 x1 x2 x3)
def qvt (D:DX)(n:Nat) (lp0:qd→Int→Int→(tSch)×qf×Unit→Option ((Bool×Unit)×Unit)) (a0:(tSch)×qf×Unit) (a1:qd) (a2:Int):Option ((Bool×Unit)×Unit):=lp0 a1 a2 0 a0
def qwe (D:DX)(n:Nat) (a0:(tSch)×qf×Unit) (a1:qd) (a2:Int):Option ((Bool×Unit)×Unit):=qvt D n (qsx D n) a0 a1 a2
def qh2 (x0:qd) (x1:Int) (x2:Int) (x3:(tSch)×qf×Unit):St:=stq 29 [(1,AV.val (Ty.sl yV) x0),(2,avI x1),(3,AV.addr 3 []),(7,avI x2)] [(3,Root.mk (Ty.pair yS (Ty.pair (Ty.sl (Ty.sl yV)) Ty.unit)) Mk.no x3 true)] 
def qly (v0_0:Bool):St:=stq 29 [(6,AV.val Ty.bool v0_0)] [] 
def qlu:St:=stq 29 [] [] 
theorem qbcn (D:DX)(n:Nat) (m:Nat) (K:Ex→St→Option (Out ctx 103)) (x0:qd) (x1:Int) (x2:Int) (x3:(tSch)×
 qf×Unit) :
 LQ qc D n 103 [.r,.l,.r,.l] (m+1) (qh2 x0 x1 x2 x3) K=qua D n (fun x0 x1 x2 x3=>LQ qc D n 103 [.r,.l,.r,.l] m (qh2 x0 x1 x2 x3) K) (fun v0_0=>K (Ex.ret) (qly v0_0)) (K (Ex.exit 0) (qlu)) x0 x1 x2 x3:=by kernel_rfl
theorem q03 (D:DX)(n:Nat) (K:Ex→St→Option (Out ctx 103)):∀ (m:Nat) (x0:qd) (x1:Int) (x2:Int) (x3:(tSch)×
 qf×Unit),LQ qc D n 103 [.r,.l,.r,.l] m (qh2 x0 x1 x2 x3) K=qh3 D n (fun v0_0=>K (Ex.ret) (qly v0_0)) (K (Ex.exit 0) (qlu)) m x0 x1 x2 x3
 | 0,x0,x1,x2,x3=>qw ..
 | m+1,x0,x1,x2,x3=>by
  have ih:(fun x0 x1 x2 x3=>LQ qc D n 103 [.r,.l,.r,.l] m (qh2 x0 x1 x2 x3) K)=qh3 D n (fun v0_0=>K (Ex.ret) (qly v0_0)) (K (Ex.exit 0) (qlu)) m:=by funext x0 x1 x2 x3;exact q03 D n K m x0 x1 x2 x3
  rw[qbcn]
  rw[ih];rfl
theorem qbaq (D:DX)(n:Nat) (v0_0:Bool) :
 (CQ qc D n 103 [] [.r,.l,.r,.l] (qi qc 103)) (Ex.ret) (qly v0_0)=qyr D n v0_0:=by kernel_rfl
theorem qbao (D:DX)(n:Nat) :
 (CQ qc D n 103 [] [.r,.l,.r,.l] (qi qc 103)) (Ex.exit 0) (qlu)=qyj D n:=by kernel_rfl
theorem qba0 (D:DX)(n:Nat) (x0:qd) (x1:Int) (x2:Int) (x3:(tSch)×
 qf×Unit) :
 LQ qc D n 103 [.r,.l,.r,.l] n (qh2 x0 x1 x2 x3) (CQ qc D n 103 [] [.r,.l,.r,.l] (qi qc 103))=qsx D n x0 x1 x2 x3:=by
 rw[q03]
 simp only[qbaq,qbao]
 rfl
theorem qbgf (D:DX)(n:Nat) (a0:(tSch)×
 qf×Unit) (a1:qd) (a2:Int):rfC qc D n 103 (a0,(a1,(a2,())))=qwe D n a0 a1 a2:=by
 have h:rfC qc D n 103 (a0,(a1,(a2,())))=qvt D n (fun x0 x1 x2 x3=>LQ qc D n 103 [.r,.l,.r,.l] n (qh2 x0 x1 x2 x3) (CQ qc D n 103 [] [.r,.l,.r,.l] (qi qc 103))) a0 a1 a2:=by kernel_rfl
 rw[h]
 simp only[qba0]
 rfl

def qup (D:DX)(n:Nat) (go:qd→qd→Int→Option ((Bool×Unit)×Unit)) (K0:qd→qd→Bool→Option ((Bool×Unit)×Unit)) (K1:qd→qd→Option ((Bool×Unit)×Unit)) (x0:qd) (x1:qd) (x2:Int):Option ((Bool×Unit)×Unit):=br (bif decide (x2<(↑(List.length x0):Int)) then decide (x2<(↑(List.length x1):Int)) else false) (br (decide (0≤x2)&&decide (x2<(↑(List.length x0):Int))) (br (decide (0≤x2)&&decide (x2<(↑(List.length x1):Int))) (qh (qpr D (List.getD x0 (Int.toNat x2) (0,0,ByteArray.empty,())) (List.getD x1 (Int.toNat x2) (0,0,ByteArray.empty,()))) fun b↦br (!Prod.fst (Prod.fst b)) (br (decide (0≤x2)&&decide (x2<(↑(List.length x0):Int))) (br (decide (0≤x2)&&decide (x2<(↑(List.length x1):Int))) (qh (qvr D (List.getD x0 (Int.toNat x2) (0,0,ByteArray.empty,())) (List.getD x1 (Int.toNat x2) (0,0,ByteArray.empty,()))) fun b↦K0 x0 x1 (Prod.fst (Prod.fst b))) none) none) (go x0 x1 (IntKind.wrap IntKind.i64 (x2+1)))) none) none) (K1 x0 x1)
def qh7 (D:DX)(n:Nat) (K0:qd→qd→Bool→Option ((Bool×Unit)×Unit)) (K1:qd→qd→Option ((Bool×Unit)×Unit)):Nat→(qd)→(qd)→(Int)→Option ((Bool×Unit)×Unit) | 0=>(fun x0 x1 x2=>none) | m+1=>(fun x0 x1 x2=>qup D n (qh7 D n K0 K1 m) K0 K1 x0 x1 x2)
def qq8 (D:DX)(n:Nat) (v0_0:qd) (v0_1:qd) (v0_2:Bool):Option ((Bool×Unit)×Unit):=some ((v0_2,()),())
def qip (D:DX)(n:Nat) (v1_0:qd) (v1_1:qd):Option ((Bool×Unit)×Unit):=some ((decide ((↑(List.length v1_0):Int)<(↑(List.length v1_1):Int)),()),())
def qsz (D:DX)(n:Nat):(qd)→(qd)→(Int)→Option ((Bool×Unit)×Unit):=(fun x0 x1 x2=>qh7 D n (fun v0_0 v0_1 v0_2=>qq8 D n v0_0 v0_1 v0_2) (fun v1_0 v1_1=>qip D n v1_0 v1_1) n x0 x1 x2)
def qvf (D:DX)(n:Nat) (lp0:qd→qd→Int→Option ((Bool×Unit)×Unit)) (a0:qd) (a1:qd):Option ((Bool×Unit)×Unit):=lp0 a0 a1 0
def qvh (D:DX)(n:Nat) (a0:qd) (a1:qd):Option ((Bool×Unit)×Unit):=qvf D n (qsz D n) a0 a1
def qh0 (x0:qd) (x1:qd) (x2:Int):St:=stq 42 [(0,AV.val (Ty.sl yV) x0),(1,AV.val (Ty.sl yV) x1),(5,avI x2)] [] 
def qlw (v0_0:qd) (v0_1:qd) (v0_2:Bool):St:=stq 42 [(0,AV.val (Ty.sl yV) v0_0),(1,AV.val (Ty.sl yV) v0_1),(4,AV.val Ty.bool v0_2)] [] 
def ql1 (v1_0:qd) (v1_1:qd):St:=stq 42 [(0,AV.val (Ty.sl yV) v1_0),(1,AV.val (Ty.sl yV) v1_1)] [] 
theorem qbbu (D:DX)(n:Nat) (m:Nat) (K:Ex→St→Option (Out ctx 104)) (x0:qd) (x1:qd) (x2:Int) :
 LQ qc D n 104 [.r,.l,.r,.l] (m+1) (qh0 x0 x1 x2) K=qup D n (fun x0 x1 x2=>LQ qc D n 104 [.r,.l,.r,.l] m (qh0 x0 x1 x2) K) (fun v0_0 v0_1 v0_2=>K (Ex.ret) (qlw v0_0 v0_1 v0_2)) (fun v1_0 v1_1=>K (Ex.exit 0) (ql1 v1_0 v1_1)) x0 x1 x2:=by kernel_rfl
theorem q1j (D:DX)(n:Nat) (K:Ex→St→Option (Out ctx 104)):∀ (m:Nat) (x0:qd) (x1:qd) (x2:Int),LQ qc D n 104 [.r,.l,.r,.l] m (qh0 x0 x1 x2) K=qh7 D n (fun v0_0 v0_1 v0_2=>K (Ex.ret) (qlw v0_0 v0_1 v0_2)) (fun v1_0 v1_1=>K (Ex.exit 0) (ql1 v1_0 v1_1)) m x0 x1 x2
 | 0,x0,x1,x2=>qw ..
 | m+1,x0,x1,x2=>by
  have ih:(fun x0 x1 x2=>LQ qc D n 104 [.r,.l,.r,.l] m (qh0 x0 x1 x2) K)=qh7 D n (fun v0_0 v0_1 v0_2=>K (Ex.ret) (qlw v0_0 v0_1 v0_2)) (fun v1_0 v1_1=>K (Ex.exit 0) (ql1 v1_0 v1_1)) m:=by funext x0 x1 x2;exact q1j D n K m x0 x1 x2
  rw[qbbu]
  rw[ih];rfl
theorem qba5 (D:DX)(n:Nat) (v0_0:qd) (v0_1:qd) (v0_2:Bool) :
 (CQ qc D n 104 [] [.r,.l,.r,.l] (qi qc 104)) (Ex.ret) (qlw v0_0 v0_1 v0_2)=qq8 D n v0_0 v0_1 v0_2:=by kernel_rfl
theorem qbaw (D:DX)(n:Nat) (v1_0:qd) (v1_1:qd) :
 (CQ qc D n 104 [] [.r,.l,.r,.l] (qi qc 104)) (Ex.exit 0) (ql1 v1_0 v1_1)=qip D n v1_0 v1_1:=by kernel_rfl
theorem qbag (D:DX)(n:Nat) (x0:qd) (x1:qd) (x2:Int) :
 LQ qc D n 104 [.r,.l,.r,.l] n (qh0 x0 x1 x2) (CQ qc D n 104 [] [.r,.l,.r,.l] (qi qc 104))=qsz D n x0 x1 x2:=by
 rw[q1j]
 simp only[qba5,qbaw]
 rfl
theorem qbgc (D:DX)(n:Nat) (a0:qd) (a1:qd):rfC qc D n 104 (a0,(a1,()))=qvh D n a0 a1:=by
 have h:rfC qc D n 104 (a0,(a1,()))=qvf D n (fun x0 x1 x2=>LQ qc D n 104 [.r,.l,.r,.l] n (qh0 x0 x1 x2) (CQ qc D n 104 [] [.r,.l,.r,.l] (qi qc 104))) a0 a1:=by kernel_rfl
 rw[h]
 simp only[qbag]
 rfl

def qw8 (D:DX)(n:Nat) (go:qf→Int→qf→Option ((qf×Unit)×Unit)) (K0:qf→Option ((qf×Unit)×Unit)) (x0:qf) (x1:Int) (x2:qf):Option ((qf×Unit)×Unit):=br (decide (x1<(↑(List.length x0):Int))) (br (decide (0≤x1)&&decide (x1<(↑(List.length x0):Int))) (br (decide (0+List.length (List.getD x0 (Int.toNat x1) [])≤q0)) (br (decide (List.length x2+1≤q0)) (go x0 (IntKind.wrap IntKind.i64 (x1+1)) (x2++[[]++List.getD x0 (Int.toNat x1) []])) none) none) none) (K0 x2)
def qj1 (D:DX)(n:Nat) (K0:qf→Option ((qf×Unit)×Unit)):Nat→(qf)→(Int)→(qf)→Option ((qf×Unit)×Unit) | 0=>(fun x0 x1 x2=>none) | m+1=>(fun x0 x1 x2=>qw8 D n (qj1 D n K0 m) K0 x0 x1 x2)
def q28 (D:DX)(n:Nat) (v0_0:qf):Option ((qf×Unit)×Unit):=some ((v0_0,()),())
def qve (D:DX)(n:Nat):(qf)→(Int)→(qf)→Option ((qf×Unit)×Unit):=(fun x0 x1 x2=>qj1 D n (fun v0_0=>q28 D n v0_0) n x0 x1 x2)
def qzl (D:DX)(n:Nat) (lp0:qf→Int→qf→Option ((qf×Unit)×Unit)) (a0:qf):Option ((qf×Unit)×Unit):=lp0 a0 0 []
def qzk (D:DX)(n:Nat) (a0:qf):Option ((qf×Unit)×Unit):=qzl D n (qve D n) a0
def qka (x0:qf) (x1:Int) (x2:qf):St:=stq 22 [(0,AV.val (Ty.sl (Ty.sl yV)) x0),(3,AV.brw 3 [] 0),(4,avI x1)] [(3,Root.mk (Ty.sl (Ty.sl yV)) (Mk.own 0 (Mk.own 0 (Mk.pr Mk.no (Mk.pr Mk.no (Mk.pr Mk.no Mk.no))))) x2 false)] 
def qn8 (v0_0:qf):St:=stq 22 [(3,AV.brw 3 [] 0)] [(3,Root.mk (Ty.sl (Ty.sl yV)) (Mk.own 0 (Mk.own 0 (Mk.pr Mk.no (Mk.pr Mk.no (Mk.pr Mk.no Mk.no))))) v0_0 false)] 
theorem qbgx (D:DX)(n:Nat) (m:Nat) (K:Ex→St→Option (Out ctx 105)) (x0:qf) (x1:Int) (x2:qf) :
 LQ qc D n 105 [.r,.r,.l,.r,.l] (m+1) (qka x0 x1 x2) K=qw8 D n (fun x0 x1 x2=>LQ qc D n 105 [.r,.r,.l,.r,.l] m (qka x0 x1 x2) K) (fun v0_0=>K (Ex.exit 0) (qn8 v0_0)) x0 x1 x2:=by kernel_rfl
theorem q5r (D:DX)(n:Nat) (K:Ex→St→Option (Out ctx 105)):∀ (m:Nat) (x0:qf) (x1:Int) (x2:qf),LQ qc D n 105 [.r,.r,.l,.r,.l] m (qka x0 x1 x2) K=qj1 D n (fun v0_0=>K (Ex.exit 0) (qn8 v0_0)) m x0 x1 x2
 | 0,x0,x1,x2=>qw ..
 | m+1,x0,x1,x2=>by
  have ih:(fun x0 x1 x2=>LQ qc D n 105 [.r,.r,.l,.r,.l] m (qka x0 x1 x2) K)=qj1 D n (fun v0_0=>K (Ex.exit 0) (qn8 v0_0)) m:=by funext x0 x1 x2;exact q5r D n K m x0 x1 x2
  rw[qbgx]
  rw[ih];rfl
theorem qbep (D:DX)(n:Nat) (v0_0:qf) :
 (CQ qc D n 105 [] [.r,.r,.l,.r,.l] (qi qc 105)) (Ex.exit 0) (qn8 v0_0)=q28 D n v0_0:=by kernel_rfl
theorem qbdu (D:DX)(n:Nat) (x0:qf) (x1:Int) (x2:qf) :
 LQ qc D n 105 [.r,.r,.l,.r,.l] n (qka x0 x1 x2) (CQ qc D n 105 [] [.r,.r,.l,.r,.l] (qi qc 105))=qve D n x0 x1 x2:=by
 rw[q5r]
 simp only[qbep]
 rfl
theorem qbld (D:DX)(n:Nat) (a0:qf):rfC qc D n 105 (a0,())=qzk D n a0:=by
 have h:rfC qc D n 105 (a0,())=qzl D n (fun x0 x1 x2=>LQ qc D n 105 [.r,.r,.l,.r,.l] n (qka x0 x1 x2) (CQ qc D n 105 [] [.r,.r,.l,.r,.l] (qi qc 105))) a0:=by kernel_rfl
 rw[h]
 simp only[qbdu]
 rfl

def q74 (D:DX)(n:Nat) (a0:List Int×Int×Int×Unit):Option (((tSch)×Unit)×tCur×Unit):=qh (qls D a0) fun b↦qh (qbj D (Prod.fst (Prod.snd b)) 12) fun b_1↦br (decide (Prod.fst (Prod.fst b_1)=0)) (qh (qqb D (Prod.fst (Prod.snd b_1)) [ByteArray.mk #[],ByteArray.mk #[UInt8.ofNat 105,UInt8.ofNat 100],ByteArray.mk #[UInt8.ofNat 65],ByteArray.mk #[UInt8.ofNat 97,UInt8.ofNat 98,UInt8.ofNat 99,UInt8.ofNat 100,UInt8.ofNat 101,UInt8.ofNat 102,UInt8.ofNat 103,UInt8.ofNat 104,UInt8.ofNat 105,UInt8.ofNat 106,UInt8.ofNat 107,UInt8.ofNat 108,UInt8.ofNat 109]]) fun b_2↦br (decide (0≤1)&&decide (1<(↑(List.length (Prod.fst (Prod.fst (Prod.fst b)))):Int))) (some (((List.set (Prod.fst (Prod.fst (Prod.fst b))) 1 (Prod.fst (Prod.fst b_2),Prod.snd (List.getD (Prod.fst (Prod.fst (Prod.fst b))) 1 (ByteArray.empty,0,false,()))),Prod.fst (Prod.snd (Prod.fst (Prod.fst b))),Prod.fst (Prod.snd (Prod.snd (Prod.fst (Prod.fst b)))),()),()),Prod.fst (Prod.snd b_2),())) none) (br (decide (Prod.fst (Prod.fst b_1)=1)) (qh (qll D (Prod.fst (Prod.snd b_1)) [0,3,4]) fun b_2↦br (decide (0≤1)&&decide (1<(↑(List.length (Prod.fst (Prod.fst (Prod.fst b)))):Int))) (some (((List.set (Prod.fst (Prod.fst (Prod.fst b))) 1 (Prod.fst (List.getD (Prod.fst (Prod.fst (Prod.fst b))) 1 (ByteArray.empty,0,false,())),Prod.fst (Prod.fst b_2),Prod.snd (Prod.snd (List.getD (Prod.fst (Prod.fst (Prod.fst b))) 1 (ByteArray.empty,0,false,())))),Prod.fst (Prod.snd (Prod.fst (Prod.fst b))),Prod.fst (Prod.snd (Prod.snd (Prod.fst (Prod.fst b)))),()),()),Prod.fst (Prod.snd b_2),())) none) (br (decide (Prod.fst (Prod.fst b_1)=2)) (qh (qbj D (Prod.fst (Prod.snd b_1)) 6) fun b_2↦br (decide (List.length (Prod.fst (Prod.snd (Prod.fst (Prod.fst b))))+1≤q0)) (some (((Prod.fst (Prod.fst (Prod.fst b)),Prod.fst (Prod.snd (Prod.fst (Prod.fst b)))++[IntKind.wrap IntKind.i64 (Prod.fst (Prod.fst b_2) - 1)],Prod.fst (Prod.snd (Prod.snd (Prod.fst (Prod.fst b)))),()),()),Prod.fst (Prod.snd b_2),())) none) (br (decide (Prod.fst (Prod.fst b_1)=3)) (br (decide (0≤0)&&decide (0<(↑(List.length (Prod.fst (Prod.fst (Prod.fst b)))):Int))) (some (((List.set (Prod.fst (Prod.fst (Prod.fst b))) 0 (Prod.fst (List.getD (Prod.fst (Prod.fst (Prod.fst b))) 0 (ByteArray.empty,0,false,())),Prod.fst (Prod.snd (List.getD (Prod.fst (Prod.fst (Prod.fst b))) 0 (ByteArray.empty,0,false,()))),true,Prod.snd (Prod.snd (Prod.snd (List.getD (Prod.fst (Prod.fst (Prod.fst b))) 0 (ByteArray.empty,0,false,()))))),Prod.fst (Prod.snd (Prod.fst (Prod.fst b))),Prod.fst (Prod.snd (Prod.snd (Prod.fst (Prod.fst b)))),()),()),Prod.fst (Prod.snd b_1),())) none) (br (decide (Prod.fst (Prod.fst b_1)=4)) (qh (qbj D (Prod.fst (Prod.snd b_1)) 6) fun b_2↦br (decide (List.length (Prod.fst (Prod.snd (Prod.snd (Prod.fst (Prod.fst b)))))+1≤q0)) (some (((Prod.fst (Prod.fst (Prod.fst b)),Prod.fst (Prod.snd (Prod.fst (Prod.fst b))),Prod.fst (Prod.snd (Prod.snd (Prod.fst (Prod.fst b))))++[(ByteArray.mk #[UInt8.ofNat 120],[IntKind.wrap IntKind.i64 (Prod.fst (Prod.fst b_2) - 1)],false,())],()),()),Prod.fst (Prod.snd b_2),())) none) (some (((Prod.fst (Prod.fst (Prod.fst b)),Prod.fst (Prod.snd (Prod.fst (Prod.fst b))),Prod.fst (Prod.snd (Prod.snd (Prod.fst (Prod.fst b)))),()),()),Prod.fst (Prod.snd b_1),()))))))
def qz2 (D:DX)(n:Nat) (a0:List Int×Int×Int×Unit):Option (((tSch)×Unit)×tCur×Unit):=q74 D n a0
theorem qbk8 (D:DX)(n:Nat) (a0:List Int×Int×Int×Unit):rfC qc D n 106 (a0,())=qz2 D n a0:=by kernel_rfl


def qw0 (D:DX)(n:Nat) (go:Int→tSch→tSch→tSch→Option (((tSch)×Unit)×Unit)) (K0:tSch→tSch→Option (((tSch)×Unit)×Unit)) (x0:Int) (x1:tSch) (x2:tSch) (x3:tSch):Option (((tSch)×Unit)×Unit):=br (decide (x0<(↑(List.length (Prod.fst (Prod.snd (Prod.snd x1)))):Int))) (br (decide (0≤x0)&&decide (x0<(↑(List.length (Prod.fst (Prod.snd (Prod.snd x1)))):Int))) (br (decide (0+List.length (Prod.fst (Prod.snd (List.getD (Prod.fst (Prod.snd (Prod.snd x1))) (Int.toNat x0) (ByteArray.empty,[],false,()))))≤q0)) (br (decide (List.length (Prod.fst (Prod.snd (Prod.snd x3)))+1≤q0)) (go (IntKind.wrap IntKind.i64 (x0+1)) x1 x2 (Prod.fst x3,Prod.fst (Prod.snd x3),Prod.fst (Prod.snd (Prod.snd x3))++[(Prod.fst (List.getD (Prod.fst (Prod.snd (Prod.snd x1))) (Int.toNat x0) (ByteArray.empty,[],false,())),[]++Prod.fst (Prod.snd (List.getD (Prod.fst (Prod.snd (Prod.snd x1))) (Int.toNat x0) (ByteArray.empty,[],false,()))),Prod.fst (Prod.snd (Prod.snd (List.getD (Prod.fst (Prod.snd (Prod.snd x1))) (Int.toNat x0) (ByteArray.empty,[],false,())))),())],Prod.snd (Prod.snd (Prod.snd x3)))) none) none) none) (K0 x2 x3)
def qj2 (D:DX)(n:Nat) (K0:tSch→tSch→Option (((tSch)×Unit)×Unit)):Nat→(Int)→(tSch)→(tSch)→(tSch)→Option (((tSch)×Unit)×Unit) | 0=>(fun x0 x1 x2 x3=>none) | m+1=>(fun x0 x1 x2 x3=>qw0 D n (qj2 D n K0 m) K0 x0 x1 x2 x3)
def q3c (D:DX)(n:Nat) (v0_0:tSch) (v0_1:tSch):Option (((tSch)×Unit)×Unit):=some (((Prod.fst v0_1,Prod.fst (Prod.snd v0_1),Prod.fst (Prod.snd (Prod.snd v0_1)),()),()),())
def qv4 (D:DX)(n:Nat):(Int)→(tSch)→(tSch)→(tSch)→Option (((tSch)×Unit)×Unit):=(fun x0 x1 x2 x3=>qj2 D n (fun v0_0 v0_1=>q3c D n v0_0 v0_1) n x0 x1 x2 x3)
def qzo (D:DX)(n:Nat) (lp0:Int→tSch→tSch→tSch→Option (((tSch)×Unit)×Unit)) (a0:tSch):Option (((tSch)×Unit)×Unit):=br (decide (0+List.length (Prod.fst a0)≤q0)) (br (decide (0+List.length (Prod.fst (Prod.snd a0))≤q0)) (lp0 0 a0 ([],[],[],()) ([]++Prod.fst a0,[]++Prod.fst (Prod.snd a0),[],())) none) none
def q0a (D:DX)(n:Nat) (a0:tSch):Option (((tSch)×Unit)×Unit):=qzo D n (qv4 D n) a0
def qkd (x0:Int) (x1:tSch) (x2:tSch) (x3:tSch):St:=stq 42 [(1,AV.addr 1 []),(2,AV.addr 2 []),(3,AV.addr 3 []),(4,avI x0)] [(1,Root.mk yS Mk.no x1 true),(2,Root.mk yS (Mk.pr (Mk.own 0 (Mk.pr Mk.no (Mk.pr Mk.no (Mk.pr Mk.no Mk.no)))) (Mk.pr (Mk.own 0 Mk.no) (Mk.pr (Mk.own 0 (Mk.pr Mk.no (Mk.pr (Mk.own 0 Mk.no) (Mk.pr Mk.no Mk.no)))) Mk.no))) x2 true),(3,Root.mk yS (Mk.pr (Mk.own 0 (Mk.pr Mk.no (Mk.pr Mk.no (Mk.pr Mk.no Mk.no)))) (Mk.pr (Mk.own 0 Mk.no) (Mk.pr (Mk.own 0 (Mk.pr Mk.no (Mk.pr (Mk.own 0 Mk.no) (Mk.pr Mk.no Mk.no)))) Mk.no))) x3 true)] 
def qol (v0_0:tSch) (v0_1:tSch):St:=stq 42 [(2,AV.addr 2 []),(3,AV.addr 3 [])] [(2,Root.mk yS (Mk.pr (Mk.own 0 (Mk.pr Mk.no (Mk.pr Mk.no (Mk.pr Mk.no Mk.no)))) (Mk.pr (Mk.own 0 Mk.no) (Mk.pr (Mk.own 0 (Mk.pr Mk.no (Mk.pr (Mk.own 0 Mk.no) (Mk.pr Mk.no Mk.no)))) Mk.no))) v0_0 true),(3,Root.mk yS (Mk.pr (Mk.own 0 (Mk.pr Mk.no (Mk.pr Mk.no (Mk.pr Mk.no Mk.no)))) (Mk.pr (Mk.own 0 Mk.no) (Mk.pr (Mk.own 0 (Mk.pr Mk.no (Mk.pr (Mk.own 0 Mk.no) (Mk.pr Mk.no Mk.no)))) Mk.no))) v0_1 true)] 
theorem qbg0 (D:DX)(n:Nat) (m:Nat) (K:Ex→St→Option (Out ctx 108)) (x0:Int) (x1:tSch) (x2:tSch) (x3:tSch) :
 LQ qc D n 108 [.r,.r,.l,.r,.l] (m+1) (qkd x0 x1 x2 x3) K=qw0 D n (fun x0 x1 x2 x3=>LQ qc D n 108 [.r,.r,.l,.r,.l] m (qkd x0 x1 x2 x3) K) (fun v0_0 v0_1=>K (Ex.exit 0) (qol v0_0 v0_1)) x0 x1 x2 x3:=by kernel_rfl
theorem q5j (D:DX)(n:Nat) (K:Ex→St→Option (Out ctx 108)):∀ (m:Nat) (x0:Int) (x1:tSch) (x2:tSch) (x3:tSch),LQ qc D n 108 [.r,.r,.l,.r,.l] m (qkd x0 x1 x2 x3) K=qj2 D n (fun v0_0 v0_1=>K (Ex.exit 0) (qol v0_0 v0_1)) m x0 x1 x2 x3
 | 0,x0,x1,x2,x3=>qw ..
 | m+1,x0,x1,x2,x3=>by
  have ih:(fun x0 x1 x2 x3=>LQ qc D n 108 [.r,.r,.l,.r,.l] m (qkd x0 x1 x2 x3) K)=qj2 D n (fun v0_0 v0_1=>K (Ex.exit 0) (qol v0_0 v0_1)) m:=by funext x0 x1 x2 x3;exact q5j D n K m x0 x1 x2 x3
  rw[qbg0]
  rw[ih];rfl
theorem qbdw (D:DX)(n:Nat) (v0_0:tSch) (v0_1:tSch) :
 (CQ qc D n 108 [] [.r,.r,.l,.r,.l] (qi qc 108)) (Ex.exit 0) (qol v0_0 v0_1)=q3c D n v0_0 v0_1:=by kernel_rfl
theorem qbdt (D:DX)(n:Nat) (x0:Int) (x1:tSch) (x2:tSch) (x3:tSch) :
 LQ qc D n 108 [.r,.r,.l,.r,.l] n (qkd x0 x1 x2 x3) (CQ qc D n 108 [] [.r,.r,.l,.r,.l] (qi qc 108))=qv4 D n x0 x1 x2 x3:=by
 rw[q5j]
 simp only[qbdw]
 rfl
theorem qbjy (D:DX)(n:Nat) (a0:tSch):rfC qc D n 108 (a0,())=q0a D n a0:=by
 have h:rfC qc D n 108 (a0,())=qzo D n (fun x0 x1 x2 x3=>LQ qc D n 108 [.r,.r,.l,.r,.l] n (qkd x0 x1 x2 x3) (CQ qc D n 108 [] [.r,.r,.l,.r,.l] (qi qc 108))) a0:=by kernel_rfl
 rw[h]
 simp only[qbdt]
 rfl

def qvp (D:DX)(n:Nat) (go:qd→qd→Int→tSch→Option ((Bool×Unit)×Unit)) (K0:Bool→Option ((Bool×Unit)×Unit)) (K1:Option ((Bool×Unit)×Unit)) (x0:qd) (x1:qd) (x2:Int) (x3:tSch):Option ((Bool×Unit)×Unit):=br (decide (x2<(↑(List.length (Prod.fst (Prod.snd (Prod.snd x3)))):Int))) (br (decide (0≤x2)&&decide (x2<(↑(List.length (Prod.fst (Prod.snd (Prod.snd x3)))):Int))) (qh (qlb D x0 (Prod.fst (Prod.snd (List.getD (Prod.fst (Prod.snd (Prod.snd x3))) (Int.toNat x2) (ByteArray.empty,[],false,()))))) fun b↦qh (qlb D x1 (Prod.fst (Prod.snd (List.getD (Prod.fst (Prod.snd (Prod.snd x3))) (Int.toNat x2) (ByteArray.empty,[],false,()))))) fun b_1↦br (Prod.fst (Prod.snd (Prod.snd (List.getD (Prod.fst (Prod.snd (Prod.snd x3))) (Int.toNat x2) (ByteArray.empty,[],false,()))))) (qh (qtl D (Prod.fst (Prod.fst b)) (Prod.fst (Prod.fst b_1))) fun b_2↦br (Prod.fst (Prod.fst b_2)) (qh (qzb D (Prod.fst (Prod.fst b))) fun b↦br (!Prod.fst (Prod.fst b)) (K0 true) (go x0 x1 (IntKind.wrap IntKind.i64 (x2+1)) x3)) (go x0 x1 (IntKind.wrap IntKind.i64 (x2+1)) x3)) (go x0 x1 (IntKind.wrap IntKind.i64 (x2+1)) x3)) none) K1
def qiu (D:DX)(n:Nat) (K0:Bool→Option ((Bool×Unit)×Unit)) (K1:Option ((Bool×Unit)×Unit)):Nat→(qd)→(qd)→(Int)→(tSch)→Option ((Bool×Unit)×Unit) | 0=>(fun x0 x1 x2 x3=>none) | m+1=>(fun x0 x1 x2 x3=>qvp D n (qiu D n K0 K1 m) K0 K1 x0 x1 x2 x3)
def q0z (D:DX)(n:Nat) (v0_0:Bool):Option ((Bool×Unit)×Unit):=some ((v0_0,()),())
def q1a (D:DX)(n:Nat):Option ((Bool×Unit)×Unit):=some ((false,()),())
def qt9 (D:DX)(n:Nat):(qd)→(qd)→(Int)→(tSch)→Option ((Bool×Unit)×Unit):=(fun x0 x1 x2 x3=>qiu D n (fun v0_0=>q0z D n v0_0) (q1a D n) n x0 x1 x2 x3)
def qx8 (D:DX)(n:Nat) (lp0:qd→qd→Int→tSch→Option ((Bool×Unit)×Unit)) (a0:tSch) (a1:qd) (a2:qd):Option ((Bool×Unit)×Unit):=lp0 a1 a2 0 a0
def qw7 (D:DX)(n:Nat) (a0:tSch) (a1:qd) (a2:qd):Option ((Bool×Unit)×Unit):=qx8 D n (qt9 D n) a0 a1 a2
def qiy (x0:qd) (x1:qd) (x2:Int) (x3:tSch):St:=stq 43 [(1,AV.val (Ty.sl yV) x0),(2,AV.val (Ty.sl yV) x1),(3,AV.addr 3 []),(7,avI x2)] [(3,Root.mk yS Mk.no x3 true)] 
def qmv (v0_0:Bool):St:=stq 43 [(6,AV.val Ty.bool v0_0)] [] 
def qm6:St:=stq 43 [] [] 
theorem qben (D:DX)(n:Nat) (m:Nat) (K:Ex→St→Option (Out ctx 111)) (x0:qd) (x1:qd) (x2:Int) (x3:tSch) :
 LQ qc D n 111 [.r,.l,.r,.l] (m+1) (qiy x0 x1 x2 x3) K=qvp D n (fun x0 x1 x2 x3=>LQ qc D n 111 [.r,.l,.r,.l] m (qiy x0 x1 x2 x3) K) (fun v0_0=>K (Ex.ret) (qmv v0_0)) (K (Ex.exit 0) (qm6)) x0 x1 x2 x3:=by kernel_rfl
theorem q3q (D:DX)(n:Nat) (K:Ex→St→Option (Out ctx 111)):∀ (m:Nat) (x0:qd) (x1:qd) (x2:Int) (x3:tSch),LQ qc D n 111 [.r,.l,.r,.l] m (qiy x0 x1 x2 x3) K=qiu D n (fun v0_0=>K (Ex.ret) (qmv v0_0)) (K (Ex.exit 0) (qm6)) m x0 x1 x2 x3
 | 0,x0,x1,x2,x3=>qw ..
 | m+1,x0,x1,x2,x3=>by
  have ih:(fun x0 x1 x2 x3=>LQ qc D n 111 [.r,.l,.r,.l] m (qiy x0 x1 x2 x3) K)=qiu D n (fun v0_0=>K (Ex.ret) (qmv v0_0)) (K (Ex.exit 0) (qm6)) m:=by funext x0 x1 x2 x3;exact q3q D n K m x0 x1 x2 x3
  rw[qben]
  rw[ih];rfl
theorem qbcx (D:DX)(n:Nat) (v0_0:Bool) :
 (CQ qc D n 111 [] [.r,.l,.r,.l] (qi qc 111)) (Ex.ret) (qmv v0_0)=q0z D n v0_0:=by kernel_rfl
theorem qbcj (D:DX)(n:Nat) :
 (CQ qc D n 111 [] [.r,.l,.r,.l] (qi qc 111)) (Ex.exit 0) (qm6)=q1a D n:=by kernel_rfl
theorem qbbv (D:DX)(n:Nat) (x0:qd) (x1:qd) (x2:Int) (x3:tSch) :
 LQ qc D n 111 [.r,.l,.r,.l] n (qiy x0 x1 x2 x3) (CQ qc D n 111 [] [.r,.l,.r,.l] (qi qc 111))=qt9 D n x0 x1 x2 x3:=by
 rw[q3q]
 simp only[qbcx,qbcj]
 rfl
theorem qbh7 (D:DX)(n:Nat) (a0:tSch) (a1:qd) (a2:qd):rfC qc D n 111 (a0,(a1,(a2,())))=qw7 D n a0 a1 a2:=by
 have h:rfC qc D n 111 (a0,(a1,(a2,())))=qx8 D n (fun x0 x1 x2 x3=>LQ qc D n 111 [.r,.l,.r,.l] n (qiy x0 x1 x2 x3) (CQ qc D n 111 [] [.r,.l,.r,.l] (qi qc 111))) a0 a1 a2:=by kernel_rfl
 rw[h]
 simp only[qbbv]
 rfl

def qvz (D:DX)(n:Nat) (go:Int→tSch→Option ((Bool×Unit)×Unit)) (K0:Bool→tSch→Option ((Bool×Unit)×Unit)) (K1:tSch→Option ((Bool×Unit)×Unit)) (x0:Int) (x1:tSch):Option ((Bool×Unit)×Unit):=br (decide (x0<(↑(List.length (Prod.fst x1)):Int))) (br (decide (0≤x0)&&decide (x0<(↑(List.length (Prod.fst x1)):Int))) (qh (qpf D (Prod.fst (List.getD (Prod.fst x1) (Int.toNat x0) (ByteArray.empty,0,false,())))) fun b↦br (!Prod.fst (Prod.fst b)) (K0 false x1) (br (decide (0≤x0)&&decide (x0<(↑(List.length (Prod.fst x1)):Int))) (qh (qgq D (Prod.fst (Prod.snd (List.getD (Prod.fst x1) (Int.toNat x0) (ByteArray.empty,0,false,())))) 1 3) fun b↦br (!Prod.fst (Prod.fst b)) (K0 false x1) (br (decide (0≤x0)&&decide (x0<(↑(List.length (Prod.fst x1)):Int))) (qh (q4e D x1 (Prod.fst (List.getD (Prod.fst x1) (Int.toNat x0) (ByteArray.empty,0,false,())))) fun b↦br (Prod.fst (Prod.fst b) != x0) (K0 false x1) (go (IntKind.wrap IntKind.i64 (x0+1)) x1)) none)) none)) none) (K1 x1)
def qi9 (D:DX)(n:Nat) (K0:Bool→tSch→Option ((Bool×Unit)×Unit)) (K1:tSch→Option ((Bool×Unit)×Unit)):Nat→(Int)→(tSch)→Option ((Bool×Unit)×Unit) | 0=>(fun x0 x1=>none) | m+1=>(fun x0 x1=>qvz D n (qi9 D n K0 K1 m) K0 K1 x0 x1)
def q00 (D:DX)(n:Nat) (v0_0:Bool) (v0_1:tSch):Option ((Bool×Unit)×Unit):=some ((v0_0,()),())
def qvg (D:DX)(n:Nat) (go:Int→tSch→Option ((Bool×Unit)×Unit)) (K0:Bool→Option ((Bool×Unit)×Unit)) (K1:Option ((Bool×Unit)×Unit)) (x1_0:Int) (x1_1:tSch):Option ((Bool×Unit)×Unit):=br (decide (x1_0<(↑(List.length (Prod.fst (Prod.snd x1_1))):Int))) (br (decide (0≤x1_0)&&decide (x1_0<(↑(List.length (Prod.fst (Prod.snd x1_1))):Int))) (br (decide (0≤List.getD (Prod.fst (Prod.snd x1_1)) (Int.toNat x1_0) 0)&&decide (List.getD (Prod.fst (Prod.snd x1_1)) (Int.toNat x1_0) 0<(↑(List.length (Prod.fst x1_1)):Int))) (br (Prod.fst (Prod.snd (Prod.snd (List.getD (Prod.fst x1_1) (Int.toNat (List.getD (Prod.fst (Prod.snd x1_1)) (Int.toNat x1_0) 0)) (ByteArray.empty,0,false,()))))) (K0 false) (go (IntKind.wrap IntKind.i64 (x1_0+1)) x1_1)) none) none) K1
def qi4 (D:DX)(n:Nat) (K0:Bool→Option ((Bool×Unit)×Unit)) (K1:Option ((Bool×Unit)×Unit)):Nat→(Int)→(tSch)→Option ((Bool×Unit)×Unit) | 0=>(fun x1_0 x1_1=>none) | m+1=>(fun x1_0 x1_1=>qvg D n (qi4 D n K0 K1 m) K0 K1 x1_0 x1_1)
def q02 (D:DX)(n:Nat) (v0_0:Bool):Option ((Bool×Unit)×Unit):=some ((v0_0,()),())
def q1g (D:DX)(n:Nat):Option ((Bool×Unit)×Unit):=some ((true,()),())
def qty (D:DX)(n:Nat):(Int)→(tSch)→Option ((Bool×Unit)×Unit):=(fun x1_0 x1_1=>qi4 D n (fun v0_0=>q02 D n v0_0) (q1g D n) n x1_0 x1_1)
def qsd (D:DX)(n:Nat) (lp1:Int→tSch→Option ((Bool×Unit)×Unit)) (v1_0:tSch):Option ((Bool×Unit)×Unit):=qh (qgq D (↑(List.length (Prod.fst v1_0)):Int) 1 5) fun b↦br (!Prod.fst (Prod.fst b)) (some ((false,()),())) (qh (qp1 D v1_0 (Prod.fst (Prod.snd v1_0)) 4) fun b↦br (!Prod.fst (Prod.fst b)) (some ((false,()),())) (qh (qt5 D v1_0) fun b↦br (!Prod.fst (Prod.fst b)) (some ((false,()),())) (lp1 0 v1_0)))
def qtz (D:DX)(n:Nat):(Int)→(tSch)→Option ((Bool×Unit)×Unit):=(fun x0 x1=>qi9 D n (fun v0_0 v0_1=>q00 D n v0_0 v0_1) (fun v1_0=>qsd D n (qty D n) v1_0) n x0 x1)
def qyc (D:DX)(n:Nat) (lp0:Int→tSch→Option ((Bool×Unit)×Unit)) (a0:tSch):Option ((Bool×Unit)×Unit):=lp0 0 a0
def qxh (D:DX)(n:Nat) (a0:tSch):Option ((Bool×Unit)×Unit):=qyc D n (qtz D n) a0
def qi8 (x0:Int) (x1:tSch):St:=stq 76 [(1,AV.addr 1 []),(3,avI x0)] [(1,Root.mk yS Mk.no x1 true)] 
def qnf (v0_0:Bool) (v0_1:tSch):St:=stq 76 [(1,AV.addr 1 []),(2,AV.val Ty.bool v0_0)] [(1,Root.mk yS Mk.no v0_1 true)] 
def qmm (v1_0:tSch):St:=stq 76 [(1,AV.addr 1 [])] [(1,Root.mk yS Mk.no v1_0 true)] 
def qi3 (x1_0:Int) (x1_1:tSch):St:=stq 76 [(1,AV.addr 1 []),(4,avI x1_0)] [(1,Root.mk yS Mk.no x1_1 true)] 
def qm3 (v0_0:Bool):St:=stq 76 [(2,AV.val Ty.bool v0_0)] [] 
def qmz:St:=stq 76 [] [] 
theorem qbd0 (D:DX)(n:Nat) (m:Nat) (K:Ex→St→Option (Out ctx 112)) (x0:Int) (x1:tSch) :
 LQ qc D n 112 [.r,.l,.r,.l] (m+1) (qi8 x0 x1) K=qvz D n (fun x0 x1=>LQ qc D n 112 [.r,.l,.r,.l] m (qi8 x0 x1) K) (fun v0_0 v0_1=>K (Ex.ret) (qnf v0_0 v0_1)) (fun v1_0=>K (Ex.exit 0) (qmm v1_0)) x0 x1:=by kernel_rfl
theorem q2z (D:DX)(n:Nat) (K:Ex→St→Option (Out ctx 112)):∀ (m:Nat) (x0:Int) (x1:tSch),LQ qc D n 112 [.r,.l,.r,.l] m (qi8 x0 x1) K=qi9 D n (fun v0_0 v0_1=>K (Ex.ret) (qnf v0_0 v0_1)) (fun v1_0=>K (Ex.exit 0) (qmm v1_0)) m x0 x1
 | 0,x0,x1=>qw ..
 | m+1,x0,x1=>by
  have ih:(fun x0 x1=>LQ qc D n 112 [.r,.l,.r,.l] m (qi8 x0 x1) K)=qi9 D n (fun v0_0 v0_1=>K (Ex.ret) (qnf v0_0 v0_1)) (fun v1_0=>K (Ex.exit 0) (qmm v1_0)) m:=by funext x0 x1;exact q2z D n K m x0 x1
  rw[qbd0]
  rw[ih];rfl
theorem qbei (D:DX)(n:Nat) (m:Nat) (K:Ex→St→Option (Out ctx 112)) (x1_0:Int) (x1_1:tSch) :
 LQ qc D n 112 [.r,.r,.r,.l,.r,.l] (m+1) (qi3 x1_0 x1_1) K=qvg D n (fun x1_0 x1_1=>LQ qc D n 112 [.r,.r,.r,.l,.r,.l] m (qi3 x1_0 x1_1) K) (fun v0_0=>K (Ex.ret) (qm3 v0_0)) (K (Ex.exit 2) (qmz)) x1_0 x1_1:=by kernel_rfl
theorem q23 (D:DX)(n:Nat) (K:Ex→St→Option (Out ctx 112)):∀ (m:Nat) (x1_0:Int) (x1_1:tSch),LQ qc D n 112 [.r,.r,.r,.l,.r,.l] m (qi3 x1_0 x1_1) K=qi4 D n (fun v0_0=>K (Ex.ret) (qm3 v0_0)) (K (Ex.exit 2) (qmz)) m x1_0 x1_1
 | 0,x1_0,x1_1=>qw ..
 | m+1,x1_0,x1_1=>by
  have ih:(fun x1_0 x1_1=>LQ qc D n 112 [.r,.r,.r,.l,.r,.l] m (qi3 x1_0 x1_1) K)=qi4 D n (fun v0_0=>K (Ex.ret) (qm3 v0_0)) (K (Ex.exit 2) (qmz)) m:=by funext x1_0 x1_1;exact q23 D n K m x1_0 x1_1
  rw[qbei]
  rw[ih];rfl
theorem qbbh (D:DX)(n:Nat) (v0_0:Bool) :
 (CQ qc D n 112 [] [.r,.r,.r,.l,.r,.l] (qi qc 112)) (Ex.ret) (qm3 v0_0)=q02 D n v0_0:=by kernel_rfl
theorem qbbm (D:DX)(n:Nat) :
 (CQ qc D n 112 [] [.r,.r,.r,.l,.r,.l] (qi qc 112)) (Ex.exit 2) (qmz)=q1g D n:=by kernel_rfl
theorem qbbp (D:DX)(n:Nat) (x1_0:Int) (x1_1:tSch) :
 LQ qc D n 112 [.r,.r,.r,.l,.r,.l] n (qi3 x1_0 x1_1) (CQ qc D n 112 [] [.r,.r,.r,.l,.r,.l] (qi qc 112))=qty D n x1_0 x1_1:=by
 rw[q23]
 simp only[qbbh,qbbm]
 rfl
theorem qbbo (D:DX)(n:Nat) (v0_0:Bool) (v0_1:tSch) :
 (CQ qc D n 112 [] [.r,.l,.r,.l] (qi qc 112)) (Ex.ret) (qnf v0_0 v0_1)=q00 D n v0_0 v0_1:=by kernel_rfl
theorem qbcs (D:DX)(n:Nat) (v1_0:tSch) :
 (CQ qc D n 112 [] [.r,.l,.r,.l] (qi qc 112)) (Ex.exit 0) (qmm v1_0)=qsd D n (fun x1_0 x1_1=>LQ qc D n 112 [.r,.r,.r,.l,.r,.l] n (qi3 x1_0 x1_1) (CQ qc D n 112 [] [.r,.r,.r,.l,.r,.l] (qi qc 112))) v1_0:=by kernel_rfl
theorem qbbs (D:DX)(n:Nat) (x0:Int) (x1:tSch) :
 LQ qc D n 112 [.r,.l,.r,.l] n (qi8 x0 x1) (CQ qc D n 112 [] [.r,.l,.r,.l] (qi qc 112))=qtz D n x0 x1:=by
 rw[q2z]
 simp only[qbbo,qbcs,qbbp]
 rfl
theorem qbio (D:DX)(n:Nat) (a0:tSch):rfC qc D n 112 (a0,())=qxh D n a0:=by
 have h:rfC qc D n 112 (a0,())=qyc D n (fun x0 x1=>LQ qc D n 112 [.r,.l,.r,.l] n (qi8 x0 x1) (CQ qc D n 112 [] [.r,.l,.r,.l] (qi qc 112))) a0:=by kernel_rfl
 rw[h]
 simp only[qbbs]
 rfl

def qrg (D:DX)(n:Nat) (go:Int→List Int×Int×Int×Unit→List tWay→Option ((List tWay×Unit)×tCur×Unit)) (K0:List Int×Int×Int×Unit→List tWay→Option ((List tWay×Unit)×tCur×Unit)) (x0:Int) (x1:List Int×Int×Int×Unit) (x2:List tWay):Option ((List tWay×Unit)×tCur×Unit):=qh (qbj D x1 6) fun b↦br (decide (x0<Prod.fst (Prod.fst b))) (qh (qdp D (Prod.fst (Prod.snd b))) fun b↦qh (qqq D x2 (Prod.fst (Prod.fst b))) fun b_1↦go (IntKind.wrap IntKind.i64 (x0+1)) (Prod.fst (Prod.snd b)) (Prod.fst (Prod.fst b_1))) (K0 (Prod.fst (Prod.snd b)) x2)
def qgn (D:DX)(n:Nat) (K0:List Int×Int×Int×Unit→List tWay→Option ((List tWay×Unit)×tCur×Unit)):Nat→(Int)→tCur→(List tWay)→Option ((List tWay×Unit)×tCur×Unit) | 0=>(fun x0 x1 x2=>none) | m+1=>(fun x0 x1 x2=>qrg D n (qgn D n K0 m) K0 x0 x1 x2)
def qj4 (D:DX)(n:Nat) (v0_0:List Int×Int×Int×Unit) (v0_1:List tWay):Option ((List tWay×Unit)×tCur×Unit):=qh (qf2 D v0_0 8) fun b↦br (Prod.fst (Prod.fst b)) (qh (qdp D (Prod.fst (Prod.snd b))) fun b↦br (decide (List.length v0_1+1≤q0)) (some ((v0_1++[Prod.fst (Prod.fst b)],()),Prod.fst (Prod.snd b),())) none) (some ((v0_1,()),Prod.fst (Prod.snd b),()))
def qo8 (D:DX)(n:Nat):(Int)→tCur→(List tWay)→Option ((List tWay×Unit)×tCur×Unit):=(fun x0 x1 x2=>qgn D n (fun v0_0 v0_1=>qj4 D n v0_0 v0_1) n x0 x1 x2)
def qs5 (D:DX)(n:Nat) (lp0:Int→List Int×Int×Int×Unit→List tWay→Option ((List tWay×Unit)×tCur×Unit)) (a0:List Int×Int×Int×Unit):Option ((List tWay×Unit)×tCur×Unit):=lp0 0 a0 []
def qsv (D:DX)(n:Nat) (a0:List Int×Int×Int×Unit):Option ((List tWay×Unit)×tCur×Unit):=qs5 D n (qo8 D n) a0
def qgm (x0:Int) (x1:List Int×Int×Int×Unit) (x2:List tWay):St:=stq 24 [(0,AV.addr 0 []),(3,AV.brw 3 [] 0),(4,avI x0)] [(0,Root.mk (Ty.pair (Ty.sl (Ty.int IntKind.u8)) (Ty.pair yI (Ty.pair yI Ty.unit))) Mk.no x1 true),(3,Root.mk (Ty.sl (Ty.pair Ty.str (Ty.pair Ty.str Ty.unit))) (Mk.own 0 (Mk.pr Mk.no (Mk.pr Mk.no Mk.no))) x2 false)] 
def qjz (v0_0:List Int×Int×Int×Unit) (v0_1:List tWay):St:=stq 24 [(0,AV.addr 0 []),(3,AV.brw 3 [] 0)] [(0,Root.mk (Ty.pair (Ty.sl (Ty.int IntKind.u8)) (Ty.pair yI (Ty.pair yI Ty.unit))) Mk.no v0_0 true),(3,Root.mk (Ty.sl (Ty.pair Ty.str (Ty.pair Ty.str Ty.unit))) (Mk.own 0 (Mk.pr Mk.no (Mk.pr Mk.no Mk.no))) v0_1 false)] 
theorem q9i (D:DX)(n:Nat) (m:Nat) (K:Ex→St→Option (Out ctx 113)) (x0:Int) (x1:List Int×Int×Int×Unit) (x2:List tWay) :
 LQ qc D n 113 [.r,.r,.l,.r,.l] (m+1) (qgm x0 x1 x2) K=qrg D n (fun x0 x1 x2=>LQ qc D n 113 [.r,.r,.l,.r,.l] m (qgm x0 x1 x2) K) (fun v0_0 v0_1=>K (Ex.exit 0) (qjz v0_0 v0_1)) x0 x1 x2:=by kernel_rfl
theorem qwy (D:DX)(n:Nat) (K:Ex→St→Option (Out ctx 113)):∀ (m:Nat) (x0:Int) (x1:List Int×Int×Int×Unit) (x2:List tWay),LQ qc D n 113 [.r,.r,.l,.r,.l] m (qgm x0 x1 x2) K=qgn D n (fun v0_0 v0_1=>K (Ex.exit 0) (qjz v0_0 v0_1)) m x0 x1 x2
 | 0,x0,x1,x2=>qw ..
 | m+1,x0,x1,x2=>by
  have ih:(fun x0 x1 x2=>LQ qc D n 113 [.r,.r,.l,.r,.l] m (qgm x0 x1 x2) K)=qgn D n (fun v0_0 v0_1=>K (Ex.exit 0) (qjz v0_0 v0_1)) m:=by funext x0 x1 x2;exact qwy D n K m x0 x1 x2
  rw[q9i]
  rw[ih];rfl
theorem q8j (D:DX)(n:Nat) (v0_0:List Int×Int×Int×Unit) (v0_1:List tWay) :
 (CQ qc D n 113 [] [.r,.r,.l,.r,.l] (qi qc 113)) (Ex.exit 0) (qjz v0_0 v0_1)=qj4 D n v0_0 v0_1:=by kernel_rfl
theorem q7t (D:DX)(n:Nat) (x0:Int) (x1:List Int×Int×Int×Unit) (x2:List tWay) :
 LQ qc D n 113 [.r,.r,.l,.r,.l] n (qgm x0 x1 x2) (CQ qc D n 113 [] [.r,.r,.l,.r,.l] (qi qc 113))=qo8 D n x0 x1 x2:=by
 rw[qwy]
 simp only[q8j]
 rfl
theorem qbbk (D:DX)(n:Nat) (a0:List Int×Int×Int×Unit):rfC qc D n 113 (a0,())=qsv D n a0:=by
 have h:rfC qc D n 113 (a0,())=qs5 D n (fun x0 x1 x2=>LQ qc D n 113 [.r,.r,.l,.r,.l] n (qgm x0 x1 x2) (CQ qc D n 113 [] [.r,.r,.l,.r,.l] (qi qc 113))) a0:=by kernel_rfl
 rw[h]
 simp only[q7t]
 rfl

def q90 (D:DX)(n:Nat) (a0:List Int×Int×Int×Unit) (a1:Int):Option ((Bool×Unit)×tCur×Unit):=qh (qbj D a0 a1) fun b↦some ((decide (Prod.fst (Prod.fst b)=0),()),Prod.fst (Prod.snd b),())
def q2r (D:DX)(n:Nat) (a0:List Int×Int×Int×Unit) (a1:Int):Option ((Bool×Unit)×tCur×Unit):=q90 D n a0 a1
theorem qbng (D:DX)(n:Nat) (a0:List Int×Int×Int×Unit) (a1:Int):rfC qc D n 114 (a0,(a1,()))=q2r D n a0 a1:=by kernel_rfl

def q7z (D:DX)(n:Nat) (a0:List Int×Int×Int×Unit) (a1:Int):Option ((Int×Unit)×tCur×Unit):=br (decide (a1≤0)) (some ((0,()),a0,())) (br (decide (a1≤256)) (qh (qkh D a0) fun b↦br (decide (a1=0)) none (some ((Int.tmod (Prod.fst (Prod.fst b)) a1,()),Prod.fst (Prod.snd b),()))) (qh (qkh D a0) fun b↦qh (qkh D (Prod.fst (Prod.snd b))) fun b_1↦qh (qkh D (Prod.fst (Prod.snd b_1))) fun b_2↦qh (qkh D (Prod.fst (Prod.snd b_2))) fun b_3↦br (decide (a1=0)) none (some ((Int.tmod (IntKind.wrap IntKind.i64 (IntKind.wrap IntKind.i64 (IntKind.wrap IntKind.i64 (IntKind.wrap IntKind.i64 (Prod.fst (Prod.fst b) * 16777216)+IntKind.wrap IntKind.i64 (Prod.fst (Prod.fst b_1) * 65536))+IntKind.wrap IntKind.i64 (Prod.fst (Prod.fst b_2) * 256))+Prod.fst (Prod.fst b_3))) a1,()),Prod.fst (Prod.snd b_3),()))))
def q0f (D:DX)(n:Nat) (a0:List Int×Int×Int×Unit) (a1:Int):Option ((Int×Unit)×tCur×Unit):=q7z D n a0 a1
theorem qbkn (D:DX)(n:Nat) (a0:List Int×Int×Int×Unit) (a1:Int):rfC qc D n 115 (a0,(a1,()))=q0f D n a0 a1:=by kernel_rfl

def q3m (D:DX)(n:Nat) (a0:List Int×Int×Int×Unit):Option ((tWay×Unit)×tCur×Unit):=qh (qoe D a0) fun b↦qh (qoe D (Prod.fst (Prod.snd b))) fun b_1↦some (((Prod.fst (Prod.fst b),Prod.fst (Prod.fst b_1),()),()),Prod.fst (Prod.snd b_1),())
def qt4 (D:DX)(n:Nat) (a0:List Int×Int×Int×Unit):Option ((tWay×Unit)×tCur×Unit):=q3m D n a0
theorem qbdk (D:DX)(n:Nat) (a0:List Int×Int×Int×Unit):rfC qc D n 116 (a0,())=qt4 D n a0:=by kernel_rfl

def qbe3 (D:DX)(n:Nat) (a0:Int) (a1:Int) (a2:Int):Option ((Bool×Unit)×Unit):=some ((bif decide (a0≥a1) then decide (a0≤a2) else false,()),())
def q6v (D:DX)(n:Nat) (a0:Int) (a1:Int) (a2:Int):Option ((Bool×Unit)×Unit):=qbe3 D n a0 a1 a2
theorem qbpz (D:DX)(n:Nat) (a0:Int) (a1:Int) (a2:Int):rfC qc D n 117 (a0,(a1,(a2,())))=q6v D n a0 a1 a2:=by kernel_rfl

def qmt (D:DX)(n:Nat) (go:qd→Int→List Int→Option ((List Int×Unit)×Unit)) (K0:List Int→Option ((List Int×Unit)×Unit)) (x0:qd) (x1:Int) (x2:List Int):Option ((List Int×Unit)×Unit):=br (decide (x1<(↑(List.length x0):Int))) (qh (qts D x0) fun b↦br (Prod.fst (Prod.fst b)) (br (decide (0≤x1)&&decide (x1<(↑(List.length x0):Int))) (qh (qxd D (List.getD x0 (Int.toNat x1) (0,0,ByteArray.empty,()))) fun b↦br (decide (List.length x2+List.length (Prod.fst (Prod.fst b))≤q0)) (go x0 (IntKind.wrap IntKind.i64 (x1+1)) (x2++Prod.fst (Prod.fst b))) none) none) (K0 x2)) (K0 x2)
def qfu (D:DX)(n:Nat) (K0:List Int→Option ((List Int×Unit)×Unit)):Nat→(qd)→(Int)→(List Int)→Option ((List Int×Unit)×Unit) | 0=>(fun x0 x1 x2=>none) | m+1=>(fun x0 x1 x2=>qmt D n (qfu D n K0 m) K0 x0 x1 x2)
def qyb (D:DX)(n:Nat) (v0_0:List Int):Option ((List Int×Unit)×Unit):=some ((v0_0,()),())
def qqz (D:DX)(n:Nat):(qd)→(Int)→(List Int)→Option ((List Int×Unit)×Unit):=(fun x0 x1 x2=>qfu D n (fun v0_0=>qyb D n v0_0) n x0 x1 x2)
def qt1 (D:DX)(n:Nat) (lp0:qd→Int→List Int→Option ((List Int×Unit)×Unit)) (a0:qd):Option ((List Int×Unit)×Unit):=lp0 a0 0 []
def quy (D:DX)(n:Nat) (a0:qd):Option ((List Int×Unit)×Unit):=qt1 D n (qqz D n) a0
def qhf (x0:qd) (x1:Int) (x2:List Int):St:=stq 24 [(0,AV.val (Ty.sl yV) x0),(3,AV.brw 3 [] 0),(4,avI x1)] [(3,Root.mk (Ty.sl (Ty.int IntKind.u8)) (Mk.own 0 Mk.no) x2 false)] 
def qkv (v0_0:List Int):St:=stq 24 [(3,AV.brw 3 [] 0)] [(3,Root.mk (Ty.sl (Ty.int IntKind.u8)) (Mk.own 0 Mk.no) v0_0 false)] 
theorem qbah (D:DX)(n:Nat) (m:Nat) (K:Ex→St→Option (Out ctx 118)) (x0:qd) (x1:Int) (x2:List Int) :
 LQ qc D n 118 [.r,.r,.l,.r,.l] (m+1) (qhf x0 x1 x2) K=qmt D n (fun x0 x1 x2=>LQ qc D n 118 [.r,.r,.l,.r,.l] m (qhf x0 x1 x2) K) (fun v0_0=>K (Ex.exit 0) (qkv v0_0)) x0 x1 x2:=by kernel_rfl
theorem qyk (D:DX)(n:Nat) (K:Ex→St→Option (Out ctx 118)):∀ (m:Nat) (x0:qd) (x1:Int) (x2:List Int),LQ qc D n 118 [.r,.r,.l,.r,.l] m (qhf x0 x1 x2) K=qfu D n (fun v0_0=>K (Ex.exit 0) (qkv v0_0)) m x0 x1 x2
 | 0,x0,x1,x2=>qw ..
 | m+1,x0,x1,x2=>by
  have ih:(fun x0 x1 x2=>LQ qc D n 118 [.r,.r,.l,.r,.l] m (qhf x0 x1 x2) K)=qfu D n (fun v0_0=>K (Ex.exit 0) (qkv v0_0)) m:=by funext x0 x1 x2;exact qyk D n K m x0 x1 x2
  rw[qbah]
  rw[ih];rfl
theorem q87 (D:DX)(n:Nat) (v0_0:List Int) :
 (CQ qc D n 118 [] [.r,.r,.l,.r,.l] (qi qc 118)) (Ex.exit 0) (qkv v0_0)=qyb D n v0_0:=by kernel_rfl
theorem q84 (D:DX)(n:Nat) (x0:qd) (x1:Int) (x2:List Int) :
 LQ qc D n 118 [.r,.r,.l,.r,.l] n (qhf x0 x1 x2) (CQ qc D n 118 [] [.r,.r,.l,.r,.l] (qi qc 118))=qqz D n x0 x1 x2:=by
 rw[qyk]
 simp only[q87]
 rfl
theorem qbdz (D:DX)(n:Nat) (a0:qd):rfC qc D n 118 (a0,())=quy D n a0:=by
 have h:rfC qc D n 118 (a0,())=qt1 D n (fun x0 x1 x2=>LQ qc D n 118 [.r,.r,.l,.r,.l] n (qhf x0 x1 x2) (CQ qc D n 118 [] [.r,.r,.l,.r,.l] (qi qc 118))) a0:=by kernel_rfl
 rw[h]
 simp only[q84]
 rfl

def qx9 (D:DX)(n:Nat) (go:qd→List Int→Int→qd→Option ((qd×Unit)×Unit)) (K0:qd→Option ((qd×Unit)×Unit)) (x0:qd) (x1:List Int) (x2:Int) (x3:qd):Option ((qd×Unit)×Unit):=br (decide (x2<(↑(List.length x1):Int))) (br (decide (0≤x2)&&decide (x2<(↑(List.length x1):Int))) (qh (qgq D (List.getD x1 (Int.toNat x2) 0) 0 (IntKind.wrap IntKind.i64 ((↑(List.length x0):Int) - 1))) fun b↦br (Prod.fst (Prod.fst b)) (br (decide (0≤x2)&&decide (x2<(↑(List.length x1):Int))) (br (decide (0≤List.getD x1 (Int.toNat x2) 0)&&decide (List.getD x1 (Int.toNat x2) 0<(↑(List.length x0):Int))) (br (decide (List.length x3+1≤q0)) (go x0 x1 (IntKind.wrap IntKind.i64 (x2+1)) (x3++[List.getD x0 (Int.toNat (List.getD x1 (Int.toNat x2) 0)) (0,0,ByteArray.empty,())])) none) none) none) (go x0 x1 (IntKind.wrap IntKind.i64 (x2+1)) x3)) none) (K0 x3)
def qj3 (D:DX)(n:Nat) (K0:qd→Option ((qd×Unit)×Unit)):Nat→(qd)→(List Int)→(Int)→(qd)→Option ((qd×Unit)×Unit) | 0=>(fun x0 x1 x2 x3=>none) | m+1=>(fun x0 x1 x2 x3=>qx9 D n (qj3 D n K0 m) K0 x0 x1 x2 x3)
def q3a (D:DX)(n:Nat) (v0_0:qd):Option ((qd×Unit)×Unit):=some ((v0_0,()),())
def qvm (D:DX)(n:Nat):(qd)→(List Int)→(Int)→(qd)→Option ((qd×Unit)×Unit):=(fun x0 x1 x2 x3=>qj3 D n (fun v0_0=>q3a D n v0_0) n x0 x1 x2 x3)
def qz5 (D:DX)(n:Nat) (lp0:qd→List Int→Int→qd→Option ((qd×Unit)×Unit)) (a0:qd) (a1:List Int):Option ((qd×Unit)×Unit):=lp0 a0 a1 0 []
def qz8 (D:DX)(n:Nat) (a0:qd) (a1:List Int):Option ((qd×Unit)×Unit):=qz5 D n (qvm D n) a0 a1
def qjw (x0:qd) (x1:List Int) (x2:Int) (x3:qd):St:=stq 33 [(0,AV.val (Ty.sl yV) x0),(1,AV.val (Ty.sl yI) x1),(5,AV.brw 5 [] 0),(6,avI x2)] [(5,Root.mk (Ty.sl yV) (Mk.own 0 (Mk.pr Mk.no (Mk.pr Mk.no (Mk.pr Mk.no Mk.no)))) x3 false)] 
def qob (v0_0:qd):St:=stq 33 [(5,AV.brw 5 [] 0)] [(5,Root.mk (Ty.sl yV) (Mk.own 0 (Mk.pr Mk.no (Mk.pr Mk.no (Mk.pr Mk.no Mk.no)))) v0_0 false)] 
theorem qbg9 (D:DX)(n:Nat) (m:Nat) (K:Ex→St→Option (Out ctx 119)) (x0:qd) (x1:List Int) (x2:Int) (x3:qd) :
 LQ qc D n 119 [.r,.r,.l,.r,.l] (m+1) (qjw x0 x1 x2 x3) K=qx9 D n (fun x0 x1 x2 x3=>LQ qc D n 119 [.r,.r,.l,.r,.l] m (qjw x0 x1 x2 x3) K) (fun v0_0=>K (Ex.exit 0) (qob v0_0)) x0 x1 x2 x3:=by kernel_rfl
theorem q4d (D:DX)(n:Nat) (K:Ex→St→Option (Out ctx 119)):∀ (m:Nat) (x0:qd) (x1:List Int) (x2:Int) (x3:qd),LQ qc D n 119 [.r,.r,.l,.r,.l] m (qjw x0 x1 x2 x3) K=qj3 D n (fun v0_0=>K (Ex.exit 0) (qob v0_0)) m x0 x1 x2 x3
 | 0,x0,x1,x2,x3=>qw ..
 | m+1,x0,x1,x2,x3=>by
  have ih:(fun x0 x1 x2 x3=>LQ qc D n 119 [.r,.r,.l,.r,.l] m (qjw x0 x1 x2 x3) K)=qj3 D n (fun v0_0=>K (Ex.exit 0) (qob v0_0)) m:=by funext x0 x1 x2 x3;exact q4d D n K m x0 x1 x2 x3
  rw[qbg9]
  rw[ih];rfl
theorem qbev (D:DX)(n:Nat) (v0_0:qd) :
 (CQ qc D n 119 [] [.r,.r,.l,.r,.l] (qi qc 119)) (Ex.exit 0) (qob v0_0)=q3a D n v0_0:=by kernel_rfl
theorem qbew (D:DX)(n:Nat) (x0:qd) (x1:List Int) (x2:Int) (x3:qd) :
 LQ qc D n 119 [.r,.r,.l,.r,.l] n (qjw x0 x1 x2 x3) (CQ qc D n 119 [] [.r,.r,.l,.r,.l] (qi qc 119))=qvm D n x0 x1 x2 x3:=by
 rw[q4d]
 simp only[qbev]
 rfl
theorem qbk0 (D:DX)(n:Nat) (a0:qd) (a1:List Int):rfC qc D n 119 (a0,(a1,()))=qz8 D n a0 a1:=by
 have h:rfC qc D n 119 (a0,(a1,()))=qz5 D n (fun x0 x1 x2 x3=>LQ qc D n 119 [.r,.r,.l,.r,.l] n (qjw x0 x1 x2 x3) (CQ qc D n 119 [] [.r,.r,.l,.r,.l] (qi qc 119))) a0 a1:=by kernel_rfl
 rw[h]
 simp only[qbew]
 rfl
















def qo9 (D:DX)(n:Nat) (go:Int→Int→List Int×Int×Int×Unit→tSch→tSch→List ByteArray→Option (((tSch)×Unit)×tCur×Unit)) (K0:Int→List Int×Int×Int×Unit→tSch→tSch→Option (((tSch)×Unit)×tCur×Unit)) (x0:Int) (x1:Int) (x2:List Int×Int×Int×Unit) (x3:tSch) (x4:tSch) (x5:List ByteArray):Option (((tSch)×Unit)×tCur×Unit):=br (decide (x1<x0)) (br (decide (0≤x1)&&decide (x1<(↑(List.length x5):Int))) (qh (qbj D x2 3) fun b↦br (decide (x1>0)) (qh (qf2 D (Prod.fst (Prod.snd b)) 2) fun b_1↦br (decide (List.length (Prod.fst x4)+1≤q0)) (go x0 (IntKind.wrap IntKind.i64 (x1+1)) (Prod.fst (Prod.snd b_1)) x3 (Prod.fst x4++[(List.getD x5 (Int.toNat x1) ByteArray.empty,IntKind.wrap IntKind.i64 (1+Prod.fst (Prod.fst b)),Prod.fst (Prod.fst b_1),())],Prod.snd x4) x5) none) (br (decide (List.length (Prod.fst x4)+1≤q0)) (go x0 (IntKind.wrap IntKind.i64 (x1+1)) (Prod.fst (Prod.snd b)) x3 (Prod.fst x4++[(List.getD x5 (Int.toNat x1) ByteArray.empty,IntKind.wrap IntKind.i64 (1+Prod.fst (Prod.fst b)),false,())],Prod.snd x4) x5) none)) none) (K0 x0 x2 x3 x4)
def qf9 (D:DX)(n:Nat) (K0:Int→List Int×Int×Int×Unit→tSch→tSch→Option (((tSch)×Unit)×tCur×Unit)):Nat→(Int)→(Int)→tCur→(tSch)→(tSch)→(List ByteArray)→Option (((tSch)×Unit)×tCur×Unit) | 0=>(fun x0 x1 x2 x3 x4 x5=>none) | m+1=>(fun x0 x1 x2 x3 x4 x5=>qo9 D n (qf9 D n K0 m) K0 x0 x1 x2 x3 x4 x5)
def qpl (D:DX)(n:Nat) (go:Int→Int→List Int×Int×Int×Unit→tSch→tSch→Option (((tSch)×Unit)×tCur×Unit)) (K0:List Int×Int×Int×Unit→tSch→tSch→Option (((tSch)×Unit)×tCur×Unit)) (x1_0:Int) (x1_1:Int) (x1_2:List Int×Int×Int×Unit) (x1_3:tSch) (x1_4:tSch):Option (((tSch)×Unit)×tCur×Unit):=qh (qbj D x1_2 3) fun b↦br (decide (x1_1<Prod.fst (Prod.fst b))) (qh (qbj D (Prod.fst (Prod.snd b)) (IntKind.wrap IntKind.i64 (x1_0 - 1))) fun b↦br (decide (0≤x1_1)&&decide (x1_1<(↑3:Int))) (qh (qf2 D (Prod.fst (Prod.snd b)) 2) fun b_1↦qh (qf2 D (Prod.fst (Prod.snd b_1)) 2) fun b_2↦br (Prod.fst (Prod.fst b_2)) (br (decide (x1_0=0)) none (br (decide (List.length (Prod.fst (Prod.snd (Prod.snd x1_4)))+1≤q0)) (go x1_0 (IntKind.wrap IntKind.i64 (x1_1+1)) (Prod.fst (Prod.snd b_2)) x1_3 (Prod.fst x1_4,Prod.fst (Prod.snd x1_4),Prod.fst (Prod.snd (Prod.snd x1_4))++[(List.getD [ByteArray.mk #[UInt8.ofNat 120],ByteArray.mk #[UInt8.ofNat 121],ByteArray.mk #[UInt8.ofNat 122]] (Int.toNat x1_1) ByteArray.empty,[IntKind.wrap IntKind.i64 (1+Prod.fst (Prod.fst b))]++[Int.tmod (IntKind.wrap IntKind.i64 (IntKind.wrap IntKind.i64 (1+Prod.fst (Prod.fst b))+1)) x1_0],Prod.fst (Prod.fst b_1),())],Prod.snd (Prod.snd (Prod.snd x1_4)))) none)) (br (decide (List.length (Prod.fst (Prod.snd (Prod.snd x1_4)))+1≤q0)) (go x1_0 (IntKind.wrap IntKind.i64 (x1_1+1)) (Prod.fst (Prod.snd b_2)) x1_3 (Prod.fst x1_4,Prod.fst (Prod.snd x1_4),Prod.fst (Prod.snd (Prod.snd x1_4))++[(List.getD [ByteArray.mk #[UInt8.ofNat 120],ByteArray.mk #[UInt8.ofNat 121],ByteArray.mk #[UInt8.ofNat 122]] (Int.toNat x1_1) ByteArray.empty,[IntKind.wrap IntKind.i64 (1+Prod.fst (Prod.fst b))],Prod.fst (Prod.fst b_1),())],Prod.snd (Prod.snd (Prod.snd x1_4)))) none)) none) (K0 (Prod.fst (Prod.snd b)) x1_3 x1_4)
def qga (D:DX)(n:Nat) (K0:List Int×Int×Int×Unit→tSch→tSch→Option (((tSch)×Unit)×tCur×Unit)):Nat→(Int)→(Int)→tCur→(tSch)→(tSch)→Option (((tSch)×Unit)×tCur×Unit) | 0=>(fun x1_0 x1_1 x1_2 x1_3 x1_4=>none) | m+1=>(fun x1_0 x1_1 x1_2 x1_3 x1_4=>qpl D n (qga D n K0 m) K0 x1_0 x1_1 x1_2 x1_3 x1_4)
def qjn (D:DX)(n:Nat) (v0_0:List Int×Int×Int×Unit) (v0_1:tSch) (v0_2:tSch):Option (((tSch)×Unit)×tCur×Unit):=qh (qll D v0_0 [2,3]) fun b↦br (decide (0≤0)&&decide (0<(↑(List.length (Prod.fst v0_2)):Int))) (some (((List.set (Prod.fst v0_2) 0 (Prod.fst (List.getD (Prod.fst v0_2) 0 (ByteArray.empty,0,false,())),Prod.fst (Prod.fst b),Prod.snd (Prod.snd (List.getD (Prod.fst v0_2) 0 (ByteArray.empty,0,false,())))),Prod.fst (Prod.snd v0_2),Prod.fst (Prod.snd (Prod.snd v0_2)),()),()),Prod.fst (Prod.snd b),())) none
def qjx (D:DX)(n:Nat):(Int)→(Int)→tCur→(tSch)→(tSch)→Option (((tSch)×Unit)×tCur×Unit):=(fun x1_0 x1_1 x1_2 x1_3 x1_4=>qga D n (fun v0_0 v0_1 v0_2=>qjn D n v0_0 v0_1 v0_2) n x1_0 x1_1 x1_2 x1_3 x1_4)
def qji (D:DX)(n:Nat) (lp1:Int→Int→List Int×Int×Int×Unit→tSch→tSch→Option (((tSch)×Unit)×tCur×Unit)) (v0_0:Int) (v0_1:List Int×Int×Int×Unit) (v0_2:tSch) (v0_3:tSch):Option (((tSch)×Unit)×tCur×Unit):=lp1 v0_0 0 v0_1 v0_2 (Prod.fst v0_3,[0],Prod.snd (Prod.snd v0_3))
def qos (D:DX)(n:Nat):(Int)→(Int)→tCur→(tSch)→(tSch)→(List ByteArray)→Option (((tSch)×Unit)×tCur×Unit):=(fun x0 x1 x2 x3 x4 x5=>qf9 D n (fun v0_0 v0_1 v0_2 v0_3=>qji D n (qjx D n) v0_0 v0_1 v0_2 v0_3) n x0 x1 x2 x3 x4 x5)
def qrj (D:DX)(n:Nat) (lp0:Int→Int→List Int×Int×Int×Unit→tSch→tSch→List ByteArray→Option (((tSch)×Unit)×tCur×Unit)) (a0:List Int×Int×Int×Unit):Option (((tSch)×Unit)×tCur×Unit):=qh (qbj D a0 3) fun b↦lp0 (IntKind.wrap IntKind.i64 (2+Prod.fst (Prod.fst b))) 0 (Prod.fst (Prod.snd b)) ([],[],[],()) ([],[],[],()) [ByteArray.mk #[UInt8.ofNat 105,UInt8.ofNat 100],ByteArray.mk #[UInt8.ofNat 110,UInt8.ofNat 97,UInt8.ofNat 109,UInt8.ofNat 101],ByteArray.mk #[UInt8.ofNat 115,UInt8.ofNat 105,UInt8.ofNat 122,UInt8.ofNat 101],ByteArray.mk #[UInt8.ofNat 111,UInt8.ofNat 110]]
def qq6 (D:DX)(n:Nat) (a0:List Int×Int×Int×Unit):Option (((tSch)×Unit)×tCur×Unit):=qrj D n (qos D n) a0
def qgc (x0:Int) (x1:Int) (x2:List Int×Int×Int×Unit) (x3:tSch) (x4:tSch) (x5:List ByteArray):St:=stq 86 [(0,AV.addr 0 []),(2,AV.addr 2 []),(3,AV.addr 3 []),(4,AV.brw 4 [] 0),(5,avI x0),(6,avI x1)] [(0,Root.mk (Ty.pair (Ty.sl (Ty.int IntKind.u8)) (Ty.pair yI (Ty.pair yI Ty.unit))) Mk.no x2 true),(2,Root.mk yS (Mk.pr (Mk.own 0 (Mk.pr Mk.no (Mk.pr Mk.no (Mk.pr Mk.no Mk.no)))) (Mk.pr (Mk.own 0 Mk.no) (Mk.pr (Mk.own 0 (Mk.pr Mk.no (Mk.pr (Mk.own 0 Mk.no) (Mk.pr Mk.no Mk.no)))) Mk.no))) x3 true),(3,Root.mk yS (Mk.pr (Mk.own 0 (Mk.pr Mk.no (Mk.pr Mk.no (Mk.pr Mk.no Mk.no)))) (Mk.pr (Mk.own 0 Mk.no) (Mk.pr (Mk.own 0 (Mk.pr Mk.no (Mk.pr (Mk.own 0 Mk.no) (Mk.pr Mk.no Mk.no)))) Mk.no))) x4 true),(4,Root.mk (Ty.sl Ty.str) (Mk.own 0 Mk.no) x5 false)] 
def qjk (v0_0:Int) (v0_1:List Int×Int×Int×Unit) (v0_2:tSch) (v0_3:tSch):St:=stq 86 [(0,AV.addr 0 []),(2,AV.addr 2 []),(3,AV.addr 3 []),(5,avI v0_0)] [(0,Root.mk (Ty.pair (Ty.sl (Ty.int IntKind.u8)) (Ty.pair yI (Ty.pair yI Ty.unit))) Mk.no v0_1 true),(2,Root.mk yS (Mk.pr (Mk.own 0 (Mk.pr Mk.no (Mk.pr Mk.no (Mk.pr Mk.no Mk.no)))) (Mk.pr (Mk.own 0 Mk.no) (Mk.pr (Mk.own 0 (Mk.pr Mk.no (Mk.pr (Mk.own 0 Mk.no) (Mk.pr Mk.no Mk.no)))) Mk.no))) v0_2 true),(3,Root.mk yS (Mk.pr (Mk.own 0 (Mk.pr Mk.no (Mk.pr Mk.no (Mk.pr Mk.no Mk.no)))) (Mk.pr (Mk.own 0 Mk.no) (Mk.pr (Mk.own 0 (Mk.pr Mk.no (Mk.pr (Mk.own 0 Mk.no) (Mk.pr Mk.no Mk.no)))) Mk.no))) v0_3 true)] 
def qf6 (x1_0:Int) (x1_1:Int) (x1_2:List Int×Int×Int×Unit) (x1_3:tSch) (x1_4:tSch):St:=stq 86 [(0,AV.addr 0 []),(2,AV.addr 2 []),(3,AV.addr 3 []),(5,avI x1_0),(7,avI x1_1)] [(0,Root.mk (Ty.pair (Ty.sl (Ty.int IntKind.u8)) (Ty.pair yI (Ty.pair yI Ty.unit))) Mk.no x1_2 true),(2,Root.mk yS (Mk.pr (Mk.own 0 (Mk.pr Mk.no (Mk.pr Mk.no (Mk.pr Mk.no Mk.no)))) (Mk.pr (Mk.own 0 Mk.no) (Mk.pr (Mk.own 0 (Mk.pr Mk.no (Mk.pr (Mk.own 0 Mk.no) (Mk.pr Mk.no Mk.no)))) Mk.no))) x1_3 true),(3,Root.mk yS (Mk.pr (Mk.own 0 (Mk.pr Mk.no (Mk.pr Mk.no (Mk.pr Mk.no Mk.no)))) (Mk.pr (Mk.own 0 Mk.no) (Mk.pr (Mk.own 0 (Mk.pr Mk.no (Mk.pr (Mk.own 0 Mk.no) (Mk.pr Mk.no Mk.no)))) Mk.no))) x1_4 true)] 
def qjf (v0_0:List Int×Int×Int×Unit) (v0_1:tSch) (v0_2:tSch):St:=stq 86 [(0,AV.addr 0 []),(2,AV.addr 2 []),(3,AV.addr 3 [])] [(0,Root.mk (Ty.pair (Ty.sl (Ty.int IntKind.u8)) (Ty.pair yI (Ty.pair yI Ty.unit))) Mk.no v0_0 true),(2,Root.mk yS (Mk.pr (Mk.own 0 (Mk.pr Mk.no (Mk.pr Mk.no (Mk.pr Mk.no Mk.no)))) (Mk.pr (Mk.own 0 Mk.no) (Mk.pr (Mk.own 0 (Mk.pr Mk.no (Mk.pr (Mk.own 0 Mk.no) (Mk.pr Mk.no Mk.no)))) Mk.no))) v0_1 true),(3,Root.mk yS (Mk.pr (Mk.own 0 (Mk.pr Mk.no (Mk.pr Mk.no (Mk.pr Mk.no Mk.no)))) (Mk.pr (Mk.own 0 Mk.no) (Mk.pr (Mk.own 0 (Mk.pr Mk.no (Mk.pr (Mk.own 0 Mk.no) (Mk.pr Mk.no Mk.no)))) Mk.no))) v0_2 true)] 
theorem q69 (D:DX)(n:Nat) (m:Nat) (K:Ex→St→Option (Out ctx 135)) (x0:Int) (x1:Int) (x2:List Int×Int×Int×Unit) (x3:tSch) (x4:tSch) (x5:List ByteArray) :
 LQ qc D n 135 [.r,.r,.r,.r,.l,.r,.l] (m+1) (qgc x0 x1 x2 x3 x4 x5) K=qo9 D n (fun x0 x1 x2 x3 x4 x5=>LQ qc D n 135 [.r,.r,.r,.r,.l,.r,.l] m (qgc x0 x1 x2 x3 x4 x5) K) (fun v0_0 v0_1 v0_2 v0_3=>K (Ex.exit 0) (qjk v0_0 v0_1 v0_2 v0_3)) x0 x1 x2 x3 x4 x5:=by kernel_rfl
theorem qwl (D:DX)(n:Nat) (K:Ex→St→Option (Out ctx 135)):∀ (m:Nat) (x0:Int) (x1:Int) (x2:List Int×Int×Int×Unit) (x3:tSch) (x4:tSch) (x5:List ByteArray),LQ qc D n 135 [.r,.r,.r,.r,.l,.r,.l] m (qgc x0 x1 x2 x3 x4 x5) K=qf9 D n (fun v0_0 v0_1 v0_2 v0_3=>K (Ex.exit 0) (qjk v0_0 v0_1 v0_2 v0_3)) m x0 x1 x2 x3 x4 x5
 | 0,x0,x1,x2,x3,x4,x5=>qw ..
 | m+1,x0,x1,x2,x3,x4,x5=>by
  have ih:(fun x0 x1 x2 x3 x4 x5=>LQ qc D n 135 [.r,.r,.r,.r,.l,.r,.l] m (qgc x0 x1 x2 x3 x4 x5) K)=qf9 D n (fun v0_0 v0_1 v0_2 v0_3=>K (Ex.exit 0) (qjk v0_0 v0_1 v0_2 v0_3)) m:=by funext x0 x1 x2 x3 x4 x5;exact qwl D n K m x0 x1 x2 x3 x4 x5
  rw[q69]
  rw[ih];rfl
theorem q7a (D:DX)(n:Nat) (m:Nat) (K:Ex→St→Option (Out ctx 135)) (x1_0:Int) (x1_1:Int) (x1_2:List Int×Int×Int×Unit) (x1_3:tSch) (x1_4:tSch) :
 LQ qc D n 135 [.r,.r,.r,.r,.r,.r,.l,.r,.l] (m+1) (qf6 x1_0 x1_1 x1_2 x1_3 x1_4) K=qpl D n (fun x1_0 x1_1 x1_2 x1_3 x1_4=>LQ qc D n 135 [.r,.r,.r,.r,.r,.r,.l,.r,.l] m (qf6 x1_0 x1_1 x1_2 x1_3 x1_4) K) (fun v0_0 v0_1 v0_2=>K (Ex.exit 2) (qjf v0_0 v0_1 v0_2)) x1_0 x1_1 x1_2 x1_3 x1_4:=by kernel_rfl
theorem qwp (D:DX)(n:Nat) (K:Ex→St→Option (Out ctx 135)):∀ (m:Nat) (x1_0:Int) (x1_1:Int) (x1_2:List Int×Int×Int×Unit) (x1_3:tSch) (x1_4:tSch),LQ qc D n 135 [.r,.r,.r,.r,.r,.r,.l,.r,.l] m (qf6 x1_0 x1_1 x1_2 x1_3 x1_4) K=qga D n (fun v0_0 v0_1 v0_2=>K (Ex.exit 2) (qjf v0_0 v0_1 v0_2)) m x1_0 x1_1 x1_2 x1_3 x1_4
 | 0,x1_0,x1_1,x1_2,x1_3,x1_4=>qw ..
 | m+1,x1_0,x1_1,x1_2,x1_3,x1_4=>by
  have ih:(fun x1_0 x1_1 x1_2 x1_3 x1_4=>LQ qc D n 135 [.r,.r,.r,.r,.r,.r,.l,.r,.l] m (qf6 x1_0 x1_1 x1_2 x1_3 x1_4) K)=qga D n (fun v0_0 v0_1 v0_2=>K (Ex.exit 2) (qjf v0_0 v0_1 v0_2)) m:=by funext x1_0 x1_1 x1_2 x1_3 x1_4;exact qwp D n K m x1_0 x1_1 x1_2 x1_3 x1_4
  rw[q7a]
  rw[ih];rfl
theorem q60 (D:DX)(n:Nat) (v0_0:List Int×Int×Int×Unit) (v0_1:tSch) (v0_2:tSch) :
 (CQ qc D n 135 [] [.r,.r,.r,.r,.r,.r,.l,.r,.l] (qi qc 135)) (Ex.exit 2) (qjf v0_0 v0_1 v0_2)=qjn D n v0_0 v0_1 v0_2:=by kernel_rfl
theorem q68 (D:DX)(n:Nat) (x1_0:Int) (x1_1:Int) (x1_2:List Int×Int×Int×Unit) (x1_3:tSch) (x1_4:tSch) :
 LQ qc D n 135 [.r,.r,.r,.r,.r,.r,.l,.r,.l] n (qf6 x1_0 x1_1 x1_2 x1_3 x1_4) (CQ qc D n 135 [] [.r,.r,.r,.r,.r,.r,.l,.r,.l] (qi qc 135))=qjx D n x1_0 x1_1 x1_2 x1_3 x1_4:=by
 rw[qwp]
 simp only[q60]
 rfl
theorem q66 (D:DX)(n:Nat) (v0_0:Int) (v0_1:List Int×Int×Int×Unit) (v0_2:tSch) (v0_3:tSch) :
 (CQ qc D n 135 [] [.r,.r,.r,.r,.l,.r,.l] (qi qc 135)) (Ex.exit 0) (qjk v0_0 v0_1 v0_2 v0_3)=qji D n (fun x1_0 x1_1 x1_2 x1_3 x1_4=>LQ qc D n 135 [.r,.r,.r,.r,.r,.r,.l,.r,.l] n (qf6 x1_0 x1_1 x1_2 x1_3 x1_4) (CQ qc D n 135 [] [.r,.r,.r,.r,.r,.r,.l,.r,.l] (qi qc 135))) v0_0 v0_1 v0_2 v0_3:=by kernel_rfl
theorem q67 (D:DX)(n:Nat) (x0:Int) (x1:Int) (x2:List Int×Int×Int×Unit) (x3:tSch) (x4:tSch) (x5:List ByteArray) :
 LQ qc D n 135 [.r,.r,.r,.r,.l,.r,.l] n (qgc x0 x1 x2 x3 x4 x5) (CQ qc D n 135 [] [.r,.r,.r,.r,.l,.r,.l] (qi qc 135))=qos D n x0 x1 x2 x3 x4 x5:=by
 rw[qwl]
 simp only[q66,q68]
 rfl
theorem qbaz (D:DX)(n:Nat) (a0:List Int×Int×Int×Unit):rfC qc D n 135 (a0,())=qq6 D n a0:=by
 have h:rfC qc D n 135 (a0,())=qrj D n (fun x0 x1 x2 x3 x4 x5=>LQ qc D n 135 [.r,.r,.r,.r,.l,.r,.l] n (qgc x0 x1 x2 x3 x4 x5) (CQ qc D n 135 [] [.r,.r,.r,.r,.l,.r,.l] (qi qc 135))) a0:=by kernel_rfl
 rw[h]
 simp only[q67]
 rfl
end
end Go.G


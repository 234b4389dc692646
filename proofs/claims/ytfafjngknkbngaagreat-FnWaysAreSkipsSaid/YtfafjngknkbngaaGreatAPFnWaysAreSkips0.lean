import Derived.Test.YtfafjngknkbngaaGreatAV3
set_option linter.unusedVariables false
set_option linter.unusedSimpArgs false
set_option linter.unusedSectionVars false
namespace Go.G
open Go Go.V
abbrev DX:=Den ctx
abbrev tVal:=Int×Int×ByteArray×Unit
abbrev qd:=List tVal
abbrev qe:=List qd
abbrev tIx:=ByteArray×List Int×Bool×Unit
abbrev tIxs:=List tIx
abbrev tCol:=ByteArray×Int×Bool×Unit
abbrev qhk:=List tCol
abbrev tSch:=qhk×List Int×tIxs×Unit
abbrev tWay:=ByteArray×ByteArray×Unit
abbrev tCur:=List Int×Int×Int×Unit
abbrev avI:=AV.val (Ty.int IntKind.i64)
abbrev yI:=Ty.int IntKind.i64
abbrev yC:=Ty.pair Ty.str (Ty.pair yI (Ty.pair Ty.bool Ty.unit))
abbrev yX:=Ty.pair Ty.str (Ty.pair (Ty.sl yI) (Ty.pair Ty.bool Ty.unit))
abbrev yV:=Ty.pair yI (Ty.pair yI (Ty.pair Ty.str Ty.unit))
abbrev yS:=Ty.pair (Ty.sl yC) (Ty.pair (Ty.sl yI) (Ty.pair (Ty.sl yX) Ty.unit))
end Go.G
namespace Go.G
open Go Go.V
noncomputable def qw6 (D:Den ctx) (a0:List Int):Option ((Bool×Unit)×Unit):=D 3 (a0,())
noncomputable def q9b (D:Den ctx) (a0:List Int):Option ((Bool×Unit)×Unit):=D 11 (a0,())
noncomputable def qrl (D:Den ctx) (a0:List Int):Option ((((tSch)×qe×Unit)×qd×Unit)×Unit):=D 12 (a0,())
noncomputable def q2v (D:Den ctx) (a0:(tSch)×qe×Unit) (a1:Int):Option ((List tWay×Unit)×Unit):=D 13 (a0,(a1,()))
noncomputable def q0k (D:Den ctx):Option (((List Int×List (ByteArray×List Int×Unit)×Unit)×Unit)×Unit):=D 14 ()
noncomputable def qo0 (D:Den ctx) (a0:List Int×List (ByteArray×List Int×Unit)×Unit) (a1:ByteArray):Option (((List Int×List (ByteArray×List Int×Unit)×Unit)×Bool×Unit)×Unit):=D 15 (a0,(a1,()))
noncomputable def qz3 (D:Den ctx) (a0:List Int×List (ByteArray×List Int×Unit)×Unit):Option ((List ByteArray×Unit)×Unit):=D 16 (a0,())
noncomputable def qx6 (D:Den ctx) (a0:(tSch)×qe×Unit):Option ((Bool×Unit)×Unit):=D 17 (a0,())
noncomputable def q2x (D:Den ctx) (a0:List tWay) (a1:ByteArray×ByteArray×Unit):Option ((List tWay×Unit)×Unit):=D 21 (a0,(a1,()))
noncomputable def qmv (D:Den ctx) (a0:tSch) (a1:qd):Option ((qd×Unit)×Unit):=D 23 (a0,(a1,()))
noncomputable def q2n (D:Den ctx) (a0:(tSch)×qe×Unit) (a1:qd):Option ((((tSch)×qe×Unit)×Int×Unit)×Unit):=D 28 (a0,(a1,()))
noncomputable def q2m (D:Den ctx) (a0:(tSch)×qe×Unit) (a1:qd):Option ((((tSch)×qe×Unit)×Int×Unit)×Unit):=D 30 (a0,(a1,()))
noncomputable def qzq (D:Den ctx) (a0:(tSch)×qe×Unit) (a1:qd):Option ((((tSch)×qe×Unit)×Int×Unit)×Unit):=D 32 (a0,(a1,()))
noncomputable def q2w (D:Den ctx) (a0:tSch):Option ((((tSch)×qe×Unit)×Bool×Unit)×Unit):=D 38 (a0,())
noncomputable def qo2 (D:Den ctx) (a0:(tSch)×qe×Unit):Option ((Bool×Unit)×Unit):=D 41 (a0,())
noncomputable def qy7 (D:Den ctx) (a0:ByteArray×ByteArray×Unit) (a1:ByteArray×ByteArray×Unit):Option ((Bool×Unit)×Unit):=D 50 (a0,(a1,()))
noncomputable def q4z (D:Den ctx) (a0:List Int):Option ((tCur×Unit)×Unit):=D 65 (a0,())
noncomputable def qri (D:Den ctx) (a0:List Int×Int×Int×Unit):Option ((((tSch)×qe×Unit)×Unit)×tCur×Unit):=D 66 (a0,())
noncomputable def quw (D:Den ctx) (a0:List Int×Int×Int×Unit) (a1:(tSch)×qe×Unit):Option ((qd×Unit)×tCur×Unit):=D 67 (a0,(a1,()))
noncomputable def qev (D:Den ctx) (a0:Int) (a1:Int) (a2:Int):Option ((Bool×Unit)×Unit):=D 68 (a0,(a1,(a2,())))
noncomputable def q9s (D:Den ctx) (a0:tSch) (a1:Int) (a2:qd):Option ((tWay×Unit)×Unit):=D 69 (a0,(a1,(a2,())))
noncomputable def qyl (D:Den ctx) (a0:List Int×List (ByteArray×List Int×Unit)×Unit):Option (((List Int×List (ByteArray×List Int×Unit)×Unit)×Unit)×Unit):=D 70 (a0,())
noncomputable def qvg (D:Den ctx) (a0:List Int×List (ByteArray×List Int×Unit)×Unit):Option ((Bool×Unit)×Unit):=D 71 (a0,())
noncomputable def q5c (D:Den ctx) (a0:List Int×List (ByteArray×List Int×Unit)×Unit) (a1:ByteArray):Option ((List Int×Int×Unit)×Unit):=D 72 (a0,(a1,()))
noncomputable def qkz (D:Den ctx) (a0:List Int×List (ByteArray×List Int×Unit)×Unit) (a1:Int) (a2:Int):Option ((Int×Unit)×Unit):=D 73 (a0,(a1,(a2,())))
noncomputable def qhu (D:Den ctx) (a0:ByteArray):Option ((Int×Unit)×Unit):=D 74 (a0,())
noncomputable def qwn (D:Den ctx) (a0:List Int×List (ByteArray×List Int×Unit)×Unit) (a1:Int) (a2:Int) (a3:Int):Option (Unit×(List Int×List (ByteArray×List Int×Unit)×Unit)×Unit):=D 75 (a0,(a1,(a2,(a3,()))))
noncomputable def qu8 (D:Den ctx) (a0:List Int×List (ByteArray×List Int×Unit)×Unit) (a1:Int):Option ((List Int×Bool×Unit)×Unit):=D 76 (a0,(a1,()))
noncomputable def q58 (D:Den ctx) (a0:tSch) (a1:qd):Option ((Bool×Unit)×Unit):=D 77 (a0,(a1,()))
noncomputable def qvo (D:Den ctx) (a0:qd) (a1:qd):Option ((Bool×Unit)×Unit):=D 78 (a0,(a1,()))
noncomputable def qcd (D:Den ctx) (a0:qe) (a1:Clo):Option ((Bool×Unit)×Unit):=D 79 (a0,(a1,()))
noncomputable def q8x (D:Den ctx) (a0:qd) (a1:(tSch)×qe×Unit) (a2:qd):Option ((Bool×Unit)×Unit):=D 80 (a0,(a1,(a2,())))
noncomputable def q4j (D:Den ctx) (a0:tSch) (a1:qd) (a2:qd):Option ((Bool×Unit)×Unit):=D 81 (a0,(a1,(a2,())))
noncomputable def qsj (D:Den ctx) (a0:tSch):Option ((Bool×Unit)×Unit):=D 82 (a0,())
noncomputable def qeq (D:Den ctx) (a0:qe) (a1:Clo):Option ((Int×Unit)×Unit):=D 86 (a0,(a1,()))
noncomputable def qg2 (D:Den ctx) (a0:List tWay):Option ((List tWay×Unit)×Unit):=D 90 (a0,())
noncomputable def qfq (D:Den ctx) (a0:List tWay) (a1:Clo):Option ((Int×Unit)×Unit):=D 91 (a0,(a1,()))
noncomputable def q6o (D:Den ctx) (a0:ByteArray×ByteArray×Unit) (a1:ByteArray×ByteArray×Unit):Option ((Bool×Unit)×Unit):=D 92 (a0,(a1,()))
noncomputable def qlp (D:Den ctx) (a0:qd) (a1:List Int):Option ((qd×Unit)×Unit):=D 94 (a0,(a1,()))
noncomputable def qph (D:Den ctx) (a0:(tSch)×qe×Unit):Option ((((tSch)×qe×Unit)×Unit)×Unit):=D 99 (a0,())
noncomputable def qsz (D:Den ctx) (a0:tSch) (a1:qd):Option ((Bool×Unit)×Unit):=D 100 (a0,(a1,()))
noncomputable def qto (D:Den ctx) (a0:(tSch)×qe×Unit) (a1:qd):Option ((Int×Unit)×Unit):=D 101 (a0,(a1,()))
noncomputable def qd7 (D:Den ctx) (a0:tSch) (a1:qd):Option ((qd×Unit)×Unit):=D 102 (a0,(a1,()))
noncomputable def qqf (D:Den ctx) (a0:(tSch)×qe×Unit) (a1:qd) (a2:Int):Option ((Bool×Unit)×Unit):=D 103 (a0,(a1,(a2,())))
noncomputable def qqb (D:Den ctx) (a0:qd) (a1:qd):Option ((Bool×Unit)×Unit):=D 104 (a0,(a1,()))
noncomputable def qi1 (D:Den ctx) (a0:qe):Option ((qe×Unit)×Unit):=D 105 (a0,())
noncomputable def qt0 (D:Den ctx) (a0:tSch):Option (((tSch)×Unit)×Unit):=D 108 (a0,())
noncomputable def qsb (D:Den ctx) (a0:tSch) (a1:qd) (a2:qd):Option ((Bool×Unit)×Unit):=D 111 (a0,(a1,(a2,())))
noncomputable def qr7 (D:Den ctx) (a0:tSch):Option ((Bool×Unit)×Unit):=D 112 (a0,())
noncomputable def qkx (D:Den ctx) (a0:List Int×Int×Int×Unit) (a1:Int):Option ((Bool×Unit)×tCur×Unit):=D 114 (a0,(a1,()))
noncomputable def qda (D:Den ctx) (a0:List Int×Int×Int×Unit) (a1:Int):Option ((Int×Unit)×tCur×Unit):=D 115 (a0,(a1,()))
noncomputable def qhn (D:Den ctx) (a0:Int) (a1:Int) (a2:Int):Option ((Bool×Unit)×Unit):=D 117 (a0,(a1,(a2,())))
noncomputable def qo7 (D:Den ctx) (a0:qd) (a1:List Int):Option ((qd×Unit)×Unit):=D 119 (a0,(a1,()))
noncomputable def qrq (D:Den ctx) (a0:List Int×Int×Int×Unit):Option (((tSch)×Unit)×tCur×Unit):=D 135 (a0,())
noncomputable def qom (D:Den ctx) (a0:List Int×Int×Int×Unit) (a1:tSch):Option ((qd×Unit)×tCur×Unit):=D 136 (a0,(a1,()))
noncomputable def qok (D:Den ctx) (a0:qd):Option ((List Int×Unit)×Unit):=D 137 (a0,())
noncomputable def qjn (D:Den ctx) (a0:List Int):Option ((List Int×Unit)×Unit):=D 138 (a0,())
noncomputable def qtt (D:Den ctx) (a0:Int×Int×ByteArray×Unit):Option ((Bool×Unit)×Unit):=D 139 (a0,())
noncomputable def qce (D:Den ctx) (a0:qd) (a1:qd) (a2:Clo):Option ((Int×Unit)×Unit):=D 140 (a0,(a1,(a2,())))
noncomputable def q06 (D:Den ctx) (a0:Int×Int×ByteArray×Unit) (a1:Int×Int×ByteArray×Unit):Option ((Int×Unit)×Unit):=D 141 (a0,(a1,()))
noncomputable def qc0 (D:Den ctx) (a0:tIxs) (a1:Clo):Option ((Bool×Unit)×Unit):=D 142 (a0,(a1,()))
noncomputable def q8f (D:Den ctx) (a0:ByteArray×List Int×Bool×Unit) (a1:qd) (a2:qd):Option ((Bool×Unit)×Unit):=D 143 (a0,(a1,(a2,())))
noncomputable def qeu (D:Den ctx) (a0:qd) (a1:Int×Int×ByteArray×Unit):Option ((Bool×Unit)×Unit):=D 144 (a0,(a1,()))
noncomputable def qfz (D:Den ctx) (a0:qd) (a1:qd):Option ((Bool×Unit)×Unit):=D 145 (a0,(a1,()))
noncomputable def qp1 (D:Den ctx) (a0:ByteArray):Option ((Bool×Unit)×Unit):=D 146 (a0,())
noncomputable def q5l (D:Den ctx) (a0:tSch) (a1:ByteArray):Option ((Int×Unit)×Unit):=D 147 (a0,(a1,()))
noncomputable def qse (D:Den ctx) (a0:tSch) (a1:List Int) (a2:Int):Option ((Bool×Unit)×Unit):=D 148 (a0,(a1,(a2,())))
noncomputable def q3l (D:Den ctx) (a0:ByteArray×List Int×Bool×Unit) (a1:ByteArray×List Int×Bool×Unit):Option ((Bool×Unit)×Unit):=D 149 (a0,(a1,()))
noncomputable def qip (D:Den ctx) (a0:List Int) (a1:Clo):Option ((Bool×Unit)×Unit):=D 150 (a0,(a1,()))
noncomputable def q3k (D:Den ctx) (a0:Int) (a1:tSch):Option ((Bool×Unit)×Unit):=D 151 (a0,(a1,()))
noncomputable def q0s (D:Den ctx) (a0:Int×Int×ByteArray×Unit):Option ((Bool×Unit)×Unit):=D 158 (a0,())
noncomputable def qtq (D:Den ctx) (a0:qd) (a1:qd):Option ((Bool×Unit)×Unit):=D 159 (a0,(a1,()))
noncomputable def qp4 (D:Den ctx) (a0:Int×Int×ByteArray×Unit) (a1:Int×Int×ByteArray×Unit):Option ((Bool×Unit)×Unit):=D 160 (a0,(a1,()))
noncomputable def qwh (D:Den ctx) (a0:Int×Int×ByteArray×Unit) (a1:Int×Int×ByteArray×Unit):Option ((Bool×Unit)×Unit):=D 161 (a0,(a1,()))
noncomputable def q2e (D:Den ctx) (a0:List Int×Int×Int×Unit) (a1:List ByteArray):Option ((ByteArray×Unit)×tCur×Unit):=D 162 (a0,(a1,()))
noncomputable def qqa (D:Den ctx) (a0:List Int×Int×Int×Unit) (a1:List Int):Option ((Int×Unit)×tCur×Unit):=D 163 (a0,(a1,()))
noncomputable def q0h (D:Den ctx) (a0:qd):Option ((Bool×Unit)×Unit):=D 165 (a0,())
noncomputable def qp0 (D:Den ctx) (a0:ByteArray):Option ((Bool×Unit)×Unit):=D 166 (a0,())
noncomputable def q56 (D:Den ctx) (a0:tSch) (a1:ByteArray):Option ((Int×Unit)×Unit):=D 167 (a0,(a1,()))
noncomputable def qps (D:Den ctx) (a0:tSch) (a1:List Int) (a2:Int):Option ((Bool×Unit)×Unit):=D 168 (a0,(a1,(a2,())))
noncomputable def qul (D:Den ctx) (a0:tSch):Option ((Bool×Unit)×Unit):=D 169 (a0,())
noncomputable def qkw (D:Den ctx) (a0:List Int×Int×Int×Unit):Option ((Int×Unit)×tCur×Unit):=D 170 (a0,())
noncomputable def qpt (D:Den ctx) (a0:List Int×Int×Int×Unit) (a1:Int):Option ((tVal×Unit)×tCur×Unit):=D 190 (a0,(a1,()))
noncomputable def qzh (D:Den ctx) (a0:qd):Option ((Bool×Unit)×Unit):=D 191 (a0,())
noncomputable def qes (D:Den ctx) (a0:tIxs) (a1:Clo):Option ((Int×Unit)×Unit):=D 193 (a0,(a1,()))
noncomputable def qft (D:Den ctx) (a0:qd) (a1:Int×Int×ByteArray×Unit):Option ((Int×Unit)×Unit):=D 194 (a0,(a1,()))
noncomputable def qfp (D:Den ctx) (a0:qhk) (a1:Clo):Option ((Int×Unit)×Unit):=D 195 (a0,(a1,()))
noncomputable def q8s (D:Den ctx) (a0:ByteArray×Int×Bool×Unit) (a1:ByteArray):Option ((Bool×Unit)×Unit):=D 196 (a0,(a1,()))
noncomputable def qk1 (D:Den ctx) (a0:List Int) (a1:Int):Option ((Bool×Unit)×Unit):=D 197 (a0,(a1,()))
noncomputable def qku (D:Den ctx) (a0:List Int) (a1:Clo):Option ((Int×Unit)×Unit):=D 198 (a0,(a1,()))
noncomputable def qdt (D:Den ctx) (a0:qd) (a1:Clo):Option ((Bool×Unit)×Unit):=D 207 (a0,(a1,()))
noncomputable def q46 (D:Den ctx) (a0:Int×Int×ByteArray×Unit):Option ((Bool×Unit)×Unit):=D 208 (a0,())
noncomputable def qn0 (D:Den ctx) (a0:List Int) (a1:Int):Option ((Int×Unit)×Unit):=D 210 (a0,(a1,()))
noncomputable def qec (D:Den ctx) (a0:qd) (a1:Clo):Option ((Int×Unit)×Unit):=D 213 (a0,(a1,()))
noncomputable def qcp (D:Den ctx) (a0:List tWay) (a1:Int) (a2:List tWay):Option ((List tWay×Unit)×Unit):=D 93 (a0,(a1,(a2,())))
noncomputable def q3f (D:Den ctx) (a0:ByteArray) (a1:ByteArray):Option ((Int×Unit)×Unit):=D 192 (a0,(a1,()))
end Go.G

namespace Go.G
set_option maxRecDepth 100000
set_option maxHeartbeats 0
open Go Go.V
noncomputable section
def qno (D:DX)(n:Nat) (go:Int→Bool→Int→(tSch)×qe×Unit→List tWay→List Int×List (ByteArray×List Int×Unit)×Unit→Option ((Bool×Unit)×Unit)) (K0:Int→Bool→(tSch)×qe×Unit→List tWay→List Int×List (ByteArray×List Int×Unit)×Unit→Option ((Bool×Unit)×Unit)) (x1_0:Int) (x1_1:Bool) (x1_2:Int) (x1_3:(tSch)×qe×Unit) (x1_4:List tWay) (x1_5:List Int×List (ByteArray×List Int×Unit)×Unit):Option ((Bool×Unit)×Unit):=br (decide (x1_2≥0)) (br x1_1 (br (decide (0≤x1_2)&&decide (x1_2<(↑(List.length x1_4):Int))) (br (decide (0≤x1_2)&&decide (x1_2<(↑(List.length x1_4):Int))) (br (decide (0≤x1_2)&&decide (x1_2<(↑(List.length x1_4):Int))) (br (decide (0≤x1_2)&&decide (x1_2<(↑(List.length x1_4):Int))) (br (decide (ByteArray.size (Prod.fst (List.getD x1_4 (Int.toNat x1_2) (ByteArray.empty,ByteArray.empty,())))+ByteArray.size (Prod.fst (Prod.snd (List.getD x1_4 (Int.toNat x1_2) (ByteArray.empty,ByteArray.empty,()))))≤Nat.pow 2 47)) (qi (qo0 D (Prod.fst x1_5,Prod.fst (Prod.snd x1_5),()) (ByteArray.append (Prod.fst (List.getD x1_4 (Int.toNat x1_2) (ByteArray.empty,ByteArray.empty,()))) (Prod.fst (Prod.snd (List.getD x1_4 (Int.toNat x1_2) (ByteArray.empty,ByteArray.empty,())))))) fun b↦go x1_0 (decide (IntKind.wrap IntKind.i64 ((↑(ByteArray.size (Prod.fst (List.getD x1_4 (Int.toNat x1_2) (ByteArray.empty,ByteArray.empty,())))):Int)+(↑(ByteArray.size (Prod.fst (Prod.snd (List.getD x1_4 (Int.toNat x1_2) (ByteArray.empty,ByteArray.empty,()))))):Int))≤40)) (IntKind.wrap IntKind.i64 (x1_2 - 1)) x1_3 x1_4 (Prod.fst (Prod.fst (Prod.fst b)),Prod.fst (Prod.snd (Prod.fst (Prod.fst b))),())) none) none) none) none) none) (br (decide (0≤x1_2)&&decide (x1_2<(↑(List.length x1_4):Int))) (br (decide (0≤x1_2)&&decide (x1_2<(↑(List.length x1_4):Int))) (br (decide (ByteArray.size (Prod.fst (List.getD x1_4 (Int.toNat x1_2) (ByteArray.empty,ByteArray.empty,())))+ByteArray.size (Prod.fst (Prod.snd (List.getD x1_4 (Int.toNat x1_2) (ByteArray.empty,ByteArray.empty,()))))≤Nat.pow 2 47)) (qi (qo0 D (Prod.fst x1_5,Prod.fst (Prod.snd x1_5),()) (ByteArray.append (Prod.fst (List.getD x1_4 (Int.toNat x1_2) (ByteArray.empty,ByteArray.empty,()))) (Prod.fst (Prod.snd (List.getD x1_4 (Int.toNat x1_2) (ByteArray.empty,ByteArray.empty,())))))) fun b↦go x1_0 false (IntKind.wrap IntKind.i64 (x1_2 - 1)) x1_3 x1_4 (Prod.fst (Prod.fst (Prod.fst b)),Prod.fst (Prod.snd (Prod.fst (Prod.fst b))),())) none) none) none)) (K0 x1_0 x1_1 x1_3 x1_4 x1_5)
def qdu (D:DX)(n:Nat) (K0:Int→Bool→(tSch)×qe×Unit→List tWay→List Int×List (ByteArray×List Int×Unit)×Unit→Option ((Bool×Unit)×Unit)):Nat→(Int)→(Bool)→(Int)→((tSch)×qe×Unit)→(List tWay)→(List Int×List (ByteArray×List Int×Unit)×Unit)→Option ((Bool×Unit)×Unit) | 0=>(fun x1_0 x1_1 x1_2 x1_3 x1_4 x1_5=>none) | m+1=>(fun x1_0 x1_1 x1_2 x1_3 x1_4 x1_5=>qno D n (qdu D n K0 m) K0 x1_0 x1_1 x1_2 x1_3 x1_4 x1_5)
def qnw (D:DX)(n:Nat) (go:Int→Int→(tSch)×qe×Unit→List tWay→List ByteArray→Option ((Bool×Unit)×Unit)) (K0:Bool→Int→(tSch)×qe×Unit→Option ((Bool×Unit)×Unit)) (K1:Int→(tSch)×qe×Unit→Option ((Bool×Unit)×Unit)) (x2_0:Int) (x2_1:Int) (x2_2:(tSch)×qe×Unit) (x2_3:List tWay) (x2_4:List ByteArray):Option ((Bool×Unit)×Unit):=br (decide (x2_1<(↑(List.length x2_3):Int))) (br (decide (0≤x2_1)&&decide (x2_1<(↑(List.length x2_4):Int))) (br (decide (0≤x2_1)&&decide (x2_1<(↑(List.length x2_3):Int))) (br (decide (0≤x2_1)&&decide (x2_1<(↑(List.length x2_3):Int))) (br (decide (ByteArray.size (Prod.fst (List.getD x2_3 (Int.toNat x2_1) (ByteArray.empty,ByteArray.empty,())))+ByteArray.size (Prod.fst (Prod.snd (List.getD x2_3 (Int.toNat x2_1) (ByteArray.empty,ByteArray.empty,()))))≤Nat.pow 2 47)) (br (!List.beq (ByteArray.toList (List.getD x2_4 (Int.toNat x2_1) ByteArray.empty)) (ByteArray.toList (ByteArray.append (Prod.fst (List.getD x2_3 (Int.toNat x2_1) (ByteArray.empty,ByteArray.empty,()))) (Prod.fst (Prod.snd (List.getD x2_3 (Int.toNat x2_1) (ByteArray.empty,ByteArray.empty,()))))))) (K0 false x2_0 x2_2) (go x2_0 (IntKind.wrap IntKind.i64 (x2_1+1)) x2_2 x2_3 x2_4)) none) none) none) none) (K1 x2_0 x2_2)
def qez (D:DX)(n:Nat) (K0:Bool→Int→(tSch)×qe×Unit→Option ((Bool×Unit)×Unit)) (K1:Int→(tSch)×qe×Unit→Option ((Bool×Unit)×Unit)):Nat→(Int)→(Int)→((tSch)×qe×Unit)→(List tWay)→(List ByteArray)→Option ((Bool×Unit)×Unit) | 0=>(fun x2_0 x2_1 x2_2 x2_3 x2_4=>none) | m+1=>(fun x2_0 x2_1 x2_2 x2_3 x2_4=>qnw D n (qez D n K0 K1 m) K0 K1 x2_0 x2_1 x2_2 x2_3 x2_4)
def qlu (D:DX)(n:Nat) (go:Int→(tSch)×qe×Unit→Option ((Bool×Unit)×Unit)) (K0:(tSch)×qe×Unit→Option ((Bool×Unit)×Unit)) (K1:Bool→(tSch)×qe×Unit→Option ((Bool×Unit)×Unit)) (v0_0:Bool) (v0_1:Int) (v0_2:(tSch)×qe×Unit):Option ((Bool×Unit)×Unit):=K1 v0_0 v0_2
def qhw (D:DX)(n:Nat) (go:Int→(tSch)×qe×Unit→Option ((Bool×Unit)×Unit)) (K0:(tSch)×qe×Unit→Option ((Bool×Unit)×Unit)) (K1:Bool→(tSch)×qe×Unit→Option ((Bool×Unit)×Unit)) (v1_0:Int) (v1_1:(tSch)×qe×Unit):Option ((Bool×Unit)×Unit):=go (IntKind.wrap IntKind.i64 (v1_0+1)) v1_1
def qiq (D:DX)(n:Nat) (go:Int→(tSch)×qe×Unit→Option ((Bool×Unit)×Unit)) (K0:(tSch)×qe×Unit→Option ((Bool×Unit)×Unit)) (K1:Bool→(tSch)×qe×Unit→Option ((Bool×Unit)×Unit)):(Int)→(Int)→((tSch)×qe×Unit)→(List tWay)→(List ByteArray)→Option ((Bool×Unit)×Unit):=(fun x2_0 x2_1 x2_2 x2_3 x2_4=>qez D n (fun v0_0 v0_1 v0_2=>qlu D n go K0 K1 v0_0 v0_1 v0_2) (fun v1_0 v1_1=>qhw D n go K0 K1 v1_0 v1_1) n x2_0 x2_1 x2_2 x2_3 x2_4)
def qhx (D:DX)(n:Nat) (go:Int→(tSch)×qe×Unit→Option ((Bool×Unit)×Unit)) (K0:(tSch)×qe×Unit→Option ((Bool×Unit)×Unit)) (K1:Bool→(tSch)×qe×Unit→Option ((Bool×Unit)×Unit)) (lp2:Int→Int→(tSch)×qe×Unit→List tWay→List ByteArray→Option ((Bool×Unit)×Unit)) (v0_0:Int) (v0_1:Bool) (v0_2:(tSch)×qe×Unit) (v0_3:List tWay) (v0_4:List Int×List (ByteArray×List Int×Unit)×Unit):Option ((Bool×Unit)×Unit):=qi (qz3 D (Prod.fst v0_4,Prod.fst (Prod.snd v0_4),())) fun b↦br (!v0_1) (go (IntKind.wrap IntKind.i64 (v0_0+1)) v0_2) (br ((↑(List.length (Prod.fst (Prod.fst b))):Int) != (↑(List.length v0_3):Int)) (K1 false v0_2) (lp2 v0_0 0 v0_2 v0_3 (Prod.fst (Prod.fst b))))
def qmb (D:DX)(n:Nat) (go:Int→(tSch)×qe×Unit→Option ((Bool×Unit)×Unit)) (K0:(tSch)×qe×Unit→Option ((Bool×Unit)×Unit)) (K1:Bool→(tSch)×qe×Unit→Option ((Bool×Unit)×Unit)):(Int)→(Bool)→(Int)→((tSch)×qe×Unit)→(List tWay)→(List Int×List (ByteArray×List Int×Unit)×Unit)→Option ((Bool×Unit)×Unit):=(fun x1_0 x1_1 x1_2 x1_3 x1_4 x1_5=>qdu D n (fun v0_0 v0_1 v0_2 v0_3 v0_4=>qhx D n go K0 K1 (qiq D n go K0 K1) v0_0 v0_1 v0_2 v0_3 v0_4) n x1_0 x1_1 x1_2 x1_3 x1_4 x1_5)
def qn1 (D:DX)(n:Nat) (go:Int→(tSch)×qe×Unit→Option ((Bool×Unit)×Unit)) (K0:(tSch)×qe×Unit→Option ((Bool×Unit)×Unit)) (K1:Bool→(tSch)×qe×Unit→Option ((Bool×Unit)×Unit)) (lp1:Int→Bool→Int→(tSch)×qe×Unit→List tWay→List Int×List (ByteArray×List Int×Unit)×Unit→Option ((Bool×Unit)×Unit)) (x0:Int) (x1:(tSch)×qe×Unit):Option ((Bool×Unit)×Unit):=br (decide (x0<(↑(List.length (Prod.fst (Prod.snd (Prod.snd (Prod.fst x1))))):Int))) (qi (q2v D x1 x0) fun b↦qi (q0k D) fun b_1↦lp1 x0 true (IntKind.wrap IntKind.i64 ((↑(List.length (Prod.fst (Prod.fst b))):Int) - 1)) x1 (Prod.fst (Prod.fst b)) (Prod.fst (Prod.fst (Prod.fst b_1)),Prod.fst (Prod.snd (Prod.fst (Prod.fst b_1))),())) (K0 x1)
def qb1 (D:DX)(n:Nat) (K0:(tSch)×qe×Unit→Option ((Bool×Unit)×Unit)) (K1:Bool→(tSch)×qe×Unit→Option ((Bool×Unit)×Unit)):Nat→(Int)→((tSch)×qe×Unit)→Option ((Bool×Unit)×Unit) | 0=>(fun x0 x1=>none) | m+1=>(fun x0 x1=>qn1 D n (qb1 D n K0 K1 m) K0 K1 (qmb D n (qb1 D n K0 K1 m) K0 K1) x0 x1)
def qhs (D:DX)(n:Nat) (v0_0:(tSch)×qe×Unit):Option ((Bool×Unit)×Unit):=qi (qx6 D v0_0) fun b↦some ((Prod.fst (Prod.fst b),()),())
def qlt (D:DX)(n:Nat) (v1_0:Bool) (v1_1:(tSch)×qe×Unit):Option ((Bool×Unit)×Unit):=some ((v1_0,()),())
def qmc (D:DX)(n:Nat):(Int)→((tSch)×qe×Unit)→Option ((Bool×Unit)×Unit):=(fun x0 x1=>qb1 D n (fun v0_0=>qhs D n v0_0) (fun v1_0 v1_1=>qlt D n v1_0 v1_1) n x0 x1)
def qo4 (D:DX)(n:Nat) (lp0:Int→(tSch)×qe×Unit→Option ((Bool×Unit)×Unit)) (a0:List Int):Option ((Bool×Unit)×Unit):=qi (q9b D a0) fun b↦br (Prod.fst (Prod.fst b)) (some ((true,()),())) (qi (qrl D a0) fun b↦lp0 0 (Prod.fst (Prod.fst b)))
def qoz (D:DX)(n:Nat) (a0:List Int):Option ((Bool×Unit)×Unit):=qo4 D n (qmc D n) a0
def qbz (x0:Int) (x1:(tSch)×qe×Unit):St:=stq 104 [(3,AV.addr 3 []),(5,avI x0)] [(3,Root.mk (Ty.pair yS (Ty.pair (Ty.sl (Ty.sl yV)) Ty.unit)) Mk.no x1 true)] 
def qcl (v0_0:(tSch)×qe×Unit):St:=stq 104 [(3,AV.addr 3 [])] [(3,Root.mk (Ty.pair yS (Ty.pair (Ty.sl (Ty.sl yV)) Ty.unit)) Mk.no v0_0 true)] 
def qcj (v1_0:Bool) (v1_1:(tSch)×qe×Unit):St:=stq 104 [(2,AV.val Ty.bool v1_0),(3,AV.addr 3 [])] [(3,Root.mk (Ty.pair yS (Ty.pair (Ty.sl (Ty.sl yV)) Ty.unit)) Mk.no v1_1 true)] 
def qey (x1_0:Int) (x1_1:Bool) (x1_2:Int) (x1_3:(tSch)×qe×Unit) (x1_4:List tWay) (x1_5:List Int×List (ByteArray×List Int×Unit)×Unit):St:=stq 104 [(3,AV.addr 3 []),(5,avI x1_0),(6,AV.brw 6 [] 0),(7,AV.addr 7 []),(8,AV.val Ty.bool x1_1),(9,avI x1_2)] [(3,Root.mk (Ty.pair yS (Ty.pair (Ty.sl (Ty.sl yV)) Ty.unit)) Mk.no x1_3 true),(6,Root.mk (Ty.sl (Ty.pair Ty.str (Ty.pair Ty.str Ty.unit))) (Mk.own 0 (Mk.pr Mk.no (Mk.pr Mk.no Mk.no))) x1_4 false),(7,Root.mk (Ty.pair (Ty.sl yI) (Ty.pair (Ty.sl (Ty.pair Ty.str (Ty.pair (Ty.sl yI) Ty.unit))) Ty.unit)) (Mk.pr (Mk.own 0 Mk.no) (Mk.pr (Mk.own 0 (Mk.pr Mk.no (Mk.pr (Mk.own 0 Mk.no) Mk.no))) Mk.no)) x1_5 true)] 
def qh0 (v0_0:Int) (v0_1:Bool) (v0_2:(tSch)×qe×Unit) (v0_3:List tWay) (v0_4:List Int×List (ByteArray×List Int×Unit)×Unit):St:=stq 104 [(3,AV.addr 3 []),(5,avI v0_0),(6,AV.brw 6 [] 0),(7,AV.addr 7 []),(8,AV.val Ty.bool v0_1)] [(3,Root.mk (Ty.pair yS (Ty.pair (Ty.sl (Ty.sl yV)) Ty.unit)) Mk.no v0_2 true),(6,Root.mk (Ty.sl (Ty.pair Ty.str (Ty.pair Ty.str Ty.unit))) (Mk.own 0 (Mk.pr Mk.no (Mk.pr Mk.no Mk.no))) v0_3 false),(7,Root.mk (Ty.pair (Ty.sl yI) (Ty.pair (Ty.sl (Ty.pair Ty.str (Ty.pair (Ty.sl yI) Ty.unit))) Ty.unit)) (Mk.pr (Mk.own 0 Mk.no) (Mk.pr (Mk.own 0 (Mk.pr Mk.no (Mk.pr (Mk.own 0 Mk.no) Mk.no))) Mk.no)) v0_4 true)] 
def qex (x2_0:Int) (x2_1:Int) (x2_2:(tSch)×qe×Unit) (x2_3:List tWay) (x2_4:List ByteArray):St:=stq 104 [(3,AV.addr 3 []),(5,avI x2_0),(6,AV.brw 6 [] 0),(10,AV.brw 10 [] 0),(11,avI x2_1)] [(3,Root.mk (Ty.pair yS (Ty.pair (Ty.sl (Ty.sl yV)) Ty.unit)) Mk.no x2_2 true),(6,Root.mk (Ty.sl (Ty.pair Ty.str (Ty.pair Ty.str Ty.unit))) (Mk.own 0 (Mk.pr Mk.no (Mk.pr Mk.no Mk.no))) x2_3 false),(10,Root.mk (Ty.sl Ty.str) (Mk.own 0 Mk.no) x2_4 false)] 
def qho (v0_0:Bool) (v0_1:Int) (v0_2:(tSch)×qe×Unit):St:=stq 104 [(2,AV.val Ty.bool v0_0),(3,AV.addr 3 []),(5,avI v0_1)] [(3,Root.mk (Ty.pair yS (Ty.pair (Ty.sl (Ty.sl yV)) Ty.unit)) Mk.no v0_2 true)] 
def qhz (v1_0:Int) (v1_1:(tSch)×qe×Unit):St:=stq 104 [(3,AV.addr 3 []),(5,avI v1_0)] [(3,Root.mk (Ty.pair yS (Ty.pair (Ty.sl (Ty.sl yV)) Ty.unit)) Mk.no v1_1 true)] 
theorem q6b (D:DX)(n:Nat) (m:Nat) (K:Ex→St→Option (Out ctx 3)) (x1_0:Int) (x1_1:Bool) (x1_2:Int) (x1_3:(tSch)×
 qe×Unit) (x1_4:List tWay) (x1_5:List Int×List (ByteArray×List Int×Unit)×Unit) :
 LQ qc D n 3 [.r,.r,.r,.l,.r,.l,.l,.r,.l,.l,.r,.r,.r,.l,.r,.l] (m+1) (qey x1_0 x1_1 x1_2 x1_3 x1_4 x1_5) K=qno D n (fun x1_0 x1_1 x1_2 x1_3 x1_4 x1_5=>LQ qc D n 3 [.r,.r,.r,.l,.r,.l,.l,.r,.l,.l,.r,.r,.r,.l,.r,.l] m (qey x1_0 x1_1 x1_2 x1_3 x1_4 x1_5) K) (fun v0_0 v0_1 v0_2 v0_3 v0_4=>K (Ex.exit 2) (qh0 v0_0 v0_1 v0_2 v0_3 v0_4)) x1_0 x1_1 x1_2 x1_3 x1_4 x1_5:=by kernel_rfl
theorem qt3 (D:DX)(n:Nat) (K:Ex→St→Option (Out ctx 3)):∀ (m:Nat) (x1_0:Int) (x1_1:Bool) (x1_2:Int) (x1_3:(tSch)×
 qe×Unit) (x1_4:List tWay) (x1_5:List Int×List (ByteArray×List Int×Unit)×Unit),LQ qc D n 3 [.r,.r,.r,.l,.r,.l,.l,.r,.l,.l,.r,.r,.r,.l,.r,.l] m (qey x1_0 x1_1 x1_2 x1_3 x1_4 x1_5) K=qdu D n (fun v0_0 v0_1 v0_2 v0_3 v0_4=>K (Ex.exit 2) (qh0 v0_0 v0_1 v0_2 v0_3 v0_4)) m x1_0 x1_1 x1_2 x1_3 x1_4 x1_5
 | 0,x1_0,x1_1,x1_2,x1_3,x1_4,x1_5=>qx ..
 | m+1,x1_0,x1_1,x1_2,x1_3,x1_4,x1_5=>by
  have ih:(fun x1_0 x1_1 x1_2 x1_3 x1_4 x1_5=>LQ qc D n 3 [.r,.r,.r,.l,.r,.l,.l,.r,.l,.l,.r,.r,.r,.l,.r,.l] m (qey x1_0 x1_1 x1_2 x1_3 x1_4 x1_5) K)=qdu D n (fun v0_0 v0_1 v0_2 v0_3 v0_4=>K (Ex.exit 2) (qh0 v0_0 v0_1 v0_2 v0_3 v0_4)) m:=by funext x1_0 x1_1 x1_2 x1_3 x1_4 x1_5;exact qt3 D n K m x1_0 x1_1 x1_2 x1_3 x1_4 x1_5
  rw[q6b]
  rw[ih];rfl
theorem q6c (D:DX)(n:Nat) (m:Nat) (K:Ex→St→Option (Out ctx 3)) (x2_0:Int) (x2_1:Int) (x2_2:(tSch)×
 qe×Unit) (x2_3:List tWay) (x2_4:List ByteArray) :
 LQ qc D n 3 [.r,.r,.r,.l,.r,.l,.l,.r,.l,.l,.r,.r,.r,.r,.r,.r,.r,.r,.l] (m+1) (qex x2_0 x2_1 x2_2 x2_3 x2_4) K=qnw D n (fun x2_0 x2_1 x2_2 x2_3 x2_4=>LQ qc D n 3 [.r,.r,.r,.l,.r,.l,.l,.r,.l,.l,.r,.r,.r,.r,.r,.r,.r,.r,.l] m (qex x2_0 x2_1 x2_2 x2_3 x2_4) K) (fun v0_0 v0_1 v0_2=>K (Ex.ret) (qho v0_0 v0_1 v0_2)) (fun v1_0 v1_1=>K (Ex.exit 4) (qhz v1_0 v1_1)) x2_0 x2_1 x2_2 x2_3 x2_4:=by kernel_rfl
theorem qt4 (D:DX)(n:Nat) (K:Ex→St→Option (Out ctx 3)):∀ (m:Nat) (x2_0:Int) (x2_1:Int) (x2_2:(tSch)×
 qe×Unit) (x2_3:List tWay) (x2_4:List ByteArray),LQ qc D n 3 [.r,.r,.r,.l,.r,.l,.l,.r,.l,.l,.r,.r,.r,.r,.r,.r,.r,.r,.l] m (qex x2_0 x2_1 x2_2 x2_3 x2_4) K=qez D n (fun v0_0 v0_1 v0_2=>K (Ex.ret) (qho v0_0 v0_1 v0_2)) (fun v1_0 v1_1=>K (Ex.exit 4) (qhz v1_0 v1_1)) m x2_0 x2_1 x2_2 x2_3 x2_4
 | 0,x2_0,x2_1,x2_2,x2_3,x2_4=>qx ..
 | m+1,x2_0,x2_1,x2_2,x2_3,x2_4=>by
  have ih:(fun x2_0 x2_1 x2_2 x2_3 x2_4=>LQ qc D n 3 [.r,.r,.r,.l,.r,.l,.l,.r,.l,.l,.r,.r,.r,.r,.r,.r,.r,.r,.l] m (qex x2_0 x2_1 x2_2 x2_3 x2_4) K)=qez D n (fun v0_0 v0_1 v0_2=>K (Ex.ret) (qho v0_0 v0_1 v0_2)) (fun v1_0 v1_1=>K (Ex.exit 4) (qhz v1_0 v1_1)) m:=by funext x2_0 x2_1 x2_2 x2_3 x2_4;exact qt4 D n K m x2_0 x2_1 x2_2 x2_3 x2_4
  rw[q6c]
  rw[ih];rfl
theorem q4x (D:DX)(n:Nat) (m:Nat) (K:Ex→St→Option (Out ctx 3)) (v0_0:Bool) (v0_1:Int) (v0_2:(tSch)×
 qe×Unit) :
 (CQ qc D n 3 [.r,.r,.r,.l,.r,.l,.l] [.r,.l,.l,.r,.r,.r,.r,.r,.r,.r,.r,.l] (LK qc D n 3 [.r,.r,.r,.l,.r,.l] m K)) (Ex.ret) (qho v0_0 v0_1 v0_2)=qlu D n (fun x0 x1=>LQ qc D n 3 [.r,.r,.r,.l,.r,.l] m (qbz x0 x1) K) (fun v0_0=>K (Ex.exit 0) (qcl v0_0)) (fun v1_0 v1_1=>K (Ex.ret) (qcj v1_0 v1_1)) v0_0 v0_1 v0_2:=by kernel_rfl
theorem q5r (D:DX)(n:Nat) (m:Nat) (K:Ex→St→Option (Out ctx 3)) (v1_0:Int) (v1_1:(tSch)×
 qe×Unit) :
 (CQ qc D n 3 [.r,.r,.r,.l,.r,.l,.l] [.r,.l,.l,.r,.r,.r,.r,.r,.r,.r,.r,.l] (LK qc D n 3 [.r,.r,.r,.l,.r,.l] m K)) (Ex.exit 4) (qhz v1_0 v1_1)=qhw D n (fun x0 x1=>LQ qc D n 3 [.r,.r,.r,.l,.r,.l] m (qbz x0 x1) K) (fun v0_0=>K (Ex.exit 0) (qcl v0_0)) (fun v1_0 v1_1=>K (Ex.ret) (qcj v1_0 v1_1)) v1_0 v1_1:=by kernel_rfl
theorem q5w (D:DX)(n:Nat) (m:Nat) (K:Ex→St→Option (Out ctx 3)) (x2_0:Int) (x2_1:Int) (x2_2:(tSch)×
 qe×Unit) (x2_3:List tWay) (x2_4:List ByteArray) :
 LQ qc D n 3 [.r,.r,.r,.l,.r,.l,.l,.r,.l,.l,.r,.r,.r,.r,.r,.r,.r,.r,.l] n (qex x2_0 x2_1 x2_2 x2_3 x2_4) (CQ qc D n 3 [.r,.r,.r,.l,.r,.l,.l] [.r,.l,.l,.r,.r,.r,.r,.r,.r,.r,.r,.l] (LK qc D n 3 [.r,.r,.r,.l,.r,.l] m K))=qiq D n (fun x0 x1=>LQ qc D n 3 [.r,.r,.r,.l,.r,.l] m (qbz x0 x1) K) (fun v0_0=>K (Ex.exit 0) (qcl v0_0)) (fun v1_0 v1_1=>K (Ex.ret) (qcj v1_0 v1_1)) x2_0 x2_1 x2_2 x2_3 x2_4:=by
 rw[qt4]
 simp only[q4x,q5r]
 rfl
theorem q55 (D:DX)(n:Nat) (m:Nat) (K:Ex→St→Option (Out ctx 3)) (v0_0:Int) (v0_1:Bool) (v0_2:(tSch)×
 qe×Unit) (v0_3:List tWay) (v0_4:List Int×List (ByteArray×List Int×Unit)×Unit) :
 (CQ qc D n 3 [.r,.r,.r,.l,.r,.l,.l] [.r,.l,.l,.r,.r,.r,.l,.r,.l] (LK qc D n 3 [.r,.r,.r,.l,.r,.l] m K)) (Ex.exit 2) (qh0 v0_0 v0_1 v0_2 v0_3 v0_4)=qhx D n (fun x0 x1=>LQ qc D n 3 [.r,.r,.r,.l,.r,.l] m (qbz x0 x1) K) (fun v0_0=>K (Ex.exit 0) (qcl v0_0)) (fun v1_0 v1_1=>K (Ex.ret) (qcj v1_0 v1_1)) (fun x2_0 x2_1 x2_2 x2_3 x2_4=>LQ qc D n 3 [.r,.r,.r,.l,.r,.l,.l,.r,.l,.l,.r,.r,.r,.r,.r,.r,.r,.r,.l] n (qex x2_0 x2_1 x2_2 x2_3 x2_4) (CQ qc D n 3 [.r,.r,.r,.l,.r,.l,.l] [.r,.l,.l,.r,.r,.r,.r,.r,.r,.r,.r,.l] (LK qc D n 3 [.r,.r,.r,.l,.r,.l] m K))) v0_0 v0_1 v0_2 v0_3 v0_4:=by kernel_rfl
theorem q43 (D:DX)(n:Nat) (m:Nat) (K:Ex→St→Option (Out ctx 3)) (x1_0:Int) (x1_1:Bool) (x1_2:Int) (x1_3:(tSch)×
 qe×Unit) (x1_4:List tWay) (x1_5:List Int×List (ByteArray×List Int×Unit)×Unit) :
 LQ qc D n 3 [.r,.r,.r,.l,.r,.l,.l,.r,.l,.l,.r,.r,.r,.l,.r,.l] n (qey x1_0 x1_1 x1_2 x1_3 x1_4 x1_5) (CQ qc D n 3 [.r,.r,.r,.l,.r,.l,.l] [.r,.l,.l,.r,.r,.r,.l,.r,.l] (LK qc D n 3 [.r,.r,.r,.l,.r,.l] m K))=qmb D n (fun x0 x1=>LQ qc D n 3 [.r,.r,.r,.l,.r,.l] m (qbz x0 x1) K) (fun v0_0=>K (Ex.exit 0) (qcl v0_0)) (fun v1_0 v1_1=>K (Ex.ret) (qcj v1_0 v1_1)) x1_0 x1_1 x1_2 x1_3 x1_4 x1_5:=by
 rw[qt3]
 simp only[q55,q5w]
 rfl
theorem q6d (D:DX)(n:Nat) (m:Nat) (K:Ex→St→Option (Out ctx 3)) (x0:Int) (x1:(tSch)×
 qe×Unit) :
 LQ qc D n 3 [.r,.r,.r,.l,.r,.l] (m+1) (qbz x0 x1) K=qn1 D n (fun x0 x1=>LQ qc D n 3 [.r,.r,.r,.l,.r,.l] m (qbz x0 x1) K) (fun v0_0=>K (Ex.exit 0) (qcl v0_0)) (fun v1_0 v1_1=>K (Ex.ret) (qcj v1_0 v1_1)) (fun x1_0 x1_1 x1_2 x1_3 x1_4 x1_5=>LQ qc D n 3 [.r,.r,.r,.l,.r,.l,.l,.r,.l,.l,.r,.r,.r,.l,.r,.l] n (qey x1_0 x1_1 x1_2 x1_3 x1_4 x1_5) (CQ qc D n 3 [.r,.r,.r,.l,.r,.l,.l] [.r,.l,.l,.r,.r,.r,.l,.r,.l] (LK qc D n 3 [.r,.r,.r,.l,.r,.l] m K))) x0 x1:=by kernel_rfl
theorem qt2 (D:DX)(n:Nat) (K:Ex→St→Option (Out ctx 3)):∀ (m:Nat) (x0:Int) (x1:(tSch)×
 qe×Unit),LQ qc D n 3 [.r,.r,.r,.l,.r,.l] m (qbz x0 x1) K=qb1 D n (fun v0_0=>K (Ex.exit 0) (qcl v0_0)) (fun v1_0 v1_1=>K (Ex.ret) (qcj v1_0 v1_1)) m x0 x1
 | 0,x0,x1=>qx ..
 | m+1,x0,x1=>by
  have ih:(fun x0 x1=>LQ qc D n 3 [.r,.r,.r,.l,.r,.l] m (qbz x0 x1) K)=qb1 D n (fun v0_0=>K (Ex.exit 0) (qcl v0_0)) (fun v1_0 v1_1=>K (Ex.ret) (qcj v1_0 v1_1)) m:=by funext x0 x1;exact qt2 D n K m x0 x1
  rw[q6d]
  simp only[q43]
  rw[ih];rfl
theorem q5f (D:DX)(n:Nat) (v0_0:(tSch)×
 qe×Unit) :
 (CQ qc D n 3 [] [.r,.r,.r,.l,.r,.l] (qh qc 3)) (Ex.exit 0) (qcl v0_0)=qhs D n v0_0:=by kernel_rfl
theorem q4f (D:DX)(n:Nat) (v1_0:Bool) (v1_1:(tSch)×
 qe×Unit) :
 (CQ qc D n 3 [] [.r,.r,.r,.l,.r,.l] (qh qc 3)) (Ex.ret) (qcj v1_0 v1_1)=qlt D n v1_0 v1_1:=by kernel_rfl
theorem q49 (D:DX)(n:Nat) (x0:Int) (x1:(tSch)×
 qe×Unit) :
 LQ qc D n 3 [.r,.r,.r,.l,.r,.l] n (qbz x0 x1) (CQ qc D n 3 [] [.r,.r,.r,.l,.r,.l] (qh qc 3))=qmc D n x0 x1:=by
 rw[qt2]
 simp only[q5f,q4f]
 rfl
theorem q7u (D:DX)(n:Nat) (a0:List Int):rfC qc D n 3 (a0,())=qoz D n a0:=by
 have h:rfC qc D n 3 (a0,())=qo4 D n (fun x0 x1=>LQ qc D n 3 [.r,.r,.r,.l,.r,.l] n (qbz x0 x1) (CQ qc D n 3 [] [.r,.r,.r,.l,.r,.l] (qh qc 3))) a0:=by kernel_rfl
 rw[h]
 simp only[q49]
 rfl

def qbto (D:DX)(n:Nat) (a0:List Int):Option ((Bool×Unit)×Unit):=some ((decide ((↑(List.length a0):Int)>1048576),()),())
def qbji (D:DX)(n:Nat) (a0:List Int):Option ((Bool×Unit)×Unit):=qbto D n a0
theorem qbso (D:DX)(n:Nat) (a0:List Int):rfC qc D n 11 (a0,())=qbji D n a0:=by kernel_rfl

def qy2 (D:DX)(n:Nat) (a0:List Int):Option ((((tSch)×qe×Unit)×qd×Unit)×Unit):=qi (q4z D a0) fun b↦qi (qri D (Prod.fst (Prod.fst b))) fun b↦qi (quw D (Prod.fst (Prod.snd b)) (Prod.fst (Prod.fst (Prod.fst b)),Prod.fst (Prod.snd (Prod.fst (Prod.fst b))),())) fun b_1↦some (((Prod.fst (Prod.fst (Prod.fst b)),Prod.fst (Prod.snd (Prod.fst (Prod.fst b))),()),Prod.fst (Prod.fst b_1),()),())
def qrp (D:DX)(n:Nat) (a0:List Int):Option ((((tSch)×qe×Unit)×qd×Unit)×Unit):=qy2 D n a0
theorem qba1 (D:DX)(n:Nat) (a0:List Int):rfC qc D n 12 (a0,())=qrp D n a0:=by kernel_rfl

def q0y (D:DX)(n:Nat) (go:Int→qe→Int→Int→(tSch)×qe×Unit→List tWay→Option ((List tWay×Unit)×Unit)) (K0:List tWay→Option ((List tWay×Unit)×Unit)) (x0:Int) (x1:qe) (x2:Int) (x3:Int) (x4:(tSch)×qe×Unit) (x5:List tWay):Option ((List tWay×Unit)×Unit):=br (decide (x3<x2)) (br (decide (0≤x3)&&decide (x3<(↑(List.length x1):Int))) (qi (q9s D (Prod.fst x4) x0 (List.getD x1 (Int.toNat x3) [])) fun b↦qi (q2x D x5 (Prod.fst (Prod.fst b))) fun b↦go x0 x1 x2 (IntKind.wrap IntKind.i64 (x3+1)) x4 (Prod.fst (Prod.fst b))) none) (K0 x5)
def qlh (D:DX)(n:Nat) (K0:List tWay→Option ((List tWay×Unit)×Unit)):Nat→(Int)→(qe)→(Int)→(Int)→((tSch)×qe×Unit)→(List tWay)→Option ((List tWay×Unit)×Unit) | 0=>(fun x0 x1 x2 x3 x4 x5=>none) | m+1=>(fun x0 x1 x2 x3 x4 x5=>q0y D n (qlh D n K0 m) K0 x0 x1 x2 x3 x4 x5)
def qvv (D:DX)(n:Nat) (v0_0:List tWay):Option ((List tWay×Unit)×Unit):=some ((v0_0,()),())
def qw9 (D:DX)(n:Nat):(Int)→(qe)→(Int)→(Int)→((tSch)×qe×Unit)→(List tWay)→Option ((List tWay×Unit)×Unit):=(fun x0 x1 x2 x3 x4 x5=>qlh D n (fun v0_0=>qvv D n v0_0) n x0 x1 x2 x3 x4 x5)
def q2y (D:DX)(n:Nat) (lp0:Int→qe→Int→Int→(tSch)×qe×Unit→List tWay→Option ((List tWay×Unit)×Unit)) (a0:(tSch)×qe×Unit) (a1:Int):Option ((List tWay×Unit)×Unit):=qi (qx6 D a0) fun b↦br (!Prod.fst (Prod.fst b)) (some (([],()),())) (qi (qev D a1 0 (IntKind.wrap IntKind.i64 ((↑(List.length (Prod.fst (Prod.snd (Prod.snd (Prod.fst a0))))):Int) - 1))) fun b↦br (!Prod.fst (Prod.fst b)) (some (([],()),())) (lp0 a1 (Prod.fst (Prod.snd a0)) (↑(List.length (Prod.fst (Prod.snd a0))):Int) 0 a0 []))
def q22 (D:DX)(n:Nat) (a0:(tSch)×qe×Unit) (a1:Int):Option ((List tWay×Unit)×Unit):=q2y D n (qw9 D n) a0 a1
def qln (x0:Int) (x1:qe) (x2:Int) (x3:Int) (x4:(tSch)×qe×Unit) (x5:List tWay):St:=stq 39 [(1,avI x0),(2,AV.addr 2 []),(5,AV.brw 5 [] 0),(24,AV.val (Ty.sl (Ty.sl yV)) x1),(25,avI x2),(26,avI x3)] [(2,Root.mk (Ty.pair yS (Ty.pair (Ty.sl (Ty.sl yV)) Ty.unit)) Mk.no x4 true),(5,Root.mk (Ty.sl (Ty.pair Ty.str (Ty.pair Ty.str Ty.unit))) (Mk.own 0 (Mk.pr Mk.no (Mk.pr Mk.no Mk.no))) x5 false)] 
def qqd (v0_0:List tWay):St:=stq 39 [(5,AV.brw 5 [] 0)] [(5,Root.mk (Ty.sl (Ty.pair Ty.str (Ty.pair Ty.str Ty.unit))) (Mk.own 0 (Mk.pr Mk.no (Mk.pr Mk.no Mk.no))) v0_0 false)] 
theorem qbi4 (D:DX)(n:Nat) (m:Nat) (K:Ex→St→Option (Out ctx 13)) (x0:Int) (x1:qe) (x2:Int) (x3:Int) (x4:(tSch)×
 qe×Unit) (x5:List tWay) :
 LQ qc D n 13 [.r,.r,.r,.l,.r,.l] (m+1) (qln x0 x1 x2 x3 x4 x5) K=q0y D n (fun x0 x1 x2 x3 x4 x5=>LQ qc D n 13 [.r,.r,.r,.l,.r,.l] m (qln x0 x1 x2 x3 x4 x5) K) (fun v0_0=>K (Ex.exit 0) (qqd v0_0)) x0 x1 x2 x3 x4 x5:=by kernel_rfl
theorem q6h (D:DX)(n:Nat) (K:Ex→St→Option (Out ctx 13)):∀ (m:Nat) (x0:Int) (x1:qe) (x2:Int) (x3:Int) (x4:(tSch)×
 qe×Unit) (x5:List tWay),LQ qc D n 13 [.r,.r,.r,.l,.r,.l] m (qln x0 x1 x2 x3 x4 x5) K=qlh D n (fun v0_0=>K (Ex.exit 0) (qqd v0_0)) m x0 x1 x2 x3 x4 x5
 | 0,x0,x1,x2,x3,x4,x5=>qx ..
 | m+1,x0,x1,x2,x3,x4,x5=>by
  have ih:(fun x0 x1 x2 x3 x4 x5=>LQ qc D n 13 [.r,.r,.r,.l,.r,.l] m (qln x0 x1 x2 x3 x4 x5) K)=qlh D n (fun v0_0=>K (Ex.exit 0) (qqd v0_0)) m:=by funext x0 x1 x2 x3 x4 x5;exact q6h D n K m x0 x1 x2 x3 x4 x5
  rw[qbi4]
  rw[ih];rfl
theorem qbg0 (D:DX)(n:Nat) (v0_0:List tWay) :
 (CQ qc D n 13 [] [.r,.r,.r,.l,.r,.l] (qh qc 13)) (Ex.exit 0) (qqd v0_0)=qvv D n v0_0:=by kernel_rfl
theorem qbg2 (D:DX)(n:Nat) (x0:Int) (x1:qe) (x2:Int) (x3:Int) (x4:(tSch)×
 qe×Unit) (x5:List tWay) :
 LQ qc D n 13 [.r,.r,.r,.l,.r,.l] n (qln x0 x1 x2 x3 x4 x5) (CQ qc D n 13 [] [.r,.r,.r,.l,.r,.l] (qh qc 13))=qw9 D n x0 x1 x2 x3 x4 x5:=by
 rw[q6h]
 simp only[qbg0]
 rfl
theorem qbnl (D:DX)(n:Nat) (a0:(tSch)×
 qe×Unit) (a1:Int):rfC qc D n 13 (a0,(a1,()))=q22 D n a0 a1:=by
 have h:rfC qc D n 13 (a0,(a1,()))=q2y D n (fun x0 x1 x2 x3 x4 x5=>LQ qc D n 13 [.r,.r,.r,.l,.r,.l] n (qln x0 x1 x2 x3 x4 x5) (CQ qc D n 13 [] [.r,.r,.r,.l,.r,.l] (qh qc 13))) a0 a1:=by kernel_rfl
 rw[h]
 simp only[qbg2]
 rfl

def qbkm (D:DX)(n:Nat):Option (((List Int×List (ByteArray×List Int×Unit)×Unit)×Unit)×Unit):=some ((([-1,-1,-1,-1],[],()),()),())
def q8b (D:DX)(n:Nat):Option (((List Int×List (ByteArray×List Int×Unit)×Unit)×Unit)×Unit):=qbkm D n
theorem qblv (D:DX)(n:Nat):rfC qc D n 14 ()=q8b D n:=by kernel_rfl

def qrt (D:DX)(n:Nat) (go:ByteArray→Int→Int→Int→List Int×List (ByteArray×List Int×Unit)×Unit→List Int×List (ByteArray×List Int×Unit)×Unit→List Int→ByteArray×List Int×Unit→Option (((List Int×List (ByteArray×List Int×Unit)×Unit)×Bool×Unit)×Unit)) (K0:ByteArray→Int→List Int×List (ByteArray×List Int×Unit)×Unit→List Int×List (ByteArray×List Int×Unit)×Unit→List Int→ByteArray×List Int×Unit→Option (((List Int×List (ByteArray×List Int×Unit)×Unit)×Bool×Unit)×Unit)) (x0:ByteArray) (x1:Int) (x2:Int) (x3:Int) (x4:List Int×List (ByteArray×List Int×Unit)×Unit) (x5:List Int×List (ByteArray×List Int×Unit)×Unit) (x6:List Int) (x7:ByteArray×List Int×Unit):Option (((List Int×List (ByteArray×List Int×Unit)×Unit)×Bool×Unit)×Unit):=br (decide (x3<x2)) (br (decide (0≤x3)&&decide (x3<(↑(List.length x6):Int))) (qi (qkz D (Prod.fst x4,Prod.fst (Prod.snd x4),()) (List.getD x6 (Int.toNat x3) 0) x3) fun b↦br (decide (List.length (Prod.fst (Prod.snd x7))+1≤qbi)) (go x0 x1 x2 (IntKind.wrap IntKind.i64 (x3+1)) x4 x5 x6 (Prod.fst x7,Prod.fst (Prod.snd x7)++[Prod.fst (Prod.fst b)],Prod.snd (Prod.snd x7))) none) none) (K0 x0 x1 x4 x5 x6 x7)
def qgd (D:DX)(n:Nat) (K0:ByteArray→Int→List Int×List (ByteArray×List Int×Unit)×Unit→List Int×List (ByteArray×List Int×Unit)×Unit→List Int→ByteArray×List Int×Unit→Option (((List Int×List (ByteArray×List Int×Unit)×Unit)×Bool×Unit)×Unit)):Nat→(ByteArray)→(Int)→(Int)→(Int)→(List Int×List (ByteArray×List Int×Unit)×Unit)→(List Int×List (ByteArray×List Int×Unit)×Unit)→(List Int)→(ByteArray×List Int×Unit)→Option (((List Int×List (ByteArray×List Int×Unit)×Unit)×Bool×Unit)×Unit) | 0=>(fun x0 x1 x2 x3 x4 x5 x6 x7=>none) | m+1=>(fun x0 x1 x2 x3 x4 x5 x6 x7=>qrt D n (qgd D n K0 m) K0 x0 x1 x2 x3 x4 x5 x6 x7)
def qsk (D:DX)(n:Nat) (go:Int→Int→Int→List Int×List (ByteArray×List Int×Unit)×Unit→List Int×List (ByteArray×List Int×Unit)×Unit→List Int→Option (((List Int×List (ByteArray×List Int×Unit)×Unit)×Bool×Unit)×Unit)) (K0:List Int×List (ByteArray×List Int×Unit)×Unit→List Int×List (ByteArray×List Int×Unit)×Unit→Option (((List Int×List (ByteArray×List Int×Unit)×Unit)×Bool×Unit)×Unit)) (x1_0:Int) (x1_1:Int) (x1_2:Int) (x1_3:List Int×List (ByteArray×List Int×Unit)×Unit) (x1_4:List Int×List (ByteArray×List Int×Unit)×Unit) (x1_5:List Int):Option (((List Int×List (ByteArray×List Int×Unit)×Unit)×Bool×Unit)×Unit):=br (decide (x1_2<x1_1)) (br (decide (0≤x1_2)&&decide (x1_2<(↑(List.length x1_5):Int))) (qi (qwn D x1_3 (List.getD x1_5 (Int.toNat x1_2) 0) x1_2 x1_0) fun b↦go x1_0 x1_1 (IntKind.wrap IntKind.i64 (x1_2+1)) (Prod.fst (Prod.snd b)) x1_4 x1_5) none) (K0 x1_3 x1_4)
def qhr (D:DX)(n:Nat) (K0:List Int×List (ByteArray×List Int×Unit)×Unit→List Int×List (ByteArray×List Int×Unit)×Unit→Option (((List Int×List (ByteArray×List Int×Unit)×Unit)×Bool×Unit)×Unit)):Nat→(Int)→(Int)→(Int)→(List Int×List (ByteArray×List Int×Unit)×Unit)→(List Int×List (ByteArray×List Int×Unit)×Unit)→(List Int)→Option (((List Int×List (ByteArray×List Int×Unit)×Unit)×Bool×Unit)×Unit) | 0=>(fun x1_0 x1_1 x1_2 x1_3 x1_4 x1_5=>none) | m+1=>(fun x1_0 x1_1 x1_2 x1_3 x1_4 x1_5=>qsk D n (qhr D n K0 m) K0 x1_0 x1_1 x1_2 x1_3 x1_4 x1_5)
def qun (D:DX)(n:Nat) (v0_0:List Int×List (ByteArray×List Int×Unit)×Unit) (v0_1:List Int×List (ByteArray×List Int×Unit)×Unit):Option (((List Int×List (ByteArray×List Int×Unit)×Unit)×Bool×Unit)×Unit):=some (((Prod.fst v0_0,Prod.fst (Prod.snd v0_0),()),true,()),())
def qlw (D:DX)(n:Nat):(Int)→(Int)→(Int)→(List Int×List (ByteArray×List Int×Unit)×Unit)→(List Int×List (ByteArray×List Int×Unit)×Unit)→(List Int)→Option (((List Int×List (ByteArray×List Int×Unit)×Unit)×Bool×Unit)×Unit):=(fun x1_0 x1_1 x1_2 x1_3 x1_4 x1_5=>qhr D n (fun v0_0 v0_1=>qun D n v0_0 v0_1) n x1_0 x1_1 x1_2 x1_3 x1_4 x1_5)
def qky (D:DX)(n:Nat) (lp1:Int→Int→Int→List Int×List (ByteArray×List Int×Unit)×Unit→List Int×List (ByteArray×List Int×Unit)×Unit→List Int→Option (((List Int×List (ByteArray×List Int×Unit)×Unit)×Bool×Unit)×Unit)) (v0_0:ByteArray) (v0_1:Int) (v0_2:List Int×List (ByteArray×List Int×Unit)×Unit) (v0_3:List Int×List (ByteArray×List Int×Unit)×Unit) (v0_4:List Int) (v0_5:ByteArray×List Int×Unit):Option (((List Int×List (ByteArray×List Int×Unit)×Unit)×Bool×Unit)×Unit):=br (decide (List.length (Prod.fst (Prod.snd v0_2))+1≤qbi)) (qi (qhu D v0_0) fun b↦lp1 v0_1 (Prod.fst (Prod.fst b)) 0 (Prod.fst v0_2,Prod.fst (Prod.snd v0_2)++[(Prod.fst v0_5,Prod.fst (Prod.snd v0_5),())],Prod.snd (Prod.snd v0_2)) v0_3 v0_4) none
def qwk (D:DX)(n:Nat):(ByteArray)→(Int)→(Int)→(Int)→(List Int×List (ByteArray×List Int×Unit)×Unit)→(List Int×List (ByteArray×List Int×Unit)×Unit)→(List Int)→(ByteArray×List Int×Unit)→Option (((List Int×List (ByteArray×List Int×Unit)×Unit)×Bool×Unit)×Unit):=(fun x0 x1 x2 x3 x4 x5 x6 x7=>qgd D n (fun v0_0 v0_1 v0_2 v0_3 v0_4 v0_5=>qky D n (qlw D n) v0_0 v0_1 v0_2 v0_3 v0_4 v0_5) n x0 x1 x2 x3 x4 x5 x6 x7)
def qz6 (D:DX)(n:Nat) (lp0:ByteArray→Int→Int→Int→List Int×List (ByteArray×List Int×Unit)×Unit→List Int×List (ByteArray×List Int×Unit)×Unit→List Int→ByteArray×List Int×Unit→Option (((List Int×List (ByteArray×List Int×Unit)×Unit)×Bool×Unit)×Unit)) (a0:List Int×List (ByteArray×List Int×Unit)×Unit) (a1:ByteArray):Option (((List Int×List (ByteArray×List Int×Unit)×Unit)×Bool×Unit)×Unit):=qi (qyl D a0) fun b↦qi (qvg D (Prod.fst (Prod.fst (Prod.fst b)),Prod.fst (Prod.snd (Prod.fst (Prod.fst b))),())) fun b_1↦br (bif bif !Prod.fst (Prod.fst b_1) then true else decide ((↑(ByteArray.size a1):Int)>40) then true else decide ((↑(List.length (Prod.fst (Prod.snd (Prod.fst (Prod.fst b))))):Int)=40)) (some (((Prod.fst (Prod.fst (Prod.fst b)),Prod.fst (Prod.snd (Prod.fst (Prod.fst b))),()),false,()),())) (qi (q5c D (Prod.fst (Prod.fst (Prod.fst b)),Prod.fst (Prod.snd (Prod.fst (Prod.fst b))),()) a1) fun b_2↦br (decide (0≤0)&&decide (0<(↑(List.length (Prod.fst (Prod.fst b_2))):Int))) (qi (qkz D (Prod.fst (Prod.fst (Prod.fst b)),Prod.fst (Prod.snd (Prod.fst (Prod.fst b))),()) (List.getD (Prod.fst (Prod.fst b_2)) 0 0) 0) fun b_3↦br (Prod.fst (Prod.fst b_3) != -1) (br (decide (0≤Prod.fst (Prod.fst b_3))&&decide (Prod.fst (Prod.fst b_3)<(↑(List.length (Prod.fst (Prod.snd (Prod.fst (Prod.fst b))))):Int))) (br (List.beq (ByteArray.toList (Prod.fst (List.getD (Prod.fst (Prod.snd (Prod.fst (Prod.fst b)))) (Int.toNat (Prod.fst (Prod.fst b_3))) (ByteArray.empty,[],())))) (ByteArray.toList a1)) (some (((Prod.fst (Prod.fst (Prod.fst b)),Prod.fst (Prod.snd (Prod.fst (Prod.fst b))),()),false,()),())) (qi (qhu D a1) fun b_4↦lp0 a1 (↑(List.length (Prod.fst (Prod.snd (Prod.fst (Prod.fst b))))):Int) (Prod.fst (Prod.fst b_4)) 0 (Prod.fst (Prod.fst (Prod.fst b)),Prod.fst (Prod.snd (Prod.fst (Prod.fst b))),()) ([],[],()) (Prod.fst (Prod.fst b_2)) (a1,[],()))) none) (qi (qhu D a1) fun b_4↦lp0 a1 (↑(List.length (Prod.fst (Prod.snd (Prod.fst (Prod.fst b))))):Int) (Prod.fst (Prod.fst b_4)) 0 (Prod.fst (Prod.fst (Prod.fst b)),Prod.fst (Prod.snd (Prod.fst (Prod.fst b))),()) ([],[],()) (Prod.fst (Prod.fst b_2)) (a1,[],()))) none)
def q01 (D:DX)(n:Nat) (a0:List Int×List (ByteArray×List Int×Unit)×Unit) (a1:ByteArray):Option (((List Int×List (ByteArray×List Int×Unit)×Unit)×Bool×Unit)×Unit):=qz6 D n (qwk D n) a0 a1
def qka (x0:ByteArray) (x1:Int) (x2:Int) (x3:Int) (x4:List Int×List (ByteArray×List Int×Unit)×Unit) (x5:List Int×List (ByteArray×List Int×Unit)×Unit) (x6:List Int) (x7:ByteArray×List Int×Unit):St:=stq 97 [(1,AV.val Ty.str x0),(2,AV.addr 2 []),(4,AV.addr 4 []),(6,AV.brw 6 [] 0),(9,avI x1),(10,AV.addr 10 []),(60,avI x2),(61,avI x3)] [(2,Root.mk (Ty.pair (Ty.sl yI) (Ty.pair (Ty.sl (Ty.pair Ty.str (Ty.pair (Ty.sl yI) Ty.unit))) Ty.unit)) (Mk.pr (Mk.own 0 Mk.no) (Mk.pr (Mk.own 0 (Mk.pr Mk.no (Mk.pr (Mk.own 0 Mk.no) Mk.no))) Mk.no)) x4 true),(4,Root.mk (Ty.pair (Ty.sl yI) (Ty.pair (Ty.sl (Ty.pair Ty.str (Ty.pair (Ty.sl yI) Ty.unit))) Ty.unit)) (Mk.pr (Mk.own 0 Mk.no) (Mk.pr (Mk.own 0 (Mk.pr Mk.no (Mk.pr (Mk.own 0 Mk.no) Mk.no))) Mk.no)) x5 true),(6,Root.mk (Ty.sl yI) (Mk.own 0 Mk.no) x6 false),(10,Root.mk (Ty.pair Ty.str (Ty.pair (Ty.sl yI) Ty.unit)) (Mk.pr Mk.no (Mk.pr (Mk.own 0 Mk.no) Mk.no)) x7 true)] 
def qon (v0_0:ByteArray) (v0_1:Int) (v0_2:List Int×List (ByteArray×List Int×Unit)×Unit) (v0_3:List Int×List (ByteArray×List Int×Unit)×Unit) (v0_4:List Int) (v0_5:ByteArray×List Int×Unit):St:=stq 97 [(1,AV.val Ty.str v0_0),(2,AV.addr 2 []),(4,AV.addr 4 []),(6,AV.brw 6 [] 0),(9,avI v0_1),(10,AV.addr 10 [])] [(2,Root.mk (Ty.pair (Ty.sl yI) (Ty.pair (Ty.sl (Ty.pair Ty.str (Ty.pair (Ty.sl yI) Ty.unit))) Ty.unit)) (Mk.pr (Mk.own 0 Mk.no) (Mk.pr (Mk.own 0 (Mk.pr Mk.no (Mk.pr (Mk.own 0 Mk.no) Mk.no))) Mk.no)) v0_2 true),(4,Root.mk (Ty.pair (Ty.sl yI) (Ty.pair (Ty.sl (Ty.pair Ty.str (Ty.pair (Ty.sl yI) Ty.unit))) Ty.unit)) (Mk.pr (Mk.own 0 Mk.no) (Mk.pr (Mk.own 0 (Mk.pr Mk.no (Mk.pr (Mk.own 0 Mk.no) Mk.no))) Mk.no)) v0_3 true),(6,Root.mk (Ty.sl yI) (Mk.own 0 Mk.no) v0_4 false),(10,Root.mk (Ty.pair Ty.str (Ty.pair (Ty.sl yI) Ty.unit)) (Mk.pr Mk.no (Mk.pr (Mk.own 0 Mk.no) Mk.no)) v0_5 true)] 
def qkn (x1_0:Int) (x1_1:Int) (x1_2:Int) (x1_3:List Int×List (ByteArray×List Int×Unit)×Unit) (x1_4:List Int×List (ByteArray×List Int×Unit)×Unit) (x1_5:List Int):St:=stq 97 [(2,AV.addr 2 []),(4,AV.addr 4 []),(6,AV.brw 6 [] 0),(9,avI x1_0),(84,avI x1_1),(85,avI x1_2)] [(2,Root.mk (Ty.pair (Ty.sl yI) (Ty.pair (Ty.sl (Ty.pair Ty.str (Ty.pair (Ty.sl yI) Ty.unit))) Ty.unit)) (Mk.pr (Mk.own 0 Mk.no) (Mk.pr (Mk.own 0 (Mk.pr Mk.no (Mk.pr (Mk.own 0 Mk.no) Mk.no))) Mk.no)) x1_3 true),(4,Root.mk (Ty.pair (Ty.sl yI) (Ty.pair (Ty.sl (Ty.pair Ty.str (Ty.pair (Ty.sl yI) Ty.unit))) Ty.unit)) (Mk.pr (Mk.own 0 Mk.no) (Mk.pr (Mk.own 0 (Mk.pr Mk.no (Mk.pr (Mk.own 0 Mk.no) Mk.no))) Mk.no)) x1_4 true),(6,Root.mk (Ty.sl yI) (Mk.own 0 Mk.no) x1_5 false)] 
def qoi (v0_0:List Int×List (ByteArray×List Int×Unit)×Unit) (v0_1:List Int×List (ByteArray×List Int×Unit)×Unit):St:=stq 97 [(2,AV.addr 2 []),(4,AV.addr 4 [])] [(2,Root.mk (Ty.pair (Ty.sl yI) (Ty.pair (Ty.sl (Ty.pair Ty.str (Ty.pair (Ty.sl yI) Ty.unit))) Ty.unit)) (Mk.pr (Mk.own 0 Mk.no) (Mk.pr (Mk.own 0 (Mk.pr Mk.no (Mk.pr (Mk.own 0 Mk.no) Mk.no))) Mk.no)) v0_0 true),(4,Root.mk (Ty.pair (Ty.sl yI) (Ty.pair (Ty.sl (Ty.pair Ty.str (Ty.pair (Ty.sl yI) Ty.unit))) Ty.unit)) (Mk.pr (Mk.own 0 Mk.no) (Mk.pr (Mk.own 0 (Mk.pr Mk.no (Mk.pr (Mk.own 0 Mk.no) Mk.no))) Mk.no)) v0_1 true)] 
theorem qbfr (D:DX)(n:Nat) (m:Nat) (K:Ex→St→Option (Out ctx 15)) (x0:ByteArray) (x1:Int) (x2:Int) (x3:Int) (x4:List Int×List (ByteArray×List Int×Unit)×Unit) (x5:List Int×List (ByteArray×List Int×Unit)×Unit) (x6:List Int) (x7:ByteArray×List Int×Unit) :
 LQ qc D n 15 [.r,.r,.r,.r,.r,.r,.r,.l,.r,.l] (m+1) (qka x0 x1 x2 x3 x4 x5 x6 x7) K=qrt D n (fun x0 x1 x2 x3 x4 x5 x6 x7=>LQ qc D n 15 [.r,.r,.r,.r,.r,.r,.r,.l,.r,.l] m (qka x0 x1 x2 x3 x4 x5 x6 x7) K) (fun v0_0 v0_1 v0_2 v0_3 v0_4 v0_5=>K (Ex.exit 0) (qon v0_0 v0_1 v0_2 v0_3 v0_4 v0_5)) x0 x1 x2 x3 x4 x5 x6 x7:=by kernel_rfl
theorem q5u (D:DX)(n:Nat) (K:Ex→St→Option (Out ctx 15)):∀ (m:Nat) (x0:ByteArray) (x1:Int) (x2:Int) (x3:Int) (x4:List Int×List (ByteArray×List Int×Unit)×Unit) (x5:List Int×List (ByteArray×List Int×Unit)×Unit) (x6:List Int) (x7:ByteArray×List Int×Unit),LQ qc D n 15 [.r,.r,.r,.r,.r,.r,.r,.l,.r,.l] m (qka x0 x1 x2 x3 x4 x5 x6 x7) K=qgd D n (fun v0_0 v0_1 v0_2 v0_3 v0_4 v0_5=>K (Ex.exit 0) (qon v0_0 v0_1 v0_2 v0_3 v0_4 v0_5)) m x0 x1 x2 x3 x4 x5 x6 x7
 | 0,x0,x1,x2,x3,x4,x5,x6,x7=>qx ..
 | m+1,x0,x1,x2,x3,x4,x5,x6,x7=>by
  have ih:(fun x0 x1 x2 x3 x4 x5 x6 x7=>LQ qc D n 15 [.r,.r,.r,.r,.r,.r,.r,.l,.r,.l] m (qka x0 x1 x2 x3 x4 x5 x6 x7) K)=qgd D n (fun v0_0 v0_1 v0_2 v0_3 v0_4 v0_5=>K (Ex.exit 0) (qon v0_0 v0_1 v0_2 v0_3 v0_4 v0_5)) m:=by funext x0 x1 x2 x3 x4 x5 x6 x7;exact q5u D n K m x0 x1 x2 x3 x4 x5 x6 x7
  rw[qbfr]
  rw[ih];rfl
theorem qbf8 (D:DX)(n:Nat) (m:Nat) (K:Ex→St→Option (Out ctx 15)) (x1_0:Int) (x1_1:Int) (x1_2:Int) (x1_3:List Int×List (ByteArray×List Int×Unit)×Unit) (x1_4:List Int×List (ByteArray×List Int×Unit)×Unit) (x1_5:List Int) :
 LQ qc D n 15 [.r,.r,.r,.r,.r,.r,.r,.r,.r,.l,.r,.l] (m+1) (qkn x1_0 x1_1 x1_2 x1_3 x1_4 x1_5) K=qsk D n (fun x1_0 x1_1 x1_2 x1_3 x1_4 x1_5=>LQ qc D n 15 [.r,.r,.r,.r,.r,.r,.r,.r,.r,.l,.r,.l] m (qkn x1_0 x1_1 x1_2 x1_3 x1_4 x1_5) K) (fun v0_0 v0_1=>K (Ex.exit 2) (qoi v0_0 v0_1)) x1_0 x1_1 x1_2 x1_3 x1_4 x1_5:=by kernel_rfl
theorem q4d (D:DX)(n:Nat) (K:Ex→St→Option (Out ctx 15)):∀ (m:Nat) (x1_0:Int) (x1_1:Int) (x1_2:Int) (x1_3:List Int×List (ByteArray×List Int×Unit)×Unit) (x1_4:List Int×List (ByteArray×List Int×Unit)×Unit) (x1_5:List Int),LQ qc D n 15 [.r,.r,.r,.r,.r,.r,.r,.r,.r,.l,.r,.l] m (qkn x1_0 x1_1 x1_2 x1_3 x1_4 x1_5) K=qhr D n (fun v0_0 v0_1=>K (Ex.exit 2) (qoi v0_0 v0_1)) m x1_0 x1_1 x1_2 x1_3 x1_4 x1_5
 | 0,x1_0,x1_1,x1_2,x1_3,x1_4,x1_5=>qx ..
 | m+1,x1_0,x1_1,x1_2,x1_3,x1_4,x1_5=>by
  have ih:(fun x1_0 x1_1 x1_2 x1_3 x1_4 x1_5=>LQ qc D n 15 [.r,.r,.r,.r,.r,.r,.r,.r,.r,.l,.r,.l] m (qkn x1_0 x1_1 x1_2 x1_3 x1_4 x1_5) K)=qhr D n (fun v0_0 v0_1=>K (Ex.exit 2) (qoi v0_0 v0_1)) m:=by funext x1_0 x1_1 x1_2 x1_3 x1_4 x1_5;exact q4d D n K m x1_0 x1_1 x1_2 x1_3 x1_4 x1_5
  rw[qbf8]
  rw[ih];rfl
theorem qbdt (D:DX)(n:Nat) (v0_0:List Int×List (ByteArray×List Int×Unit)×Unit) (v0_1:List Int×List (ByteArray×List Int×Unit)×Unit) :
 (CQ qc D n 15 [] [.r,.r,.r,.r,.r,.r,.r,.r,.r,.l,.r,.l] (qh qc 15)) (Ex.exit 2) (qoi v0_0 v0_1)=qun D n v0_0 v0_1:=by kernel_rfl
theorem qbes (D:DX)(n:Nat) (x1_0:Int) (x1_1:Int) (x1_2:Int) (x1_3:List Int×List (ByteArray×List Int×Unit)×Unit) (x1_4:List Int×List (ByteArray×List Int×Unit)×Unit) (x1_5:List Int) :
 LQ qc D n 15 [.r,.r,.r,.r,.r,.r,.r,.r,.r,.l,.r,.l] n (qkn x1_0 x1_1 x1_2 x1_3 x1_4 x1_5) (CQ qc D n 15 [] [.r,.r,.r,.r,.r,.r,.r,.r,.r,.l,.r,.l] (qh qc 15))=qlw D n x1_0 x1_1 x1_2 x1_3 x1_4 x1_5:=by
 rw[q4d]
 simp only[qbdt]
 rfl
theorem qbec (D:DX)(n:Nat) (v0_0:ByteArray) (v0_1:Int) (v0_2:List Int×List (ByteArray×List Int×Unit)×Unit) (v0_3:List Int×List (ByteArray×List Int×Unit)×Unit) (v0_4:List Int) (v0_5:ByteArray×List Int×Unit) :
 (CQ qc D n 15 [] [.r,.r,.r,.r,.r,.r,.r,.l,.r,.l] (qh qc 15)) (Ex.exit 0) (qon v0_0 v0_1 v0_2 v0_3 v0_4 v0_5)=qky D n (fun x1_0 x1_1 x1_2 x1_3 x1_4 x1_5=>LQ qc D n 15 [.r,.r,.r,.r,.r,.r,.r,.r,.r,.l,.r,.l] n (qkn x1_0 x1_1 x1_2 x1_3 x1_4 x1_5) (CQ qc D n 15 [] [.r,.r,.r,.r,.r,.r,.r,.r,.r,.l,.r,.l] (qh qc 15))) v0_0 v0_1 v0_2 v0_3 v0_4 v0_5:=by kernel_rfl
theorem qbdu (D:DX)(n:Nat) (x0:ByteArray) (x1:Int) (x2:Int) (x3:Int) (x4:List Int×List (ByteArray×List Int×Unit)×Unit) (x5:List Int×List (ByteArray×List Int×Unit)×Unit) (x6:List Int) (x7:ByteArray×List Int×Unit) :
 LQ qc D n 15 [.r,.r,.r,.r,.r,.r,.r,.l,.r,.l] n (qka x0 x1 x2 x3 x4 x5 x6 x7) (CQ qc D n 15 [] [.r,.r,.r,.r,.r,.r,.r,.l,.r,.l] (qh qc 15))=qwk D n x0 x1 x2 x3 x4 x5 x6 x7:=by
 rw[q5u]
 simp only[qbec,qbes]
 rfl
theorem qbk6 (D:DX)(n:Nat) (a0:List Int×List (ByteArray×List Int×Unit)×Unit) (a1:ByteArray):rfC qc D n 15 (a0,(a1,()))=q01 D n a0 a1:=by
 have h:rfC qc D n 15 (a0,(a1,()))=qz6 D n (fun x0 x1 x2 x3 x4 x5 x6 x7=>LQ qc D n 15 [.r,.r,.r,.r,.r,.r,.r,.l,.r,.l] n (qka x0 x1 x2 x3 x4 x5 x6 x7) (CQ qc D n 15 [] [.r,.r,.r,.r,.r,.r,.r,.l,.r,.l] (qh qc 15))) a0 a1:=by kernel_rfl
 rw[h]
 simp only[qbdu]
 rfl

def qxw (D:DX)(n:Nat) (go:Int→Int→List Int×List (ByteArray×List Int×Unit)×Unit→List ByteArray→List Int→Option ((List ByteArray×Unit)×Unit)) (K0:List ByteArray→Option ((List ByteArray×Unit)×Unit)) (x0:Int) (x1:Int) (x2:List Int×List (ByteArray×List Int×Unit)×Unit) (x3:List ByteArray) (x4:List Int):Option ((List ByteArray×Unit)×Unit):=br (decide (x1<x0)) (br (decide (0≤x1)&&decide (x1<(↑(List.length x4):Int))) (br (decide (0≤List.getD x4 (Int.toNat x1) 0)&&decide (List.getD x4 (Int.toNat x1) 0<(↑(List.length (Prod.fst (Prod.snd x2))):Int))) (br (decide (List.length x3+1≤qbi)) (go x0 (IntKind.wrap IntKind.i64 (x1+1)) x2 (x3++[Prod.fst (List.getD (Prod.fst (Prod.snd x2)) (Int.toNat (List.getD x4 (Int.toNat x1) 0)) (ByteArray.empty,[],()))]) x4) none) none) none) (K0 x3)
def qko (D:DX)(n:Nat) (K0:List ByteArray→Option ((List ByteArray×Unit)×Unit)):Nat→(Int)→(Int)→(List Int×List (ByteArray×List Int×Unit)×Unit)→(List ByteArray)→(List Int)→Option ((List ByteArray×Unit)×Unit) | 0=>(fun x0 x1 x2 x3 x4=>none) | m+1=>(fun x0 x1 x2 x3 x4=>qxw D n (qko D n K0 m) K0 x0 x1 x2 x3 x4)
def qug (D:DX)(n:Nat) (v0_0:List ByteArray):Option ((List ByteArray×Unit)×Unit):=some ((v0_0,()),())
def qvw (D:DX)(n:Nat):(Int)→(Int)→(List Int×List (ByteArray×List Int×Unit)×Unit)→(List ByteArray)→(List Int)→Option ((List ByteArray×Unit)×Unit):=(fun x0 x1 x2 x3 x4=>qko D n (fun v0_0=>qug D n v0_0) n x0 x1 x2 x3 x4)
def q0m (D:DX)(n:Nat) (lp0:Int→Int→List Int×List (ByteArray×List Int×Unit)×Unit→List ByteArray→List Int→Option ((List ByteArray×Unit)×Unit)) (a0:List Int×List (ByteArray×List Int×Unit)×Unit):Option ((List ByteArray×Unit)×Unit):=qi (qvg D a0) fun b↦br (!Prod.fst (Prod.fst b)) (some (([],()),())) (qi (qu8 D a0 0) fun b↦lp0 (↑(List.length (Prod.fst (Prod.fst b))):Int) 0 a0 [] (Prod.fst (Prod.fst b)))
def q03 (D:DX)(n:Nat) (a0:List Int×List (ByteArray×List Int×Unit)×Unit):Option ((List ByteArray×Unit)×Unit):=q0m D n (qvw D n) a0
def qkm (x0:Int) (x1:Int) (x2:List Int×List (ByteArray×List Int×Unit)×Unit) (x3:List ByteArray) (x4:List Int):St:=stq 35 [(1,AV.addr 1 []),(3,AV.brw 3 [] 0),(18,AV.brw 4 [] 0),(19,avI x0),(20,avI x1)] [(1,Root.mk (Ty.pair (Ty.sl yI) (Ty.pair (Ty.sl (Ty.pair Ty.str (Ty.pair (Ty.sl yI) Ty.unit))) Ty.unit)) Mk.no x2 true),(3,Root.mk (Ty.sl Ty.str) (Mk.own 0 Mk.no) x3 false),(4,Root.mk (Ty.sl yI) (Mk.own 0 Mk.no) x4 false)] 
def qop (v0_0:List ByteArray):St:=stq 35 [(3,AV.brw 3 [] 0)] [(3,Root.mk (Ty.sl Ty.str) (Mk.own 0 Mk.no) v0_0 false)] 
theorem qbg8 (D:DX)(n:Nat) (m:Nat) (K:Ex→St→Option (Out ctx 16)) (x0:Int) (x1:Int) (x2:List Int×List (ByteArray×List Int×Unit)×Unit) (x3:List ByteArray) (x4:List Int) :
 LQ qc D n 16 [.r,.r,.r,.r,.l,.r,.l] (m+1) (qkm x0 x1 x2 x3 x4) K=qxw D n (fun x0 x1 x2 x3 x4=>LQ qc D n 16 [.r,.r,.r,.r,.l,.r,.l] m (qkm x0 x1 x2 x3 x4) K) (fun v0_0=>K (Ex.exit 0) (qop v0_0)) x0 x1 x2 x3 x4:=by kernel_rfl
theorem q4p (D:DX)(n:Nat) (K:Ex→St→Option (Out ctx 16)):∀ (m:Nat) (x0:Int) (x1:Int) (x2:List Int×List (ByteArray×List Int×Unit)×Unit) (x3:List ByteArray) (x4:List Int),LQ qc D n 16 [.r,.r,.r,.r,.l,.r,.l] m (qkm x0 x1 x2 x3 x4) K=qko D n (fun v0_0=>K (Ex.exit 0) (qop v0_0)) m x0 x1 x2 x3 x4
 | 0,x0,x1,x2,x3,x4=>qx ..
 | m+1,x0,x1,x2,x3,x4=>by
  have ih:(fun x0 x1 x2 x3 x4=>LQ qc D n 16 [.r,.r,.r,.r,.l,.r,.l] m (qkm x0 x1 x2 x3 x4) K)=qko D n (fun v0_0=>K (Ex.exit 0) (qop v0_0)) m:=by funext x0 x1 x2 x3 x4;exact q4p D n K m x0 x1 x2 x3 x4
  rw[qbg8]
  rw[ih];rfl
theorem qbdz (D:DX)(n:Nat) (v0_0:List ByteArray) :
 (CQ qc D n 16 [] [.r,.r,.r,.r,.l,.r,.l] (qh qc 16)) (Ex.exit 0) (qop v0_0)=qug D n v0_0:=by kernel_rfl
theorem qbef (D:DX)(n:Nat) (x0:Int) (x1:Int) (x2:List Int×List (ByteArray×List Int×Unit)×Unit) (x3:List ByteArray) (x4:List Int) :
 LQ qc D n 16 [.r,.r,.r,.r,.l,.r,.l] n (qkm x0 x1 x2 x3 x4) (CQ qc D n 16 [] [.r,.r,.r,.r,.l,.r,.l] (qh qc 16))=qvw D n x0 x1 x2 x3 x4:=by
 rw[q4p]
 simp only[qbdz]
 rfl
theorem qblg (D:DX)(n:Nat) (a0:List Int×List (ByteArray×List Int×Unit)×Unit):rfC qc D n 16 (a0,())=q03 D n a0:=by
 have h:rfC qc D n 16 (a0,())=q0m D n (fun x0 x1 x2 x3 x4=>LQ qc D n 16 [.r,.r,.r,.r,.l,.r,.l] n (qkm x0 x1 x2 x3 x4) (CQ qc D n 16 [] [.r,.r,.r,.r,.l,.r,.l] (qh qc 16))) a0:=by kernel_rfl
 rw[h]
 simp only[qbef]
 rfl

def q16 (D:DX)(n:Nat) (go:qe→Int→Int→(tSch)×qe×Unit→Option ((Bool×Unit)×Unit)) (K0:Bool→(tSch)×qe×Unit→Option ((Bool×Unit)×Unit)) (K1:(tSch)×qe×Unit→Option ((Bool×Unit)×Unit)) (x0:qe) (x1:Int) (x2:Int) (x3:(tSch)×qe×Unit):Option ((Bool×Unit)×Unit):=br (decide (x2<x1)) (br (decide (0≤x2)&&decide (x2<(↑(List.length x0):Int))) (qi (q58 D (Prod.fst x3) (List.getD x0 (Int.toNat x2) [])) fun b↦br (!Prod.fst (Prod.fst b)) (K0 false x3) (br (decide (x2>0)) (br (decide (0≤IntKind.wrap IntKind.i64 (x2 - 1))&&decide (IntKind.wrap IntKind.i64 (x2 - 1)<(↑(List.length (Prod.fst (Prod.snd x3))):Int))) (qi (qmv D (Prod.fst x3) (List.getD (Prod.fst (Prod.snd x3)) (Int.toNat (IntKind.wrap IntKind.i64 (x2 - 1))) [])) fun b↦qi (qmv D (Prod.fst x3) (List.getD x0 (Int.toNat x2) [])) fun b_1↦qi (qvo D (Prod.fst (Prod.fst b)) (Prod.fst (Prod.fst b_1))) fun b↦br (!Prod.fst (Prod.fst b)) (K0 false x3) (br (decide (0≤0)&&decide (0≤x2)&&decide (x2≤(↑(List.length (Prod.fst (Prod.snd x3))):Int))) (qi (qcd D (List.drop (Int.toNat 0) (List.take (Int.toNat x2) (Prod.fst (Prod.snd x3)))) (Clo.mk 80 [CapV.rptr (Ty.pair (Ty.pair (Ty.sl (Ty.pair Ty.str (Ty.pair (Ty.int IntKind.i64) (Ty.pair Ty.bool Ty.unit)))) (Ty.pair (Ty.sl (Ty.int IntKind.i64)) (Ty.pair (Ty.sl (Ty.pair Ty.str (Ty.pair (Ty.sl (Ty.int IntKind.i64)) (Ty.pair Ty.bool Ty.unit)))) Ty.unit))) (Ty.pair (Ty.sl (Ty.sl (Ty.pair (Ty.int IntKind.i64) (Ty.pair (Ty.int IntKind.i64) (Ty.pair Ty.str Ty.unit))))) Ty.unit)) x3,CapV.rptr (Ty.sl (Ty.pair (Ty.int IntKind.i64) (Ty.pair (Ty.int IntKind.i64) (Ty.pair Ty.str Ty.unit)))) (List.getD x0 (Int.toNat x2) [])])) fun b↦br (Prod.fst (Prod.fst b)) (K0 false x3) (go x0 x1 (IntKind.wrap IntKind.i64 (x2+1)) x3)) none)) none) (br (decide (0≤0)&&decide (0≤x2)&&decide (x2≤(↑(List.length (Prod.fst (Prod.snd x3))):Int))) (qi (qcd D (List.drop (Int.toNat 0) (List.take (Int.toNat x2) (Prod.fst (Prod.snd x3)))) (Clo.mk 80 [CapV.rptr (Ty.pair (Ty.pair (Ty.sl (Ty.pair Ty.str (Ty.pair (Ty.int IntKind.i64) (Ty.pair Ty.bool Ty.unit)))) (Ty.pair (Ty.sl (Ty.int IntKind.i64)) (Ty.pair (Ty.sl (Ty.pair Ty.str (Ty.pair (Ty.sl (Ty.int IntKind.i64)) (Ty.pair Ty.bool Ty.unit)))) Ty.unit))) (Ty.pair (Ty.sl (Ty.sl (Ty.pair (Ty.int IntKind.i64) (Ty.pair (Ty.int IntKind.i64) (Ty.pair Ty.str Ty.unit))))) Ty.unit)) x3,CapV.rptr (Ty.sl (Ty.pair (Ty.int IntKind.i64) (Ty.pair (Ty.int IntKind.i64) (Ty.pair Ty.str Ty.unit)))) (List.getD x0 (Int.toNat x2) [])])) fun b↦br (Prod.fst (Prod.fst b)) (K0 false x3) (go x0 x1 (IntKind.wrap IntKind.i64 (x2+1)) x3)) none))) none) (K1 x3)
def qmd (D:DX)(n:Nat) (K0:Bool→(tSch)×qe×Unit→Option ((Bool×Unit)×Unit)) (K1:(tSch)×qe×Unit→Option ((Bool×Unit)×Unit)):Nat→(qe)→(Int)→(Int)→((tSch)×qe×Unit)→Option ((Bool×Unit)×Unit) | 0=>(fun x0 x1 x2 x3=>none) | m+1=>(fun x0 x1 x2 x3=>q16 D n (qmd D n K0 K1 m) K0 K1 x0 x1 x2 x3)
def q62 (D:DX)(n:Nat) (v0_0:Bool) (v0_1:(tSch)×qe×Unit):Option ((Bool×Unit)×Unit):=some ((v0_0,()),())
def qxs (D:DX)(n:Nat) (v1_0:(tSch)×qe×Unit):Option ((Bool×Unit)×Unit):=qi (qsj D (Prod.fst v1_0)) fun b↦some ((bif Prod.fst (Prod.fst b) then decide ((↑(List.length (Prod.fst (Prod.snd v1_0))):Int)≤12) else false,()),())
def qzz (D:DX)(n:Nat):(qe)→(Int)→(Int)→((tSch)×qe×Unit)→Option ((Bool×Unit)×Unit):=(fun x0 x1 x2 x3=>qmd D n (fun v0_0 v0_1=>q62 D n v0_0 v0_1) (fun v1_0=>qxs D n v1_0) n x0 x1 x2 x3)
def q4s (D:DX)(n:Nat) (lp0:qe→Int→Int→(tSch)×qe×Unit→Option ((Bool×Unit)×Unit)) (a0:(tSch)×qe×Unit):Option ((Bool×Unit)×Unit):=lp0 (Prod.fst (Prod.snd a0)) (↑(List.length (Prod.fst (Prod.snd a0))):Int) 0 a0
def q4r (D:DX)(n:Nat) (a0:(tSch)×qe×Unit):Option ((Bool×Unit)×Unit):=q4s D n (qzz D n) a0
def qmt (x0:qe) (x1:Int) (x2:Int) (x3:(tSch)×qe×Unit):St:=stq 55 [(1,AV.addr 1 []),(6,AV.val (Ty.sl (Ty.sl yV)) x0),(7,avI x1),(8,avI x2)] [(1,Root.mk (Ty.pair yS (Ty.pair (Ty.sl (Ty.sl yV)) Ty.unit)) Mk.no x3 true)] 
def qrx (v0_0:Bool) (v0_1:(tSch)×qe×Unit):St:=stq 55 [(1,AV.addr 1 []),(2,AV.val Ty.bool v0_0)] [(1,Root.mk (Ty.pair yS (Ty.pair (Ty.sl (Ty.sl yV)) Ty.unit)) Mk.no v0_1 true)] 
def qsd (v1_0:(tSch)×qe×Unit):St:=stq 55 [(1,AV.addr 1 [])] [(1,Root.mk (Ty.pair yS (Ty.pair (Ty.sl (Ty.sl yV)) Ty.unit)) Mk.no v1_0 true)] 
theorem qbkp (D:DX)(n:Nat) (m:Nat) (K:Ex→St→Option (Out ctx 17)) (x0:qe) (x1:Int) (x2:Int) (x3:(tSch)×
 qe×Unit) :
 LQ qc D n 17 [.r,.l,.r,.l] (m+1) (qmt x0 x1 x2 x3) K=q16 D n (fun x0 x1 x2 x3=>LQ qc D n 17 [.r,.l,.r,.l] m (qmt x0 x1 x2 x3) K) (fun v0_0 v0_1=>K (Ex.ret) (qrx v0_0 v0_1)) (fun v1_0=>K (Ex.exit 0) (qsd v1_0)) x0 x1 x2 x3:=by kernel_rfl
theorem q8z (D:DX)(n:Nat) (K:Ex→St→Option (Out ctx 17)):∀ (m:Nat) (x0:qe) (x1:Int) (x2:Int) (x3:(tSch)×
 qe×Unit),LQ qc D n 17 [.r,.l,.r,.l] m (qmt x0 x1 x2 x3) K=qmd D n (fun v0_0 v0_1=>K (Ex.ret) (qrx v0_0 v0_1)) (fun v1_0=>K (Ex.exit 0) (qsd v1_0)) m x0 x1 x2 x3
 | 0,x0,x1,x2,x3=>qx ..
 | m+1,x0,x1,x2,x3=>by
  have ih:(fun x0 x1 x2 x3=>LQ qc D n 17 [.r,.l,.r,.l] m (qmt x0 x1 x2 x3) K)=qmd D n (fun v0_0 v0_1=>K (Ex.ret) (qrx v0_0 v0_1)) (fun v1_0=>K (Ex.exit 0) (qsd v1_0)) m:=by funext x0 x1 x2 x3;exact q8z D n K m x0 x1 x2 x3
  rw[qbkp]
  rw[ih];rfl
theorem qbi7 (D:DX)(n:Nat) (v0_0:Bool) (v0_1:(tSch)×
 qe×Unit) :
 (CQ qc D n 17 [] [.r,.l,.r,.l] (qh qc 17)) (Ex.ret) (qrx v0_0 v0_1)=q62 D n v0_0 v0_1:=by kernel_rfl
theorem qbi1 (D:DX)(n:Nat) (v1_0:(tSch)×
 qe×Unit) :
 (CQ qc D n 17 [] [.r,.l,.r,.l] (qh qc 17)) (Ex.exit 0) (qsd v1_0)=qxs D n v1_0:=by kernel_rfl
theorem qbhq (D:DX)(n:Nat) (x0:qe) (x1:Int) (x2:Int) (x3:(tSch)×
 qe×Unit) :
 LQ qc D n 17 [.r,.l,.r,.l] n (qmt x0 x1 x2 x3) (CQ qc D n 17 [] [.r,.l,.r,.l] (qh qc 17))=qzz D n x0 x1 x2 x3:=by
 rw[q8z]
 simp only[qbi7,qbi1]
 rfl
theorem qbof (D:DX)(n:Nat) (a0:(tSch)×
 qe×Unit):rfC qc D n 17 (a0,())=q4r D n a0:=by
 have h:rfC qc D n 17 (a0,())=q4s D n (fun x0 x1 x2 x3=>LQ qc D n 17 [.r,.l,.r,.l] n (qmt x0 x1 x2 x3) (CQ qc D n 17 [] [.r,.l,.r,.l] (qh qc 17))) a0:=by kernel_rfl
 rw[h]
 simp only[qbhq]
 rfl


def qbah (D:DX)(n:Nat) (a0:List tWay) (a1:ByteArray×ByteArray×Unit):Option ((List tWay×Unit)×Unit):=qi (qg2 D a0) fun b↦qi (qfq D a0 (Clo.mk 92 [CapV.rptr (Ty.pair Ty.str (Ty.pair Ty.str Ty.unit)) a1])) fun b_1↦br (decide (Prod.fst (Prod.fst b_1)<0)) (qi (qcp D (Prod.fst (Prod.fst b)) (↑(List.length a0):Int) [a1]) fun b↦some ((Prod.fst (Prod.fst b),()),())) (br (decide (0≤Prod.fst (Prod.fst b_1))&&decide (Prod.fst (Prod.fst b_1)<(↑(List.length a0):Int))) (br (qnk (Ty.pair Ty.str (Ty.pair Ty.str Ty.unit)) (List.getD a0 (Int.toNat (Prod.fst (Prod.fst b_1))) (ByteArray.empty,ByteArray.empty,())) a1) (some ((Prod.fst (Prod.fst b),()),())) (qi (qcp D (Prod.fst (Prod.fst b)) (Prod.fst (Prod.fst b_1)) [a1]) fun b↦some ((Prod.fst (Prod.fst b),()),()))) none)
def q14 (D:DX)(n:Nat) (a0:List tWay) (a1:ByteArray×ByteArray×Unit):Option ((List tWay×Unit)×Unit):=qbah D n a0 a1
theorem qbn1 (D:DX)(n:Nat) (a0:List tWay) (a1:ByteArray×ByteArray×Unit):rfC qc D n 21 (a0,(a1,()))=q14 D n a0 a1:=by kernel_rfl


def q6g (D:DX)(n:Nat) (a0:tSch) (a1:qd):Option ((qd×Unit)×Unit):=qi (qlp D a1 (Prod.fst (Prod.snd a0))) fun b↦some ((Prod.fst (Prod.fst b),()),())
def qyj (D:DX)(n:Nat) (a0:tSch) (a1:qd):Option ((qd×Unit)×Unit):=q6g D n a0 a1
theorem qbif (D:DX)(n:Nat) (a0:tSch) (a1:qd):rfC qc D n 23 (a0,(a1,()))=qyj D n a0 a1:=by kernel_rfl


def qzr (D:DX)(n:Nat) (go:qd→Int→(tSch)×qe×Unit→(tSch)×qe×Unit→(tSch)×qe×Unit→Option ((((tSch)×qe×Unit)×Int×Unit)×Unit)) (K0:qd→Int→(tSch)×qe×Unit→(tSch)×qe×Unit→(tSch)×qe×Unit→Option ((((tSch)×qe×Unit)×Int×Unit)×Unit)) (x0:qd) (x1:Int) (x2:(tSch)×qe×Unit) (x3:(tSch)×qe×Unit) (x4:(tSch)×qe×Unit):Option ((((tSch)×qe×Unit)×Int×Unit)×Unit):=br (decide (x1<(↑(List.length (Prod.fst (Prod.snd x2))):Int))) (br (decide (0≤x1)&&decide (x1<(↑(List.length (Prod.fst (Prod.snd x2))):Int))) (qi (qd7 D (Prod.fst x2) (List.getD (Prod.fst (Prod.snd x2)) (Int.toNat x1) [])) fun b↦qi (qd7 D (Prod.fst x2) x0) fun b_1↦qi (qqb D (Prod.fst (Prod.fst b)) (Prod.fst (Prod.fst b_1))) fun b↦br (Prod.fst (Prod.fst b)) (go x0 (IntKind.wrap IntKind.i64 (x1+1)) x2 x3 x4) (K0 x0 x1 x2 x3 x4)) none) (K0 x0 x1 x2 x3 x4)
def qlm (D:DX)(n:Nat) (K0:qd→Int→(tSch)×qe×Unit→(tSch)×qe×Unit→(tSch)×qe×Unit→Option ((((tSch)×qe×Unit)×Int×Unit)×Unit)):Nat→(qd)→(Int)→((tSch)×qe×Unit)→((tSch)×qe×Unit)→((tSch)×qe×Unit)→Option ((((tSch)×qe×Unit)×Int×Unit)×Unit) | 0=>(fun x0 x1 x2 x3 x4=>none) | m+1=>(fun x0 x1 x2 x3 x4=>qzr D n (qlm D n K0 m) K0 x0 x1 x2 x3 x4)
def qjb (D:DX)(n:Nat) (v0_0:qd) (v0_1:Int) (v0_2:(tSch)×qe×Unit) (v0_3:(tSch)×qe×Unit) (v0_4:(tSch)×qe×Unit):Option ((((tSch)×qe×Unit)×Int×Unit)×Unit):=br (decide (0≤0)&&decide (0≤v0_1)&&decide (v0_1≤(↑(List.length (Prod.fst (Prod.snd v0_2))):Int))) (qi (qi1 D (List.drop (Int.toNat 0) (List.take (Int.toNat v0_1) (Prod.fst (Prod.snd v0_2))))) fun b↦br (decide (0+List.length v0_0≤qbi)) (br (decide (List.length (Prod.fst (Prod.fst b))+1≤qbi)) (br (decide (0≤v0_1)&&decide (v0_1≤(↑(List.length (Prod.fst (Prod.snd v0_2))):Int))&&decide ((↑(List.length (Prod.fst (Prod.snd v0_2))):Int)≤(↑(List.length (Prod.fst (Prod.snd v0_2))):Int))) (qi (qi1 D (List.drop (Int.toNat v0_1) (List.take (Int.toNat (↑(List.length (Prod.fst (Prod.snd v0_2))):Int)) (Prod.fst (Prod.snd v0_2))))) fun b_1↦br (decide (List.length (Prod.fst (Prod.fst b)++[[]++v0_0])+List.length (Prod.fst (Prod.fst b_1))≤qbi)) (some ((((Prod.fst (Prod.fst v0_4),Prod.fst (Prod.snd (Prod.fst v0_4)),Prod.fst (Prod.snd (Prod.snd (Prod.fst v0_4))),()),Prod.fst (Prod.fst b)++[[]++v0_0]++Prod.fst (Prod.fst b_1),()),0,()),())) none) none) none) none) none
def qxm (D:DX)(n:Nat):(qd)→(Int)→((tSch)×qe×Unit)→((tSch)×qe×Unit)→((tSch)×qe×Unit)→Option ((((tSch)×qe×Unit)×Int×Unit)×Unit):=(fun x0 x1 x2 x3 x4=>qlm D n (fun v0_0 v0_1 v0_2 v0_3 v0_4=>qjb D n v0_0 v0_1 v0_2 v0_3 v0_4) n x0 x1 x2 x3 x4)
def q25 (D:DX)(n:Nat) (lp0:qd→Int→(tSch)×qe×Unit→(tSch)×qe×Unit→(tSch)×qe×Unit→Option ((((tSch)×qe×Unit)×Int×Unit)×Unit)) (a0:(tSch)×qe×Unit) (a1:qd):Option ((((tSch)×qe×Unit)×Int×Unit)×Unit):=qi (qph D a0) fun b↦qi (qo2 D a0) fun b_1↦br (!Prod.fst (Prod.fst b_1)) (some ((((Prod.fst (Prod.fst (Prod.fst (Prod.fst b))),Prod.fst (Prod.snd (Prod.fst (Prod.fst (Prod.fst b)))),Prod.fst (Prod.snd (Prod.snd (Prod.fst (Prod.fst (Prod.fst b))))),()),Prod.fst (Prod.snd (Prod.fst (Prod.fst b))),()),1,()),())) (qi (qsz D (Prod.fst a0) a1) fun b_2↦br (!Prod.fst (Prod.fst b_2)) (some ((((Prod.fst (Prod.fst (Prod.fst (Prod.fst b))),Prod.fst (Prod.snd (Prod.fst (Prod.fst (Prod.fst b)))),Prod.fst (Prod.snd (Prod.snd (Prod.fst (Prod.fst (Prod.fst b))))),()),Prod.fst (Prod.snd (Prod.fst (Prod.fst b))),()),1,()),())) (qi (qd7 D (Prod.fst a0) a1) fun b_3↦qi (qto D a0 (Prod.fst (Prod.fst b_3))) fun b_4↦br (decide (Prod.fst (Prod.fst b_4)≥0)) (some ((((Prod.fst (Prod.fst (Prod.fst (Prod.fst b))),Prod.fst (Prod.snd (Prod.fst (Prod.fst (Prod.fst b)))),Prod.fst (Prod.snd (Prod.snd (Prod.fst (Prod.fst (Prod.fst b))))),()),Prod.fst (Prod.snd (Prod.fst (Prod.fst b))),()),2,()),())) (qi (qqf D a0 a1 (-1)) fun b_5↦br (Prod.fst (Prod.fst b_5)) (some ((((Prod.fst (Prod.fst (Prod.fst (Prod.fst b))),Prod.fst (Prod.snd (Prod.fst (Prod.fst (Prod.fst b)))),Prod.fst (Prod.snd (Prod.snd (Prod.fst (Prod.fst (Prod.fst b))))),()),Prod.fst (Prod.snd (Prod.fst (Prod.fst b))),()),3,()),())) (br (decide ((↑(List.length (Prod.fst (Prod.snd a0))):Int)≥12)) (some ((((Prod.fst (Prod.fst (Prod.fst (Prod.fst b))),Prod.fst (Prod.snd (Prod.fst (Prod.fst (Prod.fst b)))),Prod.fst (Prod.snd (Prod.snd (Prod.fst (Prod.fst (Prod.fst b))))),()),Prod.fst (Prod.snd (Prod.fst (Prod.fst b))),()),5,()),())) (lp0 a1 0 a0 (([],[],[],()),[],()) ((Prod.fst (Prod.fst (Prod.fst (Prod.fst b))),Prod.fst (Prod.snd (Prod.fst (Prod.fst (Prod.fst b)))),Prod.fst (Prod.snd (Prod.snd (Prod.fst (Prod.fst (Prod.fst b))))),()),Prod.fst (Prod.snd (Prod.fst (Prod.fst b))),()))))))
def q19 (D:DX)(n:Nat) (a0:(tSch)×qe×Unit) (a1:qd):Option ((((tSch)×qe×Unit)×Int×Unit)×Unit):=q25 D n (qxm D n) a0 a1
def qlq (x0:qd) (x1:Int) (x2:(tSch)×qe×Unit) (x3:(tSch)×qe×Unit) (x4:(tSch)×qe×Unit):St:=stq 91 [(1,AV.val (Ty.sl yV) x0),(2,AV.addr 2 []),(4,AV.addr 4 []),(6,AV.addr 6 []),(7,avI x1)] [(2,Root.mk (Ty.pair yS (Ty.pair (Ty.sl (Ty.sl yV)) Ty.unit)) Mk.no x2 true),(4,Root.mk (Ty.pair yS (Ty.pair (Ty.sl (Ty.sl yV)) Ty.unit)) (Mk.pr (Mk.pr (Mk.own 0 (Mk.pr Mk.no (Mk.pr Mk.no (Mk.pr Mk.no Mk.no)))) (Mk.pr (Mk.own 0 Mk.no) (Mk.pr (Mk.own 0 (Mk.pr Mk.no (Mk.pr (Mk.own 0 Mk.no) (Mk.pr Mk.no Mk.no)))) Mk.no))) (Mk.pr (Mk.own 0 (Mk.own 0 (Mk.pr Mk.no (Mk.pr Mk.no (Mk.pr Mk.no Mk.no))))) Mk.no)) x3 true),(6,Root.mk (Ty.pair yS (Ty.pair (Ty.sl (Ty.sl yV)) Ty.unit)) (Mk.pr (Mk.pr (Mk.own 0 (Mk.pr Mk.no (Mk.pr Mk.no (Mk.pr Mk.no Mk.no)))) (Mk.pr (Mk.own 0 Mk.no) (Mk.pr (Mk.own 0 (Mk.pr Mk.no (Mk.pr (Mk.own 0 Mk.no) (Mk.pr Mk.no Mk.no)))) Mk.no))) (Mk.pr (Mk.own 0 (Mk.own 0 (Mk.pr Mk.no (Mk.pr Mk.no (Mk.pr Mk.no Mk.no))))) Mk.no)) x4 true)] 
def qpy (v0_0:qd) (v0_1:Int) (v0_2:(tSch)×qe×Unit) (v0_3:(tSch)×qe×Unit) (v0_4:(tSch)×qe×Unit):St:=stq 91 [(1,AV.val (Ty.sl yV) v0_0),(2,AV.addr 2 []),(4,AV.addr 4 []),(6,AV.addr 6 []),(7,avI v0_1)] [(2,Root.mk (Ty.pair yS (Ty.pair (Ty.sl (Ty.sl yV)) Ty.unit)) Mk.no v0_2 true),(4,Root.mk (Ty.pair yS (Ty.pair (Ty.sl (Ty.sl yV)) Ty.unit)) (Mk.pr (Mk.pr (Mk.own 0 (Mk.pr Mk.no (Mk.pr Mk.no (Mk.pr Mk.no Mk.no)))) (Mk.pr (Mk.own 0 Mk.no) (Mk.pr (Mk.own 0 (Mk.pr Mk.no (Mk.pr (Mk.own 0 Mk.no) (Mk.pr Mk.no Mk.no)))) Mk.no))) (Mk.pr (Mk.own 0 (Mk.own 0 (Mk.pr Mk.no (Mk.pr Mk.no (Mk.pr Mk.no Mk.no))))) Mk.no)) v0_3 true),(6,Root.mk (Ty.pair yS (Ty.pair (Ty.sl (Ty.sl yV)) Ty.unit)) (Mk.pr (Mk.pr (Mk.own 0 (Mk.pr Mk.no (Mk.pr Mk.no (Mk.pr Mk.no Mk.no)))) (Mk.pr (Mk.own 0 Mk.no) (Mk.pr (Mk.own 0 (Mk.pr Mk.no (Mk.pr (Mk.own 0 Mk.no) (Mk.pr Mk.no Mk.no)))) Mk.no))) (Mk.pr (Mk.own 0 (Mk.own 0 (Mk.pr Mk.no (Mk.pr Mk.no (Mk.pr Mk.no Mk.no))))) Mk.no)) v0_4 true)] 
theorem qbiz (D:DX)(n:Nat) (m:Nat) (K:Ex→St→Option (Out ctx 28)) (x0:qd) (x1:Int) (x2:(tSch)×
 qe×Unit) (x3:(tSch)×
 qe×Unit) (x4:(tSch)×
 qe×Unit) :
 LQ qc D n 28 [.r,.r,.r,.r,.l,.l] (m+1) (qlq x0 x1 x2 x3 x4) K=qzr D n (fun x0 x1 x2 x3 x4=>LQ qc D n 28 [.r,.r,.r,.r,.l,.l] m (qlq x0 x1 x2 x3 x4) K) (fun v0_0 v0_1 v0_2 v0_3 v0_4=>K (Ex.exit 1) (qpy v0_0 v0_1 v0_2 v0_3 v0_4)) x0 x1 x2 x3 x4:=by kernel_rfl
theorem q6s (D:DX)(n:Nat) (K:Ex→St→Option (Out ctx 28)):∀ (m:Nat) (x0:qd) (x1:Int) (x2:(tSch)×
 qe×Unit) (x3:(tSch)×
 qe×Unit) (x4:(tSch)×
 qe×Unit),LQ qc D n 28 [.r,.r,.r,.r,.l,.l] m (qlq x0 x1 x2 x3 x4) K=qlm D n (fun v0_0 v0_1 v0_2 v0_3 v0_4=>K (Ex.exit 1) (qpy v0_0 v0_1 v0_2 v0_3 v0_4)) m x0 x1 x2 x3 x4
 | 0,x0,x1,x2,x3,x4=>qx ..
 | m+1,x0,x1,x2,x3,x4=>by
  have ih:(fun x0 x1 x2 x3 x4=>LQ qc D n 28 [.r,.r,.r,.r,.l,.l] m (qlq x0 x1 x2 x3 x4) K)=qlm D n (fun v0_0 v0_1 v0_2 v0_3 v0_4=>K (Ex.exit 1) (qpy v0_0 v0_1 v0_2 v0_3 v0_4)) m:=by funext x0 x1 x2 x3 x4;exact q6s D n K m x0 x1 x2 x3 x4
  rw[qbiz]
  rw[ih];rfl
theorem qbgk (D:DX)(n:Nat) (v0_0:qd) (v0_1:Int) (v0_2:(tSch)×
 qe×Unit) (v0_3:(tSch)×
 qe×Unit) (v0_4:(tSch)×
 qe×Unit) :
 (CQ qc D n 28 [] [.r,.r,.r,.r,.l,.l] (qh qc 28)) (Ex.exit 1) (qpy v0_0 v0_1 v0_2 v0_3 v0_4)=qjb D n v0_0 v0_1 v0_2 v0_3 v0_4:=by kernel_rfl
theorem qbg7 (D:DX)(n:Nat) (x0:qd) (x1:Int) (x2:(tSch)×
 qe×Unit) (x3:(tSch)×
 qe×Unit) (x4:(tSch)×
 qe×Unit) :
 LQ qc D n 28 [.r,.r,.r,.r,.l,.l] n (qlq x0 x1 x2 x3 x4) (CQ qc D n 28 [] [.r,.r,.r,.r,.l,.l] (qh qc 28))=qxm D n x0 x1 x2 x3 x4:=by
 rw[q6s]
 simp only[qbgk]
 rfl
theorem qbnj (D:DX)(n:Nat) (a0:(tSch)×
 qe×Unit) (a1:qd):rfC qc D n 28 (a0,(a1,()))=q19 D n a0 a1:=by
 have h:rfC qc D n 28 (a0,(a1,()))=q25 D n (fun x0 x1 x2 x3 x4=>LQ qc D n 28 [.r,.r,.r,.r,.l,.l] n (qlq x0 x1 x2 x3 x4) (CQ qc D n 28 [] [.r,.r,.r,.r,.l,.l] (qh qc 28))) a0 a1:=by kernel_rfl
 rw[h]
 simp only[qbg7]
 rfl

def qbak (D:DX)(n:Nat) (a0:(tSch)×qe×Unit) (a1:qd):Option ((((tSch)×qe×Unit)×Int×Unit)×Unit):=qi (qph D a0) fun b↦qi (qo2 D a0) fun b_1↦br (!Prod.fst (Prod.fst b_1)) (some ((((Prod.fst (Prod.fst (Prod.fst (Prod.fst b))),Prod.fst (Prod.snd (Prod.fst (Prod.fst (Prod.fst b)))),Prod.fst (Prod.snd (Prod.snd (Prod.fst (Prod.fst (Prod.fst b))))),()),Prod.fst (Prod.snd (Prod.fst (Prod.fst b))),()),1,()),())) (qi (qto D a0 a1) fun b_2↦br (decide (Prod.fst (Prod.fst b_2)<0)) (some ((((Prod.fst (Prod.fst (Prod.fst (Prod.fst b))),Prod.fst (Prod.snd (Prod.fst (Prod.fst (Prod.fst b)))),Prod.fst (Prod.snd (Prod.snd (Prod.fst (Prod.fst (Prod.fst b))))),()),Prod.fst (Prod.snd (Prod.fst (Prod.fst b))),()),4,()),())) (br (decide (0≤0)&&decide (0≤Prod.fst (Prod.fst b_2))&&decide (Prod.fst (Prod.fst b_2)≤(↑(List.length (Prod.fst (Prod.snd a0))):Int))) (qi (qi1 D (List.drop (Int.toNat 0) (List.take (Int.toNat (Prod.fst (Prod.fst b_2))) (Prod.fst (Prod.snd a0))))) fun b_3↦br (decide (0≤IntKind.wrap IntKind.i64 (Prod.fst (Prod.fst b_2)+1))&&decide (IntKind.wrap IntKind.i64 (Prod.fst (Prod.fst b_2)+1)≤(↑(List.length (Prod.fst (Prod.snd a0))):Int))&&decide ((↑(List.length (Prod.fst (Prod.snd a0))):Int)≤(↑(List.length (Prod.fst (Prod.snd a0))):Int))) (qi (qi1 D (List.drop (Int.toNat (IntKind.wrap IntKind.i64 (Prod.fst (Prod.fst b_2)+1))) (List.take (Int.toNat (↑(List.length (Prod.fst (Prod.snd a0))):Int)) (Prod.fst (Prod.snd a0))))) fun b_4↦br (decide (List.length (Prod.fst (Prod.fst b_3))+List.length (Prod.fst (Prod.fst b_4))≤qbi)) (some ((((Prod.fst (Prod.fst (Prod.fst (Prod.fst b))),Prod.fst (Prod.snd (Prod.fst (Prod.fst (Prod.fst b)))),Prod.fst (Prod.snd (Prod.snd (Prod.fst (Prod.fst (Prod.fst b))))),()),Prod.fst (Prod.fst b_3)++Prod.fst (Prod.fst b_4),()),0,()),())) none) none) none))
def q23 (D:DX)(n:Nat) (a0:(tSch)×qe×Unit) (a1:qd):Option ((((tSch)×qe×Unit)×Int×Unit)×Unit):=qbak D n a0 a1
theorem qbnm (D:DX)(n:Nat) (a0:(tSch)×
 qe×Unit) (a1:qd):rfC qc D n 30 (a0,(a1,()))=q23 D n a0 a1:=by kernel_rfl

def q77 (D:DX)(n:Nat) (a0:(tSch)×qe×Unit) (a1:qd):Option ((((tSch)×qe×Unit)×Int×Unit)×Unit):=qi (qph D a0) fun b↦qi (qo2 D a0) fun b_1↦br (!Prod.fst (Prod.fst b_1)) (some ((((Prod.fst (Prod.fst (Prod.fst (Prod.fst b))),Prod.fst (Prod.snd (Prod.fst (Prod.fst (Prod.fst b)))),Prod.fst (Prod.snd (Prod.snd (Prod.fst (Prod.fst (Prod.fst b))))),()),Prod.fst (Prod.snd (Prod.fst (Prod.fst b))),()),1,()),())) (qi (qsz D (Prod.fst a0) a1) fun b_2↦br (!Prod.fst (Prod.fst b_2)) (some ((((Prod.fst (Prod.fst (Prod.fst (Prod.fst b))),Prod.fst (Prod.snd (Prod.fst (Prod.fst (Prod.fst b)))),Prod.fst (Prod.snd (Prod.snd (Prod.fst (Prod.fst (Prod.fst b))))),()),Prod.fst (Prod.snd (Prod.fst (Prod.fst b))),()),1,()),())) (qi (qd7 D (Prod.fst a0) a1) fun b_3↦qi (qto D a0 (Prod.fst (Prod.fst b_3))) fun b_4↦br (decide (Prod.fst (Prod.fst b_4)<0)) (some ((((Prod.fst (Prod.fst (Prod.fst (Prod.fst b))),Prod.fst (Prod.snd (Prod.fst (Prod.fst (Prod.fst b)))),Prod.fst (Prod.snd (Prod.snd (Prod.fst (Prod.fst (Prod.fst b))))),()),Prod.fst (Prod.snd (Prod.fst (Prod.fst b))),()),4,()),())) (qi (qqf D a0 a1 (Prod.fst (Prod.fst b_4))) fun b_5↦br (Prod.fst (Prod.fst b_5)) (some ((((Prod.fst (Prod.fst (Prod.fst (Prod.fst b))),Prod.fst (Prod.snd (Prod.fst (Prod.fst (Prod.fst b)))),Prod.fst (Prod.snd (Prod.snd (Prod.fst (Prod.fst (Prod.fst b))))),()),Prod.fst (Prod.snd (Prod.fst (Prod.fst b))),()),3,()),())) (br (decide (0+List.length a1≤qbi)) (br (decide (0≤Prod.fst (Prod.fst b_4))&&decide (Prod.fst (Prod.fst b_4)<(↑(List.length (Prod.fst (Prod.snd (Prod.fst (Prod.fst b))))):Int))) (some ((((Prod.fst (Prod.fst (Prod.fst (Prod.fst b))),Prod.fst (Prod.snd (Prod.fst (Prod.fst (Prod.fst b)))),Prod.fst (Prod.snd (Prod.snd (Prod.fst (Prod.fst (Prod.fst b))))),()),List.set (Prod.fst (Prod.snd (Prod.fst (Prod.fst b)))) (Int.toNat (Prod.fst (Prod.fst b_4))) ([]++a1),()),0,()),())) none) none))))
def q0t (D:DX)(n:Nat) (a0:(tSch)×qe×Unit) (a1:qd):Option ((((tSch)×qe×Unit)×Int×Unit)×Unit):=q77 D n a0 a1
theorem qbkz (D:DX)(n:Nat) (a0:(tSch)×
 qe×Unit) (a1:qd):rfC qc D n 32 (a0,(a1,()))=q0t D n a0 a1:=by kernel_rfl



def qbaj (D:DX)(n:Nat) (a0:tSch):Option ((((tSch)×qe×Unit)×Bool×Unit)×Unit):=qi (qt0 D a0) fun b↦qi (qo2 D ((Prod.fst (Prod.fst (Prod.fst b)),Prod.fst (Prod.snd (Prod.fst (Prod.fst b))),Prod.fst (Prod.snd (Prod.snd (Prod.fst (Prod.fst b)))),()),[],())) fun b_1↦br (!Prod.fst (Prod.fst b_1)) (some (((([],[],[],()),[],()),false,()),())) (some ((((Prod.fst (Prod.fst (Prod.fst b)),Prod.fst (Prod.snd (Prod.fst (Prod.fst b))),Prod.fst (Prod.snd (Prod.snd (Prod.fst (Prod.fst b)))),()),[],()),true,()),()))
def q2g (D:DX)(n:Nat) (a0:tSch):Option ((((tSch)×qe×Unit)×Bool×Unit)×Unit):=qbaj D n a0
theorem qbn9 (D:DX)(n:Nat) (a0:tSch):rfC qc D n 38 (a0,())=q2g D n a0:=by kernel_rfl

def q24 (D:DX)(n:Nat) (go:Int→Int→(tSch)×qe×Unit→Option ((Bool×Unit)×Unit)) (K0:Bool→Int→(tSch)×qe×Unit→Option ((Bool×Unit)×Unit)) (K1:Int→(tSch)×qe×Unit→Option ((Bool×Unit)×Unit)) (x1_0:Int) (x1_1:Int) (x1_2:(tSch)×qe×Unit):Option ((Bool×Unit)×Unit):=br (decide (x1_1<x1_0)) (br (decide (0≤x1_1)&&decide (x1_1<(↑(List.length (Prod.fst (Prod.snd x1_2))):Int))) (br (decide (0≤x1_0)&&decide (x1_0<(↑(List.length (Prod.fst (Prod.snd x1_2))):Int))) (qi (qsb D (Prod.fst x1_2) (List.getD (Prod.fst (Prod.snd x1_2)) (Int.toNat x1_1) []) (List.getD (Prod.fst (Prod.snd x1_2)) (Int.toNat x1_0) [])) fun b↦br (Prod.fst (Prod.fst b)) (K0 false x1_0 x1_2) (go x1_0 (IntKind.wrap IntKind.i64 (x1_1+1)) x1_2)) none) none) (K1 x1_0 x1_2)
def qmh (D:DX)(n:Nat) (K0:Bool→Int→(tSch)×qe×Unit→Option ((Bool×Unit)×Unit)) (K1:Int→(tSch)×qe×Unit→Option ((Bool×Unit)×Unit)):Nat→(Int)→(Int)→((tSch)×qe×Unit)→Option ((Bool×Unit)×Unit) | 0=>(fun x1_0 x1_1 x1_2=>none) | m+1=>(fun x1_0 x1_1 x1_2=>q24 D n (qmh D n K0 K1 m) K0 K1 x1_0 x1_1 x1_2)
def qxc (D:DX)(n:Nat) (go:Int→(tSch)×qe×Unit→Option ((Bool×Unit)×Unit)) (K0:Bool→(tSch)×qe×Unit→Option ((Bool×Unit)×Unit)) (K1:(tSch)×qe×Unit→Option ((Bool×Unit)×Unit)) (v0_0:Bool) (v0_1:Int) (v0_2:(tSch)×qe×Unit):Option ((Bool×Unit)×Unit):=K0 v0_0 v0_2
def qsf (D:DX)(n:Nat) (go:Int→(tSch)×qe×Unit→Option ((Bool×Unit)×Unit)) (K0:Bool→(tSch)×qe×Unit→Option ((Bool×Unit)×Unit)) (K1:(tSch)×qe×Unit→Option ((Bool×Unit)×Unit)) (v1_0:Int) (v1_1:(tSch)×qe×Unit):Option ((Bool×Unit)×Unit):=go (IntKind.wrap IntKind.i64 (v1_0+1)) v1_1
def q0c (D:DX)(n:Nat) (go:Int→(tSch)×qe×Unit→Option ((Bool×Unit)×Unit)) (K0:Bool→(tSch)×qe×Unit→Option ((Bool×Unit)×Unit)) (K1:(tSch)×qe×Unit→Option ((Bool×Unit)×Unit)):(Int)→(Int)→((tSch)×qe×Unit)→Option ((Bool×Unit)×Unit):=(fun x1_0 x1_1 x1_2=>qmh D n (fun v0_0 v0_1 v0_2=>qxc D n go K0 K1 v0_0 v0_1 v0_2) (fun v1_0 v1_1=>qsf D n go K0 K1 v1_0 v1_1) n x1_0 x1_1 x1_2)
def q2h (D:DX)(n:Nat) (go:Int→(tSch)×qe×Unit→Option ((Bool×Unit)×Unit)) (K0:Bool→(tSch)×qe×Unit→Option ((Bool×Unit)×Unit)) (K1:(tSch)×qe×Unit→Option ((Bool×Unit)×Unit)) (lp1:Int→Int→(tSch)×qe×Unit→Option ((Bool×Unit)×Unit)) (x0:Int) (x1:(tSch)×qe×Unit):Option ((Bool×Unit)×Unit):=br (decide (x0<(↑(List.length (Prod.fst (Prod.snd x1))):Int))) (br (decide (0≤x0)&&decide (x0<(↑(List.length (Prod.fst (Prod.snd x1))):Int))) (qi (qsz D (Prod.fst x1) (List.getD (Prod.fst (Prod.snd x1)) (Int.toNat x0) [])) fun b↦br (!Prod.fst (Prod.fst b)) (K0 false x1) (br (decide (x0>0)) (br (decide (0≤IntKind.wrap IntKind.i64 (x0 - 1))&&decide (IntKind.wrap IntKind.i64 (x0 - 1)<(↑(List.length (Prod.fst (Prod.snd x1))):Int))) (qi (qd7 D (Prod.fst x1) (List.getD (Prod.fst (Prod.snd x1)) (Int.toNat (IntKind.wrap IntKind.i64 (x0 - 1))) [])) fun b↦br (decide (0≤x0)&&decide (x0<(↑(List.length (Prod.fst (Prod.snd x1))):Int))) (qi (qd7 D (Prod.fst x1) (List.getD (Prod.fst (Prod.snd x1)) (Int.toNat x0) [])) fun b_1↦qi (qqb D (Prod.fst (Prod.fst b)) (Prod.fst (Prod.fst b_1))) fun b↦br (!Prod.fst (Prod.fst b)) (K0 false x1) (lp1 x0 0 x1)) none) none) (lp1 x0 0 x1))) none) (K1 x1)
def qf2 (D:DX)(n:Nat) (K0:Bool→(tSch)×qe×Unit→Option ((Bool×Unit)×Unit)) (K1:(tSch)×qe×Unit→Option ((Bool×Unit)×Unit)):Nat→(Int)→((tSch)×qe×Unit)→Option ((Bool×Unit)×Unit) | 0=>(fun x0 x1=>none) | m+1=>(fun x0 x1=>q2h D n (qf2 D n K0 K1 m) K0 K1 (q0c D n (qf2 D n K0 K1 m) K0 K1) x0 x1)
def qh2 (D:DX)(n:Nat) (v0_0:Bool) (v0_1:(tSch)×qe×Unit):Option ((Bool×Unit)×Unit):=some ((v0_0,()),())
def qgb (D:DX)(n:Nat) (v1_0:(tSch)×qe×Unit):Option ((Bool×Unit)×Unit):=qi (qr7 D (Prod.fst v1_0)) fun b↦some ((bif Prod.fst (Prod.fst b) then decide ((↑(List.length (Prod.fst (Prod.snd v1_0))):Int)≤12) else false,()),())
def qzo (D:DX)(n:Nat):(Int)→((tSch)×qe×Unit)→Option ((Bool×Unit)×Unit):=(fun x0 x1=>qf2 D n (fun v0_0 v0_1=>qh2 D n v0_0 v0_1) (fun v1_0=>qgb D n v1_0) n x0 x1)
def q5h (D:DX)(n:Nat) (lp0:Int→(tSch)×qe×Unit→Option ((Bool×Unit)×Unit)) (a0:(tSch)×qe×Unit):Option ((Bool×Unit)×Unit):=lp0 0 a0
def q5a (D:DX)(n:Nat) (a0:(tSch)×qe×Unit):Option ((Bool×Unit)×Unit):=q5h D n (qzo D n) a0
def qgs (x0:Int) (x1:(tSch)×qe×Unit):St:=stq 73 [(1,AV.addr 1 []),(3,avI x0)] [(1,Root.mk (Ty.pair yS (Ty.pair (Ty.sl (Ty.sl yV)) Ty.unit)) Mk.no x1 true)] 
def qhy (v0_0:Bool) (v0_1:(tSch)×qe×Unit):St:=stq 73 [(1,AV.addr 1 []),(2,AV.val Ty.bool v0_0)] [(1,Root.mk (Ty.pair yS (Ty.pair (Ty.sl (Ty.sl yV)) Ty.unit)) Mk.no v0_1 true)] 
def qhp (v1_0:(tSch)×qe×Unit):St:=stq 73 [(1,AV.addr 1 [])] [(1,Root.mk (Ty.pair yS (Ty.pair (Ty.sl (Ty.sl yV)) Ty.unit)) Mk.no v1_0 true)] 
def qmm (x1_0:Int) (x1_1:Int) (x1_2:(tSch)×qe×Unit):St:=stq 73 [(1,AV.addr 1 []),(3,avI x1_0),(4,avI x1_1)] [(1,Root.mk (Ty.pair yS (Ty.pair (Ty.sl (Ty.sl yV)) Ty.unit)) Mk.no x1_2 true)] 
def qrz (v0_0:Bool) (v0_1:Int) (v0_2:(tSch)×qe×Unit):St:=stq 73 [(1,AV.addr 1 []),(2,AV.val Ty.bool v0_0),(3,avI v0_1)] [(1,Root.mk (Ty.pair yS (Ty.pair (Ty.sl (Ty.sl yV)) Ty.unit)) Mk.no v0_2 true)] 
def qru (v1_0:Int) (v1_1:(tSch)×qe×Unit):St:=stq 73 [(1,AV.addr 1 []),(3,avI v1_0)] [(1,Root.mk (Ty.pair yS (Ty.pair (Ty.sl (Ty.sl yV)) Ty.unit)) Mk.no v1_1 true)] 
theorem qblk (D:DX)(n:Nat) (m:Nat) (K:Ex→St→Option (Out ctx 41)) (x1_0:Int) (x1_1:Int) (x1_2:(tSch)×
 qe×Unit) :
 LQ qc D n 41 [.r,.l,.r,.l,.l,.r,.l,.l,.r,.r,.l] (m+1) (qmm x1_0 x1_1 x1_2) K=q24 D n (fun x1_0 x1_1 x1_2=>LQ qc D n 41 [.r,.l,.r,.l,.l,.r,.l,.l,.r,.r,.l] m (qmm x1_0 x1_1 x1_2) K) (fun v0_0 v0_1 v0_2=>K (Ex.ret) (qrz v0_0 v0_1 v0_2)) (fun v1_0 v1_1=>K (Ex.exit 2) (qru v1_0 v1_1)) x1_0 x1_1 x1_2:=by kernel_rfl
theorem q7z (D:DX)(n:Nat) (K:Ex→St→Option (Out ctx 41)):∀ (m:Nat) (x1_0:Int) (x1_1:Int) (x1_2:(tSch)×
 qe×Unit),LQ qc D n 41 [.r,.l,.r,.l,.l,.r,.l,.l,.r,.r,.l] m (qmm x1_0 x1_1 x1_2) K=qmh D n (fun v0_0 v0_1 v0_2=>K (Ex.ret) (qrz v0_0 v0_1 v0_2)) (fun v1_0 v1_1=>K (Ex.exit 2) (qru v1_0 v1_1)) m x1_0 x1_1 x1_2
 | 0,x1_0,x1_1,x1_2=>qx ..
 | m+1,x1_0,x1_1,x1_2=>by
  have ih:(fun x1_0 x1_1 x1_2=>LQ qc D n 41 [.r,.l,.r,.l,.l,.r,.l,.l,.r,.r,.l] m (qmm x1_0 x1_1 x1_2) K)=qmh D n (fun v0_0 v0_1 v0_2=>K (Ex.ret) (qrz v0_0 v0_1 v0_2)) (fun v1_0 v1_1=>K (Ex.exit 2) (qru v1_0 v1_1)) m:=by funext x1_0 x1_1 x1_2;exact q7z D n K m x1_0 x1_1 x1_2
  rw[qblk]
  rw[ih];rfl
theorem qbjz (D:DX)(n:Nat) (m:Nat) (K:Ex→St→Option (Out ctx 41)) (v0_0:Bool) (v0_1:Int) (v0_2:(tSch)×
 qe×Unit) :
 (CQ qc D n 41 [.r,.l,.r,.l,.l] [.r,.l,.l,.r,.r,.l] (LK qc D n 41 [.r,.l,.r,.l] m K)) (Ex.ret) (qrz v0_0 v0_1 v0_2)=qxc D n (fun x0 x1=>LQ qc D n 41 [.r,.l,.r,.l] m (qgs x0 x1) K) (fun v0_0 v0_1=>K (Ex.ret) (qhy v0_0 v0_1)) (fun v1_0=>K (Ex.exit 0) (qhp v1_0)) v0_0 v0_1 v0_2:=by kernel_rfl
theorem qbj0 (D:DX)(n:Nat) (m:Nat) (K:Ex→St→Option (Out ctx 41)) (v1_0:Int) (v1_1:(tSch)×
 qe×Unit) :
 (CQ qc D n 41 [.r,.l,.r,.l,.l] [.r,.l,.l,.r,.r,.l] (LK qc D n 41 [.r,.l,.r,.l] m K)) (Ex.exit 2) (qru v1_0 v1_1)=qsf D n (fun x0 x1=>LQ qc D n 41 [.r,.l,.r,.l] m (qgs x0 x1) K) (fun v0_0 v0_1=>K (Ex.ret) (qhy v0_0 v0_1)) (fun v1_0=>K (Ex.exit 0) (qhp v1_0)) v1_0 v1_1:=by kernel_rfl
theorem qbht (D:DX)(n:Nat) (m:Nat) (K:Ex→St→Option (Out ctx 41)) (x1_0:Int) (x1_1:Int) (x1_2:(tSch)×
 qe×Unit) :
 LQ qc D n 41 [.r,.l,.r,.l,.l,.r,.l,.l,.r,.r,.l] n (qmm x1_0 x1_1 x1_2) (CQ qc D n 41 [.r,.l,.r,.l,.l] [.r,.l,.l,.r,.r,.l] (LK qc D n 41 [.r,.l,.r,.l] m K))=q0c D n (fun x0 x1=>LQ qc D n 41 [.r,.l,.r,.l] m (qgs x0 x1) K) (fun v0_0 v0_1=>K (Ex.ret) (qhy v0_0 v0_1)) (fun v1_0=>K (Ex.exit 0) (qhp v1_0)) x1_0 x1_1 x1_2:=by
 rw[q7z]
 simp only[qbjz,qbj0]
 rfl
theorem qbkb (D:DX)(n:Nat) (m:Nat) (K:Ex→St→Option (Out ctx 41)) (x0:Int) (x1:(tSch)×
 qe×Unit) :
 LQ qc D n 41 [.r,.l,.r,.l] (m+1) (qgs x0 x1) K=q2h D n (fun x0 x1=>LQ qc D n 41 [.r,.l,.r,.l] m (qgs x0 x1) K) (fun v0_0 v0_1=>K (Ex.ret) (qhy v0_0 v0_1)) (fun v1_0=>K (Ex.exit 0) (qhp v1_0)) (fun x1_0 x1_1 x1_2=>LQ qc D n 41 [.r,.l,.r,.l,.l,.r,.l,.l,.r,.r,.l] n (qmm x1_0 x1_1 x1_2) (CQ qc D n 41 [.r,.l,.r,.l,.l] [.r,.l,.l,.r,.r,.l] (LK qc D n 41 [.r,.l,.r,.l] m K))) x0 x1:=by kernel_rfl
theorem q72 (D:DX)(n:Nat) (K:Ex→St→Option (Out ctx 41)):∀ (m:Nat) (x0:Int) (x1:(tSch)×
 qe×Unit),LQ qc D n 41 [.r,.l,.r,.l] m (qgs x0 x1) K=qf2 D n (fun v0_0 v0_1=>K (Ex.ret) (qhy v0_0 v0_1)) (fun v1_0=>K (Ex.exit 0) (qhp v1_0)) m x0 x1
 | 0,x0,x1=>qx ..
 | m+1,x0,x1=>by
  have ih:(fun x0 x1=>LQ qc D n 41 [.r,.l,.r,.l] m (qgs x0 x1) K)=qf2 D n (fun v0_0 v0_1=>K (Ex.ret) (qhy v0_0 v0_1)) (fun v1_0=>K (Ex.exit 0) (qhp v1_0)) m:=by funext x0 x1;exact q72 D n K m x0 x1
  rw[qbkb]
  simp only[qbht]
  rw[ih];rfl
theorem qbhy (D:DX)(n:Nat) (v0_0:Bool) (v0_1:(tSch)×
 qe×Unit) :
 (CQ qc D n 41 [] [.r,.l,.r,.l] (qh qc 41)) (Ex.ret) (qhy v0_0 v0_1)=qh2 D n v0_0 v0_1:=by kernel_rfl
theorem qbho (D:DX)(n:Nat) (v1_0:(tSch)×
 qe×Unit) :
 (CQ qc D n 41 [] [.r,.l,.r,.l] (qh qc 41)) (Ex.exit 0) (qhp v1_0)=qgb D n v1_0:=by kernel_rfl
theorem qbjr (D:DX)(n:Nat) (x0:Int) (x1:(tSch)×
 qe×Unit) :
 LQ qc D n 41 [.r,.l,.r,.l] n (qgs x0 x1) (CQ qc D n 41 [] [.r,.l,.r,.l] (qh qc 41))=qzo D n x0 x1:=by
 rw[q72]
 simp only[qbhy,qbho]
 rfl
theorem qbou (D:DX)(n:Nat) (a0:(tSch)×
 qe×Unit):rfC qc D n 41 (a0,())=q5a D n a0:=by
 have h:rfC qc D n 41 (a0,())=q5h D n (fun x0 x1=>LQ qc D n 41 [.r,.l,.r,.l] n (qgs x0 x1) (CQ qc D n 41 [] [.r,.l,.r,.l] (qh qc 41))) a0:=by kernel_rfl
 rw[h]
 simp only[qbjr]
 rfl



def qbl3 (D:DX)(n:Nat) (a0:ByteArray×ByteArray×Unit) (a1:ByteArray×ByteArray×Unit):Option ((Bool×Unit)×Unit):=some ((bif Op.bytesLess (ByteArray.toList (Prod.fst a0)) (ByteArray.toList (Prod.fst a1)) then true else bif List.beq (ByteArray.toList (Prod.fst a0)) (ByteArray.toList (Prod.fst a1)) then Op.bytesLess (ByteArray.toList (Prod.fst (Prod.snd a0))) (ByteArray.toList (Prod.fst (Prod.snd a1))) else false,()),())
def q8a (D:DX)(n:Nat) (a0:ByteArray×ByteArray×Unit) (a1:ByteArray×ByteArray×Unit):Option ((Bool×Unit)×Unit):=qbl3 D n a0 a1
theorem qblb (D:DX)(n:Nat) (a0:ByteArray×ByteArray×Unit) (a1:ByteArray×ByteArray×Unit):rfC qc D n 50 (a0,(a1,()))=q8a D n a0 a1:=by kernel_rfl












def q2z (D:DX)(n:Nat) (go:List Int→Int→Int→Option ((tCur×Unit)×Unit)) (K0:List Int→Int→Option ((tCur×Unit)×Unit)) (x0:List Int) (x1:Int) (x2:Int):Option ((tCur×Unit)×Unit):=br (bif decide (x2<(↑(List.length x0):Int)) then decide (x2<4000) else false) (br (decide (0≤x2)&&decide (x2<(↑(List.length x0):Int))) (go x0 (IntKind.wrap IntKind.i64 (↑(BitVec.toNat (BitVec.and (BitVec.ofInt (IntKind.bits IntKind.i64) (IntKind.wrap IntKind.i64 (IntKind.wrap IntKind.i64 (IntKind.wrap IntKind.i64 (x1 * 131)+IntKind.wrap IntKind.i64 (List.getD x0 (Int.toNat x2) 0))+7))) (BitVec.ofInt (IntKind.bits IntKind.i64) 1073741823))):Int)) (IntKind.wrap IntKind.i64 (x2+1))) none) (K0 x0 x1)
def qmn (D:DX)(n:Nat) (K0:List Int→Int→Option ((tCur×Unit)×Unit)):Nat→(List Int)→(Int)→(Int)→Option ((tCur×Unit)×Unit) | 0=>(fun x0 x1 x2=>none) | m+1=>(fun x0 x1 x2=>q2z D n (qmn D n K0 m) K0 x0 x1 x2)
def qyc (D:DX)(n:Nat) (v0_0:List Int) (v0_1:Int):Option ((tCur×Unit)×Unit):=some (((v0_0,0,v0_1,()),()),())
def q0l (D:DX)(n:Nat):(List Int)→(Int)→(Int)→Option ((tCur×Unit)×Unit):=(fun x0 x1 x2=>qmn D n (fun v0_0 v0_1=>qyc D n v0_0 v0_1) n x0 x1 x2)
def q5m (D:DX)(n:Nat) (lp0:List Int→Int→Int→Option ((tCur×Unit)×Unit)) (a0:List Int):Option ((tCur×Unit)×Unit):=lp0 a0 (IntKind.wrap IntKind.i64 (27323+(↑(List.length a0):Int))) 0
def q51 (D:DX)(n:Nat) (a0:List Int):Option ((tCur×Unit)×Unit):=q5m D n (q0l D n) a0
def qms (x0:List Int) (x1:Int) (x2:Int):St:=stq 32 [(0,AV.val (Ty.sl (Ty.int IntKind.u8)) x0),(3,avI x1),(4,avI x2)] [] 
def qsc (v0_0:List Int) (v0_1:Int):St:=stq 32 [(0,AV.val (Ty.sl (Ty.int IntKind.u8)) v0_0),(3,avI v0_1)] [] 
theorem qblc (D:DX)(n:Nat) (m:Nat) (K:Ex→St→Option (Out ctx 65)) (x0:List Int) (x1:Int) (x2:Int) :
 LQ qc D n 65 [.r,.r,.l,.r,.l] (m+1) (qms x0 x1 x2) K=q2z D n (fun x0 x1 x2=>LQ qc D n 65 [.r,.r,.l,.r,.l] m (qms x0 x1 x2) K) (fun v0_0 v0_1=>K (Ex.exit 0) (qsc v0_0 v0_1)) x0 x1 x2:=by kernel_rfl
theorem q8c (D:DX)(n:Nat) (K:Ex→St→Option (Out ctx 65)):∀ (m:Nat) (x0:List Int) (x1:Int) (x2:Int),LQ qc D n 65 [.r,.r,.l,.r,.l] m (qms x0 x1 x2) K=qmn D n (fun v0_0 v0_1=>K (Ex.exit 0) (qsc v0_0 v0_1)) m x0 x1 x2
 | 0,x0,x1,x2=>qx ..
 | m+1,x0,x1,x2=>by
  have ih:(fun x0 x1 x2=>LQ qc D n 65 [.r,.r,.l,.r,.l] m (qms x0 x1 x2) K)=qmn D n (fun v0_0 v0_1=>K (Ex.exit 0) (qsc v0_0 v0_1)) m:=by funext x0 x1 x2;exact q8c D n K m x0 x1 x2
  rw[qblc]
  rw[ih];rfl
theorem qbib (D:DX)(n:Nat) (v0_0:List Int) (v0_1:Int) :
 (CQ qc D n 65 [] [.r,.r,.l,.r,.l] (qh qc 65)) (Ex.exit 0) (qsc v0_0 v0_1)=qyc D n v0_0 v0_1:=by kernel_rfl
theorem qbi6 (D:DX)(n:Nat) (x0:List Int) (x1:Int) (x2:Int) :
 LQ qc D n 65 [.r,.r,.l,.r,.l] n (qms x0 x1 x2) (CQ qc D n 65 [] [.r,.r,.l,.r,.l] (qh qc 65))=q0l D n x0 x1 x2:=by
 rw[q8c]
 simp only[qbib]
 rfl
theorem qbpu (D:DX)(n:Nat) (a0:List Int):rfC qc D n 65 (a0,())=q51 D n a0:=by
 have h:rfC qc D n 65 (a0,())=q5m D n (fun x0 x1 x2=>LQ qc D n 65 [.r,.r,.l,.r,.l] n (qms x0 x1 x2) (CQ qc D n 65 [] [.r,.r,.l,.r,.l] (qh qc 65))) a0:=by kernel_rfl
 rw[h]
 simp only[qbi6]
 rfl

def qqc (D:DX)(n:Nat) (go:Int→List Int×Int×Int×Unit→(tSch)×qe×Unit→(tSch)×qe×Unit→Option ((((tSch)×qe×Unit)×Unit)×tCur×Unit)) (K0:List Int×Int×Int×Unit→(tSch)×qe×Unit→(tSch)×qe×Unit→Option ((((tSch)×qe×Unit)×Unit)×tCur×Unit)) (x0:Int) (x1:List Int×Int×Int×Unit) (x2:(tSch)×qe×Unit) (x3:(tSch)×qe×Unit):Option ((((tSch)×qe×Unit)×Unit)×tCur×Unit):=qi (qda D x1 9) fun b↦br (decide (x0<Prod.fst (Prod.fst b))) (qi (qom D (Prod.fst (Prod.snd b)) (Prod.fst x3)) fun b↦qi (qda D (Prod.fst (Prod.snd b)) 6) fun b_1↦br (decide (Prod.fst (Prod.fst b_1)=0)) (qi (qd7 D (Prod.fst x3) (Prod.fst (Prod.fst b))) fun b↦qi (q2m D (Prod.fst x3,Prod.fst (Prod.snd x3),()) (Prod.fst (Prod.fst b))) fun b↦go (IntKind.wrap IntKind.i64 (x0+1)) (Prod.fst (Prod.snd b_1)) x2 (Prod.fst (Prod.fst (Prod.fst b)),Prod.fst (Prod.snd (Prod.fst (Prod.fst b))),())) (br (decide (Prod.fst (Prod.fst b_1)=1)) (qi (qzq D (Prod.fst x3,Prod.fst (Prod.snd x3),()) (Prod.fst (Prod.fst b))) fun b↦go (IntKind.wrap IntKind.i64 (x0+1)) (Prod.fst (Prod.snd b_1)) x2 (Prod.fst (Prod.fst (Prod.fst b)),Prod.fst (Prod.snd (Prod.fst (Prod.fst b))),())) (qi (q2n D (Prod.fst x3,Prod.fst (Prod.snd x3),()) (Prod.fst (Prod.fst b))) fun b↦go (IntKind.wrap IntKind.i64 (x0+1)) (Prod.fst (Prod.snd b_1)) x2 (Prod.fst (Prod.fst (Prod.fst b)),Prod.fst (Prod.snd (Prod.fst (Prod.fst b))),())))) (K0 (Prod.fst (Prod.snd b)) x2 x3)
def qf9 (D:DX)(n:Nat) (K0:List Int×Int×Int×Unit→(tSch)×qe×Unit→(tSch)×qe×Unit→Option ((((tSch)×qe×Unit)×Unit)×tCur×Unit)):Nat→(Int)→tCur→((tSch)×qe×Unit)→((tSch)×qe×Unit)→Option ((((tSch)×qe×Unit)×Unit)×tCur×Unit) | 0=>(fun x0 x1 x2 x3=>none) | m+1=>(fun x0 x1 x2 x3=>qqc D n (qf9 D n K0 m) K0 x0 x1 x2 x3)
def qn3 (D:DX)(n:Nat) (v0_0:List Int×Int×Int×Unit) (v0_1:(tSch)×qe×Unit) (v0_2:(tSch)×qe×Unit):Option ((((tSch)×qe×Unit)×Unit)×tCur×Unit):=some (((Prod.fst v0_2,Prod.fst (Prod.snd v0_2),()),()),v0_0,())
def qox (D:DX)(n:Nat):(Int)→tCur→((tSch)×qe×Unit)→((tSch)×qe×Unit)→Option ((((tSch)×qe×Unit)×Unit)×tCur×Unit):=(fun x0 x1 x2 x3=>qf9 D n (fun v0_0 v0_1 v0_2=>qn3 D n v0_0 v0_1 v0_2) n x0 x1 x2 x3)
def qrg (D:DX)(n:Nat) (lp0:Int→List Int×Int×Int×Unit→(tSch)×qe×Unit→(tSch)×qe×Unit→Option ((((tSch)×qe×Unit)×Unit)×tCur×Unit)) (a0:List Int×Int×Int×Unit):Option ((((tSch)×qe×Unit)×Unit)×tCur×Unit):=qi (qrq D a0) fun b↦qi (q2w D (Prod.fst (Prod.fst b))) fun b_1↦lp0 0 (Prod.fst (Prod.snd b)) (([],[],[],()),[],()) (Prod.fst (Prod.fst (Prod.fst b_1)),Prod.fst (Prod.snd (Prod.fst (Prod.fst b_1))),())
def qq9 (D:DX)(n:Nat) (a0:List Int×Int×Int×Unit):Option ((((tSch)×qe×Unit)×Unit)×tCur×Unit):=qrg D n (qox D n) a0
def qf5 (x0:Int) (x1:List Int×Int×Int×Unit) (x2:(tSch)×qe×Unit) (x3:(tSch)×qe×Unit):St:=stq 51 [(0,AV.addr 0 []),(2,AV.addr 2 []),(3,AV.addr 3 []),(5,avI x0)] [(0,Root.mk (Ty.pair (Ty.sl (Ty.int IntKind.u8)) (Ty.pair yI (Ty.pair yI Ty.unit))) Mk.no x1 true),(2,Root.mk (Ty.pair yS (Ty.pair (Ty.sl (Ty.sl yV)) Ty.unit)) (Mk.pr (Mk.pr (Mk.own 0 (Mk.pr Mk.no (Mk.pr Mk.no (Mk.pr Mk.no Mk.no)))) (Mk.pr (Mk.own 0 Mk.no) (Mk.pr (Mk.own 0 (Mk.pr Mk.no (Mk.pr (Mk.own 0 Mk.no) (Mk.pr Mk.no Mk.no)))) Mk.no))) (Mk.pr (Mk.own 0 (Mk.own 0 (Mk.pr Mk.no (Mk.pr Mk.no (Mk.pr Mk.no Mk.no))))) Mk.no)) x2 true),(3,Root.mk (Ty.pair yS (Ty.pair (Ty.sl (Ty.sl yV)) Ty.unit)) (Mk.pr Mk.no (Mk.pr (Mk.own 0 Mk.no) Mk.no)) x3 true)] 
def qjs (v0_0:List Int×Int×Int×Unit) (v0_1:(tSch)×qe×Unit) (v0_2:(tSch)×qe×Unit):St:=stq 51 [(0,AV.addr 0 []),(2,AV.addr 2 []),(3,AV.addr 3 [])] [(0,Root.mk (Ty.pair (Ty.sl (Ty.int IntKind.u8)) (Ty.pair yI (Ty.pair yI Ty.unit))) Mk.no v0_0 true),(2,Root.mk (Ty.pair yS (Ty.pair (Ty.sl (Ty.sl yV)) Ty.unit)) (Mk.pr (Mk.pr (Mk.own 0 (Mk.pr Mk.no (Mk.pr Mk.no (Mk.pr Mk.no Mk.no)))) (Mk.pr (Mk.own 0 Mk.no) (Mk.pr (Mk.own 0 (Mk.pr Mk.no (Mk.pr (Mk.own 0 Mk.no) (Mk.pr Mk.no Mk.no)))) Mk.no))) (Mk.pr (Mk.own 0 (Mk.own 0 (Mk.pr Mk.no (Mk.pr Mk.no (Mk.pr Mk.no Mk.no))))) Mk.no)) v0_1 true),(3,Root.mk (Ty.pair yS (Ty.pair (Ty.sl (Ty.sl yV)) Ty.unit)) (Mk.pr Mk.no (Mk.pr (Mk.own 0 Mk.no) Mk.no)) v0_2 true)] 
theorem q8o (D:DX)(n:Nat) (m:Nat) (K:Ex→St→Option (Out ctx 66)) (x0:Int) (x1:List Int×Int×Int×Unit) (x2:(tSch)×
 qe×Unit) (x3:(tSch)×
 qe×Unit) :
 LQ qc D n 66 [.r,.r,.l,.r,.l] (m+1) (qf5 x0 x1 x2 x3) K=qqc D n (fun x0 x1 x2 x3=>LQ qc D n 66 [.r,.r,.l,.r,.l] m (qf5 x0 x1 x2 x3) K) (fun v0_0 v0_1 v0_2=>K (Ex.exit 0) (qjs v0_0 v0_1 v0_2)) x0 x1 x2 x3:=by kernel_rfl
theorem qwv (D:DX)(n:Nat) (K:Ex→St→Option (Out ctx 66)):∀ (m:Nat) (x0:Int) (x1:List Int×Int×Int×Unit) (x2:(tSch)×
 qe×Unit) (x3:(tSch)×
 qe×Unit),LQ qc D n 66 [.r,.r,.l,.r,.l] m (qf5 x0 x1 x2 x3) K=qf9 D n (fun v0_0 v0_1 v0_2=>K (Ex.exit 0) (qjs v0_0 v0_1 v0_2)) m x0 x1 x2 x3
 | 0,x0,x1,x2,x3=>qx ..
 | m+1,x0,x1,x2,x3=>by
  have ih:(fun x0 x1 x2 x3=>LQ qc D n 66 [.r,.r,.l,.r,.l] m (qf5 x0 x1 x2 x3) K)=qf9 D n (fun v0_0 v0_1 v0_2=>K (Ex.exit 0) (qjs v0_0 v0_1 v0_2)) m:=by funext x0 x1 x2 x3;exact qwv D n K m x0 x1 x2 x3
  rw[q8o]
  rw[ih];rfl
theorem q67 (D:DX)(n:Nat) (v0_0:List Int×Int×Int×Unit) (v0_1:(tSch)×
 qe×Unit) (v0_2:(tSch)×
 qe×Unit) :
 (CQ qc D n 66 [] [.r,.r,.l,.r,.l] (qh qc 66)) (Ex.exit 0) (qjs v0_0 v0_1 v0_2)=qn3 D n v0_0 v0_1 v0_2:=by kernel_rfl
theorem q7f (D:DX)(n:Nat) (x0:Int) (x1:List Int×Int×Int×Unit) (x2:(tSch)×
 qe×Unit) (x3:(tSch)×
 qe×Unit) :
 LQ qc D n 66 [.r,.r,.l,.r,.l] n (qf5 x0 x1 x2 x3) (CQ qc D n 66 [] [.r,.r,.l,.r,.l] (qh qc 66))=qox D n x0 x1 x2 x3:=by
 rw[qwv]
 simp only[q67]
 rfl
theorem qbat (D:DX)(n:Nat) (a0:List Int×Int×Int×Unit):rfC qc D n 66 (a0,())=qq9 D n a0:=by
 have h:rfC qc D n 66 (a0,())=qrg D n (fun x0 x1 x2 x3=>LQ qc D n 66 [.r,.r,.l,.r,.l] n (qf5 x0 x1 x2 x3) (CQ qc D n 66 [] [.r,.r,.l,.r,.l] (qh qc 66))) a0:=by kernel_rfl
 rw[h]
 simp only[q7f]
 rfl

def q28 (D:DX)(n:Nat) (a0:List Int×Int×Int×Unit) (a1:(tSch)×qe×Unit):Option ((qd×Unit)×tCur×Unit):=qi (qom D a0 (Prod.fst a1)) fun b↦br (bif decide ((↑(List.length (Prod.fst (Prod.snd a1))):Int)>0) then decide ((↑(List.length (Prod.fst (Prod.fst b))):Int)>0) else false) (qi (qkx D (Prod.fst (Prod.snd b)) 2) fun b_1↦br (Prod.fst (Prod.fst b_1)) (qi (qda D (Prod.fst (Prod.snd b_1)) (↑(List.length (Prod.fst (Prod.snd a1))):Int)) fun b_2↦br (decide (0≤Prod.fst (Prod.fst b_2))&&decide (Prod.fst (Prod.fst b_2)<(↑(List.length (Prod.fst (Prod.snd a1))):Int))) (br (decide ((↑(List.length (List.getD (Prod.fst (Prod.snd a1)) (Int.toNat (Prod.fst (Prod.fst b_2))) [])):Int)>0)) (br (decide (0≤0)&&decide (0<(↑(List.length (List.getD (Prod.fst (Prod.snd a1)) (Int.toNat (Prod.fst (Prod.fst b_2))) [])):Int))) (br (decide (0≤0)&&decide (0<(↑(List.length (Prod.fst (Prod.fst b))):Int))) (some ((List.set (Prod.fst (Prod.fst b)) 0 (List.getD (List.getD (Prod.fst (Prod.snd a1)) (Int.toNat (Prod.fst (Prod.fst b_2))) []) (Int.toNat 0) (0,0,ByteArray.empty,())),()),Prod.fst (Prod.snd b_2),())) none) none) (some ((Prod.fst (Prod.fst b),()),Prod.fst (Prod.snd b_2),()))) none) (some ((Prod.fst (Prod.fst b),()),Prod.fst (Prod.snd b_1),()))) (some ((Prod.fst (Prod.fst b),()),Prod.fst (Prod.snd b),()))
def qum (D:DX)(n:Nat) (a0:List Int×Int×Int×Unit) (a1:(tSch)×qe×Unit):Option ((qd×Unit)×tCur×Unit):=q28 D n a0 a1
theorem qbdr (D:DX)(n:Nat) (a0:List Int×Int×Int×Unit) (a1:(tSch)×
 qe×Unit):rfC qc D n 67 (a0,(a1,()))=qum D n a0 a1:=by kernel_rfl

def q7l (D:DX)(n:Nat) (a0:Int) (a1:Int) (a2:Int):Option ((Bool×Unit)×Unit):=some ((bif decide (a0≥a1) then decide (a0≤a2) else false,()),())
def q1b (D:DX)(n:Nat) (a0:Int) (a1:Int) (a2:Int):Option ((Bool×Unit)×Unit):=q7l D n a0 a1 a2
theorem qbrd (D:DX)(n:Nat) (a0:Int) (a1:Int) (a2:Int):rfC qc D n 68 (a0,(a1,(a2,())))=q1b D n a0 a1 a2:=by kernel_rfl

def qbjw (D:DX)(n:Nat) (a0:tSch) (a1:Int) (a2:qd):Option ((tWay×Unit)×Unit):=br (decide (0≤a1)&&decide (a1<(↑(List.length (Prod.fst (Prod.snd (Prod.snd a0)))):Int))) (qi (qlp D a2 (Prod.fst (Prod.snd (List.getD (Prod.fst (Prod.snd (Prod.snd a0))) (Int.toNat a1) (ByteArray.empty,[],false,()))))) fun b↦qi (qok D (Prod.fst (Prod.fst b))) fun b↦qi (qmv D a0 a2) fun b_1↦qi (qok D (Prod.fst (Prod.fst b_1))) fun b_2↦some (((ByteArray.mk (List.toArray (List.map (fun n↦UInt8.ofNat (Int.toNat n)) (Prod.fst (Prod.fst b)))),ByteArray.mk (List.toArray (List.map (fun n↦UInt8.ofNat (Int.toNat n)) (Prod.fst (Prod.fst b_2)))),()),()),())) none
def q91 (D:DX)(n:Nat) (a0:tSch) (a1:Int) (a2:qd):Option ((tWay×Unit)×Unit):=qbjw D n a0 a1 a2
theorem qbsw (D:DX)(n:Nat) (a0:tSch) (a1:Int) (a2:qd):rfC qc D n 69 (a0,(a1,(a2,())))=q91 D n a0 a1 a2:=by kernel_rfl

def qwg (D:DX)(n:Nat) (go:List (ByteArray×List Int×Unit)→Int→Int→List Int×List (ByteArray×List Int×Unit)×Unit→List Int×List (ByteArray×List Int×Unit)×Unit→Option (((List Int×List (ByteArray×List Int×Unit)×Unit)×Unit)×Unit)) (K0:List Int×List (ByteArray×List Int×Unit)×Unit→List Int×List (ByteArray×List Int×Unit)×Unit→Option (((List Int×List (ByteArray×List Int×Unit)×Unit)×Unit)×Unit)) (x0:List (ByteArray×List Int×Unit)) (x1:Int) (x2:Int) (x3:List Int×List (ByteArray×List Int×Unit)×Unit) (x4:List Int×List (ByteArray×List Int×Unit)×Unit):Option (((List Int×List (ByteArray×List Int×Unit)×Unit)×Unit)×Unit):=br (decide (x2<x1)) (br (decide (0≤x2)&&decide (x2<(↑(List.length x0):Int))) (qi (qjn D (Prod.fst (Prod.snd (List.getD x0 (Int.toNat x2) (ByteArray.empty,[],()))))) fun b↦br (decide (List.length (Prod.fst (Prod.snd x4))+1≤qbi)) (go x0 x1 (IntKind.wrap IntKind.i64 (x2+1)) x3 (Prod.fst x4,Prod.fst (Prod.snd x4)++[(Prod.fst (List.getD x0 (Int.toNat x2) (ByteArray.empty,[],())),Prod.fst (Prod.fst b),())],Prod.snd (Prod.snd x4))) none) none) (K0 x3 x4)
def qjh (D:DX)(n:Nat) (K0:List Int×List (ByteArray×List Int×Unit)×Unit→List Int×List (ByteArray×List Int×Unit)×Unit→Option (((List Int×List (ByteArray×List Int×Unit)×Unit)×Unit)×Unit)):Nat→(List (ByteArray×List Int×Unit))→(Int)→(Int)→(List Int×List (ByteArray×List Int×Unit)×Unit)→(List Int×List (ByteArray×List Int×Unit)×Unit)→Option (((List Int×List (ByteArray×List Int×Unit)×Unit)×Unit)×Unit) | 0=>(fun x0 x1 x2 x3 x4=>none) | m+1=>(fun x0 x1 x2 x3 x4=>qwg D n (qjh D n K0 m) K0 x0 x1 x2 x3 x4)
def qmx (D:DX)(n:Nat) (v0_0:List Int×List (ByteArray×List Int×Unit)×Unit) (v0_1:List Int×List (ByteArray×List Int×Unit)×Unit):Option (((List Int×List (ByteArray×List Int×Unit)×Unit)×Unit)×Unit):=some (((Prod.fst v0_1,Prod.fst (Prod.snd v0_1),()),()),())
def qt7 (D:DX)(n:Nat):(List (ByteArray×List Int×Unit))→(Int)→(Int)→(List Int×List (ByteArray×List Int×Unit)×Unit)→(List Int×List (ByteArray×List Int×Unit)×Unit)→Option (((List Int×List (ByteArray×List Int×Unit)×Unit)×Unit)×Unit):=(fun x0 x1 x2 x3 x4=>qjh D n (fun v0_0 v0_1=>qmx D n v0_0 v0_1) n x0 x1 x2 x3 x4)
def qxz (D:DX)(n:Nat) (lp0:List (ByteArray×List Int×Unit)→Int→Int→List Int×List (ByteArray×List Int×Unit)×Unit→List Int×List (ByteArray×List Int×Unit)×Unit→Option (((List Int×List (ByteArray×List Int×Unit)×Unit)×Unit)×Unit)) (a0:List Int×List (ByteArray×List Int×Unit)×Unit):Option (((List Int×List (ByteArray×List Int×Unit)×Unit)×Unit)×Unit):=qi (qjn D (Prod.fst a0)) fun b↦lp0 (Prod.fst (Prod.snd a0)) (↑(List.length (Prod.fst (Prod.snd a0))):Int) 0 ([],[],()) (Prod.fst (Prod.fst b),[],())
def qxr (D:DX)(n:Nat) (a0:List Int×List (ByteArray×List Int×Unit)×Unit):Option (((List Int×List (ByteArray×List Int×Unit)×Unit)×Unit)×Unit):=qxz D n (qt7 D n) a0
def qi2 (x0:List (ByteArray×List Int×Unit)) (x1:Int) (x2:Int) (x3:List Int×List (ByteArray×List Int×Unit)×Unit) (x4:List Int×List (ByteArray×List Int×Unit)×Unit):St:=stq 30 [(2,AV.addr 2 []),(3,AV.addr 3 []),(11,AV.val (Ty.sl (Ty.pair Ty.str (Ty.pair (Ty.sl yI) Ty.unit))) x0),(12,avI x1),(13,avI x2)] [(2,Root.mk (Ty.pair (Ty.sl yI) (Ty.pair (Ty.sl (Ty.pair Ty.str (Ty.pair (Ty.sl yI) Ty.unit))) Ty.unit)) (Mk.pr (Mk.own 0 Mk.no) (Mk.pr (Mk.own 0 (Mk.pr Mk.no (Mk.pr (Mk.own 0 Mk.no) Mk.no))) Mk.no)) x3 true),(3,Root.mk (Ty.pair (Ty.sl yI) (Ty.pair (Ty.sl (Ty.pair Ty.str (Ty.pair (Ty.sl yI) Ty.unit))) Ty.unit)) (Mk.pr (Mk.own 0 Mk.no) (Mk.pr (Mk.own 0 (Mk.pr Mk.no (Mk.pr (Mk.own 0 Mk.no) Mk.no))) Mk.no)) x4 true)] 
def qm6 (v0_0:List Int×List (ByteArray×List Int×Unit)×Unit) (v0_1:List Int×List (ByteArray×List Int×Unit)×Unit):St:=stq 30 [(2,AV.addr 2 []),(3,AV.addr 3 [])] [(2,Root.mk (Ty.pair (Ty.sl yI) (Ty.pair (Ty.sl (Ty.pair Ty.str (Ty.pair (Ty.sl yI) Ty.unit))) Ty.unit)) (Mk.pr (Mk.own 0 Mk.no) (Mk.pr (Mk.own 0 (Mk.pr Mk.no (Mk.pr (Mk.own 0 Mk.no) Mk.no))) Mk.no)) v0_0 true),(3,Root.mk (Ty.pair (Ty.sl yI) (Ty.pair (Ty.sl (Ty.pair Ty.str (Ty.pair (Ty.sl yI) Ty.unit))) Ty.unit)) (Mk.pr (Mk.own 0 Mk.no) (Mk.pr (Mk.own 0 (Mk.pr Mk.no (Mk.pr (Mk.own 0 Mk.no) Mk.no))) Mk.no)) v0_1 true)] 
theorem qbeq (D:DX)(n:Nat) (m:Nat) (K:Ex→St→Option (Out ctx 70)) (x0:List (ByteArray×List Int×Unit)) (x1:Int) (x2:Int) (x3:List Int×List (ByteArray×List Int×Unit)×Unit) (x4:List Int×List (ByteArray×List Int×Unit)×Unit) :
 LQ qc D n 70 [.r,.r,.l,.r,.l] (m+1) (qi2 x0 x1 x2 x3 x4) K=qwg D n (fun x0 x1 x2 x3 x4=>LQ qc D n 70 [.r,.r,.l,.r,.l] m (qi2 x0 x1 x2 x3 x4) K) (fun v0_0 v0_1=>K (Ex.exit 0) (qm6 v0_0 v0_1)) x0 x1 x2 x3 x4:=by kernel_rfl
theorem q3a (D:DX)(n:Nat) (K:Ex→St→Option (Out ctx 70)):∀ (m:Nat) (x0:List (ByteArray×List Int×Unit)) (x1:Int) (x2:Int) (x3:List Int×List (ByteArray×List Int×Unit)×Unit) (x4:List Int×List (ByteArray×List Int×Unit)×Unit),LQ qc D n 70 [.r,.r,.l,.r,.l] m (qi2 x0 x1 x2 x3 x4) K=qjh D n (fun v0_0 v0_1=>K (Ex.exit 0) (qm6 v0_0 v0_1)) m x0 x1 x2 x3 x4
 | 0,x0,x1,x2,x3,x4=>qx ..
 | m+1,x0,x1,x2,x3,x4=>by
  have ih:(fun x0 x1 x2 x3 x4=>LQ qc D n 70 [.r,.r,.l,.r,.l] m (qi2 x0 x1 x2 x3 x4) K)=qjh D n (fun v0_0 v0_1=>K (Ex.exit 0) (qm6 v0_0 v0_1)) m:=by funext x0 x1 x2 x3 x4;exact q3a D n K m x0 x1 x2 x3 x4
  rw[qbeq]
  rw[ih];rfl
theorem qbb6 (D:DX)(n:Nat) (v0_0:List Int×List (ByteArray×List Int×Unit)×Unit) (v0_1:List Int×List (ByteArray×List Int×Unit)×Unit) :
 (CQ qc D n 70 [] [.r,.r,.l,.r,.l] (qh qc 70)) (Ex.exit 0) (qm6 v0_0 v0_1)=qmx D n v0_0 v0_1:=by kernel_rfl
theorem qbcq (D:DX)(n:Nat) (x0:List (ByteArray×List Int×Unit)) (x1:Int) (x2:Int) (x3:List Int×List (ByteArray×List Int×Unit)×Unit) (x4:List Int×List (ByteArray×List Int×Unit)×Unit) :
 LQ qc D n 70 [.r,.r,.l,.r,.l] n (qi2 x0 x1 x2 x3 x4) (CQ qc D n 70 [] [.r,.r,.l,.r,.l] (qh qc 70))=qt7 D n x0 x1 x2 x3 x4:=by
 rw[q3a]
 simp only[qbb6]
 rfl
theorem qbja (D:DX)(n:Nat) (a0:List Int×List (ByteArray×List Int×Unit)×Unit):rfC qc D n 70 (a0,())=qxr D n a0:=by
 have h:rfC qc D n 70 (a0,())=qxz D n (fun x0 x1 x2 x3 x4=>LQ qc D n 70 [.r,.r,.l,.r,.l] n (qi2 x0 x1 x2 x3 x4) (CQ qc D n 70 [] [.r,.r,.l,.r,.l] (qh qc 70))) a0:=by kernel_rfl
 rw[h]
 simp only[qbcq]
 rfl

def qy9 (D:DX)(n:Nat) (go:Int→Int→Int→List Int×List (ByteArray×List Int×Unit)×Unit→List Int→List Int→Option ((Bool×Unit)×Unit)) (K0:Int→List Int×List (ByteArray×List Int×Unit)×Unit→List Int→Option ((Bool×Unit)×Unit)) (x1_0:Int) (x1_1:Int) (x1_2:Int) (x1_3:List Int×List (ByteArray×List Int×Unit)×Unit) (x1_4:List Int) (x1_5:List Int):Option ((Bool×Unit)×Unit):=br (decide (x1_2<x1_1)) (br (decide (0≤x1_2)&&decide (x1_2<(↑(List.length x1_5):Int))) (br (decide (0≤List.getD x1_5 (Int.toNat x1_2) 0)&&decide (List.getD x1_5 (Int.toNat x1_2) 0<(↑(List.length x1_4):Int))) (br (decide (0≤List.getD x1_5 (Int.toNat x1_2) 0)&&decide (List.getD x1_5 (Int.toNat x1_2) 0<(↑(List.length x1_4):Int))) (go x1_0 x1_1 (IntKind.wrap IntKind.i64 (x1_2+1)) x1_3 (List.set x1_4 (Int.toNat (List.getD x1_5 (Int.toNat x1_2) 0)) (IntKind.wrap IntKind.i64 (List.getD x1_4 (Int.toNat (List.getD x1_5 (Int.toNat x1_2) 0)) 0+1))) x1_5) none) none) none) (K0 x1_0 x1_3 x1_4)
def qlc (D:DX)(n:Nat) (K0:Int→List Int×List (ByteArray×List Int×Unit)×Unit→List Int→Option ((Bool×Unit)×Unit)):Nat→(Int)→(Int)→(Int)→(List Int×List (ByteArray×List Int×Unit)×Unit)→(List Int)→(List Int)→Option ((Bool×Unit)×Unit) | 0=>(fun x1_0 x1_1 x1_2 x1_3 x1_4 x1_5=>none) | m+1=>(fun x1_0 x1_1 x1_2 x1_3 x1_4 x1_5=>qy9 D n (qlc D n K0 m) K0 x1_0 x1_1 x1_2 x1_3 x1_4 x1_5)
def qqh (D:DX)(n:Nat) (go:Int→List Int×List (ByteArray×List Int×Unit)×Unit→List Int→Option ((Bool×Unit)×Unit)) (K0:Bool→List Int×List (ByteArray×List Int×Unit)×Unit→List Int→Option ((Bool×Unit)×Unit)) (K1:List Int×List (ByteArray×List Int×Unit)×Unit→List Int→Option ((Bool×Unit)×Unit)) (v0_0:Int) (v0_1:List Int×List (ByteArray×List Int×Unit)×Unit) (v0_2:List Int):Option ((Bool×Unit)×Unit):=go (IntKind.wrap IntKind.i64 (v0_0+1)) v0_1 v0_2
def qr1 (D:DX)(n:Nat) (go:Int→List Int×List (ByteArray×List Int×Unit)×Unit→List Int→Option ((Bool×Unit)×Unit)) (K0:Bool→List Int×List (ByteArray×List Int×Unit)×Unit→List Int→Option ((Bool×Unit)×Unit)) (K1:List Int×List (ByteArray×List Int×Unit)×Unit→List Int→Option ((Bool×Unit)×Unit)):(Int)→(Int)→(Int)→(List Int×List (ByteArray×List Int×Unit)×Unit)→(List Int)→(List Int)→Option ((Bool×Unit)×Unit):=(fun x1_0 x1_1 x1_2 x1_3 x1_4 x1_5=>qlc D n (fun v0_0 v0_1 v0_2=>qqh D n go K0 K1 v0_0 v0_1 v0_2) n x1_0 x1_1 x1_2 x1_3 x1_4 x1_5)
def qty (D:DX)(n:Nat) (go:Int→List Int×List (ByteArray×List Int×Unit)×Unit→List Int→Option ((Bool×Unit)×Unit)) (K0:Bool→List Int×List (ByteArray×List Int×Unit)×Unit→List Int→Option ((Bool×Unit)×Unit)) (K1:List Int×List (ByteArray×List Int×Unit)×Unit→List Int→Option ((Bool×Unit)×Unit)) (lp1:Int→Int→Int→List Int×List (ByteArray×List Int×Unit)×Unit→List Int→List Int→Option ((Bool×Unit)×Unit)) (x0:Int) (x1:List Int×List (ByteArray×List Int×Unit)×Unit) (x2:List Int):Option ((Bool×Unit)×Unit):=br (decide (x0<4)) (qi (qu8 D x1 x0) fun b↦br (!Prod.fst (Prod.snd (Prod.fst b))) (K0 false x1 x2) (lp1 x0 (↑(List.length (Prod.fst (Prod.fst b))):Int) 0 x1 x2 (Prod.fst (Prod.fst b)))) (K1 x1 x2)
def qdn (D:DX)(n:Nat) (K0:Bool→List Int×List (ByteArray×List Int×Unit)×Unit→List Int→Option ((Bool×Unit)×Unit)) (K1:List Int×List (ByteArray×List Int×Unit)×Unit→List Int→Option ((Bool×Unit)×Unit)):Nat→(Int)→(List Int×List (ByteArray×List Int×Unit)×Unit)→(List Int)→Option ((Bool×Unit)×Unit) | 0=>(fun x0 x1 x2=>none) | m+1=>(fun x0 x1 x2=>qty D n (qdn D n K0 K1 m) K0 K1 (qr1 D n (qdn D n K0 K1 m) K0 K1) x0 x1 x2)
def qv5 (D:DX)(n:Nat) (v0_0:Bool) (v0_1:List Int×List (ByteArray×List Int×Unit)×Unit) (v0_2:List Int):Option ((Bool×Unit)×Unit):=some ((v0_0,()),())
def qzc (D:DX)(n:Nat) (go:List (ByteArray×List Int×Unit)→Int→Int→List Int→Option ((Bool×Unit)×Unit)) (K0:Bool→Option ((Bool×Unit)×Unit)) (K1:Option ((Bool×Unit)×Unit)) (x2_0:List (ByteArray×List Int×Unit)) (x2_1:Int) (x2_2:Int) (x2_3:List Int):Option ((Bool×Unit)×Unit):=br (decide (x2_2<x2_1)) (br (decide (0≤x2_2)&&decide (x2_2<(↑(List.length x2_0):Int))) (br (decide (0≤x2_2)&&decide (x2_2<(↑(List.length x2_3):Int))) (br (decide (List.getD x2_3 (Int.toNat x2_2) 0>0)) (qi (qhu D (Prod.fst (List.getD x2_0 (Int.toNat x2_2) (ByteArray.empty,[],())))) fun b↦br ((↑(List.length (Prod.fst (Prod.snd (List.getD x2_0 (Int.toNat x2_2) (ByteArray.empty,[],()))))):Int) != Prod.fst (Prod.fst b)) (K0 false) (br (decide (0≤x2_2)&&decide (x2_2<(↑(List.length x2_3):Int))) (br (List.getD x2_3 (Int.toNat x2_2) 0 != (↑(List.length (Prod.fst (Prod.snd (List.getD x2_0 (Int.toNat x2_2) (ByteArray.empty,[],()))))):Int)) (K0 false) (go x2_0 x2_1 (IntKind.wrap IntKind.i64 (x2_2+1)) x2_3)) none)) (go x2_0 x2_1 (IntKind.wrap IntKind.i64 (x2_2+1)) x2_3)) none) none) K1
def qlo (D:DX)(n:Nat) (K0:Bool→Option ((Bool×Unit)×Unit)) (K1:Option ((Bool×Unit)×Unit)):Nat→(List (ByteArray×List Int×Unit))→(Int)→(Int)→(List Int)→Option ((Bool×Unit)×Unit) | 0=>(fun x2_0 x2_1 x2_2 x2_3=>none) | m+1=>(fun x2_0 x2_1 x2_2 x2_3=>qzc D n (qlo D n K0 K1 m) K0 K1 x2_0 x2_1 x2_2 x2_3)
def qwd (D:DX)(n:Nat) (v0_0:Bool):Option ((Bool×Unit)×Unit):=some ((v0_0,()),())
def qwc (D:DX)(n:Nat):Option ((Bool×Unit)×Unit):=some ((true,()),())
def qr9 (D:DX)(n:Nat):(List (ByteArray×List Int×Unit))→(Int)→(Int)→(List Int)→Option ((Bool×Unit)×Unit):=(fun x2_0 x2_1 x2_2 x2_3=>qlo D n (fun v0_0=>qwd D n v0_0) (qwc D n) n x2_0 x2_1 x2_2 x2_3)
def qpx (D:DX)(n:Nat) (lp2:List (ByteArray×List Int×Unit)→Int→Int→List Int→Option ((Bool×Unit)×Unit)) (v1_0:List Int×List (ByteArray×List Int×Unit)×Unit) (v1_1:List Int):Option ((Bool×Unit)×Unit):=lp2 (Prod.fst (Prod.snd v1_0)) (↑(List.length (Prod.fst (Prod.snd v1_0))):Int) 0 v1_1
def qx2 (D:DX)(n:Nat):(Int)→(List Int×List (ByteArray×List Int×Unit)×Unit)→(List Int)→Option ((Bool×Unit)×Unit):=(fun x0 x1 x2=>qdn D n (fun v0_0 v0_1 v0_2=>qv5 D n v0_0 v0_1 v0_2) (fun v1_0 v1_1=>qpx D n (qr9 D n) v1_0 v1_1) n x0 x1 x2)
def q2u (D:DX)(n:Nat) (lp0:Int→List Int×List (ByteArray×List Int×Unit)×Unit→List Int→Option ((Bool×Unit)×Unit)) (a0:List Int×List (ByteArray×List Int×Unit)×Unit):Option ((Bool×Unit)×Unit):=br (bif (↑(List.length (Prod.fst a0)):Int) != 4 then true else decide ((↑(List.length (Prod.fst (Prod.snd a0))):Int)>40)) (some ((false,()),())) (br (decide (0≤(↑(List.length (Prod.fst (Prod.snd a0))):Int))&&decide ((↑(List.length (Prod.fst (Prod.snd a0))):Int)≤(↑(List.length (Prod.fst (Prod.snd a0))):Int))&&decide ((↑(List.length (Prod.fst (Prod.snd a0))):Int)≤(↑qbi:Int))) (lp0 0 a0 (List.replicate (Int.toNat (↑(List.length (Prod.fst (Prod.snd a0))):Int)) 0)) none)
def q15 (D:DX)(n:Nat) (a0:List Int×List (ByteArray×List Int×Unit)×Unit):Option ((Bool×Unit)×Unit):=q2u D n (qx2 D n) a0
def qha (x0:Int) (x1:List Int×List (ByteArray×List Int×Unit)×Unit) (x2:List Int):St:=stq 83 [(1,AV.addr 1 []),(3,AV.brw 3 [] 0),(25,avI x0)] [(1,Root.mk (Ty.pair (Ty.sl yI) (Ty.pair (Ty.sl (Ty.pair Ty.str (Ty.pair (Ty.sl yI) Ty.unit))) Ty.unit)) Mk.no x1 true),(3,Root.mk (Ty.sl yI) (Mk.own 0 Mk.no) x2 false)] 
def qi7 (v0_0:Bool) (v0_1:List Int×List (ByteArray×List Int×Unit)×Unit) (v0_2:List Int):St:=stq 83 [(1,AV.addr 1 []),(2,AV.val Ty.bool v0_0),(3,AV.brw 3 [] 0)] [(1,Root.mk (Ty.pair (Ty.sl yI) (Ty.pair (Ty.sl (Ty.pair Ty.str (Ty.pair (Ty.sl yI) Ty.unit))) Ty.unit)) Mk.no v0_1 true),(3,Root.mk (Ty.sl yI) (Mk.own 0 Mk.no) v0_2 false)] 
def qi0 (v1_0:List Int×List (ByteArray×List Int×Unit)×Unit) (v1_1:List Int):St:=stq 83 [(1,AV.addr 1 []),(3,AV.brw 3 [] 0)] [(1,Root.mk (Ty.pair (Ty.sl yI) (Ty.pair (Ty.sl (Ty.pair Ty.str (Ty.pair (Ty.sl yI) Ty.unit))) Ty.unit)) Mk.no v1_0 true),(3,Root.mk (Ty.sl yI) (Mk.own 0 Mk.no) v1_1 false)] 
def qld (x1_0:Int) (x1_1:Int) (x1_2:Int) (x1_3:List Int×List (ByteArray×List Int×Unit)×Unit) (x1_4:List Int) (x1_5:List Int):St:=stq 83 [(1,AV.addr 1 []),(3,AV.brw 3 [] 0),(25,avI x1_0),(36,AV.brw 5 [] 0),(37,avI x1_1),(38,avI x1_2)] [(1,Root.mk (Ty.pair (Ty.sl yI) (Ty.pair (Ty.sl (Ty.pair Ty.str (Ty.pair (Ty.sl yI) Ty.unit))) Ty.unit)) Mk.no x1_3 true),(3,Root.mk (Ty.sl yI) (Mk.own 0 Mk.no) x1_4 false),(5,Root.mk (Ty.sl yI) (Mk.own 0 Mk.no) x1_5 false)] 
def qp9 (v0_0:Int) (v0_1:List Int×List (ByteArray×List Int×Unit)×Unit) (v0_2:List Int):St:=stq 83 [(1,AV.addr 1 []),(3,AV.brw 3 [] 0),(25,avI v0_0)] [(1,Root.mk (Ty.pair (Ty.sl yI) (Ty.pair (Ty.sl (Ty.pair Ty.str (Ty.pair (Ty.sl yI) Ty.unit))) Ty.unit)) Mk.no v0_1 true),(3,Root.mk (Ty.sl yI) (Mk.own 0 Mk.no) v0_2 false)] 
def qlf (x2_0:List (ByteArray×List Int×Unit)) (x2_1:Int) (x2_2:Int) (x2_3:List Int):St:=stq 83 [(3,AV.brw 3 [] 0),(51,AV.val (Ty.sl (Ty.pair Ty.str (Ty.pair (Ty.sl yI) Ty.unit))) x2_0),(52,avI x2_1),(53,avI x2_2)] [(3,Root.mk (Ty.sl yI) (Mk.own 0 Mk.no) x2_3 false)] 
def qpr (v0_0:Bool):St:=stq 83 [(2,AV.val Ty.bool v0_0)] [] 
def qp3:St:=stq 83 [] [] 
theorem qbjv (D:DX)(n:Nat) (m:Nat) (K:Ex→St→Option (Out ctx 71)) (x1_0:Int) (x1_1:Int) (x1_2:Int) (x1_3:List Int×List (ByteArray×List Int×Unit)×Unit) (x1_4:List Int) (x1_5:List Int) :
 LQ qc D n 71 [.r,.r,.r,.l,.r,.l,.l,.r,.r,.l,.l,.r,.r,.r,.r,.l] (m+1) (qld x1_0 x1_1 x1_2 x1_3 x1_4 x1_5) K=qy9 D n (fun x1_0 x1_1 x1_2 x1_3 x1_4 x1_5=>LQ qc D n 71 [.r,.r,.r,.l,.r,.l,.l,.r,.r,.l,.l,.r,.r,.r,.r,.l] m (qld x1_0 x1_1 x1_2 x1_3 x1_4 x1_5) K) (fun v0_0 v0_1 v0_2=>K (Ex.exit 2) (qp9 v0_0 v0_1 v0_2)) x1_0 x1_1 x1_2 x1_3 x1_4 x1_5:=by kernel_rfl
theorem q6p (D:DX)(n:Nat) (K:Ex→St→Option (Out ctx 71)):∀ (m:Nat) (x1_0:Int) (x1_1:Int) (x1_2:Int) (x1_3:List Int×List (ByteArray×List Int×Unit)×Unit) (x1_4:List Int) (x1_5:List Int),LQ qc D n 71 [.r,.r,.r,.l,.r,.l,.l,.r,.r,.l,.l,.r,.r,.r,.r,.l] m (qld x1_0 x1_1 x1_2 x1_3 x1_4 x1_5) K=qlc D n (fun v0_0 v0_1 v0_2=>K (Ex.exit 2) (qp9 v0_0 v0_1 v0_2)) m x1_0 x1_1 x1_2 x1_3 x1_4 x1_5
 | 0,x1_0,x1_1,x1_2,x1_3,x1_4,x1_5=>qx ..
 | m+1,x1_0,x1_1,x1_2,x1_3,x1_4,x1_5=>by
  have ih:(fun x1_0 x1_1 x1_2 x1_3 x1_4 x1_5=>LQ qc D n 71 [.r,.r,.r,.l,.r,.l,.l,.r,.r,.l,.l,.r,.r,.r,.r,.l] m (qld x1_0 x1_1 x1_2 x1_3 x1_4 x1_5) K)=qlc D n (fun v0_0 v0_1 v0_2=>K (Ex.exit 2) (qp9 v0_0 v0_1 v0_2)) m:=by funext x1_0 x1_1 x1_2 x1_3 x1_4 x1_5;exact q6p D n K m x1_0 x1_1 x1_2 x1_3 x1_4 x1_5
  rw[qbjv]
  rw[ih];rfl
theorem qbg4 (D:DX)(n:Nat) (m:Nat) (K:Ex→St→Option (Out ctx 71)) (v0_0:Int) (v0_1:List Int×List (ByteArray×List Int×Unit)×Unit) (v0_2:List Int) :
 (CQ qc D n 71 [.r,.r,.r,.l,.r,.l,.l] [.r,.r,.l,.l,.r,.r,.r,.r,.l] (LK qc D n 71 [.r,.r,.r,.l,.r,.l] m K)) (Ex.exit 2) (qp9 v0_0 v0_1 v0_2)=qqh D n (fun x0 x1 x2=>LQ qc D n 71 [.r,.r,.r,.l,.r,.l] m (qha x0 x1 x2) K) (fun v0_0 v0_1 v0_2=>K (Ex.ret) (qi7 v0_0 v0_1 v0_2)) (fun v1_0 v1_1=>K (Ex.exit 0) (qi0 v1_0 v1_1)) v0_0 v0_1 v0_2:=by kernel_rfl
theorem qbft (D:DX)(n:Nat) (m:Nat) (K:Ex→St→Option (Out ctx 71)) (x1_0:Int) (x1_1:Int) (x1_2:Int) (x1_3:List Int×List (ByteArray×List Int×Unit)×Unit) (x1_4:List Int) (x1_5:List Int) :
 LQ qc D n 71 [.r,.r,.r,.l,.r,.l,.l,.r,.r,.l,.l,.r,.r,.r,.r,.l] n (qld x1_0 x1_1 x1_2 x1_3 x1_4 x1_5) (CQ qc D n 71 [.r,.r,.r,.l,.r,.l,.l] [.r,.r,.l,.l,.r,.r,.r,.r,.l] (LK qc D n 71 [.r,.r,.r,.l,.r,.l] m K))=qr1 D n (fun x0 x1 x2=>LQ qc D n 71 [.r,.r,.r,.l,.r,.l] m (qha x0 x1 x2) K) (fun v0_0 v0_1 v0_2=>K (Ex.ret) (qi7 v0_0 v0_1 v0_2)) (fun v1_0 v1_1=>K (Ex.exit 0) (qi0 v1_0 v1_1)) x1_0 x1_1 x1_2 x1_3 x1_4 x1_5:=by
 rw[q6p]
 simp only[qbg4]
 rfl
theorem qbjg (D:DX)(n:Nat) (m:Nat) (K:Ex→St→Option (Out ctx 71)) (x0:Int) (x1:List Int×List (ByteArray×List Int×Unit)×Unit) (x2:List Int) :
 LQ qc D n 71 [.r,.r,.r,.l,.r,.l] (m+1) (qha x0 x1 x2) K=qty D n (fun x0 x1 x2=>LQ qc D n 71 [.r,.r,.r,.l,.r,.l] m (qha x0 x1 x2) K) (fun v0_0 v0_1 v0_2=>K (Ex.ret) (qi7 v0_0 v0_1 v0_2)) (fun v1_0 v1_1=>K (Ex.exit 0) (qi0 v1_0 v1_1)) (fun x1_0 x1_1 x1_2 x1_3 x1_4 x1_5=>LQ qc D n 71 [.r,.r,.r,.l,.r,.l,.l,.r,.r,.l,.l,.r,.r,.r,.r,.l] n (qld x1_0 x1_1 x1_2 x1_3 x1_4 x1_5) (CQ qc D n 71 [.r,.r,.r,.l,.r,.l,.l] [.r,.r,.l,.l,.r,.r,.r,.r,.l] (LK qc D n 71 [.r,.r,.r,.l,.r,.l] m K))) x0 x1 x2:=by kernel_rfl
theorem q6u (D:DX)(n:Nat) (K:Ex→St→Option (Out ctx 71)):∀ (m:Nat) (x0:Int) (x1:List Int×List (ByteArray×List Int×Unit)×Unit) (x2:List Int),LQ qc D n 71 [.r,.r,.r,.l,.r,.l] m (qha x0 x1 x2) K=qdn D n (fun v0_0 v0_1 v0_2=>K (Ex.ret) (qi7 v0_0 v0_1 v0_2)) (fun v1_0 v1_1=>K (Ex.exit 0) (qi0 v1_0 v1_1)) m x0 x1 x2
 | 0,x0,x1,x2=>qx ..
 | m+1,x0,x1,x2=>by
  have ih:(fun x0 x1 x2=>LQ qc D n 71 [.r,.r,.r,.l,.r,.l] m (qha x0 x1 x2) K)=qdn D n (fun v0_0 v0_1 v0_2=>K (Ex.ret) (qi7 v0_0 v0_1 v0_2)) (fun v1_0 v1_1=>K (Ex.exit 0) (qi0 v1_0 v1_1)) m:=by funext x0 x1 x2;exact q6u D n K m x0 x1 x2
  rw[qbjg]
  simp only[qbft]
  rw[ih];rfl
theorem qbip (D:DX)(n:Nat) (m:Nat) (K:Ex→St→Option (Out ctx 71)) (x2_0:List (ByteArray×List Int×Unit)) (x2_1:Int) (x2_2:Int) (x2_3:List Int) :
 LQ qc D n 71 [.r,.r,.r,.r,.l,.r,.l] (m+1) (qlf x2_0 x2_1 x2_2 x2_3) K=qzc D n (fun x2_0 x2_1 x2_2 x2_3=>LQ qc D n 71 [.r,.r,.r,.r,.l,.r,.l] m (qlf x2_0 x2_1 x2_2 x2_3) K) (fun v0_0=>K (Ex.ret) (qpr v0_0)) (K (Ex.exit 4) (qp3)) x2_0 x2_1 x2_2 x2_3:=by kernel_rfl
theorem q6e (D:DX)(n:Nat) (K:Ex→St→Option (Out ctx 71)):∀ (m:Nat) (x2_0:List (ByteArray×List Int×Unit)) (x2_1:Int) (x2_2:Int) (x2_3:List Int),LQ qc D n 71 [.r,.r,.r,.r,.l,.r,.l] m (qlf x2_0 x2_1 x2_2 x2_3) K=qlo D n (fun v0_0=>K (Ex.ret) (qpr v0_0)) (K (Ex.exit 4) (qp3)) m x2_0 x2_1 x2_2 x2_3
 | 0,x2_0,x2_1,x2_2,x2_3=>qx ..
 | m+1,x2_0,x2_1,x2_2,x2_3=>by
  have ih:(fun x2_0 x2_1 x2_2 x2_3=>LQ qc D n 71 [.r,.r,.r,.r,.l,.r,.l] m (qlf x2_0 x2_1 x2_2 x2_3) K)=qlo D n (fun v0_0=>K (Ex.ret) (qpr v0_0)) (K (Ex.exit 4) (qp3)) m:=by funext x2_0 x2_1 x2_2 x2_3;exact q6e D n K m x2_0 x2_1 x2_2 x2_3
  rw[qbip]
  rw[ih];rfl
theorem qbf6 (D:DX)(n:Nat) (v0_0:Bool) :
 (CQ qc D n 71 [] [.r,.r,.r,.r,.l,.r,.l] (qh qc 71)) (Ex.ret) (qpr v0_0)=qwd D n v0_0:=by kernel_rfl
theorem qbf3 (D:DX)(n:Nat) :
 (CQ qc D n 71 [] [.r,.r,.r,.r,.l,.r,.l] (qh qc 71)) (Ex.exit 4) (qp3)=qwc D n:=by kernel_rfl
theorem qbf5 (D:DX)(n:Nat) (x2_0:List (ByteArray×List Int×Unit)) (x2_1:Int) (x2_2:Int) (x2_3:List Int) :
 LQ qc D n 71 [.r,.r,.r,.r,.l,.r,.l] n (qlf x2_0 x2_1 x2_2 x2_3) (CQ qc D n 71 [] [.r,.r,.r,.r,.l,.r,.l] (qh qc 71))=qr9 D n x2_0 x2_1 x2_2 x2_3:=by
 rw[q6e]
 simp only[qbf6,qbf3]
 rfl
theorem qbfp (D:DX)(n:Nat) (v0_0:Bool) (v0_1:List Int×List (ByteArray×List Int×Unit)×Unit) (v0_2:List Int) :
 (CQ qc D n 71 [] [.r,.r,.r,.l,.r,.l] (qh qc 71)) (Ex.ret) (qi7 v0_0 v0_1 v0_2)=qv5 D n v0_0 v0_1 v0_2:=by kernel_rfl
theorem qbfw (D:DX)(n:Nat) (v1_0:List Int×List (ByteArray×List Int×Unit)×Unit) (v1_1:List Int) :
 (CQ qc D n 71 [] [.r,.r,.r,.l,.r,.l] (qh qc 71)) (Ex.exit 0) (qi0 v1_0 v1_1)=qpx D n (fun x2_0 x2_1 x2_2 x2_3=>LQ qc D n 71 [.r,.r,.r,.r,.l,.r,.l] n (qlf x2_0 x2_1 x2_2 x2_3) (CQ qc D n 71 [] [.r,.r,.r,.r,.l,.r,.l] (qh qc 71))) v1_0 v1_1:=by kernel_rfl
theorem qbfs (D:DX)(n:Nat) (x0:Int) (x1:List Int×List (ByteArray×List Int×Unit)×Unit) (x2:List Int) :
 LQ qc D n 71 [.r,.r,.r,.l,.r,.l] n (qha x0 x1 x2) (CQ qc D n 71 [] [.r,.r,.r,.l,.r,.l] (qh qc 71))=qx2 D n x0 x1 x2:=by
 rw[q6u]
 simp only[qbfp,qbfw,qbf5]
 rfl
theorem qbnd (D:DX)(n:Nat) (a0:List Int×List (ByteArray×List Int×Unit)×Unit):rfC qc D n 71 (a0,())=q15 D n a0:=by
 have h:rfC qc D n 71 (a0,())=q2u D n (fun x0 x1 x2=>LQ qc D n 71 [.r,.r,.r,.l,.r,.l] n (qha x0 x1 x2) (CQ qc D n 71 [] [.r,.r,.r,.l,.r,.l] (qh qc 71))) a0:=by kernel_rfl
 rw[h]
 simp only[qbfs]
 rfl

def qvi (D:DX)(n:Nat) (go:ByteArray→Int→Int→Int→List Int×List (ByteArray×List Int×Unit)×Unit→List Int→Option ((List Int×Int×Unit)×Unit)) (K0:ByteArray→Int→Int→Int→List Int×List (ByteArray×List Int×Unit)×Unit→List Int→Option ((List Int×Int×Unit)×Unit)) (x1_0:ByteArray) (x1_1:Int) (x1_2:Int) (x1_3:Int) (x1_4:List Int×List (ByteArray×List Int×Unit)×Unit) (x1_5:List Int):Option ((List Int×Int×Unit)×Unit):=qi (qkz D x1_4 x1_2 x1_3) fun b↦br (decide (Prod.fst (Prod.fst b) = -1)) (K0 x1_0 x1_1 x1_2 x1_3 x1_4 x1_5) (br (decide (0≤Prod.fst (Prod.fst b))&&decide (Prod.fst (Prod.fst b)<(↑(List.length (Prod.fst (Prod.snd x1_4))):Int))) (br (!Op.bytesLess (ByteArray.toList (Prod.fst (List.getD (Prod.fst (Prod.snd x1_4)) (Int.toNat (Prod.fst (Prod.fst b))) (ByteArray.empty,[],())))) (ByteArray.toList x1_0)) (K0 x1_0 (IntKind.wrap IntKind.i64 (x1_1+1)) x1_2 x1_3 x1_4 x1_5) (go x1_0 (IntKind.wrap IntKind.i64 (x1_1+1)) (Prod.fst (Prod.fst b)) x1_3 x1_4 x1_5)) none)
def qkt (D:DX)(n:Nat) (K0:ByteArray→Int→Int→Int→List Int×List (ByteArray×List Int×Unit)×Unit→List Int→Option ((List Int×Int×Unit)×Unit)):Nat→(ByteArray)→(Int)→(Int)→(Int)→(List Int×List (ByteArray×List Int×Unit)×Unit)→(List Int)→Option ((List Int×Int×Unit)×Unit) | 0=>(fun x1_0 x1_1 x1_2 x1_3 x1_4 x1_5=>none) | m+1=>(fun x1_0 x1_1 x1_2 x1_3 x1_4 x1_5=>qvi D n (qkt D n K0 m) K0 x1_0 x1_1 x1_2 x1_3 x1_4 x1_5)
def qry (D:DX)(n:Nat) (go:ByteArray→Int→Int→Int→List Int×List (ByteArray×List Int×Unit)×Unit→List Int→Option ((List Int×Int×Unit)×Unit)) (K0:Int→List Int→Option ((List Int×Int×Unit)×Unit)) (v0_0:ByteArray) (v0_1:Int) (v0_2:Int) (v0_3:Int) (v0_4:List Int×List (ByteArray×List Int×Unit)×Unit) (v0_5:List Int):Option ((List Int×Int×Unit)×Unit):=br (decide (0≤v0_3)&&decide (v0_3<(↑(List.length v0_5):Int))) (go v0_0 v0_1 v0_2 (IntKind.wrap IntKind.i64 (v0_3 - 1)) v0_4 (List.set v0_5 (Int.toNat v0_3) v0_2)) none
def qzy (D:DX)(n:Nat) (go:ByteArray→Int→Int→Int→List Int×List (ByteArray×List Int×Unit)×Unit→List Int→Option ((List Int×Int×Unit)×Unit)) (K0:Int→List Int→Option ((List Int×Int×Unit)×Unit)):(ByteArray)→(Int)→(Int)→(Int)→(List Int×List (ByteArray×List Int×Unit)×Unit)→(List Int)→Option ((List Int×Int×Unit)×Unit):=(fun x1_0 x1_1 x1_2 x1_3 x1_4 x1_5=>qkt D n (fun v0_0 v0_1 v0_2 v0_3 v0_4 v0_5=>qry D n go K0 v0_0 v0_1 v0_2 v0_3 v0_4 v0_5) n x1_0 x1_1 x1_2 x1_3 x1_4 x1_5)
def qvb (D:DX)(n:Nat) (go:ByteArray→Int→Int→Int→List Int×List (ByteArray×List Int×Unit)×Unit→List Int→Option ((List Int×Int×Unit)×Unit)) (K0:Int→List Int→Option ((List Int×Int×Unit)×Unit)) (lp1:ByteArray→Int→Int→Int→List Int×List (ByteArray×List Int×Unit)×Unit→List Int→Option ((List Int×Int×Unit)×Unit)) (x0:ByteArray) (x1:Int) (x2:Int) (x3:Int) (x4:List Int×List (ByteArray×List Int×Unit)×Unit) (x5:List Int):Option ((List Int×Int×Unit)×Unit):=br (decide (x3≥0)) (lp1 x0 x1 x2 x3 x4 x5) (K0 x1 x5)
def qgq (D:DX)(n:Nat) (K0:Int→List Int→Option ((List Int×Int×Unit)×Unit)):Nat→(ByteArray)→(Int)→(Int)→(Int)→(List Int×List (ByteArray×List Int×Unit)×Unit)→(List Int)→Option ((List Int×Int×Unit)×Unit) | 0=>(fun x0 x1 x2 x3 x4 x5=>none) | m+1=>(fun x0 x1 x2 x3 x4 x5=>qvb D n (qgq D n K0 m) K0 (qzy D n (qgq D n K0 m) K0) x0 x1 x2 x3 x4 x5)
def qx9 (D:DX)(n:Nat) (v0_0:Int) (v0_1:List Int):Option ((List Int×Int×Unit)×Unit):=some ((v0_1,v0_0,()),())
def q0n (D:DX)(n:Nat):(ByteArray)→(Int)→(Int)→(Int)→(List Int×List (ByteArray×List Int×Unit)×Unit)→(List Int)→Option ((List Int×Int×Unit)×Unit):=(fun x0 x1 x2 x3 x4 x5=>qgq D n (fun v0_0 v0_1=>qx9 D n v0_0 v0_1) n x0 x1 x2 x3 x4 x5)
def q4y (D:DX)(n:Nat) (lp0:ByteArray→Int→Int→Int→List Int×List (ByteArray×List Int×Unit)×Unit→List Int→Option ((List Int×Int×Unit)×Unit)) (a0:List Int×List (ByteArray×List Int×Unit)×Unit) (a1:ByteArray):Option ((List Int×Int×Unit)×Unit):=lp0 a1 0 (-1) 3 a0 (List.replicate (Int.toNat 4) 0)
def q50 (D:DX)(n:Nat) (a0:List Int×List (ByteArray×List Int×Unit)×Unit) (a1:ByteArray):Option ((List Int×Int×Unit)×Unit):=q4y D n (q0n D n) a0 a1
def qik (x0:ByteArray) (x1:Int) (x2:Int) (x3:Int) (x4:List Int×List (ByteArray×List Int×Unit)×Unit) (x5:List Int):St:=stq 39 [(1,AV.val Ty.str x0),(2,AV.addr 2 []),(6,AV.brw 6 [] 0),(7,avI x1),(8,avI x2),(9,avI x3)] [(2,Root.mk (Ty.pair (Ty.sl yI) (Ty.pair (Ty.sl (Ty.pair Ty.str (Ty.pair (Ty.sl yI) Ty.unit))) Ty.unit)) Mk.no x4 true),(6,Root.mk (Ty.sl yI) (Mk.own 0 Mk.no) x5 false)] 
def qke (v0_0:Int) (v0_1:List Int):St:=stq 39 [(6,AV.brw 6 [] 0),(7,avI v0_0)] [(6,Root.mk (Ty.sl yI) (Mk.own 0 Mk.no) v0_1 false)] 
def qml (x1_0:ByteArray) (x1_1:Int) (x1_2:Int) (x1_3:Int) (x1_4:List Int×List (ByteArray×List Int×Unit)×Unit) (x1_5:List Int):St:=stq 39 [(1,AV.val Ty.str x1_0),(2,AV.addr 2 []),(6,AV.brw 6 [] 0),(7,avI x1_1),(8,avI x1_2),(9,avI x1_3)] [(2,Root.mk (Ty.pair (Ty.sl yI) (Ty.pair (Ty.sl (Ty.pair Ty.str (Ty.pair (Ty.sl yI) Ty.unit))) Ty.unit)) Mk.no x1_4 true),(6,Root.mk (Ty.sl yI) (Mk.own 0 Mk.no) x1_5 false)] 
def qr4 (v0_0:ByteArray) (v0_1:Int) (v0_2:Int) (v0_3:Int) (v0_4:List Int×List (ByteArray×List Int×Unit)×Unit) (v0_5:List Int):St:=stq 39 [(1,AV.val Ty.str v0_0),(2,AV.addr 2 []),(6,AV.brw 6 [] 0),(7,avI v0_1),(8,avI v0_2),(9,avI v0_3)] [(2,Root.mk (Ty.pair (Ty.sl yI) (Ty.pair (Ty.sl (Ty.pair Ty.str (Ty.pair (Ty.sl yI) Ty.unit))) Ty.unit)) Mk.no v0_4 true),(6,Root.mk (Ty.sl yI) (Mk.own 0 Mk.no) v0_5 false)] 
theorem qbk7 (D:DX)(n:Nat) (m:Nat) (K:Ex→St→Option (Out ctx 72)) (x1_0:ByteArray) (x1_1:Int) (x1_2:Int) (x1_3:Int) (x1_4:List Int×List (ByteArray×List Int×Unit)×Unit) (x1_5:List Int) :
 LQ qc D n 72 [.r,.r,.r,.r,.l,.r,.l,.l,.r,.l,.l,.l,.l] (m+1) (qml x1_0 x1_1 x1_2 x1_3 x1_4 x1_5) K=qvi D n (fun x1_0 x1_1 x1_2 x1_3 x1_4 x1_5=>LQ qc D n 72 [.r,.r,.r,.r,.l,.r,.l,.l,.r,.l,.l,.l,.l] m (qml x1_0 x1_1 x1_2 x1_3 x1_4 x1_5) K) (fun v0_0 v0_1 v0_2 v0_3 v0_4 v0_5=>K (Ex.exit 2) (qr4 v0_0 v0_1 v0_2 v0_3 v0_4 v0_5)) x1_0 x1_1 x1_2 x1_3 x1_4 x1_5:=by kernel_rfl
theorem q78 (D:DX)(n:Nat) (K:Ex→St→Option (Out ctx 72)):∀ (m:Nat) (x1_0:ByteArray) (x1_1:Int) (x1_2:Int) (x1_3:Int) (x1_4:List Int×List (ByteArray×List Int×Unit)×Unit) (x1_5:List Int),LQ qc D n 72 [.r,.r,.r,.r,.l,.r,.l,.l,.r,.l,.l,.l,.l] m (qml x1_0 x1_1 x1_2 x1_3 x1_4 x1_5) K=qkt D n (fun v0_0 v0_1 v0_2 v0_3 v0_4 v0_5=>K (Ex.exit 2) (qr4 v0_0 v0_1 v0_2 v0_3 v0_4 v0_5)) m x1_0 x1_1 x1_2 x1_3 x1_4 x1_5
 | 0,x1_0,x1_1,x1_2,x1_3,x1_4,x1_5=>qx ..
 | m+1,x1_0,x1_1,x1_2,x1_3,x1_4,x1_5=>by
  have ih:(fun x1_0 x1_1 x1_2 x1_3 x1_4 x1_5=>LQ qc D n 72 [.r,.r,.r,.r,.l,.r,.l,.l,.r,.l,.l,.l,.l] m (qml x1_0 x1_1 x1_2 x1_3 x1_4 x1_5) K)=qkt D n (fun v0_0 v0_1 v0_2 v0_3 v0_4 v0_5=>K (Ex.exit 2) (qr4 v0_0 v0_1 v0_2 v0_3 v0_4 v0_5)) m:=by funext x1_0 x1_1 x1_2 x1_3 x1_4 x1_5;exact q78 D n K m x1_0 x1_1 x1_2 x1_3 x1_4 x1_5
  rw[qbk7]
  rw[ih];rfl
theorem qbhp (D:DX)(n:Nat) (m:Nat) (K:Ex→St→Option (Out ctx 72)) (v0_0:ByteArray) (v0_1:Int) (v0_2:Int) (v0_3:Int) (v0_4:List Int×List (ByteArray×List Int×Unit)×Unit) (v0_5:List Int) :
 (CQ qc D n 72 [.r,.r,.r,.r,.l,.r,.l,.l] [.r,.l,.l,.l,.l] (LK qc D n 72 [.r,.r,.r,.r,.l,.r,.l] m K)) (Ex.exit 2) (qr4 v0_0 v0_1 v0_2 v0_3 v0_4 v0_5)=qry D n (fun x0 x1 x2 x3 x4 x5=>LQ qc D n 72 [.r,.r,.r,.r,.l,.r,.l] m (qik x0 x1 x2 x3 x4 x5) K) (fun v0_0 v0_1=>K (Ex.exit 0) (qke v0_0 v0_1)) v0_0 v0_1 v0_2 v0_3 v0_4 v0_5:=by kernel_rfl
theorem qbjy (D:DX)(n:Nat) (m:Nat) (K:Ex→St→Option (Out ctx 72)) (x1_0:ByteArray) (x1_1:Int) (x1_2:Int) (x1_3:Int) (x1_4:List Int×List (ByteArray×List Int×Unit)×Unit) (x1_5:List Int) :
 LQ qc D n 72 [.r,.r,.r,.r,.l,.r,.l,.l,.r,.l,.l,.l,.l] n (qml x1_0 x1_1 x1_2 x1_3 x1_4 x1_5) (CQ qc D n 72 [.r,.r,.r,.r,.l,.r,.l,.l] [.r,.l,.l,.l,.l] (LK qc D n 72 [.r,.r,.r,.r,.l,.r,.l] m K))=qzy D n (fun x0 x1 x2 x3 x4 x5=>LQ qc D n 72 [.r,.r,.r,.r,.l,.r,.l] m (qik x0 x1 x2 x3 x4 x5) K) (fun v0_0 v0_1=>K (Ex.exit 0) (qke v0_0 v0_1)) x1_0 x1_1 x1_2 x1_3 x1_4 x1_5:=by
 rw[q78]
 simp only[qbhp]
 rfl
theorem qbls (D:DX)(n:Nat) (m:Nat) (K:Ex→St→Option (Out ctx 72)) (x0:ByteArray) (x1:Int) (x2:Int) (x3:Int) (x4:List Int×List (ByteArray×List Int×Unit)×Unit) (x5:List Int) :
 LQ qc D n 72 [.r,.r,.r,.r,.l,.r,.l] (m+1) (qik x0 x1 x2 x3 x4 x5) K=qvb D n (fun x0 x1 x2 x3 x4 x5=>LQ qc D n 72 [.r,.r,.r,.r,.l,.r,.l] m (qik x0 x1 x2 x3 x4 x5) K) (fun v0_0 v0_1=>K (Ex.exit 0) (qke v0_0 v0_1)) (fun x1_0 x1_1 x1_2 x1_3 x1_4 x1_5=>LQ qc D n 72 [.r,.r,.r,.r,.l,.r,.l,.l,.r,.l,.l,.l,.l] n (qml x1_0 x1_1 x1_2 x1_3 x1_4 x1_5) (CQ qc D n 72 [.r,.r,.r,.r,.l,.r,.l,.l] [.r,.l,.l,.l,.l] (LK qc D n 72 [.r,.r,.r,.r,.l,.r,.l] m K))) x0 x1 x2 x3 x4 x5:=by kernel_rfl
theorem q7w (D:DX)(n:Nat) (K:Ex→St→Option (Out ctx 72)):∀ (m:Nat) (x0:ByteArray) (x1:Int) (x2:Int) (x3:Int) (x4:List Int×List (ByteArray×List Int×Unit)×Unit) (x5:List Int),LQ qc D n 72 [.r,.r,.r,.r,.l,.r,.l] m (qik x0 x1 x2 x3 x4 x5) K=qgq D n (fun v0_0 v0_1=>K (Ex.exit 0) (qke v0_0 v0_1)) m x0 x1 x2 x3 x4 x5
 | 0,x0,x1,x2,x3,x4,x5=>qx ..
 | m+1,x0,x1,x2,x3,x4,x5=>by
  have ih:(fun x0 x1 x2 x3 x4 x5=>LQ qc D n 72 [.r,.r,.r,.r,.l,.r,.l] m (qik x0 x1 x2 x3 x4 x5) K)=qgq D n (fun v0_0 v0_1=>K (Ex.exit 0) (qke v0_0 v0_1)) m:=by funext x0 x1 x2 x3 x4 x5;exact q7w D n K m x0 x1 x2 x3 x4 x5
  rw[qbls]
  simp only[qbjy]
  rw[ih];rfl
theorem qbjc (D:DX)(n:Nat) (v0_0:Int) (v0_1:List Int) :
 (CQ qc D n 72 [] [.r,.r,.r,.r,.l,.r,.l] (qh qc 72)) (Ex.exit 0) (qke v0_0 v0_1)=qx9 D n v0_0 v0_1:=by kernel_rfl
theorem qbj3 (D:DX)(n:Nat) (x0:ByteArray) (x1:Int) (x2:Int) (x3:Int) (x4:List Int×List (ByteArray×List Int×Unit)×Unit) (x5:List Int) :
 LQ qc D n 72 [.r,.r,.r,.r,.l,.r,.l] n (qik x0 x1 x2 x3 x4 x5) (CQ qc D n 72 [] [.r,.r,.r,.r,.l,.r,.l] (qh qc 72))=q0n D n x0 x1 x2 x3 x4 x5:=by
 rw[q7w]
 simp only[qbjc]
 rfl
theorem qbot (D:DX)(n:Nat) (a0:List Int×List (ByteArray×List Int×Unit)×Unit) (a1:ByteArray):rfC qc D n 72 (a0,(a1,()))=q50 D n a0 a1:=by
 have h:rfC qc D n 72 (a0,(a1,()))=q4y D n (fun x0 x1 x2 x3 x4 x5=>LQ qc D n 72 [.r,.r,.r,.r,.l,.r,.l] n (qik x0 x1 x2 x3 x4 x5) (CQ qc D n 72 [] [.r,.r,.r,.r,.l,.r,.l] (qh qc 72))) a0 a1:=by kernel_rfl
 rw[h]
 simp only[qbj3]
 rfl

def q3q (D:DX)(n:Nat) (a0:List Int×List (ByteArray×List Int×Unit)×Unit) (a1:Int) (a2:Int):Option ((Int×Unit)×Unit):=br (decide (a1 = -1)) (br (decide (0≤a2)&&decide (a2<(↑(List.length (Prod.fst a0)):Int))) (some ((List.getD (Prod.fst a0) (Int.toNat a2) 0,()),())) none) (br (decide (0≤a1)&&decide (a1<(↑(List.length (Prod.fst (Prod.snd a0))):Int))) (br (decide (0≤a2)&&decide (a2<(↑(List.length (Prod.fst (Prod.snd (List.getD (Prod.fst (Prod.snd a0)) (Int.toNat a1) (ByteArray.empty,[],()))))):Int))) (some ((List.getD (Prod.fst (Prod.snd (List.getD (Prod.fst (Prod.snd a0)) (Int.toNat a1) (ByteArray.empty,[],())))) (Int.toNat a2) 0,()),())) none) none)
def qub (D:DX)(n:Nat) (a0:List Int×List (ByteArray×List Int×Unit)×Unit) (a1:Int) (a2:Int):Option ((Int×Unit)×Unit):=q3q D n a0 a1 a2
theorem qber (D:DX)(n:Nat) (a0:List Int×List (ByteArray×List Int×Unit)×Unit) (a1:Int) (a2:Int):rfC qc D n 73 (a0,(a1,(a2,())))=qub D n a0 a1 a2:=by kernel_rfl

def qvx (D:DX)(n:Nat) (go:ByteArray→Int→Int→Int→Option ((Int×Unit)×Unit)) (K0:Int→Option ((Int×Unit)×Unit)) (x0:ByteArray) (x1:Int) (x2:Int) (x3:Int):Option ((Int×Unit)×Unit):=br (decide (x3<x2)) (br (decide (0≤x3)&&decide (x3<(↑(ByteArray.size x0):Int))) (go x0 (Int.tmod (IntKind.wrap IntKind.i64 (IntKind.wrap IntKind.i64 (31 * x1)+IntKind.wrap IntKind.i64 (↑(UInt8.toNat (Array.getD (ByteArray.data x0) (Int.toNat x3) (UInt8.ofNat 0))):Int))) 16) x2 (IntKind.wrap IntKind.i64 (x3+1))) none) (K0 x1)
def qiy (D:DX)(n:Nat) (K0:Int→Option ((Int×Unit)×Unit)):Nat→(ByteArray)→(Int)→(Int)→(Int)→Option ((Int×Unit)×Unit) | 0=>(fun x0 x1 x2 x3=>none) | m+1=>(fun x0 x1 x2 x3=>qvx D n (qiy D n K0 m) K0 x0 x1 x2 x3)
def qm5 (D:DX)(n:Nat) (v0_0:Int):Option ((Int×Unit)×Unit):=br (decide (Int.tmod v0_0 8=0)) (some ((4,()),())) (br (decide (Int.tmod v0_0 4=0)) (some ((3,()),())) (br (decide (Int.tmod v0_0 2=0)) (some ((2,()),())) (some ((1,()),()))))
def quy (D:DX)(n:Nat):(ByteArray)→(Int)→(Int)→(Int)→Option ((Int×Unit)×Unit):=(fun x0 x1 x2 x3=>qiy D n (fun v0_0=>qm5 D n v0_0) n x0 x1 x2 x3)
def qxn (D:DX)(n:Nat) (lp0:ByteArray→Int→Int→Int→Option ((Int×Unit)×Unit)) (a0:ByteArray):Option ((Int×Unit)×Unit):=lp0 a0 7 (↑(ByteArray.size a0):Int) 0
def qym (D:DX)(n:Nat) (a0:ByteArray):Option ((Int×Unit)×Unit):=qxn D n (quy D n) a0
def qjk (x0:ByteArray) (x1:Int) (x2:Int) (x3:Int):St:=stq 31 [(0,AV.val Ty.str x0),(3,avI x1),(6,avI x2),(7,avI x3)] [] 
def qm8 (v0_0:Int):St:=stq 31 [(3,avI v0_0)] [] 
theorem qbel (D:DX)(n:Nat) (m:Nat) (K:Ex→St→Option (Out ctx 74)) (x0:ByteArray) (x1:Int) (x2:Int) (x3:Int) :
 LQ qc D n 74 [.r,.r,.l,.r,.l] (m+1) (qjk x0 x1 x2 x3) K=qvx D n (fun x0 x1 x2 x3=>LQ qc D n 74 [.r,.r,.l,.r,.l] m (qjk x0 x1 x2 x3) K) (fun v0_0=>K (Ex.exit 0) (qm8 v0_0)) x0 x1 x2 x3:=by kernel_rfl
theorem q3m (D:DX)(n:Nat) (K:Ex→St→Option (Out ctx 74)):∀ (m:Nat) (x0:ByteArray) (x1:Int) (x2:Int) (x3:Int),LQ qc D n 74 [.r,.r,.l,.r,.l] m (qjk x0 x1 x2 x3) K=qiy D n (fun v0_0=>K (Ex.exit 0) (qm8 v0_0)) m x0 x1 x2 x3
 | 0,x0,x1,x2,x3=>qx ..
 | m+1,x0,x1,x2,x3=>by
  have ih:(fun x0 x1 x2 x3=>LQ qc D n 74 [.r,.r,.l,.r,.l] m (qjk x0 x1 x2 x3) K)=qiy D n (fun v0_0=>K (Ex.exit 0) (qm8 v0_0)) m:=by funext x0 x1 x2 x3;exact q3m D n K m x0 x1 x2 x3
  rw[qbel]
  rw[ih];rfl
theorem qbck (D:DX)(n:Nat) (v0_0:Int) :
 (CQ qc D n 74 [] [.r,.r,.l,.r,.l] (qh qc 74)) (Ex.exit 0) (qm8 v0_0)=qm5 D n v0_0:=by kernel_rfl
theorem qbc3 (D:DX)(n:Nat) (x0:ByteArray) (x1:Int) (x2:Int) (x3:Int) :
 LQ qc D n 74 [.r,.r,.l,.r,.l] n (qjk x0 x1 x2 x3) (CQ qc D n 74 [] [.r,.r,.l,.r,.l] (qh qc 74))=quy D n x0 x1 x2 x3:=by
 rw[q3m]
 simp only[qbck]
 rfl
theorem qbh8 (D:DX)(n:Nat) (a0:ByteArray):rfC qc D n 74 (a0,())=qym D n a0:=by
 have h:rfC qc D n 74 (a0,())=qxn D n (fun x0 x1 x2 x3=>LQ qc D n 74 [.r,.r,.l,.r,.l] n (qjk x0 x1 x2 x3) (CQ qc D n 74 [] [.r,.r,.l,.r,.l] (qh qc 74))) a0:=by kernel_rfl
 rw[h]
 simp only[qbc3]
 rfl

def q53 (D:DX)(n:Nat) (a0:List Int×List (ByteArray×List Int×Unit)×Unit) (a1:Int) (a2:Int) (a3:Int):Option (Unit×(List Int×List (ByteArray×List Int×Unit)×Unit)×Unit):=br (decide (a1 = -1)) (br (decide (0≤a2)&&decide (a2<(↑(List.length (Prod.fst a0)):Int))) (some ((),(List.set (Prod.fst a0) (Int.toNat a2) a3,Prod.snd a0),())) none) (br (decide (0≤a1)&&decide (a1<(↑(List.length (Prod.fst (Prod.snd a0))):Int))) (br (decide (0≤a2)&&decide (a2<(↑(List.length (Prod.fst (Prod.snd (List.getD (Prod.fst (Prod.snd a0)) (Int.toNat a1) (ByteArray.empty,[],()))))):Int))) (some ((),(Prod.fst a0,List.set (Prod.fst (Prod.snd a0)) (Int.toNat a1) (Prod.fst (List.getD (Prod.fst (Prod.snd a0)) (Int.toNat a1) (ByteArray.empty,[],())),List.set (Prod.fst (Prod.snd (List.getD (Prod.fst (Prod.snd a0)) (Int.toNat a1) (ByteArray.empty,[],())))) (Int.toNat a2) a3,Prod.snd (Prod.snd (List.getD (Prod.fst (Prod.snd a0)) (Int.toNat a1) (ByteArray.empty,[],())))),Prod.snd (Prod.snd a0)),())) none) none)
def qv9 (D:DX)(n:Nat) (a0:List Int×List (ByteArray×List Int×Unit)×Unit) (a1:Int) (a2:Int) (a3:Int):Option (Unit×(List Int×List (ByteArray×List Int×Unit)×Unit)×Unit):=q53 D n a0 a1 a2 a3
theorem qbfv (D:DX)(n:Nat) (a0:List Int×List (ByteArray×List Int×Unit)×Unit) (a1:Int) (a2:Int) (a3:Int):rfC qc D n 75 (a0,(a1,(a2,(a3,()))))=qv9 D n a0 a1 a2 a3:=by kernel_rfl

def qza (D:DX)(n:Nat) (go:Int→Int→List Int×List (ByteArray×List Int×Unit)×Unit→List Int→Option ((List Int×Bool×Unit)×Unit)) (K0:Bool→List Int→Option ((List Int×Bool×Unit)×Unit)) (K1:List Int→Option ((List Int×Bool×Unit)×Unit)) (x0:Int) (x1:Int) (x2:List Int×List (ByteArray×List Int×Unit)×Unit) (x3:List Int):Option ((List Int×Bool×Unit)×Unit):=br (x1 != -1) (qi (qev D x1 0 (IntKind.wrap IntKind.i64 ((↑(List.length (Prod.fst (Prod.snd x2))):Int) - 1))) fun b↦br (!Prod.fst (Prod.fst b)) (K0 false x3) (br (decide (0≤x1)&&decide (x1<(↑(List.length (Prod.fst (Prod.snd x2))):Int))) (br (decide (x0≥(↑(List.length (Prod.fst (Prod.snd (List.getD (Prod.fst (Prod.snd x2)) (Int.toNat x1) (ByteArray.empty,[],()))))):Int))) (K0 false x3) (br (decide ((↑(List.length x3):Int)>0)) (br (decide (0≤IntKind.wrap IntKind.i64 ((↑(List.length x3):Int) - 1))&&decide (IntKind.wrap IntKind.i64 ((↑(List.length x3):Int) - 1)<(↑(List.length x3):Int))) (br (decide (0≤List.getD x3 (Int.toNat (IntKind.wrap IntKind.i64 ((↑(List.length x3):Int) - 1))) 0)&&decide (List.getD x3 (Int.toNat (IntKind.wrap IntKind.i64 ((↑(List.length x3):Int) - 1))) 0<(↑(List.length (Prod.fst (Prod.snd x2))):Int))) (br (decide (0≤x1)&&decide (x1<(↑(List.length (Prod.fst (Prod.snd x2))):Int))) (br (!Op.bytesLess (ByteArray.toList (Prod.fst (List.getD (Prod.fst (Prod.snd x2)) (Int.toNat (List.getD x3 (Int.toNat (IntKind.wrap IntKind.i64 ((↑(List.length x3):Int) - 1))) 0)) (ByteArray.empty,[],())))) (ByteArray.toList (Prod.fst (List.getD (Prod.fst (Prod.snd x2)) (Int.toNat x1) (ByteArray.empty,[],()))))) (K0 false x3) (br (decide (List.length x3+1≤qbi)) (br (decide (0≤x1)&&decide (x1<(↑(List.length (Prod.fst (Prod.snd x2))):Int))) (br (decide (0≤x0)&&decide (x0<(↑(List.length (Prod.fst (Prod.snd (List.getD (Prod.fst (Prod.snd x2)) (Int.toNat x1) (ByteArray.empty,[],()))))):Int))) (go x0 (List.getD (Prod.fst (Prod.snd (List.getD (Prod.fst (Prod.snd x2)) (Int.toNat x1) (ByteArray.empty,[],())))) (Int.toNat x0) 0) x2 (x3++[x1])) none) none) none)) none) none) none) (br (decide (List.length x3+1≤qbi)) (br (decide (0≤x1)&&decide (x1<(↑(List.length (Prod.fst (Prod.snd x2))):Int))) (br (decide (0≤x0)&&decide (x0<(↑(List.length (Prod.fst (Prod.snd (List.getD (Prod.fst (Prod.snd x2)) (Int.toNat x1) (ByteArray.empty,[],()))))):Int))) (go x0 (List.getD (Prod.fst (Prod.snd (List.getD (Prod.fst (Prod.snd x2)) (Int.toNat x1) (ByteArray.empty,[],())))) (Int.toNat x0) 0) x2 (x3++[x1])) none) none) none))) none)) (K1 x3)
def qle (D:DX)(n:Nat) (K0:Bool→List Int→Option ((List Int×Bool×Unit)×Unit)) (K1:List Int→Option ((List Int×Bool×Unit)×Unit)):Nat→(Int)→(Int)→(List Int×List (ByteArray×List Int×Unit)×Unit)→(List Int)→Option ((List Int×Bool×Unit)×Unit) | 0=>(fun x0 x1 x2 x3=>none) | m+1=>(fun x0 x1 x2 x3=>qza D n (qle D n K0 K1 m) K0 K1 x0 x1 x2 x3)
def q5g (D:DX)(n:Nat) (v0_0:Bool) (v0_1:List Int):Option ((List Int×Bool×Unit)×Unit):=some (([],v0_0,()),())
def q44 (D:DX)(n:Nat) (v1_0:List Int):Option ((List Int×Bool×Unit)×Unit):=some ((v1_0,true,()),())
def qyg (D:DX)(n:Nat):(Int)→(Int)→(List Int×List (ByteArray×List Int×Unit)×Unit)→(List Int)→Option ((List Int×Bool×Unit)×Unit):=(fun x0 x1 x2 x3=>qle D n (fun v0_0 v0_1=>q5g D n v0_0 v0_1) (fun v1_0=>q44 D n v1_0) n x0 x1 x2 x3)
def q2r (D:DX)(n:Nat) (lp0:Int→Int→List Int×List (ByteArray×List Int×Unit)×Unit→List Int→Option ((List Int×Bool×Unit)×Unit)) (a0:List Int×List (ByteArray×List Int×Unit)×Unit) (a1:Int):Option ((List Int×Bool×Unit)×Unit):=br (decide (0≤a1)&&decide (a1<(↑(List.length (Prod.fst a0)):Int))) (lp0 a1 (List.getD (Prod.fst a0) (Int.toNat a1) 0) a0 []) none
def q2j (D:DX)(n:Nat) (a0:List Int×List (ByteArray×List Int×Unit)×Unit) (a1:Int):Option ((List Int×Bool×Unit)×Unit):=q2r D n (qyg D n) a0 a1
def qlg (x0:Int) (x1:Int) (x2:List Int×List (ByteArray×List Int×Unit)×Unit) (x3:List Int):St:=stq 73 [(1,avI x0),(2,AV.addr 2 []),(6,AV.brw 6 [] 0),(7,avI x1)] [(2,Root.mk (Ty.pair (Ty.sl yI) (Ty.pair (Ty.sl (Ty.pair Ty.str (Ty.pair (Ty.sl yI) Ty.unit))) Ty.unit)) Mk.no x2 true),(6,Root.mk (Ty.sl yI) (Mk.own 0 Mk.no) x3 false)] 
def qpp (v0_0:Bool) (v0_1:List Int):St:=stq 73 [(4,AV.nils),(5,AV.val Ty.bool v0_0),(6,AV.brw 6 [] 0)] [(6,Root.mk (Ty.sl yI) (Mk.own 0 Mk.no) v0_1 false)] 
def qp5 (v1_0:List Int):St:=stq 73 [(6,AV.brw 6 [] 0)] [(6,Root.mk (Ty.sl yI) (Mk.own 0 Mk.no) v1_0 false)] 
theorem qbhv (D:DX)(n:Nat) (m:Nat) (K:Ex→St→Option (Out ctx 76)) (x0:Int) (x1:Int) (x2:List Int×List (ByteArray×List Int×Unit)×Unit) (x3:List Int) :
 LQ qc D n 76 [.r,.r,.l,.r,.l] (m+1) (qlg x0 x1 x2 x3) K=qza D n (fun x0 x1 x2 x3=>LQ qc D n 76 [.r,.r,.l,.r,.l] m (qlg x0 x1 x2 x3) K) (fun v0_0 v0_1=>K (Ex.ret) (qpp v0_0 v0_1)) (fun v1_0=>K (Ex.exit 0) (qp5 v1_0)) x0 x1 x2 x3:=by kernel_rfl
theorem q64 (D:DX)(n:Nat) (K:Ex→St→Option (Out ctx 76)):∀ (m:Nat) (x0:Int) (x1:Int) (x2:List Int×List (ByteArray×List Int×Unit)×Unit) (x3:List Int),LQ qc D n 76 [.r,.r,.l,.r,.l] m (qlg x0 x1 x2 x3) K=qle D n (fun v0_0 v0_1=>K (Ex.ret) (qpp v0_0 v0_1)) (fun v1_0=>K (Ex.exit 0) (qp5 v1_0)) m x0 x1 x2 x3
 | 0,x0,x1,x2,x3=>qx ..
 | m+1,x0,x1,x2,x3=>by
  have ih:(fun x0 x1 x2 x3=>LQ qc D n 76 [.r,.r,.l,.r,.l] m (qlg x0 x1 x2 x3) K)=qle D n (fun v0_0 v0_1=>K (Ex.ret) (qpp v0_0 v0_1)) (fun v1_0=>K (Ex.exit 0) (qp5 v1_0)) m:=by funext x0 x1 x2 x3;exact q64 D n K m x0 x1 x2 x3
  rw[qbhv]
  rw[ih];rfl
theorem qbhb (D:DX)(n:Nat) (v0_0:Bool) (v0_1:List Int) :
 (CQ qc D n 76 [] [.r,.r,.l,.r,.l] (qh qc 76)) (Ex.ret) (qpp v0_0 v0_1)=q5g D n v0_0 v0_1:=by kernel_rfl
theorem qbg5 (D:DX)(n:Nat) (v1_0:List Int) :
 (CQ qc D n 76 [] [.r,.r,.l,.r,.l] (qh qc 76)) (Ex.exit 0) (qp5 v1_0)=q44 D n v1_0:=by kernel_rfl
theorem qbf1 (D:DX)(n:Nat) (x0:Int) (x1:Int) (x2:List Int×List (ByteArray×List Int×Unit)×Unit) (x3:List Int) :
 LQ qc D n 76 [.r,.r,.l,.r,.l] n (qlg x0 x1 x2 x3) (CQ qc D n 76 [] [.r,.r,.l,.r,.l] (qh qc 76))=qyg D n x0 x1 x2 x3:=by
 rw[q64]
 simp only[qbhb,qbg5]
 rfl
theorem qbno (D:DX)(n:Nat) (a0:List Int×List (ByteArray×List Int×Unit)×Unit) (a1:Int):rfC qc D n 76 (a0,(a1,()))=q2j D n a0 a1:=by
 have h:rfC qc D n 76 (a0,(a1,()))=q2r D n (fun x0 x1 x2 x3=>LQ qc D n 76 [.r,.r,.l,.r,.l] n (qlg x0 x1 x2 x3) (CQ qc D n 76 [] [.r,.r,.l,.r,.l] (qh qc 76))) a0 a1:=by kernel_rfl
 rw[h]
 simp only[qbf1]
 rfl

def q2d (D:DX)(n:Nat) (go:qd→Int→Int→tSch→Option ((Bool×Unit)×Unit)) (K0:Bool→Option ((Bool×Unit)×Unit)) (K1:Option ((Bool×Unit)×Unit)) (x0:qd) (x1:Int) (x2:Int) (x3:tSch):Option ((Bool×Unit)×Unit):=br (decide (x2<x1)) (br (decide (0≤x2)&&decide (x2<(↑(List.length x0):Int))) (br (decide (0≤x2)&&decide (x2<(↑(List.length (Prod.fst x3)):Int))) (qi (qtt D (List.getD x0 (Int.toNat x2) (0,0,ByteArray.empty,()))) fun b↦br (bif !Prod.fst (Prod.fst b) then true else bif Prod.fst (List.getD x0 (Int.toNat x2) (0,0,ByteArray.empty,())) != Prod.fst (Prod.snd (List.getD (Prod.fst x3) (Int.toNat x2) (ByteArray.empty,0,false,()))) then !bif decide (Prod.fst (List.getD x0 (Int.toNat x2) (0,0,ByteArray.empty,()))=0) then Prod.fst (Prod.snd (Prod.snd (List.getD (Prod.fst x3) (Int.toNat x2) (ByteArray.empty,0,false,())))) else false else false) (K0 false) (go x0 x1 (IntKind.wrap IntKind.i64 (x2+1)) x3)) none) none) K1
def qmk (D:DX)(n:Nat) (K0:Bool→Option ((Bool×Unit)×Unit)) (K1:Option ((Bool×Unit)×Unit)):Nat→(qd)→(Int)→(Int)→(tSch)→Option ((Bool×Unit)×Unit) | 0=>(fun x0 x1 x2 x3=>none) | m+1=>(fun x0 x1 x2 x3=>q2d D n (qmk D n K0 K1 m) K0 K1 x0 x1 x2 x3)
def q6k (D:DX)(n:Nat) (v0_0:Bool):Option ((Bool×Unit)×Unit):=some ((v0_0,()),())
def q6q (D:DX)(n:Nat):Option ((Bool×Unit)×Unit):=some ((true,()),())
def q04 (D:DX)(n:Nat):(qd)→(Int)→(Int)→(tSch)→Option ((Bool×Unit)×Unit):=(fun x0 x1 x2 x3=>qmk D n (fun v0_0=>q6k D n v0_0) (q6q D n) n x0 x1 x2 x3)
def q4a (D:DX)(n:Nat) (lp0:qd→Int→Int→tSch→Option ((Bool×Unit)×Unit)) (a0:tSch) (a1:qd):Option ((Bool×Unit)×Unit):=qi (qsj D a0) fun b↦br (bif !Prod.fst (Prod.fst b) then true else (↑(List.length a1):Int) != (↑(List.length (Prod.fst a0)):Int)) (some ((false,()),())) (lp0 a1 (↑(List.length a1):Int) 0 a0)
def q5s (D:DX)(n:Nat) (a0:tSch) (a1:qd):Option ((Bool×Unit)×Unit):=q4a D n (q04 D n) a0 a1
def qmf (x0:qd) (x1:Int) (x2:Int) (x3:tSch):St:=stq 52 [(2,AV.addr 2 []),(19,AV.val (Ty.sl yV) x0),(20,avI x1),(21,avI x2)] [(2,Root.mk yS Mk.no x3 true)] 
def qr5 (v0_0:Bool):St:=stq 52 [(4,AV.val Ty.bool v0_0)] [] 
def qrw:St:=stq 52 [] [] 
theorem qbky (D:DX)(n:Nat) (m:Nat) (K:Ex→St→Option (Out ctx 77)) (x0:qd) (x1:Int) (x2:Int) (x3:tSch) :
 LQ qc D n 77 [.r,.r,.l,.r,.l] (m+1) (qmf x0 x1 x2 x3) K=q2d D n (fun x0 x1 x2 x3=>LQ qc D n 77 [.r,.r,.l,.r,.l] m (qmf x0 x1 x2 x3) K) (fun v0_0=>K (Ex.ret) (qr5 v0_0)) (K (Ex.exit 0) (qrw)) x0 x1 x2 x3:=by kernel_rfl
theorem q8y (D:DX)(n:Nat) (K:Ex→St→Option (Out ctx 77)):∀ (m:Nat) (x0:qd) (x1:Int) (x2:Int) (x3:tSch),LQ qc D n 77 [.r,.r,.l,.r,.l] m (qmf x0 x1 x2 x3) K=qmk D n (fun v0_0=>K (Ex.ret) (qr5 v0_0)) (K (Ex.exit 0) (qrw)) m x0 x1 x2 x3
 | 0,x0,x1,x2,x3=>qx ..
 | m+1,x0,x1,x2,x3=>by
  have ih:(fun x0 x1 x2 x3=>LQ qc D n 77 [.r,.r,.l,.r,.l] m (qmf x0 x1 x2 x3) K)=qmk D n (fun v0_0=>K (Ex.ret) (qr5 v0_0)) (K (Ex.exit 0) (qrw)) m:=by funext x0 x1 x2 x3;exact q8y D n K m x0 x1 x2 x3
  rw[qbky]
  rw[ih];rfl
theorem qbjs (D:DX)(n:Nat) (v0_0:Bool) :
 (CQ qc D n 77 [] [.r,.r,.l,.r,.l] (qh qc 77)) (Ex.ret) (qr5 v0_0)=q6k D n v0_0:=by kernel_rfl
theorem qbig (D:DX)(n:Nat) :
 (CQ qc D n 77 [] [.r,.r,.l,.r,.l] (qh qc 77)) (Ex.exit 0) (qrw)=q6q D n:=by kernel_rfl
theorem qbhn (D:DX)(n:Nat) (x0:qd) (x1:Int) (x2:Int) (x3:tSch) :
 LQ qc D n 77 [.r,.r,.l,.r,.l] n (qmf x0 x1 x2 x3) (CQ qc D n 77 [] [.r,.r,.l,.r,.l] (qh qc 77))=q04 D n x0 x1 x2 x3:=by
 rw[q8y]
 simp only[qbjs,qbig]
 rfl
theorem qbqm (D:DX)(n:Nat) (a0:tSch) (a1:qd):rfC qc D n 77 (a0,(a1,()))=q5s D n a0 a1:=by
 have h:rfC qc D n 77 (a0,(a1,()))=q4a D n (fun x0 x1 x2 x3=>LQ qc D n 77 [.r,.r,.l,.r,.l] n (qmf x0 x1 x2 x3) (CQ qc D n 77 [] [.r,.r,.l,.r,.l] (qh qc 77))) a0 a1:=by kernel_rfl
 rw[h]
 simp only[qbhn]
 rfl

def q5o (D:DX)(n:Nat) (a0:qd) (a1:qd):Option ((Bool×Unit)×Unit):=qi (qce D a0 a1 (Clo.mk 141 [])) fun b↦some ((decide (Prod.fst (Prod.fst b)<0),()),())
def qv7 (D:DX)(n:Nat) (a0:qd) (a1:qd):Option ((Bool×Unit)×Unit):=q5o D n a0 a1
theorem qbgt (D:DX)(n:Nat) (a0:qd) (a1:qd):rfC qc D n 78 (a0,(a1,()))=qv7 D n a0 a1:=by kernel_rfl

def qgw (D:DX)(n:Nat) (a1:Clo) (a0:qe):Option ((Bool×Unit)×Unit):=qi (qeq D a0 a1) fun b↦some ((decide (Prod.fst (Prod.fst b)≥0),()),())
def qdy (D:DX)(n:Nat) (a0:qe) (a1:Clo):Option ((Bool×Unit)×Unit):=qgw D n a1 a0
theorem qoa (D:DX)(n:Nat) (a0:qe) (a1:Clo):rfC qc D n 79 (a0,(a1,()))=qdy D n a0 a1:=by kernel_rfl

def q8l (D:DX)(n:Nat) (a0:qd) (a1:(tSch)×qe×Unit) (a2:qd):Option ((Bool×Unit)×Unit):=qi (q4j D (Prod.fst a1) a2 a0) fun b↦some ((Prod.fst (Prod.fst b),()),())
def qze (D:DX)(n:Nat) (a0:qd) (a1:(tSch)×qe×Unit) (a2:qd):Option ((Bool×Unit)×Unit):=q8l D n a0 a1 a2
theorem qbkk (D:DX)(n:Nat) (a0:qd) (a1:(tSch)×
 qe×Unit) (a2:qd):rfC qc D n 80 (a0,(a1,(a2,())))=qze D n a0 a1 a2:=by kernel_rfl

def qbcv (D:DX)(n:Nat) (a0:tSch) (a1:qd) (a2:qd):Option ((Bool×Unit)×Unit):=qi (qc0 D (Prod.fst (Prod.snd (Prod.snd a0))) (Clo.mk 143 [CapV.rptr (Ty.sl (Ty.pair (Ty.int IntKind.i64) (Ty.pair (Ty.int IntKind.i64) (Ty.pair Ty.str Ty.unit)))) a1,CapV.rptr (Ty.sl (Ty.pair (Ty.int IntKind.i64) (Ty.pair (Ty.int IntKind.i64) (Ty.pair Ty.str Ty.unit)))) a2])) fun b↦some ((Prod.fst (Prod.fst b),()),())
def q5z (D:DX)(n:Nat) (a0:tSch) (a1:qd) (a2:qd):Option ((Bool×Unit)×Unit):=qbcv D n a0 a1 a2
theorem qbo9 (D:DX)(n:Nat) (a0:tSch) (a1:qd) (a2:qd):rfC qc D n 81 (a0,(a1,(a2,())))=q5z D n a0 a1 a2:=by kernel_rfl

def qvy (D:DX)(n:Nat) (go:qhk→Int→Int→tSch→Option ((Bool×Unit)×Unit)) (K0:Bool→tSch→Option ((Bool×Unit)×Unit)) (K1:tSch→Option ((Bool×Unit)×Unit)) (x0:qhk) (x1:Int) (x2:Int) (x3:tSch):Option ((Bool×Unit)×Unit):=br (decide (x2<x1)) (br (decide (0≤x2)&&decide (x2<(↑(List.length x0):Int))) (qi (qp1 D (Prod.fst (List.getD x0 (Int.toNat x2) (ByteArray.empty,0,false,())))) fun b↦br (!Prod.fst (Prod.fst b)) (K0 false x3) (qi (qev D (Prod.fst (Prod.snd (List.getD x0 (Int.toNat x2) (ByteArray.empty,0,false,())))) 1 3) fun b↦br (!Prod.fst (Prod.fst b)) (K0 false x3) (qi (q5l D x3 (Prod.fst (List.getD x0 (Int.toNat x2) (ByteArray.empty,0,false,())))) fun b↦br (Prod.fst (Prod.fst b) != x2) (K0 false x3) (go x0 x1 (IntKind.wrap IntKind.i64 (x2+1)) x3)))) none) (K1 x3)
def qiz (D:DX)(n:Nat) (K0:Bool→tSch→Option ((Bool×Unit)×Unit)) (K1:tSch→Option ((Bool×Unit)×Unit)):Nat→(qhk)→(Int)→(Int)→(tSch)→Option ((Bool×Unit)×Unit) | 0=>(fun x0 x1 x2 x3=>none) | m+1=>(fun x0 x1 x2 x3=>qvy D n (qiz D n K0 K1 m) K0 K1 x0 x1 x2 x3)
def q13 (D:DX)(n:Nat) (v0_0:Bool) (v0_1:tSch):Option ((Bool×Unit)×Unit):=some ((v0_0,()),())
def qwm (D:DX)(n:Nat) (go:tIxs→Int→Int→tSch→Option ((Bool×Unit)×Unit)) (K0:Bool→tSch→Option ((Bool×Unit)×Unit)) (K1:tSch→Option ((Bool×Unit)×Unit)) (x1_0:tIxs) (x1_1:Int) (x1_2:Int) (x1_3:tSch):Option ((Bool×Unit)×Unit):=br (decide (x1_2<x1_1)) (br (decide (0≤x1_2)&&decide (x1_2<(↑(List.length x1_0):Int))) (qi (qp1 D (Prod.fst (List.getD x1_0 (Int.toNat x1_2) (ByteArray.empty,[],false,())))) fun b↦br (!Prod.fst (Prod.fst b)) (K0 false x1_3) (qi (qse D x1_3 (Prod.fst (Prod.snd (List.getD x1_0 (Int.toNat x1_2) (ByteArray.empty,[],false,())))) 3) fun b↦br (!Prod.fst (Prod.fst b)) (K0 false x1_3) (br (decide (0≤0)&&decide (0≤x1_2)&&decide (x1_2≤(↑(List.length (Prod.fst (Prod.snd (Prod.snd x1_3)))):Int))) (qi (qc0 D (List.drop (Int.toNat 0) (List.take (Int.toNat x1_2) (Prod.fst (Prod.snd (Prod.snd x1_3))))) (Clo.mk 149 [CapV.rptr (Ty.pair Ty.str (Ty.pair (Ty.sl (Ty.int IntKind.i64)) (Ty.pair Ty.bool Ty.unit))) (List.getD x1_0 (Int.toNat x1_2) (ByteArray.empty,[],false,()))])) fun b↦br (Prod.fst (Prod.fst b)) (K0 false x1_3) (go x1_0 x1_1 (IntKind.wrap IntKind.i64 (x1_2+1)) x1_3)) none))) none) (K1 x1_3)
def qi9 (D:DX)(n:Nat) (K0:Bool→tSch→Option ((Bool×Unit)×Unit)) (K1:tSch→Option ((Bool×Unit)×Unit)):Nat→(tIxs)→(Int)→(Int)→(tSch)→Option ((Bool×Unit)×Unit) | 0=>(fun x1_0 x1_1 x1_2 x1_3=>none) | m+1=>(fun x1_0 x1_1 x1_2 x1_3=>qwm D n (qi9 D n K0 K1 m) K0 K1 x1_0 x1_1 x1_2 x1_3)
def q12 (D:DX)(n:Nat) (v0_0:Bool) (v0_1:tSch):Option ((Bool×Unit)×Unit):=some ((v0_0,()),())
def qs6 (D:DX)(n:Nat) (v1_0:tSch):Option ((Bool×Unit)×Unit):=qi (qev D (↑(List.length (Prod.fst v1_0)):Int) 1 5) fun b↦br (Prod.fst (Prod.fst b)) (qi (qse D v1_0 (Prod.fst (Prod.snd v1_0)) 4) fun b↦br (Prod.fst (Prod.fst b)) (qi (qip D (Prod.fst (Prod.snd v1_0)) (Clo.mk 151 [CapV.rptr (Ty.pair (Ty.sl (Ty.pair Ty.str (Ty.pair (Ty.int IntKind.i64) (Ty.pair Ty.bool Ty.unit)))) (Ty.pair (Ty.sl (Ty.int IntKind.i64)) (Ty.pair (Ty.sl (Ty.pair Ty.str (Ty.pair (Ty.sl (Ty.int IntKind.i64)) (Ty.pair Ty.bool Ty.unit)))) Ty.unit))) v1_0])) fun b↦some ((bif !Prod.fst (Prod.fst b) then decide ((↑(List.length (Prod.fst (Prod.snd (Prod.snd v1_0)))):Int)≤3) else false,()),())) (some ((false,()),()))) (some ((false,()),()))
def qt9 (D:DX)(n:Nat):(tIxs)→(Int)→(Int)→(tSch)→Option ((Bool×Unit)×Unit):=(fun x1_0 x1_1 x1_2 x1_3=>qi9 D n (fun v0_0 v0_1=>q12 D n v0_0 v0_1) (fun v1_0=>qs6 D n v1_0) n x1_0 x1_1 x1_2 x1_3)
def qth (D:DX)(n:Nat) (lp1:tIxs→Int→Int→tSch→Option ((Bool×Unit)×Unit)) (v1_0:tSch):Option ((Bool×Unit)×Unit):=lp1 (Prod.fst (Prod.snd (Prod.snd v1_0))) (↑(List.length (Prod.fst (Prod.snd (Prod.snd v1_0)))):Int) 0 v1_0
def qut (D:DX)(n:Nat):(qhk)→(Int)→(Int)→(tSch)→Option ((Bool×Unit)×Unit):=(fun x0 x1 x2 x3=>qiz D n (fun v0_0 v0_1=>q13 D n v0_0 v0_1) (fun v1_0=>qth D n (qt9 D n) v1_0) n x0 x1 x2 x3)
def qxh (D:DX)(n:Nat) (lp0:qhk→Int→Int→tSch→Option ((Bool×Unit)×Unit)) (a0:tSch):Option ((Bool×Unit)×Unit):=lp0 (Prod.fst a0) (↑(List.length (Prod.fst a0)):Int) 0 a0
def qyi (D:DX)(n:Nat) (a0:tSch):Option ((Bool×Unit)×Unit):=qxh D n (qut D n) a0
def qjd (x0:qhk) (x1:Int) (x2:Int) (x3:tSch):St:=stq 85 [(1,AV.addr 1 []),(8,AV.val (Ty.sl yC) x0),(9,avI x1),(10,avI x2)] [(1,Root.mk yS Mk.no x3 true)] 
def qm2 (v0_0:Bool) (v0_1:tSch):St:=stq 85 [(1,AV.addr 1 []),(2,AV.val Ty.bool v0_0)] [(1,Root.mk yS Mk.no v0_1 true)] 
def qm7 (v1_0:tSch):St:=stq 85 [(1,AV.addr 1 [])] [(1,Root.mk yS Mk.no v1_0 true)] 
def qjj (x1_0:tIxs) (x1_1:Int) (x1_2:Int) (x1_3:tSch):St:=stq 85 [(1,AV.addr 1 []),(35,AV.val (Ty.sl yX) x1_0),(36,avI x1_1),(37,avI x1_2)] [(1,Root.mk yS Mk.no x1_3 true)] 
def qm3 (v0_0:Bool) (v0_1:tSch):St:=stq 85 [(1,AV.addr 1 []),(2,AV.val Ty.bool v0_0)] [(1,Root.mk yS Mk.no v0_1 true)] 
def qmy (v1_0:tSch):St:=stq 85 [(1,AV.addr 1 [])] [(1,Root.mk yS Mk.no v1_0 true)] 
theorem qbd7 (D:DX)(n:Nat) (m:Nat) (K:Ex→St→Option (Out ctx 82)) (x0:qhk) (x1:Int) (x2:Int) (x3:tSch) :
 LQ qc D n 82 [.r,.l,.r,.l] (m+1) (qjd x0 x1 x2 x3) K=qvy D n (fun x0 x1 x2 x3=>LQ qc D n 82 [.r,.l,.r,.l] m (qjd x0 x1 x2 x3) K) (fun v0_0 v0_1=>K (Ex.ret) (qm2 v0_0 v0_1)) (fun v1_0=>K (Ex.exit 0) (qm7 v1_0)) x0 x1 x2 x3:=by kernel_rfl
theorem q3g (D:DX)(n:Nat) (K:Ex→St→Option (Out ctx 82)):∀ (m:Nat) (x0:qhk) (x1:Int) (x2:Int) (x3:tSch),LQ qc D n 82 [.r,.l,.r,.l] m (qjd x0 x1 x2 x3) K=qiz D n (fun v0_0 v0_1=>K (Ex.ret) (qm2 v0_0 v0_1)) (fun v1_0=>K (Ex.exit 0) (qm7 v1_0)) m x0 x1 x2 x3
 | 0,x0,x1,x2,x3=>qx ..
 | m+1,x0,x1,x2,x3=>by
  have ih:(fun x0 x1 x2 x3=>LQ qc D n 82 [.r,.l,.r,.l] m (qjd x0 x1 x2 x3) K)=qiz D n (fun v0_0 v0_1=>K (Ex.ret) (qm2 v0_0 v0_1)) (fun v1_0=>K (Ex.exit 0) (qm7 v1_0)) m:=by funext x0 x1 x2 x3;exact q3g D n K m x0 x1 x2 x3
  rw[qbd7]
  rw[ih];rfl
theorem qbd6 (D:DX)(n:Nat) (m:Nat) (K:Ex→St→Option (Out ctx 82)) (x1_0:tIxs) (x1_1:Int) (x1_2:Int) (x1_3:tSch) :
 LQ qc D n 82 [.r,.r,.l,.r,.l] (m+1) (qjj x1_0 x1_1 x1_2 x1_3) K=qwm D n (fun x1_0 x1_1 x1_2 x1_3=>LQ qc D n 82 [.r,.r,.l,.r,.l] m (qjj x1_0 x1_1 x1_2 x1_3) K) (fun v0_0 v0_1=>K (Ex.ret) (qm3 v0_0 v0_1)) (fun v1_0=>K (Ex.exit 2) (qmy v1_0)) x1_0 x1_1 x1_2 x1_3:=by kernel_rfl
theorem q29 (D:DX)(n:Nat) (K:Ex→St→Option (Out ctx 82)):∀ (m:Nat) (x1_0:tIxs) (x1_1:Int) (x1_2:Int) (x1_3:tSch),LQ qc D n 82 [.r,.r,.l,.r,.l] m (qjj x1_0 x1_1 x1_2 x1_3) K=qi9 D n (fun v0_0 v0_1=>K (Ex.ret) (qm3 v0_0 v0_1)) (fun v1_0=>K (Ex.exit 2) (qmy v1_0)) m x1_0 x1_1 x1_2 x1_3
 | 0,x1_0,x1_1,x1_2,x1_3=>qx ..
 | m+1,x1_0,x1_1,x1_2,x1_3=>by
  have ih:(fun x1_0 x1_1 x1_2 x1_3=>LQ qc D n 82 [.r,.r,.l,.r,.l] m (qjj x1_0 x1_1 x1_2 x1_3) K)=qi9 D n (fun v0_0 v0_1=>K (Ex.ret) (qm3 v0_0 v0_1)) (fun v1_0=>K (Ex.exit 2) (qmy v1_0)) m:=by funext x1_0 x1_1 x1_2 x1_3;exact q29 D n K m x1_0 x1_1 x1_2 x1_3
  rw[qbd6]
  rw[ih];rfl
theorem qbbo (D:DX)(n:Nat) (v0_0:Bool) (v0_1:tSch) :
 (CQ qc D n 82 [] [.r,.r,.l,.r,.l] (qh qc 82)) (Ex.ret) (qm3 v0_0 v0_1)=q12 D n v0_0 v0_1:=by kernel_rfl
theorem qbbn (D:DX)(n:Nat) (v1_0:tSch) :
 (CQ qc D n 82 [] [.r,.r,.l,.r,.l] (qh qc 82)) (Ex.exit 2) (qmy v1_0)=qs6 D n v1_0:=by kernel_rfl
theorem qbcx (D:DX)(n:Nat) (x1_0:tIxs) (x1_1:Int) (x1_2:Int) (x1_3:tSch) :
 LQ qc D n 82 [.r,.r,.l,.r,.l] n (qjj x1_0 x1_1 x1_2 x1_3) (CQ qc D n 82 [] [.r,.r,.l,.r,.l] (qh qc 82))=qt9 D n x1_0 x1_1 x1_2 x1_3:=by
 rw[q29]
 simp only[qbbo,qbbn]
 rfl
theorem qbcn (D:DX)(n:Nat) (v0_0:Bool) (v0_1:tSch) :
 (CQ qc D n 82 [] [.r,.l,.r,.l] (qh qc 82)) (Ex.ret) (qm2 v0_0 v0_1)=q13 D n v0_0 v0_1:=by kernel_rfl
theorem qbbx (D:DX)(n:Nat) (v1_0:tSch) :
 (CQ qc D n 82 [] [.r,.l,.r,.l] (qh qc 82)) (Ex.exit 0) (qm7 v1_0)=qth D n (fun x1_0 x1_1 x1_2 x1_3=>LQ qc D n 82 [.r,.r,.l,.r,.l] n (qjj x1_0 x1_1 x1_2 x1_3) (CQ qc D n 82 [] [.r,.r,.l,.r,.l] (qh qc 82))) v1_0:=by kernel_rfl
theorem qbbg (D:DX)(n:Nat) (x0:qhk) (x1:Int) (x2:Int) (x3:tSch) :
 LQ qc D n 82 [.r,.l,.r,.l] n (qjd x0 x1 x2 x3) (CQ qc D n 82 [] [.r,.l,.r,.l] (qh qc 82))=qut D n x0 x1 x2 x3:=by
 rw[q3g]
 simp only[qbcn,qbbx,qbcx]
 rfl
theorem qbia (D:DX)(n:Nat) (a0:tSch):rfC qc D n 82 (a0,())=qyi D n a0:=by
 have h:rfC qc D n 82 (a0,())=qxh D n (fun x0 x1 x2 x3=>LQ qc D n 82 [.r,.l,.r,.l] n (qjd x0 x1 x2 x3) (CQ qc D n 82 [] [.r,.l,.r,.l] (qh qc 82))) a0:=by kernel_rfl
 rw[h]
 simp only[qbbg]
 rfl



def qea (D:DX)(n:Nat) (a1:Clo) (go:qe→Int→Int→Option ((Int×Unit)×Unit)) (K0:Int→Option ((Int×Unit)×Unit)) (K1:Option ((Int×Unit)×Unit)) (x0:qe) (x1:Int) (x2:Int):Option ((Int×Unit)×Unit):=br (decide (x2<x1)) (br (decide (0≤x2)&&decide (x2<(↑(List.length x0):Int))) (qi (qbn ctx D a1 [CapV.val (Ty.sl (Ty.pair (Ty.int IntKind.i64) (Ty.pair (Ty.int IntKind.i64) (Ty.pair Ty.str Ty.unit)))) (List.getD x0 (Int.toNat x2) [])] Ty.bool) fun b↦br b (K0 x2) (go x0 x1 (IntKind.wrap IntKind.i64 (x2+1)))) none) K1
def qbp (D:DX)(n:Nat) (a1:Clo) (K0:Int→Option ((Int×Unit)×Unit)) (K1:Option ((Int×Unit)×Unit)):Nat→(qe)→(Int)→(Int)→Option ((Int×Unit)×Unit) | 0=>(fun x0 x1 x2=>none) | m+1=>(fun x0 x1 x2=>qea D n a1 (qbp D n a1 K0 K1 m) K0 K1 x0 x1 x2)
def qgv (D:DX)(n:Nat) (a1:Clo) (v0_0:Int):Option ((Int×Unit)×Unit):=some ((v0_0,()),())
def qgu (D:DX)(n:Nat) (a1:Clo):Option ((Int×Unit)×Unit):=some ((-1,()),())
def qd1 (D:DX)(n:Nat) (a1:Clo):(qe)→(Int)→(Int)→Option ((Int×Unit)×Unit):=(fun x0 x1 x2=>qbp D n a1 (fun v0_0=>qgv D n a1 v0_0) (qgu D n a1) n x0 x1 x2)
def qej (D:DX)(n:Nat) (a1:Clo) (lp0:qe→Int→Int→Option ((Int×Unit)×Unit)) (a0:qe):Option ((Int×Unit)×Unit):=lp0 a0 (↑(List.length a0):Int) 0
def qek (D:DX)(n:Nat) (a0:qe) (a1:Clo):Option ((Int×Unit)×Unit):=qej D n a1 (qd1 D n a1) a0
def qbo (a1:Clo) (x0:qe) (x1:Int) (x2:Int):St:=stq 19 [(0,AV.val (Ty.sl (Ty.sl yV)) x0),(1,AV.cloV a1),(7,avI x1),(8,avI x2)] [] 
def qcw (a1:Clo) (v0_0:Int):St:=stq 19 [(4,avI v0_0)] [] 
def qcy (a1:Clo):St:=stq 19 [] [] 
theorem qo6 (D:DX)(n:Nat) (a1:Clo) (m:Nat) (K:Ex→St→Option (Out ctx 86)) (x0:qe) (x1:Int) (x2:Int) :
 LQ qc D n 86 [.r,.l,.r,.l] (m+1) (qbo a1 x0 x1 x2) K=qea D n a1 (fun x0 x1 x2=>LQ qc D n 86 [.r,.l,.r,.l] m (qbo a1 x0 x1 x2) K) (fun v0_0=>K (Ex.ret) (qcw a1 v0_0)) (K (Ex.exit 0) (qcy a1)) x0 x1 x2:=by kernel_rfl
theorem qhd (D:DX)(n:Nat) (a1:Clo) (K:Ex→St→Option (Out ctx 86)):∀ (m:Nat) (x0:qe) (x1:Int) (x2:Int),LQ qc D n 86 [.r,.l,.r,.l] m (qbo a1 x0 x1 x2) K=qbp D n a1 (fun v0_0=>K (Ex.ret) (qcw a1 v0_0)) (K (Ex.exit 0) (qcy a1)) m x0 x1 x2
 | 0,x0,x1,x2=>qx ..
 | m+1,x0,x1,x2=>by
  have ih:(fun x0 x1 x2=>LQ qc D n 86 [.r,.l,.r,.l] m (qbo a1 x0 x1 x2) K)=qbp D n a1 (fun v0_0=>K (Ex.ret) (qcw a1 v0_0)) (K (Ex.exit 0) (qcy a1)) m:=by funext x0 x1 x2;exact qhd D n a1 K m x0 x1 x2
  rw[qo6]
  rw[ih];rfl
theorem qoc (D:DX)(n:Nat) (a1:Clo) (v0_0:Int) :
 (CQ qc D n 86 [] [.r,.l,.r,.l] (qh qc 86)) (Ex.ret) (qcw a1 v0_0)=qgv D n a1 v0_0:=by kernel_rfl
theorem qoh (D:DX)(n:Nat) (a1:Clo) :
 (CQ qc D n 86 [] [.r,.l,.r,.l] (qh qc 86)) (Ex.exit 0) (qcy a1)=qgu D n a1:=by kernel_rfl
theorem qog (D:DX)(n:Nat) (a1:Clo) (x0:qe) (x1:Int) (x2:Int) :
 LQ qc D n 86 [.r,.l,.r,.l] n (qbo a1 x0 x1 x2) (CQ qc D n 86 [] [.r,.l,.r,.l] (qh qc 86))=qd1 D n a1 x0 x1 x2:=by
 rw[qhd]
 simp only[qoc,qoh]
 rfl
theorem qp6 (D:DX)(n:Nat) (a0:qe) (a1:Clo):rfC qc D n 86 (a0,(a1,()))=qek D n a0 a1:=by
 have h:rfC qc D n 86 (a0,(a1,()))=qej D n a1 (fun x0 x1 x2=>LQ qc D n 86 [.r,.l,.r,.l] n (qbo a1 x0 x1 x2) (CQ qc D n 86 [] [.r,.l,.r,.l] (qh qc 86))) a0:=by kernel_rfl
 rw[h]
 simp only[qog]
 rfl


def qls (D:DX)(n:Nat) (a0:List tWay):Option ((List tWay×Unit)×Unit):=br (decide (Int.toNat (↑(List.length a0):Int)=0)) (both (some (([],()),())) (br (decide (0+List.length a0≤qbi)) (some (([]++a0,()),())) none)) (br (decide (0+List.length a0≤qbi)) (some (([]++a0,()),())) none)
def qg0 (D:DX)(n:Nat) (a0:List tWay):Option ((List tWay×Unit)×Unit):=qls D n a0
theorem qv0 (D:DX)(n:Nat) (a0:List tWay):rfC qc D n 90 (a0,())=qg0 D n a0:=by kernel_rfl

def qff (D:DX)(n:Nat) (a1:Clo) (go:List tWay→Int→Int→Option ((Int×Unit)×Unit)) (K0:Int→Option ((Int×Unit)×Unit)) (K1:Option ((Int×Unit)×Unit)) (x0:List tWay) (x1:Int) (x2:Int):Option ((Int×Unit)×Unit):=br (decide (x2<x1)) (br (decide (0≤x2)&&decide (x2<(↑(List.length x0):Int))) (qi (qbn ctx D a1 [CapV.val (Ty.pair Ty.str (Ty.pair Ty.str Ty.unit)) (List.getD x0 (Int.toNat x2) (ByteArray.empty,ByteArray.empty,()))] Ty.bool) fun b↦br b (K0 x2) (go x0 x1 (IntKind.wrap IntKind.i64 (x2+1)))) none) K1
def qb8 (D:DX)(n:Nat) (a1:Clo) (K0:Int→Option ((Int×Unit)×Unit)) (K1:Option ((Int×Unit)×Unit)):Nat→(List tWay)→(Int)→(Int)→Option ((Int×Unit)×Unit) | 0=>(fun x0 x1 x2=>none) | m+1=>(fun x0 x1 x2=>qff D n a1 (qb8 D n a1 K0 K1 m) K0 K1 x0 x1 x2)
def qih (D:DX)(n:Nat) (a1:Clo) (v0_0:Int):Option ((Int×Unit)×Unit):=some ((v0_0,()),())
def qif (D:DX)(n:Nat) (a1:Clo):Option ((Int×Unit)×Unit):=some ((-1,()),())
def qe6 (D:DX)(n:Nat) (a1:Clo):(List tWay)→(Int)→(Int)→Option ((Int×Unit)×Unit):=(fun x0 x1 x2=>qb8 D n a1 (fun v0_0=>qih D n a1 v0_0) (qif D n a1) n x0 x1 x2)
def qfy (D:DX)(n:Nat) (a1:Clo) (lp0:List tWay→Int→Int→Option ((Int×Unit)×Unit)) (a0:List tWay):Option ((Int×Unit)×Unit):=lp0 a0 (↑(List.length a0):Int) 0
def qfw (D:DX)(n:Nat) (a0:List tWay) (a1:Clo):Option ((Int×Unit)×Unit):=qfy D n a1 (qe6 D n a1) a0
def qb6 (a1:Clo) (x0:List tWay) (x1:Int) (x2:Int):St:=stq 19 [(0,AV.val (Ty.sl (Ty.pair Ty.str (Ty.pair Ty.str Ty.unit))) x0),(1,AV.cloV a1),(7,avI x1),(8,avI x2)] [] 
def qdj (a1:Clo) (v0_0:Int):St:=stq 19 [(4,avI v0_0)] [] 
def qde (a1:Clo):St:=stq 19 [] [] 
theorem qre (D:DX)(n:Nat) (a1:Clo) (m:Nat) (K:Ex→St→Option (Out ctx 91)) (x0:List tWay) (x1:Int) (x2:Int) :
 LQ qc D n 91 [.r,.l,.r,.l] (m+1) (qb6 a1 x0 x1 x2) K=qff D n a1 (fun x0 x1 x2=>LQ qc D n 91 [.r,.l,.r,.l] m (qb6 a1 x0 x1 x2) K) (fun v0_0=>K (Ex.ret) (qdj a1 v0_0)) (K (Ex.exit 0) (qde a1)) x0 x1 x2:=by kernel_rfl
theorem qiw (D:DX)(n:Nat) (a1:Clo) (K:Ex→St→Option (Out ctx 91)):∀ (m:Nat) (x0:List tWay) (x1:Int) (x2:Int),LQ qc D n 91 [.r,.l,.r,.l] m (qb6 a1 x0 x1 x2) K=qb8 D n a1 (fun v0_0=>K (Ex.ret) (qdj a1 v0_0)) (K (Ex.exit 0) (qde a1)) m x0 x1 x2
 | 0,x0,x1,x2=>qx ..
 | m+1,x0,x1,x2=>by
  have ih:(fun x0 x1 x2=>LQ qc D n 91 [.r,.l,.r,.l] m (qb6 a1 x0 x1 x2) K)=qb8 D n a1 (fun v0_0=>K (Ex.ret) (qdj a1 v0_0)) (K (Ex.exit 0) (qde a1)) m:=by funext x0 x1 x2;exact qiw D n a1 K m x0 x1 x2
  rw[qre]
  rw[ih];rfl
theorem qq2 (D:DX)(n:Nat) (a1:Clo) (v0_0:Int) :
 (CQ qc D n 91 [] [.r,.l,.r,.l] (qh qc 91)) (Ex.ret) (qdj a1 v0_0)=qih D n a1 v0_0:=by kernel_rfl
theorem qqx (D:DX)(n:Nat) (a1:Clo) :
 (CQ qc D n 91 [] [.r,.l,.r,.l] (qh qc 91)) (Ex.exit 0) (qde a1)=qif D n a1:=by kernel_rfl
theorem qq0 (D:DX)(n:Nat) (a1:Clo) (x0:List tWay) (x1:Int) (x2:Int) :
 LQ qc D n 91 [.r,.l,.r,.l] n (qb6 a1 x0 x1 x2) (CQ qc D n 91 [] [.r,.l,.r,.l] (qh qc 91))=qe6 D n a1 x0 x1 x2:=by
 rw[qiw]
 simp only[qq2,qqx]
 rfl
theorem qtc (D:DX)(n:Nat) (a0:List tWay) (a1:Clo):rfC qc D n 91 (a0,(a1,()))=qfw D n a0 a1:=by
 have h:rfC qc D n 91 (a0,(a1,()))=qfy D n a1 (fun x0 x1 x2=>LQ qc D n 91 [.r,.l,.r,.l] n (qb6 a1 x0 x1 x2) (CQ qc D n 91 [] [.r,.l,.r,.l] (qh qc 91))) a0:=by kernel_rfl
 rw[h]
 simp only[qq0]
 rfl

def q6z (D:DX)(n:Nat) (a0:ByteArray×ByteArray×Unit) (a1:ByteArray×ByteArray×Unit):Option ((Bool×Unit)×Unit):=qi (qy7 D a0 a1) fun b↦some ((!Prod.fst (Prod.fst b),()),())
def qx3 (D:DX)(n:Nat) (a0:ByteArray×ByteArray×Unit) (a1:ByteArray×ByteArray×Unit):Option ((Bool×Unit)×Unit):=q6z D n a0 a1
theorem qbhu (D:DX)(n:Nat) (a0:ByteArray×ByteArray×Unit) (a1:ByteArray×ByteArray×Unit):rfC qc D n 92 (a0,(a1,()))=qx3 D n a0 a1:=by kernel_rfl

def qxy (D:DX)(n:Nat) (go:qd→List Int→Int→Int→qd→Option ((qd×Unit)×Unit)) (K0:qd→Option ((qd×Unit)×Unit)) (x0:qd) (x1:List Int) (x2:Int) (x3:Int) (x4:qd):Option ((qd×Unit)×Unit):=br (decide (x3<x2)) (br (decide (0≤x3)&&decide (x3<(↑(List.length x1):Int))) (qi (qev D (List.getD x1 (Int.toNat x3) 0) 0 (IntKind.wrap IntKind.i64 ((↑(List.length x0):Int) - 1))) fun b↦br (Prod.fst (Prod.fst b)) (br (decide (0≤List.getD x1 (Int.toNat x3) 0)&&decide (List.getD x1 (Int.toNat x3) 0<(↑(List.length x0):Int))) (br (decide (List.length x4+1≤qbi)) (go x0 x1 x2 (IntKind.wrap IntKind.i64 (x3+1)) (x4++[List.getD x0 (Int.toNat (List.getD x1 (Int.toNat x3) 0)) (0,0,ByteArray.empty,())])) none) none) (go x0 x1 x2 (IntKind.wrap IntKind.i64 (x3+1)) x4)) none) (K0 x4)
def qkk (D:DX)(n:Nat) (K0:qd→Option ((qd×Unit)×Unit)):Nat→(qd)→(List Int)→(Int)→(Int)→(qd)→Option ((qd×Unit)×Unit) | 0=>(fun x0 x1 x2 x3 x4=>none) | m+1=>(fun x0 x1 x2 x3 x4=>qxy D n (qkk D n K0 m) K0 x0 x1 x2 x3 x4)
def q27 (D:DX)(n:Nat) (v0_0:qd):Option ((qd×Unit)×Unit):=some ((v0_0,()),())
def qvk (D:DX)(n:Nat):(qd)→(List Int)→(Int)→(Int)→(qd)→Option ((qd×Unit)×Unit):=(fun x0 x1 x2 x3 x4=>qkk D n (fun v0_0=>q27 D n v0_0) n x0 x1 x2 x3 x4)
def q0q (D:DX)(n:Nat) (lp0:qd→List Int→Int→Int→qd→Option ((qd×Unit)×Unit)) (a0:qd) (a1:List Int):Option ((qd×Unit)×Unit):=lp0 a0 a1 (↑(List.length a1):Int) 0 []
def qzj (D:DX)(n:Nat) (a0:qd) (a1:List Int):Option ((qd×Unit)×Unit):=q0q D n (qvk D n) a0 a1
def qj7 (x0:qd) (x1:List Int) (x2:Int) (x3:Int) (x4:qd):St:=stq 29 [(0,AV.val (Ty.sl yV) x0),(5,AV.brw 5 [] 0),(9,AV.val (Ty.sl yI) x1),(10,avI x2),(11,avI x3)] [(5,Root.mk (Ty.sl yV) (Mk.own 0 (Mk.pr Mk.no (Mk.pr Mk.no (Mk.pr Mk.no Mk.no)))) x4 false)] 
def qou (v0_0:qd):St:=stq 29 [(5,AV.brw 5 [] 0)] [(5,Root.mk (Ty.sl yV) (Mk.own 0 (Mk.pr Mk.no (Mk.pr Mk.no (Mk.pr Mk.no Mk.no)))) v0_0 false)] 
theorem qbhc (D:DX)(n:Nat) (m:Nat) (K:Ex→St→Option (Out ctx 94)) (x0:qd) (x1:List Int) (x2:Int) (x3:Int) (x4:qd) :
 LQ qc D n 94 [.r,.r,.l,.r,.l] (m+1) (qj7 x0 x1 x2 x3 x4) K=qxy D n (fun x0 x1 x2 x3 x4=>LQ qc D n 94 [.r,.r,.l,.r,.l] m (qj7 x0 x1 x2 x3 x4) K) (fun v0_0=>K (Ex.exit 0) (qou v0_0)) x0 x1 x2 x3 x4:=by kernel_rfl
theorem q4c (D:DX)(n:Nat) (K:Ex→St→Option (Out ctx 94)):∀ (m:Nat) (x0:qd) (x1:List Int) (x2:Int) (x3:Int) (x4:qd),LQ qc D n 94 [.r,.r,.l,.r,.l] m (qj7 x0 x1 x2 x3 x4) K=qkk D n (fun v0_0=>K (Ex.exit 0) (qou v0_0)) m x0 x1 x2 x3 x4
 | 0,x0,x1,x2,x3,x4=>qx ..
 | m+1,x0,x1,x2,x3,x4=>by
  have ih:(fun x0 x1 x2 x3 x4=>LQ qc D n 94 [.r,.r,.l,.r,.l] m (qj7 x0 x1 x2 x3 x4) K)=qkk D n (fun v0_0=>K (Ex.exit 0) (qou v0_0)) m:=by funext x0 x1 x2 x3 x4;exact q4c D n K m x0 x1 x2 x3 x4
  rw[qbhc]
  rw[ih];rfl
theorem qbei (D:DX)(n:Nat) (v0_0:qd) :
 (CQ qc D n 94 [] [.r,.r,.l,.r,.l] (qh qc 94)) (Ex.exit 0) (qou v0_0)=q27 D n v0_0:=by kernel_rfl
theorem qbet (D:DX)(n:Nat) (x0:qd) (x1:List Int) (x2:Int) (x3:Int) (x4:qd) :
 LQ qc D n 94 [.r,.r,.l,.r,.l] n (qj7 x0 x1 x2 x3 x4) (CQ qc D n 94 [] [.r,.r,.l,.r,.l] (qh qc 94))=qvk D n x0 x1 x2 x3 x4:=by
 rw[q4c]
 simp only[qbei]
 rfl
theorem qbkh (D:DX)(n:Nat) (a0:qd) (a1:List Int):rfC qc D n 94 (a0,(a1,()))=qzj D n a0 a1:=by
 have h:rfC qc D n 94 (a0,(a1,()))=q0q D n (fun x0 x1 x2 x3 x4=>LQ qc D n 94 [.r,.r,.l,.r,.l] n (qj7 x0 x1 x2 x3 x4) (CQ qc D n 94 [] [.r,.r,.l,.r,.l] (qh qc 94))) a0 a1:=by kernel_rfl
 rw[h]
 simp only[qbet]
 rfl

def q76 (D:DX)(n:Nat) (a0:(tSch)×qe×Unit):Option ((((tSch)×qe×Unit)×Unit)×Unit):=qi (qt0 D (Prod.fst a0)) fun b↦qi (qi1 D (Prod.fst (Prod.snd a0))) fun b_1↦some ((((Prod.fst (Prod.fst (Prod.fst b)),Prod.fst (Prod.snd (Prod.fst (Prod.fst b))),Prod.fst (Prod.snd (Prod.snd (Prod.fst (Prod.fst b)))),()),Prod.fst (Prod.fst b_1),()),()),())
def qy8 (D:DX)(n:Nat) (a0:(tSch)×qe×Unit):Option ((((tSch)×qe×Unit)×Unit)×Unit):=q76 D n a0
theorem qbl2 (D:DX)(n:Nat) (a0:(tSch)×
 qe×Unit):rfC qc D n 99 (a0,())=qy8 D n a0:=by kernel_rfl

def q21 (D:DX)(n:Nat) (go:qd→Int→tSch→Option ((Bool×Unit)×Unit)) (K0:Bool→Option ((Bool×Unit)×Unit)) (K1:Option ((Bool×Unit)×Unit)) (x0:qd) (x1:Int) (x2:tSch):Option ((Bool×Unit)×Unit):=br (decide (x1<(↑(List.length x0):Int))) (br (decide (0≤x1)&&decide (x1<(↑(List.length x0):Int))) (qi (q0s D (List.getD x0 (Int.toNat x1) (0,0,ByteArray.empty,()))) fun b↦br (!Prod.fst (Prod.fst b)) (K0 false) (br (decide (0≤x1)&&decide (x1<(↑(List.length x0):Int))) (br (decide (0≤x1)&&decide (x1<(↑(List.length (Prod.fst x2)):Int))) (br (Prod.fst (List.getD x0 (Int.toNat x1) (0,0,ByteArray.empty,())) != Prod.fst (Prod.snd (List.getD (Prod.fst x2) (Int.toNat x1) (ByteArray.empty,0,false,())))) (br (decide (0≤x1)&&decide (x1<(↑(List.length (Prod.fst x2)):Int))) (br (Prod.fst (Prod.snd (Prod.snd (List.getD (Prod.fst x2) (Int.toNat x1) (ByteArray.empty,0,false,()))))) (br (decide (0≤x1)&&decide (x1<(↑(List.length x0):Int))) (br (!decide (Prod.fst (List.getD x0 (Int.toNat x1) (0,0,ByteArray.empty,()))=0)) (K0 false) (go x0 (IntKind.wrap IntKind.i64 (x1+1)) x2)) none) (K0 false)) none) (go x0 (IntKind.wrap IntKind.i64 (x1+1)) x2)) none) none)) none) K1
def qmp (D:DX)(n:Nat) (K0:Bool→Option ((Bool×Unit)×Unit)) (K1:Option ((Bool×Unit)×Unit)):Nat→(qd)→(Int)→(tSch)→Option ((Bool×Unit)×Unit) | 0=>(fun x0 x1 x2=>none) | m+1=>(fun x0 x1 x2=>q21 D n (qmp D n K0 K1 m) K0 K1 x0 x1 x2)
def q6r (D:DX)(n:Nat) (v0_0:Bool):Option ((Bool×Unit)×Unit):=some ((v0_0,()),())
def q6v (D:DX)(n:Nat):Option ((Bool×Unit)×Unit):=some ((true,()),())
def q0x (D:DX)(n:Nat):(qd)→(Int)→(tSch)→Option ((Bool×Unit)×Unit):=(fun x0 x1 x2=>qmp D n (fun v0_0=>q6r D n v0_0) (q6v D n) n x0 x1 x2)
def q4t (D:DX)(n:Nat) (lp0:qd→Int→tSch→Option ((Bool×Unit)×Unit)) (a0:tSch) (a1:qd):Option ((Bool×Unit)×Unit):=qi (qr7 D a0) fun b↦br (bif !Prod.fst (Prod.fst b) then true else (↑(List.length a1):Int) != (↑(List.length (Prod.fst a0)):Int)) (some ((false,()),())) (lp0 a1 0 a0)
def q5d (D:DX)(n:Nat) (a0:tSch) (a1:qd):Option ((Bool×Unit)×Unit):=q4t D n (q0x D n) a0 a1
def qmj (x0:qd) (x1:Int) (x2:tSch):St:=stq 60 [(1,AV.val (Ty.sl yV) x0),(2,AV.addr 2 []),(5,avI x1)] [(2,Root.mk yS Mk.no x2 true)] 
def qsa (v0_0:Bool):St:=stq 60 [(4,AV.val Ty.bool v0_0)] [] 
def qr3:St:=stq 60 [] [] 
theorem qbkn (D:DX)(n:Nat) (m:Nat) (K:Ex→St→Option (Out ctx 100)) (x0:qd) (x1:Int) (x2:tSch) :
 LQ qc D n 100 [.r,.r,.l,.r,.l] (m+1) (qmj x0 x1 x2) K=q21 D n (fun x0 x1 x2=>LQ qc D n 100 [.r,.r,.l,.r,.l] m (qmj x0 x1 x2) K) (fun v0_0=>K (Ex.ret) (qsa v0_0)) (K (Ex.exit 0) (qr3)) x0 x1 x2:=by kernel_rfl
theorem q75 (D:DX)(n:Nat) (K:Ex→St→Option (Out ctx 100)):∀ (m:Nat) (x0:qd) (x1:Int) (x2:tSch),LQ qc D n 100 [.r,.r,.l,.r,.l] m (qmj x0 x1 x2) K=qmp D n (fun v0_0=>K (Ex.ret) (qsa v0_0)) (K (Ex.exit 0) (qr3)) m x0 x1 x2
 | 0,x0,x1,x2=>qx ..
 | m+1,x0,x1,x2=>by
  have ih:(fun x0 x1 x2=>LQ qc D n 100 [.r,.r,.l,.r,.l] m (qmj x0 x1 x2) K)=qmp D n (fun v0_0=>K (Ex.ret) (qsa v0_0)) (K (Ex.exit 0) (qr3)) m:=by funext x0 x1 x2;exact q75 D n K m x0 x1 x2
  rw[qbkn]
  rw[ih];rfl
theorem qbi3 (D:DX)(n:Nat) (v0_0:Bool) :
 (CQ qc D n 100 [] [.r,.r,.l,.r,.l] (qh qc 100)) (Ex.ret) (qsa v0_0)=q6r D n v0_0:=by kernel_rfl
theorem qbim (D:DX)(n:Nat) :
 (CQ qc D n 100 [] [.r,.r,.l,.r,.l] (qh qc 100)) (Ex.exit 0) (qr3)=q6v D n:=by kernel_rfl
theorem qbhm (D:DX)(n:Nat) (x0:qd) (x1:Int) (x2:tSch) :
 LQ qc D n 100 [.r,.r,.l,.r,.l] n (qmj x0 x1 x2) (CQ qc D n 100 [] [.r,.r,.l,.r,.l] (qh qc 100))=q0x D n x0 x1 x2:=by
 rw[q75]
 simp only[qbi3,qbim]
 rfl
theorem qbpj (D:DX)(n:Nat) (a0:tSch) (a1:qd):rfC qc D n 100 (a0,(a1,()))=q5d D n a0 a1:=by
 have h:rfC qc D n 100 (a0,(a1,()))=q4t D n (fun x0 x1 x2=>LQ qc D n 100 [.r,.r,.l,.r,.l] n (qmj x0 x1 x2) (CQ qc D n 100 [] [.r,.r,.l,.r,.l] (qh qc 100))) a0 a1:=by kernel_rfl
 rw[h]
 simp only[qbhm]
 rfl

def q17 (D:DX)(n:Nat) (go:qd→Int→(tSch)×qe×Unit→Option ((Int×Unit)×Unit)) (K0:Int→Option ((Int×Unit)×Unit)) (K1:Option ((Int×Unit)×Unit)) (x0:qd) (x1:Int) (x2:(tSch)×qe×Unit):Option ((Int×Unit)×Unit):=br (decide (x1<(↑(List.length (Prod.fst (Prod.snd x2))):Int))) (br (decide (0≤x1)&&decide (x1<(↑(List.length (Prod.fst (Prod.snd x2))):Int))) (qi (qd7 D (Prod.fst x2) (List.getD (Prod.fst (Prod.snd x2)) (Int.toNat x1) [])) fun b↦qi (qtq D (Prod.fst (Prod.fst b)) x0) fun b↦br (Prod.fst (Prod.fst b)) (K0 x1) (go x0 (IntKind.wrap IntKind.i64 (x1+1)) x2)) none) K1
def qme (D:DX)(n:Nat) (K0:Int→Option ((Int×Unit)×Unit)) (K1:Option ((Int×Unit)×Unit)):Nat→(qd)→(Int)→((tSch)×qe×Unit)→Option ((Int×Unit)×Unit) | 0=>(fun x0 x1 x2=>none) | m+1=>(fun x0 x1 x2=>q17 D n (qme D n K0 K1 m) K0 K1 x0 x1 x2)
def q6l (D:DX)(n:Nat) (v0_0:Int):Option ((Int×Unit)×Unit):=some ((v0_0,()),())
def q65 (D:DX)(n:Nat):Option ((Int×Unit)×Unit):=some ((-1,()),())
def qzs (D:DX)(n:Nat):(qd)→(Int)→((tSch)×qe×Unit)→Option ((Int×Unit)×Unit):=(fun x0 x1 x2=>qme D n (fun v0_0=>q6l D n v0_0) (q65 D n) n x0 x1 x2)
def q4v (D:DX)(n:Nat) (lp0:qd→Int→(tSch)×qe×Unit→Option ((Int×Unit)×Unit)) (a0:(tSch)×qe×Unit) (a1:qd):Option ((Int×Unit)×Unit):=lp0 a1 0 a0
def q4g (D:DX)(n:Nat) (a0:(tSch)×qe×Unit) (a1:qd):Option ((Int×Unit)×Unit):=q4v D n (qzs D n) a0 a1
def qmo (x0:qd) (x1:Int) (x2:(tSch)×qe×Unit):St:=stq 24 [(1,AV.val (Ty.sl yV) x0),(2,AV.addr 2 []),(5,avI x1)] [(2,Root.mk (Ty.pair yS (Ty.pair (Ty.sl (Ty.sl yV)) Ty.unit)) Mk.no x2 true)] 
def qr0 (v0_0:Int):St:=stq 24 [(4,avI v0_0)] [] 
def qr8:St:=stq 24 [] [] 
theorem qbk3 (D:DX)(n:Nat) (m:Nat) (K:Ex→St→Option (Out ctx 101)) (x0:qd) (x1:Int) (x2:(tSch)×
 qe×Unit) :
 LQ qc D n 101 [.r,.l,.r,.l] (m+1) (qmo x0 x1 x2) K=q17 D n (fun x0 x1 x2=>LQ qc D n 101 [.r,.l,.r,.l] m (qmo x0 x1 x2) K) (fun v0_0=>K (Ex.ret) (qr0 v0_0)) (K (Ex.exit 0) (qr8)) x0 x1 x2:=by kernel_rfl
theorem q8q (D:DX)(n:Nat) (K:Ex→St→Option (Out ctx 101)):∀ (m:Nat) (x0:qd) (x1:Int) (x2:(tSch)×
 qe×Unit),LQ qc D n 101 [.r,.l,.r,.l] m (qmo x0 x1 x2) K=qme D n (fun v0_0=>K (Ex.ret) (qr0 v0_0)) (K (Ex.exit 0) (qr8)) m x0 x1 x2
 | 0,x0,x1,x2=>qx ..
 | m+1,x0,x1,x2=>by
  have ih:(fun x0 x1 x2=>LQ qc D n 101 [.r,.l,.r,.l] m (qmo x0 x1 x2) K)=qme D n (fun v0_0=>K (Ex.ret) (qr0 v0_0)) (K (Ex.exit 0) (qr8)) m:=by funext x0 x1 x2;exact q8q D n K m x0 x1 x2
  rw[qbk3]
  rw[ih];rfl
theorem qbiw (D:DX)(n:Nat) (v0_0:Int) :
 (CQ qc D n 101 [] [.r,.l,.r,.l] (qh qc 101)) (Ex.ret) (qr0 v0_0)=q6l D n v0_0:=by kernel_rfl
theorem qbit (D:DX)(n:Nat) :
 (CQ qc D n 101 [] [.r,.l,.r,.l] (qh qc 101)) (Ex.exit 0) (qr8)=q65 D n:=by kernel_rfl
theorem qbjp (D:DX)(n:Nat) (x0:qd) (x1:Int) (x2:(tSch)×
 qe×Unit) :
 LQ qc D n 101 [.r,.l,.r,.l] n (qmo x0 x1 x2) (CQ qc D n 101 [] [.r,.l,.r,.l] (qh qc 101))=qzs D n x0 x1 x2:=by
 rw[q8q]
 simp only[qbiw,qbit]
 rfl
theorem qbqo (D:DX)(n:Nat) (a0:(tSch)×
 qe×Unit) (a1:qd):rfC qc D n 101 (a0,(a1,()))=q4g D n a0 a1:=by
 have h:rfC qc D n 101 (a0,(a1,()))=q4v D n (fun x0 x1 x2=>LQ qc D n 101 [.r,.l,.r,.l] n (qmo x0 x1 x2) (CQ qc D n 101 [] [.r,.l,.r,.l] (qh qc 101))) a0 a1:=by kernel_rfl
 rw[h]
 simp only[qbjp]
 rfl

def q6j (D:DX)(n:Nat) (a0:tSch) (a1:qd):Option ((qd×Unit)×Unit):=qi (qo7 D a1 (Prod.fst (Prod.snd a0))) fun b↦some ((Prod.fst (Prod.fst b),()),())
def qx7 (D:DX)(n:Nat) (a0:tSch) (a1:qd):Option ((qd×Unit)×Unit):=q6j D n a0 a1
theorem qbis (D:DX)(n:Nat) (a0:tSch) (a1:qd):rfC qc D n 102 (a0,(a1,()))=qx7 D n a0 a1:=by kernel_rfl

def qup (D:DX)(n:Nat) (go:qd→Int→Int→(tSch)×qe×Unit→Option ((Bool×Unit)×Unit)) (K0:Bool→Option ((Bool×Unit)×Unit)) (K1:Option ((Bool×Unit)×Unit)) (x0:qd) (x1:Int) (x2:Int) (x3:(tSch)×qe×Unit):Option ((Bool×Unit)×Unit):=br (decide (x2<(↑(List.length (Prod.fst (Prod.snd x3))):Int))) (br (x2 != x1) (br (decide (0≤x2)&&decide (x2<(↑(List.length (Prod.fst (Prod.snd x3))):Int))) (qi (qsb D (Prod.fst x3) (List.getD (Prod.fst (Prod.snd x3)) (Int.toNat x2) []) x0) fun b↦br (Prod.fst (Prod.fst b)) (K0 true) (go x0 x1 (IntKind.wrap IntKind.i64 (x2+1)) x3)) none) (go x0 x1 (IntKind.wrap IntKind.i64 (x2+1)) x3)) K1
def qib (D:DX)(n:Nat) (K0:Bool→Option ((Bool×Unit)×Unit)) (K1:Option ((Bool×Unit)×Unit)):Nat→(qd)→(Int)→(Int)→((tSch)×qe×Unit)→Option ((Bool×Unit)×Unit) | 0=>(fun x0 x1 x2 x3=>none) | m+1=>(fun x0 x1 x2 x3=>qup D n (qib D n K0 K1 m) K0 K1 x0 x1 x2 x3)
def qy1 (D:DX)(n:Nat) (v0_0:Bool):Option ((Bool×Unit)×Unit):=some ((v0_0,()),())
def qyz (D:DX)(n:Nat):Option ((Bool×Unit)×Unit):=some ((false,()),())
def qso (D:DX)(n:Nat):(qd)→(Int)→(Int)→((tSch)×qe×Unit)→Option ((Bool×Unit)×Unit):=(fun x0 x1 x2 x3=>qib D n (fun v0_0=>qy1 D n v0_0) (qyz D n) n x0 x1 x2 x3)
def qv2 (D:DX)(n:Nat) (lp0:qd→Int→Int→(tSch)×qe×Unit→Option ((Bool×Unit)×Unit)) (a0:(tSch)×qe×Unit) (a1:qd) (a2:Int):Option ((Bool×Unit)×Unit):=lp0 a1 a2 0 a0
def qvr (D:DX)(n:Nat) (a0:(tSch)×qe×Unit) (a1:qd) (a2:Int):Option ((Bool×Unit)×Unit):=qv2 D n (qso D n) a0 a1 a2
def qh8 (x0:qd) (x1:Int) (x2:Int) (x3:(tSch)×qe×Unit):St:=stq 29 [(1,AV.val (Ty.sl yV) x0),(2,avI x1),(3,AV.addr 3 []),(7,avI x2)] [(3,Root.mk (Ty.pair yS (Ty.pair (Ty.sl (Ty.sl yV)) Ty.unit)) Mk.no x3 true)] 
def ql7 (v0_0:Bool):St:=stq 29 [(6,AV.val Ty.bool v0_0)] [] 
def ql4:St:=stq 29 [] [] 
theorem qbcb (D:DX)(n:Nat) (m:Nat) (K:Ex→St→Option (Out ctx 103)) (x0:qd) (x1:Int) (x2:Int) (x3:(tSch)×
 qe×Unit) :
 LQ qc D n 103 [.r,.l,.r,.l] (m+1) (qh8 x0 x1 x2 x3) K=qup D n (fun x0 x1 x2 x3=>LQ qc D n 103 [.r,.l,.r,.l] m (qh8 x0 x1 x2 x3) K) (fun v0_0=>K (Ex.ret) (ql7 v0_0)) (K (Ex.exit 0) (ql4)) x0 x1 x2 x3:=by kernel_rfl
theorem q1k (D:DX)(n:Nat) (K:Ex→St→Option (Out ctx 103)):∀ (m:Nat) (x0:qd) (x1:Int) (x2:Int) (x3:(tSch)×
 qe×Unit),LQ qc D n 103 [.r,.l,.r,.l] m (qh8 x0 x1 x2 x3) K=qib D n (fun v0_0=>K (Ex.ret) (ql7 v0_0)) (K (Ex.exit 0) (ql4)) m x0 x1 x2 x3
 | 0,x0,x1,x2,x3=>qx ..
 | m+1,x0,x1,x2,x3=>by
  have ih:(fun x0 x1 x2 x3=>LQ qc D n 103 [.r,.l,.r,.l] m (qh8 x0 x1 x2 x3) K)=qib D n (fun v0_0=>K (Ex.ret) (ql7 v0_0)) (K (Ex.exit 0) (ql4)) m:=by funext x0 x1 x2 x3;exact q1k D n K m x0 x1 x2 x3
  rw[qbcb]
  rw[ih];rfl
theorem qban (D:DX)(n:Nat) (v0_0:Bool) :
 (CQ qc D n 103 [] [.r,.l,.r,.l] (qh qc 103)) (Ex.ret) (ql7 v0_0)=qy1 D n v0_0:=by kernel_rfl
theorem qba7 (D:DX)(n:Nat) :
 (CQ qc D n 103 [] [.r,.l,.r,.l] (qh qc 103)) (Ex.exit 0) (ql4)=qyz D n:=by kernel_rfl
theorem qbas (D:DX)(n:Nat) (x0:qd) (x1:Int) (x2:Int) (x3:(tSch)×
 qe×Unit) :
 LQ qc D n 103 [.r,.l,.r,.l] n (qh8 x0 x1 x2 x3) (CQ qc D n 103 [] [.r,.l,.r,.l] (qh qc 103))=qso D n x0 x1 x2 x3:=by
 rw[q1k]
 simp only[qban,qba7]
 rfl
theorem qbgy (D:DX)(n:Nat) (a0:(tSch)×
 qe×Unit) (a1:qd) (a2:Int):rfC qc D n 103 (a0,(a1,(a2,())))=qvr D n a0 a1 a2:=by
 have h:rfC qc D n 103 (a0,(a1,(a2,())))=qv2 D n (fun x0 x1 x2 x3=>LQ qc D n 103 [.r,.l,.r,.l] n (qh8 x0 x1 x2 x3) (CQ qc D n 103 [] [.r,.l,.r,.l] (qh qc 103))) a0 a1 a2:=by kernel_rfl
 rw[h]
 simp only[qbas]
 rfl

def qt6 (D:DX)(n:Nat) (go:qd→qd→Int→Option ((Bool×Unit)×Unit)) (K0:qd→qd→Bool→Option ((Bool×Unit)×Unit)) (K1:qd→qd→Option ((Bool×Unit)×Unit)) (x0:qd) (x1:qd) (x2:Int):Option ((Bool×Unit)×Unit):=br (bif decide (x2<(↑(List.length x0):Int)) then decide (x2<(↑(List.length x1):Int)) else false) (br (decide (0≤x2)&&decide (x2<(↑(List.length x0):Int))) (br (decide (0≤x2)&&decide (x2<(↑(List.length x1):Int))) (qi (qp4 D (List.getD x0 (Int.toNat x2) (0,0,ByteArray.empty,())) (List.getD x1 (Int.toNat x2) (0,0,ByteArray.empty,()))) fun b↦br (!Prod.fst (Prod.fst b)) (br (decide (0≤x2)&&decide (x2<(↑(List.length x0):Int))) (br (decide (0≤x2)&&decide (x2<(↑(List.length x1):Int))) (qi (qwh D (List.getD x0 (Int.toNat x2) (0,0,ByteArray.empty,())) (List.getD x1 (Int.toNat x2) (0,0,ByteArray.empty,()))) fun b↦K0 x0 x1 (Prod.fst (Prod.fst b))) none) none) (go x0 x1 (IntKind.wrap IntKind.i64 (x2+1)))) none) none) (K1 x0 x1)
def qh9 (D:DX)(n:Nat) (K0:qd→qd→Bool→Option ((Bool×Unit)×Unit)) (K1:qd→qd→Option ((Bool×Unit)×Unit)):Nat→(qd)→(qd)→(Int)→Option ((Bool×Unit)×Unit) | 0=>(fun x0 x1 x2=>none) | m+1=>(fun x0 x1 x2=>qt6 D n (qh9 D n K0 K1 m) K0 K1 x0 x1 x2)
def qrs (D:DX)(n:Nat) (v0_0:qd) (v0_1:qd) (v0_2:Bool):Option ((Bool×Unit)×Unit):=some ((v0_2,()),())
def qix (D:DX)(n:Nat) (v1_0:qd) (v1_1:qd):Option ((Bool×Unit)×Unit):=some ((decide ((↑(List.length v1_0):Int)<(↑(List.length v1_1):Int)),()),())
def qte (D:DX)(n:Nat):(qd)→(qd)→(Int)→Option ((Bool×Unit)×Unit):=(fun x0 x1 x2=>qh9 D n (fun v0_0 v0_1 v0_2=>qrs D n v0_0 v0_1 v0_2) (fun v1_0 v1_1=>qix D n v1_0 v1_1) n x0 x1 x2)
def qvn (D:DX)(n:Nat) (lp0:qd→qd→Int→Option ((Bool×Unit)×Unit)) (a0:qd) (a1:qd):Option ((Bool×Unit)×Unit):=lp0 a0 a1 0
def qvl (D:DX)(n:Nat) (a0:qd) (a1:qd):Option ((Bool×Unit)×Unit):=qvn D n (qte D n) a0 a1
def qid (x0:qd) (x1:qd) (x2:Int):St:=stq 42 [(0,AV.val (Ty.sl yV) x0),(1,AV.val (Ty.sl yV) x1),(5,avI x2)] [] 
def ql6 (v0_0:qd) (v0_1:qd) (v0_2:Bool):St:=stq 42 [(0,AV.val (Ty.sl yV) v0_0),(1,AV.val (Ty.sl yV) v0_1),(4,AV.val Ty.bool v0_2)] [] 
def ql2 (v1_0:qd) (v1_1:qd):St:=stq 42 [(0,AV.val (Ty.sl yV) v1_0),(1,AV.val (Ty.sl yV) v1_1)] [] 
theorem qbbl (D:DX)(n:Nat) (m:Nat) (K:Ex→St→Option (Out ctx 104)) (x0:qd) (x1:qd) (x2:Int) :
 LQ qc D n 104 [.r,.l,.r,.l] (m+1) (qid x0 x1 x2) K=qt6 D n (fun x0 x1 x2=>LQ qc D n 104 [.r,.l,.r,.l] m (qid x0 x1 x2) K) (fun v0_0 v0_1 v0_2=>K (Ex.ret) (ql6 v0_0 v0_1 v0_2)) (fun v1_0 v1_1=>K (Ex.exit 0) (ql2 v1_0 v1_1)) x0 x1 x2:=by kernel_rfl
theorem q11 (D:DX)(n:Nat) (K:Ex→St→Option (Out ctx 104)):∀ (m:Nat) (x0:qd) (x1:qd) (x2:Int),LQ qc D n 104 [.r,.l,.r,.l] m (qid x0 x1 x2) K=qh9 D n (fun v0_0 v0_1 v0_2=>K (Ex.ret) (ql6 v0_0 v0_1 v0_2)) (fun v1_0 v1_1=>K (Ex.exit 0) (ql2 v1_0 v1_1)) m x0 x1 x2
 | 0,x0,x1,x2=>qx ..
 | m+1,x0,x1,x2=>by
  have ih:(fun x0 x1 x2=>LQ qc D n 104 [.r,.l,.r,.l] m (qid x0 x1 x2) K)=qh9 D n (fun v0_0 v0_1 v0_2=>K (Ex.ret) (ql6 v0_0 v0_1 v0_2)) (fun v1_0 v1_1=>K (Ex.exit 0) (ql2 v1_0 v1_1)) m:=by funext x0 x1 x2;exact q11 D n K m x0 x1 x2
  rw[qbbl]
  rw[ih];rfl
theorem qba6 (D:DX)(n:Nat) (v0_0:qd) (v0_1:qd) (v0_2:Bool) :
 (CQ qc D n 104 [] [.r,.l,.r,.l] (qh qc 104)) (Ex.ret) (ql6 v0_0 v0_1 v0_2)=qrs D n v0_0 v0_1 v0_2:=by kernel_rfl
theorem qba4 (D:DX)(n:Nat) (v1_0:qd) (v1_1:qd) :
 (CQ qc D n 104 [] [.r,.l,.r,.l] (qh qc 104)) (Ex.exit 0) (ql2 v1_0 v1_1)=qix D n v1_0 v1_1:=by kernel_rfl
theorem qbbd (D:DX)(n:Nat) (x0:qd) (x1:qd) (x2:Int) :
 LQ qc D n 104 [.r,.l,.r,.l] n (qid x0 x1 x2) (CQ qc D n 104 [] [.r,.l,.r,.l] (qh qc 104))=qte D n x0 x1 x2:=by
 rw[q11]
 simp only[qba6,qba4]
 rfl
theorem qbgm (D:DX)(n:Nat) (a0:qd) (a1:qd):rfC qc D n 104 (a0,(a1,()))=qvl D n a0 a1:=by
 have h:rfC qc D n 104 (a0,(a1,()))=qvn D n (fun x0 x1 x2=>LQ qc D n 104 [.r,.l,.r,.l] n (qid x0 x1 x2) (CQ qc D n 104 [] [.r,.l,.r,.l] (qh qc 104))) a0 a1:=by kernel_rfl
 rw[h]
 simp only[qbbd]
 rfl

def qxq (D:DX)(n:Nat) (go:qe→Int→qe→Option ((qe×Unit)×Unit)) (K0:qe→Option ((qe×Unit)×Unit)) (x0:qe) (x1:Int) (x2:qe):Option ((qe×Unit)×Unit):=br (decide (x1<(↑(List.length x0):Int))) (br (decide (0≤x1)&&decide (x1<(↑(List.length x0):Int))) (br (decide (0+List.length (List.getD x0 (Int.toNat x1) [])≤qbi)) (br (decide (List.length x2+1≤qbi)) (go x0 (IntKind.wrap IntKind.i64 (x1+1)) (x2++[[]++List.getD x0 (Int.toNat x1) []])) none) none) none) (K0 x2)
def qkj (D:DX)(n:Nat) (K0:qe→Option ((qe×Unit)×Unit)):Nat→(qe)→(Int)→(qe)→Option ((qe×Unit)×Unit) | 0=>(fun x0 x1 x2=>none) | m+1=>(fun x0 x1 x2=>qxq D n (qkj D n K0 m) K0 x0 x1 x2)
def q26 (D:DX)(n:Nat) (v0_0:qe):Option ((qe×Unit)×Unit):=some ((v0_0,()),())
def qwb (D:DX)(n:Nat):(qe)→(Int)→(qe)→Option ((qe×Unit)×Unit):=(fun x0 x1 x2=>qkj D n (fun v0_0=>q26 D n v0_0) n x0 x1 x2)
def qzg (D:DX)(n:Nat) (lp0:qe→Int→qe→Option ((qe×Unit)×Unit)) (a0:qe):Option ((qe×Unit)×Unit):=lp0 a0 0 []
def q0j (D:DX)(n:Nat) (a0:qe):Option ((qe×Unit)×Unit):=qzg D n (qwb D n) a0
def qj8 (x0:qe) (x1:Int) (x2:qe):St:=stq 22 [(0,AV.val (Ty.sl (Ty.sl yV)) x0),(3,AV.brw 3 [] 0),(4,avI x1)] [(3,Root.mk (Ty.sl (Ty.sl yV)) (Mk.own 0 (Mk.own 0 (Mk.pr Mk.no (Mk.pr Mk.no (Mk.pr Mk.no Mk.no))))) x2 false)] 
def qos (v0_0:qe):St:=stq 22 [(3,AV.brw 3 [] 0)] [(3,Root.mk (Ty.sl (Ty.sl yV)) (Mk.own 0 (Mk.own 0 (Mk.pr Mk.no (Mk.pr Mk.no (Mk.pr Mk.no Mk.no))))) v0_0 false)] 
theorem qbgg (D:DX)(n:Nat) (m:Nat) (K:Ex→St→Option (Out ctx 105)) (x0:qe) (x1:Int) (x2:qe) :
 LQ qc D n 105 [.r,.r,.l,.r,.l] (m+1) (qj8 x0 x1 x2) K=qxq D n (fun x0 x1 x2=>LQ qc D n 105 [.r,.r,.l,.r,.l] m (qj8 x0 x1 x2) K) (fun v0_0=>K (Ex.exit 0) (qos v0_0)) x0 x1 x2:=by kernel_rfl
theorem q4k (D:DX)(n:Nat) (K:Ex→St→Option (Out ctx 105)):∀ (m:Nat) (x0:qe) (x1:Int) (x2:qe),LQ qc D n 105 [.r,.r,.l,.r,.l] m (qj8 x0 x1 x2) K=qkj D n (fun v0_0=>K (Ex.exit 0) (qos v0_0)) m x0 x1 x2
 | 0,x0,x1,x2=>qx ..
 | m+1,x0,x1,x2=>by
  have ih:(fun x0 x1 x2=>LQ qc D n 105 [.r,.r,.l,.r,.l] m (qj8 x0 x1 x2) K)=qkj D n (fun v0_0=>K (Ex.exit 0) (qos v0_0)) m:=by funext x0 x1 x2;exact q4k D n K m x0 x1 x2
  rw[qbgg]
  rw[ih];rfl
theorem qbd0 (D:DX)(n:Nat) (v0_0:qe) :
 (CQ qc D n 105 [] [.r,.r,.l,.r,.l] (qh qc 105)) (Ex.exit 0) (qos v0_0)=q26 D n v0_0:=by kernel_rfl
theorem qbeu (D:DX)(n:Nat) (x0:qe) (x1:Int) (x2:qe) :
 LQ qc D n 105 [.r,.r,.l,.r,.l] n (qj8 x0 x1 x2) (CQ qc D n 105 [] [.r,.r,.l,.r,.l] (qh qc 105))=qwb D n x0 x1 x2:=by
 rw[q4k]
 simp only[qbd0]
 rfl
theorem qblr (D:DX)(n:Nat) (a0:qe):rfC qc D n 105 (a0,())=q0j D n a0:=by
 have h:rfC qc D n 105 (a0,())=qzg D n (fun x0 x1 x2=>LQ qc D n 105 [.r,.r,.l,.r,.l] n (qj8 x0 x1 x2) (CQ qc D n 105 [] [.r,.r,.l,.r,.l] (qh qc 105))) a0:=by kernel_rfl
 rw[h]
 simp only[qbeu]
 rfl



def qxd (D:DX)(n:Nat) (go:Int→tSch→tSch→tSch→Option (((tSch)×Unit)×Unit)) (K0:tSch→tSch→Option (((tSch)×Unit)×Unit)) (x0:Int) (x1:tSch) (x2:tSch) (x3:tSch):Option (((tSch)×Unit)×Unit):=br (decide (x0<(↑(List.length (Prod.fst (Prod.snd (Prod.snd x1)))):Int))) (br (decide (0≤x0)&&decide (x0<(↑(List.length (Prod.fst (Prod.snd (Prod.snd x1)))):Int))) (br (decide (0+List.length (Prod.fst (Prod.snd (List.getD (Prod.fst (Prod.snd (Prod.snd x1))) (Int.toNat x0) (ByteArray.empty,[],false,()))))≤qbi)) (br (decide (List.length (Prod.fst (Prod.snd (Prod.snd x3)))+1≤qbi)) (go (IntKind.wrap IntKind.i64 (x0+1)) x1 x2 (Prod.fst x3,Prod.fst (Prod.snd x3),Prod.fst (Prod.snd (Prod.snd x3))++[(Prod.fst (List.getD (Prod.fst (Prod.snd (Prod.snd x1))) (Int.toNat x0) (ByteArray.empty,[],false,())),[]++Prod.fst (Prod.snd (List.getD (Prod.fst (Prod.snd (Prod.snd x1))) (Int.toNat x0) (ByteArray.empty,[],false,()))),Prod.fst (Prod.snd (Prod.snd (List.getD (Prod.fst (Prod.snd (Prod.snd x1))) (Int.toNat x0) (ByteArray.empty,[],false,())))),())],Prod.snd (Prod.snd (Prod.snd x3)))) none) none) none) (K0 x2 x3)
def qkf (D:DX)(n:Nat) (K0:tSch→tSch→Option (((tSch)×Unit)×Unit)):Nat→(Int)→(tSch)→(tSch)→(tSch)→Option (((tSch)×Unit)×Unit) | 0=>(fun x0 x1 x2 x3=>none) | m+1=>(fun x0 x1 x2 x3=>qxd D n (qkf D n K0 m) K0 x0 x1 x2 x3)
def q3i (D:DX)(n:Nat) (v0_0:tSch) (v0_1:tSch):Option (((tSch)×Unit)×Unit):=some (((Prod.fst v0_1,Prod.fst (Prod.snd v0_1),Prod.fst (Prod.snd (Prod.snd v0_1)),()),()),())
def qvm (D:DX)(n:Nat):(Int)→(tSch)→(tSch)→(tSch)→Option (((tSch)×Unit)×Unit):=(fun x0 x1 x2 x3=>qkf D n (fun v0_0 v0_1=>q3i D n v0_0 v0_1) n x0 x1 x2 x3)
def q0r (D:DX)(n:Nat) (lp0:Int→tSch→tSch→tSch→Option (((tSch)×Unit)×Unit)) (a0:tSch):Option (((tSch)×Unit)×Unit):=br (decide (0+List.length (Prod.fst a0)≤qbi)) (br (decide (0+List.length (Prod.fst (Prod.snd a0))≤qbi)) (lp0 0 a0 ([],[],[],()) ([]++Prod.fst a0,[]++Prod.fst (Prod.snd a0),[],())) none) none
def qz7 (D:DX)(n:Nat) (a0:tSch):Option (((tSch)×Unit)×Unit):=q0r D n (qvm D n) a0
def qkb (x0:Int) (x1:tSch) (x2:tSch) (x3:tSch):St:=stq 42 [(1,AV.addr 1 []),(2,AV.addr 2 []),(3,AV.addr 3 []),(4,avI x0)] [(1,Root.mk yS Mk.no x1 true),(2,Root.mk yS (Mk.pr (Mk.own 0 (Mk.pr Mk.no (Mk.pr Mk.no (Mk.pr Mk.no Mk.no)))) (Mk.pr (Mk.own 0 Mk.no) (Mk.pr (Mk.own 0 (Mk.pr Mk.no (Mk.pr (Mk.own 0 Mk.no) (Mk.pr Mk.no Mk.no)))) Mk.no))) x2 true),(3,Root.mk yS (Mk.pr (Mk.own 0 (Mk.pr Mk.no (Mk.pr Mk.no (Mk.pr Mk.no Mk.no)))) (Mk.pr (Mk.own 0 Mk.no) (Mk.pr (Mk.own 0 (Mk.pr Mk.no (Mk.pr (Mk.own 0 Mk.no) (Mk.pr Mk.no Mk.no)))) Mk.no))) x3 true)] 
def qot (v0_0:tSch) (v0_1:tSch):St:=stq 42 [(2,AV.addr 2 []),(3,AV.addr 3 [])] [(2,Root.mk yS (Mk.pr (Mk.own 0 (Mk.pr Mk.no (Mk.pr Mk.no (Mk.pr Mk.no Mk.no)))) (Mk.pr (Mk.own 0 Mk.no) (Mk.pr (Mk.own 0 (Mk.pr Mk.no (Mk.pr (Mk.own 0 Mk.no) (Mk.pr Mk.no Mk.no)))) Mk.no))) v0_0 true),(3,Root.mk yS (Mk.pr (Mk.own 0 (Mk.pr Mk.no (Mk.pr Mk.no (Mk.pr Mk.no Mk.no)))) (Mk.pr (Mk.own 0 Mk.no) (Mk.pr (Mk.own 0 (Mk.pr Mk.no (Mk.pr (Mk.own 0 Mk.no) (Mk.pr Mk.no Mk.no)))) Mk.no))) v0_1 true)] 
theorem qbgn (D:DX)(n:Nat) (m:Nat) (K:Ex→St→Option (Out ctx 108)) (x0:Int) (x1:tSch) (x2:tSch) (x3:tSch) :
 LQ qc D n 108 [.r,.r,.l,.r,.l] (m+1) (qkb x0 x1 x2 x3) K=qxd D n (fun x0 x1 x2 x3=>LQ qc D n 108 [.r,.r,.l,.r,.l] m (qkb x0 x1 x2 x3) K) (fun v0_0 v0_1=>K (Ex.exit 0) (qot v0_0 v0_1)) x0 x1 x2 x3:=by kernel_rfl
theorem q5y (D:DX)(n:Nat) (K:Ex→St→Option (Out ctx 108)):∀ (m:Nat) (x0:Int) (x1:tSch) (x2:tSch) (x3:tSch),LQ qc D n 108 [.r,.r,.l,.r,.l] m (qkb x0 x1 x2 x3) K=qkf D n (fun v0_0 v0_1=>K (Ex.exit 0) (qot v0_0 v0_1)) m x0 x1 x2 x3
 | 0,x0,x1,x2,x3=>qx ..
 | m+1,x0,x1,x2,x3=>by
  have ih:(fun x0 x1 x2 x3=>LQ qc D n 108 [.r,.r,.l,.r,.l] m (qkb x0 x1 x2 x3) K)=qkf D n (fun v0_0 v0_1=>K (Ex.exit 0) (qot v0_0 v0_1)) m:=by funext x0 x1 x2 x3;exact q5y D n K m x0 x1 x2 x3
  rw[qbgn]
  rw[ih];rfl
theorem qben (D:DX)(n:Nat) (v0_0:tSch) (v0_1:tSch) :
 (CQ qc D n 108 [] [.r,.r,.l,.r,.l] (qh qc 108)) (Ex.exit 0) (qot v0_0 v0_1)=q3i D n v0_0 v0_1:=by kernel_rfl
theorem qbds (D:DX)(n:Nat) (x0:Int) (x1:tSch) (x2:tSch) (x3:tSch) :
 LQ qc D n 108 [.r,.r,.l,.r,.l] n (qkb x0 x1 x2 x3) (CQ qc D n 108 [] [.r,.r,.l,.r,.l] (qh qc 108))=qvm D n x0 x1 x2 x3:=by
 rw[q5y]
 simp only[qben]
 rfl
theorem qblm (D:DX)(n:Nat) (a0:tSch):rfC qc D n 108 (a0,())=qz7 D n a0:=by
 have h:rfC qc D n 108 (a0,())=q0r D n (fun x0 x1 x2 x3=>LQ qc D n 108 [.r,.r,.l,.r,.l] n (qkb x0 x1 x2 x3) (CQ qc D n 108 [] [.r,.r,.l,.r,.l] (qh qc 108))) a0:=by kernel_rfl
 rw[h]
 simp only[qbds]
 rfl

def qwp (D:DX)(n:Nat) (go:qd→qd→Int→tSch→Option ((Bool×Unit)×Unit)) (K0:Bool→Option ((Bool×Unit)×Unit)) (K1:Option ((Bool×Unit)×Unit)) (x0:qd) (x1:qd) (x2:Int) (x3:tSch):Option ((Bool×Unit)×Unit):=br (decide (x2<(↑(List.length (Prod.fst (Prod.snd (Prod.snd x3)))):Int))) (br (decide (0≤x2)&&decide (x2<(↑(List.length (Prod.fst (Prod.snd (Prod.snd x3)))):Int))) (qi (qo7 D x0 (Prod.fst (Prod.snd (List.getD (Prod.fst (Prod.snd (Prod.snd x3))) (Int.toNat x2) (ByteArray.empty,[],false,()))))) fun b↦qi (qo7 D x1 (Prod.fst (Prod.snd (List.getD (Prod.fst (Prod.snd (Prod.snd x3))) (Int.toNat x2) (ByteArray.empty,[],false,()))))) fun b_1↦br (Prod.fst (Prod.snd (Prod.snd (List.getD (Prod.fst (Prod.snd (Prod.snd x3))) (Int.toNat x2) (ByteArray.empty,[],false,()))))) (qi (qtq D (Prod.fst (Prod.fst b)) (Prod.fst (Prod.fst b_1))) fun b_2↦br (Prod.fst (Prod.fst b_2)) (qi (q0h D (Prod.fst (Prod.fst b))) fun b↦br (!Prod.fst (Prod.fst b)) (K0 true) (go x0 x1 (IntKind.wrap IntKind.i64 (x2+1)) x3)) (go x0 x1 (IntKind.wrap IntKind.i64 (x2+1)) x3)) (go x0 x1 (IntKind.wrap IntKind.i64 (x2+1)) x3)) none) K1
def qjg (D:DX)(n:Nat) (K0:Bool→Option ((Bool×Unit)×Unit)) (K1:Option ((Bool×Unit)×Unit)):Nat→(qd)→(qd)→(Int)→(tSch)→Option ((Bool×Unit)×Unit) | 0=>(fun x0 x1 x2 x3=>none) | m+1=>(fun x0 x1 x2 x3=>qwp D n (qjg D n K0 K1 m) K0 K1 x0 x1 x2 x3)
def q1i (D:DX)(n:Nat) (v0_0:Bool):Option ((Bool×Unit)×Unit):=some ((v0_0,()),())
def q1x (D:DX)(n:Nat):Option ((Bool×Unit)×Unit):=some ((false,()),())
def qud (D:DX)(n:Nat):(qd)→(qd)→(Int)→(tSch)→Option ((Bool×Unit)×Unit):=(fun x0 x1 x2 x3=>qjg D n (fun v0_0=>q1i D n v0_0) (q1x D n) n x0 x1 x2 x3)
def qxt (D:DX)(n:Nat) (lp0:qd→qd→Int→tSch→Option ((Bool×Unit)×Unit)) (a0:tSch) (a1:qd) (a2:qd):Option ((Bool×Unit)×Unit):=lp0 a1 a2 0 a0
def qw8 (D:DX)(n:Nat) (a0:tSch) (a1:qd) (a2:qd):Option ((Bool×Unit)×Unit):=qxt D n (qud D n) a0 a1 a2
def qi3 (x0:qd) (x1:qd) (x2:Int) (x3:tSch):St:=stq 43 [(1,AV.val (Ty.sl yV) x0),(2,AV.val (Ty.sl yV) x1),(3,AV.addr 3 []),(7,avI x2)] [(3,Root.mk yS Mk.no x3 true)] 
def qnj (v0_0:Bool):St:=stq 43 [(6,AV.val Ty.bool v0_0)] [] 
def qm1:St:=stq 43 [] [] 
theorem qbeb (D:DX)(n:Nat) (m:Nat) (K:Ex→St→Option (Out ctx 111)) (x0:qd) (x1:qd) (x2:Int) (x3:tSch) :
 LQ qc D n 111 [.r,.l,.r,.l] (m+1) (qi3 x0 x1 x2 x3) K=qwp D n (fun x0 x1 x2 x3=>LQ qc D n 111 [.r,.l,.r,.l] m (qi3 x0 x1 x2 x3) K) (fun v0_0=>K (Ex.ret) (qnj v0_0)) (K (Ex.exit 0) (qm1)) x0 x1 x2 x3:=by kernel_rfl
theorem q3c (D:DX)(n:Nat) (K:Ex→St→Option (Out ctx 111)):∀ (m:Nat) (x0:qd) (x1:qd) (x2:Int) (x3:tSch),LQ qc D n 111 [.r,.l,.r,.l] m (qi3 x0 x1 x2 x3) K=qjg D n (fun v0_0=>K (Ex.ret) (qnj v0_0)) (K (Ex.exit 0) (qm1)) m x0 x1 x2 x3
 | 0,x0,x1,x2,x3=>qx ..
 | m+1,x0,x1,x2,x3=>by
  have ih:(fun x0 x1 x2 x3=>LQ qc D n 111 [.r,.l,.r,.l] m (qi3 x0 x1 x2 x3) K)=qjg D n (fun v0_0=>K (Ex.ret) (qnj v0_0)) (K (Ex.exit 0) (qm1)) m:=by funext x0 x1 x2 x3;exact q3c D n K m x0 x1 x2 x3
  rw[qbeb]
  rw[ih];rfl
theorem qbb4 (D:DX)(n:Nat) (v0_0:Bool) :
 (CQ qc D n 111 [] [.r,.l,.r,.l] (qh qc 111)) (Ex.ret) (qnj v0_0)=q1i D n v0_0:=by kernel_rfl
theorem qbc0 (D:DX)(n:Nat) :
 (CQ qc D n 111 [] [.r,.l,.r,.l] (qh qc 111)) (Ex.exit 0) (qm1)=q1x D n:=by kernel_rfl
theorem qbbp (D:DX)(n:Nat) (x0:qd) (x1:qd) (x2:Int) (x3:tSch) :
 LQ qc D n 111 [.r,.l,.r,.l] n (qi3 x0 x1 x2 x3) (CQ qc D n 111 [] [.r,.l,.r,.l] (qh qc 111))=qud D n x0 x1 x2 x3:=by
 rw[q3c]
 simp only[qbb4,qbc0]
 rfl
theorem qbjk (D:DX)(n:Nat) (a0:tSch) (a1:qd) (a2:qd):rfC qc D n 111 (a0,(a1,(a2,())))=qw8 D n a0 a1 a2:=by
 have h:rfC qc D n 111 (a0,(a1,(a2,())))=qxt D n (fun x0 x1 x2 x3=>LQ qc D n 111 [.r,.l,.r,.l] n (qi3 x0 x1 x2 x3) (CQ qc D n 111 [] [.r,.l,.r,.l] (qh qc 111))) a0 a1 a2:=by kernel_rfl
 rw[h]
 simp only[qbbp]
 rfl
end
end Go.G


import Derived.Test.YtfafjngknkbngaaGreatAV3
set_option linter.unusedVariables false
set_option linter.unusedSimpArgs false
set_option linter.unusedSectionVars false
namespace Go.G
open Go Go.V
abbrev DX:=Den ctx
abbrev tVal:=Int×Int×ByteArray×Unit
abbrev qd:=List tVal
abbrev qe:=List qd
abbrev tIx:=ByteArray×List Int×Bool×Unit
abbrev tIxs:=List tIx
abbrev tCol:=ByteArray×Int×Bool×Unit
abbrev qei:=List tCol
abbrev tSch:=qei×List Int×tIxs×Unit
abbrev tWay:=ByteArray×ByteArray×Unit
abbrev tCur:=List Int×Int×Int×Unit
abbrev avI:=AV.val (Ty.int IntKind.i64)
abbrev yI:=Ty.int IntKind.i64
abbrev yC:=Ty.pair Ty.str (Ty.pair yI (Ty.pair Ty.bool Ty.unit))
abbrev yX:=Ty.pair Ty.str (Ty.pair (Ty.sl yI) (Ty.pair Ty.bool Ty.unit))
abbrev yV:=Ty.pair yI (Ty.pair yI (Ty.pair Ty.str Ty.unit))
abbrev yS:=Ty.pair (Ty.sl yC) (Ty.pair (Ty.sl yI) (Ty.pair (Ty.sl yX) Ty.unit))
end Go.G
namespace Go.G
open Go Go.V
noncomputable def q17 (D:Den ctx) (a0:List Int):Option ((Bool×Unit)×Unit):=D 4 (a0,())
noncomputable def q8o (D:Den ctx) (a0:List Int):Option ((Bool×Unit)×Unit):=D 11 (a0,())
noncomputable def qq5 (D:Den ctx) (a0:List Int):Option ((((tSch)×qe×Unit)×qd×Unit)×Unit):=D 12 (a0,())
noncomputable def qgd (D:Den ctx) (a0:(tSch)×qe×Unit) (a1:Int):Option ((List tWay×Unit)×Unit):=D 13 (a0,(a1,()))
noncomputable def qkc (D:Den ctx) (a0:(tSch)×qe×Unit):Option ((Bool×Unit)×Unit):=D 17 (a0,())
noncomputable def q1a (D:Den ctx) (a0:(tSch)×qe×Unit) (a1:qd):Option ((((tSch)×qe×Unit)×Int×Unit)×Unit):=D 18 (a0,(a1,()))
noncomputable def qsd (D:Den ctx) (a0:(tSch)×qe×Unit) (a1:Int) (a2:qd):Option ((tWay×Bool×Unit)×Unit):=D 19 (a0,(a1,(a2,())))
noncomputable def qfl (D:Den ctx) (a0:List tWay) (a1:List tWay):Option ((Bool×Unit)×Unit):=D 20 (a0,(a1,()))
noncomputable def qix (D:Den ctx) (a0:List tWay) (a1:ByteArray×ByteArray×Unit):Option ((List tWay×Unit)×Unit):=D 21 (a0,(a1,()))
noncomputable def qu1 (D:Den ctx) (a0:(tSch)×qe×Unit) (a1:qd):Option ((qd×Bool×Unit)×Unit):=D 22 (a0,(a1,()))
noncomputable def qc5 (D:Den ctx) (a0:tSch) (a1:qd):Option ((qd×Unit)×Unit):=D 23 (a0,(a1,()))
noncomputable def qu3 (D:Den ctx) (a0:(tSch)×qe×Unit) (a1:qd):Option ((((tSch)×qe×Unit)×Int×Unit)×Unit):=D 24 (a0,(a1,()))
noncomputable def qiu (D:Den ctx) (a0:List tWay) (a1:ByteArray×ByteArray×Unit):Option ((List tWay×Unit)×Unit):=D 25 (a0,(a1,()))
noncomputable def qlm (D:Den ctx) (a0:(tSch)×qe×Unit) (a1:qd):Option ((((tSch)×qe×Unit)×Int×Unit)×Unit):=D 26 (a0,(a1,()))
noncomputable def q1k (D:Den ctx) (a0:(tSch)×qe×Unit) (a1:qd):Option ((((tSch)×qe×Unit)×Int×Unit)×Unit):=D 28 (a0,(a1,()))
noncomputable def q1z (D:Den ctx) (a0:(tSch)×qe×Unit) (a1:qd):Option ((((tSch)×qe×Unit)×Int×Unit)×Unit):=D 30 (a0,(a1,()))
noncomputable def qy3 (D:Den ctx) (a0:(tSch)×qe×Unit) (a1:qd):Option ((((tSch)×qe×Unit)×Int×Unit)×Unit):=D 32 (a0,(a1,()))
noncomputable def q1p (D:Den ctx) (a0:tSch):Option ((((tSch)×qe×Unit)×Bool×Unit)×Unit):=D 38 (a0,())
noncomputable def qo0 (D:Den ctx) (a0:(tSch)×qe×Unit):Option ((Bool×Unit)×Unit):=D 41 (a0,())
noncomputable def qzk (D:Den ctx) (a0:ByteArray×ByteArray×Unit) (a1:ByteArray×ByteArray×Unit):Option ((Bool×Unit)×Unit):=D 50 (a0,(a1,()))
noncomputable def q3r (D:Den ctx) (a0:List Int):Option ((tCur×Unit)×Unit):=D 65 (a0,())
noncomputable def qq6 (D:Den ctx) (a0:List Int×Int×Int×Unit):Option ((((tSch)×qe×Unit)×Unit)×tCur×Unit):=D 66 (a0,())
noncomputable def qtz (D:Den ctx) (a0:List Int×Int×Int×Unit) (a1:(tSch)×qe×Unit):Option ((qd×Unit)×tCur×Unit):=D 67 (a0,(a1,()))
noncomputable def qge (D:Den ctx) (a0:Int) (a1:Int) (a2:Int):Option ((Bool×Unit)×Unit):=D 68 (a0,(a1,(a2,())))
noncomputable def q2u (D:Den ctx) (a0:tSch) (a1:Int) (a2:qd):Option ((tWay×Unit)×Unit):=D 69 (a0,(a1,(a2,())))
noncomputable def qop (D:Den ctx) (a0:tSch) (a1:qd):Option ((Bool×Unit)×Unit):=D 77 (a0,(a1,()))
noncomputable def qo7 (D:Den ctx) (a0:qd) (a1:qd):Option ((Bool×Unit)×Unit):=D 78 (a0,(a1,()))
noncomputable def qbo (D:Den ctx) (a0:qe) (a1:Clo):Option ((Bool×Unit)×Unit):=D 79 (a0,(a1,()))
noncomputable def q6o (D:Den ctx) (a0:qd) (a1:(tSch)×qe×Unit) (a2:qd):Option ((Bool×Unit)×Unit):=D 80 (a0,(a1,(a2,())))
noncomputable def qsg (D:Den ctx) (a0:tSch) (a1:qd) (a2:qd):Option ((Bool×Unit)×Unit):=D 81 (a0,(a1,(a2,())))
noncomputable def qr5 (D:Den ctx) (a0:tSch):Option ((Bool×Unit)×Unit):=D 82 (a0,())
noncomputable def qi1 (D:Den ctx) (a0:(tSch)×qe×Unit):Option ((((tSch)×qe×Unit)×Unit)×Unit):=D 83 (a0,())
noncomputable def qok (D:Den ctx) (a0:(tSch)×qe×Unit) (a1:qd):Option ((Int×Unit)×Unit):=D 84 (a0,(a1,()))
noncomputable def q5d (D:Den ctx) (a0:qd) (a1:(tSch)×qe×Unit) (a2:qd):Option ((Bool×Unit)×Unit):=D 85 (a0,(a1,(a2,())))
noncomputable def qcn (D:Den ctx) (a0:qe) (a1:Clo):Option ((Int×Unit)×Unit):=D 86 (a0,(a1,()))
noncomputable def q4z (D:Den ctx) (a0:qd) (a1:qd) (a2:(tSch)×qe×Unit):Option ((Bool×Unit)×Unit):=D 87 (a0,(a1,(a2,())))
noncomputable def qbu (D:Den ctx) (a0:qd):Option ((qd×Unit)×Unit):=D 89 (a0,())
noncomputable def qew (D:Den ctx) (a0:List tWay):Option ((List tWay×Unit)×Unit):=D 90 (a0,())
noncomputable def qd2 (D:Den ctx) (a0:List tWay) (a1:Clo):Option ((Int×Unit)×Unit):=D 91 (a0,(a1,()))
noncomputable def q5e (D:Den ctx) (a0:ByteArray×ByteArray×Unit) (a1:ByteArray×ByteArray×Unit):Option ((Bool×Unit)×Unit):=D 92 (a0,(a1,()))
noncomputable def qlp (D:Den ctx) (a0:qd) (a1:List Int):Option ((qd×Unit)×Unit):=D 94 (a0,(a1,()))
noncomputable def qfs (D:Den ctx) (a0:List tWay) (a1:Clo):Option ((List tWay×Unit)×Unit):=D 96 (a0,(a1,()))
noncomputable def q45 (D:Den ctx) (a0:ByteArray×ByteArray×Unit) (a1:ByteArray×ByteArray×Unit):Option ((Bool×Unit)×Unit):=D 97 (a0,(a1,()))
noncomputable def qor (D:Den ctx) (a0:(tSch)×qe×Unit):Option ((((tSch)×qe×Unit)×Unit)×Unit):=D 99 (a0,())
noncomputable def qs7 (D:Den ctx) (a0:tSch) (a1:qd):Option ((Bool×Unit)×Unit):=D 100 (a0,(a1,()))
noncomputable def qso (D:Den ctx) (a0:(tSch)×qe×Unit) (a1:qd):Option ((Int×Unit)×Unit):=D 101 (a0,(a1,()))
noncomputable def qek (D:Den ctx) (a0:tSch) (a1:qd):Option ((qd×Unit)×Unit):=D 102 (a0,(a1,()))
noncomputable def qpu (D:Den ctx) (a0:(tSch)×qe×Unit) (a1:qd) (a2:Int):Option ((Bool×Unit)×Unit):=D 103 (a0,(a1,(a2,())))
noncomputable def qpd (D:Den ctx) (a0:qd) (a1:qd):Option ((Bool×Unit)×Unit):=D 104 (a0,(a1,()))
noncomputable def qjq (D:Den ctx) (a0:qe):Option ((qe×Unit)×Unit):=D 105 (a0,())
noncomputable def quj (D:Den ctx) (a0:tSch):Option (((tSch)×Unit)×Unit):=D 107 (a0,())
noncomputable def qtm (D:Den ctx) (a0:tSch):Option (((tSch)×Unit)×Unit):=D 108 (a0,())
noncomputable def qr0 (D:Den ctx) (a0:tSch) (a1:qd) (a2:qd):Option ((Bool×Unit)×Unit):=D 111 (a0,(a1,(a2,())))
noncomputable def qrp (D:Den ctx) (a0:tSch):Option ((Bool×Unit)×Unit):=D 112 (a0,())
noncomputable def qky (D:Den ctx) (a0:List Int×Int×Int×Unit) (a1:Int):Option ((Bool×Unit)×tCur×Unit):=D 114 (a0,(a1,()))
noncomputable def qdf (D:Den ctx) (a0:List Int×Int×Int×Unit) (a1:Int):Option ((Int×Unit)×tCur×Unit):=D 115 (a0,(a1,()))
noncomputable def qh4 (D:Den ctx) (a0:Int) (a1:Int) (a2:Int):Option ((Bool×Unit)×Unit):=D 117 (a0,(a1,(a2,())))
noncomputable def qos (D:Den ctx) (a0:qd) (a1:List Int):Option ((qd×Unit)×Unit):=D 119 (a0,(a1,()))
noncomputable def qri (D:Den ctx) (a0:List Int×Int×Int×Unit):Option (((tSch)×Unit)×tCur×Unit):=D 135 (a0,())
noncomputable def qn8 (D:Den ctx) (a0:List Int×Int×Int×Unit) (a1:tSch):Option ((qd×Unit)×tCur×Unit):=D 136 (a0,(a1,()))
noncomputable def qob (D:Den ctx) (a0:qd):Option ((List Int×Unit)×Unit):=D 137 (a0,())
noncomputable def qjz (D:Den ctx) (a0:List Int):Option ((List Int×Unit)×Unit):=D 138 (a0,())
noncomputable def qts (D:Den ctx) (a0:Int×Int×ByteArray×Unit):Option ((Bool×Unit)×Unit):=D 139 (a0,())
noncomputable def qch (D:Den ctx) (a0:qd) (a1:qd) (a2:Clo):Option ((Int×Unit)×Unit):=D 140 (a0,(a1,(a2,())))
noncomputable def qyx (D:Den ctx) (a0:Int×Int×ByteArray×Unit) (a1:Int×Int×ByteArray×Unit):Option ((Int×Unit)×Unit):=D 141 (a0,(a1,()))
noncomputable def qc3 (D:Den ctx) (a0:tIxs) (a1:Clo):Option ((Bool×Unit)×Unit):=D 142 (a0,(a1,()))
noncomputable def q7l (D:Den ctx) (a0:ByteArray×List Int×Bool×Unit) (a1:qd) (a2:qd):Option ((Bool×Unit)×Unit):=D 143 (a0,(a1,(a2,())))
noncomputable def qe9 (D:Den ctx) (a0:qd) (a1:Int×Int×ByteArray×Unit):Option ((Bool×Unit)×Unit):=D 144 (a0,(a1,()))
noncomputable def qd3 (D:Den ctx) (a0:qd) (a1:qd):Option ((Bool×Unit)×Unit):=D 145 (a0,(a1,()))
noncomputable def qpc (D:Den ctx) (a0:ByteArray):Option ((Bool×Unit)×Unit):=D 146 (a0,())
noncomputable def q33 (D:Den ctx) (a0:tSch) (a1:ByteArray):Option ((Int×Unit)×Unit):=D 147 (a0,(a1,()))
noncomputable def qro (D:Den ctx) (a0:tSch) (a1:List Int) (a2:Int):Option ((Bool×Unit)×Unit):=D 148 (a0,(a1,(a2,())))
noncomputable def q16 (D:Den ctx) (a0:ByteArray×List Int×Bool×Unit) (a1:ByteArray×List Int×Bool×Unit):Option ((Bool×Unit)×Unit):=D 149 (a0,(a1,()))
noncomputable def qiz (D:Den ctx) (a0:List Int) (a1:Clo):Option ((Bool×Unit)×Unit):=D 150 (a0,(a1,()))
noncomputable def q2p (D:Den ctx) (a0:Int) (a1:tSch):Option ((Bool×Unit)×Unit):=D 151 (a0,(a1,()))
noncomputable def qua (D:Den ctx) (a0:qe):Option ((qe×Unit)×Unit):=D 152 (a0,())
noncomputable def q61 (D:Den ctx) (a0:qd) (a1:(tSch)×qe×Unit) (a2:qd):Option ((Bool×Unit)×Unit):=D 153 (a0,(a1,(a2,())))
noncomputable def qym (D:Den ctx) (a0:Int×Int×ByteArray×Unit):Option ((Bool×Unit)×Unit):=D 158 (a0,())
noncomputable def qtn (D:Den ctx) (a0:qd) (a1:qd):Option ((Bool×Unit)×Unit):=D 159 (a0,(a1,()))
noncomputable def qpp (D:Den ctx) (a0:Int×Int×ByteArray×Unit) (a1:Int×Int×ByteArray×Unit):Option ((Bool×Unit)×Unit):=D 160 (a0,(a1,()))
noncomputable def qv7 (D:Den ctx) (a0:Int×Int×ByteArray×Unit) (a1:Int×Int×ByteArray×Unit):Option ((Bool×Unit)×Unit):=D 161 (a0,(a1,()))
noncomputable def q1f (D:Den ctx) (a0:List Int×Int×Int×Unit) (a1:List ByteArray):Option ((ByteArray×Unit)×tCur×Unit):=D 162 (a0,(a1,()))
noncomputable def qpz (D:Den ctx) (a0:List Int×Int×Int×Unit) (a1:List Int):Option ((Int×Unit)×tCur×Unit):=D 163 (a0,(a1,()))
noncomputable def qhf (D:Den ctx) (a0:qei):Option ((qei×Unit)×Unit):=D 164 (a0,())
noncomputable def qyt (D:Den ctx) (a0:qd):Option ((Bool×Unit)×Unit):=D 165 (a0,())
noncomputable def qpb (D:Den ctx) (a0:ByteArray):Option ((Bool×Unit)×Unit):=D 166 (a0,())
noncomputable def q3y (D:Den ctx) (a0:tSch) (a1:ByteArray):Option ((Int×Unit)×Unit):=D 167 (a0,(a1,()))
noncomputable def qpe (D:Den ctx) (a0:tSch) (a1:List Int) (a2:Int):Option ((Bool×Unit)×Unit):=D 168 (a0,(a1,(a2,())))
noncomputable def qt2 (D:Den ctx) (a0:tSch):Option ((Bool×Unit)×Unit):=D 169 (a0,())
noncomputable def qkv (D:Den ctx) (a0:List Int×Int×Int×Unit):Option ((Int×Unit)×tCur×Unit):=D 170 (a0,())
noncomputable def qpt (D:Den ctx) (a0:List Int×Int×Int×Unit) (a1:Int):Option ((tVal×Unit)×tCur×Unit):=D 190 (a0,(a1,()))
noncomputable def qzm (D:Den ctx) (a0:qd):Option ((Bool×Unit)×Unit):=D 191 (a0,())
noncomputable def qex (D:Den ctx) (a0:tIxs) (a1:Clo):Option ((Int×Unit)×Unit):=D 193 (a0,(a1,()))
noncomputable def qf4 (D:Den ctx) (a0:qd) (a1:Int×Int×ByteArray×Unit):Option ((Int×Unit)×Unit):=D 194 (a0,(a1,()))
noncomputable def qgb (D:Den ctx) (a0:qei) (a1:Clo):Option ((Int×Unit)×Unit):=D 195 (a0,(a1,()))
noncomputable def q7j (D:Den ctx) (a0:ByteArray×Int×Bool×Unit) (a1:ByteArray):Option ((Bool×Unit)×Unit):=D 196 (a0,(a1,()))
noncomputable def qlf (D:Den ctx) (a0:List Int) (a1:Int):Option ((Bool×Unit)×Unit):=D 197 (a0,(a1,()))
noncomputable def qku (D:Den ctx) (a0:List Int) (a1:Clo):Option ((Int×Unit)×Unit):=D 198 (a0,(a1,()))
noncomputable def qd5 (D:Den ctx) (a0:qd) (a1:Clo):Option ((Bool×Unit)×Unit):=D 207 (a0,(a1,()))
noncomputable def q4j (D:Den ctx) (a0:Int×Int×ByteArray×Unit):Option ((Bool×Unit)×Unit):=D 208 (a0,())
noncomputable def qnl (D:Den ctx) (a0:List Int) (a1:Int):Option ((Int×Unit)×Unit):=D 210 (a0,(a1,()))
noncomputable def qeo (D:Den ctx) (a0:qd) (a1:Clo):Option ((Int×Unit)×Unit):=D 213 (a0,(a1,()))
noncomputable def qfr (D:Den ctx) (a0:qe) (a1:Int) (a2:qe):Option ((qe×Unit)×Unit):=D 88 (a0,(a1,(a2,())))
noncomputable def qb8 (D:Den ctx) (a0:List tWay) (a1:Int) (a2:List tWay):Option ((List tWay×Unit)×Unit):=D 93 (a0,(a1,(a2,())))
noncomputable def qjt (D:Den ctx) (a0:qe) (a1:Int) (a2:Int):Option ((qe×Unit)×Unit):=D 95 (a0,(a1,(a2,())))
noncomputable def q19 (D:Den ctx) (a0:ByteArray) (a1:ByteArray):Option ((Int×Unit)×Unit):=D 192 (a0,(a1,()))
end Go.G

namespace Go.G
set_option maxRecDepth 100000
set_option maxHeartbeats 0
open Go Go.V
noncomputable section
def qs6 (D:DX)(n:Nat) (go:qd→Int→(tSch)×qe×Unit→Option ((Bool×Unit)×Unit)) (K0:Bool→(tSch)×qe×Unit→Option ((Bool×Unit)×Unit)) (K1:(tSch)×qe×Unit→Option ((Bool×Unit)×Unit)) (x0:qd) (x1:Int) (x2:(tSch)×qe×Unit):Option ((Bool×Unit)×Unit):=br (decide (x1<(↑(List.length (Prod.fst (Prod.snd (Prod.snd (Prod.fst x2))))):Int))) (qg (qgd D x2 x1) fun b↦qg (q1a D x2 x0) fun b_1↦qg (qsd D x2 x1 x0) fun b_2↦br (decide (Prod.fst (Prod.snd (Prod.fst b_1))=0)) (br (!Prod.fst (Prod.snd (Prod.fst b_2))) (K0 false x2) (qg (qix D (Prod.fst (Prod.fst b)) (Prod.fst (Prod.fst b_2))) fun b_3↦qg (qgd D ((Prod.fst (Prod.fst (Prod.fst (Prod.fst b_1))),Prod.fst (Prod.snd (Prod.fst (Prod.fst (Prod.fst b_1)))),Prod.fst (Prod.snd (Prod.snd (Prod.fst (Prod.fst (Prod.fst b_1))))),()),Prod.fst (Prod.snd (Prod.fst (Prod.fst b_1))),()) x1) fun b_4↦qg (qfl D (Prod.fst (Prod.fst b_3)) (Prod.fst (Prod.fst b_4))) fun b_5↦br (!Prod.fst (Prod.fst b_5)) (K0 false x2) (qg (qc5 D (Prod.fst x2) x0) fun b_6↦qg (qu1 D x2 (Prod.fst (Prod.fst b_6))) fun b_7↦qg (qsd D x2 x1 (Prod.fst (Prod.fst b_7))) fun b_8↦qg (qc5 D (Prod.fst x2) x0) fun b_9↦qg (qu3 D x2 (Prod.fst (Prod.fst b_9))) fun b_10↦br (!decide (decide (Prod.fst (Prod.snd (Prod.fst b_10))=0)=Prod.fst (Prod.snd (Prod.fst b_7)))) (K0 false x2) (br (Prod.fst (Prod.snd (Prod.fst b_7))) (qg (qiu D (Prod.fst (Prod.fst b)) (Prod.fst (Prod.fst b_8))) fun b_11↦qg (qgd D ((Prod.fst (Prod.fst (Prod.fst (Prod.fst b_10))),Prod.fst (Prod.snd (Prod.fst (Prod.fst (Prod.fst b_10)))),Prod.fst (Prod.snd (Prod.snd (Prod.fst (Prod.fst (Prod.fst b_10))))),()),Prod.fst (Prod.snd (Prod.fst (Prod.fst b_10))),()) x1) fun b_12↦qg (qfl D (Prod.fst (Prod.fst b_11)) (Prod.fst (Prod.fst b_12))) fun b_13↦br (!Prod.fst (Prod.fst b_13)) (K0 false x2) (qg (qlm D x2 x0) fun b_14↦br (decide (Prod.fst (Prod.snd (Prod.fst b_14))=0)) (qg (qiu D (Prod.fst (Prod.fst b)) (Prod.fst (Prod.fst b_8))) fun b↦qg (qix D (Prod.fst (Prod.fst b)) (Prod.fst (Prod.fst b_2))) fun b↦qg (qgd D ((Prod.fst (Prod.fst (Prod.fst (Prod.fst b_14))),Prod.fst (Prod.snd (Prod.fst (Prod.fst (Prod.fst b_14)))),Prod.fst (Prod.snd (Prod.snd (Prod.fst (Prod.fst (Prod.fst b_14))))),()),Prod.fst (Prod.snd (Prod.fst (Prod.fst b_14))),()) x1) fun b_15↦qg (qfl D (Prod.fst (Prod.fst b)) (Prod.fst (Prod.fst b_15))) fun b↦br (!Prod.fst (Prod.fst b)) (K0 false x2) (go x0 (IntKind.wrap IntKind.i64 (x1+1)) x2)) (go x0 (IntKind.wrap IntKind.i64 (x1+1)) x2))) (qg (qlm D x2 x0) fun b_11↦br (decide (Prod.fst (Prod.snd (Prod.fst b_11))=0)) (qg (qiu D (Prod.fst (Prod.fst b)) (Prod.fst (Prod.fst b_8))) fun b↦qg (qix D (Prod.fst (Prod.fst b)) (Prod.fst (Prod.fst b_2))) fun b↦qg (qgd D ((Prod.fst (Prod.fst (Prod.fst (Prod.fst b_11))),Prod.fst (Prod.snd (Prod.fst (Prod.fst (Prod.fst b_11)))),Prod.fst (Prod.snd (Prod.snd (Prod.fst (Prod.fst (Prod.fst b_11))))),()),Prod.fst (Prod.snd (Prod.fst (Prod.fst b_11))),()) x1) fun b_12↦qg (qfl D (Prod.fst (Prod.fst b)) (Prod.fst (Prod.fst b_12))) fun b↦br (!Prod.fst (Prod.fst b)) (K0 false x2) (go x0 (IntKind.wrap IntKind.i64 (x1+1)) x2)) (go x0 (IntKind.wrap IntKind.i64 (x1+1)) x2)))))) (qg (qc5 D (Prod.fst x2) x0) fun b_3↦qg (qu1 D x2 (Prod.fst (Prod.fst b_3))) fun b_4↦qg (qsd D x2 x1 (Prod.fst (Prod.fst b_4))) fun b_5↦qg (qc5 D (Prod.fst x2) x0) fun b_6↦qg (qu3 D x2 (Prod.fst (Prod.fst b_6))) fun b_7↦br (!decide (decide (Prod.fst (Prod.snd (Prod.fst b_7))=0)=Prod.fst (Prod.snd (Prod.fst b_4)))) (K0 false x2) (br (Prod.fst (Prod.snd (Prod.fst b_4))) (qg (qiu D (Prod.fst (Prod.fst b)) (Prod.fst (Prod.fst b_5))) fun b_8↦qg (qgd D ((Prod.fst (Prod.fst (Prod.fst (Prod.fst b_7))),Prod.fst (Prod.snd (Prod.fst (Prod.fst (Prod.fst b_7)))),Prod.fst (Prod.snd (Prod.snd (Prod.fst (Prod.fst (Prod.fst b_7))))),()),Prod.fst (Prod.snd (Prod.fst (Prod.fst b_7))),()) x1) fun b_9↦qg (qfl D (Prod.fst (Prod.fst b_8)) (Prod.fst (Prod.fst b_9))) fun b_10↦br (!Prod.fst (Prod.fst b_10)) (K0 false x2) (qg (qlm D x2 x0) fun b_11↦br (decide (Prod.fst (Prod.snd (Prod.fst b_11))=0)) (qg (qiu D (Prod.fst (Prod.fst b)) (Prod.fst (Prod.fst b_5))) fun b↦qg (qix D (Prod.fst (Prod.fst b)) (Prod.fst (Prod.fst b_2))) fun b↦qg (qgd D ((Prod.fst (Prod.fst (Prod.fst (Prod.fst b_11))),Prod.fst (Prod.snd (Prod.fst (Prod.fst (Prod.fst b_11)))),Prod.fst (Prod.snd (Prod.snd (Prod.fst (Prod.fst (Prod.fst b_11))))),()),Prod.fst (Prod.snd (Prod.fst (Prod.fst b_11))),()) x1) fun b_12↦qg (qfl D (Prod.fst (Prod.fst b)) (Prod.fst (Prod.fst b_12))) fun b↦br (!Prod.fst (Prod.fst b)) (K0 false x2) (go x0 (IntKind.wrap IntKind.i64 (x1+1)) x2)) (go x0 (IntKind.wrap IntKind.i64 (x1+1)) x2))) (qg (qlm D x2 x0) fun b_8↦br (decide (Prod.fst (Prod.snd (Prod.fst b_8))=0)) (qg (qiu D (Prod.fst (Prod.fst b)) (Prod.fst (Prod.fst b_5))) fun b↦qg (qix D (Prod.fst (Prod.fst b)) (Prod.fst (Prod.fst b_2))) fun b↦qg (qgd D ((Prod.fst (Prod.fst (Prod.fst (Prod.fst b_8))),Prod.fst (Prod.snd (Prod.fst (Prod.fst (Prod.fst b_8)))),Prod.fst (Prod.snd (Prod.snd (Prod.fst (Prod.fst (Prod.fst b_8))))),()),Prod.fst (Prod.snd (Prod.fst (Prod.fst b_8))),()) x1) fun b_9↦qg (qfl D (Prod.fst (Prod.fst b)) (Prod.fst (Prod.fst b_9))) fun b↦br (!Prod.fst (Prod.fst b)) (K0 false x2) (go x0 (IntKind.wrap IntKind.i64 (x1+1)) x2)) (go x0 (IntKind.wrap IntKind.i64 (x1+1)) x2))))) (K1 x2)
def qhh (D:DX)(n:Nat) (K0:Bool→(tSch)×qe×Unit→Option ((Bool×Unit)×Unit)) (K1:(tSch)×qe×Unit→Option ((Bool×Unit)×Unit)):Nat→(qd)→(Int)→((tSch)×qe×Unit)→Option ((Bool×Unit)×Unit) | 0=>(fun x0 x1 x2=>none) | m+1=>(fun x0 x1 x2=>qs6 D n (qhh D n K0 K1 m) K0 K1 x0 x1 x2)
def qo4 (D:DX)(n:Nat) (v0_0:Bool) (v0_1:(tSch)×qe×Unit):Option ((Bool×Unit)×Unit):=some ((v0_0,()),())
def qlg (D:DX)(n:Nat) (v1_0:(tSch)×qe×Unit):Option ((Bool×Unit)×Unit):=qg (qkc D v1_0) fun b↦some ((Prod.fst (Prod.fst b),()),())
def qqy (D:DX)(n:Nat):(qd)→(Int)→((tSch)×qe×Unit)→Option ((Bool×Unit)×Unit):=(fun x0 x1 x2=>qhh D n (fun v0_0 v0_1=>qo4 D n v0_0 v0_1) (fun v1_0=>qlg D n v1_0) n x0 x1 x2)
def quh (D:DX)(n:Nat) (lp0:qd→Int→(tSch)×qe×Unit→Option ((Bool×Unit)×Unit)) (a0:List Int):Option ((Bool×Unit)×Unit):=qg (q8o D a0) fun b↦br (Prod.fst (Prod.fst b)) (some ((true,()),())) (qg (qq5 D a0) fun b↦lp0 (Prod.fst (Prod.snd (Prod.fst b))) 0 (Prod.fst (Prod.fst b)))
def quf (D:DX)(n:Nat) (a0:List Int):Option ((Bool×Unit)×Unit):=quh D n (qqy D n) a0
def qhn (x0:qd) (x1:Int) (x2:(tSch)×qe×Unit):St:=stq 130 [(3,AV.addr 3 []),(4,AV.val (Ty.sl yV) x0),(5,avI x1)] [(3,Root.mk (Ty.pair yS (Ty.pair (Ty.sl (Ty.sl yV)) Ty.unit)) Mk.no x2 true)] 
def qlb (v0_0:Bool) (v0_1:(tSch)×qe×Unit):St:=stq 130 [(2,AV.val Ty.bool v0_0),(3,AV.addr 3 [])] [(3,Root.mk (Ty.pair yS (Ty.pair (Ty.sl (Ty.sl yV)) Ty.unit)) Mk.no v0_1 true)] 
def qk9 (v1_0:(tSch)×qe×Unit):St:=stq 130 [(3,AV.addr 3 [])] [(3,Root.mk (Ty.pair yS (Ty.pair (Ty.sl (Ty.sl yV)) Ty.unit)) Mk.no v1_0 true)] 
theorem qbaa (D:DX)(n:Nat) (m:Nat) (K:Ex→St→Option (Out ctx 4)) (x0:qd) (x1:Int) (x2:(tSch)×
 qe×Unit) :
 LQ qc D n 4 [.r,.r,.r,.l,.r,.l] (m+1) (qhn x0 x1 x2) K=qs6 D n (fun x0 x1 x2=>LQ qc D n 4 [.r,.r,.r,.l,.r,.l] m (qhn x0 x1 x2) K) (fun v0_0 v0_1=>K (Ex.ret) (qlb v0_0 v0_1)) (fun v1_0=>K (Ex.exit 0) (qk9 v1_0)) x0 x1 x2:=by kernel_rfl
theorem qx9 (D:DX)(n:Nat) (K:Ex→St→Option (Out ctx 4)):∀ (m:Nat) (x0:qd) (x1:Int) (x2:(tSch)×
 qe×Unit),LQ qc D n 4 [.r,.r,.r,.l,.r,.l] m (qhn x0 x1 x2) K=qhh D n (fun v0_0 v0_1=>K (Ex.ret) (qlb v0_0 v0_1)) (fun v1_0=>K (Ex.exit 0) (qk9 v1_0)) m x0 x1 x2
 | 0,x0,x1,x2=>qz ..
 | m+1,x0,x1,x2=>by
  have ih:(fun x0 x1 x2=>LQ qc D n 4 [.r,.r,.r,.l,.r,.l] m (qhn x0 x1 x2) K)=qhh D n (fun v0_0 v0_1=>K (Ex.ret) (qlb v0_0 v0_1)) (fun v1_0=>K (Ex.exit 0) (qk9 v1_0)) m:=by funext x0 x1 x2;exact qx9 D n K m x0 x1 x2
  rw[qbaa]
  rw[ih];rfl
theorem q77 (D:DX)(n:Nat) (v0_0:Bool) (v0_1:(tSch)×
 qe×Unit) :
 (CQ qc D n 4 [] [.r,.r,.r,.l,.r,.l] (qi qc 4)) (Ex.ret) (qlb v0_0 v0_1)=qo4 D n v0_0 v0_1:=by kernel_rfl
theorem q8v (D:DX)(n:Nat) (v1_0:(tSch)×
 qe×Unit) :
 (CQ qc D n 4 [] [.r,.r,.r,.l,.r,.l] (qi qc 4)) (Ex.exit 0) (qk9 v1_0)=qlg D n v1_0:=by kernel_rfl
theorem q8f (D:DX)(n:Nat) (x0:qd) (x1:Int) (x2:(tSch)×
 qe×Unit) :
 LQ qc D n 4 [.r,.r,.r,.l,.r,.l] n (qhn x0 x1 x2) (CQ qc D n 4 [] [.r,.r,.r,.l,.r,.l] (qi qc 4))=qqy D n x0 x1 x2:=by
 rw[qx9]
 simp only[q77,q8v]
 rfl
theorem qbdb (D:DX)(n:Nat) (a0:List Int):rfC qc D n 4 (a0,())=quf D n a0:=by
 have h:rfC qc D n 4 (a0,())=quh D n (fun x0 x1 x2=>LQ qc D n 4 [.r,.r,.r,.l,.r,.l] n (qhn x0 x1 x2) (CQ qc D n 4 [] [.r,.r,.r,.l,.r,.l] (qi qc 4))) a0:=by kernel_rfl
 rw[h]
 simp only[q8f]
 rfl

def qbqh (D:DX)(n:Nat) (a0:List Int):Option ((Bool×Unit)×Unit):=some ((decide ((↑(List.length a0):Int)>1048576),()),())
def qbgp (D:DX)(n:Nat) (a0:List Int):Option ((Bool×Unit)×Unit):=qbqh D n a0
theorem qbqk (D:DX)(n:Nat) (a0:List Int):rfC qc D n 11 (a0,())=qbgp D n a0:=by kernel_rfl

def qx2 (D:DX)(n:Nat) (a0:List Int):Option ((((tSch)×qe×Unit)×qd×Unit)×Unit):=qg (q3r D a0) fun b↦qg (qq6 D (Prod.fst (Prod.fst b))) fun b↦qg (qtz D (Prod.fst (Prod.snd b)) (Prod.fst (Prod.fst b))) fun b_1↦some ((Prod.fst (Prod.fst b),Prod.fst (Prod.fst b_1),()),())
def qqx (D:DX)(n:Nat) (a0:List Int):Option ((((tSch)×qe×Unit)×qd×Unit)×Unit):=qx2 D n a0
theorem q94 (D:DX)(n:Nat) (a0:List Int):rfC qc D n 12 (a0,())=qqx D n a0:=by kernel_rfl

def qzz (D:DX)(n:Nat) (go:Int→qe→Int→Int→(tSch)×qe×Unit→List tWay→Option ((List tWay×Unit)×Unit)) (K0:List tWay→Option ((List tWay×Unit)×Unit)) (x0:Int) (x1:qe) (x2:Int) (x3:Int) (x4:(tSch)×qe×Unit) (x5:List tWay):Option ((List tWay×Unit)×Unit):=br (decide (x3<x2)) (br (decide (0≤x3)&&decide (x3<(↑(List.length x1):Int))) (qg (q2u D (Prod.fst x4) x0 (List.getD x1 (Int.toNat x3) [])) fun b↦qg (qix D x5 (Prod.fst (Prod.fst b))) fun b↦go x0 x1 x2 (IntKind.wrap IntKind.i64 (x3+1)) x4 (Prod.fst (Prod.fst b))) none) (K0 x5)
def qlj (D:DX)(n:Nat) (K0:List tWay→Option ((List tWay×Unit)×Unit)):Nat→(Int)→(qe)→(Int)→(Int)→((tSch)×qe×Unit)→(List tWay)→Option ((List tWay×Unit)×Unit) | 0=>(fun x0 x1 x2 x3 x4 x5=>none) | m+1=>(fun x0 x1 x2 x3 x4 x5=>qzz D n (qlj D n K0 m) K0 x0 x1 x2 x3 x4 x5)
def qv4 (D:DX)(n:Nat) (v0_0:List tWay):Option ((List tWay×Unit)×Unit):=some ((v0_0,()),())
def qw2 (D:DX)(n:Nat):(Int)→(qe)→(Int)→(Int)→((tSch)×qe×Unit)→(List tWay)→Option ((List tWay×Unit)×Unit):=(fun x0 x1 x2 x3 x4 x5=>qlj D n (fun v0_0=>qv4 D n v0_0) n x0 x1 x2 x3 x4 x5)
def q1e (D:DX)(n:Nat) (lp0:Int→qe→Int→Int→(tSch)×qe×Unit→List tWay→Option ((List tWay×Unit)×Unit)) (a0:(tSch)×qe×Unit) (a1:Int):Option ((List tWay×Unit)×Unit):=qg (qkc D a0) fun b↦br (!Prod.fst (Prod.fst b)) (some (([],()),())) (qg (qge D a1 0 (IntKind.wrap IntKind.i64 ((↑(List.length (Prod.fst (Prod.snd (Prod.snd (Prod.fst a0))))):Int) - 1))) fun b↦br (!Prod.fst (Prod.fst b)) (some (([],()),())) (lp0 a1 (Prod.fst (Prod.snd a0)) (↑(List.length (Prod.fst (Prod.snd a0))):Int) 0 a0 []))
def q07 (D:DX)(n:Nat) (a0:(tSch)×qe×Unit) (a1:Int):Option ((List tWay×Unit)×Unit):=q1e D n (qw2 D n) a0 a1
def qln (x0:Int) (x1:qe) (x2:Int) (x3:Int) (x4:(tSch)×qe×Unit) (x5:List tWay):St:=stq 39 [(1,avI x0),(2,AV.addr 2 []),(5,AV.brw 5 [] 0),(24,AV.val (Ty.sl (Ty.sl yV)) x1),(25,avI x2),(26,avI x3)] [(2,Root.mk (Ty.pair yS (Ty.pair (Ty.sl (Ty.sl yV)) Ty.unit)) Mk.no x4 true),(5,Root.mk (Ty.sl (Ty.pair Ty.str (Ty.pair Ty.str Ty.unit))) (Mk.own 0 (Mk.pr Mk.no (Mk.pr Mk.no Mk.no))) x5 false)] 
def qph (v0_0:List tWay):St:=stq 39 [(5,AV.brw 5 [] 0)] [(5,Root.mk (Ty.sl (Ty.pair Ty.str (Ty.pair Ty.str Ty.unit))) (Mk.own 0 (Mk.pr Mk.no (Mk.pr Mk.no Mk.no))) v0_0 false)] 
theorem qbik (D:DX)(n:Nat) (m:Nat) (K:Ex→St→Option (Out ctx 13)) (x0:Int) (x1:qe) (x2:Int) (x3:Int) (x4:(tSch)×
 qe×Unit) (x5:List tWay) :
 LQ qc D n 13 [.r,.r,.r,.l,.r,.l] (m+1) (qln x0 x1 x2 x3 x4 x5) K=qzz D n (fun x0 x1 x2 x3 x4 x5=>LQ qc D n 13 [.r,.r,.r,.l,.r,.l] m (qln x0 x1 x2 x3 x4 x5) K) (fun v0_0=>K (Ex.exit 0) (qph v0_0)) x0 x1 x2 x3 x4 x5:=by kernel_rfl
theorem q5r (D:DX)(n:Nat) (K:Ex→St→Option (Out ctx 13)):∀ (m:Nat) (x0:Int) (x1:qe) (x2:Int) (x3:Int) (x4:(tSch)×
 qe×Unit) (x5:List tWay),LQ qc D n 13 [.r,.r,.r,.l,.r,.l] m (qln x0 x1 x2 x3 x4 x5) K=qlj D n (fun v0_0=>K (Ex.exit 0) (qph v0_0)) m x0 x1 x2 x3 x4 x5
 | 0,x0,x1,x2,x3,x4,x5=>qz ..
 | m+1,x0,x1,x2,x3,x4,x5=>by
  have ih:(fun x0 x1 x2 x3 x4 x5=>LQ qc D n 13 [.r,.r,.r,.l,.r,.l] m (qln x0 x1 x2 x3 x4 x5) K)=qlj D n (fun v0_0=>K (Ex.exit 0) (qph v0_0)) m:=by funext x0 x1 x2 x3 x4 x5;exact q5r D n K m x0 x1 x2 x3 x4 x5
  rw[qbik]
  rw[ih];rfl
theorem qbft (D:DX)(n:Nat) (v0_0:List tWay) :
 (CQ qc D n 13 [] [.r,.r,.r,.l,.r,.l] (qi qc 13)) (Ex.exit 0) (qph v0_0)=qv4 D n v0_0:=by kernel_rfl
theorem qbfz (D:DX)(n:Nat) (x0:Int) (x1:qe) (x2:Int) (x3:Int) (x4:(tSch)×
 qe×Unit) (x5:List tWay) :
 LQ qc D n 13 [.r,.r,.r,.l,.r,.l] n (qln x0 x1 x2 x3 x4 x5) (CQ qc D n 13 [] [.r,.r,.r,.l,.r,.l] (qi qc 13))=qw2 D n x0 x1 x2 x3 x4 x5:=by
 rw[q5r]
 simp only[qbft]
 rfl
theorem qbl3 (D:DX)(n:Nat) (a0:(tSch)×
 qe×Unit) (a1:Int):rfC qc D n 13 (a0,(a1,()))=q07 D n a0 a1:=by
 have h:rfC qc D n 13 (a0,(a1,()))=q1e D n (fun x0 x1 x2 x3 x4 x5=>LQ qc D n 13 [.r,.r,.r,.l,.r,.l] n (qln x0 x1 x2 x3 x4 x5) (CQ qc D n 13 [] [.r,.r,.r,.l,.r,.l] (qi qc 13))) a0 a1:=by kernel_rfl
 rw[h]
 simp only[qbfz]
 rfl

def q1n (D:DX)(n:Nat) (go:qe→Int→Int→(tSch)×qe×Unit→Option ((Bool×Unit)×Unit)) (K0:Bool→(tSch)×qe×Unit→Option ((Bool×Unit)×Unit)) (K1:(tSch)×qe×Unit→Option ((Bool×Unit)×Unit)) (x0:qe) (x1:Int) (x2:Int) (x3:(tSch)×qe×Unit):Option ((Bool×Unit)×Unit):=br (decide (x2<x1)) (br (decide (0≤x2)&&decide (x2<(↑(List.length x0):Int))) (qg (qop D (Prod.fst x3) (List.getD x0 (Int.toNat x2) [])) fun b↦br (!Prod.fst (Prod.fst b)) (K0 false x3) (br (decide (x2>0)) (br (decide (0≤IntKind.wrap IntKind.i64 (x2 - 1))&&decide (IntKind.wrap IntKind.i64 (x2 - 1)<(↑(List.length (Prod.fst (Prod.snd x3))):Int))) (qg (qc5 D (Prod.fst x3) (List.getD (Prod.fst (Prod.snd x3)) (Int.toNat (IntKind.wrap IntKind.i64 (x2 - 1))) [])) fun b↦qg (qc5 D (Prod.fst x3) (List.getD x0 (Int.toNat x2) [])) fun b_1↦qg (qo7 D (Prod.fst (Prod.fst b)) (Prod.fst (Prod.fst b_1))) fun b↦br (!Prod.fst (Prod.fst b)) (K0 false x3) (br (decide (0≤0)&&decide (0≤x2)&&decide (x2≤(↑(List.length (Prod.fst (Prod.snd x3))):Int))) (qg (qbo D (List.drop (Int.toNat 0) (List.take (Int.toNat x2) (Prod.fst (Prod.snd x3)))) (Clo.mk 80 [CapV.rptr (Ty.pair (Ty.pair (Ty.sl (Ty.pair Ty.str (Ty.pair (Ty.int IntKind.i64) (Ty.pair Ty.bool Ty.unit)))) (Ty.pair (Ty.sl (Ty.int IntKind.i64)) (Ty.pair (Ty.sl (Ty.pair Ty.str (Ty.pair (Ty.sl (Ty.int IntKind.i64)) (Ty.pair Ty.bool Ty.unit)))) Ty.unit))) (Ty.pair (Ty.sl (Ty.sl (Ty.pair (Ty.int IntKind.i64) (Ty.pair (Ty.int IntKind.i64) (Ty.pair Ty.str Ty.unit))))) Ty.unit)) x3,CapV.rptr (Ty.sl (Ty.pair (Ty.int IntKind.i64) (Ty.pair (Ty.int IntKind.i64) (Ty.pair Ty.str Ty.unit)))) (List.getD x0 (Int.toNat x2) [])])) fun b↦br (Prod.fst (Prod.fst b)) (K0 false x3) (go x0 x1 (IntKind.wrap IntKind.i64 (x2+1)) x3)) none)) none) (br (decide (0≤0)&&decide (0≤x2)&&decide (x2≤(↑(List.length (Prod.fst (Prod.snd x3))):Int))) (qg (qbo D (List.drop (Int.toNat 0) (List.take (Int.toNat x2) (Prod.fst (Prod.snd x3)))) (Clo.mk 80 [CapV.rptr (Ty.pair (Ty.pair (Ty.sl (Ty.pair Ty.str (Ty.pair (Ty.int IntKind.i64) (Ty.pair Ty.bool Ty.unit)))) (Ty.pair (Ty.sl (Ty.int IntKind.i64)) (Ty.pair (Ty.sl (Ty.pair Ty.str (Ty.pair (Ty.sl (Ty.int IntKind.i64)) (Ty.pair Ty.bool Ty.unit)))) Ty.unit))) (Ty.pair (Ty.sl (Ty.sl (Ty.pair (Ty.int IntKind.i64) (Ty.pair (Ty.int IntKind.i64) (Ty.pair Ty.str Ty.unit))))) Ty.unit)) x3,CapV.rptr (Ty.sl (Ty.pair (Ty.int IntKind.i64) (Ty.pair (Ty.int IntKind.i64) (Ty.pair Ty.str Ty.unit)))) (List.getD x0 (Int.toNat x2) [])])) fun b↦br (Prod.fst (Prod.fst b)) (K0 false x3) (go x0 x1 (IntKind.wrap IntKind.i64 (x2+1)) x3)) none))) none) (K1 x3)
def qmj (D:DX)(n:Nat) (K0:Bool→(tSch)×qe×Unit→Option ((Bool×Unit)×Unit)) (K1:(tSch)×qe×Unit→Option ((Bool×Unit)×Unit)):Nat→(qe)→(Int)→(Int)→((tSch)×qe×Unit)→Option ((Bool×Unit)×Unit) | 0=>(fun x0 x1 x2 x3=>none) | m+1=>(fun x0 x1 x2 x3=>q1n D n (qmj D n K0 K1 m) K0 K1 x0 x1 x2 x3)
def q5j (D:DX)(n:Nat) (v0_0:Bool) (v0_1:(tSch)×qe×Unit):Option ((Bool×Unit)×Unit):=some ((v0_0,()),())
def qxe (D:DX)(n:Nat) (v1_0:(tSch)×qe×Unit):Option ((Bool×Unit)×Unit):=qg (qr5 D (Prod.fst v1_0)) fun b↦some ((bif Prod.fst (Prod.fst b) then decide ((↑(List.length (Prod.fst (Prod.snd v1_0))):Int)≤12) else false,()),())
def qyv (D:DX)(n:Nat):(qe)→(Int)→(Int)→((tSch)×qe×Unit)→Option ((Bool×Unit)×Unit):=(fun x0 x1 x2 x3=>qmj D n (fun v0_0 v0_1=>q5j D n v0_0 v0_1) (fun v1_0=>qxe D n v1_0) n x0 x1 x2 x3)
def q3s (D:DX)(n:Nat) (lp0:qe→Int→Int→(tSch)×qe×Unit→Option ((Bool×Unit)×Unit)) (a0:(tSch)×qe×Unit):Option ((Bool×Unit)×Unit):=lp0 (Prod.fst (Prod.snd a0)) (↑(List.length (Prod.fst (Prod.snd a0))):Int) 0 a0
def q4q (D:DX)(n:Nat) (a0:(tSch)×qe×Unit):Option ((Bool×Unit)×Unit):=q3s D n (qyv D n) a0
def qmk (x0:qe) (x1:Int) (x2:Int) (x3:(tSch)×qe×Unit):St:=stq 55 [(1,AV.addr 1 []),(6,AV.val (Ty.sl (Ty.sl yV)) x0),(7,avI x1),(8,avI x2)] [(1,Root.mk (Ty.pair yS (Ty.pair (Ty.sl (Ty.sl yV)) Ty.unit)) Mk.no x3 true)] 
def qrm (v0_0:Bool) (v0_1:(tSch)×qe×Unit):St:=stq 55 [(1,AV.addr 1 []),(2,AV.val Ty.bool v0_0)] [(1,Root.mk (Ty.pair yS (Ty.pair (Ty.sl (Ty.sl yV)) Ty.unit)) Mk.no v0_1 true)] 
def qr2 (v1_0:(tSch)×qe×Unit):St:=stq 55 [(1,AV.addr 1 [])] [(1,Root.mk (Ty.pair yS (Ty.pair (Ty.sl (Ty.sl yV)) Ty.unit)) Mk.no v1_0 true)] 
theorem qbix (D:DX)(n:Nat) (m:Nat) (K:Ex→St→Option (Out ctx 17)) (x0:qe) (x1:Int) (x2:Int) (x3:(tSch)×
 qe×Unit) :
 LQ qc D n 17 [.r,.l,.r,.l] (m+1) (qmk x0 x1 x2 x3) K=q1n D n (fun x0 x1 x2 x3=>LQ qc D n 17 [.r,.l,.r,.l] m (qmk x0 x1 x2 x3) K) (fun v0_0 v0_1=>K (Ex.ret) (qrm v0_0 v0_1)) (fun v1_0=>K (Ex.exit 0) (qr2 v1_0)) x0 x1 x2 x3:=by kernel_rfl
theorem q7b (D:DX)(n:Nat) (K:Ex→St→Option (Out ctx 17)):∀ (m:Nat) (x0:qe) (x1:Int) (x2:Int) (x3:(tSch)×
 qe×Unit),LQ qc D n 17 [.r,.l,.r,.l] m (qmk x0 x1 x2 x3) K=qmj D n (fun v0_0 v0_1=>K (Ex.ret) (qrm v0_0 v0_1)) (fun v1_0=>K (Ex.exit 0) (qr2 v1_0)) m x0 x1 x2 x3
 | 0,x0,x1,x2,x3=>qz ..
 | m+1,x0,x1,x2,x3=>by
  have ih:(fun x0 x1 x2 x3=>LQ qc D n 17 [.r,.l,.r,.l] m (qmk x0 x1 x2 x3) K)=qmj D n (fun v0_0 v0_1=>K (Ex.ret) (qrm v0_0 v0_1)) (fun v1_0=>K (Ex.exit 0) (qr2 v1_0)) m:=by funext x0 x1 x2 x3;exact q7b D n K m x0 x1 x2 x3
  rw[qbix]
  rw[ih];rfl
theorem qbgd (D:DX)(n:Nat) (v0_0:Bool) (v0_1:(tSch)×
 qe×Unit) :
 (CQ qc D n 17 [] [.r,.l,.r,.l] (qi qc 17)) (Ex.ret) (qrm v0_0 v0_1)=q5j D n v0_0 v0_1:=by kernel_rfl
theorem qbhp (D:DX)(n:Nat) (v1_0:(tSch)×
 qe×Unit) :
 (CQ qc D n 17 [] [.r,.l,.r,.l] (qi qc 17)) (Ex.exit 0) (qr2 v1_0)=qxe D n v1_0:=by kernel_rfl
theorem qbhw (D:DX)(n:Nat) (x0:qe) (x1:Int) (x2:Int) (x3:(tSch)×
 qe×Unit) :
 LQ qc D n 17 [.r,.l,.r,.l] n (qmk x0 x1 x2 x3) (CQ qc D n 17 [] [.r,.l,.r,.l] (qi qc 17))=qyv D n x0 x1 x2 x3:=by
 rw[q7b]
 simp only[qbgd,qbhp]
 rfl
theorem qbmn (D:DX)(n:Nat) (a0:(tSch)×
 qe×Unit):rfC qc D n 17 (a0,())=q4q D n a0:=by
 have h:rfC qc D n 17 (a0,())=q3s D n (fun x0 x1 x2 x3=>LQ qc D n 17 [.r,.l,.r,.l] n (qmk x0 x1 x2 x3) (CQ qc D n 17 [] [.r,.l,.r,.l] (qi qc 17))) a0:=by kernel_rfl
 rw[h]
 simp only[qbhw]
 rfl

def q86 (D:DX)(n:Nat) (a0:(tSch)×qe×Unit) (a1:qd):Option ((((tSch)×qe×Unit)×Int×Unit)×Unit):=qg (qi1 D a0) fun b↦qg (qc5 D (Prod.fst (Prod.fst (Prod.fst (Prod.fst b))),Prod.fst (Prod.snd (Prod.fst (Prod.fst (Prod.fst b)))),Prod.fst (Prod.snd (Prod.snd (Prod.fst (Prod.fst (Prod.fst b))))),()) a1) fun b_1↦qg (qkc D ((Prod.fst (Prod.fst (Prod.fst (Prod.fst b))),Prod.fst (Prod.snd (Prod.fst (Prod.fst (Prod.fst b)))),Prod.fst (Prod.snd (Prod.snd (Prod.fst (Prod.fst (Prod.fst b))))),()),Prod.fst (Prod.snd (Prod.fst (Prod.fst b))),())) fun b_2↦br (!Prod.fst (Prod.fst b_2)) (some ((((Prod.fst (Prod.fst (Prod.fst (Prod.fst b))),Prod.fst (Prod.snd (Prod.fst (Prod.fst (Prod.fst b)))),Prod.fst (Prod.snd (Prod.snd (Prod.fst (Prod.fst (Prod.fst b))))),()),Prod.fst (Prod.snd (Prod.fst (Prod.fst b))),()),1,()),())) (qg (qop D (Prod.fst (Prod.fst (Prod.fst (Prod.fst b))),Prod.fst (Prod.snd (Prod.fst (Prod.fst (Prod.fst b)))),Prod.fst (Prod.snd (Prod.snd (Prod.fst (Prod.fst (Prod.fst b))))),()) a1) fun b_3↦br (!Prod.fst (Prod.fst b_3)) (some ((((Prod.fst (Prod.fst (Prod.fst (Prod.fst b))),Prod.fst (Prod.snd (Prod.fst (Prod.fst (Prod.fst b)))),Prod.fst (Prod.snd (Prod.snd (Prod.fst (Prod.fst (Prod.fst b))))),()),Prod.fst (Prod.snd (Prod.fst (Prod.fst b))),()),1,()),())) (qg (qok D ((Prod.fst (Prod.fst (Prod.fst (Prod.fst b))),Prod.fst (Prod.snd (Prod.fst (Prod.fst (Prod.fst b)))),Prod.fst (Prod.snd (Prod.snd (Prod.fst (Prod.fst (Prod.fst b))))),()),Prod.fst (Prod.snd (Prod.fst (Prod.fst b))),()) (Prod.fst (Prod.fst b_1))) fun b_4↦br (decide (Prod.fst (Prod.fst b_4)≥0)) (some ((((Prod.fst (Prod.fst (Prod.fst (Prod.fst b))),Prod.fst (Prod.snd (Prod.fst (Prod.fst (Prod.fst b)))),Prod.fst (Prod.snd (Prod.snd (Prod.fst (Prod.fst (Prod.fst b))))),()),Prod.fst (Prod.snd (Prod.fst (Prod.fst b))),()),2,()),())) (qg (qbo D (Prod.fst (Prod.snd (Prod.fst (Prod.fst b)))) (Clo.mk 85 [CapV.rptr (Ty.pair (Ty.pair (Ty.sl (Ty.pair Ty.str (Ty.pair (Ty.int IntKind.i64) (Ty.pair Ty.bool Ty.unit)))) (Ty.pair (Ty.sl (Ty.int IntKind.i64)) (Ty.pair (Ty.sl (Ty.pair Ty.str (Ty.pair (Ty.sl (Ty.int IntKind.i64)) (Ty.pair Ty.bool Ty.unit)))) Ty.unit))) (Ty.pair (Ty.sl (Ty.sl (Ty.pair (Ty.int IntKind.i64) (Ty.pair (Ty.int IntKind.i64) (Ty.pair Ty.str Ty.unit))))) Ty.unit)) ((Prod.fst (Prod.fst (Prod.fst (Prod.fst b))),Prod.fst (Prod.snd (Prod.fst (Prod.fst (Prod.fst b)))),Prod.fst (Prod.snd (Prod.snd (Prod.fst (Prod.fst (Prod.fst b))))),()),Prod.fst (Prod.snd (Prod.fst (Prod.fst b))),()),CapV.rptr (Ty.sl (Ty.pair (Ty.int IntKind.i64) (Ty.pair (Ty.int IntKind.i64) (Ty.pair Ty.str Ty.unit)))) a1])) fun b_5↦br (Prod.fst (Prod.fst b_5)) (some ((((Prod.fst (Prod.fst (Prod.fst (Prod.fst b))),Prod.fst (Prod.snd (Prod.fst (Prod.fst (Prod.fst b)))),Prod.fst (Prod.snd (Prod.snd (Prod.fst (Prod.fst (Prod.fst b))))),()),Prod.fst (Prod.snd (Prod.fst (Prod.fst b))),()),3,()),())) (br (decide ((↑(List.length (Prod.fst (Prod.snd (Prod.fst (Prod.fst b))))):Int)=12)) (some ((((Prod.fst (Prod.fst (Prod.fst (Prod.fst b))),Prod.fst (Prod.snd (Prod.fst (Prod.fst (Prod.fst b)))),Prod.fst (Prod.snd (Prod.snd (Prod.fst (Prod.fst (Prod.fst b))))),()),Prod.fst (Prod.snd (Prod.fst (Prod.fst b))),()),5,()),())) (qg (qcn D (Prod.fst (Prod.snd (Prod.fst (Prod.fst b)))) (Clo.mk 87 [CapV.rptr (Ty.sl (Ty.pair (Ty.int IntKind.i64) (Ty.pair (Ty.int IntKind.i64) (Ty.pair Ty.str Ty.unit)))) (Prod.fst (Prod.fst b_1)),CapV.rptr (Ty.pair (Ty.pair (Ty.sl (Ty.pair Ty.str (Ty.pair (Ty.int IntKind.i64) (Ty.pair Ty.bool Ty.unit)))) (Ty.pair (Ty.sl (Ty.int IntKind.i64)) (Ty.pair (Ty.sl (Ty.pair Ty.str (Ty.pair (Ty.sl (Ty.int IntKind.i64)) (Ty.pair Ty.bool Ty.unit)))) Ty.unit))) (Ty.pair (Ty.sl (Ty.sl (Ty.pair (Ty.int IntKind.i64) (Ty.pair (Ty.int IntKind.i64) (Ty.pair Ty.str Ty.unit))))) Ty.unit)) ((Prod.fst (Prod.fst (Prod.fst (Prod.fst b))),Prod.fst (Prod.snd (Prod.fst (Prod.fst (Prod.fst b)))),Prod.fst (Prod.snd (Prod.snd (Prod.fst (Prod.fst (Prod.fst b))))),()),Prod.fst (Prod.snd (Prod.fst (Prod.fst b))),())])) fun b_6↦br (decide (Prod.fst (Prod.fst b_6)<0)) (qg (qbu D a1) fun b_7↦qg (qfr D (Prod.fst (Prod.snd (Prod.fst (Prod.fst b)))) (↑(List.length (Prod.fst (Prod.snd (Prod.fst (Prod.fst b))))):Int) [Prod.fst (Prod.fst b_7)]) fun b_8↦some ((((Prod.fst (Prod.fst (Prod.fst (Prod.fst b))),Prod.fst (Prod.snd (Prod.fst (Prod.fst (Prod.fst b)))),Prod.fst (Prod.snd (Prod.snd (Prod.fst (Prod.fst (Prod.fst b))))),()),Prod.fst (Prod.fst b_8),()),0,()),())) (qg (qbu D a1) fun b_7↦qg (qfr D (Prod.fst (Prod.snd (Prod.fst (Prod.fst b)))) (Prod.fst (Prod.fst b_6)) [Prod.fst (Prod.fst b_7)]) fun b_8↦some ((((Prod.fst (Prod.fst (Prod.fst (Prod.fst b))),Prod.fst (Prod.snd (Prod.fst (Prod.fst (Prod.fst b)))),Prod.fst (Prod.snd (Prod.snd (Prod.fst (Prod.fst (Prod.fst b))))),()),Prod.fst (Prod.fst b_8),()),0,()),())))))))
def q1q (D:DX)(n:Nat) (a0:(tSch)×qe×Unit) (a1:qd):Option ((((tSch)×qe×Unit)×Int×Unit)×Unit):=q86 D n a0 a1
theorem qbl9 (D:DX)(n:Nat) (a0:(tSch)×
 qe×Unit) (a1:qd):rfC qc D n 18 (a0,(a1,()))=q1q D n a0 a1:=by kernel_rfl

def qbaj (D:DX)(n:Nat) (a0:(tSch)×qe×Unit) (a1:Int) (a2:qd):Option ((tWay×Bool×Unit)×Unit):=qg (qop D (Prod.fst a0) a2) fun b↦br (!Prod.fst (Prod.fst b)) (some (((ByteArray.empty,ByteArray.empty,()),false,()),())) (qg (qge D a1 0 (IntKind.wrap IntKind.i64 ((↑(List.length (Prod.fst (Prod.snd (Prod.snd (Prod.fst a0))))):Int) - 1))) fun b↦br (!Prod.fst (Prod.fst b)) (some (((ByteArray.empty,ByteArray.empty,()),false,()),())) (qg (q2u D (Prod.fst a0) a1 a2) fun b↦some ((Prod.fst (Prod.fst b),true,()),())))
def q37 (D:DX)(n:Nat) (a0:(tSch)×qe×Unit) (a1:Int) (a2:qd):Option ((tWay×Bool×Unit)×Unit):=qbaj D n a0 a1 a2
theorem qbnr (D:DX)(n:Nat) (a0:(tSch)×
 qe×Unit) (a1:Int) (a2:qd):rfC qc D n 19 (a0,(a1,(a2,())))=q37 D n a0 a1 a2:=by kernel_rfl

def qvo (D:DX)(n:Nat) (go:List tWay→List tWay→Int→Option ((Bool×Unit)×Unit)) (K0:Bool→Option ((Bool×Unit)×Unit)) (K1:Option ((Bool×Unit)×Unit)) (x0:List tWay) (x1:List tWay) (x2:Int):Option ((Bool×Unit)×Unit):=br (decide (x2<(↑(List.length x0):Int))) (br (decide (0≤x2)&&decide (x2<(↑(List.length x0):Int))) (br (decide (0≤x2)&&decide (x2<(↑(List.length x1):Int))) (br (!qld (Ty.pair Ty.str (Ty.pair Ty.str Ty.unit)) (List.getD x0 (Int.toNat x2) (ByteArray.empty,ByteArray.empty,())) (List.getD x1 (Int.toNat x2) (ByteArray.empty,ByteArray.empty,()))) (K0 false) (go x0 x1 (IntKind.wrap IntKind.i64 (x2+1)))) none) none) K1
def qjr (D:DX)(n:Nat) (K0:Bool→Option ((Bool×Unit)×Unit)) (K1:Option ((Bool×Unit)×Unit)):Nat→(List tWay)→(List tWay)→(Int)→Option ((Bool×Unit)×Unit) | 0=>(fun x0 x1 x2=>none) | m+1=>(fun x0 x1 x2=>qvo D n (qjr D n K0 K1 m) K0 K1 x0 x1 x2)
def q0t (D:DX)(n:Nat) (v0_0:Bool):Option ((Bool×Unit)×Unit):=some ((v0_0,()),())
def q01 (D:DX)(n:Nat):Option ((Bool×Unit)×Unit):=some ((true,()),())
def quc (D:DX)(n:Nat):(List tWay)→(List tWay)→(Int)→Option ((Bool×Unit)×Unit):=(fun x0 x1 x2=>qjr D n (fun v0_0=>q0t D n v0_0) (q01 D n) n x0 x1 x2)
def qwj (D:DX)(n:Nat) (lp0:List tWay→List tWay→Int→Option ((Bool×Unit)×Unit)) (a0:List tWay) (a1:List tWay):Option ((Bool×Unit)×Unit):=br ((↑(List.length a0):Int) != (↑(List.length a1):Int)) (some ((false,()),())) (lp0 a0 a1 0)
def qw8 (D:DX)(n:Nat) (a0:List tWay) (a1:List tWay):Option ((Bool×Unit)×Unit):=qwj D n (quc D n) a0 a1
def qja (x0:List tWay) (x1:List tWay) (x2:Int):St:=stq 26 [(0,AV.val (Ty.sl (Ty.pair Ty.str (Ty.pair Ty.str Ty.unit))) x0),(1,AV.val (Ty.sl (Ty.pair Ty.str (Ty.pair Ty.str Ty.unit))) x1),(5,avI x2)] [] 
def qm8 (v0_0:Bool):St:=stq 26 [(4,AV.val Ty.bool v0_0)] [] 
def qms:St:=stq 26 [] [] 
theorem qbdd (D:DX)(n:Nat) (m:Nat) (K:Ex→St→Option (Out ctx 20)) (x0:List tWay) (x1:List tWay) (x2:Int) :
 LQ qc D n 20 [.r,.r,.l,.r,.l] (m+1) (qja x0 x1 x2) K=qvo D n (fun x0 x1 x2=>LQ qc D n 20 [.r,.r,.l,.r,.l] m (qja x0 x1 x2) K) (fun v0_0=>K (Ex.ret) (qm8 v0_0)) (K (Ex.exit 0) (qms)) x0 x1 x2:=by kernel_rfl
theorem q2i (D:DX)(n:Nat) (K:Ex→St→Option (Out ctx 20)):∀ (m:Nat) (x0:List tWay) (x1:List tWay) (x2:Int),LQ qc D n 20 [.r,.r,.l,.r,.l] m (qja x0 x1 x2) K=qjr D n (fun v0_0=>K (Ex.ret) (qm8 v0_0)) (K (Ex.exit 0) (qms)) m x0 x1 x2
 | 0,x0,x1,x2=>qz ..
 | m+1,x0,x1,x2=>by
  have ih:(fun x0 x1 x2=>LQ qc D n 20 [.r,.r,.l,.r,.l] m (qja x0 x1 x2) K)=qjr D n (fun v0_0=>K (Ex.ret) (qm8 v0_0)) (K (Ex.exit 0) (qms)) m:=by funext x0 x1 x2;exact q2i D n K m x0 x1 x2
  rw[qbdd]
  rw[ih];rfl
theorem qbav (D:DX)(n:Nat) (v0_0:Bool) :
 (CQ qc D n 20 [] [.r,.r,.l,.r,.l] (qi qc 20)) (Ex.ret) (qm8 v0_0)=q0t D n v0_0:=by kernel_rfl
theorem qbbq (D:DX)(n:Nat) :
 (CQ qc D n 20 [] [.r,.r,.l,.r,.l] (qi qc 20)) (Ex.exit 0) (qms)=q01 D n:=by kernel_rfl
theorem qba4 (D:DX)(n:Nat) (x0:List tWay) (x1:List tWay) (x2:Int) :
 LQ qc D n 20 [.r,.r,.l,.r,.l] n (qja x0 x1 x2) (CQ qc D n 20 [] [.r,.r,.l,.r,.l] (qi qc 20))=quc D n x0 x1 x2:=by
 rw[q2i]
 simp only[qbav,qbbq]
 rfl
theorem qbf2 (D:DX)(n:Nat) (a0:List tWay) (a1:List tWay):rfC qc D n 20 (a0,(a1,()))=qw8 D n a0 a1:=by
 have h:rfC qc D n 20 (a0,(a1,()))=qwj D n (fun x0 x1 x2=>LQ qc D n 20 [.r,.r,.l,.r,.l] n (qja x0 x1 x2) (CQ qc D n 20 [] [.r,.r,.l,.r,.l] (qi qc 20))) a0 a1:=by kernel_rfl
 rw[h]
 simp only[qba4]
 rfl

def q9d (D:DX)(n:Nat) (a0:List tWay) (a1:ByteArray×ByteArray×Unit):Option ((List tWay×Unit)×Unit):=qg (qew D a0) fun b↦qg (qd2 D a0 (Clo.mk 92 [CapV.rptr (Ty.pair Ty.str (Ty.pair Ty.str Ty.unit)) a1])) fun b_1↦br (decide (Prod.fst (Prod.fst b_1)<0)) (qg (qb8 D (Prod.fst (Prod.fst b)) (↑(List.length a0):Int) [a1]) fun b↦some ((Prod.fst (Prod.fst b),()),())) (br (decide (0≤Prod.fst (Prod.fst b_1))&&decide (Prod.fst (Prod.fst b_1)<(↑(List.length a0):Int))) (br (qld (Ty.pair Ty.str (Ty.pair Ty.str Ty.unit)) (List.getD a0 (Int.toNat (Prod.fst (Prod.fst b_1))) (ByteArray.empty,ByteArray.empty,())) a1) (some ((Prod.fst (Prod.fst b),()),())) (qg (qb8 D (Prod.fst (Prod.fst b)) (Prod.fst (Prod.fst b_1)) [a1]) fun b↦some ((Prod.fst (Prod.fst b),()),()))) none)
def q1v (D:DX)(n:Nat) (a0:List tWay) (a1:ByteArray×ByteArray×Unit):Option ((List tWay×Unit)×Unit):=q9d D n a0 a1
theorem qblz (D:DX)(n:Nat) (a0:List tWay) (a1:ByteArray×ByteArray×Unit):rfC qc D n 21 (a0,(a1,()))=q1v D n a0 a1:=by kernel_rfl

def q89 (D:DX)(n:Nat) (a0:(tSch)×qe×Unit) (a1:qd):Option ((qd×Bool×Unit)×Unit):=qg (qok D a0 a1) fun b↦qg (qkc D a0) fun b_1↦br (bif !Prod.fst (Prod.fst b_1) then true else decide (Prod.fst (Prod.fst b)<0)) (some (([],false,()),())) (br (decide (0≤Prod.fst (Prod.fst b))&&decide (Prod.fst (Prod.fst b)<(↑(List.length (Prod.fst (Prod.snd a0))):Int))) (qg (qbu D (List.getD (Prod.fst (Prod.snd a0)) (Int.toNat (Prod.fst (Prod.fst b))) [])) fun b↦some ((Prod.fst (Prod.fst b),true,()),())) none)
def q11 (D:DX)(n:Nat) (a0:(tSch)×qe×Unit) (a1:qd):Option ((qd×Bool×Unit)×Unit):=q89 D n a0 a1
theorem qblg (D:DX)(n:Nat) (a0:(tSch)×
 qe×Unit) (a1:qd):rfC qc D n 22 (a0,(a1,()))=q11 D n a0 a1:=by kernel_rfl

def q4x (D:DX)(n:Nat) (a0:tSch) (a1:qd):Option ((qd×Unit)×Unit):=qg (qlp D a1 (Prod.fst (Prod.snd a0))) fun b↦some ((Prod.fst (Prod.fst b),()),())
def qwo (D:DX)(n:Nat) (a0:tSch) (a1:qd):Option ((qd×Unit)×Unit):=q4x D n a0 a1
theorem qbh1 (D:DX)(n:Nat) (a0:tSch) (a1:qd):rfC qc D n 23 (a0,(a1,()))=qwo D n a0 a1:=by kernel_rfl

def q9a (D:DX)(n:Nat) (a0:(tSch)×qe×Unit) (a1:qd):Option ((((tSch)×qe×Unit)×Int×Unit)×Unit):=qg (qi1 D a0) fun b↦qg (qkc D ((Prod.fst (Prod.fst (Prod.fst (Prod.fst b))),Prod.fst (Prod.snd (Prod.fst (Prod.fst (Prod.fst b)))),Prod.fst (Prod.snd (Prod.snd (Prod.fst (Prod.fst (Prod.fst b))))),()),Prod.fst (Prod.snd (Prod.fst (Prod.fst b))),())) fun b_1↦br (!Prod.fst (Prod.fst b_1)) (some ((((Prod.fst (Prod.fst (Prod.fst (Prod.fst b))),Prod.fst (Prod.snd (Prod.fst (Prod.fst (Prod.fst b)))),Prod.fst (Prod.snd (Prod.snd (Prod.fst (Prod.fst (Prod.fst b))))),()),Prod.fst (Prod.snd (Prod.fst (Prod.fst b))),()),1,()),())) (qg (qok D ((Prod.fst (Prod.fst (Prod.fst (Prod.fst b))),Prod.fst (Prod.snd (Prod.fst (Prod.fst (Prod.fst b)))),Prod.fst (Prod.snd (Prod.snd (Prod.fst (Prod.fst (Prod.fst b))))),()),Prod.fst (Prod.snd (Prod.fst (Prod.fst b))),()) a1) fun b_2↦br (decide (Prod.fst (Prod.fst b_2)<0)) (some ((((Prod.fst (Prod.fst (Prod.fst (Prod.fst b))),Prod.fst (Prod.snd (Prod.fst (Prod.fst (Prod.fst b)))),Prod.fst (Prod.snd (Prod.snd (Prod.fst (Prod.fst (Prod.fst b))))),()),Prod.fst (Prod.snd (Prod.fst (Prod.fst b))),()),4,()),())) (qg (qjt D (Prod.fst (Prod.snd (Prod.fst (Prod.fst b)))) (Prod.fst (Prod.fst b_2)) (IntKind.wrap IntKind.i64 (Prod.fst (Prod.fst b_2)+1))) fun b_3↦some ((((Prod.fst (Prod.fst (Prod.fst (Prod.fst b))),Prod.fst (Prod.snd (Prod.fst (Prod.fst (Prod.fst b)))),Prod.fst (Prod.snd (Prod.snd (Prod.fst (Prod.fst (Prod.fst b))))),()),Prod.fst (Prod.fst b_3),()),0,()),())))
def q1x (D:DX)(n:Nat) (a0:(tSch)×qe×Unit) (a1:qd):Option ((((tSch)×qe×Unit)×Int×Unit)×Unit):=q9a D n a0 a1
theorem qbmb (D:DX)(n:Nat) (a0:(tSch)×
 qe×Unit) (a1:qd):rfC qc D n 24 (a0,(a1,()))=q1x D n a0 a1:=by kernel_rfl

def q9c (D:DX)(n:Nat) (a0:List tWay) (a1:ByteArray×ByteArray×Unit):Option ((List tWay×Unit)×Unit):=qg (qew D a0) fun b↦qg (qfs D (Prod.fst (Prod.fst b)) (Clo.mk 97 [CapV.rptr (Ty.pair Ty.str (Ty.pair Ty.str Ty.unit)) a1])) fun b↦some ((Prod.fst (Prod.fst b),()),())
def q1s (D:DX)(n:Nat) (a0:List tWay) (a1:ByteArray×ByteArray×Unit):Option ((List tWay×Unit)×Unit):=q9c D n a0 a1
theorem qbme (D:DX)(n:Nat) (a0:List tWay) (a1:ByteArray×ByteArray×Unit):rfC qc D n 25 (a0,(a1,()))=q1s D n a0 a1:=by kernel_rfl

def qxa (D:DX)(n:Nat) (go:qd→Int→Int→Int→(tSch)×qe×Unit→(tSch)×qe×Unit→Option ((((tSch)×qe×Unit)×Int×Unit)×Unit)) (K0:qd→Int→Int→(tSch)×qe×Unit→(tSch)×qe×Unit→Option ((((tSch)×qe×Unit)×Int×Unit)×Unit)) (K1:qd→Int→(tSch)×qe×Unit→(tSch)×qe×Unit→Option ((((tSch)×qe×Unit)×Int×Unit)×Unit)) (x0:qd) (x1:Int) (x2:Int) (x3:Int) (x4:(tSch)×qe×Unit) (x5:(tSch)×qe×Unit):Option ((((tSch)×qe×Unit)×Int×Unit)×Unit):=br (decide (x3<x2)) (br (decide (0≤x3)&&decide (x3<(↑(List.length (Prod.fst (Prod.snd x4))):Int))) (br (x3 != x1) (qg (qsg D (Prod.fst (Prod.fst x4),Prod.fst (Prod.snd (Prod.fst x4)),Prod.fst (Prod.snd (Prod.snd (Prod.fst x4))),()) x0 (List.getD (Prod.fst (Prod.snd x4)) (Int.toNat x3) [])) fun b↦br (Prod.fst (Prod.fst b)) (K0 x0 3 x1 x4 ((Prod.fst (Prod.fst x4),Prod.fst (Prod.snd (Prod.fst x4)),Prod.fst (Prod.snd (Prod.snd (Prod.fst x4))),()),Prod.fst (Prod.snd x4),())) (go x0 x1 x2 (IntKind.wrap IntKind.i64 (x3+1)) x4 x5)) (go x0 x1 x2 (IntKind.wrap IntKind.i64 (x3+1)) x4 x5)) none) (K1 x0 x1 x4 x5)
def qkn (D:DX)(n:Nat) (K0:qd→Int→Int→(tSch)×qe×Unit→(tSch)×qe×Unit→Option ((((tSch)×qe×Unit)×Int×Unit)×Unit)) (K1:qd→Int→(tSch)×qe×Unit→(tSch)×qe×Unit→Option ((((tSch)×qe×Unit)×Int×Unit)×Unit)):Nat→(qd)→(Int)→(Int)→(Int)→((tSch)×qe×Unit)→((tSch)×qe×Unit)→Option ((((tSch)×qe×Unit)×Int×Unit)×Unit) | 0=>(fun x0 x1 x2 x3 x4 x5=>none) | m+1=>(fun x0 x1 x2 x3 x4 x5=>qxa D n (qkn D n K0 K1 m) K0 K1 x0 x1 x2 x3 x4 x5)
def q15 (D:DX)(n:Nat) (v0_0:qd) (v0_1:Int) (v0_2:Int) (v0_3:(tSch)×qe×Unit) (v0_4:(tSch)×qe×Unit):Option ((((tSch)×qe×Unit)×Int×Unit)×Unit):=some ((((Prod.fst (Prod.fst v0_4),Prod.fst (Prod.snd (Prod.fst v0_4)),Prod.fst (Prod.snd (Prod.snd (Prod.fst v0_4))),()),Prod.fst (Prod.snd v0_4),()),v0_1,()),())
def qtw (D:DX)(n:Nat) (v1_0:qd) (v1_1:Int) (v1_2:(tSch)×qe×Unit) (v1_3:(tSch)×qe×Unit):Option ((((tSch)×qe×Unit)×Int×Unit)×Unit):=qg (qbu D v1_0) fun b↦br (decide (0≤v1_1)&&decide (v1_1<(↑(List.length (Prod.fst (Prod.snd v1_2))):Int))) (some ((((Prod.fst (Prod.fst v1_2),Prod.fst (Prod.snd (Prod.fst v1_2)),Prod.fst (Prod.snd (Prod.snd (Prod.fst v1_2))),()),List.set (Prod.fst (Prod.snd v1_2)) (Int.toNat v1_1) (Prod.fst (Prod.fst b)),()),0,()),())) none
def qu7 (D:DX)(n:Nat):(qd)→(Int)→(Int)→(Int)→((tSch)×qe×Unit)→((tSch)×qe×Unit)→Option ((((tSch)×qe×Unit)×Int×Unit)×Unit):=(fun x0 x1 x2 x3 x4 x5=>qkn D n (fun v0_0 v0_1 v0_2 v0_3 v0_4=>q15 D n v0_0 v0_1 v0_2 v0_3 v0_4) (fun v1_0 v1_1 v1_2 v1_3=>qtw D n v1_0 v1_1 v1_2 v1_3) n x0 x1 x2 x3 x4 x5)
def qyq (D:DX)(n:Nat) (lp0:qd→Int→Int→Int→(tSch)×qe×Unit→(tSch)×qe×Unit→Option ((((tSch)×qe×Unit)×Int×Unit)×Unit)) (a0:(tSch)×qe×Unit) (a1:qd):Option ((((tSch)×qe×Unit)×Int×Unit)×Unit):=qg (qi1 D a0) fun b↦qg (qkc D ((Prod.fst (Prod.fst (Prod.fst (Prod.fst b))),Prod.fst (Prod.snd (Prod.fst (Prod.fst (Prod.fst b)))),Prod.fst (Prod.snd (Prod.snd (Prod.fst (Prod.fst (Prod.fst b))))),()),Prod.fst (Prod.snd (Prod.fst (Prod.fst b))),())) fun b_1↦br (!Prod.fst (Prod.fst b_1)) (some ((((Prod.fst (Prod.fst (Prod.fst (Prod.fst b))),Prod.fst (Prod.snd (Prod.fst (Prod.fst (Prod.fst b)))),Prod.fst (Prod.snd (Prod.snd (Prod.fst (Prod.fst (Prod.fst b))))),()),Prod.fst (Prod.snd (Prod.fst (Prod.fst b))),()),1,()),())) (qg (qop D (Prod.fst (Prod.fst (Prod.fst (Prod.fst b))),Prod.fst (Prod.snd (Prod.fst (Prod.fst (Prod.fst b)))),Prod.fst (Prod.snd (Prod.snd (Prod.fst (Prod.fst (Prod.fst b))))),()) a1) fun b_2↦br (!Prod.fst (Prod.fst b_2)) (some ((((Prod.fst (Prod.fst (Prod.fst (Prod.fst b))),Prod.fst (Prod.snd (Prod.fst (Prod.fst (Prod.fst b)))),Prod.fst (Prod.snd (Prod.snd (Prod.fst (Prod.fst (Prod.fst b))))),()),Prod.fst (Prod.snd (Prod.fst (Prod.fst b))),()),1,()),())) (qg (qc5 D (Prod.fst (Prod.fst (Prod.fst (Prod.fst b))),Prod.fst (Prod.snd (Prod.fst (Prod.fst (Prod.fst b)))),Prod.fst (Prod.snd (Prod.snd (Prod.fst (Prod.fst (Prod.fst b))))),()) a1) fun b_3↦qg (qok D ((Prod.fst (Prod.fst (Prod.fst (Prod.fst b))),Prod.fst (Prod.snd (Prod.fst (Prod.fst (Prod.fst b)))),Prod.fst (Prod.snd (Prod.snd (Prod.fst (Prod.fst (Prod.fst b))))),()),Prod.fst (Prod.snd (Prod.fst (Prod.fst b))),()) (Prod.fst (Prod.fst b_3))) fun b_4↦br (decide (Prod.fst (Prod.fst b_4)<0)) (some ((((Prod.fst (Prod.fst (Prod.fst (Prod.fst b))),Prod.fst (Prod.snd (Prod.fst (Prod.fst (Prod.fst b)))),Prod.fst (Prod.snd (Prod.snd (Prod.fst (Prod.fst (Prod.fst b))))),()),Prod.fst (Prod.snd (Prod.fst (Prod.fst b))),()),4,()),())) (lp0 a1 (Prod.fst (Prod.fst b_4)) (↑(List.length (Prod.fst (Prod.snd (Prod.fst (Prod.fst b))))):Int) 0 ((Prod.fst (Prod.fst (Prod.fst (Prod.fst b))),Prod.fst (Prod.snd (Prod.fst (Prod.fst (Prod.fst b)))),Prod.fst (Prod.snd (Prod.snd (Prod.fst (Prod.fst (Prod.fst b))))),()),Prod.fst (Prod.snd (Prod.fst (Prod.fst b))),()) (([],[],[],()),[],()))))
def qy9 (D:DX)(n:Nat) (a0:(tSch)×qe×Unit) (a1:qd):Option ((((tSch)×qe×Unit)×Int×Unit)×Unit):=qyq D n (qu7 D n) a0 a1
def qkt (x0:qd) (x1:Int) (x2:Int) (x3:Int) (x4:(tSch)×qe×Unit) (x5:(tSch)×qe×Unit):St:=stq 58 [(1,AV.val (Ty.sl yV) x0),(2,AV.addr 2 []),(4,AV.addr 4 []),(6,avI x1),(32,AV.brw 2 [Stp.snd,Stp.fst] 0),(33,avI x2),(34,avI x3)] [(2,Root.mk (Ty.pair yS (Ty.pair (Ty.sl (Ty.sl yV)) Ty.unit)) (Mk.pr (Mk.pr (Mk.own 0 (Mk.pr Mk.no (Mk.pr Mk.no (Mk.pr Mk.no Mk.no)))) (Mk.pr (Mk.own 0 Mk.no) (Mk.pr (Mk.own 0 (Mk.pr Mk.no (Mk.pr (Mk.own 0 Mk.no) (Mk.pr Mk.no Mk.no)))) Mk.no))) (Mk.pr (Mk.own 0 (Mk.own 0 (Mk.pr Mk.no (Mk.pr Mk.no (Mk.pr Mk.no Mk.no))))) Mk.no)) x4 true),(4,Root.mk (Ty.pair yS (Ty.pair (Ty.sl (Ty.sl yV)) Ty.unit)) (Mk.pr (Mk.pr (Mk.own 0 (Mk.pr Mk.no (Mk.pr Mk.no (Mk.pr Mk.no Mk.no)))) (Mk.pr (Mk.own 0 Mk.no) (Mk.pr (Mk.own 0 (Mk.pr Mk.no (Mk.pr (Mk.own 0 Mk.no) (Mk.pr Mk.no Mk.no)))) Mk.no))) (Mk.pr (Mk.own 0 (Mk.own 0 (Mk.pr Mk.no (Mk.pr Mk.no (Mk.pr Mk.no Mk.no))))) Mk.no)) x5 true)] 
def qoe (v0_0:qd) (v0_1:Int) (v0_2:Int) (v0_3:(tSch)×qe×Unit) (v0_4:(tSch)×qe×Unit):St:=stq 58 [(1,AV.val (Ty.sl yV) v0_0),(2,AV.addr 2 []),(4,AV.addr 4 []),(5,avI v0_1),(6,avI v0_2)] [(2,Root.mk (Ty.pair yS (Ty.pair (Ty.sl (Ty.sl yV)) Ty.unit)) (Mk.pr (Mk.pr Mk.gone (Mk.pr Mk.gone (Mk.pr Mk.gone Mk.no))) (Mk.pr Mk.gone Mk.no)) v0_3 true),(4,Root.mk (Ty.pair yS (Ty.pair (Ty.sl (Ty.sl yV)) Ty.unit)) (Mk.pr (Mk.pr (Mk.own 0 (Mk.pr Mk.no (Mk.pr Mk.no (Mk.pr Mk.no Mk.no)))) (Mk.pr (Mk.own 0 Mk.no) (Mk.pr (Mk.own 0 (Mk.pr Mk.no (Mk.pr (Mk.own 0 Mk.no) (Mk.pr Mk.no Mk.no)))) Mk.no))) (Mk.pr (Mk.own 0 (Mk.own 0 (Mk.pr Mk.no (Mk.pr Mk.no (Mk.pr Mk.no Mk.no))))) Mk.no)) v0_4 true)] 
def qoj (v1_0:qd) (v1_1:Int) (v1_2:(tSch)×qe×Unit) (v1_3:(tSch)×qe×Unit):St:=stq 58 [(1,AV.val (Ty.sl yV) v1_0),(2,AV.addr 2 []),(4,AV.addr 4 []),(6,avI v1_1)] [(2,Root.mk (Ty.pair yS (Ty.pair (Ty.sl (Ty.sl yV)) Ty.unit)) (Mk.pr (Mk.pr (Mk.own 0 (Mk.pr Mk.no (Mk.pr Mk.no (Mk.pr Mk.no Mk.no)))) (Mk.pr (Mk.own 0 Mk.no) (Mk.pr (Mk.own 0 (Mk.pr Mk.no (Mk.pr (Mk.own 0 Mk.no) (Mk.pr Mk.no Mk.no)))) Mk.no))) (Mk.pr (Mk.own 0 (Mk.own 0 (Mk.pr Mk.no (Mk.pr Mk.no (Mk.pr Mk.no Mk.no))))) Mk.no)) v1_2 true),(4,Root.mk (Ty.pair yS (Ty.pair (Ty.sl (Ty.sl yV)) Ty.unit)) (Mk.pr (Mk.pr (Mk.own 0 (Mk.pr Mk.no (Mk.pr Mk.no (Mk.pr Mk.no Mk.no)))) (Mk.pr (Mk.own 0 Mk.no) (Mk.pr (Mk.own 0 (Mk.pr Mk.no (Mk.pr (Mk.own 0 Mk.no) (Mk.pr Mk.no Mk.no)))) Mk.no))) (Mk.pr (Mk.own 0 (Mk.own 0 (Mk.pr Mk.no (Mk.pr Mk.no (Mk.pr Mk.no Mk.no))))) Mk.no)) v1_3 true)] 
theorem qbfo (D:DX)(n:Nat) (m:Nat) (K:Ex→St→Option (Out ctx 26)) (x0:qd) (x1:Int) (x2:Int) (x3:Int) (x4:(tSch)×
 qe×Unit) (x5:(tSch)×
 qe×Unit) :
 LQ qc D n 26 [.r,.r,.r,.r,.r,.l,.r,.l] (m+1) (qkt x0 x1 x2 x3 x4 x5) K=qxa D n (fun x0 x1 x2 x3 x4 x5=>LQ qc D n 26 [.r,.r,.r,.r,.r,.l,.r,.l] m (qkt x0 x1 x2 x3 x4 x5) K) (fun v0_0 v0_1 v0_2 v0_3 v0_4=>K (Ex.ret) (qoe v0_0 v0_1 v0_2 v0_3 v0_4)) (fun v1_0 v1_1 v1_2 v1_3=>K (Ex.exit 0) (qoj v1_0 v1_1 v1_2 v1_3)) x0 x1 x2 x3 x4 x5:=by kernel_rfl
theorem q30 (D:DX)(n:Nat) (K:Ex→St→Option (Out ctx 26)):∀ (m:Nat) (x0:qd) (x1:Int) (x2:Int) (x3:Int) (x4:(tSch)×
 qe×Unit) (x5:(tSch)×
 qe×Unit),LQ qc D n 26 [.r,.r,.r,.r,.r,.l,.r,.l] m (qkt x0 x1 x2 x3 x4 x5) K=qkn D n (fun v0_0 v0_1 v0_2 v0_3 v0_4=>K (Ex.ret) (qoe v0_0 v0_1 v0_2 v0_3 v0_4)) (fun v1_0 v1_1 v1_2 v1_3=>K (Ex.exit 0) (qoj v1_0 v1_1 v1_2 v1_3)) m x0 x1 x2 x3 x4 x5
 | 0,x0,x1,x2,x3,x4,x5=>qz ..
 | m+1,x0,x1,x2,x3,x4,x5=>by
  have ih:(fun x0 x1 x2 x3 x4 x5=>LQ qc D n 26 [.r,.r,.r,.r,.r,.l,.r,.l] m (qkt x0 x1 x2 x3 x4 x5) K)=qkn D n (fun v0_0 v0_1 v0_2 v0_3 v0_4=>K (Ex.ret) (qoe v0_0 v0_1 v0_2 v0_3 v0_4)) (fun v1_0 v1_1 v1_2 v1_3=>K (Ex.exit 0) (qoj v1_0 v1_1 v1_2 v1_3)) m:=by funext x0 x1 x2 x3 x4 x5;exact q30 D n K m x0 x1 x2 x3 x4 x5
  rw[qbfo]
  rw[ih];rfl
theorem qbds (D:DX)(n:Nat) (v0_0:qd) (v0_1:Int) (v0_2:Int) (v0_3:(tSch)×
 qe×Unit) (v0_4:(tSch)×
 qe×Unit) :
 (CQ qc D n 26 [] [.r,.r,.r,.r,.r,.l,.r,.l] (qi qc 26)) (Ex.ret) (qoe v0_0 v0_1 v0_2 v0_3 v0_4)=q15 D n v0_0 v0_1 v0_2 v0_3 v0_4:=by kernel_rfl
theorem qbdg (D:DX)(n:Nat) (v1_0:qd) (v1_1:Int) (v1_2:(tSch)×
 qe×Unit) (v1_3:(tSch)×
 qe×Unit) :
 (CQ qc D n 26 [] [.r,.r,.r,.r,.r,.l,.r,.l] (qi qc 26)) (Ex.exit 0) (qoj v1_0 v1_1 v1_2 v1_3)=qtw D n v1_0 v1_1 v1_2 v1_3:=by kernel_rfl
theorem qbc7 (D:DX)(n:Nat) (x0:qd) (x1:Int) (x2:Int) (x3:Int) (x4:(tSch)×
 qe×Unit) (x5:(tSch)×
 qe×Unit) :
 LQ qc D n 26 [.r,.r,.r,.r,.r,.l,.r,.l] n (qkt x0 x1 x2 x3 x4 x5) (CQ qc D n 26 [] [.r,.r,.r,.r,.r,.l,.r,.l] (qi qc 26))=qu7 D n x0 x1 x2 x3 x4 x5:=by
 rw[q30]
 simp only[qbds,qbdg]
 rfl
theorem qbjj (D:DX)(n:Nat) (a0:(tSch)×
 qe×Unit) (a1:qd):rfC qc D n 26 (a0,(a1,()))=qy9 D n a0 a1:=by
 have h:rfC qc D n 26 (a0,(a1,()))=qyq D n (fun x0 x1 x2 x3 x4 x5=>LQ qc D n 26 [.r,.r,.r,.r,.r,.l,.r,.l] n (qkt x0 x1 x2 x3 x4 x5) (CQ qc D n 26 [] [.r,.r,.r,.r,.r,.l,.r,.l] (qi qc 26))) a0 a1:=by kernel_rfl
 rw[h]
 simp only[qbc7]
 rfl

def qzi (D:DX)(n:Nat) (go:qd→Int→(tSch)×qe×Unit→(tSch)×qe×Unit→(tSch)×qe×Unit→Option ((((tSch)×qe×Unit)×Int×Unit)×Unit)) (K0:qd→Int→(tSch)×qe×Unit→(tSch)×qe×Unit→(tSch)×qe×Unit→Option ((((tSch)×qe×Unit)×Int×Unit)×Unit)) (x0:qd) (x1:Int) (x2:(tSch)×qe×Unit) (x3:(tSch)×qe×Unit) (x4:(tSch)×qe×Unit):Option ((((tSch)×qe×Unit)×Int×Unit)×Unit):=br (decide (x1<(↑(List.length (Prod.fst (Prod.snd x2))):Int))) (br (decide (0≤x1)&&decide (x1<(↑(List.length (Prod.fst (Prod.snd x2))):Int))) (qg (qek D (Prod.fst x2) (List.getD (Prod.fst (Prod.snd x2)) (Int.toNat x1) [])) fun b↦qg (qek D (Prod.fst x2) x0) fun b_1↦qg (qpd D (Prod.fst (Prod.fst b)) (Prod.fst (Prod.fst b_1))) fun b↦br (Prod.fst (Prod.fst b)) (go x0 (IntKind.wrap IntKind.i64 (x1+1)) x2 x3 x4) (K0 x0 x1 x2 x3 x4)) none) (K0 x0 x1 x2 x3 x4)
def qlr (D:DX)(n:Nat) (K0:qd→Int→(tSch)×qe×Unit→(tSch)×qe×Unit→(tSch)×qe×Unit→Option ((((tSch)×qe×Unit)×Int×Unit)×Unit)):Nat→(qd)→(Int)→((tSch)×qe×Unit)→((tSch)×qe×Unit)→((tSch)×qe×Unit)→Option ((((tSch)×qe×Unit)×Int×Unit)×Unit) | 0=>(fun x0 x1 x2 x3 x4=>none) | m+1=>(fun x0 x1 x2 x3 x4=>qzi D n (qlr D n K0 m) K0 x0 x1 x2 x3 x4)
def qjo (D:DX)(n:Nat) (v0_0:qd) (v0_1:Int) (v0_2:(tSch)×qe×Unit) (v0_3:(tSch)×qe×Unit) (v0_4:(tSch)×qe×Unit):Option ((((tSch)×qe×Unit)×Int×Unit)×Unit):=br (decide (0≤0)&&decide (0≤v0_1)&&decide (v0_1≤(↑(List.length (Prod.fst (Prod.snd v0_2))):Int))) (qg (qjq D (List.drop (Int.toNat 0) (List.take (Int.toNat v0_1) (Prod.fst (Prod.snd v0_2))))) fun b↦br (decide (0+List.length v0_0≤qbh)) (br (decide (List.length (Prod.fst (Prod.fst b))+1≤qbh)) (br (decide (0≤v0_1)&&decide (v0_1≤(↑(List.length (Prod.fst (Prod.snd v0_2))):Int))&&decide ((↑(List.length (Prod.fst (Prod.snd v0_2))):Int)≤(↑(List.length (Prod.fst (Prod.snd v0_2))):Int))) (qg (qjq D (List.drop (Int.toNat v0_1) (List.take (Int.toNat (↑(List.length (Prod.fst (Prod.snd v0_2))):Int)) (Prod.fst (Prod.snd v0_2))))) fun b_1↦br (decide (List.length (Prod.fst (Prod.fst b)++[[]++v0_0])+List.length (Prod.fst (Prod.fst b_1))≤qbh)) (some ((((Prod.fst (Prod.fst v0_4),Prod.fst (Prod.snd (Prod.fst v0_4)),Prod.fst (Prod.snd (Prod.snd (Prod.fst v0_4))),()),Prod.fst (Prod.fst b)++[[]++v0_0]++Prod.fst (Prod.fst b_1),()),0,()),())) none) none) none) none) none
def qxc (D:DX)(n:Nat):(qd)→(Int)→((tSch)×qe×Unit)→((tSch)×qe×Unit)→((tSch)×qe×Unit)→Option ((((tSch)×qe×Unit)×Int×Unit)×Unit):=(fun x0 x1 x2 x3 x4=>qlr D n (fun v0_0 v0_1 v0_2 v0_3 v0_4=>qjo D n v0_0 v0_1 v0_2 v0_3 v0_4) n x0 x1 x2 x3 x4)
def q05 (D:DX)(n:Nat) (lp0:qd→Int→(tSch)×qe×Unit→(tSch)×qe×Unit→(tSch)×qe×Unit→Option ((((tSch)×qe×Unit)×Int×Unit)×Unit)) (a0:(tSch)×qe×Unit) (a1:qd):Option ((((tSch)×qe×Unit)×Int×Unit)×Unit):=qg (qor D a0) fun b↦qg (qo0 D a0) fun b_1↦br (!Prod.fst (Prod.fst b_1)) (some ((((Prod.fst (Prod.fst (Prod.fst (Prod.fst b))),Prod.fst (Prod.snd (Prod.fst (Prod.fst (Prod.fst b)))),Prod.fst (Prod.snd (Prod.snd (Prod.fst (Prod.fst (Prod.fst b))))),()),Prod.fst (Prod.snd (Prod.fst (Prod.fst b))),()),1,()),())) (qg (qs7 D (Prod.fst a0) a1) fun b_2↦br (!Prod.fst (Prod.fst b_2)) (some ((((Prod.fst (Prod.fst (Prod.fst (Prod.fst b))),Prod.fst (Prod.snd (Prod.fst (Prod.fst (Prod.fst b)))),Prod.fst (Prod.snd (Prod.snd (Prod.fst (Prod.fst (Prod.fst b))))),()),Prod.fst (Prod.snd (Prod.fst (Prod.fst b))),()),1,()),())) (qg (qek D (Prod.fst a0) a1) fun b_3↦qg (qso D a0 (Prod.fst (Prod.fst b_3))) fun b_4↦br (decide (Prod.fst (Prod.fst b_4)≥0)) (some ((((Prod.fst (Prod.fst (Prod.fst (Prod.fst b))),Prod.fst (Prod.snd (Prod.fst (Prod.fst (Prod.fst b)))),Prod.fst (Prod.snd (Prod.snd (Prod.fst (Prod.fst (Prod.fst b))))),()),Prod.fst (Prod.snd (Prod.fst (Prod.fst b))),()),2,()),())) (qg (qpu D a0 a1 (-1)) fun b_5↦br (Prod.fst (Prod.fst b_5)) (some ((((Prod.fst (Prod.fst (Prod.fst (Prod.fst b))),Prod.fst (Prod.snd (Prod.fst (Prod.fst (Prod.fst b)))),Prod.fst (Prod.snd (Prod.snd (Prod.fst (Prod.fst (Prod.fst b))))),()),Prod.fst (Prod.snd (Prod.fst (Prod.fst b))),()),3,()),())) (br (decide ((↑(List.length (Prod.fst (Prod.snd a0))):Int)≥12)) (some ((((Prod.fst (Prod.fst (Prod.fst (Prod.fst b))),Prod.fst (Prod.snd (Prod.fst (Prod.fst (Prod.fst b)))),Prod.fst (Prod.snd (Prod.snd (Prod.fst (Prod.fst (Prod.fst b))))),()),Prod.fst (Prod.snd (Prod.fst (Prod.fst b))),()),5,()),())) (lp0 a1 0 a0 (([],[],[],()),[],()) ((Prod.fst (Prod.fst (Prod.fst (Prod.fst b))),Prod.fst (Prod.snd (Prod.fst (Prod.fst (Prod.fst b)))),Prod.fst (Prod.snd (Prod.snd (Prod.fst (Prod.fst (Prod.fst b))))),()),Prod.fst (Prod.snd (Prod.fst (Prod.fst b))),()))))))
def q12 (D:DX)(n:Nat) (a0:(tSch)×qe×Unit) (a1:qd):Option ((((tSch)×qe×Unit)×Int×Unit)×Unit):=q05 D n (qxc D n) a0 a1
def qlq (x0:qd) (x1:Int) (x2:(tSch)×qe×Unit) (x3:(tSch)×qe×Unit) (x4:(tSch)×qe×Unit):St:=stq 91 [(1,AV.val (Ty.sl yV) x0),(2,AV.addr 2 []),(4,AV.addr 4 []),(6,AV.addr 6 []),(7,avI x1)] [(2,Root.mk (Ty.pair yS (Ty.pair (Ty.sl (Ty.sl yV)) Ty.unit)) Mk.no x2 true),(4,Root.mk (Ty.pair yS (Ty.pair (Ty.sl (Ty.sl yV)) Ty.unit)) (Mk.pr (Mk.pr (Mk.own 0 (Mk.pr Mk.no (Mk.pr Mk.no (Mk.pr Mk.no Mk.no)))) (Mk.pr (Mk.own 0 Mk.no) (Mk.pr (Mk.own 0 (Mk.pr Mk.no (Mk.pr (Mk.own 0 Mk.no) (Mk.pr Mk.no Mk.no)))) Mk.no))) (Mk.pr (Mk.own 0 (Mk.own 0 (Mk.pr Mk.no (Mk.pr Mk.no (Mk.pr Mk.no Mk.no))))) Mk.no)) x3 true),(6,Root.mk (Ty.pair yS (Ty.pair (Ty.sl (Ty.sl yV)) Ty.unit)) (Mk.pr (Mk.pr (Mk.own 0 (Mk.pr Mk.no (Mk.pr Mk.no (Mk.pr Mk.no Mk.no)))) (Mk.pr (Mk.own 0 Mk.no) (Mk.pr (Mk.own 0 (Mk.pr Mk.no (Mk.pr (Mk.own 0 Mk.no) (Mk.pr Mk.no Mk.no)))) Mk.no))) (Mk.pr (Mk.own 0 (Mk.own 0 (Mk.pr Mk.no (Mk.pr Mk.no (Mk.pr Mk.no Mk.no))))) Mk.no)) x4 true)] 
def qpo (v0_0:qd) (v0_1:Int) (v0_2:(tSch)×qe×Unit) (v0_3:(tSch)×qe×Unit) (v0_4:(tSch)×qe×Unit):St:=stq 91 [(1,AV.val (Ty.sl yV) v0_0),(2,AV.addr 2 []),(4,AV.addr 4 []),(6,AV.addr 6 []),(7,avI v0_1)] [(2,Root.mk (Ty.pair yS (Ty.pair (Ty.sl (Ty.sl yV)) Ty.unit)) Mk.no v0_2 true),(4,Root.mk (Ty.pair yS (Ty.pair (Ty.sl (Ty.sl yV)) Ty.unit)) (Mk.pr (Mk.pr (Mk.own 0 (Mk.pr Mk.no (Mk.pr Mk.no (Mk.pr Mk.no Mk.no)))) (Mk.pr (Mk.own 0 Mk.no) (Mk.pr (Mk.own 0 (Mk.pr Mk.no (Mk.pr (Mk.own 0 Mk.no) (Mk.pr Mk.no Mk.no)))) Mk.no))) (Mk.pr (Mk.own 0 (Mk.own 0 (Mk.pr Mk.no (Mk.pr Mk.no (Mk.pr Mk.no Mk.no))))) Mk.no)) v0_3 true),(6,Root.mk (Ty.pair yS (Ty.pair (Ty.sl (Ty.sl yV)) Ty.unit)) (Mk.pr (Mk.pr (Mk.own 0 (Mk.pr Mk.no (Mk.pr Mk.no (Mk.pr Mk.no Mk.no)))) (Mk.pr (Mk.own 0 Mk.no) (Mk.pr (Mk.own 0 (Mk.pr Mk.no (Mk.pr (Mk.own 0 Mk.no) (Mk.pr Mk.no Mk.no)))) Mk.no))) (Mk.pr (Mk.own 0 (Mk.own 0 (Mk.pr Mk.no (Mk.pr Mk.no (Mk.pr Mk.no Mk.no))))) Mk.no)) v0_4 true)] 
theorem qbia (D:DX)(n:Nat) (m:Nat) (K:Ex→St→Option (Out ctx 28)) (x0:qd) (x1:Int) (x2:(tSch)×
 qe×Unit) (x3:(tSch)×
 qe×Unit) (x4:(tSch)×
 qe×Unit) :
 LQ qc D n 28 [.r,.r,.r,.r,.l,.l] (m+1) (qlq x0 x1 x2 x3 x4) K=qzi D n (fun x0 x1 x2 x3 x4=>LQ qc D n 28 [.r,.r,.r,.r,.l,.l] m (qlq x0 x1 x2 x3 x4) K) (fun v0_0 v0_1 v0_2 v0_3 v0_4=>K (Ex.exit 1) (qpo v0_0 v0_1 v0_2 v0_3 v0_4)) x0 x1 x2 x3 x4:=by kernel_rfl
theorem q5h (D:DX)(n:Nat) (K:Ex→St→Option (Out ctx 28)):∀ (m:Nat) (x0:qd) (x1:Int) (x2:(tSch)×
 qe×Unit) (x3:(tSch)×
 qe×Unit) (x4:(tSch)×
 qe×Unit),LQ qc D n 28 [.r,.r,.r,.r,.l,.l] m (qlq x0 x1 x2 x3 x4) K=qlr D n (fun v0_0 v0_1 v0_2 v0_3 v0_4=>K (Ex.exit 1) (qpo v0_0 v0_1 v0_2 v0_3 v0_4)) m x0 x1 x2 x3 x4
 | 0,x0,x1,x2,x3,x4=>qz ..
 | m+1,x0,x1,x2,x3,x4=>by
  have ih:(fun x0 x1 x2 x3 x4=>LQ qc D n 28 [.r,.r,.r,.r,.l,.l] m (qlq x0 x1 x2 x3 x4) K)=qlr D n (fun v0_0 v0_1 v0_2 v0_3 v0_4=>K (Ex.exit 1) (qpo v0_0 v0_1 v0_2 v0_3 v0_4)) m:=by funext x0 x1 x2 x3 x4;exact q5h D n K m x0 x1 x2 x3 x4
  rw[qbia]
  rw[ih];rfl
theorem qbf0 (D:DX)(n:Nat) (v0_0:qd) (v0_1:Int) (v0_2:(tSch)×
 qe×Unit) (v0_3:(tSch)×
 qe×Unit) (v0_4:(tSch)×
 qe×Unit) :
 (CQ qc D n 28 [] [.r,.r,.r,.r,.l,.l] (qi qc 28)) (Ex.exit 1) (qpo v0_0 v0_1 v0_2 v0_3 v0_4)=qjo D n v0_0 v0_1 v0_2 v0_3 v0_4:=by kernel_rfl
theorem qbe2 (D:DX)(n:Nat) (x0:qd) (x1:Int) (x2:(tSch)×
 qe×Unit) (x3:(tSch)×
 qe×Unit) (x4:(tSch)×
 qe×Unit) :
 LQ qc D n 28 [.r,.r,.r,.r,.l,.l] n (qlq x0 x1 x2 x3 x4) (CQ qc D n 28 [] [.r,.r,.r,.r,.l,.l] (qi qc 28))=qxc D n x0 x1 x2 x3 x4:=by
 rw[q5h]
 simp only[qbf0]
 rfl
theorem qbln (D:DX)(n:Nat) (a0:(tSch)×
 qe×Unit) (a1:qd):rfC qc D n 28 (a0,(a1,()))=q12 D n a0 a1:=by
 have h:rfC qc D n 28 (a0,(a1,()))=q05 D n (fun x0 x1 x2 x3 x4=>LQ qc D n 28 [.r,.r,.r,.r,.l,.l] n (qlq x0 x1 x2 x3 x4) (CQ qc D n 28 [] [.r,.r,.r,.r,.l,.l] (qi qc 28))) a0 a1:=by kernel_rfl
 rw[h]
 simp only[qbe2]
 rfl

def q85 (D:DX)(n:Nat) (a0:(tSch)×qe×Unit) (a1:qd):Option ((((tSch)×qe×Unit)×Int×Unit)×Unit):=qg (qor D a0) fun b↦qg (qo0 D a0) fun b_1↦br (!Prod.fst (Prod.fst b_1)) (some ((((Prod.fst (Prod.fst (Prod.fst (Prod.fst b))),Prod.fst (Prod.snd (Prod.fst (Prod.fst (Prod.fst b)))),Prod.fst (Prod.snd (Prod.snd (Prod.fst (Prod.fst (Prod.fst b))))),()),Prod.fst (Prod.snd (Prod.fst (Prod.fst b))),()),1,()),())) (qg (qso D a0 a1) fun b_2↦br (decide (Prod.fst (Prod.fst b_2)<0)) (some ((((Prod.fst (Prod.fst (Prod.fst (Prod.fst b))),Prod.fst (Prod.snd (Prod.fst (Prod.fst (Prod.fst b)))),Prod.fst (Prod.snd (Prod.snd (Prod.fst (Prod.fst (Prod.fst b))))),()),Prod.fst (Prod.snd (Prod.fst (Prod.fst b))),()),4,()),())) (br (decide (0≤0)&&decide (0≤Prod.fst (Prod.fst b_2))&&decide (Prod.fst (Prod.fst b_2)≤(↑(List.length (Prod.fst (Prod.snd a0))):Int))) (qg (qjq D (List.drop (Int.toNat 0) (List.take (Int.toNat (Prod.fst (Prod.fst b_2))) (Prod.fst (Prod.snd a0))))) fun b_3↦br (decide (0≤IntKind.wrap IntKind.i64 (Prod.fst (Prod.fst b_2)+1))&&decide (IntKind.wrap IntKind.i64 (Prod.fst (Prod.fst b_2)+1)≤(↑(List.length (Prod.fst (Prod.snd a0))):Int))&&decide ((↑(List.length (Prod.fst (Prod.snd a0))):Int)≤(↑(List.length (Prod.fst (Prod.snd a0))):Int))) (qg (qjq D (List.drop (Int.toNat (IntKind.wrap IntKind.i64 (Prod.fst (Prod.fst b_2)+1))) (List.take (Int.toNat (↑(List.length (Prod.fst (Prod.snd a0))):Int)) (Prod.fst (Prod.snd a0))))) fun b_4↦br (decide (List.length (Prod.fst (Prod.fst b_3))+List.length (Prod.fst (Prod.fst b_4))≤qbh)) (some ((((Prod.fst (Prod.fst (Prod.fst (Prod.fst b))),Prod.fst (Prod.snd (Prod.fst (Prod.fst (Prod.fst b)))),Prod.fst (Prod.snd (Prod.snd (Prod.fst (Prod.fst (Prod.fst b))))),()),Prod.fst (Prod.fst b_3)++Prod.fst (Prod.fst b_4),()),0,()),())) none) none) none))
def q09 (D:DX)(n:Nat) (a0:(tSch)×qe×Unit) (a1:qd):Option ((((tSch)×qe×Unit)×Int×Unit)×Unit):=q85 D n a0 a1
theorem qbl8 (D:DX)(n:Nat) (a0:(tSch)×
 qe×Unit) (a1:qd):rfC qc D n 30 (a0,(a1,()))=q09 D n a0 a1:=by kernel_rfl

def q6f (D:DX)(n:Nat) (a0:(tSch)×qe×Unit) (a1:qd):Option ((((tSch)×qe×Unit)×Int×Unit)×Unit):=qg (qor D a0) fun b↦qg (qo0 D a0) fun b_1↦br (!Prod.fst (Prod.fst b_1)) (some ((((Prod.fst (Prod.fst (Prod.fst (Prod.fst b))),Prod.fst (Prod.snd (Prod.fst (Prod.fst (Prod.fst b)))),Prod.fst (Prod.snd (Prod.snd (Prod.fst (Prod.fst (Prod.fst b))))),()),Prod.fst (Prod.snd (Prod.fst (Prod.fst b))),()),1,()),())) (qg (qs7 D (Prod.fst a0) a1) fun b_2↦br (!Prod.fst (Prod.fst b_2)) (some ((((Prod.fst (Prod.fst (Prod.fst (Prod.fst b))),Prod.fst (Prod.snd (Prod.fst (Prod.fst (Prod.fst b)))),Prod.fst (Prod.snd (Prod.snd (Prod.fst (Prod.fst (Prod.fst b))))),()),Prod.fst (Prod.snd (Prod.fst (Prod.fst b))),()),1,()),())) (qg (qek D (Prod.fst a0) a1) fun b_3↦qg (qso D a0 (Prod.fst (Prod.fst b_3))) fun b_4↦br (decide (Prod.fst (Prod.fst b_4)<0)) (some ((((Prod.fst (Prod.fst (Prod.fst (Prod.fst b))),Prod.fst (Prod.snd (Prod.fst (Prod.fst (Prod.fst b)))),Prod.fst (Prod.snd (Prod.snd (Prod.fst (Prod.fst (Prod.fst b))))),()),Prod.fst (Prod.snd (Prod.fst (Prod.fst b))),()),4,()),())) (qg (qpu D a0 a1 (Prod.fst (Prod.fst b_4))) fun b_5↦br (Prod.fst (Prod.fst b_5)) (some ((((Prod.fst (Prod.fst (Prod.fst (Prod.fst b))),Prod.fst (Prod.snd (Prod.fst (Prod.fst (Prod.fst b)))),Prod.fst (Prod.snd (Prod.snd (Prod.fst (Prod.fst (Prod.fst b))))),()),Prod.fst (Prod.snd (Prod.fst (Prod.fst b))),()),3,()),())) (br (decide (0+List.length a1≤qbh)) (br (decide (0≤Prod.fst (Prod.fst b_4))&&decide (Prod.fst (Prod.fst b_4)<(↑(List.length (Prod.fst (Prod.snd (Prod.fst (Prod.fst b))))):Int))) (some ((((Prod.fst (Prod.fst (Prod.fst (Prod.fst b))),Prod.fst (Prod.snd (Prod.fst (Prod.fst (Prod.fst b)))),Prod.fst (Prod.snd (Prod.snd (Prod.fst (Prod.fst (Prod.fst b))))),()),List.set (Prod.fst (Prod.snd (Prod.fst (Prod.fst b)))) (Int.toNat (Prod.fst (Prod.fst b_4))) ([]++a1),()),0,()),())) none) none))))
def qyj (D:DX)(n:Nat) (a0:(tSch)×qe×Unit) (a1:qd):Option ((((tSch)×qe×Unit)×Int×Unit)×Unit):=q6f D n a0 a1
theorem qbin (D:DX)(n:Nat) (a0:(tSch)×
 qe×Unit) (a1:qd):rfC qc D n 32 (a0,(a1,()))=qyj D n a0 a1:=by kernel_rfl



def q88 (D:DX)(n:Nat) (a0:tSch):Option ((((tSch)×qe×Unit)×Bool×Unit)×Unit):=qg (qtm D a0) fun b↦qg (qo0 D ((Prod.fst (Prod.fst (Prod.fst b)),Prod.fst (Prod.snd (Prod.fst (Prod.fst b))),Prod.fst (Prod.snd (Prod.snd (Prod.fst (Prod.fst b)))),()),[],())) fun b_1↦br (!Prod.fst (Prod.fst b_1)) (some (((([],[],[],()),[],()),false,()),())) (some ((((Prod.fst (Prod.fst (Prod.fst b)),Prod.fst (Prod.snd (Prod.fst (Prod.fst b))),Prod.fst (Prod.snd (Prod.snd (Prod.fst (Prod.fst b)))),()),[],()),true,()),()))
def q13 (D:DX)(n:Nat) (a0:tSch):Option ((((tSch)×qe×Unit)×Bool×Unit)×Unit):=q88 D n a0
theorem qbl4 (D:DX)(n:Nat) (a0:tSch):rfC qc D n 38 (a0,())=q13 D n a0:=by kernel_rfl

def q06 (D:DX)(n:Nat) (go:Int→Int→(tSch)×qe×Unit→Option ((Bool×Unit)×Unit)) (K0:Bool→Int→(tSch)×qe×Unit→Option ((Bool×Unit)×Unit)) (K1:Int→(tSch)×qe×Unit→Option ((Bool×Unit)×Unit)) (x1_0:Int) (x1_1:Int) (x1_2:(tSch)×qe×Unit):Option ((Bool×Unit)×Unit):=br (decide (x1_1<x1_0)) (br (decide (0≤x1_1)&&decide (x1_1<(↑(List.length (Prod.fst (Prod.snd x1_2))):Int))) (br (decide (0≤x1_0)&&decide (x1_0<(↑(List.length (Prod.fst (Prod.snd x1_2))):Int))) (qg (qr0 D (Prod.fst x1_2) (List.getD (Prod.fst (Prod.snd x1_2)) (Int.toNat x1_1) []) (List.getD (Prod.fst (Prod.snd x1_2)) (Int.toNat x1_0) [])) fun b↦br (Prod.fst (Prod.fst b)) (K0 false x1_0 x1_2) (go x1_0 (IntKind.wrap IntKind.i64 (x1_1+1)) x1_2)) none) none) (K1 x1_0 x1_2)
def qmg (D:DX)(n:Nat) (K0:Bool→Int→(tSch)×qe×Unit→Option ((Bool×Unit)×Unit)) (K1:Int→(tSch)×qe×Unit→Option ((Bool×Unit)×Unit)):Nat→(Int)→(Int)→((tSch)×qe×Unit)→Option ((Bool×Unit)×Unit) | 0=>(fun x1_0 x1_1 x1_2=>none) | m+1=>(fun x1_0 x1_1 x1_2=>q06 D n (qmg D n K0 K1 m) K0 K1 x1_0 x1_1 x1_2)
def qwl (D:DX)(n:Nat) (go:Int→(tSch)×qe×Unit→Option ((Bool×Unit)×Unit)) (K0:Bool→(tSch)×qe×Unit→Option ((Bool×Unit)×Unit)) (K1:(tSch)×qe×Unit→Option ((Bool×Unit)×Unit)) (v0_0:Bool) (v0_1:Int) (v0_2:(tSch)×qe×Unit):Option ((Bool×Unit)×Unit):=K0 v0_0 v0_2
def qry (D:DX)(n:Nat) (go:Int→(tSch)×qe×Unit→Option ((Bool×Unit)×Unit)) (K0:Bool→(tSch)×qe×Unit→Option ((Bool×Unit)×Unit)) (K1:(tSch)×qe×Unit→Option ((Bool×Unit)×Unit)) (v1_0:Int) (v1_1:(tSch)×qe×Unit):Option ((Bool×Unit)×Unit):=go (IntKind.wrap IntKind.i64 (v1_0+1)) v1_1
def qyy (D:DX)(n:Nat) (go:Int→(tSch)×qe×Unit→Option ((Bool×Unit)×Unit)) (K0:Bool→(tSch)×qe×Unit→Option ((Bool×Unit)×Unit)) (K1:(tSch)×qe×Unit→Option ((Bool×Unit)×Unit)):(Int)→(Int)→((tSch)×qe×Unit)→Option ((Bool×Unit)×Unit):=(fun x1_0 x1_1 x1_2=>qmg D n (fun v0_0 v0_1 v0_2=>qwl D n go K0 K1 v0_0 v0_1 v0_2) (fun v1_0 v1_1=>qry D n go K0 K1 v1_0 v1_1) n x1_0 x1_1 x1_2)
def q1y (D:DX)(n:Nat) (go:Int→(tSch)×qe×Unit→Option ((Bool×Unit)×Unit)) (K0:Bool→(tSch)×qe×Unit→Option ((Bool×Unit)×Unit)) (K1:(tSch)×qe×Unit→Option ((Bool×Unit)×Unit)) (lp1:Int→Int→(tSch)×qe×Unit→Option ((Bool×Unit)×Unit)) (x0:Int) (x1:(tSch)×qe×Unit):Option ((Bool×Unit)×Unit):=br (decide (x0<(↑(List.length (Prod.fst (Prod.snd x1))):Int))) (br (decide (0≤x0)&&decide (x0<(↑(List.length (Prod.fst (Prod.snd x1))):Int))) (qg (qs7 D (Prod.fst x1) (List.getD (Prod.fst (Prod.snd x1)) (Int.toNat x0) [])) fun b↦br (!Prod.fst (Prod.fst b)) (K0 false x1) (br (decide (x0>0)) (br (decide (0≤IntKind.wrap IntKind.i64 (x0 - 1))&&decide (IntKind.wrap IntKind.i64 (x0 - 1)<(↑(List.length (Prod.fst (Prod.snd x1))):Int))) (qg (qek D (Prod.fst x1) (List.getD (Prod.fst (Prod.snd x1)) (Int.toNat (IntKind.wrap IntKind.i64 (x0 - 1))) [])) fun b↦br (decide (0≤x0)&&decide (x0<(↑(List.length (Prod.fst (Prod.snd x1))):Int))) (qg (qek D (Prod.fst x1) (List.getD (Prod.fst (Prod.snd x1)) (Int.toNat x0) [])) fun b_1↦qg (qpd D (Prod.fst (Prod.fst b)) (Prod.fst (Prod.fst b_1))) fun b↦br (!Prod.fst (Prod.fst b)) (K0 false x1) (lp1 x0 0 x1)) none) none) (lp1 x0 0 x1))) none) (K1 x1)
def qgf (D:DX)(n:Nat) (K0:Bool→(tSch)×qe×Unit→Option ((Bool×Unit)×Unit)) (K1:(tSch)×qe×Unit→Option ((Bool×Unit)×Unit)):Nat→(Int)→((tSch)×qe×Unit)→Option ((Bool×Unit)×Unit) | 0=>(fun x0 x1=>none) | m+1=>(fun x0 x1=>q1y D n (qgf D n K0 K1 m) K0 K1 (qyy D n (qgf D n K0 K1 m) K0 K1) x0 x1)
def qh6 (D:DX)(n:Nat) (v0_0:Bool) (v0_1:(tSch)×qe×Unit):Option ((Bool×Unit)×Unit):=some ((v0_0,()),())
def qgp (D:DX)(n:Nat) (v1_0:(tSch)×qe×Unit):Option ((Bool×Unit)×Unit):=qg (qrp D (Prod.fst v1_0)) fun b↦some ((bif Prod.fst (Prod.fst b) then decide ((↑(List.length (Prod.fst (Prod.snd v1_0))):Int)≤12) else false,()),())
def qzx (D:DX)(n:Nat):(Int)→((tSch)×qe×Unit)→Option ((Bool×Unit)×Unit):=(fun x0 x1=>qgf D n (fun v0_0 v0_1=>qh6 D n v0_0 v0_1) (fun v1_0=>qgp D n v1_0) n x0 x1)
def q4e (D:DX)(n:Nat) (lp0:Int→(tSch)×qe×Unit→Option ((Bool×Unit)×Unit)) (a0:(tSch)×qe×Unit):Option ((Bool×Unit)×Unit):=lp0 0 a0
def q4m (D:DX)(n:Nat) (a0:(tSch)×qe×Unit):Option ((Bool×Unit)×Unit):=q4e D n (qzx D n) a0
def qg2 (x0:Int) (x1:(tSch)×qe×Unit):St:=stq 73 [(1,AV.addr 1 []),(3,avI x0)] [(1,Root.mk (Ty.pair yS (Ty.pair (Ty.sl (Ty.sl yV)) Ty.unit)) Mk.no x1 true)] 
def qia (v0_0:Bool) (v0_1:(tSch)×qe×Unit):St:=stq 73 [(1,AV.addr 1 []),(2,AV.val Ty.bool v0_0)] [(1,Root.mk (Ty.pair yS (Ty.pair (Ty.sl (Ty.sl yV)) Ty.unit)) Mk.no v0_1 true)] 
def qh8 (v1_0:(tSch)×qe×Unit):St:=stq 73 [(1,AV.addr 1 [])] [(1,Root.mk (Ty.pair yS (Ty.pair (Ty.sl (Ty.sl yV)) Ty.unit)) Mk.no v1_0 true)] 
def qmd (x1_0:Int) (x1_1:Int) (x1_2:(tSch)×qe×Unit):St:=stq 73 [(1,AV.addr 1 []),(3,avI x1_0),(4,avI x1_1)] [(1,Root.mk (Ty.pair yS (Ty.pair (Ty.sl (Ty.sl yV)) Ty.unit)) Mk.no x1_2 true)] 
def qrz (v0_0:Bool) (v0_1:Int) (v0_2:(tSch)×qe×Unit):St:=stq 73 [(1,AV.addr 1 []),(2,AV.val Ty.bool v0_0),(3,avI v0_1)] [(1,Root.mk (Ty.pair yS (Ty.pair (Ty.sl (Ty.sl yV)) Ty.unit)) Mk.no v0_2 true)] 
def qrx (v1_0:Int) (v1_1:(tSch)×qe×Unit):St:=stq 73 [(1,AV.addr 1 []),(3,avI v1_0)] [(1,Root.mk (Ty.pair yS (Ty.pair (Ty.sl (Ty.sl yV)) Ty.unit)) Mk.no v1_1 true)] 
theorem qbkg (D:DX)(n:Nat) (m:Nat) (K:Ex→St→Option (Out ctx 41)) (x1_0:Int) (x1_1:Int) (x1_2:(tSch)×
 qe×Unit) :
 LQ qc D n 41 [.r,.l,.r,.l,.l,.r,.l,.l,.r,.r,.l] (m+1) (qmd x1_0 x1_1 x1_2) K=q06 D n (fun x1_0 x1_1 x1_2=>LQ qc D n 41 [.r,.l,.r,.l,.l,.r,.l,.l,.r,.r,.l] m (qmd x1_0 x1_1 x1_2) K) (fun v0_0 v0_1 v0_2=>K (Ex.ret) (qrz v0_0 v0_1 v0_2)) (fun v1_0 v1_1=>K (Ex.exit 2) (qrx v1_0 v1_1)) x1_0 x1_1 x1_2:=by kernel_rfl
theorem q7g (D:DX)(n:Nat) (K:Ex→St→Option (Out ctx 41)):∀ (m:Nat) (x1_0:Int) (x1_1:Int) (x1_2:(tSch)×
 qe×Unit),LQ qc D n 41 [.r,.l,.r,.l,.l,.r,.l,.l,.r,.r,.l] m (qmd x1_0 x1_1 x1_2) K=qmg D n (fun v0_0 v0_1 v0_2=>K (Ex.ret) (qrz v0_0 v0_1 v0_2)) (fun v1_0 v1_1=>K (Ex.exit 2) (qrx v1_0 v1_1)) m x1_0 x1_1 x1_2
 | 0,x1_0,x1_1,x1_2=>qz ..
 | m+1,x1_0,x1_1,x1_2=>by
  have ih:(fun x1_0 x1_1 x1_2=>LQ qc D n 41 [.r,.l,.r,.l,.l,.r,.l,.l,.r,.r,.l] m (qmd x1_0 x1_1 x1_2) K)=qmg D n (fun v0_0 v0_1 v0_2=>K (Ex.ret) (qrz v0_0 v0_1 v0_2)) (fun v1_0 v1_1=>K (Ex.exit 2) (qrx v1_0 v1_1)) m:=by funext x1_0 x1_1 x1_2;exact q7g D n K m x1_0 x1_1 x1_2
  rw[qbkg]
  rw[ih];rfl
theorem qbh6 (D:DX)(n:Nat) (m:Nat) (K:Ex→St→Option (Out ctx 41)) (v0_0:Bool) (v0_1:Int) (v0_2:(tSch)×
 qe×Unit) :
 (CQ qc D n 41 [.r,.l,.r,.l,.l] [.r,.l,.l,.r,.r,.l] (LK qc D n 41 [.r,.l,.r,.l] m K)) (Ex.ret) (qrz v0_0 v0_1 v0_2)=qwl D n (fun x0 x1=>LQ qc D n 41 [.r,.l,.r,.l] m (qg2 x0 x1) K) (fun v0_0 v0_1=>K (Ex.ret) (qia v0_0 v0_1)) (fun v1_0=>K (Ex.exit 0) (qh8 v1_0)) v0_0 v0_1 v0_2:=by kernel_rfl
theorem qbg5 (D:DX)(n:Nat) (m:Nat) (K:Ex→St→Option (Out ctx 41)) (v1_0:Int) (v1_1:(tSch)×
 qe×Unit) :
 (CQ qc D n 41 [.r,.l,.r,.l,.l] [.r,.l,.l,.r,.r,.l] (LK qc D n 41 [.r,.l,.r,.l] m K)) (Ex.exit 2) (qrx v1_0 v1_1)=qry D n (fun x0 x1=>LQ qc D n 41 [.r,.l,.r,.l] m (qg2 x0 x1) K) (fun v0_0 v0_1=>K (Ex.ret) (qia v0_0 v0_1)) (fun v1_0=>K (Ex.exit 0) (qh8 v1_0)) v1_0 v1_1:=by kernel_rfl
theorem qbf8 (D:DX)(n:Nat) (m:Nat) (K:Ex→St→Option (Out ctx 41)) (x1_0:Int) (x1_1:Int) (x1_2:(tSch)×
 qe×Unit) :
 LQ qc D n 41 [.r,.l,.r,.l,.l,.r,.l,.l,.r,.r,.l] n (qmd x1_0 x1_1 x1_2) (CQ qc D n 41 [.r,.l,.r,.l,.l] [.r,.l,.l,.r,.r,.l] (LK qc D n 41 [.r,.l,.r,.l] m K))=qyy D n (fun x0 x1=>LQ qc D n 41 [.r,.l,.r,.l] m (qg2 x0 x1) K) (fun v0_0 v0_1=>K (Ex.ret) (qia v0_0 v0_1)) (fun v1_0=>K (Ex.exit 0) (qh8 v1_0)) x1_0 x1_1 x1_2:=by
 rw[q7g]
 simp only[qbh6,qbg5]
 rfl
theorem qbke (D:DX)(n:Nat) (m:Nat) (K:Ex→St→Option (Out ctx 41)) (x0:Int) (x1:(tSch)×
 qe×Unit) :
 LQ qc D n 41 [.r,.l,.r,.l] (m+1) (qg2 x0 x1) K=q1y D n (fun x0 x1=>LQ qc D n 41 [.r,.l,.r,.l] m (qg2 x0 x1) K) (fun v0_0 v0_1=>K (Ex.ret) (qia v0_0 v0_1)) (fun v1_0=>K (Ex.exit 0) (qh8 v1_0)) (fun x1_0 x1_1 x1_2=>LQ qc D n 41 [.r,.l,.r,.l,.l,.r,.l,.l,.r,.r,.l] n (qmd x1_0 x1_1 x1_2) (CQ qc D n 41 [.r,.l,.r,.l,.l] [.r,.l,.l,.r,.r,.l] (LK qc D n 41 [.r,.l,.r,.l] m K))) x0 x1:=by kernel_rfl
theorem q6p (D:DX)(n:Nat) (K:Ex→St→Option (Out ctx 41)):∀ (m:Nat) (x0:Int) (x1:(tSch)×
 qe×Unit),LQ qc D n 41 [.r,.l,.r,.l] m (qg2 x0 x1) K=qgf D n (fun v0_0 v0_1=>K (Ex.ret) (qia v0_0 v0_1)) (fun v1_0=>K (Ex.exit 0) (qh8 v1_0)) m x0 x1
 | 0,x0,x1=>qz ..
 | m+1,x0,x1=>by
  have ih:(fun x0 x1=>LQ qc D n 41 [.r,.l,.r,.l] m (qg2 x0 x1) K)=qgf D n (fun v0_0 v0_1=>K (Ex.ret) (qia v0_0 v0_1)) (fun v1_0=>K (Ex.exit 0) (qh8 v1_0)) m:=by funext x0 x1;exact q6p D n K m x0 x1
  rw[qbke]
  simp only[qbf8]
  rw[ih];rfl
theorem qbh3 (D:DX)(n:Nat) (v0_0:Bool) (v0_1:(tSch)×
 qe×Unit) :
 (CQ qc D n 41 [] [.r,.l,.r,.l] (qi qc 41)) (Ex.ret) (qia v0_0 v0_1)=qh6 D n v0_0 v0_1:=by kernel_rfl
theorem qbf6 (D:DX)(n:Nat) (v1_0:(tSch)×
 qe×Unit) :
 (CQ qc D n 41 [] [.r,.l,.r,.l] (qi qc 41)) (Ex.exit 0) (qh8 v1_0)=qgp D n v1_0:=by kernel_rfl
theorem qbgx (D:DX)(n:Nat) (x0:Int) (x1:(tSch)×
 qe×Unit) :
 LQ qc D n 41 [.r,.l,.r,.l] n (qg2 x0 x1) (CQ qc D n 41 [] [.r,.l,.r,.l] (qi qc 41))=qzx D n x0 x1:=by
 rw[q6p]
 simp only[qbh3,qbf6]
 rfl
theorem qbmk (D:DX)(n:Nat) (a0:(tSch)×
 qe×Unit):rfC qc D n 41 (a0,())=q4m D n a0:=by
 have h:rfC qc D n 41 (a0,())=q4e D n (fun x0 x1=>LQ qc D n 41 [.r,.l,.r,.l] n (qg2 x0 x1) (CQ qc D n 41 [] [.r,.l,.r,.l] (qi qc 41))) a0:=by kernel_rfl
 rw[h]
 simp only[qbgx]
 rfl



def qbjk (D:DX)(n:Nat) (a0:ByteArray×ByteArray×Unit) (a1:ByteArray×ByteArray×Unit):Option ((Bool×Unit)×Unit):=some ((bif Op.bytesLess (ByteArray.toList (Prod.fst a0)) (ByteArray.toList (Prod.fst a1)) then true else bif List.beq (ByteArray.toList (Prod.fst a0)) (ByteArray.toList (Prod.fst a1)) then Op.bytesLess (ByteArray.toList (Prod.fst (Prod.snd a0))) (ByteArray.toList (Prod.fst (Prod.snd a1))) else false,()),())
def q7h (D:DX)(n:Nat) (a0:ByteArray×ByteArray×Unit) (a1:ByteArray×ByteArray×Unit):Option ((Bool×Unit)×Unit):=qbjk D n a0 a1
theorem qbi3 (D:DX)(n:Nat) (a0:ByteArray×ByteArray×Unit) (a1:ByteArray×ByteArray×Unit):rfC qc D n 50 (a0,(a1,()))=q7h D n a0 a1:=by kernel_rfl















def q08 (D:DX)(n:Nat) (go:List Int→Int→Int→Option ((tCur×Unit)×Unit)) (K0:List Int→Int→Option ((tCur×Unit)×Unit)) (x0:List Int) (x1:Int) (x2:Int):Option ((tCur×Unit)×Unit):=br (bif decide (x2<(↑(List.length x0):Int)) then decide (x2<4000) else false) (br (decide (0≤x2)&&decide (x2<(↑(List.length x0):Int))) (go x0 (IntKind.wrap IntKind.i64 (↑(BitVec.toNat (BitVec.and (BitVec.ofInt (IntKind.bits IntKind.i64) (IntKind.wrap IntKind.i64 (IntKind.wrap IntKind.i64 (IntKind.wrap IntKind.i64 (x1 * 131)+IntKind.wrap IntKind.i64 (List.getD x0 (Int.toNat x2) 0))+7))) (BitVec.ofInt (IntKind.bits IntKind.i64) 1073741823))):Int)) (IntKind.wrap IntKind.i64 (x2+1))) none) (K0 x0 x1)
def qmo (D:DX)(n:Nat) (K0:List Int→Int→Option ((tCur×Unit)×Unit)):Nat→(List Int)→(Int)→(Int)→Option ((tCur×Unit)×Unit) | 0=>(fun x0 x1 x2=>none) | m+1=>(fun x0 x1 x2=>q08 D n (qmo D n K0 m) K0 x0 x1 x2)
def qxq (D:DX)(n:Nat) (v0_0:List Int) (v0_1:Int):Option ((tCur×Unit)×Unit):=some (((v0_0,0,v0_1,()),()),())
def qzj (D:DX)(n:Nat):(List Int)→(Int)→(Int)→Option ((tCur×Unit)×Unit):=(fun x0 x1 x2=>qmo D n (fun v0_0 v0_1=>qxq D n v0_0 v0_1) n x0 x1 x2)
def q4d (D:DX)(n:Nat) (lp0:List Int→Int→Int→Option ((tCur×Unit)×Unit)) (a0:List Int):Option ((tCur×Unit)×Unit):=lp0 a0 (IntKind.wrap IntKind.i64 (27323+(↑(List.length a0):Int))) 0
def q3m (D:DX)(n:Nat) (a0:List Int):Option ((tCur×Unit)×Unit):=q4d D n (qzj D n) a0
def qmc (x0:List Int) (x1:Int) (x2:Int):St:=stq 32 [(0,AV.val (Ty.sl (Ty.int IntKind.u8)) x0),(3,avI x1),(4,avI x2)] [] 
def qrt (v0_0:List Int) (v0_1:Int):St:=stq 32 [(0,AV.val (Ty.sl (Ty.int IntKind.u8)) v0_0),(3,avI v0_1)] [] 
theorem qbjw (D:DX)(n:Nat) (m:Nat) (K:Ex→St→Option (Out ctx 65)) (x0:List Int) (x1:Int) (x2:Int) :
 LQ qc D n 65 [.r,.r,.l,.r,.l] (m+1) (qmc x0 x1 x2) K=q08 D n (fun x0 x1 x2=>LQ qc D n 65 [.r,.r,.l,.r,.l] m (qmc x0 x1 x2) K) (fun v0_0 v0_1=>K (Ex.exit 0) (qrt v0_0 v0_1)) x0 x1 x2:=by kernel_rfl
theorem q6y (D:DX)(n:Nat) (K:Ex→St→Option (Out ctx 65)):∀ (m:Nat) (x0:List Int) (x1:Int) (x2:Int),LQ qc D n 65 [.r,.r,.l,.r,.l] m (qmc x0 x1 x2) K=qmo D n (fun v0_0 v0_1=>K (Ex.exit 0) (qrt v0_0 v0_1)) m x0 x1 x2
 | 0,x0,x1,x2=>qz ..
 | m+1,x0,x1,x2=>by
  have ih:(fun x0 x1 x2=>LQ qc D n 65 [.r,.r,.l,.r,.l] m (qmc x0 x1 x2) K)=qmo D n (fun v0_0 v0_1=>K (Ex.exit 0) (qrt v0_0 v0_1)) m:=by funext x0 x1 x2;exact q6y D n K m x0 x1 x2
  rw[qbjw]
  rw[ih];rfl
theorem qbgu (D:DX)(n:Nat) (v0_0:List Int) (v0_1:Int) :
 (CQ qc D n 65 [] [.r,.r,.l,.r,.l] (qi qc 65)) (Ex.exit 0) (qrt v0_0 v0_1)=qxq D n v0_0 v0_1:=by kernel_rfl
theorem qbf3 (D:DX)(n:Nat) (x0:List Int) (x1:Int) (x2:Int) :
 LQ qc D n 65 [.r,.r,.l,.r,.l] n (qmc x0 x1 x2) (CQ qc D n 65 [] [.r,.r,.l,.r,.l] (qi qc 65))=qzj D n x0 x1 x2:=by
 rw[q6y]
 simp only[qbgu]
 rfl
theorem qboi (D:DX)(n:Nat) (a0:List Int):rfC qc D n 65 (a0,())=q3m D n a0:=by
 have h:rfC qc D n 65 (a0,())=q4d D n (fun x0 x1 x2=>LQ qc D n 65 [.r,.r,.l,.r,.l] n (qmc x0 x1 x2) (CQ qc D n 65 [] [.r,.r,.l,.r,.l] (qi qc 65))) a0:=by kernel_rfl
 rw[h]
 simp only[qbf3]
 rfl

def qp0 (D:DX)(n:Nat) (go:Int→List Int×Int×Int×Unit→(tSch)×qe×Unit→(tSch)×qe×Unit→Option ((((tSch)×qe×Unit)×Unit)×tCur×Unit)) (K0:List Int×Int×Int×Unit→(tSch)×qe×Unit→(tSch)×qe×Unit→Option ((((tSch)×qe×Unit)×Unit)×tCur×Unit)) (x0:Int) (x1:List Int×Int×Int×Unit) (x2:(tSch)×qe×Unit) (x3:(tSch)×qe×Unit):Option ((((tSch)×qe×Unit)×Unit)×tCur×Unit):=qg (qdf D x1 9) fun b↦br (decide (x0<Prod.fst (Prod.fst b))) (qg (qn8 D (Prod.fst (Prod.snd b)) (Prod.fst x3)) fun b↦qg (qdf D (Prod.fst (Prod.snd b)) 6) fun b_1↦br (decide (Prod.fst (Prod.fst b_1)=0)) (qg (qek D (Prod.fst x3) (Prod.fst (Prod.fst b))) fun b↦qg (q1z D x3 (Prod.fst (Prod.fst b))) fun b↦go (IntKind.wrap IntKind.i64 (x0+1)) (Prod.fst (Prod.snd b_1)) x2 (Prod.fst (Prod.fst (Prod.fst b)),Prod.fst (Prod.snd (Prod.fst (Prod.fst b))),())) (br (decide (Prod.fst (Prod.fst b_1)=1)) (qg (qy3 D x3 (Prod.fst (Prod.fst b))) fun b↦go (IntKind.wrap IntKind.i64 (x0+1)) (Prod.fst (Prod.snd b_1)) x2 (Prod.fst (Prod.fst (Prod.fst b)),Prod.fst (Prod.snd (Prod.fst (Prod.fst b))),())) (qg (q1k D x3 (Prod.fst (Prod.fst b))) fun b↦go (IntKind.wrap IntKind.i64 (x0+1)) (Prod.fst (Prod.snd b_1)) x2 (Prod.fst (Prod.fst (Prod.fst b)),Prod.fst (Prod.snd (Prod.fst (Prod.fst b))),())))) (K0 (Prod.fst (Prod.snd b)) x2 x3)
def qgl (D:DX)(n:Nat) (K0:List Int×Int×Int×Unit→(tSch)×qe×Unit→(tSch)×qe×Unit→Option ((((tSch)×qe×Unit)×Unit)×tCur×Unit)):Nat→(Int)→tCur→((tSch)×qe×Unit)→((tSch)×qe×Unit)→Option ((((tSch)×qe×Unit)×Unit)×tCur×Unit) | 0=>(fun x0 x1 x2 x3=>none) | m+1=>(fun x0 x1 x2 x3=>qp0 D n (qgl D n K0 m) K0 x0 x1 x2 x3)
def qno (D:DX)(n:Nat) (v0_0:List Int×Int×Int×Unit) (v0_1:(tSch)×qe×Unit) (v0_2:(tSch)×qe×Unit):Option ((((tSch)×qe×Unit)×Unit)×tCur×Unit):=some ((v0_2,()),v0_0,())
def qol (D:DX)(n:Nat):(Int)→tCur→((tSch)×qe×Unit)→((tSch)×qe×Unit)→Option ((((tSch)×qe×Unit)×Unit)×tCur×Unit):=(fun x0 x1 x2 x3=>qgl D n (fun v0_0 v0_1 v0_2=>qno D n v0_0 v0_1 v0_2) n x0 x1 x2 x3)
def qq1 (D:DX)(n:Nat) (lp0:Int→List Int×Int×Int×Unit→(tSch)×qe×Unit→(tSch)×qe×Unit→Option ((((tSch)×qe×Unit)×Unit)×tCur×Unit)) (a0:List Int×Int×Int×Unit):Option ((((tSch)×qe×Unit)×Unit)×tCur×Unit):=qg (qri D a0) fun b↦qg (q1p D (Prod.fst (Prod.fst b))) fun b_1↦lp0 0 (Prod.fst (Prod.snd b)) (([],[],[],()),[],()) (Prod.fst (Prod.fst (Prod.fst b_1)),Prod.fst (Prod.snd (Prod.fst (Prod.fst b_1))),())
def qrj (D:DX)(n:Nat) (a0:List Int×Int×Int×Unit):Option ((((tSch)×qe×Unit)×Unit)×tCur×Unit):=qq1 D n (qol D n) a0
def qgi (x0:Int) (x1:List Int×Int×Int×Unit) (x2:(tSch)×qe×Unit) (x3:(tSch)×qe×Unit):St:=stq 51 [(0,AV.addr 0 []),(2,AV.addr 2 []),(3,AV.addr 3 []),(5,avI x0)] [(0,Root.mk (Ty.pair (Ty.sl (Ty.int IntKind.u8)) (Ty.pair yI (Ty.pair yI Ty.unit))) Mk.no x1 true),(2,Root.mk (Ty.pair yS (Ty.pair (Ty.sl (Ty.sl yV)) Ty.unit)) (Mk.pr (Mk.pr (Mk.own 0 (Mk.pr Mk.no (Mk.pr Mk.no (Mk.pr Mk.no Mk.no)))) (Mk.pr (Mk.own 0 Mk.no) (Mk.pr (Mk.own 0 (Mk.pr Mk.no (Mk.pr (Mk.own 0 Mk.no) (Mk.pr Mk.no Mk.no)))) Mk.no))) (Mk.pr (Mk.own 0 (Mk.own 0 (Mk.pr Mk.no (Mk.pr Mk.no (Mk.pr Mk.no Mk.no))))) Mk.no)) x2 true),(3,Root.mk (Ty.pair yS (Ty.pair (Ty.sl (Ty.sl yV)) Ty.unit)) Mk.no x3 true)] 
def qjy (v0_0:List Int×Int×Int×Unit) (v0_1:(tSch)×qe×Unit) (v0_2:(tSch)×qe×Unit):St:=stq 51 [(0,AV.addr 0 []),(2,AV.addr 2 []),(3,AV.addr 3 [])] [(0,Root.mk (Ty.pair (Ty.sl (Ty.int IntKind.u8)) (Ty.pair yI (Ty.pair yI Ty.unit))) Mk.no v0_0 true),(2,Root.mk (Ty.pair yS (Ty.pair (Ty.sl (Ty.sl yV)) Ty.unit)) (Mk.pr (Mk.pr (Mk.own 0 (Mk.pr Mk.no (Mk.pr Mk.no (Mk.pr Mk.no Mk.no)))) (Mk.pr (Mk.own 0 Mk.no) (Mk.pr (Mk.own 0 (Mk.pr Mk.no (Mk.pr (Mk.own 0 Mk.no) (Mk.pr Mk.no Mk.no)))) Mk.no))) (Mk.pr (Mk.own 0 (Mk.own 0 (Mk.pr Mk.no (Mk.pr Mk.no (Mk.pr Mk.no Mk.no))))) Mk.no)) v0_1 true),(3,Root.mk (Ty.pair yS (Ty.pair (Ty.sl (Ty.sl yV)) Ty.unit)) Mk.no v0_2 true)] 
theorem q69 (D:DX)(n:Nat) (m:Nat) (K:Ex→St→Option (Out ctx 66)) (x0:Int) (x1:List Int×Int×Int×Unit) (x2:(tSch)×
 qe×Unit) (x3:(tSch)×
 qe×Unit) :
 LQ qc D n 66 [.r,.r,.l,.r,.l] (m+1) (qgi x0 x1 x2 x3) K=qp0 D n (fun x0 x1 x2 x3=>LQ qc D n 66 [.r,.r,.l,.r,.l] m (qgi x0 x1 x2 x3) K) (fun v0_0 v0_1 v0_2=>K (Ex.exit 0) (qjy v0_0 v0_1 v0_2)) x0 x1 x2 x3:=by kernel_rfl
theorem qwf (D:DX)(n:Nat) (K:Ex→St→Option (Out ctx 66)):∀ (m:Nat) (x0:Int) (x1:List Int×Int×Int×Unit) (x2:(tSch)×
 qe×Unit) (x3:(tSch)×
 qe×Unit),LQ qc D n 66 [.r,.r,.l,.r,.l] m (qgi x0 x1 x2 x3) K=qgl D n (fun v0_0 v0_1 v0_2=>K (Ex.exit 0) (qjy v0_0 v0_1 v0_2)) m x0 x1 x2 x3
 | 0,x0,x1,x2,x3=>qz ..
 | m+1,x0,x1,x2,x3=>by
  have ih:(fun x0 x1 x2 x3=>LQ qc D n 66 [.r,.r,.l,.r,.l] m (qgi x0 x1 x2 x3) K)=qgl D n (fun v0_0 v0_1 v0_2=>K (Ex.exit 0) (qjy v0_0 v0_1 v0_2)) m:=by funext x0 x1 x2 x3;exact qwf D n K m x0 x1 x2 x3
  rw[q69]
  rw[ih];rfl
theorem q5u (D:DX)(n:Nat) (v0_0:List Int×Int×Int×Unit) (v0_1:(tSch)×
 qe×Unit) (v0_2:(tSch)×
 qe×Unit) :
 (CQ qc D n 66 [] [.r,.r,.l,.r,.l] (qi qc 66)) (Ex.exit 0) (qjy v0_0 v0_1 v0_2)=qno D n v0_0 v0_1 v0_2:=by kernel_rfl
theorem q6a (D:DX)(n:Nat) (x0:Int) (x1:List Int×Int×Int×Unit) (x2:(tSch)×
 qe×Unit) (x3:(tSch)×
 qe×Unit) :
 LQ qc D n 66 [.r,.r,.l,.r,.l] n (qgi x0 x1 x2 x3) (CQ qc D n 66 [] [.r,.r,.l,.r,.l] (qi qc 66))=qol D n x0 x1 x2 x3:=by
 rw[qwf]
 simp only[q5u]
 rfl
theorem q92 (D:DX)(n:Nat) (a0:List Int×Int×Int×Unit):rfC qc D n 66 (a0,())=qrj D n a0:=by
 have h:rfC qc D n 66 (a0,())=qq1 D n (fun x0 x1 x2 x3=>LQ qc D n 66 [.r,.r,.l,.r,.l] n (qgi x0 x1 x2 x3) (CQ qc D n 66 [] [.r,.r,.l,.r,.l] (qi qc 66))) a0:=by kernel_rfl
 rw[h]
 simp only[q6a]
 rfl

def q2h (D:DX)(n:Nat) (a0:List Int×Int×Int×Unit) (a1:(tSch)×qe×Unit):Option ((qd×Unit)×tCur×Unit):=qg (qn8 D a0 (Prod.fst a1)) fun b↦br (bif decide ((↑(List.length (Prod.fst (Prod.snd a1))):Int)>0) then decide ((↑(List.length (Prod.fst (Prod.fst b))):Int)>0) else false) (qg (qky D (Prod.fst (Prod.snd b)) 2) fun b_1↦br (Prod.fst (Prod.fst b_1)) (qg (qdf D (Prod.fst (Prod.snd b_1)) (↑(List.length (Prod.fst (Prod.snd a1))):Int)) fun b_2↦br (decide (0≤Prod.fst (Prod.fst b_2))&&decide (Prod.fst (Prod.fst b_2)<(↑(List.length (Prod.fst (Prod.snd a1))):Int))) (br (decide ((↑(List.length (List.getD (Prod.fst (Prod.snd a1)) (Int.toNat (Prod.fst (Prod.fst b_2))) [])):Int)>0)) (br (decide (0≤0)&&decide (0<(↑(List.length (List.getD (Prod.fst (Prod.snd a1)) (Int.toNat (Prod.fst (Prod.fst b_2))) [])):Int))) (br (decide (0≤0)&&decide (0<(↑(List.length (Prod.fst (Prod.fst b))):Int))) (some ((List.set (Prod.fst (Prod.fst b)) 0 (List.getD (List.getD (Prod.fst (Prod.snd a1)) (Int.toNat (Prod.fst (Prod.fst b_2))) []) (Int.toNat 0) (0,0,ByteArray.empty,())),()),Prod.fst (Prod.snd b_2),())) none) none) (some ((Prod.fst (Prod.fst b),()),Prod.fst (Prod.snd b_2),()))) none) (some ((Prod.fst (Prod.fst b),()),Prod.fst (Prod.snd b_1),()))) (some ((Prod.fst (Prod.fst b),()),Prod.fst (Prod.snd b),()))
def qug (D:DX)(n:Nat) (a0:List Int×Int×Int×Unit) (a1:(tSch)×qe×Unit):Option ((qd×Unit)×tCur×Unit):=q2h D n a0 a1
theorem qbc4 (D:DX)(n:Nat) (a0:List Int×Int×Int×Unit) (a1:(tSch)×
 qe×Unit):rfC qc D n 67 (a0,(a1,()))=qug D n a0 a1:=by kernel_rfl

def qbeg (D:DX)(n:Nat) (a0:Int) (a1:Int) (a2:Int):Option ((Bool×Unit)×Unit):=some ((bif decide (a0≥a1) then decide (a0≤a2) else false,()),())
def q5z (D:DX)(n:Nat) (a0:Int) (a1:Int) (a2:Int):Option ((Bool×Unit)×Unit):=qbeg D n a0 a1 a2
theorem qbos (D:DX)(n:Nat) (a0:Int) (a1:Int) (a2:Int):rfC qc D n 68 (a0,(a1,(a2,())))=q5z D n a0 a1 a2:=by kernel_rfl

def q8l (D:DX)(n:Nat) (a0:tSch) (a1:Int) (a2:qd):Option ((tWay×Unit)×Unit):=br (decide (0≤a1)&&decide (a1<(↑(List.length (Prod.fst (Prod.snd (Prod.snd a0)))):Int))) (qg (qlp D a2 (Prod.fst (Prod.snd (List.getD (Prod.fst (Prod.snd (Prod.snd a0))) (Int.toNat a1) (ByteArray.empty,[],false,()))))) fun b↦qg (qob D (Prod.fst (Prod.fst b))) fun b↦qg (qc5 D a0 a2) fun b_1↦qg (qob D (Prod.fst (Prod.fst b_1))) fun b_2↦some (((ByteArray.mk (List.toArray (List.map (fun n↦UInt8.ofNat (Int.toNat n)) (Prod.fst (Prod.fst b)))),ByteArray.mk (List.toArray (List.map (fun n↦UInt8.ofNat (Int.toNat n)) (Prod.fst (Prod.fst b_2)))),()),()),())) none
def q2x (D:DX)(n:Nat) (a0:tSch) (a1:Int) (a2:qd):Option ((tWay×Unit)×Unit):=q8l D n a0 a1 a2
theorem qbqc (D:DX)(n:Nat) (a0:tSch) (a1:Int) (a2:qd):rfC qc D n 69 (a0,(a1,(a2,())))=q2x D n a0 a1 a2:=by kernel_rfl

def q1t (D:DX)(n:Nat) (go:qd→Int→Int→tSch→Option ((Bool×Unit)×Unit)) (K0:Bool→Option ((Bool×Unit)×Unit)) (K1:Option ((Bool×Unit)×Unit)) (x0:qd) (x1:Int) (x2:Int) (x3:tSch):Option ((Bool×Unit)×Unit):=br (decide (x2<x1)) (br (decide (0≤x2)&&decide (x2<(↑(List.length x0):Int))) (br (decide (0≤x2)&&decide (x2<(↑(List.length (Prod.fst x3)):Int))) (qg (qts D (List.getD x0 (Int.toNat x2) (0,0,ByteArray.empty,()))) fun b↦br (bif !Prod.fst (Prod.fst b) then true else bif Prod.fst (List.getD x0 (Int.toNat x2) (0,0,ByteArray.empty,())) != Prod.fst (Prod.snd (List.getD (Prod.fst x3) (Int.toNat x2) (ByteArray.empty,0,false,()))) then !bif decide (Prod.fst (List.getD x0 (Int.toNat x2) (0,0,ByteArray.empty,()))=0) then Prod.fst (Prod.snd (Prod.snd (List.getD (Prod.fst x3) (Int.toNat x2) (ByteArray.empty,0,false,())))) else false else false) (K0 false) (go x0 x1 (IntKind.wrap IntKind.i64 (x2+1)) x3)) none) none) K1
def qmi (D:DX)(n:Nat) (K0:Bool→Option ((Bool×Unit)×Unit)) (K1:Option ((Bool×Unit)×Unit)):Nat→(qd)→(Int)→(Int)→(tSch)→Option ((Bool×Unit)×Unit) | 0=>(fun x0 x1 x2 x3=>none) | m+1=>(fun x0 x1 x2 x3=>q1t D n (qmi D n K0 K1 m) K0 K1 x0 x1 x2 x3)
def q5g (D:DX)(n:Nat) (v0_0:Bool):Option ((Bool×Unit)×Unit):=some ((v0_0,()),())
def q5p (D:DX)(n:Nat):Option ((Bool×Unit)×Unit):=some ((true,()),())
def qzu (D:DX)(n:Nat):(qd)→(Int)→(Int)→(tSch)→Option ((Bool×Unit)×Unit):=(fun x0 x1 x2 x3=>qmi D n (fun v0_0=>q5g D n v0_0) (q5p D n) n x0 x1 x2 x3)
def q3x (D:DX)(n:Nat) (lp0:qd→Int→Int→tSch→Option ((Bool×Unit)×Unit)) (a0:tSch) (a1:qd):Option ((Bool×Unit)×Unit):=qg (qr5 D a0) fun b↦br (bif !Prod.fst (Prod.fst b) then true else (↑(List.length a1):Int) != (↑(List.length (Prod.fst a0)):Int)) (some ((false,()),())) (lp0 a1 (↑(List.length a1):Int) 0 a0)
def q3z (D:DX)(n:Nat) (a0:tSch) (a1:qd):Option ((Bool×Unit)×Unit):=q3x D n (qzu D n) a0 a1
def qmb (x0:qd) (x1:Int) (x2:Int) (x3:tSch):St:=stq 52 [(2,AV.addr 2 []),(19,AV.val (Ty.sl yV) x0),(20,avI x1),(21,avI x2)] [(2,Root.mk yS Mk.no x3 true)] 
def qr1 (v0_0:Bool):St:=stq 52 [(4,AV.val Ty.bool v0_0)] [] 
def qrr:St:=stq 52 [] [] 
theorem qbkh (D:DX)(n:Nat) (m:Nat) (K:Ex→St→Option (Out ctx 77)) (x0:qd) (x1:Int) (x2:Int) (x3:tSch) :
 LQ qc D n 77 [.r,.r,.l,.r,.l] (m+1) (qmb x0 x1 x2 x3) K=q1t D n (fun x0 x1 x2 x3=>LQ qc D n 77 [.r,.r,.l,.r,.l] m (qmb x0 x1 x2 x3) K) (fun v0_0=>K (Ex.ret) (qr1 v0_0)) (K (Ex.exit 0) (qrr)) x0 x1 x2 x3:=by kernel_rfl
theorem q66 (D:DX)(n:Nat) (K:Ex→St→Option (Out ctx 77)):∀ (m:Nat) (x0:qd) (x1:Int) (x2:Int) (x3:tSch),LQ qc D n 77 [.r,.r,.l,.r,.l] m (qmb x0 x1 x2 x3) K=qmi D n (fun v0_0=>K (Ex.ret) (qr1 v0_0)) (K (Ex.exit 0) (qrr)) m x0 x1 x2 x3
 | 0,x0,x1,x2,x3=>qz ..
 | m+1,x0,x1,x2,x3=>by
  have ih:(fun x0 x1 x2 x3=>LQ qc D n 77 [.r,.r,.l,.r,.l] m (qmb x0 x1 x2 x3) K)=qmi D n (fun v0_0=>K (Ex.ret) (qr1 v0_0)) (K (Ex.exit 0) (qrr)) m:=by funext x0 x1 x2 x3;exact q66 D n K m x0 x1 x2 x3
  rw[qbkh]
  rw[ih];rfl
theorem qbh9 (D:DX)(n:Nat) (v0_0:Bool) :
 (CQ qc D n 77 [] [.r,.r,.l,.r,.l] (qi qc 77)) (Ex.ret) (qr1 v0_0)=q5g D n v0_0:=by kernel_rfl
theorem qbg4 (D:DX)(n:Nat) :
 (CQ qc D n 77 [] [.r,.r,.l,.r,.l] (qi qc 77)) (Ex.exit 0) (qrr)=q5p D n:=by kernel_rfl
theorem qbhx (D:DX)(n:Nat) (x0:qd) (x1:Int) (x2:Int) (x3:tSch) :
 LQ qc D n 77 [.r,.r,.l,.r,.l] n (qmb x0 x1 x2 x3) (CQ qc D n 77 [] [.r,.r,.l,.r,.l] (qi qc 77))=qzu D n x0 x1 x2 x3:=by
 rw[q66]
 simp only[qbh9,qbg4]
 rfl
theorem qbnz (D:DX)(n:Nat) (a0:tSch) (a1:qd):rfC qc D n 77 (a0,(a1,()))=q3z D n a0 a1:=by
 have h:rfC qc D n 77 (a0,(a1,()))=q3x D n (fun x0 x1 x2 x3=>LQ qc D n 77 [.r,.r,.l,.r,.l] n (qmb x0 x1 x2 x3) (CQ qc D n 77 [] [.r,.r,.l,.r,.l] (qi qc 77))) a0 a1:=by kernel_rfl
 rw[h]
 simp only[qbhx]
 rfl

def q4r (D:DX)(n:Nat) (a0:qd) (a1:qd):Option ((Bool×Unit)×Unit):=qg (qch D a0 a1 (Clo.mk 141 [])) fun b↦some ((decide (Prod.fst (Prod.fst b)<0),()),())
def qv1 (D:DX)(n:Nat) (a0:qd) (a1:qd):Option ((Bool×Unit)×Unit):=q4r D n a0 a1
theorem qbfq (D:DX)(n:Nat) (a0:qd) (a1:qd):rfC qc D n 78 (a0,(a1,()))=qv1 D n a0 a1:=by kernel_rfl

def qg5 (D:DX)(n:Nat) (a1:Clo) (a0:qe):Option ((Bool×Unit)×Unit):=qg (qcn D a0 a1) fun b↦some ((decide (Prod.fst (Prod.fst b)≥0),()),())
def qd9 (D:DX)(n:Nat) (a0:qe) (a1:Clo):Option ((Bool×Unit)×Unit):=qg5 D n a1 a0
theorem qn6 (D:DX)(n:Nat) (a0:qe) (a1:Clo):rfC qc D n 79 (a0,(a1,()))=qd9 D n a0 a1:=by kernel_rfl

def q6j (D:DX)(n:Nat) (a0:qd) (a1:(tSch)×qe×Unit) (a2:qd):Option ((Bool×Unit)×Unit):=qg (qsg D (Prod.fst a1) a2 a0) fun b↦some ((Prod.fst (Prod.fst b),()),())
def qyr (D:DX)(n:Nat) (a0:qd) (a1:(tSch)×qe×Unit) (a2:qd):Option ((Bool×Unit)×Unit):=q6j D n a0 a1 a2
theorem qbkc (D:DX)(n:Nat) (a0:qd) (a1:(tSch)×
 qe×Unit) (a2:qd):rfC qc D n 80 (a0,(a1,(a2,())))=qyr D n a0 a1 a2:=by kernel_rfl

def qbat (D:DX)(n:Nat) (a0:tSch) (a1:qd) (a2:qd):Option ((Bool×Unit)×Unit):=qg (qc3 D (Prod.fst (Prod.snd (Prod.snd a0))) (Clo.mk 143 [CapV.rptr (Ty.sl (Ty.pair (Ty.int IntKind.i64) (Ty.pair (Ty.int IntKind.i64) (Ty.pair Ty.str Ty.unit)))) a1,CapV.rptr (Ty.sl (Ty.pair (Ty.int IntKind.i64) (Ty.pair (Ty.int IntKind.i64) (Ty.pair Ty.str Ty.unit)))) a2])) fun b↦some ((Prod.fst (Prod.fst b),()),())
def q4v (D:DX)(n:Nat) (a0:tSch) (a1:qd) (a2:qd):Option ((Bool×Unit)×Unit):=qbat D n a0 a1 a2
theorem qbmr (D:DX)(n:Nat) (a0:tSch) (a1:qd) (a2:qd):rfC qc D n 81 (a0,(a1,(a2,())))=q4v D n a0 a1 a2:=by kernel_rfl

def qvg (D:DX)(n:Nat) (go:qei→Int→Int→tSch→Option ((Bool×Unit)×Unit)) (K0:Bool→tSch→Option ((Bool×Unit)×Unit)) (K1:tSch→Option ((Bool×Unit)×Unit)) (x0:qei) (x1:Int) (x2:Int) (x3:tSch):Option ((Bool×Unit)×Unit):=br (decide (x2<x1)) (br (decide (0≤x2)&&decide (x2<(↑(List.length x0):Int))) (qg (qpc D (Prod.fst (List.getD x0 (Int.toNat x2) (ByteArray.empty,0,false,())))) fun b↦br (!Prod.fst (Prod.fst b)) (K0 false x3) (qg (qge D (Prod.fst (Prod.snd (List.getD x0 (Int.toNat x2) (ByteArray.empty,0,false,())))) 1 3) fun b↦br (!Prod.fst (Prod.fst b)) (K0 false x3) (qg (q33 D x3 (Prod.fst (List.getD x0 (Int.toNat x2) (ByteArray.empty,0,false,())))) fun b↦br (Prod.fst (Prod.fst b) != x2) (K0 false x3) (go x0 x1 (IntKind.wrap IntKind.i64 (x2+1)) x3)))) none) (K1 x3)
def qje (D:DX)(n:Nat) (K0:Bool→tSch→Option ((Bool×Unit)×Unit)) (K1:tSch→Option ((Bool×Unit)×Unit)):Nat→(qei)→(Int)→(Int)→(tSch)→Option ((Bool×Unit)×Unit) | 0=>(fun x0 x1 x2 x3=>none) | m+1=>(fun x0 x1 x2 x3=>qvg D n (qje D n K0 K1 m) K0 K1 x0 x1 x2 x3)
def q0n (D:DX)(n:Nat) (v0_0:Bool) (v0_1:tSch):Option ((Bool×Unit)×Unit):=some ((v0_0,()),())
def qvi (D:DX)(n:Nat) (go:tIxs→Int→Int→tSch→Option ((Bool×Unit)×Unit)) (K0:Bool→tSch→Option ((Bool×Unit)×Unit)) (K1:tSch→Option ((Bool×Unit)×Unit)) (x1_0:tIxs) (x1_1:Int) (x1_2:Int) (x1_3:tSch):Option ((Bool×Unit)×Unit):=br (decide (x1_2<x1_1)) (br (decide (0≤x1_2)&&decide (x1_2<(↑(List.length x1_0):Int))) (qg (qpc D (Prod.fst (List.getD x1_0 (Int.toNat x1_2) (ByteArray.empty,[],false,())))) fun b↦br (!Prod.fst (Prod.fst b)) (K0 false x1_3) (qg (qro D x1_3 (Prod.fst (Prod.snd (List.getD x1_0 (Int.toNat x1_2) (ByteArray.empty,[],false,())))) 3) fun b↦br (!Prod.fst (Prod.fst b)) (K0 false x1_3) (br (decide (0≤0)&&decide (0≤x1_2)&&decide (x1_2≤(↑(List.length (Prod.fst (Prod.snd (Prod.snd x1_3)))):Int))) (qg (qc3 D (List.drop (Int.toNat 0) (List.take (Int.toNat x1_2) (Prod.fst (Prod.snd (Prod.snd x1_3))))) (Clo.mk 149 [CapV.rptr (Ty.pair Ty.str (Ty.pair (Ty.sl (Ty.int IntKind.i64)) (Ty.pair Ty.bool Ty.unit))) (List.getD x1_0 (Int.toNat x1_2) (ByteArray.empty,[],false,()))])) fun b↦br (Prod.fst (Prod.fst b)) (K0 false x1_3) (go x1_0 x1_1 (IntKind.wrap IntKind.i64 (x1_2+1)) x1_3)) none))) none) (K1 x1_3)
def qjf (D:DX)(n:Nat) (K0:Bool→tSch→Option ((Bool×Unit)×Unit)) (K1:tSch→Option ((Bool×Unit)×Unit)):Nat→(tIxs)→(Int)→(Int)→(tSch)→Option ((Bool×Unit)×Unit) | 0=>(fun x1_0 x1_1 x1_2 x1_3=>none) | m+1=>(fun x1_0 x1_1 x1_2 x1_3=>qvi D n (qjf D n K0 K1 m) K0 K1 x1_0 x1_1 x1_2 x1_3)
def q0j (D:DX)(n:Nat) (v0_0:Bool) (v0_1:tSch):Option ((Bool×Unit)×Unit):=some ((v0_0,()),())
def qsn (D:DX)(n:Nat) (v1_0:tSch):Option ((Bool×Unit)×Unit):=qg (qge D (↑(List.length (Prod.fst v1_0)):Int) 1 5) fun b↦br (Prod.fst (Prod.fst b)) (qg (qro D v1_0 (Prod.fst (Prod.snd v1_0)) 4) fun b↦br (Prod.fst (Prod.fst b)) (qg (qiz D (Prod.fst (Prod.snd v1_0)) (Clo.mk 151 [CapV.rptr (Ty.pair (Ty.sl (Ty.pair Ty.str (Ty.pair (Ty.int IntKind.i64) (Ty.pair Ty.bool Ty.unit)))) (Ty.pair (Ty.sl (Ty.int IntKind.i64)) (Ty.pair (Ty.sl (Ty.pair Ty.str (Ty.pair (Ty.sl (Ty.int IntKind.i64)) (Ty.pair Ty.bool Ty.unit)))) Ty.unit))) v1_0])) fun b↦some ((bif !Prod.fst (Prod.fst b) then decide ((↑(List.length (Prod.fst (Prod.snd (Prod.snd v1_0)))):Int)≤3) else false,()),())) (some ((false,()),()))) (some ((false,()),()))
def qum (D:DX)(n:Nat):(tIxs)→(Int)→(Int)→(tSch)→Option ((Bool×Unit)×Unit):=(fun x1_0 x1_1 x1_2 x1_3=>qjf D n (fun v0_0 v0_1=>q0j D n v0_0 v0_1) (fun v1_0=>qsn D n v1_0) n x1_0 x1_1 x1_2 x1_3)
def qtg (D:DX)(n:Nat) (lp1:tIxs→Int→Int→tSch→Option ((Bool×Unit)×Unit)) (v1_0:tSch):Option ((Bool×Unit)×Unit):=lp1 (Prod.fst (Prod.snd (Prod.snd v1_0))) (↑(List.length (Prod.fst (Prod.snd (Prod.snd v1_0)))):Int) 0 v1_0
def qui (D:DX)(n:Nat):(qei)→(Int)→(Int)→(tSch)→Option ((Bool×Unit)×Unit):=(fun x0 x1 x2 x3=>qje D n (fun v0_0 v0_1=>q0n D n v0_0 v0_1) (fun v1_0=>qtg D n (qum D n) v1_0) n x0 x1 x2 x3)
def qxi (D:DX)(n:Nat) (lp0:qei→Int→Int→tSch→Option ((Bool×Unit)×Unit)) (a0:tSch):Option ((Bool×Unit)×Unit):=lp0 (Prod.fst a0) (↑(List.length (Prod.fst a0)):Int) 0 a0
def qxg (D:DX)(n:Nat) (a0:tSch):Option ((Bool×Unit)×Unit):=qxi D n (qui D n) a0
def qjn (x0:qei) (x1:Int) (x2:Int) (x3:tSch):St:=stq 85 [(1,AV.addr 1 []),(8,AV.val (Ty.sl yC) x0),(9,avI x1),(10,avI x2)] [(1,Root.mk yS Mk.no x3 true)] 
def qnc (v0_0:Bool) (v0_1:tSch):St:=stq 85 [(1,AV.addr 1 []),(2,AV.val Ty.bool v0_0)] [(1,Root.mk yS Mk.no v0_1 true)] 
def qm7 (v1_0:tSch):St:=stq 85 [(1,AV.addr 1 [])] [(1,Root.mk yS Mk.no v1_0 true)] 
def qjm (x1_0:tIxs) (x1_1:Int) (x1_2:Int) (x1_3:tSch):St:=stq 85 [(1,AV.addr 1 []),(35,AV.val (Ty.sl yX) x1_0),(36,avI x1_1),(37,avI x1_2)] [(1,Root.mk yS Mk.no x1_3 true)] 
def qnd (v0_0:Bool) (v0_1:tSch):St:=stq 85 [(1,AV.addr 1 []),(2,AV.val Ty.bool v0_0)] [(1,Root.mk yS Mk.no v0_1 true)] 
def qmw (v1_0:tSch):St:=stq 85 [(1,AV.addr 1 [])] [(1,Root.mk yS Mk.no v1_0 true)] 
theorem qbcu (D:DX)(n:Nat) (m:Nat) (K:Ex→St→Option (Out ctx 82)) (x0:qei) (x1:Int) (x2:Int) (x3:tSch) :
 LQ qc D n 82 [.r,.l,.r,.l] (m+1) (qjn x0 x1 x2 x3) K=qvg D n (fun x0 x1 x2 x3=>LQ qc D n 82 [.r,.l,.r,.l] m (qjn x0 x1 x2 x3) K) (fun v0_0 v0_1=>K (Ex.ret) (qnc v0_0 v0_1)) (fun v1_0=>K (Ex.exit 0) (qm7 v1_0)) x0 x1 x2 x3:=by kernel_rfl
theorem q2a (D:DX)(n:Nat) (K:Ex→St→Option (Out ctx 82)):∀ (m:Nat) (x0:qei) (x1:Int) (x2:Int) (x3:tSch),LQ qc D n 82 [.r,.l,.r,.l] m (qjn x0 x1 x2 x3) K=qje D n (fun v0_0 v0_1=>K (Ex.ret) (qnc v0_0 v0_1)) (fun v1_0=>K (Ex.exit 0) (qm7 v1_0)) m x0 x1 x2 x3
 | 0,x0,x1,x2,x3=>qz ..
 | m+1,x0,x1,x2,x3=>by
  have ih:(fun x0 x1 x2 x3=>LQ qc D n 82 [.r,.l,.r,.l] m (qjn x0 x1 x2 x3) K)=qje D n (fun v0_0 v0_1=>K (Ex.ret) (qnc v0_0 v0_1)) (fun v1_0=>K (Ex.exit 0) (qm7 v1_0)) m:=by funext x0 x1 x2 x3;exact q2a D n K m x0 x1 x2 x3
  rw[qbcu]
  rw[ih];rfl
theorem qbco (D:DX)(n:Nat) (m:Nat) (K:Ex→St→Option (Out ctx 82)) (x1_0:tIxs) (x1_1:Int) (x1_2:Int) (x1_3:tSch) :
 LQ qc D n 82 [.r,.r,.l,.r,.l] (m+1) (qjm x1_0 x1_1 x1_2 x1_3) K=qvi D n (fun x1_0 x1_1 x1_2 x1_3=>LQ qc D n 82 [.r,.r,.l,.r,.l] m (qjm x1_0 x1_1 x1_2 x1_3) K) (fun v0_0 v0_1=>K (Ex.ret) (qnd v0_0 v0_1)) (fun v1_0=>K (Ex.exit 2) (qmw v1_0)) x1_0 x1_1 x1_2 x1_3:=by kernel_rfl
theorem q2n (D:DX)(n:Nat) (K:Ex→St→Option (Out ctx 82)):∀ (m:Nat) (x1_0:tIxs) (x1_1:Int) (x1_2:Int) (x1_3:tSch),LQ qc D n 82 [.r,.r,.l,.r,.l] m (qjm x1_0 x1_1 x1_2 x1_3) K=qjf D n (fun v0_0 v0_1=>K (Ex.ret) (qnd v0_0 v0_1)) (fun v1_0=>K (Ex.exit 2) (qmw v1_0)) m x1_0 x1_1 x1_2 x1_3
 | 0,x1_0,x1_1,x1_2,x1_3=>qz ..
 | m+1,x1_0,x1_1,x1_2,x1_3=>by
  have ih:(fun x1_0 x1_1 x1_2 x1_3=>LQ qc D n 82 [.r,.r,.l,.r,.l] m (qjm x1_0 x1_1 x1_2 x1_3) K)=qjf D n (fun v0_0 v0_1=>K (Ex.ret) (qnd v0_0 v0_1)) (fun v1_0=>K (Ex.exit 2) (qmw v1_0)) m:=by funext x1_0 x1_1 x1_2 x1_3;exact q2n D n K m x1_0 x1_1 x1_2 x1_3
  rw[qbco]
  rw[ih];rfl
theorem qbb0 (D:DX)(n:Nat) (v0_0:Bool) (v0_1:tSch) :
 (CQ qc D n 82 [] [.r,.r,.l,.r,.l] (qi qc 82)) (Ex.ret) (qnd v0_0 v0_1)=q0j D n v0_0 v0_1:=by kernel_rfl
theorem qbbp (D:DX)(n:Nat) (v1_0:tSch) :
 (CQ qc D n 82 [] [.r,.r,.l,.r,.l] (qi qc 82)) (Ex.exit 2) (qmw v1_0)=qsn D n v1_0:=by kernel_rfl
theorem qbbg (D:DX)(n:Nat) (x1_0:tIxs) (x1_1:Int) (x1_2:Int) (x1_3:tSch) :
 LQ qc D n 82 [.r,.r,.l,.r,.l] n (qjm x1_0 x1_1 x1_2 x1_3) (CQ qc D n 82 [] [.r,.r,.l,.r,.l] (qi qc 82))=qum D n x1_0 x1_1 x1_2 x1_3:=by
 rw[q2n]
 simp only[qbb0,qbbp]
 rfl
theorem qbbh (D:DX)(n:Nat) (v0_0:Bool) (v0_1:tSch) :
 (CQ qc D n 82 [] [.r,.l,.r,.l] (qi qc 82)) (Ex.ret) (qnc v0_0 v0_1)=q0n D n v0_0 v0_1:=by kernel_rfl
theorem qbay (D:DX)(n:Nat) (v1_0:tSch) :
 (CQ qc D n 82 [] [.r,.l,.r,.l] (qi qc 82)) (Ex.exit 0) (qm7 v1_0)=qtg D n (fun x1_0 x1_1 x1_2 x1_3=>LQ qc D n 82 [.r,.r,.l,.r,.l] n (qjm x1_0 x1_1 x1_2 x1_3) (CQ qc D n 82 [] [.r,.r,.l,.r,.l] (qi qc 82))) v1_0:=by kernel_rfl
theorem qbal (D:DX)(n:Nat) (x0:qei) (x1:Int) (x2:Int) (x3:tSch) :
 LQ qc D n 82 [.r,.l,.r,.l] n (qjn x0 x1 x2 x3) (CQ qc D n 82 [] [.r,.l,.r,.l] (qi qc 82))=qui D n x0 x1 x2 x3:=by
 rw[q2a]
 simp only[qbbh,qbay,qbbg]
 rfl
theorem qbgl (D:DX)(n:Nat) (a0:tSch):rfC qc D n 82 (a0,())=qxg D n a0:=by
 have h:rfC qc D n 82 (a0,())=qxi D n (fun x0 x1 x2 x3=>LQ qc D n 82 [.r,.l,.r,.l] n (qjn x0 x1 x2 x3) (CQ qc D n 82 [] [.r,.l,.r,.l] (qi qc 82))) a0:=by kernel_rfl
 rw[h]
 simp only[qbal]
 rfl

def qyf (D:DX)(n:Nat) (a0:(tSch)×qe×Unit):Option ((((tSch)×qe×Unit)×Unit)×Unit):=qg (quj D (Prod.fst a0)) fun b↦qg (qua D (Prod.fst (Prod.snd a0))) fun b_1↦some ((((Prod.fst (Prod.fst (Prod.fst b)),Prod.fst (Prod.snd (Prod.fst (Prod.fst b))),Prod.fst (Prod.snd (Prod.snd (Prod.fst (Prod.fst b)))),()),Prod.fst (Prod.fst b_1),()),()),())
def qq9 (D:DX)(n:Nat) (a0:(tSch)×qe×Unit):Option ((((tSch)×qe×Unit)×Unit)×Unit):=qyf D n a0
theorem q9p (D:DX)(n:Nat) (a0:(tSch)×
 qe×Unit):rfC qc D n 83 (a0,())=qq9 D n a0:=by kernel_rfl

def qbbt (D:DX)(n:Nat) (a0:(tSch)×qe×Unit) (a1:qd):Option ((Int×Unit)×Unit):=qg (qcn D (Prod.fst (Prod.snd a0)) (Clo.mk 153 [CapV.rptr (Ty.pair (Ty.pair (Ty.sl (Ty.pair Ty.str (Ty.pair (Ty.int IntKind.i64) (Ty.pair Ty.bool Ty.unit)))) (Ty.pair (Ty.sl (Ty.int IntKind.i64)) (Ty.pair (Ty.sl (Ty.pair Ty.str (Ty.pair (Ty.sl (Ty.int IntKind.i64)) (Ty.pair Ty.bool Ty.unit)))) Ty.unit))) (Ty.pair (Ty.sl (Ty.sl (Ty.pair (Ty.int IntKind.i64) (Ty.pair (Ty.int IntKind.i64) (Ty.pair Ty.str Ty.unit))))) Ty.unit)) a0,CapV.rptr (Ty.sl (Ty.pair (Ty.int IntKind.i64) (Ty.pair (Ty.int IntKind.i64) (Ty.pair Ty.str Ty.unit)))) a1])) fun b↦some ((Prod.fst (Prod.fst b),()),())
def q3g (D:DX)(n:Nat) (a0:(tSch)×qe×Unit) (a1:qd):Option ((Int×Unit)×Unit):=qbbt D n a0 a1
theorem qbmy (D:DX)(n:Nat) (a0:(tSch)×
 qe×Unit) (a1:qd):rfC qc D n 84 (a0,(a1,()))=q3g D n a0 a1:=by kernel_rfl

def q5f (D:DX)(n:Nat) (a0:qd) (a1:(tSch)×qe×Unit) (a2:qd):Option ((Bool×Unit)×Unit):=qg (qsg D (Prod.fst a1) a2 a0) fun b↦some ((Prod.fst (Prod.fst b),()),())
def qw4 (D:DX)(n:Nat) (a0:qd) (a1:(tSch)×qe×Unit) (a2:qd):Option ((Bool×Unit)×Unit):=q5f D n a0 a1 a2
theorem qbhu (D:DX)(n:Nat) (a0:qd) (a1:(tSch)×
 qe×Unit) (a2:qd):rfC qc D n 85 (a0,(a1,(a2,())))=qw4 D n a0 a1 a2:=by kernel_rfl

def qen (D:DX)(n:Nat) (a1:Clo) (go:qe→Int→Int→Option ((Int×Unit)×Unit)) (K0:Int→Option ((Int×Unit)×Unit)) (K1:Option ((Int×Unit)×Unit)) (x0:qe) (x1:Int) (x2:Int):Option ((Int×Unit)×Unit):=br (decide (x2<x1)) (br (decide (0≤x2)&&decide (x2<(↑(List.length x0):Int))) (qg (qbe ctx D a1 [CapV.val (Ty.sl (Ty.pair (Ty.int IntKind.i64) (Ty.pair (Ty.int IntKind.i64) (Ty.pair Ty.str Ty.unit)))) (List.getD x0 (Int.toNat x2) [])] Ty.bool) fun b↦br b (K0 x2) (go x0 x1 (IntKind.wrap IntKind.i64 (x2+1)))) none) K1
def qbx (D:DX)(n:Nat) (a1:Clo) (K0:Int→Option ((Int×Unit)×Unit)) (K1:Option ((Int×Unit)×Unit)):Nat→(qe)→(Int)→(Int)→Option ((Int×Unit)×Unit) | 0=>(fun x0 x1 x2=>none) | m+1=>(fun x0 x1 x2=>qen D n a1 (qbx D n a1 K0 K1 m) K0 K1 x0 x1 x2)
def qg4 (D:DX)(n:Nat) (a1:Clo) (v0_0:Int):Option ((Int×Unit)×Unit):=some ((v0_0,()),())
def qg8 (D:DX)(n:Nat) (a1:Clo):Option ((Int×Unit)×Unit):=some ((-1,()),())
def qed (D:DX)(n:Nat) (a1:Clo):(qe)→(Int)→(Int)→Option ((Int×Unit)×Unit):=(fun x0 x1 x2=>qbx D n a1 (fun v0_0=>qg4 D n a1 v0_0) (qg8 D n a1) n x0 x1 x2)
def qe0 (D:DX)(n:Nat) (a1:Clo) (lp0:qe→Int→Int→Option ((Int×Unit)×Unit)) (a0:qe):Option ((Int×Unit)×Unit):=lp0 a0 (↑(List.length a0):Int) 0
def qe3 (D:DX)(n:Nat) (a0:qe) (a1:Clo):Option ((Int×Unit)×Unit):=qe0 D n a1 (qed D n a1) a0
def qbw (a1:Clo) (x0:qe) (x1:Int) (x2:Int):St:=stq 19 [(0,AV.val (Ty.sl (Ty.sl yV)) x0),(1,AV.cloV a1),(7,avI x1),(8,avI x2)] [] 
def qc0 (a1:Clo) (v0_0:Int):St:=stq 19 [(4,avI v0_0)] [] 
def qcy (a1:Clo):St:=stq 19 [] [] 
theorem qov (D:DX)(n:Nat) (a1:Clo) (m:Nat) (K:Ex→St→Option (Out ctx 86)) (x0:qe) (x1:Int) (x2:Int) :
 LQ qc D n 86 [.r,.l,.r,.l] (m+1) (qbw a1 x0 x1 x2) K=qen D n a1 (fun x0 x1 x2=>LQ qc D n 86 [.r,.l,.r,.l] m (qbw a1 x0 x1 x2) K) (fun v0_0=>K (Ex.ret) (qc0 a1 v0_0)) (K (Ex.exit 0) (qcy a1)) x0 x1 x2:=by kernel_rfl
theorem qhz (D:DX)(n:Nat) (a1:Clo) (K:Ex→St→Option (Out ctx 86)):∀ (m:Nat) (x0:qe) (x1:Int) (x2:Int),LQ qc D n 86 [.r,.l,.r,.l] m (qbw a1 x0 x1 x2) K=qbx D n a1 (fun v0_0=>K (Ex.ret) (qc0 a1 v0_0)) (K (Ex.exit 0) (qcy a1)) m x0 x1 x2
 | 0,x0,x1,x2=>qz ..
 | m+1,x0,x1,x2=>by
  have ih:(fun x0 x1 x2=>LQ qc D n 86 [.r,.l,.r,.l] m (qbw a1 x0 x1 x2) K)=qbx D n a1 (fun v0_0=>K (Ex.ret) (qc0 a1 v0_0)) (K (Ex.exit 0) (qcy a1)) m:=by funext x0 x1 x2;exact qhz D n a1 K m x0 x1 x2
  rw[qov]
  rw[ih];rfl
theorem qn5 (D:DX)(n:Nat) (a1:Clo) (v0_0:Int) :
 (CQ qc D n 86 [] [.r,.l,.r,.l] (qi qc 86)) (Ex.ret) (qc0 a1 v0_0)=qg4 D n a1 v0_0:=by kernel_rfl
theorem qn1 (D:DX)(n:Nat) (a1:Clo) :
 (CQ qc D n 86 [] [.r,.l,.r,.l] (qi qc 86)) (Ex.exit 0) (qcy a1)=qg8 D n a1:=by kernel_rfl
theorem qnz (D:DX)(n:Nat) (a1:Clo) (x0:qe) (x1:Int) (x2:Int) :
 LQ qc D n 86 [.r,.l,.r,.l] n (qbw a1 x0 x1 x2) (CQ qc D n 86 [] [.r,.l,.r,.l] (qi qc 86))=qed D n a1 x0 x1 x2:=by
 rw[qhz]
 simp only[qn5,qn1]
 rfl
theorem qpj (D:DX)(n:Nat) (a0:qe) (a1:Clo):rfC qc D n 86 (a0,(a1,()))=qe3 D n a0 a1:=by
 have h:rfC qc D n 86 (a0,(a1,()))=qe0 D n a1 (fun x0 x1 x2=>LQ qc D n 86 [.r,.l,.r,.l] n (qbw a1 x0 x1 x2) (CQ qc D n 86 [] [.r,.l,.r,.l] (qi qc 86))) a0:=by kernel_rfl
 rw[h]
 simp only[qnz]
 rfl

def q5m (D:DX)(n:Nat) (a0:qd) (a1:qd) (a2:(tSch)×qe×Unit):Option ((Bool×Unit)×Unit):=qg (qc5 D (Prod.fst a2) a0) fun b↦qg (qo7 D a1 (Prod.fst (Prod.fst b))) fun b↦some ((Prod.fst (Prod.fst b),()),())
def qxm (D:DX)(n:Nat) (a0:qd) (a1:qd) (a2:(tSch)×qe×Unit):Option ((Bool×Unit)×Unit):=q5m D n a0 a1 a2
theorem qbgr (D:DX)(n:Nat) (a0:qd) (a1:qd) (a2:(tSch)×
 qe×Unit):rfC qc D n 87 (a0,(a1,(a2,())))=qxm D n a0 a1 a2:=by kernel_rfl

def qj7 (D:DX)(n:Nat) (a0:qd):Option ((qd×Unit)×Unit):=br (decide (Int.toNat (↑(List.length a0):Int)=0)) (both (some (([],()),())) (br (decide (0+List.length a0≤qbh)) (some (([]++a0,()),())) none)) (br (decide (0+List.length a0≤qbh)) (some (([]++a0,()),())) none)
def qga (D:DX)(n:Nat) (a0:qd):Option ((qd×Unit)×Unit):=qj7 D n a0
theorem qtb (D:DX)(n:Nat) (a0:qd):rfC qc D n 89 (a0,())=qga D n a0:=by kernel_rfl

def qlt (D:DX)(n:Nat) (a0:List tWay):Option ((List tWay×Unit)×Unit):=br (decide (Int.toNat (↑(List.length a0):Int)=0)) (both (some (([],()),())) (br (decide (0+List.length a0≤qbh)) (some (([]++a0,()),())) none)) (br (decide (0+List.length a0≤qbh)) (some (([]++a0,()),())) none)
def qha (D:DX)(n:Nat) (a0:List tWay):Option ((List tWay×Unit)×Unit):=qlt D n a0
theorem qvy (D:DX)(n:Nat) (a0:List tWay):rfC qc D n 90 (a0,())=qha D n a0:=by kernel_rfl

def qdx (D:DX)(n:Nat) (a1:Clo) (go:List tWay→Int→Int→Option ((Int×Unit)×Unit)) (K0:Int→Option ((Int×Unit)×Unit)) (K1:Option ((Int×Unit)×Unit)) (x0:List tWay) (x1:Int) (x2:Int):Option ((Int×Unit)×Unit):=br (decide (x2<x1)) (br (decide (0≤x2)&&decide (x2<(↑(List.length x0):Int))) (qg (qbe ctx D a1 [CapV.val (Ty.pair Ty.str (Ty.pair Ty.str Ty.unit)) (List.getD x0 (Int.toNat x2) (ByteArray.empty,ByteArray.empty,()))] Ty.bool) fun b↦br b (K0 x2) (go x0 x1 (IntKind.wrap IntKind.i64 (x2+1)))) none) K1
def q9 (D:DX)(n:Nat) (a1:Clo) (K0:Int→Option ((Int×Unit)×Unit)) (K1:Option ((Int×Unit)×Unit)):Nat→(List tWay)→(Int)→(Int)→Option ((Int×Unit)×Unit) | 0=>(fun x0 x1 x2=>none) | m+1=>(fun x0 x1 x2=>qdx D n a1 (q9 D n a1 K0 K1 m) K0 K1 x0 x1 x2)
def qdi (D:DX)(n:Nat) (a1:Clo) (v0_0:Int):Option ((Int×Unit)×Unit):=some ((v0_0,()),())
def qdj (D:DX)(n:Nat) (a1:Clo):Option ((Int×Unit)×Unit):=some ((-1,()),())
def qds (D:DX)(n:Nat) (a1:Clo):(List tWay)→(Int)→(Int)→Option ((Int×Unit)×Unit):=(fun x0 x1 x2=>q9 D n a1 (fun v0_0=>qdi D n a1 v0_0) (qdj D n a1) n x0 x1 x2)
def qd1 (D:DX)(n:Nat) (a1:Clo) (lp0:List tWay→Int→Int→Option ((Int×Unit)×Unit)) (a0:List tWay):Option ((Int×Unit)×Unit):=lp0 a0 (↑(List.length a0):Int) 0
def qdy (D:DX)(n:Nat) (a0:List tWay) (a1:Clo):Option ((Int×Unit)×Unit):=qd1 D n a1 (qds D n a1) a0
def qcg (a1:Clo) (x0:List tWay) (x1:Int) (x2:Int):St:=stq 19 [(0,AV.val (Ty.sl (Ty.pair Ty.str (Ty.pair Ty.str Ty.unit))) x0),(1,AV.cloV a1),(7,avI x1),(8,avI x2)] [] 
def qdq (a1:Clo) (v0_0:Int):St:=stq 19 [(4,avI v0_0)] [] 
def qdn (a1:Clo):St:=stq 19 [] [] 
theorem qq0 (D:DX)(n:Nat) (a1:Clo) (m:Nat) (K:Ex→St→Option (Out ctx 91)) (x0:List tWay) (x1:Int) (x2:Int) :
 LQ qc D n 91 [.r,.l,.r,.l] (m+1) (qcg a1 x0 x1 x2) K=qdx D n a1 (fun x0 x1 x2=>LQ qc D n 91 [.r,.l,.r,.l] m (qcg a1 x0 x1 x2) K) (fun v0_0=>K (Ex.ret) (qdq a1 v0_0)) (K (Ex.exit 0) (qdn a1)) x0 x1 x2:=by kernel_rfl
theorem qi8 (D:DX)(n:Nat) (a1:Clo) (K:Ex→St→Option (Out ctx 91)):∀ (m:Nat) (x0:List tWay) (x1:Int) (x2:Int),LQ qc D n 91 [.r,.l,.r,.l] m (qcg a1 x0 x1 x2) K=q9 D n a1 (fun v0_0=>K (Ex.ret) (qdq a1 v0_0)) (K (Ex.exit 0) (qdn a1)) m x0 x1 x2
 | 0,x0,x1,x2=>qz ..
 | m+1,x0,x1,x2=>by
  have ih:(fun x0 x1 x2=>LQ qc D n 91 [.r,.l,.r,.l] m (qcg a1 x0 x1 x2) K)=q9 D n a1 (fun v0_0=>K (Ex.ret) (qdq a1 v0_0)) (K (Ex.exit 0) (qdn a1)) m:=by funext x0 x1 x2;exact qi8 D n a1 K m x0 x1 x2
  rw[qq0]
  rw[ih];rfl
theorem qqe (D:DX)(n:Nat) (a1:Clo) (v0_0:Int) :
 (CQ qc D n 91 [] [.r,.l,.r,.l] (qi qc 91)) (Ex.ret) (qdq a1 v0_0)=qdi D n a1 v0_0:=by kernel_rfl
theorem qp2 (D:DX)(n:Nat) (a1:Clo) :
 (CQ qc D n 91 [] [.r,.l,.r,.l] (qi qc 91)) (Ex.exit 0) (qdn a1)=qdj D n a1:=by kernel_rfl
theorem qp4 (D:DX)(n:Nat) (a1:Clo) (x0:List tWay) (x1:Int) (x2:Int) :
 LQ qc D n 91 [.r,.l,.r,.l] n (qcg a1 x0 x1 x2) (CQ qc D n 91 [] [.r,.l,.r,.l] (qi qc 91))=qds D n a1 x0 x1 x2:=by
 rw[qi8]
 simp only[qqe,qp2]
 rfl
theorem qsl (D:DX)(n:Nat) (a0:List tWay) (a1:Clo):rfC qc D n 91 (a0,(a1,()))=qdy D n a0 a1:=by
 have h:rfC qc D n 91 (a0,(a1,()))=qd1 D n a1 (fun x0 x1 x2=>LQ qc D n 91 [.r,.l,.r,.l] n (qcg a1 x0 x1 x2) (CQ qc D n 91 [] [.r,.l,.r,.l] (qi qc 91))) a0:=by kernel_rfl
 rw[h]
 simp only[qp4]
 rfl

def q40 (D:DX)(n:Nat) (a0:ByteArray×ByteArray×Unit) (a1:ByteArray×ByteArray×Unit):Option ((Bool×Unit)×Unit):=qg (qzk D a0 a1) fun b↦some ((!Prod.fst (Prod.fst b),()),())
def qw1 (D:DX)(n:Nat) (a0:ByteArray×ByteArray×Unit) (a1:ByteArray×ByteArray×Unit):Option ((Bool×Unit)×Unit):=q40 D n a0 a1
theorem qbhr (D:DX)(n:Nat) (a0:ByteArray×ByteArray×Unit) (a1:ByteArray×ByteArray×Unit):rfC qc D n 92 (a0,(a1,()))=qw1 D n a0 a1:=by kernel_rfl

def qwq (D:DX)(n:Nat) (go:qd→List Int→Int→Int→qd→Option ((qd×Unit)×Unit)) (K0:qd→Option ((qd×Unit)×Unit)) (x0:qd) (x1:List Int) (x2:Int) (x3:Int) (x4:qd):Option ((qd×Unit)×Unit):=br (decide (x3<x2)) (br (decide (0≤x3)&&decide (x3<(↑(List.length x1):Int))) (qg (qge D (List.getD x1 (Int.toNat x3) 0) 0 (IntKind.wrap IntKind.i64 ((↑(List.length x0):Int) - 1))) fun b↦br (Prod.fst (Prod.fst b)) (br (decide (0≤List.getD x1 (Int.toNat x3) 0)&&decide (List.getD x1 (Int.toNat x3) 0<(↑(List.length x0):Int))) (br (decide (List.length x4+1≤qbh)) (go x0 x1 x2 (IntKind.wrap IntKind.i64 (x3+1)) (x4++[List.getD x0 (Int.toNat (List.getD x1 (Int.toNat x3) 0)) (0,0,ByteArray.empty,())])) none) none) (go x0 x1 x2 (IntKind.wrap IntKind.i64 (x3+1)) x4)) none) (K0 x4)
def qkg (D:DX)(n:Nat) (K0:qd→Option ((qd×Unit)×Unit)):Nat→(qd)→(List Int)→(Int)→(Int)→(qd)→Option ((qd×Unit)×Unit) | 0=>(fun x0 x1 x2 x3 x4=>none) | m+1=>(fun x0 x1 x2 x3 x4=>qwq D n (qkg D n K0 m) K0 x0 x1 x2 x3 x4)
def q18 (D:DX)(n:Nat) (v0_0:qd):Option ((qd×Unit)×Unit):=some ((v0_0,()),())
def qvv (D:DX)(n:Nat):(qd)→(List Int)→(Int)→(Int)→(qd)→Option ((qd×Unit)×Unit):=(fun x0 x1 x2 x3 x4=>qkg D n (fun v0_0=>q18 D n v0_0) n x0 x1 x2 x3 x4)
def qze (D:DX)(n:Nat) (lp0:qd→List Int→Int→Int→qd→Option ((qd×Unit)×Unit)) (a0:qd) (a1:List Int):Option ((qd×Unit)×Unit):=lp0 a0 a1 (↑(List.length a1):Int) 0 []
def qyz (D:DX)(n:Nat) (a0:qd) (a1:List Int):Option ((qd×Unit)×Unit):=qze D n (qvv D n) a0 a1
def qkm (x0:qd) (x1:List Int) (x2:Int) (x3:Int) (x4:qd):St:=stq 29 [(0,AV.val (Ty.sl yV) x0),(5,AV.brw 5 [] 0),(9,AV.val (Ty.sl yI) x1),(10,avI x2),(11,avI x3)] [(5,Root.mk (Ty.sl yV) (Mk.own 0 (Mk.pr Mk.no (Mk.pr Mk.no (Mk.pr Mk.no Mk.no)))) x4 false)] 
def qog (v0_0:qd):St:=stq 29 [(5,AV.brw 5 [] 0)] [(5,Root.mk (Ty.sl yV) (Mk.own 0 (Mk.pr Mk.no (Mk.pr Mk.no (Mk.pr Mk.no Mk.no)))) v0_0 false)] 
theorem qbfl (D:DX)(n:Nat) (m:Nat) (K:Ex→St→Option (Out ctx 94)) (x0:qd) (x1:List Int) (x2:Int) (x3:Int) (x4:qd) :
 LQ qc D n 94 [.r,.r,.l,.r,.l] (m+1) (qkm x0 x1 x2 x3 x4) K=qwq D n (fun x0 x1 x2 x3 x4=>LQ qc D n 94 [.r,.r,.l,.r,.l] m (qkm x0 x1 x2 x3 x4) K) (fun v0_0=>K (Ex.exit 0) (qog v0_0)) x0 x1 x2 x3 x4:=by kernel_rfl
theorem q4c (D:DX)(n:Nat) (K:Ex→St→Option (Out ctx 94)):∀ (m:Nat) (x0:qd) (x1:List Int) (x2:Int) (x3:Int) (x4:qd),LQ qc D n 94 [.r,.r,.l,.r,.l] m (qkm x0 x1 x2 x3 x4) K=qkg D n (fun v0_0=>K (Ex.exit 0) (qog v0_0)) m x0 x1 x2 x3 x4
 | 0,x0,x1,x2,x3,x4=>qz ..
 | m+1,x0,x1,x2,x3,x4=>by
  have ih:(fun x0 x1 x2 x3 x4=>LQ qc D n 94 [.r,.r,.l,.r,.l] m (qkm x0 x1 x2 x3 x4) K)=qkg D n (fun v0_0=>K (Ex.exit 0) (qog v0_0)) m:=by funext x0 x1 x2 x3 x4;exact q4c D n K m x0 x1 x2 x3 x4
  rw[qbfl]
  rw[ih];rfl
theorem qbc2 (D:DX)(n:Nat) (v0_0:qd) :
 (CQ qc D n 94 [] [.r,.r,.l,.r,.l] (qi qc 94)) (Ex.exit 0) (qog v0_0)=q18 D n v0_0:=by kernel_rfl
theorem qbc3 (D:DX)(n:Nat) (x0:qd) (x1:List Int) (x2:Int) (x3:Int) (x4:qd) :
 LQ qc D n 94 [.r,.r,.l,.r,.l] n (qkm x0 x1 x2 x3 x4) (CQ qc D n 94 [] [.r,.r,.l,.r,.l] (qi qc 94))=qvv D n x0 x1 x2 x3 x4:=by
 rw[q4c]
 simp only[qbc2]
 rfl
theorem qbiq (D:DX)(n:Nat) (a0:qd) (a1:List Int):rfC qc D n 94 (a0,(a1,()))=qyz D n a0 a1:=by
 have h:rfC qc D n 94 (a0,(a1,()))=qze D n (fun x0 x1 x2 x3 x4=>LQ qc D n 94 [.r,.r,.l,.r,.l] n (qkm x0 x1 x2 x3 x4) (CQ qc D n 94 [] [.r,.r,.l,.r,.l] (qi qc 94))) a0 a1:=by kernel_rfl
 rw[h]
 simp only[qbc3]
 rfl

def qfe (D:DX)(n:Nat) (a1:Clo) (go:Int→Int→List tWay→Option ((List tWay×Unit)×Unit)) (K0:Int→List tWay→Option ((List tWay×Unit)×Unit)) (x0:Int) (x1:Int) (x2:List tWay):Option ((List tWay×Unit)×Unit):=br (decide (x1<(↑(List.length x2):Int))) (br (decide (0≤x1)&&decide (x1<(↑(List.length x2):Int))) (qg (qbe ctx D a1 [CapV.val (Ty.pair Ty.str (Ty.pair Ty.str Ty.unit)) (List.getD x2 (Int.toNat x1) (ByteArray.empty,ByteArray.empty,()))] Ty.bool) fun b↦br (!b) (br (decide (0≤x0)&&decide (x0<(↑(List.length x2):Int))) (go (IntKind.wrap IntKind.i64 (x0+1)) (IntKind.wrap IntKind.i64 (x1+1)) (List.set x2 (Int.toNat x0) (List.getD x2 (Int.toNat x1) (ByteArray.empty,ByteArray.empty,())))) none) (go x0 (IntKind.wrap IntKind.i64 (x1+1)) x2)) none) (K0 x0 x2)
def qb5 (D:DX)(n:Nat) (a1:Clo) (K0:Int→List tWay→Option ((List tWay×Unit)×Unit)):Nat→(Int)→(Int)→(List tWay)→Option ((List tWay×Unit)×Unit) | 0=>(fun x0 x1 x2=>none) | m+1=>(fun x0 x1 x2=>qfe D n a1 (qb5 D n a1 K0 m) K0 x0 x1 x2)
def qdc (D:DX)(n:Nat) (a1:Clo) (v0_0:Int) (v0_1:List tWay):Option ((List tWay×Unit)×Unit):=br (decide (0≤v0_0)&&decide (v0_0≤(↑(List.length v0_1):Int))) (br (decide (Int.toNat v0_0<List.length v0_1)) (br (decide (0≤v0_0)&&decide (v0_0≤(↑(List.length (qi2 (Ty.pair Ty.str (Ty.pair Ty.str Ty.unit)) v0_1 (Int.toNat v0_0) (List.length v0_1))):Int))) (some ((List.take (Int.toNat v0_0) (qi2 (Ty.pair Ty.str (Ty.pair Ty.str Ty.unit)) v0_1 (Int.toNat v0_0) (List.length v0_1)),()),())) none) (br (decide (0≤v0_0)&&decide (v0_0≤(↑(List.length v0_1):Int))) (some ((List.take (Int.toNat v0_0) v0_1,()),())) none)) none
def qfa (D:DX)(n:Nat) (a1:Clo):(Int)→(Int)→(List tWay)→Option ((List tWay×Unit)×Unit):=(fun x0 x1 x2=>qb5 D n a1 (fun v0_0 v0_1=>qdc D n a1 v0_0 v0_1) n x0 x1 x2)
def qft (D:DX)(n:Nat) (a1:Clo) (lp0:Int→Int→List tWay→Option ((List tWay×Unit)×Unit)) (a0:List tWay):Option ((List tWay×Unit)×Unit):=qg (qd2 D a0 a1) fun b↦br (decide (Prod.fst (Prod.fst b) = -1)) (some ((a0,()),())) (lp0 (Prod.fst (Prod.fst b)) (IntKind.wrap IntKind.i64 (Prod.fst (Prod.fst b)+1)) a0)
def qfp (D:DX)(n:Nat) (a0:List tWay) (a1:Clo):Option ((List tWay×Unit)×Unit):=qft D n a1 (qfa D n a1) a0
def qb4 (a1:Clo) (x0:Int) (x1:Int) (x2:List tWay):St:=stq 42 [(0,AV.brw 0 [] 0),(1,AV.cloV a1),(5,avI x0),(6,avI x1)] [(0,Root.mk (Ty.sl (Ty.pair Ty.str (Ty.pair Ty.str Ty.unit))) (Mk.own 0 (Mk.pr Mk.no (Mk.pr Mk.no Mk.no))) x2 false)] 
def qdb (a1:Clo) (v0_0:Int) (v0_1:List tWay):St:=stq 42 [(0,AV.brw 0 [] 0),(5,avI v0_0)] [(0,Root.mk (Ty.sl (Ty.pair Ty.str (Ty.pair Ty.str Ty.unit))) (Mk.own 0 (Mk.pr Mk.no (Mk.pr Mk.no Mk.no))) v0_1 false)] 
theorem qql (D:DX)(n:Nat) (a1:Clo) (m:Nat) (K:Ex→St→Option (Out ctx 96)) (x0:Int) (x1:Int) (x2:List tWay) :
 LQ qc D n 96 [.r,.r,.r,.l,.r,.l] (m+1) (qb4 a1 x0 x1 x2) K=qfe D n a1 (fun x0 x1 x2=>LQ qc D n 96 [.r,.r,.r,.l,.r,.l] m (qb4 a1 x0 x1 x2) K) (fun v0_0 v0_1=>K (Ex.exit 0) (qdb a1 v0_0 v0_1)) x0 x1 x2:=by kernel_rfl
theorem qiq (D:DX)(n:Nat) (a1:Clo) (K:Ex→St→Option (Out ctx 96)):∀ (m:Nat) (x0:Int) (x1:Int) (x2:List tWay),LQ qc D n 96 [.r,.r,.r,.l,.r,.l] m (qb4 a1 x0 x1 x2) K=qb5 D n a1 (fun v0_0 v0_1=>K (Ex.exit 0) (qdb a1 v0_0 v0_1)) m x0 x1 x2
 | 0,x0,x1,x2=>qz ..
 | m+1,x0,x1,x2=>by
  have ih:(fun x0 x1 x2=>LQ qc D n 96 [.r,.r,.r,.l,.r,.l] m (qb4 a1 x0 x1 x2) K)=qb5 D n a1 (fun v0_0 v0_1=>K (Ex.exit 0) (qdb a1 v0_0 v0_1)) m:=by funext x0 x1 x2;exact qiq D n a1 K m x0 x1 x2
  rw[qql]
  rw[ih];rfl
theorem qpx (D:DX)(n:Nat) (a1:Clo) (v0_0:Int) (v0_1:List tWay) :
 (CQ qc D n 96 [] [.r,.r,.r,.l,.r,.l] (qi qc 96)) (Ex.exit 0) (qdb a1 v0_0 v0_1)=qdc D n a1 v0_0 v0_1:=by kernel_rfl
theorem qpi (D:DX)(n:Nat) (a1:Clo) (x0:Int) (x1:Int) (x2:List tWay) :
 LQ qc D n 96 [.r,.r,.r,.l,.r,.l] n (qb4 a1 x0 x1 x2) (CQ qc D n 96 [] [.r,.r,.r,.l,.r,.l] (qi qc 96))=qfa D n a1 x0 x1 x2:=by
 rw[qiq]
 simp only[qpx]
 rfl
theorem qr8 (D:DX)(n:Nat) (a0:List tWay) (a1:Clo):rfC qc D n 96 (a0,(a1,()))=qfp D n a0 a1:=by
 have h:rfC qc D n 96 (a0,(a1,()))=qft D n a1 (fun x0 x1 x2=>LQ qc D n 96 [.r,.r,.r,.l,.r,.l] n (qb4 a1 x0 x1 x2) (CQ qc D n 96 [] [.r,.r,.r,.l,.r,.l] (qi qc 96))) a0:=by kernel_rfl
 rw[h]
 simp only[qpi]
 rfl

def q5l (D:DX)(n:Nat) (a0:ByteArray×ByteArray×Unit) (a1:ByteArray×ByteArray×Unit):Option ((Bool×Unit)×Unit):=some ((qld (Ty.pair Ty.str (Ty.pair Ty.str Ty.unit)) a0 a1,()),())
def qxh (D:DX)(n:Nat) (a0:ByteArray×ByteArray×Unit) (a1:ByteArray×ByteArray×Unit):Option ((Bool×Unit)×Unit):=q5l D n a0 a1
theorem qbic (D:DX)(n:Nat) (a0:ByteArray×ByteArray×Unit) (a1:ByteArray×ByteArray×Unit):rfC qc D n 97 (a0,(a1,()))=qxh D n a0 a1:=by kernel_rfl

def q6x (D:DX)(n:Nat) (a0:(tSch)×qe×Unit):Option ((((tSch)×qe×Unit)×Unit)×Unit):=qg (qtm D (Prod.fst a0)) fun b↦qg (qjq D (Prod.fst (Prod.snd a0))) fun b_1↦some ((((Prod.fst (Prod.fst (Prod.fst b)),Prod.fst (Prod.snd (Prod.fst (Prod.fst b))),Prod.fst (Prod.snd (Prod.snd (Prod.fst (Prod.fst b)))),()),Prod.fst (Prod.fst b_1),()),()),())
def qzn (D:DX)(n:Nat) (a0:(tSch)×qe×Unit):Option ((((tSch)×qe×Unit)×Unit)×Unit):=q6x D n a0
theorem qbjq (D:DX)(n:Nat) (a0:(tSch)×
 qe×Unit):rfC qc D n 99 (a0,())=qzn D n a0:=by kernel_rfl

def q1h (D:DX)(n:Nat) (go:qd→Int→tSch→Option ((Bool×Unit)×Unit)) (K0:Bool→Option ((Bool×Unit)×Unit)) (K1:Option ((Bool×Unit)×Unit)) (x0:qd) (x1:Int) (x2:tSch):Option ((Bool×Unit)×Unit):=br (decide (x1<(↑(List.length x0):Int))) (br (decide (0≤x1)&&decide (x1<(↑(List.length x0):Int))) (qg (qym D (List.getD x0 (Int.toNat x1) (0,0,ByteArray.empty,()))) fun b↦br (!Prod.fst (Prod.fst b)) (K0 false) (br (decide (0≤x1)&&decide (x1<(↑(List.length x0):Int))) (br (decide (0≤x1)&&decide (x1<(↑(List.length (Prod.fst x2)):Int))) (br (Prod.fst (List.getD x0 (Int.toNat x1) (0,0,ByteArray.empty,())) != Prod.fst (Prod.snd (List.getD (Prod.fst x2) (Int.toNat x1) (ByteArray.empty,0,false,())))) (br (decide (0≤x1)&&decide (x1<(↑(List.length (Prod.fst x2)):Int))) (br (Prod.fst (Prod.snd (Prod.snd (List.getD (Prod.fst x2) (Int.toNat x1) (ByteArray.empty,0,false,()))))) (br (decide (0≤x1)&&decide (x1<(↑(List.length x0):Int))) (br (!decide (Prod.fst (List.getD x0 (Int.toNat x1) (0,0,ByteArray.empty,()))=0)) (K0 false) (go x0 (IntKind.wrap IntKind.i64 (x1+1)) x2)) none) (K0 false)) none) (go x0 (IntKind.wrap IntKind.i64 (x1+1)) x2)) none) none)) none) K1
def qma (D:DX)(n:Nat) (K0:Bool→Option ((Bool×Unit)×Unit)) (K1:Option ((Bool×Unit)×Unit)):Nat→(qd)→(Int)→(tSch)→Option ((Bool×Unit)×Unit) | 0=>(fun x0 x1 x2=>none) | m+1=>(fun x0 x1 x2=>q1h D n (qma D n K0 K1 m) K0 K1 x0 x1 x2)
def q5s (D:DX)(n:Nat) (v0_0:Bool):Option ((Bool×Unit)×Unit):=some ((v0_0,()),())
def q5b (D:DX)(n:Nat):Option ((Bool×Unit)×Unit):=some ((true,()),())
def qy8 (D:DX)(n:Nat):(qd)→(Int)→(tSch)→Option ((Bool×Unit)×Unit):=(fun x0 x1 x2=>qma D n (fun v0_0=>q5s D n v0_0) (q5b D n) n x0 x1 x2)
def q3h (D:DX)(n:Nat) (lp0:qd→Int→tSch→Option ((Bool×Unit)×Unit)) (a0:tSch) (a1:qd):Option ((Bool×Unit)×Unit):=qg (qrp D a0) fun b↦br (bif !Prod.fst (Prod.fst b) then true else (↑(List.length a1):Int) != (↑(List.length (Prod.fst a0)):Int)) (some ((false,()),())) (lp0 a1 0 a0)
def q3l (D:DX)(n:Nat) (a0:tSch) (a1:qd):Option ((Bool×Unit)×Unit):=q3h D n (qy8 D n) a0 a1
def qmq (x0:qd) (x1:Int) (x2:tSch):St:=stq 60 [(1,AV.val (Ty.sl yV) x0),(2,AV.addr 2 []),(5,avI x1)] [(2,Root.mk yS Mk.no x2 true)] 
def qrs (v0_0:Bool):St:=stq 60 [(4,AV.val Ty.bool v0_0)] [] 
def qrl:St:=stq 60 [] [] 
theorem qbjn (D:DX)(n:Nat) (m:Nat) (K:Ex→St→Option (Out ctx 100)) (x0:qd) (x1:Int) (x2:tSch) :
 LQ qc D n 100 [.r,.r,.l,.r,.l] (m+1) (qmq x0 x1 x2) K=q1h D n (fun x0 x1 x2=>LQ qc D n 100 [.r,.r,.l,.r,.l] m (qmq x0 x1 x2) K) (fun v0_0=>K (Ex.ret) (qrs v0_0)) (K (Ex.exit 0) (qrl)) x0 x1 x2:=by kernel_rfl
theorem q7e (D:DX)(n:Nat) (K:Ex→St→Option (Out ctx 100)):∀ (m:Nat) (x0:qd) (x1:Int) (x2:tSch),LQ qc D n 100 [.r,.r,.l,.r,.l] m (qmq x0 x1 x2) K=qma D n (fun v0_0=>K (Ex.ret) (qrs v0_0)) (K (Ex.exit 0) (qrl)) m x0 x1 x2
 | 0,x0,x1,x2=>qz ..
 | m+1,x0,x1,x2=>by
  have ih:(fun x0 x1 x2=>LQ qc D n 100 [.r,.r,.l,.r,.l] m (qmq x0 x1 x2) K)=qma D n (fun v0_0=>K (Ex.ret) (qrs v0_0)) (K (Ex.exit 0) (qrl)) m:=by funext x0 x1 x2;exact q7e D n K m x0 x1 x2
  rw[qbjn]
  rw[ih];rfl
theorem qbha (D:DX)(n:Nat) (v0_0:Bool) :
 (CQ qc D n 100 [] [.r,.r,.l,.r,.l] (qi qc 100)) (Ex.ret) (qrs v0_0)=q5s D n v0_0:=by kernel_rfl
theorem qbge (D:DX)(n:Nat) :
 (CQ qc D n 100 [] [.r,.r,.l,.r,.l] (qi qc 100)) (Ex.exit 0) (qrl)=q5b D n:=by kernel_rfl
theorem qbgs (D:DX)(n:Nat) (x0:qd) (x1:Int) (x2:tSch) :
 LQ qc D n 100 [.r,.r,.l,.r,.l] n (qmq x0 x1 x2) (CQ qc D n 100 [] [.r,.r,.l,.r,.l] (qi qc 100))=qy8 D n x0 x1 x2:=by
 rw[q7e]
 simp only[qbha,qbge]
 rfl
theorem qbnw (D:DX)(n:Nat) (a0:tSch) (a1:qd):rfC qc D n 100 (a0,(a1,()))=q3l D n a0 a1:=by
 have h:rfC qc D n 100 (a0,(a1,()))=q3h D n (fun x0 x1 x2=>LQ qc D n 100 [.r,.r,.l,.r,.l] n (qmq x0 x1 x2) (CQ qc D n 100 [] [.r,.r,.l,.r,.l] (qi qc 100))) a0 a1:=by kernel_rfl
 rw[h]
 simp only[qbgs]
 rfl

def q1d (D:DX)(n:Nat) (go:qd→Int→(tSch)×qe×Unit→Option ((Int×Unit)×Unit)) (K0:Int→Option ((Int×Unit)×Unit)) (K1:Option ((Int×Unit)×Unit)) (x0:qd) (x1:Int) (x2:(tSch)×qe×Unit):Option ((Int×Unit)×Unit):=br (decide (x1<(↑(List.length (Prod.fst (Prod.snd x2))):Int))) (br (decide (0≤x1)&&decide (x1<(↑(List.length (Prod.fst (Prod.snd x2))):Int))) (qg (qek D (Prod.fst x2) (List.getD (Prod.fst (Prod.snd x2)) (Int.toNat x1) [])) fun b↦qg (qtn D (Prod.fst (Prod.fst b)) x0) fun b↦br (Prod.fst (Prod.fst b)) (K0 x1) (go x0 (IntKind.wrap IntKind.i64 (x1+1)) x2)) none) K1
def qmf (D:DX)(n:Nat) (K0:Int→Option ((Int×Unit)×Unit)) (K1:Option ((Int×Unit)×Unit)):Nat→(qd)→(Int)→((tSch)×qe×Unit)→Option ((Int×Unit)×Unit) | 0=>(fun x0 x1 x2=>none) | m+1=>(fun x0 x1 x2=>q1d D n (qmf D n K0 K1 m) K0 K1 x0 x1 x2)
def q47 (D:DX)(n:Nat) (v0_0:Int):Option ((Int×Unit)×Unit):=some ((v0_0,()),())
def q44 (D:DX)(n:Nat):Option ((Int×Unit)×Unit):=some ((-1,()),())
def qz5 (D:DX)(n:Nat):(qd)→(Int)→((tSch)×qe×Unit)→Option ((Int×Unit)×Unit):=(fun x0 x1 x2=>qmf D n (fun v0_0=>q47 D n v0_0) (q44 D n) n x0 x1 x2)
def q3d (D:DX)(n:Nat) (lp0:qd→Int→(tSch)×qe×Unit→Option ((Int×Unit)×Unit)) (a0:(tSch)×qe×Unit) (a1:qd):Option ((Int×Unit)×Unit):=lp0 a1 0 a0
def q3i (D:DX)(n:Nat) (a0:(tSch)×qe×Unit) (a1:qd):Option ((Int×Unit)×Unit):=q3d D n (qz5 D n) a0 a1
def qmm (x0:qd) (x1:Int) (x2:(tSch)×qe×Unit):St:=stq 24 [(1,AV.val (Ty.sl yV) x0),(2,AV.addr 2 []),(5,avI x1)] [(2,Root.mk (Ty.pair yS (Ty.pair (Ty.sl (Ty.sl yV)) Ty.unit)) Mk.no x2 true)] 
def qrn (v0_0:Int):St:=stq 24 [(4,avI v0_0)] [] 
def qr3:St:=stq 24 [] [] 
theorem qbil (D:DX)(n:Nat) (m:Nat) (K:Ex→St→Option (Out ctx 101)) (x0:qd) (x1:Int) (x2:(tSch)×
 qe×Unit) :
 LQ qc D n 101 [.r,.l,.r,.l] (m+1) (qmm x0 x1 x2) K=q1d D n (fun x0 x1 x2=>LQ qc D n 101 [.r,.l,.r,.l] m (qmm x0 x1 x2) K) (fun v0_0=>K (Ex.ret) (qrn v0_0)) (K (Ex.exit 0) (qr3)) x0 x1 x2:=by kernel_rfl
theorem q6l (D:DX)(n:Nat) (K:Ex→St→Option (Out ctx 101)):∀ (m:Nat) (x0:qd) (x1:Int) (x2:(tSch)×
 qe×Unit),LQ qc D n 101 [.r,.l,.r,.l] m (qmm x0 x1 x2) K=qmf D n (fun v0_0=>K (Ex.ret) (qrn v0_0)) (K (Ex.exit 0) (qr3)) m x0 x1 x2
 | 0,x0,x1,x2=>qz ..
 | m+1,x0,x1,x2=>by
  have ih:(fun x0 x1 x2=>LQ qc D n 101 [.r,.l,.r,.l] m (qmm x0 x1 x2) K)=qmf D n (fun v0_0=>K (Ex.ret) (qrn v0_0)) (K (Ex.exit 0) (qr3)) m:=by funext x0 x1 x2;exact q6l D n K m x0 x1 x2
  rw[qbil]
  rw[ih];rfl
theorem qbh5 (D:DX)(n:Nat) (v0_0:Int) :
 (CQ qc D n 101 [] [.r,.l,.r,.l] (qi qc 101)) (Ex.ret) (qrn v0_0)=q47 D n v0_0:=by kernel_rfl
theorem qbht (D:DX)(n:Nat) :
 (CQ qc D n 101 [] [.r,.l,.r,.l] (qi qc 101)) (Ex.exit 0) (qr3)=q44 D n:=by kernel_rfl
theorem qbgm (D:DX)(n:Nat) (x0:qd) (x1:Int) (x2:(tSch)×
 qe×Unit) :
 LQ qc D n 101 [.r,.l,.r,.l] n (qmm x0 x1 x2) (CQ qc D n 101 [] [.r,.l,.r,.l] (qi qc 101))=qz5 D n x0 x1 x2:=by
 rw[q6l]
 simp only[qbh5,qbht]
 rfl
theorem qbnq (D:DX)(n:Nat) (a0:(tSch)×
 qe×Unit) (a1:qd):rfC qc D n 101 (a0,(a1,()))=q3i D n a0 a1:=by
 have h:rfC qc D n 101 (a0,(a1,()))=q3d D n (fun x0 x1 x2=>LQ qc D n 101 [.r,.l,.r,.l] n (qmm x0 x1 x2) (CQ qc D n 101 [] [.r,.l,.r,.l] (qi qc 101))) a0 a1:=by kernel_rfl
 rw[h]
 simp only[qbgm]
 rfl

def q5c (D:DX)(n:Nat) (a0:tSch) (a1:qd):Option ((qd×Unit)×Unit):=qg (qos D a1 (Prod.fst (Prod.snd a0))) fun b↦some ((Prod.fst (Prod.fst b),()),())
def qwk (D:DX)(n:Nat) (a0:tSch) (a1:qd):Option ((qd×Unit)×Unit):=q5c D n a0 a1
theorem qbgk (D:DX)(n:Nat) (a0:tSch) (a1:qd):rfC qc D n 102 (a0,(a1,()))=qwk D n a0 a1:=by kernel_rfl

def qt9 (D:DX)(n:Nat) (go:qd→Int→Int→(tSch)×qe×Unit→Option ((Bool×Unit)×Unit)) (K0:Bool→Option ((Bool×Unit)×Unit)) (K1:Option ((Bool×Unit)×Unit)) (x0:qd) (x1:Int) (x2:Int) (x3:(tSch)×qe×Unit):Option ((Bool×Unit)×Unit):=br (decide (x2<(↑(List.length (Prod.fst (Prod.snd x3))):Int))) (br (x2 != x1) (br (decide (0≤x2)&&decide (x2<(↑(List.length (Prod.fst (Prod.snd x3))):Int))) (qg (qr0 D (Prod.fst x3) (List.getD (Prod.fst (Prod.snd x3)) (Int.toNat x2) []) x0) fun b↦br (Prod.fst (Prod.fst b)) (K0 true) (go x0 x1 (IntKind.wrap IntKind.i64 (x2+1)) x3)) none) (go x0 x1 (IntKind.wrap IntKind.i64 (x2+1)) x3)) K1
def qie (D:DX)(n:Nat) (K0:Bool→Option ((Bool×Unit)×Unit)) (K1:Option ((Bool×Unit)×Unit)):Nat→(qd)→(Int)→(Int)→((tSch)×qe×Unit)→Option ((Bool×Unit)×Unit) | 0=>(fun x0 x1 x2 x3=>none) | m+1=>(fun x0 x1 x2 x3=>qt9 D n (qie D n K0 K1 m) K0 K1 x0 x1 x2 x3)
def qyb (D:DX)(n:Nat) (v0_0:Bool):Option ((Bool×Unit)×Unit):=some ((v0_0,()),())
def qx7 (D:DX)(n:Nat):Option ((Bool×Unit)×Unit):=some ((false,()),())
def qs0 (D:DX)(n:Nat):(qd)→(Int)→(Int)→((tSch)×qe×Unit)→Option ((Bool×Unit)×Unit):=(fun x0 x1 x2 x3=>qie D n (fun v0_0=>qyb D n v0_0) (qx7 D n) n x0 x1 x2 x3)
def qv3 (D:DX)(n:Nat) (lp0:qd→Int→Int→(tSch)×qe×Unit→Option ((Bool×Unit)×Unit)) (a0:(tSch)×qe×Unit) (a1:qd) (a2:Int):Option ((Bool×Unit)×Unit):=lp0 a1 a2 0 a0
def qvj (D:DX)(n:Nat) (a0:(tSch)×qe×Unit) (a1:qd) (a2:Int):Option ((Bool×Unit)×Unit):=qv3 D n (qs0 D n) a0 a1 a2
def qij (x0:qd) (x1:Int) (x2:Int) (x3:(tSch)×qe×Unit):St:=stq 29 [(1,AV.val (Ty.sl yV) x0),(2,avI x1),(3,AV.addr 3 []),(7,avI x2)] [(3,Root.mk (Ty.pair yS (Ty.pair (Ty.sl (Ty.sl yV)) Ty.unit)) Mk.no x3 true)] 
def ql8 (v0_0:Bool):St:=stq 29 [(6,AV.val Ty.bool v0_0)] [] 
def ql1:St:=stq 29 [] [] 
theorem qbax (D:DX)(n:Nat) (m:Nat) (K:Ex→St→Option (Out ctx 103)) (x0:qd) (x1:Int) (x2:Int) (x3:(tSch)×
 qe×Unit) :
 LQ qc D n 103 [.r,.l,.r,.l] (m+1) (qij x0 x1 x2 x3) K=qt9 D n (fun x0 x1 x2 x3=>LQ qc D n 103 [.r,.l,.r,.l] m (qij x0 x1 x2 x3) K) (fun v0_0=>K (Ex.ret) (ql8 v0_0)) (K (Ex.exit 0) (ql1)) x0 x1 x2 x3:=by kernel_rfl
theorem q0z (D:DX)(n:Nat) (K:Ex→St→Option (Out ctx 103)):∀ (m:Nat) (x0:qd) (x1:Int) (x2:Int) (x3:(tSch)×
 qe×Unit),LQ qc D n 103 [.r,.l,.r,.l] m (qij x0 x1 x2 x3) K=qie D n (fun v0_0=>K (Ex.ret) (ql8 v0_0)) (K (Ex.exit 0) (ql1)) m x0 x1 x2 x3
 | 0,x0,x1,x2,x3=>qz ..
 | m+1,x0,x1,x2,x3=>by
  have ih:(fun x0 x1 x2 x3=>LQ qc D n 103 [.r,.l,.r,.l] m (qij x0 x1 x2 x3) K)=qie D n (fun v0_0=>K (Ex.ret) (ql8 v0_0)) (K (Ex.exit 0) (ql1)) m:=by funext x0 x1 x2 x3;exact q0z D n K m x0 x1 x2 x3
  rw[qbax]
  rw[ih];rfl
theorem q9q (D:DX)(n:Nat) (v0_0:Bool) :
 (CQ qc D n 103 [] [.r,.l,.r,.l] (qi qc 103)) (Ex.ret) (ql8 v0_0)=qyb D n v0_0:=by kernel_rfl
theorem q9f (D:DX)(n:Nat) :
 (CQ qc D n 103 [] [.r,.l,.r,.l] (qi qc 103)) (Ex.exit 0) (ql1)=qx7 D n:=by kernel_rfl
theorem q9l (D:DX)(n:Nat) (x0:qd) (x1:Int) (x2:Int) (x3:(tSch)×
 qe×Unit) :
 LQ qc D n 103 [.r,.l,.r,.l] n (qij x0 x1 x2 x3) (CQ qc D n 103 [] [.r,.l,.r,.l] (qi qc 103))=qs0 D n x0 x1 x2 x3:=by
 rw[q0z]
 simp only[q9q,q9f]
 rfl
theorem qbev (D:DX)(n:Nat) (a0:(tSch)×
 qe×Unit) (a1:qd) (a2:Int):rfC qc D n 103 (a0,(a1,(a2,())))=qvj D n a0 a1 a2:=by
 have h:rfC qc D n 103 (a0,(a1,(a2,())))=qv3 D n (fun x0 x1 x2 x3=>LQ qc D n 103 [.r,.l,.r,.l] n (qij x0 x1 x2 x3) (CQ qc D n 103 [] [.r,.l,.r,.l] (qi qc 103))) a0 a1 a2:=by kernel_rfl
 rw[h]
 simp only[q9l]
 rfl

def qtu (D:DX)(n:Nat) (go:qd→qd→Int→Option ((Bool×Unit)×Unit)) (K0:qd→qd→Bool→Option ((Bool×Unit)×Unit)) (K1:qd→qd→Option ((Bool×Unit)×Unit)) (x0:qd) (x1:qd) (x2:Int):Option ((Bool×Unit)×Unit):=br (bif decide (x2<(↑(List.length x0):Int)) then decide (x2<(↑(List.length x1):Int)) else false) (br (decide (0≤x2)&&decide (x2<(↑(List.length x0):Int))) (br (decide (0≤x2)&&decide (x2<(↑(List.length x1):Int))) (qg (qpp D (List.getD x0 (Int.toNat x2) (0,0,ByteArray.empty,())) (List.getD x1 (Int.toNat x2) (0,0,ByteArray.empty,()))) fun b↦br (!Prod.fst (Prod.fst b)) (br (decide (0≤x2)&&decide (x2<(↑(List.length x0):Int))) (br (decide (0≤x2)&&decide (x2<(↑(List.length x1):Int))) (qg (qv7 D (List.getD x0 (Int.toNat x2) (0,0,ByteArray.empty,())) (List.getD x1 (Int.toNat x2) (0,0,ByteArray.empty,()))) fun b↦K0 x0 x1 (Prod.fst (Prod.fst b))) none) none) (go x0 x1 (IntKind.wrap IntKind.i64 (x2+1)))) none) none) (K1 x0 x1)
def qim (D:DX)(n:Nat) (K0:qd→qd→Bool→Option ((Bool×Unit)×Unit)) (K1:qd→qd→Option ((Bool×Unit)×Unit)):Nat→(qd)→(qd)→(Int)→Option ((Bool×Unit)×Unit) | 0=>(fun x0 x1 x2=>none) | m+1=>(fun x0 x1 x2=>qtu D n (qim D n K0 K1 m) K0 K1 x0 x1 x2)
def qq4 (D:DX)(n:Nat) (v0_0:qd) (v0_1:qd) (v0_2:Bool):Option ((Bool×Unit)×Unit):=some ((v0_2,()),())
def qi6 (D:DX)(n:Nat) (v1_0:qd) (v1_1:qd):Option ((Bool×Unit)×Unit):=some ((decide ((↑(List.length v1_0):Int)<(↑(List.length v1_1):Int)),()),())
def qsj (D:DX)(n:Nat):(qd)→(qd)→(Int)→Option ((Bool×Unit)×Unit):=(fun x0 x1 x2=>qim D n (fun v0_0 v0_1 v0_2=>qq4 D n v0_0 v0_1 v0_2) (fun v1_0 v1_1=>qi6 D n v1_0 v1_1) n x0 x1 x2)
def qu8 (D:DX)(n:Nat) (lp0:qd→qd→Int→Option ((Bool×Unit)×Unit)) (a0:qd) (a1:qd):Option ((Bool×Unit)×Unit):=lp0 a0 a1 0
def qvq (D:DX)(n:Nat) (a0:qd) (a1:qd):Option ((Bool×Unit)×Unit):=qu8 D n (qsj D n) a0 a1
def qih (x0:qd) (x1:qd) (x2:Int):St:=stq 42 [(0,AV.val (Ty.sl yV) x0),(1,AV.val (Ty.sl yV) x1),(5,avI x2)] [] 
def ql6 (v0_0:qd) (v0_1:qd) (v0_2:Bool):St:=stq 42 [(0,AV.val (Ty.sl yV) v0_0),(1,AV.val (Ty.sl yV) v0_1),(4,AV.val Ty.bool v0_2)] [] 
def qlz (v1_0:qd) (v1_1:qd):St:=stq 42 [(0,AV.val (Ty.sl yV) v1_0),(1,AV.val (Ty.sl yV) v1_1)] [] 
theorem qba0 (D:DX)(n:Nat) (m:Nat) (K:Ex→St→Option (Out ctx 104)) (x0:qd) (x1:qd) (x2:Int) :
 LQ qc D n 104 [.r,.l,.r,.l] (m+1) (qih x0 x1 x2) K=qtu D n (fun x0 x1 x2=>LQ qc D n 104 [.r,.l,.r,.l] m (qih x0 x1 x2) K) (fun v0_0 v0_1 v0_2=>K (Ex.ret) (ql6 v0_0 v0_1 v0_2)) (fun v1_0 v1_1=>K (Ex.exit 0) (qlz v1_0 v1_1)) x0 x1 x2:=by kernel_rfl
theorem q0o (D:DX)(n:Nat) (K:Ex→St→Option (Out ctx 104)):∀ (m:Nat) (x0:qd) (x1:qd) (x2:Int),LQ qc D n 104 [.r,.l,.r,.l] m (qih x0 x1 x2) K=qim D n (fun v0_0 v0_1 v0_2=>K (Ex.ret) (ql6 v0_0 v0_1 v0_2)) (fun v1_0 v1_1=>K (Ex.exit 0) (qlz v1_0 v1_1)) m x0 x1 x2
 | 0,x0,x1,x2=>qz ..
 | m+1,x0,x1,x2=>by
  have ih:(fun x0 x1 x2=>LQ qc D n 104 [.r,.l,.r,.l] m (qih x0 x1 x2) K)=qim D n (fun v0_0 v0_1 v0_2=>K (Ex.ret) (ql6 v0_0 v0_1 v0_2)) (fun v1_0 v1_1=>K (Ex.exit 0) (qlz v1_0 v1_1)) m:=by funext x0 x1 x2;exact q0o D n K m x0 x1 x2
  rw[qba0]
  rw[ih];rfl
theorem q9o (D:DX)(n:Nat) (v0_0:qd) (v0_1:qd) (v0_2:Bool) :
 (CQ qc D n 104 [] [.r,.l,.r,.l] (qi qc 104)) (Ex.ret) (ql6 v0_0 v0_1 v0_2)=qq4 D n v0_0 v0_1 v0_2:=by kernel_rfl
theorem q9h (D:DX)(n:Nat) (v1_0:qd) (v1_1:qd) :
 (CQ qc D n 104 [] [.r,.l,.r,.l] (qi qc 104)) (Ex.exit 0) (qlz v1_0 v1_1)=qi6 D n v1_0 v1_1:=by kernel_rfl
theorem qbab (D:DX)(n:Nat) (x0:qd) (x1:qd) (x2:Int) :
 LQ qc D n 104 [.r,.l,.r,.l] n (qih x0 x1 x2) (CQ qc D n 104 [] [.r,.l,.r,.l] (qi qc 104))=qsj D n x0 x1 x2:=by
 rw[q0o]
 simp only[q9o,q9h]
 rfl
theorem qbe3 (D:DX)(n:Nat) (a0:qd) (a1:qd):rfC qc D n 104 (a0,(a1,()))=qvq D n a0 a1:=by
 have h:rfC qc D n 104 (a0,(a1,()))=qu8 D n (fun x0 x1 x2=>LQ qc D n 104 [.r,.l,.r,.l] n (qih x0 x1 x2) (CQ qc D n 104 [] [.r,.l,.r,.l] (qi qc 104))) a0 a1:=by kernel_rfl
 rw[h]
 simp only[qbab]
 rfl

def qwt (D:DX)(n:Nat) (go:qe→Int→qe→Option ((qe×Unit)×Unit)) (K0:qe→Option ((qe×Unit)×Unit)) (x0:qe) (x1:Int) (x2:qe):Option ((qe×Unit)×Unit):=br (decide (x1<(↑(List.length x0):Int))) (br (decide (0≤x1)&&decide (x1<(↑(List.length x0):Int))) (br (decide (0+List.length (List.getD x0 (Int.toNat x1) [])≤qbh)) (br (decide (List.length x2+1≤qbh)) (go x0 (IntKind.wrap IntKind.i64 (x1+1)) (x2++[[]++List.getD x0 (Int.toNat x1) []])) none) none) none) (K0 x2)
def qkf (D:DX)(n:Nat) (K0:qe→Option ((qe×Unit)×Unit)):Nat→(qe)→(Int)→(qe)→Option ((qe×Unit)×Unit) | 0=>(fun x0 x1 x2=>none) | m+1=>(fun x0 x1 x2=>qwt D n (qkf D n K0 m) K0 x0 x1 x2)
def q2f (D:DX)(n:Nat) (v0_0:qe):Option ((qe×Unit)×Unit):=some ((v0_0,()),())
def qvn (D:DX)(n:Nat):(qe)→(Int)→(qe)→Option ((qe×Unit)×Unit):=(fun x0 x1 x2=>qkf D n (fun v0_0=>q2f D n v0_0) n x0 x1 x2)
def qzo (D:DX)(n:Nat) (lp0:qe→Int→qe→Option ((qe×Unit)×Unit)) (a0:qe):Option ((qe×Unit)×Unit):=lp0 a0 0 []
def qyu (D:DX)(n:Nat) (a0:qe):Option ((qe×Unit)×Unit):=qzo D n (qvn D n) a0
def qkp (x0:qe) (x1:Int) (x2:qe):St:=stq 22 [(0,AV.val (Ty.sl (Ty.sl yV)) x0),(3,AV.brw 3 [] 0),(4,avI x1)] [(3,Root.mk (Ty.sl (Ty.sl yV)) (Mk.own 0 (Mk.own 0 (Mk.pr Mk.no (Mk.pr Mk.no (Mk.pr Mk.no Mk.no))))) x2 false)] 
def qoa (v0_0:qe):St:=stq 22 [(3,AV.brw 3 [] 0)] [(3,Root.mk (Ty.sl (Ty.sl yV)) (Mk.own 0 (Mk.own 0 (Mk.pr Mk.no (Mk.pr Mk.no (Mk.pr Mk.no Mk.no))))) v0_0 false)] 
theorem qbfu (D:DX)(n:Nat) (m:Nat) (K:Ex→St→Option (Out ctx 105)) (x0:qe) (x1:Int) (x2:qe) :
 LQ qc D n 105 [.r,.r,.l,.r,.l] (m+1) (qkp x0 x1 x2) K=qwt D n (fun x0 x1 x2=>LQ qc D n 105 [.r,.r,.l,.r,.l] m (qkp x0 x1 x2) K) (fun v0_0=>K (Ex.exit 0) (qoa v0_0)) x0 x1 x2:=by kernel_rfl
theorem q36 (D:DX)(n:Nat) (K:Ex→St→Option (Out ctx 105)):∀ (m:Nat) (x0:qe) (x1:Int) (x2:qe),LQ qc D n 105 [.r,.r,.l,.r,.l] m (qkp x0 x1 x2) K=qkf D n (fun v0_0=>K (Ex.exit 0) (qoa v0_0)) m x0 x1 x2
 | 0,x0,x1,x2=>qz ..
 | m+1,x0,x1,x2=>by
  have ih:(fun x0 x1 x2=>LQ qc D n 105 [.r,.r,.l,.r,.l] m (qkp x0 x1 x2) K)=qkf D n (fun v0_0=>K (Ex.exit 0) (qoa v0_0)) m:=by funext x0 x1 x2;exact q36 D n K m x0 x1 x2
  rw[qbfu]
  rw[ih];rfl
theorem qbc8 (D:DX)(n:Nat) (v0_0:qe) :
 (CQ qc D n 105 [] [.r,.r,.l,.r,.l] (qi qc 105)) (Ex.exit 0) (qoa v0_0)=q2f D n v0_0:=by kernel_rfl
theorem qbdp (D:DX)(n:Nat) (x0:qe) (x1:Int) (x2:qe) :
 LQ qc D n 105 [.r,.r,.l,.r,.l] n (qkp x0 x1 x2) (CQ qc D n 105 [] [.r,.r,.l,.r,.l] (qi qc 105))=qvn D n x0 x1 x2:=by
 rw[q36]
 simp only[qbc8]
 rfl
theorem qbi6 (D:DX)(n:Nat) (a0:qe):rfC qc D n 105 (a0,())=qyu D n a0:=by
 have h:rfC qc D n 105 (a0,())=qzo D n (fun x0 x1 x2=>LQ qc D n 105 [.r,.r,.l,.r,.l] n (qkp x0 x1 x2) (CQ qc D n 105 [] [.r,.r,.l,.r,.l] (qi qc 105))) a0:=by kernel_rfl
 rw[h]
 simp only[qbdp]
 rfl


def qsy (D:DX)(n:Nat) (go:tIxs→Int→Int→tSch→tSch→Option (((tSch)×Unit)×Unit)) (K0:tSch→tSch→Option (((tSch)×Unit)×Unit)) (x0:tIxs) (x1:Int) (x2:Int) (x3:tSch) (x4:tSch):Option (((tSch)×Unit)×Unit):=br (decide (x2<x1)) (br (decide (0≤x2)&&decide (x2<(↑(List.length x0):Int))) (qg (qjz D (Prod.fst (Prod.snd (List.getD x0 (Int.toNat x2) (ByteArray.empty,[],false,()))))) fun b↦br (decide (List.length (Prod.fst (Prod.snd (Prod.snd x4)))+1≤qbh)) (go x0 x1 (IntKind.wrap IntKind.i64 (x2+1)) x3 (Prod.fst x4,Prod.fst (Prod.snd x4),Prod.fst (Prod.snd (Prod.snd x4))++[(Prod.fst (List.getD x0 (Int.toNat x2) (ByteArray.empty,[],false,())),Prod.fst (Prod.fst b),Prod.snd (Prod.snd (List.getD x0 (Int.toNat x2) (ByteArray.empty,[],false,()))))],Prod.snd (Prod.snd (Prod.snd x4)))) none) none) (K0 x3 x4)
def qhy (D:DX)(n:Nat) (K0:tSch→tSch→Option (((tSch)×Unit)×Unit)):Nat→(tIxs)→(Int)→(Int)→(tSch)→(tSch)→Option (((tSch)×Unit)×Unit) | 0=>(fun x0 x1 x2 x3 x4=>none) | m+1=>(fun x0 x1 x2 x3 x4=>qsy D n (qhy D n K0 m) K0 x0 x1 x2 x3 x4)
def qxr (D:DX)(n:Nat) (v0_0:tSch) (v0_1:tSch):Option (((tSch)×Unit)×Unit):=some (((Prod.fst v0_1,Prod.fst (Prod.snd v0_1),Prod.fst (Prod.snd (Prod.snd v0_1)),()),()),())
def qq7 (D:DX)(n:Nat):(tIxs)→(Int)→(Int)→(tSch)→(tSch)→Option (((tSch)×Unit)×Unit):=(fun x0 x1 x2 x3 x4=>qhy D n (fun v0_0 v0_1=>qxr D n v0_0 v0_1) n x0 x1 x2 x3 x4)
def qt1 (D:DX)(n:Nat) (lp0:tIxs→Int→Int→tSch→tSch→Option (((tSch)×Unit)×Unit)) (a0:tSch):Option (((tSch)×Unit)×Unit):=qg (qhf D (Prod.fst a0)) fun b↦qg (qjz D (Prod.fst (Prod.snd a0))) fun b_1↦lp0 (Prod.fst (Prod.snd (Prod.snd a0))) (↑(List.length (Prod.fst (Prod.snd (Prod.snd a0)))):Int) 0 ([],[],[],()) (Prod.fst (Prod.fst b),Prod.fst (Prod.fst b_1),[],())
def qt0 (D:DX)(n:Nat) (a0:tSch):Option (((tSch)×Unit)×Unit):=qt1 D n (qq7 D n) a0
def qhs (x0:tIxs) (x1:Int) (x2:Int) (x3:tSch) (x4:tSch):St:=stq 32 [(2,AV.addr 2 []),(3,AV.addr 3 []),(14,AV.val (Ty.sl yX) x0),(15,avI x1),(16,avI x2)] [(2,Root.mk yS (Mk.pr (Mk.own 0 (Mk.pr Mk.no (Mk.pr Mk.no (Mk.pr Mk.no Mk.no)))) (Mk.pr (Mk.own 0 Mk.no) (Mk.pr (Mk.own 0 (Mk.pr Mk.no (Mk.pr (Mk.own 0 Mk.no) (Mk.pr Mk.no Mk.no)))) Mk.no))) x3 true),(3,Root.mk yS (Mk.pr (Mk.own 0 (Mk.pr Mk.no (Mk.pr Mk.no (Mk.pr Mk.no Mk.no)))) (Mk.pr (Mk.own 0 Mk.no) (Mk.pr (Mk.own 0 (Mk.pr Mk.no (Mk.pr (Mk.own 0 Mk.no) (Mk.pr Mk.no Mk.no)))) Mk.no))) x4 true)] 
def qk4 (v0_0:tSch) (v0_1:tSch):St:=stq 32 [(2,AV.addr 2 []),(3,AV.addr 3 [])] [(2,Root.mk yS (Mk.pr (Mk.own 0 (Mk.pr Mk.no (Mk.pr Mk.no (Mk.pr Mk.no Mk.no)))) (Mk.pr (Mk.own 0 Mk.no) (Mk.pr (Mk.own 0 (Mk.pr Mk.no (Mk.pr (Mk.own 0 Mk.no) (Mk.pr Mk.no Mk.no)))) Mk.no))) v0_0 true),(3,Root.mk yS (Mk.pr (Mk.own 0 (Mk.pr Mk.no (Mk.pr Mk.no (Mk.pr Mk.no Mk.no)))) (Mk.pr (Mk.own 0 Mk.no) (Mk.pr (Mk.own 0 (Mk.pr Mk.no (Mk.pr (Mk.own 0 Mk.no) (Mk.pr Mk.no Mk.no)))) Mk.no))) v0_1 true)] 
theorem q9e (D:DX)(n:Nat) (m:Nat) (K:Ex→St→Option (Out ctx 107)) (x0:tIxs) (x1:Int) (x2:Int) (x3:tSch) (x4:tSch) :
 LQ qc D n 107 [.r,.r,.l,.r,.l] (m+1) (qhs x0 x1 x2 x3 x4) K=qsy D n (fun x0 x1 x2 x3 x4=>LQ qc D n 107 [.r,.r,.l,.r,.l] m (qhs x0 x1 x2 x3 x4) K) (fun v0_0 v0_1=>K (Ex.exit 0) (qk4 v0_0 v0_1)) x0 x1 x2 x3 x4:=by kernel_rfl
theorem qx8 (D:DX)(n:Nat) (K:Ex→St→Option (Out ctx 107)):∀ (m:Nat) (x0:tIxs) (x1:Int) (x2:Int) (x3:tSch) (x4:tSch),LQ qc D n 107 [.r,.r,.l,.r,.l] m (qhs x0 x1 x2 x3 x4) K=qhy D n (fun v0_0 v0_1=>K (Ex.exit 0) (qk4 v0_0 v0_1)) m x0 x1 x2 x3 x4
 | 0,x0,x1,x2,x3,x4=>qz ..
 | m+1,x0,x1,x2,x3,x4=>by
  have ih:(fun x0 x1 x2 x3 x4=>LQ qc D n 107 [.r,.r,.l,.r,.l] m (qhs x0 x1 x2 x3 x4) K)=qhy D n (fun v0_0 v0_1=>K (Ex.exit 0) (qk4 v0_0 v0_1)) m:=by funext x0 x1 x2 x3 x4;exact qx8 D n K m x0 x1 x2 x3 x4
  rw[q9e]
  rw[ih];rfl
theorem q73 (D:DX)(n:Nat) (v0_0:tSch) (v0_1:tSch) :
 (CQ qc D n 107 [] [.r,.r,.l,.r,.l] (qi qc 107)) (Ex.exit 0) (qk4 v0_0 v0_1)=qxr D n v0_0 v0_1:=by kernel_rfl
theorem q8s (D:DX)(n:Nat) (x0:tIxs) (x1:Int) (x2:Int) (x3:tSch) (x4:tSch) :
 LQ qc D n 107 [.r,.r,.l,.r,.l] n (qhs x0 x1 x2 x3 x4) (CQ qc D n 107 [] [.r,.r,.l,.r,.l] (qi qc 107))=qq7 D n x0 x1 x2 x3 x4:=by
 rw[qx8]
 simp only[q73]
 rfl
theorem qbdj (D:DX)(n:Nat) (a0:tSch):rfC qc D n 107 (a0,())=qt0 D n a0:=by
 have h:rfC qc D n 107 (a0,())=qt1 D n (fun x0 x1 x2 x3 x4=>LQ qc D n 107 [.r,.r,.l,.r,.l] n (qhs x0 x1 x2 x3 x4) (CQ qc D n 107 [] [.r,.r,.l,.r,.l] (qi qc 107))) a0:=by kernel_rfl
 rw[h]
 simp only[q8s]
 rfl

def qww (D:DX)(n:Nat) (go:Int→tSch→tSch→tSch→Option (((tSch)×Unit)×Unit)) (K0:tSch→tSch→Option (((tSch)×Unit)×Unit)) (x0:Int) (x1:tSch) (x2:tSch) (x3:tSch):Option (((tSch)×Unit)×Unit):=br (decide (x0<(↑(List.length (Prod.fst (Prod.snd (Prod.snd x1)))):Int))) (br (decide (0≤x0)&&decide (x0<(↑(List.length (Prod.fst (Prod.snd (Prod.snd x1)))):Int))) (br (decide (0+List.length (Prod.fst (Prod.snd (List.getD (Prod.fst (Prod.snd (Prod.snd x1))) (Int.toNat x0) (ByteArray.empty,[],false,()))))≤qbh)) (br (decide (List.length (Prod.fst (Prod.snd (Prod.snd x3)))+1≤qbh)) (go (IntKind.wrap IntKind.i64 (x0+1)) x1 x2 (Prod.fst x3,Prod.fst (Prod.snd x3),Prod.fst (Prod.snd (Prod.snd x3))++[(Prod.fst (List.getD (Prod.fst (Prod.snd (Prod.snd x1))) (Int.toNat x0) (ByteArray.empty,[],false,())),[]++Prod.fst (Prod.snd (List.getD (Prod.fst (Prod.snd (Prod.snd x1))) (Int.toNat x0) (ByteArray.empty,[],false,()))),Prod.fst (Prod.snd (Prod.snd (List.getD (Prod.fst (Prod.snd (Prod.snd x1))) (Int.toNat x0) (ByteArray.empty,[],false,())))),())],Prod.snd (Prod.snd (Prod.snd x3)))) none) none) none) (K0 x2 x3)
def qkj (D:DX)(n:Nat) (K0:tSch→tSch→Option (((tSch)×Unit)×Unit)):Nat→(Int)→(tSch)→(tSch)→(tSch)→Option (((tSch)×Unit)×Unit) | 0=>(fun x0 x1 x2 x3=>none) | m+1=>(fun x0 x1 x2 x3=>qww D n (qkj D n K0 m) K0 x0 x1 x2 x3)
def q14 (D:DX)(n:Nat) (v0_0:tSch) (v0_1:tSch):Option (((tSch)×Unit)×Unit):=some (((Prod.fst v0_1,Prod.fst (Prod.snd v0_1),Prod.fst (Prod.snd (Prod.snd v0_1)),()),()),())
def qvt (D:DX)(n:Nat):(Int)→(tSch)→(tSch)→(tSch)→Option (((tSch)×Unit)×Unit):=(fun x0 x1 x2 x3=>qkj D n (fun v0_0 v0_1=>q14 D n v0_0 v0_1) n x0 x1 x2 x3)
def qzf (D:DX)(n:Nat) (lp0:Int→tSch→tSch→tSch→Option (((tSch)×Unit)×Unit)) (a0:tSch):Option (((tSch)×Unit)×Unit):=br (decide (0+List.length (Prod.fst a0)≤qbh)) (br (decide (0+List.length (Prod.fst (Prod.snd a0))≤qbh)) (lp0 0 a0 ([],[],[],()) ([]++Prod.fst a0,[]++Prod.fst (Prod.snd a0),[],())) none) none
def qzr (D:DX)(n:Nat) (a0:tSch):Option (((tSch)×Unit)×Unit):=qzf D n (qvt D n) a0
def qkk (x0:Int) (x1:tSch) (x2:tSch) (x3:tSch):St:=stq 42 [(1,AV.addr 1 []),(2,AV.addr 2 []),(3,AV.addr 3 []),(4,avI x0)] [(1,Root.mk yS Mk.no x1 true),(2,Root.mk yS (Mk.pr (Mk.own 0 (Mk.pr Mk.no (Mk.pr Mk.no (Mk.pr Mk.no Mk.no)))) (Mk.pr (Mk.own 0 Mk.no) (Mk.pr (Mk.own 0 (Mk.pr Mk.no (Mk.pr (Mk.own 0 Mk.no) (Mk.pr Mk.no Mk.no)))) Mk.no))) x2 true),(3,Root.mk yS (Mk.pr (Mk.own 0 (Mk.pr Mk.no (Mk.pr Mk.no (Mk.pr Mk.no Mk.no)))) (Mk.pr (Mk.own 0 Mk.no) (Mk.pr (Mk.own 0 (Mk.pr Mk.no (Mk.pr (Mk.own 0 Mk.no) (Mk.pr Mk.no Mk.no)))) Mk.no))) x3 true)] 
def qod (v0_0:tSch) (v0_1:tSch):St:=stq 42 [(2,AV.addr 2 []),(3,AV.addr 3 [])] [(2,Root.mk yS (Mk.pr (Mk.own 0 (Mk.pr Mk.no (Mk.pr Mk.no (Mk.pr Mk.no Mk.no)))) (Mk.pr (Mk.own 0 Mk.no) (Mk.pr (Mk.own 0 (Mk.pr Mk.no (Mk.pr (Mk.own 0 Mk.no) (Mk.pr Mk.no Mk.no)))) Mk.no))) v0_0 true),(3,Root.mk yS (Mk.pr (Mk.own 0 (Mk.pr Mk.no (Mk.pr Mk.no (Mk.pr Mk.no Mk.no)))) (Mk.pr (Mk.own 0 Mk.no) (Mk.pr (Mk.own 0 (Mk.pr Mk.no (Mk.pr (Mk.own 0 Mk.no) (Mk.pr Mk.no Mk.no)))) Mk.no))) v0_1 true)] 
theorem qbfe (D:DX)(n:Nat) (m:Nat) (K:Ex→St→Option (Out ctx 108)) (x0:Int) (x1:tSch) (x2:tSch) (x3:tSch) :
 LQ qc D n 108 [.r,.r,.l,.r,.l] (m+1) (qkk x0 x1 x2 x3) K=qww D n (fun x0 x1 x2 x3=>LQ qc D n 108 [.r,.r,.l,.r,.l] m (qkk x0 x1 x2 x3) K) (fun v0_0 v0_1=>K (Ex.exit 0) (qod v0_0 v0_1)) x0 x1 x2 x3:=by kernel_rfl
theorem q4p (D:DX)(n:Nat) (K:Ex→St→Option (Out ctx 108)):∀ (m:Nat) (x0:Int) (x1:tSch) (x2:tSch) (x3:tSch),LQ qc D n 108 [.r,.r,.l,.r,.l] m (qkk x0 x1 x2 x3) K=qkj D n (fun v0_0 v0_1=>K (Ex.exit 0) (qod v0_0 v0_1)) m x0 x1 x2 x3
 | 0,x0,x1,x2,x3=>qz ..
 | m+1,x0,x1,x2,x3=>by
  have ih:(fun x0 x1 x2 x3=>LQ qc D n 108 [.r,.r,.l,.r,.l] m (qkk x0 x1 x2 x3) K)=qkj D n (fun v0_0 v0_1=>K (Ex.exit 0) (qod v0_0 v0_1)) m:=by funext x0 x1 x2 x3;exact q4p D n K m x0 x1 x2 x3
  rw[qbfe]
  rw[ih];rfl
theorem qbda (D:DX)(n:Nat) (v0_0:tSch) (v0_1:tSch) :
 (CQ qc D n 108 [] [.r,.r,.l,.r,.l] (qi qc 108)) (Ex.exit 0) (qod v0_0 v0_1)=q14 D n v0_0 v0_1:=by kernel_rfl
theorem qbde (D:DX)(n:Nat) (x0:Int) (x1:tSch) (x2:tSch) (x3:tSch) :
 LQ qc D n 108 [.r,.r,.l,.r,.l] n (qkk x0 x1 x2 x3) (CQ qc D n 108 [] [.r,.r,.l,.r,.l] (qi qc 108))=qvt D n x0 x1 x2 x3:=by
 rw[q4p]
 simp only[qbda]
 rfl
theorem qbis (D:DX)(n:Nat) (a0:tSch):rfC qc D n 108 (a0,())=qzr D n a0:=by
 have h:rfC qc D n 108 (a0,())=qzf D n (fun x0 x1 x2 x3=>LQ qc D n 108 [.r,.r,.l,.r,.l] n (qkk x0 x1 x2 x3) (CQ qc D n 108 [] [.r,.r,.l,.r,.l] (qi qc 108))) a0:=by kernel_rfl
 rw[h]
 simp only[qbde]
 rfl

def qv5 (D:DX)(n:Nat) (go:qd→qd→Int→tSch→Option ((Bool×Unit)×Unit)) (K0:Bool→Option ((Bool×Unit)×Unit)) (K1:Option ((Bool×Unit)×Unit)) (x0:qd) (x1:qd) (x2:Int) (x3:tSch):Option ((Bool×Unit)×Unit):=br (decide (x2<(↑(List.length (Prod.fst (Prod.snd (Prod.snd x3)))):Int))) (br (decide (0≤x2)&&decide (x2<(↑(List.length (Prod.fst (Prod.snd (Prod.snd x3)))):Int))) (qg (qos D x0 (Prod.fst (Prod.snd (List.getD (Prod.fst (Prod.snd (Prod.snd x3))) (Int.toNat x2) (ByteArray.empty,[],false,()))))) fun b↦qg (qos D x1 (Prod.fst (Prod.snd (List.getD (Prod.fst (Prod.snd (Prod.snd x3))) (Int.toNat x2) (ByteArray.empty,[],false,()))))) fun b_1↦br (Prod.fst (Prod.snd (Prod.snd (List.getD (Prod.fst (Prod.snd (Prod.snd x3))) (Int.toNat x2) (ByteArray.empty,[],false,()))))) (qg (qtn D (Prod.fst (Prod.fst b)) (Prod.fst (Prod.fst b_1))) fun b_2↦br (Prod.fst (Prod.fst b_2)) (qg (qyt D (Prod.fst (Prod.fst b))) fun b↦br (!Prod.fst (Prod.fst b)) (K0 true) (go x0 x1 (IntKind.wrap IntKind.i64 (x2+1)) x3)) (go x0 x1 (IntKind.wrap IntKind.i64 (x2+1)) x3)) (go x0 x1 (IntKind.wrap IntKind.i64 (x2+1)) x3)) none) K1
def qjj (D:DX)(n:Nat) (K0:Bool→Option ((Bool×Unit)×Unit)) (K1:Option ((Bool×Unit)×Unit)):Nat→(qd)→(qd)→(Int)→(tSch)→Option ((Bool×Unit)×Unit) | 0=>(fun x0 x1 x2 x3=>none) | m+1=>(fun x0 x1 x2 x3=>qv5 D n (qjj D n K0 K1 m) K0 K1 x0 x1 x2 x3)
def q0s (D:DX)(n:Nat) (v0_0:Bool):Option ((Bool×Unit)×Unit):=some ((v0_0,()),())
def q0q (D:DX)(n:Nat):Option ((Bool×Unit)×Unit):=some ((false,()),())
def qtv (D:DX)(n:Nat):(qd)→(qd)→(Int)→(tSch)→Option ((Bool×Unit)×Unit):=(fun x0 x1 x2 x3=>qjj D n (fun v0_0=>q0s D n v0_0) (q0q D n) n x0 x1 x2 x3)
def qwm (D:DX)(n:Nat) (lp0:qd→qd→Int→tSch→Option ((Bool×Unit)×Unit)) (a0:tSch) (a1:qd) (a2:qd):Option ((Bool×Unit)×Unit):=lp0 a1 a2 0 a0
def qwi (D:DX)(n:Nat) (a0:tSch) (a1:qd) (a2:qd):Option ((Bool×Unit)×Unit):=qwm D n (qtv D n) a0 a1 a2
def qjg (x0:qd) (x1:qd) (x2:Int) (x3:tSch):St:=stq 43 [(1,AV.val (Ty.sl yV) x0),(2,AV.val (Ty.sl yV) x1),(3,AV.addr 3 []),(7,avI x2)] [(3,Root.mk yS Mk.no x3 true)] 
def qm9 (v0_0:Bool):St:=stq 43 [(6,AV.val Ty.bool v0_0)] [] 
def qm2:St:=stq 43 [] [] 
theorem qbcx (D:DX)(n:Nat) (m:Nat) (K:Ex→St→Option (Out ctx 111)) (x0:qd) (x1:qd) (x2:Int) (x3:tSch) :
 LQ qc D n 111 [.r,.l,.r,.l] (m+1) (qjg x0 x1 x2 x3) K=qv5 D n (fun x0 x1 x2 x3=>LQ qc D n 111 [.r,.l,.r,.l] m (qjg x0 x1 x2 x3) K) (fun v0_0=>K (Ex.ret) (qm9 v0_0)) (K (Ex.exit 0) (qm2)) x0 x1 x2 x3:=by kernel_rfl
theorem q2d (D:DX)(n:Nat) (K:Ex→St→Option (Out ctx 111)):∀ (m:Nat) (x0:qd) (x1:qd) (x2:Int) (x3:tSch),LQ qc D n 111 [.r,.l,.r,.l] m (qjg x0 x1 x2 x3) K=qjj D n (fun v0_0=>K (Ex.ret) (qm9 v0_0)) (K (Ex.exit 0) (qm2)) m x0 x1 x2 x3
 | 0,x0,x1,x2,x3=>qz ..
 | m+1,x0,x1,x2,x3=>by
  have ih:(fun x0 x1 x2 x3=>LQ qc D n 111 [.r,.l,.r,.l] m (qjg x0 x1 x2 x3) K)=qjj D n (fun v0_0=>K (Ex.ret) (qm9 v0_0)) (K (Ex.exit 0) (qm2)) m:=by funext x0 x1 x2 x3;exact q2d D n K m x0 x1 x2 x3
  rw[qbcx]
  rw[ih];rfl
theorem qba9 (D:DX)(n:Nat) (v0_0:Bool) :
 (CQ qc D n 111 [] [.r,.l,.r,.l] (qi qc 111)) (Ex.ret) (qm9 v0_0)=q0s D n v0_0:=by kernel_rfl
theorem qban (D:DX)(n:Nat) :
 (CQ qc D n 111 [] [.r,.l,.r,.l] (qi qc 111)) (Ex.exit 0) (qm2)=q0q D n:=by kernel_rfl
theorem qbbx (D:DX)(n:Nat) (x0:qd) (x1:qd) (x2:Int) (x3:tSch) :
 LQ qc D n 111 [.r,.l,.r,.l] n (qjg x0 x1 x2 x3) (CQ qc D n 111 [] [.r,.l,.r,.l] (qi qc 111))=qtv D n x0 x1 x2 x3:=by
 rw[q2d]
 simp only[qba9,qban]
 rfl
theorem qbg0 (D:DX)(n:Nat) (a0:tSch) (a1:qd) (a2:qd):rfC qc D n 111 (a0,(a1,(a2,())))=qwi D n a0 a1 a2:=by
 have h:rfC qc D n 111 (a0,(a1,(a2,())))=qwm D n (fun x0 x1 x2 x3=>LQ qc D n 111 [.r,.l,.r,.l] n (qjg x0 x1 x2 x3) (CQ qc D n 111 [] [.r,.l,.r,.l] (qi qc 111))) a0 a1 a2:=by kernel_rfl
 rw[h]
 simp only[qbbx]
 rfl

def qva (D:DX)(n:Nat) (go:Int→tSch→Option ((Bool×Unit)×Unit)) (K0:Bool→tSch→Option ((Bool×Unit)×Unit)) (K1:tSch→Option ((Bool×Unit)×Unit)) (x0:Int) (x1:tSch):Option ((Bool×Unit)×Unit):=br (decide (x0<(↑(List.length (Prod.fst x1)):Int))) (br (decide (0≤x0)&&decide (x0<(↑(List.length (Prod.fst x1)):Int))) (qg (qpb D (Prod.fst (List.getD (Prod.fst x1) (Int.toNat x0) (ByteArray.empty,0,false,())))) fun b↦br (!Prod.fst (Prod.fst b)) (K0 false x1) (br (decide (0≤x0)&&decide (x0<(↑(List.length (Prod.fst x1)):Int))) (qg (qh4 D (Prod.fst (Prod.snd (List.getD (Prod.fst x1) (Int.toNat x0) (ByteArray.empty,0,false,())))) 1 3) fun b↦br (!Prod.fst (Prod.fst b)) (K0 false x1) (br (decide (0≤x0)&&decide (x0<(↑(List.length (Prod.fst x1)):Int))) (qg (q3y D x1 (Prod.fst (List.getD (Prod.fst x1) (Int.toNat x0) (ByteArray.empty,0,false,())))) fun b↦br (Prod.fst (Prod.fst b) != x0) (K0 false x1) (go (IntKind.wrap IntKind.i64 (x0+1)) x1)) none)) none)) none) (K1 x1)
def qjb (D:DX)(n:Nat) (K0:Bool→tSch→Option ((Bool×Unit)×Unit)) (K1:tSch→Option ((Bool×Unit)×Unit)):Nat→(Int)→(tSch)→Option ((Bool×Unit)×Unit) | 0=>(fun x0 x1=>none) | m+1=>(fun x0 x1=>qva D n (qjb D n K0 K1 m) K0 K1 x0 x1)
def q02 (D:DX)(n:Nat) (v0_0:Bool) (v0_1:tSch):Option ((Bool×Unit)×Unit):=some ((v0_0,()),())
def qvu (D:DX)(n:Nat) (go:Int→tSch→Option ((Bool×Unit)×Unit)) (K0:Bool→Option ((Bool×Unit)×Unit)) (K1:Option ((Bool×Unit)×Unit)) (x1_0:Int) (x1_1:tSch):Option ((Bool×Unit)×Unit):=br (decide (x1_0<(↑(List.length (Prod.fst (Prod.snd x1_1))):Int))) (br (decide (0≤x1_0)&&decide (x1_0<(↑(List.length (Prod.fst (Prod.snd x1_1))):Int))) (br (decide (0≤List.getD (Prod.fst (Prod.snd x1_1)) (Int.toNat x1_0) 0)&&decide (List.getD (Prod.fst (Prod.snd x1_1)) (Int.toNat x1_0) 0<(↑(List.length (Prod.fst x1_1)):Int))) (br (Prod.fst (Prod.snd (Prod.snd (List.getD (Prod.fst x1_1) (Int.toNat (List.getD (Prod.fst (Prod.snd x1_1)) (Int.toNat x1_0) 0)) (ByteArray.empty,0,false,()))))) (K0 false) (go (IntKind.wrap IntKind.i64 (x1_0+1)) x1_1)) none) none) K1
def qjp (D:DX)(n:Nat) (K0:Bool→Option ((Bool×Unit)×Unit)) (K1:Option ((Bool×Unit)×Unit)):Nat→(Int)→(tSch)→Option ((Bool×Unit)×Unit) | 0=>(fun x1_0 x1_1=>none) | m+1=>(fun x1_0 x1_1=>qvu D n (qjp D n K0 K1 m) K0 K1 x1_0 x1_1)
def q0g (D:DX)(n:Nat) (v0_0:Bool):Option ((Bool×Unit)×Unit):=some ((v0_0,()),())
def q0p (D:DX)(n:Nat):Option ((Bool×Unit)×Unit):=some ((true,()),())
def qt6 (D:DX)(n:Nat):(Int)→(tSch)→Option ((Bool×Unit)×Unit):=(fun x1_0 x1_1=>qjp D n (fun v0_0=>q0g D n v0_0) (q0p D n) n x1_0 x1_1)
def qsu (D:DX)(n:Nat) (lp1:Int→tSch→Option ((Bool×Unit)×Unit)) (v1_0:tSch):Option ((Bool×Unit)×Unit):=qg (qh4 D (↑(List.length (Prod.fst v1_0)):Int) 1 5) fun b↦br (!Prod.fst (Prod.fst b)) (some ((false,()),())) (qg (qpe D v1_0 (Prod.fst (Prod.snd v1_0)) 4) fun b↦br (!Prod.fst (Prod.fst b)) (some ((false,()),())) (qg (qt2 D v1_0) fun b↦br (!Prod.fst (Prod.fst b)) (some ((false,()),())) (lp1 0 v1_0)))
def quq (D:DX)(n:Nat):(Int)→(tSch)→Option ((Bool×Unit)×Unit):=(fun x0 x1=>qjb D n (fun v0_0 v0_1=>q02 D n v0_0 v0_1) (fun v1_0=>qsu D n (qt6 D n) v1_0) n x0 x1)
def qxo (D:DX)(n:Nat) (lp0:Int→tSch→Option ((Bool×Unit)×Unit)) (a0:tSch):Option ((Bool×Unit)×Unit):=lp0 0 a0
def qwn (D:DX)(n:Nat) (a0:tSch):Option ((Bool×Unit)×Unit):=qxo D n (quq D n) a0
def qjc (x0:Int) (x1:tSch):St:=stq 76 [(1,AV.addr 1 []),(3,avI x0)] [(1,Root.mk yS Mk.no x1 true)] 
def qnb (v0_0:Bool) (v0_1:tSch):St:=stq 76 [(1,AV.addr 1 []),(2,AV.val Ty.bool v0_0)] [(1,Root.mk yS Mk.no v0_1 true)] 
def qna (v1_0:tSch):St:=stq 76 [(1,AV.addr 1 [])] [(1,Root.mk yS Mk.no v1_0 true)] 
def qjk (x1_0:Int) (x1_1:tSch):St:=stq 76 [(1,AV.addr 1 []),(4,avI x1_0)] [(1,Root.mk yS Mk.no x1_1 true)] 
def qm1 (v0_0:Bool):St:=stq 76 [(2,AV.val Ty.bool v0_0)] [] 
def qne:St:=stq 76 [] [] 
theorem qbdo (D:DX)(n:Nat) (m:Nat) (K:Ex→St→Option (Out ctx 112)) (x0:Int) (x1:tSch) :
 LQ qc D n 112 [.r,.l,.r,.l] (m+1) (qjc x0 x1) K=qva D n (fun x0 x1=>LQ qc D n 112 [.r,.l,.r,.l] m (qjc x0 x1) K) (fun v0_0 v0_1=>K (Ex.ret) (qnb v0_0 v0_1)) (fun v1_0=>K (Ex.exit 0) (qna v1_0)) x0 x1:=by kernel_rfl
theorem q2o (D:DX)(n:Nat) (K:Ex→St→Option (Out ctx 112)):∀ (m:Nat) (x0:Int) (x1:tSch),LQ qc D n 112 [.r,.l,.r,.l] m (qjc x0 x1) K=qjb D n (fun v0_0 v0_1=>K (Ex.ret) (qnb v0_0 v0_1)) (fun v1_0=>K (Ex.exit 0) (qna v1_0)) m x0 x1
 | 0,x0,x1=>qz ..
 | m+1,x0,x1=>by
  have ih:(fun x0 x1=>LQ qc D n 112 [.r,.l,.r,.l] m (qjc x0 x1) K)=qjb D n (fun v0_0 v0_1=>K (Ex.ret) (qnb v0_0 v0_1)) (fun v1_0=>K (Ex.exit 0) (qna v1_0)) m:=by funext x0 x1;exact q2o D n K m x0 x1
  rw[qbdo]
  rw[ih];rfl
theorem qbdr (D:DX)(n:Nat) (m:Nat) (K:Ex→St→Option (Out ctx 112)) (x1_0:Int) (x1_1:tSch) :
 LQ qc D n 112 [.r,.r,.r,.l,.r,.l] (m+1) (qjk x1_0 x1_1) K=qvu D n (fun x1_0 x1_1=>LQ qc D n 112 [.r,.r,.r,.l,.r,.l] m (qjk x1_0 x1_1) K) (fun v0_0=>K (Ex.ret) (qm1 v0_0)) (K (Ex.exit 2) (qne)) x1_0 x1_1:=by kernel_rfl
theorem q2j (D:DX)(n:Nat) (K:Ex→St→Option (Out ctx 112)):∀ (m:Nat) (x1_0:Int) (x1_1:tSch),LQ qc D n 112 [.r,.r,.r,.l,.r,.l] m (qjk x1_0 x1_1) K=qjp D n (fun v0_0=>K (Ex.ret) (qm1 v0_0)) (K (Ex.exit 2) (qne)) m x1_0 x1_1
 | 0,x1_0,x1_1=>qz ..
 | m+1,x1_0,x1_1=>by
  have ih:(fun x1_0 x1_1=>LQ qc D n 112 [.r,.r,.r,.l,.r,.l] m (qjk x1_0 x1_1) K)=qjp D n (fun v0_0=>K (Ex.ret) (qm1 v0_0)) (K (Ex.exit 2) (qne)) m:=by funext x1_0 x1_1;exact q2j D n K m x1_0 x1_1
  rw[qbdr]
  rw[ih];rfl
theorem qbaq (D:DX)(n:Nat) (v0_0:Bool) :
 (CQ qc D n 112 [] [.r,.r,.r,.l,.r,.l] (qi qc 112)) (Ex.ret) (qm1 v0_0)=q0g D n v0_0:=by kernel_rfl
theorem qbaw (D:DX)(n:Nat) :
 (CQ qc D n 112 [] [.r,.r,.r,.l,.r,.l] (qi qc 112)) (Ex.exit 2) (qne)=q0p D n:=by kernel_rfl
theorem qbby (D:DX)(n:Nat) (x1_0:Int) (x1_1:tSch) :
 LQ qc D n 112 [.r,.r,.r,.l,.r,.l] n (qjk x1_0 x1_1) (CQ qc D n 112 [] [.r,.r,.r,.l,.r,.l] (qi qc 112))=qt6 D n x1_0 x1_1:=by
 rw[q2j]
 simp only[qbaq,qbaw]
 rfl
theorem qba7 (D:DX)(n:Nat) (v0_0:Bool) (v0_1:tSch) :
 (CQ qc D n 112 [] [.r,.l,.r,.l] (qi qc 112)) (Ex.ret) (qnb v0_0 v0_1)=q02 D n v0_0 v0_1:=by kernel_rfl
theorem qbad (D:DX)(n:Nat) (v1_0:tSch) :
 (CQ qc D n 112 [] [.r,.l,.r,.l] (qi qc 112)) (Ex.exit 0) (qna v1_0)=qsu D n (fun x1_0 x1_1=>LQ qc D n 112 [.r,.r,.r,.l,.r,.l] n (qjk x1_0 x1_1) (CQ qc D n 112 [] [.r,.r,.r,.l,.r,.l] (qi qc 112))) v1_0:=by kernel_rfl
theorem qbbk (D:DX)(n:Nat) (x0:Int) (x1:tSch) :
 LQ qc D n 112 [.r,.l,.r,.l] n (qjc x0 x1) (CQ qc D n 112 [] [.r,.l,.r,.l] (qi qc 112))=quq D n x0 x1:=by
 rw[q2o]
 simp only[qba7,qbad,qbby]
 rfl
theorem qbih (D:DX)(n:Nat) (a0:tSch):rfC qc D n 112 (a0,())=qwn D n a0:=by
 have h:rfC qc D n 112 (a0,())=qxo D n (fun x0 x1=>LQ qc D n 112 [.r,.l,.r,.l] n (qjc x0 x1) (CQ qc D n 112 [] [.r,.l,.r,.l] (qi qc 112))) a0:=by kernel_rfl
 rw[h]
 simp only[qbbk]
 rfl

def q81 (D:DX)(n:Nat) (a0:List Int×Int×Int×Unit) (a1:Int):Option ((Bool×Unit)×tCur×Unit):=qg (qdf D a0 a1) fun b↦some ((decide (Prod.fst (Prod.fst b)=0),()),Prod.fst (Prod.snd b),())
def q1w (D:DX)(n:Nat) (a0:List Int×Int×Int×Unit) (a1:Int):Option ((Bool×Unit)×tCur×Unit):=q81 D n a0 a1
theorem qbmd (D:DX)(n:Nat) (a0:List Int×Int×Int×Unit) (a1:Int):rfC qc D n 114 (a0,(a1,()))=q1w D n a0 a1:=by kernel_rfl

def q6n (D:DX)(n:Nat) (a0:List Int×Int×Int×Unit) (a1:Int):Option ((Int×Unit)×tCur×Unit):=br (decide (a1≤0)) (some ((0,()),a0,())) (br (decide (a1≤256)) (qg (qkv D a0) fun b↦br (decide (a1=0)) none (some ((Int.tmod (Prod.fst (Prod.fst b)) a1,()),Prod.fst (Prod.snd b),()))) (qg (qkv D a0) fun b↦qg (qkv D (Prod.fst (Prod.snd b))) fun b_1↦qg (qkv D (Prod.fst (Prod.snd b_1))) fun b_2↦qg (qkv D (Prod.fst (Prod.snd b_2))) fun b_3↦br (decide (a1=0)) none (some ((Int.tmod (IntKind.wrap IntKind.i64 (IntKind.wrap IntKind.i64 (IntKind.wrap IntKind.i64 (IntKind.wrap IntKind.i64 (Prod.fst (Prod.fst b) * 16777216)+IntKind.wrap IntKind.i64 (Prod.fst (Prod.fst b_1) * 65536))+IntKind.wrap IntKind.i64 (Prod.fst (Prod.fst b_2) * 256))+Prod.fst (Prod.fst b_3))) a1,()),Prod.fst (Prod.snd b_3),()))))
def qzp (D:DX)(n:Nat) (a0:List Int×Int×Int×Unit) (a1:Int):Option ((Int×Unit)×tCur×Unit):=q6n D n a0 a1
theorem qbj0 (D:DX)(n:Nat) (a0:List Int×Int×Int×Unit) (a1:Int):rfC qc D n 115 (a0,(a1,()))=qzp D n a0 a1:=by kernel_rfl

def qbdz (D:DX)(n:Nat) (a0:Int) (a1:Int) (a2:Int):Option ((Bool×Unit)×Unit):=some ((bif decide (a0≥a1) then decide (a0≤a2) else false,()),())
def q57 (D:DX)(n:Nat) (a0:Int) (a1:Int) (a2:Int):Option ((Bool×Unit)×Unit):=qbdz D n a0 a1 a2
theorem qbon (D:DX)(n:Nat) (a0:Int) (a1:Int) (a2:Int):rfC qc D n 117 (a0,(a1,(a2,())))=q57 D n a0 a1 a2:=by kernel_rfl


def qxs (D:DX)(n:Nat) (go:qd→List Int→Int→qd→Option ((qd×Unit)×Unit)) (K0:qd→Option ((qd×Unit)×Unit)) (x0:qd) (x1:List Int) (x2:Int) (x3:qd):Option ((qd×Unit)×Unit):=br (decide (x2<(↑(List.length x1):Int))) (br (decide (0≤x2)&&decide (x2<(↑(List.length x1):Int))) (qg (qh4 D (List.getD x1 (Int.toNat x2) 0) 0 (IntKind.wrap IntKind.i64 ((↑(List.length x0):Int) - 1))) fun b↦br (Prod.fst (Prod.fst b)) (br (decide (0≤x2)&&decide (x2<(↑(List.length x1):Int))) (br (decide (0≤List.getD x1 (Int.toNat x2) 0)&&decide (List.getD x1 (Int.toNat x2) 0<(↑(List.length x0):Int))) (br (decide (List.length x3+1≤qbh)) (go x0 x1 (IntKind.wrap IntKind.i64 (x2+1)) (x3++[List.getD x0 (Int.toNat (List.getD x1 (Int.toNat x2) 0)) (0,0,ByteArray.empty,())])) none) none) none) (go x0 x1 (IntKind.wrap IntKind.i64 (x2+1)) x3)) none) (K0 x3)
def qki (D:DX)(n:Nat) (K0:qd→Option ((qd×Unit)×Unit)):Nat→(qd)→(List Int)→(Int)→(qd)→Option ((qd×Unit)×Unit) | 0=>(fun x0 x1 x2 x3=>none) | m+1=>(fun x0 x1 x2 x3=>qxs D n (qki D n K0 m) K0 x0 x1 x2 x3)
def q2c (D:DX)(n:Nat) (v0_0:qd):Option ((qd×Unit)×Unit):=some ((v0_0,()),())
def qvb (D:DX)(n:Nat):(qd)→(List Int)→(Int)→(qd)→Option ((qd×Unit)×Unit):=(fun x0 x1 x2 x3=>qki D n (fun v0_0=>q2c D n v0_0) n x0 x1 x2 x3)
def qz6 (D:DX)(n:Nat) (lp0:qd→List Int→Int→qd→Option ((qd×Unit)×Unit)) (a0:qd) (a1:List Int):Option ((qd×Unit)×Unit):=lp0 a0 a1 0 []
def qys (D:DX)(n:Nat) (a0:qd) (a1:List Int):Option ((qd×Unit)×Unit):=qz6 D n (qvb D n) a0 a1
def qkq (x0:qd) (x1:List Int) (x2:Int) (x3:qd):St:=stq 33 [(0,AV.val (Ty.sl yV) x0),(1,AV.val (Ty.sl yI) x1),(5,AV.brw 5 [] 0),(6,avI x2)] [(5,Root.mk (Ty.sl yV) (Mk.own 0 (Mk.pr Mk.no (Mk.pr Mk.no (Mk.pr Mk.no Mk.no)))) x3 false)] 
def qoh (v0_0:qd):St:=stq 33 [(5,AV.brw 5 [] 0)] [(5,Root.mk (Ty.sl yV) (Mk.own 0 (Mk.pr Mk.no (Mk.pr Mk.no (Mk.pr Mk.no Mk.no)))) v0_0 false)] 
theorem qbfx (D:DX)(n:Nat) (m:Nat) (K:Ex→St→Option (Out ctx 119)) (x0:qd) (x1:List Int) (x2:Int) (x3:qd) :
 LQ qc D n 119 [.r,.r,.l,.r,.l] (m+1) (qkq x0 x1 x2 x3) K=qxs D n (fun x0 x1 x2 x3=>LQ qc D n 119 [.r,.r,.l,.r,.l] m (qkq x0 x1 x2 x3) K) (fun v0_0=>K (Ex.exit 0) (qoh v0_0)) x0 x1 x2 x3:=by kernel_rfl
theorem q4k (D:DX)(n:Nat) (K:Ex→St→Option (Out ctx 119)):∀ (m:Nat) (x0:qd) (x1:List Int) (x2:Int) (x3:qd),LQ qc D n 119 [.r,.r,.l,.r,.l] m (qkq x0 x1 x2 x3) K=qki D n (fun v0_0=>K (Ex.exit 0) (qoh v0_0)) m x0 x1 x2 x3
 | 0,x0,x1,x2,x3=>qz ..
 | m+1,x0,x1,x2,x3=>by
  have ih:(fun x0 x1 x2 x3=>LQ qc D n 119 [.r,.r,.l,.r,.l] m (qkq x0 x1 x2 x3) K)=qki D n (fun v0_0=>K (Ex.exit 0) (qoh v0_0)) m:=by funext x0 x1 x2 x3;exact q4k D n K m x0 x1 x2 x3
  rw[qbfx]
  rw[ih];rfl
theorem qbc6 (D:DX)(n:Nat) (v0_0:qd) :
 (CQ qc D n 119 [] [.r,.r,.l,.r,.l] (qi qc 119)) (Ex.exit 0) (qoh v0_0)=q2c D n v0_0:=by kernel_rfl
theorem qbc0 (D:DX)(n:Nat) (x0:qd) (x1:List Int) (x2:Int) (x3:qd) :
 LQ qc D n 119 [.r,.r,.l,.r,.l] n (qkq x0 x1 x2 x3) (CQ qc D n 119 [] [.r,.r,.l,.r,.l] (qi qc 119))=qvb D n x0 x1 x2 x3:=by
 rw[q4k]
 simp only[qbc6]
 rfl
theorem qbki (D:DX)(n:Nat) (a0:qd) (a1:List Int):rfC qc D n 119 (a0,(a1,()))=qys D n a0 a1:=by
 have h:rfC qc D n 119 (a0,(a1,()))=qz6 D n (fun x0 x1 x2 x3=>LQ qc D n 119 [.r,.r,.l,.r,.l] n (qkq x0 x1 x2 x3) (CQ qc D n 119 [] [.r,.r,.l,.r,.l] (qi qc 119))) a0 a1:=by kernel_rfl
 rw[h]
 simp only[qbc0]
 rfl
















def qpw (D:DX)(n:Nat) (go:Int→Int→List Int×Int×Int×Unit→tSch→tSch→List ByteArray→Option (((tSch)×Unit)×tCur×Unit)) (K0:Int→List Int×Int×Int×Unit→tSch→tSch→Option (((tSch)×Unit)×tCur×Unit)) (x0:Int) (x1:Int) (x2:List Int×Int×Int×Unit) (x3:tSch) (x4:tSch) (x5:List ByteArray):Option (((tSch)×Unit)×tCur×Unit):=br (decide (x1<x0)) (br (decide (0≤x1)&&decide (x1<(↑(List.length x5):Int))) (qg (qdf D x2 3) fun b↦br (decide (x1>0)) (qg (qky D (Prod.fst (Prod.snd b)) 2) fun b_1↦br (decide (List.length (Prod.fst x4)+1≤qbh)) (go x0 (IntKind.wrap IntKind.i64 (x1+1)) (Prod.fst (Prod.snd b_1)) x3 (Prod.fst x4++[(List.getD x5 (Int.toNat x1) ByteArray.empty,IntKind.wrap IntKind.i64 (1+Prod.fst (Prod.fst b)),Prod.fst (Prod.fst b_1),())],Prod.snd x4) x5) none) (br (decide (List.length (Prod.fst x4)+1≤qbh)) (go x0 (IntKind.wrap IntKind.i64 (x1+1)) (Prod.fst (Prod.snd b)) x3 (Prod.fst x4++[(List.getD x5 (Int.toNat x1) ByteArray.empty,IntKind.wrap IntKind.i64 (1+Prod.fst (Prod.fst b)),false,())],Prod.snd x4) x5) none)) none) (K0 x0 x2 x3 x4)
def qgm (D:DX)(n:Nat) (K0:Int→List Int×Int×Int×Unit→tSch→tSch→Option (((tSch)×Unit)×tCur×Unit)):Nat→(Int)→(Int)→tCur→(tSch)→(tSch)→(List ByteArray)→Option (((tSch)×Unit)×tCur×Unit) | 0=>(fun x0 x1 x2 x3 x4 x5=>none) | m+1=>(fun x0 x1 x2 x3 x4 x5=>qpw D n (qgm D n K0 m) K0 x0 x1 x2 x3 x4 x5)
def qp1 (D:DX)(n:Nat) (go:Int→Int→List Int×Int×Int×Unit→tSch→tSch→Option (((tSch)×Unit)×tCur×Unit)) (K0:List Int×Int×Int×Unit→tSch→tSch→Option (((tSch)×Unit)×tCur×Unit)) (x1_0:Int) (x1_1:Int) (x1_2:List Int×Int×Int×Unit) (x1_3:tSch) (x1_4:tSch):Option (((tSch)×Unit)×tCur×Unit):=qg (qdf D x1_2 3) fun b↦br (decide (x1_1<Prod.fst (Prod.fst b))) (qg (qdf D (Prod.fst (Prod.snd b)) (IntKind.wrap IntKind.i64 (x1_0 - 1))) fun b↦br (decide (0≤x1_1)&&decide (x1_1<(↑3:Int))) (qg (qky D (Prod.fst (Prod.snd b)) 2) fun b_1↦qg (qky D (Prod.fst (Prod.snd b_1)) 2) fun b_2↦br (Prod.fst (Prod.fst b_2)) (br (decide (x1_0=0)) none (br (decide (List.length (Prod.fst (Prod.snd (Prod.snd x1_4)))+1≤qbh)) (go x1_0 (IntKind.wrap IntKind.i64 (x1_1+1)) (Prod.fst (Prod.snd b_2)) x1_3 (Prod.fst x1_4,Prod.fst (Prod.snd x1_4),Prod.fst (Prod.snd (Prod.snd x1_4))++[(List.getD [ByteArray.mk #[UInt8.ofNat 120],ByteArray.mk #[UInt8.ofNat 121],ByteArray.mk #[UInt8.ofNat 122]] (Int.toNat x1_1) ByteArray.empty,[IntKind.wrap IntKind.i64 (1+Prod.fst (Prod.fst b))]++[Int.tmod (IntKind.wrap IntKind.i64 (IntKind.wrap IntKind.i64 (1+Prod.fst (Prod.fst b))+1)) x1_0],Prod.fst (Prod.fst b_1),())],Prod.snd (Prod.snd (Prod.snd x1_4)))) none)) (br (decide (List.length (Prod.fst (Prod.snd (Prod.snd x1_4)))+1≤qbh)) (go x1_0 (IntKind.wrap IntKind.i64 (x1_1+1)) (Prod.fst (Prod.snd b_2)) x1_3 (Prod.fst x1_4,Prod.fst (Prod.snd x1_4),Prod.fst (Prod.snd (Prod.snd x1_4))++[(List.getD [ByteArray.mk #[UInt8.ofNat 120],ByteArray.mk #[UInt8.ofNat 121],ByteArray.mk #[UInt8.ofNat 122]] (Int.toNat x1_1) ByteArray.empty,[IntKind.wrap IntKind.i64 (1+Prod.fst (Prod.fst b))],Prod.fst (Prod.fst b_1),())],Prod.snd (Prod.snd (Prod.snd x1_4)))) none)) none) (K0 (Prod.fst (Prod.snd b)) x1_3 x1_4)
def qgk (D:DX)(n:Nat) (K0:List Int×Int×Int×Unit→tSch→tSch→Option (((tSch)×Unit)×tCur×Unit)):Nat→(Int)→(Int)→tCur→(tSch)→(tSch)→Option (((tSch)×Unit)×tCur×Unit) | 0=>(fun x1_0 x1_1 x1_2 x1_3 x1_4=>none) | m+1=>(fun x1_0 x1_1 x1_2 x1_3 x1_4=>qp1 D n (qgk D n K0 m) K0 x1_0 x1_1 x1_2 x1_3 x1_4)
def qj4 (D:DX)(n:Nat) (v0_0:List Int×Int×Int×Unit) (v0_1:tSch) (v0_2:tSch):Option (((tSch)×Unit)×tCur×Unit):=qg (qpz D v0_0 [2,3]) fun b↦br (decide (0≤0)&&decide (0<(↑(List.length (Prod.fst v0_2)):Int))) (some (((List.set (Prod.fst v0_2) 0 (Prod.fst (List.getD (Prod.fst v0_2) 0 (ByteArray.empty,0,false,())),Prod.fst (Prod.fst b),Prod.snd (Prod.snd (List.getD (Prod.fst v0_2) 0 (ByteArray.empty,0,false,())))),Prod.fst (Prod.snd v0_2),Prod.fst (Prod.snd (Prod.snd v0_2)),()),()),Prod.fst (Prod.snd b),())) none
def qkl (D:DX)(n:Nat):(Int)→(Int)→tCur→(tSch)→(tSch)→Option (((tSch)×Unit)×tCur×Unit):=(fun x1_0 x1_1 x1_2 x1_3 x1_4=>qgk D n (fun v0_0 v0_1 v0_2=>qj4 D n v0_0 v0_1 v0_2) n x1_0 x1_1 x1_2 x1_3 x1_4)
def qj0 (D:DX)(n:Nat) (lp1:Int→Int→List Int×Int×Int×Unit→tSch→tSch→Option (((tSch)×Unit)×tCur×Unit)) (v0_0:Int) (v0_1:List Int×Int×Int×Unit) (v0_2:tSch) (v0_3:tSch):Option (((tSch)×Unit)×tCur×Unit):=lp1 v0_0 0 v0_1 v0_2 (Prod.fst v0_3,[0],Prod.snd (Prod.snd v0_3))
def qox (D:DX)(n:Nat):(Int)→(Int)→tCur→(tSch)→(tSch)→(List ByteArray)→Option (((tSch)×Unit)×tCur×Unit):=(fun x0 x1 x2 x3 x4 x5=>qgm D n (fun v0_0 v0_1 v0_2 v0_3=>qj0 D n (qkl D n) v0_0 v0_1 v0_2 v0_3) n x0 x1 x2 x3 x4 x5)
def qrc (D:DX)(n:Nat) (lp0:Int→Int→List Int×Int×Int×Unit→tSch→tSch→List ByteArray→Option (((tSch)×Unit)×tCur×Unit)) (a0:List Int×Int×Int×Unit):Option (((tSch)×Unit)×tCur×Unit):=qg (qdf D a0 3) fun b↦lp0 (IntKind.wrap IntKind.i64 (2+Prod.fst (Prod.fst b))) 0 (Prod.fst (Prod.snd b)) ([],[],[],()) ([],[],[],()) [ByteArray.mk #[UInt8.ofNat 105,UInt8.ofNat 100],ByteArray.mk #[UInt8.ofNat 110,UInt8.ofNat 97,UInt8.ofNat 109,UInt8.ofNat 101],ByteArray.mk #[UInt8.ofNat 115,UInt8.ofNat 105,UInt8.ofNat 122,UInt8.ofNat 101],ByteArray.mk #[UInt8.ofNat 111,UInt8.ofNat 110]]
def qre (D:DX)(n:Nat) (a0:List Int×Int×Int×Unit):Option (((tSch)×Unit)×tCur×Unit):=qrc D n (qox D n) a0
def qgj (x0:Int) (x1:Int) (x2:List Int×Int×Int×Unit) (x3:tSch) (x4:tSch) (x5:List ByteArray):St:=stq 86 [(0,AV.addr 0 []),(2,AV.addr 2 []),(3,AV.addr 3 []),(4,AV.brw 4 [] 0),(5,avI x0),(6,avI x1)] [(0,Root.mk (Ty.pair (Ty.sl (Ty.int IntKind.u8)) (Ty.pair yI (Ty.pair yI Ty.unit))) Mk.no x2 true),(2,Root.mk yS (Mk.pr (Mk.own 0 (Mk.pr Mk.no (Mk.pr Mk.no (Mk.pr Mk.no Mk.no)))) (Mk.pr (Mk.own 0 Mk.no) (Mk.pr (Mk.own 0 (Mk.pr Mk.no (Mk.pr (Mk.own 0 Mk.no) (Mk.pr Mk.no Mk.no)))) Mk.no))) x3 true),(3,Root.mk yS (Mk.pr (Mk.own 0 (Mk.pr Mk.no (Mk.pr Mk.no (Mk.pr Mk.no Mk.no)))) (Mk.pr (Mk.own 0 Mk.no) (Mk.pr (Mk.own 0 (Mk.pr Mk.no (Mk.pr (Mk.own 0 Mk.no) (Mk.pr Mk.no Mk.no)))) Mk.no))) x4 true),(4,Root.mk (Ty.sl Ty.str) (Mk.own 0 Mk.no) x5 false)] 
def qju (v0_0:Int) (v0_1:List Int×Int×Int×Unit) (v0_2:tSch) (v0_3:tSch):St:=stq 86 [(0,AV.addr 0 []),(2,AV.addr 2 []),(3,AV.addr 3 []),(5,avI v0_0)] [(0,Root.mk (Ty.pair (Ty.sl (Ty.int IntKind.u8)) (Ty.pair yI (Ty.pair yI Ty.unit))) Mk.no v0_1 true),(2,Root.mk yS (Mk.pr (Mk.own 0 (Mk.pr Mk.no (Mk.pr Mk.no (Mk.pr Mk.no Mk.no)))) (Mk.pr (Mk.own 0 Mk.no) (Mk.pr (Mk.own 0 (Mk.pr Mk.no (Mk.pr (Mk.own 0 Mk.no) (Mk.pr Mk.no Mk.no)))) Mk.no))) v0_2 true),(3,Root.mk yS (Mk.pr (Mk.own 0 (Mk.pr Mk.no (Mk.pr Mk.no (Mk.pr Mk.no Mk.no)))) (Mk.pr (Mk.own 0 Mk.no) (Mk.pr (Mk.own 0 (Mk.pr Mk.no (Mk.pr (Mk.own 0 Mk.no) (Mk.pr Mk.no Mk.no)))) Mk.no))) v0_3 true)] 
def qgg (x1_0:Int) (x1_1:Int) (x1_2:List Int×Int×Int×Unit) (x1_3:tSch) (x1_4:tSch):St:=stq 86 [(0,AV.addr 0 []),(2,AV.addr 2 []),(3,AV.addr 3 []),(5,avI x1_0),(7,avI x1_1)] [(0,Root.mk (Ty.pair (Ty.sl (Ty.int IntKind.u8)) (Ty.pair yI (Ty.pair yI Ty.unit))) Mk.no x1_2 true),(2,Root.mk yS (Mk.pr (Mk.own 0 (Mk.pr Mk.no (Mk.pr Mk.no (Mk.pr Mk.no Mk.no)))) (Mk.pr (Mk.own 0 Mk.no) (Mk.pr (Mk.own 0 (Mk.pr Mk.no (Mk.pr (Mk.own 0 Mk.no) (Mk.pr Mk.no Mk.no)))) Mk.no))) x1_3 true),(3,Root.mk yS (Mk.pr (Mk.own 0 (Mk.pr Mk.no (Mk.pr Mk.no (Mk.pr Mk.no Mk.no)))) (Mk.pr (Mk.own 0 Mk.no) (Mk.pr (Mk.own 0 (Mk.pr Mk.no (Mk.pr (Mk.own 0 Mk.no) (Mk.pr Mk.no Mk.no)))) Mk.no))) x1_4 true)] 
def qjx (v0_0:List Int×Int×Int×Unit) (v0_1:tSch) (v0_2:tSch):St:=stq 86 [(0,AV.addr 0 []),(2,AV.addr 2 []),(3,AV.addr 3 [])] [(0,Root.mk (Ty.pair (Ty.sl (Ty.int IntKind.u8)) (Ty.pair yI (Ty.pair yI Ty.unit))) Mk.no v0_0 true),(2,Root.mk yS (Mk.pr (Mk.own 0 (Mk.pr Mk.no (Mk.pr Mk.no (Mk.pr Mk.no Mk.no)))) (Mk.pr (Mk.own 0 Mk.no) (Mk.pr (Mk.own 0 (Mk.pr Mk.no (Mk.pr (Mk.own 0 Mk.no) (Mk.pr Mk.no Mk.no)))) Mk.no))) v0_1 true),(3,Root.mk yS (Mk.pr (Mk.own 0 (Mk.pr Mk.no (Mk.pr Mk.no (Mk.pr Mk.no Mk.no)))) (Mk.pr (Mk.own 0 Mk.no) (Mk.pr (Mk.own 0 (Mk.pr Mk.no (Mk.pr (Mk.own 0 Mk.no) (Mk.pr Mk.no Mk.no)))) Mk.no))) v0_2 true)] 
theorem q6g (D:DX)(n:Nat) (m:Nat) (K:Ex→St→Option (Out ctx 135)) (x0:Int) (x1:Int) (x2:List Int×Int×Int×Unit) (x3:tSch) (x4:tSch) (x5:List ByteArray) :
 LQ qc D n 135 [.r,.r,.r,.r,.l,.r,.l] (m+1) (qgj x0 x1 x2 x3 x4 x5) K=qpw D n (fun x0 x1 x2 x3 x4 x5=>LQ qc D n 135 [.r,.r,.r,.r,.l,.r,.l] m (qgj x0 x1 x2 x3 x4 x5) K) (fun v0_0 v0_1 v0_2 v0_3=>K (Ex.exit 0) (qju v0_0 v0_1 v0_2 v0_3)) x0 x1 x2 x3 x4 x5:=by kernel_rfl
theorem qwh (D:DX)(n:Nat) (K:Ex→St→Option (Out ctx 135)):∀ (m:Nat) (x0:Int) (x1:Int) (x2:List Int×Int×Int×Unit) (x3:tSch) (x4:tSch) (x5:List ByteArray),LQ qc D n 135 [.r,.r,.r,.r,.l,.r,.l] m (qgj x0 x1 x2 x3 x4 x5) K=qgm D n (fun v0_0 v0_1 v0_2 v0_3=>K (Ex.exit 0) (qju v0_0 v0_1 v0_2 v0_3)) m x0 x1 x2 x3 x4 x5
 | 0,x0,x1,x2,x3,x4,x5=>qz ..
 | m+1,x0,x1,x2,x3,x4,x5=>by
  have ih:(fun x0 x1 x2 x3 x4 x5=>LQ qc D n 135 [.r,.r,.r,.r,.l,.r,.l] m (qgj x0 x1 x2 x3 x4 x5) K)=qgm D n (fun v0_0 v0_1 v0_2 v0_3=>K (Ex.exit 0) (qju v0_0 v0_1 v0_2 v0_3)) m:=by funext x0 x1 x2 x3 x4 x5;exact qwh D n K m x0 x1 x2 x3 x4 x5
  rw[q6g]
  rw[ih];rfl
theorem q63 (D:DX)(n:Nat) (m:Nat) (K:Ex→St→Option (Out ctx 135)) (x1_0:Int) (x1_1:Int) (x1_2:List Int×Int×Int×Unit) (x1_3:tSch) (x1_4:tSch) :
 LQ qc D n 135 [.r,.r,.r,.r,.r,.r,.l,.r,.l] (m+1) (qgg x1_0 x1_1 x1_2 x1_3 x1_4) K=qp1 D n (fun x1_0 x1_1 x1_2 x1_3 x1_4=>LQ qc D n 135 [.r,.r,.r,.r,.r,.r,.l,.r,.l] m (qgg x1_0 x1_1 x1_2 x1_3 x1_4) K) (fun v0_0 v0_1 v0_2=>K (Ex.exit 2) (qjx v0_0 v0_1 v0_2)) x1_0 x1_1 x1_2 x1_3 x1_4:=by kernel_rfl
theorem qwb (D:DX)(n:Nat) (K:Ex→St→Option (Out ctx 135)):∀ (m:Nat) (x1_0:Int) (x1_1:Int) (x1_2:List Int×Int×Int×Unit) (x1_3:tSch) (x1_4:tSch),LQ qc D n 135 [.r,.r,.r,.r,.r,.r,.l,.r,.l] m (qgg x1_0 x1_1 x1_2 x1_3 x1_4) K=qgk D n (fun v0_0 v0_1 v0_2=>K (Ex.exit 2) (qjx v0_0 v0_1 v0_2)) m x1_0 x1_1 x1_2 x1_3 x1_4
 | 0,x1_0,x1_1,x1_2,x1_3,x1_4=>qz ..
 | m+1,x1_0,x1_1,x1_2,x1_3,x1_4=>by
  have ih:(fun x1_0 x1_1 x1_2 x1_3 x1_4=>LQ qc D n 135 [.r,.r,.r,.r,.r,.r,.l,.r,.l] m (qgg x1_0 x1_1 x1_2 x1_3 x1_4) K)=qgk D n (fun v0_0 v0_1 v0_2=>K (Ex.exit 2) (qjx v0_0 v0_1 v0_2)) m:=by funext x1_0 x1_1 x1_2 x1_3 x1_4;exact qwb D n K m x1_0 x1_1 x1_2 x1_3 x1_4
  rw[q63]
  rw[ih];rfl
theorem q59 (D:DX)(n:Nat) (v0_0:List Int×Int×Int×Unit) (v0_1:tSch) (v0_2:tSch) :
 (CQ qc D n 135 [] [.r,.r,.r,.r,.r,.r,.l,.r,.l] (qi qc 135)) (Ex.exit 2) (qjx v0_0 v0_1 v0_2)=qj4 D n v0_0 v0_1 v0_2:=by kernel_rfl
theorem q55 (D:DX)(n:Nat) (x1_0:Int) (x1_1:Int) (x1_2:List Int×Int×Int×Unit) (x1_3:tSch) (x1_4:tSch) :
 LQ qc D n 135 [.r,.r,.r,.r,.r,.r,.l,.r,.l] n (qgg x1_0 x1_1 x1_2 x1_3 x1_4) (CQ qc D n 135 [] [.r,.r,.r,.r,.r,.r,.l,.r,.l] (qi qc 135))=qkl D n x1_0 x1_1 x1_2 x1_3 x1_4:=by
 rw[qwb]
 simp only[q59]
 rfl
theorem q5t (D:DX)(n:Nat) (v0_0:Int) (v0_1:List Int×Int×Int×Unit) (v0_2:tSch) (v0_3:tSch) :
 (CQ qc D n 135 [] [.r,.r,.r,.r,.l,.r,.l] (qi qc 135)) (Ex.exit 0) (qju v0_0 v0_1 v0_2 v0_3)=qj0 D n (fun x1_0 x1_1 x1_2 x1_3 x1_4=>LQ qc D n 135 [.r,.r,.r,.r,.r,.r,.l,.r,.l] n (qgg x1_0 x1_1 x1_2 x1_3 x1_4) (CQ qc D n 135 [] [.r,.r,.r,.r,.r,.r,.l,.r,.l] (qi qc 135))) v0_0 v0_1 v0_2 v0_3:=by kernel_rfl
theorem q50 (D:DX)(n:Nat) (x0:Int) (x1:Int) (x2:List Int×Int×Int×Unit) (x3:tSch) (x4:tSch) (x5:List ByteArray) :
 LQ qc D n 135 [.r,.r,.r,.r,.l,.r,.l] n (qgj x0 x1 x2 x3 x4 x5) (CQ qc D n 135 [] [.r,.r,.r,.r,.l,.r,.l] (qi qc 135))=qox D n x0 x1 x2 x3 x4 x5:=by
 rw[qwh]
 simp only[q5t,q55]
 rfl
theorem q9j (D:DX)(n:Nat) (a0:List Int×Int×Int×Unit):rfC qc D n 135 (a0,())=qre D n a0:=by
 have h:rfC qc D n 135 (a0,())=qrc D n (fun x0 x1 x2 x3 x4 x5=>LQ qc D n 135 [.r,.r,.r,.r,.l,.r,.l] n (qgj x0 x1 x2 x3 x4 x5) (CQ qc D n 135 [] [.r,.r,.r,.r,.l,.r,.l] (qi qc 135))) a0:=by kernel_rfl
 rw[h]
 simp only[q50]
 rfl

def qs3 (D:DX)(n:Nat) (go:Int→List Int×Int×Int×Unit→tSch→qd→Option ((qd×Unit)×tCur×Unit)) (K0:List Int×Int×Int×Unit→qd→Option ((qd×Unit)×tCur×Unit)) (x0:Int) (x1:List Int×Int×Int×Unit) (x2:tSch) (x3:qd):Option ((qd×Unit)×tCur×Unit):=br (decide (x0<(↑(List.length (Prod.fst x2)):Int))) (br (decide (0≤x0)&&decide (x0<(↑(List.length (Prod.fst x2)):Int))) (br (Prod.fst (Prod.snd (Prod.snd (List.getD (Prod.fst x2) (Int.toNat x0) (ByteArray.empty,0,false,()))))) (qg (qky D x1 3) fun b↦br (Prod.fst (Prod.fst b)) (br (decide (List.length x3+1≤qbh)) (go (IntKind.wrap IntKind.i64 (x0+1)) (Prod.fst (Prod.snd b)) x2 (x3++[(0,0,ByteArray.empty,())])) none) (br (decide (0≤x0)&&decide (x0<(↑(List.length (Prod.fst x2)):Int))) (qg (qpt D (Prod.fst (Prod.snd b)) (Prod.fst (Prod.snd (List.getD (Prod.fst x2) (Int.toNat x0) (ByteArray.empty,0,false,()))))) fun b↦br (decide (List.length x3+1≤qbh)) (go (IntKind.wrap IntKind.i64 (x0+1)) (Prod.fst (Prod.snd b)) x2 (x3++[Prod.fst (Prod.fst b)])) none) none)) (br (decide (0≤x0)&&decide (x0<(↑(List.length (Prod.fst x2)):Int))) (qg (qpt D x1 (Prod.fst (Prod.snd (List.getD (Prod.fst x2) (Int.toNat x0) (ByteArray.empty,0,false,()))))) fun b↦br (decide (List.length x3+1≤qbh)) (go (IntKind.wrap IntKind.i64 (x0+1)) (Prod.fst (Prod.snd b)) x2 (x3++[Prod.fst (Prod.fst b)])) none) none)) none) (K0 x1 x3)
def qfz (D:DX)(n:Nat) (K0:List Int×Int×Int×Unit→qd→Option ((qd×Unit)×tCur×Unit)):Nat→(Int)→tCur→(tSch)→(qd)→Option ((qd×Unit)×tCur×Unit) | 0=>(fun x0 x1 x2 x3=>none) | m+1=>(fun x0 x1 x2 x3=>qs3 D n (qfz D n K0 m) K0 x0 x1 x2 x3)
def qpv (D:DX)(n:Nat) (v0_0:List Int×Int×Int×Unit) (v0_1:qd):Option ((qd×Unit)×tCur×Unit):=some ((v0_1,()),v0_0,())
def qra (D:DX)(n:Nat):(Int)→tCur→(tSch)→(qd)→Option ((qd×Unit)×tCur×Unit):=(fun x0 x1 x2 x3=>qfz D n (fun v0_0 v0_1=>qpv D n v0_0 v0_1) n x0 x1 x2 x3)
def qud (D:DX)(n:Nat) (lp0:Int→List Int×Int×Int×Unit→tSch→qd→Option ((qd×Unit)×tCur×Unit)) (a0:List Int×Int×Int×Unit) (a1:tSch):Option ((qd×Unit)×tCur×Unit):=lp0 0 a0 a1 []
def qt7 (D:DX)(n:Nat) (a0:List Int×Int×Int×Unit) (a1:tSch):Option ((qd×Unit)×tCur×Unit):=qud D n (qra D n) a0 a1
def qhv (x0:Int) (x1:List Int×Int×Int×Unit) (x2:tSch) (x3:qd):St:=stq 41 [(0,AV.addr 0 []),(3,AV.addr 3 []),(5,AV.brw 5 [] 0),(6,avI x0)] [(0,Root.mk (Ty.pair (Ty.sl (Ty.int IntKind.u8)) (Ty.pair yI (Ty.pair yI Ty.unit))) Mk.no x1 true),(3,Root.mk yS Mk.no x2 true),(5,Root.mk (Ty.sl yV) (Mk.own 0 (Mk.pr Mk.no (Mk.pr Mk.no (Mk.pr Mk.no Mk.no)))) x3 false)] 
def qk2 (v0_0:List Int×Int×Int×Unit) (v0_1:qd):St:=stq 41 [(0,AV.addr 0 []),(5,AV.brw 5 [] 0)] [(0,Root.mk (Ty.pair (Ty.sl (Ty.int IntKind.u8)) (Ty.pair yI (Ty.pair yI Ty.unit))) Mk.no v0_0 true),(5,Root.mk (Ty.sl yV) (Mk.own 0 (Mk.pr Mk.no (Mk.pr Mk.no (Mk.pr Mk.no Mk.no)))) v0_1 false)] 
theorem q9y (D:DX)(n:Nat) (m:Nat) (K:Ex→St→Option (Out ctx 136)) (x0:Int) (x1:List Int×Int×Int×Unit) (x2:tSch) (x3:qd) :
 LQ qc D n 136 [.r,.r,.l,.r,.l] (m+1) (qhv x0 x1 x2 x3) K=qs3 D n (fun x0 x1 x2 x3=>LQ qc D n 136 [.r,.r,.l,.r,.l] m (qhv x0 x1 x2 x3) K) (fun v0_0 v0_1=>K (Ex.exit 0) (qk2 v0_0 v0_1)) x0 x1 x2 x3:=by kernel_rfl
theorem qx5 (D:DX)(n:Nat) (K:Ex→St→Option (Out ctx 136)):∀ (m:Nat) (x0:Int) (x1:List Int×Int×Int×Unit) (x2:tSch) (x3:qd),LQ qc D n 136 [.r,.r,.l,.r,.l] m (qhv x0 x1 x2 x3) K=qfz D n (fun v0_0 v0_1=>K (Ex.exit 0) (qk2 v0_0 v0_1)) m x0 x1 x2 x3
 | 0,x0,x1,x2,x3=>qz ..
 | m+1,x0,x1,x2,x3=>by
  have ih:(fun x0 x1 x2 x3=>LQ qc D n 136 [.r,.r,.l,.r,.l] m (qhv x0 x1 x2 x3) K)=qfz D n (fun v0_0 v0_1=>K (Ex.exit 0) (qk2 v0_0 v0_1)) m:=by funext x0 x1 x2 x3;exact qx5 D n K m x0 x1 x2 x3
  rw[q9y]
  rw[ih];rfl
theorem q78 (D:DX)(n:Nat) (v0_0:List Int×Int×Int×Unit) (v0_1:qd) :
 (CQ qc D n 136 [] [.r,.r,.l,.r,.l] (qi qc 136)) (Ex.exit 0) (qk2 v0_0 v0_1)=qpv D n v0_0 v0_1:=by kernel_rfl
theorem q8i (D:DX)(n:Nat) (x0:Int) (x1:List Int×Int×Int×Unit) (x2:tSch) (x3:qd) :
 LQ qc D n 136 [.r,.r,.l,.r,.l] n (qhv x0 x1 x2 x3) (CQ qc D n 136 [] [.r,.r,.l,.r,.l] (qi qc 136))=qra D n x0 x1 x2 x3:=by
 rw[qx5]
 simp only[q78]
 rfl
theorem qbcw (D:DX)(n:Nat) (a0:List Int×Int×Int×Unit) (a1:tSch):rfC qc D n 136 (a0,(a1,()))=qt7 D n a0 a1:=by
 have h:rfC qc D n 136 (a0,(a1,()))=qud D n (fun x0 x1 x2 x3=>LQ qc D n 136 [.r,.r,.l,.r,.l] n (qhv x0 x1 x2 x3) (CQ qc D n 136 [] [.r,.r,.l,.r,.l] (qi qc 136))) a0 a1:=by kernel_rfl
 rw[h]
 simp only[q8i]
 rfl
end
end Go.G


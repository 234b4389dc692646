import Derived.Test.YtfafjngknkbngaaGreatAV3
set_option linter.unusedVariables false
set_option linter.unusedSimpArgs false
set_option linter.unusedSectionVars false
namespace Go.G
open Go Go.V
abbrev DX:=Den ctx
abbrev tVal:=Int×Int×ByteArray×Unit
abbrev qe:=List tVal
abbrev qd:=List qe
abbrev tIx:=ByteArray×List Int×Bool×Unit
abbrev tIxs:=List tIx
abbrev tCol:=ByteArray×Int×Bool×Unit
abbrev qdo:=List tCol
abbrev tSch:=qdo×List Int×tIxs×Unit
abbrev tWay:=ByteArray×ByteArray×Unit
abbrev tCur:=List Int×Int×Int×Unit
abbrev avI:=AV.val (Ty.int IntKind.i64)
abbrev yI:=Ty.int IntKind.i64
abbrev yC:=Ty.pair Ty.str (Ty.pair yI (Ty.pair Ty.bool Ty.unit))
abbrev yX:=Ty.pair Ty.str (Ty.pair (Ty.sl yI) (Ty.pair Ty.bool Ty.unit))
abbrev yV:=Ty.pair yI (Ty.pair yI (Ty.pair Ty.str Ty.unit))
abbrev yS:=Ty.pair (Ty.sl yC) (Ty.pair (Ty.sl yI) (Ty.pair (Ty.sl yX) Ty.unit))
end Go.G
namespace Go.G
open Go Go.V
noncomputable def qy0 (D:Den ctx) (a0:List Int):Option ((Bool×Unit)×Unit):=D 5 (a0,())
noncomputable def q6t (D:Den ctx) (a0:List Int):Option ((Bool×Unit)×Unit):=D 11 (a0,())
noncomputable def qch (D:Den ctx) (a0:(tSch)×qd×Unit):Option ((Bool×Unit)×Unit):=D 17 (a0,())
noncomputable def qzl (D:Den ctx) (a0:(tSch)×qd×Unit) (a1:qe):Option ((((tSch)×qd×Unit)×Int×Unit)×Unit):=D 18 (a0,(a1,()))
noncomputable def qzs (D:Den ctx) (a0:(tSch)×qd×Unit) (a1:qe):Option ((qe×Bool×Unit)×Unit):=D 22 (a0,(a1,()))
noncomputable def qfh (D:Den ctx) (a0:tSch) (a1:qe):Option ((qe×Unit)×Unit):=D 23 (a0,(a1,()))
noncomputable def qz4 (D:Den ctx) (a0:(tSch)×qd×Unit) (a1:qe):Option ((((tSch)×qd×Unit)×Int×Unit)×Unit):=D 24 (a0,(a1,()))
noncomputable def qwp (D:Den ctx) (a0:(tSch)×qd×Unit) (a1:qe):Option ((((tSch)×qd×Unit)×Int×Unit)×Unit):=D 26 (a0,(a1,()))
noncomputable def qsl (D:Den ctx) (a0:List Int):Option ((((tSch)×qd×Unit)×qe×Unit)×Unit):=D 27 (a0,())
noncomputable def qs2 (D:Den ctx) (a0:(tSch)×qd×Unit) (a1:qe):Option ((((tSch)×qd×Unit)×Int×Unit)×Unit):=D 28 (a0,(a1,()))
noncomputable def qsa (D:Den ctx) (a0:List Int):Option ((((tSch)×qd×Unit)×qe×Unit)×Unit):=D 29 (a0,())
noncomputable def qs0 (D:Den ctx) (a0:(tSch)×qd×Unit) (a1:qe):Option ((((tSch)×qd×Unit)×Int×Unit)×Unit):=D 30 (a0,(a1,()))
noncomputable def qqo (D:Den ctx) (a0:List Int):Option ((((tSch)×qd×Unit)×qe×Unit)×Unit):=D 31 (a0,())
noncomputable def qro (D:Den ctx) (a0:(tSch)×qd×Unit) (a1:qe):Option ((((tSch)×qd×Unit)×Int×Unit)×Unit):=D 32 (a0,(a1,()))
noncomputable def qrv (D:Den ctx) (a0:List Int):Option ((((tSch)×qd×Unit)×qe×Unit)×Unit):=D 33 (a0,())
noncomputable def qzt (D:Den ctx) (a0:(tSch)×qd×Unit) (a1:qe):Option ((qe×Bool×Unit)×Unit):=D 34 (a0,(a1,()))
noncomputable def qts (D:Den ctx) (a0:List Int):Option ((((tSch)×qd×Unit)×Unit)×Unit):=D 35 (a0,())
noncomputable def qr1 (D:Den ctx) (a0:List Int):Option (((tSch)×Unit)×Unit):=D 36 (a0,())
noncomputable def q0e (D:Den ctx) (a0:tSch):Option ((((tSch)×qd×Unit)×Bool×Unit)×Unit):=D 37 (a0,())
noncomputable def qs1 (D:Den ctx) (a0:tSch):Option ((((tSch)×qd×Unit)×Bool×Unit)×Unit):=D 38 (a0,())
noncomputable def qcy (D:Den ctx) (a0:(tSch)×qd×Unit) (a1:(tSch)×qd×Unit):Option ((Bool×Unit)×Unit):=D 39 (a0,(a1,()))
noncomputable def qog (D:Den ctx) (a0:qe) (a1:qe):Option ((Bool×Unit)×Unit):=D 40 (a0,(a1,()))
noncomputable def qiy (D:Den ctx) (a0:(tSch)×qd×Unit):Option ((Bool×Unit)×Unit):=D 41 (a0,())
noncomputable def qiu (D:Den ctx) (a0:List Int):Option ((tCur×Unit)×Unit):=D 65 (a0,())
noncomputable def qpd (D:Den ctx) (a0:List Int×Int×Int×Unit):Option ((((tSch)×qd×Unit)×Unit)×tCur×Unit):=D 66 (a0,())
noncomputable def qg1 (D:Den ctx) (a0:List Int×Int×Int×Unit) (a1:(tSch)×qd×Unit):Option ((qe×Unit)×tCur×Unit):=D 67 (a0,(a1,()))
noncomputable def qgr (D:Den ctx) (a0:Int) (a1:Int) (a2:Int):Option ((Bool×Unit)×Unit):=D 68 (a0,(a1,(a2,())))
noncomputable def qq0 (D:Den ctx) (a0:tSch) (a1:qe):Option ((Bool×Unit)×Unit):=D 77 (a0,(a1,()))
noncomputable def qns (D:Den ctx) (a0:qe) (a1:qe):Option ((Bool×Unit)×Unit):=D 78 (a0,(a1,()))
noncomputable def qbi (D:Den ctx) (a0:qd) (a1:Clo):Option ((Bool×Unit)×Unit):=D 79 (a0,(a1,()))
noncomputable def q40 (D:Den ctx) (a0:qe) (a1:(tSch)×qd×Unit) (a2:qe):Option ((Bool×Unit)×Unit):=D 80 (a0,(a1,(a2,())))
noncomputable def qqs (D:Den ctx) (a0:tSch) (a1:qe) (a2:qe):Option ((Bool×Unit)×Unit):=D 81 (a0,(a1,(a2,())))
noncomputable def qpm (D:Den ctx) (a0:tSch):Option ((Bool×Unit)×Unit):=D 82 (a0,())
noncomputable def qho (D:Den ctx) (a0:(tSch)×qd×Unit):Option ((((tSch)×qd×Unit)×Unit)×Unit):=D 83 (a0,())
noncomputable def qnm (D:Den ctx) (a0:(tSch)×qd×Unit) (a1:qe):Option ((Int×Unit)×Unit):=D 84 (a0,(a1,()))
noncomputable def q3z (D:Den ctx) (a0:qe) (a1:(tSch)×qd×Unit) (a2:qe):Option ((Bool×Unit)×Unit):=D 85 (a0,(a1,(a2,())))
noncomputable def qcc (D:Den ctx) (a0:qd) (a1:Clo):Option ((Int×Unit)×Unit):=D 86 (a0,(a1,()))
noncomputable def q34 (D:Den ctx) (a0:qe) (a1:qe) (a2:(tSch)×qd×Unit):Option ((Bool×Unit)×Unit):=D 87 (a0,(a1,(a2,())))
noncomputable def qbn (D:Den ctx) (a0:qe):Option ((qe×Unit)×Unit):=D 89 (a0,())
noncomputable def qni (D:Den ctx) (a0:qe) (a1:List Int):Option ((qe×Unit)×Unit):=D 94 (a0,(a1,()))
noncomputable def qh8 (D:Den ctx) (a0:List Int×Int×Int×Unit):Option ((((tSch)×qd×Unit)×Unit)×tCur×Unit):=D 98 (a0,())
noncomputable def qnh (D:Den ctx) (a0:(tSch)×qd×Unit):Option ((((tSch)×qd×Unit)×Unit)×Unit):=D 99 (a0,())
noncomputable def qq4 (D:Den ctx) (a0:tSch) (a1:qe):Option ((Bool×Unit)×Unit):=D 100 (a0,(a1,()))
noncomputable def qng (D:Den ctx) (a0:(tSch)×qd×Unit) (a1:qe):Option ((Int×Unit)×Unit):=D 101 (a0,(a1,()))
noncomputable def qc0 (D:Den ctx) (a0:tSch) (a1:qe):Option ((qe×Unit)×Unit):=D 102 (a0,(a1,()))
noncomputable def qnt (D:Den ctx) (a0:(tSch)×qd×Unit) (a1:qe) (a2:Int):Option ((Bool×Unit)×Unit):=D 103 (a0,(a1,(a2,())))
noncomputable def qnw (D:Den ctx) (a0:qe) (a1:qe):Option ((Bool×Unit)×Unit):=D 104 (a0,(a1,()))
noncomputable def qia (D:Den ctx) (a0:qd):Option ((qd×Unit)×Unit):=D 105 (a0,())
noncomputable def qrl (D:Den ctx) (a0:List Int×Int×Int×Unit):Option (((tSch)×Unit)×tCur×Unit):=D 106 (a0,())
noncomputable def qm4 (D:Den ctx) (a0:tSch):Option (((tSch)×Unit)×Unit):=D 107 (a0,())
noncomputable def qrj (D:Den ctx) (a0:tSch):Option (((tSch)×Unit)×Unit):=D 108 (a0,())
noncomputable def qu3 (D:Den ctx) (a0:qd) (a1:qd):Option ((Bool×Unit)×Unit):=D 109 (a0,(a1,()))
noncomputable def qp1 (D:Den ctx) (a0:List Int) (a1:List Int):Option ((Bool×Unit)×Unit):=D 110 (a0,(a1,()))
noncomputable def qpy (D:Den ctx) (a0:tSch) (a1:qe) (a2:qe):Option ((Bool×Unit)×Unit):=D 111 (a0,(a1,(a2,())))
noncomputable def qpw (D:Den ctx) (a0:tSch):Option ((Bool×Unit)×Unit):=D 112 (a0,())
noncomputable def qjo (D:Den ctx) (a0:List Int×Int×Int×Unit) (a1:Int):Option ((Bool×Unit)×tCur×Unit):=D 114 (a0,(a1,()))
noncomputable def qb9 (D:Den ctx) (a0:List Int×Int×Int×Unit) (a1:Int):Option ((Int×Unit)×tCur×Unit):=D 115 (a0,(a1,()))
noncomputable def qgq (D:Den ctx) (a0:Int) (a1:Int) (a2:Int):Option ((Bool×Unit)×Unit):=D 117 (a0,(a1,(a2,())))
noncomputable def qnj (D:Den ctx) (a0:qe) (a1:List Int):Option ((qe×Unit)×Unit):=D 119 (a0,(a1,()))
noncomputable def qkk (D:Den ctx) (a0:List Int×Int×Int×Unit):Option (((tSch)×Unit)×tCur×Unit):=D 135 (a0,())
noncomputable def qjr (D:Den ctx) (a0:List Int×Int×Int×Unit) (a1:tSch):Option ((qe×Unit)×tCur×Unit):=D 136 (a0,(a1,()))
noncomputable def qio (D:Den ctx) (a0:List Int):Option ((List Int×Unit)×Unit):=D 138 (a0,())
noncomputable def qxh (D:Den ctx) (a0:Int×Int×ByteArray×Unit):Option ((Bool×Unit)×Unit):=D 139 (a0,())
noncomputable def qb8 (D:Den ctx) (a0:qe) (a1:qe) (a2:Clo):Option ((Int×Unit)×Unit):=D 140 (a0,(a1,(a2,())))
noncomputable def qx6 (D:Den ctx) (a0:Int×Int×ByteArray×Unit) (a1:Int×Int×ByteArray×Unit):Option ((Int×Unit)×Unit):=D 141 (a0,(a1,()))
noncomputable def qco (D:Den ctx) (a0:tIxs) (a1:Clo):Option ((Bool×Unit)×Unit):=D 142 (a0,(a1,()))
noncomputable def q5t (D:Den ctx) (a0:ByteArray×List Int×Bool×Unit) (a1:qe) (a2:qe):Option ((Bool×Unit)×Unit):=D 143 (a0,(a1,(a2,())))
noncomputable def qd6 (D:Den ctx) (a0:qe) (a1:Int×Int×ByteArray×Unit):Option ((Bool×Unit)×Unit):=D 144 (a0,(a1,()))
noncomputable def qde (D:Den ctx) (a0:qe) (a1:qe):Option ((Bool×Unit)×Unit):=D 145 (a0,(a1,()))
noncomputable def qn6 (D:Den ctx) (a0:ByteArray):Option ((Bool×Unit)×Unit):=D 146 (a0,())
noncomputable def q2m (D:Den ctx) (a0:tSch) (a1:ByteArray):Option ((Int×Unit)×Unit):=D 147 (a0,(a1,()))
noncomputable def qpq (D:Den ctx) (a0:tSch) (a1:List Int) (a2:Int):Option ((Bool×Unit)×Unit):=D 148 (a0,(a1,(a2,())))
noncomputable def q07 (D:Den ctx) (a0:ByteArray×List Int×Bool×Unit) (a1:ByteArray×List Int×Bool×Unit):Option ((Bool×Unit)×Unit):=D 149 (a0,(a1,()))
noncomputable def qhi (D:Den ctx) (a0:List Int) (a1:Clo):Option ((Bool×Unit)×Unit):=D 150 (a0,(a1,()))
noncomputable def q05 (D:Den ctx) (a0:Int) (a1:tSch):Option ((Bool×Unit)×Unit):=D 151 (a0,(a1,()))
noncomputable def qst (D:Den ctx) (a0:qd):Option ((qd×Unit)×Unit):=D 152 (a0,())
noncomputable def q5d (D:Den ctx) (a0:qe) (a1:(tSch)×qd×Unit) (a2:qe):Option ((Bool×Unit)×Unit):=D 153 (a0,(a1,(a2,())))
noncomputable def qwt (D:Den ctx) (a0:Int×Int×ByteArray×Unit):Option ((Bool×Unit)×Unit):=D 158 (a0,())
noncomputable def qrk (D:Den ctx) (a0:qe) (a1:qe):Option ((Bool×Unit)×Unit):=D 159 (a0,(a1,()))
noncomputable def qnr (D:Den ctx) (a0:Int×Int×ByteArray×Unit) (a1:Int×Int×ByteArray×Unit):Option ((Bool×Unit)×Unit):=D 160 (a0,(a1,()))
noncomputable def qub (D:Den ctx) (a0:Int×Int×ByteArray×Unit) (a1:Int×Int×ByteArray×Unit):Option ((Bool×Unit)×Unit):=D 161 (a0,(a1,()))
noncomputable def qs5 (D:Den ctx) (a0:List Int×Int×Int×Unit) (a1:List ByteArray):Option ((ByteArray×Unit)×tCur×Unit):=D 162 (a0,(a1,()))
noncomputable def qkg (D:Den ctx) (a0:List Int×Int×Int×Unit) (a1:List Int):Option ((Int×Unit)×tCur×Unit):=D 163 (a0,(a1,()))
noncomputable def qf7 (D:Den ctx) (a0:qdo):Option ((qdo×Unit)×Unit):=D 164 (a0,())
noncomputable def qxy (D:Den ctx) (a0:qe):Option ((Bool×Unit)×Unit):=D 165 (a0,())
noncomputable def qoc (D:Den ctx) (a0:ByteArray):Option ((Bool×Unit)×Unit):=D 166 (a0,())
noncomputable def q28 (D:Den ctx) (a0:tSch) (a1:ByteArray):Option ((Int×Unit)×Unit):=D 167 (a0,(a1,()))
noncomputable def qnx (D:Den ctx) (a0:tSch) (a1:List Int) (a2:Int):Option ((Bool×Unit)×Unit):=D 168 (a0,(a1,(a2,())))
noncomputable def qsk (D:Den ctx) (a0:tSch):Option ((Bool×Unit)×Unit):=D 169 (a0,())
noncomputable def qjk (D:Den ctx) (a0:List Int×Int×Int×Unit):Option ((Int×Unit)×tCur×Unit):=D 170 (a0,())
noncomputable def qn0 (D:Den ctx) (a0:List Int×Int×Int×Unit) (a1:Int):Option ((tVal×Unit)×tCur×Unit):=D 190 (a0,(a1,()))
noncomputable def qd0 (D:Den ctx) (a0:tIxs) (a1:Clo):Option ((Int×Unit)×Unit):=D 193 (a0,(a1,()))
noncomputable def qe2 (D:Den ctx) (a0:qe) (a1:Int×Int×ByteArray×Unit):Option ((Int×Unit)×Unit):=D 194 (a0,(a1,()))
noncomputable def qez (D:Den ctx) (a0:qdo) (a1:Clo):Option ((Int×Unit)×Unit):=D 195 (a0,(a1,()))
noncomputable def q43 (D:Den ctx) (a0:ByteArray×Int×Bool×Unit) (a1:ByteArray):Option ((Bool×Unit)×Unit):=D 196 (a0,(a1,()))
noncomputable def qj1 (D:Den ctx) (a0:List Int) (a1:Int):Option ((Bool×Unit)×Unit):=D 197 (a0,(a1,()))
noncomputable def qjm (D:Den ctx) (a0:List Int) (a1:Clo):Option ((Int×Unit)×Unit):=D 198 (a0,(a1,()))
noncomputable def qmb (D:Den ctx) (a0:List Int) (a1:Int):Option ((Int×Unit)×Unit):=D 210 (a0,(a1,()))
noncomputable def qep (D:Den ctx) (a0:qd) (a1:Int) (a2:qd):Option ((qd×Unit)×Unit):=D 88 (a0,(a1,(a2,())))
noncomputable def qsx (D:Den ctx) (a0:List tWay) (a1:Int) (a2:List tWay):Option ((List tWay×Unit)×Unit):=D 93 (a0,(a1,(a2,())))
noncomputable def qif (D:Den ctx) (a0:qd) (a1:Int) (a2:Int):Option ((qd×Unit)×Unit):=D 95 (a0,(a1,(a2,())))
noncomputable def q0m (D:Den ctx) (a0:ByteArray) (a1:ByteArray):Option ((Int×Unit)×Unit):=D 192 (a0,(a1,()))
end Go.G

namespace Go.G
set_option maxRecDepth 100000
set_option maxHeartbeats 0
open Go Go.V
noncomputable section
def qwj (D:DX)(n:Nat) (z1_0:Int) (z1_1:Int) (z1_2:Int) (z1_3:(tSch)×qd×Unit) (z1_4:(tSch)×qd×Unit) (z1_5:(tSch)×qd×Unit):Option ((Bool×Unit)×Unit):=br (z1_0 != 0) (br (z1_1 != 0) (br (z1_2 != 0) (some ((true,()),())) (qg (qch D ((Prod.fst (Prod.fst z1_5),Prod.fst (Prod.snd (Prod.fst z1_5)),Prod.fst (Prod.snd (Prod.snd (Prod.fst z1_5))),()),Prod.fst (Prod.snd z1_5),())) fun b↦some ((Prod.fst (Prod.fst b),()),()))) (qg (qch D ((Prod.fst (Prod.fst z1_4),Prod.fst (Prod.snd (Prod.fst z1_4)),Prod.fst (Prod.snd (Prod.snd (Prod.fst z1_4))),()),Prod.fst (Prod.snd z1_4),())) fun b↦br (Prod.fst (Prod.fst b)) (br (z1_2 != 0) (some ((true,()),())) (qg (qch D ((Prod.fst (Prod.fst z1_5),Prod.fst (Prod.snd (Prod.fst z1_5)),Prod.fst (Prod.snd (Prod.snd (Prod.fst z1_5))),()),Prod.fst (Prod.snd z1_5),())) fun b↦some ((Prod.fst (Prod.fst b),()),()))) (some ((false,()),())))) (qg (qch D ((Prod.fst (Prod.fst z1_3),Prod.fst (Prod.snd (Prod.fst z1_3)),Prod.fst (Prod.snd (Prod.snd (Prod.fst z1_3))),()),Prod.fst (Prod.snd z1_3),())) fun b↦br (Prod.fst (Prod.fst b)) (br (z1_1 != 0) (br (z1_2 != 0) (some ((true,()),())) (qg (qch D ((Prod.fst (Prod.fst z1_5),Prod.fst (Prod.snd (Prod.fst z1_5)),Prod.fst (Prod.snd (Prod.snd (Prod.fst z1_5))),()),Prod.fst (Prod.snd z1_5),())) fun b↦some ((Prod.fst (Prod.fst b),()),()))) (qg (qch D ((Prod.fst (Prod.fst z1_4),Prod.fst (Prod.snd (Prod.fst z1_4)),Prod.fst (Prod.snd (Prod.snd (Prod.fst z1_4))),()),Prod.fst (Prod.snd z1_4),())) fun b↦br (Prod.fst (Prod.fst b)) (br (z1_2 != 0) (some ((true,()),())) (qg (qch D ((Prod.fst (Prod.fst z1_5),Prod.fst (Prod.snd (Prod.fst z1_5)),Prod.fst (Prod.snd (Prod.snd (Prod.fst z1_5))),()),Prod.fst (Prod.snd z1_5),())) fun b↦some ((Prod.fst (Prod.fst b),()),()))) (some ((false,()),())))) (some ((false,()),())))
def qkt (D:DX)(n:Nat) (z1_0:Int) (z1_1:Int) (z1_2:Int) (z1_3:(tSch)×qd×Unit) (z1_4:(tSch)×qd×Unit) (z1_5:(tSch)×qd×Unit):Option ((Bool×Unit)×Unit):=qwj D n z1_0 z1_1 z1_2 z1_3 z1_4 z1_5
def qo9 (D:DX)(n:Nat) (j1:Int→Int→Int→(tSch)×qd×Unit→(tSch)×qd×Unit→(tSch)×qd×Unit→Option ((Bool×Unit)×Unit)) (z0:Int) (z1:Int) (z2:Int) (z3:(tSch)×qd×Unit) (z4:(tSch)×qd×Unit) (z5:(tSch)×qd×Unit) (z6:(tSch)×qd×Unit) (z7:(tSch)×qd×Unit) (z8:(tSch)×qd×Unit):Option ((Bool×Unit)×Unit):=br (z0 != 0) (qg (qcy D ((Prod.fst (Prod.fst z4),Prod.fst (Prod.snd (Prod.fst z4)),Prod.fst (Prod.snd (Prod.snd (Prod.fst z4))),()),Prod.fst (Prod.snd z4),()) z3) fun b↦br (!Prod.fst (Prod.fst b)) (some ((false,()),())) (br (z1 != 0) (qg (qcy D ((Prod.fst (Prod.fst z6),Prod.fst (Prod.snd (Prod.fst z6)),Prod.fst (Prod.snd (Prod.snd (Prod.fst z6))),()),Prod.fst (Prod.snd z6),()) z5) fun b↦br (!Prod.fst (Prod.fst b)) (some ((false,()),())) (br (z2 != 0) (qg (qcy D ((Prod.fst (Prod.fst z8),Prod.fst (Prod.snd (Prod.fst z8)),Prod.fst (Prod.snd (Prod.snd (Prod.fst z8))),()),Prod.fst (Prod.snd z8),()) z7) fun b↦br (!Prod.fst (Prod.fst b)) (some ((false,()),())) (j1 z0 z1 z2 z4 z6 z8)) (j1 z0 z1 z2 z4 z6 z8))) (br (z2 != 0) (qg (qcy D ((Prod.fst (Prod.fst z8),Prod.fst (Prod.snd (Prod.fst z8)),Prod.fst (Prod.snd (Prod.snd (Prod.fst z8))),()),Prod.fst (Prod.snd z8),()) z7) fun b↦br (!Prod.fst (Prod.fst b)) (some ((false,()),())) (j1 z0 z1 z2 z4 z6 z8)) (j1 z0 z1 z2 z4 z6 z8)))) (br (z1 != 0) (qg (qcy D ((Prod.fst (Prod.fst z6),Prod.fst (Prod.snd (Prod.fst z6)),Prod.fst (Prod.snd (Prod.snd (Prod.fst z6))),()),Prod.fst (Prod.snd z6),()) z5) fun b↦br (!Prod.fst (Prod.fst b)) (some ((false,()),())) (br (z2 != 0) (qg (qcy D ((Prod.fst (Prod.fst z8),Prod.fst (Prod.snd (Prod.fst z8)),Prod.fst (Prod.snd (Prod.snd (Prod.fst z8))),()),Prod.fst (Prod.snd z8),()) z7) fun b↦br (!Prod.fst (Prod.fst b)) (some ((false,()),())) (j1 z0 z1 z2 z4 z6 z8)) (j1 z0 z1 z2 z4 z6 z8))) (br (z2 != 0) (qg (qcy D ((Prod.fst (Prod.fst z8),Prod.fst (Prod.snd (Prod.fst z8)),Prod.fst (Prod.snd (Prod.snd (Prod.fst z8))),()),Prod.fst (Prod.snd z8),()) z7) fun b↦br (!Prod.fst (Prod.fst b)) (some ((false,()),())) (j1 z0 z1 z2 z4 z6 z8)) (j1 z0 z1 z2 z4 z6 z8)))
def qkj (D:DX)(n:Nat) (z0:Int) (z1:Int) (z2:Int) (z3:(tSch)×qd×Unit) (z4:(tSch)×qd×Unit) (z5:(tSch)×qd×Unit) (z6:(tSch)×qd×Unit) (z7:(tSch)×qd×Unit) (z8:(tSch)×qd×Unit):Option ((Bool×Unit)×Unit):=qo9 D n (fun z1_0 z1_1 z1_2 z1_3 z1_4 z1_5=>qkt D n z1_0 z1_1 z1_2 z1_3 z1_4 z1_5) z0 z1 z2 z3 z4 z5 z6 z7 z8
def qq7 (D:DX)(n:Nat) (j0:Int→Int→Int→(tSch)×qd×Unit→(tSch)×qd×Unit→(tSch)×qd×Unit→(tSch)×qd×Unit→(tSch)×qd×Unit→(tSch)×qd×Unit→Option ((Bool×Unit)×Unit)) (a0:List Int):Option ((Bool×Unit)×Unit):=qg (q6t D a0) fun b↦br (Prod.fst (Prod.fst b)) (some ((true,()),())) (qg (qsl D a0) fun b↦qg (qzl D (Prod.fst (Prod.fst b)) (Prod.fst (Prod.snd (Prod.fst b)))) fun b_1↦qg (qs2 D (Prod.fst (Prod.fst b)) (Prod.fst (Prod.snd (Prod.fst b)))) fun b_2↦qg (qsa D a0) fun b_3↦qg (qz4 D (Prod.fst (Prod.fst b_3)) (Prod.fst (Prod.snd (Prod.fst b_3)))) fun b_4↦qg (qs0 D (Prod.fst (Prod.fst b_3)) (Prod.fst (Prod.snd (Prod.fst b_3)))) fun b_5↦qg (qqo D a0) fun b_6↦qg (qwp D (Prod.fst (Prod.fst b_6)) (Prod.fst (Prod.snd (Prod.fst b_6)))) fun b_7↦qg (qro D (Prod.fst (Prod.fst b_6)) (Prod.fst (Prod.snd (Prod.fst b_6)))) fun b_8↦qg (qrv D a0) fun b_9↦qg (qzs D (Prod.fst (Prod.fst b_9)) (Prod.fst (Prod.snd (Prod.fst b_9)))) fun b_10↦qg (qzt D (Prod.fst (Prod.fst b_9)) (Prod.fst (Prod.snd (Prod.fst b_9)))) fun b_11↦qg (qts D a0) fun b_12↦qg (qr1 D a0) fun b_13↦qg (q0e D (Prod.fst (Prod.fst b_13))) fun b_14↦qg (qs1 D (Prod.fst (Prod.fst b_13))) fun b_15↦br (Prod.fst (Prod.snd (Prod.fst b_1)) != Prod.fst (Prod.snd (Prod.fst b_2))) (some ((false,()),())) (qg (qcy D ((Prod.fst (Prod.fst (Prod.fst (Prod.fst b_1))),Prod.fst (Prod.snd (Prod.fst (Prod.fst (Prod.fst b_1)))),Prod.fst (Prod.snd (Prod.snd (Prod.fst (Prod.fst (Prod.fst b_1))))),()),Prod.fst (Prod.snd (Prod.fst (Prod.fst b_1))),()) (Prod.fst (Prod.fst (Prod.fst b_2)),Prod.fst (Prod.snd (Prod.fst (Prod.fst b_2))),())) fun b_16↦br (bif !Prod.fst (Prod.fst b_16) then true else Prod.fst (Prod.snd (Prod.fst b_4)) != Prod.fst (Prod.snd (Prod.fst b_5))) (some ((false,()),())) (qg (qcy D ((Prod.fst (Prod.fst (Prod.fst (Prod.fst b_4))),Prod.fst (Prod.snd (Prod.fst (Prod.fst (Prod.fst b_4)))),Prod.fst (Prod.snd (Prod.snd (Prod.fst (Prod.fst (Prod.fst b_4))))),()),Prod.fst (Prod.snd (Prod.fst (Prod.fst b_4))),()) (Prod.fst (Prod.fst (Prod.fst b_5)),Prod.fst (Prod.snd (Prod.fst (Prod.fst b_5))),())) fun b_17↦br (bif !Prod.fst (Prod.fst b_17) then true else Prod.fst (Prod.snd (Prod.fst b_7)) != Prod.fst (Prod.snd (Prod.fst b_8))) (some ((false,()),())) (qg (qcy D ((Prod.fst (Prod.fst (Prod.fst (Prod.fst b_7))),Prod.fst (Prod.snd (Prod.fst (Prod.fst (Prod.fst b_7)))),Prod.fst (Prod.snd (Prod.snd (Prod.fst (Prod.fst (Prod.fst b_7))))),()),Prod.fst (Prod.snd (Prod.fst (Prod.fst b_7))),()) (Prod.fst (Prod.fst (Prod.fst b_8)),Prod.fst (Prod.snd (Prod.fst (Prod.fst b_8))),())) fun b_18↦br (bif !Prod.fst (Prod.fst b_18) then true else !decide (Prod.fst (Prod.snd (Prod.fst b_10))=Prod.fst (Prod.snd (Prod.fst b_11)))) (some ((false,()),())) (qg (qog D (Prod.fst (Prod.fst b_10)) (Prod.fst (Prod.fst b_11))) fun b_19↦br (!Prod.fst (Prod.fst b_19)) (some ((false,()),())) (qg (qch D (Prod.fst (Prod.fst b_12))) fun b_20↦qg (qiy D (Prod.fst (Prod.fst b_12))) fun b_21↦br (bif !decide (Prod.fst (Prod.fst b_20)=Prod.fst (Prod.fst b_21)) then true else !decide (Prod.fst (Prod.snd (Prod.fst b_14))=Prod.fst (Prod.snd (Prod.fst b_15)))) (some ((false,()),())) (br (Prod.fst (Prod.snd (Prod.fst b_14))) (qg (qch D ((Prod.fst (Prod.fst (Prod.fst (Prod.fst b_14))),Prod.fst (Prod.snd (Prod.fst (Prod.fst (Prod.fst b_14)))),Prod.fst (Prod.snd (Prod.snd (Prod.fst (Prod.fst (Prod.fst b_14))))),()),Prod.fst (Prod.snd (Prod.fst (Prod.fst b_14))),())) fun b_22↦br (!Prod.fst (Prod.fst b_22)) (some ((false,()),())) (j0 (Prod.fst (Prod.snd (Prod.fst b_1))) (Prod.fst (Prod.snd (Prod.fst b_4))) (Prod.fst (Prod.snd (Prod.fst b_7))) (Prod.fst (Prod.fst b)) ((Prod.fst (Prod.fst (Prod.fst (Prod.fst b_1))),Prod.fst (Prod.snd (Prod.fst (Prod.fst (Prod.fst b_1)))),Prod.fst (Prod.snd (Prod.snd (Prod.fst (Prod.fst (Prod.fst b_1))))),()),Prod.fst (Prod.snd (Prod.fst (Prod.fst b_1))),()) (Prod.fst (Prod.fst b_3)) ((Prod.fst (Prod.fst (Prod.fst (Prod.fst b_4))),Prod.fst (Prod.snd (Prod.fst (Prod.fst (Prod.fst b_4)))),Prod.fst (Prod.snd (Prod.snd (Prod.fst (Prod.fst (Prod.fst b_4))))),()),Prod.fst (Prod.snd (Prod.fst (Prod.fst b_4))),()) (Prod.fst (Prod.fst b_6)) ((Prod.fst (Prod.fst (Prod.fst (Prod.fst b_7))),Prod.fst (Prod.snd (Prod.fst (Prod.fst (Prod.fst b_7)))),Prod.fst (Prod.snd (Prod.snd (Prod.fst (Prod.fst (Prod.fst b_7))))),()),Prod.fst (Prod.snd (Prod.fst (Prod.fst b_7))),()))) (j0 (Prod.fst (Prod.snd (Prod.fst b_1))) (Prod.fst (Prod.snd (Prod.fst b_4))) (Prod.fst (Prod.snd (Prod.fst b_7))) (Prod.fst (Prod.fst b)) ((Prod.fst (Prod.fst (Prod.fst (Prod.fst b_1))),Prod.fst (Prod.snd (Prod.fst (Prod.fst (Prod.fst b_1)))),Prod.fst (Prod.snd (Prod.snd (Prod.fst (Prod.fst (Prod.fst b_1))))),()),Prod.fst (Prod.snd (Prod.fst (Prod.fst b_1))),()) (Prod.fst (Prod.fst b_3)) ((Prod.fst (Prod.fst (Prod.fst (Prod.fst b_4))),Prod.fst (Prod.snd (Prod.fst (Prod.fst (Prod.fst b_4)))),Prod.fst (Prod.snd (Prod.snd (Prod.fst (Prod.fst (Prod.fst b_4))))),()),Prod.fst (Prod.snd (Prod.fst (Prod.fst b_4))),()) (Prod.fst (Prod.fst b_6)) ((Prod.fst (Prod.fst (Prod.fst (Prod.fst b_7))),Prod.fst (Prod.snd (Prod.fst (Prod.fst (Prod.fst b_7)))),Prod.fst (Prod.snd (Prod.snd (Prod.fst (Prod.fst (Prod.fst b_7))))),()),Prod.fst (Prod.snd (Prod.fst (Prod.fst b_7))),())))))))))
def qq9 (D:DX)(n:Nat) (a0:List Int):Option ((Bool×Unit)×Unit):=qq7 D n (fun z0 z1 z2 z3 z4 z5 z6 z7 z8=>qkj D n z0 z1 z2 z3 z4 z5 z6 z7 z8) a0
def qj0 (z0:Int) (z1:Int) (z2:Int) (z3:(tSch)×qd×Unit) (z4:(tSch)×qd×Unit) (z5:(tSch)×qd×Unit) (z6:(tSch)×qd×Unit) (z7:(tSch)×qd×Unit) (z8:(tSch)×qd×Unit):St:=stq 229 [(3,AV.addr 3 []),(5,AV.addr 5 []),(6,avI z0),(9,AV.addr 9 []),(11,AV.addr 11 []),(12,avI z1),(15,AV.addr 15 []),(17,AV.addr 17 []),(18,avI z2)] [(3,Root.mk (Ty.pair yS (Ty.pair (Ty.sl (Ty.sl yV)) Ty.unit)) Mk.no z3 true),(5,Root.mk (Ty.pair yS (Ty.pair (Ty.sl (Ty.sl yV)) Ty.unit)) (Mk.pr (Mk.pr (Mk.own 0 (Mk.pr Mk.no (Mk.pr Mk.no (Mk.pr Mk.no Mk.no)))) (Mk.pr (Mk.own 0 Mk.no) (Mk.pr (Mk.own 0 (Mk.pr Mk.no (Mk.pr (Mk.own 0 Mk.no) (Mk.pr Mk.no Mk.no)))) Mk.no))) (Mk.pr (Mk.own 0 (Mk.own 0 (Mk.pr Mk.no (Mk.pr Mk.no (Mk.pr Mk.no Mk.no))))) Mk.no)) z4 true),(9,Root.mk (Ty.pair yS (Ty.pair (Ty.sl (Ty.sl yV)) Ty.unit)) Mk.no z5 true),(11,Root.mk (Ty.pair yS (Ty.pair (Ty.sl (Ty.sl yV)) Ty.unit)) (Mk.pr (Mk.pr (Mk.own 0 (Mk.pr Mk.no (Mk.pr Mk.no (Mk.pr Mk.no Mk.no)))) (Mk.pr (Mk.own 0 Mk.no) (Mk.pr (Mk.own 0 (Mk.pr Mk.no (Mk.pr (Mk.own 0 Mk.no) (Mk.pr Mk.no Mk.no)))) Mk.no))) (Mk.pr (Mk.own 0 (Mk.own 0 (Mk.pr Mk.no (Mk.pr Mk.no (Mk.pr Mk.no Mk.no))))) Mk.no)) z6 true),(15,Root.mk (Ty.pair yS (Ty.pair (Ty.sl (Ty.sl yV)) Ty.unit)) Mk.no z7 true),(17,Root.mk (Ty.pair yS (Ty.pair (Ty.sl (Ty.sl yV)) Ty.unit)) (Mk.pr (Mk.pr (Mk.own 0 (Mk.pr Mk.no (Mk.pr Mk.no (Mk.pr Mk.no Mk.no)))) (Mk.pr (Mk.own 0 Mk.no) (Mk.pr (Mk.own 0 (Mk.pr Mk.no (Mk.pr (Mk.own 0 Mk.no) (Mk.pr Mk.no Mk.no)))) Mk.no))) (Mk.pr (Mk.own 0 (Mk.own 0 (Mk.pr Mk.no (Mk.pr Mk.no (Mk.pr Mk.no Mk.no))))) Mk.no)) z8 true)] 
def qvt (z1_0:Int) (z1_1:Int) (z1_2:Int) (z1_3:(tSch)×qd×Unit) (z1_4:(tSch)×qd×Unit) (z1_5:(tSch)×qd×Unit):St:=stq 229 [(5,AV.addr 5 []),(6,avI z1_0),(11,AV.addr 11 []),(12,avI z1_1),(17,AV.addr 17 []),(18,avI z1_2)] [(5,Root.mk (Ty.pair yS (Ty.pair (Ty.sl (Ty.sl yV)) Ty.unit)) (Mk.pr (Mk.pr (Mk.own 0 (Mk.pr Mk.no (Mk.pr Mk.no (Mk.pr Mk.no Mk.no)))) (Mk.pr (Mk.own 0 Mk.no) (Mk.pr (Mk.own 0 (Mk.pr Mk.no (Mk.pr (Mk.own 0 Mk.no) (Mk.pr Mk.no Mk.no)))) Mk.no))) (Mk.pr (Mk.own 0 (Mk.own 0 (Mk.pr Mk.no (Mk.pr Mk.no (Mk.pr Mk.no Mk.no))))) Mk.no)) z1_3 true),(11,Root.mk (Ty.pair yS (Ty.pair (Ty.sl (Ty.sl yV)) Ty.unit)) (Mk.pr (Mk.pr (Mk.own 0 (Mk.pr Mk.no (Mk.pr Mk.no (Mk.pr Mk.no Mk.no)))) (Mk.pr (Mk.own 0 Mk.no) (Mk.pr (Mk.own 0 (Mk.pr Mk.no (Mk.pr (Mk.own 0 Mk.no) (Mk.pr Mk.no Mk.no)))) Mk.no))) (Mk.pr (Mk.own 0 (Mk.own 0 (Mk.pr Mk.no (Mk.pr Mk.no (Mk.pr Mk.no Mk.no))))) Mk.no)) z1_4 true),(17,Root.mk (Ty.pair yS (Ty.pair (Ty.sl (Ty.sl yV)) Ty.unit)) (Mk.pr (Mk.pr (Mk.own 0 (Mk.pr Mk.no (Mk.pr Mk.no (Mk.pr Mk.no Mk.no)))) (Mk.pr (Mk.own 0 Mk.no) (Mk.pr (Mk.own 0 (Mk.pr Mk.no (Mk.pr (Mk.own 0 Mk.no) (Mk.pr Mk.no Mk.no)))) Mk.no))) (Mk.pr (Mk.own 0 (Mk.own 0 (Mk.pr Mk.no (Mk.pr Mk.no (Mk.pr Mk.no Mk.no))))) Mk.no)) z1_5 true)] 
theorem q5g (D:DX)(n:Nat) (z1_0:Int) (z1_1:Int) (z1_2:Int) (z1_3:(tSch)×
 qd×Unit) (z1_4:(tSch)×
 qd×Unit) (z1_5:(tSch)×
 qd×Unit) :
 qet ctx D (ctx.hints 5) n (qd7 (qjq qc 5) [.r,.r,.r,.r,.r,.r,.r,.r,.r,.r,.r,.r,.r,.r,.r,.r,.r,.r,.r]) (qvt z1_0 z1_1 z1_2 z1_3 z1_4 z1_5) (qi (C:=ctx) qc 5)=qkt D n z1_0 z1_1 z1_2 z1_3 z1_4 z1_5:=by kernel_rfl
theorem q6b (D:DX)(n:Nat) (K:St→Option (Out ctx 5)) (z0:Int) (z1:Int) (z2:Int) (z3:(tSch)×
 qd×Unit) (z4:(tSch)×
 qd×Unit) (z5:(tSch)×
 qd×Unit) (z6:(tSch)×
 qd×Unit) (z7:(tSch)×
 qd×Unit) (z8:(tSch)×
 qd×Unit) :
 qzg ctx D (ctx.hints 5) n 1 (qd7 (qjq qc 5) [.r,.r,.r,.r,.r,.r,.r,.r,.r,.r,.r,.r,.r,.r,.r,.r,.r,.r]) (qj0 z0 z1 z2 z3 z4 z5 z6 z7 z8) K (qi (C:=ctx) qc 5)=qo9 D n (fun z1_0 z1_1 z1_2 z1_3 z1_4 z1_5=>K (qvt z1_0 z1_1 z1_2 z1_3 z1_4 z1_5)) z0 z1 z2 z3 z4 z5 z6 z7 z8:=by kernel_rfl
theorem q4r (D:DX)(n:Nat) (z0:Int) (z1:Int) (z2:Int) (z3:(tSch)×
 qd×Unit) (z4:(tSch)×
 qd×Unit) (z5:(tSch)×
 qd×Unit) (z6:(tSch)×
 qd×Unit) (z7:(tSch)×
 qd×Unit) (z8:(tSch)×
 qd×Unit) :
 qet ctx D (ctx.hints 5) n (qd7 (qjq qc 5) [.r,.r,.r,.r,.r,.r,.r,.r,.r,.r,.r,.r,.r,.r,.r,.r,.r,.r]) (qj0 z0 z1 z2 z3 z4 z5 z6 z7 z8) (qi (C:=ctx) qc 5)=qkj D n z0 z1 z2 z3 z4 z5 z6 z7 z8:=
 (qbo6 ctx D (ctx.hints 5) n 1 (qi (C:=ctx) qc 5) (qjq qc 5) [.r,.r,.r,.r,.r,.r,.r,.r,.r,.r,.r,.r,.r,.r,.r,.r,.r,.r] [.r,.r,.r,.r,.r,.r,.r,.r,.r,.r,.r,.r,.r,.r,.r,.r,.r,.r,.r] (qj0 z0 z1 z2 z3 z4 z5 z6 z7 z8) rfl (by kernel_rfl)).symm.trans ((q6b D n (fun S=>qet ctx D (ctx.hints 5) n (qd7 (qjq qc 5) [.r,.r,.r,.r,.r,.r,.r,.r,.r,.r,.r,.r,.r,.r,.r,.r,.r,.r,.r]) S (qi (C:=ctx) qc 5)) z0 z1 z2 z3 z4 z5 z6 z7 z8).trans (by simp only[q5g];rfl))
theorem q7p (D:DX)(n:Nat) (K:St→Option (Out ctx 5)) (a0:List Int) :
 qzg ctx D (ctx.hints 5) n 18 (qjq qc 5) (qbgg (C:=ctx) qc 5 (a0,())) K (qi (C:=ctx) qc 5)=qq7 D n (fun z0 z1 z2 z3 z4 z5 z6 z7 z8=>K (qj0 z0 z1 z2 z3 z4 z5 z6 z7 z8)) a0:=by kernel_rfl
theorem q9p (D:DX)(n:Nat) (a0:List Int):rfC qc D n 5 (a0,())=qq9 D n a0:=
 (qbro qc D n 5 _ (by kernel_rfl)).trans ((qbrs ctx D (ctx.hints 5) n 18 (qi (C:=ctx) qc 5) (qjq qc 5) [.r,.r,.r,.r,.r,.r,.r,.r,.r,.r,.r,.r,.r,.r,.r,.r,.r,.r] _ rfl (by kernel_rfl)).symm.trans ((q7p D n (fun S=>qet ctx D (ctx.hints 5) n (qd7 (qjq qc 5) [.r,.r,.r,.r,.r,.r,.r,.r,.r,.r,.r,.r,.r,.r,.r,.r,.r,.r]) S (qi (C:=ctx) qc 5)) a0).trans (by simp only[q4r];rfl)))

def qbn4 (D:DX)(n:Nat) (a0:List Int):Option ((Bool×Unit)×Unit):=some ((decide ((↑(List.length a0):Int)>1048576),()),())
def qbe1 (D:DX)(n:Nat) (a0:List Int):Option ((Bool×Unit)×Unit):=qbn4 D n a0
theorem qboq (D:DX)(n:Nat) (a0:List Int):rfC qc D n 11 (a0,())=qbe1 D n a0:=by kernel_rfl


def qz8 (D:DX)(n:Nat) (go:qd→Int→Int→(tSch)×qd×Unit→Option ((Bool×Unit)×Unit)) (K0:Bool→(tSch)×qd×Unit→Option ((Bool×Unit)×Unit)) (K1:(tSch)×qd×Unit→Option ((Bool×Unit)×Unit)) (x0:qd) (x1:Int) (x2:Int) (x3:(tSch)×qd×Unit):Option ((Bool×Unit)×Unit):=br (decide (x2<x1)) (br (decide (0≤x2)&&decide (x2<(↑(List.length x0):Int))) (qg (qq0 D (Prod.fst x3) (List.getD x0 (Int.toNat x2) [])) fun b↦br (!Prod.fst (Prod.fst b)) (K0 false x3) (br (decide (x2>0)) (br (decide (0≤IntKind.wrap IntKind.i64 (x2 - 1))&&decide (IntKind.wrap IntKind.i64 (x2 - 1)<(↑(List.length (Prod.fst (Prod.snd x3))):Int))) (qg (qfh D (Prod.fst x3) (List.getD (Prod.fst (Prod.snd x3)) (Int.toNat (IntKind.wrap IntKind.i64 (x2 - 1))) [])) fun b↦qg (qfh D (Prod.fst x3) (List.getD x0 (Int.toNat x2) [])) fun b_1↦qg (qns D (Prod.fst (Prod.fst b)) (Prod.fst (Prod.fst b_1))) fun b↦br (!Prod.fst (Prod.fst b)) (K0 false x3) (br (decide (0≤0)&&decide (0≤x2)&&decide (x2≤(↑(List.length (Prod.fst (Prod.snd x3))):Int))) (qg (qbi D (List.drop (Int.toNat 0) (List.take (Int.toNat x2) (Prod.fst (Prod.snd x3)))) (Clo.mk 80 [CapV.rptr (Ty.pair (Ty.pair (Ty.sl (Ty.pair Ty.str (Ty.pair (Ty.int IntKind.i64) (Ty.pair Ty.bool Ty.unit)))) (Ty.pair (Ty.sl (Ty.int IntKind.i64)) (Ty.pair (Ty.sl (Ty.pair Ty.str (Ty.pair (Ty.sl (Ty.int IntKind.i64)) (Ty.pair Ty.bool Ty.unit)))) Ty.unit))) (Ty.pair (Ty.sl (Ty.sl (Ty.pair (Ty.int IntKind.i64) (Ty.pair (Ty.int IntKind.i64) (Ty.pair Ty.str Ty.unit))))) Ty.unit)) x3,CapV.rptr (Ty.sl (Ty.pair (Ty.int IntKind.i64) (Ty.pair (Ty.int IntKind.i64) (Ty.pair Ty.str Ty.unit)))) (List.getD x0 (Int.toNat x2) [])])) fun b↦br (Prod.fst (Prod.fst b)) (K0 false x3) (go x0 x1 (IntKind.wrap IntKind.i64 (x2+1)) x3)) none)) none) (br (decide (0≤0)&&decide (0≤x2)&&decide (x2≤(↑(List.length (Prod.fst (Prod.snd x3))):Int))) (qg (qbi D (List.drop (Int.toNat 0) (List.take (Int.toNat x2) (Prod.fst (Prod.snd x3)))) (Clo.mk 80 [CapV.rptr (Ty.pair (Ty.pair (Ty.sl (Ty.pair Ty.str (Ty.pair (Ty.int IntKind.i64) (Ty.pair Ty.bool Ty.unit)))) (Ty.pair (Ty.sl (Ty.int IntKind.i64)) (Ty.pair (Ty.sl (Ty.pair Ty.str (Ty.pair (Ty.sl (Ty.int IntKind.i64)) (Ty.pair Ty.bool Ty.unit)))) Ty.unit))) (Ty.pair (Ty.sl (Ty.sl (Ty.pair (Ty.int IntKind.i64) (Ty.pair (Ty.int IntKind.i64) (Ty.pair Ty.str Ty.unit))))) Ty.unit)) x3,CapV.rptr (Ty.sl (Ty.pair (Ty.int IntKind.i64) (Ty.pair (Ty.int IntKind.i64) (Ty.pair Ty.str Ty.unit)))) (List.getD x0 (Int.toNat x2) [])])) fun b↦br (Prod.fst (Prod.fst b)) (K0 false x3) (go x0 x1 (IntKind.wrap IntKind.i64 (x2+1)) x3)) none))) none) (K1 x3)
def qld (D:DX)(n:Nat) (K0:Bool→(tSch)×qd×Unit→Option ((Bool×Unit)×Unit)) (K1:(tSch)×qd×Unit→Option ((Bool×Unit)×Unit)):Nat→(qd)→(Int)→(Int)→((tSch)×qd×Unit)→Option ((Bool×Unit)×Unit) | 0=>(fun x0 x1 x2 x3=>none) | m+1=>(fun x0 x1 x2 x3=>qz8 D n (qld D n K0 K1 m) K0 K1 x0 x1 x2 x3)
def q3k (D:DX)(n:Nat) (v0_0:Bool) (v0_1:(tSch)×qd×Unit):Option ((Bool×Unit)×Unit):=some ((v0_0,()),())
def qvf (D:DX)(n:Nat) (v1_0:(tSch)×qd×Unit):Option ((Bool×Unit)×Unit):=qg (qpm D (Prod.fst v1_0)) fun b↦some ((bif Prod.fst (Prod.fst b) then decide ((↑(List.length (Prod.fst (Prod.snd v1_0))):Int)≤12) else false,()),())
def qxx (D:DX)(n:Nat):(qd)→(Int)→(Int)→((tSch)×qd×Unit)→Option ((Bool×Unit)×Unit):=(fun x0 x1 x2 x3=>qld D n (fun v0_0 v0_1=>q3k D n v0_0 v0_1) (fun v1_0=>qvf D n v1_0) n x0 x1 x2 x3)
def q2q (D:DX)(n:Nat) (lp0:qd→Int→Int→(tSch)×qd×Unit→Option ((Bool×Unit)×Unit)) (a0:(tSch)×qd×Unit):Option ((Bool×Unit)×Unit):=lp0 (Prod.fst (Prod.snd a0)) (↑(List.length (Prod.fst (Prod.snd a0))):Int) 0 a0
def q27 (D:DX)(n:Nat) (a0:(tSch)×qd×Unit):Option ((Bool×Unit)×Unit):=q2q D n (qxx D n) a0
def qk8 (x0:qd) (x1:Int) (x2:Int) (x3:(tSch)×qd×Unit):St:=stq 55 [(1,AV.addr 1 []),(6,AV.val (Ty.sl (Ty.sl yV)) x0),(7,avI x1),(8,avI x2)] [(1,Root.mk (Ty.pair yS (Ty.pair (Ty.sl (Ty.sl yV)) Ty.unit)) Mk.no x3 true)] 
def qp6 (v0_0:Bool) (v0_1:(tSch)×qd×Unit):St:=stq 55 [(1,AV.addr 1 []),(2,AV.val Ty.bool v0_0)] [(1,Root.mk (Ty.pair yS (Ty.pair (Ty.sl (Ty.sl yV)) Ty.unit)) Mk.no v0_1 true)] 
def qpt (v1_0:(tSch)×qd×Unit):St:=stq 55 [(1,AV.addr 1 [])] [(1,Root.mk (Ty.pair yS (Ty.pair (Ty.sl (Ty.sl yV)) Ty.unit)) Mk.no v1_0 true)] 
theorem qbgl (D:DX)(n:Nat) (m:Nat) (K:Ex→St→Option (Out ctx 17)) (x0:qd) (x1:Int) (x2:Int) (x3:(tSch)×
 qd×Unit) :
 LQ qc D n 17 [.r,.l,.r,.l] (m+1) (qk8 x0 x1 x2 x3) K=qz8 D n (fun x0 x1 x2 x3=>LQ qc D n 17 [.r,.l,.r,.l] m (qk8 x0 x1 x2 x3) K) (fun v0_0 v0_1=>K (Ex.ret) (qp6 v0_0 v0_1)) (fun v1_0=>K (Ex.exit 0) (qpt v1_0)) x0 x1 x2 x3:=by kernel_rfl
theorem q5r (D:DX)(n:Nat) (K:Ex→St→Option (Out ctx 17)):∀ (m:Nat) (x0:qd) (x1:Int) (x2:Int) (x3:(tSch)×
 qd×Unit),LQ qc D n 17 [.r,.l,.r,.l] m (qk8 x0 x1 x2 x3) K=qld D n (fun v0_0 v0_1=>K (Ex.ret) (qp6 v0_0 v0_1)) (fun v1_0=>K (Ex.exit 0) (qpt v1_0)) m x0 x1 x2 x3
 | 0,x0,x1,x2,x3=>q8 ..
 | m+1,x0,x1,x2,x3=>by
  have ih:(fun x0 x1 x2 x3=>LQ qc D n 17 [.r,.l,.r,.l] m (qk8 x0 x1 x2 x3) K)=qld D n (fun v0_0 v0_1=>K (Ex.ret) (qp6 v0_0 v0_1)) (fun v1_0=>K (Ex.exit 0) (qpt v1_0)) m:=by funext x0 x1 x2 x3;exact q5r D n K m x0 x1 x2 x3
  rw[qbgl]
  rw[ih];rfl
theorem qbec (D:DX)(n:Nat) (v0_0:Bool) (v0_1:(tSch)×
 qd×Unit) :
 (CQ qc D n 17 [] [.r,.l,.r,.l] (qi qc 17)) (Ex.ret) (qp6 v0_0 v0_1)=q3k D n v0_0 v0_1:=by kernel_rfl
theorem qbfd (D:DX)(n:Nat) (v1_0:(tSch)×
 qd×Unit) :
 (CQ qc D n 17 [] [.r,.l,.r,.l] (qi qc 17)) (Ex.exit 0) (qpt v1_0)=qvf D n v1_0:=by kernel_rfl
theorem qbeo (D:DX)(n:Nat) (x0:qd) (x1:Int) (x2:Int) (x3:(tSch)×
 qd×Unit) :
 LQ qc D n 17 [.r,.l,.r,.l] n (qk8 x0 x1 x2 x3) (CQ qc D n 17 [] [.r,.l,.r,.l] (qi qc 17))=qxx D n x0 x1 x2 x3:=by
 rw[q5r]
 simp only[qbec,qbfd]
 rfl
theorem qbkr (D:DX)(n:Nat) (a0:(tSch)×
 qd×Unit):rfC qc D n 17 (a0,())=q27 D n a0:=by
 have h:rfC qc D n 17 (a0,())=q2q D n (fun x0 x1 x2 x3=>LQ qc D n 17 [.r,.l,.r,.l] n (qk8 x0 x1 x2 x3) (CQ qc D n 17 [] [.r,.l,.r,.l] (qi qc 17))) a0:=by kernel_rfl
 rw[h]
 simp only[qbeo]
 rfl

def q62 (D:DX)(n:Nat) (a0:(tSch)×qd×Unit) (a1:qe):Option ((((tSch)×qd×Unit)×Int×Unit)×Unit):=qg (qho D a0) fun b↦qg (qfh D (Prod.fst (Prod.fst (Prod.fst (Prod.fst b))),Prod.fst (Prod.snd (Prod.fst (Prod.fst (Prod.fst b)))),Prod.fst (Prod.snd (Prod.snd (Prod.fst (Prod.fst (Prod.fst b))))),()) a1) fun b_1↦qg (qch D ((Prod.fst (Prod.fst (Prod.fst (Prod.fst b))),Prod.fst (Prod.snd (Prod.fst (Prod.fst (Prod.fst b)))),Prod.fst (Prod.snd (Prod.snd (Prod.fst (Prod.fst (Prod.fst b))))),()),Prod.fst (Prod.snd (Prod.fst (Prod.fst b))),())) fun b_2↦br (!Prod.fst (Prod.fst b_2)) (some ((((Prod.fst (Prod.fst (Prod.fst (Prod.fst b))),Prod.fst (Prod.snd (Prod.fst (Prod.fst (Prod.fst b)))),Prod.fst (Prod.snd (Prod.snd (Prod.fst (Prod.fst (Prod.fst b))))),()),Prod.fst (Prod.snd (Prod.fst (Prod.fst b))),()),1,()),())) (qg (qq0 D (Prod.fst (Prod.fst (Prod.fst (Prod.fst b))),Prod.fst (Prod.snd (Prod.fst (Prod.fst (Prod.fst b)))),Prod.fst (Prod.snd (Prod.snd (Prod.fst (Prod.fst (Prod.fst b))))),()) a1) fun b_3↦br (!Prod.fst (Prod.fst b_3)) (some ((((Prod.fst (Prod.fst (Prod.fst (Prod.fst b))),Prod.fst (Prod.snd (Prod.fst (Prod.fst (Prod.fst b)))),Prod.fst (Prod.snd (Prod.snd (Prod.fst (Prod.fst (Prod.fst b))))),()),Prod.fst (Prod.snd (Prod.fst (Prod.fst b))),()),1,()),())) (qg (qnm D ((Prod.fst (Prod.fst (Prod.fst (Prod.fst b))),Prod.fst (Prod.snd (Prod.fst (Prod.fst (Prod.fst b)))),Prod.fst (Prod.snd (Prod.snd (Prod.fst (Prod.fst (Prod.fst b))))),()),Prod.fst (Prod.snd (Prod.fst (Prod.fst b))),()) (Prod.fst (Prod.fst b_1))) fun b_4↦br (decide (Prod.fst (Prod.fst b_4)≥0)) (some ((((Prod.fst (Prod.fst (Prod.fst (Prod.fst b))),Prod.fst (Prod.snd (Prod.fst (Prod.fst (Prod.fst b)))),Prod.fst (Prod.snd (Prod.snd (Prod.fst (Prod.fst (Prod.fst b))))),()),Prod.fst (Prod.snd (Prod.fst (Prod.fst b))),()),2,()),())) (qg (qbi D (Prod.fst (Prod.snd (Prod.fst (Prod.fst b)))) (Clo.mk 85 [CapV.rptr (Ty.pair (Ty.pair (Ty.sl (Ty.pair Ty.str (Ty.pair (Ty.int IntKind.i64) (Ty.pair Ty.bool Ty.unit)))) (Ty.pair (Ty.sl (Ty.int IntKind.i64)) (Ty.pair (Ty.sl (Ty.pair Ty.str (Ty.pair (Ty.sl (Ty.int IntKind.i64)) (Ty.pair Ty.bool Ty.unit)))) Ty.unit))) (Ty.pair (Ty.sl (Ty.sl (Ty.pair (Ty.int IntKind.i64) (Ty.pair (Ty.int IntKind.i64) (Ty.pair Ty.str Ty.unit))))) Ty.unit)) ((Prod.fst (Prod.fst (Prod.fst (Prod.fst b))),Prod.fst (Prod.snd (Prod.fst (Prod.fst (Prod.fst b)))),Prod.fst (Prod.snd (Prod.snd (Prod.fst (Prod.fst (Prod.fst b))))),()),Prod.fst (Prod.snd (Prod.fst (Prod.fst b))),()),CapV.rptr (Ty.sl (Ty.pair (Ty.int IntKind.i64) (Ty.pair (Ty.int IntKind.i64) (Ty.pair Ty.str Ty.unit)))) a1])) fun b_5↦br (Prod.fst (Prod.fst b_5)) (some ((((Prod.fst (Prod.fst (Prod.fst (Prod.fst b))),Prod.fst (Prod.snd (Prod.fst (Prod.fst (Prod.fst b)))),Prod.fst (Prod.snd (Prod.snd (Prod.fst (Prod.fst (Prod.fst b))))),()),Prod.fst (Prod.snd (Prod.fst (Prod.fst b))),()),3,()),())) (br (decide ((↑(List.length (Prod.fst (Prod.snd (Prod.fst (Prod.fst b))))):Int)=12)) (some ((((Prod.fst (Prod.fst (Prod.fst (Prod.fst b))),Prod.fst (Prod.snd (Prod.fst (Prod.fst (Prod.fst b)))),Prod.fst (Prod.snd (Prod.snd (Prod.fst (Prod.fst (Prod.fst b))))),()),Prod.fst (Prod.snd (Prod.fst (Prod.fst b))),()),5,()),())) (qg (qcc D (Prod.fst (Prod.snd (Prod.fst (Prod.fst b)))) (Clo.mk 87 [CapV.rptr (Ty.sl (Ty.pair (Ty.int IntKind.i64) (Ty.pair (Ty.int IntKind.i64) (Ty.pair Ty.str Ty.unit)))) (Prod.fst (Prod.fst b_1)),CapV.rptr (Ty.pair (Ty.pair (Ty.sl (Ty.pair Ty.str (Ty.pair (Ty.int IntKind.i64) (Ty.pair Ty.bool Ty.unit)))) (Ty.pair (Ty.sl (Ty.int IntKind.i64)) (Ty.pair (Ty.sl (Ty.pair Ty.str (Ty.pair (Ty.sl (Ty.int IntKind.i64)) (Ty.pair Ty.bool Ty.unit)))) Ty.unit))) (Ty.pair (Ty.sl (Ty.sl (Ty.pair (Ty.int IntKind.i64) (Ty.pair (Ty.int IntKind.i64) (Ty.pair Ty.str Ty.unit))))) Ty.unit)) ((Prod.fst (Prod.fst (Prod.fst (Prod.fst b))),Prod.fst (Prod.snd (Prod.fst (Prod.fst (Prod.fst b)))),Prod.fst (Prod.snd (Prod.snd (Prod.fst (Prod.fst (Prod.fst b))))),()),Prod.fst (Prod.snd (Prod.fst (Prod.fst b))),())])) fun b_6↦br (decide (Prod.fst (Prod.fst b_6)<0)) (qg (qbn D a1) fun b_7↦qg (qep D (Prod.fst (Prod.snd (Prod.fst (Prod.fst b)))) (↑(List.length (Prod.fst (Prod.snd (Prod.fst (Prod.fst b))))):Int) [Prod.fst (Prod.fst b_7)]) fun b_8↦some ((((Prod.fst (Prod.fst (Prod.fst (Prod.fst b))),Prod.fst (Prod.snd (Prod.fst (Prod.fst (Prod.fst b)))),Prod.fst (Prod.snd (Prod.snd (Prod.fst (Prod.fst (Prod.fst b))))),()),Prod.fst (Prod.fst b_8),()),0,()),())) (qg (qbn D a1) fun b_7↦qg (qep D (Prod.fst (Prod.snd (Prod.fst (Prod.fst b)))) (Prod.fst (Prod.fst b_6)) [Prod.fst (Prod.fst b_7)]) fun b_8↦some ((((Prod.fst (Prod.fst (Prod.fst (Prod.fst b))),Prod.fst (Prod.snd (Prod.fst (Prod.fst (Prod.fst b)))),Prod.fst (Prod.snd (Prod.snd (Prod.fst (Prod.fst (Prod.fst b))))),()),Prod.fst (Prod.fst b_8),()),0,()),())))))))
def qz5 (D:DX)(n:Nat) (a0:(tSch)×qd×Unit) (a1:qe):Option ((((tSch)×qd×Unit)×Int×Unit)×Unit):=q62 D n a0 a1
theorem qbi8 (D:DX)(n:Nat) (a0:(tSch)×
 qd×Unit) (a1:qe):rfC qc D n 18 (a0,(a1,()))=qz5 D n a0 a1:=by kernel_rfl


def q63 (D:DX)(n:Nat) (a0:(tSch)×qd×Unit) (a1:qe):Option ((qe×Bool×Unit)×Unit):=qg (qnm D a0 a1) fun b↦qg (qch D a0) fun b_1↦br (bif !Prod.fst (Prod.fst b_1) then true else decide (Prod.fst (Prod.fst b)<0)) (some (([],false,()),())) (br (decide (0≤Prod.fst (Prod.fst b))&&decide (Prod.fst (Prod.fst b)<(↑(List.length (Prod.fst (Prod.snd a0))):Int))) (qg (qbn D (List.getD (Prod.fst (Prod.snd a0)) (Int.toNat (Prod.fst (Prod.fst b))) [])) fun b↦some ((Prod.fst (Prod.fst b),true,()),())) none)
def qz6 (D:DX)(n:Nat) (a0:(tSch)×qd×Unit) (a1:qe):Option ((qe×Bool×Unit)×Unit):=q63 D n a0 a1
theorem qbjo (D:DX)(n:Nat) (a0:(tSch)×
 qd×Unit) (a1:qe):rfC qc D n 22 (a0,(a1,()))=qz6 D n a0 a1:=by kernel_rfl

def q3t (D:DX)(n:Nat) (a0:tSch) (a1:qe):Option ((qe×Unit)×Unit):=qg (qni D a1 (Prod.fst (Prod.snd a0))) fun b↦some ((Prod.fst (Prod.fst b),()),())
def quy (D:DX)(n:Nat) (a0:tSch) (a1:qe):Option ((qe×Unit)×Unit):=q3t D n a0 a1
theorem qbeg (D:DX)(n:Nat) (a0:tSch) (a1:qe):rfC qc D n 23 (a0,(a1,()))=quy D n a0 a1:=by kernel_rfl

def q7c (D:DX)(n:Nat) (a0:(tSch)×qd×Unit) (a1:qe):Option ((((tSch)×qd×Unit)×Int×Unit)×Unit):=qg (qho D a0) fun b↦qg (qch D ((Prod.fst (Prod.fst (Prod.fst (Prod.fst b))),Prod.fst (Prod.snd (Prod.fst (Prod.fst (Prod.fst b)))),Prod.fst (Prod.snd (Prod.snd (Prod.fst (Prod.fst (Prod.fst b))))),()),Prod.fst (Prod.snd (Prod.fst (Prod.fst b))),())) fun b_1↦br (!Prod.fst (Prod.fst b_1)) (some ((((Prod.fst (Prod.fst (Prod.fst (Prod.fst b))),Prod.fst (Prod.snd (Prod.fst (Prod.fst (Prod.fst b)))),Prod.fst (Prod.snd (Prod.snd (Prod.fst (Prod.fst (Prod.fst b))))),()),Prod.fst (Prod.snd (Prod.fst (Prod.fst b))),()),1,()),())) (qg (qnm D ((Prod.fst (Prod.fst (Prod.fst (Prod.fst b))),Prod.fst (Prod.snd (Prod.fst (Prod.fst (Prod.fst b)))),Prod.fst (Prod.snd (Prod.snd (Prod.fst (Prod.fst (Prod.fst b))))),()),Prod.fst (Prod.snd (Prod.fst (Prod.fst b))),()) a1) fun b_2↦br (decide (Prod.fst (Prod.fst b_2)<0)) (some ((((Prod.fst (Prod.fst (Prod.fst (Prod.fst b))),Prod.fst (Prod.snd (Prod.fst (Prod.fst (Prod.fst b)))),Prod.fst (Prod.snd (Prod.snd (Prod.fst (Prod.fst (Prod.fst b))))),()),Prod.fst (Prod.snd (Prod.fst (Prod.fst b))),()),4,()),())) (qg (qif D (Prod.fst (Prod.snd (Prod.fst (Prod.fst b)))) (Prod.fst (Prod.fst b_2)) (IntKind.wrap IntKind.i64 (Prod.fst (Prod.fst b_2)+1))) fun b_3↦some ((((Prod.fst (Prod.fst (Prod.fst (Prod.fst b))),Prod.fst (Prod.snd (Prod.fst (Prod.fst (Prod.fst b)))),Prod.fst (Prod.snd (Prod.snd (Prod.fst (Prod.fst (Prod.fst b))))),()),Prod.fst (Prod.fst b_3),()),0,()),())))
def qz1 (D:DX)(n:Nat) (a0:(tSch)×qd×Unit) (a1:qe):Option ((((tSch)×qd×Unit)×Int×Unit)×Unit):=q7c D n a0 a1
theorem qbjy (D:DX)(n:Nat) (a0:(tSch)×
 qd×Unit) (a1:qe):rfC qc D n 24 (a0,(a1,()))=qz1 D n a0 a1:=by kernel_rfl

def quw (D:DX)(n:Nat) (go:qe→Int→Int→Int→(tSch)×qd×Unit→(tSch)×qd×Unit→Option ((((tSch)×qd×Unit)×Int×Unit)×Unit)) (K0:qe→Int→Int→(tSch)×qd×Unit→(tSch)×qd×Unit→Option ((((tSch)×qd×Unit)×Int×Unit)×Unit)) (K1:qe→Int→(tSch)×qd×Unit→(tSch)×qd×Unit→Option ((((tSch)×qd×Unit)×Int×Unit)×Unit)) (x0:qe) (x1:Int) (x2:Int) (x3:Int) (x4:(tSch)×qd×Unit) (x5:(tSch)×qd×Unit):Option ((((tSch)×qd×Unit)×Int×Unit)×Unit):=br (decide (x3<x2)) (br (decide (0≤x3)&&decide (x3<(↑(List.length (Prod.fst (Prod.snd x4))):Int))) (br (x3 != x1) (qg (qqs D (Prod.fst (Prod.fst x4),Prod.fst (Prod.snd (Prod.fst x4)),Prod.fst (Prod.snd (Prod.snd (Prod.fst x4))),()) x0 (List.getD (Prod.fst (Prod.snd x4)) (Int.toNat x3) [])) fun b↦br (Prod.fst (Prod.fst b)) (K0 x0 3 x1 x4 ((Prod.fst (Prod.fst x4),Prod.fst (Prod.snd (Prod.fst x4)),Prod.fst (Prod.snd (Prod.snd (Prod.fst x4))),()),Prod.fst (Prod.snd x4),())) (go x0 x1 x2 (IntKind.wrap IntKind.i64 (x3+1)) x4 x5)) (go x0 x1 x2 (IntKind.wrap IntKind.i64 (x3+1)) x4 x5)) none) (K1 x0 x1 x4 x5)
def qi5 (D:DX)(n:Nat) (K0:qe→Int→Int→(tSch)×qd×Unit→(tSch)×qd×Unit→Option ((((tSch)×qd×Unit)×Int×Unit)×Unit)) (K1:qe→Int→(tSch)×qd×Unit→(tSch)×qd×Unit→Option ((((tSch)×qd×Unit)×Int×Unit)×Unit)):Nat→(qe)→(Int)→(Int)→(Int)→((tSch)×qd×Unit)→((tSch)×qd×Unit)→Option ((((tSch)×qd×Unit)×Int×Unit)×Unit) | 0=>(fun x0 x1 x2 x3 x4 x5=>none) | m+1=>(fun x0 x1 x2 x3 x4 x5=>quw D n (qi5 D n K0 K1 m) K0 K1 x0 x1 x2 x3 x4 x5)
def q0n (D:DX)(n:Nat) (v0_0:qe) (v0_1:Int) (v0_2:Int) (v0_3:(tSch)×qd×Unit) (v0_4:(tSch)×qd×Unit):Option ((((tSch)×qd×Unit)×Int×Unit)×Unit):=some ((((Prod.fst (Prod.fst v0_4),Prod.fst (Prod.snd (Prod.fst v0_4)),Prod.fst (Prod.snd (Prod.snd (Prod.fst v0_4))),()),Prod.fst (Prod.snd v0_4),()),v0_1,()),())
def qsg (D:DX)(n:Nat) (v1_0:qe) (v1_1:Int) (v1_2:(tSch)×qd×Unit) (v1_3:(tSch)×qd×Unit):Option ((((tSch)×qd×Unit)×Int×Unit)×Unit):=qg (qbn D v1_0) fun b↦br (decide (0≤v1_1)&&decide (v1_1<(↑(List.length (Prod.fst (Prod.snd v1_2))):Int))) (some ((((Prod.fst (Prod.fst v1_2),Prod.fst (Prod.snd (Prod.fst v1_2)),Prod.fst (Prod.snd (Prod.snd (Prod.fst v1_2))),()),List.set (Prod.fst (Prod.snd v1_2)) (Int.toNat v1_1) (Prod.fst (Prod.fst b)),()),0,()),())) none
def qtb (D:DX)(n:Nat):(qe)→(Int)→(Int)→(Int)→((tSch)×qd×Unit)→((tSch)×qd×Unit)→Option ((((tSch)×qd×Unit)×Int×Unit)×Unit):=(fun x0 x1 x2 x3 x4 x5=>qi5 D n (fun v0_0 v0_1 v0_2 v0_3 v0_4=>q0n D n v0_0 v0_1 v0_2 v0_3 v0_4) (fun v1_0 v1_1 v1_2 v1_3=>qsg D n v1_0 v1_1 v1_2 v1_3) n x0 x1 x2 x3 x4 x5)
def qyh (D:DX)(n:Nat) (lp0:qe→Int→Int→Int→(tSch)×qd×Unit→(tSch)×qd×Unit→Option ((((tSch)×qd×Unit)×Int×Unit)×Unit)) (a0:(tSch)×qd×Unit) (a1:qe):Option ((((tSch)×qd×Unit)×Int×Unit)×Unit):=qg (qho D a0) fun b↦qg (qch D ((Prod.fst (Prod.fst (Prod.fst (Prod.fst b))),Prod.fst (Prod.snd (Prod.fst (Prod.fst (Prod.fst b)))),Prod.fst (Prod.snd (Prod.snd (Prod.fst (Prod.fst (Prod.fst b))))),()),Prod.fst (Prod.snd (Prod.fst (Prod.fst b))),())) fun b_1↦br (!Prod.fst (Prod.fst b_1)) (some ((((Prod.fst (Prod.fst (Prod.fst (Prod.fst b))),Prod.fst (Prod.snd (Prod.fst (Prod.fst (Prod.fst b)))),Prod.fst (Prod.snd (Prod.snd (Prod.fst (Prod.fst (Prod.fst b))))),()),Prod.fst (Prod.snd (Prod.fst (Prod.fst b))),()),1,()),())) (qg (qq0 D (Prod.fst (Prod.fst (Prod.fst (Prod.fst b))),Prod.fst (Prod.snd (Prod.fst (Prod.fst (Prod.fst b)))),Prod.fst (Prod.snd (Prod.snd (Prod.fst (Prod.fst (Prod.fst b))))),()) a1) fun b_2↦br (!Prod.fst (Prod.fst b_2)) (some ((((Prod.fst (Prod.fst (Prod.fst (Prod.fst b))),Prod.fst (Prod.snd (Prod.fst (Prod.fst (Prod.fst b)))),Prod.fst (Prod.snd (Prod.snd (Prod.fst (Prod.fst (Prod.fst b))))),()),Prod.fst (Prod.snd (Prod.fst (Prod.fst b))),()),1,()),())) (qg (qfh D (Prod.fst (Prod.fst (Prod.fst (Prod.fst b))),Prod.fst (Prod.snd (Prod.fst (Prod.fst (Prod.fst b)))),Prod.fst (Prod.snd (Prod.snd (Prod.fst (Prod.fst (Prod.fst b))))),()) a1) fun b_3↦qg (qnm D ((Prod.fst (Prod.fst (Prod.fst (Prod.fst b))),Prod.fst (Prod.snd (Prod.fst (Prod.fst (Prod.fst b)))),Prod.fst (Prod.snd (Prod.snd (Prod.fst (Prod.fst (Prod.fst b))))),()),Prod.fst (Prod.snd (Prod.fst (Prod.fst b))),()) (Prod.fst (Prod.fst b_3))) fun b_4↦br (decide (Prod.fst (Prod.fst b_4)<0)) (some ((((Prod.fst (Prod.fst (Prod.fst (Prod.fst b))),Prod.fst (Prod.snd (Prod.fst (Prod.fst (Prod.fst b)))),Prod.fst (Prod.snd (Prod.snd (Prod.fst (Prod.fst (Prod.fst b))))),()),Prod.fst (Prod.snd (Prod.fst (Prod.fst b))),()),4,()),())) (lp0 a1 (Prod.fst (Prod.fst b_4)) (↑(List.length (Prod.fst (Prod.snd (Prod.fst (Prod.fst b))))):Int) 0 ((Prod.fst (Prod.fst (Prod.fst (Prod.fst b))),Prod.fst (Prod.snd (Prod.fst (Prod.fst (Prod.fst b)))),Prod.fst (Prod.snd (Prod.snd (Prod.fst (Prod.fst (Prod.fst b))))),()),Prod.fst (Prod.snd (Prod.fst (Prod.fst b))),()) (([],[],[],()),[],()))))
def qyf (D:DX)(n:Nat) (a0:(tSch)×qd×Unit) (a1:qe):Option ((((tSch)×qd×Unit)×Int×Unit)×Unit):=qyh D n (qtb D n) a0 a1
def qi1 (x0:qe) (x1:Int) (x2:Int) (x3:Int) (x4:(tSch)×qd×Unit) (x5:(tSch)×qd×Unit):St:=stq 58 [(1,AV.val (Ty.sl yV) x0),(2,AV.addr 2 []),(4,AV.addr 4 []),(6,avI x1),(32,AV.brw 2 [Stp.snd,Stp.fst] 0),(33,avI x2),(34,avI x3)] [(2,Root.mk (Ty.pair yS (Ty.pair (Ty.sl (Ty.sl yV)) Ty.unit)) (Mk.pr (Mk.pr (Mk.own 0 (Mk.pr Mk.no (Mk.pr Mk.no (Mk.pr Mk.no Mk.no)))) (Mk.pr (Mk.own 0 Mk.no) (Mk.pr (Mk.own 0 (Mk.pr Mk.no (Mk.pr (Mk.own 0 Mk.no) (Mk.pr Mk.no Mk.no)))) Mk.no))) (Mk.pr (Mk.own 0 (Mk.own 0 (Mk.pr Mk.no (Mk.pr Mk.no (Mk.pr Mk.no Mk.no))))) Mk.no)) x4 true),(4,Root.mk (Ty.pair yS (Ty.pair (Ty.sl (Ty.sl yV)) Ty.unit)) (Mk.pr (Mk.pr (Mk.own 0 (Mk.pr Mk.no (Mk.pr Mk.no (Mk.pr Mk.no Mk.no)))) (Mk.pr (Mk.own 0 Mk.no) (Mk.pr (Mk.own 0 (Mk.pr Mk.no (Mk.pr (Mk.own 0 Mk.no) (Mk.pr Mk.no Mk.no)))) Mk.no))) (Mk.pr (Mk.own 0 (Mk.own 0 (Mk.pr Mk.no (Mk.pr Mk.no (Mk.pr Mk.no Mk.no))))) Mk.no)) x5 true)] 
def qm3 (v0_0:qe) (v0_1:Int) (v0_2:Int) (v0_3:(tSch)×qd×Unit) (v0_4:(tSch)×qd×Unit):St:=stq 58 [(1,AV.val (Ty.sl yV) v0_0),(2,AV.addr 2 []),(4,AV.addr 4 []),(5,avI v0_1),(6,avI v0_2)] [(2,Root.mk (Ty.pair yS (Ty.pair (Ty.sl (Ty.sl yV)) Ty.unit)) (Mk.pr (Mk.pr Mk.gone (Mk.pr Mk.gone (Mk.pr Mk.gone Mk.no))) (Mk.pr Mk.gone Mk.no)) v0_3 true),(4,Root.mk (Ty.pair yS (Ty.pair (Ty.sl (Ty.sl yV)) Ty.unit)) (Mk.pr (Mk.pr (Mk.own 0 (Mk.pr Mk.no (Mk.pr Mk.no (Mk.pr Mk.no Mk.no)))) (Mk.pr (Mk.own 0 Mk.no) (Mk.pr (Mk.own 0 (Mk.pr Mk.no (Mk.pr (Mk.own 0 Mk.no) (Mk.pr Mk.no Mk.no)))) Mk.no))) (Mk.pr (Mk.own 0 (Mk.own 0 (Mk.pr Mk.no (Mk.pr Mk.no (Mk.pr Mk.no Mk.no))))) Mk.no)) v0_4 true)] 
def qm6 (v1_0:qe) (v1_1:Int) (v1_2:(tSch)×qd×Unit) (v1_3:(tSch)×qd×Unit):St:=stq 58 [(1,AV.val (Ty.sl yV) v1_0),(2,AV.addr 2 []),(4,AV.addr 4 []),(6,avI v1_1)] [(2,Root.mk (Ty.pair yS (Ty.pair (Ty.sl (Ty.sl yV)) Ty.unit)) (Mk.pr (Mk.pr (Mk.own 0 (Mk.pr Mk.no (Mk.pr Mk.no (Mk.pr Mk.no Mk.no)))) (Mk.pr (Mk.own 0 Mk.no) (Mk.pr (Mk.own 0 (Mk.pr Mk.no (Mk.pr (Mk.own 0 Mk.no) (Mk.pr Mk.no Mk.no)))) Mk.no))) (Mk.pr (Mk.own 0 (Mk.own 0 (Mk.pr Mk.no (Mk.pr Mk.no (Mk.pr Mk.no Mk.no))))) Mk.no)) v1_2 true),(4,Root.mk (Ty.pair yS (Ty.pair (Ty.sl (Ty.sl yV)) Ty.unit)) (Mk.pr (Mk.pr (Mk.own 0 (Mk.pr Mk.no (Mk.pr Mk.no (Mk.pr Mk.no Mk.no)))) (Mk.pr (Mk.own 0 Mk.no) (Mk.pr (Mk.own 0 (Mk.pr Mk.no (Mk.pr (Mk.own 0 Mk.no) (Mk.pr Mk.no Mk.no)))) Mk.no))) (Mk.pr (Mk.own 0 (Mk.own 0 (Mk.pr Mk.no (Mk.pr Mk.no (Mk.pr Mk.no Mk.no))))) Mk.no)) v1_3 true)] 
theorem qbdc (D:DX)(n:Nat) (m:Nat) (K:Ex→St→Option (Out ctx 26)) (x0:qe) (x1:Int) (x2:Int) (x3:Int) (x4:(tSch)×
 qd×Unit) (x5:(tSch)×
 qd×Unit) :
 LQ qc D n 26 [.r,.r,.r,.r,.r,.l,.r,.l] (m+1) (qi1 x0 x1 x2 x3 x4 x5) K=quw D n (fun x0 x1 x2 x3 x4 x5=>LQ qc D n 26 [.r,.r,.r,.r,.r,.l,.r,.l] m (qi1 x0 x1 x2 x3 x4 x5) K) (fun v0_0 v0_1 v0_2 v0_3 v0_4=>K (Ex.ret) (qm3 v0_0 v0_1 v0_2 v0_3 v0_4)) (fun v1_0 v1_1 v1_2 v1_3=>K (Ex.exit 0) (qm6 v1_0 v1_1 v1_2 v1_3)) x0 x1 x2 x3 x4 x5:=by kernel_rfl
theorem q10 (D:DX)(n:Nat) (K:Ex→St→Option (Out ctx 26)):∀ (m:Nat) (x0:qe) (x1:Int) (x2:Int) (x3:Int) (x4:(tSch)×
 qd×Unit) (x5:(tSch)×
 qd×Unit),LQ qc D n 26 [.r,.r,.r,.r,.r,.l,.r,.l] m (qi1 x0 x1 x2 x3 x4 x5) K=qi5 D n (fun v0_0 v0_1 v0_2 v0_3 v0_4=>K (Ex.ret) (qm3 v0_0 v0_1 v0_2 v0_3 v0_4)) (fun v1_0 v1_1 v1_2 v1_3=>K (Ex.exit 0) (qm6 v1_0 v1_1 v1_2 v1_3)) m x0 x1 x2 x3 x4 x5
 | 0,x0,x1,x2,x3,x4,x5=>q8 ..
 | m+1,x0,x1,x2,x3,x4,x5=>by
  have ih:(fun x0 x1 x2 x3 x4 x5=>LQ qc D n 26 [.r,.r,.r,.r,.r,.l,.r,.l] m (qi1 x0 x1 x2 x3 x4 x5) K)=qi5 D n (fun v0_0 v0_1 v0_2 v0_3 v0_4=>K (Ex.ret) (qm3 v0_0 v0_1 v0_2 v0_3 v0_4)) (fun v1_0 v1_1 v1_2 v1_3=>K (Ex.exit 0) (qm6 v1_0 v1_1 v1_2 v1_3)) m:=by funext x0 x1 x2 x3 x4 x5;exact q10 D n K m x0 x1 x2 x3 x4 x5
  rw[qbdc]
  rw[ih];rfl
theorem qbat (D:DX)(n:Nat) (v0_0:qe) (v0_1:Int) (v0_2:Int) (v0_3:(tSch)×
 qd×Unit) (v0_4:(tSch)×
 qd×Unit) :
 (CQ qc D n 26 [] [.r,.r,.r,.r,.r,.l,.r,.l] (qi qc 26)) (Ex.ret) (qm3 v0_0 v0_1 v0_2 v0_3 v0_4)=q0n D n v0_0 v0_1 v0_2 v0_3 v0_4:=by kernel_rfl
theorem qbbw (D:DX)(n:Nat) (v1_0:qe) (v1_1:Int) (v1_2:(tSch)×
 qd×Unit) (v1_3:(tSch)×
 qd×Unit) :
 (CQ qc D n 26 [] [.r,.r,.r,.r,.r,.l,.r,.l] (qi qc 26)) (Ex.exit 0) (qm6 v1_0 v1_1 v1_2 v1_3)=qsg D n v1_0 v1_1 v1_2 v1_3:=by kernel_rfl
theorem qba5 (D:DX)(n:Nat) (x0:qe) (x1:Int) (x2:Int) (x3:Int) (x4:(tSch)×
 qd×Unit) (x5:(tSch)×
 qd×Unit) :
 LQ qc D n 26 [.r,.r,.r,.r,.r,.l,.r,.l] n (qi1 x0 x1 x2 x3 x4 x5) (CQ qc D n 26 [] [.r,.r,.r,.r,.r,.l,.r,.l] (qi qc 26))=qtb D n x0 x1 x2 x3 x4 x5:=by
 rw[q10]
 simp only[qbat,qbbw]
 rfl
theorem qbho (D:DX)(n:Nat) (a0:(tSch)×
 qd×Unit) (a1:qe):rfC qc D n 26 (a0,(a1,()))=qyf D n a0 a1:=by
 have h:rfC qc D n 26 (a0,(a1,()))=qyh D n (fun x0 x1 x2 x3 x4 x5=>LQ qc D n 26 [.r,.r,.r,.r,.r,.l,.r,.l] n (qi1 x0 x1 x2 x3 x4 x5) (CQ qc D n 26 [] [.r,.r,.r,.r,.r,.l,.r,.l] (qi qc 26))) a0 a1:=by kernel_rfl
 rw[h]
 simp only[qba5]
 rfl

def q0x (D:DX)(n:Nat) (a0:List Int):Option ((((tSch)×qd×Unit)×qe×Unit)×Unit):=qg (qiu D a0) fun b↦qg (qh8 D (Prod.fst (Prod.fst b))) fun b↦qg (qg1 D (Prod.fst (Prod.snd b)) (Prod.fst (Prod.fst b))) fun b_1↦some ((Prod.fst (Prod.fst b),Prod.fst (Prod.fst b_1),()),())
def qsr (D:DX)(n:Nat) (a0:List Int):Option ((((tSch)×qd×Unit)×qe×Unit)×Unit):=q0x D n a0
theorem qbbj (D:DX)(n:Nat) (a0:List Int):rfC qc D n 27 (a0,())=qsr D n a0:=by kernel_rfl

def qw1 (D:DX)(n:Nat) (go:qe→Int→(tSch)×qd×Unit→(tSch)×qd×Unit→(tSch)×qd×Unit→Option ((((tSch)×qd×Unit)×Int×Unit)×Unit)) (K0:qe→Int→(tSch)×qd×Unit→(tSch)×qd×Unit→(tSch)×qd×Unit→Option ((((tSch)×qd×Unit)×Int×Unit)×Unit)) (x0:qe) (x1:Int) (x2:(tSch)×qd×Unit) (x3:(tSch)×qd×Unit) (x4:(tSch)×qd×Unit):Option ((((tSch)×qd×Unit)×Int×Unit)×Unit):=br (decide (x1<(↑(List.length (Prod.fst (Prod.snd x2))):Int))) (br (decide (0≤x1)&&decide (x1<(↑(List.length (Prod.fst (Prod.snd x2))):Int))) (qg (qc0 D (Prod.fst x2) (List.getD (Prod.fst (Prod.snd x2)) (Int.toNat x1) [])) fun b↦qg (qc0 D (Prod.fst x2) x0) fun b_1↦qg (qnw D (Prod.fst (Prod.fst b)) (Prod.fst (Prod.fst b_1))) fun b↦br (Prod.fst (Prod.fst b)) (go x0 (IntKind.wrap IntKind.i64 (x1+1)) x2 x3 x4) (K0 x0 x1 x2 x3 x4)) none) (K0 x0 x1 x2 x3 x4)
def qka (D:DX)(n:Nat) (K0:qe→Int→(tSch)×qd×Unit→(tSch)×qd×Unit→(tSch)×qd×Unit→Option ((((tSch)×qd×Unit)×Int×Unit)×Unit)):Nat→(qe)→(Int)→((tSch)×qd×Unit)→((tSch)×qd×Unit)→((tSch)×qd×Unit)→Option ((((tSch)×qd×Unit)×Int×Unit)×Unit) | 0=>(fun x0 x1 x2 x3 x4=>none) | m+1=>(fun x0 x1 x2 x3 x4=>qw1 D n (qka D n K0 m) K0 x0 x1 x2 x3 x4)
def qhx (D:DX)(n:Nat) (v0_0:qe) (v0_1:Int) (v0_2:(tSch)×qd×Unit) (v0_3:(tSch)×qd×Unit) (v0_4:(tSch)×qd×Unit):Option ((((tSch)×qd×Unit)×Int×Unit)×Unit):=br (decide (0≤0)&&decide (0≤v0_1)&&decide (v0_1≤(↑(List.length (Prod.fst (Prod.snd v0_2))):Int))) (qg (qia D (List.drop (Int.toNat 0) (List.take (Int.toNat v0_1) (Prod.fst (Prod.snd v0_2))))) fun b↦br (decide (0+List.length v0_0≤qbj)) (br (decide (List.length (Prod.fst (Prod.fst b))+1≤qbj)) (br (decide (0≤v0_1)&&decide (v0_1≤(↑(List.length (Prod.fst (Prod.snd v0_2))):Int))&&decide ((↑(List.length (Prod.fst (Prod.snd v0_2))):Int)≤(↑(List.length (Prod.fst (Prod.snd v0_2))):Int))) (qg (qia D (List.drop (Int.toNat v0_1) (List.take (Int.toNat (↑(List.length (Prod.fst (Prod.snd v0_2))):Int)) (Prod.fst (Prod.snd v0_2))))) fun b_1↦br (decide (List.length (Prod.fst (Prod.fst b)++[[]++v0_0])+List.length (Prod.fst (Prod.fst b_1))≤qbj)) (some ((((Prod.fst (Prod.fst v0_4),Prod.fst (Prod.snd (Prod.fst v0_4)),Prod.fst (Prod.snd (Prod.snd (Prod.fst v0_4))),()),Prod.fst (Prod.fst b)++[[]++v0_0]++Prod.fst (Prod.fst b_1),()),0,()),())) none) none) none) none) none
def qvb (D:DX)(n:Nat):(qe)→(Int)→((tSch)×qd×Unit)→((tSch)×qd×Unit)→((tSch)×qd×Unit)→Option ((((tSch)×qd×Unit)×Int×Unit)×Unit):=(fun x0 x1 x2 x3 x4=>qka D n (fun v0_0 v0_1 v0_2 v0_3 v0_4=>qhx D n v0_0 v0_1 v0_2 v0_3 v0_4) n x0 x1 x2 x3 x4)
def q0f (D:DX)(n:Nat) (lp0:qe→Int→(tSch)×qd×Unit→(tSch)×qd×Unit→(tSch)×qd×Unit→Option ((((tSch)×qd×Unit)×Int×Unit)×Unit)) (a0:(tSch)×qd×Unit) (a1:qe):Option ((((tSch)×qd×Unit)×Int×Unit)×Unit):=qg (qnh D a0) fun b↦qg (qiy D a0) fun b_1↦br (!Prod.fst (Prod.fst b_1)) (some ((((Prod.fst (Prod.fst (Prod.fst (Prod.fst b))),Prod.fst (Prod.snd (Prod.fst (Prod.fst (Prod.fst b)))),Prod.fst (Prod.snd (Prod.snd (Prod.fst (Prod.fst (Prod.fst b))))),()),Prod.fst (Prod.snd (Prod.fst (Prod.fst b))),()),1,()),())) (qg (qq4 D (Prod.fst a0) a1) fun b_2↦br (!Prod.fst (Prod.fst b_2)) (some ((((Prod.fst (Prod.fst (Prod.fst (Prod.fst b))),Prod.fst (Prod.snd (Prod.fst (Prod.fst (Prod.fst b)))),Prod.fst (Prod.snd (Prod.snd (Prod.fst (Prod.fst (Prod.fst b))))),()),Prod.fst (Prod.snd (Prod.fst (Prod.fst b))),()),1,()),())) (qg (qc0 D (Prod.fst a0) a1) fun b_3↦qg (qng D a0 (Prod.fst (Prod.fst b_3))) fun b_4↦br (decide (Prod.fst (Prod.fst b_4)≥0)) (some ((((Prod.fst (Prod.fst (Prod.fst (Prod.fst b))),Prod.fst (Prod.snd (Prod.fst (Prod.fst (Prod.fst b)))),Prod.fst (Prod.snd (Prod.snd (Prod.fst (Prod.fst (Prod.fst b))))),()),Prod.fst (Prod.snd (Prod.fst (Prod.fst b))),()),2,()),())) (qg (qnt D a0 a1 (-1)) fun b_5↦br (Prod.fst (Prod.fst b_5)) (some ((((Prod.fst (Prod.fst (Prod.fst (Prod.fst b))),Prod.fst (Prod.snd (Prod.fst (Prod.fst (Prod.fst b)))),Prod.fst (Prod.snd (Prod.snd (Prod.fst (Prod.fst (Prod.fst b))))),()),Prod.fst (Prod.snd (Prod.fst (Prod.fst b))),()),3,()),())) (br (decide ((↑(List.length (Prod.fst (Prod.snd a0))):Int)≥12)) (some ((((Prod.fst (Prod.fst (Prod.fst (Prod.fst b))),Prod.fst (Prod.snd (Prod.fst (Prod.fst (Prod.fst b)))),Prod.fst (Prod.snd (Prod.snd (Prod.fst (Prod.fst (Prod.fst b))))),()),Prod.fst (Prod.snd (Prod.fst (Prod.fst b))),()),5,()),())) (lp0 a1 0 a0 (([],[],[],()),[],()) ((Prod.fst (Prod.fst (Prod.fst (Prod.fst b))),Prod.fst (Prod.snd (Prod.fst (Prod.fst (Prod.fst b)))),Prod.fst (Prod.snd (Prod.snd (Prod.fst (Prod.fst (Prod.fst b))))),()),Prod.fst (Prod.snd (Prod.fst (Prod.fst b))),()))))))
def qzz (D:DX)(n:Nat) (a0:(tSch)×qd×Unit) (a1:qe):Option ((((tSch)×qd×Unit)×Int×Unit)×Unit):=q0f D n (qvb D n) a0 a1
def qj9 (x0:qe) (x1:Int) (x2:(tSch)×qd×Unit) (x3:(tSch)×qd×Unit) (x4:(tSch)×qd×Unit):St:=stq 91 [(1,AV.val (Ty.sl yV) x0),(2,AV.addr 2 []),(4,AV.addr 4 []),(6,AV.addr 6 []),(7,avI x1)] [(2,Root.mk (Ty.pair yS (Ty.pair (Ty.sl (Ty.sl yV)) Ty.unit)) Mk.no x2 true),(4,Root.mk (Ty.pair yS (Ty.pair (Ty.sl (Ty.sl yV)) Ty.unit)) (Mk.pr (Mk.pr (Mk.own 0 (Mk.pr Mk.no (Mk.pr Mk.no (Mk.pr Mk.no Mk.no)))) (Mk.pr (Mk.own 0 Mk.no) (Mk.pr (Mk.own 0 (Mk.pr Mk.no (Mk.pr (Mk.own 0 Mk.no) (Mk.pr Mk.no Mk.no)))) Mk.no))) (Mk.pr (Mk.own 0 (Mk.own 0 (Mk.pr Mk.no (Mk.pr Mk.no (Mk.pr Mk.no Mk.no))))) Mk.no)) x3 true),(6,Root.mk (Ty.pair yS (Ty.pair (Ty.sl (Ty.sl yV)) Ty.unit)) (Mk.pr (Mk.pr (Mk.own 0 (Mk.pr Mk.no (Mk.pr Mk.no (Mk.pr Mk.no Mk.no)))) (Mk.pr (Mk.own 0 Mk.no) (Mk.pr (Mk.own 0 (Mk.pr Mk.no (Mk.pr (Mk.own 0 Mk.no) (Mk.pr Mk.no Mk.no)))) Mk.no))) (Mk.pr (Mk.own 0 (Mk.own 0 (Mk.pr Mk.no (Mk.pr Mk.no (Mk.pr Mk.no Mk.no))))) Mk.no)) x4 true)] 
def qn5 (v0_0:qe) (v0_1:Int) (v0_2:(tSch)×qd×Unit) (v0_3:(tSch)×qd×Unit) (v0_4:(tSch)×qd×Unit):St:=stq 91 [(1,AV.val (Ty.sl yV) v0_0),(2,AV.addr 2 []),(4,AV.addr 4 []),(6,AV.addr 6 []),(7,avI v0_1)] [(2,Root.mk (Ty.pair yS (Ty.pair (Ty.sl (Ty.sl yV)) Ty.unit)) Mk.no v0_2 true),(4,Root.mk (Ty.pair yS (Ty.pair (Ty.sl (Ty.sl yV)) Ty.unit)) (Mk.pr (Mk.pr (Mk.own 0 (Mk.pr Mk.no (Mk.pr Mk.no (Mk.pr Mk.no Mk.no)))) (Mk.pr (Mk.own 0 Mk.no) (Mk.pr (Mk.own 0 (Mk.pr Mk.no (Mk.pr (Mk.own 0 Mk.no) (Mk.pr Mk.no Mk.no)))) Mk.no))) (Mk.pr (Mk.own 0 (Mk.own 0 (Mk.pr Mk.no (Mk.pr Mk.no (Mk.pr Mk.no Mk.no))))) Mk.no)) v0_3 true),(6,Root.mk (Ty.pair yS (Ty.pair (Ty.sl (Ty.sl yV)) Ty.unit)) (Mk.pr (Mk.pr (Mk.own 0 (Mk.pr Mk.no (Mk.pr Mk.no (Mk.pr Mk.no Mk.no)))) (Mk.pr (Mk.own 0 Mk.no) (Mk.pr (Mk.own 0 (Mk.pr Mk.no (Mk.pr (Mk.own 0 Mk.no) (Mk.pr Mk.no Mk.no)))) Mk.no))) (Mk.pr (Mk.own 0 (Mk.own 0 (Mk.pr Mk.no (Mk.pr Mk.no (Mk.pr Mk.no Mk.no))))) Mk.no)) v0_4 true)] 
theorem qbfz (D:DX)(n:Nat) (m:Nat) (K:Ex→St→Option (Out ctx 28)) (x0:qe) (x1:Int) (x2:(tSch)×
 qd×Unit) (x3:(tSch)×
 qd×Unit) (x4:(tSch)×
 qd×Unit) :
 LQ qc D n 28 [.r,.r,.r,.r,.l,.l] (m+1) (qj9 x0 x1 x2 x3 x4) K=qw1 D n (fun x0 x1 x2 x3 x4=>LQ qc D n 28 [.r,.r,.r,.r,.l,.l] m (qj9 x0 x1 x2 x3 x4) K) (fun v0_0 v0_1 v0_2 v0_3 v0_4=>K (Ex.exit 1) (qn5 v0_0 v0_1 v0_2 v0_3 v0_4)) x0 x1 x2 x3 x4:=by kernel_rfl
theorem q3l (D:DX)(n:Nat) (K:Ex→St→Option (Out ctx 28)):∀ (m:Nat) (x0:qe) (x1:Int) (x2:(tSch)×
 qd×Unit) (x3:(tSch)×
 qd×Unit) (x4:(tSch)×
 qd×Unit),LQ qc D n 28 [.r,.r,.r,.r,.l,.l] m (qj9 x0 x1 x2 x3 x4) K=qka D n (fun v0_0 v0_1 v0_2 v0_3 v0_4=>K (Ex.exit 1) (qn5 v0_0 v0_1 v0_2 v0_3 v0_4)) m x0 x1 x2 x3 x4
 | 0,x0,x1,x2,x3,x4=>q8 ..
 | m+1,x0,x1,x2,x3,x4=>by
  have ih:(fun x0 x1 x2 x3 x4=>LQ qc D n 28 [.r,.r,.r,.r,.l,.l] m (qj9 x0 x1 x2 x3 x4) K)=qka D n (fun v0_0 v0_1 v0_2 v0_3 v0_4=>K (Ex.exit 1) (qn5 v0_0 v0_1 v0_2 v0_3 v0_4)) m:=by funext x0 x1 x2 x3 x4;exact q3l D n K m x0 x1 x2 x3 x4
  rw[qbfz]
  rw[ih];rfl
theorem qbdg (D:DX)(n:Nat) (v0_0:qe) (v0_1:Int) (v0_2:(tSch)×
 qd×Unit) (v0_3:(tSch)×
 qd×Unit) (v0_4:(tSch)×
 qd×Unit) :
 (CQ qc D n 28 [] [.r,.r,.r,.r,.l,.l] (qi qc 28)) (Ex.exit 1) (qn5 v0_0 v0_1 v0_2 v0_3 v0_4)=qhx D n v0_0 v0_1 v0_2 v0_3 v0_4:=by kernel_rfl
theorem qbc1 (D:DX)(n:Nat) (x0:qe) (x1:Int) (x2:(tSch)×
 qd×Unit) (x3:(tSch)×
 qd×Unit) (x4:(tSch)×
 qd×Unit) :
 LQ qc D n 28 [.r,.r,.r,.r,.l,.l] n (qj9 x0 x1 x2 x3 x4) (CQ qc D n 28 [] [.r,.r,.r,.r,.l,.l] (qi qc 28))=qvb D n x0 x1 x2 x3 x4:=by
 rw[q3l]
 simp only[qbdg]
 rfl
theorem qbjg (D:DX)(n:Nat) (a0:(tSch)×
 qd×Unit) (a1:qe):rfC qc D n 28 (a0,(a1,()))=qzz D n a0 a1:=by
 have h:rfC qc D n 28 (a0,(a1,()))=q0f D n (fun x0 x1 x2 x3 x4=>LQ qc D n 28 [.r,.r,.r,.r,.l,.l] n (qj9 x0 x1 x2 x3 x4) (CQ qc D n 28 [] [.r,.r,.r,.r,.l,.l] (qi qc 28))) a0 a1:=by kernel_rfl
 rw[h]
 simp only[qbc1]
 rfl

def q0s (D:DX)(n:Nat) (a0:List Int):Option ((((tSch)×qd×Unit)×qe×Unit)×Unit):=qg (qiu D a0) fun b↦qg (qh8 D (Prod.fst (Prod.fst b))) fun b↦qg (qg1 D (Prod.fst (Prod.snd b)) (Prod.fst (Prod.fst b))) fun b_1↦qg (qc0 D (Prod.fst (Prod.fst (Prod.fst b))) (Prod.fst (Prod.fst b_1))) fun b_2↦some ((Prod.fst (Prod.fst b),Prod.fst (Prod.fst b_2),()),())
def qr4 (D:DX)(n:Nat) (a0:List Int):Option ((((tSch)×qd×Unit)×qe×Unit)×Unit):=q0s D n a0
theorem qbbr (D:DX)(n:Nat) (a0:List Int):rfC qc D n 29 (a0,())=qr4 D n a0:=by kernel_rfl

def q7b (D:DX)(n:Nat) (a0:(tSch)×qd×Unit) (a1:qe):Option ((((tSch)×qd×Unit)×Int×Unit)×Unit):=qg (qnh D a0) fun b↦qg (qiy D a0) fun b_1↦br (!Prod.fst (Prod.fst b_1)) (some ((((Prod.fst (Prod.fst (Prod.fst (Prod.fst b))),Prod.fst (Prod.snd (Prod.fst (Prod.fst (Prod.fst b)))),Prod.fst (Prod.snd (Prod.snd (Prod.fst (Prod.fst (Prod.fst b))))),()),Prod.fst (Prod.snd (Prod.fst (Prod.fst b))),()),1,()),())) (qg (qng D a0 a1) fun b_2↦br (decide (Prod.fst (Prod.fst b_2)<0)) (some ((((Prod.fst (Prod.fst (Prod.fst (Prod.fst b))),Prod.fst (Prod.snd (Prod.fst (Prod.fst (Prod.fst b)))),Prod.fst (Prod.snd (Prod.snd (Prod.fst (Prod.fst (Prod.fst b))))),()),Prod.fst (Prod.snd (Prod.fst (Prod.fst b))),()),4,()),())) (br (decide (0≤0)&&decide (0≤Prod.fst (Prod.fst b_2))&&decide (Prod.fst (Prod.fst b_2)≤(↑(List.length (Prod.fst (Prod.snd a0))):Int))) (qg (qia D (List.drop (Int.toNat 0) (List.take (Int.toNat (Prod.fst (Prod.fst b_2))) (Prod.fst (Prod.snd a0))))) fun b_3↦br (decide (0≤IntKind.wrap IntKind.i64 (Prod.fst (Prod.fst b_2)+1))&&decide (IntKind.wrap IntKind.i64 (Prod.fst (Prod.fst b_2)+1)≤(↑(List.length (Prod.fst (Prod.snd a0))):Int))&&decide ((↑(List.length (Prod.fst (Prod.snd a0))):Int)≤(↑(List.length (Prod.fst (Prod.snd a0))):Int))) (qg (qia D (List.drop (Int.toNat (IntKind.wrap IntKind.i64 (Prod.fst (Prod.fst b_2)+1))) (List.take (Int.toNat (↑(List.length (Prod.fst (Prod.snd a0))):Int)) (Prod.fst (Prod.snd a0))))) fun b_4↦br (decide (List.length (Prod.fst (Prod.fst b_3))+List.length (Prod.fst (Prod.fst b_4))≤qbj)) (some ((((Prod.fst (Prod.fst (Prod.fst (Prod.fst b))),Prod.fst (Prod.snd (Prod.fst (Prod.fst (Prod.fst b)))),Prod.fst (Prod.snd (Prod.snd (Prod.fst (Prod.fst (Prod.fst b))))),()),Prod.fst (Prod.fst b_3)++Prod.fst (Prod.fst b_4),()),0,()),())) none) none) none))
def qzk (D:DX)(n:Nat) (a0:(tSch)×qd×Unit) (a1:qe):Option ((((tSch)×qd×Unit)×Int×Unit)×Unit):=q7b D n a0 a1
theorem qbi6 (D:DX)(n:Nat) (a0:(tSch)×
 qd×Unit) (a1:qe):rfC qc D n 30 (a0,(a1,()))=qzk D n a0 a1:=by kernel_rfl

def qy3 (D:DX)(n:Nat) (a0:List Int):Option ((((tSch)×qd×Unit)×qe×Unit)×Unit):=qg (qiu D a0) fun b↦qg (qh8 D (Prod.fst (Prod.fst b))) fun b↦qg (qg1 D (Prod.fst (Prod.snd b)) (Prod.fst (Prod.fst b))) fun b_1↦some ((Prod.fst (Prod.fst b),Prod.fst (Prod.fst b_1),()),())
def qqa (D:DX)(n:Nat) (a0:List Int):Option ((((tSch)×qd×Unit)×qe×Unit)×Unit):=qy3 D n a0
theorem q9n (D:DX)(n:Nat) (a0:List Int):rfC qc D n 31 (a0,())=qqa D n a0:=by kernel_rfl

def q44 (D:DX)(n:Nat) (a0:(tSch)×qd×Unit) (a1:qe):Option ((((tSch)×qd×Unit)×Int×Unit)×Unit):=qg (qnh D a0) fun b↦qg (qiy D a0) fun b_1↦br (!Prod.fst (Prod.fst b_1)) (some ((((Prod.fst (Prod.fst (Prod.fst (Prod.fst b))),Prod.fst (Prod.snd (Prod.fst (Prod.fst (Prod.fst b)))),Prod.fst (Prod.snd (Prod.snd (Prod.fst (Prod.fst (Prod.fst b))))),()),Prod.fst (Prod.snd (Prod.fst (Prod.fst b))),()),1,()),())) (qg (qq4 D (Prod.fst a0) a1) fun b_2↦br (!Prod.fst (Prod.fst b_2)) (some ((((Prod.fst (Prod.fst (Prod.fst (Prod.fst b))),Prod.fst (Prod.snd (Prod.fst (Prod.fst (Prod.fst b)))),Prod.fst (Prod.snd (Prod.snd (Prod.fst (Prod.fst (Prod.fst b))))),()),Prod.fst (Prod.snd (Prod.fst (Prod.fst b))),()),1,()),())) (qg (qc0 D (Prod.fst a0) a1) fun b_3↦qg (qng D a0 (Prod.fst (Prod.fst b_3))) fun b_4↦br (decide (Prod.fst (Prod.fst b_4)<0)) (some ((((Prod.fst (Prod.fst (Prod.fst (Prod.fst b))),Prod.fst (Prod.snd (Prod.fst (Prod.fst (Prod.fst b)))),Prod.fst (Prod.snd (Prod.snd (Prod.fst (Prod.fst (Prod.fst b))))),()),Prod.fst (Prod.snd (Prod.fst (Prod.fst b))),()),4,()),())) (qg (qnt D a0 a1 (Prod.fst (Prod.fst b_4))) fun b_5↦br (Prod.fst (Prod.fst b_5)) (some ((((Prod.fst (Prod.fst (Prod.fst (Prod.fst b))),Prod.fst (Prod.snd (Prod.fst (Prod.fst (Prod.fst b)))),Prod.fst (Prod.snd (Prod.snd (Prod.fst (Prod.fst (Prod.fst b))))),()),Prod.fst (Prod.snd (Prod.fst (Prod.fst b))),()),3,()),())) (br (decide (0+List.length a1≤qbj)) (br (decide (0≤Prod.fst (Prod.fst b_4))&&decide (Prod.fst (Prod.fst b_4)<(↑(List.length (Prod.fst (Prod.snd (Prod.fst (Prod.fst b))))):Int))) (some ((((Prod.fst (Prod.fst (Prod.fst (Prod.fst b))),Prod.fst (Prod.snd (Prod.fst (Prod.fst (Prod.fst b)))),Prod.fst (Prod.snd (Prod.snd (Prod.fst (Prod.fst (Prod.fst b))))),()),List.set (Prod.fst (Prod.snd (Prod.fst (Prod.fst b)))) (Int.toNat (Prod.fst (Prod.fst b_4))) ([]++a1),()),0,()),())) none) none))))
def qyc (D:DX)(n:Nat) (a0:(tSch)×qd×Unit) (a1:qe):Option ((((tSch)×qd×Unit)×Int×Unit)×Unit):=q44 D n a0 a1
theorem qbg4 (D:DX)(n:Nat) (a0:(tSch)×
 qd×Unit) (a1:qe):rfC qc D n 32 (a0,(a1,()))=qyc D n a0 a1:=by kernel_rfl

def q04 (D:DX)(n:Nat) (a0:List Int):Option ((((tSch)×qd×Unit)×qe×Unit)×Unit):=qg (qiu D a0) fun b↦qg (qh8 D (Prod.fst (Prod.fst b))) fun b↦qg (qg1 D (Prod.fst (Prod.snd b)) (Prod.fst (Prod.fst b))) fun b_1↦qg (qc0 D (Prod.fst (Prod.fst (Prod.fst b))) (Prod.fst (Prod.fst b_1))) fun b_2↦some ((Prod.fst (Prod.fst b),Prod.fst (Prod.fst b_2),()),())
def qrt (D:DX)(n:Nat) (a0:List Int):Option ((((tSch)×qd×Unit)×qe×Unit)×Unit):=q04 D n a0
theorem qbar (D:DX)(n:Nat) (a0:List Int):rfC qc D n 33 (a0,())=qrt D n a0:=by kernel_rfl

def q66 (D:DX)(n:Nat) (a0:(tSch)×qd×Unit) (a1:qe):Option ((qe×Bool×Unit)×Unit):=qg (qng D a0 a1) fun b↦br (decide (Prod.fst (Prod.fst b)<0)) (some (([],false,()),())) (qg (qiy D a0) fun b_1↦br (!Prod.fst (Prod.fst b_1)) (some (([],false,()),())) (br (decide (0≤Prod.fst (Prod.fst b))&&decide (Prod.fst (Prod.fst b)<(↑(List.length (Prod.fst (Prod.snd a0))):Int))) (br (decide (0+List.length (List.getD (Prod.fst (Prod.snd a0)) (Int.toNat (Prod.fst (Prod.fst b))) [])≤qbj)) (some (([]++List.getD (Prod.fst (Prod.snd a0)) (Int.toNat (Prod.fst (Prod.fst b))) [],true,()),())) none) none))
def qz7 (D:DX)(n:Nat) (a0:(tSch)×qd×Unit) (a1:qe):Option ((qe×Bool×Unit)×Unit):=q66 D n a0 a1
theorem qbjc (D:DX)(n:Nat) (a0:(tSch)×
 qd×Unit) (a1:qe):rfC qc D n 34 (a0,(a1,()))=qz7 D n a0 a1:=by kernel_rfl

def q2w (D:DX)(n:Nat) (a0:List Int):Option ((((tSch)×qd×Unit)×Unit)×Unit):=qg (qiu D a0) fun b↦qg (qh8 D (Prod.fst (Prod.fst b))) fun b↦some ((Prod.fst (Prod.fst b),()),())
def qte (D:DX)(n:Nat) (a0:List Int):Option ((((tSch)×qd×Unit)×Unit)×Unit):=q2w D n a0
theorem qbc7 (D:DX)(n:Nat) (a0:List Int):rfC qc D n 35 (a0,())=qte D n a0:=by kernel_rfl

def q0l (D:DX)(n:Nat) (a0:List Int):Option (((tSch)×Unit)×Unit):=qg (qiu D a0) fun b↦qg (qrl D (Prod.fst (Prod.fst b))) fun b↦some ((Prod.fst (Prod.fst b),()),())
def qr6 (D:DX)(n:Nat) (a0:List Int):Option (((tSch)×Unit)×Unit):=q0l D n a0
theorem qbbf (D:DX)(n:Nat) (a0:List Int):rfC qc D n 36 (a0,())=qr6 D n a0:=by kernel_rfl

def q68 (D:DX)(n:Nat) (a0:tSch):Option ((((tSch)×qd×Unit)×Bool×Unit)×Unit):=qg (qm4 D a0) fun b↦qg (qch D ((Prod.fst (Prod.fst (Prod.fst b)),Prod.fst (Prod.snd (Prod.fst (Prod.fst b))),Prod.fst (Prod.snd (Prod.snd (Prod.fst (Prod.fst b)))),()),[],())) fun b_1↦br (!Prod.fst (Prod.fst b_1)) (some (((([],[],[],()),[],()),false,()),())) (some ((((Prod.fst (Prod.fst (Prod.fst b)),Prod.fst (Prod.snd (Prod.fst (Prod.fst b))),Prod.fst (Prod.snd (Prod.snd (Prod.fst (Prod.fst b)))),()),[],()),true,()),()))
def q0g (D:DX)(n:Nat) (a0:tSch):Option ((((tSch)×qd×Unit)×Bool×Unit)×Unit):=q68 D n a0
theorem qbjt (D:DX)(n:Nat) (a0:tSch):rfC qc D n 37 (a0,())=q0g D n a0:=by kernel_rfl

def q69 (D:DX)(n:Nat) (a0:tSch):Option ((((tSch)×qd×Unit)×Bool×Unit)×Unit):=qg (qrj D a0) fun b↦qg (qiy D ((Prod.fst (Prod.fst (Prod.fst b)),Prod.fst (Prod.snd (Prod.fst (Prod.fst b))),Prod.fst (Prod.snd (Prod.snd (Prod.fst (Prod.fst b)))),()),[],())) fun b_1↦br (!Prod.fst (Prod.fst b_1)) (some (((([],[],[],()),[],()),false,()),())) (some ((((Prod.fst (Prod.fst (Prod.fst b)),Prod.fst (Prod.snd (Prod.fst (Prod.fst b))),Prod.fst (Prod.snd (Prod.snd (Prod.fst (Prod.fst b)))),()),[],()),true,()),()))
def qzy (D:DX)(n:Nat) (a0:tSch):Option ((((tSch)×qd×Unit)×Bool×Unit)×Unit):=q69 D n a0
theorem qbja (D:DX)(n:Nat) (a0:tSch):rfC qc D n 38 (a0,())=qzy D n a0:=by kernel_rfl

def qu5 (D:DX)(n:Nat) (go:Int→(tSch)×qd×Unit→(tSch)×qd×Unit→Option ((Bool×Unit)×Unit)) (K0:Bool→(tSch)×qd×Unit→(tSch)×qd×Unit→Option ((Bool×Unit)×Unit)) (K1:(tSch)×qd×Unit→(tSch)×qd×Unit→Option ((Bool×Unit)×Unit)) (x0:Int) (x1:(tSch)×qd×Unit) (x2:(tSch)×qd×Unit):Option ((Bool×Unit)×Unit):=br (decide (x0<(↑(List.length (Prod.fst (Prod.fst x1))):Int))) (br (decide (0≤x0)&&decide (x0<(↑(List.length (Prod.fst (Prod.fst x1))):Int))) (br (decide (0≤x0)&&decide (x0<(↑(List.length (Prod.fst (Prod.fst x2))):Int))) (br (!qkw (Ty.pair Ty.str (Ty.pair (Ty.int IntKind.i64) (Ty.pair Ty.bool Ty.unit))) (List.getD (Prod.fst (Prod.fst x1)) (Int.toNat x0) (ByteArray.empty,0,false,())) (List.getD (Prod.fst (Prod.fst x2)) (Int.toNat x0) (ByteArray.empty,0,false,()))) (K0 false x1 x2) (go (IntKind.wrap IntKind.i64 (x0+1)) x1 x2)) none) none) (K1 x1 x2)
def qi8 (D:DX)(n:Nat) (K0:Bool→(tSch)×qd×Unit→(tSch)×qd×Unit→Option ((Bool×Unit)×Unit)) (K1:(tSch)×qd×Unit→(tSch)×qd×Unit→Option ((Bool×Unit)×Unit)):Nat→(Int)→((tSch)×qd×Unit)→((tSch)×qd×Unit)→Option ((Bool×Unit)×Unit) | 0=>(fun x0 x1 x2=>none) | m+1=>(fun x0 x1 x2=>qu5 D n (qi8 D n K0 K1 m) K0 K1 x0 x1 x2)
def q0q (D:DX)(n:Nat) (v0_0:Bool) (v0_1:(tSch)×qd×Unit) (v0_2:(tSch)×qd×Unit):Option ((Bool×Unit)×Unit):=some ((v0_0,()),())
def qv3 (D:DX)(n:Nat) (go:Int→(tSch)×qd×Unit→(tSch)×qd×Unit→Option ((Bool×Unit)×Unit)) (K0:Bool→Option ((Bool×Unit)×Unit)) (K1:Option ((Bool×Unit)×Unit)) (x1_0:Int) (x1_1:(tSch)×qd×Unit) (x1_2:(tSch)×qd×Unit):Option ((Bool×Unit)×Unit):=br (decide (x1_0<(↑(List.length (Prod.fst (Prod.snd (Prod.snd (Prod.fst x1_1))))):Int))) (br (decide (0≤x1_0)&&decide (x1_0<(↑(List.length (Prod.fst (Prod.snd (Prod.snd (Prod.fst x1_1))))):Int))) (br (decide (0≤x1_0)&&decide (x1_0<(↑(List.length (Prod.fst (Prod.snd (Prod.snd (Prod.fst x1_2))))):Int))) (br (!List.beq (ByteArray.toList (Prod.fst (List.getD (Prod.fst (Prod.snd (Prod.snd (Prod.fst x1_1)))) (Int.toNat x1_0) (ByteArray.empty,[],false,())))) (ByteArray.toList (Prod.fst (List.getD (Prod.fst (Prod.snd (Prod.snd (Prod.fst x1_2)))) (Int.toNat x1_0) (ByteArray.empty,[],false,()))))) (K0 false) (qg (qp1 D (Prod.fst (Prod.snd (List.getD (Prod.fst (Prod.snd (Prod.snd (Prod.fst x1_1)))) (Int.toNat x1_0) (ByteArray.empty,[],false,())))) (Prod.fst (Prod.snd (List.getD (Prod.fst (Prod.snd (Prod.snd (Prod.fst x1_2)))) (Int.toNat x1_0) (ByteArray.empty,[],false,()))))) fun b↦br (bif !Prod.fst (Prod.fst b) then true else !decide (Prod.fst (Prod.snd (Prod.snd (List.getD (Prod.fst (Prod.snd (Prod.snd (Prod.fst x1_1)))) (Int.toNat x1_0) (ByteArray.empty,[],false,()))))=Prod.fst (Prod.snd (Prod.snd (List.getD (Prod.fst (Prod.snd (Prod.snd (Prod.fst x1_2)))) (Int.toNat x1_0) (ByteArray.empty,[],false,())))))) (K0 false) (go (IntKind.wrap IntKind.i64 (x1_0+1)) x1_1 x1_2))) none) none) K1
def qjc (D:DX)(n:Nat) (K0:Bool→Option ((Bool×Unit)×Unit)) (K1:Option ((Bool×Unit)×Unit)):Nat→(Int)→((tSch)×qd×Unit)→((tSch)×qd×Unit)→Option ((Bool×Unit)×Unit) | 0=>(fun x1_0 x1_1 x1_2=>none) | m+1=>(fun x1_0 x1_1 x1_2=>qv3 D n (qjc D n K0 K1 m) K0 K1 x1_0 x1_1 x1_2)
def q09 (D:DX)(n:Nat) (v0_0:Bool):Option ((Bool×Unit)×Unit):=some ((v0_0,()),())
def q03 (D:DX)(n:Nat):Option ((Bool×Unit)×Unit):=some ((true,()),())
def qto (D:DX)(n:Nat):(Int)→((tSch)×qd×Unit)→((tSch)×qd×Unit)→Option ((Bool×Unit)×Unit):=(fun x1_0 x1_1 x1_2=>qjc D n (fun v0_0=>q09 D n v0_0) (q03 D n) n x1_0 x1_1 x1_2)
def qsh (D:DX)(n:Nat) (lp1:Int→(tSch)×qd×Unit→(tSch)×qd×Unit→Option ((Bool×Unit)×Unit)) (v1_0:(tSch)×qd×Unit) (v1_1:(tSch)×qd×Unit):Option ((Bool×Unit)×Unit):=lp1 0 v1_0 v1_1
def qt9 (D:DX)(n:Nat):(Int)→((tSch)×qd×Unit)→((tSch)×qd×Unit)→Option ((Bool×Unit)×Unit):=(fun x0 x1 x2=>qi8 D n (fun v0_0 v0_1 v0_2=>q0q D n v0_0 v0_1 v0_2) (fun v1_0 v1_1=>qsh D n (qto D n) v1_0 v1_1) n x0 x1 x2)
def qwq (D:DX)(n:Nat) (lp0:Int→(tSch)×qd×Unit→(tSch)×qd×Unit→Option ((Bool×Unit)×Unit)) (a0:(tSch)×qd×Unit) (a1:(tSch)×qd×Unit):Option ((Bool×Unit)×Unit):=qg (qu3 D (Prod.fst (Prod.snd a0)) (Prod.fst (Prod.snd a1))) fun b↦br (bif !Prod.fst (Prod.fst b) then true else (↑(List.length (Prod.fst (Prod.fst a0))):Int) != (↑(List.length (Prod.fst (Prod.fst a1))):Int)) (some ((false,()),())) (qg (qp1 D (Prod.fst (Prod.snd (Prod.fst a0))) (Prod.fst (Prod.snd (Prod.fst a1)))) fun b↦br (bif !Prod.fst (Prod.fst b) then true else (↑(List.length (Prod.fst (Prod.snd (Prod.snd (Prod.fst a0))))):Int) != (↑(List.length (Prod.fst (Prod.snd (Prod.snd (Prod.fst a1))))):Int)) (some ((false,()),())) (lp0 0 a0 a1))
def qw3 (D:DX)(n:Nat) (a0:(tSch)×qd×Unit) (a1:(tSch)×qd×Unit):Option ((Bool×Unit)×Unit):=qwq D n (qt9 D n) a0 a1
def qi6 (x0:Int) (x1:(tSch)×qd×Unit) (x2:(tSch)×qd×Unit):St:=stq 108 [(2,AV.addr 2 []),(3,AV.addr 3 []),(5,avI x0)] [(2,Root.mk (Ty.pair yS (Ty.pair (Ty.sl (Ty.sl yV)) Ty.unit)) Mk.no x1 true),(3,Root.mk (Ty.pair yS (Ty.pair (Ty.sl (Ty.sl yV)) Ty.unit)) Mk.no x2 true)] 
def qmv (v0_0:Bool) (v0_1:(tSch)×qd×Unit) (v0_2:(tSch)×qd×Unit):St:=stq 108 [(2,AV.addr 2 []),(3,AV.addr 3 []),(4,AV.val Ty.bool v0_0)] [(2,Root.mk (Ty.pair yS (Ty.pair (Ty.sl (Ty.sl yV)) Ty.unit)) Mk.no v0_1 true),(3,Root.mk (Ty.pair yS (Ty.pair (Ty.sl (Ty.sl yV)) Ty.unit)) Mk.no v0_2 true)] 
def qmt (v1_0:(tSch)×qd×Unit) (v1_1:(tSch)×qd×Unit):St:=stq 108 [(2,AV.addr 2 []),(3,AV.addr 3 [])] [(2,Root.mk (Ty.pair yS (Ty.pair (Ty.sl (Ty.sl yV)) Ty.unit)) Mk.no v1_0 true),(3,Root.mk (Ty.pair yS (Ty.pair (Ty.sl (Ty.sl yV)) Ty.unit)) Mk.no v1_1 true)] 
def qi7 (x1_0:Int) (x1_1:(tSch)×qd×Unit) (x1_2:(tSch)×qd×Unit):St:=stq 108 [(2,AV.addr 2 []),(3,AV.addr 3 []),(6,avI x1_0)] [(2,Root.mk (Ty.pair yS (Ty.pair (Ty.sl (Ty.sl yV)) Ty.unit)) Mk.no x1_1 true),(3,Root.mk (Ty.pair yS (Ty.pair (Ty.sl (Ty.sl yV)) Ty.unit)) Mk.no x1_2 true)] 
def qmy (v0_0:Bool):St:=stq 108 [(4,AV.val Ty.bool v0_0)] [] 
def qmu:St:=stq 108 [] [] 
theorem qbdj (D:DX)(n:Nat) (m:Nat) (K:Ex→St→Option (Out ctx 39)) (x0:Int) (x1:(tSch)×
 qd×Unit) (x2:(tSch)×
 qd×Unit) :
 LQ qc D n 39 [.r,.r,.l,.r,.l] (m+1) (qi6 x0 x1 x2) K=qu5 D n (fun x0 x1 x2=>LQ qc D n 39 [.r,.r,.l,.r,.l] m (qi6 x0 x1 x2) K) (fun v0_0 v0_1 v0_2=>K (Ex.ret) (qmv v0_0 v0_1 v0_2)) (fun v1_0 v1_1=>K (Ex.exit 0) (qmt v1_0 v1_1)) x0 x1 x2:=by kernel_rfl
theorem q2u (D:DX)(n:Nat) (K:Ex→St→Option (Out ctx 39)):∀ (m:Nat) (x0:Int) (x1:(tSch)×
 qd×Unit) (x2:(tSch)×
 qd×Unit),LQ qc D n 39 [.r,.r,.l,.r,.l] m (qi6 x0 x1 x2) K=qi8 D n (fun v0_0 v0_1 v0_2=>K (Ex.ret) (qmv v0_0 v0_1 v0_2)) (fun v1_0 v1_1=>K (Ex.exit 0) (qmt v1_0 v1_1)) m x0 x1 x2
 | 0,x0,x1,x2=>q8 ..
 | m+1,x0,x1,x2=>by
  have ih:(fun x0 x1 x2=>LQ qc D n 39 [.r,.r,.l,.r,.l] m (qi6 x0 x1 x2) K)=qi8 D n (fun v0_0 v0_1 v0_2=>K (Ex.ret) (qmv v0_0 v0_1 v0_2)) (fun v1_0 v1_1=>K (Ex.exit 0) (qmt v1_0 v1_1)) m:=by funext x0 x1 x2;exact q2u D n K m x0 x1 x2
  rw[qbdj]
  rw[ih];rfl
theorem qbc6 (D:DX)(n:Nat) (m:Nat) (K:Ex→St→Option (Out ctx 39)) (x1_0:Int) (x1_1:(tSch)×
 qd×Unit) (x1_2:(tSch)×
 qd×Unit) :
 LQ qc D n 39 [.r,.r,.r,.l,.r,.l] (m+1) (qi7 x1_0 x1_1 x1_2) K=qv3 D n (fun x1_0 x1_1 x1_2=>LQ qc D n 39 [.r,.r,.r,.l,.r,.l] m (qi7 x1_0 x1_1 x1_2) K) (fun v0_0=>K (Ex.ret) (qmy v0_0)) (K (Ex.exit 2) (qmu)) x1_0 x1_1 x1_2:=by kernel_rfl
theorem q2c (D:DX)(n:Nat) (K:Ex→St→Option (Out ctx 39)):∀ (m:Nat) (x1_0:Int) (x1_1:(tSch)×
 qd×Unit) (x1_2:(tSch)×
 qd×Unit),LQ qc D n 39 [.r,.r,.r,.l,.r,.l] m (qi7 x1_0 x1_1 x1_2) K=qjc D n (fun v0_0=>K (Ex.ret) (qmy v0_0)) (K (Ex.exit 2) (qmu)) m x1_0 x1_1 x1_2
 | 0,x1_0,x1_1,x1_2=>q8 ..
 | m+1,x1_0,x1_1,x1_2=>by
  have ih:(fun x1_0 x1_1 x1_2=>LQ qc D n 39 [.r,.r,.r,.l,.r,.l] m (qi7 x1_0 x1_1 x1_2) K)=qjc D n (fun v0_0=>K (Ex.ret) (qmy v0_0)) (K (Ex.exit 2) (qmu)) m:=by funext x1_0 x1_1 x1_2;exact q2c D n K m x1_0 x1_1 x1_2
  rw[qbc6]
  rw[ih];rfl
theorem qbay (D:DX)(n:Nat) (v0_0:Bool) :
 (CQ qc D n 39 [] [.r,.r,.r,.l,.r,.l] (qi qc 39)) (Ex.ret) (qmy v0_0)=q09 D n v0_0:=by kernel_rfl
theorem qbb2 (D:DX)(n:Nat) :
 (CQ qc D n 39 [] [.r,.r,.r,.l,.r,.l] (qi qc 39)) (Ex.exit 2) (qmu)=q03 D n:=by kernel_rfl
theorem qban (D:DX)(n:Nat) (x1_0:Int) (x1_1:(tSch)×
 qd×Unit) (x1_2:(tSch)×
 qd×Unit) :
 LQ qc D n 39 [.r,.r,.r,.l,.r,.l] n (qi7 x1_0 x1_1 x1_2) (CQ qc D n 39 [] [.r,.r,.r,.l,.r,.l] (qi qc 39))=qto D n x1_0 x1_1 x1_2:=by
 rw[q2c]
 simp only[qbay,qbb2]
 rfl
theorem qbbc (D:DX)(n:Nat) (v0_0:Bool) (v0_1:(tSch)×
 qd×Unit) (v0_2:(tSch)×
 qd×Unit) :
 (CQ qc D n 39 [] [.r,.r,.l,.r,.l] (qi qc 39)) (Ex.ret) (qmv v0_0 v0_1 v0_2)=q0q D n v0_0 v0_1 v0_2:=by kernel_rfl
theorem qba9 (D:DX)(n:Nat) (v1_0:(tSch)×
 qd×Unit) (v1_1:(tSch)×
 qd×Unit) :
 (CQ qc D n 39 [] [.r,.r,.l,.r,.l] (qi qc 39)) (Ex.exit 0) (qmt v1_0 v1_1)=qsh D n (fun x1_0 x1_1 x1_2=>LQ qc D n 39 [.r,.r,.r,.l,.r,.l] n (qi7 x1_0 x1_1 x1_2) (CQ qc D n 39 [] [.r,.r,.r,.l,.r,.l] (qi qc 39))) v1_0 v1_1:=by kernel_rfl
theorem qbao (D:DX)(n:Nat) (x0:Int) (x1:(tSch)×
 qd×Unit) (x2:(tSch)×
 qd×Unit) :
 LQ qc D n 39 [.r,.r,.l,.r,.l] n (qi6 x0 x1 x2) (CQ qc D n 39 [] [.r,.r,.l,.r,.l] (qi qc 39))=qt9 D n x0 x1 x2:=by
 rw[q2u]
 simp only[qbbc,qba9,qban]
 rfl
theorem qbgz (D:DX)(n:Nat) (a0:(tSch)×
 qd×Unit) (a1:(tSch)×
 qd×Unit):rfC qc D n 39 (a0,(a1,()))=qw3 D n a0 a1:=by
 have h:rfC qc D n 39 (a0,(a1,()))=qwq D n (fun x0 x1 x2=>LQ qc D n 39 [.r,.r,.l,.r,.l] n (qi6 x0 x1 x2) (CQ qc D n 39 [] [.r,.r,.l,.r,.l] (qi qc 39))) a0 a1:=by kernel_rfl
 rw[h]
 simp only[qbao]
 rfl

def qru (D:DX)(n:Nat) (go:qe→qe→Int→Option ((Bool×Unit)×Unit)) (K0:Bool→Option ((Bool×Unit)×Unit)) (K1:Option ((Bool×Unit)×Unit)) (x0:qe) (x1:qe) (x2:Int):Option ((Bool×Unit)×Unit):=br (decide (x2<(↑(List.length x0):Int))) (br (decide (0≤x2)&&decide (x2<(↑(List.length x0):Int))) (br (decide (0≤x2)&&decide (x2<(↑(List.length x1):Int))) (br (!qkw (Ty.pair (Ty.int IntKind.i64) (Ty.pair (Ty.int IntKind.i64) (Ty.pair Ty.str Ty.unit))) (List.getD x0 (Int.toNat x2) (0,0,ByteArray.empty,())) (List.getD x1 (Int.toNat x2) (0,0,ByteArray.empty,()))) (K0 false) (go x0 x1 (IntKind.wrap IntKind.i64 (x2+1)))) none) none) K1
def qgx (D:DX)(n:Nat) (K0:Bool→Option ((Bool×Unit)×Unit)) (K1:Option ((Bool×Unit)×Unit)):Nat→(qe)→(qe)→(Int)→Option ((Bool×Unit)×Unit) | 0=>(fun x0 x1 x2=>none) | m+1=>(fun x0 x1 x2=>qru D n (qgx D n K0 K1 m) K0 K1 x0 x1 x2)
def qwg (D:DX)(n:Nat) (v0_0:Bool):Option ((Bool×Unit)×Unit):=some ((v0_0,()),())
def qwh (D:DX)(n:Nat):Option ((Bool×Unit)×Unit):=some ((true,()),())
def qqb (D:DX)(n:Nat):(qe)→(qe)→(Int)→Option ((Bool×Unit)×Unit):=(fun x0 x1 x2=>qgx D n (fun v0_0=>qwg D n v0_0) (qwh D n) n x0 x1 x2)
def qtq (D:DX)(n:Nat) (lp0:qe→qe→Int→Option ((Bool×Unit)×Unit)) (a0:qe) (a1:qe):Option ((Bool×Unit)×Unit):=br ((↑(List.length a0):Int) != (↑(List.length a1):Int)) (some ((false,()),())) (lp0 a0 a1 0)
def qt8 (D:DX)(n:Nat) (a0:qe) (a1:qe):Option ((Bool×Unit)×Unit):=qtq D n (qqb D n) a0 a1
def qg0 (x0:qe) (x1:qe) (x2:Int):St:=stq 26 [(0,AV.val (Ty.sl yV) x0),(1,AV.val (Ty.sl yV) x1),(5,avI x2)] [] 
def qkn (v0_0:Bool):St:=stq 26 [(4,AV.val Ty.bool v0_0)] [] 
def qkx:St:=stq 26 [] [] 
theorem q9v (D:DX)(n:Nat) (m:Nat) (K:Ex→St→Option (Out ctx 40)) (x0:qe) (x1:qe) (x2:Int) :
 LQ qc D n 40 [.r,.r,.l,.r,.l] (m+1) (qg0 x0 x1 x2) K=qru D n (fun x0 x1 x2=>LQ qc D n 40 [.r,.r,.l,.r,.l] m (qg0 x0 x1 x2) K) (fun v0_0=>K (Ex.ret) (qkn v0_0)) (K (Ex.exit 0) (qkx)) x0 x1 x2:=by kernel_rfl
theorem qzi (D:DX)(n:Nat) (K:Ex→St→Option (Out ctx 40)):∀ (m:Nat) (x0:qe) (x1:qe) (x2:Int),LQ qc D n 40 [.r,.r,.l,.r,.l] m (qg0 x0 x1 x2) K=qgx D n (fun v0_0=>K (Ex.ret) (qkn v0_0)) (K (Ex.exit 0) (qkx)) m x0 x1 x2
 | 0,x0,x1,x2=>q8 ..
 | m+1,x0,x1,x2=>by
  have ih:(fun x0 x1 x2=>LQ qc D n 40 [.r,.r,.l,.r,.l] m (qg0 x0 x1 x2) K)=qgx D n (fun v0_0=>K (Ex.ret) (qkn v0_0)) (K (Ex.exit 0) (qkx)) m:=by funext x0 x1 x2;exact qzi D n K m x0 x1 x2
  rw[q9v]
  rw[ih];rfl
theorem q78 (D:DX)(n:Nat) (v0_0:Bool) :
 (CQ qc D n 40 [] [.r,.r,.l,.r,.l] (qi qc 40)) (Ex.ret) (qkn v0_0)=qwg D n v0_0:=by kernel_rfl
theorem q70 (D:DX)(n:Nat) :
 (CQ qc D n 40 [] [.r,.r,.l,.r,.l] (qi qc 40)) (Ex.exit 0) (qkx)=qwh D n:=by kernel_rfl
theorem q7u (D:DX)(n:Nat) (x0:qe) (x1:qe) (x2:Int) :
 LQ qc D n 40 [.r,.r,.l,.r,.l] n (qg0 x0 x1 x2) (CQ qc D n 40 [] [.r,.r,.l,.r,.l] (qi qc 40))=qqb D n x0 x1 x2:=by
 rw[qzi]
 simp only[q78,q70]
 rfl
theorem qbdy (D:DX)(n:Nat) (a0:qe) (a1:qe):rfC qc D n 40 (a0,(a1,()))=qt8 D n a0 a1:=by
 have h:rfC qc D n 40 (a0,(a1,()))=qtq D n (fun x0 x1 x2=>LQ qc D n 40 [.r,.r,.l,.r,.l] n (qg0 x0 x1 x2) (CQ qc D n 40 [] [.r,.r,.l,.r,.l] (qi qc 40))) a0 a1:=by kernel_rfl
 rw[h]
 simp only[q7u]
 rfl

def qz9 (D:DX)(n:Nat) (go:Int→Int→(tSch)×qd×Unit→Option ((Bool×Unit)×Unit)) (K0:Bool→Int→(tSch)×qd×Unit→Option ((Bool×Unit)×Unit)) (K1:Int→(tSch)×qd×Unit→Option ((Bool×Unit)×Unit)) (x1_0:Int) (x1_1:Int) (x1_2:(tSch)×qd×Unit):Option ((Bool×Unit)×Unit):=br (decide (x1_1<x1_0)) (br (decide (0≤x1_1)&&decide (x1_1<(↑(List.length (Prod.fst (Prod.snd x1_2))):Int))) (br (decide (0≤x1_0)&&decide (x1_0<(↑(List.length (Prod.fst (Prod.snd x1_2))):Int))) (qg (qpy D (Prod.fst x1_2) (List.getD (Prod.fst (Prod.snd x1_2)) (Int.toNat x1_1) []) (List.getD (Prod.fst (Prod.snd x1_2)) (Int.toNat x1_0) [])) fun b↦br (Prod.fst (Prod.fst b)) (K0 false x1_0 x1_2) (go x1_0 (IntKind.wrap IntKind.i64 (x1_1+1)) x1_2)) none) none) (K1 x1_0 x1_2)
def qlc (D:DX)(n:Nat) (K0:Bool→Int→(tSch)×qd×Unit→Option ((Bool×Unit)×Unit)) (K1:Int→(tSch)×qd×Unit→Option ((Bool×Unit)×Unit)):Nat→(Int)→(Int)→((tSch)×qd×Unit)→Option ((Bool×Unit)×Unit) | 0=>(fun x1_0 x1_1 x1_2=>none) | m+1=>(fun x1_0 x1_1 x1_2=>qz9 D n (qlc D n K0 K1 m) K0 K1 x1_0 x1_1 x1_2)
def qvw (D:DX)(n:Nat) (go:Int→(tSch)×qd×Unit→Option ((Bool×Unit)×Unit)) (K0:Bool→(tSch)×qd×Unit→Option ((Bool×Unit)×Unit)) (K1:(tSch)×qd×Unit→Option ((Bool×Unit)×Unit)) (v0_0:Bool) (v0_1:Int) (v0_2:(tSch)×qd×Unit):Option ((Bool×Unit)×Unit):=K0 v0_0 v0_2
def qps (D:DX)(n:Nat) (go:Int→(tSch)×qd×Unit→Option ((Bool×Unit)×Unit)) (K0:Bool→(tSch)×qd×Unit→Option ((Bool×Unit)×Unit)) (K1:(tSch)×qd×Unit→Option ((Bool×Unit)×Unit)) (v1_0:Int) (v1_1:(tSch)×qd×Unit):Option ((Bool×Unit)×Unit):=go (IntKind.wrap IntKind.i64 (v1_0+1)) v1_1
def qx9 (D:DX)(n:Nat) (go:Int→(tSch)×qd×Unit→Option ((Bool×Unit)×Unit)) (K0:Bool→(tSch)×qd×Unit→Option ((Bool×Unit)×Unit)) (K1:(tSch)×qd×Unit→Option ((Bool×Unit)×Unit)):(Int)→(Int)→((tSch)×qd×Unit)→Option ((Bool×Unit)×Unit):=(fun x1_0 x1_1 x1_2=>qlc D n (fun v0_0 v0_1 v0_2=>qvw D n go K0 K1 v0_0 v0_1 v0_2) (fun v1_0 v1_1=>qps D n go K0 K1 v1_0 v1_1) n x1_0 x1_1 x1_2)
def qzo (D:DX)(n:Nat) (go:Int→(tSch)×qd×Unit→Option ((Bool×Unit)×Unit)) (K0:Bool→(tSch)×qd×Unit→Option ((Bool×Unit)×Unit)) (K1:(tSch)×qd×Unit→Option ((Bool×Unit)×Unit)) (lp1:Int→Int→(tSch)×qd×Unit→Option ((Bool×Unit)×Unit)) (x0:Int) (x1:(tSch)×qd×Unit):Option ((Bool×Unit)×Unit):=br (decide (x0<(↑(List.length (Prod.fst (Prod.snd x1))):Int))) (br (decide (0≤x0)&&decide (x0<(↑(List.length (Prod.fst (Prod.snd x1))):Int))) (qg (qq4 D (Prod.fst x1) (List.getD (Prod.fst (Prod.snd x1)) (Int.toNat x0) [])) fun b↦br (!Prod.fst (Prod.fst b)) (K0 false x1) (br (decide (x0>0)) (br (decide (0≤IntKind.wrap IntKind.i64 (x0 - 1))&&decide (IntKind.wrap IntKind.i64 (x0 - 1)<(↑(List.length (Prod.fst (Prod.snd x1))):Int))) (qg (qc0 D (Prod.fst x1) (List.getD (Prod.fst (Prod.snd x1)) (Int.toNat (IntKind.wrap IntKind.i64 (x0 - 1))) [])) fun b↦br (decide (0≤x0)&&decide (x0<(↑(List.length (Prod.fst (Prod.snd x1))):Int))) (qg (qc0 D (Prod.fst x1) (List.getD (Prod.fst (Prod.snd x1)) (Int.toNat x0) [])) fun b_1↦qg (qnw D (Prod.fst (Prod.fst b)) (Prod.fst (Prod.fst b_1))) fun b↦br (!Prod.fst (Prod.fst b)) (K0 false x1) (lp1 x0 0 x1)) none) none) (lp1 x0 0 x1))) none) (K1 x1)
def qe7 (D:DX)(n:Nat) (K0:Bool→(tSch)×qd×Unit→Option ((Bool×Unit)×Unit)) (K1:(tSch)×qd×Unit→Option ((Bool×Unit)×Unit)):Nat→(Int)→((tSch)×qd×Unit)→Option ((Bool×Unit)×Unit) | 0=>(fun x0 x1=>none) | m+1=>(fun x0 x1=>qzo D n (qe7 D n K0 K1 m) K0 K1 (qx9 D n (qe7 D n K0 K1 m) K0 K1) x0 x1)
def qgt (D:DX)(n:Nat) (v0_0:Bool) (v0_1:(tSch)×qd×Unit):Option ((Bool×Unit)×Unit):=some ((v0_0,()),())
def qfj (D:DX)(n:Nat) (v1_0:(tSch)×qd×Unit):Option ((Bool×Unit)×Unit):=qg (qpw D (Prod.fst v1_0)) fun b↦some ((bif Prod.fst (Prod.fst b) then decide ((↑(List.length (Prod.fst (Prod.snd v1_0))):Int)≤12) else false,()),())
def qxc (D:DX)(n:Nat):(Int)→((tSch)×qd×Unit)→Option ((Bool×Unit)×Unit):=(fun x0 x1=>qe7 D n (fun v0_0 v0_1=>qgt D n v0_0 v0_1) (fun v1_0=>qfj D n v1_0) n x0 x1)
def q18 (D:DX)(n:Nat) (lp0:Int→(tSch)×qd×Unit→Option ((Bool×Unit)×Unit)) (a0:(tSch)×qd×Unit):Option ((Bool×Unit)×Unit):=lp0 0 a0
def q1u (D:DX)(n:Nat) (a0:(tSch)×qd×Unit):Option ((Bool×Unit)×Unit):=q18 D n (qxc D n) a0
def qft (x0:Int) (x1:(tSch)×qd×Unit):St:=stq 73 [(1,AV.addr 1 []),(3,avI x0)] [(1,Root.mk (Ty.pair yS (Ty.pair (Ty.sl (Ty.sl yV)) Ty.unit)) Mk.no x1 true)] 
def qgv (v0_0:Bool) (v0_1:(tSch)×qd×Unit):St:=stq 73 [(1,AV.addr 1 []),(2,AV.val Ty.bool v0_0)] [(1,Root.mk (Ty.pair yS (Ty.pair (Ty.sl (Ty.sl yV)) Ty.unit)) Mk.no v0_1 true)] 
def qgw (v1_0:(tSch)×qd×Unit):St:=stq 73 [(1,AV.addr 1 [])] [(1,Root.mk (Ty.pair yS (Ty.pair (Ty.sl (Ty.sl yV)) Ty.unit)) Mk.no v1_0 true)] 
def qlh (x1_0:Int) (x1_1:Int) (x1_2:(tSch)×qd×Unit):St:=stq 73 [(1,AV.addr 1 []),(3,avI x1_0),(4,avI x1_1)] [(1,Root.mk (Ty.pair yS (Ty.pair (Ty.sl (Ty.sl yV)) Ty.unit)) Mk.no x1_2 true)] 
def qpp (v0_0:Bool) (v0_1:Int) (v0_2:(tSch)×qd×Unit):St:=stq 73 [(1,AV.addr 1 []),(2,AV.val Ty.bool v0_0),(3,avI v0_1)] [(1,Root.mk (Ty.pair yS (Ty.pair (Ty.sl (Ty.sl yV)) Ty.unit)) Mk.no v0_2 true)] 
def qp4 (v1_0:Int) (v1_1:(tSch)×qd×Unit):St:=stq 73 [(1,AV.addr 1 []),(3,avI v1_0)] [(1,Root.mk (Ty.pair yS (Ty.pair (Ty.sl (Ty.sl yV)) Ty.unit)) Mk.no v1_1 true)] 
theorem qbgj (D:DX)(n:Nat) (m:Nat) (K:Ex→St→Option (Out ctx 41)) (x1_0:Int) (x1_1:Int) (x1_2:(tSch)×
 qd×Unit) :
 LQ qc D n 41 [.r,.l,.r,.l,.l,.r,.l,.l,.r,.r,.l] (m+1) (qlh x1_0 x1_1 x1_2) K=qz9 D n (fun x1_0 x1_1 x1_2=>LQ qc D n 41 [.r,.l,.r,.l,.l,.r,.l,.l,.r,.r,.l] m (qlh x1_0 x1_1 x1_2) K) (fun v0_0 v0_1 v0_2=>K (Ex.ret) (qpp v0_0 v0_1 v0_2)) (fun v1_0 v1_1=>K (Ex.exit 2) (qp4 v1_0 v1_1)) x1_0 x1_1 x1_2:=by kernel_rfl
theorem q4x (D:DX)(n:Nat) (K:Ex→St→Option (Out ctx 41)):∀ (m:Nat) (x1_0:Int) (x1_1:Int) (x1_2:(tSch)×
 qd×Unit),LQ qc D n 41 [.r,.l,.r,.l,.l,.r,.l,.l,.r,.r,.l] m (qlh x1_0 x1_1 x1_2) K=qlc D n (fun v0_0 v0_1 v0_2=>K (Ex.ret) (qpp v0_0 v0_1 v0_2)) (fun v1_0 v1_1=>K (Ex.exit 2) (qp4 v1_0 v1_1)) m x1_0 x1_1 x1_2
 | 0,x1_0,x1_1,x1_2=>q8 ..
 | m+1,x1_0,x1_1,x1_2=>by
  have ih:(fun x1_0 x1_1 x1_2=>LQ qc D n 41 [.r,.l,.r,.l,.l,.r,.l,.l,.r,.r,.l] m (qlh x1_0 x1_1 x1_2) K)=qlc D n (fun v0_0 v0_1 v0_2=>K (Ex.ret) (qpp v0_0 v0_1 v0_2)) (fun v1_0 v1_1=>K (Ex.exit 2) (qp4 v1_0 v1_1)) m:=by funext x1_0 x1_1 x1_2;exact q4x D n K m x1_0 x1_1 x1_2
  rw[qbgj]
  rw[ih];rfl
theorem qbd4 (D:DX)(n:Nat) (m:Nat) (K:Ex→St→Option (Out ctx 41)) (v0_0:Bool) (v0_1:Int) (v0_2:(tSch)×
 qd×Unit) :
 (CQ qc D n 41 [.r,.l,.r,.l,.l] [.r,.l,.l,.r,.r,.l] (LK qc D n 41 [.r,.l,.r,.l] m K)) (Ex.ret) (qpp v0_0 v0_1 v0_2)=qvw D n (fun x0 x1=>LQ qc D n 41 [.r,.l,.r,.l] m (qft x0 x1) K) (fun v0_0 v0_1=>K (Ex.ret) (qgv v0_0 v0_1)) (fun v1_0=>K (Ex.exit 0) (qgw v1_0)) v0_0 v0_1 v0_2:=by kernel_rfl
theorem qbfq (D:DX)(n:Nat) (m:Nat) (K:Ex→St→Option (Out ctx 41)) (v1_0:Int) (v1_1:(tSch)×
 qd×Unit) :
 (CQ qc D n 41 [.r,.l,.r,.l,.l] [.r,.l,.l,.r,.r,.l] (LK qc D n 41 [.r,.l,.r,.l] m K)) (Ex.exit 2) (qp4 v1_0 v1_1)=qps D n (fun x0 x1=>LQ qc D n 41 [.r,.l,.r,.l] m (qft x0 x1) K) (fun v0_0 v0_1=>K (Ex.ret) (qgv v0_0 v0_1)) (fun v1_0=>K (Ex.exit 0) (qgw v1_0)) v1_0 v1_1:=by kernel_rfl
theorem qbfs (D:DX)(n:Nat) (m:Nat) (K:Ex→St→Option (Out ctx 41)) (x1_0:Int) (x1_1:Int) (x1_2:(tSch)×
 qd×Unit) :
 LQ qc D n 41 [.r,.l,.r,.l,.l,.r,.l,.l,.r,.r,.l] n (qlh x1_0 x1_1 x1_2) (CQ qc D n 41 [.r,.l,.r,.l,.l] [.r,.l,.l,.r,.r,.l] (LK qc D n 41 [.r,.l,.r,.l] m K))=qx9 D n (fun x0 x1=>LQ qc D n 41 [.r,.l,.r,.l] m (qft x0 x1) K) (fun v0_0 v0_1=>K (Ex.ret) (qgv v0_0 v0_1)) (fun v1_0=>K (Ex.exit 0) (qgw v1_0)) x1_0 x1_1 x1_2:=by
 rw[q4x]
 simp only[qbd4,qbfq]
 rfl
theorem qbh4 (D:DX)(n:Nat) (m:Nat) (K:Ex→St→Option (Out ctx 41)) (x0:Int) (x1:(tSch)×
 qd×Unit) :
 LQ qc D n 41 [.r,.l,.r,.l] (m+1) (qft x0 x1) K=qzo D n (fun x0 x1=>LQ qc D n 41 [.r,.l,.r,.l] m (qft x0 x1) K) (fun v0_0 v0_1=>K (Ex.ret) (qgv v0_0 v0_1)) (fun v1_0=>K (Ex.exit 0) (qgw v1_0)) (fun x1_0 x1_1 x1_2=>LQ qc D n 41 [.r,.l,.r,.l,.l,.r,.l,.l,.r,.r,.l] n (qlh x1_0 x1_1 x1_2) (CQ qc D n 41 [.r,.l,.r,.l,.l] [.r,.l,.l,.r,.r,.l] (LK qc D n 41 [.r,.l,.r,.l] m K))) x0 x1:=by kernel_rfl
theorem q5z (D:DX)(n:Nat) (K:Ex→St→Option (Out ctx 41)):∀ (m:Nat) (x0:Int) (x1:(tSch)×
 qd×Unit),LQ qc D n 41 [.r,.l,.r,.l] m (qft x0 x1) K=qe7 D n (fun v0_0 v0_1=>K (Ex.ret) (qgv v0_0 v0_1)) (fun v1_0=>K (Ex.exit 0) (qgw v1_0)) m x0 x1
 | 0,x0,x1=>q8 ..
 | m+1,x0,x1=>by
  have ih:(fun x0 x1=>LQ qc D n 41 [.r,.l,.r,.l] m (qft x0 x1) K)=qe7 D n (fun v0_0 v0_1=>K (Ex.ret) (qgv v0_0 v0_1)) (fun v1_0=>K (Ex.exit 0) (qgw v1_0)) m:=by funext x0 x1;exact q5z D n K m x0 x1
  rw[qbh4]
  simp only[qbfs]
  rw[ih];rfl
theorem qbeu (D:DX)(n:Nat) (v0_0:Bool) (v0_1:(tSch)×
 qd×Unit) :
 (CQ qc D n 41 [] [.r,.l,.r,.l] (qi qc 41)) (Ex.ret) (qgv v0_0 v0_1)=qgt D n v0_0 v0_1:=by kernel_rfl
theorem qbei (D:DX)(n:Nat) (v1_0:(tSch)×
 qd×Unit) :
 (CQ qc D n 41 [] [.r,.l,.r,.l] (qi qc 41)) (Ex.exit 0) (qgw v1_0)=qfj D n v1_0:=by kernel_rfl
theorem qbfi (D:DX)(n:Nat) (x0:Int) (x1:(tSch)×
 qd×Unit) :
 LQ qc D n 41 [.r,.l,.r,.l] n (qft x0 x1) (CQ qc D n 41 [] [.r,.l,.r,.l] (qi qc 41))=qxc D n x0 x1:=by
 rw[q5z]
 simp only[qbeu,qbei]
 rfl
theorem qbj7 (D:DX)(n:Nat) (a0:(tSch)×
 qd×Unit):rfC qc D n 41 (a0,())=q1u D n a0:=by
 have h:rfC qc D n 41 (a0,())=q18 D n (fun x0 x1=>LQ qc D n 41 [.r,.l,.r,.l] n (qft x0 x1) (CQ qc D n 41 [] [.r,.l,.r,.l] (qi qc 41))) a0:=by kernel_rfl
 rw[h]
 simp only[qbfi]
 rfl












def q0d (D:DX)(n:Nat) (go:List Int→Int→Int→Option ((tCur×Unit)×Unit)) (K0:List Int→Int→Option ((tCur×Unit)×Unit)) (x0:List Int) (x1:Int) (x2:Int):Option ((tCur×Unit)×Unit):=br (bif decide (x2<(↑(List.length x0):Int)) then decide (x2<4000) else false) (br (decide (0≤x2)&&decide (x2<(↑(List.length x0):Int))) (go x0 (IntKind.wrap IntKind.i64 (↑(BitVec.toNat (BitVec.and (BitVec.ofInt (IntKind.bits IntKind.i64) (IntKind.wrap IntKind.i64 (IntKind.wrap IntKind.i64 (IntKind.wrap IntKind.i64 (x1 * 131)+IntKind.wrap IntKind.i64 (List.getD x0 (Int.toNat x2) 0))+7))) (BitVec.ofInt (IntKind.bits IntKind.i64) 1073741823))):Int)) (IntKind.wrap IntKind.i64 (x2+1))) none) (K0 x0 x1)
def qli (D:DX)(n:Nat) (K0:List Int→Int→Option ((tCur×Unit)×Unit)):Nat→(List Int)→(Int)→(Int)→Option ((tCur×Unit)×Unit) | 0=>(fun x0 x1 x2=>none) | m+1=>(fun x0 x1 x2=>q0d D n (qli D n K0 m) K0 x0 x1 x2)
def quv (D:DX)(n:Nat) (v0_0:List Int) (v0_1:Int):Option ((tCur×Unit)×Unit):=some (((v0_0,0,v0_1,()),()),())
def qxe (D:DX)(n:Nat):(List Int)→(Int)→(Int)→Option ((tCur×Unit)×Unit):=(fun x0 x1 x2=>qli D n (fun v0_0 v0_1=>quv D n v0_0 v0_1) n x0 x1 x2)
def q2o (D:DX)(n:Nat) (lp0:List Int→Int→Int→Option ((tCur×Unit)×Unit)) (a0:List Int):Option ((tCur×Unit)×Unit):=lp0 a0 (IntKind.wrap IntKind.i64 (27323+(↑(List.length a0):Int))) 0
def q16 (D:DX)(n:Nat) (a0:List Int):Option ((tCur×Unit)×Unit):=q2o D n (qxe D n) a0
def qk9 (x0:List Int) (x1:Int) (x2:Int):St:=stq 32 [(0,AV.val (Ty.sl (Ty.int IntKind.u8)) x0),(3,avI x1),(4,avI x2)] [] 
def qpv (v0_0:List Int) (v0_1:Int):St:=stq 32 [(0,AV.val (Ty.sl (Ty.int IntKind.u8)) v0_0),(3,avI v0_1)] [] 
theorem qbhn (D:DX)(n:Nat) (m:Nat) (K:Ex→St→Option (Out ctx 65)) (x0:List Int) (x1:Int) (x2:Int) :
 LQ qc D n 65 [.r,.r,.l,.r,.l] (m+1) (qk9 x0 x1 x2) K=q0d D n (fun x0 x1 x2=>LQ qc D n 65 [.r,.r,.l,.r,.l] m (qk9 x0 x1 x2) K) (fun v0_0 v0_1=>K (Ex.exit 0) (qpv v0_0 v0_1)) x0 x1 x2:=by kernel_rfl
theorem q4u (D:DX)(n:Nat) (K:Ex→St→Option (Out ctx 65)):∀ (m:Nat) (x0:List Int) (x1:Int) (x2:Int),LQ qc D n 65 [.r,.r,.l,.r,.l] m (qk9 x0 x1 x2) K=qli D n (fun v0_0 v0_1=>K (Ex.exit 0) (qpv v0_0 v0_1)) m x0 x1 x2
 | 0,x0,x1,x2=>q8 ..
 | m+1,x0,x1,x2=>by
  have ih:(fun x0 x1 x2=>LQ qc D n 65 [.r,.r,.l,.r,.l] m (qk9 x0 x1 x2) K)=qli D n (fun v0_0 v0_1=>K (Ex.exit 0) (qpv v0_0 v0_1)) m:=by funext x0 x1 x2;exact q4u D n K m x0 x1 x2
  rw[qbhn]
  rw[ih];rfl
theorem qbf0 (D:DX)(n:Nat) (v0_0:List Int) (v0_1:Int) :
 (CQ qc D n 65 [] [.r,.r,.l,.r,.l] (qi qc 65)) (Ex.exit 0) (qpv v0_0 v0_1)=quv D n v0_0 v0_1:=by kernel_rfl
theorem qbe3 (D:DX)(n:Nat) (x0:List Int) (x1:Int) (x2:Int) :
 LQ qc D n 65 [.r,.r,.l,.r,.l] n (qk9 x0 x1 x2) (CQ qc D n 65 [] [.r,.r,.l,.r,.l] (qi qc 65))=qxe D n x0 x1 x2:=by
 rw[q4u]
 simp only[qbf0]
 rfl
theorem qbku (D:DX)(n:Nat) (a0:List Int):rfC qc D n 65 (a0,())=q16 D n a0:=by
 have h:rfC qc D n 65 (a0,())=q2o D n (fun x0 x1 x2=>LQ qc D n 65 [.r,.r,.l,.r,.l] n (qk9 x0 x1 x2) (CQ qc D n 65 [] [.r,.r,.l,.r,.l] (qi qc 65))) a0:=by kernel_rfl
 rw[h]
 simp only[qbe3]
 rfl

def qod (D:DX)(n:Nat) (go:Int→List Int×Int×Int×Unit→(tSch)×qd×Unit→(tSch)×qd×Unit→Option ((((tSch)×qd×Unit)×Unit)×tCur×Unit)) (K0:List Int×Int×Int×Unit→(tSch)×qd×Unit→(tSch)×qd×Unit→Option ((((tSch)×qd×Unit)×Unit)×tCur×Unit)) (x0:Int) (x1:List Int×Int×Int×Unit) (x2:(tSch)×qd×Unit) (x3:(tSch)×qd×Unit):Option ((((tSch)×qd×Unit)×Unit)×tCur×Unit):=qg (qb9 D x1 9) fun b↦br (decide (x0<Prod.fst (Prod.fst b))) (qg (qjr D (Prod.fst (Prod.snd b)) (Prod.fst x3)) fun b↦qg (qb9 D (Prod.fst (Prod.snd b)) 6) fun b_1↦br (decide (Prod.fst (Prod.fst b_1)=0)) (qg (qc0 D (Prod.fst x3) (Prod.fst (Prod.fst b))) fun b↦qg (qs0 D (Prod.fst x3,Prod.fst (Prod.snd x3),()) (Prod.fst (Prod.fst b))) fun b↦go (IntKind.wrap IntKind.i64 (x0+1)) (Prod.fst (Prod.snd b_1)) x2 (Prod.fst (Prod.fst (Prod.fst b)),Prod.fst (Prod.snd (Prod.fst (Prod.fst b))),())) (br (decide (Prod.fst (Prod.fst b_1)=1)) (qg (qro D (Prod.fst x3,Prod.fst (Prod.snd x3),()) (Prod.fst (Prod.fst b))) fun b↦go (IntKind.wrap IntKind.i64 (x0+1)) (Prod.fst (Prod.snd b_1)) x2 (Prod.fst (Prod.fst (Prod.fst b)),Prod.fst (Prod.snd (Prod.fst (Prod.fst b))),())) (qg (qs2 D (Prod.fst x3,Prod.fst (Prod.snd x3),()) (Prod.fst (Prod.fst b))) fun b↦go (IntKind.wrap IntKind.i64 (x0+1)) (Prod.fst (Prod.snd b_1)) x2 (Prod.fst (Prod.fst (Prod.fst b)),Prod.fst (Prod.snd (Prod.fst (Prod.fst b))),())))) (K0 (Prod.fst (Prod.snd b)) x2 x3)
def qfd (D:DX)(n:Nat) (K0:List Int×Int×Int×Unit→(tSch)×qd×Unit→(tSch)×qd×Unit→Option ((((tSch)×qd×Unit)×Unit)×tCur×Unit)):Nat→(Int)→tCur→((tSch)×qd×Unit)→((tSch)×qd×Unit)→Option ((((tSch)×qd×Unit)×Unit)×tCur×Unit) | 0=>(fun x0 x1 x2 x3=>none) | m+1=>(fun x0 x1 x2 x3=>qod D n (qfd D n K0 m) K0 x0 x1 x2 x3)
def qmc (D:DX)(n:Nat) (v0_0:List Int×Int×Int×Unit) (v0_1:(tSch)×qd×Unit) (v0_2:(tSch)×qd×Unit):Option ((((tSch)×qd×Unit)×Unit)×tCur×Unit):=some (((Prod.fst v0_2,Prod.fst (Prod.snd v0_2),()),()),v0_0,())
def qnn (D:DX)(n:Nat):(Int)→tCur→((tSch)×qd×Unit)→((tSch)×qd×Unit)→Option ((((tSch)×qd×Unit)×Unit)×tCur×Unit):=(fun x0 x1 x2 x3=>qfd D n (fun v0_0 v0_1 v0_2=>qmc D n v0_0 v0_1 v0_2) n x0 x1 x2 x3)
def qpa (D:DX)(n:Nat) (lp0:Int→List Int×Int×Int×Unit→(tSch)×qd×Unit→(tSch)×qd×Unit→Option ((((tSch)×qd×Unit)×Unit)×tCur×Unit)) (a0:List Int×Int×Int×Unit):Option ((((tSch)×qd×Unit)×Unit)×tCur×Unit):=qg (qkk D a0) fun b↦qg (qs1 D (Prod.fst (Prod.fst b))) fun b_1↦lp0 0 (Prod.fst (Prod.snd b)) (([],[],[],()),[],()) (Prod.fst (Prod.fst (Prod.fst b_1)),Prod.fst (Prod.snd (Prod.fst (Prod.fst b_1))),())
def qpb (D:DX)(n:Nat) (a0:List Int×Int×Int×Unit):Option ((((tSch)×qd×Unit)×Unit)×tCur×Unit):=qpa D n (qnn D n) a0
def qfe (x0:Int) (x1:List Int×Int×Int×Unit) (x2:(tSch)×qd×Unit) (x3:(tSch)×qd×Unit):St:=stq 51 [(0,AV.addr 0 []),(2,AV.addr 2 []),(3,AV.addr 3 []),(5,avI x0)] [(0,Root.mk (Ty.pair (Ty.sl (Ty.int IntKind.u8)) (Ty.pair yI (Ty.pair yI Ty.unit))) Mk.no x1 true),(2,Root.mk (Ty.pair yS (Ty.pair (Ty.sl (Ty.sl yV)) Ty.unit)) (Mk.pr (Mk.pr (Mk.own 0 (Mk.pr Mk.no (Mk.pr Mk.no (Mk.pr Mk.no Mk.no)))) (Mk.pr (Mk.own 0 Mk.no) (Mk.pr (Mk.own 0 (Mk.pr Mk.no (Mk.pr (Mk.own 0 Mk.no) (Mk.pr Mk.no Mk.no)))) Mk.no))) (Mk.pr (Mk.own 0 (Mk.own 0 (Mk.pr Mk.no (Mk.pr Mk.no (Mk.pr Mk.no Mk.no))))) Mk.no)) x2 true),(3,Root.mk (Ty.pair yS (Ty.pair (Ty.sl (Ty.sl yV)) Ty.unit)) (Mk.pr Mk.no (Mk.pr (Mk.own 0 Mk.no) Mk.no)) x3 true)] 
def qip (v0_0:List Int×Int×Int×Unit) (v0_1:(tSch)×qd×Unit) (v0_2:(tSch)×qd×Unit):St:=stq 51 [(0,AV.addr 0 []),(2,AV.addr 2 []),(3,AV.addr 3 [])] [(0,Root.mk (Ty.pair (Ty.sl (Ty.int IntKind.u8)) (Ty.pair yI (Ty.pair yI Ty.unit))) Mk.no v0_0 true),(2,Root.mk (Ty.pair yS (Ty.pair (Ty.sl (Ty.sl yV)) Ty.unit)) (Mk.pr (Mk.pr (Mk.own 0 (Mk.pr Mk.no (Mk.pr Mk.no (Mk.pr Mk.no Mk.no)))) (Mk.pr (Mk.own 0 Mk.no) (Mk.pr (Mk.own 0 (Mk.pr Mk.no (Mk.pr (Mk.own 0 Mk.no) (Mk.pr Mk.no Mk.no)))) Mk.no))) (Mk.pr (Mk.own 0 (Mk.own 0 (Mk.pr Mk.no (Mk.pr Mk.no (Mk.pr Mk.no Mk.no))))) Mk.no)) v0_1 true),(3,Root.mk (Ty.pair yS (Ty.pair (Ty.sl (Ty.sl yV)) Ty.unit)) (Mk.pr Mk.no (Mk.pr (Mk.own 0 Mk.no) Mk.no)) v0_2 true)] 
theorem q42 (D:DX)(n:Nat) (m:Nat) (K:Ex→St→Option (Out ctx 66)) (x0:Int) (x1:List Int×Int×Int×Unit) (x2:(tSch)×
 qd×Unit) (x3:(tSch)×
 qd×Unit) :
 LQ qc D n 66 [.r,.r,.l,.r,.l] (m+1) (qfe x0 x1 x2 x3) K=qod D n (fun x0 x1 x2 x3=>LQ qc D n 66 [.r,.r,.l,.r,.l] m (qfe x0 x1 x2 x3) K) (fun v0_0 v0_1 v0_2=>K (Ex.exit 0) (qip v0_0 v0_1 v0_2)) x0 x1 x2 x3:=by kernel_rfl
theorem qul (D:DX)(n:Nat) (K:Ex→St→Option (Out ctx 66)):∀ (m:Nat) (x0:Int) (x1:List Int×Int×Int×Unit) (x2:(tSch)×
 qd×Unit) (x3:(tSch)×
 qd×Unit),LQ qc D n 66 [.r,.r,.l,.r,.l] m (qfe x0 x1 x2 x3) K=qfd D n (fun v0_0 v0_1 v0_2=>K (Ex.exit 0) (qip v0_0 v0_1 v0_2)) m x0 x1 x2 x3
 | 0,x0,x1,x2,x3=>q8 ..
 | m+1,x0,x1,x2,x3=>by
  have ih:(fun x0 x1 x2 x3=>LQ qc D n 66 [.r,.r,.l,.r,.l] m (qfe x0 x1 x2 x3) K)=qfd D n (fun v0_0 v0_1 v0_2=>K (Ex.exit 0) (qip v0_0 v0_1 v0_2)) m:=by funext x0 x1 x2 x3;exact qul D n K m x0 x1 x2 x3
  rw[q42]
  rw[ih];rfl
theorem q4j (D:DX)(n:Nat) (v0_0:List Int×Int×Int×Unit) (v0_1:(tSch)×
 qd×Unit) (v0_2:(tSch)×
 qd×Unit) :
 (CQ qc D n 66 [] [.r,.r,.l,.r,.l] (qi qc 66)) (Ex.exit 0) (qip v0_0 v0_1 v0_2)=qmc D n v0_0 v0_1 v0_2:=by kernel_rfl
theorem q4g (D:DX)(n:Nat) (x0:Int) (x1:List Int×Int×Int×Unit) (x2:(tSch)×
 qd×Unit) (x3:(tSch)×
 qd×Unit) :
 LQ qc D n 66 [.r,.r,.l,.r,.l] n (qfe x0 x1 x2 x3) (CQ qc D n 66 [] [.r,.r,.l,.r,.l] (qi qc 66))=qnn D n x0 x1 x2 x3:=by
 rw[qul]
 simp only[q4j]
 rfl
theorem q72 (D:DX)(n:Nat) (a0:List Int×Int×Int×Unit):rfC qc D n 66 (a0,())=qpb D n a0:=by
 have h:rfC qc D n 66 (a0,())=qpa D n (fun x0 x1 x2 x3=>LQ qc D n 66 [.r,.r,.l,.r,.l] n (qfe x0 x1 x2 x3) (CQ qc D n 66 [] [.r,.r,.l,.r,.l] (qi qc 66))) a0:=by kernel_rfl
 rw[h]
 simp only[q4g]
 rfl

def q0j (D:DX)(n:Nat) (a0:List Int×Int×Int×Unit) (a1:(tSch)×qd×Unit):Option ((qe×Unit)×tCur×Unit):=qg (qjr D a0 (Prod.fst a1)) fun b↦br (bif decide ((↑(List.length (Prod.fst (Prod.snd a1))):Int)>0) then decide ((↑(List.length (Prod.fst (Prod.fst b))):Int)>0) else false) (qg (qjo D (Prod.fst (Prod.snd b)) 2) fun b_1↦br (Prod.fst (Prod.fst b_1)) (qg (qb9 D (Prod.fst (Prod.snd b_1)) (↑(List.length (Prod.fst (Prod.snd a1))):Int)) fun b_2↦br (decide (0≤Prod.fst (Prod.fst b_2))&&decide (Prod.fst (Prod.fst b_2)<(↑(List.length (Prod.fst (Prod.snd a1))):Int))) (br (decide ((↑(List.length (List.getD (Prod.fst (Prod.snd a1)) (Int.toNat (Prod.fst (Prod.fst b_2))) [])):Int)>0)) (br (decide (0≤0)&&decide (0<(↑(List.length (List.getD (Prod.fst (Prod.snd a1)) (Int.toNat (Prod.fst (Prod.fst b_2))) [])):Int))) (br (decide (0≤0)&&decide (0<(↑(List.length (Prod.fst (Prod.fst b))):Int))) (some ((List.set (Prod.fst (Prod.fst b)) 0 (List.getD (List.getD (Prod.fst (Prod.snd a1)) (Int.toNat (Prod.fst (Prod.fst b_2))) []) (Int.toNat 0) (0,0,ByteArray.empty,())),()),Prod.fst (Prod.snd b_2),())) none) none) (some ((Prod.fst (Prod.fst b),()),Prod.fst (Prod.snd b_2),()))) none) (some ((Prod.fst (Prod.fst b),()),Prod.fst (Prod.snd b_1),()))) (some ((Prod.fst (Prod.fst b),()),Prod.fst (Prod.snd b),()))
def qso (D:DX)(n:Nat) (a0:List Int×Int×Int×Unit) (a1:(tSch)×qd×Unit):Option ((qe×Unit)×tCur×Unit):=q0j D n a0 a1
theorem qbbp (D:DX)(n:Nat) (a0:List Int×Int×Int×Unit) (a1:(tSch)×
 qd×Unit):rfC qc D n 67 (a0,(a1,()))=qso D n a0 a1:=by kernel_rfl

def qbcp (D:DX)(n:Nat) (a0:Int) (a1:Int) (a2:Int):Option ((Bool×Unit)×Unit):=some ((bif decide (a0≥a1) then decide (a0≤a2) else false,()),())
def q4f (D:DX)(n:Nat) (a0:Int) (a1:Int) (a2:Int):Option ((Bool×Unit)×Unit):=qbcp D n a0 a1 a2
theorem qbme (D:DX)(n:Nat) (a0:Int) (a1:Int) (a2:Int):rfC qc D n 68 (a0,(a1,(a2,())))=q4f D n a0 a1 a2:=by kernel_rfl


def qzr (D:DX)(n:Nat) (go:qe→Int→Int→tSch→Option ((Bool×Unit)×Unit)) (K0:Bool→Option ((Bool×Unit)×Unit)) (K1:Option ((Bool×Unit)×Unit)) (x0:qe) (x1:Int) (x2:Int) (x3:tSch):Option ((Bool×Unit)×Unit):=br (decide (x2<x1)) (br (decide (0≤x2)&&decide (x2<(↑(List.length x0):Int))) (br (decide (0≤x2)&&decide (x2<(↑(List.length (Prod.fst x3)):Int))) (qg (qxh D (List.getD x0 (Int.toNat x2) (0,0,ByteArray.empty,()))) fun b↦br (bif !Prod.fst (Prod.fst b) then true else bif Prod.fst (List.getD x0 (Int.toNat x2) (0,0,ByteArray.empty,())) != Prod.fst (Prod.snd (List.getD (Prod.fst x3) (Int.toNat x2) (ByteArray.empty,0,false,()))) then !bif decide (Prod.fst (List.getD x0 (Int.toNat x2) (0,0,ByteArray.empty,()))=0) then Prod.fst (Prod.snd (Prod.snd (List.getD (Prod.fst x3) (Int.toNat x2) (ByteArray.empty,0,false,())))) else false else false) (K0 false) (go x0 x1 (IntKind.wrap IntKind.i64 (x2+1)) x3)) none) none) K1
def qk4 (D:DX)(n:Nat) (K0:Bool→Option ((Bool×Unit)×Unit)) (K1:Option ((Bool×Unit)×Unit)):Nat→(qe)→(Int)→(Int)→(tSch)→Option ((Bool×Unit)×Unit) | 0=>(fun x0 x1 x2 x3=>none) | m+1=>(fun x0 x1 x2 x3=>qzr D n (qk4 D n K0 K1 m) K0 K1 x0 x1 x2 x3)
def q3i (D:DX)(n:Nat) (v0_0:Bool):Option ((Bool×Unit)×Unit):=some ((v0_0,()),())
def q3p (D:DX)(n:Nat):Option ((Bool×Unit)×Unit):=some ((true,()),())
def qw4 (D:DX)(n:Nat):(qe)→(Int)→(Int)→(tSch)→Option ((Bool×Unit)×Unit):=(fun x0 x1 x2 x3=>qk4 D n (fun v0_0=>q3i D n v0_0) (q3p D n) n x0 x1 x2 x3)
def q19 (D:DX)(n:Nat) (lp0:qe→Int→Int→tSch→Option ((Bool×Unit)×Unit)) (a0:tSch) (a1:qe):Option ((Bool×Unit)×Unit):=qg (qpm D a0) fun b↦br (bif !Prod.fst (Prod.fst b) then true else (↑(List.length a1):Int) != (↑(List.length (Prod.fst a0)):Int)) (some ((false,()),())) (lp0 a1 (↑(List.length a1):Int) 0 a0)
def q11 (D:DX)(n:Nat) (a0:tSch) (a1:qe):Option ((Bool×Unit)×Unit):=q19 D n (qw4 D n) a0 a1
def qlg (x0:qe) (x1:Int) (x2:Int) (x3:tSch):St:=stq 52 [(2,AV.addr 2 []),(19,AV.val (Ty.sl yV) x0),(20,avI x1),(21,avI x2)] [(2,Root.mk yS Mk.no x3 true)] 
def qp0 (v0_0:Bool):St:=stq 52 [(4,AV.val Ty.bool v0_0)] [] 
def qpn:St:=stq 52 [] [] 
theorem qbg6 (D:DX)(n:Nat) (m:Nat) (K:Ex→St→Option (Out ctx 77)) (x0:qe) (x1:Int) (x2:Int) (x3:tSch) :
 LQ qc D n 77 [.r,.r,.l,.r,.l] (m+1) (qlg x0 x1 x2 x3) K=qzr D n (fun x0 x1 x2 x3=>LQ qc D n 77 [.r,.r,.l,.r,.l] m (qlg x0 x1 x2 x3) K) (fun v0_0=>K (Ex.ret) (qp0 v0_0)) (K (Ex.exit 0) (qpn)) x0 x1 x2 x3:=by kernel_rfl
theorem q46 (D:DX)(n:Nat) (K:Ex→St→Option (Out ctx 77)):∀ (m:Nat) (x0:qe) (x1:Int) (x2:Int) (x3:tSch),LQ qc D n 77 [.r,.r,.l,.r,.l] m (qlg x0 x1 x2 x3) K=qk4 D n (fun v0_0=>K (Ex.ret) (qp0 v0_0)) (K (Ex.exit 0) (qpn)) m x0 x1 x2 x3
 | 0,x0,x1,x2,x3=>q8 ..
 | m+1,x0,x1,x2,x3=>by
  have ih:(fun x0 x1 x2 x3=>LQ qc D n 77 [.r,.r,.l,.r,.l] m (qlg x0 x1 x2 x3) K)=qk4 D n (fun v0_0=>K (Ex.ret) (qp0 v0_0)) (K (Ex.exit 0) (qpn)) m:=by funext x0 x1 x2 x3;exact q46 D n K m x0 x1 x2 x3
  rw[qbg6]
  rw[ih];rfl
theorem qbe9 (D:DX)(n:Nat) (v0_0:Bool) :
 (CQ qc D n 77 [] [.r,.r,.l,.r,.l] (qi qc 77)) (Ex.ret) (qp0 v0_0)=q3i D n v0_0:=by kernel_rfl
theorem qbfa (D:DX)(n:Nat) :
 (CQ qc D n 77 [] [.r,.r,.l,.r,.l] (qi qc 77)) (Ex.exit 0) (qpn)=q3p D n:=by kernel_rfl
theorem qbfp (D:DX)(n:Nat) (x0:qe) (x1:Int) (x2:Int) (x3:tSch) :
 LQ qc D n 77 [.r,.r,.l,.r,.l] n (qlg x0 x1 x2 x3) (CQ qc D n 77 [] [.r,.r,.l,.r,.l] (qi qc 77))=qw4 D n x0 x1 x2 x3:=by
 rw[q46]
 simp only[qbe9,qbfa]
 rfl
theorem qblw (D:DX)(n:Nat) (a0:tSch) (a1:qe):rfC qc D n 77 (a0,(a1,()))=q11 D n a0 a1:=by
 have h:rfC qc D n 77 (a0,(a1,()))=q19 D n (fun x0 x1 x2 x3=>LQ qc D n 77 [.r,.r,.l,.r,.l] n (qlg x0 x1 x2 x3) (CQ qc D n 77 [] [.r,.r,.l,.r,.l] (qi qc 77))) a0 a1:=by kernel_rfl
 rw[h]
 simp only[qbfp]
 rfl

def q2x (D:DX)(n:Nat) (a0:qe) (a1:qe):Option ((Bool×Unit)×Unit):=qg (qb8 D a0 a1 (Clo.mk 141 [])) fun b↦some ((decide (Prod.fst (Prod.fst b)<0),()),())
def qty (D:DX)(n:Nat) (a0:qe) (a1:qe):Option ((Bool×Unit)×Unit):=q2x D n a0 a1
theorem qbd0 (D:DX)(n:Nat) (a0:qe) (a1:qe):rfC qc D n 78 (a0,(a1,()))=qty D n a0 a1:=by kernel_rfl

def qfv (D:DX)(n:Nat) (a1:Clo) (a0:qd):Option ((Bool×Unit)×Unit):=qg (qcc D a0 a1) fun b↦some ((decide (Prod.fst (Prod.fst b)≥0),()),())
def qdi (D:DX)(n:Nat) (a0:qd) (a1:Clo):Option ((Bool×Unit)×Unit):=qfv D n a1 a0
theorem qmi (D:DX)(n:Nat) (a0:qd) (a1:Clo):rfC qc D n 79 (a0,(a1,()))=qdi D n a0 a1:=by kernel_rfl

def q5c (D:DX)(n:Nat) (a0:qe) (a1:(tSch)×qd×Unit) (a2:qe):Option ((Bool×Unit)×Unit):=qg (qqs D (Prod.fst a1) a2 a0) fun b↦some ((Prod.fst (Prod.fst b),()),())
def qwx (D:DX)(n:Nat) (a0:qe) (a1:(tSch)×qd×Unit) (a2:qe):Option ((Bool×Unit)×Unit):=q5c D n a0 a1 a2
theorem qbgx (D:DX)(n:Nat) (a0:qe) (a1:(tSch)×
 qd×Unit) (a2:qe):rfC qc D n 80 (a0,(a1,(a2,())))=qwx D n a0 a1 a2:=by kernel_rfl

def q80 (D:DX)(n:Nat) (a0:tSch) (a1:qe) (a2:qe):Option ((Bool×Unit)×Unit):=qg (qco D (Prod.fst (Prod.snd (Prod.snd a0))) (Clo.mk 143 [CapV.rptr (Ty.sl (Ty.pair (Ty.int IntKind.i64) (Ty.pair (Ty.int IntKind.i64) (Ty.pair Ty.str Ty.unit)))) a1,CapV.rptr (Ty.sl (Ty.pair (Ty.int IntKind.i64) (Ty.pair (Ty.int IntKind.i64) (Ty.pair Ty.str Ty.unit)))) a2])) fun b↦some ((Prod.fst (Prod.fst b),()),())
def q1x (D:DX)(n:Nat) (a0:tSch) (a1:qe) (a2:qe):Option ((Bool×Unit)×Unit):=q80 D n a0 a1 a2
theorem qblk (D:DX)(n:Nat) (a0:tSch) (a1:qe) (a2:qe):rfC qc D n 81 (a0,(a1,(a2,())))=q1x D n a0 a1 a2:=by kernel_rfl

def qtw (D:DX)(n:Nat) (go:qdo→Int→Int→tSch→Option ((Bool×Unit)×Unit)) (K0:Bool→tSch→Option ((Bool×Unit)×Unit)) (K1:tSch→Option ((Bool×Unit)×Unit)) (x0:qdo) (x1:Int) (x2:Int) (x3:tSch):Option ((Bool×Unit)×Unit):=br (decide (x2<x1)) (br (decide (0≤x2)&&decide (x2<(↑(List.length x0):Int))) (qg (qn6 D (Prod.fst (List.getD x0 (Int.toNat x2) (ByteArray.empty,0,false,())))) fun b↦br (!Prod.fst (Prod.fst b)) (K0 false x3) (qg (qgr D (Prod.fst (Prod.snd (List.getD x0 (Int.toNat x2) (ByteArray.empty,0,false,())))) 1 3) fun b↦br (!Prod.fst (Prod.fst b)) (K0 false x3) (qg (q2m D x3 (Prod.fst (List.getD x0 (Int.toNat x2) (ByteArray.empty,0,false,())))) fun b↦br (Prod.fst (Prod.fst b) != x2) (K0 false x3) (go x0 x1 (IntKind.wrap IntKind.i64 (x2+1)) x3)))) none) (K1 x3)
def qib (D:DX)(n:Nat) (K0:Bool→tSch→Option ((Bool×Unit)×Unit)) (K1:tSch→Option ((Bool×Unit)×Unit)):Nat→(qdo)→(Int)→(Int)→(tSch)→Option ((Bool×Unit)×Unit) | 0=>(fun x0 x1 x2 x3=>none) | m+1=>(fun x0 x1 x2 x3=>qtw D n (qib D n K0 K1 m) K0 K1 x0 x1 x2 x3)
def qym (D:DX)(n:Nat) (v0_0:Bool) (v0_1:tSch):Option ((Bool×Unit)×Unit):=some ((v0_0,()),())
def qt0 (D:DX)(n:Nat) (go:tIxs→Int→Int→tSch→Option ((Bool×Unit)×Unit)) (K0:Bool→tSch→Option ((Bool×Unit)×Unit)) (K1:tSch→Option ((Bool×Unit)×Unit)) (x1_0:tIxs) (x1_1:Int) (x1_2:Int) (x1_3:tSch):Option ((Bool×Unit)×Unit):=br (decide (x1_2<x1_1)) (br (decide (0≤x1_2)&&decide (x1_2<(↑(List.length x1_0):Int))) (qg (qn6 D (Prod.fst (List.getD x1_0 (Int.toNat x1_2) (ByteArray.empty,[],false,())))) fun b↦br (!Prod.fst (Prod.fst b)) (K0 false x1_3) (qg (qpq D x1_3 (Prod.fst (Prod.snd (List.getD x1_0 (Int.toNat x1_2) (ByteArray.empty,[],false,())))) 3) fun b↦br (!Prod.fst (Prod.fst b)) (K0 false x1_3) (br (decide (0≤0)&&decide (0≤x1_2)&&decide (x1_2≤(↑(List.length (Prod.fst (Prod.snd (Prod.snd x1_3)))):Int))) (qg (qco D (List.drop (Int.toNat 0) (List.take (Int.toNat x1_2) (Prod.fst (Prod.snd (Prod.snd x1_3))))) (Clo.mk 149 [CapV.rptr (Ty.pair Ty.str (Ty.pair (Ty.sl (Ty.int IntKind.i64)) (Ty.pair Ty.bool Ty.unit))) (List.getD x1_0 (Int.toNat x1_2) (ByteArray.empty,[],false,()))])) fun b↦br (Prod.fst (Prod.fst b)) (K0 false x1_3) (go x1_0 x1_1 (IntKind.wrap IntKind.i64 (x1_2+1)) x1_3)) none))) none) (K1 x1_3)
def qh9 (D:DX)(n:Nat) (K0:Bool→tSch→Option ((Bool×Unit)×Unit)) (K1:tSch→Option ((Bool×Unit)×Unit)):Nat→(tIxs)→(Int)→(Int)→(tSch)→Option ((Bool×Unit)×Unit) | 0=>(fun x1_0 x1_1 x1_2 x1_3=>none) | m+1=>(fun x1_0 x1_1 x1_2 x1_3=>qt0 D n (qh9 D n K0 K1 m) K0 K1 x1_0 x1_1 x1_2 x1_3)
def qyv (D:DX)(n:Nat) (v0_0:Bool) (v0_1:tSch):Option ((Bool×Unit)×Unit):=some ((v0_0,()),())
def qqu (D:DX)(n:Nat) (v1_0:tSch):Option ((Bool×Unit)×Unit):=qg (qgr D (↑(List.length (Prod.fst v1_0)):Int) 1 5) fun b↦br (Prod.fst (Prod.fst b)) (qg (qpq D v1_0 (Prod.fst (Prod.snd v1_0)) 4) fun b↦br (Prod.fst (Prod.fst b)) (qg (qhi D (Prod.fst (Prod.snd v1_0)) (Clo.mk 151 [CapV.rptr (Ty.pair (Ty.sl (Ty.pair Ty.str (Ty.pair (Ty.int IntKind.i64) (Ty.pair Ty.bool Ty.unit)))) (Ty.pair (Ty.sl (Ty.int IntKind.i64)) (Ty.pair (Ty.sl (Ty.pair Ty.str (Ty.pair (Ty.sl (Ty.int IntKind.i64)) (Ty.pair Ty.bool Ty.unit)))) Ty.unit))) v1_0])) fun b↦some ((bif !Prod.fst (Prod.fst b) then decide ((↑(List.length (Prod.fst (Prod.snd (Prod.snd v1_0)))):Int)≤3) else false,()),())) (some ((false,()),()))) (some ((false,()),()))
def qr0 (D:DX)(n:Nat):(tIxs)→(Int)→(Int)→(tSch)→Option ((Bool×Unit)×Unit):=(fun x1_0 x1_1 x1_2 x1_3=>qh9 D n (fun v0_0 v0_1=>qyv D n v0_0 v0_1) (fun v1_0=>qqu D n v1_0) n x1_0 x1_1 x1_2 x1_3)
def qq1 (D:DX)(n:Nat) (lp1:tIxs→Int→Int→tSch→Option ((Bool×Unit)×Unit)) (v1_0:tSch):Option ((Bool×Unit)×Unit):=lp1 (Prod.fst (Prod.snd (Prod.snd v1_0))) (↑(List.length (Prod.fst (Prod.snd (Prod.snd v1_0)))):Int) 0 v1_0
def qr7 (D:DX)(n:Nat):(qdo)→(Int)→(Int)→(tSch)→Option ((Bool×Unit)×Unit):=(fun x0 x1 x2 x3=>qib D n (fun v0_0 v0_1=>qym D n v0_0 v0_1) (fun v1_0=>qq1 D n (qr0 D n) v1_0) n x0 x1 x2 x3)
def qvc (D:DX)(n:Nat) (lp0:qdo→Int→Int→tSch→Option ((Bool×Unit)×Unit)) (a0:tSch):Option ((Bool×Unit)×Unit):=lp0 (Prod.fst a0) (↑(List.length (Prod.fst a0)):Int) 0 a0
def qvy (D:DX)(n:Nat) (a0:tSch):Option ((Bool×Unit)×Unit):=qvc D n (qr7 D n) a0
def qhv (x0:qdo) (x1:Int) (x2:Int) (x3:tSch):St:=stq 85 [(1,AV.addr 1 []),(8,AV.val (Ty.sl yC) x0),(9,avI x1),(10,avI x2)] [(1,Root.mk yS Mk.no x3 true)] 
def qlw (v0_0:Bool) (v0_1:tSch):St:=stq 85 [(1,AV.addr 1 []),(2,AV.val Ty.bool v0_0)] [(1,Root.mk yS Mk.no v0_1 true)] 
def qlp (v1_0:tSch):St:=stq 85 [(1,AV.addr 1 [])] [(1,Root.mk yS Mk.no v1_0 true)] 
def qh5 (x1_0:tIxs) (x1_1:Int) (x1_2:Int) (x1_3:tSch):St:=stq 85 [(1,AV.addr 1 []),(35,AV.val (Ty.sl yX) x1_0),(36,avI x1_1),(37,avI x1_2)] [(1,Root.mk yS Mk.no x1_3 true)] 
def qlu (v0_0:Bool) (v0_1:tSch):St:=stq 85 [(1,AV.addr 1 []),(2,AV.val Ty.bool v0_0)] [(1,Root.mk yS Mk.no v0_1 true)] 
def qls (v1_0:tSch):St:=stq 85 [(1,AV.addr 1 [])] [(1,Root.mk yS Mk.no v1_0 true)] 
theorem qbbv (D:DX)(n:Nat) (m:Nat) (K:Ex→St→Option (Out ctx 82)) (x0:qdo) (x1:Int) (x2:Int) (x3:tSch) :
 LQ qc D n 82 [.r,.l,.r,.l] (m+1) (qhv x0 x1 x2 x3) K=qtw D n (fun x0 x1 x2 x3=>LQ qc D n 82 [.r,.l,.r,.l] m (qhv x0 x1 x2 x3) K) (fun v0_0 v0_1=>K (Ex.ret) (qlw v0_0 v0_1)) (fun v1_0=>K (Ex.exit 0) (qlp v1_0)) x0 x1 x2 x3:=by kernel_rfl
theorem q0o (D:DX)(n:Nat) (K:Ex→St→Option (Out ctx 82)):∀ (m:Nat) (x0:qdo) (x1:Int) (x2:Int) (x3:tSch),LQ qc D n 82 [.r,.l,.r,.l] m (qhv x0 x1 x2 x3) K=qib D n (fun v0_0 v0_1=>K (Ex.ret) (qlw v0_0 v0_1)) (fun v1_0=>K (Ex.exit 0) (qlp v1_0)) m x0 x1 x2 x3
 | 0,x0,x1,x2,x3=>q8 ..
 | m+1,x0,x1,x2,x3=>by
  have ih:(fun x0 x1 x2 x3=>LQ qc D n 82 [.r,.l,.r,.l] m (qhv x0 x1 x2 x3) K)=qib D n (fun v0_0 v0_1=>K (Ex.ret) (qlw v0_0 v0_1)) (fun v1_0=>K (Ex.exit 0) (qlp v1_0)) m:=by funext x0 x1 x2 x3;exact q0o D n K m x0 x1 x2 x3
  rw[qbbv]
  rw[ih];rfl
theorem qba8 (D:DX)(n:Nat) (m:Nat) (K:Ex→St→Option (Out ctx 82)) (x1_0:tIxs) (x1_1:Int) (x1_2:Int) (x1_3:tSch) :
 LQ qc D n 82 [.r,.r,.l,.r,.l] (m+1) (qh5 x1_0 x1_1 x1_2 x1_3) K=qt0 D n (fun x1_0 x1_1 x1_2 x1_3=>LQ qc D n 82 [.r,.r,.l,.r,.l] m (qh5 x1_0 x1_1 x1_2 x1_3) K) (fun v0_0 v0_1=>K (Ex.ret) (qlu v0_0 v0_1)) (fun v1_0=>K (Ex.exit 2) (qls v1_0)) x1_0 x1_1 x1_2 x1_3:=by kernel_rfl
theorem q0p (D:DX)(n:Nat) (K:Ex→St→Option (Out ctx 82)):∀ (m:Nat) (x1_0:tIxs) (x1_1:Int) (x1_2:Int) (x1_3:tSch),LQ qc D n 82 [.r,.r,.l,.r,.l] m (qh5 x1_0 x1_1 x1_2 x1_3) K=qh9 D n (fun v0_0 v0_1=>K (Ex.ret) (qlu v0_0 v0_1)) (fun v1_0=>K (Ex.exit 2) (qls v1_0)) m x1_0 x1_1 x1_2 x1_3
 | 0,x1_0,x1_1,x1_2,x1_3=>q8 ..
 | m+1,x1_0,x1_1,x1_2,x1_3=>by
  have ih:(fun x1_0 x1_1 x1_2 x1_3=>LQ qc D n 82 [.r,.r,.l,.r,.l] m (qh5 x1_0 x1_1 x1_2 x1_3) K)=qh9 D n (fun v0_0 v0_1=>K (Ex.ret) (qlu v0_0 v0_1)) (fun v1_0=>K (Ex.exit 2) (qls v1_0)) m:=by funext x1_0 x1_1 x1_2 x1_3;exact q0p D n K m x1_0 x1_1 x1_2 x1_3
  rw[qba8]
  rw[ih];rfl
theorem q9f (D:DX)(n:Nat) (v0_0:Bool) (v0_1:tSch) :
 (CQ qc D n 82 [] [.r,.r,.l,.r,.l] (qi qc 82)) (Ex.ret) (qlu v0_0 v0_1)=qyv D n v0_0 v0_1:=by kernel_rfl
theorem q8k (D:DX)(n:Nat) (v1_0:tSch) :
 (CQ qc D n 82 [] [.r,.r,.l,.r,.l] (qi qc 82)) (Ex.exit 2) (qls v1_0)=qqu D n v1_0:=by kernel_rfl
theorem q9s (D:DX)(n:Nat) (x1_0:tIxs) (x1_1:Int) (x1_2:Int) (x1_3:tSch) :
 LQ qc D n 82 [.r,.r,.l,.r,.l] n (qh5 x1_0 x1_1 x1_2 x1_3) (CQ qc D n 82 [] [.r,.r,.l,.r,.l] (qi qc 82))=qr0 D n x1_0 x1_1 x1_2 x1_3:=by
 rw[q0p]
 simp only[q9f,q8k]
 rfl
theorem q8v (D:DX)(n:Nat) (v0_0:Bool) (v0_1:tSch) :
 (CQ qc D n 82 [] [.r,.l,.r,.l] (qi qc 82)) (Ex.ret) (qlw v0_0 v0_1)=qym D n v0_0 v0_1:=by kernel_rfl
theorem q8s (D:DX)(n:Nat) (v1_0:tSch) :
 (CQ qc D n 82 [] [.r,.l,.r,.l] (qi qc 82)) (Ex.exit 0) (qlp v1_0)=qq1 D n (fun x1_0 x1_1 x1_2 x1_3=>LQ qc D n 82 [.r,.r,.l,.r,.l] n (qh5 x1_0 x1_1 x1_2 x1_3) (CQ qc D n 82 [] [.r,.r,.l,.r,.l] (qi qc 82))) v1_0:=by kernel_rfl
theorem q8r (D:DX)(n:Nat) (x0:qdo) (x1:Int) (x2:Int) (x3:tSch) :
 LQ qc D n 82 [.r,.l,.r,.l] n (qhv x0 x1 x2 x3) (CQ qc D n 82 [] [.r,.l,.r,.l] (qi qc 82))=qr7 D n x0 x1 x2 x3:=by
 rw[q0o]
 simp only[q8v,q8s,q9s]
 rfl
theorem qbe2 (D:DX)(n:Nat) (a0:tSch):rfC qc D n 82 (a0,())=qvy D n a0:=by
 have h:rfC qc D n 82 (a0,())=qvc D n (fun x0 x1 x2 x3=>LQ qc D n 82 [.r,.l,.r,.l] n (qhv x0 x1 x2 x3) (CQ qc D n 82 [] [.r,.l,.r,.l] (qi qc 82))) a0:=by kernel_rfl
 rw[h]
 simp only[q8r]
 rfl

def qwi (D:DX)(n:Nat) (a0:(tSch)×qd×Unit):Option ((((tSch)×qd×Unit)×Unit)×Unit):=qg (qm4 D (Prod.fst a0)) fun b↦qg (qst D (Prod.fst (Prod.snd a0))) fun b_1↦some ((((Prod.fst (Prod.fst (Prod.fst b)),Prod.fst (Prod.snd (Prod.fst (Prod.fst b))),Prod.fst (Prod.snd (Prod.snd (Prod.fst (Prod.fst b)))),()),Prod.fst (Prod.fst b_1),()),()),())
def qo5 (D:DX)(n:Nat) (a0:(tSch)×qd×Unit):Option ((((tSch)×qd×Unit)×Unit)×Unit):=qwi D n a0
theorem q7k (D:DX)(n:Nat) (a0:(tSch)×
 qd×Unit):rfC qc D n 83 (a0,())=qo5 D n a0:=by kernel_rfl

def q88 (D:DX)(n:Nat) (a0:(tSch)×qd×Unit) (a1:qe):Option ((Int×Unit)×Unit):=qg (qcc D (Prod.fst (Prod.snd a0)) (Clo.mk 153 [CapV.rptr (Ty.pair (Ty.pair (Ty.sl (Ty.pair Ty.str (Ty.pair (Ty.int IntKind.i64) (Ty.pair Ty.bool Ty.unit)))) (Ty.pair (Ty.sl (Ty.int IntKind.i64)) (Ty.pair (Ty.sl (Ty.pair Ty.str (Ty.pair (Ty.sl (Ty.int IntKind.i64)) (Ty.pair Ty.bool Ty.unit)))) Ty.unit))) (Ty.pair (Ty.sl (Ty.sl (Ty.pair (Ty.int IntKind.i64) (Ty.pair (Ty.int IntKind.i64) (Ty.pair Ty.str Ty.unit))))) Ty.unit)) a0,CapV.rptr (Ty.sl (Ty.pair (Ty.int IntKind.i64) (Ty.pair (Ty.int IntKind.i64) (Ty.pair Ty.str Ty.unit)))) a1])) fun b↦some ((Prod.fst (Prod.fst b),()),())
def q22 (D:DX)(n:Nat) (a0:(tSch)×qd×Unit) (a1:qe):Option ((Int×Unit)×Unit):=q88 D n a0 a1
theorem qblg (D:DX)(n:Nat) (a0:(tSch)×
 qd×Unit) (a1:qe):rfC qc D n 84 (a0,(a1,()))=q22 D n a0 a1:=by kernel_rfl

def q3y (D:DX)(n:Nat) (a0:qe) (a1:(tSch)×qd×Unit) (a2:qe):Option ((Bool×Unit)×Unit):=qg (qqs D (Prod.fst a1) a2 a0) fun b↦some ((Prod.fst (Prod.fst b),()),())
def qv1 (D:DX)(n:Nat) (a0:qe) (a1:(tSch)×qd×Unit) (a2:qe):Option ((Bool×Unit)×Unit):=q3y D n a0 a1 a2
theorem qbe4 (D:DX)(n:Nat) (a0:qe) (a1:(tSch)×
 qd×Unit) (a2:qe):rfC qc D n 85 (a0,(a1,(a2,())))=qv1 D n a0 a1 a2:=by kernel_rfl

def qdp (D:DX)(n:Nat) (a1:Clo) (go:qd→Int→Int→Option ((Int×Unit)×Unit)) (K0:Int→Option ((Int×Unit)×Unit)) (K1:Option ((Int×Unit)×Unit)) (x0:qd) (x1:Int) (x2:Int):Option ((Int×Unit)×Unit):=br (decide (x2<x1)) (br (decide (0≤x2)&&decide (x2<(↑(List.length x0):Int))) (qg (qca ctx D a1 [CapV.val (Ty.sl (Ty.pair (Ty.int IntKind.i64) (Ty.pair (Ty.int IntKind.i64) (Ty.pair Ty.str Ty.unit)))) (List.getD x0 (Int.toNat x2) [])] Ty.bool) fun b↦br b (K0 x2) (go x0 x1 (IntKind.wrap IntKind.i64 (x2+1)))) none) K1
def qbo (D:DX)(n:Nat) (a1:Clo) (K0:Int→Option ((Int×Unit)×Unit)) (K1:Option ((Int×Unit)×Unit)):Nat→(qd)→(Int)→(Int)→Option ((Int×Unit)×Unit) | 0=>(fun x0 x1 x2=>none) | m+1=>(fun x0 x1 x2=>qdp D n a1 (qbo D n a1 K0 K1 m) K0 K1 x0 x1 x2)
def qfy (D:DX)(n:Nat) (a1:Clo) (v0_0:Int):Option ((Int×Unit)×Unit):=some ((v0_0,()),())
def qfw (D:DX)(n:Nat) (a1:Clo):Option ((Int×Unit)×Unit):=some ((-1,()),())
def qdn (D:DX)(n:Nat) (a1:Clo):(qd)→(Int)→(Int)→Option ((Int×Unit)×Unit):=(fun x0 x1 x2=>qbo D n a1 (fun v0_0=>qfy D n a1 v0_0) (qfw D n a1) n x0 x1 x2)
def qdz (D:DX)(n:Nat) (a1:Clo) (lp0:qd→Int→Int→Option ((Int×Unit)×Unit)) (a0:qd):Option ((Int×Unit)×Unit):=lp0 a0 (↑(List.length a0):Int) 0
def qd2 (D:DX)(n:Nat) (a0:qd) (a1:Clo):Option ((Int×Unit)×Unit):=qdz D n a1 (qdn D n a1) a0
def qbp (a1:Clo) (x0:qd) (x1:Int) (x2:Int):St:=stq 19 [(0,AV.val (Ty.sl (Ty.sl yV)) x0),(1,AV.cloV a1),(7,avI x1),(8,avI x2)] [] 
def qcl (a1:Clo) (v0_0:Int):St:=stq 19 [(4,avI v0_0)] [] 
def qcp (a1:Clo):St:=stq 19 [] [] 
theorem qm9 (D:DX)(n:Nat) (a1:Clo) (m:Nat) (K:Ex→St→Option (Out ctx 86)) (x0:qd) (x1:Int) (x2:Int) :
 LQ qc D n 86 [.r,.l,.r,.l] (m+1) (qbp a1 x0 x1 x2) K=qdp D n a1 (fun x0 x1 x2=>LQ qc D n 86 [.r,.l,.r,.l] m (qbp a1 x0 x1 x2) K) (fun v0_0=>K (Ex.ret) (qcl a1 v0_0)) (K (Ex.exit 0) (qcp a1)) x0 x1 x2:=by kernel_rfl
theorem qgd (D:DX)(n:Nat) (a1:Clo) (K:Ex→St→Option (Out ctx 86)):∀ (m:Nat) (x0:qd) (x1:Int) (x2:Int),LQ qc D n 86 [.r,.l,.r,.l] m (qbp a1 x0 x1 x2) K=qbo D n a1 (fun v0_0=>K (Ex.ret) (qcl a1 v0_0)) (K (Ex.exit 0) (qcp a1)) m x0 x1 x2
 | 0,x0,x1,x2=>q8 ..
 | m+1,x0,x1,x2=>by
  have ih:(fun x0 x1 x2=>LQ qc D n 86 [.r,.l,.r,.l] m (qbp a1 x0 x1 x2) K)=qbo D n a1 (fun v0_0=>K (Ex.ret) (qcl a1 v0_0)) (K (Ex.exit 0) (qcp a1)) m:=by funext x0 x1 x2;exact qgd D n a1 K m x0 x1 x2
  rw[qm9]
  rw[ih];rfl
theorem qmn (D:DX)(n:Nat) (a1:Clo) (v0_0:Int) :
 (CQ qc D n 86 [] [.r,.l,.r,.l] (qi qc 86)) (Ex.ret) (qcl a1 v0_0)=qfy D n a1 v0_0:=by kernel_rfl
theorem qmm (D:DX)(n:Nat) (a1:Clo) :
 (CQ qc D n 86 [] [.r,.l,.r,.l] (qi qc 86)) (Ex.exit 0) (qcp a1)=qfw D n a1:=by kernel_rfl
theorem qmo (D:DX)(n:Nat) (a1:Clo) (x0:qd) (x1:Int) (x2:Int) :
 LQ qc D n 86 [.r,.l,.r,.l] n (qbp a1 x0 x1 x2) (CQ qc D n 86 [] [.r,.l,.r,.l] (qi qc 86))=qdn D n a1 x0 x1 x2:=by
 rw[qgd]
 simp only[qmn,qmm]
 rfl
theorem qny (D:DX)(n:Nat) (a0:qd) (a1:Clo):rfC qc D n 86 (a0,(a1,()))=qd2 D n a0 a1:=by
 have h:rfC qc D n 86 (a0,(a1,()))=qdz D n a1 (fun x0 x1 x2=>LQ qc D n 86 [.r,.l,.r,.l] n (qbp a1 x0 x1 x2) (CQ qc D n 86 [] [.r,.l,.r,.l] (qi qc 86))) a0:=by kernel_rfl
 rw[h]
 simp only[qmo]
 rfl

def q3o (D:DX)(n:Nat) (a0:qe) (a1:qe) (a2:(tSch)×qd×Unit):Option ((Bool×Unit)×Unit):=qg (qfh D (Prod.fst a2) a0) fun b↦qg (qns D a1 (Prod.fst (Prod.fst b))) fun b↦some ((Prod.fst (Prod.fst b),()),())
def qu4 (D:DX)(n:Nat) (a0:qe) (a1:qe) (a2:(tSch)×qd×Unit):Option ((Bool×Unit)×Unit):=q3o D n a0 a1 a2
theorem qbfb (D:DX)(n:Nat) (a0:qe) (a1:qe) (a2:(tSch)×
 qd×Unit):rfC qc D n 87 (a0,(a1,(a2,())))=qu4 D n a0 a1 a2:=by kernel_rfl

def qiv (D:DX)(n:Nat) (a0:qe):Option ((qe×Unit)×Unit):=br (decide (Int.toNat (↑(List.length a0):Int)=0)) (both (some (([],()),())) (br (decide (0+List.length a0≤qbj)) (some (([]++a0,()),())) none)) (br (decide (0+List.length a0≤qbj)) (some (([]++a0,()),())) none)
def qe6 (D:DX)(n:Nat) (a0:qe):Option ((qe×Unit)×Unit):=qiv D n a0
theorem qqx (D:DX)(n:Nat) (a0:qe):rfC qc D n 89 (a0,())=qe6 D n a0:=by kernel_rfl

def qvz (D:DX)(n:Nat) (go:qe→List Int→Int→Int→qe→Option ((qe×Unit)×Unit)) (K0:qe→Option ((qe×Unit)×Unit)) (x0:qe) (x1:List Int) (x2:Int) (x3:Int) (x4:qe):Option ((qe×Unit)×Unit):=br (decide (x3<x2)) (br (decide (0≤x3)&&decide (x3<(↑(List.length x1):Int))) (qg (qgr D (List.getD x1 (Int.toNat x3) 0) 0 (IntKind.wrap IntKind.i64 ((↑(List.length x0):Int) - 1))) fun b↦br (Prod.fst (Prod.fst b)) (br (decide (0≤List.getD x1 (Int.toNat x3) 0)&&decide (List.getD x1 (Int.toNat x3) 0<(↑(List.length x0):Int))) (br (decide (List.length x4+1≤qbj)) (go x0 x1 x2 (IntKind.wrap IntKind.i64 (x3+1)) (x4++[List.getD x0 (Int.toNat (List.getD x1 (Int.toNat x3) 0)) (0,0,ByteArray.empty,())])) none) none) (go x0 x1 x2 (IntKind.wrap IntKind.i64 (x3+1)) x4)) none) (K0 x4)
def qja (D:DX)(n:Nat) (K0:qe→Option ((qe×Unit)×Unit)):Nat→(qe)→(List Int)→(Int)→(Int)→(qe)→Option ((qe×Unit)×Unit) | 0=>(fun x0 x1 x2 x3 x4=>none) | m+1=>(fun x0 x1 x2 x3 x4=>qvz D n (qja D n K0 m) K0 x0 x1 x2 x3 x4)
def q0z (D:DX)(n:Nat) (v0_0:qe):Option ((qe×Unit)×Unit):=some ((v0_0,()),())
def qtr (D:DX)(n:Nat):(qe)→(List Int)→(Int)→(Int)→(qe)→Option ((qe×Unit)×Unit):=(fun x0 x1 x2 x3 x4=>qja D n (fun v0_0=>q0z D n v0_0) n x0 x1 x2 x3 x4)
def qyd (D:DX)(n:Nat) (lp0:qe→List Int→Int→Int→qe→Option ((qe×Unit)×Unit)) (a0:qe) (a1:List Int):Option ((qe×Unit)×Unit):=lp0 a0 a1 (↑(List.length a1):Int) 0 []
def qxk (D:DX)(n:Nat) (a0:qe) (a1:List Int):Option ((qe×Unit)×Unit):=qyd D n (qtr D n) a0 a1
def qji (x0:qe) (x1:List Int) (x2:Int) (x3:Int) (x4:qe):St:=stq 29 [(0,AV.val (Ty.sl yV) x0),(5,AV.brw 5 [] 0),(9,AV.val (Ty.sl yI) x1),(10,avI x2),(11,avI x3)] [(5,Root.mk (Ty.sl yV) (Mk.own 0 (Mk.pr Mk.no (Mk.pr Mk.no (Mk.pr Mk.no Mk.no)))) x4 false)] 
def qms (v0_0:qe):St:=stq 29 [(5,AV.brw 5 [] 0)] [(5,Root.mk (Ty.sl yV) (Mk.own 0 (Mk.pr Mk.no (Mk.pr Mk.no (Mk.pr Mk.no Mk.no)))) v0_0 false)] 
theorem qbcy (D:DX)(n:Nat) (m:Nat) (K:Ex→St→Option (Out ctx 94)) (x0:qe) (x1:List Int) (x2:Int) (x3:Int) (x4:qe) :
 LQ qc D n 94 [.r,.r,.l,.r,.l] (m+1) (qji x0 x1 x2 x3 x4) K=qvz D n (fun x0 x1 x2 x3 x4=>LQ qc D n 94 [.r,.r,.l,.r,.l] m (qji x0 x1 x2 x3 x4) K) (fun v0_0=>K (Ex.exit 0) (qms v0_0)) x0 x1 x2 x3 x4:=by kernel_rfl
theorem q1z (D:DX)(n:Nat) (K:Ex→St→Option (Out ctx 94)):∀ (m:Nat) (x0:qe) (x1:List Int) (x2:Int) (x3:Int) (x4:qe),LQ qc D n 94 [.r,.r,.l,.r,.l] m (qji x0 x1 x2 x3 x4) K=qja D n (fun v0_0=>K (Ex.exit 0) (qms v0_0)) m x0 x1 x2 x3 x4
 | 0,x0,x1,x2,x3,x4=>q8 ..
 | m+1,x0,x1,x2,x3,x4=>by
  have ih:(fun x0 x1 x2 x3 x4=>LQ qc D n 94 [.r,.r,.l,.r,.l] m (qji x0 x1 x2 x3 x4) K)=qja D n (fun v0_0=>K (Ex.exit 0) (qms v0_0)) m:=by funext x0 x1 x2 x3 x4;exact q1z D n K m x0 x1 x2 x3 x4
  rw[qbcy]
  rw[ih];rfl
theorem qbbz (D:DX)(n:Nat) (v0_0:qe) :
 (CQ qc D n 94 [] [.r,.r,.l,.r,.l] (qi qc 94)) (Ex.exit 0) (qms v0_0)=q0z D n v0_0:=by kernel_rfl
theorem qbbq (D:DX)(n:Nat) (x0:qe) (x1:List Int) (x2:Int) (x3:Int) (x4:qe) :
 LQ qc D n 94 [.r,.r,.l,.r,.l] n (qji x0 x1 x2 x3 x4) (CQ qc D n 94 [] [.r,.r,.l,.r,.l] (qi qc 94))=qtr D n x0 x1 x2 x3 x4:=by
 rw[q1z]
 simp only[qbbz]
 rfl
theorem qbhg (D:DX)(n:Nat) (a0:qe) (a1:List Int):rfC qc D n 94 (a0,(a1,()))=qxk D n a0 a1:=by
 have h:rfC qc D n 94 (a0,(a1,()))=qyd D n (fun x0 x1 x2 x3 x4=>LQ qc D n 94 [.r,.r,.l,.r,.l] n (qji x0 x1 x2 x3 x4) (CQ qc D n 94 [] [.r,.r,.l,.r,.l] (qi qc 94))) a0 a1:=by kernel_rfl
 rw[h]
 simp only[qbbq]
 rfl

def q5l (D:DX)(n:Nat) (a0:List Int×Int×Int×Unit):Option ((((tSch)×qd×Unit)×Unit)×tCur×Unit):=qg (qpd D a0) fun b↦qg (qb9 D (Prod.fst (Prod.snd b)) 10) fun b_1↦br (decide (Prod.fst (Prod.fst b_1)=0)) (qg (qrl D (Prod.fst (Prod.snd b_1))) fun b_2↦some (((Prod.fst (Prod.fst b_2),Prod.fst (Prod.snd (Prod.fst (Prod.fst b))),()),()),Prod.fst (Prod.snd b_2),())) (br (decide (Prod.fst (Prod.fst b_1)=1)) (qg (qjr D (Prod.fst (Prod.snd b_1)) (Prod.fst (Prod.fst (Prod.fst b)))) fun b_2↦br (decide (List.length (Prod.fst (Prod.snd (Prod.fst (Prod.fst b))))+1≤qbj)) (some (((Prod.fst (Prod.fst (Prod.fst b)),Prod.fst (Prod.snd (Prod.fst (Prod.fst b)))++[Prod.fst (Prod.fst b_2)],()),()),Prod.fst (Prod.snd b_2),())) none) (some (((Prod.fst (Prod.fst (Prod.fst b)),Prod.fst (Prod.snd (Prod.fst (Prod.fst b))),()),()),Prod.fst (Prod.snd b_1),())))
def qw6 (D:DX)(n:Nat) (a0:List Int×Int×Int×Unit):Option ((((tSch)×qd×Unit)×Unit)×tCur×Unit):=q5l D n a0
theorem qbhh (D:DX)(n:Nat) (a0:List Int×Int×Int×Unit):rfC qc D n 98 (a0,())=qw6 D n a0:=by kernel_rfl

def q45 (D:DX)(n:Nat) (a0:(tSch)×qd×Unit):Option ((((tSch)×qd×Unit)×Unit)×Unit):=qg (qrj D (Prod.fst a0)) fun b↦qg (qia D (Prod.fst (Prod.snd a0))) fun b_1↦some ((((Prod.fst (Prod.fst (Prod.fst b)),Prod.fst (Prod.snd (Prod.fst (Prod.fst b))),Prod.fst (Prod.snd (Prod.snd (Prod.fst (Prod.fst b)))),()),Prod.fst (Prod.fst b_1),()),()),())
def qw9 (D:DX)(n:Nat) (a0:(tSch)×qd×Unit):Option ((((tSch)×qd×Unit)×Unit)×Unit):=q45 D n a0
theorem qbhm (D:DX)(n:Nat) (a0:(tSch)×
 qd×Unit):rfC qc D n 99 (a0,())=qw9 D n a0:=by kernel_rfl

def qzu (D:DX)(n:Nat) (go:qe→Int→tSch→Option ((Bool×Unit)×Unit)) (K0:Bool→Option ((Bool×Unit)×Unit)) (K1:Option ((Bool×Unit)×Unit)) (x0:qe) (x1:Int) (x2:tSch):Option ((Bool×Unit)×Unit):=br (decide (x1<(↑(List.length x0):Int))) (br (decide (0≤x1)&&decide (x1<(↑(List.length x0):Int))) (qg (qwt D (List.getD x0 (Int.toNat x1) (0,0,ByteArray.empty,()))) fun b↦br (!Prod.fst (Prod.fst b)) (K0 false) (br (decide (0≤x1)&&decide (x1<(↑(List.length x0):Int))) (br (decide (0≤x1)&&decide (x1<(↑(List.length (Prod.fst x2)):Int))) (br (Prod.fst (List.getD x0 (Int.toNat x1) (0,0,ByteArray.empty,())) != Prod.fst (Prod.snd (List.getD (Prod.fst x2) (Int.toNat x1) (ByteArray.empty,0,false,())))) (br (decide (0≤x1)&&decide (x1<(↑(List.length (Prod.fst x2)):Int))) (br (Prod.fst (Prod.snd (Prod.snd (List.getD (Prod.fst x2) (Int.toNat x1) (ByteArray.empty,0,false,()))))) (br (decide (0≤x1)&&decide (x1<(↑(List.length x0):Int))) (br (!decide (Prod.fst (List.getD x0 (Int.toNat x1) (0,0,ByteArray.empty,()))=0)) (K0 false) (go x0 (IntKind.wrap IntKind.i64 (x1+1)) x2)) none) (K0 false)) none) (go x0 (IntKind.wrap IntKind.i64 (x1+1)) x2)) none) none)) none) K1
def qk6 (D:DX)(n:Nat) (K0:Bool→Option ((Bool×Unit)×Unit)) (K1:Option ((Bool×Unit)×Unit)):Nat→(qe)→(Int)→(tSch)→Option ((Bool×Unit)×Unit) | 0=>(fun x0 x1 x2=>none) | m+1=>(fun x0 x1 x2=>qzu D n (qk6 D n K0 K1 m) K0 K1 x0 x1 x2)
def q3u (D:DX)(n:Nat) (v0_0:Bool):Option ((Bool×Unit)×Unit):=some ((v0_0,()),())
def q31 (D:DX)(n:Nat):Option ((Bool×Unit)×Unit):=some ((true,()),())
def qxr (D:DX)(n:Nat):(qe)→(Int)→(tSch)→Option ((Bool×Unit)×Unit):=(fun x0 x1 x2=>qk6 D n (fun v0_0=>q3u D n v0_0) (q31 D n) n x0 x1 x2)
def q2i (D:DX)(n:Nat) (lp0:qe→Int→tSch→Option ((Bool×Unit)×Unit)) (a0:tSch) (a1:qe):Option ((Bool×Unit)×Unit):=qg (qpw D a0) fun b↦br (bif !Prod.fst (Prod.fst b) then true else (↑(List.length a1):Int) != (↑(List.length (Prod.fst a0)):Int)) (some ((false,()),())) (lp0 a1 0 a0)
def q1y (D:DX)(n:Nat) (a0:tSch) (a1:qe):Option ((Bool×Unit)×Unit):=q2i D n (qxr D n) a0 a1
def qle (x0:qe) (x1:Int) (x2:tSch):St:=stq 60 [(1,AV.val (Ty.sl yV) x0),(2,AV.addr 2 []),(5,avI x1)] [(2,Root.mk yS Mk.no x2 true)] 
def qp8 (v0_0:Bool):St:=stq 60 [(4,AV.val Ty.bool v0_0)] [] 
def qpo:St:=stq 60 [] [] 
theorem qbhx (D:DX)(n:Nat) (m:Nat) (K:Ex→St→Option (Out ctx 100)) (x0:qe) (x1:Int) (x2:tSch) :
 LQ qc D n 100 [.r,.r,.l,.r,.l] (m+1) (qle x0 x1 x2) K=qzu D n (fun x0 x1 x2=>LQ qc D n 100 [.r,.r,.l,.r,.l] m (qle x0 x1 x2) K) (fun v0_0=>K (Ex.ret) (qp8 v0_0)) (K (Ex.exit 0) (qpo)) x0 x1 x2:=by kernel_rfl
theorem q41 (D:DX)(n:Nat) (K:Ex→St→Option (Out ctx 100)):∀ (m:Nat) (x0:qe) (x1:Int) (x2:tSch),LQ qc D n 100 [.r,.r,.l,.r,.l] m (qle x0 x1 x2) K=qk6 D n (fun v0_0=>K (Ex.ret) (qp8 v0_0)) (K (Ex.exit 0) (qpo)) m x0 x1 x2
 | 0,x0,x1,x2=>q8 ..
 | m+1,x0,x1,x2=>by
  have ih:(fun x0 x1 x2=>LQ qc D n 100 [.r,.r,.l,.r,.l] m (qle x0 x1 x2) K)=qk6 D n (fun v0_0=>K (Ex.ret) (qp8 v0_0)) (K (Ex.exit 0) (qpo)) m:=by funext x0 x1 x2;exact q41 D n K m x0 x1 x2
  rw[qbhx]
  rw[ih];rfl
theorem qbex (D:DX)(n:Nat) (v0_0:Bool) :
 (CQ qc D n 100 [] [.r,.r,.l,.r,.l] (qi qc 100)) (Ex.ret) (qp8 v0_0)=q3u D n v0_0:=by kernel_rfl
theorem qbd5 (D:DX)(n:Nat) :
 (CQ qc D n 100 [] [.r,.r,.l,.r,.l] (qi qc 100)) (Ex.exit 0) (qpo)=q31 D n:=by kernel_rfl
theorem qbf7 (D:DX)(n:Nat) (x0:qe) (x1:Int) (x2:tSch) :
 LQ qc D n 100 [.r,.r,.l,.r,.l] n (qle x0 x1 x2) (CQ qc D n 100 [] [.r,.r,.l,.r,.l] (qi qc 100))=qxr D n x0 x1 x2:=by
 rw[q41]
 simp only[qbex,qbd5]
 rfl
theorem qbkz (D:DX)(n:Nat) (a0:tSch) (a1:qe):rfC qc D n 100 (a0,(a1,()))=q1y D n a0 a1:=by
 have h:rfC qc D n 100 (a0,(a1,()))=q2i D n (fun x0 x1 x2=>LQ qc D n 100 [.r,.r,.l,.r,.l] n (qle x0 x1 x2) (CQ qc D n 100 [] [.r,.r,.l,.r,.l] (qi qc 100))) a0 a1:=by kernel_rfl
 rw[h]
 simp only[qbf7]
 rfl

def qzq (D:DX)(n:Nat) (go:qe→Int→(tSch)×qd×Unit→Option ((Int×Unit)×Unit)) (K0:Int→Option ((Int×Unit)×Unit)) (K1:Option ((Int×Unit)×Unit)) (x0:qe) (x1:Int) (x2:(tSch)×qd×Unit):Option ((Int×Unit)×Unit):=br (decide (x1<(↑(List.length (Prod.fst (Prod.snd x2))):Int))) (br (decide (0≤x1)&&decide (x1<(↑(List.length (Prod.fst (Prod.snd x2))):Int))) (qg (qc0 D (Prod.fst x2) (List.getD (Prod.fst (Prod.snd x2)) (Int.toNat x1) [])) fun b↦qg (qrk D (Prod.fst (Prod.fst b)) x0) fun b↦br (Prod.fst (Prod.fst b)) (K0 x1) (go x0 (IntKind.wrap IntKind.i64 (x1+1)) x2)) none) K1
def qk2 (D:DX)(n:Nat) (K0:Int→Option ((Int×Unit)×Unit)) (K1:Option ((Int×Unit)×Unit)):Nat→(qe)→(Int)→((tSch)×qd×Unit)→Option ((Int×Unit)×Unit) | 0=>(fun x0 x1 x2=>none) | m+1=>(fun x0 x1 x2=>qzq D n (qk2 D n K0 K1 m) K0 K1 x0 x1 x2)
def q3j (D:DX)(n:Nat) (v0_0:Int):Option ((Int×Unit)×Unit):=some ((v0_0,()),())
def q3a (D:DX)(n:Nat):Option ((Int×Unit)×Unit):=some ((-1,()),())
def qxf (D:DX)(n:Nat):(qe)→(Int)→((tSch)×qd×Unit)→Option ((Int×Unit)×Unit):=(fun x0 x1 x2=>qk2 D n (fun v0_0=>q3j D n v0_0) (q3a D n) n x0 x1 x2)
def q26 (D:DX)(n:Nat) (lp0:qe→Int→(tSch)×qd×Unit→Option ((Int×Unit)×Unit)) (a0:(tSch)×qd×Unit) (a1:qe):Option ((Int×Unit)×Unit):=lp0 a1 0 a0
def q14 (D:DX)(n:Nat) (a0:(tSch)×qd×Unit) (a1:qe):Option ((Int×Unit)×Unit):=q26 D n (qxf D n) a0 a1
def qlb (x0:qe) (x1:Int) (x2:(tSch)×qd×Unit):St:=stq 24 [(1,AV.val (Ty.sl yV) x0),(2,AV.addr 2 []),(5,avI x1)] [(2,Root.mk (Ty.pair yS (Ty.pair (Ty.sl (Ty.sl yV)) Ty.unit)) Mk.no x2 true)] 
def qp7 (v0_0:Int):St:=stq 24 [(4,avI v0_0)] [] 
def qpu:St:=stq 24 [] [] 
theorem qbhy (D:DX)(n:Nat) (m:Nat) (K:Ex→St→Option (Out ctx 101)) (x0:qe) (x1:Int) (x2:(tSch)×
 qd×Unit) :
 LQ qc D n 101 [.r,.l,.r,.l] (m+1) (qlb x0 x1 x2) K=qzq D n (fun x0 x1 x2=>LQ qc D n 101 [.r,.l,.r,.l] m (qlb x0 x1 x2) K) (fun v0_0=>K (Ex.ret) (qp7 v0_0)) (K (Ex.exit 0) (qpu)) x0 x1 x2:=by kernel_rfl
theorem q5b (D:DX)(n:Nat) (K:Ex→St→Option (Out ctx 101)):∀ (m:Nat) (x0:qe) (x1:Int) (x2:(tSch)×
 qd×Unit),LQ qc D n 101 [.r,.l,.r,.l] m (qlb x0 x1 x2) K=qk2 D n (fun v0_0=>K (Ex.ret) (qp7 v0_0)) (K (Ex.exit 0) (qpu)) m x0 x1 x2
 | 0,x0,x1,x2=>q8 ..
 | m+1,x0,x1,x2=>by
  have ih:(fun x0 x1 x2=>LQ qc D n 101 [.r,.l,.r,.l] m (qlb x0 x1 x2) K)=qk2 D n (fun v0_0=>K (Ex.ret) (qp7 v0_0)) (K (Ex.exit 0) (qpu)) m:=by funext x0 x1 x2;exact q5b D n K m x0 x1 x2
  rw[qbhy]
  rw[ih];rfl
theorem qbfj (D:DX)(n:Nat) (v0_0:Int) :
 (CQ qc D n 101 [] [.r,.l,.r,.l] (qi qc 101)) (Ex.ret) (qp7 v0_0)=q3j D n v0_0:=by kernel_rfl
theorem qbeq (D:DX)(n:Nat) :
 (CQ qc D n 101 [] [.r,.l,.r,.l] (qi qc 101)) (Ex.exit 0) (qpu)=q3a D n:=by kernel_rfl
theorem qbd8 (D:DX)(n:Nat) (x0:qe) (x1:Int) (x2:(tSch)×
 qd×Unit) :
 LQ qc D n 101 [.r,.l,.r,.l] n (qlb x0 x1 x2) (CQ qc D n 101 [] [.r,.l,.r,.l] (qi qc 101))=qxf D n x0 x1 x2:=by
 rw[q5b]
 simp only[qbfj,qbeq]
 rfl
theorem qbll (D:DX)(n:Nat) (a0:(tSch)×
 qd×Unit) (a1:qe):rfC qc D n 101 (a0,(a1,()))=q14 D n a0 a1:=by
 have h:rfC qc D n 101 (a0,(a1,()))=q26 D n (fun x0 x1 x2=>LQ qc D n 101 [.r,.l,.r,.l] n (qlb x0 x1 x2) (CQ qc D n 101 [] [.r,.l,.r,.l] (qi qc 101))) a0 a1:=by kernel_rfl
 rw[h]
 simp only[qbd8]
 rfl

def q3d (D:DX)(n:Nat) (a0:tSch) (a1:qe):Option ((qe×Unit)×Unit):=qg (qnj D a1 (Prod.fst (Prod.snd a0))) fun b↦some ((Prod.fst (Prod.fst b),()),())
def qv0 (D:DX)(n:Nat) (a0:tSch) (a1:qe):Option ((qe×Unit)×Unit):=q3d D n a0 a1
theorem qbf9 (D:DX)(n:Nat) (a0:tSch) (a1:qe):rfC qc D n 102 (a0,(a1,()))=qv0 D n a0 a1:=by kernel_rfl

def qr8 (D:DX)(n:Nat) (go:qe→Int→Int→(tSch)×qd×Unit→Option ((Bool×Unit)×Unit)) (K0:Bool→Option ((Bool×Unit)×Unit)) (K1:Option ((Bool×Unit)×Unit)) (x0:qe) (x1:Int) (x2:Int) (x3:(tSch)×qd×Unit):Option ((Bool×Unit)×Unit):=br (decide (x2<(↑(List.length (Prod.fst (Prod.snd x3))):Int))) (br (x2 != x1) (br (decide (0≤x2)&&decide (x2<(↑(List.length (Prod.fst (Prod.snd x3))):Int))) (qg (qpy D (Prod.fst x3) (List.getD (Prod.fst (Prod.snd x3)) (Int.toNat x2) []) x0) fun b↦br (Prod.fst (Prod.fst b)) (K0 true) (go x0 x1 (IntKind.wrap IntKind.i64 (x2+1)) x3)) none) (go x0 x1 (IntKind.wrap IntKind.i64 (x2+1)) x3)) K1
def qgy (D:DX)(n:Nat) (K0:Bool→Option ((Bool×Unit)×Unit)) (K1:Option ((Bool×Unit)×Unit)):Nat→(qe)→(Int)→(Int)→((tSch)×qd×Unit)→Option ((Bool×Unit)×Unit) | 0=>(fun x0 x1 x2 x3=>none) | m+1=>(fun x0 x1 x2 x3=>qr8 D n (qgy D n K0 K1 m) K0 K1 x0 x1 x2 x3)
def qwk (D:DX)(n:Nat) (v0_0:Bool):Option ((Bool×Unit)×Unit):=some ((v0_0,()),())
def qwe (D:DX)(n:Nat):Option ((Bool×Unit)×Unit):=some ((false,()),())
def qrd (D:DX)(n:Nat):(qe)→(Int)→(Int)→((tSch)×qd×Unit)→Option ((Bool×Unit)×Unit):=(fun x0 x1 x2 x3=>qgy D n (fun v0_0=>qwk D n v0_0) (qwe D n) n x0 x1 x2 x3)
def que (D:DX)(n:Nat) (lp0:qe→Int→Int→(tSch)×qd×Unit→Option ((Bool×Unit)×Unit)) (a0:(tSch)×qd×Unit) (a1:qe) (a2:Int):Option ((Bool×Unit)×Unit):=lp0 a1 a2 0 a0
def qtt (D:DX)(n:Nat) (a0:(tSch)×qd×Unit) (a1:qe) (a2:Int):Option ((Bool×Unit)×Unit):=que D n (qrd D n) a0 a1 a2
def qg2 (x0:qe) (x1:Int) (x2:Int) (x3:(tSch)×qd×Unit):St:=stq 29 [(1,AV.val (Ty.sl yV) x0),(2,avI x1),(3,AV.addr 3 []),(7,avI x2)] [(3,Root.mk (Ty.pair yS (Ty.pair (Ty.sl (Ty.sl yV)) Ty.unit)) Mk.no x3 true)] 
def qkp (v0_0:Bool):St:=stq 29 [(6,AV.val Ty.bool v0_0)] [] 
def qkz:St:=stq 29 [] [] 
theorem q8t (D:DX)(n:Nat) (m:Nat) (K:Ex→St→Option (Out ctx 103)) (x0:qe) (x1:Int) (x2:Int) (x3:(tSch)×
 qd×Unit) :
 LQ qc D n 103 [.r,.l,.r,.l] (m+1) (qg2 x0 x1 x2 x3) K=qr8 D n (fun x0 x1 x2 x3=>LQ qc D n 103 [.r,.l,.r,.l] m (qg2 x0 x1 x2 x3) K) (fun v0_0=>K (Ex.ret) (qkp v0_0)) (K (Ex.exit 0) (qkz)) x0 x1 x2 x3:=by kernel_rfl
theorem qyx (D:DX)(n:Nat) (K:Ex→St→Option (Out ctx 103)):∀ (m:Nat) (x0:qe) (x1:Int) (x2:Int) (x3:(tSch)×
 qd×Unit),LQ qc D n 103 [.r,.l,.r,.l] m (qg2 x0 x1 x2 x3) K=qgy D n (fun v0_0=>K (Ex.ret) (qkp v0_0)) (K (Ex.exit 0) (qkz)) m x0 x1 x2 x3
 | 0,x0,x1,x2,x3=>q8 ..
 | m+1,x0,x1,x2,x3=>by
  have ih:(fun x0 x1 x2 x3=>LQ qc D n 103 [.r,.l,.r,.l] m (qg2 x0 x1 x2 x3) K)=qgy D n (fun v0_0=>K (Ex.ret) (qkp v0_0)) (K (Ex.exit 0) (qkz)) m:=by funext x0 x1 x2 x3;exact qyx D n K m x0 x1 x2 x3
  rw[q8t]
  rw[ih];rfl
theorem q7j (D:DX)(n:Nat) (v0_0:Bool) :
 (CQ qc D n 103 [] [.r,.l,.r,.l] (qi qc 103)) (Ex.ret) (qkp v0_0)=qwk D n v0_0:=by kernel_rfl
theorem q7m (D:DX)(n:Nat) :
 (CQ qc D n 103 [] [.r,.l,.r,.l] (qi qc 103)) (Ex.exit 0) (qkz)=qwe D n:=by kernel_rfl
theorem q7g (D:DX)(n:Nat) (x0:qe) (x1:Int) (x2:Int) (x3:(tSch)×
 qd×Unit) :
 LQ qc D n 103 [.r,.l,.r,.l] n (qg2 x0 x1 x2 x3) (CQ qc D n 103 [] [.r,.l,.r,.l] (qi qc 103))=qrd D n x0 x1 x2 x3:=by
 rw[qyx]
 simp only[q7j,q7m]
 rfl
theorem qbdz (D:DX)(n:Nat) (a0:(tSch)×
 qd×Unit) (a1:qe) (a2:Int):rfC qc D n 103 (a0,(a1,(a2,())))=qtt D n a0 a1 a2:=by
 have h:rfC qc D n 103 (a0,(a1,(a2,())))=que D n (fun x0 x1 x2 x3=>LQ qc D n 103 [.r,.l,.r,.l] n (qg2 x0 x1 x2 x3) (CQ qc D n 103 [] [.r,.l,.r,.l] (qi qc 103))) a0 a1 a2:=by kernel_rfl
 rw[h]
 simp only[q7g]
 rfl

def qr2 (D:DX)(n:Nat) (go:qe→qe→Int→Option ((Bool×Unit)×Unit)) (K0:qe→qe→Bool→Option ((Bool×Unit)×Unit)) (K1:qe→qe→Option ((Bool×Unit)×Unit)) (x0:qe) (x1:qe) (x2:Int):Option ((Bool×Unit)×Unit):=br (bif decide (x2<(↑(List.length x0):Int)) then decide (x2<(↑(List.length x1):Int)) else false) (br (decide (0≤x2)&&decide (x2<(↑(List.length x0):Int))) (br (decide (0≤x2)&&decide (x2<(↑(List.length x1):Int))) (qg (qnr D (List.getD x0 (Int.toNat x2) (0,0,ByteArray.empty,())) (List.getD x1 (Int.toNat x2) (0,0,ByteArray.empty,()))) fun b↦br (!Prod.fst (Prod.fst b)) (br (decide (0≤x2)&&decide (x2<(↑(List.length x0):Int))) (br (decide (0≤x2)&&decide (x2<(↑(List.length x1):Int))) (qg (qub D (List.getD x0 (Int.toNat x2) (0,0,ByteArray.empty,())) (List.getD x1 (Int.toNat x2) (0,0,ByteArray.empty,()))) fun b↦K0 x0 x1 (Prod.fst (Prod.fst b))) none) none) (go x0 x1 (IntKind.wrap IntKind.i64 (x2+1)))) none) none) (K1 x0 x1)
def qgz (D:DX)(n:Nat) (K0:qe→qe→Bool→Option ((Bool×Unit)×Unit)) (K1:qe→qe→Option ((Bool×Unit)×Unit)):Nat→(qe)→(qe)→(Int)→Option ((Bool×Unit)×Unit) | 0=>(fun x0 x1 x2=>none) | m+1=>(fun x0 x1 x2=>qr2 D n (qgz D n K0 K1 m) K0 K1 x0 x1 x2)
def qpe (D:DX)(n:Nat) (v0_0:qe) (v0_1:qe) (v0_2:Bool):Option ((Bool×Unit)×Unit):=some ((v0_2,()),())
def qhm (D:DX)(n:Nat) (v1_0:qe) (v1_1:qe):Option ((Bool×Unit)×Unit):=some ((decide ((↑(List.length v1_0):Int)<(↑(List.length v1_1):Int)),()),())
def qqz (D:DX)(n:Nat):(qe)→(qe)→(Int)→Option ((Bool×Unit)×Unit):=(fun x0 x1 x2=>qgz D n (fun v0_0 v0_1 v0_2=>qpe D n v0_0 v0_1 v0_2) (fun v1_0 v1_1=>qhm D n v1_0 v1_1) n x0 x1 x2)
def qtk (D:DX)(n:Nat) (lp0:qe→qe→Int→Option ((Bool×Unit)×Unit)) (a0:qe) (a1:qe):Option ((Bool×Unit)×Unit):=lp0 a0 a1 0
def qua (D:DX)(n:Nat) (a0:qe) (a1:qe):Option ((Bool×Unit)×Unit):=qtk D n (qqz D n) a0 a1
def qg8 (x0:qe) (x1:qe) (x2:Int):St:=stq 42 [(0,AV.val (Ty.sl yV) x0),(1,AV.val (Ty.sl yV) x1),(5,avI x2)] [] 
def qks (v0_0:qe) (v0_1:qe) (v0_2:Bool):St:=stq 42 [(0,AV.val (Ty.sl yV) v0_0),(1,AV.val (Ty.sl yV) v0_1),(4,AV.val Ty.bool v0_2)] [] 
def qkq (v1_0:qe) (v1_1:qe):St:=stq 42 [(0,AV.val (Ty.sl yV) v1_0),(1,AV.val (Ty.sl yV) v1_1)] [] 
theorem q8o (D:DX)(n:Nat) (m:Nat) (K:Ex→St→Option (Out ctx 104)) (x0:qe) (x1:qe) (x2:Int) :
 LQ qc D n 104 [.r,.l,.r,.l] (m+1) (qg8 x0 x1 x2) K=qr2 D n (fun x0 x1 x2=>LQ qc D n 104 [.r,.l,.r,.l] m (qg8 x0 x1 x2) K) (fun v0_0 v0_1 v0_2=>K (Ex.ret) (qks v0_0 v0_1 v0_2)) (fun v1_0 v1_1=>K (Ex.exit 0) (qkq v1_0 v1_1)) x0 x1 x2:=by kernel_rfl
theorem qyy (D:DX)(n:Nat) (K:Ex→St→Option (Out ctx 104)):∀ (m:Nat) (x0:qe) (x1:qe) (x2:Int),LQ qc D n 104 [.r,.l,.r,.l] m (qg8 x0 x1 x2) K=qgz D n (fun v0_0 v0_1 v0_2=>K (Ex.ret) (qks v0_0 v0_1 v0_2)) (fun v1_0 v1_1=>K (Ex.exit 0) (qkq v1_0 v1_1)) m x0 x1 x2
 | 0,x0,x1,x2=>q8 ..
 | m+1,x0,x1,x2=>by
  have ih:(fun x0 x1 x2=>LQ qc D n 104 [.r,.l,.r,.l] m (qg8 x0 x1 x2) K)=qgz D n (fun v0_0 v0_1 v0_2=>K (Ex.ret) (qks v0_0 v0_1 v0_2)) (fun v1_0 v1_1=>K (Ex.exit 0) (qkq v1_0 v1_1)) m:=by funext x0 x1 x2;exact qyy D n K m x0 x1 x2
  rw[q8o]
  rw[ih];rfl
theorem q7h (D:DX)(n:Nat) (v0_0:qe) (v0_1:qe) (v0_2:Bool) :
 (CQ qc D n 104 [] [.r,.l,.r,.l] (qi qc 104)) (Ex.ret) (qks v0_0 v0_1 v0_2)=qpe D n v0_0 v0_1 v0_2:=by kernel_rfl
theorem q79 (D:DX)(n:Nat) (v1_0:qe) (v1_1:qe) :
 (CQ qc D n 104 [] [.r,.l,.r,.l] (qi qc 104)) (Ex.exit 0) (qkq v1_0 v1_1)=qhm D n v1_0 v1_1:=by kernel_rfl
theorem q7f (D:DX)(n:Nat) (x0:qe) (x1:qe) (x2:Int) :
 LQ qc D n 104 [.r,.l,.r,.l] n (qg8 x0 x1 x2) (CQ qc D n 104 [] [.r,.l,.r,.l] (qi qc 104))=qqz D n x0 x1 x2:=by
 rw[qyy]
 simp only[q7h,q79]
 rfl
theorem qbdw (D:DX)(n:Nat) (a0:qe) (a1:qe):rfC qc D n 104 (a0,(a1,()))=qua D n a0 a1:=by
 have h:rfC qc D n 104 (a0,(a1,()))=qtk D n (fun x0 x1 x2=>LQ qc D n 104 [.r,.l,.r,.l] n (qg8 x0 x1 x2) (CQ qc D n 104 [] [.r,.l,.r,.l] (qi qc 104))) a0 a1:=by kernel_rfl
 rw[h]
 simp only[q7f]
 rfl

def qus (D:DX)(n:Nat) (go:qd→Int→qd→Option ((qd×Unit)×Unit)) (K0:qd→Option ((qd×Unit)×Unit)) (x0:qd) (x1:Int) (x2:qd):Option ((qd×Unit)×Unit):=br (decide (x1<(↑(List.length x0):Int))) (br (decide (0≤x1)&&decide (x1<(↑(List.length x0):Int))) (br (decide (0+List.length (List.getD x0 (Int.toNat x1) [])≤qbj)) (br (decide (List.length x2+1≤qbj)) (go x0 (IntKind.wrap IntKind.i64 (x1+1)) (x2++[[]++List.getD x0 (Int.toNat x1) []])) none) none) none) (K0 x2)
def qi3 (D:DX)(n:Nat) (K0:qd→Option ((qd×Unit)×Unit)):Nat→(qd)→(Int)→(qd)→Option ((qd×Unit)×Unit) | 0=>(fun x0 x1 x2=>none) | m+1=>(fun x0 x1 x2=>qus D n (qi3 D n K0 m) K0 x0 x1 x2)
def q08 (D:DX)(n:Nat) (v0_0:qd):Option ((qd×Unit)×Unit):=some ((v0_0,()),())
def qs9 (D:DX)(n:Nat):(qd)→(Int)→(qd)→Option ((qd×Unit)×Unit):=(fun x0 x1 x2=>qi3 D n (fun v0_0=>q08 D n v0_0) n x0 x1 x2)
def qxb (D:DX)(n:Nat) (lp0:qd→Int→qd→Option ((qd×Unit)×Unit)) (a0:qd):Option ((qd×Unit)×Unit):=lp0 a0 0 []
def qx8 (D:DX)(n:Nat) (a0:qd):Option ((qd×Unit)×Unit):=qxb D n (qs9 D n) a0
def qjh (x0:qd) (x1:Int) (x2:qd):St:=stq 22 [(0,AV.val (Ty.sl (Ty.sl yV)) x0),(3,AV.brw 3 [] 0),(4,avI x1)] [(3,Root.mk (Ty.sl (Ty.sl yV)) (Mk.own 0 (Mk.own 0 (Mk.pr Mk.no (Mk.pr Mk.no (Mk.pr Mk.no Mk.no))))) x2 false)] 
def qm2 (v0_0:qd):St:=stq 22 [(3,AV.brw 3 [] 0)] [(3,Root.mk (Ty.sl (Ty.sl yV)) (Mk.own 0 (Mk.own 0 (Mk.pr Mk.no (Mk.pr Mk.no (Mk.pr Mk.no Mk.no))))) v0_0 false)] 
theorem qbcv (D:DX)(n:Nat) (m:Nat) (K:Ex→St→Option (Out ctx 105)) (x0:qd) (x1:Int) (x2:qd) :
 LQ qc D n 105 [.r,.r,.l,.r,.l] (m+1) (qjh x0 x1 x2) K=qus D n (fun x0 x1 x2=>LQ qc D n 105 [.r,.r,.l,.r,.l] m (qjh x0 x1 x2) K) (fun v0_0=>K (Ex.exit 0) (qm2 v0_0)) x0 x1 x2:=by kernel_rfl
theorem q20 (D:DX)(n:Nat) (K:Ex→St→Option (Out ctx 105)):∀ (m:Nat) (x0:qd) (x1:Int) (x2:qd),LQ qc D n 105 [.r,.r,.l,.r,.l] m (qjh x0 x1 x2) K=qi3 D n (fun v0_0=>K (Ex.exit 0) (qm2 v0_0)) m x0 x1 x2
 | 0,x0,x1,x2=>q8 ..
 | m+1,x0,x1,x2=>by
  have ih:(fun x0 x1 x2=>LQ qc D n 105 [.r,.r,.l,.r,.l] m (qjh x0 x1 x2) K)=qi3 D n (fun v0_0=>K (Ex.exit 0) (qm2 v0_0)) m:=by funext x0 x1 x2;exact q20 D n K m x0 x1 x2
  rw[qbcv]
  rw[ih];rfl
theorem qba1 (D:DX)(n:Nat) (v0_0:qd) :
 (CQ qc D n 105 [] [.r,.r,.l,.r,.l] (qi qc 105)) (Ex.exit 0) (qm2 v0_0)=q08 D n v0_0:=by kernel_rfl
theorem qbaw (D:DX)(n:Nat) (x0:qd) (x1:Int) (x2:qd) :
 LQ qc D n 105 [.r,.r,.l,.r,.l] n (qjh x0 x1 x2) (CQ qc D n 105 [] [.r,.r,.l,.r,.l] (qi qc 105))=qs9 D n x0 x1 x2:=by
 rw[q20]
 simp only[qba1]
 rfl
theorem qbgf (D:DX)(n:Nat) (a0:qd):rfC qc D n 105 (a0,())=qx8 D n a0:=by
 have h:rfC qc D n 105 (a0,())=qxb D n (fun x0 x1 x2=>LQ qc D n 105 [.r,.r,.l,.r,.l] n (qjh x0 x1 x2) (CQ qc D n 105 [] [.r,.r,.l,.r,.l] (qi qc 105))) a0:=by kernel_rfl
 rw[h]
 simp only[qbaw]
 rfl

def q5i (D:DX)(n:Nat) (a0:List Int×Int×Int×Unit):Option (((tSch)×Unit)×tCur×Unit):=qg (qkk D a0) fun b↦qg (qb9 D (Prod.fst (Prod.snd b)) 12) fun b_1↦br (decide (Prod.fst (Prod.fst b_1)=0)) (qg (qs5 D (Prod.fst (Prod.snd b_1)) [ByteArray.mk #[],ByteArray.mk #[UInt8.ofNat 105,UInt8.ofNat 100],ByteArray.mk #[UInt8.ofNat 65],ByteArray.mk #[UInt8.ofNat 97,UInt8.ofNat 98,UInt8.ofNat 99,UInt8.ofNat 100,UInt8.ofNat 101,UInt8.ofNat 102,UInt8.ofNat 103,UInt8.ofNat 104,UInt8.ofNat 105,UInt8.ofNat 106,UInt8.ofNat 107,UInt8.ofNat 108,UInt8.ofNat 109]]) fun b_2↦br (decide (0≤1)&&decide (1<(↑(List.length (Prod.fst (Prod.fst (Prod.fst b)))):Int))) (some (((List.set (Prod.fst (Prod.fst (Prod.fst b))) 1 (Prod.fst (Prod.fst b_2),Prod.snd (List.getD (Prod.fst (Prod.fst (Prod.fst b))) 1 (ByteArray.empty,0,false,()))),Prod.fst (Prod.snd (Prod.fst (Prod.fst b))),Prod.fst (Prod.snd (Prod.snd (Prod.fst (Prod.fst b)))),()),()),Prod.fst (Prod.snd b_2),())) none) (br (decide (Prod.fst (Prod.fst b_1)=1)) (qg (qkg D (Prod.fst (Prod.snd b_1)) [0,3,4]) fun b_2↦br (decide (0≤1)&&decide (1<(↑(List.length (Prod.fst (Prod.fst (Prod.fst b)))):Int))) (some (((List.set (Prod.fst (Prod.fst (Prod.fst b))) 1 (Prod.fst (List.getD (Prod.fst (Prod.fst (Prod.fst b))) 1 (ByteArray.empty,0,false,())),Prod.fst (Prod.fst b_2),Prod.snd (Prod.snd (List.getD (Prod.fst (Prod.fst (Prod.fst b))) 1 (ByteArray.empty,0,false,())))),Prod.fst (Prod.snd (Prod.fst (Prod.fst b))),Prod.fst (Prod.snd (Prod.snd (Prod.fst (Prod.fst b)))),()),()),Prod.fst (Prod.snd b_2),())) none) (br (decide (Prod.fst (Prod.fst b_1)=2)) (qg (qb9 D (Prod.fst (Prod.snd b_1)) 6) fun b_2↦br (decide (List.length (Prod.fst (Prod.snd (Prod.fst (Prod.fst b))))+1≤qbj)) (some (((Prod.fst (Prod.fst (Prod.fst b)),Prod.fst (Prod.snd (Prod.fst (Prod.fst b)))++[IntKind.wrap IntKind.i64 (Prod.fst (Prod.fst b_2) - 1)],Prod.fst (Prod.snd (Prod.snd (Prod.fst (Prod.fst b)))),()),()),Prod.fst (Prod.snd b_2),())) none) (br (decide (Prod.fst (Prod.fst b_1)=3)) (br (decide (0≤0)&&decide (0<(↑(List.length (Prod.fst (Prod.fst (Prod.fst b)))):Int))) (some (((List.set (Prod.fst (Prod.fst (Prod.fst b))) 0 (Prod.fst (List.getD (Prod.fst (Prod.fst (Prod.fst b))) 0 (ByteArray.empty,0,false,())),Prod.fst (Prod.snd (List.getD (Prod.fst (Prod.fst (Prod.fst b))) 0 (ByteArray.empty,0,false,()))),true,Prod.snd (Prod.snd (Prod.snd (List.getD (Prod.fst (Prod.fst (Prod.fst b))) 0 (ByteArray.empty,0,false,()))))),Prod.fst (Prod.snd (Prod.fst (Prod.fst b))),Prod.fst (Prod.snd (Prod.snd (Prod.fst (Prod.fst b)))),()),()),Prod.fst (Prod.snd b_1),())) none) (br (decide (Prod.fst (Prod.fst b_1)=4)) (qg (qb9 D (Prod.fst (Prod.snd b_1)) 6) fun b_2↦br (decide (List.length (Prod.fst (Prod.snd (Prod.snd (Prod.fst (Prod.fst b)))))+1≤qbj)) (some (((Prod.fst (Prod.fst (Prod.fst b)),Prod.fst (Prod.snd (Prod.fst (Prod.fst b))),Prod.fst (Prod.snd (Prod.snd (Prod.fst (Prod.fst b))))++[(ByteArray.mk #[UInt8.ofNat 120],[IntKind.wrap IntKind.i64 (Prod.fst (Prod.fst b_2) - 1)],false,())],()),()),Prod.fst (Prod.snd b_2),())) none) (some (((Prod.fst (Prod.fst (Prod.fst b)),Prod.fst (Prod.snd (Prod.fst (Prod.fst b))),Prod.fst (Prod.snd (Prod.snd (Prod.fst (Prod.fst b)))),()),()),Prod.fst (Prod.snd b_1),()))))))
def qw8 (D:DX)(n:Nat) (a0:List Int×Int×Int×Unit):Option (((tSch)×Unit)×tCur×Unit):=q5i D n a0
theorem qbhi (D:DX)(n:Nat) (a0:List Int×Int×Int×Unit):rfC qc D n 106 (a0,())=qw8 D n a0:=by kernel_rfl

def qrb (D:DX)(n:Nat) (go:tIxs→Int→Int→tSch→tSch→Option (((tSch)×Unit)×Unit)) (K0:tSch→tSch→Option (((tSch)×Unit)×Unit)) (x0:tIxs) (x1:Int) (x2:Int) (x3:tSch) (x4:tSch):Option (((tSch)×Unit)×Unit):=br (decide (x2<x1)) (br (decide (0≤x2)&&decide (x2<(↑(List.length x0):Int))) (qg (qio D (Prod.fst (Prod.snd (List.getD x0 (Int.toNat x2) (ByteArray.empty,[],false,()))))) fun b↦br (decide (List.length (Prod.fst (Prod.snd (Prod.snd x4)))+1≤qbj)) (go x0 x1 (IntKind.wrap IntKind.i64 (x2+1)) x3 (Prod.fst x4,Prod.fst (Prod.snd x4),Prod.fst (Prod.snd (Prod.snd x4))++[(Prod.fst (List.getD x0 (Int.toNat x2) (ByteArray.empty,[],false,())),Prod.fst (Prod.fst b),Prod.snd (Prod.snd (List.getD x0 (Int.toNat x2) (ByteArray.empty,[],false,()))))],Prod.snd (Prod.snd (Prod.snd x4)))) none) none) (K0 x3 x4)
def qgj (D:DX)(n:Nat) (K0:tSch→tSch→Option (((tSch)×Unit)×Unit)):Nat→(tIxs)→(Int)→(Int)→(tSch)→(tSch)→Option (((tSch)×Unit)×Unit) | 0=>(fun x0 x1 x2 x3 x4=>none) | m+1=>(fun x0 x1 x2 x3 x4=>qrb D n (qgj D n K0 m) K0 x0 x1 x2 x3 x4)
def qvi (D:DX)(n:Nat) (v0_0:tSch) (v0_1:tSch):Option (((tSch)×Unit)×Unit):=some (((Prod.fst v0_1,Prod.fst (Prod.snd v0_1),Prod.fst (Prod.snd (Prod.snd v0_1)),()),()),())
def qo4 (D:DX)(n:Nat):(tIxs)→(Int)→(Int)→(tSch)→(tSch)→Option (((tSch)×Unit)×Unit):=(fun x0 x1 x2 x3 x4=>qgj D n (fun v0_0 v0_1=>qvi D n v0_0 v0_1) n x0 x1 x2 x3 x4)
def qsq (D:DX)(n:Nat) (lp0:tIxs→Int→Int→tSch→tSch→Option (((tSch)×Unit)×Unit)) (a0:tSch):Option (((tSch)×Unit)×Unit):=qg (qf7 D (Prod.fst a0)) fun b↦qg (qio D (Prod.fst (Prod.snd a0))) fun b_1↦lp0 (Prod.fst (Prod.snd (Prod.snd a0))) (↑(List.length (Prod.fst (Prod.snd (Prod.snd a0)))):Int) 0 ([],[],[],()) (Prod.fst (Prod.fst b),Prod.fst (Prod.fst b_1),[],())
def qr9 (D:DX)(n:Nat) (a0:tSch):Option (((tSch)×Unit)×Unit):=qsq D n (qo4 D n) a0
def qga (x0:tIxs) (x1:Int) (x2:Int) (x3:tSch) (x4:tSch):St:=stq 32 [(2,AV.addr 2 []),(3,AV.addr 3 []),(14,AV.val (Ty.sl yX) x0),(15,avI x1),(16,avI x2)] [(2,Root.mk yS (Mk.pr (Mk.own 0 (Mk.pr Mk.no (Mk.pr Mk.no (Mk.pr Mk.no Mk.no)))) (Mk.pr (Mk.own 0 Mk.no) (Mk.pr (Mk.own 0 (Mk.pr Mk.no (Mk.pr (Mk.own 0 Mk.no) (Mk.pr Mk.no Mk.no)))) Mk.no))) x3 true),(3,Root.mk yS (Mk.pr (Mk.own 0 (Mk.pr Mk.no (Mk.pr Mk.no (Mk.pr Mk.no Mk.no)))) (Mk.pr (Mk.own 0 Mk.no) (Mk.pr (Mk.own 0 (Mk.pr Mk.no (Mk.pr (Mk.own 0 Mk.no) (Mk.pr Mk.no Mk.no)))) Mk.no))) x4 true)] 
def qjs (v0_0:tSch) (v0_1:tSch):St:=stq 32 [(2,AV.addr 2 []),(3,AV.addr 3 [])] [(2,Root.mk yS (Mk.pr (Mk.own 0 (Mk.pr Mk.no (Mk.pr Mk.no (Mk.pr Mk.no Mk.no)))) (Mk.pr (Mk.own 0 Mk.no) (Mk.pr (Mk.own 0 (Mk.pr Mk.no (Mk.pr (Mk.own 0 Mk.no) (Mk.pr Mk.no Mk.no)))) Mk.no))) v0_0 true),(3,Root.mk yS (Mk.pr (Mk.own 0 (Mk.pr Mk.no (Mk.pr Mk.no (Mk.pr Mk.no Mk.no)))) (Mk.pr (Mk.own 0 Mk.no) (Mk.pr (Mk.own 0 (Mk.pr Mk.no (Mk.pr (Mk.own 0 Mk.no) (Mk.pr Mk.no Mk.no)))) Mk.no))) v0_1 true)] 
theorem q7w (D:DX)(n:Nat) (m:Nat) (K:Ex→St→Option (Out ctx 107)) (x0:tIxs) (x1:Int) (x2:Int) (x3:tSch) (x4:tSch) :
 LQ qc D n 107 [.r,.r,.l,.r,.l] (m+1) (qga x0 x1 x2 x3 x4) K=qrb D n (fun x0 x1 x2 x3 x4=>LQ qc D n 107 [.r,.r,.l,.r,.l] m (qga x0 x1 x2 x3 x4) K) (fun v0_0 v0_1=>K (Ex.exit 0) (qjs v0_0 v0_1)) x0 x1 x2 x3 x4:=by kernel_rfl
theorem qwb (D:DX)(n:Nat) (K:Ex→St→Option (Out ctx 107)):∀ (m:Nat) (x0:tIxs) (x1:Int) (x2:Int) (x3:tSch) (x4:tSch),LQ qc D n 107 [.r,.r,.l,.r,.l] m (qga x0 x1 x2 x3 x4) K=qgj D n (fun v0_0 v0_1=>K (Ex.exit 0) (qjs v0_0 v0_1)) m x0 x1 x2 x3 x4
 | 0,x0,x1,x2,x3,x4=>q8 ..
 | m+1,x0,x1,x2,x3,x4=>by
  have ih:(fun x0 x1 x2 x3 x4=>LQ qc D n 107 [.r,.r,.l,.r,.l] m (qga x0 x1 x2 x3 x4) K)=qgj D n (fun v0_0 v0_1=>K (Ex.exit 0) (qjs v0_0 v0_1)) m:=by funext x0 x1 x2 x3 x4;exact qwb D n K m x0 x1 x2 x3 x4
  rw[q7w]
  rw[ih];rfl
theorem q6i (D:DX)(n:Nat) (v0_0:tSch) (v0_1:tSch) :
 (CQ qc D n 107 [] [.r,.r,.l,.r,.l] (qi qc 107)) (Ex.exit 0) (qjs v0_0 v0_1)=qvi D n v0_0 v0_1:=by kernel_rfl
theorem q6n (D:DX)(n:Nat) (x0:tIxs) (x1:Int) (x2:Int) (x3:tSch) (x4:tSch) :
 LQ qc D n 107 [.r,.r,.l,.r,.l] n (qga x0 x1 x2 x3 x4) (CQ qc D n 107 [] [.r,.r,.l,.r,.l] (qi qc 107))=qo4 D n x0 x1 x2 x3 x4:=by
 rw[qwb]
 simp only[q6i]
 rfl
theorem qbb1 (D:DX)(n:Nat) (a0:tSch):rfC qc D n 107 (a0,())=qr9 D n a0:=by
 have h:rfC qc D n 107 (a0,())=qsq D n (fun x0 x1 x2 x3 x4=>LQ qc D n 107 [.r,.r,.l,.r,.l] n (qga x0 x1 x2 x3 x4) (CQ qc D n 107 [] [.r,.r,.l,.r,.l] (qi qc 107))) a0:=by kernel_rfl
 rw[h]
 simp only[q6n]
 rfl

def qu9 (D:DX)(n:Nat) (go:Int→tSch→tSch→tSch→Option (((tSch)×Unit)×Unit)) (K0:tSch→tSch→Option (((tSch)×Unit)×Unit)) (x0:Int) (x1:tSch) (x2:tSch) (x3:tSch):Option (((tSch)×Unit)×Unit):=br (decide (x0<(↑(List.length (Prod.fst (Prod.snd (Prod.snd x1)))):Int))) (br (decide (0≤x0)&&decide (x0<(↑(List.length (Prod.fst (Prod.snd (Prod.snd x1)))):Int))) (br (decide (0+List.length (Prod.fst (Prod.snd (List.getD (Prod.fst (Prod.snd (Prod.snd x1))) (Int.toNat x0) (ByteArray.empty,[],false,()))))≤qbj)) (br (decide (List.length (Prod.fst (Prod.snd (Prod.snd x3)))+1≤qbj)) (go (IntKind.wrap IntKind.i64 (x0+1)) x1 x2 (Prod.fst x3,Prod.fst (Prod.snd x3),Prod.fst (Prod.snd (Prod.snd x3))++[(Prod.fst (List.getD (Prod.fst (Prod.snd (Prod.snd x1))) (Int.toNat x0) (ByteArray.empty,[],false,())),[]++Prod.fst (Prod.snd (List.getD (Prod.fst (Prod.snd (Prod.snd x1))) (Int.toNat x0) (ByteArray.empty,[],false,()))),Prod.fst (Prod.snd (Prod.snd (List.getD (Prod.fst (Prod.snd (Prod.snd x1))) (Int.toNat x0) (ByteArray.empty,[],false,())))),())],Prod.snd (Prod.snd (Prod.snd x3)))) none) none) none) (K0 x2 x3)
def qje (D:DX)(n:Nat) (K0:tSch→tSch→Option (((tSch)×Unit)×Unit)):Nat→(Int)→(tSch)→(tSch)→(tSch)→Option (((tSch)×Unit)×Unit) | 0=>(fun x0 x1 x2 x3=>none) | m+1=>(fun x0 x1 x2 x3=>qu9 D n (qje D n K0 m) K0 x0 x1 x2 x3)
def q0r (D:DX)(n:Nat) (v0_0:tSch) (v0_1:tSch):Option (((tSch)×Unit)×Unit):=some (((Prod.fst v0_1,Prod.fst (Prod.snd v0_1),Prod.fst (Prod.snd (Prod.snd v0_1)),()),()),())
def qt5 (D:DX)(n:Nat):(Int)→(tSch)→(tSch)→(tSch)→Option (((tSch)×Unit)×Unit):=(fun x0 x1 x2 x3=>qje D n (fun v0_0 v0_1=>q0r D n v0_0 v0_1) n x0 x1 x2 x3)
def qx3 (D:DX)(n:Nat) (lp0:Int→tSch→tSch→tSch→Option (((tSch)×Unit)×Unit)) (a0:tSch):Option (((tSch)×Unit)×Unit):=br (decide (0+List.length (Prod.fst a0)≤qbj)) (br (decide (0+List.length (Prod.fst (Prod.snd a0))≤qbj)) (lp0 0 a0 ([],[],[],()) ([]++Prod.fst a0,[]++Prod.fst (Prod.snd a0),[],())) none) none
def qxn (D:DX)(n:Nat) (a0:tSch):Option (((tSch)×Unit)×Unit):=qx3 D n (qt5 D n) a0
def qi4 (x0:Int) (x1:tSch) (x2:tSch) (x3:tSch):St:=stq 42 [(1,AV.addr 1 []),(2,AV.addr 2 []),(3,AV.addr 3 []),(4,avI x0)] [(1,Root.mk yS Mk.no x1 true),(2,Root.mk yS (Mk.pr (Mk.own 0 (Mk.pr Mk.no (Mk.pr Mk.no (Mk.pr Mk.no Mk.no)))) (Mk.pr (Mk.own 0 Mk.no) (Mk.pr (Mk.own 0 (Mk.pr Mk.no (Mk.pr (Mk.own 0 Mk.no) (Mk.pr Mk.no Mk.no)))) Mk.no))) x2 true),(3,Root.mk yS (Mk.pr (Mk.own 0 (Mk.pr Mk.no (Mk.pr Mk.no (Mk.pr Mk.no Mk.no)))) (Mk.pr (Mk.own 0 Mk.no) (Mk.pr (Mk.own 0 (Mk.pr Mk.no (Mk.pr (Mk.own 0 Mk.no) (Mk.pr Mk.no Mk.no)))) Mk.no))) x3 true)] 
def qmw (v0_0:tSch) (v0_1:tSch):St:=stq 42 [(2,AV.addr 2 []),(3,AV.addr 3 [])] [(2,Root.mk yS (Mk.pr (Mk.own 0 (Mk.pr Mk.no (Mk.pr Mk.no (Mk.pr Mk.no Mk.no)))) (Mk.pr (Mk.own 0 Mk.no) (Mk.pr (Mk.own 0 (Mk.pr Mk.no (Mk.pr (Mk.own 0 Mk.no) (Mk.pr Mk.no Mk.no)))) Mk.no))) v0_0 true),(3,Root.mk yS (Mk.pr (Mk.own 0 (Mk.pr Mk.no (Mk.pr Mk.no (Mk.pr Mk.no Mk.no)))) (Mk.pr (Mk.own 0 Mk.no) (Mk.pr (Mk.own 0 (Mk.pr Mk.no (Mk.pr (Mk.own 0 Mk.no) (Mk.pr Mk.no Mk.no)))) Mk.no))) v0_1 true)] 
theorem qbdr (D:DX)(n:Nat) (m:Nat) (K:Ex→St→Option (Out ctx 108)) (x0:Int) (x1:tSch) (x2:tSch) (x3:tSch) :
 LQ qc D n 108 [.r,.r,.l,.r,.l] (m+1) (qi4 x0 x1 x2 x3) K=qu9 D n (fun x0 x1 x2 x3=>LQ qc D n 108 [.r,.r,.l,.r,.l] m (qi4 x0 x1 x2 x3) K) (fun v0_0 v0_1=>K (Ex.exit 0) (qmw v0_0 v0_1)) x0 x1 x2 x3:=by kernel_rfl
theorem q1v (D:DX)(n:Nat) (K:Ex→St→Option (Out ctx 108)):∀ (m:Nat) (x0:Int) (x1:tSch) (x2:tSch) (x3:tSch),LQ qc D n 108 [.r,.r,.l,.r,.l] m (qi4 x0 x1 x2 x3) K=qje D n (fun v0_0 v0_1=>K (Ex.exit 0) (qmw v0_0 v0_1)) m x0 x1 x2 x3
 | 0,x0,x1,x2,x3=>q8 ..
 | m+1,x0,x1,x2,x3=>by
  have ih:(fun x0 x1 x2 x3=>LQ qc D n 108 [.r,.r,.l,.r,.l] m (qi4 x0 x1 x2 x3) K)=qje D n (fun v0_0 v0_1=>K (Ex.exit 0) (qmw v0_0 v0_1)) m:=by funext x0 x1 x2 x3;exact q1v D n K m x0 x1 x2 x3
  rw[qbdr]
  rw[ih];rfl
theorem qbbo (D:DX)(n:Nat) (v0_0:tSch) (v0_1:tSch) :
 (CQ qc D n 108 [] [.r,.r,.l,.r,.l] (qi qc 108)) (Ex.exit 0) (qmw v0_0 v0_1)=q0r D n v0_0 v0_1:=by kernel_rfl
theorem qbbn (D:DX)(n:Nat) (x0:Int) (x1:tSch) (x2:tSch) (x3:tSch) :
 LQ qc D n 108 [.r,.r,.l,.r,.l] n (qi4 x0 x1 x2 x3) (CQ qc D n 108 [] [.r,.r,.l,.r,.l] (qi qc 108))=qt5 D n x0 x1 x2 x3:=by
 rw[q1v]
 simp only[qbbo]
 rfl
theorem qbgm (D:DX)(n:Nat) (a0:tSch):rfC qc D n 108 (a0,())=qxn D n a0:=by
 have h:rfC qc D n 108 (a0,())=qx3 D n (fun x0 x1 x2 x3=>LQ qc D n 108 [.r,.r,.l,.r,.l] n (qi4 x0 x1 x2 x3) (CQ qc D n 108 [] [.r,.r,.l,.r,.l] (qi qc 108))) a0:=by kernel_rfl
 rw[h]
 simp only[qbbn]
 rfl

def qt7 (D:DX)(n:Nat) (go:qd→qd→Int→Option ((Bool×Unit)×Unit)) (K0:Bool→Option ((Bool×Unit)×Unit)) (K1:Option ((Bool×Unit)×Unit)) (x0:qd) (x1:qd) (x2:Int):Option ((Bool×Unit)×Unit):=br (decide (x2<(↑(List.length x0):Int))) (br (decide (0≤x2)&&decide (x2<(↑(List.length x0):Int))) (br (decide (0≤x2)&&decide (x2<(↑(List.length x1):Int))) (qg (qog D (List.getD x0 (Int.toNat x2) []) (List.getD x1 (Int.toNat x2) [])) fun b↦br (!Prod.fst (Prod.fst b)) (K0 false) (go x0 x1 (IntKind.wrap IntKind.i64 (x2+1)))) none) none) K1
def qhy (D:DX)(n:Nat) (K0:Bool→Option ((Bool×Unit)×Unit)) (K1:Option ((Bool×Unit)×Unit)):Nat→(qd)→(qd)→(Int)→Option ((Bool×Unit)×Unit) | 0=>(fun x0 x1 x2=>none) | m+1=>(fun x0 x1 x2=>qt7 D n (qhy D n K0 K1 m) K0 K1 x0 x1 x2)
def qzh (D:DX)(n:Nat) (v0_0:Bool):Option ((Bool×Unit)×Unit):=some ((v0_0,()),())
def qzj (D:DX)(n:Nat):Option ((Bool×Unit)×Unit):=some ((true,()),())
def qr3 (D:DX)(n:Nat):(qd)→(qd)→(Int)→Option ((Bool×Unit)×Unit):=(fun x0 x1 x2=>qhy D n (fun v0_0=>qzh D n v0_0) (qzj D n) n x0 x1 x2)
def qvq (D:DX)(n:Nat) (lp0:qd→qd→Int→Option ((Bool×Unit)×Unit)) (a0:qd) (a1:qd):Option ((Bool×Unit)×Unit):=br ((↑(List.length a0):Int) != (↑(List.length a1):Int)) (some ((false,()),())) (lp0 a0 a1 0)
def qva (D:DX)(n:Nat) (a0:qd) (a1:qd):Option ((Bool×Unit)×Unit):=qvq D n (qr3 D n) a0 a1
def qh3 (x0:qd) (x1:qd) (x2:Int):St:=stq 27 [(0,AV.val (Ty.sl (Ty.sl yV)) x0),(1,AV.val (Ty.sl (Ty.sl yV)) x1),(5,avI x2)] [] 
def ql1 (v0_0:Bool):St:=stq 27 [(4,AV.val Ty.bool v0_0)] [] 
def qlz:St:=stq 27 [] [] 
theorem qbbx (D:DX)(n:Nat) (m:Nat) (K:Ex→St→Option (Out ctx 109)) (x0:qd) (x1:qd) (x2:Int) :
 LQ qc D n 109 [.r,.r,.l,.r,.l] (m+1) (qh3 x0 x1 x2) K=qt7 D n (fun x0 x1 x2=>LQ qc D n 109 [.r,.r,.l,.r,.l] m (qh3 x0 x1 x2) K) (fun v0_0=>K (Ex.ret) (ql1 v0_0)) (K (Ex.exit 0) (qlz)) x0 x1 x2:=by kernel_rfl
theorem q0k (D:DX)(n:Nat) (K:Ex→St→Option (Out ctx 109)):∀ (m:Nat) (x0:qd) (x1:qd) (x2:Int),LQ qc D n 109 [.r,.r,.l,.r,.l] m (qh3 x0 x1 x2) K=qhy D n (fun v0_0=>K (Ex.ret) (ql1 v0_0)) (K (Ex.exit 0) (qlz)) m x0 x1 x2
 | 0,x0,x1,x2=>q8 ..
 | m+1,x0,x1,x2=>by
  have ih:(fun x0 x1 x2=>LQ qc D n 109 [.r,.r,.l,.r,.l] m (qh3 x0 x1 x2) K)=qhy D n (fun v0_0=>K (Ex.ret) (ql1 v0_0)) (K (Ex.exit 0) (qlz)) m:=by funext x0 x1 x2;exact q0k D n K m x0 x1 x2
  rw[qbbx]
  rw[ih];rfl
theorem q8j (D:DX)(n:Nat) (v0_0:Bool) :
 (CQ qc D n 109 [] [.r,.r,.l,.r,.l] (qi qc 109)) (Ex.ret) (ql1 v0_0)=qzh D n v0_0:=by kernel_rfl
theorem q9b (D:DX)(n:Nat) :
 (CQ qc D n 109 [] [.r,.r,.l,.r,.l] (qi qc 109)) (Ex.exit 0) (qlz)=qzj D n:=by kernel_rfl
theorem q9c (D:DX)(n:Nat) (x0:qd) (x1:qd) (x2:Int) :
 LQ qc D n 109 [.r,.r,.l,.r,.l] n (qh3 x0 x1 x2) (CQ qc D n 109 [] [.r,.r,.l,.r,.l] (qi qc 109))=qr3 D n x0 x1 x2:=by
 rw[q0k]
 simp only[q8j,q9b]
 rfl
theorem qbf6 (D:DX)(n:Nat) (a0:qd) (a1:qd):rfC qc D n 109 (a0,(a1,()))=qva D n a0 a1:=by
 have h:rfC qc D n 109 (a0,(a1,()))=qvq D n (fun x0 x1 x2=>LQ qc D n 109 [.r,.r,.l,.r,.l] n (qh3 x0 x1 x2) (CQ qc D n 109 [] [.r,.r,.l,.r,.l] (qi qc 109))) a0 a1:=by kernel_rfl
 rw[h]
 simp only[q9c]
 rfl

def qt1 (D:DX)(n:Nat) (go:List Int→List Int→Int→Option ((Bool×Unit)×Unit)) (K0:Bool→Option ((Bool×Unit)×Unit)) (K1:Option ((Bool×Unit)×Unit)) (x0:List Int) (x1:List Int) (x2:Int):Option ((Bool×Unit)×Unit):=br (decide (x2<(↑(List.length x0):Int))) (br (decide (0≤x2)&&decide (x2<(↑(List.length x0):Int))) (br (decide (0≤x2)&&decide (x2<(↑(List.length x1):Int))) (br (List.getD x0 (Int.toNat x2) 0 != List.getD x1 (Int.toNat x2) 0) (K0 false) (go x0 x1 (IntKind.wrap IntKind.i64 (x2+1)))) none) none) K1
def qhs (D:DX)(n:Nat) (K0:Bool→Option ((Bool×Unit)×Unit)) (K1:Option ((Bool×Unit)×Unit)):Nat→(List Int)→(List Int)→(Int)→Option ((Bool×Unit)×Unit) | 0=>(fun x0 x1 x2=>none) | m+1=>(fun x0 x1 x2=>qt1 D n (qhs D n K0 K1 m) K0 K1 x0 x1 x2)
def qy5 (D:DX)(n:Nat) (v0_0:Bool):Option ((Bool×Unit)×Unit):=some ((v0_0,()),())
def qzf (D:DX)(n:Nat):Option ((Bool×Unit)×Unit):=some ((true,()),())
def qss (D:DX)(n:Nat):(List Int)→(List Int)→(Int)→Option ((Bool×Unit)×Unit):=(fun x0 x1 x2=>qhs D n (fun v0_0=>qy5 D n v0_0) (qzf D n) n x0 x1 x2)
def qvu (D:DX)(n:Nat) (lp0:List Int→List Int→Int→Option ((Bool×Unit)×Unit)) (a0:List Int) (a1:List Int):Option ((Bool×Unit)×Unit):=br ((↑(List.length a0):Int) != (↑(List.length a1):Int)) (some ((false,()),())) (lp0 a0 a1 0)
def qv2 (D:DX)(n:Nat) (a0:List Int) (a1:List Int):Option ((Bool×Unit)×Unit):=qvu D n (qss D n) a0 a1
def qh7 (x0:List Int) (x1:List Int) (x2:Int):St:=stq 26 [(0,AV.val (Ty.sl yI) x0),(1,AV.val (Ty.sl yI) x1),(5,avI x2)] [] 
def qlk (v0_0:Bool):St:=stq 26 [(4,AV.val Ty.bool v0_0)] [] 
def qlo:St:=stq 26 [] [] 
theorem qbbm (D:DX)(n:Nat) (m:Nat) (K:Ex→St→Option (Out ctx 110)) (x0:List Int) (x1:List Int) (x2:Int) :
 LQ qc D n 110 [.r,.r,.l,.r,.l] (m+1) (qh7 x0 x1 x2) K=qt1 D n (fun x0 x1 x2=>LQ qc D n 110 [.r,.r,.l,.r,.l] m (qh7 x0 x1 x2) K) (fun v0_0=>K (Ex.ret) (qlk v0_0)) (K (Ex.exit 0) (qlo)) x0 x1 x2:=by kernel_rfl
theorem q0i (D:DX)(n:Nat) (K:Ex→St→Option (Out ctx 110)):∀ (m:Nat) (x0:List Int) (x1:List Int) (x2:Int),LQ qc D n 110 [.r,.r,.l,.r,.l] m (qh7 x0 x1 x2) K=qhs D n (fun v0_0=>K (Ex.ret) (qlk v0_0)) (K (Ex.exit 0) (qlo)) m x0 x1 x2
 | 0,x0,x1,x2=>q8 ..
 | m+1,x0,x1,x2=>by
  have ih:(fun x0 x1 x2=>LQ qc D n 110 [.r,.r,.l,.r,.l] m (qh7 x0 x1 x2) K)=qhs D n (fun v0_0=>K (Ex.ret) (qlk v0_0)) (K (Ex.exit 0) (qlo)) m:=by funext x0 x1 x2;exact q0i D n K m x0 x1 x2
  rw[qbbm]
  rw[ih];rfl
theorem q90 (D:DX)(n:Nat) (v0_0:Bool) :
 (CQ qc D n 110 [] [.r,.r,.l,.r,.l] (qi qc 110)) (Ex.ret) (qlk v0_0)=qy5 D n v0_0:=by kernel_rfl
theorem q9g (D:DX)(n:Nat) :
 (CQ qc D n 110 [] [.r,.r,.l,.r,.l] (qi qc 110)) (Ex.exit 0) (qlo)=qzf D n:=by kernel_rfl
theorem q8n (D:DX)(n:Nat) (x0:List Int) (x1:List Int) (x2:Int) :
 LQ qc D n 110 [.r,.r,.l,.r,.l] n (qh7 x0 x1 x2) (CQ qc D n 110 [] [.r,.r,.l,.r,.l] (qi qc 110))=qss D n x0 x1 x2:=by
 rw[q0i]
 simp only[q90,q9g]
 rfl
theorem qbey (D:DX)(n:Nat) (a0:List Int) (a1:List Int):rfC qc D n 110 (a0,(a1,()))=qv2 D n a0 a1:=by
 have h:rfC qc D n 110 (a0,(a1,()))=qvu D n (fun x0 x1 x2=>LQ qc D n 110 [.r,.r,.l,.r,.l] n (qh7 x0 x1 x2) (CQ qc D n 110 [] [.r,.r,.l,.r,.l] (qi qc 110))) a0 a1:=by kernel_rfl
 rw[h]
 simp only[q8n]
 rfl

def qt2 (D:DX)(n:Nat) (go:qe→qe→Int→tSch→Option ((Bool×Unit)×Unit)) (K0:Bool→Option ((Bool×Unit)×Unit)) (K1:Option ((Bool×Unit)×Unit)) (x0:qe) (x1:qe) (x2:Int) (x3:tSch):Option ((Bool×Unit)×Unit):=br (decide (x2<(↑(List.length (Prod.fst (Prod.snd (Prod.snd x3)))):Int))) (br (decide (0≤x2)&&decide (x2<(↑(List.length (Prod.fst (Prod.snd (Prod.snd x3)))):Int))) (qg (qnj D x0 (Prod.fst (Prod.snd (List.getD (Prod.fst (Prod.snd (Prod.snd x3))) (Int.toNat x2) (ByteArray.empty,[],false,()))))) fun b↦qg (qnj D x1 (Prod.fst (Prod.snd (List.getD (Prod.fst (Prod.snd (Prod.snd x3))) (Int.toNat x2) (ByteArray.empty,[],false,()))))) fun b_1↦br (Prod.fst (Prod.snd (Prod.snd (List.getD (Prod.fst (Prod.snd (Prod.snd x3))) (Int.toNat x2) (ByteArray.empty,[],false,()))))) (qg (qrk D (Prod.fst (Prod.fst b)) (Prod.fst (Prod.fst b_1))) fun b_2↦br (Prod.fst (Prod.fst b_2)) (qg (qxy D (Prod.fst (Prod.fst b))) fun b↦br (!Prod.fst (Prod.fst b)) (K0 true) (go x0 x1 (IntKind.wrap IntKind.i64 (x2+1)) x3)) (go x0 x1 (IntKind.wrap IntKind.i64 (x2+1)) x3)) (go x0 x1 (IntKind.wrap IntKind.i64 (x2+1)) x3)) none) K1
def qhu (D:DX)(n:Nat) (K0:Bool→Option ((Bool×Unit)×Unit)) (K1:Option ((Bool×Unit)×Unit)):Nat→(qe)→(qe)→(Int)→(tSch)→Option ((Bool×Unit)×Unit) | 0=>(fun x0 x1 x2 x3=>none) | m+1=>(fun x0 x1 x2 x3=>qt2 D n (qhu D n K0 K1 m) K0 K1 x0 x1 x2 x3)
def qzb (D:DX)(n:Nat) (v0_0:Bool):Option ((Bool×Unit)×Unit):=some ((v0_0,()),())
def qy6 (D:DX)(n:Nat):Option ((Bool×Unit)×Unit):=some ((false,()),())
def qrw (D:DX)(n:Nat):(qe)→(qe)→(Int)→(tSch)→Option ((Bool×Unit)×Unit):=(fun x0 x1 x2 x3=>qhu D n (fun v0_0=>qzb D n v0_0) (qy6 D n) n x0 x1 x2 x3)
def qu7 (D:DX)(n:Nat) (lp0:qe→qe→Int→tSch→Option ((Bool×Unit)×Unit)) (a0:tSch) (a1:qe) (a2:qe):Option ((Bool×Unit)×Unit):=lp0 a1 a2 0 a0
def qvd (D:DX)(n:Nat) (a0:tSch) (a1:qe) (a2:qe):Option ((Bool×Unit)×Unit):=qu7 D n (qrw D n) a0 a1 a2
def qht (x0:qe) (x1:qe) (x2:Int) (x3:tSch):St:=stq 43 [(1,AV.val (Ty.sl yV) x0),(2,AV.val (Ty.sl yV) x1),(3,AV.addr 3 []),(7,avI x2)] [(3,Root.mk yS Mk.no x3 true)] 
def qlx (v0_0:Bool):St:=stq 43 [(6,AV.val Ty.bool v0_0)] [] 
def qlv:St:=stq 43 [] [] 
theorem qbas (D:DX)(n:Nat) (m:Nat) (K:Ex→St→Option (Out ctx 111)) (x0:qe) (x1:qe) (x2:Int) (x3:tSch) :
 LQ qc D n 111 [.r,.l,.r,.l] (m+1) (qht x0 x1 x2 x3) K=qt2 D n (fun x0 x1 x2 x3=>LQ qc D n 111 [.r,.l,.r,.l] m (qht x0 x1 x2 x3) K) (fun v0_0=>K (Ex.ret) (qlx v0_0)) (K (Ex.exit 0) (qlv)) x0 x1 x2 x3:=by kernel_rfl
theorem q0v (D:DX)(n:Nat) (K:Ex→St→Option (Out ctx 111)):∀ (m:Nat) (x0:qe) (x1:qe) (x2:Int) (x3:tSch),LQ qc D n 111 [.r,.l,.r,.l] m (qht x0 x1 x2 x3) K=qhu D n (fun v0_0=>K (Ex.ret) (qlx v0_0)) (K (Ex.exit 0) (qlv)) m x0 x1 x2 x3
 | 0,x0,x1,x2,x3=>q8 ..
 | m+1,x0,x1,x2,x3=>by
  have ih:(fun x0 x1 x2 x3=>LQ qc D n 111 [.r,.l,.r,.l] m (qht x0 x1 x2 x3) K)=qhu D n (fun v0_0=>K (Ex.ret) (qlx v0_0)) (K (Ex.exit 0) (qlv)) m:=by funext x0 x1 x2 x3;exact q0v D n K m x0 x1 x2 x3
  rw[qbas]
  rw[ih];rfl
theorem q8x (D:DX)(n:Nat) (v0_0:Bool) :
 (CQ qc D n 111 [] [.r,.l,.r,.l] (qi qc 111)) (Ex.ret) (qlx v0_0)=qzb D n v0_0:=by kernel_rfl
theorem q86 (D:DX)(n:Nat) :
 (CQ qc D n 111 [] [.r,.l,.r,.l] (qi qc 111)) (Ex.exit 0) (qlv)=qy6 D n:=by kernel_rfl
theorem q9w (D:DX)(n:Nat) (x0:qe) (x1:qe) (x2:Int) (x3:tSch) :
 LQ qc D n 111 [.r,.l,.r,.l] n (qht x0 x1 x2 x3) (CQ qc D n 111 [] [.r,.l,.r,.l] (qi qc 111))=qrw D n x0 x1 x2 x3:=by
 rw[q0v]
 simp only[q8x,q86]
 rfl
theorem qbeh (D:DX)(n:Nat) (a0:tSch) (a1:qe) (a2:qe):rfC qc D n 111 (a0,(a1,(a2,())))=qvd D n a0 a1 a2:=by
 have h:rfC qc D n 111 (a0,(a1,(a2,())))=qu7 D n (fun x0 x1 x2 x3=>LQ qc D n 111 [.r,.l,.r,.l] n (qht x0 x1 x2 x3) (CQ qc D n 111 [] [.r,.l,.r,.l] (qi qc 111))) a0 a1 a2:=by kernel_rfl
 rw[h]
 simp only[q9w]
 rfl

def qtl (D:DX)(n:Nat) (go:Int→tSch→Option ((Bool×Unit)×Unit)) (K0:Bool→tSch→Option ((Bool×Unit)×Unit)) (K1:tSch→Option ((Bool×Unit)×Unit)) (x0:Int) (x1:tSch):Option ((Bool×Unit)×Unit):=br (decide (x0<(↑(List.length (Prod.fst x1)):Int))) (br (decide (0≤x0)&&decide (x0<(↑(List.length (Prod.fst x1)):Int))) (qg (qoc D (Prod.fst (List.getD (Prod.fst x1) (Int.toNat x0) (ByteArray.empty,0,false,())))) fun b↦br (!Prod.fst (Prod.fst b)) (K0 false x1) (br (decide (0≤x0)&&decide (x0<(↑(List.length (Prod.fst x1)):Int))) (qg (qgq D (Prod.fst (Prod.snd (List.getD (Prod.fst x1) (Int.toNat x0) (ByteArray.empty,0,false,())))) 1 3) fun b↦br (!Prod.fst (Prod.fst b)) (K0 false x1) (br (decide (0≤x0)&&decide (x0<(↑(List.length (Prod.fst x1)):Int))) (qg (q28 D x1 (Prod.fst (List.getD (Prod.fst x1) (Int.toNat x0) (ByteArray.empty,0,false,())))) fun b↦br (Prod.fst (Prod.fst b) != x0) (K0 false x1) (go (IntKind.wrap IntKind.i64 (x0+1)) x1)) none)) none)) none) (K1 x1)
def qh0 (D:DX)(n:Nat) (K0:Bool→tSch→Option ((Bool×Unit)×Unit)) (K1:tSch→Option ((Bool×Unit)×Unit)):Nat→(Int)→(tSch)→Option ((Bool×Unit)×Unit) | 0=>(fun x0 x1=>none) | m+1=>(fun x0 x1=>qtl D n (qh0 D n K0 K1 m) K0 K1 x0 x1)
def qy7 (D:DX)(n:Nat) (v0_0:Bool) (v0_1:tSch):Option ((Bool×Unit)×Unit):=some ((v0_0,()),())
def qud (D:DX)(n:Nat) (go:Int→tSch→Option ((Bool×Unit)×Unit)) (K0:Bool→Option ((Bool×Unit)×Unit)) (K1:Option ((Bool×Unit)×Unit)) (x1_0:Int) (x1_1:tSch):Option ((Bool×Unit)×Unit):=br (decide (x1_0<(↑(List.length (Prod.fst (Prod.snd x1_1))):Int))) (br (decide (0≤x1_0)&&decide (x1_0<(↑(List.length (Prod.fst (Prod.snd x1_1))):Int))) (br (decide (0≤List.getD (Prod.fst (Prod.snd x1_1)) (Int.toNat x1_0) 0)&&decide (List.getD (Prod.fst (Prod.snd x1_1)) (Int.toNat x1_0) 0<(↑(List.length (Prod.fst x1_1)):Int))) (br (Prod.fst (Prod.snd (Prod.snd (List.getD (Prod.fst x1_1) (Int.toNat (List.getD (Prod.fst (Prod.snd x1_1)) (Int.toNat x1_0) 0)) (ByteArray.empty,0,false,()))))) (K0 false) (go (IntKind.wrap IntKind.i64 (x1_0+1)) x1_1)) none) none) K1
def qie (D:DX)(n:Nat) (K0:Bool→Option ((Bool×Unit)×Unit)) (K1:Option ((Bool×Unit)×Unit)):Nat→(Int)→(tSch)→Option ((Bool×Unit)×Unit) | 0=>(fun x1_0 x1_1=>none) | m+1=>(fun x1_0 x1_1=>qud D n (qie D n K0 K1 m) K0 K1 x1_0 x1_1)
def qyq (D:DX)(n:Nat) (v0_0:Bool):Option ((Bool×Unit)×Unit):=some ((v0_0,()),())
def qze (D:DX)(n:Nat):Option ((Bool×Unit)×Unit):=some ((true,()),())
def qsp (D:DX)(n:Nat):(Int)→(tSch)→Option ((Bool×Unit)×Unit):=(fun x1_0 x1_1=>qie D n (fun v0_0=>qyq D n v0_0) (qze D n) n x1_0 x1_1)
def qqy (D:DX)(n:Nat) (lp1:Int→tSch→Option ((Bool×Unit)×Unit)) (v1_0:tSch):Option ((Bool×Unit)×Unit):=qg (qgq D (↑(List.length (Prod.fst v1_0)):Int) 1 5) fun b↦br (!Prod.fst (Prod.fst b)) (some ((false,()),())) (qg (qnx D v1_0 (Prod.fst (Prod.snd v1_0)) 4) fun b↦br (!Prod.fst (Prod.fst b)) (some ((false,()),())) (qg (qsk D v1_0) fun b↦br (!Prod.fst (Prod.fst b)) (some ((false,()),())) (lp1 0 v1_0)))
def qrs (D:DX)(n:Nat):(Int)→(tSch)→Option ((Bool×Unit)×Unit):=(fun x0 x1=>qh0 D n (fun v0_0 v0_1=>qy7 D n v0_0 v0_1) (fun v1_0=>qqy D n (qsp D n) v1_0) n x0 x1)
def qux (D:DX)(n:Nat) (lp0:Int→tSch→Option ((Bool×Unit)×Unit)) (a0:tSch):Option ((Bool×Unit)×Unit):=lp0 0 a0
def qu6 (D:DX)(n:Nat) (a0:tSch):Option ((Bool×Unit)×Unit):=qux D n (qrs D n) a0
def qic (x0:Int) (x1:tSch):St:=stq 76 [(1,AV.addr 1 []),(3,avI x0)] [(1,Root.mk yS Mk.no x1 true)] 
def qll (v0_0:Bool) (v0_1:tSch):St:=stq 76 [(1,AV.addr 1 []),(2,AV.val Ty.bool v0_0)] [(1,Root.mk yS Mk.no v0_1 true)] 
def ql5 (v1_0:tSch):St:=stq 76 [(1,AV.addr 1 [])] [(1,Root.mk yS Mk.no v1_0 true)] 
def qh1 (x1_0:Int) (x1_1:tSch):St:=stq 76 [(1,AV.addr 1 []),(4,avI x1_0)] [(1,Root.mk yS Mk.no x1_1 true)] 
def ql0 (v0_0:Bool):St:=stq 76 [(2,AV.val Ty.bool v0_0)] [] 
def qlt:St:=stq 76 [] [] 
theorem qba7 (D:DX)(n:Nat) (m:Nat) (K:Ex→St→Option (Out ctx 112)) (x0:Int) (x1:tSch) :
 LQ qc D n 112 [.r,.l,.r,.l] (m+1) (qic x0 x1) K=qtl D n (fun x0 x1=>LQ qc D n 112 [.r,.l,.r,.l] m (qic x0 x1) K) (fun v0_0 v0_1=>K (Ex.ret) (qll v0_0 v0_1)) (fun v1_0=>K (Ex.exit 0) (ql5 v1_0)) x0 x1:=by kernel_rfl
theorem q01 (D:DX)(n:Nat) (K:Ex→St→Option (Out ctx 112)):∀ (m:Nat) (x0:Int) (x1:tSch),LQ qc D n 112 [.r,.l,.r,.l] m (qic x0 x1) K=qh0 D n (fun v0_0 v0_1=>K (Ex.ret) (qll v0_0 v0_1)) (fun v1_0=>K (Ex.exit 0) (ql5 v1_0)) m x0 x1
 | 0,x0,x1=>q8 ..
 | m+1,x0,x1=>by
  have ih:(fun x0 x1=>LQ qc D n 112 [.r,.l,.r,.l] m (qic x0 x1) K)=qh0 D n (fun v0_0 v0_1=>K (Ex.ret) (qll v0_0 v0_1)) (fun v1_0=>K (Ex.exit 0) (ql5 v1_0)) m:=by funext x0 x1;exact q01 D n K m x0 x1
  rw[qba7]
  rw[ih];rfl
theorem qbb3 (D:DX)(n:Nat) (m:Nat) (K:Ex→St→Option (Out ctx 112)) (x1_0:Int) (x1_1:tSch) :
 LQ qc D n 112 [.r,.r,.r,.l,.r,.l] (m+1) (qh1 x1_0 x1_1) K=qud D n (fun x1_0 x1_1=>LQ qc D n 112 [.r,.r,.r,.l,.r,.l] m (qh1 x1_0 x1_1) K) (fun v0_0=>K (Ex.ret) (ql0 v0_0)) (K (Ex.exit 2) (qlt)) x1_0 x1_1:=by kernel_rfl
theorem q0u (D:DX)(n:Nat) (K:Ex→St→Option (Out ctx 112)):∀ (m:Nat) (x1_0:Int) (x1_1:tSch),LQ qc D n 112 [.r,.r,.r,.l,.r,.l] m (qh1 x1_0 x1_1) K=qie D n (fun v0_0=>K (Ex.ret) (ql0 v0_0)) (K (Ex.exit 2) (qlt)) m x1_0 x1_1
 | 0,x1_0,x1_1=>q8 ..
 | m+1,x1_0,x1_1=>by
  have ih:(fun x1_0 x1_1=>LQ qc D n 112 [.r,.r,.r,.l,.r,.l] m (qh1 x1_0 x1_1) K)=qie D n (fun v0_0=>K (Ex.ret) (ql0 v0_0)) (K (Ex.exit 2) (qlt)) m:=by funext x1_0 x1_1;exact q0u D n K m x1_0 x1_1
  rw[qbb3]
  rw[ih];rfl
theorem q9k (D:DX)(n:Nat) (v0_0:Bool) :
 (CQ qc D n 112 [] [.r,.r,.r,.l,.r,.l] (qi qc 112)) (Ex.ret) (ql0 v0_0)=qyq D n v0_0:=by kernel_rfl
theorem q84 (D:DX)(n:Nat) :
 (CQ qc D n 112 [] [.r,.r,.r,.l,.r,.l] (qi qc 112)) (Ex.exit 2) (qlt)=qze D n:=by kernel_rfl
theorem q9e (D:DX)(n:Nat) (x1_0:Int) (x1_1:tSch) :
 LQ qc D n 112 [.r,.r,.r,.l,.r,.l] n (qh1 x1_0 x1_1) (CQ qc D n 112 [] [.r,.r,.r,.l,.r,.l] (qi qc 112))=qsp D n x1_0 x1_1:=by
 rw[q0u]
 simp only[q9k,q84]
 rfl
theorem q91 (D:DX)(n:Nat) (v0_0:Bool) (v0_1:tSch) :
 (CQ qc D n 112 [] [.r,.l,.r,.l] (qi qc 112)) (Ex.ret) (qll v0_0 v0_1)=qy7 D n v0_0 v0_1:=by kernel_rfl
theorem q9r (D:DX)(n:Nat) (v1_0:tSch) :
 (CQ qc D n 112 [] [.r,.l,.r,.l] (qi qc 112)) (Ex.exit 0) (ql5 v1_0)=qqy D n (fun x1_0 x1_1=>LQ qc D n 112 [.r,.r,.r,.l,.r,.l] n (qh1 x1_0 x1_1) (CQ qc D n 112 [] [.r,.r,.r,.l,.r,.l] (qi qc 112))) v1_0:=by kernel_rfl
theorem q9o (D:DX)(n:Nat) (x0:Int) (x1:tSch) :
 LQ qc D n 112 [.r,.l,.r,.l] n (qic x0 x1) (CQ qc D n 112 [] [.r,.l,.r,.l] (qi qc 112))=qrs D n x0 x1:=by
 rw[q01]
 simp only[q91,q9r,q9e]
 rfl
theorem qbef (D:DX)(n:Nat) (a0:tSch):rfC qc D n 112 (a0,())=qu6 D n a0:=by
 have h:rfC qc D n 112 (a0,())=qux D n (fun x0 x1=>LQ qc D n 112 [.r,.l,.r,.l] n (qic x0 x1) (CQ qc D n 112 [] [.r,.l,.r,.l] (qi qc 112))) a0:=by kernel_rfl
 rw[h]
 simp only[q9o]
 rfl

def q67 (D:DX)(n:Nat) (a0:List Int×Int×Int×Unit) (a1:Int):Option ((Bool×Unit)×tCur×Unit):=qg (qb9 D a0 a1) fun b↦some ((decide (Prod.fst (Prod.fst b)=0),()),Prod.fst (Prod.snd b),())
def qzn (D:DX)(n:Nat) (a0:List Int×Int×Int×Unit) (a1:Int):Option ((Bool×Unit)×tCur×Unit):=q67 D n a0 a1
theorem qbjn (D:DX)(n:Nat) (a0:List Int×Int×Int×Unit) (a1:Int):rfC qc D n 114 (a0,(a1,()))=qzn D n a0 a1:=by kernel_rfl

def q5w (D:DX)(n:Nat) (a0:List Int×Int×Int×Unit) (a1:Int):Option ((Int×Unit)×tCur×Unit):=br (decide (a1≤0)) (some ((0,()),a0,())) (br (decide (a1≤256)) (qg (qjk D a0) fun b↦br (decide (a1=0)) none (some ((Int.tmod (Prod.fst (Prod.fst b)) a1,()),Prod.fst (Prod.snd b),()))) (qg (qjk D a0) fun b↦qg (qjk D (Prod.fst (Prod.snd b))) fun b_1↦qg (qjk D (Prod.fst (Prod.snd b_1))) fun b_2↦qg (qjk D (Prod.fst (Prod.snd b_2))) fun b_3↦br (decide (a1=0)) none (some ((Int.tmod (IntKind.wrap IntKind.i64 (IntKind.wrap IntKind.i64 (IntKind.wrap IntKind.i64 (IntKind.wrap IntKind.i64 (Prod.fst (Prod.fst b) * 16777216)+IntKind.wrap IntKind.i64 (Prod.fst (Prod.fst b_1) * 65536))+IntKind.wrap IntKind.i64 (Prod.fst (Prod.fst b_2) * 256))+Prod.fst (Prod.fst b_3))) a1,()),Prod.fst (Prod.snd b_3),()))))
def qwz (D:DX)(n:Nat) (a0:List Int×Int×Int×Unit) (a1:Int):Option ((Int×Unit)×tCur×Unit):=q5w D n a0 a1
theorem qbg1 (D:DX)(n:Nat) (a0:List Int×Int×Int×Unit) (a1:Int):rfC qc D n 115 (a0,(a1,()))=qwz D n a0 a1:=by kernel_rfl

def qbcb (D:DX)(n:Nat) (a0:Int) (a1:Int) (a2:Int):Option ((Bool×Unit)×Unit):=some ((bif decide (a0≥a1) then decide (a0≤a2) else false,()),())
def q4h (D:DX)(n:Nat) (a0:Int) (a1:Int) (a2:Int):Option ((Bool×Unit)×Unit):=qbcb D n a0 a1 a2
theorem qbm2 (D:DX)(n:Nat) (a0:Int) (a1:Int) (a2:Int):rfC qc D n 117 (a0,(a1,(a2,())))=q4h D n a0 a1 a2:=by kernel_rfl


def quz (D:DX)(n:Nat) (go:qe→List Int→Int→qe→Option ((qe×Unit)×Unit)) (K0:qe→Option ((qe×Unit)×Unit)) (x0:qe) (x1:List Int) (x2:Int) (x3:qe):Option ((qe×Unit)×Unit):=br (decide (x2<(↑(List.length x1):Int))) (br (decide (0≤x2)&&decide (x2<(↑(List.length x1):Int))) (qg (qgq D (List.getD x1 (Int.toNat x2) 0) 0 (IntKind.wrap IntKind.i64 ((↑(List.length x0):Int) - 1))) fun b↦br (Prod.fst (Prod.fst b)) (br (decide (0≤x2)&&decide (x2<(↑(List.length x1):Int))) (br (decide (0≤List.getD x1 (Int.toNat x2) 0)&&decide (List.getD x1 (Int.toNat x2) 0<(↑(List.length x0):Int))) (br (decide (List.length x3+1≤qbj)) (go x0 x1 (IntKind.wrap IntKind.i64 (x2+1)) (x3++[List.getD x0 (Int.toNat (List.getD x1 (Int.toNat x2) 0)) (0,0,ByteArray.empty,())])) none) none) none) (go x0 x1 (IntKind.wrap IntKind.i64 (x2+1)) x3)) none) (K0 x3)
def qi0 (D:DX)(n:Nat) (K0:qe→Option ((qe×Unit)×Unit)):Nat→(qe)→(List Int)→(Int)→(qe)→Option ((qe×Unit)×Unit) | 0=>(fun x0 x1 x2 x3=>none) | m+1=>(fun x0 x1 x2 x3=>quz D n (qi0 D n K0 m) K0 x0 x1 x2 x3)
def q0y (D:DX)(n:Nat) (v0_0:qe):Option ((qe×Unit)×Unit):=some ((v0_0,()),())
def quc (D:DX)(n:Nat):(qe)→(List Int)→(Int)→(qe)→Option ((qe×Unit)×Unit):=(fun x0 x1 x2 x3=>qi0 D n (fun v0_0=>q0y D n v0_0) n x0 x1 x2 x3)
def qxi (D:DX)(n:Nat) (lp0:qe→List Int→Int→qe→Option ((qe×Unit)×Unit)) (a0:qe) (a1:List Int):Option ((qe×Unit)×Unit):=lp0 a0 a1 0 []
def qxw (D:DX)(n:Nat) (a0:qe) (a1:List Int):Option ((qe×Unit)×Unit):=qxi D n (quc D n) a0 a1
def qjg (x0:qe) (x1:List Int) (x2:Int) (x3:qe):St:=stq 33 [(0,AV.val (Ty.sl yV) x0),(1,AV.val (Ty.sl yI) x1),(5,AV.brw 5 [] 0),(6,avI x2)] [(5,Root.mk (Ty.sl yV) (Mk.own 0 (Mk.pr Mk.no (Mk.pr Mk.no (Mk.pr Mk.no Mk.no)))) x3 false)] 
def qmx (v0_0:qe):St:=stq 33 [(5,AV.brw 5 [] 0)] [(5,Root.mk (Ty.sl yV) (Mk.own 0 (Mk.pr Mk.no (Mk.pr Mk.no (Mk.pr Mk.no Mk.no)))) v0_0 false)] 
theorem qbdx (D:DX)(n:Nat) (m:Nat) (K:Ex→St→Option (Out ctx 119)) (x0:qe) (x1:List Int) (x2:Int) (x3:qe) :
 LQ qc D n 119 [.r,.r,.l,.r,.l] (m+1) (qjg x0 x1 x2 x3) K=quz D n (fun x0 x1 x2 x3=>LQ qc D n 119 [.r,.r,.l,.r,.l] m (qjg x0 x1 x2 x3) K) (fun v0_0=>K (Ex.exit 0) (qmx v0_0)) x0 x1 x2 x3:=by kernel_rfl
theorem q2p (D:DX)(n:Nat) (K:Ex→St→Option (Out ctx 119)):∀ (m:Nat) (x0:qe) (x1:List Int) (x2:Int) (x3:qe),LQ qc D n 119 [.r,.r,.l,.r,.l] m (qjg x0 x1 x2 x3) K=qi0 D n (fun v0_0=>K (Ex.exit 0) (qmx v0_0)) m x0 x1 x2 x3
 | 0,x0,x1,x2,x3=>q8 ..
 | m+1,x0,x1,x2,x3=>by
  have ih:(fun x0 x1 x2 x3=>LQ qc D n 119 [.r,.r,.l,.r,.l] m (qjg x0 x1 x2 x3) K)=qi0 D n (fun v0_0=>K (Ex.exit 0) (qmx v0_0)) m:=by funext x0 x1 x2 x3;exact q2p D n K m x0 x1 x2 x3
  rw[qbdx]
  rw[ih];rfl
theorem qba3 (D:DX)(n:Nat) (v0_0:qe) :
 (CQ qc D n 119 [] [.r,.r,.l,.r,.l] (qi qc 119)) (Ex.exit 0) (qmx v0_0)=q0y D n v0_0:=by kernel_rfl
theorem qbau (D:DX)(n:Nat) (x0:qe) (x1:List Int) (x2:Int) (x3:qe) :
 LQ qc D n 119 [.r,.r,.l,.r,.l] n (qjg x0 x1 x2 x3) (CQ qc D n 119 [] [.r,.r,.l,.r,.l] (qi qc 119))=quc D n x0 x1 x2 x3:=by
 rw[q2p]
 simp only[qba3]
 rfl
theorem qbgi (D:DX)(n:Nat) (a0:qe) (a1:List Int):rfC qc D n 119 (a0,(a1,()))=qxw D n a0 a1:=by
 have h:rfC qc D n 119 (a0,(a1,()))=qxi D n (fun x0 x1 x2 x3=>LQ qc D n 119 [.r,.r,.l,.r,.l] n (qjg x0 x1 x2 x3) (CQ qc D n 119 [] [.r,.r,.l,.r,.l] (qi qc 119))) a0 a1:=by kernel_rfl
 rw[h]
 simp only[qbau]
 rfl
















def qn9 (D:DX)(n:Nat) (go:Int→Int→List Int×Int×Int×Unit→tSch→tSch→List ByteArray→Option (((tSch)×Unit)×tCur×Unit)) (K0:Int→List Int×Int×Int×Unit→tSch→tSch→Option (((tSch)×Unit)×tCur×Unit)) (x0:Int) (x1:Int) (x2:List Int×Int×Int×Unit) (x3:tSch) (x4:tSch) (x5:List ByteArray):Option (((tSch)×Unit)×tCur×Unit):=br (decide (x1<x0)) (br (decide (0≤x1)&&decide (x1<(↑(List.length x5):Int))) (qg (qb9 D x2 3) fun b↦br (decide (x1>0)) (qg (qjo D (Prod.fst (Prod.snd b)) 2) fun b_1↦br (decide (List.length (Prod.fst x4)+1≤qbj)) (go x0 (IntKind.wrap IntKind.i64 (x1+1)) (Prod.fst (Prod.snd b_1)) x3 (Prod.fst x4++[(List.getD x5 (Int.toNat x1) ByteArray.empty,IntKind.wrap IntKind.i64 (1+Prod.fst (Prod.fst b)),Prod.fst (Prod.fst b_1),())],Prod.snd x4) x5) none) (br (decide (List.length (Prod.fst x4)+1≤qbj)) (go x0 (IntKind.wrap IntKind.i64 (x1+1)) (Prod.fst (Prod.snd b)) x3 (Prod.fst x4++[(List.getD x5 (Int.toNat x1) ByteArray.empty,IntKind.wrap IntKind.i64 (1+Prod.fst (Prod.fst b)),false,())],Prod.snd x4) x5) none)) none) (K0 x0 x2 x3 x4)
def qe9 (D:DX)(n:Nat) (K0:Int→List Int×Int×Int×Unit→tSch→tSch→Option (((tSch)×Unit)×tCur×Unit)):Nat→(Int)→(Int)→tCur→(tSch)→(tSch)→(List ByteArray)→Option (((tSch)×Unit)×tCur×Unit) | 0=>(fun x0 x1 x2 x3 x4 x5=>none) | m+1=>(fun x0 x1 x2 x3 x4 x5=>qn9 D n (qe9 D n K0 m) K0 x0 x1 x2 x3 x4 x5)
def qoa (D:DX)(n:Nat) (go:Int→Int→List Int×Int×Int×Unit→tSch→tSch→Option (((tSch)×Unit)×tCur×Unit)) (K0:List Int×Int×Int×Unit→tSch→tSch→Option (((tSch)×Unit)×tCur×Unit)) (x1_0:Int) (x1_1:Int) (x1_2:List Int×Int×Int×Unit) (x1_3:tSch) (x1_4:tSch):Option (((tSch)×Unit)×tCur×Unit):=qg (qb9 D x1_2 3) fun b↦br (decide (x1_1<Prod.fst (Prod.fst b))) (qg (qb9 D (Prod.fst (Prod.snd b)) (IntKind.wrap IntKind.i64 (x1_0 - 1))) fun b↦br (decide (0≤x1_1)&&decide (x1_1<(↑3:Int))) (qg (qjo D (Prod.fst (Prod.snd b)) 2) fun b_1↦qg (qjo D (Prod.fst (Prod.snd b_1)) 2) fun b_2↦br (Prod.fst (Prod.fst b_2)) (br (decide (x1_0=0)) none (br (decide (List.length (Prod.fst (Prod.snd (Prod.snd x1_4)))+1≤qbj)) (go x1_0 (IntKind.wrap IntKind.i64 (x1_1+1)) (Prod.fst (Prod.snd b_2)) x1_3 (Prod.fst x1_4,Prod.fst (Prod.snd x1_4),Prod.fst (Prod.snd (Prod.snd x1_4))++[(List.getD [ByteArray.mk #[UInt8.ofNat 120],ByteArray.mk #[UInt8.ofNat 121],ByteArray.mk #[UInt8.ofNat 122]] (Int.toNat x1_1) ByteArray.empty,[IntKind.wrap IntKind.i64 (1+Prod.fst (Prod.fst b))]++[Int.tmod (IntKind.wrap IntKind.i64 (IntKind.wrap IntKind.i64 (1+Prod.fst (Prod.fst b))+1)) x1_0],Prod.fst (Prod.fst b_1),())],Prod.snd (Prod.snd (Prod.snd x1_4)))) none)) (br (decide (List.length (Prod.fst (Prod.snd (Prod.snd x1_4)))+1≤qbj)) (go x1_0 (IntKind.wrap IntKind.i64 (x1_1+1)) (Prod.fst (Prod.snd b_2)) x1_3 (Prod.fst x1_4,Prod.fst (Prod.snd x1_4),Prod.fst (Prod.snd (Prod.snd x1_4))++[(List.getD [ByteArray.mk #[UInt8.ofNat 120],ByteArray.mk #[UInt8.ofNat 121],ByteArray.mk #[UInt8.ofNat 122]] (Int.toNat x1_1) ByteArray.empty,[IntKind.wrap IntKind.i64 (1+Prod.fst (Prod.fst b))],Prod.fst (Prod.fst b_1),())],Prod.snd (Prod.snd (Prod.snd x1_4)))) none)) none) (K0 (Prod.fst (Prod.snd b)) x1_3 x1_4)
def qfc (D:DX)(n:Nat) (K0:List Int×Int×Int×Unit→tSch→tSch→Option (((tSch)×Unit)×tCur×Unit)):Nat→(Int)→(Int)→tCur→(tSch)→(tSch)→Option (((tSch)×Unit)×tCur×Unit) | 0=>(fun x1_0 x1_1 x1_2 x1_3 x1_4=>none) | m+1=>(fun x1_0 x1_1 x1_2 x1_3 x1_4=>qoa D n (qfc D n K0 m) K0 x1_0 x1_1 x1_2 x1_3 x1_4)
def qis (D:DX)(n:Nat) (v0_0:List Int×Int×Int×Unit) (v0_1:tSch) (v0_2:tSch):Option (((tSch)×Unit)×tCur×Unit):=qg (qkg D v0_0 [2,3]) fun b↦br (decide (0≤0)&&decide (0<(↑(List.length (Prod.fst v0_2)):Int))) (some (((List.set (Prod.fst v0_2) 0 (Prod.fst (List.getD (Prod.fst v0_2) 0 (ByteArray.empty,0,false,())),Prod.fst (Prod.fst b),Prod.snd (Prod.snd (List.getD (Prod.fst v0_2) 0 (ByteArray.empty,0,false,())))),Prod.fst (Prod.snd v0_2),Prod.fst (Prod.snd (Prod.snd v0_2)),()),()),Prod.fst (Prod.snd b),())) none
def qjf (D:DX)(n:Nat):(Int)→(Int)→tCur→(tSch)→(tSch)→Option (((tSch)×Unit)×tCur×Unit):=(fun x1_0 x1_1 x1_2 x1_3 x1_4=>qfc D n (fun v0_0 v0_1 v0_2=>qis D n v0_0 v0_1 v0_2) n x1_0 x1_1 x1_2 x1_3 x1_4)
def qim (D:DX)(n:Nat) (lp1:Int→Int→List Int×Int×Int×Unit→tSch→tSch→Option (((tSch)×Unit)×tCur×Unit)) (v0_0:Int) (v0_1:List Int×Int×Int×Unit) (v0_2:tSch) (v0_3:tSch):Option (((tSch)×Unit)×tCur×Unit):=lp1 v0_0 0 v0_1 v0_2 (Prod.fst v0_3,[0],Prod.snd (Prod.snd v0_3))
def qna (D:DX)(n:Nat):(Int)→(Int)→tCur→(tSch)→(tSch)→(List ByteArray)→Option (((tSch)×Unit)×tCur×Unit):=(fun x0 x1 x2 x3 x4 x5=>qe9 D n (fun v0_0 v0_1 v0_2 v0_3=>qim D n (qjf D n) v0_0 v0_1 v0_2 v0_3) n x0 x1 x2 x3 x4 x5)
def qpj (D:DX)(n:Nat) (lp0:Int→Int→List Int×Int×Int×Unit→tSch→tSch→List ByteArray→Option (((tSch)×Unit)×tCur×Unit)) (a0:List Int×Int×Int×Unit):Option (((tSch)×Unit)×tCur×Unit):=qg (qb9 D a0 3) fun b↦lp0 (IntKind.wrap IntKind.i64 (2+Prod.fst (Prod.fst b))) 0 (Prod.fst (Prod.snd b)) ([],[],[],()) ([],[],[],()) [ByteArray.mk #[UInt8.ofNat 105,UInt8.ofNat 100],ByteArray.mk #[UInt8.ofNat 110,UInt8.ofNat 97,UInt8.ofNat 109,UInt8.ofNat 101],ByteArray.mk #[UInt8.ofNat 115,UInt8.ofNat 105,UInt8.ofNat 122,UInt8.ofNat 101],ByteArray.mk #[UInt8.ofNat 111,UInt8.ofNat 110]]
def qo8 (D:DX)(n:Nat) (a0:List Int×Int×Int×Unit):Option (((tSch)×Unit)×tCur×Unit):=qpj D n (qna D n) a0
def qfb (x0:Int) (x1:Int) (x2:List Int×Int×Int×Unit) (x3:tSch) (x4:tSch) (x5:List ByteArray):St:=stq 86 [(0,AV.addr 0 []),(2,AV.addr 2 []),(3,AV.addr 3 []),(4,AV.brw 4 [] 0),(5,avI x0),(6,avI x1)] [(0,Root.mk (Ty.pair (Ty.sl (Ty.int IntKind.u8)) (Ty.pair yI (Ty.pair yI Ty.unit))) Mk.no x2 true),(2,Root.mk yS (Mk.pr (Mk.own 0 (Mk.pr Mk.no (Mk.pr Mk.no (Mk.pr Mk.no Mk.no)))) (Mk.pr (Mk.own 0 Mk.no) (Mk.pr (Mk.own 0 (Mk.pr Mk.no (Mk.pr (Mk.own 0 Mk.no) (Mk.pr Mk.no Mk.no)))) Mk.no))) x3 true),(3,Root.mk yS (Mk.pr (Mk.own 0 (Mk.pr Mk.no (Mk.pr Mk.no (Mk.pr Mk.no Mk.no)))) (Mk.pr (Mk.own 0 Mk.no) (Mk.pr (Mk.own 0 (Mk.pr Mk.no (Mk.pr (Mk.own 0 Mk.no) (Mk.pr Mk.no Mk.no)))) Mk.no))) x4 true),(4,Root.mk (Ty.sl Ty.str) (Mk.own 0 Mk.no) x5 false)] 
def qiq (v0_0:Int) (v0_1:List Int×Int×Int×Unit) (v0_2:tSch) (v0_3:tSch):St:=stq 86 [(0,AV.addr 0 []),(2,AV.addr 2 []),(3,AV.addr 3 []),(5,avI v0_0)] [(0,Root.mk (Ty.pair (Ty.sl (Ty.int IntKind.u8)) (Ty.pair yI (Ty.pair yI Ty.unit))) Mk.no v0_1 true),(2,Root.mk yS (Mk.pr (Mk.own 0 (Mk.pr Mk.no (Mk.pr Mk.no (Mk.pr Mk.no Mk.no)))) (Mk.pr (Mk.own 0 Mk.no) (Mk.pr (Mk.own 0 (Mk.pr Mk.no (Mk.pr (Mk.own 0 Mk.no) (Mk.pr Mk.no Mk.no)))) Mk.no))) v0_2 true),(3,Root.mk yS (Mk.pr (Mk.own 0 (Mk.pr Mk.no (Mk.pr Mk.no (Mk.pr Mk.no Mk.no)))) (Mk.pr (Mk.own 0 Mk.no) (Mk.pr (Mk.own 0 (Mk.pr Mk.no (Mk.pr (Mk.own 0 Mk.no) (Mk.pr Mk.no Mk.no)))) Mk.no))) v0_3 true)] 
def qe8 (x1_0:Int) (x1_1:Int) (x1_2:List Int×Int×Int×Unit) (x1_3:tSch) (x1_4:tSch):St:=stq 86 [(0,AV.addr 0 []),(2,AV.addr 2 []),(3,AV.addr 3 []),(5,avI x1_0),(7,avI x1_1)] [(0,Root.mk (Ty.pair (Ty.sl (Ty.int IntKind.u8)) (Ty.pair yI (Ty.pair yI Ty.unit))) Mk.no x1_2 true),(2,Root.mk yS (Mk.pr (Mk.own 0 (Mk.pr Mk.no (Mk.pr Mk.no (Mk.pr Mk.no Mk.no)))) (Mk.pr (Mk.own 0 Mk.no) (Mk.pr (Mk.own 0 (Mk.pr Mk.no (Mk.pr (Mk.own 0 Mk.no) (Mk.pr Mk.no Mk.no)))) Mk.no))) x1_3 true),(3,Root.mk yS (Mk.pr (Mk.own 0 (Mk.pr Mk.no (Mk.pr Mk.no (Mk.pr Mk.no Mk.no)))) (Mk.pr (Mk.own 0 Mk.no) (Mk.pr (Mk.own 0 (Mk.pr Mk.no (Mk.pr (Mk.own 0 Mk.no) (Mk.pr Mk.no Mk.no)))) Mk.no))) x1_4 true)] 
def qig (v0_0:List Int×Int×Int×Unit) (v0_1:tSch) (v0_2:tSch):St:=stq 86 [(0,AV.addr 0 []),(2,AV.addr 2 []),(3,AV.addr 3 [])] [(0,Root.mk (Ty.pair (Ty.sl (Ty.int IntKind.u8)) (Ty.pair yI (Ty.pair yI Ty.unit))) Mk.no v0_0 true),(2,Root.mk yS (Mk.pr (Mk.own 0 (Mk.pr Mk.no (Mk.pr Mk.no (Mk.pr Mk.no Mk.no)))) (Mk.pr (Mk.own 0 Mk.no) (Mk.pr (Mk.own 0 (Mk.pr Mk.no (Mk.pr (Mk.own 0 Mk.no) (Mk.pr Mk.no Mk.no)))) Mk.no))) v0_1 true),(3,Root.mk yS (Mk.pr (Mk.own 0 (Mk.pr Mk.no (Mk.pr Mk.no (Mk.pr Mk.no Mk.no)))) (Mk.pr (Mk.own 0 Mk.no) (Mk.pr (Mk.own 0 (Mk.pr Mk.no (Mk.pr (Mk.own 0 Mk.no) (Mk.pr Mk.no Mk.no)))) Mk.no))) v0_2 true)] 
theorem q5h (D:DX)(n:Nat) (m:Nat) (K:Ex→St→Option (Out ctx 135)) (x0:Int) (x1:Int) (x2:List Int×Int×Int×Unit) (x3:tSch) (x4:tSch) (x5:List ByteArray) :
 LQ qc D n 135 [.r,.r,.r,.r,.l,.r,.l] (m+1) (qfb x0 x1 x2 x3 x4 x5) K=qn9 D n (fun x0 x1 x2 x3 x4 x5=>LQ qc D n 135 [.r,.r,.r,.r,.l,.r,.l] m (qfb x0 x1 x2 x3 x4 x5) K) (fun v0_0 v0_1 v0_2 v0_3=>K (Ex.exit 0) (qiq v0_0 v0_1 v0_2 v0_3)) x0 x1 x2 x3 x4 x5:=by kernel_rfl
theorem qum (D:DX)(n:Nat) (K:Ex→St→Option (Out ctx 135)):∀ (m:Nat) (x0:Int) (x1:Int) (x2:List Int×Int×Int×Unit) (x3:tSch) (x4:tSch) (x5:List ByteArray),LQ qc D n 135 [.r,.r,.r,.r,.l,.r,.l] m (qfb x0 x1 x2 x3 x4 x5) K=qe9 D n (fun v0_0 v0_1 v0_2 v0_3=>K (Ex.exit 0) (qiq v0_0 v0_1 v0_2 v0_3)) m x0 x1 x2 x3 x4 x5
 | 0,x0,x1,x2,x3,x4,x5=>q8 ..
 | m+1,x0,x1,x2,x3,x4,x5=>by
  have ih:(fun x0 x1 x2 x3 x4 x5=>LQ qc D n 135 [.r,.r,.r,.r,.l,.r,.l] m (qfb x0 x1 x2 x3 x4 x5) K)=qe9 D n (fun v0_0 v0_1 v0_2 v0_3=>K (Ex.exit 0) (qiq v0_0 v0_1 v0_2 v0_3)) m:=by funext x0 x1 x2 x3 x4 x5;exact qum D n K m x0 x1 x2 x3 x4 x5
  rw[q5h]
  rw[ih];rfl
theorem q5k (D:DX)(n:Nat) (m:Nat) (K:Ex→St→Option (Out ctx 135)) (x1_0:Int) (x1_1:Int) (x1_2:List Int×Int×Int×Unit) (x1_3:tSch) (x1_4:tSch) :
 LQ qc D n 135 [.r,.r,.r,.r,.r,.r,.l,.r,.l] (m+1) (qe8 x1_0 x1_1 x1_2 x1_3 x1_4) K=qoa D n (fun x1_0 x1_1 x1_2 x1_3 x1_4=>LQ qc D n 135 [.r,.r,.r,.r,.r,.r,.l,.r,.l] m (qe8 x1_0 x1_1 x1_2 x1_3 x1_4) K) (fun v0_0 v0_1 v0_2=>K (Ex.exit 2) (qig v0_0 v0_1 v0_2)) x1_0 x1_1 x1_2 x1_3 x1_4:=by kernel_rfl
theorem qun (D:DX)(n:Nat) (K:Ex→St→Option (Out ctx 135)):∀ (m:Nat) (x1_0:Int) (x1_1:Int) (x1_2:List Int×Int×Int×Unit) (x1_3:tSch) (x1_4:tSch),LQ qc D n 135 [.r,.r,.r,.r,.r,.r,.l,.r,.l] m (qe8 x1_0 x1_1 x1_2 x1_3 x1_4) K=qfc D n (fun v0_0 v0_1 v0_2=>K (Ex.exit 2) (qig v0_0 v0_1 v0_2)) m x1_0 x1_1 x1_2 x1_3 x1_4
 | 0,x1_0,x1_1,x1_2,x1_3,x1_4=>q8 ..
 | m+1,x1_0,x1_1,x1_2,x1_3,x1_4=>by
  have ih:(fun x1_0 x1_1 x1_2 x1_3 x1_4=>LQ qc D n 135 [.r,.r,.r,.r,.r,.r,.l,.r,.l] m (qe8 x1_0 x1_1 x1_2 x1_3 x1_4) K)=qfc D n (fun v0_0 v0_1 v0_2=>K (Ex.exit 2) (qig v0_0 v0_1 v0_2)) m:=by funext x1_0 x1_1 x1_2 x1_3 x1_4;exact qun D n K m x1_0 x1_1 x1_2 x1_3 x1_4
  rw[q5k]
  rw[ih];rfl
theorem q4c (D:DX)(n:Nat) (v0_0:List Int×Int×Int×Unit) (v0_1:tSch) (v0_2:tSch) :
 (CQ qc D n 135 [] [.r,.r,.r,.r,.r,.r,.l,.r,.l] (qi qc 135)) (Ex.exit 2) (qig v0_0 v0_1 v0_2)=qis D n v0_0 v0_1 v0_2:=by kernel_rfl
theorem q4i (D:DX)(n:Nat) (x1_0:Int) (x1_1:Int) (x1_2:List Int×Int×Int×Unit) (x1_3:tSch) (x1_4:tSch) :
 LQ qc D n 135 [.r,.r,.r,.r,.r,.r,.l,.r,.l] n (qe8 x1_0 x1_1 x1_2 x1_3 x1_4) (CQ qc D n 135 [] [.r,.r,.r,.r,.r,.r,.l,.r,.l] (qi qc 135))=qjf D n x1_0 x1_1 x1_2 x1_3 x1_4:=by
 rw[qun]
 simp only[q4c]
 rfl
theorem q4o (D:DX)(n:Nat) (v0_0:Int) (v0_1:List Int×Int×Int×Unit) (v0_2:tSch) (v0_3:tSch) :
 (CQ qc D n 135 [] [.r,.r,.r,.r,.l,.r,.l] (qi qc 135)) (Ex.exit 0) (qiq v0_0 v0_1 v0_2 v0_3)=qim D n (fun x1_0 x1_1 x1_2 x1_3 x1_4=>LQ qc D n 135 [.r,.r,.r,.r,.r,.r,.l,.r,.l] n (qe8 x1_0 x1_1 x1_2 x1_3 x1_4) (CQ qc D n 135 [] [.r,.r,.r,.r,.r,.r,.l,.r,.l] (qi qc 135))) v0_0 v0_1 v0_2 v0_3:=by kernel_rfl
theorem q39 (D:DX)(n:Nat) (x0:Int) (x1:Int) (x2:List Int×Int×Int×Unit) (x3:tSch) (x4:tSch) (x5:List ByteArray) :
 LQ qc D n 135 [.r,.r,.r,.r,.l,.r,.l] n (qfb x0 x1 x2 x3 x4 x5) (CQ qc D n 135 [] [.r,.r,.r,.r,.l,.r,.l] (qi qc 135))=qna D n x0 x1 x2 x3 x4 x5:=by
 rw[qum]
 simp only[q4o,q4i]
 rfl
theorem q7y (D:DX)(n:Nat) (a0:List Int×Int×Int×Unit):rfC qc D n 135 (a0,())=qo8 D n a0:=by
 have h:rfC qc D n 135 (a0,())=qpj D n (fun x0 x1 x2 x3 x4 x5=>LQ qc D n 135 [.r,.r,.r,.r,.l,.r,.l] n (qfb x0 x1 x2 x3 x4 x5) (CQ qc D n 135 [] [.r,.r,.r,.r,.l,.r,.l] (qi qc 135))) a0:=by kernel_rfl
 rw[h]
 simp only[q39]
 rfl
end
end Go.G


import Derived.Test.YtfafjngknkbngaaGreatAV3
set_option linter.unusedVariables false
set_option linter.unusedSimpArgs false
set_option linter.unusedSectionVars false
namespace Go.G
open Go Go.V
abbrev DX:=Den ctx
abbrev tVal:=Int×Int×ByteArray×Unit
abbrev qd:=List tVal
abbrev qe:=List qd
abbrev tIx:=ByteArray×List Int×Bool×Unit
abbrev tIxs:=List tIx
abbrev tCol:=ByteArray×Int×Bool×Unit
abbrev qn:=List tCol
abbrev tSch:=qn×List Int×tIxs×Unit
abbrev tWay:=ByteArray×ByteArray×Unit
abbrev avI:=AV.val (Ty.int IntKind.i64)
abbrev yI:=Ty.int IntKind.i64
abbrev yC:=Ty.pair Ty.str (Ty.pair yI (Ty.pair Ty.bool Ty.unit))
abbrev yX:=Ty.pair Ty.str (Ty.pair (Ty.sl yI) (Ty.pair Ty.bool Ty.unit))
abbrev yV:=Ty.pair yI (Ty.pair yI (Ty.pair Ty.str Ty.unit))
abbrev yS:=Ty.pair (Ty.sl yC) (Ty.pair (Ty.sl yI) (Ty.pair (Ty.sl yX) Ty.unit))
end Go.G
namespace Go.G
open Go Go.V
noncomputable def qy2 (D:Den ctx) (a0:(tSch)×qe×Unit) (a1:Int):Option ((Bool×Unit)×Unit):=D 9 (a0,(a1,()))
noncomputable def qv3 (D:Den ctx) (a0:(tSch)×qe×Unit) (a1:Int):Option ((List tWay×Unit)×Unit):=D 13 (a0,(a1,()))
noncomputable def q6s (D:Den ctx) (a0:(tSch)×qe×Unit):Option ((Bool×Unit)×Unit):=D 17 (a0,())
noncomputable def q4f (D:Den ctx) (a0:List tWay) (a1:ByteArray×ByteArray×Unit):Option ((List tWay×Unit)×Unit):=D 21 (a0,(a1,()))
noncomputable def qnp (D:Den ctx) (a0:tSch) (a1:qd):Option ((qd×Unit)×Unit):=D 23 (a0,(a1,()))
noncomputable def q7i (D:Den ctx) (a0:(tSch)×qe×Unit):Option ((Bool×Unit)×Unit):=D 41 (a0,())
noncomputable def q7f (D:Den ctx) (a0:(tSch)×qe×Unit) (a1:Int) (a2:qd):Option ((tWay×Bool×Unit)×Unit):=D 46 (a0,(a1,(a2,())))
noncomputable def q31 (D:Den ctx) (a0:List tWay) (a1:ByteArray×ByteArray×Unit):Option ((List tWay×Unit)×Unit):=D 48 (a0,(a1,()))
noncomputable def q14 (D:Den ctx) (a0:ByteArray×ByteArray×Unit) (a1:ByteArray×ByteArray×Unit):Option ((Bool×Unit)×Unit):=D 50 (a0,(a1,()))
noncomputable def q2a (D:Den ctx) (a0:ByteArray×ByteArray×Unit) (a1:ByteArray×ByteArray×Unit):Option ((Bool×Unit)×Unit):=D 51 (a0,(a1,()))
noncomputable def q3v (D:Den ctx) (a0:(tSch)×qe×Unit) (a1:Int):Option ((List tWay×Unit)×Unit):=D 52 (a0,(a1,()))
noncomputable def qui (D:Den ctx) (a0:(tSch)×qe×Unit) (a1:Int):Option ((Int×Unit)×Unit):=D 53 (a0,(a1,()))
noncomputable def qrs (D:Den ctx) (a0:qd) (a1:Int):Option ((Int×Unit)×Unit):=D 54 (a0,(a1,()))
noncomputable def qht (D:Den ctx) (a0:(tSch)×qe×Unit):Option ((((tSch)×qe×Unit)×Unit)×Unit):=D 55 (a0,())
noncomputable def qrw (D:Den ctx) (a0:qd):Option ((qd×Unit)×Unit):=D 56 (a0,())
noncomputable def quf (D:Den ctx) (a0:(tSch)×qe×Unit) (a1:(tSch)×qe×Unit):Option ((Bool×Unit)×Unit):=D 57 (a0,(a1,()))
noncomputable def qr5 (D:Den ctx) (a0:qd) (a1:qd):Option ((Bool×Unit)×Unit):=D 58 (a0,(a1,()))
noncomputable def qrd (D:Den ctx) (a0:(tSch)×qe×Unit) (a1:Int):Option ((Int×Unit)×((tSch)×qe×Unit)×Unit):=D 59 (a0,(a1,()))
noncomputable def qux (D:Den ctx) (a0:qd) (a1:Int):Option ((Int×Unit)×qd×Unit):=D 60 (a0,(a1,()))
noncomputable def qqi (D:Den ctx) (a0:List tWay) (a1:List tWay):Option ((Bool×Unit)×Unit):=D 62 (a0,(a1,()))
noncomputable def qy5 (D:Den ctx) (a0:List tWay) (a1:Int):Option ((Int×Unit)×List tWay×Unit):=D 63 (a0,(a1,()))
noncomputable def qrq (D:Den ctx) (a0:List tWay) (a1:Int):Option ((Int×Unit)×Unit):=D 64 (a0,(a1,()))
noncomputable def qf1 (D:Den ctx) (a0:Int) (a1:Int) (a2:Int):Option ((Bool×Unit)×Unit):=D 68 (a0,(a1,(a2,())))
noncomputable def qbad (D:Den ctx) (a0:tSch) (a1:Int) (a2:qd):Option ((tWay×Unit)×Unit):=D 69 (a0,(a1,(a2,())))
noncomputable def q69 (D:Den ctx) (a0:tSch) (a1:qd):Option ((Bool×Unit)×Unit):=D 77 (a0,(a1,()))
noncomputable def qwb (D:Den ctx) (a0:qd) (a1:qd):Option ((Bool×Unit)×Unit):=D 78 (a0,(a1,()))
noncomputable def qca (D:Den ctx) (a0:qe) (a1:Clo):Option ((Bool×Unit)×Unit):=D 79 (a0,(a1,()))
noncomputable def q8z (D:Den ctx) (a0:qd) (a1:(tSch)×qe×Unit) (a2:qd):Option ((Bool×Unit)×Unit):=D 80 (a0,(a1,(a2,())))
noncomputable def q6l (D:Den ctx) (a0:tSch) (a1:qd) (a2:qd):Option ((Bool×Unit)×Unit):=D 81 (a0,(a1,(a2,())))
noncomputable def qr2 (D:Den ctx) (a0:tSch):Option ((Bool×Unit)×Unit):=D 82 (a0,())
noncomputable def qec (D:Den ctx) (a0:qe) (a1:Clo):Option ((Int×Unit)×Unit):=D 86 (a0,(a1,()))
noncomputable def qgm (D:Den ctx) (a0:List tWay):Option ((List tWay×Unit)×Unit):=D 90 (a0,())
noncomputable def qfh (D:Den ctx) (a0:List tWay) (a1:Clo):Option ((Int×Unit)×Unit):=D 91 (a0,(a1,()))
noncomputable def q7l (D:Den ctx) (a0:ByteArray×ByteArray×Unit) (a1:ByteArray×ByteArray×Unit):Option ((Bool×Unit)×Unit):=D 92 (a0,(a1,()))
noncomputable def qla (D:Den ctx) (a0:qd) (a1:List Int):Option ((qd×Unit)×Unit):=D 94 (a0,(a1,()))
noncomputable def qyh (D:Den ctx) (a0:tSch) (a1:qd):Option ((Bool×Unit)×Unit):=D 100 (a0,(a1,()))
noncomputable def qm2 (D:Den ctx) (a0:tSch) (a1:qd):Option ((qd×Unit)×Unit):=D 102 (a0,(a1,()))
noncomputable def qwq (D:Den ctx) (a0:qd) (a1:qd):Option ((Bool×Unit)×Unit):=D 104 (a0,(a1,()))
noncomputable def q0e (D:Den ctx) (a0:tSch) (a1:qd) (a2:qd):Option ((Bool×Unit)×Unit):=D 111 (a0,(a1,(a2,())))
noncomputable def qr9 (D:Den ctx) (a0:tSch):Option ((Bool×Unit)×Unit):=D 112 (a0,())
noncomputable def qf0 (D:Den ctx) (a0:Int) (a1:Int) (a2:Int):Option ((Bool×Unit)×Unit):=D 117 (a0,(a1,(a2,())))
noncomputable def qou (D:Den ctx) (a0:qd):Option ((List Int×Unit)×Unit):=D 118 (a0,())
noncomputable def qk2 (D:Den ctx) (a0:qd) (a1:List Int):Option ((qd×Unit)×Unit):=D 119 (a0,(a1,()))
noncomputable def qx3 (D:Den ctx) (a0:tSch) (a1:Int):Option ((Int×Unit)×Unit):=D 120 (a0,(a1,()))
noncomputable def qwg (D:Den ctx) (a0:qe) (a1:Int):Option ((Int×Unit)×Unit):=D 121 (a0,(a1,()))
noncomputable def qtw (D:Den ctx) (a0:Int×Int×ByteArray×Unit) (a1:Int):Option ((Int×Unit)×Unit):=D 122 (a0,(a1,()))
noncomputable def qyd (D:Den ctx) (a0:tSch):Option (((tSch)×Unit)×Unit):=D 123 (a0,())
noncomputable def qwv (D:Den ctx) (a0:qe):Option ((qe×Unit)×Unit):=D 124 (a0,())
noncomputable def qtx (D:Den ctx) (a0:Int×Int×ByteArray×Unit):Option ((tVal×Unit)×Unit):=D 125 (a0,())
noncomputable def q0f (D:Den ctx) (a0:tSch) (a1:tSch):Option ((Bool×Unit)×Unit):=D 126 (a0,(a1,()))
noncomputable def qwi (D:Den ctx) (a0:qe) (a1:qe):Option ((Bool×Unit)×Unit):=D 127 (a0,(a1,()))
noncomputable def qua (D:Den ctx) (a0:Int×Int×ByteArray×Unit) (a1:Int×Int×ByteArray×Unit):Option ((Bool×Unit)×Unit):=D 128 (a0,(a1,()))
noncomputable def qup (D:Den ctx) (a0:tSch) (a1:Int):Option ((Int×Unit)×(tSch)×Unit):=D 129 (a0,(a1,()))
noncomputable def qs7 (D:Den ctx) (a0:qe) (a1:Int):Option ((Int×Unit)×qe×Unit):=D 130 (a0,(a1,()))
noncomputable def qev (D:Den ctx) (a0:Int):Option ((ByteArray×Unit)×Unit):=D 131 (a0,())
noncomputable def qz2 (D:Den ctx) (a0:ByteArray×ByteArray×Unit) (a1:ByteArray×ByteArray×Unit):Option ((Bool×Unit)×Unit):=D 134 (a0,(a1,()))
noncomputable def qor (D:Den ctx) (a0:qd):Option ((List Int×Unit)×Unit):=D 137 (a0,())
noncomputable def qt0 (D:Den ctx) (a0:Int×Int×ByteArray×Unit):Option ((Bool×Unit)×Unit):=D 139 (a0,())
noncomputable def qcd (D:Den ctx) (a0:qd) (a1:qd) (a2:Clo):Option ((Int×Unit)×Unit):=D 140 (a0,(a1,(a2,())))
noncomputable def q2c (D:Den ctx) (a0:Int×Int×ByteArray×Unit) (a1:Int×Int×ByteArray×Unit):Option ((Int×Unit)×Unit):=D 141 (a0,(a1,()))
noncomputable def qcs (D:Den ctx) (a0:tIxs) (a1:Clo):Option ((Bool×Unit)×Unit):=D 142 (a0,(a1,()))
noncomputable def q9y (D:Den ctx) (a0:ByteArray×List Int×Bool×Unit) (a1:qd) (a2:qd):Option ((Bool×Unit)×Unit):=D 143 (a0,(a1,(a2,())))
noncomputable def qeh (D:Den ctx) (a0:qd) (a1:Int×Int×ByteArray×Unit):Option ((Bool×Unit)×Unit):=D 144 (a0,(a1,()))
noncomputable def qe7 (D:Den ctx) (a0:qd) (a1:qd):Option ((Bool×Unit)×Unit):=D 145 (a0,(a1,()))
noncomputable def qpf (D:Den ctx) (a0:ByteArray):Option ((Bool×Unit)×Unit):=D 146 (a0,())
noncomputable def q6a (D:Den ctx) (a0:tSch) (a1:ByteArray):Option ((Int×Unit)×Unit):=D 147 (a0,(a1,()))
noncomputable def qr3 (D:Den ctx) (a0:tSch) (a1:List Int) (a2:Int):Option ((Bool×Unit)×Unit):=D 148 (a0,(a1,(a2,())))
noncomputable def q4y (D:Den ctx) (a0:ByteArray×List Int×Bool×Unit) (a1:ByteArray×List Int×Bool×Unit):Option ((Bool×Unit)×Unit):=D 149 (a0,(a1,()))
noncomputable def qh8 (D:Den ctx) (a0:List Int) (a1:Clo):Option ((Bool×Unit)×Unit):=D 150 (a0,(a1,()))
noncomputable def q5e (D:Den ctx) (a0:Int) (a1:tSch):Option ((Bool×Unit)×Unit):=D 151 (a0,(a1,()))
noncomputable def qt4 (D:Den ctx) (a0:Int×Int×ByteArray×Unit):Option ((Bool×Unit)×Unit):=D 158 (a0,())
noncomputable def q2p (D:Den ctx) (a0:qd) (a1:qd):Option ((Bool×Unit)×Unit):=D 159 (a0,(a1,()))
noncomputable def qpr (D:Den ctx) (a0:Int×Int×ByteArray×Unit) (a1:Int×Int×ByteArray×Unit):Option ((Bool×Unit)×Unit):=D 160 (a0,(a1,()))
noncomputable def qxm (D:Den ctx) (a0:Int×Int×ByteArray×Unit) (a1:Int×Int×ByteArray×Unit):Option ((Bool×Unit)×Unit):=D 161 (a0,(a1,()))
noncomputable def q1j (D:Den ctx) (a0:qd):Option ((Bool×Unit)×Unit):=D 165 (a0,())
noncomputable def qpd (D:Den ctx) (a0:ByteArray):Option ((Bool×Unit)×Unit):=D 166 (a0,())
noncomputable def q68 (D:Den ctx) (a0:tSch) (a1:ByteArray):Option ((Int×Unit)×Unit):=D 167 (a0,(a1,()))
noncomputable def qpq (D:Den ctx) (a0:tSch) (a1:List Int) (a2:Int):Option ((Bool×Unit)×Unit):=D 168 (a0,(a1,(a2,())))
noncomputable def qvh (D:Den ctx) (a0:tSch):Option ((Bool×Unit)×Unit):=D 169 (a0,())
noncomputable def qt9 (D:Den ctx) (a0:qd):Option ((Bool×Unit)×Unit):=D 172 (a0,())
noncomputable def qzu (D:Den ctx) (a0:Int×Int×ByteArray×Unit):Option ((List Int×Unit)×Unit):=D 173 (a0,())
noncomputable def q4a (D:Den ctx) (a0:qn) (a1:Int):Option ((Int×Unit)×Unit):=D 174 (a0,(a1,()))
noncomputable def qv5 (D:Den ctx) (a0:List Int) (a1:Int):Option ((Int×Unit)×Unit):=D 175 (a0,(a1,()))
noncomputable def qyp (D:Den ctx) (a0:tIxs) (a1:Int):Option ((Int×Unit)×Unit):=D 176 (a0,(a1,()))
noncomputable def q4q (D:Den ctx) (a0:qn):Option ((qn×Unit)×Unit):=D 177 (a0,())
noncomputable def qvy (D:Den ctx) (a0:List Int):Option ((List Int×Unit)×Unit):=D 178 (a0,())
noncomputable def qxz (D:Den ctx) (a0:tIxs):Option ((tIxs×Unit)×Unit):=D 179 (a0,())
noncomputable def q3x (D:Den ctx) (a0:qn) (a1:qn):Option ((Bool×Unit)×Unit):=D 180 (a0,(a1,()))
noncomputable def qv1 (D:Den ctx) (a0:List Int) (a1:List Int):Option ((Bool×Unit)×Unit):=D 181 (a0,(a1,()))
noncomputable def qz4 (D:Den ctx) (a0:tIxs) (a1:tIxs):Option ((Bool×Unit)×Unit):=D 182 (a0,(a1,()))
noncomputable def qyt (D:Den ctx) (a0:qn) (a1:Int):Option ((Int×Unit)×qn×Unit):=D 183 (a0,(a1,()))
noncomputable def qnh (D:Den ctx) (a0:List Int) (a1:Int):Option ((Int×Unit)×List Int×Unit):=D 184 (a0,(a1,()))
noncomputable def qun (D:Den ctx) (a0:tIxs) (a1:Int):Option ((Int×Unit)×tIxs×Unit):=D 185 (a0,(a1,()))
noncomputable def q2h (D:Den ctx) (a0:qd):Option ((Bool×Unit)×Unit):=D 191 (a0,())
noncomputable def qeg (D:Den ctx) (a0:tIxs) (a1:Clo):Option ((Int×Unit)×Unit):=D 193 (a0,(a1,()))
noncomputable def qfc (D:Den ctx) (a0:qd) (a1:Int×Int×ByteArray×Unit):Option ((Int×Unit)×Unit):=D 194 (a0,(a1,()))
noncomputable def qfi (D:Den ctx) (a0:qn) (a1:Clo):Option ((Int×Unit)×Unit):=D 195 (a0,(a1,()))
noncomputable def q86 (D:Den ctx) (a0:ByteArray×Int×Bool×Unit) (a1:ByteArray):Option ((Bool×Unit)×Unit):=D 196 (a0,(a1,()))
noncomputable def qkh (D:Den ctx) (a0:List Int) (a1:Int):Option ((Bool×Unit)×Unit):=D 197 (a0,(a1,()))
noncomputable def qj6 (D:Den ctx) (a0:List Int) (a1:Clo):Option ((Int×Unit)×Unit):=D 198 (a0,(a1,()))
noncomputable def qx7 (D:Den ctx) (a0:ByteArray×Int×Bool×Unit) (a1:Int):Option ((Int×Unit)×Unit):=D 201 (a0,(a1,()))
noncomputable def qtr (D:Den ctx) (a0:ByteArray×List Int×Bool×Unit) (a1:Int):Option ((Int×Unit)×Unit):=D 202 (a0,(a1,()))
noncomputable def qyx (D:Den ctx) (a0:ByteArray×Int×Bool×Unit):Option ((tCol×Unit)×Unit):=D 203 (a0,())
noncomputable def qtz (D:Den ctx) (a0:ByteArray×List Int×Bool×Unit):Option ((tIx×Unit)×Unit):=D 204 (a0,())
noncomputable def qzm (D:Den ctx) (a0:ByteArray×Int×Bool×Unit) (a1:ByteArray×Int×Bool×Unit):Option ((Bool×Unit)×Unit):=D 205 (a0,(a1,()))
noncomputable def qt8 (D:Den ctx) (a0:ByteArray×List Int×Bool×Unit) (a1:ByteArray×List Int×Bool×Unit):Option ((Bool×Unit)×Unit):=D 206 (a0,(a1,()))
noncomputable def qdk (D:Den ctx) (a0:qd) (a1:Clo):Option ((Bool×Unit)×Unit):=D 207 (a0,(a1,()))
noncomputable def q6c (D:Den ctx) (a0:Int×Int×ByteArray×Unit):Option ((Bool×Unit)×Unit):=D 208 (a0,())
noncomputable def qny (D:Den ctx) (a0:List Int) (a1:Int):Option ((Int×Unit)×Unit):=D 210 (a0,(a1,()))
noncomputable def qdy (D:Den ctx) (a0:qd) (a1:Clo):Option ((Int×Unit)×Unit):=D 213 (a0,(a1,()))
noncomputable def qse (D:Den ctx) (a0:qe) (a1:Int) (a2:qe):Option ((qe×Unit)×Unit):=D 88 (a0,(a1,(a2,())))
noncomputable def qci (D:Den ctx) (a0:List tWay) (a1:Int) (a2:List tWay):Option ((List tWay×Unit)×Unit):=D 93 (a0,(a1,(a2,())))
noncomputable def qsd (D:Den ctx) (a0:qe) (a1:Int) (a2:Int):Option ((qe×Unit)×Unit):=D 95 (a0,(a1,(a2,())))
noncomputable def q5n (D:Den ctx) (a0:ByteArray) (a1:ByteArray):Option ((Int×Unit)×Unit):=D 192 (a0,(a1,()))
end Go.G

namespace Go.G
set_option maxRecDepth 100000
set_option maxHeartbeats 0
open Go Go.V
noncomputable section
def qyj (D:DX)(n:Nat) (a0:(tSch)×qe×Unit) (a1:Int):Option ((Bool×Unit)×Unit):=qi (qui D a0 1048576) fun b↦br (decide (Prod.fst (Prod.fst b)<0)) (some ((true,()),())) (qi (qht D a0) fun b↦qi (q3v D ((Prod.fst (Prod.fst (Prod.fst (Prod.fst b))),Prod.fst (Prod.snd (Prod.fst (Prod.fst (Prod.fst b)))),Prod.fst (Prod.snd (Prod.snd (Prod.fst (Prod.fst (Prod.fst b))))),()),Prod.fst (Prod.snd (Prod.fst (Prod.fst b))),()) a1) fun b↦qi (qht D a0) fun b_1↦qi (qv3 D ((Prod.fst (Prod.fst (Prod.fst (Prod.fst b_1))),Prod.fst (Prod.snd (Prod.fst (Prod.fst (Prod.fst b_1)))),Prod.fst (Prod.snd (Prod.snd (Prod.fst (Prod.fst (Prod.fst b_1))))),()),Prod.fst (Prod.snd (Prod.fst (Prod.fst b_1))),()) a1) fun b_2↦qi (qqi D (Prod.fst (Prod.fst b_2)) (Prod.fst (Prod.fst b))) fun b_3↦br (!Prod.fst (Prod.fst b_3)) (some ((false,()),())) (qi (qht D a0) fun b_4↦qi (quf D ((Prod.fst (Prod.fst (Prod.fst (Prod.fst b_1))),Prod.fst (Prod.snd (Prod.fst (Prod.fst (Prod.fst b_1)))),Prod.fst (Prod.snd (Prod.snd (Prod.fst (Prod.fst (Prod.fst b_1))))),()),Prod.fst (Prod.snd (Prod.fst (Prod.fst b_1))),()) ((Prod.fst (Prod.fst (Prod.fst (Prod.fst b_4))),Prod.fst (Prod.snd (Prod.fst (Prod.fst (Prod.fst b_4)))),Prod.fst (Prod.snd (Prod.snd (Prod.fst (Prod.fst (Prod.fst b_4))))),()),Prod.fst (Prod.snd (Prod.fst (Prod.fst b_4))),())) fun b_5↦br (!Prod.fst (Prod.fst b_5)) (some ((false,()),())) (qi (qrd D ((Prod.fst (Prod.fst (Prod.fst (Prod.fst b_1))),Prod.fst (Prod.snd (Prod.fst (Prod.fst (Prod.fst b_1)))),Prod.fst (Prod.snd (Prod.snd (Prod.fst (Prod.fst (Prod.fst b_1))))),()),Prod.fst (Prod.snd (Prod.fst (Prod.fst b_1))),()) 1) fun b_6↦br (decide (Prod.fst (Prod.fst b_6)<0)) (some ((false,()),())) (qi (qqi D (Prod.fst (Prod.fst b_2)) (Prod.fst (Prod.fst b))) fun b_7↦br (!Prod.fst (Prod.fst b_7)) (some ((false,()),())) (qi (qy5 D (Prod.fst (Prod.fst b_2)) 1) fun b_8↦qi (qrq D (Prod.fst (Prod.snd b_8)) 1) fun b_9↦br (decide (Prod.fst (Prod.fst b_9)<0)) (some ((false,()),())) (br (Prod.fst (Prod.fst b_9) != Prod.fst (Prod.fst b_8)) (some ((false,()),())) (qi (qht D a0) fun b_10↦qi (qv3 D ((Prod.fst (Prod.fst (Prod.fst (Prod.fst b_10))),Prod.fst (Prod.snd (Prod.fst (Prod.fst (Prod.fst b_10)))),Prod.fst (Prod.snd (Prod.snd (Prod.fst (Prod.fst (Prod.fst b_10))))),()),Prod.fst (Prod.snd (Prod.fst (Prod.fst b_10))),()) a1) fun b_11↦qi (qqi D (Prod.fst (Prod.fst b_11)) (Prod.fst (Prod.fst b))) fun b↦br (!Prod.fst (Prod.fst b)) (some ((false,()),())) (qi (qrq D (Prod.fst (Prod.snd b_8)) 1) fun b↦br (decide (Prod.fst (Prod.fst b)<0)) (some ((false,()),())) (br (Prod.fst (Prod.fst b) != Prod.fst (Prod.fst b_8)) (some ((false,()),())) (some ((true,()),())))))))))))
def qp9 (D:DX)(n:Nat) (a0:(tSch)×qe×Unit) (a1:Int):Option ((Bool×Unit)×Unit):=qyj D n a0 a1
theorem q93 (D:DX)(n:Nat) (a0:(tSch)×
 qe×Unit) (a1:Int):rfC qc D n 9 (a0,(a1,()))=qp9 D n a0 a1:=by kernel_rfl

def q2r (D:DX)(n:Nat) (go:Int→qe→Int→Int→(tSch)×qe×Unit→List tWay→Option ((List tWay×Unit)×Unit)) (K0:List tWay→Option ((List tWay×Unit)×Unit)) (x0:Int) (x1:qe) (x2:Int) (x3:Int) (x4:(tSch)×qe×Unit) (x5:List tWay):Option ((List tWay×Unit)×Unit):=br (decide (x3<x2)) (br (decide (0≤x3)&&decide (x3<(↑(List.length x1):Int))) (qi (qbad D (Prod.fst x4) x0 (List.getD x1 (Int.toNat x3) [])) fun b↦qi (q4f D x5 (Prod.fst (Prod.fst b))) fun b↦go x0 x1 x2 (IntKind.wrap IntKind.i64 (x3+1)) x4 (Prod.fst (Prod.fst b))) none) (K0 x5)
def qk1 (D:DX)(n:Nat) (K0:List tWay→Option ((List tWay×Unit)×Unit)):Nat→(Int)→(qe)→(Int)→(Int)→((tSch)×qe×Unit)→(List tWay)→Option ((List tWay×Unit)×Unit) | 0=>(fun x0 x1 x2 x3 x4 x5=>none) | m+1=>(fun x0 x1 x2 x3 x4 x5=>q2r D n (qk1 D n K0 m) K0 x0 x1 x2 x3 x4 x5)
def qxn (D:DX)(n:Nat) (v0_0:List tWay):Option ((List tWay×Unit)×Unit):=some ((v0_0,()),())
def qzn (D:DX)(n:Nat):(Int)→(qe)→(Int)→(Int)→((tSch)×qe×Unit)→(List tWay)→Option ((List tWay×Unit)×Unit):=(fun x0 x1 x2 x3 x4 x5=>qk1 D n (fun v0_0=>qxn D n v0_0) n x0 x1 x2 x3 x4 x5)
def q32 (D:DX)(n:Nat) (lp0:Int→qe→Int→Int→(tSch)×qe×Unit→List tWay→Option ((List tWay×Unit)×Unit)) (a0:(tSch)×qe×Unit) (a1:Int):Option ((List tWay×Unit)×Unit):=qi (q6s D a0) fun b↦br (!Prod.fst (Prod.fst b)) (some (([],()),())) (qi (qf1 D a1 0 (IntKind.wrap IntKind.i64 ((↑(List.length (Prod.fst (Prod.snd (Prod.snd (Prod.fst a0))))):Int) - 1))) fun b↦br (!Prod.fst (Prod.fst b)) (some (([],()),())) (lp0 a1 (Prod.fst (Prod.snd a0)) (↑(List.length (Prod.fst (Prod.snd a0))):Int) 0 a0 []))
def q38 (D:DX)(n:Nat) (a0:(tSch)×qe×Unit) (a1:Int):Option ((List tWay×Unit)×Unit):=q32 D n (qzn D n) a0 a1
def qk3 (x0:Int) (x1:qe) (x2:Int) (x3:Int) (x4:(tSch)×qe×Unit) (x5:List tWay):St:=stq 39 [(1,avI x0),(2,AV.addr 2 []),(5,AV.brw 5 [] 0),(24,AV.val (Ty.sl (Ty.sl yV)) x1),(25,avI x2),(26,avI x3)] [(2,Root.mk (Ty.pair yS (Ty.pair (Ty.sl (Ty.sl yV)) Ty.unit)) Mk.no x4 true),(5,Root.mk (Ty.sl (Ty.pair Ty.str (Ty.pair Ty.str Ty.unit))) (Mk.own 0 (Mk.pr Mk.no (Mk.pr Mk.no Mk.no))) x5 false)] 
def qp0 (v0_0:List tWay):St:=stq 39 [(5,AV.brw 5 [] 0)] [(5,Root.mk (Ty.sl (Ty.pair Ty.str (Ty.pair Ty.str Ty.unit))) (Mk.own 0 (Mk.pr Mk.no (Mk.pr Mk.no Mk.no))) v0_0 false)] 
theorem qblo (D:DX)(n:Nat) (m:Nat) (K:Ex→St→Option (Out ctx 13)) (x0:Int) (x1:qe) (x2:Int) (x3:Int) (x4:(tSch)×
 qe×Unit) (x5:List tWay) :
 LQ qc D n 13 [.r,.r,.r,.l,.r,.l] (m+1) (qk3 x0 x1 x2 x3 x4 x5) K=q2r D n (fun x0 x1 x2 x3 x4 x5=>LQ qc D n 13 [.r,.r,.r,.l,.r,.l] m (qk3 x0 x1 x2 x3 x4 x5) K) (fun v0_0=>K (Ex.exit 0) (qp0 v0_0)) x0 x1 x2 x3 x4 x5:=by kernel_rfl
theorem q7u (D:DX)(n:Nat) (K:Ex→St→Option (Out ctx 13)):∀ (m:Nat) (x0:Int) (x1:qe) (x2:Int) (x3:Int) (x4:(tSch)×
 qe×Unit) (x5:List tWay),LQ qc D n 13 [.r,.r,.r,.l,.r,.l] m (qk3 x0 x1 x2 x3 x4 x5) K=qk1 D n (fun v0_0=>K (Ex.exit 0) (qp0 v0_0)) m x0 x1 x2 x3 x4 x5
 | 0,x0,x1,x2,x3,x4,x5=>qu ..
 | m+1,x0,x1,x2,x3,x4,x5=>by
  have ih:(fun x0 x1 x2 x3 x4 x5=>LQ qc D n 13 [.r,.r,.r,.l,.r,.l] m (qk3 x0 x1 x2 x3 x4 x5) K)=qk1 D n (fun v0_0=>K (Ex.exit 0) (qp0 v0_0)) m:=by funext x0 x1 x2 x3 x4 x5;exact q7u D n K m x0 x1 x2 x3 x4 x5
  rw[qblo]
  rw[ih];rfl
theorem qbii (D:DX)(n:Nat) (v0_0:List tWay) :
 (CQ qc D n 13 [] [.r,.r,.r,.l,.r,.l] (qh qc 13)) (Ex.exit 0) (qp0 v0_0)=qxn D n v0_0:=by kernel_rfl
theorem qbhr (D:DX)(n:Nat) (x0:Int) (x1:qe) (x2:Int) (x3:Int) (x4:(tSch)×
 qe×Unit) (x5:List tWay) :
 LQ qc D n 13 [.r,.r,.r,.l,.r,.l] n (qk3 x0 x1 x2 x3 x4 x5) (CQ qc D n 13 [] [.r,.r,.r,.l,.r,.l] (qh qc 13))=qzn D n x0 x1 x2 x3 x4 x5:=by
 rw[q7u]
 simp only[qbii]
 rfl
theorem qbo6 (D:DX)(n:Nat) (a0:(tSch)×
 qe×Unit) (a1:Int):rfC qc D n 13 (a0,(a1,()))=q38 D n a0 a1:=by
 have h:rfC qc D n 13 (a0,(a1,()))=q32 D n (fun x0 x1 x2 x3 x4 x5=>LQ qc D n 13 [.r,.r,.r,.l,.r,.l] n (qk3 x0 x1 x2 x3 x4 x5) (CQ qc D n 13 [] [.r,.r,.r,.l,.r,.l] (qh qc 13))) a0 a1:=by kernel_rfl
 rw[h]
 simp only[qbhr]
 rfl

def q39 (D:DX)(n:Nat) (go:qe→Int→Int→(tSch)×qe×Unit→Option ((Bool×Unit)×Unit)) (K0:Bool→(tSch)×qe×Unit→Option ((Bool×Unit)×Unit)) (K1:(tSch)×qe×Unit→Option ((Bool×Unit)×Unit)) (x0:qe) (x1:Int) (x2:Int) (x3:(tSch)×qe×Unit):Option ((Bool×Unit)×Unit):=br (decide (x2<x1)) (br (decide (0≤x2)&&decide (x2<(↑(List.length x0):Int))) (qi (q69 D (Prod.fst x3) (List.getD x0 (Int.toNat x2) [])) fun b↦br (!Prod.fst (Prod.fst b)) (K0 false x3) (br (decide (x2>0)) (br (decide (0≤IntKind.wrap IntKind.i64 (x2 - 1))&&decide (IntKind.wrap IntKind.i64 (x2 - 1)<(↑(List.length (Prod.fst (Prod.snd x3))):Int))) (qi (qnp D (Prod.fst x3) (List.getD (Prod.fst (Prod.snd x3)) (Int.toNat (IntKind.wrap IntKind.i64 (x2 - 1))) [])) fun b↦qi (qnp D (Prod.fst x3) (List.getD x0 (Int.toNat x2) [])) fun b_1↦qi (qwb D (Prod.fst (Prod.fst b)) (Prod.fst (Prod.fst b_1))) fun b↦br (!Prod.fst (Prod.fst b)) (K0 false x3) (br (decide (0≤0)&&decide (0≤x2)&&decide (x2≤(↑(List.length (Prod.fst (Prod.snd x3))):Int))) (qi (qca D (List.drop (Int.toNat 0) (List.take (Int.toNat x2) (Prod.fst (Prod.snd x3)))) (Clo.mk 80 [CapV.rptr (Ty.pair (Ty.pair (Ty.sl (Ty.pair Ty.str (Ty.pair (Ty.int IntKind.i64) (Ty.pair Ty.bool Ty.unit)))) (Ty.pair (Ty.sl (Ty.int IntKind.i64)) (Ty.pair (Ty.sl (Ty.pair Ty.str (Ty.pair (Ty.sl (Ty.int IntKind.i64)) (Ty.pair Ty.bool Ty.unit)))) Ty.unit))) (Ty.pair (Ty.sl (Ty.sl (Ty.pair (Ty.int IntKind.i64) (Ty.pair (Ty.int IntKind.i64) (Ty.pair Ty.str Ty.unit))))) Ty.unit)) x3,CapV.rptr (Ty.sl (Ty.pair (Ty.int IntKind.i64) (Ty.pair (Ty.int IntKind.i64) (Ty.pair Ty.str Ty.unit)))) (List.getD x0 (Int.toNat x2) [])])) fun b↦br (Prod.fst (Prod.fst b)) (K0 false x3) (go x0 x1 (IntKind.wrap IntKind.i64 (x2+1)) x3)) none)) none) (br (decide (0≤0)&&decide (0≤x2)&&decide (x2≤(↑(List.length (Prod.fst (Prod.snd x3))):Int))) (qi (qca D (List.drop (Int.toNat 0) (List.take (Int.toNat x2) (Prod.fst (Prod.snd x3)))) (Clo.mk 80 [CapV.rptr (Ty.pair (Ty.pair (Ty.sl (Ty.pair Ty.str (Ty.pair (Ty.int IntKind.i64) (Ty.pair Ty.bool Ty.unit)))) (Ty.pair (Ty.sl (Ty.int IntKind.i64)) (Ty.pair (Ty.sl (Ty.pair Ty.str (Ty.pair (Ty.sl (Ty.int IntKind.i64)) (Ty.pair Ty.bool Ty.unit)))) Ty.unit))) (Ty.pair (Ty.sl (Ty.sl (Ty.pair (Ty.int IntKind.i64) (Ty.pair (Ty.int IntKind.i64) (Ty.pair Ty.str Ty.unit))))) Ty.unit)) x3,CapV.rptr (Ty.sl (Ty.pair (Ty.int IntKind.i64) (Ty.pair (Ty.int IntKind.i64) (Ty.pair Ty.str Ty.unit)))) (List.getD x0 (Int.toNat x2) [])])) fun b↦br (Prod.fst (Prod.fst b)) (K0 false x3) (go x0 x1 (IntKind.wrap IntKind.i64 (x2+1)) x3)) none))) none) (K1 x3)
def ql2 (D:DX)(n:Nat) (K0:Bool→(tSch)×qe×Unit→Option ((Bool×Unit)×Unit)) (K1:(tSch)×qe×Unit→Option ((Bool×Unit)×Unit)):Nat→(qe)→(Int)→(Int)→((tSch)×qe×Unit)→Option ((Bool×Unit)×Unit) | 0=>(fun x0 x1 x2 x3=>none) | m+1=>(fun x0 x1 x2 x3=>q39 D n (ql2 D n K0 K1 m) K0 K1 x0 x1 x2 x3)
def q79 (D:DX)(n:Nat) (v0_0:Bool) (v0_1:(tSch)×qe×Unit):Option ((Bool×Unit)×Unit):=some ((v0_0,()),())
def qzk (D:DX)(n:Nat) (v1_0:(tSch)×qe×Unit):Option ((Bool×Unit)×Unit):=qi (qr2 D (Prod.fst v1_0)) fun b↦some ((bif Prod.fst (Prod.fst b) then decide ((↑(List.length (Prod.fst (Prod.snd v1_0))):Int)≤12) else false,()),())
def q2o (D:DX)(n:Nat):(qe)→(Int)→(Int)→((tSch)×qe×Unit)→Option ((Bool×Unit)×Unit):=(fun x0 x1 x2 x3=>ql2 D n (fun v0_0 v0_1=>q79 D n v0_0 v0_1) (fun v1_0=>qzk D n v1_0) n x0 x1 x2 x3)
def q6v (D:DX)(n:Nat) (lp0:qe→Int→Int→(tSch)×qe×Unit→Option ((Bool×Unit)×Unit)) (a0:(tSch)×qe×Unit):Option ((Bool×Unit)×Unit):=lp0 (Prod.fst (Prod.snd a0)) (↑(List.length (Prod.fst (Prod.snd a0))):Int) 0 a0
def q7a (D:DX)(n:Nat) (a0:(tSch)×qe×Unit):Option ((Bool×Unit)×Unit):=q6v D n (q2o D n) a0
def ql7 (x0:qe) (x1:Int) (x2:Int) (x3:(tSch)×qe×Unit):St:=stq 55 [(1,AV.addr 1 []),(6,AV.val (Ty.sl (Ty.sl yV)) x0),(7,avI x1),(8,avI x2)] [(1,Root.mk (Ty.pair yS (Ty.pair (Ty.sl (Ty.sl yV)) Ty.unit)) Mk.no x3 true)] 
def qry (v0_0:Bool) (v0_1:(tSch)×qe×Unit):St:=stq 55 [(1,AV.addr 1 []),(2,AV.val Ty.bool v0_0)] [(1,Root.mk (Ty.pair yS (Ty.pair (Ty.sl (Ty.sl yV)) Ty.unit)) Mk.no v0_1 true)] 
def qsa (v1_0:(tSch)×qe×Unit):St:=stq 55 [(1,AV.addr 1 [])] [(1,Root.mk (Ty.pair yS (Ty.pair (Ty.sl (Ty.sl yV)) Ty.unit)) Mk.no v1_0 true)] 
theorem qbmo (D:DX)(n:Nat) (m:Nat) (K:Ex→St→Option (Out ctx 17)) (x0:qe) (x1:Int) (x2:Int) (x3:(tSch)×
 qe×Unit) :
 LQ qc D n 17 [.r,.l,.r,.l] (m+1) (ql7 x0 x1 x2 x3) K=q39 D n (fun x0 x1 x2 x3=>LQ qc D n 17 [.r,.l,.r,.l] m (ql7 x0 x1 x2 x3) K) (fun v0_0 v0_1=>K (Ex.ret) (qry v0_0 v0_1)) (fun v1_0=>K (Ex.exit 0) (qsa v1_0)) x0 x1 x2 x3:=by kernel_rfl
theorem q9m (D:DX)(n:Nat) (K:Ex→St→Option (Out ctx 17)):∀ (m:Nat) (x0:qe) (x1:Int) (x2:Int) (x3:(tSch)×
 qe×Unit),LQ qc D n 17 [.r,.l,.r,.l] m (ql7 x0 x1 x2 x3) K=ql2 D n (fun v0_0 v0_1=>K (Ex.ret) (qry v0_0 v0_1)) (fun v1_0=>K (Ex.exit 0) (qsa v1_0)) m x0 x1 x2 x3
 | 0,x0,x1,x2,x3=>qu ..
 | m+1,x0,x1,x2,x3=>by
  have ih:(fun x0 x1 x2 x3=>LQ qc D n 17 [.r,.l,.r,.l] m (ql7 x0 x1 x2 x3) K)=ql2 D n (fun v0_0 v0_1=>K (Ex.ret) (qry v0_0 v0_1)) (fun v1_0=>K (Ex.exit 0) (qsa v1_0)) m:=by funext x0 x1 x2 x3;exact q9m D n K m x0 x1 x2 x3
  rw[qbmo]
  rw[ih];rfl
theorem qbkh (D:DX)(n:Nat) (v0_0:Bool) (v0_1:(tSch)×
 qe×Unit) :
 (CQ qc D n 17 [] [.r,.l,.r,.l] (qh qc 17)) (Ex.ret) (qry v0_0 v0_1)=q79 D n v0_0 v0_1:=by kernel_rfl
theorem qblr (D:DX)(n:Nat) (v1_0:(tSch)×
 qe×Unit) :
 (CQ qc D n 17 [] [.r,.l,.r,.l] (qh qc 17)) (Ex.exit 0) (qsa v1_0)=qzk D n v1_0:=by kernel_rfl
theorem qbk4 (D:DX)(n:Nat) (x0:qe) (x1:Int) (x2:Int) (x3:(tSch)×
 qe×Unit) :
 LQ qc D n 17 [.r,.l,.r,.l] n (ql7 x0 x1 x2 x3) (CQ qc D n 17 [] [.r,.l,.r,.l] (qh qc 17))=q2o D n x0 x1 x2 x3:=by
 rw[q9m]
 simp only[qbkh,qblr]
 rfl
theorem qbq4 (D:DX)(n:Nat) (a0:(tSch)×
 qe×Unit):rfC qc D n 17 (a0,())=q7a D n a0:=by
 have h:rfC qc D n 17 (a0,())=q6v D n (fun x0 x1 x2 x3=>LQ qc D n 17 [.r,.l,.r,.l] n (ql7 x0 x1 x2 x3) (CQ qc D n 17 [] [.r,.l,.r,.l] (qh qc 17))) a0:=by kernel_rfl
 rw[h]
 simp only[qbk4]
 rfl



def qbbk (D:DX)(n:Nat) (a0:List tWay) (a1:ByteArray×ByteArray×Unit):Option ((List tWay×Unit)×Unit):=qi (qgm D a0) fun b↦qi (qfh D a0 (Clo.mk 92 [CapV.rptr (Ty.pair Ty.str (Ty.pair Ty.str Ty.unit)) a1])) fun b_1↦br (decide (Prod.fst (Prod.fst b_1)<0)) (qi (qci D (Prod.fst (Prod.fst b)) (↑(List.length a0):Int) [a1]) fun b↦some ((Prod.fst (Prod.fst b),()),())) (br (decide (0≤Prod.fst (Prod.fst b_1))&&decide (Prod.fst (Prod.fst b_1)<(↑(List.length a0):Int))) (br (qlj (Ty.pair Ty.str (Ty.pair Ty.str Ty.unit)) (List.getD a0 (Int.toNat (Prod.fst (Prod.fst b_1))) (ByteArray.empty,ByteArray.empty,())) a1) (some ((Prod.fst (Prod.fst b),()),())) (qi (qci D (Prod.fst (Prod.fst b)) (Prod.fst (Prod.fst b_1)) [a1]) fun b↦some ((Prod.fst (Prod.fst b),()),()))) none)
def q33 (D:DX)(n:Nat) (a0:List tWay) (a1:ByteArray×ByteArray×Unit):Option ((List tWay×Unit)×Unit):=qbbk D n a0 a1
theorem qbpg (D:DX)(n:Nat) (a0:List tWay) (a1:ByteArray×ByteArray×Unit):rfC qc D n 21 (a0,(a1,()))=q33 D n a0 a1:=by kernel_rfl


def q7v (D:DX)(n:Nat) (a0:tSch) (a1:qd):Option ((qd×Unit)×Unit):=qi (qla D a1 (Prod.fst (Prod.snd a0))) fun b↦some ((Prod.fst (Prod.fst b),()),())
def qx2 (D:DX)(n:Nat) (a0:tSch) (a1:qd):Option ((qd×Unit)×Unit):=q7v D n a0 a1
theorem qbl1 (D:DX)(n:Nat) (a0:tSch) (a1:qd):rfC qc D n 23 (a0,(a1,()))=qx2 D n a0 a1:=by kernel_rfl









def q30 (D:DX)(n:Nat) (go:Int→Int→(tSch)×qe×Unit→Option ((Bool×Unit)×Unit)) (K0:Bool→Int→(tSch)×qe×Unit→Option ((Bool×Unit)×Unit)) (K1:Int→(tSch)×qe×Unit→Option ((Bool×Unit)×Unit)) (x1_0:Int) (x1_1:Int) (x1_2:(tSch)×qe×Unit):Option ((Bool×Unit)×Unit):=br (decide (x1_1<x1_0)) (br (decide (0≤x1_1)&&decide (x1_1<(↑(List.length (Prod.fst (Prod.snd x1_2))):Int))) (br (decide (0≤x1_0)&&decide (x1_0<(↑(List.length (Prod.fst (Prod.snd x1_2))):Int))) (qi (q0e D (Prod.fst x1_2) (List.getD (Prod.fst (Prod.snd x1_2)) (Int.toNat x1_1) []) (List.getD (Prod.fst (Prod.snd x1_2)) (Int.toNat x1_0) [])) fun b↦br (Prod.fst (Prod.fst b)) (K0 false x1_0 x1_2) (go x1_0 (IntKind.wrap IntKind.i64 (x1_1+1)) x1_2)) none) none) (K1 x1_0 x1_2)
def ql8 (D:DX)(n:Nat) (K0:Bool→Int→(tSch)×qe×Unit→Option ((Bool×Unit)×Unit)) (K1:Int→(tSch)×qe×Unit→Option ((Bool×Unit)×Unit)):Nat→(Int)→(Int)→((tSch)×qe×Unit)→Option ((Bool×Unit)×Unit) | 0=>(fun x1_0 x1_1 x1_2=>none) | m+1=>(fun x1_0 x1_1 x1_2=>q30 D n (ql8 D n K0 K1 m) K0 K1 x1_0 x1_1 x1_2)
def qx1 (D:DX)(n:Nat) (go:Int→(tSch)×qe×Unit→Option ((Bool×Unit)×Unit)) (K0:Bool→(tSch)×qe×Unit→Option ((Bool×Unit)×Unit)) (K1:(tSch)×qe×Unit→Option ((Bool×Unit)×Unit)) (v0_0:Bool) (v0_1:Int) (v0_2:(tSch)×qe×Unit):Option ((Bool×Unit)×Unit):=K0 v0_0 v0_2
def qrv (D:DX)(n:Nat) (go:Int→(tSch)×qe×Unit→Option ((Bool×Unit)×Unit)) (K0:Bool→(tSch)×qe×Unit→Option ((Bool×Unit)×Unit)) (K1:(tSch)×qe×Unit→Option ((Bool×Unit)×Unit)) (v1_0:Int) (v1_1:(tSch)×qe×Unit):Option ((Bool×Unit)×Unit):=go (IntKind.wrap IntKind.i64 (v1_0+1)) v1_1
def q01 (D:DX)(n:Nat) (go:Int→(tSch)×qe×Unit→Option ((Bool×Unit)×Unit)) (K0:Bool→(tSch)×qe×Unit→Option ((Bool×Unit)×Unit)) (K1:(tSch)×qe×Unit→Option ((Bool×Unit)×Unit)):(Int)→(Int)→((tSch)×qe×Unit)→Option ((Bool×Unit)×Unit):=(fun x1_0 x1_1 x1_2=>ql8 D n (fun v0_0 v0_1 v0_2=>qx1 D n go K0 K1 v0_0 v0_1 v0_2) (fun v1_0 v1_1=>qrv D n go K0 K1 v1_0 v1_1) n x1_0 x1_1 x1_2)
def q3t (D:DX)(n:Nat) (go:Int→(tSch)×qe×Unit→Option ((Bool×Unit)×Unit)) (K0:Bool→(tSch)×qe×Unit→Option ((Bool×Unit)×Unit)) (K1:(tSch)×qe×Unit→Option ((Bool×Unit)×Unit)) (lp1:Int→Int→(tSch)×qe×Unit→Option ((Bool×Unit)×Unit)) (x0:Int) (x1:(tSch)×qe×Unit):Option ((Bool×Unit)×Unit):=br (decide (x0<(↑(List.length (Prod.fst (Prod.snd x1))):Int))) (br (decide (0≤x0)&&decide (x0<(↑(List.length (Prod.fst (Prod.snd x1))):Int))) (qi (qyh D (Prod.fst x1) (List.getD (Prod.fst (Prod.snd x1)) (Int.toNat x0) [])) fun b↦br (!Prod.fst (Prod.fst b)) (K0 false x1) (br (decide (x0>0)) (br (decide (0≤IntKind.wrap IntKind.i64 (x0 - 1))&&decide (IntKind.wrap IntKind.i64 (x0 - 1)<(↑(List.length (Prod.fst (Prod.snd x1))):Int))) (qi (qm2 D (Prod.fst x1) (List.getD (Prod.fst (Prod.snd x1)) (Int.toNat (IntKind.wrap IntKind.i64 (x0 - 1))) [])) fun b↦br (decide (0≤x0)&&decide (x0<(↑(List.length (Prod.fst (Prod.snd x1))):Int))) (qi (qm2 D (Prod.fst x1) (List.getD (Prod.fst (Prod.snd x1)) (Int.toNat x0) [])) fun b_1↦qi (qwq D (Prod.fst (Prod.fst b)) (Prod.fst (Prod.fst b_1))) fun b↦br (!Prod.fst (Prod.fst b)) (K0 false x1) (lp1 x0 0 x1)) none) none) (lp1 x0 0 x1))) none) (K1 x1)
def qfj (D:DX)(n:Nat) (K0:Bool→(tSch)×qe×Unit→Option ((Bool×Unit)×Unit)) (K1:(tSch)×qe×Unit→Option ((Bool×Unit)×Unit)):Nat→(Int)→((tSch)×qe×Unit)→Option ((Bool×Unit)×Unit) | 0=>(fun x0 x1=>none) | m+1=>(fun x0 x1=>q3t D n (qfj D n K0 K1 m) K0 K1 (q01 D n (qfj D n K0 K1 m) K0 K1) x0 x1)
def qhe (D:DX)(n:Nat) (v0_0:Bool) (v0_1:(tSch)×qe×Unit):Option ((Bool×Unit)×Unit):=some ((v0_0,()),())
def qfp (D:DX)(n:Nat) (v1_0:(tSch)×qe×Unit):Option ((Bool×Unit)×Unit):=qi (qr9 D (Prod.fst v1_0)) fun b↦some ((bif Prod.fst (Prod.fst b) then decide ((↑(List.length (Prod.fst (Prod.snd v1_0))):Int)≤12) else false,()),())
def q2q (D:DX)(n:Nat):(Int)→((tSch)×qe×Unit)→Option ((Bool×Unit)×Unit):=(fun x0 x1=>qfj D n (fun v0_0 v0_1=>qhe D n v0_0 v0_1) (fun v1_0=>qfp D n v1_0) n x0 x1)
def q6e (D:DX)(n:Nat) (lp0:Int→(tSch)×qe×Unit→Option ((Bool×Unit)×Unit)) (a0:(tSch)×qe×Unit):Option ((Bool×Unit)×Unit):=lp0 0 a0
def q6k (D:DX)(n:Nat) (a0:(tSch)×qe×Unit):Option ((Bool×Unit)×Unit):=q6e D n (q2q D n) a0
def qf7 (x0:Int) (x1:(tSch)×qe×Unit):St:=stq 73 [(1,AV.addr 1 []),(3,avI x0)] [(1,Root.mk (Ty.pair yS (Ty.pair (Ty.sl (Ty.sl yV)) Ty.unit)) Mk.no x1 true)] 
def qg8 (v0_0:Bool) (v0_1:(tSch)×qe×Unit):St:=stq 73 [(1,AV.addr 1 []),(2,AV.val Ty.bool v0_0)] [(1,Root.mk (Ty.pair yS (Ty.pair (Ty.sl (Ty.sl yV)) Ty.unit)) Mk.no v0_1 true)] 
def qhd (v1_0:(tSch)×qe×Unit):St:=stq 73 [(1,AV.addr 1 [])] [(1,Root.mk (Ty.pair yS (Ty.pair (Ty.sl (Ty.sl yV)) Ty.unit)) Mk.no v1_0 true)] 
def qma (x1_0:Int) (x1_1:Int) (x1_2:(tSch)×qe×Unit):St:=stq 73 [(1,AV.addr 1 []),(3,avI x1_0),(4,avI x1_1)] [(1,Root.mk (Ty.pair yS (Ty.pair (Ty.sl (Ty.sl yV)) Ty.unit)) Mk.no x1_2 true)] 
def qrz (v0_0:Bool) (v0_1:Int) (v0_2:(tSch)×qe×Unit):St:=stq 73 [(1,AV.addr 1 []),(2,AV.val Ty.bool v0_0),(3,avI v0_1)] [(1,Root.mk (Ty.pair yS (Ty.pair (Ty.sl (Ty.sl yV)) Ty.unit)) Mk.no v0_2 true)] 
def qrt (v1_0:Int) (v1_1:(tSch)×qe×Unit):St:=stq 73 [(1,AV.addr 1 []),(3,avI v1_0)] [(1,Root.mk (Ty.pair yS (Ty.pair (Ty.sl (Ty.sl yV)) Ty.unit)) Mk.no v1_1 true)] 
theorem qbm3 (D:DX)(n:Nat) (m:Nat) (K:Ex→St→Option (Out ctx 41)) (x1_0:Int) (x1_1:Int) (x1_2:(tSch)×
 qe×Unit) :
 LQ qc D n 41 [.r,.l,.r,.l,.l,.r,.l,.l,.r,.r,.l] (m+1) (qma x1_0 x1_1 x1_2) K=q30 D n (fun x1_0 x1_1 x1_2=>LQ qc D n 41 [.r,.l,.r,.l,.l,.r,.l,.l,.r,.r,.l] m (qma x1_0 x1_1 x1_2) K) (fun v0_0 v0_1 v0_2=>K (Ex.ret) (qrz v0_0 v0_1 v0_2)) (fun v1_0 v1_1=>K (Ex.exit 2) (qrt v1_0 v1_1)) x1_0 x1_1 x1_2:=by kernel_rfl
theorem q85 (D:DX)(n:Nat) (K:Ex→St→Option (Out ctx 41)):∀ (m:Nat) (x1_0:Int) (x1_1:Int) (x1_2:(tSch)×
 qe×Unit),LQ qc D n 41 [.r,.l,.r,.l,.l,.r,.l,.l,.r,.r,.l] m (qma x1_0 x1_1 x1_2) K=ql8 D n (fun v0_0 v0_1 v0_2=>K (Ex.ret) (qrz v0_0 v0_1 v0_2)) (fun v1_0 v1_1=>K (Ex.exit 2) (qrt v1_0 v1_1)) m x1_0 x1_1 x1_2
 | 0,x1_0,x1_1,x1_2=>qu ..
 | m+1,x1_0,x1_1,x1_2=>by
  have ih:(fun x1_0 x1_1 x1_2=>LQ qc D n 41 [.r,.l,.r,.l,.l,.r,.l,.l,.r,.r,.l] m (qma x1_0 x1_1 x1_2) K)=ql8 D n (fun v0_0 v0_1 v0_2=>K (Ex.ret) (qrz v0_0 v0_1 v0_2)) (fun v1_0 v1_1=>K (Ex.exit 2) (qrt v1_0 v1_1)) m:=by funext x1_0 x1_1 x1_2;exact q85 D n K m x1_0 x1_1 x1_2
  rw[qbm3]
  rw[ih];rfl
theorem qblp (D:DX)(n:Nat) (m:Nat) (K:Ex→St→Option (Out ctx 41)) (v0_0:Bool) (v0_1:Int) (v0_2:(tSch)×
 qe×Unit) :
 (CQ qc D n 41 [.r,.l,.r,.l,.l] [.r,.l,.l,.r,.r,.l] (LK qc D n 41 [.r,.l,.r,.l] m K)) (Ex.ret) (qrz v0_0 v0_1 v0_2)=qx1 D n (fun x0 x1=>LQ qc D n 41 [.r,.l,.r,.l] m (qf7 x0 x1) K) (fun v0_0 v0_1=>K (Ex.ret) (qg8 v0_0 v0_1)) (fun v1_0=>K (Ex.exit 0) (qhd v1_0)) v0_0 v0_1 v0_2:=by kernel_rfl
theorem qblv (D:DX)(n:Nat) (m:Nat) (K:Ex→St→Option (Out ctx 41)) (v1_0:Int) (v1_1:(tSch)×
 qe×Unit) :
 (CQ qc D n 41 [.r,.l,.r,.l,.l] [.r,.l,.l,.r,.r,.l] (LK qc D n 41 [.r,.l,.r,.l] m K)) (Ex.exit 2) (qrt v1_0 v1_1)=qrv D n (fun x0 x1=>LQ qc D n 41 [.r,.l,.r,.l] m (qf7 x0 x1) K) (fun v0_0 v0_1=>K (Ex.ret) (qg8 v0_0 v0_1)) (fun v1_0=>K (Ex.exit 0) (qhd v1_0)) v1_0 v1_1:=by kernel_rfl
theorem qbj7 (D:DX)(n:Nat) (m:Nat) (K:Ex→St→Option (Out ctx 41)) (x1_0:Int) (x1_1:Int) (x1_2:(tSch)×
 qe×Unit) :
 LQ qc D n 41 [.r,.l,.r,.l,.l,.r,.l,.l,.r,.r,.l] n (qma x1_0 x1_1 x1_2) (CQ qc D n 41 [.r,.l,.r,.l,.l] [.r,.l,.l,.r,.r,.l] (LK qc D n 41 [.r,.l,.r,.l] m K))=q01 D n (fun x0 x1=>LQ qc D n 41 [.r,.l,.r,.l] m (qf7 x0 x1) K) (fun v0_0 v0_1=>K (Ex.ret) (qg8 v0_0 v0_1)) (fun v1_0=>K (Ex.exit 0) (qhd v1_0)) x1_0 x1_1 x1_2:=by
 rw[q85]
 simp only[qblp,qblv]
 rfl
theorem qbn5 (D:DX)(n:Nat) (m:Nat) (K:Ex→St→Option (Out ctx 41)) (x0:Int) (x1:(tSch)×
 qe×Unit) :
 LQ qc D n 41 [.r,.l,.r,.l] (m+1) (qf7 x0 x1) K=q3t D n (fun x0 x1=>LQ qc D n 41 [.r,.l,.r,.l] m (qf7 x0 x1) K) (fun v0_0 v0_1=>K (Ex.ret) (qg8 v0_0 v0_1)) (fun v1_0=>K (Ex.exit 0) (qhd v1_0)) (fun x1_0 x1_1 x1_2=>LQ qc D n 41 [.r,.l,.r,.l,.l,.r,.l,.l,.r,.r,.l] n (qma x1_0 x1_1 x1_2) (CQ qc D n 41 [.r,.l,.r,.l,.l] [.r,.l,.l,.r,.r,.l] (LK qc D n 41 [.r,.l,.r,.l] m K))) x0 x1:=by kernel_rfl
theorem q88 (D:DX)(n:Nat) (K:Ex→St→Option (Out ctx 41)):∀ (m:Nat) (x0:Int) (x1:(tSch)×
 qe×Unit),LQ qc D n 41 [.r,.l,.r,.l] m (qf7 x0 x1) K=qfj D n (fun v0_0 v0_1=>K (Ex.ret) (qg8 v0_0 v0_1)) (fun v1_0=>K (Ex.exit 0) (qhd v1_0)) m x0 x1
 | 0,x0,x1=>qu ..
 | m+1,x0,x1=>by
  have ih:(fun x0 x1=>LQ qc D n 41 [.r,.l,.r,.l] m (qf7 x0 x1) K)=qfj D n (fun v0_0 v0_1=>K (Ex.ret) (qg8 v0_0 v0_1)) (fun v1_0=>K (Ex.exit 0) (qhd v1_0)) m:=by funext x0 x1;exact q88 D n K m x0 x1
  rw[qbn5]
  simp only[qbj7]
  rw[ih];rfl
theorem qbl8 (D:DX)(n:Nat) (v0_0:Bool) (v0_1:(tSch)×
 qe×Unit) :
 (CQ qc D n 41 [] [.r,.l,.r,.l] (qh qc 41)) (Ex.ret) (qg8 v0_0 v0_1)=qhe D n v0_0 v0_1:=by kernel_rfl
theorem qbkw (D:DX)(n:Nat) (v1_0:(tSch)×
 qe×Unit) :
 (CQ qc D n 41 [] [.r,.l,.r,.l] (qh qc 41)) (Ex.exit 0) (qhd v1_0)=qfp D n v1_0:=by kernel_rfl
theorem qbk3 (D:DX)(n:Nat) (x0:Int) (x1:(tSch)×
 qe×Unit) :
 LQ qc D n 41 [.r,.l,.r,.l] n (qf7 x0 x1) (CQ qc D n 41 [] [.r,.l,.r,.l] (qh qc 41))=q2q D n x0 x1:=by
 rw[q88]
 simp only[qbl8,qbkw]
 rfl
theorem qbrh (D:DX)(n:Nat) (a0:(tSch)×
 qe×Unit):rfC qc D n 41 (a0,())=q6k D n a0:=by
 have h:rfC qc D n 41 (a0,())=q6e D n (fun x0 x1=>LQ qc D n 41 [.r,.l,.r,.l] n (qf7 x0 x1) (CQ qc D n 41 [] [.r,.l,.r,.l] (qh qc 41))) a0:=by kernel_rfl
 rw[h]
 simp only[qbk3]
 rfl

def qbd1 (D:DX)(n:Nat) (a0:(tSch)×qe×Unit) (a1:Int) (a2:qd):Option ((tWay×Bool×Unit)×Unit):=qi (qyh D (Prod.fst a0) a2) fun b↦br (!Prod.fst (Prod.fst b)) (some (((ByteArray.empty,ByteArray.empty,()),false,()),())) (qi (qf0 D a1 0 (IntKind.wrap IntKind.i64 ((↑(List.length (Prod.fst (Prod.snd (Prod.snd (Prod.fst a0))))):Int) - 1))) fun b↦br (!Prod.fst (Prod.fst b)) (some (((ByteArray.empty,ByteArray.empty,()),false,()),())) (br (decide (0≤a1)&&decide (a1<(↑(List.length (Prod.fst (Prod.snd (Prod.snd (Prod.fst a0))))):Int))) (qi (qk2 D a2 (Prod.fst (Prod.snd (List.getD (Prod.fst (Prod.snd (Prod.snd (Prod.fst a0)))) (Int.toNat a1) (ByteArray.empty,[],false,()))))) fun b↦qi (qou D (Prod.fst (Prod.fst b))) fun b↦qi (qm2 D (Prod.fst a0) a2) fun b_1↦qi (qou D (Prod.fst (Prod.fst b_1))) fun b_2↦some (((ByteArray.mk (List.toArray (List.map (fun n↦UInt8.ofNat (Int.toNat n)) (Prod.fst (Prod.fst b)))),ByteArray.mk (List.toArray (List.map (fun n↦UInt8.ofNat (Int.toNat n)) (Prod.fst (Prod.fst b_2)))),()),true,()),())) none))
def q66 (D:DX)(n:Nat) (a0:(tSch)×qe×Unit) (a1:Int) (a2:qd):Option ((tWay×Bool×Unit)×Unit):=qbd1 D n a0 a1 a2
theorem qbr7 (D:DX)(n:Nat) (a0:(tSch)×
 qe×Unit) (a1:Int) (a2:qd):rfC qc D n 46 (a0,(a1,(a2,())))=q66 D n a0 a1 a2:=by kernel_rfl

def q06 (D:DX)(n:Nat) (go:List tWay→Int→ByteArray×ByteArray×Unit→Option ((List tWay×Unit)×Unit)) (K0:List tWay→Int→ByteArray×ByteArray×Unit→Option ((List tWay×Unit)×Unit)) (x0:List tWay) (x1:Int) (x2:ByteArray×ByteArray×Unit):Option ((List tWay×Unit)×Unit):=br (decide (x1<(↑(List.length x0):Int))) (br (decide (0≤x1)&&decide (x1<(↑(List.length x0):Int))) (qi (q2a D (List.getD x0 (Int.toNat x1) (ByteArray.empty,ByteArray.empty,())) x2) fun b↦br (Prod.fst (Prod.fst b)) (go x0 (IntKind.wrap IntKind.i64 (x1+1)) x2) (K0 x0 x1 x2)) none) (K0 x0 x1 x2)
def qk0 (D:DX)(n:Nat) (K0:List tWay→Int→ByteArray×ByteArray×Unit→Option ((List tWay×Unit)×Unit)):Nat→(List tWay)→(Int)→tWay→Option ((List tWay×Unit)×Unit) | 0=>(fun x0 x1 x2=>none) | m+1=>(fun x0 x1 x2=>q06 D n (qk0 D n K0 m) K0 x0 x1 x2)
def qim (D:DX)(n:Nat) (v0_0:List tWay) (v0_1:Int) (v0_2:ByteArray×ByteArray×Unit):Option ((List tWay×Unit)×Unit):=br (decide (v0_1<(↑(List.length v0_0):Int))) (br (decide (0≤v0_1)&&decide (v0_1<(↑(List.length v0_0):Int))) (br (qlj (Ty.pair Ty.str (Ty.pair Ty.str Ty.unit)) (List.getD v0_0 (Int.toNat v0_1) (ByteArray.empty,ByteArray.empty,())) v0_2) (br (decide (0+List.length v0_0≤qbc)) (some (([]++v0_0,()),())) none) (br (decide (0≤0)&&decide (0≤v0_1)&&decide (v0_1≤(↑(List.length v0_0):Int))) (br (decide (0+List.length (List.drop (Int.toNat 0) (List.take (Int.toNat v0_1) v0_0))≤qbc)) (br (decide (List.length ([]++List.drop (Int.toNat 0) (List.take (Int.toNat v0_1) v0_0))+1≤qbc)) (br (decide (0≤v0_1)&&decide (v0_1≤(↑(List.length v0_0):Int))&&decide ((↑(List.length v0_0):Int)≤(↑(List.length v0_0):Int))) (br (decide (List.length ([]++List.drop (Int.toNat 0) (List.take (Int.toNat v0_1) v0_0)++[v0_2])+List.length (List.drop (Int.toNat v0_1) (List.take (Int.toNat (↑(List.length v0_0):Int)) v0_0))≤qbc)) (some (([]++List.drop (Int.toNat 0) (List.take (Int.toNat v0_1) v0_0)++[v0_2]++List.drop (Int.toNat v0_1) (List.take (Int.toNat (↑(List.length v0_0):Int)) v0_0),()),())) none) none) none) none) none)) none) (br (decide (0≤0)&&decide (0≤v0_1)&&decide (v0_1≤(↑(List.length v0_0):Int))) (br (decide (0+List.length (List.drop (Int.toNat 0) (List.take (Int.toNat v0_1) v0_0))≤qbc)) (br (decide (List.length ([]++List.drop (Int.toNat 0) (List.take (Int.toNat v0_1) v0_0))+1≤qbc)) (br (decide (0≤v0_1)&&decide (v0_1≤(↑(List.length v0_0):Int))&&decide ((↑(List.length v0_0):Int)≤(↑(List.length v0_0):Int))) (br (decide (List.length ([]++List.drop (Int.toNat 0) (List.take (Int.toNat v0_1) v0_0)++[v0_2])+List.length (List.drop (Int.toNat v0_1) (List.take (Int.toNat (↑(List.length v0_0):Int)) v0_0))≤qbc)) (some (([]++List.drop (Int.toNat 0) (List.take (Int.toNat v0_1) v0_0)++[v0_2]++List.drop (Int.toNat v0_1) (List.take (Int.toNat (↑(List.length v0_0):Int)) v0_0),()),())) none) none) none) none) none)
def qzh (D:DX)(n:Nat):(List tWay)→(Int)→tWay→Option ((List tWay×Unit)×Unit):=(fun x0 x1 x2=>qk0 D n (fun v0_0 v0_1 v0_2=>qim D n v0_0 v0_1 v0_2) n x0 x1 x2)
def q36 (D:DX)(n:Nat) (lp0:List tWay→Int→ByteArray×ByteArray×Unit→Option ((List tWay×Unit)×Unit)) (a0:List tWay) (a1:ByteArray×ByteArray×Unit):Option ((List tWay×Unit)×Unit):=lp0 a0 0 a1
def q35 (D:DX)(n:Nat) (a0:List tWay) (a1:ByteArray×ByteArray×Unit):Option ((List tWay×Unit)×Unit):=q36 D n (qzh D n) a0 a1
def qk6 (x0:List tWay) (x1:Int) (x2:ByteArray×ByteArray×Unit):St:=stq 50 [(0,AV.val (Ty.sl (Ty.pair Ty.str (Ty.pair Ty.str Ty.unit))) x0),(3,AV.addr 3 []),(5,avI x1)] [(3,Root.mk (Ty.pair Ty.str (Ty.pair Ty.str Ty.unit)) Mk.no x2 true)] 
def qpe (v0_0:List tWay) (v0_1:Int) (v0_2:ByteArray×ByteArray×Unit):St:=stq 50 [(0,AV.val (Ty.sl (Ty.pair Ty.str (Ty.pair Ty.str Ty.unit))) v0_0),(3,AV.addr 3 []),(5,avI v0_1)] [(3,Root.mk (Ty.pair Ty.str (Ty.pair Ty.str Ty.unit)) Mk.no v0_2 true)] 
theorem qbki (D:DX)(n:Nat) (m:Nat) (K:Ex→St→Option (Out ctx 48)) (x0:List tWay) (x1:Int) (x2:ByteArray×ByteArray×Unit) :
 LQ qc D n 48 [.r,.r,.l,.l] (m+1) (qk6 x0 x1 x2) K=q06 D n (fun x0 x1 x2=>LQ qc D n 48 [.r,.r,.l,.l] m (qk6 x0 x1 x2) K) (fun v0_0 v0_1 v0_2=>K (Ex.exit 0) (qpe v0_0 v0_1 v0_2)) x0 x1 x2:=by kernel_rfl
theorem q7y (D:DX)(n:Nat) (K:Ex→St→Option (Out ctx 48)):∀ (m:Nat) (x0:List tWay) (x1:Int) (x2:ByteArray×ByteArray×Unit),LQ qc D n 48 [.r,.r,.l,.l] m (qk6 x0 x1 x2) K=qk0 D n (fun v0_0 v0_1 v0_2=>K (Ex.exit 0) (qpe v0_0 v0_1 v0_2)) m x0 x1 x2
 | 0,x0,x1,x2=>qu ..
 | m+1,x0,x1,x2=>by
  have ih:(fun x0 x1 x2=>LQ qc D n 48 [.r,.r,.l,.l] m (qk6 x0 x1 x2) K)=qk0 D n (fun v0_0 v0_1 v0_2=>K (Ex.exit 0) (qpe v0_0 v0_1 v0_2)) m:=by funext x0 x1 x2;exact q7y D n K m x0 x1 x2
  rw[qbki]
  rw[ih];rfl
theorem qbih (D:DX)(n:Nat) (v0_0:List tWay) (v0_1:Int) (v0_2:ByteArray×ByteArray×Unit) :
 (CQ qc D n 48 [] [.r,.r,.l,.l] (qh qc 48)) (Ex.exit 0) (qpe v0_0 v0_1 v0_2)=qim D n v0_0 v0_1 v0_2:=by kernel_rfl
theorem qbhq (D:DX)(n:Nat) (x0:List tWay) (x1:Int) (x2:ByteArray×ByteArray×Unit) :
 LQ qc D n 48 [.r,.r,.l,.l] n (qk6 x0 x1 x2) (CQ qc D n 48 [] [.r,.r,.l,.l] (qh qc 48))=qzh D n x0 x1 x2:=by
 rw[q7y]
 simp only[qbih]
 rfl
theorem qbpq (D:DX)(n:Nat) (a0:List tWay) (a1:ByteArray×ByteArray×Unit):rfC qc D n 48 (a0,(a1,()))=q35 D n a0 a1:=by
 have h:rfC qc D n 48 (a0,(a1,()))=q36 D n (fun x0 x1 x2=>LQ qc D n 48 [.r,.r,.l,.l] n (qk6 x0 x1 x2) (CQ qc D n 48 [] [.r,.r,.l,.l] (qh qc 48))) a0 a1:=by kernel_rfl
 rw[h]
 simp only[qbhq]
 rfl

def qboa (D:DX)(n:Nat) (a0:ByteArray×ByteArray×Unit) (a1:ByteArray×ByteArray×Unit):Option ((Bool×Unit)×Unit):=some ((bif Op.bytesLess (ByteArray.toList (Prod.fst a0)) (ByteArray.toList (Prod.fst a1)) then true else bif List.beq (ByteArray.toList (Prod.fst a0)) (ByteArray.toList (Prod.fst a1)) then Op.bytesLess (ByteArray.toList (Prod.fst (Prod.snd a0))) (ByteArray.toList (Prod.fst (Prod.snd a1))) else false,()),())
def q9q (D:DX)(n:Nat) (a0:ByteArray×ByteArray×Unit) (a1:ByteArray×ByteArray×Unit):Option ((Bool×Unit)×Unit):=qboa D n a0 a1
theorem qbnh (D:DX)(n:Nat) (a0:ByteArray×ByteArray×Unit) (a1:ByteArray×ByteArray×Unit):rfC qc D n 50 (a0,(a1,()))=q9q D n a0 a1:=by kernel_rfl

def qbn2 (D:DX)(n:Nat) (a0:ByteArray×ByteArray×Unit) (a1:ByteArray×ByteArray×Unit):Option ((Bool×Unit)×Unit):=some ((bif Op.bytesLess (ByteArray.toList (Prod.fst a0)) (ByteArray.toList (Prod.fst a1)) then true else bif List.beq (ByteArray.toList (Prod.fst a0)) (ByteArray.toList (Prod.fst a1)) then Op.bytesLess (ByteArray.toList (Prod.fst (Prod.snd a0))) (ByteArray.toList (Prod.fst (Prod.snd a1))) else false,()),())
def q9h (D:DX)(n:Nat) (a0:ByteArray×ByteArray×Unit) (a1:ByteArray×ByteArray×Unit):Option ((Bool×Unit)×Unit):=qbn2 D n a0 a1
theorem qbmt (D:DX)(n:Nat) (a0:ByteArray×ByteArray×Unit) (a1:ByteArray×ByteArray×Unit):rfC qc D n 51 (a0,(a1,()))=q9h D n a0 a1:=by kernel_rfl

def q19 (D:DX)(n:Nat) (go:Int→Int→(tSch)×qe×Unit→List tWay→Option ((List tWay×Unit)×Unit)) (K0:List tWay→Option ((List tWay×Unit)×Unit)) (x0:Int) (x1:Int) (x2:(tSch)×qe×Unit) (x3:List tWay):Option ((List tWay×Unit)×Unit):=br (decide (x1<(↑(List.length (Prod.fst (Prod.snd x2))):Int))) (qi (q7i D x2) fun b↦br (Prod.fst (Prod.fst b)) (br (decide (0≤x1)&&decide (x1<(↑(List.length (Prod.fst (Prod.snd x2))):Int))) (qi (q7f D x2 x0 (List.getD (Prod.fst (Prod.snd x2)) (Int.toNat x1) [])) fun b↦br (Prod.fst (Prod.snd (Prod.fst b))) (qi (q31 D x3 (Prod.fst (Prod.fst b))) fun b↦go x0 (IntKind.wrap IntKind.i64 (x1+1)) x2 (Prod.fst (Prod.fst b))) (go x0 (IntKind.wrap IntKind.i64 (x1+1)) x2 x3)) none) (K0 x3)) (K0 x3)
def qlb (D:DX)(n:Nat) (K0:List tWay→Option ((List tWay×Unit)×Unit)):Nat→(Int)→(Int)→((tSch)×qe×Unit)→(List tWay)→Option ((List tWay×Unit)×Unit) | 0=>(fun x0 x1 x2 x3=>none) | m+1=>(fun x0 x1 x2 x3=>q19 D n (qlb D n K0 m) K0 x0 x1 x2 x3)
def qxa (D:DX)(n:Nat) (v0_0:List tWay):Option ((List tWay×Unit)×Unit):=some ((v0_0,()),())
def qym (D:DX)(n:Nat):(Int)→(Int)→((tSch)×qe×Unit)→(List tWay)→Option ((List tWay×Unit)×Unit):=(fun x0 x1 x2 x3=>qlb D n (fun v0_0=>qxa D n v0_0) n x0 x1 x2 x3)
def q37 (D:DX)(n:Nat) (lp0:Int→Int→(tSch)×qe×Unit→List tWay→Option ((List tWay×Unit)×Unit)) (a0:(tSch)×qe×Unit) (a1:Int):Option ((List tWay×Unit)×Unit):=lp0 a1 0 a0 []
def q4o (D:DX)(n:Nat) (a0:(tSch)×qe×Unit) (a1:Int):Option ((List tWay×Unit)×Unit):=q37 D n (qym D n) a0 a1
def qkr (x0:Int) (x1:Int) (x2:(tSch)×qe×Unit) (x3:List tWay):St:=stq 37 [(1,avI x0),(2,AV.addr 2 []),(5,AV.brw 5 [] 0),(6,avI x1)] [(2,Root.mk (Ty.pair yS (Ty.pair (Ty.sl (Ty.sl yV)) Ty.unit)) Mk.no x2 true),(5,Root.mk (Ty.sl (Ty.pair Ty.str (Ty.pair Ty.str Ty.unit))) (Mk.own 0 (Mk.pr Mk.no (Mk.pr Mk.no Mk.no))) x3 false)] 
def qpz (v0_0:List tWay):St:=stq 37 [(5,AV.brw 5 [] 0)] [(5,Root.mk (Ty.sl (Ty.pair Ty.str (Ty.pair Ty.str Ty.unit))) (Mk.own 0 (Mk.pr Mk.no (Mk.pr Mk.no Mk.no))) v0_0 false)] 
theorem qbkj (D:DX)(n:Nat) (m:Nat) (K:Ex→St→Option (Out ctx 52)) (x0:Int) (x1:Int) (x2:(tSch)×
 qe×Unit) (x3:List tWay) :
 LQ qc D n 52 [.r,.r,.l,.r,.l] (m+1) (qkr x0 x1 x2 x3) K=q19 D n (fun x0 x1 x2 x3=>LQ qc D n 52 [.r,.r,.l,.r,.l] m (qkr x0 x1 x2 x3) K) (fun v0_0=>K (Ex.exit 0) (qpz v0_0)) x0 x1 x2 x3:=by kernel_rfl
theorem q71 (D:DX)(n:Nat) (K:Ex→St→Option (Out ctx 52)):∀ (m:Nat) (x0:Int) (x1:Int) (x2:(tSch)×
 qe×Unit) (x3:List tWay),LQ qc D n 52 [.r,.r,.l,.r,.l] m (qkr x0 x1 x2 x3) K=qlb D n (fun v0_0=>K (Ex.exit 0) (qpz v0_0)) m x0 x1 x2 x3
 | 0,x0,x1,x2,x3=>qu ..
 | m+1,x0,x1,x2,x3=>by
  have ih:(fun x0 x1 x2 x3=>LQ qc D n 52 [.r,.r,.l,.r,.l] m (qkr x0 x1 x2 x3) K)=qlb D n (fun v0_0=>K (Ex.exit 0) (qpz v0_0)) m:=by funext x0 x1 x2 x3;exact q71 D n K m x0 x1 x2 x3
  rw[qbkj]
  rw[ih];rfl
theorem qbho (D:DX)(n:Nat) (v0_0:List tWay) :
 (CQ qc D n 52 [] [.r,.r,.l,.r,.l] (qh qc 52)) (Ex.exit 0) (qpz v0_0)=qxa D n v0_0:=by kernel_rfl
theorem qbhv (D:DX)(n:Nat) (x0:Int) (x1:Int) (x2:(tSch)×
 qe×Unit) (x3:List tWay) :
 LQ qc D n 52 [.r,.r,.l,.r,.l] n (qkr x0 x1 x2 x3) (CQ qc D n 52 [] [.r,.r,.l,.r,.l] (qh qc 52))=qym D n x0 x1 x2 x3:=by
 rw[q71]
 simp only[qbho]
 rfl
theorem qbpx (D:DX)(n:Nat) (a0:(tSch)×
 qe×Unit) (a1:Int):rfC qc D n 52 (a0,(a1,()))=q4o D n a0 a1:=by
 have h:rfC qc D n 52 (a0,(a1,()))=q37 D n (fun x0 x1 x2 x3=>LQ qc D n 52 [.r,.r,.l,.r,.l] n (qkr x0 x1 x2 x3) (CQ qc D n 52 [] [.r,.r,.l,.r,.l] (qh qc 52))) a0 a1:=by kernel_rfl
 rw[h]
 simp only[qbhv]
 rfl

def q4w (D:DX)(n:Nat) (a0:(tSch)×qe×Unit) (a1:Int):Option ((Int×Unit)×Unit):=qi (qx3 D (Prod.fst a0) a1) fun b↦br (decide (Prod.fst (Prod.fst b)<0)) (some ((-1,()),())) (qi (qwg D (Prod.fst (Prod.snd a0)) (Prod.fst (Prod.fst b))) fun b↦br (decide (Prod.fst (Prod.fst b)<0)) (some ((-1,()),())) (some ((Prod.fst (Prod.fst b),()),())))
def qvm (D:DX)(n:Nat) (a0:(tSch)×qe×Unit) (a1:Int):Option ((Int×Unit)×Unit):=q4w D n a0 a1
theorem qbft (D:DX)(n:Nat) (a0:(tSch)×
 qe×Unit) (a1:Int):rfC qc D n 53 (a0,(a1,()))=qvm D n a0 a1:=by kernel_rfl

def qxd (D:DX)(n:Nat) (go:qd→Int→Int→Option ((Int×Unit)×Unit)) (K0:Int→Int→Option ((Int×Unit)×Unit)) (K1:Int→Option ((Int×Unit)×Unit)) (x0:qd) (x1:Int) (x2:Int):Option ((Int×Unit)×Unit):=br (decide (x2<(↑(List.length x0):Int))) (br (decide (0≤x2)&&decide (x2<(↑(List.length x0):Int))) (qi (qtw D (List.getD x0 (Int.toNat x2) (0,0,ByteArray.empty,())) x1) fun b↦br (decide (Prod.fst (Prod.fst b)<0)) (K0 (Prod.fst (Prod.fst b)) (-1)) (go x0 (Prod.fst (Prod.fst b)) (IntKind.wrap IntKind.i64 (x2+1)))) none) (K1 x1)
def qip (D:DX)(n:Nat) (K0:Int→Int→Option ((Int×Unit)×Unit)) (K1:Int→Option ((Int×Unit)×Unit)):Nat→(qd)→(Int)→(Int)→Option ((Int×Unit)×Unit) | 0=>(fun x0 x1 x2=>none) | m+1=>(fun x0 x1 x2=>qxd D n (qip D n K0 K1 m) K0 K1 x0 x1 x2)
def qsz (D:DX)(n:Nat) (v0_0:Int) (v0_1:Int):Option ((Int×Unit)×Unit):=some ((v0_1,()),())
def qsw (D:DX)(n:Nat) (v1_0:Int):Option ((Int×Unit)×Unit):=some ((v1_0,()),())
def qvj (D:DX)(n:Nat):(qd)→(Int)→(Int)→Option ((Int×Unit)×Unit):=(fun x0 x1 x2=>qip D n (fun v0_0 v0_1=>qsz D n v0_0 v0_1) (fun v1_0=>qsw D n v1_0) n x0 x1 x2)
def qz0 (D:DX)(n:Nat) (lp0:qd→Int→Int→Option ((Int×Unit)×Unit)) (a0:qd) (a1:Int):Option ((Int×Unit)×Unit):=br (decide (IntKind.wrap IntKind.i64 (a1 - (↑(List.length a0):Int))<0)) (some ((-1,()),())) (lp0 a0 (IntKind.wrap IntKind.i64 (a1 - (↑(List.length a0):Int))) 0)
def qza (D:DX)(n:Nat) (a0:qd) (a1:Int):Option ((Int×Unit)×Unit):=qz0 D n (qvj D n) a0 a1
def qik (x0:qd) (x1:Int) (x2:Int):St:=stq 27 [(0,AV.val (Ty.sl yV) x0),(1,avI x1),(5,avI x2)] [] 
def qm8 (v0_0:Int) (v0_1:Int):St:=stq 27 [(1,avI v0_0),(4,avI v0_1)] [] 
def qmn (v1_0:Int):St:=stq 27 [(1,avI v1_0)] [] 
theorem qbf0 (D:DX)(n:Nat) (m:Nat) (K:Ex→St→Option (Out ctx 54)) (x0:qd) (x1:Int) (x2:Int) :
 LQ qc D n 54 [.r,.r,.r,.l,.r,.l] (m+1) (qik x0 x1 x2) K=qxd D n (fun x0 x1 x2=>LQ qc D n 54 [.r,.r,.r,.l,.r,.l] m (qik x0 x1 x2) K) (fun v0_0 v0_1=>K (Ex.ret) (qm8 v0_0 v0_1)) (fun v1_0=>K (Ex.exit 0) (qmn v1_0)) x0 x1 x2:=by kernel_rfl
theorem q5o (D:DX)(n:Nat) (K:Ex→St→Option (Out ctx 54)):∀ (m:Nat) (x0:qd) (x1:Int) (x2:Int),LQ qc D n 54 [.r,.r,.r,.l,.r,.l] m (qik x0 x1 x2) K=qip D n (fun v0_0 v0_1=>K (Ex.ret) (qm8 v0_0 v0_1)) (fun v1_0=>K (Ex.exit 0) (qmn v1_0)) m x0 x1 x2
 | 0,x0,x1,x2=>qu ..
 | m+1,x0,x1,x2=>by
  have ih:(fun x0 x1 x2=>LQ qc D n 54 [.r,.r,.r,.l,.r,.l] m (qik x0 x1 x2) K)=qip D n (fun v0_0 v0_1=>K (Ex.ret) (qm8 v0_0 v0_1)) (fun v1_0=>K (Ex.exit 0) (qmn v1_0)) m:=by funext x0 x1 x2;exact q5o D n K m x0 x1 x2
  rw[qbf0]
  rw[ih];rfl
theorem qbcs (D:DX)(n:Nat) (v0_0:Int) (v0_1:Int) :
 (CQ qc D n 54 [] [.r,.r,.r,.l,.r,.l] (qh qc 54)) (Ex.ret) (qm8 v0_0 v0_1)=qsz D n v0_0 v0_1:=by kernel_rfl
theorem qbc0 (D:DX)(n:Nat) (v1_0:Int) :
 (CQ qc D n 54 [] [.r,.r,.r,.l,.r,.l] (qh qc 54)) (Ex.exit 0) (qmn v1_0)=qsw D n v1_0:=by kernel_rfl
theorem qbdt (D:DX)(n:Nat) (x0:qd) (x1:Int) (x2:Int) :
 LQ qc D n 54 [.r,.r,.r,.l,.r,.l] n (qik x0 x1 x2) (CQ qc D n 54 [] [.r,.r,.r,.l,.r,.l] (qh qc 54))=qvj D n x0 x1 x2:=by
 rw[q5o]
 simp only[qbcs,qbc0]
 rfl
theorem qblm (D:DX)(n:Nat) (a0:qd) (a1:Int):rfC qc D n 54 (a0,(a1,()))=qza D n a0 a1:=by
 have h:rfC qc D n 54 (a0,(a1,()))=qz0 D n (fun x0 x1 x2=>LQ qc D n 54 [.r,.r,.r,.l,.r,.l] n (qik x0 x1 x2) (CQ qc D n 54 [] [.r,.r,.r,.l,.r,.l] (qh qc 54))) a0 a1:=by kernel_rfl
 rw[h]
 simp only[qbdt]
 rfl

def q5c (D:DX)(n:Nat) (a0:(tSch)×qe×Unit):Option ((((tSch)×qe×Unit)×Unit)×Unit):=qi (qyd D (Prod.fst a0)) fun b↦qi (qwv D (Prod.fst (Prod.snd a0))) fun b_1↦some ((((Prod.fst (Prod.fst (Prod.fst b)),Prod.fst (Prod.snd (Prod.fst (Prod.fst b))),Prod.fst (Prod.snd (Prod.snd (Prod.fst (Prod.fst b)))),()),Prod.fst (Prod.fst b_1),()),()),())
def qvf (D:DX)(n:Nat) (a0:(tSch)×qe×Unit):Option ((((tSch)×qe×Unit)×Unit)×Unit):=q5c D n a0
theorem qbga (D:DX)(n:Nat) (a0:(tSch)×
 qe×Unit):rfC qc D n 55 (a0,())=qvf D n a0:=by kernel_rfl

def qw2 (D:DX)(n:Nat) (go:qd→Int→qd→Option ((qd×Unit)×Unit)) (K0:qd→Option ((qd×Unit)×Unit)) (x0:qd) (x1:Int) (x2:qd):Option ((qd×Unit)×Unit):=br (decide (x1<(↑(List.length x0):Int))) (br (decide (0≤x1)&&decide (x1<(↑(List.length x0):Int))) (qi (qtx D (List.getD x0 (Int.toNat x1) (0,0,ByteArray.empty,()))) fun b↦br (decide (0≤x1)&&decide (x1<(↑(List.length x2):Int))) (go x0 (IntKind.wrap IntKind.i64 (x1+1)) (List.set x2 (Int.toNat x1) (Prod.fst (Prod.fst b)))) none) none) (K0 x2)
def qiz (D:DX)(n:Nat) (K0:qd→Option ((qd×Unit)×Unit)):Nat→(qd)→(Int)→(qd)→Option ((qd×Unit)×Unit) | 0=>(fun x0 x1 x2=>none) | m+1=>(fun x0 x1 x2=>qw2 D n (qiz D n K0 m) K0 x0 x1 x2)
def qm4 (D:DX)(n:Nat) (v0_0:qd):Option ((qd×Unit)×Unit):=some ((v0_0,()),())
def quu (D:DX)(n:Nat):(qd)→(Int)→(qd)→Option ((qd×Unit)×Unit):=(fun x0 x1 x2=>qiz D n (fun v0_0=>qm4 D n v0_0) n x0 x1 x2)
def q0a (D:DX)(n:Nat) (lp0:qd→Int→qd→Option ((qd×Unit)×Unit)) (a0:qd):Option ((qd×Unit)×Unit):=br (decide (0≤(↑(List.length a0):Int))&&decide ((↑(List.length a0):Int)≤(↑(List.length a0):Int))&&decide ((↑(List.length a0):Int)≤(↑qbc:Int))) (lp0 a0 0 (List.replicate (Int.toNat (↑(List.length a0):Int)) (0,0,ByteArray.empty,()))) none
def qz5 (D:DX)(n:Nat) (a0:qd):Option ((qd×Unit)×Unit):=q0a D n (quu D n) a0
def qjh (x0:qd) (x1:Int) (x2:qd):St:=stq 23 [(0,AV.val (Ty.sl yV) x0),(3,AV.brw 3 [] 0),(4,avI x1)] [(3,Root.mk (Ty.sl yV) (Mk.own 0 (Mk.pr Mk.no (Mk.pr Mk.no (Mk.pr Mk.no Mk.no)))) x2 false)] 
def qmj (v0_0:qd):St:=stq 23 [(3,AV.brw 3 [] 0)] [(3,Root.mk (Ty.sl yV) (Mk.own 0 (Mk.pr Mk.no (Mk.pr Mk.no (Mk.pr Mk.no Mk.no)))) v0_0 false)] 
theorem qbfx (D:DX)(n:Nat) (m:Nat) (K:Ex→St→Option (Out ctx 56)) (x0:qd) (x1:Int) (x2:qd) :
 LQ qc D n 56 [.r,.r,.l,.r,.l] (m+1) (qjh x0 x1 x2) K=qw2 D n (fun x0 x1 x2=>LQ qc D n 56 [.r,.r,.l,.r,.l] m (qjh x0 x1 x2) K) (fun v0_0=>K (Ex.exit 0) (qmj v0_0)) x0 x1 x2:=by kernel_rfl
theorem q4u (D:DX)(n:Nat) (K:Ex→St→Option (Out ctx 56)):∀ (m:Nat) (x0:qd) (x1:Int) (x2:qd),LQ qc D n 56 [.r,.r,.l,.r,.l] m (qjh x0 x1 x2) K=qiz D n (fun v0_0=>K (Ex.exit 0) (qmj v0_0)) m x0 x1 x2
 | 0,x0,x1,x2=>qu ..
 | m+1,x0,x1,x2=>by
  have ih:(fun x0 x1 x2=>LQ qc D n 56 [.r,.r,.l,.r,.l] m (qjh x0 x1 x2) K)=qiz D n (fun v0_0=>K (Ex.exit 0) (qmj v0_0)) m:=by funext x0 x1 x2;exact q4u D n K m x0 x1 x2
  rw[qbfx]
  rw[ih];rfl
theorem qbeb (D:DX)(n:Nat) (v0_0:qd) :
 (CQ qc D n 56 [] [.r,.r,.l,.r,.l] (qh qc 56)) (Ex.exit 0) (qmj v0_0)=qm4 D n v0_0:=by kernel_rfl
theorem qbd9 (D:DX)(n:Nat) (x0:qd) (x1:Int) (x2:qd) :
 LQ qc D n 56 [.r,.r,.l,.r,.l] n (qjh x0 x1 x2) (CQ qc D n 56 [] [.r,.r,.l,.r,.l] (qh qc 56))=quu D n x0 x1 x2:=by
 rw[q4u]
 simp only[qbeb]
 rfl
theorem qbkx (D:DX)(n:Nat) (a0:qd):rfC qc D n 56 (a0,())=qz5 D n a0:=by
 have h:rfC qc D n 56 (a0,())=q0a D n (fun x0 x1 x2=>LQ qc D n 56 [.r,.r,.l,.r,.l] n (qjh x0 x1 x2) (CQ qc D n 56 [] [.r,.r,.l,.r,.l] (qh qc 56))) a0:=by kernel_rfl
 rw[h]
 simp only[qbd9]
 rfl

def q4v (D:DX)(n:Nat) (a0:(tSch)×qe×Unit) (a1:(tSch)×qe×Unit):Option ((Bool×Unit)×Unit):=qi (q0f D (Prod.fst a0) (Prod.fst a1)) fun b↦br (!Prod.fst (Prod.fst b)) (some ((false,()),())) (qi (qwi D (Prod.fst (Prod.snd a0)) (Prod.fst (Prod.snd a1))) fun b↦br (!Prod.fst (Prod.fst b)) (some ((false,()),())) (some ((true,()),())))
def qu9 (D:DX)(n:Nat) (a0:(tSch)×qe×Unit) (a1:(tSch)×qe×Unit):Option ((Bool×Unit)×Unit):=q4v D n a0 a1
theorem qbgf (D:DX)(n:Nat) (a0:(tSch)×
 qe×Unit) (a1:(tSch)×
 qe×Unit):rfC qc D n 57 (a0,(a1,()))=qu9 D n a0 a1:=by kernel_rfl

def qxr (D:DX)(n:Nat) (go:qd→qd→Int→Option ((Bool×Unit)×Unit)) (K0:Bool→Option ((Bool×Unit)×Unit)) (K1:Option ((Bool×Unit)×Unit)) (x0:qd) (x1:qd) (x2:Int):Option ((Bool×Unit)×Unit):=br (decide (x2<(↑(List.length x0):Int))) (br (decide (0≤x2)&&decide (x2<(↑(List.length x0):Int))) (br (decide (0≤x2)&&decide (x2<(↑(List.length x1):Int))) (qi (qua D (List.getD x0 (Int.toNat x2) (0,0,ByteArray.empty,())) (List.getD x1 (Int.toNat x2) (0,0,ByteArray.empty,()))) fun b↦br (!Prod.fst (Prod.fst b)) (K0 false) (go x0 x1 (IntKind.wrap IntKind.i64 (x2+1)))) none) none) K1
def qjc (D:DX)(n:Nat) (K0:Bool→Option ((Bool×Unit)×Unit)) (K1:Option ((Bool×Unit)×Unit)):Nat→(qd)→(qd)→(Int)→Option ((Bool×Unit)×Unit) | 0=>(fun x0 x1 x2=>none) | m+1=>(fun x0 x1 x2=>qxr D n (qjc D n K0 K1 m) K0 K1 x0 x1 x2)
def qmp (D:DX)(n:Nat) (v0_0:Bool):Option ((Bool×Unit)×Unit):=some ((v0_0,()),())
def qms (D:DX)(n:Nat):Option ((Bool×Unit)×Unit):=some ((true,()),())
def qug (D:DX)(n:Nat):(qd)→(qd)→(Int)→Option ((Bool×Unit)×Unit):=(fun x0 x1 x2=>qjc D n (fun v0_0=>qmp D n v0_0) (qms D n) n x0 x1 x2)
def qyl (D:DX)(n:Nat) (lp0:qd→qd→Int→Option ((Bool×Unit)×Unit)) (a0:qd) (a1:qd):Option ((Bool×Unit)×Unit):=br ((↑(List.length a0):Int) != (↑(List.length a1):Int)) (some ((false,()),())) (lp0 a0 a1 0)
def qy3 (D:DX)(n:Nat) (a0:qd) (a1:qd):Option ((Bool×Unit)×Unit):=qyl D n (qug D n) a0 a1
def qiw (x0:qd) (x1:qd) (x2:Int):St:=stq 27 [(0,AV.val (Ty.sl yV) x0),(1,AV.val (Ty.sl yV) x1),(5,avI x2)] [] 
def qmz (v0_0:Bool):St:=stq 27 [(4,AV.val Ty.bool v0_0)] [] 
def qmk:St:=stq 27 [] [] 
theorem qbf4 (D:DX)(n:Nat) (m:Nat) (K:Ex→St→Option (Out ctx 58)) (x0:qd) (x1:qd) (x2:Int) :
 LQ qc D n 58 [.r,.r,.l,.r,.l] (m+1) (qiw x0 x1 x2) K=qxr D n (fun x0 x1 x2=>LQ qc D n 58 [.r,.r,.l,.r,.l] m (qiw x0 x1 x2) K) (fun v0_0=>K (Ex.ret) (qmz v0_0)) (K (Ex.exit 0) (qmk)) x0 x1 x2:=by kernel_rfl
theorem q41 (D:DX)(n:Nat) (K:Ex→St→Option (Out ctx 58)):∀ (m:Nat) (x0:qd) (x1:qd) (x2:Int),LQ qc D n 58 [.r,.r,.l,.r,.l] m (qiw x0 x1 x2) K=qjc D n (fun v0_0=>K (Ex.ret) (qmz v0_0)) (K (Ex.exit 0) (qmk)) m x0 x1 x2
 | 0,x0,x1,x2=>qu ..
 | m+1,x0,x1,x2=>by
  have ih:(fun x0 x1 x2=>LQ qc D n 58 [.r,.r,.l,.r,.l] m (qiw x0 x1 x2) K)=qjc D n (fun v0_0=>K (Ex.ret) (qmz v0_0)) (K (Ex.exit 0) (qmk)) m:=by funext x0 x1 x2;exact q41 D n K m x0 x1 x2
  rw[qbf4]
  rw[ih];rfl
theorem qbei (D:DX)(n:Nat) (v0_0:Bool) :
 (CQ qc D n 58 [] [.r,.r,.l,.r,.l] (qh qc 58)) (Ex.ret) (qmz v0_0)=qmp D n v0_0:=by kernel_rfl
theorem qbc8 (D:DX)(n:Nat) :
 (CQ qc D n 58 [] [.r,.r,.l,.r,.l] (qh qc 58)) (Ex.exit 0) (qmk)=qms D n:=by kernel_rfl
theorem qbe0 (D:DX)(n:Nat) (x0:qd) (x1:qd) (x2:Int) :
 LQ qc D n 58 [.r,.r,.l,.r,.l] n (qiw x0 x1 x2) (CQ qc D n 58 [] [.r,.r,.l,.r,.l] (qh qc 58))=qug D n x0 x1 x2:=by
 rw[q41]
 simp only[qbei,qbc8]
 rfl
theorem qbk1 (D:DX)(n:Nat) (a0:qd) (a1:qd):rfC qc D n 58 (a0,(a1,()))=qy3 D n a0 a1:=by
 have h:rfC qc D n 58 (a0,(a1,()))=qyl D n (fun x0 x1 x2=>LQ qc D n 58 [.r,.r,.l,.r,.l] n (qiw x0 x1 x2) (CQ qc D n 58 [] [.r,.r,.l,.r,.l] (qh qc 58))) a0 a1:=by kernel_rfl
 rw[h]
 simp only[qbe0]
 rfl

def q0m (D:DX)(n:Nat) (a0:(tSch)×qe×Unit) (a1:Int):Option ((Int×Unit)×((tSch)×qe×Unit)×Unit):=qi (qup D (Prod.fst (Prod.fst a0),Prod.fst (Prod.snd (Prod.fst a0)),Prod.fst (Prod.snd (Prod.snd (Prod.fst a0))),()) a1) fun b↦qi (qs7 D (Prod.fst (Prod.snd a0)) (Prod.fst (Prod.fst b))) fun b_1↦some ((Prod.fst (Prod.fst b_1),()),((Prod.fst (Prod.fst (Prod.snd b)),Prod.fst (Prod.snd (Prod.fst (Prod.snd b))),Prod.fst (Prod.snd (Prod.snd (Prod.fst (Prod.snd b)))),()),Prod.fst (Prod.snd b_1),()),())
def qro (D:DX)(n:Nat) (a0:(tSch)×qe×Unit) (a1:Int):Option ((Int×Unit)×((tSch)×qe×Unit)×Unit):=q0m D n a0 a1
theorem qbcb (D:DX)(n:Nat) (a0:(tSch)×
 qe×Unit) (a1:Int):rfC qc D n 59 (a0,(a1,()))=qro D n a0 a1:=by kernel_rfl

def qsh (D:DX)(n:Nat) (go:Int→Int→qd→Option ((Int×Unit)×qd×Unit)) (K0:Int→qd→Option ((Int×Unit)×qd×Unit)) (x0:Int) (x1:Int) (x2:qd):Option ((Int×Unit)×qd×Unit):=br (decide (x1<(↑(List.length x2):Int))) (br (decide (0≤x1)&&decide (x1<(↑(List.length x2):Int))) (br (decide (0≤x1)&&decide (x1<(↑(List.length (List.set x2 (Int.toNat x1) (x0,Prod.snd (List.getD x2 (Int.toNat x1) (0,0,ByteArray.empty,()))))):Int))) (qi (qev D (IntKind.wrap IntKind.i64 (IntKind.wrap IntKind.i64 (x0+1)+1))) fun b↦br (decide (0≤x1)&&decide (x1<(↑(List.length (List.set (List.set x2 (Int.toNat x1) (x0,Prod.snd (List.getD x2 (Int.toNat x1) (0,0,ByteArray.empty,())))) (Int.toNat x1) (Prod.fst (List.getD (List.set x2 (Int.toNat x1) (x0,Prod.snd (List.getD x2 (Int.toNat x1) (0,0,ByteArray.empty,())))) (Int.toNat x1) (0,0,ByteArray.empty,())),IntKind.wrap IntKind.i64 (x0+1),Prod.snd (Prod.snd (List.getD (List.set x2 (Int.toNat x1) (x0,Prod.snd (List.getD x2 (Int.toNat x1) (0,0,ByteArray.empty,())))) (Int.toNat x1) (0,0,ByteArray.empty,())))))):Int))) (go (IntKind.wrap IntKind.i64 (IntKind.wrap IntKind.i64 (IntKind.wrap IntKind.i64 (x0+1)+1)+1)) (IntKind.wrap IntKind.i64 (x1+1)) (List.set (List.set (List.set x2 (Int.toNat x1) (x0,Prod.snd (List.getD x2 (Int.toNat x1) (0,0,ByteArray.empty,())))) (Int.toNat x1) (Prod.fst (List.getD (List.set x2 (Int.toNat x1) (x0,Prod.snd (List.getD x2 (Int.toNat x1) (0,0,ByteArray.empty,())))) (Int.toNat x1) (0,0,ByteArray.empty,())),IntKind.wrap IntKind.i64 (x0+1),Prod.snd (Prod.snd (List.getD (List.set x2 (Int.toNat x1) (x0,Prod.snd (List.getD x2 (Int.toNat x1) (0,0,ByteArray.empty,())))) (Int.toNat x1) (0,0,ByteArray.empty,()))))) (Int.toNat x1) (Prod.fst (List.getD (List.set (List.set x2 (Int.toNat x1) (x0,Prod.snd (List.getD x2 (Int.toNat x1) (0,0,ByteArray.empty,())))) (Int.toNat x1) (Prod.fst (List.getD (List.set x2 (Int.toNat x1) (x0,Prod.snd (List.getD x2 (Int.toNat x1) (0,0,ByteArray.empty,())))) (Int.toNat x1) (0,0,ByteArray.empty,())),IntKind.wrap IntKind.i64 (x0+1),Prod.snd (Prod.snd (List.getD (List.set x2 (Int.toNat x1) (x0,Prod.snd (List.getD x2 (Int.toNat x1) (0,0,ByteArray.empty,())))) (Int.toNat x1) (0,0,ByteArray.empty,()))))) (Int.toNat x1) (0,0,ByteArray.empty,())),Prod.fst (Prod.snd (List.getD (List.set (List.set x2 (Int.toNat x1) (x0,Prod.snd (List.getD x2 (Int.toNat x1) (0,0,ByteArray.empty,())))) (Int.toNat x1) (Prod.fst (List.getD (List.set x2 (Int.toNat x1) (x0,Prod.snd (List.getD x2 (Int.toNat x1) (0,0,ByteArray.empty,())))) (Int.toNat x1) (0,0,ByteArray.empty,())),IntKind.wrap IntKind.i64 (x0+1),Prod.snd (Prod.snd (List.getD (List.set x2 (Int.toNat x1) (x0,Prod.snd (List.getD x2 (Int.toNat x1) (0,0,ByteArray.empty,())))) (Int.toNat x1) (0,0,ByteArray.empty,()))))) (Int.toNat x1) (0,0,ByteArray.empty,()))),Prod.fst (Prod.fst b),Prod.snd (Prod.snd (Prod.snd (List.getD (List.set (List.set x2 (Int.toNat x1) (x0,Prod.snd (List.getD x2 (Int.toNat x1) (0,0,ByteArray.empty,())))) (Int.toNat x1) (Prod.fst (List.getD (List.set x2 (Int.toNat x1) (x0,Prod.snd (List.getD x2 (Int.toNat x1) (0,0,ByteArray.empty,())))) (Int.toNat x1) (0,0,ByteArray.empty,())),IntKind.wrap IntKind.i64 (x0+1),Prod.snd (Prod.snd (List.getD (List.set x2 (Int.toNat x1) (x0,Prod.snd (List.getD x2 (Int.toNat x1) (0,0,ByteArray.empty,())))) (Int.toNat x1) (0,0,ByteArray.empty,()))))) (Int.toNat x1) (0,0,ByteArray.empty,()))))))) none) none) none) (K0 x0 x2)
def qgy (D:DX)(n:Nat) (K0:Int→qd→Option ((Int×Unit)×qd×Unit)):Nat→(Int)→(Int)→(qd)→Option ((Int×Unit)×qd×Unit) | 0=>(fun x0 x1 x2=>none) | m+1=>(fun x0 x1 x2=>qsh D n (qgy D n K0 m) K0 x0 x1 x2)
def qkd (D:DX)(n:Nat) (v0_0:Int) (v0_1:qd):Option ((Int×Unit)×qd×Unit):=some ((v0_0,()),v0_1,())
def qrf (D:DX)(n:Nat):(Int)→(Int)→(qd)→Option ((Int×Unit)×qd×Unit):=(fun x0 x1 x2=>qgy D n (fun v0_0 v0_1=>qkd D n v0_0 v0_1) n x0 x1 x2)
def qu3 (D:DX)(n:Nat) (lp0:Int→Int→qd→Option ((Int×Unit)×qd×Unit)) (a0:qd) (a1:Int):Option ((Int×Unit)×qd×Unit):=lp0 a1 0 a0
def qu6 (D:DX)(n:Nat) (a0:qd) (a1:Int):Option ((Int×Unit)×qd×Unit):=qu3 D n (qrf D n) a0 a1
def qgo (x0:Int) (x1:Int) (x2:qd):St:=stq 35 [(0,AV.brw 0 [] 1048576),(1,avI x0),(5,avI x1)] [(0,Root.mk (Ty.sl yV) (Mk.own 1048576 (Mk.pr Mk.no (Mk.pr Mk.no (Mk.pr Mk.no Mk.no)))) x2 false)] 
def qkk (v0_0:Int) (v0_1:qd):St:=stq 35 [(0,AV.brw 0 [] 1048576),(1,avI v0_0)] [(0,Root.mk (Ty.sl yV) (Mk.own 1048576 (Mk.pr Mk.no (Mk.pr Mk.no (Mk.pr Mk.no Mk.no)))) v0_1 false)] 
theorem qbbu (D:DX)(n:Nat) (m:Nat) (K:Ex→St→Option (Out ctx 60)) (x0:Int) (x1:Int) (x2:qd) :
 LQ qc D n 60 [.r,.l,.r,.l] (m+1) (qgo x0 x1 x2) K=qsh D n (fun x0 x1 x2=>LQ qc D n 60 [.r,.l,.r,.l] m (qgo x0 x1 x2) K) (fun v0_0 v0_1=>K (Ex.exit 0) (qkk v0_0 v0_1)) x0 x1 x2:=by kernel_rfl
theorem q0q (D:DX)(n:Nat) (K:Ex→St→Option (Out ctx 60)):∀ (m:Nat) (x0:Int) (x1:Int) (x2:qd),LQ qc D n 60 [.r,.l,.r,.l] m (qgo x0 x1 x2) K=qgy D n (fun v0_0 v0_1=>K (Ex.exit 0) (qkk v0_0 v0_1)) m x0 x1 x2
 | 0,x0,x1,x2=>qu ..
 | m+1,x0,x1,x2=>by
  have ih:(fun x0 x1 x2=>LQ qc D n 60 [.r,.l,.r,.l] m (qgo x0 x1 x2) K)=qgy D n (fun v0_0 v0_1=>K (Ex.exit 0) (qkk v0_0 v0_1)) m:=by funext x0 x1 x2;exact q0q D n K m x0 x1 x2
  rw[qbbu]
  rw[ih];rfl
theorem qba3 (D:DX)(n:Nat) (v0_0:Int) (v0_1:qd) :
 (CQ qc D n 60 [] [.r,.l,.r,.l] (qh qc 60)) (Ex.exit 0) (qkk v0_0 v0_1)=qkd D n v0_0 v0_1:=by kernel_rfl
theorem qbag (D:DX)(n:Nat) (x0:Int) (x1:Int) (x2:qd) :
 LQ qc D n 60 [.r,.l,.r,.l] n (qgo x0 x1 x2) (CQ qc D n 60 [] [.r,.l,.r,.l] (qh qc 60))=qrf D n x0 x1 x2:=by
 rw[q0q]
 simp only[qba3]
 rfl
theorem qbfk (D:DX)(n:Nat) (a0:qd) (a1:Int):rfC qc D n 60 (a0,(a1,()))=qu6 D n a0 a1:=by
 have h:rfC qc D n 60 (a0,(a1,()))=qu3 D n (fun x0 x1 x2=>LQ qc D n 60 [.r,.l,.r,.l] n (qgo x0 x1 x2) (CQ qc D n 60 [] [.r,.l,.r,.l] (qh qc 60))) a0 a1:=by kernel_rfl
 rw[h]
 simp only[qbag]
 rfl


def q2i (D:DX)(n:Nat) (go:List tWay→List tWay→Int→Option ((Bool×Unit)×Unit)) (K0:Bool→Option ((Bool×Unit)×Unit)) (K1:Option ((Bool×Unit)×Unit)) (x0:List tWay) (x1:List tWay) (x2:Int):Option ((Bool×Unit)×Unit):=br (decide (x2<(↑(List.length x0):Int))) (br (decide (0≤x2)&&decide (x2<(↑(List.length x0):Int))) (br (decide (0≤x2)&&decide (x2<(↑(List.length x1):Int))) (qi (qz2 D (List.getD x0 (Int.toNat x2) (ByteArray.empty,ByteArray.empty,())) (List.getD x1 (Int.toNat x2) (ByteArray.empty,ByteArray.empty,()))) fun b↦br (!Prod.fst (Prod.fst b)) (K0 false) (go x0 x1 (IntKind.wrap IntKind.i64 (x2+1)))) none) none) K1
def qk4 (D:DX)(n:Nat) (K0:Bool→Option ((Bool×Unit)×Unit)) (K1:Option ((Bool×Unit)×Unit)):Nat→(List tWay)→(List tWay)→(Int)→Option ((Bool×Unit)×Unit) | 0=>(fun x0 x1 x2=>none) | m+1=>(fun x0 x1 x2=>q2i D n (qk4 D n K0 K1 m) K0 K1 x0 x1 x2)
def qpa (D:DX)(n:Nat) (v0_0:Bool):Option ((Bool×Unit)×Unit):=some ((v0_0,()),())
def qpo (D:DX)(n:Nat):Option ((Bool×Unit)×Unit):=some ((true,()),())
def qz7 (D:DX)(n:Nat):(List tWay)→(List tWay)→(Int)→Option ((Bool×Unit)×Unit):=(fun x0 x1 x2=>qk4 D n (fun v0_0=>qpa D n v0_0) (qpo D n) n x0 x1 x2)
def q3z (D:DX)(n:Nat) (lp0:List tWay→List tWay→Int→Option ((Bool×Unit)×Unit)) (a0:List tWay) (a1:List tWay):Option ((Bool×Unit)×Unit):=br ((↑(List.length a0):Int) != (↑(List.length a1):Int)) (some ((false,()),())) (lp0 a0 a1 0)
def q34 (D:DX)(n:Nat) (a0:List tWay) (a1:List tWay):Option ((Bool×Unit)×Unit):=q3z D n (qz7 D n) a0 a1
def qk5 (x0:List tWay) (x1:List tWay) (x2:Int):St:=stq 27 [(0,AV.val (Ty.sl (Ty.pair Ty.str (Ty.pair Ty.str Ty.unit))) x0),(1,AV.val (Ty.sl (Ty.pair Ty.str (Ty.pair Ty.str Ty.unit))) x1),(5,avI x2)] [] 
def qpw (v0_0:Bool):St:=stq 27 [(4,AV.val Ty.bool v0_0)] [] 
def qo9:St:=stq 27 [] [] 
theorem qblh (D:DX)(n:Nat) (m:Nat) (K:Ex→St→Option (Out ctx 62)) (x0:List tWay) (x1:List tWay) (x2:Int) :
 LQ qc D n 62 [.r,.r,.l,.r,.l] (m+1) (qk5 x0 x1 x2) K=q2i D n (fun x0 x1 x2=>LQ qc D n 62 [.r,.r,.l,.r,.l] m (qk5 x0 x1 x2) K) (fun v0_0=>K (Ex.ret) (qpw v0_0)) (K (Ex.exit 0) (qo9)) x0 x1 x2:=by kernel_rfl
theorem q72 (D:DX)(n:Nat) (K:Ex→St→Option (Out ctx 62)):∀ (m:Nat) (x0:List tWay) (x1:List tWay) (x2:Int),LQ qc D n 62 [.r,.r,.l,.r,.l] m (qk5 x0 x1 x2) K=qk4 D n (fun v0_0=>K (Ex.ret) (qpw v0_0)) (K (Ex.exit 0) (qo9)) m x0 x1 x2
 | 0,x0,x1,x2=>qu ..
 | m+1,x0,x1,x2=>by
  have ih:(fun x0 x1 x2=>LQ qc D n 62 [.r,.r,.l,.r,.l] m (qk5 x0 x1 x2) K)=qk4 D n (fun v0_0=>K (Ex.ret) (qpw v0_0)) (K (Ex.exit 0) (qo9)) m:=by funext x0 x1 x2;exact q72 D n K m x0 x1 x2
  rw[qblh]
  rw[ih];rfl
theorem qbie (D:DX)(n:Nat) (v0_0:Bool) :
 (CQ qc D n 62 [] [.r,.r,.l,.r,.l] (qh qc 62)) (Ex.ret) (qpw v0_0)=qpa D n v0_0:=by kernel_rfl
theorem qbhn (D:DX)(n:Nat) :
 (CQ qc D n 62 [] [.r,.r,.l,.r,.l] (qh qc 62)) (Ex.exit 0) (qo9)=qpo D n:=by kernel_rfl
theorem qbh0 (D:DX)(n:Nat) (x0:List tWay) (x1:List tWay) (x2:Int) :
 LQ qc D n 62 [.r,.r,.l,.r,.l] n (qk5 x0 x1 x2) (CQ qc D n 62 [] [.r,.r,.l,.r,.l] (qh qc 62))=qz7 D n x0 x1 x2:=by
 rw[q72]
 simp only[qbie,qbhn]
 rfl
theorem qbo7 (D:DX)(n:Nat) (a0:List tWay) (a1:List tWay):rfC qc D n 62 (a0,(a1,()))=q34 D n a0 a1:=by
 have h:rfC qc D n 62 (a0,(a1,()))=q3z D n (fun x0 x1 x2=>LQ qc D n 62 [.r,.r,.l,.r,.l] n (qk5 x0 x1 x2) (CQ qc D n 62 [] [.r,.r,.l,.r,.l] (qh qc 62))) a0 a1:=by kernel_rfl
 rw[h]
 simp only[qbh0]
 rfl

def qw5 (D:DX)(n:Nat) (go:Int→Int→List tWay→Option ((Int×Unit)×List tWay×Unit)) (K0:Int→List tWay→Option ((Int×Unit)×List tWay×Unit)) (x0:Int) (x1:Int) (x2:List tWay):Option ((Int×Unit)×List tWay×Unit):=br (decide (x1<(↑(List.length x2):Int))) (qi (qev D x0) fun b↦br (decide (0≤x1)&&decide (x1<(↑(List.length x2):Int))) (qi (qev D (IntKind.wrap IntKind.i64 (x0+1))) fun b_1↦br (decide (0≤x1)&&decide (x1<(↑(List.length (List.set x2 (Int.toNat x1) (Prod.fst (Prod.fst b),Prod.snd (List.getD x2 (Int.toNat x1) (ByteArray.empty,ByteArray.empty,()))))):Int))) (go (IntKind.wrap IntKind.i64 (IntKind.wrap IntKind.i64 (x0+1)+1)) (IntKind.wrap IntKind.i64 (x1+1)) (List.set (List.set x2 (Int.toNat x1) (Prod.fst (Prod.fst b),Prod.snd (List.getD x2 (Int.toNat x1) (ByteArray.empty,ByteArray.empty,())))) (Int.toNat x1) (Prod.fst (List.getD (List.set x2 (Int.toNat x1) (Prod.fst (Prod.fst b),Prod.snd (List.getD x2 (Int.toNat x1) (ByteArray.empty,ByteArray.empty,())))) (Int.toNat x1) (ByteArray.empty,ByteArray.empty,())),Prod.fst (Prod.fst b_1),Prod.snd (Prod.snd (List.getD (List.set x2 (Int.toNat x1) (Prod.fst (Prod.fst b),Prod.snd (List.getD x2 (Int.toNat x1) (ByteArray.empty,ByteArray.empty,())))) (Int.toNat x1) (ByteArray.empty,ByteArray.empty,())))))) none) none) (K0 x0 x2)
def qi9 (D:DX)(n:Nat) (K0:Int→List tWay→Option ((Int×Unit)×List tWay×Unit)):Nat→(Int)→(Int)→(List tWay)→Option ((Int×Unit)×List tWay×Unit) | 0=>(fun x0 x1 x2=>none) | m+1=>(fun x0 x1 x2=>qw5 D n (qi9 D n K0 m) K0 x0 x1 x2)
def qmu (D:DX)(n:Nat) (v0_0:Int) (v0_1:List tWay):Option ((Int×Unit)×List tWay×Unit):=some ((v0_0,()),v0_1,())
def qur (D:DX)(n:Nat):(Int)→(Int)→(List tWay)→Option ((Int×Unit)×List tWay×Unit):=(fun x0 x1 x2=>qi9 D n (fun v0_0 v0_1=>qmu D n v0_0 v0_1) n x0 x1 x2)
def qy1 (D:DX)(n:Nat) (lp0:Int→Int→List tWay→Option ((Int×Unit)×List tWay×Unit)) (a0:List tWay) (a1:Int):Option ((Int×Unit)×List tWay×Unit):=lp0 a1 0 a0
def qy9 (D:DX)(n:Nat) (a0:List tWay) (a1:Int):Option ((Int×Unit)×List tWay×Unit):=qy1 D n (qur D n) a0 a1
def qiq (x0:Int) (x1:Int) (x2:List tWay):St:=stq 29 [(0,AV.brw 0 [] 1048576),(1,avI x0),(5,avI x1)] [(0,Root.mk (Ty.sl (Ty.pair Ty.str (Ty.pair Ty.str Ty.unit))) (Mk.own 1048576 (Mk.pr Mk.no (Mk.pr Mk.no Mk.no))) x2 false)] 
def qnv (v0_0:Int) (v0_1:List tWay):St:=stq 29 [(0,AV.brw 0 [] 1048576),(1,avI v0_0)] [(0,Root.mk (Ty.sl (Ty.pair Ty.str (Ty.pair Ty.str Ty.unit))) (Mk.own 1048576 (Mk.pr Mk.no (Mk.pr Mk.no Mk.no))) v0_1 false)] 
theorem qbgw (D:DX)(n:Nat) (m:Nat) (K:Ex→St→Option (Out ctx 63)) (x0:Int) (x1:Int) (x2:List tWay) :
 LQ qc D n 63 [.r,.l,.r,.l] (m+1) (qiq x0 x1 x2) K=qw5 D n (fun x0 x1 x2=>LQ qc D n 63 [.r,.l,.r,.l] m (qiq x0 x1 x2) K) (fun v0_0 v0_1=>K (Ex.exit 0) (qnv v0_0 v0_1)) x0 x1 x2:=by kernel_rfl
theorem q5p (D:DX)(n:Nat) (K:Ex→St→Option (Out ctx 63)):∀ (m:Nat) (x0:Int) (x1:Int) (x2:List tWay),LQ qc D n 63 [.r,.l,.r,.l] m (qiq x0 x1 x2) K=qi9 D n (fun v0_0 v0_1=>K (Ex.exit 0) (qnv v0_0 v0_1)) m x0 x1 x2
 | 0,x0,x1,x2=>qu ..
 | m+1,x0,x1,x2=>by
  have ih:(fun x0 x1 x2=>LQ qc D n 63 [.r,.l,.r,.l] m (qiq x0 x1 x2) K)=qi9 D n (fun v0_0 v0_1=>K (Ex.exit 0) (qnv v0_0 v0_1)) m:=by funext x0 x1 x2;exact q5p D n K m x0 x1 x2
  rw[qbgw]
  rw[ih];rfl
theorem qbev (D:DX)(n:Nat) (v0_0:Int) (v0_1:List tWay) :
 (CQ qc D n 63 [] [.r,.l,.r,.l] (qh qc 63)) (Ex.exit 0) (qnv v0_0 v0_1)=qmu D n v0_0 v0_1:=by kernel_rfl
theorem qbc3 (D:DX)(n:Nat) (x0:Int) (x1:Int) (x2:List tWay) :
 LQ qc D n 63 [.r,.l,.r,.l] n (qiq x0 x1 x2) (CQ qc D n 63 [] [.r,.l,.r,.l] (qh qc 63))=qur D n x0 x1 x2:=by
 rw[q5p]
 simp only[qbev]
 rfl
theorem qbld (D:DX)(n:Nat) (a0:List tWay) (a1:Int):rfC qc D n 63 (a0,(a1,()))=qy9 D n a0 a1:=by
 have h:rfC qc D n 63 (a0,(a1,()))=qy1 D n (fun x0 x1 x2=>LQ qc D n 63 [.r,.l,.r,.l] n (qiq x0 x1 x2) (CQ qc D n 63 [] [.r,.l,.r,.l] (qh qc 63))) a0 a1:=by kernel_rfl
 rw[h]
 simp only[qbc3]
 rfl

def qw4 (D:DX)(n:Nat) (go:List tWay→Int→Int→Option ((Int×Unit)×Unit)) (K0:Int→Int→Option ((Int×Unit)×Unit)) (K1:Int→Option ((Int×Unit)×Unit)) (x0:List tWay) (x1:Int) (x2:Int):Option ((Int×Unit)×Unit):=br (decide (x2<(↑(List.length x0):Int))) (br (decide (0≤x2)&&decide (x2<(↑(List.length x0):Int))) (qi (qev D x1) fun b↦br (!List.beq (ByteArray.toList (Prod.fst (List.getD x0 (Int.toNat x2) (ByteArray.empty,ByteArray.empty,())))) (ByteArray.toList (Prod.fst (Prod.fst b)))) (K0 x1 (-1)) (br (decide (0≤x2)&&decide (x2<(↑(List.length x0):Int))) (qi (qev D (IntKind.wrap IntKind.i64 (x1+1))) fun b↦br (!List.beq (ByteArray.toList (Prod.fst (Prod.snd (List.getD x0 (Int.toNat x2) (ByteArray.empty,ByteArray.empty,()))))) (ByteArray.toList (Prod.fst (Prod.fst b)))) (K0 (IntKind.wrap IntKind.i64 (x1+1)) (-1)) (go x0 (IntKind.wrap IntKind.i64 (IntKind.wrap IntKind.i64 (x1+1)+1)) (IntKind.wrap IntKind.i64 (x2+1)))) none)) none) (K1 x1)
def qii (D:DX)(n:Nat) (K0:Int→Int→Option ((Int×Unit)×Unit)) (K1:Int→Option ((Int×Unit)×Unit)):Nat→(List tWay)→(Int)→(Int)→Option ((Int×Unit)×Unit) | 0=>(fun x0 x1 x2=>none) | m+1=>(fun x0 x1 x2=>qw4 D n (qii D n K0 K1 m) K0 K1 x0 x1 x2)
def qtf (D:DX)(n:Nat) (v0_0:Int) (v0_1:Int):Option ((Int×Unit)×Unit):=some ((v0_1,()),())
def qmg (D:DX)(n:Nat) (v1_0:Int):Option ((Int×Unit)×Unit):=some ((v1_0,()),())
def qve (D:DX)(n:Nat):(List tWay)→(Int)→(Int)→Option ((Int×Unit)×Unit):=(fun x0 x1 x2=>qii D n (fun v0_0 v0_1=>qtf D n v0_0 v0_1) (fun v1_0=>qmg D n v1_0) n x0 x1 x2)
def qyw (D:DX)(n:Nat) (lp0:List tWay→Int→Int→Option ((Int×Unit)×Unit)) (a0:List tWay) (a1:Int):Option ((Int×Unit)×Unit):=lp0 a0 a1 0
def qzl (D:DX)(n:Nat) (a0:List tWay) (a1:Int):Option ((Int×Unit)×Unit):=qyw D n (qve D n) a0 a1
def qig (x0:List tWay) (x1:Int) (x2:Int):St:=stq 33 [(0,AV.val (Ty.sl (Ty.pair Ty.str (Ty.pair Ty.str Ty.unit))) x0),(1,avI x1),(5,avI x2)] [] 
def qm3 (v0_0:Int) (v0_1:Int):St:=stq 33 [(1,avI v0_0),(4,avI v0_1)] [] 
def qni (v1_0:Int):St:=stq 33 [(1,avI v1_0)] [] 
theorem qbgm (D:DX)(n:Nat) (m:Nat) (K:Ex→St→Option (Out ctx 64)) (x0:List tWay) (x1:Int) (x2:Int) :
 LQ qc D n 64 [.r,.l,.r,.l] (m+1) (qig x0 x1 x2) K=qw4 D n (fun x0 x1 x2=>LQ qc D n 64 [.r,.l,.r,.l] m (qig x0 x1 x2) K) (fun v0_0 v0_1=>K (Ex.ret) (qm3 v0_0 v0_1)) (fun v1_0=>K (Ex.exit 0) (qni v1_0)) x0 x1 x2:=by kernel_rfl
theorem q48 (D:DX)(n:Nat) (K:Ex→St→Option (Out ctx 64)):∀ (m:Nat) (x0:List tWay) (x1:Int) (x2:Int),LQ qc D n 64 [.r,.l,.r,.l] m (qig x0 x1 x2) K=qii D n (fun v0_0 v0_1=>K (Ex.ret) (qm3 v0_0 v0_1)) (fun v1_0=>K (Ex.exit 0) (qni v1_0)) m x0 x1 x2
 | 0,x0,x1,x2=>qu ..
 | m+1,x0,x1,x2=>by
  have ih:(fun x0 x1 x2=>LQ qc D n 64 [.r,.l,.r,.l] m (qig x0 x1 x2) K)=qii D n (fun v0_0 v0_1=>K (Ex.ret) (qm3 v0_0 v0_1)) (fun v1_0=>K (Ex.exit 0) (qni v1_0)) m:=by funext x0 x1 x2;exact q48 D n K m x0 x1 x2
  rw[qbgm]
  rw[ih];rfl
theorem qbc4 (D:DX)(n:Nat) (v0_0:Int) (v0_1:Int) :
 (CQ qc D n 64 [] [.r,.l,.r,.l] (qh qc 64)) (Ex.ret) (qm3 v0_0 v0_1)=qtf D n v0_0 v0_1:=by kernel_rfl
theorem qbd8 (D:DX)(n:Nat) (v1_0:Int) :
 (CQ qc D n 64 [] [.r,.l,.r,.l] (qh qc 64)) (Ex.exit 0) (qni v1_0)=qmg D n v1_0:=by kernel_rfl
theorem qbck (D:DX)(n:Nat) (x0:List tWay) (x1:Int) (x2:Int) :
 LQ qc D n 64 [.r,.l,.r,.l] n (qig x0 x1 x2) (CQ qc D n 64 [] [.r,.l,.r,.l] (qh qc 64))=qve D n x0 x1 x2:=by
 rw[q48]
 simp only[qbc4,qbd8]
 rfl
theorem qbjk (D:DX)(n:Nat) (a0:List tWay) (a1:Int):rfC qc D n 64 (a0,(a1,()))=qzl D n a0 a1:=by
 have h:rfC qc D n 64 (a0,(a1,()))=qyw D n (fun x0 x1 x2=>LQ qc D n 64 [.r,.l,.r,.l] n (qig x0 x1 x2) (CQ qc D n 64 [] [.r,.l,.r,.l] (qh qc 64))) a0 a1:=by kernel_rfl
 rw[h]
 simp only[qbck]
 rfl

def qbg5 (D:DX)(n:Nat) (a0:Int) (a1:Int) (a2:Int):Option ((Bool×Unit)×Unit):=some ((bif decide (a0≥a1) then decide (a0≤a2) else false,()),())
def q8h (D:DX)(n:Nat) (a0:Int) (a1:Int) (a2:Int):Option ((Bool×Unit)×Unit):=qbg5 D n a0 a1 a2
theorem qbs1 (D:DX)(n:Nat) (a0:Int) (a1:Int) (a2:Int):rfC qc D n 68 (a0,(a1,(a2,())))=q8h D n a0 a1 a2:=by kernel_rfl

def qbk5 (D:DX)(n:Nat) (a0:tSch) (a1:Int) (a2:qd):Option ((tWay×Unit)×Unit):=br (decide (0≤a1)&&decide (a1<(↑(List.length (Prod.fst (Prod.snd (Prod.snd a0)))):Int))) (qi (qla D a2 (Prod.fst (Prod.snd (List.getD (Prod.fst (Prod.snd (Prod.snd a0))) (Int.toNat a1) (ByteArray.empty,[],false,()))))) fun b↦qi (qor D (Prod.fst (Prod.fst b))) fun b↦qi (qnp D a0 a2) fun b_1↦qi (qor D (Prod.fst (Prod.fst b_1))) fun b_2↦some (((ByteArray.mk (List.toArray (List.map (fun n↦UInt8.ofNat (Int.toNat n)) (Prod.fst (Prod.fst b)))),ByteArray.mk (List.toArray (List.map (fun n↦UInt8.ofNat (Int.toNat n)) (Prod.fst (Prod.fst b_2)))),()),()),())) none
def qba9 (D:DX)(n:Nat) (a0:tSch) (a1:Int) (a2:qd):Option ((tWay×Unit)×Unit):=qbk5 D n a0 a1 a2
theorem qbt8 (D:DX)(n:Nat) (a0:tSch) (a1:Int) (a2:qd):rfC qc D n 69 (a0,(a1,(a2,())))=qba9 D n a0 a1 a2:=by kernel_rfl

def q4k (D:DX)(n:Nat) (go:qd→Int→Int→tSch→Option ((Bool×Unit)×Unit)) (K0:Bool→Option ((Bool×Unit)×Unit)) (K1:Option ((Bool×Unit)×Unit)) (x0:qd) (x1:Int) (x2:Int) (x3:tSch):Option ((Bool×Unit)×Unit):=br (decide (x2<x1)) (br (decide (0≤x2)&&decide (x2<(↑(List.length x0):Int))) (br (decide (0≤x2)&&decide (x2<(↑(List.length (Prod.fst x3)):Int))) (qi (qt0 D (List.getD x0 (Int.toNat x2) (0,0,ByteArray.empty,()))) fun b↦br (bif !Prod.fst (Prod.fst b) then true else bif Prod.fst (List.getD x0 (Int.toNat x2) (0,0,ByteArray.empty,())) != Prod.fst (Prod.snd (List.getD (Prod.fst x3) (Int.toNat x2) (ByteArray.empty,0,false,()))) then !bif decide (Prod.fst (List.getD x0 (Int.toNat x2) (0,0,ByteArray.empty,()))=0) then Prod.fst (Prod.snd (Prod.snd (List.getD (Prod.fst x3) (Int.toNat x2) (ByteArray.empty,0,false,())))) else false else false) (K0 false) (go x0 x1 (IntKind.wrap IntKind.i64 (x2+1)) x3)) none) none) K1
def ql6 (D:DX)(n:Nat) (K0:Bool→Option ((Bool×Unit)×Unit)) (K1:Option ((Bool×Unit)×Unit)):Nat→(qd)→(Int)→(Int)→(tSch)→Option ((Bool×Unit)×Unit) | 0=>(fun x0 x1 x2 x3=>none) | m+1=>(fun x0 x1 x2 x3=>q4k D n (ql6 D n K0 K1 m) K0 K1 x0 x1 x2 x3)
def q7z (D:DX)(n:Nat) (v0_0:Bool):Option ((Bool×Unit)×Unit):=some ((v0_0,()),())
def q7w (D:DX)(n:Nat):Option ((Bool×Unit)×Unit):=some ((true,()),())
def q17 (D:DX)(n:Nat):(qd)→(Int)→(Int)→(tSch)→Option ((Bool×Unit)×Unit):=(fun x0 x1 x2 x3=>ql6 D n (fun v0_0=>q7z D n v0_0) (q7w D n) n x0 x1 x2 x3)
def q6j (D:DX)(n:Nat) (lp0:qd→Int→Int→tSch→Option ((Bool×Unit)×Unit)) (a0:tSch) (a1:qd):Option ((Bool×Unit)×Unit):=qi (qr2 D a0) fun b↦br (bif !Prod.fst (Prod.fst b) then true else (↑(List.length a1):Int) != (↑(List.length (Prod.fst a0)):Int)) (some ((false,()),())) (lp0 a1 (↑(List.length a1):Int) 0 a0)
def q65 (D:DX)(n:Nat) (a0:tSch) (a1:qd):Option ((Bool×Unit)×Unit):=q6j D n (q17 D n) a0 a1
def ql3 (x0:qd) (x1:Int) (x2:Int) (x3:tSch):St:=stq 52 [(2,AV.addr 2 []),(19,AV.val (Ty.sl yV) x0),(20,avI x1),(21,avI x2)] [(2,Root.mk yS Mk.no x3 true)] 
def qr0 (v0_0:Bool):St:=stq 52 [(4,AV.val Ty.bool v0_0)] [] 
def qru:St:=stq 52 [] [] 
theorem qbn0 (D:DX)(n:Nat) (m:Nat) (K:Ex→St→Option (Out ctx 77)) (x0:qd) (x1:Int) (x2:Int) (x3:tSch) :
 LQ qc D n 77 [.r,.r,.l,.r,.l] (m+1) (ql3 x0 x1 x2 x3) K=q4k D n (fun x0 x1 x2 x3=>LQ qc D n 77 [.r,.r,.l,.r,.l] m (ql3 x0 x1 x2 x3) K) (fun v0_0=>K (Ex.ret) (qr0 v0_0)) (K (Ex.exit 0) (qru)) x0 x1 x2 x3:=by kernel_rfl
theorem q9o (D:DX)(n:Nat) (K:Ex→St→Option (Out ctx 77)):∀ (m:Nat) (x0:qd) (x1:Int) (x2:Int) (x3:tSch),LQ qc D n 77 [.r,.r,.l,.r,.l] m (ql3 x0 x1 x2 x3) K=ql6 D n (fun v0_0=>K (Ex.ret) (qr0 v0_0)) (K (Ex.exit 0) (qru)) m x0 x1 x2 x3
 | 0,x0,x1,x2,x3=>qu ..
 | m+1,x0,x1,x2,x3=>by
  have ih:(fun x0 x1 x2 x3=>LQ qc D n 77 [.r,.r,.l,.r,.l] m (ql3 x0 x1 x2 x3) K)=ql6 D n (fun v0_0=>K (Ex.ret) (qr0 v0_0)) (K (Ex.exit 0) (qru)) m:=by funext x0 x1 x2 x3;exact q9o D n K m x0 x1 x2 x3
  rw[qbn0]
  rw[ih];rfl
theorem qbli (D:DX)(n:Nat) (v0_0:Bool) :
 (CQ qc D n 77 [] [.r,.r,.l,.r,.l] (qh qc 77)) (Ex.ret) (qr0 v0_0)=q7z D n v0_0:=by kernel_rfl
theorem qbjh (D:DX)(n:Nat) :
 (CQ qc D n 77 [] [.r,.r,.l,.r,.l] (qh qc 77)) (Ex.exit 0) (qru)=q7w D n:=by kernel_rfl
theorem qbka (D:DX)(n:Nat) (x0:qd) (x1:Int) (x2:Int) (x3:tSch) :
 LQ qc D n 77 [.r,.r,.l,.r,.l] n (ql3 x0 x1 x2 x3) (CQ qc D n 77 [] [.r,.r,.l,.r,.l] (qh qc 77))=q17 D n x0 x1 x2 x3:=by
 rw[q9o]
 simp only[qbli,qbjh]
 rfl
theorem qbqu (D:DX)(n:Nat) (a0:tSch) (a1:qd):rfC qc D n 77 (a0,(a1,()))=q65 D n a0 a1:=by
 have h:rfC qc D n 77 (a0,(a1,()))=q6j D n (fun x0 x1 x2 x3=>LQ qc D n 77 [.r,.r,.l,.r,.l] n (ql3 x0 x1 x2 x3) (CQ qc D n 77 [] [.r,.r,.l,.r,.l] (qh qc 77))) a0 a1:=by kernel_rfl
 rw[h]
 simp only[qbka]
 rfl

def q6h (D:DX)(n:Nat) (a0:qd) (a1:qd):Option ((Bool×Unit)×Unit):=qi (qcd D a0 a1 (Clo.mk 141 [])) fun b↦some ((decide (Prod.fst (Prod.fst b)<0),()),())
def qxl (D:DX)(n:Nat) (a0:qd) (a1:qd):Option ((Bool×Unit)×Unit):=q6h D n a0 a1
theorem qbia (D:DX)(n:Nat) (a0:qd) (a1:qd):rfC qc D n 78 (a0,(a1,()))=qxl D n a0 a1:=by kernel_rfl

def qf9 (D:DX)(n:Nat) (a1:Clo) (a0:qe):Option ((Bool×Unit)×Unit):=qi (qec D a0 a1) fun b↦some ((decide (Prod.fst (Prod.fst b)≥0),()),())
def qdp (D:DX)(n:Nat) (a0:qe) (a1:Clo):Option ((Bool×Unit)×Unit):=qf9 D n a1 a0
theorem qoj (D:DX)(n:Nat) (a0:qe) (a1:Clo):rfC qc D n 79 (a0,(a1,()))=qdp D n a0 a1:=by kernel_rfl

def q9r (D:DX)(n:Nat) (a0:qd) (a1:(tSch)×qe×Unit) (a2:qd):Option ((Bool×Unit)×Unit):=qi (q6l D (Prod.fst a1) a2 a0) fun b↦some ((Prod.fst (Prod.fst b),()),())
def q2k (D:DX)(n:Nat) (a0:qd) (a1:(tSch)×qe×Unit) (a2:qd):Option ((Bool×Unit)×Unit):=q9r D n a0 a1 a2
theorem qbnf (D:DX)(n:Nat) (a0:qd) (a1:(tSch)×
 qe×Unit) (a2:qd):rfC qc D n 80 (a0,(a1,(a2,())))=q2k D n a0 a1 a2:=by kernel_rfl

def qbef (D:DX)(n:Nat) (a0:tSch) (a1:qd) (a2:qd):Option ((Bool×Unit)×Unit):=qi (qcs D (Prod.fst (Prod.snd (Prod.snd a0))) (Clo.mk 143 [CapV.rptr (Ty.sl (Ty.pair (Ty.int IntKind.i64) (Ty.pair (Ty.int IntKind.i64) (Ty.pair Ty.str Ty.unit)))) a1,CapV.rptr (Ty.sl (Ty.pair (Ty.int IntKind.i64) (Ty.pair (Ty.int IntKind.i64) (Ty.pair Ty.str Ty.unit)))) a2])) fun b↦some ((Prod.fst (Prod.fst b),()),())
def q7c (D:DX)(n:Nat) (a0:tSch) (a1:qd) (a2:qd):Option ((Bool×Unit)×Unit):=qbef D n a0 a1 a2
theorem qbqq (D:DX)(n:Nat) (a0:tSch) (a1:qd) (a2:qd):rfC qc D n 81 (a0,(a1,(a2,())))=q7c D n a0 a1 a2:=by kernel_rfl

def qxh (D:DX)(n:Nat) (go:qn→Int→Int→tSch→Option ((Bool×Unit)×Unit)) (K0:Bool→tSch→Option ((Bool×Unit)×Unit)) (K1:tSch→Option ((Bool×Unit)×Unit)) (x0:qn) (x1:Int) (x2:Int) (x3:tSch):Option ((Bool×Unit)×Unit):=br (decide (x2<x1)) (br (decide (0≤x2)&&decide (x2<(↑(List.length x0):Int))) (qi (qpf D (Prod.fst (List.getD x0 (Int.toNat x2) (ByteArray.empty,0,false,())))) fun b↦br (!Prod.fst (Prod.fst b)) (K0 false x3) (qi (qf1 D (Prod.fst (Prod.snd (List.getD x0 (Int.toNat x2) (ByteArray.empty,0,false,())))) 1 3) fun b↦br (!Prod.fst (Prod.fst b)) (K0 false x3) (qi (q6a D x3 (Prod.fst (List.getD x0 (Int.toNat x2) (ByteArray.empty,0,false,())))) fun b↦br (Prod.fst (Prod.fst b) != x2) (K0 false x3) (go x0 x1 (IntKind.wrap IntKind.i64 (x2+1)) x3)))) none) (K1 x3)
def qij (D:DX)(n:Nat) (K0:Bool→tSch→Option ((Bool×Unit)×Unit)) (K1:tSch→Option ((Bool×Unit)×Unit)):Nat→(qn)→(Int)→(Int)→(tSch)→Option ((Bool×Unit)×Unit) | 0=>(fun x0 x1 x2 x3=>none) | m+1=>(fun x0 x1 x2 x3=>qxh D n (qij D n K0 K1 m) K0 K1 x0 x1 x2 x3)
def q3e (D:DX)(n:Nat) (v0_0:Bool) (v0_1:tSch):Option ((Bool×Unit)×Unit):=some ((v0_0,()),())
def qwx (D:DX)(n:Nat) (go:tIxs→Int→Int→tSch→Option ((Bool×Unit)×Unit)) (K0:Bool→tSch→Option ((Bool×Unit)×Unit)) (K1:tSch→Option ((Bool×Unit)×Unit)) (x1_0:tIxs) (x1_1:Int) (x1_2:Int) (x1_3:tSch):Option ((Bool×Unit)×Unit):=br (decide (x1_2<x1_1)) (br (decide (0≤x1_2)&&decide (x1_2<(↑(List.length x1_0):Int))) (qi (qpf D (Prod.fst (List.getD x1_0 (Int.toNat x1_2) (ByteArray.empty,[],false,())))) fun b↦br (!Prod.fst (Prod.fst b)) (K0 false x1_3) (qi (qr3 D x1_3 (Prod.fst (Prod.snd (List.getD x1_0 (Int.toNat x1_2) (ByteArray.empty,[],false,())))) 3) fun b↦br (!Prod.fst (Prod.fst b)) (K0 false x1_3) (br (decide (0≤0)&&decide (0≤x1_2)&&decide (x1_2≤(↑(List.length (Prod.fst (Prod.snd (Prod.snd x1_3)))):Int))) (qi (qcs D (List.drop (Int.toNat 0) (List.take (Int.toNat x1_2) (Prod.fst (Prod.snd (Prod.snd x1_3))))) (Clo.mk 149 [CapV.rptr (Ty.pair Ty.str (Ty.pair (Ty.sl (Ty.int IntKind.i64)) (Ty.pair Ty.bool Ty.unit))) (List.getD x1_0 (Int.toNat x1_2) (ByteArray.empty,[],false,()))])) fun b↦br (Prod.fst (Prod.fst b)) (K0 false x1_3) (go x1_0 x1_1 (IntKind.wrap IntKind.i64 (x1_2+1)) x1_3)) none))) none) (K1 x1_3)
def qjd (D:DX)(n:Nat) (K0:Bool→tSch→Option ((Bool×Unit)×Unit)) (K1:tSch→Option ((Bool×Unit)×Unit)):Nat→(tIxs)→(Int)→(Int)→(tSch)→Option ((Bool×Unit)×Unit) | 0=>(fun x1_0 x1_1 x1_2 x1_3=>none) | m+1=>(fun x1_0 x1_1 x1_2 x1_3=>qwx D n (qjd D n K0 K1 m) K0 K1 x1_0 x1_1 x1_2 x1_3)
def q3o (D:DX)(n:Nat) (v0_0:Bool) (v0_1:tSch):Option ((Bool×Unit)×Unit):=some ((v0_0,()),())
def qsp (D:DX)(n:Nat) (v1_0:tSch):Option ((Bool×Unit)×Unit):=qi (qf1 D (↑(List.length (Prod.fst v1_0)):Int) 1 5) fun b↦br (Prod.fst (Prod.fst b)) (qi (qr3 D v1_0 (Prod.fst (Prod.snd v1_0)) 4) fun b↦br (Prod.fst (Prod.fst b)) (qi (qh8 D (Prod.fst (Prod.snd v1_0)) (Clo.mk 151 [CapV.rptr (Ty.pair (Ty.sl (Ty.pair Ty.str (Ty.pair (Ty.int IntKind.i64) (Ty.pair Ty.bool Ty.unit)))) (Ty.pair (Ty.sl (Ty.int IntKind.i64)) (Ty.pair (Ty.sl (Ty.pair Ty.str (Ty.pair (Ty.sl (Ty.int IntKind.i64)) (Ty.pair Ty.bool Ty.unit)))) Ty.unit))) v1_0])) fun b↦some ((bif !Prod.fst (Prod.fst b) then decide ((↑(List.length (Prod.fst (Prod.snd (Prod.snd v1_0)))):Int)≤3) else false,()),())) (some ((false,()),()))) (some ((false,()),()))
def quz (D:DX)(n:Nat):(tIxs)→(Int)→(Int)→(tSch)→Option ((Bool×Unit)×Unit):=(fun x1_0 x1_1 x1_2 x1_3=>qjd D n (fun v0_0 v0_1=>q3o D n v0_0 v0_1) (fun v1_0=>qsp D n v1_0) n x1_0 x1_1 x1_2 x1_3)
def qta (D:DX)(n:Nat) (lp1:tIxs→Int→Int→tSch→Option ((Bool×Unit)×Unit)) (v1_0:tSch):Option ((Bool×Unit)×Unit):=lp1 (Prod.fst (Prod.snd (Prod.snd v1_0))) (↑(List.length (Prod.fst (Prod.snd (Prod.snd v1_0)))):Int) 0 v1_0
def quv (D:DX)(n:Nat):(qn)→(Int)→(Int)→(tSch)→Option ((Bool×Unit)×Unit):=(fun x0 x1 x2 x3=>qij D n (fun v0_0 v0_1=>q3e D n v0_0 v0_1) (fun v1_0=>qta D n (quz D n) v1_0) n x0 x1 x2 x3)
def qya (D:DX)(n:Nat) (lp0:qn→Int→Int→tSch→Option ((Bool×Unit)×Unit)) (a0:tSch):Option ((Bool×Unit)×Unit):=lp0 (Prod.fst a0) (↑(List.length (Prod.fst a0)):Int) 0 a0
def qy7 (D:DX)(n:Nat) (a0:tSch):Option ((Bool×Unit)×Unit):=qya D n (quv D n) a0
def qi3 (x0:qn) (x1:Int) (x2:Int) (x3:tSch):St:=stq 85 [(1,AV.addr 1 []),(8,AV.val (Ty.sl yC) x0),(9,avI x1),(10,avI x2)] [(1,Root.mk yS Mk.no x3 true)] 
def qna (v0_0:Bool) (v0_1:tSch):St:=stq 85 [(1,AV.addr 1 []),(2,AV.val Ty.bool v0_0)] [(1,Root.mk yS Mk.no v0_1 true)] 
def qnr (v1_0:tSch):St:=stq 85 [(1,AV.addr 1 [])] [(1,Root.mk yS Mk.no v1_0 true)] 
def qiv (x1_0:tIxs) (x1_1:Int) (x1_2:Int) (x1_3:tSch):St:=stq 85 [(1,AV.addr 1 []),(35,AV.val (Ty.sl yX) x1_0),(36,avI x1_1),(37,avI x1_2)] [(1,Root.mk yS Mk.no x1_3 true)] 
def qmr (v0_0:Bool) (v0_1:tSch):St:=stq 85 [(1,AV.addr 1 []),(2,AV.val Ty.bool v0_0)] [(1,Root.mk yS Mk.no v0_1 true)] 
def qm5 (v1_0:tSch):St:=stq 85 [(1,AV.addr 1 [])] [(1,Root.mk yS Mk.no v1_0 true)] 
theorem qbgr (D:DX)(n:Nat) (m:Nat) (K:Ex→St→Option (Out ctx 82)) (x0:qn) (x1:Int) (x2:Int) (x3:tSch) :
 LQ qc D n 82 [.r,.l,.r,.l] (m+1) (qi3 x0 x1 x2 x3) K=qxh D n (fun x0 x1 x2 x3=>LQ qc D n 82 [.r,.l,.r,.l] m (qi3 x0 x1 x2 x3) K) (fun v0_0 v0_1=>K (Ex.ret) (qna v0_0 v0_1)) (fun v1_0=>K (Ex.exit 0) (qnr v1_0)) x0 x1 x2 x3:=by kernel_rfl
theorem q44 (D:DX)(n:Nat) (K:Ex→St→Option (Out ctx 82)):∀ (m:Nat) (x0:qn) (x1:Int) (x2:Int) (x3:tSch),LQ qc D n 82 [.r,.l,.r,.l] m (qi3 x0 x1 x2 x3) K=qij D n (fun v0_0 v0_1=>K (Ex.ret) (qna v0_0 v0_1)) (fun v1_0=>K (Ex.exit 0) (qnr v1_0)) m x0 x1 x2 x3
 | 0,x0,x1,x2,x3=>qu ..
 | m+1,x0,x1,x2,x3=>by
  have ih:(fun x0 x1 x2 x3=>LQ qc D n 82 [.r,.l,.r,.l] m (qi3 x0 x1 x2 x3) K)=qij D n (fun v0_0 v0_1=>K (Ex.ret) (qna v0_0 v0_1)) (fun v1_0=>K (Ex.exit 0) (qnr v1_0)) m:=by funext x0 x1 x2 x3;exact q44 D n K m x0 x1 x2 x3
  rw[qbgr]
  rw[ih];rfl
theorem qbfn (D:DX)(n:Nat) (m:Nat) (K:Ex→St→Option (Out ctx 82)) (x1_0:tIxs) (x1_1:Int) (x1_2:Int) (x1_3:tSch) :
 LQ qc D n 82 [.r,.r,.l,.r,.l] (m+1) (qiv x1_0 x1_1 x1_2 x1_3) K=qwx D n (fun x1_0 x1_1 x1_2 x1_3=>LQ qc D n 82 [.r,.r,.l,.r,.l] m (qiv x1_0 x1_1 x1_2 x1_3) K) (fun v0_0 v0_1=>K (Ex.ret) (qmr v0_0 v0_1)) (fun v1_0=>K (Ex.exit 2) (qm5 v1_0)) x1_0 x1_1 x1_2 x1_3:=by kernel_rfl
theorem q4z (D:DX)(n:Nat) (K:Ex→St→Option (Out ctx 82)):∀ (m:Nat) (x1_0:tIxs) (x1_1:Int) (x1_2:Int) (x1_3:tSch),LQ qc D n 82 [.r,.r,.l,.r,.l] m (qiv x1_0 x1_1 x1_2 x1_3) K=qjd D n (fun v0_0 v0_1=>K (Ex.ret) (qmr v0_0 v0_1)) (fun v1_0=>K (Ex.exit 2) (qm5 v1_0)) m x1_0 x1_1 x1_2 x1_3
 | 0,x1_0,x1_1,x1_2,x1_3=>qu ..
 | m+1,x1_0,x1_1,x1_2,x1_3=>by
  have ih:(fun x1_0 x1_1 x1_2 x1_3=>LQ qc D n 82 [.r,.r,.l,.r,.l] m (qiv x1_0 x1_1 x1_2 x1_3) K)=qjd D n (fun v0_0 v0_1=>K (Ex.ret) (qmr v0_0 v0_1)) (fun v1_0=>K (Ex.exit 2) (qm5 v1_0)) m:=by funext x1_0 x1_1 x1_2 x1_3;exact q4z D n K m x1_0 x1_1 x1_2 x1_3
  rw[qbfn]
  rw[ih];rfl
theorem qbcn (D:DX)(n:Nat) (v0_0:Bool) (v0_1:tSch) :
 (CQ qc D n 82 [] [.r,.r,.l,.r,.l] (qh qc 82)) (Ex.ret) (qmr v0_0 v0_1)=q3o D n v0_0 v0_1:=by kernel_rfl
theorem qbdf (D:DX)(n:Nat) (v1_0:tSch) :
 (CQ qc D n 82 [] [.r,.r,.l,.r,.l] (qh qc 82)) (Ex.exit 2) (qm5 v1_0)=qsp D n v1_0:=by kernel_rfl
theorem qbdi (D:DX)(n:Nat) (x1_0:tIxs) (x1_1:Int) (x1_2:Int) (x1_3:tSch) :
 LQ qc D n 82 [.r,.r,.l,.r,.l] n (qiv x1_0 x1_1 x1_2 x1_3) (CQ qc D n 82 [] [.r,.r,.l,.r,.l] (qh qc 82))=quz D n x1_0 x1_1 x1_2 x1_3:=by
 rw[q4z]
 simp only[qbcn,qbdf]
 rfl
theorem qbee (D:DX)(n:Nat) (v0_0:Bool) (v0_1:tSch) :
 (CQ qc D n 82 [] [.r,.l,.r,.l] (qh qc 82)) (Ex.ret) (qna v0_0 v0_1)=q3e D n v0_0 v0_1:=by kernel_rfl
theorem qbdy (D:DX)(n:Nat) (v1_0:tSch) :
 (CQ qc D n 82 [] [.r,.l,.r,.l] (qh qc 82)) (Ex.exit 0) (qnr v1_0)=qta D n (fun x1_0 x1_1 x1_2 x1_3=>LQ qc D n 82 [.r,.r,.l,.r,.l] n (qiv x1_0 x1_1 x1_2 x1_3) (CQ qc D n 82 [] [.r,.r,.l,.r,.l] (qh qc 82))) v1_0:=by kernel_rfl
theorem qbet (D:DX)(n:Nat) (x0:qn) (x1:Int) (x2:Int) (x3:tSch) :
 LQ qc D n 82 [.r,.l,.r,.l] n (qi3 x0 x1 x2 x3) (CQ qc D n 82 [] [.r,.l,.r,.l] (qh qc 82))=quv D n x0 x1 x2 x3:=by
 rw[q44]
 simp only[qbee,qbdy,qbdi]
 rfl
theorem qbjz (D:DX)(n:Nat) (a0:tSch):rfC qc D n 82 (a0,())=qy7 D n a0:=by
 have h:rfC qc D n 82 (a0,())=qya D n (fun x0 x1 x2 x3=>LQ qc D n 82 [.r,.l,.r,.l] n (qi3 x0 x1 x2 x3) (CQ qc D n 82 [] [.r,.l,.r,.l] (qh qc 82))) a0:=by kernel_rfl
 rw[h]
 simp only[qbet]
 rfl




def qdx (D:DX)(n:Nat) (a1:Clo) (go:qe→Int→Int→Option ((Int×Unit)×Unit)) (K0:Int→Option ((Int×Unit)×Unit)) (K1:Option ((Int×Unit)×Unit)) (x0:qe) (x1:Int) (x2:Int):Option ((Int×Unit)×Unit):=br (decide (x2<x1)) (br (decide (0≤x2)&&decide (x2<(↑(List.length x0):Int))) (qi (qbr ctx D a1 [CapV.val (Ty.sl (Ty.pair (Ty.int IntKind.i64) (Ty.pair (Ty.int IntKind.i64) (Ty.pair Ty.str Ty.unit)))) (List.getD x0 (Int.toNat x2) [])] Ty.bool) fun b↦br b (K0 x2) (go x0 x1 (IntKind.wrap IntKind.i64 (x2+1)))) none) K1
def qbv (D:DX)(n:Nat) (a1:Clo) (K0:Int→Option ((Int×Unit)×Unit)) (K1:Option ((Int×Unit)×Unit)):Nat→(qe)→(Int)→(Int)→Option ((Int×Unit)×Unit) | 0=>(fun x0 x1 x2=>none) | m+1=>(fun x0 x1 x2=>qdx D n a1 (qbv D n a1 K0 K1 m) K0 K1 x0 x1 x2)
def qgd (D:DX)(n:Nat) (a1:Clo) (v0_0:Int):Option ((Int×Unit)×Unit):=some ((v0_0,()),())
def qga (D:DX)(n:Nat) (a1:Clo):Option ((Int×Unit)×Unit):=some ((-1,()),())
def qdt (D:DX)(n:Nat) (a1:Clo):(qe)→(Int)→(Int)→Option ((Int×Unit)×Unit):=(fun x0 x1 x2=>qbv D n a1 (fun v0_0=>qgd D n a1 v0_0) (qga D n a1) n x0 x1 x2)
def qeb (D:DX)(n:Nat) (a1:Clo) (lp0:qe→Int→Int→Option ((Int×Unit)×Unit)) (a0:qe):Option ((Int×Unit)×Unit):=lp0 a0 (↑(List.length a0):Int) 0
def qef (D:DX)(n:Nat) (a0:qe) (a1:Clo):Option ((Int×Unit)×Unit):=qeb D n a1 (qdt D n a1) a0
def qbs (a1:Clo) (x0:qe) (x1:Int) (x2:Int):St:=stq 19 [(0,AV.val (Ty.sl (Ty.sl yV)) x0),(1,AV.cloV a1),(7,avI x1),(8,avI x2)] [] 
def qcp (a1:Clo) (v0_0:Int):St:=stq 19 [(4,avI v0_0)] [] 
def qco (a1:Clo):St:=stq 19 [] [] 
theorem qow (D:DX)(n:Nat) (a1:Clo) (m:Nat) (K:Ex→St→Option (Out ctx 86)) (x0:qe) (x1:Int) (x2:Int) :
 LQ qc D n 86 [.r,.l,.r,.l] (m+1) (qbs a1 x0 x1 x2) K=qdx D n a1 (fun x0 x1 x2=>LQ qc D n 86 [.r,.l,.r,.l] m (qbs a1 x0 x1 x2) K) (fun v0_0=>K (Ex.ret) (qcp a1 v0_0)) (K (Ex.exit 0) (qco a1)) x0 x1 x2:=by kernel_rfl
theorem qgn (D:DX)(n:Nat) (a1:Clo) (K:Ex→St→Option (Out ctx 86)):∀ (m:Nat) (x0:qe) (x1:Int) (x2:Int),LQ qc D n 86 [.r,.l,.r,.l] m (qbs a1 x0 x1 x2) K=qbv D n a1 (fun v0_0=>K (Ex.ret) (qcp a1 v0_0)) (K (Ex.exit 0) (qco a1)) m x0 x1 x2
 | 0,x0,x1,x2=>qu ..
 | m+1,x0,x1,x2=>by
  have ih:(fun x0 x1 x2=>LQ qc D n 86 [.r,.l,.r,.l] m (qbs a1 x0 x1 x2) K)=qbv D n a1 (fun v0_0=>K (Ex.ret) (qcp a1 v0_0)) (K (Ex.exit 0) (qco a1)) m:=by funext x0 x1 x2;exact qgn D n a1 K m x0 x1 x2
  rw[qow]
  rw[ih];rfl
theorem qoc (D:DX)(n:Nat) (a1:Clo) (v0_0:Int) :
 (CQ qc D n 86 [] [.r,.l,.r,.l] (qh qc 86)) (Ex.ret) (qcp a1 v0_0)=qgd D n a1 v0_0:=by kernel_rfl
theorem qog (D:DX)(n:Nat) (a1:Clo) :
 (CQ qc D n 86 [] [.r,.l,.r,.l] (qh qc 86)) (Ex.exit 0) (qco a1)=qga D n a1:=by kernel_rfl
theorem qok (D:DX)(n:Nat) (a1:Clo) (x0:qe) (x1:Int) (x2:Int) :
 LQ qc D n 86 [.r,.l,.r,.l] n (qbs a1 x0 x1 x2) (CQ qc D n 86 [] [.r,.l,.r,.l] (qh qc 86))=qdt D n a1 x0 x1 x2:=by
 rw[qgn]
 simp only[qoc,qog]
 rfl
theorem qqd (D:DX)(n:Nat) (a0:qe) (a1:Clo):rfC qc D n 86 (a0,(a1,()))=qef D n a0 a1:=by
 have h:rfC qc D n 86 (a0,(a1,()))=qeb D n a1 (fun x0 x1 x2=>LQ qc D n 86 [.r,.l,.r,.l] n (qbs a1 x0 x1 x2) (CQ qc D n 86 [] [.r,.l,.r,.l] (qh qc 86))) a0:=by kernel_rfl
 rw[h]
 simp only[qok]
 rfl



def qlg (D:DX)(n:Nat) (a0:List tWay):Option ((List tWay×Unit)×Unit):=br (decide (Int.toNat (↑(List.length a0):Int)=0)) (both (some (([],()),())) (br (decide (0+List.length a0≤qbc)) (some (([]++a0,()),())) none)) (br (decide (0+List.length a0≤qbc)) (some (([]++a0,()),())) none)
def qgg (D:DX)(n:Nat) (a0:List tWay):Option ((List tWay×Unit)×Unit):=qlg D n a0
theorem qxk (D:DX)(n:Nat) (a0:List tWay):rfC qc D n 90 (a0,())=qgg D n a0:=by kernel_rfl

def qey (D:DX)(n:Nat) (a1:Clo) (go:List tWay→Int→Int→Option ((Int×Unit)×Unit)) (K0:Int→Option ((Int×Unit)×Unit)) (K1:Option ((Int×Unit)×Unit)) (x0:List tWay) (x1:Int) (x2:Int):Option ((Int×Unit)×Unit):=br (decide (x2<x1)) (br (decide (0≤x2)&&decide (x2<(↑(List.length x0):Int))) (qi (qbr ctx D a1 [CapV.val (Ty.pair Ty.str (Ty.pair Ty.str Ty.unit)) (List.getD x0 (Int.toNat x2) (ByteArray.empty,ByteArray.empty,()))] Ty.bool) fun b↦br b (K0 x2) (go x0 x1 (IntKind.wrap IntKind.i64 (x2+1)))) none) K1
def qb7 (D:DX)(n:Nat) (a1:Clo) (K0:Int→Option ((Int×Unit)×Unit)) (K1:Option ((Int×Unit)×Unit)):Nat→(List tWay)→(Int)→(Int)→Option ((Int×Unit)×Unit) | 0=>(fun x0 x1 x2=>none) | m+1=>(fun x0 x1 x2=>qey D n a1 (qb7 D n a1 K0 K1 m) K0 K1 x0 x1 x2)
def qh3 (D:DX)(n:Nat) (a1:Clo) (v0_0:Int):Option ((Int×Unit)×Unit):=some ((v0_0,()),())
def qh6 (D:DX)(n:Nat) (a1:Clo):Option ((Int×Unit)×Unit):=some ((-1,()),())
def qem (D:DX)(n:Nat) (a1:Clo):(List tWay)→(Int)→(Int)→Option ((Int×Unit)×Unit):=(fun x0 x1 x2=>qb7 D n a1 (fun v0_0=>qh3 D n a1 v0_0) (qh6 D n a1) n x0 x1 x2)
def qfg (D:DX)(n:Nat) (a1:Clo) (lp0:List tWay→Int→Int→Option ((Int×Unit)×Unit)) (a0:List tWay):Option ((Int×Unit)×Unit):=lp0 a0 (↑(List.length a0):Int) 0
def qe8 (D:DX)(n:Nat) (a0:List tWay) (a1:Clo):Option ((Int×Unit)×Unit):=qfg D n a1 (qem D n a1) a0
def qb9 (a1:Clo) (x0:List tWay) (x1:Int) (x2:Int):St:=stq 19 [(0,AV.val (Ty.sl (Ty.pair Ty.str (Ty.pair Ty.str Ty.unit))) x0),(1,AV.cloV a1),(7,avI x1),(8,avI x2)] [] 
def qc4 (a1:Clo) (v0_0:Int):St:=stq 19 [(4,avI v0_0)] [] 
def qc5 (a1:Clo):St:=stq 19 [] [] 
theorem qrh (D:DX)(n:Nat) (a1:Clo) (m:Nat) (K:Ex→St→Option (Out ctx 91)) (x0:List tWay) (x1:Int) (x2:Int) :
 LQ qc D n 91 [.r,.l,.r,.l] (m+1) (qb9 a1 x0 x1 x2) K=qey D n a1 (fun x0 x1 x2=>LQ qc D n 91 [.r,.l,.r,.l] m (qb9 a1 x0 x1 x2) K) (fun v0_0=>K (Ex.ret) (qc4 a1 v0_0)) (K (Ex.exit 0) (qc5 a1)) x0 x1 x2:=by kernel_rfl
theorem qia (D:DX)(n:Nat) (a1:Clo) (K:Ex→St→Option (Out ctx 91)):∀ (m:Nat) (x0:List tWay) (x1:Int) (x2:Int),LQ qc D n 91 [.r,.l,.r,.l] m (qb9 a1 x0 x1 x2) K=qb7 D n a1 (fun v0_0=>K (Ex.ret) (qc4 a1 v0_0)) (K (Ex.exit 0) (qc5 a1)) m x0 x1 x2
 | 0,x0,x1,x2=>qu ..
 | m+1,x0,x1,x2=>by
  have ih:(fun x0 x1 x2=>LQ qc D n 91 [.r,.l,.r,.l] m (qb9 a1 x0 x1 x2) K)=qb7 D n a1 (fun v0_0=>K (Ex.ret) (qc4 a1 v0_0)) (K (Ex.exit 0) (qc5 a1)) m:=by funext x0 x1 x2;exact qia D n a1 K m x0 x1 x2
  rw[qrh]
  rw[ih];rfl
theorem qqs (D:DX)(n:Nat) (a1:Clo) (v0_0:Int) :
 (CQ qc D n 91 [] [.r,.l,.r,.l] (qh qc 91)) (Ex.ret) (qc4 a1 v0_0)=qh3 D n a1 v0_0:=by kernel_rfl
theorem qqh (D:DX)(n:Nat) (a1:Clo) :
 (CQ qc D n 91 [] [.r,.l,.r,.l] (qh qc 91)) (Ex.exit 0) (qc5 a1)=qh6 D n a1:=by kernel_rfl
theorem qql (D:DX)(n:Nat) (a1:Clo) (x0:List tWay) (x1:Int) (x2:Int) :
 LQ qc D n 91 [.r,.l,.r,.l] n (qb9 a1 x0 x1 x2) (CQ qc D n 91 [] [.r,.l,.r,.l] (qh qc 91))=qem D n a1 x0 x1 x2:=by
 rw[qia]
 simp only[qqs,qqh]
 rfl
theorem qth (D:DX)(n:Nat) (a0:List tWay) (a1:Clo):rfC qc D n 91 (a0,(a1,()))=qe8 D n a0 a1:=by
 have h:rfC qc D n 91 (a0,(a1,()))=qfg D n a1 (fun x0 x1 x2=>LQ qc D n 91 [.r,.l,.r,.l] n (qb9 a1 x0 x1 x2) (CQ qc D n 91 [] [.r,.l,.r,.l] (qh qc 91))) a0:=by kernel_rfl
 rw[h]
 simp only[qql]
 rfl

def q77 (D:DX)(n:Nat) (a0:ByteArray×ByteArray×Unit) (a1:ByteArray×ByteArray×Unit):Option ((Bool×Unit)×Unit):=qi (q14 D a0 a1) fun b↦some ((!Prod.fst (Prod.fst b),()),())
def qz6 (D:DX)(n:Nat) (a0:ByteArray×ByteArray×Unit) (a1:ByteArray×ByteArray×Unit):Option ((Bool×Unit)×Unit):=q77 D n a0 a1
theorem qbmg (D:DX)(n:Nat) (a0:ByteArray×ByteArray×Unit) (a1:ByteArray×ByteArray×Unit):rfC qc D n 92 (a0,(a1,()))=qz6 D n a0 a1:=by kernel_rfl

def qyb (D:DX)(n:Nat) (go:qd→List Int→Int→Int→qd→Option ((qd×Unit)×Unit)) (K0:qd→Option ((qd×Unit)×Unit)) (x0:qd) (x1:List Int) (x2:Int) (x3:Int) (x4:qd):Option ((qd×Unit)×Unit):=br (decide (x3<x2)) (br (decide (0≤x3)&&decide (x3<(↑(List.length x1):Int))) (qi (qf1 D (List.getD x1 (Int.toNat x3) 0) 0 (IntKind.wrap IntKind.i64 ((↑(List.length x0):Int) - 1))) fun b↦br (Prod.fst (Prod.fst b)) (br (decide (0≤List.getD x1 (Int.toNat x3) 0)&&decide (List.getD x1 (Int.toNat x3) 0<(↑(List.length x0):Int))) (br (decide (List.length x4+1≤qbc)) (go x0 x1 x2 (IntKind.wrap IntKind.i64 (x3+1)) (x4++[List.getD x0 (Int.toNat (List.getD x1 (Int.toNat x3) 0)) (0,0,ByteArray.empty,())])) none) none) (go x0 x1 x2 (IntKind.wrap IntKind.i64 (x3+1)) x4)) none) (K0 x4)
def qj0 (D:DX)(n:Nat) (K0:qd→Option ((qd×Unit)×Unit)):Nat→(qd)→(List Int)→(Int)→(Int)→(qd)→Option ((qd×Unit)×Unit) | 0=>(fun x0 x1 x2 x3 x4=>none) | m+1=>(fun x0 x1 x2 x3 x4=>qyb D n (qj0 D n K0 m) K0 x0 x1 x2 x3 x4)
def q45 (D:DX)(n:Nat) (v0_0:qd):Option ((qd×Unit)×Unit):=some ((v0_0,()),())
def qwc (D:DX)(n:Nat):(qd)→(List Int)→(Int)→(Int)→(qd)→Option ((qd×Unit)×Unit):=(fun x0 x1 x2 x3 x4=>qj0 D n (fun v0_0=>q45 D n v0_0) n x0 x1 x2 x3 x4)
def q15 (D:DX)(n:Nat) (lp0:qd→List Int→Int→Int→qd→Option ((qd×Unit)×Unit)) (a0:qd) (a1:List Int):Option ((qd×Unit)×Unit):=lp0 a0 a1 (↑(List.length a1):Int) 0 []
def q2n (D:DX)(n:Nat) (a0:qd) (a1:List Int):Option ((qd×Unit)×Unit):=q15 D n (qwc D n) a0 a1
def qj4 (x0:qd) (x1:List Int) (x2:Int) (x3:Int) (x4:qd):St:=stq 29 [(0,AV.val (Ty.sl yV) x0),(5,AV.brw 5 [] 0),(9,AV.val (Ty.sl yI) x1),(10,avI x2),(11,avI x3)] [(5,Root.mk (Ty.sl yV) (Mk.own 0 (Mk.pr Mk.no (Mk.pr Mk.no (Mk.pr Mk.no Mk.no)))) x4 false)] 
def qoq (v0_0:qd):St:=stq 29 [(5,AV.brw 5 [] 0)] [(5,Root.mk (Ty.sl yV) (Mk.own 0 (Mk.pr Mk.no (Mk.pr Mk.no (Mk.pr Mk.no Mk.no)))) v0_0 false)] 
theorem qbh1 (D:DX)(n:Nat) (m:Nat) (K:Ex→St→Option (Out ctx 94)) (x0:qd) (x1:List Int) (x2:Int) (x3:Int) (x4:qd) :
 LQ qc D n 94 [.r,.r,.l,.r,.l] (m+1) (qj4 x0 x1 x2 x3 x4) K=qyb D n (fun x0 x1 x2 x3 x4=>LQ qc D n 94 [.r,.r,.l,.r,.l] m (qj4 x0 x1 x2 x3 x4) K) (fun v0_0=>K (Ex.exit 0) (qoq v0_0)) x0 x1 x2 x3 x4:=by kernel_rfl
theorem q7h (D:DX)(n:Nat) (K:Ex→St→Option (Out ctx 94)):∀ (m:Nat) (x0:qd) (x1:List Int) (x2:Int) (x3:Int) (x4:qd),LQ qc D n 94 [.r,.r,.l,.r,.l] m (qj4 x0 x1 x2 x3 x4) K=qj0 D n (fun v0_0=>K (Ex.exit 0) (qoq v0_0)) m x0 x1 x2 x3 x4
 | 0,x0,x1,x2,x3,x4=>qu ..
 | m+1,x0,x1,x2,x3,x4=>by
  have ih:(fun x0 x1 x2 x3 x4=>LQ qc D n 94 [.r,.r,.l,.r,.l] m (qj4 x0 x1 x2 x3 x4) K)=qj0 D n (fun v0_0=>K (Ex.exit 0) (qoq v0_0)) m:=by funext x0 x1 x2 x3 x4;exact q7h D n K m x0 x1 x2 x3 x4
  rw[qbh1]
  rw[ih];rfl
theorem qbfp (D:DX)(n:Nat) (v0_0:qd) :
 (CQ qc D n 94 [] [.r,.r,.l,.r,.l] (qh qc 94)) (Ex.exit 0) (qoq v0_0)=q45 D n v0_0:=by kernel_rfl
theorem qbgd (D:DX)(n:Nat) (x0:qd) (x1:List Int) (x2:Int) (x3:Int) (x4:qd) :
 LQ qc D n 94 [.r,.r,.l,.r,.l] n (qj4 x0 x1 x2 x3 x4) (CQ qc D n 94 [] [.r,.r,.l,.r,.l] (qh qc 94))=qwc D n x0 x1 x2 x3 x4:=by
 rw[q7h]
 simp only[qbfp]
 rfl
theorem qbnz (D:DX)(n:Nat) (a0:qd) (a1:List Int):rfC qc D n 94 (a0,(a1,()))=q2n D n a0 a1:=by
 have h:rfC qc D n 94 (a0,(a1,()))=q15 D n (fun x0 x1 x2 x3 x4=>LQ qc D n 94 [.r,.r,.l,.r,.l] n (qj4 x0 x1 x2 x3 x4) (CQ qc D n 94 [] [.r,.r,.l,.r,.l] (qh qc 94))) a0 a1:=by kernel_rfl
 rw[h]
 simp only[qbgd]
 rfl


def q4r (D:DX)(n:Nat) (go:qd→Int→tSch→Option ((Bool×Unit)×Unit)) (K0:Bool→Option ((Bool×Unit)×Unit)) (K1:Option ((Bool×Unit)×Unit)) (x0:qd) (x1:Int) (x2:tSch):Option ((Bool×Unit)×Unit):=br (decide (x1<(↑(List.length x0):Int))) (br (decide (0≤x1)&&decide (x1<(↑(List.length x0):Int))) (qi (qt4 D (List.getD x0 (Int.toNat x1) (0,0,ByteArray.empty,()))) fun b↦br (!Prod.fst (Prod.fst b)) (K0 false) (br (decide (0≤x1)&&decide (x1<(↑(List.length x0):Int))) (br (decide (0≤x1)&&decide (x1<(↑(List.length (Prod.fst x2)):Int))) (br (Prod.fst (List.getD x0 (Int.toNat x1) (0,0,ByteArray.empty,())) != Prod.fst (Prod.snd (List.getD (Prod.fst x2) (Int.toNat x1) (ByteArray.empty,0,false,())))) (br (decide (0≤x1)&&decide (x1<(↑(List.length (Prod.fst x2)):Int))) (br (Prod.fst (Prod.snd (Prod.snd (List.getD (Prod.fst x2) (Int.toNat x1) (ByteArray.empty,0,false,()))))) (br (decide (0≤x1)&&decide (x1<(↑(List.length x0):Int))) (br (!decide (Prod.fst (List.getD x0 (Int.toNat x1) (0,0,ByteArray.empty,()))=0)) (K0 false) (go x0 (IntKind.wrap IntKind.i64 (x1+1)) x2)) none) (K0 false)) none) (go x0 (IntKind.wrap IntKind.i64 (x1+1)) x2)) none) none)) none) K1
def qmd (D:DX)(n:Nat) (K0:Bool→Option ((Bool×Unit)×Unit)) (K1:Option ((Bool×Unit)×Unit)):Nat→(qd)→(Int)→(tSch)→Option ((Bool×Unit)×Unit) | 0=>(fun x0 x1 x2=>none) | m+1=>(fun x0 x1 x2=>q4r D n (qmd D n K0 K1 m) K0 K1 x0 x1 x2)
def q7q (D:DX)(n:Nat) (v0_0:Bool):Option ((Bool×Unit)×Unit):=some ((v0_0,()),())
def q8f (D:DX)(n:Nat):Option ((Bool×Unit)×Unit):=some ((true,()),())
def q1l (D:DX)(n:Nat):(qd)→(Int)→(tSch)→Option ((Bool×Unit)×Unit):=(fun x0 x1 x2=>qmd D n (fun v0_0=>q7q D n v0_0) (q8f D n) n x0 x1 x2)
def q6w (D:DX)(n:Nat) (lp0:qd→Int→tSch→Option ((Bool×Unit)×Unit)) (a0:tSch) (a1:qd):Option ((Bool×Unit)×Unit):=qi (qr9 D a0) fun b↦br (bif !Prod.fst (Prod.fst b) then true else (↑(List.length a1):Int) != (↑(List.length (Prod.fst a0)):Int)) (some ((false,()),())) (lp0 a1 0 a0)
def q67 (D:DX)(n:Nat) (a0:tSch) (a1:qd):Option ((Bool×Unit)×Unit):=q6w D n (q1l D n) a0 a1
def ql4 (x0:qd) (x1:Int) (x2:tSch):St:=stq 60 [(1,AV.val (Ty.sl yV) x0),(2,AV.addr 2 []),(5,avI x1)] [(2,Root.mk yS Mk.no x2 true)] 
def qr1 (v0_0:Bool):St:=stq 60 [(4,AV.val Ty.bool v0_0)] [] 
def qr6:St:=stq 60 [] [] 
theorem qbnt (D:DX)(n:Nat) (m:Nat) (K:Ex→St→Option (Out ctx 100)) (x0:qd) (x1:Int) (x2:tSch) :
 LQ qc D n 100 [.r,.r,.l,.r,.l] (m+1) (ql4 x0 x1 x2) K=q4r D n (fun x0 x1 x2=>LQ qc D n 100 [.r,.r,.l,.r,.l] m (ql4 x0 x1 x2) K) (fun v0_0=>K (Ex.ret) (qr1 v0_0)) (K (Ex.exit 0) (qr6)) x0 x1 x2:=by kernel_rfl
theorem q9g (D:DX)(n:Nat) (K:Ex→St→Option (Out ctx 100)):∀ (m:Nat) (x0:qd) (x1:Int) (x2:tSch),LQ qc D n 100 [.r,.r,.l,.r,.l] m (ql4 x0 x1 x2) K=qmd D n (fun v0_0=>K (Ex.ret) (qr1 v0_0)) (K (Ex.exit 0) (qr6)) m x0 x1 x2
 | 0,x0,x1,x2=>qu ..
 | m+1,x0,x1,x2=>by
  have ih:(fun x0 x1 x2=>LQ qc D n 100 [.r,.r,.l,.r,.l] m (ql4 x0 x1 x2) K)=qmd D n (fun v0_0=>K (Ex.ret) (qr1 v0_0)) (K (Ex.exit 0) (qr6)) m:=by funext x0 x1 x2;exact q9g D n K m x0 x1 x2
  rw[qbnt]
  rw[ih];rfl
theorem qbk6 (D:DX)(n:Nat) (v0_0:Bool) :
 (CQ qc D n 100 [] [.r,.r,.l,.r,.l] (qh qc 100)) (Ex.ret) (qr1 v0_0)=q7q D n v0_0:=by kernel_rfl
theorem qbj4 (D:DX)(n:Nat) :
 (CQ qc D n 100 [] [.r,.r,.l,.r,.l] (qh qc 100)) (Ex.exit 0) (qr6)=q8f D n:=by kernel_rfl
theorem qbln (D:DX)(n:Nat) (x0:qd) (x1:Int) (x2:tSch) :
 LQ qc D n 100 [.r,.r,.l,.r,.l] n (ql4 x0 x1 x2) (CQ qc D n 100 [] [.r,.r,.l,.r,.l] (qh qc 100))=q1l D n x0 x1 x2:=by
 rw[q9g]
 simp only[qbk6,qbj4]
 rfl
theorem qbrf (D:DX)(n:Nat) (a0:tSch) (a1:qd):rfC qc D n 100 (a0,(a1,()))=q67 D n a0 a1:=by
 have h:rfC qc D n 100 (a0,(a1,()))=q6w D n (fun x0 x1 x2=>LQ qc D n 100 [.r,.r,.l,.r,.l] n (ql4 x0 x1 x2) (CQ qc D n 100 [] [.r,.r,.l,.r,.l] (qh qc 100))) a0 a1:=by kernel_rfl
 rw[h]
 simp only[qbln]
 rfl


def q7o (D:DX)(n:Nat) (a0:tSch) (a1:qd):Option ((qd×Unit)×Unit):=qi (qk2 D a1 (Prod.fst (Prod.snd a0))) fun b↦some ((Prod.fst (Prod.fst b),()),())
def qyg (D:DX)(n:Nat) (a0:tSch) (a1:qd):Option ((qd×Unit)×Unit):=q7o D n a0 a1
theorem qbk7 (D:DX)(n:Nat) (a0:tSch) (a1:qd):rfC qc D n 102 (a0,(a1,()))=qyg D n a0 a1:=by kernel_rfl


def qvp (D:DX)(n:Nat) (go:qd→qd→Int→Option ((Bool×Unit)×Unit)) (K0:qd→qd→Bool→Option ((Bool×Unit)×Unit)) (K1:qd→qd→Option ((Bool×Unit)×Unit)) (x0:qd) (x1:qd) (x2:Int):Option ((Bool×Unit)×Unit):=br (bif decide (x2<(↑(List.length x0):Int)) then decide (x2<(↑(List.length x1):Int)) else false) (br (decide (0≤x2)&&decide (x2<(↑(List.length x0):Int))) (br (decide (0≤x2)&&decide (x2<(↑(List.length x1):Int))) (qi (qpr D (List.getD x0 (Int.toNat x2) (0,0,ByteArray.empty,())) (List.getD x1 (Int.toNat x2) (0,0,ByteArray.empty,()))) fun b↦br (!Prod.fst (Prod.fst b)) (br (decide (0≤x2)&&decide (x2<(↑(List.length x0):Int))) (br (decide (0≤x2)&&decide (x2<(↑(List.length x1):Int))) (qi (qxm D (List.getD x0 (Int.toNat x2) (0,0,ByteArray.empty,())) (List.getD x1 (Int.toNat x2) (0,0,ByteArray.empty,()))) fun b↦K0 x0 x1 (Prod.fst (Prod.fst b))) none) none) (go x0 x1 (IntKind.wrap IntKind.i64 (x2+1)))) none) none) (K1 x0 x1)
def qhk (D:DX)(n:Nat) (K0:qd→qd→Bool→Option ((Bool×Unit)×Unit)) (K1:qd→qd→Option ((Bool×Unit)×Unit)):Nat→(qd)→(qd)→(Int)→Option ((Bool×Unit)×Unit) | 0=>(fun x0 x1 x2=>none) | m+1=>(fun x0 x1 x2=>qvp D n (qhk D n K0 K1 m) K0 K1 x0 x1 x2)
def qrb (D:DX)(n:Nat) (v0_0:qd) (v0_1:qd) (v0_2:Bool):Option ((Bool×Unit)×Unit):=some ((v0_2,()),())
def qic (D:DX)(n:Nat) (v1_0:qd) (v1_1:qd):Option ((Bool×Unit)×Unit):=some ((decide ((↑(List.length v1_0):Int)<(↑(List.length v1_1):Int)),()),())
def qsg (D:DX)(n:Nat):(qd)→(qd)→(Int)→Option ((Bool×Unit)×Unit):=(fun x0 x1 x2=>qhk D n (fun v0_0 v0_1 v0_2=>qrb D n v0_0 v0_1 v0_2) (fun v1_0 v1_1=>qic D n v1_0 v1_1) n x0 x1 x2)
def qw7 (D:DX)(n:Nat) (lp0:qd→qd→Int→Option ((Bool×Unit)×Unit)) (a0:qd) (a1:qd):Option ((Bool×Unit)×Unit):=lp0 a0 a1 0
def qwy (D:DX)(n:Nat) (a0:qd) (a1:qd):Option ((Bool×Unit)×Unit):=qw7 D n (qsg D n) a0 a1
def qhv (x0:qd) (x1:qd) (x2:Int):St:=stq 42 [(0,AV.val (Ty.sl yV) x0),(1,AV.val (Ty.sl yV) x1),(5,avI x2)] [] 
def qlu (v0_0:qd) (v0_1:qd) (v0_2:Bool):St:=stq 42 [(0,AV.val (Ty.sl yV) v0_0),(1,AV.val (Ty.sl yV) v0_1),(4,AV.val Ty.bool v0_2)] [] 
def qlr (v1_0:qd) (v1_1:qd):St:=stq 42 [(0,AV.val (Ty.sl yV) v1_0),(1,AV.val (Ty.sl yV) v1_1)] [] 
theorem qbdm (D:DX)(n:Nat) (m:Nat) (K:Ex→St→Option (Out ctx 104)) (x0:qd) (x1:qd) (x2:Int) :
 LQ qc D n 104 [.r,.l,.r,.l] (m+1) (qhv x0 x1 x2) K=qvp D n (fun x0 x1 x2=>LQ qc D n 104 [.r,.l,.r,.l] m (qhv x0 x1 x2) K) (fun v0_0 v0_1 v0_2=>K (Ex.ret) (qlu v0_0 v0_1 v0_2)) (fun v1_0 v1_1=>K (Ex.exit 0) (qlr v1_0 v1_1)) x0 x1 x2:=by kernel_rfl
theorem q26 (D:DX)(n:Nat) (K:Ex→St→Option (Out ctx 104)):∀ (m:Nat) (x0:qd) (x1:qd) (x2:Int),LQ qc D n 104 [.r,.l,.r,.l] m (qhv x0 x1 x2) K=qhk D n (fun v0_0 v0_1 v0_2=>K (Ex.ret) (qlu v0_0 v0_1 v0_2)) (fun v1_0 v1_1=>K (Ex.exit 0) (qlr v1_0 v1_1)) m x0 x1 x2
 | 0,x0,x1,x2=>qu ..
 | m+1,x0,x1,x2=>by
  have ih:(fun x0 x1 x2=>LQ qc D n 104 [.r,.l,.r,.l] m (qhv x0 x1 x2) K)=qhk D n (fun v0_0 v0_1 v0_2=>K (Ex.ret) (qlu v0_0 v0_1 v0_2)) (fun v1_0 v1_1=>K (Ex.exit 0) (qlr v1_0 v1_1)) m:=by funext x0 x1 x2;exact q26 D n K m x0 x1 x2
  rw[qbdm]
  rw[ih];rfl
theorem qbb0 (D:DX)(n:Nat) (v0_0:qd) (v0_1:qd) (v0_2:Bool) :
 (CQ qc D n 104 [] [.r,.l,.r,.l] (qh qc 104)) (Ex.ret) (qlu v0_0 v0_1 v0_2)=qrb D n v0_0 v0_1 v0_2:=by kernel_rfl
theorem qbb2 (D:DX)(n:Nat) (v1_0:qd) (v1_1:qd) :
 (CQ qc D n 104 [] [.r,.l,.r,.l] (qh qc 104)) (Ex.exit 0) (qlr v1_0 v1_1)=qic D n v1_0 v1_1:=by kernel_rfl
theorem qbb7 (D:DX)(n:Nat) (x0:qd) (x1:qd) (x2:Int) :
 LQ qc D n 104 [.r,.l,.r,.l] n (qhv x0 x1 x2) (CQ qc D n 104 [] [.r,.l,.r,.l] (qh qc 104))=qsg D n x0 x1 x2:=by
 rw[q26]
 simp only[qbb0,qbb2]
 rfl
theorem qbiz (D:DX)(n:Nat) (a0:qd) (a1:qd):rfC qc D n 104 (a0,(a1,()))=qwy D n a0 a1:=by
 have h:rfC qc D n 104 (a0,(a1,()))=qw7 D n (fun x0 x1 x2=>LQ qc D n 104 [.r,.l,.r,.l] n (qhv x0 x1 x2) (CQ qc D n 104 [] [.r,.l,.r,.l] (qh qc 104))) a0 a1:=by kernel_rfl
 rw[h]
 simp only[qbb7]
 rfl




def qwl (D:DX)(n:Nat) (go:qd→qd→Int→tSch→Option ((Bool×Unit)×Unit)) (K0:Bool→Option ((Bool×Unit)×Unit)) (K1:Option ((Bool×Unit)×Unit)) (x0:qd) (x1:qd) (x2:Int) (x3:tSch):Option ((Bool×Unit)×Unit):=br (decide (x2<(↑(List.length (Prod.fst (Prod.snd (Prod.snd x3)))):Int))) (br (decide (0≤x2)&&decide (x2<(↑(List.length (Prod.fst (Prod.snd (Prod.snd x3)))):Int))) (qi (qk2 D x0 (Prod.fst (Prod.snd (List.getD (Prod.fst (Prod.snd (Prod.snd x3))) (Int.toNat x2) (ByteArray.empty,[],false,()))))) fun b↦qi (qk2 D x1 (Prod.fst (Prod.snd (List.getD (Prod.fst (Prod.snd (Prod.snd x3))) (Int.toNat x2) (ByteArray.empty,[],false,()))))) fun b_1↦br (Prod.fst (Prod.snd (Prod.snd (List.getD (Prod.fst (Prod.snd (Prod.snd x3))) (Int.toNat x2) (ByteArray.empty,[],false,()))))) (qi (q2p D (Prod.fst (Prod.fst b)) (Prod.fst (Prod.fst b_1))) fun b_2↦br (Prod.fst (Prod.fst b_2)) (qi (q1j D (Prod.fst (Prod.fst b))) fun b↦br (!Prod.fst (Prod.fst b)) (K0 true) (go x0 x1 (IntKind.wrap IntKind.i64 (x2+1)) x3)) (go x0 x1 (IntKind.wrap IntKind.i64 (x2+1)) x3)) (go x0 x1 (IntKind.wrap IntKind.i64 (x2+1)) x3)) none) K1
def qix (D:DX)(n:Nat) (K0:Bool→Option ((Bool×Unit)×Unit)) (K1:Option ((Bool×Unit)×Unit)):Nat→(qd)→(qd)→(Int)→(tSch)→Option ((Bool×Unit)×Unit) | 0=>(fun x0 x1 x2 x3=>none) | m+1=>(fun x0 x1 x2 x3=>qwl D n (qix D n K0 K1 m) K0 K1 x0 x1 x2 x3)
def q21 (D:DX)(n:Nat) (v0_0:Bool):Option ((Bool×Unit)×Unit):=some ((v0_0,()),())
def q3j (D:DX)(n:Nat):Option ((Bool×Unit)×Unit):=some ((false,()),())
def quy (D:DX)(n:Nat):(qd)→(qd)→(Int)→(tSch)→Option ((Bool×Unit)×Unit):=(fun x0 x1 x2 x3=>qix D n (fun v0_0=>q21 D n v0_0) (q3j D n) n x0 x1 x2 x3)
def qyq (D:DX)(n:Nat) (lp0:qd→qd→Int→tSch→Option ((Bool×Unit)×Unit)) (a0:tSch) (a1:qd) (a2:qd):Option ((Bool×Unit)×Unit):=lp0 a1 a2 0 a0
def qzo (D:DX)(n:Nat) (a0:tSch) (a1:qd) (a2:qd):Option ((Bool×Unit)×Unit):=qyq D n (quy D n) a0 a1 a2
def qi4 (x0:qd) (x1:qd) (x2:Int) (x3:tSch):St:=stq 43 [(1,AV.val (Ty.sl yV) x0),(2,AV.val (Ty.sl yV) x1),(3,AV.addr 3 []),(7,avI x2)] [(3,Root.mk yS Mk.no x3 true)] 
def qmo (v0_0:Bool):St:=stq 43 [(6,AV.val Ty.bool v0_0)] [] 
def qno:St:=stq 43 [] [] 
theorem qbgl (D:DX)(n:Nat) (m:Nat) (K:Ex→St→Option (Out ctx 111)) (x0:qd) (x1:qd) (x2:Int) (x3:tSch) :
 LQ qc D n 111 [.r,.l,.r,.l] (m+1) (qi4 x0 x1 x2 x3) K=qwl D n (fun x0 x1 x2 x3=>LQ qc D n 111 [.r,.l,.r,.l] m (qi4 x0 x1 x2 x3) K) (fun v0_0=>K (Ex.ret) (qmo v0_0)) (K (Ex.exit 0) (qno)) x0 x1 x2 x3:=by kernel_rfl
theorem q5m (D:DX)(n:Nat) (K:Ex→St→Option (Out ctx 111)):∀ (m:Nat) (x0:qd) (x1:qd) (x2:Int) (x3:tSch),LQ qc D n 111 [.r,.l,.r,.l] m (qi4 x0 x1 x2 x3) K=qix D n (fun v0_0=>K (Ex.ret) (qmo v0_0)) (K (Ex.exit 0) (qno)) m x0 x1 x2 x3
 | 0,x0,x1,x2,x3=>qu ..
 | m+1,x0,x1,x2,x3=>by
  have ih:(fun x0 x1 x2 x3=>LQ qc D n 111 [.r,.l,.r,.l] m (qi4 x0 x1 x2 x3) K)=qix D n (fun v0_0=>K (Ex.ret) (qmo v0_0)) (K (Ex.exit 0) (qno)) m:=by funext x0 x1 x2 x3;exact q5m D n K m x0 x1 x2 x3
  rw[qbgl]
  rw[ih];rfl
theorem qbdq (D:DX)(n:Nat) (v0_0:Bool) :
 (CQ qc D n 111 [] [.r,.l,.r,.l] (qh qc 111)) (Ex.ret) (qmo v0_0)=q21 D n v0_0:=by kernel_rfl
theorem qbec (D:DX)(n:Nat) :
 (CQ qc D n 111 [] [.r,.l,.r,.l] (qh qc 111)) (Ex.exit 0) (qno)=q3j D n:=by kernel_rfl
theorem qbdv (D:DX)(n:Nat) (x0:qd) (x1:qd) (x2:Int) (x3:tSch) :
 LQ qc D n 111 [.r,.l,.r,.l] n (qi4 x0 x1 x2 x3) (CQ qc D n 111 [] [.r,.l,.r,.l] (qh qc 111))=quy D n x0 x1 x2 x3:=by
 rw[q5m]
 simp only[qbdq,qbec]
 rfl
theorem qblg (D:DX)(n:Nat) (a0:tSch) (a1:qd) (a2:qd):rfC qc D n 111 (a0,(a1,(a2,())))=qzo D n a0 a1 a2:=by
 have h:rfC qc D n 111 (a0,(a1,(a2,())))=qyq D n (fun x0 x1 x2 x3=>LQ qc D n 111 [.r,.l,.r,.l] n (qi4 x0 x1 x2 x3) (CQ qc D n 111 [] [.r,.l,.r,.l] (qh qc 111))) a0 a1 a2:=by kernel_rfl
 rw[h]
 simp only[qbdv]
 rfl

def qwe (D:DX)(n:Nat) (go:Int→tSch→Option ((Bool×Unit)×Unit)) (K0:Bool→tSch→Option ((Bool×Unit)×Unit)) (K1:tSch→Option ((Bool×Unit)×Unit)) (x0:Int) (x1:tSch):Option ((Bool×Unit)×Unit):=br (decide (x0<(↑(List.length (Prod.fst x1)):Int))) (br (decide (0≤x0)&&decide (x0<(↑(List.length (Prod.fst x1)):Int))) (qi (qpd D (Prod.fst (List.getD (Prod.fst x1) (Int.toNat x0) (ByteArray.empty,0,false,())))) fun b↦br (!Prod.fst (Prod.fst b)) (K0 false x1) (br (decide (0≤x0)&&decide (x0<(↑(List.length (Prod.fst x1)):Int))) (qi (qf0 D (Prod.fst (Prod.snd (List.getD (Prod.fst x1) (Int.toNat x0) (ByteArray.empty,0,false,())))) 1 3) fun b↦br (!Prod.fst (Prod.fst b)) (K0 false x1) (br (decide (0≤x0)&&decide (x0<(↑(List.length (Prod.fst x1)):Int))) (qi (q68 D x1 (Prod.fst (List.getD (Prod.fst x1) (Int.toNat x0) (ByteArray.empty,0,false,())))) fun b↦br (Prod.fst (Prod.fst b) != x0) (K0 false x1) (go (IntKind.wrap IntKind.i64 (x0+1)) x1)) none)) none)) none) (K1 x1)
def qi5 (D:DX)(n:Nat) (K0:Bool→tSch→Option ((Bool×Unit)×Unit)) (K1:tSch→Option ((Bool×Unit)×Unit)):Nat→(Int)→(tSch)→Option ((Bool×Unit)×Unit) | 0=>(fun x0 x1=>none) | m+1=>(fun x0 x1=>qwe D n (qi5 D n K0 K1 m) K0 K1 x0 x1)
def q3p (D:DX)(n:Nat) (v0_0:Bool) (v0_1:tSch):Option ((Bool×Unit)×Unit):=some ((v0_0,()),())
def qwa (D:DX)(n:Nat) (go:Int→tSch→Option ((Bool×Unit)×Unit)) (K0:Bool→Option ((Bool×Unit)×Unit)) (K1:Option ((Bool×Unit)×Unit)) (x1_0:Int) (x1_1:tSch):Option ((Bool×Unit)×Unit):=br (decide (x1_0<(↑(List.length (Prod.fst (Prod.snd x1_1))):Int))) (br (decide (0≤x1_0)&&decide (x1_0<(↑(List.length (Prod.fst (Prod.snd x1_1))):Int))) (br (decide (0≤List.getD (Prod.fst (Prod.snd x1_1)) (Int.toNat x1_0) 0)&&decide (List.getD (Prod.fst (Prod.snd x1_1)) (Int.toNat x1_0) 0<(↑(List.length (Prod.fst x1_1)):Int))) (br (Prod.fst (Prod.snd (Prod.snd (List.getD (Prod.fst x1_1) (Int.toNat (List.getD (Prod.fst (Prod.snd x1_1)) (Int.toNat x1_0) 0)) (ByteArray.empty,0,false,()))))) (K0 false) (go (IntKind.wrap IntKind.i64 (x1_0+1)) x1_1)) none) none) K1
def qih (D:DX)(n:Nat) (K0:Bool→Option ((Bool×Unit)×Unit)) (K1:Option ((Bool×Unit)×Unit)):Nat→(Int)→(tSch)→Option ((Bool×Unit)×Unit) | 0=>(fun x1_0 x1_1=>none) | m+1=>(fun x1_0 x1_1=>qwa D n (qih D n K0 K1 m) K0 K1 x1_0 x1_1)
def q23 (D:DX)(n:Nat) (v0_0:Bool):Option ((Bool×Unit)×Unit):=some ((v0_0,()),())
def q3c (D:DX)(n:Nat):Option ((Bool×Unit)×Unit):=some ((true,()),())
def qvk (D:DX)(n:Nat):(Int)→(tSch)→Option ((Bool×Unit)×Unit):=(fun x1_0 x1_1=>qih D n (fun v0_0=>q23 D n v0_0) (q3c D n) n x1_0 x1_1)
def qtj (D:DX)(n:Nat) (lp1:Int→tSch→Option ((Bool×Unit)×Unit)) (v1_0:tSch):Option ((Bool×Unit)×Unit):=qi (qf0 D (↑(List.length (Prod.fst v1_0)):Int) 1 5) fun b↦br (!Prod.fst (Prod.fst b)) (some ((false,()),())) (qi (qpq D v1_0 (Prod.fst (Prod.snd v1_0)) 4) fun b↦br (!Prod.fst (Prod.fst b)) (some ((false,()),())) (qi (qvh D v1_0) fun b↦br (!Prod.fst (Prod.fst b)) (some ((false,()),())) (lp1 0 v1_0)))
def quq (D:DX)(n:Nat):(Int)→(tSch)→Option ((Bool×Unit)×Unit):=(fun x0 x1=>qi5 D n (fun v0_0 v0_1=>q3p D n v0_0 v0_1) (fun v1_0=>qtj D n (qvk D n) v1_0) n x0 x1)
def qx4 (D:DX)(n:Nat) (lp0:Int→tSch→Option ((Bool×Unit)×Unit)) (a0:tSch):Option ((Bool×Unit)×Unit):=lp0 0 a0
def qyy (D:DX)(n:Nat) (a0:tSch):Option ((Bool×Unit)×Unit):=qx4 D n (quq D n) a0
def qi8 (x0:Int) (x1:tSch):St:=stq 76 [(1,AV.addr 1 []),(3,avI x0)] [(1,Root.mk yS Mk.no x1 true)] 
def qnc (v0_0:Bool) (v0_1:tSch):St:=stq 76 [(1,AV.addr 1 []),(2,AV.val Ty.bool v0_0)] [(1,Root.mk yS Mk.no v0_1 true)] 
def qmm (v1_0:tSch):St:=stq 76 [(1,AV.addr 1 [])] [(1,Root.mk yS Mk.no v1_0 true)] 
def qjg (x1_0:Int) (x1_1:tSch):St:=stq 76 [(1,AV.addr 1 []),(4,avI x1_0)] [(1,Root.mk yS Mk.no x1_1 true)] 
def qmx (v0_0:Bool):St:=stq 76 [(2,AV.val Ty.bool v0_0)] [] 
def qmq:St:=stq 76 [] [] 
theorem qbfg (D:DX)(n:Nat) (m:Nat) (K:Ex→St→Option (Out ctx 112)) (x0:Int) (x1:tSch) :
 LQ qc D n 112 [.r,.l,.r,.l] (m+1) (qi8 x0 x1) K=qwe D n (fun x0 x1=>LQ qc D n 112 [.r,.l,.r,.l] m (qi8 x0 x1) K) (fun v0_0 v0_1=>K (Ex.ret) (qnc v0_0 v0_1)) (fun v1_0=>K (Ex.exit 0) (qmm v1_0)) x0 x1:=by kernel_rfl
theorem q40 (D:DX)(n:Nat) (K:Ex→St→Option (Out ctx 112)):∀ (m:Nat) (x0:Int) (x1:tSch),LQ qc D n 112 [.r,.l,.r,.l] m (qi8 x0 x1) K=qi5 D n (fun v0_0 v0_1=>K (Ex.ret) (qnc v0_0 v0_1)) (fun v1_0=>K (Ex.exit 0) (qmm v1_0)) m x0 x1
 | 0,x0,x1=>qu ..
 | m+1,x0,x1=>by
  have ih:(fun x0 x1=>LQ qc D n 112 [.r,.l,.r,.l] m (qi8 x0 x1) K)=qi5 D n (fun v0_0 v0_1=>K (Ex.ret) (qnc v0_0 v0_1)) (fun v1_0=>K (Ex.exit 0) (qmm v1_0)) m:=by funext x0 x1;exact q40 D n K m x0 x1
  rw[qbfg]
  rw[ih];rfl
theorem qbgt (D:DX)(n:Nat) (m:Nat) (K:Ex→St→Option (Out ctx 112)) (x1_0:Int) (x1_1:tSch) :
 LQ qc D n 112 [.r,.r,.r,.l,.r,.l] (m+1) (qjg x1_0 x1_1) K=qwa D n (fun x1_0 x1_1=>LQ qc D n 112 [.r,.r,.r,.l,.r,.l] m (qjg x1_0 x1_1) K) (fun v0_0=>K (Ex.ret) (qmx v0_0)) (K (Ex.exit 2) (qmq)) x1_0 x1_1:=by kernel_rfl
theorem q4t (D:DX)(n:Nat) (K:Ex→St→Option (Out ctx 112)):∀ (m:Nat) (x1_0:Int) (x1_1:tSch),LQ qc D n 112 [.r,.r,.r,.l,.r,.l] m (qjg x1_0 x1_1) K=qih D n (fun v0_0=>K (Ex.ret) (qmx v0_0)) (K (Ex.exit 2) (qmq)) m x1_0 x1_1
 | 0,x1_0,x1_1=>qu ..
 | m+1,x1_0,x1_1=>by
  have ih:(fun x1_0 x1_1=>LQ qc D n 112 [.r,.r,.r,.l,.r,.l] m (qjg x1_0 x1_1) K)=qih D n (fun v0_0=>K (Ex.ret) (qmx v0_0)) (K (Ex.exit 2) (qmq)) m:=by funext x1_0 x1_1;exact q4t D n K m x1_0 x1_1
  rw[qbgt]
  rw[ih];rfl
theorem qbeq (D:DX)(n:Nat) (v0_0:Bool) :
 (CQ qc D n 112 [] [.r,.r,.r,.l,.r,.l] (qh qc 112)) (Ex.ret) (qmx v0_0)=q23 D n v0_0:=by kernel_rfl
theorem qbeg (D:DX)(n:Nat) :
 (CQ qc D n 112 [] [.r,.r,.r,.l,.r,.l] (qh qc 112)) (Ex.exit 2) (qmq)=q3c D n:=by kernel_rfl
theorem qbdb (D:DX)(n:Nat) (x1_0:Int) (x1_1:tSch) :
 LQ qc D n 112 [.r,.r,.r,.l,.r,.l] n (qjg x1_0 x1_1) (CQ qc D n 112 [] [.r,.r,.r,.l,.r,.l] (qh qc 112))=qvk D n x1_0 x1_1:=by
 rw[q4t]
 simp only[qbeq,qbeg]
 rfl
theorem qbeh (D:DX)(n:Nat) (v0_0:Bool) (v0_1:tSch) :
 (CQ qc D n 112 [] [.r,.l,.r,.l] (qh qc 112)) (Ex.ret) (qnc v0_0 v0_1)=q3p D n v0_0 v0_1:=by kernel_rfl
theorem qbda (D:DX)(n:Nat) (v1_0:tSch) :
 (CQ qc D n 112 [] [.r,.l,.r,.l] (qh qc 112)) (Ex.exit 0) (qmm v1_0)=qtj D n (fun x1_0 x1_1=>LQ qc D n 112 [.r,.r,.r,.l,.r,.l] n (qjg x1_0 x1_1) (CQ qc D n 112 [] [.r,.r,.r,.l,.r,.l] (qh qc 112))) v1_0:=by kernel_rfl
theorem qbdh (D:DX)(n:Nat) (x0:Int) (x1:tSch) :
 LQ qc D n 112 [.r,.l,.r,.l] n (qi8 x0 x1) (CQ qc D n 112 [] [.r,.l,.r,.l] (qh qc 112))=quq D n x0 x1:=by
 rw[q40]
 simp only[qbeh,qbda,qbdb]
 rfl
theorem qbla (D:DX)(n:Nat) (a0:tSch):rfC qc D n 112 (a0,())=qyy D n a0:=by
 have h:rfC qc D n 112 (a0,())=qx4 D n (fun x0 x1=>LQ qc D n 112 [.r,.l,.r,.l] n (qi8 x0 x1) (CQ qc D n 112 [] [.r,.l,.r,.l] (qh qc 112))) a0:=by kernel_rfl
 rw[h]
 simp only[qbdh]
 rfl

def qbhh (D:DX)(n:Nat) (a0:Int) (a1:Int) (a2:Int):Option ((Bool×Unit)×Unit):=some ((bif decide (a0≥a1) then decide (a0≤a2) else false,()),())
def q8i (D:DX)(n:Nat) (a0:Int) (a1:Int) (a2:Int):Option ((Bool×Unit)×Unit):=qbhh D n a0 a1 a2
theorem qbsj (D:DX)(n:Nat) (a0:Int) (a1:Int) (a2:Int):rfC qc D n 117 (a0,(a1,(a2,())))=q8i D n a0 a1 a2:=by kernel_rfl

def qm1 (D:DX)(n:Nat) (go:qd→Int→List Int→Option ((List Int×Unit)×Unit)) (K0:List Int→Option ((List Int×Unit)×Unit)) (x0:qd) (x1:Int) (x2:List Int):Option ((List Int×Unit)×Unit):=br (decide (x1<(↑(List.length x0):Int))) (qi (qt9 D x0) fun b↦br (Prod.fst (Prod.fst b)) (br (decide (0≤x1)&&decide (x1<(↑(List.length x0):Int))) (qi (qzu D (List.getD x0 (Int.toNat x1) (0,0,ByteArray.empty,()))) fun b↦br (decide (List.length x2+List.length (Prod.fst (Prod.fst b))≤qbc)) (go x0 (IntKind.wrap IntKind.i64 (x1+1)) (x2++Prod.fst (Prod.fst b))) none) none) (K0 x2)) (K0 x2)
def qff (D:DX)(n:Nat) (K0:List Int→Option ((List Int×Unit)×Unit)):Nat→(qd)→(Int)→(List Int)→Option ((List Int×Unit)×Unit) | 0=>(fun x0 x1 x2=>none) | m+1=>(fun x0 x1 x2=>qm1 D n (qff D n K0 m) K0 x0 x1 x2)
def qzb (D:DX)(n:Nat) (v0_0:List Int):Option ((List Int×Unit)×Unit):=some ((v0_0,()),())
def qrj (D:DX)(n:Nat):(qd)→(Int)→(List Int)→Option ((List Int×Unit)×Unit):=(fun x0 x1 x2=>qff D n (fun v0_0=>qzb D n v0_0) n x0 x1 x2)
def quc (D:DX)(n:Nat) (lp0:qd→Int→List Int→Option ((List Int×Unit)×Unit)) (a0:qd):Option ((List Int×Unit)×Unit):=lp0 a0 0 []
def qu0 (D:DX)(n:Nat) (a0:qd):Option ((List Int×Unit)×Unit):=quc D n (qrj D n) a0
def qgt (x0:qd) (x1:Int) (x2:List Int):St:=stq 24 [(0,AV.val (Ty.sl yV) x0),(3,AV.brw 3 [] 0),(4,avI x1)] [(3,Root.mk (Ty.sl (Ty.int IntKind.u8)) (Mk.own 0 Mk.no) x2 false)] 
def qkj (v0_0:List Int):St:=stq 24 [(3,AV.brw 3 [] 0)] [(3,Root.mk (Ty.sl (Ty.int IntKind.u8)) (Mk.own 0 Mk.no) v0_0 false)] 
theorem qbcc (D:DX)(n:Nat) (m:Nat) (K:Ex→St→Option (Out ctx 118)) (x0:qd) (x1:Int) (x2:List Int) :
 LQ qc D n 118 [.r,.r,.l,.r,.l] (m+1) (qgt x0 x1 x2) K=qm1 D n (fun x0 x1 x2=>LQ qc D n 118 [.r,.r,.l,.r,.l] m (qgt x0 x1 x2) K) (fun v0_0=>K (Ex.exit 0) (qkj v0_0)) x0 x1 x2:=by kernel_rfl
theorem q0n (D:DX)(n:Nat) (K:Ex→St→Option (Out ctx 118)):∀ (m:Nat) (x0:qd) (x1:Int) (x2:List Int),LQ qc D n 118 [.r,.r,.l,.r,.l] m (qgt x0 x1 x2) K=qff D n (fun v0_0=>K (Ex.exit 0) (qkj v0_0)) m x0 x1 x2
 | 0,x0,x1,x2=>qu ..
 | m+1,x0,x1,x2=>by
  have ih:(fun x0 x1 x2=>LQ qc D n 118 [.r,.r,.l,.r,.l] m (qgt x0 x1 x2) K)=qff D n (fun v0_0=>K (Ex.exit 0) (qkj v0_0)) m:=by funext x0 x1 x2;exact q0n D n K m x0 x1 x2
  rw[qbcc]
  rw[ih];rfl
theorem qbah (D:DX)(n:Nat) (v0_0:List Int) :
 (CQ qc D n 118 [] [.r,.r,.l,.r,.l] (qh qc 118)) (Ex.exit 0) (qkj v0_0)=qzb D n v0_0:=by kernel_rfl
theorem qbbb (D:DX)(n:Nat) (x0:qd) (x1:Int) (x2:List Int) :
 LQ qc D n 118 [.r,.r,.l,.r,.l] n (qgt x0 x1 x2) (CQ qc D n 118 [] [.r,.r,.l,.r,.l] (qh qc 118))=qrj D n x0 x1 x2:=by
 rw[q0n]
 simp only[qbah]
 rfl
theorem qbgb (D:DX)(n:Nat) (a0:qd):rfC qc D n 118 (a0,())=qu0 D n a0:=by
 have h:rfC qc D n 118 (a0,())=quc D n (fun x0 x1 x2=>LQ qc D n 118 [.r,.r,.l,.r,.l] n (qgt x0 x1 x2) (CQ qc D n 118 [] [.r,.r,.l,.r,.l] (qh qc 118))) a0:=by kernel_rfl
 rw[h]
 simp only[qbbb]
 rfl

def qzp (D:DX)(n:Nat) (go:qd→List Int→Int→qd→Option ((qd×Unit)×Unit)) (K0:qd→Option ((qd×Unit)×Unit)) (x0:qd) (x1:List Int) (x2:Int) (x3:qd):Option ((qd×Unit)×Unit):=br (decide (x2<(↑(List.length x1):Int))) (br (decide (0≤x2)&&decide (x2<(↑(List.length x1):Int))) (qi (qf0 D (List.getD x1 (Int.toNat x2) 0) 0 (IntKind.wrap IntKind.i64 ((↑(List.length x0):Int) - 1))) fun b↦br (Prod.fst (Prod.fst b)) (br (decide (0≤x2)&&decide (x2<(↑(List.length x1):Int))) (br (decide (0≤List.getD x1 (Int.toNat x2) 0)&&decide (List.getD x1 (Int.toNat x2) 0<(↑(List.length x0):Int))) (br (decide (List.length x3+1≤qbc)) (go x0 x1 (IntKind.wrap IntKind.i64 (x2+1)) (x3++[List.getD x0 (Int.toNat (List.getD x1 (Int.toNat x2) 0)) (0,0,ByteArray.empty,())])) none) none) none) (go x0 x1 (IntKind.wrap IntKind.i64 (x2+1)) x3)) none) (K0 x3)
def qjw (D:DX)(n:Nat) (K0:qd→Option ((qd×Unit)×Unit)):Nat→(qd)→(List Int)→(Int)→(qd)→Option ((qd×Unit)×Unit) | 0=>(fun x0 x1 x2 x3=>none) | m+1=>(fun x0 x1 x2 x3=>qzp D n (qjw D n K0 m) K0 x0 x1 x2 x3)
def q5k (D:DX)(n:Nat) (v0_0:qd):Option ((qd×Unit)×Unit):=some ((v0_0,()),())
def qw6 (D:DX)(n:Nat):(qd)→(List Int)→(Int)→(qd)→Option ((qd×Unit)×Unit):=(fun x0 x1 x2 x3=>qjw D n (fun v0_0=>q5k D n v0_0) n x0 x1 x2 x3)
def q13 (D:DX)(n:Nat) (lp0:qd→List Int→Int→qd→Option ((qd×Unit)×Unit)) (a0:qd) (a1:List Int):Option ((qd×Unit)×Unit):=lp0 a0 a1 0 []
def q0x (D:DX)(n:Nat) (a0:qd) (a1:List Int):Option ((qd×Unit)×Unit):=q13 D n (qw6 D n) a0 a1
def qj1 (x0:qd) (x1:List Int) (x2:Int) (x3:qd):St:=stq 33 [(0,AV.val (Ty.sl yV) x0),(1,AV.val (Ty.sl yI) x1),(5,AV.brw 5 [] 0),(6,avI x2)] [(5,Root.mk (Ty.sl yV) (Mk.own 0 (Mk.pr Mk.no (Mk.pr Mk.no (Mk.pr Mk.no Mk.no)))) x3 false)] 
def qos (v0_0:qd):St:=stq 33 [(5,AV.brw 5 [] 0)] [(5,Root.mk (Ty.sl yV) (Mk.own 0 (Mk.pr Mk.no (Mk.pr Mk.no (Mk.pr Mk.no Mk.no)))) v0_0 false)] 
theorem qbh5 (D:DX)(n:Nat) (m:Nat) (K:Ex→St→Option (Out ctx 119)) (x0:qd) (x1:List Int) (x2:Int) (x3:qd) :
 LQ qc D n 119 [.r,.r,.l,.r,.l] (m+1) (qj1 x0 x1 x2 x3) K=qzp D n (fun x0 x1 x2 x3=>LQ qc D n 119 [.r,.r,.l,.r,.l] m (qj1 x0 x1 x2 x3) K) (fun v0_0=>K (Ex.exit 0) (qos v0_0)) x0 x1 x2 x3:=by kernel_rfl
theorem q57 (D:DX)(n:Nat) (K:Ex→St→Option (Out ctx 119)):∀ (m:Nat) (x0:qd) (x1:List Int) (x2:Int) (x3:qd),LQ qc D n 119 [.r,.r,.l,.r,.l] m (qj1 x0 x1 x2 x3) K=qjw D n (fun v0_0=>K (Ex.exit 0) (qos v0_0)) m x0 x1 x2 x3
 | 0,x0,x1,x2,x3=>qu ..
 | m+1,x0,x1,x2,x3=>by
  have ih:(fun x0 x1 x2 x3=>LQ qc D n 119 [.r,.r,.l,.r,.l] m (qj1 x0 x1 x2 x3) K)=qjw D n (fun v0_0=>K (Ex.exit 0) (qos v0_0)) m:=by funext x0 x1 x2 x3;exact q57 D n K m x0 x1 x2 x3
  rw[qbh5]
  rw[ih];rfl
theorem qbgp (D:DX)(n:Nat) (v0_0:qd) :
 (CQ qc D n 119 [] [.r,.r,.l,.r,.l] (qh qc 119)) (Ex.exit 0) (qos v0_0)=q5k D n v0_0:=by kernel_rfl
theorem qbgi (D:DX)(n:Nat) (x0:qd) (x1:List Int) (x2:Int) (x3:qd) :
 LQ qc D n 119 [.r,.r,.l,.r,.l] n (qj1 x0 x1 x2 x3) (CQ qc D n 119 [] [.r,.r,.l,.r,.l] (qh qc 119))=qw6 D n x0 x1 x2 x3:=by
 rw[q57]
 simp only[qbgp]
 rfl
theorem qbmn (D:DX)(n:Nat) (a0:qd) (a1:List Int):rfC qc D n 119 (a0,(a1,()))=q0x D n a0 a1:=by
 have h:rfC qc D n 119 (a0,(a1,()))=q13 D n (fun x0 x1 x2 x3=>LQ qc D n 119 [.r,.r,.l,.r,.l] n (qj1 x0 x1 x2 x3) (CQ qc D n 119 [] [.r,.r,.l,.r,.l] (qh qc 119))) a0 a1:=by kernel_rfl
 rw[h]
 simp only[qbgi]
 rfl

def q73 (D:DX)(n:Nat) (a0:tSch) (a1:Int):Option ((Int×Unit)×Unit):=qi (q4a D (Prod.fst a0) a1) fun b↦br (decide (Prod.fst (Prod.fst b)<0)) (some ((-1,()),())) (qi (qv5 D (Prod.fst (Prod.snd a0)) (Prod.fst (Prod.fst b))) fun b↦br (decide (Prod.fst (Prod.fst b)<0)) (some ((-1,()),())) (qi (qyp D (Prod.fst (Prod.snd (Prod.snd a0))) (Prod.fst (Prod.fst b))) fun b↦br (decide (Prod.fst (Prod.fst b)<0)) (some ((-1,()),())) (some ((Prod.fst (Prod.fst b),()),()))))
def qzs (D:DX)(n:Nat) (a0:tSch) (a1:Int):Option ((Int×Unit)×Unit):=q73 D n a0 a1
theorem qbjn (D:DX)(n:Nat) (a0:tSch) (a1:Int):rfC qc D n 120 (a0,(a1,()))=qzs D n a0 a1:=by kernel_rfl

def qvl (D:DX)(n:Nat) (go:qe→Int→Int→Option ((Int×Unit)×Unit)) (K0:Int→Int→Option ((Int×Unit)×Unit)) (K1:Int→Option ((Int×Unit)×Unit)) (x0:qe) (x1:Int) (x2:Int):Option ((Int×Unit)×Unit):=br (decide (x2<(↑(List.length x0):Int))) (br (decide (0≤x2)&&decide (x2<(↑(List.length x0):Int))) (qi (qrs D (List.getD x0 (Int.toNat x2) []) x1) fun b↦br (decide (Prod.fst (Prod.fst b)<0)) (K0 (Prod.fst (Prod.fst b)) (-1)) (go x0 (Prod.fst (Prod.fst b)) (IntKind.wrap IntKind.i64 (x2+1)))) none) (K1 x1)
def qhx (D:DX)(n:Nat) (K0:Int→Int→Option ((Int×Unit)×Unit)) (K1:Int→Option ((Int×Unit)×Unit)):Nat→(qe)→(Int)→(Int)→Option ((Int×Unit)×Unit) | 0=>(fun x0 x1 x2=>none) | m+1=>(fun x0 x1 x2=>qvl D n (qhx D n K0 K1 m) K0 K1 x0 x1 x2)
def qq9 (D:DX)(n:Nat) (v0_0:Int) (v0_1:Int):Option ((Int×Unit)×Unit):=some ((v0_1,()),())
def qq6 (D:DX)(n:Nat) (v1_0:Int):Option ((Int×Unit)×Unit):=some ((v1_0,()),())
def qto (D:DX)(n:Nat):(qe)→(Int)→(Int)→Option ((Int×Unit)×Unit):=(fun x0 x1 x2=>qhx D n (fun v0_0 v0_1=>qq9 D n v0_0 v0_1) (fun v1_0=>qq6 D n v1_0) n x0 x1 x2)
def qxo (D:DX)(n:Nat) (lp0:qe→Int→Int→Option ((Int×Unit)×Unit)) (a0:qe) (a1:Int):Option ((Int×Unit)×Unit):=br (decide (IntKind.wrap IntKind.i64 (a1 - (↑(List.length a0):Int))<0)) (some ((-1,()),())) (lp0 a0 (IntKind.wrap IntKind.i64 (a1 - (↑(List.length a0):Int))) 0)
def qwt (D:DX)(n:Nat) (a0:qe) (a1:Int):Option ((Int×Unit)×Unit):=qxo D n (qto D n) a0 a1
def qhh (x0:qe) (x1:Int) (x2:Int):St:=stq 27 [(0,AV.val (Ty.sl (Ty.sl yV)) x0),(1,avI x1),(5,avI x2)] [] 
def qls (v0_0:Int) (v0_1:Int):St:=stq 27 [(1,avI v0_0),(4,avI v0_1)] [] 
def qlq (v1_0:Int):St:=stq 27 [(1,avI v1_0)] [] 
theorem qbc7 (D:DX)(n:Nat) (m:Nat) (K:Ex→St→Option (Out ctx 121)) (x0:qe) (x1:Int) (x2:Int) :
 LQ qc D n 121 [.r,.r,.r,.l,.r,.l] (m+1) (qhh x0 x1 x2) K=qvl D n (fun x0 x1 x2=>LQ qc D n 121 [.r,.r,.r,.l,.r,.l] m (qhh x0 x1 x2) K) (fun v0_0 v0_1=>K (Ex.ret) (qls v0_0 v0_1)) (fun v1_0=>K (Ex.exit 0) (qlq v1_0)) x0 x1 x2:=by kernel_rfl
theorem q27 (D:DX)(n:Nat) (K:Ex→St→Option (Out ctx 121)):∀ (m:Nat) (x0:qe) (x1:Int) (x2:Int),LQ qc D n 121 [.r,.r,.r,.l,.r,.l] m (qhh x0 x1 x2) K=qhx D n (fun v0_0 v0_1=>K (Ex.ret) (qls v0_0 v0_1)) (fun v1_0=>K (Ex.exit 0) (qlq v1_0)) m x0 x1 x2
 | 0,x0,x1,x2=>qu ..
 | m+1,x0,x1,x2=>by
  have ih:(fun x0 x1 x2=>LQ qc D n 121 [.r,.r,.r,.l,.r,.l] m (qhh x0 x1 x2) K)=qhx D n (fun v0_0 v0_1=>K (Ex.ret) (qls v0_0 v0_1)) (fun v1_0=>K (Ex.exit 0) (qlq v1_0)) m:=by funext x0 x1 x2;exact q27 D n K m x0 x1 x2
  rw[qbc7]
  rw[ih];rfl
theorem qbb9 (D:DX)(n:Nat) (v0_0:Int) (v0_1:Int) :
 (CQ qc D n 121 [] [.r,.r,.r,.l,.r,.l] (qh qc 121)) (Ex.ret) (qls v0_0 v0_1)=qq9 D n v0_0 v0_1:=by kernel_rfl
theorem qbbo (D:DX)(n:Nat) (v1_0:Int) :
 (CQ qc D n 121 [] [.r,.r,.r,.l,.r,.l] (qh qc 121)) (Ex.exit 0) (qlq v1_0)=qq6 D n v1_0:=by kernel_rfl
theorem qbb8 (D:DX)(n:Nat) (x0:qe) (x1:Int) (x2:Int) :
 LQ qc D n 121 [.r,.r,.r,.l,.r,.l] n (qhh x0 x1 x2) (CQ qc D n 121 [] [.r,.r,.r,.l,.r,.l] (qh qc 121))=qto D n x0 x1 x2:=by
 rw[q27]
 simp only[qbb9,qbbo]
 rfl
theorem qbi8 (D:DX)(n:Nat) (a0:qe) (a1:Int):rfC qc D n 121 (a0,(a1,()))=qwt D n a0 a1:=by
 have h:rfC qc D n 121 (a0,(a1,()))=qxo D n (fun x0 x1 x2=>LQ qc D n 121 [.r,.r,.r,.l,.r,.l] n (qhh x0 x1 x2) (CQ qc D n 121 [] [.r,.r,.r,.l,.r,.l] (qh qc 121))) a0 a1:=by kernel_rfl
 rw[h]
 simp only[qbb8]
 rfl

def q9n (D:DX)(n:Nat) (a0:Int×Int×ByteArray×Unit) (a1:Int):Option ((Int×Unit)×Unit):=br (decide (IntKind.wrap IntKind.i64 (a1 - (↑(ByteArray.size (Prod.fst (Prod.snd (Prod.snd a0)))):Int))<0)) (some ((-1,()),())) (some ((IntKind.wrap IntKind.i64 (a1 - (↑(ByteArray.size (Prod.fst (Prod.snd (Prod.snd a0)))):Int)),()),()))
def q1o (D:DX)(n:Nat) (a0:Int×Int×ByteArray×Unit) (a1:Int):Option ((Int×Unit)×Unit):=q9n D n a0 a1
theorem qbni (D:DX)(n:Nat) (a0:Int×Int×ByteArray×Unit) (a1:Int):rfC qc D n 122 (a0,(a1,()))=q1o D n a0 a1:=by kernel_rfl

def q7t (D:DX)(n:Nat) (a0:tSch):Option (((tSch)×Unit)×Unit):=qi (q4q D (Prod.fst a0)) fun b↦qi (qvy D (Prod.fst (Prod.snd a0))) fun b_1↦qi (qxz D (Prod.fst (Prod.snd (Prod.snd a0)))) fun b_2↦some (((Prod.fst (Prod.fst b),Prod.fst (Prod.fst b_1),Prod.fst (Prod.fst b_2),()),()),())
def qxx (D:DX)(n:Nat) (a0:tSch):Option (((tSch)×Unit)×Unit):=q7t D n a0
theorem qbko (D:DX)(n:Nat) (a0:tSch):rfC qc D n 123 (a0,())=qxx D n a0:=by kernel_rfl

def qu5 (D:DX)(n:Nat) (go:qe→Int→qe→Option ((qe×Unit)×Unit)) (K0:qe→Option ((qe×Unit)×Unit)) (x0:qe) (x1:Int) (x2:qe):Option ((qe×Unit)×Unit):=br (decide (x1<(↑(List.length x0):Int))) (br (decide (0≤x1)&&decide (x1<(↑(List.length x0):Int))) (qi (qrw D (List.getD x0 (Int.toNat x1) [])) fun b↦br (decide (0≤x1)&&decide (x1<(↑(List.length x2):Int))) (go x0 (IntKind.wrap IntKind.i64 (x1+1)) (List.set x2 (Int.toNat x1) (Prod.fst (Prod.fst b)))) none) none) (K0 x2)
def qhr (D:DX)(n:Nat) (K0:qe→Option ((qe×Unit)×Unit)):Nat→(qe)→(Int)→(qe)→Option ((qe×Unit)×Unit) | 0=>(fun x0 x1 x2=>none) | m+1=>(fun x0 x1 x2=>qu5 D n (qhr D n K0 m) K0 x0 x1 x2)
def qlk (D:DX)(n:Nat) (v0_0:qe):Option ((qe×Unit)×Unit):=some ((v0_0,()),())
def qsi (D:DX)(n:Nat):(qe)→(Int)→(qe)→Option ((qe×Unit)×Unit):=(fun x0 x1 x2=>qhr D n (fun v0_0=>qlk D n v0_0) n x0 x1 x2)
def qwu (D:DX)(n:Nat) (lp0:qe→Int→qe→Option ((qe×Unit)×Unit)) (a0:qe):Option ((qe×Unit)×Unit):=br (decide (0≤(↑(List.length a0):Int))&&decide ((↑(List.length a0):Int)≤(↑(List.length a0):Int))&&decide ((↑(List.length a0):Int)≤(↑qbc:Int))) (lp0 a0 0 (List.replicate (Int.toNat (↑(List.length a0):Int)) [])) none
def qwm (D:DX)(n:Nat) (a0:qe):Option ((qe×Unit)×Unit):=qwu D n (qsi D n) a0
def qhs (x0:qe) (x1:Int) (x2:qe):St:=stq 23 [(0,AV.val (Ty.sl (Ty.sl yV)) x0),(3,AV.brw 3 [] 0),(4,avI x1)] [(3,Root.mk (Ty.sl (Ty.sl yV)) (Mk.own 0 (Mk.own 0 (Mk.pr Mk.no (Mk.pr Mk.no (Mk.pr Mk.no Mk.no))))) x2 false)] 
def ql0 (v0_0:qe):St:=stq 23 [(3,AV.brw 3 [] 0)] [(3,Root.mk (Ty.sl (Ty.sl yV)) (Mk.own 0 (Mk.own 0 (Mk.pr Mk.no (Mk.pr Mk.no (Mk.pr Mk.no Mk.no))))) v0_0 false)] 
theorem qbek (D:DX)(n:Nat) (m:Nat) (K:Ex→St→Option (Out ctx 124)) (x0:qe) (x1:Int) (x2:qe) :
 LQ qc D n 124 [.r,.r,.l,.r,.l] (m+1) (qhs x0 x1 x2) K=qu5 D n (fun x0 x1 x2=>LQ qc D n 124 [.r,.r,.l,.r,.l] m (qhs x0 x1 x2) K) (fun v0_0=>K (Ex.exit 0) (ql0 v0_0)) x0 x1 x2:=by kernel_rfl
theorem q3a (D:DX)(n:Nat) (K:Ex→St→Option (Out ctx 124)):∀ (m:Nat) (x0:qe) (x1:Int) (x2:qe),LQ qc D n 124 [.r,.r,.l,.r,.l] m (qhs x0 x1 x2) K=qhr D n (fun v0_0=>K (Ex.exit 0) (ql0 v0_0)) m x0 x1 x2
 | 0,x0,x1,x2=>qu ..
 | m+1,x0,x1,x2=>by
  have ih:(fun x0 x1 x2=>LQ qc D n 124 [.r,.r,.l,.r,.l] m (qhs x0 x1 x2) K)=qhr D n (fun v0_0=>K (Ex.exit 0) (ql0 v0_0)) m:=by funext x0 x1 x2;exact q3a D n K m x0 x1 x2
  rw[qbek]
  rw[ih];rfl
theorem qbbt (D:DX)(n:Nat) (v0_0:qe) :
 (CQ qc D n 124 [] [.r,.r,.l,.r,.l] (qh qc 124)) (Ex.exit 0) (ql0 v0_0)=qlk D n v0_0:=by kernel_rfl
theorem qbci (D:DX)(n:Nat) (x0:qe) (x1:Int) (x2:qe) :
 LQ qc D n 124 [.r,.r,.l,.r,.l] n (qhs x0 x1 x2) (CQ qc D n 124 [] [.r,.r,.l,.r,.l] (qh qc 124))=qsi D n x0 x1 x2:=by
 rw[q3a]
 simp only[qbbt]
 rfl
theorem qbh4 (D:DX)(n:Nat) (a0:qe):rfC qc D n 124 (a0,())=qwm D n a0:=by
 have h:rfC qc D n 124 (a0,())=qwu D n (fun x0 x1 x2=>LQ qc D n 124 [.r,.r,.l,.r,.l] n (qhs x0 x1 x2) (CQ qc D n 124 [] [.r,.r,.l,.r,.l] (qh qc 124))) a0:=by kernel_rfl
 rw[h]
 simp only[qbci]
 rfl

def qbms (D:DX)(n:Nat) (a0:Int×Int×ByteArray×Unit):Option ((tVal×Unit)×Unit):=some (((Prod.fst a0,Prod.fst (Prod.snd a0),Prod.fst (Prod.snd (Prod.snd a0)),()),()),())
def q9p (D:DX)(n:Nat) (a0:Int×Int×ByteArray×Unit):Option ((tVal×Unit)×Unit):=qbms D n a0
theorem qbny (D:DX)(n:Nat) (a0:Int×Int×ByteArray×Unit):rfC qc D n 125 (a0,())=q9p D n a0:=by kernel_rfl

def q8a (D:DX)(n:Nat) (a0:tSch) (a1:tSch):Option ((Bool×Unit)×Unit):=qi (q3x D (Prod.fst a0) (Prod.fst a1)) fun b↦br (!Prod.fst (Prod.fst b)) (some ((false,()),())) (qi (qv1 D (Prod.fst (Prod.snd a0)) (Prod.fst (Prod.snd a1))) fun b↦br (!Prod.fst (Prod.fst b)) (some ((false,()),())) (qi (qz4 D (Prod.fst (Prod.snd (Prod.snd a0))) (Prod.fst (Prod.snd (Prod.snd a1)))) fun b↦br (!Prod.fst (Prod.fst b)) (some ((false,()),())) (some ((true,()),()))))
def q0d (D:DX)(n:Nat) (a0:tSch) (a1:tSch):Option ((Bool×Unit)×Unit):=q8a D n a0 a1
theorem qbly (D:DX)(n:Nat) (a0:tSch) (a1:tSch):rfC qc D n 126 (a0,(a1,()))=q0d D n a0 a1:=by kernel_rfl

def qvc (D:DX)(n:Nat) (go:qe→qe→Int→Option ((Bool×Unit)×Unit)) (K0:Bool→Option ((Bool×Unit)×Unit)) (K1:Option ((Bool×Unit)×Unit)) (x0:qe) (x1:qe) (x2:Int):Option ((Bool×Unit)×Unit):=br (decide (x2<(↑(List.length x0):Int))) (br (decide (0≤x2)&&decide (x2<(↑(List.length x0):Int))) (br (decide (0≤x2)&&decide (x2<(↑(List.length x1):Int))) (qi (qr5 D (List.getD x0 (Int.toNat x2) []) (List.getD x1 (Int.toNat x2) [])) fun b↦br (!Prod.fst (Prod.fst b)) (K0 false) (go x0 x1 (IntKind.wrap IntKind.i64 (x2+1)))) none) none) K1
def qhl (D:DX)(n:Nat) (K0:Bool→Option ((Bool×Unit)×Unit)) (K1:Option ((Bool×Unit)×Unit)):Nat→(qe)→(qe)→(Int)→Option ((Bool×Unit)×Unit) | 0=>(fun x0 x1 x2=>none) | m+1=>(fun x0 x1 x2=>qvc D n (qhl D n K0 K1 m) K0 K1 x0 x1 x2)
def qlo (D:DX)(n:Nat) (v0_0:Bool):Option ((Bool×Unit)×Unit):=some ((v0_0,()),())
def qlt (D:DX)(n:Nat):Option ((Bool×Unit)×Unit):=some ((true,()),())
def qtn (D:DX)(n:Nat):(qe)→(qe)→(Int)→Option ((Bool×Unit)×Unit):=(fun x0 x1 x2=>qhl D n (fun v0_0=>qlo D n v0_0) (qlt D n) n x0 x1 x2)
def qwf (D:DX)(n:Nat) (lp0:qe→qe→Int→Option ((Bool×Unit)×Unit)) (a0:qe) (a1:qe):Option ((Bool×Unit)×Unit):=br ((↑(List.length a0):Int) != (↑(List.length a1):Int)) (some ((false,()),())) (lp0 a0 a1 0)
def qw1 (D:DX)(n:Nat) (a0:qe) (a1:qe):Option ((Bool×Unit)×Unit):=qwf D n (qtn D n) a0 a1
def qhq (x0:qe) (x1:qe) (x2:Int):St:=stq 27 [(0,AV.val (Ty.sl (Ty.sl yV)) x0),(1,AV.val (Ty.sl (Ty.sl yV)) x1),(5,avI x2)] [] 
def qlz (v0_0:Bool):St:=stq 27 [(4,AV.val Ty.bool v0_0)] [] 
def qlv:St:=stq 27 [] [] 
theorem qbdx (D:DX)(n:Nat) (m:Nat) (K:Ex→St→Option (Out ctx 127)) (x0:qe) (x1:qe) (x2:Int) :
 LQ qc D n 127 [.r,.r,.l,.r,.l] (m+1) (qhq x0 x1 x2) K=qvc D n (fun x0 x1 x2=>LQ qc D n 127 [.r,.r,.l,.r,.l] m (qhq x0 x1 x2) K) (fun v0_0=>K (Ex.ret) (qlz v0_0)) (K (Ex.exit 0) (qlv)) x0 x1 x2:=by kernel_rfl
theorem q3l (D:DX)(n:Nat) (K:Ex→St→Option (Out ctx 127)):∀ (m:Nat) (x0:qe) (x1:qe) (x2:Int),LQ qc D n 127 [.r,.r,.l,.r,.l] m (qhq x0 x1 x2) K=qhl D n (fun v0_0=>K (Ex.ret) (qlz v0_0)) (K (Ex.exit 0) (qlv)) m x0 x1 x2
 | 0,x0,x1,x2=>qu ..
 | m+1,x0,x1,x2=>by
  have ih:(fun x0 x1 x2=>LQ qc D n 127 [.r,.r,.l,.r,.l] m (qhq x0 x1 x2) K)=qhl D n (fun v0_0=>K (Ex.ret) (qlz v0_0)) (K (Ex.exit 0) (qlv)) m:=by funext x0 x1 x2;exact q3l D n K m x0 x1 x2
  rw[qbdx]
  rw[ih];rfl
theorem qbbm (D:DX)(n:Nat) (v0_0:Bool) :
 (CQ qc D n 127 [] [.r,.r,.l,.r,.l] (qh qc 127)) (Ex.ret) (qlz v0_0)=qlo D n v0_0:=by kernel_rfl
theorem qbcg (D:DX)(n:Nat) :
 (CQ qc D n 127 [] [.r,.r,.l,.r,.l] (qh qc 127)) (Ex.exit 0) (qlv)=qlt D n:=by kernel_rfl
theorem qbbs (D:DX)(n:Nat) (x0:qe) (x1:qe) (x2:Int) :
 LQ qc D n 127 [.r,.r,.l,.r,.l] n (qhq x0 x1 x2) (CQ qc D n 127 [] [.r,.r,.l,.r,.l] (qh qc 127))=qtn D n x0 x1 x2:=by
 rw[q3l]
 simp only[qbbm,qbcg]
 rfl
theorem qbik (D:DX)(n:Nat) (a0:qe) (a1:qe):rfC qc D n 127 (a0,(a1,()))=qw1 D n a0 a1:=by
 have h:rfC qc D n 127 (a0,(a1,()))=qwf D n (fun x0 x1 x2=>LQ qc D n 127 [.r,.r,.l,.r,.l] n (qhq x0 x1 x2) (CQ qc D n 127 [] [.r,.r,.l,.r,.l] (qh qc 127))) a0 a1:=by kernel_rfl
 rw[h]
 simp only[qbbs]
 rfl

def q9u (D:DX)(n:Nat) (a0:Int×Int×ByteArray×Unit) (a1:Int×Int×ByteArray×Unit):Option ((Bool×Unit)×Unit):=br (Prod.fst a0 != Prod.fst a1) (some ((false,()),())) (br (Prod.fst (Prod.snd a0) != Prod.fst (Prod.snd a1)) (some ((false,()),())) (br (!List.beq (ByteArray.toList (Prod.fst (Prod.snd (Prod.snd a0)))) (ByteArray.toList (Prod.fst (Prod.snd (Prod.snd a1))))) (some ((false,()),())) (some ((true,()),()))))
def q12 (D:DX)(n:Nat) (a0:Int×Int×ByteArray×Unit) (a1:Int×Int×ByteArray×Unit):Option ((Bool×Unit)×Unit):=q9u D n a0 a1
theorem qbm2 (D:DX)(n:Nat) (a0:Int×Int×ByteArray×Unit) (a1:Int×Int×ByteArray×Unit):rfC qc D n 128 (a0,(a1,()))=q12 D n a0 a1:=by kernel_rfl

def q5f (D:DX)(n:Nat) (a0:tSch) (a1:Int):Option ((Int×Unit)×(tSch)×Unit):=qi (qyt D (Prod.fst a0) a1) fun b↦qi (qnh D (Prod.fst (Prod.snd a0)) (Prod.fst (Prod.fst b))) fun b_1↦qi (qun D (Prod.fst (Prod.snd (Prod.snd a0))) (Prod.fst (Prod.fst b_1))) fun b_2↦some ((Prod.fst (Prod.fst b_2),()),(Prod.fst (Prod.snd b),Prod.fst (Prod.snd b_1),Prod.fst (Prod.snd b_2),()),())
def qvd (D:DX)(n:Nat) (a0:tSch) (a1:Int):Option ((Int×Unit)×(tSch)×Unit):=q5f D n a0 a1
theorem qbf1 (D:DX)(n:Nat) (a0:tSch) (a1:Int):rfC qc D n 129 (a0,(a1,()))=qvd D n a0 a1:=by kernel_rfl

def qrp (D:DX)(n:Nat) (go:Int→Int→qe→Option ((Int×Unit)×qe×Unit)) (K0:Int→qe→Option ((Int×Unit)×qe×Unit)) (x0:Int) (x1:Int) (x2:qe):Option ((Int×Unit)×qe×Unit):=br (decide (x1<(↑(List.length x2):Int))) (br (decide (0≤x1)&&decide (x1<(↑(List.length x2):Int))) (qi (qux D (List.getD x2 (Int.toNat x1) []) x0) fun b↦br (qhn [PK.mutv (Ty.sl (Ty.pair (Ty.int IntKind.i64) (Ty.pair (Ty.int IntKind.i64) (Ty.pair Ty.str Ty.unit)))) (Mk.top (Ty.sl (Ty.pair (Ty.int IntKind.i64) (Ty.pair (Ty.int IntKind.i64) (Ty.pair Ty.str Ty.unit))))) (Mk.top (Ty.sl (Ty.pair (Ty.int IntKind.i64) (Ty.pair (Ty.int IntKind.i64) (Ty.pair Ty.str Ty.unit))))),PK.val (Ty.int IntKind.i64)] (List.map (ev (St.mk [AV.brw 0 [] 1048576,AV.val (Ty.int IntKind.i64) x0,AV.undef,AV.undef,AV.undef,AV.val (Ty.int IntKind.i64) x1,AV.val (Ty.int IntKind.i64) x1,AV.brw 0 [] 1048576,AV.val (Ty.int IntKind.i64) (↑(List.length x2):Int),AV.val Ty.bool (decide (x1<(↑(List.length x2):Int))),AV.undef,AV.undef,AV.brw 0 [] 1048576,AV.val (Ty.int IntKind.i64) x1,AV.addr 0 [Stp.idx (Int.toNat x1) 1048576],AV.brw 0 [Stp.idx (Int.toNat x1) 1048576] 0,AV.val (Ty.int IntKind.i64) x0,AV.undef,AV.undef] [some (Root.mk (Ty.sl (Ty.sl (Ty.pair (Ty.int IntKind.i64) (Ty.pair (Ty.int IntKind.i64) (Ty.pair Ty.str Ty.unit))))) (Mk.own 1048576 (Mk.own 0 (Mk.pr Mk.no (Mk.pr Mk.no (Mk.pr Mk.no Mk.no))))) x2 false),none,none,none,none,none,none,none,none,none,none,none,none,none,none,none,none,none,none])) [Operand.tmp 15,Operand.tmp 16]++qf5 AV.unit)) (go (Prod.fst (Prod.fst b)) (IntKind.wrap IntKind.i64 (x1+1)) (List.set x2 (Int.toNat x1) (Prod.fst (Prod.snd b)))) none) none) (K0 x0 x2)
def qfv (D:DX)(n:Nat) (K0:Int→qe→Option ((Int×Unit)×qe×Unit)):Nat→(Int)→(Int)→(qe)→Option ((Int×Unit)×qe×Unit) | 0=>(fun x0 x1 x2=>none) | m+1=>(fun x0 x1 x2=>qrp D n (qfv D n K0 m) K0 x0 x1 x2)
def qjz (D:DX)(n:Nat) (v0_0:Int) (v0_1:qe):Option ((Int×Unit)×qe×Unit):=some ((v0_0,()),v0_1,())
def qpg (D:DX)(n:Nat):(Int)→(Int)→(qe)→Option ((Int×Unit)×qe×Unit):=(fun x0 x1 x2=>qfv D n (fun v0_0 v0_1=>qjz D n v0_0 v0_1) n x0 x1 x2)
def qss (D:DX)(n:Nat) (lp0:Int→Int→qe→Option ((Int×Unit)×qe×Unit)) (a0:qe) (a1:Int):Option ((Int×Unit)×qe×Unit):=lp0 a1 0 a0
def qs9 (D:DX)(n:Nat) (a0:qe) (a1:Int):Option ((Int×Unit)×qe×Unit):=qss D n (qpg D n) a0 a1
def qft (x0:Int) (x1:Int) (x2:qe):St:=stq 19 [(0,AV.brw 0 [] 1048576),(1,avI x0),(5,avI x1)] [(0,Root.mk (Ty.sl (Ty.sl yV)) (Mk.own 1048576 (Mk.own 0 (Mk.pr Mk.no (Mk.pr Mk.no (Mk.pr Mk.no Mk.no))))) x2 false)] 
def qjv (v0_0:Int) (v0_1:qe):St:=stq 19 [(0,AV.brw 0 [] 1048576),(1,avI v0_0)] [(0,Root.mk (Ty.sl (Ty.sl yV)) (Mk.own 1048576 (Mk.own 0 (Mk.pr Mk.no (Mk.pr Mk.no (Mk.pr Mk.no Mk.no))))) v0_1 false)] 
theorem q98 (D:DX)(n:Nat) (m:Nat) (K:Ex→St→Option (Out ctx 130)) (x0:Int) (x1:Int) (x2:qe) :
 LQ qc D n 130 [.r,.l,.r,.l] (m+1) (qft x0 x1 x2) K=qrp D n (fun x0 x1 x2=>LQ qc D n 130 [.r,.l,.r,.l] m (qft x0 x1 x2) K) (fun v0_0 v0_1=>K (Ex.exit 0) (qjv v0_0 v0_1)) x0 x1 x2:=by kernel_rfl
theorem qzr (D:DX)(n:Nat) (K:Ex→St→Option (Out ctx 130)):∀ (m:Nat) (x0:Int) (x1:Int) (x2:qe),LQ qc D n 130 [.r,.l,.r,.l] m (qft x0 x1 x2) K=qfv D n (fun v0_0 v0_1=>K (Ex.exit 0) (qjv v0_0 v0_1)) m x0 x1 x2
 | 0,x0,x1,x2=>qu ..
 | m+1,x0,x1,x2=>by
  have ih:(fun x0 x1 x2=>LQ qc D n 130 [.r,.l,.r,.l] m (qft x0 x1 x2) K)=qfv D n (fun v0_0 v0_1=>K (Ex.exit 0) (qjv v0_0 v0_1)) m:=by funext x0 x1 x2;exact qzr D n K m x0 x1 x2
  rw[q98]
  rw[ih];rfl
theorem q84 (D:DX)(n:Nat) (v0_0:Int) (v0_1:qe) :
 (CQ qc D n 130 [] [.r,.l,.r,.l] (qh qc 130)) (Ex.exit 0) (qjv v0_0 v0_1)=qjz D n v0_0 v0_1:=by kernel_rfl
theorem q9e (D:DX)(n:Nat) (x0:Int) (x1:Int) (x2:qe) :
 LQ qc D n 130 [.r,.l,.r,.l] n (qft x0 x1 x2) (CQ qc D n 130 [] [.r,.l,.r,.l] (qh qc 130))=qpg D n x0 x1 x2:=by
 rw[qzr]
 simp only[q84]
 rfl
theorem qbe1 (D:DX)(n:Nat) (a0:qe) (a1:Int):rfC qc D n 130 (a0,(a1,()))=qs9 D n a0 a1:=by
 have h:rfC qc D n 130 (a0,(a1,()))=qss D n (fun x0 x1 x2=>LQ qc D n 130 [.r,.l,.r,.l] n (qft x0 x1 x2) (CQ qc D n 130 [] [.r,.l,.r,.l] (qh qc 130))) a0 a1:=by kernel_rfl
 rw[h]
 simp only[q9e]
 rfl

def qps (D:DX)(n:Nat) (go:Int→ByteArray→Option ((ByteArray×Unit)×Unit)) (K0:ByteArray→Option ((ByteArray×Unit)×Unit)) (x0:Int) (x1:ByteArray):Option ((ByteArray×Unit)×Unit):=br (decide (x0>0)) (br (decide (ByteArray.size (ByteArray.mk (List.toArray (List.map (fun n↦UInt8.ofNat (Int.toNat n)) [IntKind.wrap IntKind.u8 (IntKind.wrap IntKind.i64 (48+Int.tmod x0 10))])))+ByteArray.size x1≤Nat.pow 2 47)) (go (IntKind.wrap IntKind.i64 (Int.tdiv x0 10)) (ByteArray.append (ByteArray.mk (List.toArray (List.map (fun n↦UInt8.ofNat (Int.toNat n)) [IntKind.wrap IntKind.u8 (IntKind.wrap IntKind.i64 (48+Int.tmod x0 10))]))) x1)) none) (K0 x1)
def qgj (D:DX)(n:Nat) (K0:ByteArray→Option ((ByteArray×Unit)×Unit)):Nat→(Int)→(ByteArray)→Option ((ByteArray×Unit)×Unit) | 0=>(fun x0 x1=>none) | m+1=>(fun x0 x1=>qps D n (qgj D n K0 m) K0 x0 x1)
def qs0 (D:DX)(n:Nat) (v0_0:ByteArray):Option ((ByteArray×Unit)×Unit):=br (decide (ByteArray.size (ByteArray.mk #[UInt8.ofNat 109])+ByteArray.size v0_0≤Nat.pow 2 47)) (some ((ByteArray.append (ByteArray.mk #[UInt8.ofNat 109]) v0_0,()),())) none
def qvi (D:DX)(n:Nat):(Int)→(ByteArray)→Option ((ByteArray×Unit)×Unit):=(fun x0 x1=>qgj D n (fun v0_0=>qs0 D n v0_0) n x0 x1)
def qz3 (D:DX)(n:Nat) (lp0:Int→ByteArray→Option ((ByteArray×Unit)×Unit)) (a0:Int):Option ((ByteArray×Unit)×Unit):=br (decide (a0≤0)) (some ((ByteArray.mk #[UInt8.ofNat 109,UInt8.ofNat 48],()),())) (lp0 a0 (ByteArray.mk #[]))
def qzx (D:DX)(n:Nat) (a0:Int):Option ((ByteArray×Unit)×Unit):=qz3 D n (qvi D n) a0
def qiu (x0:Int) (x1:ByteArray):St:=stq 20 [(0,avI x0),(3,AV.val Ty.str x1)] [] 
def qm7 (v0_0:ByteArray):St:=stq 20 [(3,AV.val Ty.str v0_0)] [] 
theorem qbgj (D:DX)(n:Nat) (m:Nat) (K:Ex→St→Option (Out ctx 131)) (x0:Int) (x1:ByteArray) :
 LQ qc D n 131 [.r,.r,.r,.l,.l] (m+1) (qiu x0 x1) K=qps D n (fun x0 x1=>LQ qc D n 131 [.r,.r,.r,.l,.l] m (qiu x0 x1) K) (fun v0_0=>K (Ex.exit 0) (qm7 v0_0)) x0 x1:=by kernel_rfl
theorem q5b (D:DX)(n:Nat) (K:Ex→St→Option (Out ctx 131)):∀ (m:Nat) (x0:Int) (x1:ByteArray),LQ qc D n 131 [.r,.r,.r,.l,.l] m (qiu x0 x1) K=qgj D n (fun v0_0=>K (Ex.exit 0) (qm7 v0_0)) m x0 x1
 | 0,x0,x1=>qu ..
 | m+1,x0,x1=>by
  have ih:(fun x0 x1=>LQ qc D n 131 [.r,.r,.r,.l,.l] m (qiu x0 x1) K)=qgj D n (fun v0_0=>K (Ex.exit 0) (qm7 v0_0)) m:=by funext x0 x1;exact q5b D n K m x0 x1
  rw[qbgj]
  rw[ih];rfl
theorem qbd4 (D:DX)(n:Nat) (v0_0:ByteArray) :
 (CQ qc D n 131 [] [.r,.r,.r,.l,.l] (qh qc 131)) (Ex.exit 0) (qm7 v0_0)=qs0 D n v0_0:=by kernel_rfl
theorem qbdc (D:DX)(n:Nat) (x0:Int) (x1:ByteArray) :
 LQ qc D n 131 [.r,.r,.r,.l,.l] n (qiu x0 x1) (CQ qc D n 131 [] [.r,.r,.r,.l,.l] (qh qc 131))=qvi D n x0 x1:=by
 rw[q5b]
 simp only[qbd4]
 rfl
theorem qbkn (D:DX)(n:Nat) (a0:Int):rfC qc D n 131 (a0,())=qzx D n a0:=by
 have h:rfC qc D n 131 (a0,())=qz3 D n (fun x0 x1=>LQ qc D n 131 [.r,.r,.r,.l,.l] n (qiu x0 x1) (CQ qc D n 131 [] [.r,.r,.r,.l,.l] (qh qc 131))) a0:=by kernel_rfl
 rw[h]
 simp only[qbdc]
 rfl



def qbcp (D:DX)(n:Nat) (a0:ByteArray×ByteArray×Unit) (a1:ByteArray×ByteArray×Unit):Option ((Bool×Unit)×Unit):=br (!List.beq (ByteArray.toList (Prod.fst a0)) (ByteArray.toList (Prod.fst a1))) (some ((false,()),())) (br (!List.beq (ByteArray.toList (Prod.fst (Prod.snd a0))) (ByteArray.toList (Prod.fst (Prod.snd a1)))) (some ((false,()),())) (some ((true,()),())))
def q7k (D:DX)(n:Nat) (a0:ByteArray×ByteArray×Unit) (a1:ByteArray×ByteArray×Unit):Option ((Bool×Unit)×Unit):=qbcp D n a0 a1
theorem qbq0 (D:DX)(n:Nat) (a0:ByteArray×ByteArray×Unit) (a1:ByteArray×ByteArray×Unit):rfC qc D n 134 (a0,(a1,()))=q7k D n a0 a1:=by kernel_rfl

def qnm (D:DX)(n:Nat) (go:Int→qd→Int→Int→List Int→Int×Int×ByteArray×Unit→Option ((List Int×Unit)×Unit)) (K0:qd→Int→Int→List Int→Option ((List Int×Unit)×Unit)) (x1_0:Int) (x1_1:qd) (x1_2:Int) (x1_3:Int) (x1_4:List Int) (x1_5:Int×Int×ByteArray×Unit):Option ((List Int×Unit)×Unit):=br (decide (x1_0≥0)) (br (decide (IntKind.wrap IntKind.i64 (8 * x1_0)<0)) none (br (decide (List.length x1_4+1≤qbc)) (go (IntKind.wrap IntKind.i64 (x1_0 - 1)) x1_1 x1_2 x1_3 (x1_4++[IntKind.wrap IntKind.u8 (Int.fdiv (IntKind.wrap IntKind.i64 (Prod.fst (Prod.snd x1_5)+4611686018427387904)) (Int.pow 2 (if Int.toNat (IntKind.wrap IntKind.i64 (8 * x1_0))≤IntKind.bits IntKind.i64 then Int.toNat (IntKind.wrap IntKind.i64 (8 * x1_0)) else IntKind.bits IntKind.i64)))]) x1_5) none)) (K0 x1_1 x1_2 x1_3 x1_4)
def qfa (D:DX)(n:Nat) (K0:qd→Int→Int→List Int→Option ((List Int×Unit)×Unit)):Nat→(Int)→(qd)→(Int)→(Int)→(List Int)→tVal→Option ((List Int×Unit)×Unit) | 0=>(fun x1_0 x1_1 x1_2 x1_3 x1_4 x1_5=>none) | m+1=>(fun x1_0 x1_1 x1_2 x1_3 x1_4 x1_5=>qnm D n (qfa D n K0 m) K0 x1_0 x1_1 x1_2 x1_3 x1_4 x1_5)
def qpx (D:DX)(n:Nat) (go:qd→Int→Int→List Int→Option ((List Int×Unit)×Unit)) (K0:List Int→Option ((List Int×Unit)×Unit)) (v0_0:qd) (v0_1:Int) (v0_2:Int) (v0_3:List Int):Option ((List Int×Unit)×Unit):=go v0_0 v0_1 (IntKind.wrap IntKind.i64 (v0_2+1)) v0_3
def qq7 (D:DX)(n:Nat) (go:qd→Int→Int→List Int→Option ((List Int×Unit)×Unit)) (K0:List Int→Option ((List Int×Unit)×Unit)):(Int)→(qd)→(Int)→(Int)→(List Int)→tVal→Option ((List Int×Unit)×Unit):=(fun x1_0 x1_1 x1_2 x1_3 x1_4 x1_5=>qfa D n (fun v0_0 v0_1 v0_2 v0_3=>qpx D n go K0 v0_0 v0_1 v0_2 v0_3) n x1_0 x1_1 x1_2 x1_3 x1_4 x1_5)
def qsu (D:DX)(n:Nat) (go:qd→Int→Int→Int→Int→List Int→Int×Int×ByteArray×Unit→Option ((List Int×Unit)×Unit)) (K0:qd→Int→Int→List Int→Option ((List Int×Unit)×Unit)) (x2_0:qd) (x2_1:Int) (x2_2:Int) (x2_3:Int) (x2_4:Int) (x2_5:List Int) (x2_6:Int×Int×ByteArray×Unit):Option ((List Int×Unit)×Unit):=br (decide (x2_4<x2_3)) (br (decide (0≤x2_4)&&decide (x2_4<(↑(ByteArray.size (Prod.fst (Prod.snd (Prod.snd x2_6)))):Int))) (br (decide (List.length x2_5+1≤qbc)) (br (decide (0≤x2_4)&&decide (x2_4<(↑(ByteArray.size (Prod.fst (Prod.snd (Prod.snd x2_6)))):Int))) (br (decide ((↑(UInt8.toNat (Array.getD (ByteArray.data (Prod.fst (Prod.snd (Prod.snd x2_6)))) (Int.toNat x2_4) (UInt8.ofNat 0))):Int)=0)) (br (decide (List.length (x2_5++[(↑(UInt8.toNat (Array.getD (ByteArray.data (Prod.fst (Prod.snd (Prod.snd x2_6)))) (Int.toNat x2_4) (UInt8.ofNat 0))):Int)])+1≤qbc)) (go x2_0 x2_1 x2_2 x2_3 (IntKind.wrap IntKind.i64 (x2_4+1)) (x2_5++[(↑(UInt8.toNat (Array.getD (ByteArray.data (Prod.fst (Prod.snd (Prod.snd x2_6)))) (Int.toNat x2_4) (UInt8.ofNat 0))):Int)]++[255]) x2_6) none) (go x2_0 x2_1 x2_2 x2_3 (IntKind.wrap IntKind.i64 (x2_4+1)) (x2_5++[(↑(UInt8.toNat (Array.getD (ByteArray.data (Prod.fst (Prod.snd (Prod.snd x2_6)))) (Int.toNat x2_4) (UInt8.ofNat 0))):Int)]) x2_6)) none) none) none) (K0 x2_0 x2_1 x2_2 x2_5)
def qgx (D:DX)(n:Nat) (K0:qd→Int→Int→List Int→Option ((List Int×Unit)×Unit)):Nat→(qd)→(Int)→(Int)→(Int)→(Int)→(List Int)→tVal→Option ((List Int×Unit)×Unit) | 0=>(fun x2_0 x2_1 x2_2 x2_3 x2_4 x2_5 x2_6=>none) | m+1=>(fun x2_0 x2_1 x2_2 x2_3 x2_4 x2_5 x2_6=>qsu D n (qgx D n K0 m) K0 x2_0 x2_1 x2_2 x2_3 x2_4 x2_5 x2_6)
def qp5 (D:DX)(n:Nat) (go:qd→Int→Int→List Int→Option ((List Int×Unit)×Unit)) (K0:List Int→Option ((List Int×Unit)×Unit)) (v0_0:qd) (v0_1:Int) (v0_2:Int) (v0_3:List Int):Option ((List Int×Unit)×Unit):=br (decide (List.length v0_3+2≤qbc)) (go v0_0 v0_1 (IntKind.wrap IntKind.i64 (v0_2+1)) (v0_3++[0,1])) none
def qrc (D:DX)(n:Nat) (go:qd→Int→Int→List Int→Option ((List Int×Unit)×Unit)) (K0:List Int→Option ((List Int×Unit)×Unit)):(qd)→(Int)→(Int)→(Int)→(Int)→(List Int)→tVal→Option ((List Int×Unit)×Unit):=(fun x2_0 x2_1 x2_2 x2_3 x2_4 x2_5 x2_6=>qgx D n (fun v0_0 v0_1 v0_2 v0_3=>qp5 D n go K0 v0_0 v0_1 v0_2 v0_3) n x2_0 x2_1 x2_2 x2_3 x2_4 x2_5 x2_6)
def qs1 (D:DX)(n:Nat) (go:qd→Int→Int→List Int→Option ((List Int×Unit)×Unit)) (K0:List Int→Option ((List Int×Unit)×Unit)) (lp1:Int→qd→Int→Int→List Int→Int×Int×ByteArray×Unit→Option ((List Int×Unit)×Unit)) (lp2:qd→Int→Int→Int→Int→List Int→Int×Int×ByteArray×Unit→Option ((List Int×Unit)×Unit)) (x0:qd) (x1:Int) (x2:Int) (x3:List Int):Option ((List Int×Unit)×Unit):=br (decide (x2<x1)) (br (decide (0≤x2)&&decide (x2<(↑(List.length x0):Int))) (br (decide (List.length x3+1≤qbc)) (br (decide (Prod.fst (List.getD x0 (Int.toNat x2) (0,0,ByteArray.empty,()))=1)) (br (decide (List.length (x3++[IntKind.wrap IntKind.u8 (IntKind.wrap IntKind.i64 (Prod.fst (List.getD x0 (Int.toNat x2) (0,0,ByteArray.empty,()))+1))])+1≤qbc)) (go x0 x1 (IntKind.wrap IntKind.i64 (x2+1)) (x3++[IntKind.wrap IntKind.u8 (IntKind.wrap IntKind.i64 (Prod.fst (List.getD x0 (Int.toNat x2) (0,0,ByteArray.empty,()))+1))]++[IntKind.wrap IntKind.u8 (Prod.fst (Prod.snd (List.getD x0 (Int.toNat x2) (0,0,ByteArray.empty,()))))])) none) (br (decide (Prod.fst (List.getD x0 (Int.toNat x2) (0,0,ByteArray.empty,()))=2)) (lp1 7 x0 x1 x2 (x3++[IntKind.wrap IntKind.u8 (IntKind.wrap IntKind.i64 (Prod.fst (List.getD x0 (Int.toNat x2) (0,0,ByteArray.empty,()))+1))]) (List.getD x0 (Int.toNat x2) (0,0,ByteArray.empty,()))) (br (decide (Prod.fst (List.getD x0 (Int.toNat x2) (0,0,ByteArray.empty,()))=3)) (lp2 x0 x1 x2 (↑(ByteArray.size (Prod.fst (Prod.snd (Prod.snd (List.getD x0 (Int.toNat x2) (0,0,ByteArray.empty,())))))):Int) 0 (x3++[IntKind.wrap IntKind.u8 (IntKind.wrap IntKind.i64 (Prod.fst (List.getD x0 (Int.toNat x2) (0,0,ByteArray.empty,()))+1))]) (List.getD x0 (Int.toNat x2) (0,0,ByteArray.empty,()))) (go x0 x1 (IntKind.wrap IntKind.i64 (x2+1)) (x3++[IntKind.wrap IntKind.u8 (IntKind.wrap IntKind.i64 (Prod.fst (List.getD x0 (Int.toNat x2) (0,0,ByteArray.empty,()))+1))]))))) none) none) (K0 x3)
def qd2 (D:DX)(n:Nat) (K0:List Int→Option ((List Int×Unit)×Unit)):Nat→(qd)→(Int)→(Int)→(List Int)→Option ((List Int×Unit)×Unit) | 0=>(fun x0 x1 x2 x3=>none) | m+1=>(fun x0 x1 x2 x3=>qs1 D n (qd2 D n K0 m) K0 (qq7 D n (qd2 D n K0 m) K0) (qrc D n (qd2 D n K0 m) K0) x0 x1 x2 x3)
def qz8 (D:DX)(n:Nat) (v0_0:List Int):Option ((List Int×Unit)×Unit):=some ((v0_0,()),())
def qre (D:DX)(n:Nat):(qd)→(Int)→(Int)→(List Int)→Option ((List Int×Unit)×Unit):=(fun x0 x1 x2 x3=>qd2 D n (fun v0_0=>qz8 D n v0_0) n x0 x1 x2 x3)
def qu4 (D:DX)(n:Nat) (lp0:qd→Int→Int→List Int→Option ((List Int×Unit)×Unit)) (a0:qd):Option ((List Int×Unit)×Unit):=qi (q2h D a0) fun b↦br (!Prod.fst (Prod.fst b)) (some (([],()),())) (lp0 a0 (↑(List.length a0):Int) 0 [])
def qus (D:DX)(n:Nat) (a0:qd):Option ((List Int×Unit)×Unit):=qu4 D n (qre D n) a0
def qc1 (x0:qd) (x1:Int) (x2:Int) (x3:List Int):St:=stq 81 [(3,AV.brw 3 [] 0),(13,AV.val (Ty.sl yV) x0),(14,avI x1),(15,avI x2)] [(3,Root.mk (Ty.sl (Ty.int IntKind.u8)) (Mk.own 0 Mk.no) x3 false)] 
def qdg (v0_0:List Int):St:=stq 81 [(3,AV.brw 3 [] 0)] [(3,Root.mk (Ty.sl (Ty.int IntKind.u8)) (Mk.own 0 Mk.no) v0_0 false)] 
def qg0 (x1_0:Int) (x1_1:qd) (x1_2:Int) (x1_3:Int) (x1_4:List Int) (x1_5:Int×Int×ByteArray×Unit):St:=stq 81 [(3,AV.brw 3 [] 0),(5,AV.addr 5 []),(6,avI x1_0),(13,AV.val (Ty.sl yV) x1_1),(14,avI x1_2),(15,avI x1_3)] [(3,Root.mk (Ty.sl (Ty.int IntKind.u8)) (Mk.own 0 Mk.no) x1_4 false),(5,Root.mk yV Mk.no x1_5 true)] 
def qkn (v0_0:qd) (v0_1:Int) (v0_2:Int) (v0_3:List Int):St:=stq 81 [(3,AV.brw 3 [] 0),(13,AV.val (Ty.sl yV) v0_0),(14,avI v0_1),(15,avI v0_2)] [(3,Root.mk (Ty.sl (Ty.int IntKind.u8)) (Mk.own 0 Mk.no) v0_3 false)] 
def qgu (x2_0:qd) (x2_1:Int) (x2_2:Int) (x2_3:Int) (x2_4:Int) (x2_5:List Int) (x2_6:Int×Int×ByteArray×Unit):St:=stq 81 [(3,AV.brw 3 [] 0),(5,AV.addr 5 []),(13,AV.val (Ty.sl yV) x2_0),(14,avI x2_1),(15,avI x2_2),(56,avI x2_3),(57,avI x2_4)] [(3,Root.mk (Ty.sl (Ty.int IntKind.u8)) (Mk.own 0 Mk.no) x2_5 false),(5,Root.mk yV Mk.no x2_6 true)] 
def qkm (v0_0:qd) (v0_1:Int) (v0_2:Int) (v0_3:List Int):St:=stq 81 [(3,AV.brw 3 [] 0),(13,AV.val (Ty.sl yV) v0_0),(14,avI v0_1),(15,avI v0_2)] [(3,Root.mk (Ty.sl (Ty.int IntKind.u8)) (Mk.own 0 Mk.no) v0_3 false)] 
theorem qbbp (D:DX)(n:Nat) (m:Nat) (K:Ex→St→Option (Out ctx 137)) (x1_0:Int) (x1_1:qd) (x1_2:Int) (x1_3:Int) (x1_4:List Int) (x1_5:Int×Int×ByteArray×Unit) :
 LQ qc D n 137 [.r,.r,.r,.l,.r,.l,.l,.r,.r,.l,.l,.r,.r,.r,.l,.r,.r,.r,.l,.r,.l] (m+1) (qg0 x1_0 x1_1 x1_2 x1_3 x1_4 x1_5) K=qnm D n (fun x1_0 x1_1 x1_2 x1_3 x1_4 x1_5=>LQ qc D n 137 [.r,.r,.r,.l,.r,.l,.l,.r,.r,.l,.l,.r,.r,.r,.l,.r,.r,.r,.l,.r,.l] m (qg0 x1_0 x1_1 x1_2 x1_3 x1_4 x1_5) K) (fun v0_0 v0_1 v0_2 v0_3=>K (Ex.exit 3) (qkn v0_0 v0_1 v0_2 v0_3)) x1_0 x1_1 x1_2 x1_3 x1_4 x1_5:=by kernel_rfl
theorem q0l (D:DX)(n:Nat) (K:Ex→St→Option (Out ctx 137)):∀ (m:Nat) (x1_0:Int) (x1_1:qd) (x1_2:Int) (x1_3:Int) (x1_4:List Int) (x1_5:Int×Int×ByteArray×Unit),LQ qc D n 137 [.r,.r,.r,.l,.r,.l,.l,.r,.r,.l,.l,.r,.r,.r,.l,.r,.r,.r,.l,.r,.l] m (qg0 x1_0 x1_1 x1_2 x1_3 x1_4 x1_5) K=qfa D n (fun v0_0 v0_1 v0_2 v0_3=>K (Ex.exit 3) (qkn v0_0 v0_1 v0_2 v0_3)) m x1_0 x1_1 x1_2 x1_3 x1_4 x1_5
 | 0,x1_0,x1_1,x1_2,x1_3,x1_4,x1_5=>qu ..
 | m+1,x1_0,x1_1,x1_2,x1_3,x1_4,x1_5=>by
  have ih:(fun x1_0 x1_1 x1_2 x1_3 x1_4 x1_5=>LQ qc D n 137 [.r,.r,.r,.l,.r,.l,.l,.r,.r,.l,.l,.r,.r,.r,.l,.r,.r,.r,.l,.r,.l] m (qg0 x1_0 x1_1 x1_2 x1_3 x1_4 x1_5) K)=qfa D n (fun v0_0 v0_1 v0_2 v0_3=>K (Ex.exit 3) (qkn v0_0 v0_1 v0_2 v0_3)) m:=by funext x1_0 x1_1 x1_2 x1_3 x1_4 x1_5;exact q0l D n K m x1_0 x1_1 x1_2 x1_3 x1_4 x1_5
  rw[qbbp]
  rw[ih];rfl
theorem qbaw (D:DX)(n:Nat) (m:Nat) (K:Ex→St→Option (Out ctx 137)) (v0_0:qd) (v0_1:Int) (v0_2:Int) (v0_3:List Int) :
 (CQ qc D n 137 [.r,.r,.r,.l,.r,.l,.l] [.r,.r,.l,.l,.r,.r,.r,.l,.r,.r,.r,.l,.r,.l] (LK qc D n 137 [.r,.r,.r,.l,.r,.l] m K)) (Ex.exit 3) (qkn v0_0 v0_1 v0_2 v0_3)=qpx D n (fun x0 x1 x2 x3=>LQ qc D n 137 [.r,.r,.r,.l,.r,.l] m (qc1 x0 x1 x2 x3) K) (fun v0_0=>K (Ex.exit 0) (qdg v0_0)) v0_0 v0_1 v0_2 v0_3:=by kernel_rfl
theorem qba2 (D:DX)(n:Nat) (m:Nat) (K:Ex→St→Option (Out ctx 137)) (x1_0:Int) (x1_1:qd) (x1_2:Int) (x1_3:Int) (x1_4:List Int) (x1_5:Int×Int×ByteArray×Unit) :
 LQ qc D n 137 [.r,.r,.r,.l,.r,.l,.l,.r,.r,.l,.l,.r,.r,.r,.l,.r,.r,.r,.l,.r,.l] n (qg0 x1_0 x1_1 x1_2 x1_3 x1_4 x1_5) (CQ qc D n 137 [.r,.r,.r,.l,.r,.l,.l] [.r,.r,.l,.l,.r,.r,.r,.l,.r,.r,.r,.l,.r,.l] (LK qc D n 137 [.r,.r,.r,.l,.r,.l] m K))=qq7 D n (fun x0 x1 x2 x3=>LQ qc D n 137 [.r,.r,.r,.l,.r,.l] m (qc1 x0 x1 x2 x3) K) (fun v0_0=>K (Ex.exit 0) (qdg v0_0)) x1_0 x1_1 x1_2 x1_3 x1_4 x1_5:=by
 rw[q0l]
 simp only[qbaw]
 rfl
theorem qbbz (D:DX)(n:Nat) (m:Nat) (K:Ex→St→Option (Out ctx 137)) (x2_0:qd) (x2_1:Int) (x2_2:Int) (x2_3:Int) (x2_4:Int) (x2_5:List Int) (x2_6:Int×Int×ByteArray×Unit) :
 LQ qc D n 137 [.r,.r,.r,.l,.r,.l,.l,.r,.r,.l,.l,.r,.r,.r,.l,.r,.r,.r,.r,.r,.l,.l,.r,.l] (m+1) (qgu x2_0 x2_1 x2_2 x2_3 x2_4 x2_5 x2_6) K=qsu D n (fun x2_0 x2_1 x2_2 x2_3 x2_4 x2_5 x2_6=>LQ qc D n 137 [.r,.r,.r,.l,.r,.l,.l,.r,.r,.l,.l,.r,.r,.r,.l,.r,.r,.r,.r,.r,.l,.l,.r,.l] m (qgu x2_0 x2_1 x2_2 x2_3 x2_4 x2_5 x2_6) K) (fun v0_0 v0_1 v0_2 v0_3=>K (Ex.exit 5) (qkm v0_0 v0_1 v0_2 v0_3)) x2_0 x2_1 x2_2 x2_3 x2_4 x2_5 x2_6:=by kernel_rfl
theorem q0p (D:DX)(n:Nat) (K:Ex→St→Option (Out ctx 137)):∀ (m:Nat) (x2_0:qd) (x2_1:Int) (x2_2:Int) (x2_3:Int) (x2_4:Int) (x2_5:List Int) (x2_6:Int×Int×ByteArray×Unit),LQ qc D n 137 [.r,.r,.r,.l,.r,.l,.l,.r,.r,.l,.l,.r,.r,.r,.l,.r,.r,.r,.r,.r,.l,.l,.r,.l] m (qgu x2_0 x2_1 x2_2 x2_3 x2_4 x2_5 x2_6) K=qgx D n (fun v0_0 v0_1 v0_2 v0_3=>K (Ex.exit 5) (qkm v0_0 v0_1 v0_2 v0_3)) m x2_0 x2_1 x2_2 x2_3 x2_4 x2_5 x2_6
 | 0,x2_0,x2_1,x2_2,x2_3,x2_4,x2_5,x2_6=>qu ..
 | m+1,x2_0,x2_1,x2_2,x2_3,x2_4,x2_5,x2_6=>by
  have ih:(fun x2_0 x2_1 x2_2 x2_3 x2_4 x2_5 x2_6=>LQ qc D n 137 [.r,.r,.r,.l,.r,.l,.l,.r,.r,.l,.l,.r,.r,.r,.l,.r,.r,.r,.r,.r,.l,.l,.r,.l] m (qgu x2_0 x2_1 x2_2 x2_3 x2_4 x2_5 x2_6) K)=qgx D n (fun v0_0 v0_1 v0_2 v0_3=>K (Ex.exit 5) (qkm v0_0 v0_1 v0_2 v0_3)) m:=by funext x2_0 x2_1 x2_2 x2_3 x2_4 x2_5 x2_6;exact q0p D n K m x2_0 x2_1 x2_2 x2_3 x2_4 x2_5 x2_6
  rw[qbbz]
  rw[ih];rfl
theorem q95 (D:DX)(n:Nat) (m:Nat) (K:Ex→St→Option (Out ctx 137)) (v0_0:qd) (v0_1:Int) (v0_2:Int) (v0_3:List Int) :
 (CQ qc D n 137 [.r,.r,.r,.l,.r,.l,.l] [.r,.r,.l,.l,.r,.r,.r,.l,.r,.r,.r,.r,.r,.l,.l,.r,.l] (LK qc D n 137 [.r,.r,.r,.l,.r,.l] m K)) (Ex.exit 5) (qkm v0_0 v0_1 v0_2 v0_3)=qp5 D n (fun x0 x1 x2 x3=>LQ qc D n 137 [.r,.r,.r,.l,.r,.l] m (qc1 x0 x1 x2 x3) K) (fun v0_0=>K (Ex.exit 0) (qdg v0_0)) v0_0 v0_1 v0_2 v0_3:=by kernel_rfl
theorem qbab (D:DX)(n:Nat) (m:Nat) (K:Ex→St→Option (Out ctx 137)) (x2_0:qd) (x2_1:Int) (x2_2:Int) (x2_3:Int) (x2_4:Int) (x2_5:List Int) (x2_6:Int×Int×ByteArray×Unit) :
 LQ qc D n 137 [.r,.r,.r,.l,.r,.l,.l,.r,.r,.l,.l,.r,.r,.r,.l,.r,.r,.r,.r,.r,.l,.l,.r,.l] n (qgu x2_0 x2_1 x2_2 x2_3 x2_4 x2_5 x2_6) (CQ qc D n 137 [.r,.r,.r,.l,.r,.l,.l] [.r,.r,.l,.l,.r,.r,.r,.l,.r,.r,.r,.r,.r,.l,.l,.r,.l] (LK qc D n 137 [.r,.r,.r,.l,.r,.l] m K))=qrc D n (fun x0 x1 x2 x3=>LQ qc D n 137 [.r,.r,.r,.l,.r,.l] m (qc1 x0 x1 x2 x3) K) (fun v0_0=>K (Ex.exit 0) (qdg v0_0)) x2_0 x2_1 x2_2 x2_3 x2_4 x2_5 x2_6:=by
 rw[q0p]
 simp only[q95]
 rfl
theorem qbb3 (D:DX)(n:Nat) (m:Nat) (K:Ex→St→Option (Out ctx 137)) (x0:qd) (x1:Int) (x2:Int) (x3:List Int) :
 LQ qc D n 137 [.r,.r,.r,.l,.r,.l] (m+1) (qc1 x0 x1 x2 x3) K=qs1 D n (fun x0 x1 x2 x3=>LQ qc D n 137 [.r,.r,.r,.l,.r,.l] m (qc1 x0 x1 x2 x3) K) (fun v0_0=>K (Ex.exit 0) (qdg v0_0)) (fun x1_0 x1_1 x1_2 x1_3 x1_4 x1_5=>LQ qc D n 137 [.r,.r,.r,.l,.r,.l,.l,.r,.r,.l,.l,.r,.r,.r,.l,.r,.r,.r,.l,.r,.l] n (qg0 x1_0 x1_1 x1_2 x1_3 x1_4 x1_5) (CQ qc D n 137 [.r,.r,.r,.l,.r,.l,.l] [.r,.r,.l,.l,.r,.r,.r,.l,.r,.r,.r,.l,.r,.l] (LK qc D n 137 [.r,.r,.r,.l,.r,.l] m K))) (fun x2_0 x2_1 x2_2 x2_3 x2_4 x2_5 x2_6=>LQ qc D n 137 [.r,.r,.r,.l,.r,.l,.l,.r,.r,.l,.l,.r,.r,.r,.l,.r,.r,.r,.r,.r,.l,.l,.r,.l] n (qgu x2_0 x2_1 x2_2 x2_3 x2_4 x2_5 x2_6) (CQ qc D n 137 [.r,.r,.r,.l,.r,.l,.l] [.r,.r,.l,.l,.r,.r,.r,.l,.r,.r,.r,.r,.r,.l,.l,.r,.l] (LK qc D n 137 [.r,.r,.r,.l,.r,.l] m K))) x0 x1 x2 x3:=by kernel_rfl
theorem q0o (D:DX)(n:Nat) (K:Ex→St→Option (Out ctx 137)):∀ (m:Nat) (x0:qd) (x1:Int) (x2:Int) (x3:List Int),LQ qc D n 137 [.r,.r,.r,.l,.r,.l] m (qc1 x0 x1 x2 x3) K=qd2 D n (fun v0_0=>K (Ex.exit 0) (qdg v0_0)) m x0 x1 x2 x3
 | 0,x0,x1,x2,x3=>qu ..
 | m+1,x0,x1,x2,x3=>by
  have ih:(fun x0 x1 x2 x3=>LQ qc D n 137 [.r,.r,.r,.l,.r,.l] m (qc1 x0 x1 x2 x3) K)=qd2 D n (fun v0_0=>K (Ex.exit 0) (qdg v0_0)) m:=by funext x0 x1 x2 x3;exact q0o D n K m x0 x1 x2 x3
  rw[qbb3]
  simp only[qba2,qbab]
  rw[ih];rfl
theorem qbay (D:DX)(n:Nat) (v0_0:List Int) :
 (CQ qc D n 137 [] [.r,.r,.r,.l,.r,.l] (qh qc 137)) (Ex.exit 0) (qdg v0_0)=qz8 D n v0_0:=by kernel_rfl
theorem qbbc (D:DX)(n:Nat) (x0:qd) (x1:Int) (x2:Int) (x3:List Int) :
 LQ qc D n 137 [.r,.r,.r,.l,.r,.l] n (qc1 x0 x1 x2 x3) (CQ qc D n 137 [] [.r,.r,.r,.l,.r,.l] (qh qc 137))=qre D n x0 x1 x2 x3:=by
 rw[q0o]
 simp only[qbay]
 rfl
theorem qbf6 (D:DX)(n:Nat) (a0:qd):rfC qc D n 137 (a0,())=qus D n a0:=by
 have h:rfC qc D n 137 (a0,())=qu4 D n (fun x0 x1 x2 x3=>LQ qc D n 137 [.r,.r,.r,.l,.r,.l] n (qc1 x0 x1 x2 x3) (CQ qc D n 137 [] [.r,.r,.r,.l,.r,.l] (qh qc 137))) a0:=by kernel_rfl
 rw[h]
 simp only[qbbc]
 rfl


def q8x (D:DX)(n:Nat) (a0:Int×Int×ByteArray×Unit):Option ((Bool×Unit)×Unit):=br (decide (Prod.fst a0=0)) (some ((bif decide (Prod.fst (Prod.snd a0)=0) then List.beq (ByteArray.toList (Prod.fst (Prod.snd (Prod.snd a0)))) (ByteArray.toList (ByteArray.mk #[])) else false,()),())) (br (decide (Prod.fst a0=1)) (qi (qf1 D (Prod.fst (Prod.snd a0)) 0 1) fun b↦some ((bif Prod.fst (Prod.fst b) then List.beq (ByteArray.toList (Prod.fst (Prod.snd (Prod.snd a0)))) (ByteArray.toList (ByteArray.mk #[])) else false,()),())) (br (decide (Prod.fst a0=2)) (qi (qf1 D (Prod.fst (Prod.snd a0)) (-1000000000000) 1000000000000) fun b↦some ((bif Prod.fst (Prod.fst b) then List.beq (ByteArray.toList (Prod.fst (Prod.snd (Prod.snd a0)))) (ByteArray.toList (ByteArray.mk #[])) else false,()),())) (br (decide (Prod.fst a0=3)) (some ((bif decide (Prod.fst (Prod.snd a0)=0) then decide ((↑(ByteArray.size (Prod.fst (Prod.snd (Prod.snd a0)))):Int)≤20) else false,()),())) (some ((false,()),())))))
def q1r (D:DX)(n:Nat) (a0:Int×Int×ByteArray×Unit):Option ((Bool×Unit)×Unit):=q8x D n a0
theorem qbn8 (D:DX)(n:Nat) (a0:Int×Int×ByteArray×Unit):rfC qc D n 139 (a0,())=q1r D n a0:=by kernel_rfl

def qb1 (D:DX)(n:Nat) (a2:Clo) (go:qd→qd→qd→Int→Int→Option ((Int×Unit)×Unit)) (K0:qd→qd→Int→Option ((Int×Unit)×Unit)) (K1:qd→qd→Option ((Int×Unit)×Unit)) (x0:qd) (x1:qd) (x2:qd) (x3:Int) (x4:Int):Option ((Int×Unit)×Unit):=br (decide (x4<x3)) (br (decide (0≤x4)&&decide (x4<(↑(List.length x2):Int))) (br (decide (x4≥(↑(List.length x1):Int))) (K0 x0 x1 1) (br (decide (0≤x4)&&decide (x4<(↑(List.length x1):Int))) (qi (qbr ctx D a2 [CapV.val (Ty.pair (Ty.int IntKind.i64) (Ty.pair (Ty.int IntKind.i64) (Ty.pair Ty.str Ty.unit))) (List.getD x2 (Int.toNat x4) (0,0,ByteArray.empty,())),CapV.val (Ty.pair (Ty.int IntKind.i64) (Ty.pair (Ty.int IntKind.i64) (Ty.pair Ty.str Ty.unit))) (List.getD x1 (Int.toNat x4) (0,0,ByteArray.empty,()))] (Ty.int IntKind.i64)) fun b↦br (b != 0) (K0 x0 x1 b) (go x0 x1 x2 x3 (IntKind.wrap IntKind.i64 (x4+1)))) none)) none) (K1 x0 x1)
def qv (D:DX)(n:Nat) (a2:Clo) (K0:qd→qd→Int→Option ((Int×Unit)×Unit)) (K1:qd→qd→Option ((Int×Unit)×Unit)):Nat→(qd)→(qd)→(qd)→(Int)→(Int)→Option ((Int×Unit)×Unit) | 0=>(fun x0 x1 x2 x3 x4=>none) | m+1=>(fun x0 x1 x2 x3 x4=>qb1 D n a2 (qv D n a2 K0 K1 m) K0 K1 x0 x1 x2 x3 x4)
def qby (D:DX)(n:Nat) (a2:Clo) (v0_0:qd) (v0_1:qd) (v0_2:Int):Option ((Int×Unit)×Unit):=some ((v0_2,()),())
def qbh (D:DX)(n:Nat) (a2:Clo) (v1_0:qd) (v1_1:qd):Option ((Int×Unit)×Unit):=br (decide ((↑(List.length v1_0):Int)<(↑(List.length v1_1):Int))) (some ((-1,()),())) (some ((0,()),()))
def qbz (D:DX)(n:Nat) (a2:Clo):(qd)→(qd)→(qd)→(Int)→(Int)→Option ((Int×Unit)×Unit):=(fun x0 x1 x2 x3 x4=>qv D n a2 (fun v0_0 v0_1 v0_2=>qby D n a2 v0_0 v0_1 v0_2) (fun v1_0 v1_1=>qbh D n a2 v1_0 v1_1) n x0 x1 x2 x3 x4)
def qcb (D:DX)(n:Nat) (a2:Clo) (lp0:qd→qd→qd→Int→Int→Option ((Int×Unit)×Unit)) (a0:qd) (a1:qd):Option ((Int×Unit)×Unit):=lp0 a0 a1 a0 (↑(List.length a0):Int) 0
def qcc (D:DX)(n:Nat) (a0:qd) (a1:qd) (a2:Clo):Option ((Int×Unit)×Unit):=qcb D n a2 (qbz D n a2) a0 a1
def qw (a2:Clo) (x0:qd) (x1:qd) (x2:qd) (x3:Int) (x4:Int):St:=stq 39 [(0,AV.val (Ty.sl yV) x0),(1,AV.val (Ty.sl yV) x1),(2,AV.cloV a2),(11,AV.val (Ty.sl yV) x2),(12,avI x3),(13,avI x4)] [] 
def qbf (a2:Clo) (v0_0:qd) (v0_1:qd) (v0_2:Int):St:=stq 39 [(0,AV.val (Ty.sl yV) v0_0),(1,AV.val (Ty.sl yV) v0_1),(6,avI v0_2)] [] 
def qbg (a2:Clo) (v1_0:qd) (v1_1:qd):St:=stq 39 [(0,AV.val (Ty.sl yV) v1_0),(1,AV.val (Ty.sl yV) v1_1)] [] 
theorem qfz (D:DX)(n:Nat) (a2:Clo) (m:Nat) (K:Ex→St→Option (Out ctx 140)) (x0:qd) (x1:qd) (x2:qd) (x3:Int) (x4:Int) :
 LQ qc D n 140 [.r,.l,.r,.l] (m+1) (qw a2 x0 x1 x2 x3 x4) K=qb1 D n a2 (fun x0 x1 x2 x3 x4=>LQ qc D n 140 [.r,.l,.r,.l] m (qw a2 x0 x1 x2 x3 x4) K) (fun v0_0 v0_1 v0_2=>K (Ex.ret) (qbf a2 v0_0 v0_1 v0_2)) (fun v1_0 v1_1=>K (Ex.exit 0) (qbg a2 v1_0 v1_1)) x0 x1 x2 x3 x4:=by kernel_rfl
theorem qc0 (D:DX)(n:Nat) (a2:Clo) (K:Ex→St→Option (Out ctx 140)):∀ (m:Nat) (x0:qd) (x1:qd) (x2:qd) (x3:Int) (x4:Int),LQ qc D n 140 [.r,.l,.r,.l] m (qw a2 x0 x1 x2 x3 x4) K=qv D n a2 (fun v0_0 v0_1 v0_2=>K (Ex.ret) (qbf a2 v0_0 v0_1 v0_2)) (fun v1_0 v1_1=>K (Ex.exit 0) (qbg a2 v1_0 v1_1)) m x0 x1 x2 x3 x4
 | 0,x0,x1,x2,x3,x4=>qu ..
 | m+1,x0,x1,x2,x3,x4=>by
  have ih:(fun x0 x1 x2 x3 x4=>LQ qc D n 140 [.r,.l,.r,.l] m (qw a2 x0 x1 x2 x3 x4) K)=qv D n a2 (fun v0_0 v0_1 v0_2=>K (Ex.ret) (qbf a2 v0_0 v0_1 v0_2)) (fun v1_0 v1_1=>K (Ex.exit 0) (qbg a2 v1_0 v1_1)) m:=by funext x0 x1 x2 x3 x4;exact qc0 D n a2 K m x0 x1 x2 x3 x4
  rw[qfz]
  rw[ih];rfl
theorem qfs (D:DX)(n:Nat) (a2:Clo) (v0_0:qd) (v0_1:qd) (v0_2:Int) :
 (CQ qc D n 140 [] [.r,.l,.r,.l] (qh qc 140)) (Ex.ret) (qbf a2 v0_0 v0_1 v0_2)=qby D n a2 v0_0 v0_1 v0_2:=by kernel_rfl
theorem qfr (D:DX)(n:Nat) (a2:Clo) (v1_0:qd) (v1_1:qd) :
 (CQ qc D n 140 [] [.r,.l,.r,.l] (qh qc 140)) (Ex.exit 0) (qbg a2 v1_0 v1_1)=qbh D n a2 v1_0 v1_1:=by kernel_rfl
theorem qfq (D:DX)(n:Nat) (a2:Clo) (x0:qd) (x1:qd) (x2:qd) (x3:Int) (x4:Int) :
 LQ qc D n 140 [.r,.l,.r,.l] n (qw a2 x0 x1 x2 x3 x4) (CQ qc D n 140 [] [.r,.l,.r,.l] (qh qc 140))=qbz D n a2 x0 x1 x2 x3 x4:=by
 rw[qc0]
 simp only[qfs,qfr]
 rfl
theorem qgh (D:DX)(n:Nat) (a0:qd) (a1:qd) (a2:Clo):rfC qc D n 140 (a0,(a1,(a2,())))=qcc D n a0 a1 a2:=by
 have h:rfC qc D n 140 (a0,(a1,(a2,())))=qcb D n a2 (fun x0 x1 x2 x3 x4=>LQ qc D n 140 [.r,.l,.r,.l] n (qw a2 x0 x1 x2 x3 x4) (CQ qc D n 140 [] [.r,.l,.r,.l] (qh qc 140))) a0 a1:=by kernel_rfl
 rw[h]
 simp only[qfq]
 rfl

def q9z (D:DX)(n:Nat) (a0:Int×Int×ByteArray×Unit) (a1:Int×Int×ByteArray×Unit):Option ((Int×Unit)×Unit):=br (bif decide (Prod.fst a0<Prod.fst a1) then true else bif decide (Prod.fst a0=Prod.fst a1) then decide (Prod.fst (Prod.snd a0)<Prod.fst (Prod.snd a1)) else false) (some ((-1,()),())) (br (bif decide (Prod.fst a0>Prod.fst a1) then true else decide (Prod.fst (Prod.snd a0)>Prod.fst (Prod.snd a1))) (some ((1,()),())) (qi (q5n D (Prod.fst (Prod.snd (Prod.snd a0))) (Prod.fst (Prod.snd (Prod.snd a1)))) fun b↦some ((Prod.fst (Prod.fst b),()),())))
def q2m (D:DX)(n:Nat) (a0:Int×Int×ByteArray×Unit) (a1:Int×Int×ByteArray×Unit):Option ((Int×Unit)×Unit):=q9z D n a0 a1
theorem qbmz (D:DX)(n:Nat) (a0:Int×Int×ByteArray×Unit) (a1:Int×Int×ByteArray×Unit):rfC qc D n 141 (a0,(a1,()))=q2m D n a0 a1:=by kernel_rfl

def qge (D:DX)(n:Nat) (a1:Clo) (a0:tIxs):Option ((Bool×Unit)×Unit):=qi (qeg D a0 a1) fun b↦some ((decide (Prod.fst (Prod.fst b)≥0),()),())
def qdo (D:DX)(n:Nat) (a0:tIxs) (a1:Clo):Option ((Bool×Unit)×Unit):=qge D n a1 a0
theorem qoa (D:DX)(n:Nat) (a0:tIxs) (a1:Clo):rfC qc D n 142 (a0,(a1,()))=qdo D n a0 a1:=by kernel_rfl

def q9k (D:DX)(n:Nat) (a0:ByteArray×List Int×Bool×Unit) (a1:qd) (a2:qd):Option ((Bool×Unit)×Unit):=qi (qla D a1 (Prod.fst (Prod.snd a0))) fun b↦br (Prod.fst (Prod.snd (Prod.snd a0))) (qi (qeh D (Prod.fst (Prod.fst b)) (0,0,ByteArray.empty,())) fun b_1↦br (!Prod.fst (Prod.fst b_1)) (qi (qla D a2 (Prod.fst (Prod.snd a0))) fun b_2↦qi (qe7 D (Prod.fst (Prod.fst b)) (Prod.fst (Prod.fst b_2))) fun b↦some ((Prod.fst (Prod.fst b),()),())) (some ((false,()),()))) (some ((false,()),()))
def q1q (D:DX)(n:Nat) (a0:ByteArray×List Int×Bool×Unit) (a1:qd) (a2:qd):Option ((Bool×Unit)×Unit):=q9k D n a0 a1 a2
theorem qbn3 (D:DX)(n:Nat) (a0:ByteArray×List Int×Bool×Unit) (a1:qd) (a2:qd):rfC qc D n 143 (a0,(a1,(a2,())))=q1q D n a0 a1 a2:=by kernel_rfl

def qh0 (D:DX)(n:Nat) (a0:qd) (a1:Int×Int×ByteArray×Unit):Option ((Bool×Unit)×Unit):=qi (qfc D a0 a1) fun b↦some ((decide (Prod.fst (Prod.fst b)≥0),()),())
def qei (D:DX)(n:Nat) (a0:qd) (a1:Int×Int×ByteArray×Unit):Option ((Bool×Unit)×Unit):=qh0 D n a0 a1
theorem qqt (D:DX)(n:Nat) (a0:qd) (a1:Int×Int×ByteArray×Unit):rfC qc D n 144 (a0,(a1,()))=qei D n a0 a1:=by kernel_rfl

def qex (D:DX)(n:Nat) (go:qd→qd→Int→Int→Option ((Bool×Unit)×Unit)) (K0:Bool→Option ((Bool×Unit)×Unit)) (K1:Option ((Bool×Unit)×Unit)) (x0:qd) (x1:qd) (x2:Int) (x3:Int):Option ((Bool×Unit)×Unit):=br (decide (x3<x2)) (br (decide (0≤x3)&&decide (x3<(↑(List.length x0):Int))) (br (decide (0≤x3)&&decide (x3<(↑(List.length x1):Int))) (br (!qlj (Ty.pair (Ty.int IntKind.i64) (Ty.pair (Ty.int IntKind.i64) (Ty.pair Ty.str Ty.unit))) (List.getD x0 (Int.toNat x3) (0,0,ByteArray.empty,())) (List.getD x1 (Int.toNat x3) (0,0,ByteArray.empty,()))) (K0 false) (go x0 x1 x2 (IntKind.wrap IntKind.i64 (x3+1)))) none) none) K1
def qb5 (D:DX)(n:Nat) (K0:Bool→Option ((Bool×Unit)×Unit)) (K1:Option ((Bool×Unit)×Unit)):Nat→(qd)→(qd)→(Int)→(Int)→Option ((Bool×Unit)×Unit) | 0=>(fun x0 x1 x2 x3=>none) | m+1=>(fun x0 x1 x2 x3=>qex D n (qb5 D n K0 K1 m) K0 K1 x0 x1 x2 x3)
def qh4 (D:DX)(n:Nat) (v0_0:Bool):Option ((Bool×Unit)×Unit):=some ((v0_0,()),())
def qhy (D:DX)(n:Nat):Option ((Bool×Unit)×Unit):=some ((true,()),())
def qeq (D:DX)(n:Nat):(qd)→(qd)→(Int)→(Int)→Option ((Bool×Unit)×Unit):=(fun x0 x1 x2 x3=>qb5 D n (fun v0_0=>qh4 D n v0_0) (qhy D n) n x0 x1 x2 x3)
def qe5 (D:DX)(n:Nat) (lp0:qd→qd→Int→Int→Option ((Bool×Unit)×Unit)) (a0:qd) (a1:qd):Option ((Bool×Unit)×Unit):=br ((↑(List.length a0):Int) != (↑(List.length a1):Int)) (some ((false,()),())) (lp0 a0 a1 (↑(List.length a0):Int) 0)
def qe6 (D:DX)(n:Nat) (a0:qd) (a1:qd):Option ((Bool×Unit)×Unit):=qe5 D n (qeq D n) a0 a1
def qb3 (x0:qd) (x1:qd) (x2:Int) (x3:Int):St:=stq 26 [(0,AV.val (Ty.sl yV) x0),(1,AV.val (Ty.sl yV) x1),(12,avI x2),(13,avI x3)] [] 
def qc2 (v0_0:Bool):St:=stq 26 [(4,AV.val Ty.bool v0_0)] [] 
def qc6:St:=stq 26 [] [] 
theorem qra (D:DX)(n:Nat) (m:Nat) (K:Ex→St→Option (Out ctx 145)) (x0:qd) (x1:qd) (x2:Int) (x3:Int) :
 LQ qc D n 145 [.r,.r,.l,.r,.l] (m+1) (qb3 x0 x1 x2 x3) K=qex D n (fun x0 x1 x2 x3=>LQ qc D n 145 [.r,.r,.l,.r,.l] m (qb3 x0 x1 x2 x3) K) (fun v0_0=>K (Ex.ret) (qc2 v0_0)) (K (Ex.exit 0) (qc6)) x0 x1 x2 x3:=by kernel_rfl
theorem qie (D:DX)(n:Nat) (K:Ex→St→Option (Out ctx 145)):∀ (m:Nat) (x0:qd) (x1:qd) (x2:Int) (x3:Int),LQ qc D n 145 [.r,.r,.l,.r,.l] m (qb3 x0 x1 x2 x3) K=qb5 D n (fun v0_0=>K (Ex.ret) (qc2 v0_0)) (K (Ex.exit 0) (qc6)) m x0 x1 x2 x3
 | 0,x0,x1,x2,x3=>qu ..
 | m+1,x0,x1,x2,x3=>by
  have ih:(fun x0 x1 x2 x3=>LQ qc D n 145 [.r,.r,.l,.r,.l] m (qb3 x0 x1 x2 x3) K)=qb5 D n (fun v0_0=>K (Ex.ret) (qc2 v0_0)) (K (Ex.exit 0) (qc6)) m:=by funext x0 x1 x2 x3;exact qie D n K m x0 x1 x2 x3
  rw[qra]
  rw[ih];rfl
theorem qqv (D:DX)(n:Nat) (v0_0:Bool) :
 (CQ qc D n 145 [] [.r,.r,.l,.r,.l] (qh qc 145)) (Ex.ret) (qc2 v0_0)=qh4 D n v0_0:=by kernel_rfl
theorem qqz (D:DX)(n:Nat) :
 (CQ qc D n 145 [] [.r,.r,.l,.r,.l] (qh qc 145)) (Ex.exit 0) (qc6)=qhy D n:=by kernel_rfl
theorem qqu (D:DX)(n:Nat) (x0:qd) (x1:qd) (x2:Int) (x3:Int) :
 LQ qc D n 145 [.r,.r,.l,.r,.l] n (qb3 x0 x1 x2 x3) (CQ qc D n 145 [] [.r,.r,.l,.r,.l] (qh qc 145))=qeq D n x0 x1 x2 x3:=by
 rw[qie]
 simp only[qqv,qqz]
 rfl
theorem qsl (D:DX)(n:Nat) (a0:qd) (a1:qd):rfC qc D n 145 (a0,(a1,()))=qe6 D n a0 a1:=by
 have h:rfC qc D n 145 (a0,(a1,()))=qe5 D n (fun x0 x1 x2 x3=>LQ qc D n 145 [.r,.r,.l,.r,.l] n (qb3 x0 x1 x2 x3) (CQ qc D n 145 [] [.r,.r,.l,.r,.l] (qh qc 145))) a0 a1:=by kernel_rfl
 rw[h]
 simp only[qqu]
 rfl

def qu2 (D:DX)(n:Nat) (go:ByteArray→Int→Int→Option ((Bool×Unit)×Unit)) (K0:ByteArray→Bool→Option ((Bool×Unit)×Unit)) (K1:ByteArray→Option ((Bool×Unit)×Unit)) (x0:ByteArray) (x1:Int) (x2:Int):Option ((Bool×Unit)×Unit):=br (decide (x2<x1)) (br (decide (0≤x2)&&decide (x2<(↑(ByteArray.size x0):Int))) (br (decide ((↑(UInt8.toNat (Array.getD (ByteArray.data x0) (Int.toNat x2) (UInt8.ofNat 0))):Int)<97)) (K0 x0 false) (br (decide (0≤x2)&&decide (x2<(↑(ByteArray.size x0):Int))) (br (decide ((↑(UInt8.toNat (Array.getD (ByteArray.data x0) (Int.toNat x2) (UInt8.ofNat 0))):Int)>122)) (K0 x0 false) (go x0 x1 (IntKind.wrap IntKind.i64 (x2+1)))) none)) none) (K1 x0)
def qhj (D:DX)(n:Nat) (K0:ByteArray→Bool→Option ((Bool×Unit)×Unit)) (K1:ByteArray→Option ((Bool×Unit)×Unit)):Nat→(ByteArray)→(Int)→(Int)→Option ((Bool×Unit)×Unit) | 0=>(fun x0 x1 x2=>none) | m+1=>(fun x0 x1 x2=>qu2 D n (qhj D n K0 K1 m) K0 K1 x0 x1 x2)
def q0r (D:DX)(n:Nat) (v0_0:ByteArray) (v0_1:Bool):Option ((Bool×Unit)×Unit):=some ((v0_1,()),())
def qrg (D:DX)(n:Nat) (v1_0:ByteArray):Option ((Bool×Unit)×Unit):=qi (qf1 D (↑(ByteArray.size v1_0):Int) 1 12) fun b↦some ((Prod.fst (Prod.fst b),()),())
def qst (D:DX)(n:Nat):(ByteArray)→(Int)→(Int)→Option ((Bool×Unit)×Unit):=(fun x0 x1 x2=>qhj D n (fun v0_0 v0_1=>q0r D n v0_0 v0_1) (fun v1_0=>qrg D n v1_0) n x0 x1 x2)
def qwh (D:DX)(n:Nat) (lp0:ByteArray→Int→Int→Option ((Bool×Unit)×Unit)) (a0:ByteArray):Option ((Bool×Unit)×Unit):=lp0 a0 (↑(ByteArray.size a0):Int) 0
def qxi (D:DX)(n:Nat) (a0:ByteArray):Option ((Bool×Unit)×Unit):=qwh D n (qst D n) a0
def qhw (x0:ByteArray) (x1:Int) (x2:Int):St:=stq 23 [(0,AV.val Ty.str x0),(5,avI x1),(6,avI x2)] [] 
def qln (v0_0:ByteArray) (v0_1:Bool):St:=stq 23 [(0,AV.val Ty.str v0_0),(2,AV.val Ty.bool v0_1)] [] 
def qly (v1_0:ByteArray):St:=stq 23 [(0,AV.val Ty.str v1_0)] [] 
theorem qbd7 (D:DX)(n:Nat) (m:Nat) (K:Ex→St→Option (Out ctx 146)) (x0:ByteArray) (x1:Int) (x2:Int) :
 LQ qc D n 146 [.r,.l,.r,.l] (m+1) (qhw x0 x1 x2) K=qu2 D n (fun x0 x1 x2=>LQ qc D n 146 [.r,.l,.r,.l] m (qhw x0 x1 x2) K) (fun v0_0 v0_1=>K (Ex.ret) (qln v0_0 v0_1)) (fun v1_0=>K (Ex.exit 0) (qly v1_0)) x0 x1 x2:=by kernel_rfl
theorem q28 (D:DX)(n:Nat) (K:Ex→St→Option (Out ctx 146)):∀ (m:Nat) (x0:ByteArray) (x1:Int) (x2:Int),LQ qc D n 146 [.r,.l,.r,.l] m (qhw x0 x1 x2) K=qhj D n (fun v0_0 v0_1=>K (Ex.ret) (qln v0_0 v0_1)) (fun v1_0=>K (Ex.exit 0) (qly v1_0)) m x0 x1 x2
 | 0,x0,x1,x2=>qu ..
 | m+1,x0,x1,x2=>by
  have ih:(fun x0 x1 x2=>LQ qc D n 146 [.r,.l,.r,.l] m (qhw x0 x1 x2) K)=qhj D n (fun v0_0 v0_1=>K (Ex.ret) (qln v0_0 v0_1)) (fun v1_0=>K (Ex.exit 0) (qly v1_0)) m:=by funext x0 x1 x2;exact q28 D n K m x0 x1 x2
  rw[qbd7]
  rw[ih];rfl
theorem qbb4 (D:DX)(n:Nat) (v0_0:ByteArray) (v0_1:Bool) :
 (CQ qc D n 146 [] [.r,.l,.r,.l] (qh qc 146)) (Ex.ret) (qln v0_0 v0_1)=q0r D n v0_0 v0_1:=by kernel_rfl
theorem qbbx (D:DX)(n:Nat) (v1_0:ByteArray) :
 (CQ qc D n 146 [] [.r,.l,.r,.l] (qh qc 146)) (Ex.exit 0) (qly v1_0)=qrg D n v1_0:=by kernel_rfl
theorem qbbr (D:DX)(n:Nat) (x0:ByteArray) (x1:Int) (x2:Int) :
 LQ qc D n 146 [.r,.l,.r,.l] n (qhw x0 x1 x2) (CQ qc D n 146 [] [.r,.l,.r,.l] (qh qc 146))=qst D n x0 x1 x2:=by
 rw[q28]
 simp only[qbb4,qbbx]
 rfl
theorem qbht (D:DX)(n:Nat) (a0:ByteArray):rfC qc D n 146 (a0,())=qxi D n a0:=by
 have h:rfC qc D n 146 (a0,())=qwh D n (fun x0 x1 x2=>LQ qc D n 146 [.r,.l,.r,.l] n (qhw x0 x1 x2) (CQ qc D n 146 [] [.r,.l,.r,.l] (qh qc 146))) a0:=by kernel_rfl
 rw[h]
 simp only[qbbr]
 rfl

def qbcy (D:DX)(n:Nat) (a0:tSch) (a1:ByteArray):Option ((Int×Unit)×Unit):=qi (qfi D (Prod.fst a0) (Clo.mk 196 [CapV.rptr Ty.str a1])) fun b↦some ((Prod.fst (Prod.fst b),()),())
def q6i (D:DX)(n:Nat) (a0:tSch) (a1:ByteArray):Option ((Int×Unit)×Unit):=qbcy D n a0 a1
theorem qbr9 (D:DX)(n:Nat) (a0:tSch) (a1:ByteArray):rfC qc D n 147 (a0,(a1,()))=q6i D n a0 a1:=by kernel_rfl
end
end Go.G


import Derived.Test.YtfafjngknkbngaaGreatAV3
set_option linter.unusedVariables false
set_option linter.unusedSimpArgs false
set_option linter.unusedSectionVars false
namespace Go.G
open Go Go.V
abbrev DX:=Den ctx
abbrev tVal:=Int×Int×ByteArray×Unit
abbrev qd:=List tVal
abbrev qe:=List qd
abbrev tIx:=ByteArray×List Int×Bool×Unit
abbrev tIxs:=List tIx
abbrev tCol:=ByteArray×Int×Bool×Unit
abbrev qj:=List tCol
abbrev tSch:=qj×List Int×tIxs×Unit
abbrev tWay:=ByteArray×ByteArray×Unit
abbrev avI:=AV.val (Ty.int IntKind.i64)
abbrev yI:=Ty.int IntKind.i64
abbrev yC:=Ty.pair Ty.str (Ty.pair yI (Ty.pair Ty.bool Ty.unit))
abbrev yX:=Ty.pair Ty.str (Ty.pair (Ty.sl yI) (Ty.pair Ty.bool Ty.unit))
abbrev yV:=Ty.pair yI (Ty.pair yI (Ty.pair Ty.str Ty.unit))
abbrev yS:=Ty.pair (Ty.sl yC) (Ty.pair (Ty.sl yI) (Ty.pair (Ty.sl yX) Ty.unit))
end Go.G
namespace Go.G
open Go Go.V
noncomputable def qw9 (D:Den ctx) (a0:(tSch)×qe×Unit) (a1:qd):Option ((Bool×Unit)×Unit):=D 7 (a0,(a1,()))
noncomputable def q5a (D:Den ctx) (a0:(tSch)×qe×Unit):Option ((Bool×Unit)×Unit):=D 17 (a0,())
noncomputable def ql9 (D:Den ctx) (a0:tSch) (a1:qd):Option ((qd×Unit)×Unit):=D 23 (a0,(a1,()))
noncomputable def qva (D:Den ctx) (a0:(tSch)×qe×Unit) (a1:qd):Option ((((tSch)×qe×Unit)×Int×Unit)×Unit):=D 24 (a0,(a1,()))
noncomputable def q2j (D:Den ctx) (a0:(tSch)×qe×Unit) (a1:qd):Option ((((tSch)×qe×Unit)×Int×Unit)×Unit):=D 30 (a0,(a1,()))
noncomputable def q5x (D:Den ctx) (a0:(tSch)×qe×Unit):Option ((Bool×Unit)×Unit):=D 41 (a0,())
noncomputable def qt6 (D:Den ctx) (a0:(tSch)×qe×Unit) (a1:Int):Option ((Int×Unit)×Unit):=D 53 (a0,(a1,()))
noncomputable def ql5 (D:Den ctx) (a0:qd) (a1:Int):Option ((Int×Unit)×Unit):=D 54 (a0,(a1,()))
noncomputable def qg6 (D:Den ctx) (a0:(tSch)×qe×Unit):Option ((((tSch)×qe×Unit)×Unit)×Unit):=D 55 (a0,())
noncomputable def qe2 (D:Den ctx) (a0:qd):Option ((qd×Unit)×Unit):=D 56 (a0,())
noncomputable def qgx (D:Den ctx) (a0:(tSch)×qe×Unit) (a1:(tSch)×qe×Unit):Option ((Bool×Unit)×Unit):=D 57 (a0,(a1,()))
noncomputable def qm8 (D:Den ctx) (a0:qd) (a1:qd):Option ((Bool×Unit)×Unit):=D 58 (a0,(a1,()))
noncomputable def qk9 (D:Den ctx) (a0:(tSch)×qe×Unit) (a1:Int):Option ((Int×Unit)×((tSch)×qe×Unit)×Unit):=D 59 (a0,(a1,()))
noncomputable def qn1 (D:Den ctx) (a0:qd) (a1:Int):Option ((Int×Unit)×qd×Unit):=D 60 (a0,(a1,()))
noncomputable def qkz (D:Den ctx) (a0:(tSch)×qe×Unit) (a1:Int):Option ((Int×Unit)×Unit):=D 61 (a0,(a1,()))
noncomputable def qgm (D:Den ctx) (a0:Int) (a1:Int) (a2:Int):Option ((Bool×Unit)×Unit):=D 68 (a0,(a1,(a2,())))
noncomputable def q5v (D:Den ctx) (a0:tSch) (a1:qd):Option ((Bool×Unit)×Unit):=D 77 (a0,(a1,()))
noncomputable def qvh (D:Den ctx) (a0:qd) (a1:qd):Option ((Bool×Unit)×Unit):=D 78 (a0,(a1,()))
noncomputable def qb6 (D:Den ctx) (a0:qe) (a1:Clo):Option ((Bool×Unit)×Unit):=D 79 (a0,(a1,()))
noncomputable def q79 (D:Den ctx) (a0:qd) (a1:(tSch)×qe×Unit) (a2:qd):Option ((Bool×Unit)×Unit):=D 80 (a0,(a1,(a2,())))
noncomputable def q4u (D:Den ctx) (a0:tSch) (a1:qd) (a2:qd):Option ((Bool×Unit)×Unit):=D 81 (a0,(a1,(a2,())))
noncomputable def qq9 (D:Den ctx) (a0:tSch):Option ((Bool×Unit)×Unit):=D 82 (a0,())
noncomputable def qp8 (D:Den ctx) (a0:(tSch)×qe×Unit):Option ((((tSch)×qe×Unit)×Unit)×Unit):=D 83 (a0,())
noncomputable def q56 (D:Den ctx) (a0:(tSch)×qe×Unit) (a1:qd):Option ((Int×Unit)×Unit):=D 84 (a0,(a1,()))
noncomputable def qct (D:Den ctx) (a0:qe) (a1:Clo):Option ((Int×Unit)×Unit):=D 86 (a0,(a1,()))
noncomputable def qes (D:Den ctx) (a0:qd):Option ((qd×Unit)×Unit):=D 89 (a0,())
noncomputable def qof (D:Den ctx) (a0:qd) (a1:List Int):Option ((qd×Unit)×Unit):=D 94 (a0,(a1,()))
noncomputable def q0i (D:Den ctx) (a0:(tSch)×qe×Unit):Option ((((tSch)×qe×Unit)×Unit)×Unit):=D 99 (a0,())
noncomputable def q5i (D:Den ctx) (a0:tSch) (a1:qd):Option ((Bool×Unit)×Unit):=D 100 (a0,(a1,()))
noncomputable def q5u (D:Den ctx) (a0:(tSch)×qe×Unit) (a1:qd):Option ((Int×Unit)×Unit):=D 101 (a0,(a1,()))
noncomputable def qmy (D:Den ctx) (a0:tSch) (a1:qd):Option ((qd×Unit)×Unit):=D 102 (a0,(a1,()))
noncomputable def qvz (D:Den ctx) (a0:qd) (a1:qd):Option ((Bool×Unit)×Unit):=D 104 (a0,(a1,()))
noncomputable def qn9 (D:Den ctx) (a0:qe):Option ((qe×Unit)×Unit):=D 105 (a0,())
noncomputable def qte (D:Den ctx) (a0:tSch):Option (((tSch)×Unit)×Unit):=D 107 (a0,())
noncomputable def q0u (D:Den ctx) (a0:tSch):Option (((tSch)×Unit)×Unit):=D 108 (a0,())
noncomputable def qw3 (D:Den ctx) (a0:tSch) (a1:qd) (a2:qd):Option ((Bool×Unit)×Unit):=D 111 (a0,(a1,(a2,())))
noncomputable def qqy (D:Den ctx) (a0:tSch):Option ((Bool×Unit)×Unit):=D 112 (a0,())
noncomputable def qgl (D:Den ctx) (a0:Int) (a1:Int) (a2:Int):Option ((Bool×Unit)×Unit):=D 117 (a0,(a1,(a2,())))
noncomputable def qn7 (D:Den ctx) (a0:qd) (a1:List Int):Option ((qd×Unit)×Unit):=D 119 (a0,(a1,()))
noncomputable def qyq (D:Den ctx) (a0:tSch) (a1:Int):Option ((Int×Unit)×Unit):=D 120 (a0,(a1,()))
noncomputable def qvw (D:Den ctx) (a0:qe) (a1:Int):Option ((Int×Unit)×Unit):=D 121 (a0,(a1,()))
noncomputable def qs6 (D:Den ctx) (a0:Int×Int×ByteArray×Unit) (a1:Int):Option ((Int×Unit)×Unit):=D 122 (a0,(a1,()))
noncomputable def qw8 (D:Den ctx) (a0:tSch):Option (((tSch)×Unit)×Unit):=D 123 (a0,())
noncomputable def qwf (D:Den ctx) (a0:qe):Option ((qe×Unit)×Unit):=D 124 (a0,())
noncomputable def qst (D:Den ctx) (a0:Int×Int×ByteArray×Unit):Option ((tVal×Unit)×Unit):=D 125 (a0,())
noncomputable def qxq (D:Den ctx) (a0:tSch) (a1:tSch):Option ((Bool×Unit)×Unit):=D 126 (a0,(a1,()))
noncomputable def qv9 (D:Den ctx) (a0:qe) (a1:qe):Option ((Bool×Unit)×Unit):=D 127 (a0,(a1,()))
noncomputable def qs4 (D:Den ctx) (a0:Int×Int×ByteArray×Unit) (a1:Int×Int×ByteArray×Unit):Option ((Bool×Unit)×Unit):=D 128 (a0,(a1,()))
noncomputable def quu (D:Den ctx) (a0:tSch) (a1:Int):Option ((Int×Unit)×(tSch)×Unit):=D 129 (a0,(a1,()))
noncomputable def qrt (D:Den ctx) (a0:qe) (a1:Int):Option ((Int×Unit)×qe×Unit):=D 130 (a0,(a1,()))
noncomputable def qe1 (D:Den ctx) (a0:Int):Option ((ByteArray×Unit)×Unit):=D 131 (a0,())
noncomputable def qn3 (D:Den ctx) (a0:tSch) (a1:Int):Option ((Int×Unit)×Unit):=D 132 (a0,(a1,()))
noncomputable def qly (D:Den ctx) (a0:qe) (a1:Int):Option ((Int×Unit)×Unit):=D 133 (a0,(a1,()))
noncomputable def qiw (D:Den ctx) (a0:List Int):Option ((List Int×Unit)×Unit):=D 138 (a0,())
noncomputable def qzu (D:Den ctx) (a0:Int×Int×ByteArray×Unit):Option ((Bool×Unit)×Unit):=D 139 (a0,())
noncomputable def qb8 (D:Den ctx) (a0:qd) (a1:qd) (a2:Clo):Option ((Int×Unit)×Unit):=D 140 (a0,(a1,(a2,())))
noncomputable def q1d (D:Den ctx) (a0:Int×Int×ByteArray×Unit) (a1:Int×Int×ByteArray×Unit):Option ((Int×Unit)×Unit):=D 141 (a0,(a1,()))
noncomputable def qcp (D:Den ctx) (a0:tIxs) (a1:Clo):Option ((Bool×Unit)×Unit):=D 142 (a0,(a1,()))
noncomputable def q7w (D:Den ctx) (a0:ByteArray×List Int×Bool×Unit) (a1:qd) (a2:qd):Option ((Bool×Unit)×Unit):=D 143 (a0,(a1,(a2,())))
noncomputable def qd1 (D:Den ctx) (a0:qd) (a1:Int×Int×ByteArray×Unit):Option ((Bool×Unit)×Unit):=D 144 (a0,(a1,()))
noncomputable def qda (D:Den ctx) (a0:qd) (a1:qd):Option ((Bool×Unit)×Unit):=D 145 (a0,(a1,()))
noncomputable def qpc (D:Den ctx) (a0:ByteArray):Option ((Bool×Unit)×Unit):=D 146 (a0,())
noncomputable def q5k (D:Den ctx) (a0:tSch) (a1:ByteArray):Option ((Int×Unit)×Unit):=D 147 (a0,(a1,()))
noncomputable def qqv (D:Den ctx) (a0:tSch) (a1:List Int) (a2:Int):Option ((Bool×Unit)×Unit):=D 148 (a0,(a1,(a2,())))
noncomputable def q36 (D:Den ctx) (a0:ByteArray×List Int×Bool×Unit) (a1:ByteArray×List Int×Bool×Unit):Option ((Bool×Unit)×Unit):=D 149 (a0,(a1,()))
noncomputable def qhj (D:Den ctx) (a0:List Int) (a1:Clo):Option ((Bool×Unit)×Unit):=D 150 (a0,(a1,()))
noncomputable def q3p (D:Den ctx) (a0:Int) (a1:tSch):Option ((Bool×Unit)×Unit):=D 151 (a0,(a1,()))
noncomputable def qtm (D:Den ctx) (a0:qe):Option ((qe×Unit)×Unit):=D 152 (a0,())
noncomputable def q7d (D:Den ctx) (a0:qd) (a1:(tSch)×qe×Unit) (a2:qd):Option ((Bool×Unit)×Unit):=D 153 (a0,(a1,(a2,())))
noncomputable def q0s (D:Den ctx) (a0:Int×Int×ByteArray×Unit):Option ((Bool×Unit)×Unit):=D 158 (a0,())
noncomputable def qs5 (D:Den ctx) (a0:qd) (a1:qd):Option ((Bool×Unit)×Unit):=D 159 (a0,(a1,()))
noncomputable def qoj (D:Den ctx) (a0:Int×Int×ByteArray×Unit) (a1:Int×Int×ByteArray×Unit):Option ((Bool×Unit)×Unit):=D 160 (a0,(a1,()))
noncomputable def qvv (D:Den ctx) (a0:Int×Int×ByteArray×Unit) (a1:Int×Int×ByteArray×Unit):Option ((Bool×Unit)×Unit):=D 161 (a0,(a1,()))
noncomputable def qfw (D:Den ctx) (a0:qj):Option ((qj×Unit)×Unit):=D 164 (a0,())
noncomputable def q0c (D:Den ctx) (a0:qd):Option ((Bool×Unit)×Unit):=D 165 (a0,())
noncomputable def qop (D:Den ctx) (a0:ByteArray):Option ((Bool×Unit)×Unit):=D 166 (a0,())
noncomputable def q57 (D:Den ctx) (a0:tSch) (a1:ByteArray):Option ((Int×Unit)×Unit):=D 167 (a0,(a1,()))
noncomputable def qoq (D:Den ctx) (a0:tSch) (a1:List Int) (a2:Int):Option ((Bool×Unit)×Unit):=D 168 (a0,(a1,(a2,())))
noncomputable def qty (D:Den ctx) (a0:tSch):Option ((Bool×Unit)×Unit):=D 169 (a0,())
noncomputable def q2g (D:Den ctx) (a0:qj) (a1:Int):Option ((Int×Unit)×Unit):=D 174 (a0,(a1,()))
noncomputable def qu3 (D:Den ctx) (a0:List Int) (a1:Int):Option ((Int×Unit)×Unit):=D 175 (a0,(a1,()))
noncomputable def qyl (D:Den ctx) (a0:tIxs) (a1:Int):Option ((Int×Unit)×Unit):=D 176 (a0,(a1,()))
noncomputable def q2t (D:Den ctx) (a0:qj):Option ((qj×Unit)×Unit):=D 177 (a0,())
noncomputable def qu4 (D:Den ctx) (a0:List Int):Option ((List Int×Unit)×Unit):=D 178 (a0,())
noncomputable def qyi (D:Den ctx) (a0:tIxs):Option ((tIxs×Unit)×Unit):=D 179 (a0,())
noncomputable def q2r (D:Den ctx) (a0:qj) (a1:qj):Option ((Bool×Unit)×Unit):=D 180 (a0,(a1,()))
noncomputable def qu7 (D:Den ctx) (a0:List Int) (a1:List Int):Option ((Bool×Unit)×Unit):=D 181 (a0,(a1,()))
noncomputable def qyj (D:Den ctx) (a0:tIxs) (a1:tIxs):Option ((Bool×Unit)×Unit):=D 182 (a0,(a1,()))
noncomputable def qyt (D:Den ctx) (a0:qj) (a1:Int):Option ((Int×Unit)×qj×Unit):=D 183 (a0,(a1,()))
noncomputable def qml (D:Den ctx) (a0:List Int) (a1:Int):Option ((Int×Unit)×List Int×Unit):=D 184 (a0,(a1,()))
noncomputable def qul (D:Den ctx) (a0:tIxs) (a1:Int):Option ((Int×Unit)×tIxs×Unit):=D 185 (a0,(a1,()))
noncomputable def qxs (D:Den ctx) (a0:qj) (a1:Int):Option ((Int×Unit)×Unit):=D 186 (a0,(a1,()))
noncomputable def qm0 (D:Den ctx) (a0:List Int) (a1:Int):Option ((Int×Unit)×Unit):=D 187 (a0,(a1,()))
noncomputable def que (D:Den ctx) (a0:tIxs) (a1:Int):Option ((Int×Unit)×Unit):=D 188 (a0,(a1,()))
noncomputable def qtb (D:Den ctx) (a0:qd) (a1:Int):Option ((Int×Unit)×Unit):=D 189 (a0,(a1,()))
noncomputable def qdt (D:Den ctx) (a0:tIxs) (a1:Clo):Option ((Int×Unit)×Unit):=D 193 (a0,(a1,()))
noncomputable def qet (D:Den ctx) (a0:qd) (a1:Int×Int×ByteArray×Unit):Option ((Int×Unit)×Unit):=D 194 (a0,(a1,()))
noncomputable def qeo (D:Den ctx) (a0:qj) (a1:Clo):Option ((Int×Unit)×Unit):=D 195 (a0,(a1,()))
noncomputable def q7p (D:Den ctx) (a0:ByteArray×Int×Bool×Unit) (a1:ByteArray):Option ((Bool×Unit)×Unit):=D 196 (a0,(a1,()))
noncomputable def qjv (D:Den ctx) (a0:List Int) (a1:Int):Option ((Bool×Unit)×Unit):=D 197 (a0,(a1,()))
noncomputable def qjp (D:Den ctx) (a0:List Int) (a1:Clo):Option ((Int×Unit)×Unit):=D 198 (a0,(a1,()))
noncomputable def qya (D:Den ctx) (a0:ByteArray×Int×Bool×Unit) (a1:Int):Option ((Int×Unit)×Unit):=D 201 (a0,(a1,()))
noncomputable def qs2 (D:Den ctx) (a0:ByteArray×List Int×Bool×Unit) (a1:Int):Option ((Int×Unit)×Unit):=D 202 (a0,(a1,()))
noncomputable def qxw (D:Den ctx) (a0:ByteArray×Int×Bool×Unit):Option ((tCol×Unit)×Unit):=D 203 (a0,())
noncomputable def qs7 (D:Den ctx) (a0:ByteArray×List Int×Bool×Unit):Option ((tIx×Unit)×Unit):=D 204 (a0,())
noncomputable def qyw (D:Den ctx) (a0:ByteArray×Int×Bool×Unit) (a1:ByteArray×Int×Bool×Unit):Option ((Bool×Unit)×Unit):=D 205 (a0,(a1,()))
noncomputable def qs8 (D:Den ctx) (a0:ByteArray×List Int×Bool×Unit) (a1:ByteArray×List Int×Bool×Unit):Option ((Bool×Unit)×Unit):=D 206 (a0,(a1,()))
noncomputable def qna (D:Den ctx) (a0:List Int) (a1:Int):Option ((Int×Unit)×Unit):=D 210 (a0,(a1,()))
noncomputable def qrc (D:Den ctx) (a0:qe) (a1:Int) (a2:qe):Option ((qe×Unit)×Unit):=D 88 (a0,(a1,(a2,())))
noncomputable def qu1 (D:Den ctx) (a0:List tWay) (a1:Int) (a2:List tWay):Option ((List tWay×Unit)×Unit):=D 93 (a0,(a1,(a2,())))
noncomputable def qiq (D:Den ctx) (a0:qe) (a1:Int) (a2:Int):Option ((qe×Unit)×Unit):=D 95 (a0,(a1,(a2,())))
noncomputable def q3b (D:Den ctx) (a0:ByteArray) (a1:ByteArray):Option ((Int×Unit)×Unit):=D 192 (a0,(a1,()))
end Go.G

namespace Go.G
set_option maxRecDepth 100000
set_option maxHeartbeats 0
open Go Go.V
noncomputable section
def qxm (D:DX)(n:Nat) (a0:(tSch)×qe×Unit) (a1:qd):Option ((Bool×Unit)×Unit):=qi (qt6 D a0 1048576) fun b↦br (decide (Prod.fst (Prod.fst b)<0)) (some ((true,()),())) (qi (ql5 D a1 (Prod.fst (Prod.fst b))) fun b↦br (decide (Prod.fst (Prod.fst b)<0)) (some ((true,()),())) (qi (qg6 D a0) fun b↦qi (qe2 D a1) fun b_1↦qi (q2j D (Prod.fst (Prod.fst b)) (Prod.fst (Prod.fst b_1))) fun b↦qi (qg6 D a0) fun b_2↦qi (qe2 D a1) fun b_3↦qi (qva D ((Prod.fst (Prod.fst (Prod.fst (Prod.fst b_2))),Prod.fst (Prod.snd (Prod.fst (Prod.fst (Prod.fst b_2)))),Prod.fst (Prod.snd (Prod.snd (Prod.fst (Prod.fst (Prod.fst b_2))))),()),Prod.fst (Prod.snd (Prod.fst (Prod.fst b_2))),()) (Prod.fst (Prod.fst b_3))) fun b_4↦qi (qgx D ((Prod.fst (Prod.fst (Prod.fst (Prod.fst b_4))),Prod.fst (Prod.snd (Prod.fst (Prod.fst (Prod.fst b_4)))),Prod.fst (Prod.snd (Prod.snd (Prod.fst (Prod.fst (Prod.fst b_4))))),()),Prod.fst (Prod.snd (Prod.fst (Prod.fst b_4))),()) (Prod.fst (Prod.fst (Prod.fst b)),Prod.fst (Prod.snd (Prod.fst (Prod.fst b))),())) fun b_5↦br (bif !Prod.fst (Prod.fst b_5) then true else Prod.fst (Prod.snd (Prod.fst b_4)) != Prod.fst (Prod.snd (Prod.fst b))) (some ((false,()),())) (qi (qg6 D a0) fun b_6↦qi (qgx D ((Prod.fst (Prod.fst (Prod.fst (Prod.fst b_2))),Prod.fst (Prod.snd (Prod.fst (Prod.fst (Prod.fst b_2)))),Prod.fst (Prod.snd (Prod.snd (Prod.fst (Prod.fst (Prod.fst b_2))))),()),Prod.fst (Prod.snd (Prod.fst (Prod.fst b_2))),()) ((Prod.fst (Prod.fst (Prod.fst (Prod.fst b_6))),Prod.fst (Prod.snd (Prod.fst (Prod.fst (Prod.fst b_6)))),Prod.fst (Prod.snd (Prod.snd (Prod.fst (Prod.fst (Prod.fst b_6))))),()),Prod.fst (Prod.snd (Prod.fst (Prod.fst b_6))),())) fun b_7↦br (!Prod.fst (Prod.fst b_7)) (some ((false,()),())) (qi (qe2 D a1) fun b_8↦qi (qm8 D (Prod.fst (Prod.fst b_3)) (Prod.fst (Prod.fst b_8))) fun b_9↦br (!Prod.fst (Prod.fst b_9)) (some ((false,()),())) (qi (qk9 D ((Prod.fst (Prod.fst (Prod.fst (Prod.fst b_2))),Prod.fst (Prod.snd (Prod.fst (Prod.fst (Prod.fst b_2)))),Prod.fst (Prod.snd (Prod.snd (Prod.fst (Prod.fst (Prod.fst b_2))))),()),Prod.fst (Prod.snd (Prod.fst (Prod.fst b_2))),()) 1) fun b_10↦qi (qn1 D (Prod.fst (Prod.fst b_3)) (Prod.fst (Prod.fst b_10))) fun b_11↦br (decide (Prod.fst (Prod.fst b_11)<0)) (some ((false,()),())) (qi (qgx D ((Prod.fst (Prod.fst (Prod.fst (Prod.fst b_4))),Prod.fst (Prod.snd (Prod.fst (Prod.fst (Prod.fst b_4)))),Prod.fst (Prod.snd (Prod.snd (Prod.fst (Prod.fst (Prod.fst b_4))))),()),Prod.fst (Prod.snd (Prod.fst (Prod.fst b_4))),()) (Prod.fst (Prod.fst (Prod.fst b)),Prod.fst (Prod.snd (Prod.fst (Prod.fst b))),())) fun b_12↦br (bif !Prod.fst (Prod.fst b_12) then true else Prod.fst (Prod.snd (Prod.fst b_4)) != Prod.fst (Prod.snd (Prod.fst b))) (some ((false,()),())) (qi (qk9 D ((Prod.fst (Prod.fst (Prod.fst (Prod.fst b_4))),Prod.fst (Prod.snd (Prod.fst (Prod.fst (Prod.fst b_4)))),Prod.fst (Prod.snd (Prod.snd (Prod.fst (Prod.fst (Prod.fst b_4))))),()),Prod.fst (Prod.snd (Prod.fst (Prod.fst b_4))),()) 1) fun b_13↦qi (qkz D ((Prod.fst (Prod.fst (Prod.fst (Prod.snd b_13))),Prod.fst (Prod.snd (Prod.fst (Prod.fst (Prod.snd b_13)))),Prod.fst (Prod.snd (Prod.snd (Prod.fst (Prod.fst (Prod.snd b_13))))),()),Prod.fst (Prod.snd (Prod.fst (Prod.snd b_13))),()) 1) fun b_14↦br (decide (Prod.fst (Prod.fst b_14)<0)) (some ((false,()),())) (br (Prod.fst (Prod.fst b_14) != Prod.fst (Prod.fst b_13)) (some ((false,()),())) (qi (qg6 D a0) fun b_15↦qi (qe2 D a1) fun b_16↦qi (qva D ((Prod.fst (Prod.fst (Prod.fst (Prod.fst b_15))),Prod.fst (Prod.snd (Prod.fst (Prod.fst (Prod.fst b_15)))),Prod.fst (Prod.snd (Prod.snd (Prod.fst (Prod.fst (Prod.fst b_15))))),()),Prod.fst (Prod.snd (Prod.fst (Prod.fst b_15))),()) (Prod.fst (Prod.fst b_16))) fun b_17↦qi (qgx D ((Prod.fst (Prod.fst (Prod.fst (Prod.fst b_17))),Prod.fst (Prod.snd (Prod.fst (Prod.fst (Prod.fst b_17)))),Prod.fst (Prod.snd (Prod.snd (Prod.fst (Prod.fst (Prod.fst b_17))))),()),Prod.fst (Prod.snd (Prod.fst (Prod.fst b_17))),()) (Prod.fst (Prod.fst (Prod.fst b)),Prod.fst (Prod.snd (Prod.fst (Prod.fst b))),())) fun b_18↦br (bif !Prod.fst (Prod.fst b_18) then true else Prod.fst (Prod.snd (Prod.fst b_17)) != Prod.fst (Prod.snd (Prod.fst b))) (some ((false,()),())) (qi (qkz D ((Prod.fst (Prod.fst (Prod.fst (Prod.snd b_13))),Prod.fst (Prod.snd (Prod.fst (Prod.fst (Prod.snd b_13)))),Prod.fst (Prod.snd (Prod.snd (Prod.fst (Prod.fst (Prod.snd b_13))))),()),Prod.fst (Prod.snd (Prod.fst (Prod.snd b_13))),()) 1) fun b↦br (decide (Prod.fst (Prod.fst b)<0)) (some ((false,()),())) (br (Prod.fst (Prod.fst b) != Prod.fst (Prod.fst b_13)) (some ((false,()),())) (some ((true,()),())))))))))))))
def qpf (D:DX)(n:Nat) (a0:(tSch)×qe×Unit) (a1:qd):Option ((Bool×Unit)×Unit):=qxm D n a0 a1
theorem q8u (D:DX)(n:Nat) (a0:(tSch)×
 qe×Unit) (a1:qd):rfC qc D n 7 (a0,(a1,()))=qpf D n a0 a1:=by kernel_rfl

def q27 (D:DX)(n:Nat) (go:qe→Int→Int→(tSch)×qe×Unit→Option ((Bool×Unit)×Unit)) (K0:Bool→(tSch)×qe×Unit→Option ((Bool×Unit)×Unit)) (K1:(tSch)×qe×Unit→Option ((Bool×Unit)×Unit)) (x0:qe) (x1:Int) (x2:Int) (x3:(tSch)×qe×Unit):Option ((Bool×Unit)×Unit):=br (decide (x2<x1)) (br (decide (0≤x2)&&decide (x2<(↑(List.length x0):Int))) (qi (q5v D (Prod.fst x3) (List.getD x0 (Int.toNat x2) [])) fun b↦br (!Prod.fst (Prod.fst b)) (K0 false x3) (br (decide (x2>0)) (br (decide (0≤IntKind.wrap IntKind.i64 (x2 - 1))&&decide (IntKind.wrap IntKind.i64 (x2 - 1)<(↑(List.length (Prod.fst (Prod.snd x3))):Int))) (qi (ql9 D (Prod.fst x3) (List.getD (Prod.fst (Prod.snd x3)) (Int.toNat (IntKind.wrap IntKind.i64 (x2 - 1))) [])) fun b↦qi (ql9 D (Prod.fst x3) (List.getD x0 (Int.toNat x2) [])) fun b_1↦qi (qvh D (Prod.fst (Prod.fst b)) (Prod.fst (Prod.fst b_1))) fun b↦br (!Prod.fst (Prod.fst b)) (K0 false x3) (br (decide (0≤0)&&decide (0≤x2)&&decide (x2≤(↑(List.length (Prod.fst (Prod.snd x3))):Int))) (qi (qb6 D (List.drop (Int.toNat 0) (List.take (Int.toNat x2) (Prod.fst (Prod.snd x3)))) (Clo.mk 80 [CapV.rptr (Ty.pair (Ty.pair (Ty.sl (Ty.pair Ty.str (Ty.pair (Ty.int IntKind.i64) (Ty.pair Ty.bool Ty.unit)))) (Ty.pair (Ty.sl (Ty.int IntKind.i64)) (Ty.pair (Ty.sl (Ty.pair Ty.str (Ty.pair (Ty.sl (Ty.int IntKind.i64)) (Ty.pair Ty.bool Ty.unit)))) Ty.unit))) (Ty.pair (Ty.sl (Ty.sl (Ty.pair (Ty.int IntKind.i64) (Ty.pair (Ty.int IntKind.i64) (Ty.pair Ty.str Ty.unit))))) Ty.unit)) x3,CapV.rptr (Ty.sl (Ty.pair (Ty.int IntKind.i64) (Ty.pair (Ty.int IntKind.i64) (Ty.pair Ty.str Ty.unit)))) (List.getD x0 (Int.toNat x2) [])])) fun b↦br (Prod.fst (Prod.fst b)) (K0 false x3) (go x0 x1 (IntKind.wrap IntKind.i64 (x2+1)) x3)) none)) none) (br (decide (0≤0)&&decide (0≤x2)&&decide (x2≤(↑(List.length (Prod.fst (Prod.snd x3))):Int))) (qi (qb6 D (List.drop (Int.toNat 0) (List.take (Int.toNat x2) (Prod.fst (Prod.snd x3)))) (Clo.mk 80 [CapV.rptr (Ty.pair (Ty.pair (Ty.sl (Ty.pair Ty.str (Ty.pair (Ty.int IntKind.i64) (Ty.pair Ty.bool Ty.unit)))) (Ty.pair (Ty.sl (Ty.int IntKind.i64)) (Ty.pair (Ty.sl (Ty.pair Ty.str (Ty.pair (Ty.sl (Ty.int IntKind.i64)) (Ty.pair Ty.bool Ty.unit)))) Ty.unit))) (Ty.pair (Ty.sl (Ty.sl (Ty.pair (Ty.int IntKind.i64) (Ty.pair (Ty.int IntKind.i64) (Ty.pair Ty.str Ty.unit))))) Ty.unit)) x3,CapV.rptr (Ty.sl (Ty.pair (Ty.int IntKind.i64) (Ty.pair (Ty.int IntKind.i64) (Ty.pair Ty.str Ty.unit)))) (List.getD x0 (Int.toNat x2) [])])) fun b↦br (Prod.fst (Prod.fst b)) (K0 false x3) (go x0 x1 (IntKind.wrap IntKind.i64 (x2+1)) x3)) none))) none) (K1 x3)
def qlq (D:DX)(n:Nat) (K0:Bool→(tSch)×qe×Unit→Option ((Bool×Unit)×Unit)) (K1:(tSch)×qe×Unit→Option ((Bool×Unit)×Unit)):Nat→(qe)→(Int)→(Int)→((tSch)×qe×Unit)→Option ((Bool×Unit)×Unit) | 0=>(fun x0 x1 x2 x3=>none) | m+1=>(fun x0 x1 x2 x3=>q27 D n (qlq D n K0 K1 m) K0 K1 x0 x1 x2 x3)
def q6k (D:DX)(n:Nat) (v0_0:Bool) (v0_1:(tSch)×qe×Unit):Option ((Bool×Unit)×Unit):=some ((v0_0,()),())
def qyb (D:DX)(n:Nat) (v1_0:(tSch)×qe×Unit):Option ((Bool×Unit)×Unit):=qi (qq9 D (Prod.fst v1_0)) fun b↦some ((bif Prod.fst (Prod.fst b) then decide ((↑(List.length (Prod.fst (Prod.snd v1_0))):Int)≤12) else false,()),())
def qzr (D:DX)(n:Nat):(qe)→(Int)→(Int)→((tSch)×qe×Unit)→Option ((Bool×Unit)×Unit):=(fun x0 x1 x2 x3=>qlq D n (fun v0_0 v0_1=>q6k D n v0_0 v0_1) (fun v1_0=>qyb D n v1_0) n x0 x1 x2 x3)
def q42 (D:DX)(n:Nat) (lp0:qe→Int→Int→(tSch)×qe×Unit→Option ((Bool×Unit)×Unit)) (a0:(tSch)×qe×Unit):Option ((Bool×Unit)×Unit):=lp0 (Prod.fst (Prod.snd a0)) (↑(List.length (Prod.fst (Prod.snd a0))):Int) 0 a0
def q51 (D:DX)(n:Nat) (a0:(tSch)×qe×Unit):Option ((Bool×Unit)×Unit):=q42 D n (qzr D n) a0
def qlo (x0:qe) (x1:Int) (x2:Int) (x3:(tSch)×qe×Unit):St:=stq 55 [(1,AV.addr 1 []),(6,AV.val (Ty.sl (Ty.sl yV)) x0),(7,avI x1),(8,avI x2)] [(1,Root.mk (Ty.pair yS (Ty.pair (Ty.sl (Ty.sl yV)) Ty.unit)) Mk.no x3 true)] 
def qqw (v0_0:Bool) (v0_1:(tSch)×qe×Unit):St:=stq 55 [(1,AV.addr 1 []),(2,AV.val Ty.bool v0_0)] [(1,Root.mk (Ty.pair yS (Ty.pair (Ty.sl (Ty.sl yV)) Ty.unit)) Mk.no v0_1 true)] 
def qq6 (v1_0:(tSch)×qe×Unit):St:=stq 55 [(1,AV.addr 1 [])] [(1,Root.mk (Ty.pair yS (Ty.pair (Ty.sl (Ty.sl yV)) Ty.unit)) Mk.no v1_0 true)] 
theorem qbmo (D:DX)(n:Nat) (m:Nat) (K:Ex→St→Option (Out ctx 17)) (x0:qe) (x1:Int) (x2:Int) (x3:(tSch)×
 qe×Unit) :
 LQ qc D n 17 [.r,.l,.r,.l] (m+1) (qlo x0 x1 x2 x3) K=q27 D n (fun x0 x1 x2 x3=>LQ qc D n 17 [.r,.l,.r,.l] m (qlo x0 x1 x2 x3) K) (fun v0_0 v0_1=>K (Ex.ret) (qqw v0_0 v0_1)) (fun v1_0=>K (Ex.exit 0) (qq6 v1_0)) x0 x1 x2 x3:=by kernel_rfl
theorem q7m (D:DX)(n:Nat) (K:Ex→St→Option (Out ctx 17)):∀ (m:Nat) (x0:qe) (x1:Int) (x2:Int) (x3:(tSch)×
 qe×Unit),LQ qc D n 17 [.r,.l,.r,.l] m (qlo x0 x1 x2 x3) K=qlq D n (fun v0_0 v0_1=>K (Ex.ret) (qqw v0_0 v0_1)) (fun v1_0=>K (Ex.exit 0) (qq6 v1_0)) m x0 x1 x2 x3
 | 0,x0,x1,x2,x3=>qx ..
 | m+1,x0,x1,x2,x3=>by
  have ih:(fun x0 x1 x2 x3=>LQ qc D n 17 [.r,.l,.r,.l] m (qlo x0 x1 x2 x3) K)=qlq D n (fun v0_0 v0_1=>K (Ex.ret) (qqw v0_0 v0_1)) (fun v1_0=>K (Ex.exit 0) (qq6 v1_0)) m:=by funext x0 x1 x2 x3;exact q7m D n K m x0 x1 x2 x3
  rw[qbmo]
  rw[ih];rfl
theorem qbjj (D:DX)(n:Nat) (v0_0:Bool) (v0_1:(tSch)×
 qe×Unit) :
 (CQ qc D n 17 [] [.r,.l,.r,.l] (qh qc 17)) (Ex.ret) (qqw v0_0 v0_1)=q6k D n v0_0 v0_1:=by kernel_rfl
theorem qbjz (D:DX)(n:Nat) (v1_0:(tSch)×
 qe×Unit) :
 (CQ qc D n 17 [] [.r,.l,.r,.l] (qh qc 17)) (Ex.exit 0) (qq6 v1_0)=qyb D n v1_0:=by kernel_rfl
theorem qbip (D:DX)(n:Nat) (x0:qe) (x1:Int) (x2:Int) (x3:(tSch)×
 qe×Unit) :
 LQ qc D n 17 [.r,.l,.r,.l] n (qlo x0 x1 x2 x3) (CQ qc D n 17 [] [.r,.l,.r,.l] (qh qc 17))=qzr D n x0 x1 x2 x3:=by
 rw[q7m]
 simp only[qbjj,qbjz]
 rfl
theorem qbpa (D:DX)(n:Nat) (a0:(tSch)×
 qe×Unit):rfC qc D n 17 (a0,())=q51 D n a0:=by
 have h:rfC qc D n 17 (a0,())=q42 D n (fun x0 x1 x2 x3=>LQ qc D n 17 [.r,.l,.r,.l] n (qlo x0 x1 x2 x3) (CQ qc D n 17 [] [.r,.l,.r,.l] (qh qc 17))) a0:=by kernel_rfl
 rw[h]
 simp only[qbip]
 rfl



def q6u (D:DX)(n:Nat) (a0:tSch) (a1:qd):Option ((qd×Unit)×Unit):=qi (qof D a1 (Prod.fst (Prod.snd a0))) fun b↦some ((Prod.fst (Prod.fst b),()),())
def qx3 (D:DX)(n:Nat) (a0:tSch) (a1:qd):Option ((qd×Unit)×Unit):=q6u D n a0 a1
theorem qbi1 (D:DX)(n:Nat) (a0:tSch) (a1:qd):rfC qc D n 23 (a0,(a1,()))=qx3 D n a0 a1:=by kernel_rfl

def q90 (D:DX)(n:Nat) (a0:(tSch)×qe×Unit) (a1:qd):Option ((((tSch)×qe×Unit)×Int×Unit)×Unit):=qi (qp8 D a0) fun b↦qi (q5a D ((Prod.fst (Prod.fst (Prod.fst (Prod.fst b))),Prod.fst (Prod.snd (Prod.fst (Prod.fst (Prod.fst b)))),Prod.fst (Prod.snd (Prod.snd (Prod.fst (Prod.fst (Prod.fst b))))),()),Prod.fst (Prod.snd (Prod.fst (Prod.fst b))),())) fun b_1↦br (!Prod.fst (Prod.fst b_1)) (some ((((Prod.fst (Prod.fst (Prod.fst (Prod.fst b))),Prod.fst (Prod.snd (Prod.fst (Prod.fst (Prod.fst b)))),Prod.fst (Prod.snd (Prod.snd (Prod.fst (Prod.fst (Prod.fst b))))),()),Prod.fst (Prod.snd (Prod.fst (Prod.fst b))),()),1,()),())) (qi (q56 D ((Prod.fst (Prod.fst (Prod.fst (Prod.fst b))),Prod.fst (Prod.snd (Prod.fst (Prod.fst (Prod.fst b)))),Prod.fst (Prod.snd (Prod.snd (Prod.fst (Prod.fst (Prod.fst b))))),()),Prod.fst (Prod.snd (Prod.fst (Prod.fst b))),()) a1) fun b_2↦br (decide (Prod.fst (Prod.fst b_2)<0)) (some ((((Prod.fst (Prod.fst (Prod.fst (Prod.fst b))),Prod.fst (Prod.snd (Prod.fst (Prod.fst (Prod.fst b)))),Prod.fst (Prod.snd (Prod.snd (Prod.fst (Prod.fst (Prod.fst b))))),()),Prod.fst (Prod.snd (Prod.fst (Prod.fst b))),()),4,()),())) (qi (qiq D (Prod.fst (Prod.snd (Prod.fst (Prod.fst b)))) (Prod.fst (Prod.fst b_2)) (IntKind.wrap IntKind.i64 (Prod.fst (Prod.fst b_2)+1))) fun b_3↦some ((((Prod.fst (Prod.fst (Prod.fst (Prod.fst b))),Prod.fst (Prod.snd (Prod.fst (Prod.fst (Prod.fst b)))),Prod.fst (Prod.snd (Prod.snd (Prod.fst (Prod.fst (Prod.fst b))))),()),Prod.fst (Prod.fst b_3),()),0,()),())))
def q22 (D:DX)(n:Nat) (a0:(tSch)×qe×Unit) (a1:qd):Option ((((tSch)×qe×Unit)×Int×Unit)×Unit):=q90 D n a0 a1
theorem qbnm (D:DX)(n:Nat) (a0:(tSch)×
 qe×Unit) (a1:qd):rfC qc D n 24 (a0,(a1,()))=q22 D n a0 a1:=by kernel_rfl



def q9z (D:DX)(n:Nat) (a0:(tSch)×qe×Unit) (a1:qd):Option ((((tSch)×qe×Unit)×Int×Unit)×Unit):=qi (q0i D a0) fun b↦qi (q5x D a0) fun b_1↦br (!Prod.fst (Prod.fst b_1)) (some ((((Prod.fst (Prod.fst (Prod.fst (Prod.fst b))),Prod.fst (Prod.snd (Prod.fst (Prod.fst (Prod.fst b)))),Prod.fst (Prod.snd (Prod.snd (Prod.fst (Prod.fst (Prod.fst b))))),()),Prod.fst (Prod.snd (Prod.fst (Prod.fst b))),()),1,()),())) (qi (q5u D a0 a1) fun b_2↦br (decide (Prod.fst (Prod.fst b_2)<0)) (some ((((Prod.fst (Prod.fst (Prod.fst (Prod.fst b))),Prod.fst (Prod.snd (Prod.fst (Prod.fst (Prod.fst b)))),Prod.fst (Prod.snd (Prod.snd (Prod.fst (Prod.fst (Prod.fst b))))),()),Prod.fst (Prod.snd (Prod.fst (Prod.fst b))),()),4,()),())) (br (decide (0≤0)&&decide (0≤Prod.fst (Prod.fst b_2))&&decide (Prod.fst (Prod.fst b_2)≤(↑(List.length (Prod.fst (Prod.snd a0))):Int))) (qi (qn9 D (List.drop (Int.toNat 0) (List.take (Int.toNat (Prod.fst (Prod.fst b_2))) (Prod.fst (Prod.snd a0))))) fun b_3↦br (decide (0≤IntKind.wrap IntKind.i64 (Prod.fst (Prod.fst b_2)+1))&&decide (IntKind.wrap IntKind.i64 (Prod.fst (Prod.fst b_2)+1)≤(↑(List.length (Prod.fst (Prod.snd a0))):Int))&&decide ((↑(List.length (Prod.fst (Prod.snd a0))):Int)≤(↑(List.length (Prod.fst (Prod.snd a0))):Int))) (qi (qn9 D (List.drop (Int.toNat (IntKind.wrap IntKind.i64 (Prod.fst (Prod.fst b_2)+1))) (List.take (Int.toNat (↑(List.length (Prod.fst (Prod.snd a0))):Int)) (Prod.fst (Prod.snd a0))))) fun b_4↦br (decide (List.length (Prod.fst (Prod.fst b_3))+List.length (Prod.fst (Prod.fst b_4))≤qbk)) (some ((((Prod.fst (Prod.fst (Prod.fst (Prod.fst b))),Prod.fst (Prod.snd (Prod.fst (Prod.fst (Prod.fst b)))),Prod.fst (Prod.snd (Prod.snd (Prod.fst (Prod.fst (Prod.fst b))))),()),Prod.fst (Prod.fst b_3)++Prod.fst (Prod.fst b_4),()),0,()),())) none) none) none))
def q2z (D:DX)(n:Nat) (a0:(tSch)×qe×Unit) (a1:qd):Option ((((tSch)×qe×Unit)×Int×Unit)×Unit):=q9z D n a0 a1
theorem qbnr (D:DX)(n:Nat) (a0:(tSch)×
 qe×Unit) (a1:qd):rfC qc D n 30 (a0,(a1,()))=q2z D n a0 a1:=by kernel_rfl





def q2c (D:DX)(n:Nat) (go:Int→Int→(tSch)×qe×Unit→Option ((Bool×Unit)×Unit)) (K0:Bool→Int→(tSch)×qe×Unit→Option ((Bool×Unit)×Unit)) (K1:Int→(tSch)×qe×Unit→Option ((Bool×Unit)×Unit)) (x1_0:Int) (x1_1:Int) (x1_2:(tSch)×qe×Unit):Option ((Bool×Unit)×Unit):=br (decide (x1_1<x1_0)) (br (decide (0≤x1_1)&&decide (x1_1<(↑(List.length (Prod.fst (Prod.snd x1_2))):Int))) (br (decide (0≤x1_0)&&decide (x1_0<(↑(List.length (Prod.fst (Prod.snd x1_2))):Int))) (qi (qw3 D (Prod.fst x1_2) (List.getD (Prod.fst (Prod.snd x1_2)) (Int.toNat x1_1) []) (List.getD (Prod.fst (Prod.snd x1_2)) (Int.toNat x1_0) [])) fun b↦br (Prod.fst (Prod.fst b)) (K0 false x1_0 x1_2) (go x1_0 (IntKind.wrap IntKind.i64 (x1_1+1)) x1_2)) none) none) (K1 x1_0 x1_2)
def qli (D:DX)(n:Nat) (K0:Bool→Int→(tSch)×qe×Unit→Option ((Bool×Unit)×Unit)) (K1:Int→(tSch)×qe×Unit→Option ((Bool×Unit)×Unit)):Nat→(Int)→(Int)→((tSch)×qe×Unit)→Option ((Bool×Unit)×Unit) | 0=>(fun x1_0 x1_1 x1_2=>none) | m+1=>(fun x1_0 x1_1 x1_2=>q2c D n (qli D n K0 K1 m) K0 K1 x1_0 x1_1 x1_2)
def qw5 (D:DX)(n:Nat) (go:Int→(tSch)×qe×Unit→Option ((Bool×Unit)×Unit)) (K0:Bool→(tSch)×qe×Unit→Option ((Bool×Unit)×Unit)) (K1:(tSch)×qe×Unit→Option ((Bool×Unit)×Unit)) (v0_0:Bool) (v0_1:Int) (v0_2:(tSch)×qe×Unit):Option ((Bool×Unit)×Unit):=K0 v0_0 v0_2
def qqq (D:DX)(n:Nat) (go:Int→(tSch)×qe×Unit→Option ((Bool×Unit)×Unit)) (K0:Bool→(tSch)×qe×Unit→Option ((Bool×Unit)×Unit)) (K1:(tSch)×qe×Unit→Option ((Bool×Unit)×Unit)) (v1_0:Int) (v1_1:(tSch)×qe×Unit):Option ((Bool×Unit)×Unit):=go (IntKind.wrap IntKind.i64 (v1_0+1)) v1_1
def q02 (D:DX)(n:Nat) (go:Int→(tSch)×qe×Unit→Option ((Bool×Unit)×Unit)) (K0:Bool→(tSch)×qe×Unit→Option ((Bool×Unit)×Unit)) (K1:(tSch)×qe×Unit→Option ((Bool×Unit)×Unit)):(Int)→(Int)→((tSch)×qe×Unit)→Option ((Bool×Unit)×Unit):=(fun x1_0 x1_1 x1_2=>qli D n (fun v0_0 v0_1 v0_2=>qw5 D n go K0 K1 v0_0 v0_1 v0_2) (fun v1_0 v1_1=>qqq D n go K0 K1 v1_0 v1_1) n x1_0 x1_1 x1_2)
def q2s (D:DX)(n:Nat) (go:Int→(tSch)×qe×Unit→Option ((Bool×Unit)×Unit)) (K0:Bool→(tSch)×qe×Unit→Option ((Bool×Unit)×Unit)) (K1:(tSch)×qe×Unit→Option ((Bool×Unit)×Unit)) (lp1:Int→Int→(tSch)×qe×Unit→Option ((Bool×Unit)×Unit)) (x0:Int) (x1:(tSch)×qe×Unit):Option ((Bool×Unit)×Unit):=br (decide (x0<(↑(List.length (Prod.fst (Prod.snd x1))):Int))) (br (decide (0≤x0)&&decide (x0<(↑(List.length (Prod.fst (Prod.snd x1))):Int))) (qi (q5i D (Prod.fst x1) (List.getD (Prod.fst (Prod.snd x1)) (Int.toNat x0) [])) fun b↦br (!Prod.fst (Prod.fst b)) (K0 false x1) (br (decide (x0>0)) (br (decide (0≤IntKind.wrap IntKind.i64 (x0 - 1))&&decide (IntKind.wrap IntKind.i64 (x0 - 1)<(↑(List.length (Prod.fst (Prod.snd x1))):Int))) (qi (qmy D (Prod.fst x1) (List.getD (Prod.fst (Prod.snd x1)) (Int.toNat (IntKind.wrap IntKind.i64 (x0 - 1))) [])) fun b↦br (decide (0≤x0)&&decide (x0<(↑(List.length (Prod.fst (Prod.snd x1))):Int))) (qi (qmy D (Prod.fst x1) (List.getD (Prod.fst (Prod.snd x1)) (Int.toNat x0) [])) fun b_1↦qi (qvz D (Prod.fst (Prod.fst b)) (Prod.fst (Prod.fst b_1))) fun b↦br (!Prod.fst (Prod.fst b)) (K0 false x1) (lp1 x0 0 x1)) none) none) (lp1 x0 0 x1))) none) (K1 x1)
def qew (D:DX)(n:Nat) (K0:Bool→(tSch)×qe×Unit→Option ((Bool×Unit)×Unit)) (K1:(tSch)×qe×Unit→Option ((Bool×Unit)×Unit)):Nat→(Int)→((tSch)×qe×Unit)→Option ((Bool×Unit)×Unit) | 0=>(fun x0 x1=>none) | m+1=>(fun x0 x1=>q2s D n (qew D n K0 K1 m) K0 K1 (q02 D n (qew D n K0 K1 m) K0 K1) x0 x1)
def qgr (D:DX)(n:Nat) (v0_0:Bool) (v0_1:(tSch)×qe×Unit):Option ((Bool×Unit)×Unit):=some ((v0_0,()),())
def qe0 (D:DX)(n:Nat) (v1_0:(tSch)×qe×Unit):Option ((Bool×Unit)×Unit):=qi (qqy D (Prod.fst v1_0)) fun b↦some ((bif Prod.fst (Prod.fst b) then decide ((↑(List.length (Prod.fst (Prod.snd v1_0))):Int)≤12) else false,()),())
def q0d (D:DX)(n:Nat):(Int)→((tSch)×qe×Unit)→Option ((Bool×Unit)×Unit):=(fun x0 x1=>qew D n (fun v0_0 v0_1=>qgr D n v0_0 v0_1) (fun v1_0=>qe0 D n v1_0) n x0 x1)
def q55 (D:DX)(n:Nat) (lp0:Int→(tSch)×qe×Unit→Option ((Bool×Unit)×Unit)) (a0:(tSch)×qe×Unit):Option ((Bool×Unit)×Unit):=lp0 0 a0
def q5f (D:DX)(n:Nat) (a0:(tSch)×qe×Unit):Option ((Bool×Unit)×Unit):=q55 D n (q0d D n) a0
def qfi (x0:Int) (x1:(tSch)×qe×Unit):St:=stq 73 [(1,AV.addr 1 []),(3,avI x0)] [(1,Root.mk (Ty.pair yS (Ty.pair (Ty.sl (Ty.sl yV)) Ty.unit)) Mk.no x1 true)] 
def qgo (v0_0:Bool) (v0_1:(tSch)×qe×Unit):St:=stq 73 [(1,AV.addr 1 []),(2,AV.val Ty.bool v0_0)] [(1,Root.mk (Ty.pair yS (Ty.pair (Ty.sl (Ty.sl yV)) Ty.unit)) Mk.no v0_1 true)] 
def qgt (v1_0:(tSch)×qe×Unit):St:=stq 73 [(1,AV.addr 1 [])] [(1,Root.mk (Ty.pair yS (Ty.pair (Ty.sl (Ty.sl yV)) Ty.unit)) Mk.no v1_0 true)] 
def qlc (x1_0:Int) (x1_1:Int) (x1_2:(tSch)×qe×Unit):St:=stq 73 [(1,AV.addr 1 []),(3,avI x1_0),(4,avI x1_1)] [(1,Root.mk (Ty.pair yS (Ty.pair (Ty.sl (Ty.sl yV)) Ty.unit)) Mk.no x1_2 true)] 
def qq7 (v0_0:Bool) (v0_1:Int) (v0_2:(tSch)×qe×Unit):St:=stq 73 [(1,AV.addr 1 []),(2,AV.val Ty.bool v0_0),(3,avI v0_1)] [(1,Root.mk (Ty.pair yS (Ty.pair (Ty.sl (Ty.sl yV)) Ty.unit)) Mk.no v0_2 true)] 
def qq4 (v1_0:Int) (v1_1:(tSch)×qe×Unit):St:=stq 73 [(1,AV.addr 1 []),(3,avI v1_0)] [(1,Root.mk (Ty.pair yS (Ty.pair (Ty.sl (Ty.sl yV)) Ty.unit)) Mk.no v1_1 true)] 
theorem qblm (D:DX)(n:Nat) (m:Nat) (K:Ex→St→Option (Out ctx 41)) (x1_0:Int) (x1_1:Int) (x1_2:(tSch)×
 qe×Unit) :
 LQ qc D n 41 [.r,.l,.r,.l,.l,.r,.l,.l,.r,.r,.l] (m+1) (qlc x1_0 x1_1 x1_2) K=q2c D n (fun x1_0 x1_1 x1_2=>LQ qc D n 41 [.r,.l,.r,.l,.l,.r,.l,.l,.r,.r,.l] m (qlc x1_0 x1_1 x1_2) K) (fun v0_0 v0_1 v0_2=>K (Ex.ret) (qq7 v0_0 v0_1 v0_2)) (fun v1_0 v1_1=>K (Ex.exit 2) (qq4 v1_0 v1_1)) x1_0 x1_1 x1_2:=by kernel_rfl
theorem q8d (D:DX)(n:Nat) (K:Ex→St→Option (Out ctx 41)):∀ (m:Nat) (x1_0:Int) (x1_1:Int) (x1_2:(tSch)×
 qe×Unit),LQ qc D n 41 [.r,.l,.r,.l,.l,.r,.l,.l,.r,.r,.l] m (qlc x1_0 x1_1 x1_2) K=qli D n (fun v0_0 v0_1 v0_2=>K (Ex.ret) (qq7 v0_0 v0_1 v0_2)) (fun v1_0 v1_1=>K (Ex.exit 2) (qq4 v1_0 v1_1)) m x1_0 x1_1 x1_2
 | 0,x1_0,x1_1,x1_2=>qx ..
 | m+1,x1_0,x1_1,x1_2=>by
  have ih:(fun x1_0 x1_1 x1_2=>LQ qc D n 41 [.r,.l,.r,.l,.l,.r,.l,.l,.r,.r,.l] m (qlc x1_0 x1_1 x1_2) K)=qli D n (fun v0_0 v0_1 v0_2=>K (Ex.ret) (qq7 v0_0 v0_1 v0_2)) (fun v1_0 v1_1=>K (Ex.exit 2) (qq4 v1_0 v1_1)) m:=by funext x1_0 x1_1 x1_2;exact q8d D n K m x1_0 x1_1 x1_2
  rw[qblm]
  rw[ih];rfl
theorem qbjw (D:DX)(n:Nat) (m:Nat) (K:Ex→St→Option (Out ctx 41)) (v0_0:Bool) (v0_1:Int) (v0_2:(tSch)×
 qe×Unit) :
 (CQ qc D n 41 [.r,.l,.r,.l,.l] [.r,.l,.l,.r,.r,.l] (LK qc D n 41 [.r,.l,.r,.l] m K)) (Ex.ret) (qq7 v0_0 v0_1 v0_2)=qw5 D n (fun x0 x1=>LQ qc D n 41 [.r,.l,.r,.l] m (qfi x0 x1) K) (fun v0_0 v0_1=>K (Ex.ret) (qgo v0_0 v0_1)) (fun v1_0=>K (Ex.exit 0) (qgt v1_0)) v0_0 v0_1 v0_2:=by kernel_rfl
theorem qbj2 (D:DX)(n:Nat) (m:Nat) (K:Ex→St→Option (Out ctx 41)) (v1_0:Int) (v1_1:(tSch)×
 qe×Unit) :
 (CQ qc D n 41 [.r,.l,.r,.l,.l] [.r,.l,.l,.r,.r,.l] (LK qc D n 41 [.r,.l,.r,.l] m K)) (Ex.exit 2) (qq4 v1_0 v1_1)=qqq D n (fun x0 x1=>LQ qc D n 41 [.r,.l,.r,.l] m (qfi x0 x1) K) (fun v0_0 v0_1=>K (Ex.ret) (qgo v0_0 v0_1)) (fun v1_0=>K (Ex.exit 0) (qgt v1_0)) v1_0 v1_1:=by kernel_rfl
theorem qbhu (D:DX)(n:Nat) (m:Nat) (K:Ex→St→Option (Out ctx 41)) (x1_0:Int) (x1_1:Int) (x1_2:(tSch)×
 qe×Unit) :
 LQ qc D n 41 [.r,.l,.r,.l,.l,.r,.l,.l,.r,.r,.l] n (qlc x1_0 x1_1 x1_2) (CQ qc D n 41 [.r,.l,.r,.l,.l] [.r,.l,.l,.r,.r,.l] (LK qc D n 41 [.r,.l,.r,.l] m K))=q02 D n (fun x0 x1=>LQ qc D n 41 [.r,.l,.r,.l] m (qfi x0 x1) K) (fun v0_0 v0_1=>K (Ex.ret) (qgo v0_0 v0_1)) (fun v1_0=>K (Ex.exit 0) (qgt v1_0)) x1_0 x1_1 x1_2:=by
 rw[q8d]
 simp only[qbjw,qbj2]
 rfl
theorem qbme (D:DX)(n:Nat) (m:Nat) (K:Ex→St→Option (Out ctx 41)) (x0:Int) (x1:(tSch)×
 qe×Unit) :
 LQ qc D n 41 [.r,.l,.r,.l] (m+1) (qfi x0 x1) K=q2s D n (fun x0 x1=>LQ qc D n 41 [.r,.l,.r,.l] m (qfi x0 x1) K) (fun v0_0 v0_1=>K (Ex.ret) (qgo v0_0 v0_1)) (fun v1_0=>K (Ex.exit 0) (qgt v1_0)) (fun x1_0 x1_1 x1_2=>LQ qc D n 41 [.r,.l,.r,.l,.l,.r,.l,.l,.r,.r,.l] n (qlc x1_0 x1_1 x1_2) (CQ qc D n 41 [.r,.l,.r,.l,.l] [.r,.l,.l,.r,.r,.l] (LK qc D n 41 [.r,.l,.r,.l] m K))) x0 x1:=by kernel_rfl
theorem q8a (D:DX)(n:Nat) (K:Ex→St→Option (Out ctx 41)):∀ (m:Nat) (x0:Int) (x1:(tSch)×
 qe×Unit),LQ qc D n 41 [.r,.l,.r,.l] m (qfi x0 x1) K=qew D n (fun v0_0 v0_1=>K (Ex.ret) (qgo v0_0 v0_1)) (fun v1_0=>K (Ex.exit 0) (qgt v1_0)) m x0 x1
 | 0,x0,x1=>qx ..
 | m+1,x0,x1=>by
  have ih:(fun x0 x1=>LQ qc D n 41 [.r,.l,.r,.l] m (qfi x0 x1) K)=qew D n (fun v0_0 v0_1=>K (Ex.ret) (qgo v0_0 v0_1)) (fun v1_0=>K (Ex.exit 0) (qgt v1_0)) m:=by funext x0 x1;exact q8a D n K m x0 x1
  rw[qbme]
  simp only[qbhu]
  rw[ih];rfl
theorem qbii (D:DX)(n:Nat) (v0_0:Bool) (v0_1:(tSch)×
 qe×Unit) :
 (CQ qc D n 41 [] [.r,.l,.r,.l] (qh qc 41)) (Ex.ret) (qgo v0_0 v0_1)=qgr D n v0_0 v0_1:=by kernel_rfl
theorem qbj0 (D:DX)(n:Nat) (v1_0:(tSch)×
 qe×Unit) :
 (CQ qc D n 41 [] [.r,.l,.r,.l] (qh qc 41)) (Ex.exit 0) (qgt v1_0)=qe0 D n v1_0:=by kernel_rfl
theorem qbki (D:DX)(n:Nat) (x0:Int) (x1:(tSch)×
 qe×Unit) :
 LQ qc D n 41 [.r,.l,.r,.l] n (qfi x0 x1) (CQ qc D n 41 [] [.r,.l,.r,.l] (qh qc 41))=q0d D n x0 x1:=by
 rw[q8a]
 simp only[qbii,qbj0]
 rfl
theorem qbp2 (D:DX)(n:Nat) (a0:(tSch)×
 qe×Unit):rfC qc D n 41 (a0,())=q5f D n a0:=by
 have h:rfC qc D n 41 (a0,())=q55 D n (fun x0 x1=>LQ qc D n 41 [.r,.l,.r,.l] n (qfi x0 x1) (CQ qc D n 41 [] [.r,.l,.r,.l] (qh qc 41))) a0:=by kernel_rfl
 rw[h]
 simp only[qbki]
 rfl

def q30 (D:DX)(n:Nat) (a0:(tSch)×qe×Unit) (a1:Int):Option ((Int×Unit)×Unit):=qi (qyq D (Prod.fst a0) a1) fun b↦br (decide (Prod.fst (Prod.fst b)<0)) (some ((-1,()),())) (qi (qvw D (Prod.fst (Prod.snd a0)) (Prod.fst (Prod.fst b))) fun b↦br (decide (Prod.fst (Prod.fst b)<0)) (some ((-1,()),())) (some ((Prod.fst (Prod.fst b),()),())))
def qtk (D:DX)(n:Nat) (a0:(tSch)×qe×Unit) (a1:Int):Option ((Int×Unit)×Unit):=q30 D n a0 a1
theorem qbef (D:DX)(n:Nat) (a0:(tSch)×
 qe×Unit) (a1:Int):rfC qc D n 53 (a0,(a1,()))=qtk D n a0 a1:=by kernel_rfl

def qvs (D:DX)(n:Nat) (go:qd→Int→Int→Option ((Int×Unit)×Unit)) (K0:Int→Int→Option ((Int×Unit)×Unit)) (K1:Int→Option ((Int×Unit)×Unit)) (x0:qd) (x1:Int) (x2:Int):Option ((Int×Unit)×Unit):=br (decide (x2<(↑(List.length x0):Int))) (br (decide (0≤x2)&&decide (x2<(↑(List.length x0):Int))) (qi (qs6 D (List.getD x0 (Int.toNat x2) (0,0,ByteArray.empty,())) x1) fun b↦br (decide (Prod.fst (Prod.fst b)<0)) (K0 (Prod.fst (Prod.fst b)) (-1)) (go x0 (Prod.fst (Prod.fst b)) (IntKind.wrap IntKind.i64 (x2+1)))) none) (K1 x1)
def qil (D:DX)(n:Nat) (K0:Int→Int→Option ((Int×Unit)×Unit)) (K1:Int→Option ((Int×Unit)×Unit)):Nat→(qd)→(Int)→(Int)→Option ((Int×Unit)×Unit) | 0=>(fun x0 x1 x2=>none) | m+1=>(fun x0 x1 x2=>qvs D n (qil D n K0 K1 m) K0 K1 x0 x1 x2)
def qrj (D:DX)(n:Nat) (v0_0:Int) (v0_1:Int):Option ((Int×Unit)×Unit):=some ((v0_1,()),())
def qr0 (D:DX)(n:Nat) (v1_0:Int):Option ((Int×Unit)×Unit):=some ((v1_0,()),())
def qtc (D:DX)(n:Nat):(qd)→(Int)→(Int)→Option ((Int×Unit)×Unit):=(fun x0 x1 x2=>qil D n (fun v0_0 v0_1=>qrj D n v0_0 v0_1) (fun v1_0=>qr0 D n v1_0) n x0 x1 x2)
def qwz (D:DX)(n:Nat) (lp0:qd→Int→Int→Option ((Int×Unit)×Unit)) (a0:qd) (a1:Int):Option ((Int×Unit)×Unit):=br (decide (IntKind.wrap IntKind.i64 (a1 - (↑(List.length a0):Int))<0)) (some ((-1,()),())) (lp0 a0 (IntKind.wrap IntKind.i64 (a1 - (↑(List.length a0):Int))) 0)
def qw0 (D:DX)(n:Nat) (a0:qd) (a1:Int):Option ((Int×Unit)×Unit):=qwz D n (qtc D n) a0 a1
def qhy (x0:qd) (x1:Int) (x2:Int):St:=stq 27 [(0,AV.val (Ty.sl yV) x0),(1,avI x1),(5,avI x2)] [] 
def ql0 (v0_0:Int) (v0_1:Int):St:=stq 27 [(1,avI v0_0),(4,avI v0_1)] [] 
def ql7 (v1_0:Int):St:=stq 27 [(1,avI v1_0)] [] 
theorem qbec (D:DX)(n:Nat) (m:Nat) (K:Ex→St→Option (Out ctx 54)) (x0:qd) (x1:Int) (x2:Int) :
 LQ qc D n 54 [.r,.r,.r,.l,.r,.l] (m+1) (qhy x0 x1 x2) K=qvs D n (fun x0 x1 x2=>LQ qc D n 54 [.r,.r,.r,.l,.r,.l] m (qhy x0 x1 x2) K) (fun v0_0 v0_1=>K (Ex.ret) (ql0 v0_0 v0_1)) (fun v1_0=>K (Ex.exit 0) (ql7 v1_0)) x0 x1 x2:=by kernel_rfl
theorem q3r (D:DX)(n:Nat) (K:Ex→St→Option (Out ctx 54)):∀ (m:Nat) (x0:qd) (x1:Int) (x2:Int),LQ qc D n 54 [.r,.r,.r,.l,.r,.l] m (qhy x0 x1 x2) K=qil D n (fun v0_0 v0_1=>K (Ex.ret) (ql0 v0_0 v0_1)) (fun v1_0=>K (Ex.exit 0) (ql7 v1_0)) m x0 x1 x2
 | 0,x0,x1,x2=>qx ..
 | m+1,x0,x1,x2=>by
  have ih:(fun x0 x1 x2=>LQ qc D n 54 [.r,.r,.r,.l,.r,.l] m (qhy x0 x1 x2) K)=qil D n (fun v0_0 v0_1=>K (Ex.ret) (ql0 v0_0 v0_1)) (fun v1_0=>K (Ex.exit 0) (ql7 v1_0)) m:=by funext x0 x1 x2;exact q3r D n K m x0 x1 x2
  rw[qbec]
  rw[ih];rfl
theorem qbce (D:DX)(n:Nat) (v0_0:Int) (v0_1:Int) :
 (CQ qc D n 54 [] [.r,.r,.r,.l,.r,.l] (qh qc 54)) (Ex.ret) (ql0 v0_0 v0_1)=qrj D n v0_0 v0_1:=by kernel_rfl
theorem qba6 (D:DX)(n:Nat) (v1_0:Int) :
 (CQ qc D n 54 [] [.r,.r,.r,.l,.r,.l] (qh qc 54)) (Ex.exit 0) (ql7 v1_0)=qr0 D n v1_0:=by kernel_rfl
theorem qbcb (D:DX)(n:Nat) (x0:qd) (x1:Int) (x2:Int) :
 LQ qc D n 54 [.r,.r,.r,.l,.r,.l] n (qhy x0 x1 x2) (CQ qc D n 54 [] [.r,.r,.r,.l,.r,.l] (qh qc 54))=qtc D n x0 x1 x2:=by
 rw[q3r]
 simp only[qbce,qba6]
 rfl
theorem qbiu (D:DX)(n:Nat) (a0:qd) (a1:Int):rfC qc D n 54 (a0,(a1,()))=qw0 D n a0 a1:=by
 have h:rfC qc D n 54 (a0,(a1,()))=qwz D n (fun x0 x1 x2=>LQ qc D n 54 [.r,.r,.r,.l,.r,.l] n (qhy x0 x1 x2) (CQ qc D n 54 [] [.r,.r,.r,.l,.r,.l] (qh qc 54))) a0 a1:=by kernel_rfl
 rw[h]
 simp only[qbcb]
 rfl

def q3h (D:DX)(n:Nat) (a0:(tSch)×qe×Unit):Option ((((tSch)×qe×Unit)×Unit)×Unit):=qi (qw8 D (Prod.fst a0)) fun b↦qi (qwf D (Prod.fst (Prod.snd a0))) fun b_1↦some ((((Prod.fst (Prod.fst (Prod.fst b)),Prod.fst (Prod.snd (Prod.fst (Prod.fst b))),Prod.fst (Prod.snd (Prod.snd (Prod.fst (Prod.fst b)))),()),Prod.fst (Prod.fst b_1),()),()),())
def qtw (D:DX)(n:Nat) (a0:(tSch)×qe×Unit):Option ((((tSch)×qe×Unit)×Unit)×Unit):=q3h D n a0
theorem qbel (D:DX)(n:Nat) (a0:(tSch)×
 qe×Unit):rfC qc D n 55 (a0,())=qtw D n a0:=by kernel_rfl

def qv2 (D:DX)(n:Nat) (go:qd→Int→qd→Option ((qd×Unit)×Unit)) (K0:qd→Option ((qd×Unit)×Unit)) (x0:qd) (x1:Int) (x2:qd):Option ((qd×Unit)×Unit):=br (decide (x1<(↑(List.length x0):Int))) (br (decide (0≤x1)&&decide (x1<(↑(List.length x0):Int))) (qi (qst D (List.getD x0 (Int.toNat x1) (0,0,ByteArray.empty,()))) fun b↦br (decide (0≤x1)&&decide (x1<(↑(List.length x2):Int))) (go x0 (IntKind.wrap IntKind.i64 (x1+1)) (List.set x2 (Int.toNat x1) (Prod.fst (Prod.fst b)))) none) none) (K0 x2)
def qh6 (D:DX)(n:Nat) (K0:qd→Option ((qd×Unit)×Unit)):Nat→(qd)→(Int)→(qd)→Option ((qd×Unit)×Unit) | 0=>(fun x0 x1 x2=>none) | m+1=>(fun x0 x1 x2=>qv2 D n (qh6 D n K0 m) K0 x0 x1 x2)
def qmh (D:DX)(n:Nat) (v0_0:qd):Option ((qd×Unit)×Unit):=some ((v0_0,()),())
def qt0 (D:DX)(n:Nat):(qd)→(Int)→(qd)→Option ((qd×Unit)×Unit):=(fun x0 x1 x2=>qh6 D n (fun v0_0=>qmh D n v0_0) n x0 x1 x2)
def qw2 (D:DX)(n:Nat) (lp0:qd→Int→qd→Option ((qd×Unit)×Unit)) (a0:qd):Option ((qd×Unit)×Unit):=br (decide (0≤(↑(List.length a0):Int))&&decide ((↑(List.length a0):Int)≤(↑(List.length a0):Int))&&decide ((↑(List.length a0):Int)≤(↑qbk:Int))) (lp0 a0 0 (List.replicate (Int.toNat (↑(List.length a0):Int)) (0,0,ByteArray.empty,()))) none
def qxd (D:DX)(n:Nat) (a0:qd):Option ((qd×Unit)×Unit):=qw2 D n (qt0 D n) a0
def qip (x0:qd) (x1:Int) (x2:qd):St:=stq 23 [(0,AV.val (Ty.sl yV) x0),(3,AV.brw 3 [] 0),(4,avI x1)] [(3,Root.mk (Ty.sl yV) (Mk.own 0 (Mk.pr Mk.no (Mk.pr Mk.no (Mk.pr Mk.no Mk.no)))) x2 false)] 
def ql2 (v0_0:qd):St:=stq 23 [(3,AV.brw 3 [] 0)] [(3,Root.mk (Ty.sl yV) (Mk.own 0 (Mk.pr Mk.no (Mk.pr Mk.no (Mk.pr Mk.no Mk.no)))) v0_0 false)] 
theorem qbe6 (D:DX)(n:Nat) (m:Nat) (K:Ex→St→Option (Out ctx 56)) (x0:qd) (x1:Int) (x2:qd) :
 LQ qc D n 56 [.r,.r,.l,.r,.l] (m+1) (qip x0 x1 x2) K=qv2 D n (fun x0 x1 x2=>LQ qc D n 56 [.r,.r,.l,.r,.l] m (qip x0 x1 x2) K) (fun v0_0=>K (Ex.exit 0) (ql2 v0_0)) x0 x1 x2:=by kernel_rfl
theorem q3u (D:DX)(n:Nat) (K:Ex→St→Option (Out ctx 56)):∀ (m:Nat) (x0:qd) (x1:Int) (x2:qd),LQ qc D n 56 [.r,.r,.l,.r,.l] m (qip x0 x1 x2) K=qh6 D n (fun v0_0=>K (Ex.exit 0) (ql2 v0_0)) m x0 x1 x2
 | 0,x0,x1,x2=>qx ..
 | m+1,x0,x1,x2=>by
  have ih:(fun x0 x1 x2=>LQ qc D n 56 [.r,.r,.l,.r,.l] m (qip x0 x1 x2) K)=qh6 D n (fun v0_0=>K (Ex.exit 0) (ql2 v0_0)) m:=by funext x0 x1 x2;exact q3u D n K m x0 x1 x2
  rw[qbe6]
  rw[ih];rfl
theorem qbb6 (D:DX)(n:Nat) (v0_0:qd) :
 (CQ qc D n 56 [] [.r,.r,.l,.r,.l] (qh qc 56)) (Ex.exit 0) (ql2 v0_0)=qmh D n v0_0:=by kernel_rfl
theorem qbbq (D:DX)(n:Nat) (x0:qd) (x1:Int) (x2:qd) :
 LQ qc D n 56 [.r,.r,.l,.r,.l] n (qip x0 x1 x2) (CQ qc D n 56 [] [.r,.r,.l,.r,.l] (qh qc 56))=qt0 D n x0 x1 x2:=by
 rw[q3u]
 simp only[qbb6]
 rfl
theorem qbj1 (D:DX)(n:Nat) (a0:qd):rfC qc D n 56 (a0,())=qxd D n a0:=by
 have h:rfC qc D n 56 (a0,())=qw2 D n (fun x0 x1 x2=>LQ qc D n 56 [.r,.r,.l,.r,.l] n (qip x0 x1 x2) (CQ qc D n 56 [] [.r,.r,.l,.r,.l] (qh qc 56))) a0:=by kernel_rfl
 rw[h]
 simp only[qbbq]
 rfl

def q3l (D:DX)(n:Nat) (a0:(tSch)×qe×Unit) (a1:(tSch)×qe×Unit):Option ((Bool×Unit)×Unit):=qi (qxq D (Prod.fst a0) (Prod.fst a1)) fun b↦br (!Prod.fst (Prod.fst b)) (some ((false,()),())) (qi (qv9 D (Prod.fst (Prod.snd a0)) (Prod.fst (Prod.snd a1))) fun b↦br (!Prod.fst (Prod.fst b)) (some ((false,()),())) (some ((true,()),())))
def qtn (D:DX)(n:Nat) (a0:(tSch)×qe×Unit) (a1:(tSch)×qe×Unit):Option ((Bool×Unit)×Unit):=q3l D n a0 a1
theorem qbe9 (D:DX)(n:Nat) (a0:(tSch)×
 qe×Unit) (a1:(tSch)×
 qe×Unit):rfC qc D n 57 (a0,(a1,()))=qtn D n a0 a1:=by kernel_rfl

def qvl (D:DX)(n:Nat) (go:qd→qd→Int→Option ((Bool×Unit)×Unit)) (K0:Bool→Option ((Bool×Unit)×Unit)) (K1:Option ((Bool×Unit)×Unit)) (x0:qd) (x1:qd) (x2:Int):Option ((Bool×Unit)×Unit):=br (decide (x2<(↑(List.length x0):Int))) (br (decide (0≤x2)&&decide (x2<(↑(List.length x0):Int))) (br (decide (0≤x2)&&decide (x2<(↑(List.length x1):Int))) (qi (qs4 D (List.getD x0 (Int.toNat x2) (0,0,ByteArray.empty,())) (List.getD x1 (Int.toNat x2) (0,0,ByteArray.empty,()))) fun b↦br (!Prod.fst (Prod.fst b)) (K0 false) (go x0 x1 (IntKind.wrap IntKind.i64 (x2+1)))) none) none) K1
def qh1 (D:DX)(n:Nat) (K0:Bool→Option ((Bool×Unit)×Unit)) (K1:Option ((Bool×Unit)×Unit)):Nat→(qd)→(qd)→(Int)→Option ((Bool×Unit)×Unit) | 0=>(fun x0 x1 x2=>none) | m+1=>(fun x0 x1 x2=>qvl D n (qh1 D n K0 K1 m) K0 K1 x0 x1 x2)
def qlu (D:DX)(n:Nat) (v0_0:Bool):Option ((Bool×Unit)×Unit):=some ((v0_0,()),())
def qmq (D:DX)(n:Nat):Option ((Bool×Unit)×Unit):=some ((true,()),())
def qtx (D:DX)(n:Nat):(qd)→(qd)→(Int)→Option ((Bool×Unit)×Unit):=(fun x0 x1 x2=>qh1 D n (fun v0_0=>qlu D n v0_0) (qmq D n) n x0 x1 x2)
def qw1 (D:DX)(n:Nat) (lp0:qd→qd→Int→Option ((Bool×Unit)×Unit)) (a0:qd) (a1:qd):Option ((Bool×Unit)×Unit):=br ((↑(List.length a0):Int) != (↑(List.length a1):Int)) (some ((false,()),())) (lp0 a0 a1 0)
def qxx (D:DX)(n:Nat) (a0:qd) (a1:qd):Option ((Bool×Unit)×Unit):=qw1 D n (qtx D n) a0 a1
def qik (x0:qd) (x1:qd) (x2:Int):St:=stq 27 [(0,AV.val (Ty.sl yV) x0),(1,AV.val (Ty.sl yV) x1),(5,avI x2)] [] 
def qlx (v0_0:Bool):St:=stq 27 [(4,AV.val Ty.bool v0_0)] [] 
def qmz:St:=stq 27 [] [] 
theorem qbea (D:DX)(n:Nat) (m:Nat) (K:Ex→St→Option (Out ctx 58)) (x0:qd) (x1:qd) (x2:Int) :
 LQ qc D n 58 [.r,.r,.l,.r,.l] (m+1) (qik x0 x1 x2) K=qvl D n (fun x0 x1 x2=>LQ qc D n 58 [.r,.r,.l,.r,.l] m (qik x0 x1 x2) K) (fun v0_0=>K (Ex.ret) (qlx v0_0)) (K (Ex.exit 0) (qmz)) x0 x1 x2:=by kernel_rfl
theorem q3i (D:DX)(n:Nat) (K:Ex→St→Option (Out ctx 58)):∀ (m:Nat) (x0:qd) (x1:qd) (x2:Int),LQ qc D n 58 [.r,.r,.l,.r,.l] m (qik x0 x1 x2) K=qh1 D n (fun v0_0=>K (Ex.ret) (qlx v0_0)) (K (Ex.exit 0) (qmz)) m x0 x1 x2
 | 0,x0,x1,x2=>qx ..
 | m+1,x0,x1,x2=>by
  have ih:(fun x0 x1 x2=>LQ qc D n 58 [.r,.r,.l,.r,.l] m (qik x0 x1 x2) K)=qh1 D n (fun v0_0=>K (Ex.ret) (qlx v0_0)) (K (Ex.exit 0) (qmz)) m:=by funext x0 x1 x2;exact q3i D n K m x0 x1 x2
  rw[qbea]
  rw[ih];rfl
theorem qbc9 (D:DX)(n:Nat) (v0_0:Bool) :
 (CQ qc D n 58 [] [.r,.r,.l,.r,.l] (qh qc 58)) (Ex.ret) (qlx v0_0)=qlu D n v0_0:=by kernel_rfl
theorem qbdf (D:DX)(n:Nat) :
 (CQ qc D n 58 [] [.r,.r,.l,.r,.l] (qh qc 58)) (Ex.exit 0) (qmz)=qmq D n:=by kernel_rfl
theorem qbb9 (D:DX)(n:Nat) (x0:qd) (x1:qd) (x2:Int) :
 LQ qc D n 58 [.r,.r,.l,.r,.l] n (qik x0 x1 x2) (CQ qc D n 58 [] [.r,.r,.l,.r,.l] (qh qc 58))=qtx D n x0 x1 x2:=by
 rw[q3i]
 simp only[qbc9,qbdf]
 rfl
theorem qbjv (D:DX)(n:Nat) (a0:qd) (a1:qd):rfC qc D n 58 (a0,(a1,()))=qxx D n a0 a1:=by
 have h:rfC qc D n 58 (a0,(a1,()))=qw1 D n (fun x0 x1 x2=>LQ qc D n 58 [.r,.r,.l,.r,.l] n (qik x0 x1 x2) (CQ qc D n 58 [] [.r,.r,.l,.r,.l] (qh qc 58))) a0 a1:=by kernel_rfl
 rw[h]
 simp only[qbb9]
 rfl

def qzh (D:DX)(n:Nat) (a0:(tSch)×qe×Unit) (a1:Int):Option ((Int×Unit)×((tSch)×qe×Unit)×Unit):=qi (quu D (Prod.fst (Prod.fst a0),Prod.fst (Prod.snd (Prod.fst a0)),Prod.fst (Prod.snd (Prod.snd (Prod.fst a0))),()) a1) fun b↦qi (qrt D (Prod.fst (Prod.snd a0)) (Prod.fst (Prod.fst b))) fun b_1↦some ((Prod.fst (Prod.fst b_1),()),((Prod.fst (Prod.fst (Prod.snd b)),Prod.fst (Prod.snd (Prod.fst (Prod.snd b))),Prod.fst (Prod.snd (Prod.snd (Prod.fst (Prod.snd b)))),()),Prod.fst (Prod.snd b_1),()),())
def qp6 (D:DX)(n:Nat) (a0:(tSch)×qe×Unit) (a1:Int):Option ((Int×Unit)×((tSch)×qe×Unit)×Unit):=qzh D n a0 a1
theorem qbam (D:DX)(n:Nat) (a0:(tSch)×
 qe×Unit) (a1:Int):rfC qc D n 59 (a0,(a1,()))=qp6 D n a0 a1:=by kernel_rfl

def qsa (D:DX)(n:Nat) (go:Int→Int→qd→Option ((Int×Unit)×qd×Unit)) (K0:Int→qd→Option ((Int×Unit)×qd×Unit)) (x0:Int) (x1:Int) (x2:qd):Option ((Int×Unit)×qd×Unit):=br (decide (x1<(↑(List.length x2):Int))) (br (decide (0≤x1)&&decide (x1<(↑(List.length x2):Int))) (br (decide (0≤x1)&&decide (x1<(↑(List.length (List.set x2 (Int.toNat x1) (x0,Prod.snd (List.getD x2 (Int.toNat x1) (0,0,ByteArray.empty,()))))):Int))) (qi (qe1 D (IntKind.wrap IntKind.i64 (IntKind.wrap IntKind.i64 (x0+1)+1))) fun b↦br (decide (0≤x1)&&decide (x1<(↑(List.length (List.set (List.set x2 (Int.toNat x1) (x0,Prod.snd (List.getD x2 (Int.toNat x1) (0,0,ByteArray.empty,())))) (Int.toNat x1) (Prod.fst (List.getD (List.set x2 (Int.toNat x1) (x0,Prod.snd (List.getD x2 (Int.toNat x1) (0,0,ByteArray.empty,())))) (Int.toNat x1) (0,0,ByteArray.empty,())),IntKind.wrap IntKind.i64 (x0+1),Prod.snd (Prod.snd (List.getD (List.set x2 (Int.toNat x1) (x0,Prod.snd (List.getD x2 (Int.toNat x1) (0,0,ByteArray.empty,())))) (Int.toNat x1) (0,0,ByteArray.empty,())))))):Int))) (go (IntKind.wrap IntKind.i64 (IntKind.wrap IntKind.i64 (IntKind.wrap IntKind.i64 (x0+1)+1)+1)) (IntKind.wrap IntKind.i64 (x1+1)) (List.set (List.set (List.set x2 (Int.toNat x1) (x0,Prod.snd (List.getD x2 (Int.toNat x1) (0,0,ByteArray.empty,())))) (Int.toNat x1) (Prod.fst (List.getD (List.set x2 (Int.toNat x1) (x0,Prod.snd (List.getD x2 (Int.toNat x1) (0,0,ByteArray.empty,())))) (Int.toNat x1) (0,0,ByteArray.empty,())),IntKind.wrap IntKind.i64 (x0+1),Prod.snd (Prod.snd (List.getD (List.set x2 (Int.toNat x1) (x0,Prod.snd (List.getD x2 (Int.toNat x1) (0,0,ByteArray.empty,())))) (Int.toNat x1) (0,0,ByteArray.empty,()))))) (Int.toNat x1) (Prod.fst (List.getD (List.set (List.set x2 (Int.toNat x1) (x0,Prod.snd (List.getD x2 (Int.toNat x1) (0,0,ByteArray.empty,())))) (Int.toNat x1) (Prod.fst (List.getD (List.set x2 (Int.toNat x1) (x0,Prod.snd (List.getD x2 (Int.toNat x1) (0,0,ByteArray.empty,())))) (Int.toNat x1) (0,0,ByteArray.empty,())),IntKind.wrap IntKind.i64 (x0+1),Prod.snd (Prod.snd (List.getD (List.set x2 (Int.toNat x1) (x0,Prod.snd (List.getD x2 (Int.toNat x1) (0,0,ByteArray.empty,())))) (Int.toNat x1) (0,0,ByteArray.empty,()))))) (Int.toNat x1) (0,0,ByteArray.empty,())),Prod.fst (Prod.snd (List.getD (List.set (List.set x2 (Int.toNat x1) (x0,Prod.snd (List.getD x2 (Int.toNat x1) (0,0,ByteArray.empty,())))) (Int.toNat x1) (Prod.fst (List.getD (List.set x2 (Int.toNat x1) (x0,Prod.snd (List.getD x2 (Int.toNat x1) (0,0,ByteArray.empty,())))) (Int.toNat x1) (0,0,ByteArray.empty,())),IntKind.wrap IntKind.i64 (x0+1),Prod.snd (Prod.snd (List.getD (List.set x2 (Int.toNat x1) (x0,Prod.snd (List.getD x2 (Int.toNat x1) (0,0,ByteArray.empty,())))) (Int.toNat x1) (0,0,ByteArray.empty,()))))) (Int.toNat x1) (0,0,ByteArray.empty,()))),Prod.fst (Prod.fst b),Prod.snd (Prod.snd (Prod.snd (List.getD (List.set (List.set x2 (Int.toNat x1) (x0,Prod.snd (List.getD x2 (Int.toNat x1) (0,0,ByteArray.empty,())))) (Int.toNat x1) (Prod.fst (List.getD (List.set x2 (Int.toNat x1) (x0,Prod.snd (List.getD x2 (Int.toNat x1) (0,0,ByteArray.empty,())))) (Int.toNat x1) (0,0,ByteArray.empty,())),IntKind.wrap IntKind.i64 (x0+1),Prod.snd (Prod.snd (List.getD (List.set x2 (Int.toNat x1) (x0,Prod.snd (List.getD x2 (Int.toNat x1) (0,0,ByteArray.empty,())))) (Int.toNat x1) (0,0,ByteArray.empty,()))))) (Int.toNat x1) (0,0,ByteArray.empty,()))))))) none) none) none) (K0 x0 x2)
def qgg (D:DX)(n:Nat) (K0:Int→qd→Option ((Int×Unit)×qd×Unit)):Nat→(Int)→(Int)→(qd)→Option ((Int×Unit)×qd×Unit) | 0=>(fun x0 x1 x2=>none) | m+1=>(fun x0 x1 x2=>qsa D n (qgg D n K0 m) K0 x0 x1 x2)
def qjt (D:DX)(n:Nat) (v0_0:Int) (v0_1:qd):Option ((Int×Unit)×qd×Unit):=some ((v0_0,()),v0_1,())
def qqi (D:DX)(n:Nat):(Int)→(Int)→(qd)→Option ((Int×Unit)×qd×Unit):=(fun x0 x1 x2=>qgg D n (fun v0_0 v0_1=>qjt D n v0_0 v0_1) n x0 x1 x2)
def qut (D:DX)(n:Nat) (lp0:Int→Int→qd→Option ((Int×Unit)×qd×Unit)) (a0:qd) (a1:Int):Option ((Int×Unit)×qd×Unit):=lp0 a1 0 a0
def quq (D:DX)(n:Nat) (a0:qd) (a1:Int):Option ((Int×Unit)×qd×Unit):=qut D n (qqi D n) a0 a1
def qfy (x0:Int) (x1:Int) (x2:qd):St:=stq 35 [(0,AV.brw 0 [] 1048576),(1,avI x0),(5,avI x1)] [(0,Root.mk (Ty.sl yV) (Mk.own 1048576 (Mk.pr Mk.no (Mk.pr Mk.no (Mk.pr Mk.no Mk.no)))) x2 false)] 
def qju (v0_0:Int) (v0_1:qd):St:=stq 35 [(0,AV.brw 0 [] 1048576),(1,avI v0_0)] [(0,Root.mk (Ty.sl yV) (Mk.own 1048576 (Mk.pr Mk.no (Mk.pr Mk.no (Mk.pr Mk.no Mk.no)))) v0_1 false)] 
theorem q92 (D:DX)(n:Nat) (m:Nat) (K:Ex→St→Option (Out ctx 60)) (x0:Int) (x1:Int) (x2:qd) :
 LQ qc D n 60 [.r,.l,.r,.l] (m+1) (qfy x0 x1 x2) K=qsa D n (fun x0 x1 x2=>LQ qc D n 60 [.r,.l,.r,.l] m (qfy x0 x1 x2) K) (fun v0_0 v0_1=>K (Ex.exit 0) (qju v0_0 v0_1)) x0 x1 x2:=by kernel_rfl
theorem qzf (D:DX)(n:Nat) (K:Ex→St→Option (Out ctx 60)):∀ (m:Nat) (x0:Int) (x1:Int) (x2:qd),LQ qc D n 60 [.r,.l,.r,.l] m (qfy x0 x1 x2) K=qgg D n (fun v0_0 v0_1=>K (Ex.exit 0) (qju v0_0 v0_1)) m x0 x1 x2
 | 0,x0,x1,x2=>qx ..
 | m+1,x0,x1,x2=>by
  have ih:(fun x0 x1 x2=>LQ qc D n 60 [.r,.l,.r,.l] m (qfy x0 x1 x2) K)=qgg D n (fun v0_0 v0_1=>K (Ex.exit 0) (qju v0_0 v0_1)) m:=by funext x0 x1 x2;exact qzf D n K m x0 x1 x2
  rw[q92]
  rw[ih];rfl
theorem q9e (D:DX)(n:Nat) (v0_0:Int) (v0_1:qd) :
 (CQ qc D n 60 [] [.r,.l,.r,.l] (qh qc 60)) (Ex.exit 0) (qju v0_0 v0_1)=qjt D n v0_0 v0_1:=by kernel_rfl
theorem q8z (D:DX)(n:Nat) (x0:Int) (x1:Int) (x2:qd) :
 LQ qc D n 60 [.r,.l,.r,.l] n (qfy x0 x1 x2) (CQ qc D n 60 [] [.r,.l,.r,.l] (qh qc 60))=qqi D n x0 x1 x2:=by
 rw[qzf]
 simp only[q9e]
 rfl
theorem qbd4 (D:DX)(n:Nat) (a0:qd) (a1:Int):rfC qc D n 60 (a0,(a1,()))=quq D n a0 a1:=by
 have h:rfC qc D n 60 (a0,(a1,()))=qut D n (fun x0 x1 x2=>LQ qc D n 60 [.r,.l,.r,.l] n (qfy x0 x1 x2) (CQ qc D n 60 [] [.r,.l,.r,.l] (qh qc 60))) a0 a1:=by kernel_rfl
 rw[h]
 simp only[q8z]
 rfl

def qzc (D:DX)(n:Nat) (a0:(tSch)×qe×Unit) (a1:Int):Option ((Int×Unit)×Unit):=qi (qn3 D (Prod.fst a0) a1) fun b↦br (decide (Prod.fst (Prod.fst b)<0)) (some ((-1,()),())) (qi (qly D (Prod.fst (Prod.snd a0)) (Prod.fst (Prod.fst b))) fun b↦br (decide (Prod.fst (Prod.fst b)<0)) (some ((-1,()),())) (some ((Prod.fst (Prod.fst b),()),())))
def qp9 (D:DX)(n:Nat) (a0:(tSch)×qe×Unit) (a1:Int):Option ((Int×Unit)×Unit):=qzc D n a0 a1
theorem qbas (D:DX)(n:Nat) (a0:(tSch)×
 qe×Unit) (a1:Int):rfC qc D n 61 (a0,(a1,()))=qp9 D n a0 a1:=by kernel_rfl

def qbf4 (D:DX)(n:Nat) (a0:Int) (a1:Int) (a2:Int):Option ((Bool×Unit)×Unit):=some ((bif decide (a0≥a1) then decide (a0≤a2) else false,()),())
def q62 (D:DX)(n:Nat) (a0:Int) (a1:Int) (a2:Int):Option ((Bool×Unit)×Unit):=qbf4 D n a0 a1 a2
theorem qbqz (D:DX)(n:Nat) (a0:Int) (a1:Int) (a2:Int):rfC qc D n 68 (a0,(a1,(a2,())))=q62 D n a0 a1 a2:=by kernel_rfl

def q24 (D:DX)(n:Nat) (go:qd→Int→Int→tSch→Option ((Bool×Unit)×Unit)) (K0:Bool→Option ((Bool×Unit)×Unit)) (K1:Option ((Bool×Unit)×Unit)) (x0:qd) (x1:Int) (x2:Int) (x3:tSch):Option ((Bool×Unit)×Unit):=br (decide (x2<x1)) (br (decide (0≤x2)&&decide (x2<(↑(List.length x0):Int))) (br (decide (0≤x2)&&decide (x2<(↑(List.length (Prod.fst x3)):Int))) (qi (qzu D (List.getD x0 (Int.toNat x2) (0,0,ByteArray.empty,()))) fun b↦br (bif !Prod.fst (Prod.fst b) then true else bif Prod.fst (List.getD x0 (Int.toNat x2) (0,0,ByteArray.empty,())) != Prod.fst (Prod.snd (List.getD (Prod.fst x3) (Int.toNat x2) (ByteArray.empty,0,false,()))) then !bif decide (Prod.fst (List.getD x0 (Int.toNat x2) (0,0,ByteArray.empty,()))=0) then Prod.fst (Prod.snd (Prod.snd (List.getD (Prod.fst x3) (Int.toNat x2) (ByteArray.empty,0,false,())))) else false else false) (K0 false) (go x0 x1 (IntKind.wrap IntKind.i64 (x2+1)) x3)) none) none) K1
def qlj (D:DX)(n:Nat) (K0:Bool→Option ((Bool×Unit)×Unit)) (K1:Option ((Bool×Unit)×Unit)):Nat→(qd)→(Int)→(Int)→(tSch)→Option ((Bool×Unit)×Unit) | 0=>(fun x0 x1 x2 x3=>none) | m+1=>(fun x0 x1 x2 x3=>q24 D n (qlj D n K0 K1 m) K0 K1 x0 x1 x2 x3)
def q6o (D:DX)(n:Nat) (v0_0:Bool):Option ((Bool×Unit)×Unit):=some ((v0_0,()),())
def q6e (D:DX)(n:Nat):Option ((Bool×Unit)×Unit):=some ((true,()),())
def q09 (D:DX)(n:Nat):(qd)→(Int)→(Int)→(tSch)→Option ((Bool×Unit)×Unit):=(fun x0 x1 x2 x3=>qlj D n (fun v0_0=>q6o D n v0_0) (q6e D n) n x0 x1 x2 x3)
def q43 (D:DX)(n:Nat) (lp0:qd→Int→Int→tSch→Option ((Bool×Unit)×Unit)) (a0:tSch) (a1:qd):Option ((Bool×Unit)×Unit):=qi (qq9 D a0) fun b↦br (bif !Prod.fst (Prod.fst b) then true else (↑(List.length a1):Int) != (↑(List.length (Prod.fst a0)):Int)) (some ((false,()),())) (lp0 a1 (↑(List.length a1):Int) 0 a0)
def q5p (D:DX)(n:Nat) (a0:tSch) (a1:qd):Option ((Bool×Unit)×Unit):=q43 D n (q09 D n) a0 a1
def qll (x0:qd) (x1:Int) (x2:Int) (x3:tSch):St:=stq 52 [(2,AV.addr 2 []),(19,AV.val (Ty.sl yV) x0),(20,avI x1),(21,avI x2)] [(2,Root.mk yS Mk.no x3 true)] 
def qq5 (v0_0:Bool):St:=stq 52 [(4,AV.val Ty.bool v0_0)] [] 
def qq0:St:=stq 52 [] [] 
theorem qbll (D:DX)(n:Nat) (m:Nat) (K:Ex→St→Option (Out ctx 77)) (x0:qd) (x1:Int) (x2:Int) (x3:tSch) :
 LQ qc D n 77 [.r,.r,.l,.r,.l] (m+1) (qll x0 x1 x2 x3) K=q24 D n (fun x0 x1 x2 x3=>LQ qc D n 77 [.r,.r,.l,.r,.l] m (qll x0 x1 x2 x3) K) (fun v0_0=>K (Ex.ret) (qq5 v0_0)) (K (Ex.exit 0) (qq0)) x0 x1 x2 x3:=by kernel_rfl
theorem q7q (D:DX)(n:Nat) (K:Ex→St→Option (Out ctx 77)):∀ (m:Nat) (x0:qd) (x1:Int) (x2:Int) (x3:tSch),LQ qc D n 77 [.r,.r,.l,.r,.l] m (qll x0 x1 x2 x3) K=qlj D n (fun v0_0=>K (Ex.ret) (qq5 v0_0)) (K (Ex.exit 0) (qq0)) m x0 x1 x2 x3
 | 0,x0,x1,x2,x3=>qx ..
 | m+1,x0,x1,x2,x3=>by
  have ih:(fun x0 x1 x2 x3=>LQ qc D n 77 [.r,.r,.l,.r,.l] m (qll x0 x1 x2 x3) K)=qlj D n (fun v0_0=>K (Ex.ret) (qq5 v0_0)) (K (Ex.exit 0) (qq0)) m:=by funext x0 x1 x2 x3;exact q7q D n K m x0 x1 x2 x3
  rw[qbll]
  rw[ih];rfl
theorem qbik (D:DX)(n:Nat) (v0_0:Bool) :
 (CQ qc D n 77 [] [.r,.r,.l,.r,.l] (qh qc 77)) (Ex.ret) (qq5 v0_0)=q6o D n v0_0:=by kernel_rfl
theorem qbkn (D:DX)(n:Nat) :
 (CQ qc D n 77 [] [.r,.r,.l,.r,.l] (qh qc 77)) (Ex.exit 0) (qq0)=q6e D n:=by kernel_rfl
theorem qbi4 (D:DX)(n:Nat) (x0:qd) (x1:Int) (x2:Int) (x3:tSch) :
 LQ qc D n 77 [.r,.r,.l,.r,.l] n (qll x0 x1 x2 x3) (CQ qc D n 77 [] [.r,.r,.l,.r,.l] (qh qc 77))=q09 D n x0 x1 x2 x3:=by
 rw[q7q]
 simp only[qbik,qbkn]
 rfl
theorem qbqg (D:DX)(n:Nat) (a0:tSch) (a1:qd):rfC qc D n 77 (a0,(a1,()))=q5p D n a0 a1:=by
 have h:rfC qc D n 77 (a0,(a1,()))=q43 D n (fun x0 x1 x2 x3=>LQ qc D n 77 [.r,.r,.l,.r,.l] n (qll x0 x1 x2 x3) (CQ qc D n 77 [] [.r,.r,.l,.r,.l] (qh qc 77))) a0 a1:=by kernel_rfl
 rw[h]
 simp only[qbi4]
 rfl

def q40 (D:DX)(n:Nat) (a0:qd) (a1:qd):Option ((Bool×Unit)×Unit):=qi (qb8 D a0 a1 (Clo.mk 141 [])) fun b↦some ((decide (Prod.fst (Prod.fst b)<0),()),())
def qwc (D:DX)(n:Nat) (a0:qd) (a1:qd):Option ((Bool×Unit)×Unit):=q40 D n a0 a1
theorem qbgr (D:DX)(n:Nat) (a0:qd) (a1:qd):rfC qc D n 78 (a0,(a1,()))=qwc D n a0 a1:=by kernel_rfl

def qfn (D:DX)(n:Nat) (a1:Clo) (a0:qe):Option ((Bool×Unit)×Unit):=qi (qct D a0 a1) fun b↦some ((decide (Prod.fst (Prod.fst b)≥0),()),())
def qdd (D:DX)(n:Nat) (a0:qe) (a1:Clo):Option ((Bool×Unit)×Unit):=qfn D n a1 a0
theorem qno (D:DX)(n:Nat) (a0:qe) (a1:Clo):rfC qc D n 79 (a0,(a1,()))=qdd D n a0 a1:=by kernel_rfl

def q8c (D:DX)(n:Nat) (a0:qd) (a1:(tSch)×qe×Unit) (a2:qd):Option ((Bool×Unit)×Unit):=qi (q4u D (Prod.fst a1) a2 a0) fun b↦some ((Prod.fst (Prod.fst b),()),())
def q0t (D:DX)(n:Nat) (a0:qd) (a1:(tSch)×qe×Unit) (a2:qd):Option ((Bool×Unit)×Unit):=q8c D n a0 a1 a2
theorem qblj (D:DX)(n:Nat) (a0:qd) (a1:(tSch)×
 qe×Unit) (a2:qd):rfC qc D n 80 (a0,(a1,(a2,())))=q0t D n a0 a1 a2:=by kernel_rfl

def qbb2 (D:DX)(n:Nat) (a0:tSch) (a1:qd) (a2:qd):Option ((Bool×Unit)×Unit):=qi (qcp D (Prod.fst (Prod.snd (Prod.snd a0))) (Clo.mk 143 [CapV.rptr (Ty.sl (Ty.pair (Ty.int IntKind.i64) (Ty.pair (Ty.int IntKind.i64) (Ty.pair Ty.str Ty.unit)))) a1,CapV.rptr (Ty.sl (Ty.pair (Ty.int IntKind.i64) (Ty.pair (Ty.int IntKind.i64) (Ty.pair Ty.str Ty.unit)))) a2])) fun b↦some ((Prod.fst (Prod.fst b),()),())
def q45 (D:DX)(n:Nat) (a0:tSch) (a1:qd) (a2:qd):Option ((Bool×Unit)×Unit):=qbb2 D n a0 a1 a2
theorem qbo4 (D:DX)(n:Nat) (a0:tSch) (a1:qd) (a2:qd):rfC qc D n 81 (a0,(a1,(a2,())))=q45 D n a0 a1 a2:=by kernel_rfl

def qvy (D:DX)(n:Nat) (go:qj→Int→Int→tSch→Option ((Bool×Unit)×Unit)) (K0:Bool→tSch→Option ((Bool×Unit)×Unit)) (K1:tSch→Option ((Bool×Unit)×Unit)) (x0:qj) (x1:Int) (x2:Int) (x3:tSch):Option ((Bool×Unit)×Unit):=br (decide (x2<x1)) (br (decide (0≤x2)&&decide (x2<(↑(List.length x0):Int))) (qi (qpc D (Prod.fst (List.getD x0 (Int.toNat x2) (ByteArray.empty,0,false,())))) fun b↦br (!Prod.fst (Prod.fst b)) (K0 false x3) (qi (qgm D (Prod.fst (Prod.snd (List.getD x0 (Int.toNat x2) (ByteArray.empty,0,false,())))) 1 3) fun b↦br (!Prod.fst (Prod.fst b)) (K0 false x3) (qi (q5k D x3 (Prod.fst (List.getD x0 (Int.toNat x2) (ByteArray.empty,0,false,())))) fun b↦br (Prod.fst (Prod.fst b) != x2) (K0 false x3) (go x0 x1 (IntKind.wrap IntKind.i64 (x2+1)) x3)))) none) (K1 x3)
def qh8 (D:DX)(n:Nat) (K0:Bool→tSch→Option ((Bool×Unit)×Unit)) (K1:tSch→Option ((Bool×Unit)×Unit)):Nat→(qj)→(Int)→(Int)→(tSch)→Option ((Bool×Unit)×Unit) | 0=>(fun x0 x1 x2 x3=>none) | m+1=>(fun x0 x1 x2 x3=>qvy D n (qh8 D n K0 K1 m) K0 K1 x0 x1 x2 x3)
def q1w (D:DX)(n:Nat) (v0_0:Bool) (v0_1:tSch):Option ((Bool×Unit)×Unit):=some ((v0_0,()),())
def qv7 (D:DX)(n:Nat) (go:tIxs→Int→Int→tSch→Option ((Bool×Unit)×Unit)) (K0:Bool→tSch→Option ((Bool×Unit)×Unit)) (K1:tSch→Option ((Bool×Unit)×Unit)) (x1_0:tIxs) (x1_1:Int) (x1_2:Int) (x1_3:tSch):Option ((Bool×Unit)×Unit):=br (decide (x1_2<x1_1)) (br (decide (0≤x1_2)&&decide (x1_2<(↑(List.length x1_0):Int))) (qi (qpc D (Prod.fst (List.getD x1_0 (Int.toNat x1_2) (ByteArray.empty,[],false,())))) fun b↦br (!Prod.fst (Prod.fst b)) (K0 false x1_3) (qi (qqv D x1_3 (Prod.fst (Prod.snd (List.getD x1_0 (Int.toNat x1_2) (ByteArray.empty,[],false,())))) 3) fun b↦br (!Prod.fst (Prod.fst b)) (K0 false x1_3) (br (decide (0≤0)&&decide (0≤x1_2)&&decide (x1_2≤(↑(List.length (Prod.fst (Prod.snd (Prod.snd x1_3)))):Int))) (qi (qcp D (List.drop (Int.toNat 0) (List.take (Int.toNat x1_2) (Prod.fst (Prod.snd (Prod.snd x1_3))))) (Clo.mk 149 [CapV.rptr (Ty.pair Ty.str (Ty.pair (Ty.sl (Ty.int IntKind.i64)) (Ty.pair Ty.bool Ty.unit))) (List.getD x1_0 (Int.toNat x1_2) (ByteArray.empty,[],false,()))])) fun b↦br (Prod.fst (Prod.fst b)) (K0 false x1_3) (go x1_0 x1_1 (IntKind.wrap IntKind.i64 (x1_2+1)) x1_3)) none))) none) (K1 x1_3)
def qh9 (D:DX)(n:Nat) (K0:Bool→tSch→Option ((Bool×Unit)×Unit)) (K1:tSch→Option ((Bool×Unit)×Unit)):Nat→(tIxs)→(Int)→(Int)→(tSch)→Option ((Bool×Unit)×Unit) | 0=>(fun x1_0 x1_1 x1_2 x1_3=>none) | m+1=>(fun x1_0 x1_1 x1_2 x1_3=>qv7 D n (qh9 D n K0 K1 m) K0 K1 x1_0 x1_1 x1_2 x1_3)
def q1p (D:DX)(n:Nat) (v0_0:Bool) (v0_1:tSch):Option ((Bool×Unit)×Unit):=some ((v0_0,()),())
def qrf (D:DX)(n:Nat) (v1_0:tSch):Option ((Bool×Unit)×Unit):=qi (qgm D (↑(List.length (Prod.fst v1_0)):Int) 1 5) fun b↦br (Prod.fst (Prod.fst b)) (qi (qqv D v1_0 (Prod.fst (Prod.snd v1_0)) 4) fun b↦br (Prod.fst (Prod.fst b)) (qi (qhj D (Prod.fst (Prod.snd v1_0)) (Clo.mk 151 [CapV.rptr (Ty.pair (Ty.sl (Ty.pair Ty.str (Ty.pair (Ty.int IntKind.i64) (Ty.pair Ty.bool Ty.unit)))) (Ty.pair (Ty.sl (Ty.int IntKind.i64)) (Ty.pair (Ty.sl (Ty.pair Ty.str (Ty.pair (Ty.sl (Ty.int IntKind.i64)) (Ty.pair Ty.bool Ty.unit)))) Ty.unit))) v1_0])) fun b↦some ((bif !Prod.fst (Prod.fst b) then decide ((↑(List.length (Prod.fst (Prod.snd (Prod.snd v1_0)))):Int)≤3) else false,()),())) (some ((false,()),()))) (some ((false,()),()))
def qtr (D:DX)(n:Nat):(tIxs)→(Int)→(Int)→(tSch)→Option ((Bool×Unit)×Unit):=(fun x1_0 x1_1 x1_2 x1_3=>qh9 D n (fun v0_0 v0_1=>q1p D n v0_0 v0_1) (fun v1_0=>qrf D n v1_0) n x1_0 x1_1 x1_2 x1_3)
def qsb (D:DX)(n:Nat) (lp1:tIxs→Int→Int→tSch→Option ((Bool×Unit)×Unit)) (v1_0:tSch):Option ((Bool×Unit)×Unit):=lp1 (Prod.fst (Prod.snd (Prod.snd v1_0))) (↑(List.length (Prod.fst (Prod.snd (Prod.snd v1_0)))):Int) 0 v1_0
def quk (D:DX)(n:Nat):(qj)→(Int)→(Int)→(tSch)→Option ((Bool×Unit)×Unit):=(fun x0 x1 x2 x3=>qh8 D n (fun v0_0 v0_1=>q1w D n v0_0 v0_1) (fun v1_0=>qsb D n (qtr D n) v1_0) n x0 x1 x2 x3)
def qx6 (D:DX)(n:Nat) (lp0:qj→Int→Int→tSch→Option ((Bool×Unit)×Unit)) (a0:tSch):Option ((Bool×Unit)×Unit):=lp0 (Prod.fst a0) (↑(List.length (Prod.fst a0)):Int) 0 a0
def qym (D:DX)(n:Nat) (a0:tSch):Option ((Bool×Unit)×Unit):=qx6 D n (quk D n) a0
def qhr (x0:qj) (x1:Int) (x2:Int) (x3:tSch):St:=stq 85 [(1,AV.addr 1 []),(8,AV.val (Ty.sl yC) x0),(9,avI x1),(10,avI x2)] [(1,Root.mk yS Mk.no x3 true)] 
def qmn (v0_0:Bool) (v0_1:tSch):St:=stq 85 [(1,AV.addr 1 []),(2,AV.val Ty.bool v0_0)] [(1,Root.mk yS Mk.no v0_1 true)] 
def ql4 (v1_0:tSch):St:=stq 85 [(1,AV.addr 1 [])] [(1,Root.mk yS Mk.no v1_0 true)] 
def qih (x1_0:tIxs) (x1_1:Int) (x1_2:Int) (x1_3:tSch):St:=stq 85 [(1,AV.addr 1 []),(35,AV.val (Ty.sl yX) x1_0),(36,avI x1_1),(37,avI x1_2)] [(1,Root.mk yS Mk.no x1_3 true)] 
def qma (v0_0:Bool) (v0_1:tSch):St:=stq 85 [(1,AV.addr 1 []),(2,AV.val Ty.bool v0_0)] [(1,Root.mk yS Mk.no v0_1 true)] 
def qlv (v1_0:tSch):St:=stq 85 [(1,AV.addr 1 [])] [(1,Root.mk yS Mk.no v1_0 true)] 
theorem qbei (D:DX)(n:Nat) (m:Nat) (K:Ex→St→Option (Out ctx 82)) (x0:qj) (x1:Int) (x2:Int) (x3:tSch) :
 LQ qc D n 82 [.r,.l,.r,.l] (m+1) (qhr x0 x1 x2 x3) K=qvy D n (fun x0 x1 x2 x3=>LQ qc D n 82 [.r,.l,.r,.l] m (qhr x0 x1 x2 x3) K) (fun v0_0 v0_1=>K (Ex.ret) (qmn v0_0 v0_1)) (fun v1_0=>K (Ex.exit 0) (ql4 v1_0)) x0 x1 x2 x3:=by kernel_rfl
theorem q3w (D:DX)(n:Nat) (K:Ex→St→Option (Out ctx 82)):∀ (m:Nat) (x0:qj) (x1:Int) (x2:Int) (x3:tSch),LQ qc D n 82 [.r,.l,.r,.l] m (qhr x0 x1 x2 x3) K=qh8 D n (fun v0_0 v0_1=>K (Ex.ret) (qmn v0_0 v0_1)) (fun v1_0=>K (Ex.exit 0) (ql4 v1_0)) m x0 x1 x2 x3
 | 0,x0,x1,x2,x3=>qx ..
 | m+1,x0,x1,x2,x3=>by
  have ih:(fun x0 x1 x2 x3=>LQ qc D n 82 [.r,.l,.r,.l] m (qhr x0 x1 x2 x3) K)=qh8 D n (fun v0_0 v0_1=>K (Ex.ret) (qmn v0_0 v0_1)) (fun v1_0=>K (Ex.exit 0) (ql4 v1_0)) m:=by funext x0 x1 x2 x3;exact q3w D n K m x0 x1 x2 x3
  rw[qbei]
  rw[ih];rfl
theorem qbeg (D:DX)(n:Nat) (m:Nat) (K:Ex→St→Option (Out ctx 82)) (x1_0:tIxs) (x1_1:Int) (x1_2:Int) (x1_3:tSch) :
 LQ qc D n 82 [.r,.r,.l,.r,.l] (m+1) (qih x1_0 x1_1 x1_2 x1_3) K=qv7 D n (fun x1_0 x1_1 x1_2 x1_3=>LQ qc D n 82 [.r,.r,.l,.r,.l] m (qih x1_0 x1_1 x1_2 x1_3) K) (fun v0_0 v0_1=>K (Ex.ret) (qma v0_0 v0_1)) (fun v1_0=>K (Ex.exit 2) (qlv v1_0)) x1_0 x1_1 x1_2 x1_3:=by kernel_rfl
theorem q3t (D:DX)(n:Nat) (K:Ex→St→Option (Out ctx 82)):∀ (m:Nat) (x1_0:tIxs) (x1_1:Int) (x1_2:Int) (x1_3:tSch),LQ qc D n 82 [.r,.r,.l,.r,.l] m (qih x1_0 x1_1 x1_2 x1_3) K=qh9 D n (fun v0_0 v0_1=>K (Ex.ret) (qma v0_0 v0_1)) (fun v1_0=>K (Ex.exit 2) (qlv v1_0)) m x1_0 x1_1 x1_2 x1_3
 | 0,x1_0,x1_1,x1_2,x1_3=>qx ..
 | m+1,x1_0,x1_1,x1_2,x1_3=>by
  have ih:(fun x1_0 x1_1 x1_2 x1_3=>LQ qc D n 82 [.r,.r,.l,.r,.l] m (qih x1_0 x1_1 x1_2 x1_3) K)=qh9 D n (fun v0_0 v0_1=>K (Ex.ret) (qma v0_0 v0_1)) (fun v1_0=>K (Ex.exit 2) (qlv v1_0)) m:=by funext x1_0 x1_1 x1_2 x1_3;exact q3t D n K m x1_0 x1_1 x1_2 x1_3
  rw[qbeg]
  rw[ih];rfl
theorem qbdj (D:DX)(n:Nat) (v0_0:Bool) (v0_1:tSch) :
 (CQ qc D n 82 [] [.r,.r,.l,.r,.l] (qh qc 82)) (Ex.ret) (qma v0_0 v0_1)=q1p D n v0_0 v0_1:=by kernel_rfl
theorem qbcc (D:DX)(n:Nat) (v1_0:tSch) :
 (CQ qc D n 82 [] [.r,.r,.l,.r,.l] (qh qc 82)) (Ex.exit 2) (qlv v1_0)=qrf D n v1_0:=by kernel_rfl
theorem qbdh (D:DX)(n:Nat) (x1_0:tIxs) (x1_1:Int) (x1_2:Int) (x1_3:tSch) :
 LQ qc D n 82 [.r,.r,.l,.r,.l] n (qih x1_0 x1_1 x1_2 x1_3) (CQ qc D n 82 [] [.r,.r,.l,.r,.l] (qh qc 82))=qtr D n x1_0 x1_1 x1_2 x1_3:=by
 rw[q3t]
 simp only[qbdj,qbcc]
 rfl
theorem qbb0 (D:DX)(n:Nat) (v0_0:Bool) (v0_1:tSch) :
 (CQ qc D n 82 [] [.r,.l,.r,.l] (qh qc 82)) (Ex.ret) (qmn v0_0 v0_1)=q1w D n v0_0 v0_1:=by kernel_rfl
theorem qbck (D:DX)(n:Nat) (v1_0:tSch) :
 (CQ qc D n 82 [] [.r,.l,.r,.l] (qh qc 82)) (Ex.exit 0) (ql4 v1_0)=qsb D n (fun x1_0 x1_1 x1_2 x1_3=>LQ qc D n 82 [.r,.r,.l,.r,.l] n (qih x1_0 x1_1 x1_2 x1_3) (CQ qc D n 82 [] [.r,.r,.l,.r,.l] (qh qc 82))) v1_0:=by kernel_rfl
theorem qbbd (D:DX)(n:Nat) (x0:qj) (x1:Int) (x2:Int) (x3:tSch) :
 LQ qc D n 82 [.r,.l,.r,.l] n (qhr x0 x1 x2 x3) (CQ qc D n 82 [] [.r,.l,.r,.l] (qh qc 82))=quk D n x0 x1 x2 x3:=by
 rw[q3w]
 simp only[qbb0,qbck,qbdh]
 rfl
theorem qbkh (D:DX)(n:Nat) (a0:tSch):rfC qc D n 82 (a0,())=qym D n a0:=by
 have h:rfC qc D n 82 (a0,())=qx6 D n (fun x0 x1 x2 x3=>LQ qc D n 82 [.r,.l,.r,.l] n (qhr x0 x1 x2 x3) (CQ qc D n 82 [] [.r,.l,.r,.l] (qh qc 82))) a0:=by kernel_rfl
 rw[h]
 simp only[qbbd]
 rfl

def qy9 (D:DX)(n:Nat) (a0:(tSch)×qe×Unit):Option ((((tSch)×qe×Unit)×Unit)×Unit):=qi (qte D (Prod.fst a0)) fun b↦qi (qtm D (Prod.fst (Prod.snd a0))) fun b_1↦some ((((Prod.fst (Prod.fst (Prod.fst b)),Prod.fst (Prod.snd (Prod.fst (Prod.fst b))),Prod.fst (Prod.snd (Prod.snd (Prod.fst (Prod.fst b)))),()),Prod.fst (Prod.fst b_1),()),()),())
def qqh (D:DX)(n:Nat) (a0:(tSch)×qe×Unit):Option ((((tSch)×qe×Unit)×Unit)×Unit):=qy9 D n a0
theorem q98 (D:DX)(n:Nat) (a0:(tSch)×
 qe×Unit):rfC qc D n 83 (a0,())=qqh D n a0:=by kernel_rfl

def qbcj (D:DX)(n:Nat) (a0:(tSch)×qe×Unit) (a1:qd):Option ((Int×Unit)×Unit):=qi (qct D (Prod.fst (Prod.snd a0)) (Clo.mk 153 [CapV.rptr (Ty.pair (Ty.pair (Ty.sl (Ty.pair Ty.str (Ty.pair (Ty.int IntKind.i64) (Ty.pair Ty.bool Ty.unit)))) (Ty.pair (Ty.sl (Ty.int IntKind.i64)) (Ty.pair (Ty.sl (Ty.pair Ty.str (Ty.pair (Ty.sl (Ty.int IntKind.i64)) (Ty.pair Ty.bool Ty.unit)))) Ty.unit))) (Ty.pair (Ty.sl (Ty.sl (Ty.pair (Ty.int IntKind.i64) (Ty.pair (Ty.int IntKind.i64) (Ty.pair Ty.str Ty.unit))))) Ty.unit)) a0,CapV.rptr (Ty.sl (Ty.pair (Ty.int IntKind.i64) (Ty.pair (Ty.int IntKind.i64) (Ty.pair Ty.str Ty.unit)))) a1])) fun b↦some ((Prod.fst (Prod.fst b),()),())
def q54 (D:DX)(n:Nat) (a0:(tSch)×qe×Unit) (a1:qd):Option ((Int×Unit)×Unit):=qbcj D n a0 a1
theorem qbpj (D:DX)(n:Nat) (a0:(tSch)×
 qe×Unit) (a1:qd):rfC qc D n 84 (a0,(a1,()))=q54 D n a0 a1:=by kernel_rfl


def qdl (D:DX)(n:Nat) (a1:Clo) (go:qe→Int→Int→Option ((Int×Unit)×Unit)) (K0:Int→Option ((Int×Unit)×Unit)) (K1:Option ((Int×Unit)×Unit)) (x0:qe) (x1:Int) (x2:Int):Option ((Int×Unit)×Unit):=br (decide (x2<x1)) (br (decide (0≤x2)&&decide (x2<(↑(List.length x0):Int))) (qi (qch ctx D a1 [CapV.val (Ty.sl (Ty.pair (Ty.int IntKind.i64) (Ty.pair (Ty.int IntKind.i64) (Ty.pair Ty.str Ty.unit)))) (List.getD x0 (Int.toNat x2) [])] Ty.bool) fun b↦br b (K0 x2) (go x0 x1 (IntKind.wrap IntKind.i64 (x2+1)))) none) K1
def qbp (D:DX)(n:Nat) (a1:Clo) (K0:Int→Option ((Int×Unit)×Unit)) (K1:Option ((Int×Unit)×Unit)):Nat→(qe)→(Int)→(Int)→Option ((Int×Unit)×Unit) | 0=>(fun x0 x1 x2=>none) | m+1=>(fun x0 x1 x2=>qdl D n a1 (qbp D n a1 K0 K1 m) K0 K1 x0 x1 x2)
def qfl (D:DX)(n:Nat) (a1:Clo) (v0_0:Int):Option ((Int×Unit)×Unit):=some ((v0_0,()),())
def qfj (D:DX)(n:Nat) (a1:Clo):Option ((Int×Unit)×Unit):=some ((-1,()),())
def qdg (D:DX)(n:Nat) (a1:Clo):(qe)→(Int)→(Int)→Option ((Int×Unit)×Unit):=(fun x0 x1 x2=>qbp D n a1 (fun v0_0=>qfl D n a1 v0_0) (qfj D n a1) n x0 x1 x2)
def qdx (D:DX)(n:Nat) (a1:Clo) (lp0:qe→Int→Int→Option ((Int×Unit)×Unit)) (a0:qe):Option ((Int×Unit)×Unit):=lp0 a0 (↑(List.length a0):Int) 0
def qdv (D:DX)(n:Nat) (a0:qe) (a1:Clo):Option ((Int×Unit)×Unit):=qdx D n a1 (qdg D n a1) a0
def qbr (a1:Clo) (x0:qe) (x1:Int) (x2:Int):St:=stq 19 [(0,AV.val (Ty.sl (Ty.sl yV)) x0),(1,AV.cloV a1),(7,avI x1),(8,avI x2)] [] 
def qck (a1:Clo) (v0_0:Int):St:=stq 19 [(4,avI v0_0)] [] 
def qcn (a1:Clo):St:=stq 19 [] [] 
theorem qob (D:DX)(n:Nat) (a1:Clo) (m:Nat) (K:Ex→St→Option (Out ctx 86)) (x0:qe) (x1:Int) (x2:Int) :
 LQ qc D n 86 [.r,.l,.r,.l] (m+1) (qbr a1 x0 x1 x2) K=qdl D n a1 (fun x0 x1 x2=>LQ qc D n 86 [.r,.l,.r,.l] m (qbr a1 x0 x1 x2) K) (fun v0_0=>K (Ex.ret) (qck a1 v0_0)) (K (Ex.exit 0) (qcn a1)) x0 x1 x2:=by kernel_rfl
theorem qf3 (D:DX)(n:Nat) (a1:Clo) (K:Ex→St→Option (Out ctx 86)):∀ (m:Nat) (x0:qe) (x1:Int) (x2:Int),LQ qc D n 86 [.r,.l,.r,.l] m (qbr a1 x0 x1 x2) K=qbp D n a1 (fun v0_0=>K (Ex.ret) (qck a1 v0_0)) (K (Ex.exit 0) (qcn a1)) m x0 x1 x2
 | 0,x0,x1,x2=>qx ..
 | m+1,x0,x1,x2=>by
  have ih:(fun x0 x1 x2=>LQ qc D n 86 [.r,.l,.r,.l] m (qbr a1 x0 x1 x2) K)=qbp D n a1 (fun v0_0=>K (Ex.ret) (qck a1 v0_0)) (K (Ex.exit 0) (qcn a1)) m:=by funext x0 x1 x2;exact qf3 D n a1 K m x0 x1 x2
  rw[qob]
  rw[ih];rfl
theorem qnn (D:DX)(n:Nat) (a1:Clo) (v0_0:Int) :
 (CQ qc D n 86 [] [.r,.l,.r,.l] (qh qc 86)) (Ex.ret) (qck a1 v0_0)=qfl D n a1 v0_0:=by kernel_rfl
theorem qnm (D:DX)(n:Nat) (a1:Clo) :
 (CQ qc D n 86 [] [.r,.l,.r,.l] (qh qc 86)) (Ex.exit 0) (qcn a1)=qfj D n a1:=by kernel_rfl
theorem qns (D:DX)(n:Nat) (a1:Clo) (x0:qe) (x1:Int) (x2:Int) :
 LQ qc D n 86 [.r,.l,.r,.l] n (qbr a1 x0 x1 x2) (CQ qc D n 86 [] [.r,.l,.r,.l] (qh qc 86))=qdg D n a1 x0 x1 x2:=by
 rw[qf3]
 simp only[qnn,qnm]
 rfl
theorem qpb (D:DX)(n:Nat) (a0:qe) (a1:Clo):rfC qc D n 86 (a0,(a1,()))=qdv D n a0 a1:=by
 have h:rfC qc D n 86 (a0,(a1,()))=qdx D n a1 (fun x0 x1 x2=>LQ qc D n 86 [.r,.l,.r,.l] n (qbr a1 x0 x1 x2) (CQ qc D n 86 [] [.r,.l,.r,.l] (qh qc 86))) a0:=by kernel_rfl
 rw[h]
 simp only[qns]
 rfl


def qiy (D:DX)(n:Nat) (a0:qd):Option ((qd×Unit)×Unit):=br (decide (Int.toNat (↑(List.length a0):Int)=0)) (both (some (([],()),())) (br (decide (0+List.length a0≤qbk)) (some (([]++a0,()),())) none)) (br (decide (0+List.length a0≤qbk)) (some (([]++a0,()),())) none)
def qer (D:DX)(n:Nat) (a0:qd):Option ((qd×Unit)×Unit):=qiy D n a0
theorem qr7 (D:DX)(n:Nat) (a0:qd):rfC qc D n 89 (a0,())=qer D n a0:=by kernel_rfl

def qx2 (D:DX)(n:Nat) (go:qd→List Int→Int→Int→qd→Option ((qd×Unit)×Unit)) (K0:qd→Option ((qd×Unit)×Unit)) (x0:qd) (x1:List Int) (x2:Int) (x3:Int) (x4:qd):Option ((qd×Unit)×Unit):=br (decide (x3<x2)) (br (decide (0≤x3)&&decide (x3<(↑(List.length x1):Int))) (qi (qgm D (List.getD x1 (Int.toNat x3) 0) 0 (IntKind.wrap IntKind.i64 ((↑(List.length x0):Int) - 1))) fun b↦br (Prod.fst (Prod.fst b)) (br (decide (0≤List.getD x1 (Int.toNat x3) 0)&&decide (List.getD x1 (Int.toNat x3) 0<(↑(List.length x0):Int))) (br (decide (List.length x4+1≤qbk)) (go x0 x1 x2 (IntKind.wrap IntKind.i64 (x3+1)) (x4++[List.getD x0 (Int.toNat (List.getD x1 (Int.toNat x3) 0)) (0,0,ByteArray.empty,())])) none) none) (go x0 x1 x2 (IntKind.wrap IntKind.i64 (x3+1)) x4)) none) (K0 x4)
def qja (D:DX)(n:Nat) (K0:qd→Option ((qd×Unit)×Unit)):Nat→(qd)→(List Int)→(Int)→(Int)→(qd)→Option ((qd×Unit)×Unit) | 0=>(fun x0 x1 x2 x3 x4=>none) | m+1=>(fun x0 x1 x2 x3 x4=>qx2 D n (qja D n K0 m) K0 x0 x1 x2 x3 x4)
def q3o (D:DX)(n:Nat) (v0_0:qd):Option ((qd×Unit)×Unit):=some ((v0_0,()),())
def qvc (D:DX)(n:Nat):(qd)→(List Int)→(Int)→(Int)→(qd)→Option ((qd×Unit)×Unit):=(fun x0 x1 x2 x3 x4=>qja D n (fun v0_0=>q3o D n v0_0) n x0 x1 x2 x3 x4)
def qz6 (D:DX)(n:Nat) (lp0:qd→List Int→Int→Int→qd→Option ((qd×Unit)×Unit)) (a0:qd) (a1:List Int):Option ((qd×Unit)×Unit):=lp0 a0 a1 (↑(List.length a1):Int) 0 []
def q0r (D:DX)(n:Nat) (a0:qd) (a1:List Int):Option ((qd×Unit)×Unit):=qz6 D n (qvc D n) a0 a1
def qjh (x0:qd) (x1:List Int) (x2:Int) (x3:Int) (x4:qd):St:=stq 29 [(0,AV.val (Ty.sl yV) x0),(5,AV.brw 5 [] 0),(9,AV.val (Ty.sl yI) x1),(10,avI x2),(11,avI x3)] [(5,Root.mk (Ty.sl yV) (Mk.own 0 (Mk.pr Mk.no (Mk.pr Mk.no (Mk.pr Mk.no Mk.no)))) x4 false)] 
def qny (v0_0:qd):St:=stq 29 [(5,AV.brw 5 [] 0)] [(5,Root.mk (Ty.sl yV) (Mk.own 0 (Mk.pr Mk.no (Mk.pr Mk.no (Mk.pr Mk.no Mk.no)))) v0_0 false)] 
theorem qbgw (D:DX)(n:Nat) (m:Nat) (K:Ex→St→Option (Out ctx 94)) (x0:qd) (x1:List Int) (x2:Int) (x3:Int) (x4:qd) :
 LQ qc D n 94 [.r,.r,.l,.r,.l] (m+1) (qjh x0 x1 x2 x3 x4) K=qx2 D n (fun x0 x1 x2 x3 x4=>LQ qc D n 94 [.r,.r,.l,.r,.l] m (qjh x0 x1 x2 x3 x4) K) (fun v0_0=>K (Ex.exit 0) (qny v0_0)) x0 x1 x2 x3 x4:=by kernel_rfl
theorem q48 (D:DX)(n:Nat) (K:Ex→St→Option (Out ctx 94)):∀ (m:Nat) (x0:qd) (x1:List Int) (x2:Int) (x3:Int) (x4:qd),LQ qc D n 94 [.r,.r,.l,.r,.l] m (qjh x0 x1 x2 x3 x4) K=qja D n (fun v0_0=>K (Ex.exit 0) (qny v0_0)) m x0 x1 x2 x3 x4
 | 0,x0,x1,x2,x3,x4=>qx ..
 | m+1,x0,x1,x2,x3,x4=>by
  have ih:(fun x0 x1 x2 x3 x4=>LQ qc D n 94 [.r,.r,.l,.r,.l] m (qjh x0 x1 x2 x3 x4) K)=qja D n (fun v0_0=>K (Ex.exit 0) (qny v0_0)) m:=by funext x0 x1 x2 x3 x4;exact q48 D n K m x0 x1 x2 x3 x4
  rw[qbgw]
  rw[ih];rfl
theorem qber (D:DX)(n:Nat) (v0_0:qd) :
 (CQ qc D n 94 [] [.r,.r,.l,.r,.l] (qh qc 94)) (Ex.exit 0) (qny v0_0)=q3o D n v0_0:=by kernel_rfl
theorem qbfl (D:DX)(n:Nat) (x0:qd) (x1:List Int) (x2:Int) (x3:Int) (x4:qd) :
 LQ qc D n 94 [.r,.r,.l,.r,.l] n (qjh x0 x1 x2 x3 x4) (CQ qc D n 94 [] [.r,.r,.l,.r,.l] (qh qc 94))=qvc D n x0 x1 x2 x3 x4:=by
 rw[q48]
 simp only[qber]
 rfl
theorem qbmm (D:DX)(n:Nat) (a0:qd) (a1:List Int):rfC qc D n 94 (a0,(a1,()))=q0r D n a0 a1:=by
 have h:rfC qc D n 94 (a0,(a1,()))=qz6 D n (fun x0 x1 x2 x3 x4=>LQ qc D n 94 [.r,.r,.l,.r,.l] n (qjh x0 x1 x2 x3 x4) (CQ qc D n 94 [] [.r,.r,.l,.r,.l] (qh qc 94))) a0 a1:=by kernel_rfl
 rw[h]
 simp only[qbfl]
 rfl

def q7t (D:DX)(n:Nat) (a0:(tSch)×qe×Unit):Option ((((tSch)×qe×Unit)×Unit)×Unit):=qi (q0u D (Prod.fst a0)) fun b↦qi (qn9 D (Prod.fst (Prod.snd a0))) fun b_1↦some ((((Prod.fst (Prod.fst (Prod.fst b)),Prod.fst (Prod.snd (Prod.fst (Prod.fst b))),Prod.fst (Prod.snd (Prod.snd (Prod.fst (Prod.fst b)))),()),Prod.fst (Prod.fst b_1),()),()),())
def q1a (D:DX)(n:Nat) (a0:(tSch)×qe×Unit):Option ((((tSch)×qe×Unit)×Unit)×Unit):=q7t D n a0
theorem qblf (D:DX)(n:Nat) (a0:(tSch)×
 qe×Unit):rfC qc D n 99 (a0,())=q1a D n a0:=by kernel_rfl

def q2y (D:DX)(n:Nat) (go:qd→Int→tSch→Option ((Bool×Unit)×Unit)) (K0:Bool→Option ((Bool×Unit)×Unit)) (K1:Option ((Bool×Unit)×Unit)) (x0:qd) (x1:Int) (x2:tSch):Option ((Bool×Unit)×Unit):=br (decide (x1<(↑(List.length x0):Int))) (br (decide (0≤x1)&&decide (x1<(↑(List.length x0):Int))) (qi (q0s D (List.getD x0 (Int.toNat x1) (0,0,ByteArray.empty,()))) fun b↦br (!Prod.fst (Prod.fst b)) (K0 false) (br (decide (0≤x1)&&decide (x1<(↑(List.length x0):Int))) (br (decide (0≤x1)&&decide (x1<(↑(List.length (Prod.fst x2)):Int))) (br (Prod.fst (List.getD x0 (Int.toNat x1) (0,0,ByteArray.empty,())) != Prod.fst (Prod.snd (List.getD (Prod.fst x2) (Int.toNat x1) (ByteArray.empty,0,false,())))) (br (decide (0≤x1)&&decide (x1<(↑(List.length (Prod.fst x2)):Int))) (br (Prod.fst (Prod.snd (Prod.snd (List.getD (Prod.fst x2) (Int.toNat x1) (ByteArray.empty,0,false,()))))) (br (decide (0≤x1)&&decide (x1<(↑(List.length x0):Int))) (br (!decide (Prod.fst (List.getD x0 (Int.toNat x1) (0,0,ByteArray.empty,()))=0)) (K0 false) (go x0 (IntKind.wrap IntKind.i64 (x1+1)) x2)) none) (K0 false)) none) (go x0 (IntKind.wrap IntKind.i64 (x1+1)) x2)) none) none)) none) K1
def qld (D:DX)(n:Nat) (K0:Bool→Option ((Bool×Unit)×Unit)) (K1:Option ((Bool×Unit)×Unit)):Nat→(qd)→(Int)→(tSch)→Option ((Bool×Unit)×Unit) | 0=>(fun x0 x1 x2=>none) | m+1=>(fun x0 x1 x2=>q2y D n (qld D n K0 K1 m) K0 K1 x0 x1 x2)
def q6g (D:DX)(n:Nat) (v0_0:Bool):Option ((Bool×Unit)×Unit):=some ((v0_0,()),())
def q6x (D:DX)(n:Nat):Option ((Bool×Unit)×Unit):=some ((true,()),())
def q1c (D:DX)(n:Nat):(qd)→(Int)→(tSch)→Option ((Bool×Unit)×Unit):=(fun x0 x1 x2=>qld D n (fun v0_0=>q6g D n v0_0) (q6x D n) n x0 x1 x2)
def q5j (D:DX)(n:Nat) (lp0:qd→Int→tSch→Option ((Bool×Unit)×Unit)) (a0:tSch) (a1:qd):Option ((Bool×Unit)×Unit):=qi (qqy D a0) fun b↦br (bif !Prod.fst (Prod.fst b) then true else (↑(List.length a1):Int) != (↑(List.length (Prod.fst a0)):Int)) (some ((false,()),())) (lp0 a1 0 a0)
def q5r (D:DX)(n:Nat) (a0:tSch) (a1:qd):Option ((Bool×Unit)×Unit):=q5j D n (q1c D n) a0 a1
def qlh (x0:qd) (x1:Int) (x2:tSch):St:=stq 60 [(1,AV.val (Ty.sl yV) x0),(2,AV.addr 2 []),(5,avI x1)] [(2,Root.mk yS Mk.no x2 true)] 
def qq8 (v0_0:Bool):St:=stq 60 [(4,AV.val Ty.bool v0_0)] [] 
def qqr:St:=stq 60 [] [] 
theorem qblg (D:DX)(n:Nat) (m:Nat) (K:Ex→St→Option (Out ctx 100)) (x0:qd) (x1:Int) (x2:tSch) :
 LQ qc D n 100 [.r,.r,.l,.r,.l] (m+1) (qlh x0 x1 x2) K=q2y D n (fun x0 x1 x2=>LQ qc D n 100 [.r,.r,.l,.r,.l] m (qlh x0 x1 x2) K) (fun v0_0=>K (Ex.ret) (qq8 v0_0)) (K (Ex.exit 0) (qqr)) x0 x1 x2:=by kernel_rfl
theorem q7x (D:DX)(n:Nat) (K:Ex→St→Option (Out ctx 100)):∀ (m:Nat) (x0:qd) (x1:Int) (x2:tSch),LQ qc D n 100 [.r,.r,.l,.r,.l] m (qlh x0 x1 x2) K=qld D n (fun v0_0=>K (Ex.ret) (qq8 v0_0)) (K (Ex.exit 0) (qqr)) m x0 x1 x2
 | 0,x0,x1,x2=>qx ..
 | m+1,x0,x1,x2=>by
  have ih:(fun x0 x1 x2=>LQ qc D n 100 [.r,.r,.l,.r,.l] m (qlh x0 x1 x2) K)=qld D n (fun v0_0=>K (Ex.ret) (qq8 v0_0)) (K (Ex.exit 0) (qqr)) m:=by funext x0 x1 x2;exact q7x D n K m x0 x1 x2
  rw[qblg]
  rw[ih];rfl
theorem qbhz (D:DX)(n:Nat) (v0_0:Bool) :
 (CQ qc D n 100 [] [.r,.r,.l,.r,.l] (qh qc 100)) (Ex.ret) (qq8 v0_0)=q6g D n v0_0:=by kernel_rfl
theorem qbie (D:DX)(n:Nat) :
 (CQ qc D n 100 [] [.r,.r,.l,.r,.l] (qh qc 100)) (Ex.exit 0) (qqr)=q6x D n:=by kernel_rfl
theorem qbiv (D:DX)(n:Nat) (x0:qd) (x1:Int) (x2:tSch) :
 LQ qc D n 100 [.r,.r,.l,.r,.l] n (qlh x0 x1 x2) (CQ qc D n 100 [] [.r,.r,.l,.r,.l] (qh qc 100))=q1c D n x0 x1 x2:=by
 rw[q7x]
 simp only[qbhz,qbie]
 rfl
theorem qbpg (D:DX)(n:Nat) (a0:tSch) (a1:qd):rfC qc D n 100 (a0,(a1,()))=q5r D n a0 a1:=by
 have h:rfC qc D n 100 (a0,(a1,()))=q5j D n (fun x0 x1 x2=>LQ qc D n 100 [.r,.r,.l,.r,.l] n (qlh x0 x1 x2) (CQ qc D n 100 [] [.r,.r,.l,.r,.l] (qh qc 100))) a0 a1:=by kernel_rfl
 rw[h]
 simp only[qbiv]
 rfl

def q2n (D:DX)(n:Nat) (go:qd→Int→(tSch)×qe×Unit→Option ((Int×Unit)×Unit)) (K0:Int→Option ((Int×Unit)×Unit)) (K1:Option ((Int×Unit)×Unit)) (x0:qd) (x1:Int) (x2:(tSch)×qe×Unit):Option ((Int×Unit)×Unit):=br (decide (x1<(↑(List.length (Prod.fst (Prod.snd x2))):Int))) (br (decide (0≤x1)&&decide (x1<(↑(List.length (Prod.fst (Prod.snd x2))):Int))) (qi (qmy D (Prod.fst x2) (List.getD (Prod.fst (Prod.snd x2)) (Int.toNat x1) [])) fun b↦qi (qs5 D (Prod.fst (Prod.fst b)) x0) fun b↦br (Prod.fst (Prod.fst b)) (K0 x1) (go x0 (IntKind.wrap IntKind.i64 (x1+1)) x2)) none) K1
def qle (D:DX)(n:Nat) (K0:Int→Option ((Int×Unit)×Unit)) (K1:Option ((Int×Unit)×Unit)):Nat→(qd)→(Int)→((tSch)×qe×Unit)→Option ((Int×Unit)×Unit) | 0=>(fun x0 x1 x2=>none) | m+1=>(fun x0 x1 x2=>q2n D n (qle D n K0 K1 m) K0 K1 x0 x1 x2)
def q58 (D:DX)(n:Nat) (v0_0:Int):Option ((Int×Unit)×Unit):=some ((v0_0,()),())
def q6l (D:DX)(n:Nat):Option ((Int×Unit)×Unit):=some ((-1,()),())
def qzx (D:DX)(n:Nat):(qd)→(Int)→((tSch)×qe×Unit)→Option ((Int×Unit)×Unit):=(fun x0 x1 x2=>qle D n (fun v0_0=>q58 D n v0_0) (q6l D n) n x0 x1 x2)
def q47 (D:DX)(n:Nat) (lp0:qd→Int→(tSch)×qe×Unit→Option ((Int×Unit)×Unit)) (a0:(tSch)×qe×Unit) (a1:qd):Option ((Int×Unit)×Unit):=lp0 a1 0 a0
def q53 (D:DX)(n:Nat) (a0:(tSch)×qe×Unit) (a1:qd):Option ((Int×Unit)×Unit):=q47 D n (qzx D n) a0 a1
def qlg (x0:qd) (x1:Int) (x2:(tSch)×qe×Unit):St:=stq 24 [(1,AV.val (Ty.sl yV) x0),(2,AV.addr 2 []),(5,avI x1)] [(2,Root.mk (Ty.pair yS (Ty.pair (Ty.sl (Ty.sl yV)) Ty.unit)) Mk.no x2 true)] 
def qra (v0_0:Int):St:=stq 24 [(4,avI v0_0)] [] 
def qqs:St:=stq 24 [] [] 
theorem qbli (D:DX)(n:Nat) (m:Nat) (K:Ex→St→Option (Out ctx 101)) (x0:qd) (x1:Int) (x2:(tSch)×
 qe×Unit) :
 LQ qc D n 101 [.r,.l,.r,.l] (m+1) (qlg x0 x1 x2) K=q2n D n (fun x0 x1 x2=>LQ qc D n 101 [.r,.l,.r,.l] m (qlg x0 x1 x2) K) (fun v0_0=>K (Ex.ret) (qra v0_0)) (K (Ex.exit 0) (qqs)) x0 x1 x2:=by kernel_rfl
theorem q72 (D:DX)(n:Nat) (K:Ex→St→Option (Out ctx 101)):∀ (m:Nat) (x0:qd) (x1:Int) (x2:(tSch)×
 qe×Unit),LQ qc D n 101 [.r,.l,.r,.l] m (qlg x0 x1 x2) K=qle D n (fun v0_0=>K (Ex.ret) (qra v0_0)) (K (Ex.exit 0) (qqs)) m x0 x1 x2
 | 0,x0,x1,x2=>qx ..
 | m+1,x0,x1,x2=>by
  have ih:(fun x0 x1 x2=>LQ qc D n 101 [.r,.l,.r,.l] m (qlg x0 x1 x2) K)=qle D n (fun v0_0=>K (Ex.ret) (qra v0_0)) (K (Ex.exit 0) (qqs)) m:=by funext x0 x1 x2;exact q72 D n K m x0 x1 x2
  rw[qbli]
  rw[ih];rfl
theorem qbkr (D:DX)(n:Nat) (v0_0:Int) :
 (CQ qc D n 101 [] [.r,.l,.r,.l] (qh qc 101)) (Ex.ret) (qra v0_0)=q58 D n v0_0:=by kernel_rfl
theorem qbkw (D:DX)(n:Nat) :
 (CQ qc D n 101 [] [.r,.l,.r,.l] (qh qc 101)) (Ex.exit 0) (qqs)=q6l D n:=by kernel_rfl
theorem qbid (D:DX)(n:Nat) (x0:qd) (x1:Int) (x2:(tSch)×
 qe×Unit) :
 LQ qc D n 101 [.r,.l,.r,.l] n (qlg x0 x1 x2) (CQ qc D n 101 [] [.r,.l,.r,.l] (qh qc 101))=qzx D n x0 x1 x2:=by
 rw[q72]
 simp only[qbkr,qbkw]
 rfl
theorem qbp6 (D:DX)(n:Nat) (a0:(tSch)×
 qe×Unit) (a1:qd):rfC qc D n 101 (a0,(a1,()))=q53 D n a0 a1:=by
 have h:rfC qc D n 101 (a0,(a1,()))=q47 D n (fun x0 x1 x2=>LQ qc D n 101 [.r,.l,.r,.l] n (qlg x0 x1 x2) (CQ qc D n 101 [] [.r,.l,.r,.l] (qh qc 101))) a0 a1:=by kernel_rfl
 rw[h]
 simp only[qbid]
 rfl

def q6z (D:DX)(n:Nat) (a0:tSch) (a1:qd):Option ((qd×Unit)×Unit):=qi (qn7 D a1 (Prod.fst (Prod.snd a0))) fun b↦some ((Prod.fst (Prod.fst b),()),())
def qxz (D:DX)(n:Nat) (a0:tSch) (a1:qd):Option ((qd×Unit)×Unit):=q6z D n a0 a1
theorem qbix (D:DX)(n:Nat) (a0:tSch) (a1:qd):rfC qc D n 102 (a0,(a1,()))=qxz D n a0 a1:=by kernel_rfl


def qtg (D:DX)(n:Nat) (go:qd→qd→Int→Option ((Bool×Unit)×Unit)) (K0:qd→qd→Bool→Option ((Bool×Unit)×Unit)) (K1:qd→qd→Option ((Bool×Unit)×Unit)) (x0:qd) (x1:qd) (x2:Int):Option ((Bool×Unit)×Unit):=br (bif decide (x2<(↑(List.length x0):Int)) then decide (x2<(↑(List.length x1):Int)) else false) (br (decide (0≤x2)&&decide (x2<(↑(List.length x0):Int))) (br (decide (0≤x2)&&decide (x2<(↑(List.length x1):Int))) (qi (qoj D (List.getD x0 (Int.toNat x2) (0,0,ByteArray.empty,())) (List.getD x1 (Int.toNat x2) (0,0,ByteArray.empty,()))) fun b↦br (!Prod.fst (Prod.fst b)) (br (decide (0≤x2)&&decide (x2<(↑(List.length x0):Int))) (br (decide (0≤x2)&&decide (x2<(↑(List.length x1):Int))) (qi (qvv D (List.getD x0 (Int.toNat x2) (0,0,ByteArray.empty,())) (List.getD x1 (Int.toNat x2) (0,0,ByteArray.empty,()))) fun b↦K0 x0 x1 (Prod.fst (Prod.fst b))) none) none) (go x0 x1 (IntKind.wrap IntKind.i64 (x2+1)))) none) none) (K1 x0 x1)
def qg2 (D:DX)(n:Nat) (K0:qd→qd→Bool→Option ((Bool×Unit)×Unit)) (K1:qd→qd→Option ((Bool×Unit)×Unit)):Nat→(qd)→(qd)→(Int)→Option ((Bool×Unit)×Unit) | 0=>(fun x0 x1 x2=>none) | m+1=>(fun x0 x1 x2=>qtg D n (qg2 D n K0 K1 m) K0 K1 x0 x1 x2)
def qp2 (D:DX)(n:Nat) (v0_0:qd) (v0_1:qd) (v0_2:Bool):Option ((Bool×Unit)×Unit):=some ((v0_2,()),())
def qhp (D:DX)(n:Nat) (v1_0:qd) (v1_1:qd):Option ((Bool×Unit)×Unit):=some ((decide ((↑(List.length v1_0):Int)<(↑(List.length v1_1):Int)),()),())
def qr8 (D:DX)(n:Nat):(qd)→(qd)→(Int)→Option ((Bool×Unit)×Unit):=(fun x0 x1 x2=>qg2 D n (fun v0_0 v0_1 v0_2=>qp2 D n v0_0 v0_1 v0_2) (fun v1_0 v1_1=>qhp D n v1_0 v1_1) n x0 x1 x2)
def qwj (D:DX)(n:Nat) (lp0:qd→qd→Int→Option ((Bool×Unit)×Unit)) (a0:qd) (a1:qd):Option ((Bool×Unit)×Unit):=lp0 a0 a1 0
def qwl (D:DX)(n:Nat) (a0:qd) (a1:qd):Option ((Bool×Unit)×Unit):=qwj D n (qr8 D n) a0 a1
def qgv (x0:qd) (x1:qd) (x2:Int):St:=stq 42 [(0,AV.val (Ty.sl yV) x0),(1,AV.val (Ty.sl yV) x1),(5,avI x2)] [] 
def qk4 (v0_0:qd) (v0_1:qd) (v0_2:Bool):St:=stq 42 [(0,AV.val (Ty.sl yV) v0_0),(1,AV.val (Ty.sl yV) v0_1),(4,AV.val Ty.bool v0_2)] [] 
def qk0 (v1_0:qd) (v1_1:qd):St:=stq 42 [(0,AV.val (Ty.sl yV) v1_0),(1,AV.val (Ty.sl yV) v1_1)] [] 
theorem qbdg (D:DX)(n:Nat) (m:Nat) (K:Ex→St→Option (Out ctx 104)) (x0:qd) (x1:qd) (x2:Int) :
 LQ qc D n 104 [.r,.l,.r,.l] (m+1) (qgv x0 x1 x2) K=qtg D n (fun x0 x1 x2=>LQ qc D n 104 [.r,.l,.r,.l] m (qgv x0 x1 x2) K) (fun v0_0 v0_1 v0_2=>K (Ex.ret) (qk4 v0_0 v0_1 v0_2)) (fun v1_0 v1_1=>K (Ex.exit 0) (qk0 v1_0 v1_1)) x0 x1 x2:=by kernel_rfl
theorem q1y (D:DX)(n:Nat) (K:Ex→St→Option (Out ctx 104)):∀ (m:Nat) (x0:qd) (x1:qd) (x2:Int),LQ qc D n 104 [.r,.l,.r,.l] m (qgv x0 x1 x2) K=qg2 D n (fun v0_0 v0_1 v0_2=>K (Ex.ret) (qk4 v0_0 v0_1 v0_2)) (fun v1_0 v1_1=>K (Ex.exit 0) (qk0 v1_0 v1_1)) m x0 x1 x2
 | 0,x0,x1,x2=>qx ..
 | m+1,x0,x1,x2=>by
  have ih:(fun x0 x1 x2=>LQ qc D n 104 [.r,.l,.r,.l] m (qgv x0 x1 x2) K)=qg2 D n (fun v0_0 v0_1 v0_2=>K (Ex.ret) (qk4 v0_0 v0_1 v0_2)) (fun v1_0 v1_1=>K (Ex.exit 0) (qk0 v1_0 v1_1)) m:=by funext x0 x1 x2;exact q1y D n K m x0 x1 x2
  rw[qbdg]
  rw[ih];rfl
theorem qbaa (D:DX)(n:Nat) (v0_0:qd) (v0_1:qd) (v0_2:Bool) :
 (CQ qc D n 104 [] [.r,.l,.r,.l] (qh qc 104)) (Ex.ret) (qk4 v0_0 v0_1 v0_2)=qp2 D n v0_0 v0_1 v0_2:=by kernel_rfl
theorem qbax (D:DX)(n:Nat) (v1_0:qd) (v1_1:qd) :
 (CQ qc D n 104 [] [.r,.l,.r,.l] (qh qc 104)) (Ex.exit 0) (qk0 v1_0 v1_1)=qhp D n v1_0 v1_1:=by kernel_rfl
theorem qbaw (D:DX)(n:Nat) (x0:qd) (x1:qd) (x2:Int) :
 LQ qc D n 104 [.r,.l,.r,.l] n (qgv x0 x1 x2) (CQ qc D n 104 [] [.r,.l,.r,.l] (qh qc 104))=qr8 D n x0 x1 x2:=by
 rw[q1y]
 simp only[qbaa,qbax]
 rfl
theorem qbgu (D:DX)(n:Nat) (a0:qd) (a1:qd):rfC qc D n 104 (a0,(a1,()))=qwl D n a0 a1:=by
 have h:rfC qc D n 104 (a0,(a1,()))=qwj D n (fun x0 x1 x2=>LQ qc D n 104 [.r,.l,.r,.l] n (qgv x0 x1 x2) (CQ qc D n 104 [] [.r,.l,.r,.l] (qh qc 104))) a0 a1:=by kernel_rfl
 rw[h]
 simp only[qbaw]
 rfl

def qxh (D:DX)(n:Nat) (go:qe→Int→qe→Option ((qe×Unit)×Unit)) (K0:qe→Option ((qe×Unit)×Unit)) (x0:qe) (x1:Int) (x2:qe):Option ((qe×Unit)×Unit):=br (decide (x1<(↑(List.length x0):Int))) (br (decide (0≤x1)&&decide (x1<(↑(List.length x0):Int))) (br (decide (0+List.length (List.getD x0 (Int.toNat x1) [])≤qbk)) (br (decide (List.length x2+1≤qbk)) (go x0 (IntKind.wrap IntKind.i64 (x1+1)) (x2++[[]++List.getD x0 (Int.toNat x1) []])) none) none) none) (K0 x2)
def qi8 (D:DX)(n:Nat) (K0:qe→Option ((qe×Unit)×Unit)):Nat→(qe)→(Int)→(qe)→Option ((qe×Unit)×Unit) | 0=>(fun x0 x1 x2=>none) | m+1=>(fun x0 x1 x2=>qxh D n (qi8 D n K0 m) K0 x0 x1 x2)
def q3f (D:DX)(n:Nat) (v0_0:qe):Option ((qe×Unit)×Unit):=some ((v0_0,()),())
def qvq (D:DX)(n:Nat):(qe)→(Int)→(qe)→Option ((qe×Unit)×Unit):=(fun x0 x1 x2=>qi8 D n (fun v0_0=>q3f D n v0_0) n x0 x1 x2)
def q1f (D:DX)(n:Nat) (lp0:qe→Int→qe→Option ((qe×Unit)×Unit)) (a0:qe):Option ((qe×Unit)×Unit):=lp0 a0 0 []
def q0j (D:DX)(n:Nat) (a0:qe):Option ((qe×Unit)×Unit):=q1f D n (qvq D n) a0
def qjd (x0:qe) (x1:Int) (x2:qe):St:=stq 22 [(0,AV.val (Ty.sl (Ty.sl yV)) x0),(3,AV.brw 3 [] 0),(4,avI x1)] [(3,Root.mk (Ty.sl (Ty.sl yV)) (Mk.own 0 (Mk.own 0 (Mk.pr Mk.no (Mk.pr Mk.no (Mk.pr Mk.no Mk.no))))) x2 false)] 
def qnw (v0_0:qe):St:=stq 22 [(3,AV.brw 3 [] 0)] [(3,Root.mk (Ty.sl (Ty.sl yV)) (Mk.own 0 (Mk.own 0 (Mk.pr Mk.no (Mk.pr Mk.no (Mk.pr Mk.no Mk.no))))) v0_0 false)] 
theorem qbgb (D:DX)(n:Nat) (m:Nat) (K:Ex→St→Option (Out ctx 105)) (x0:qe) (x1:Int) (x2:qe) :
 LQ qc D n 105 [.r,.r,.l,.r,.l] (m+1) (qjd x0 x1 x2) K=qxh D n (fun x0 x1 x2=>LQ qc D n 105 [.r,.r,.l,.r,.l] m (qjd x0 x1 x2) K) (fun v0_0=>K (Ex.exit 0) (qnw v0_0)) x0 x1 x2:=by kernel_rfl
theorem q50 (D:DX)(n:Nat) (K:Ex→St→Option (Out ctx 105)):∀ (m:Nat) (x0:qe) (x1:Int) (x2:qe),LQ qc D n 105 [.r,.r,.l,.r,.l] m (qjd x0 x1 x2) K=qi8 D n (fun v0_0=>K (Ex.exit 0) (qnw v0_0)) m x0 x1 x2
 | 0,x0,x1,x2=>qx ..
 | m+1,x0,x1,x2=>by
  have ih:(fun x0 x1 x2=>LQ qc D n 105 [.r,.r,.l,.r,.l] m (qjd x0 x1 x2) K)=qi8 D n (fun v0_0=>K (Ex.exit 0) (qnw v0_0)) m:=by funext x0 x1 x2;exact q50 D n K m x0 x1 x2
  rw[qbgb]
  rw[ih];rfl
theorem qbe0 (D:DX)(n:Nat) (v0_0:qe) :
 (CQ qc D n 105 [] [.r,.r,.l,.r,.l] (qh qc 105)) (Ex.exit 0) (qnw v0_0)=q3f D n v0_0:=by kernel_rfl
theorem qbd3 (D:DX)(n:Nat) (x0:qe) (x1:Int) (x2:qe) :
 LQ qc D n 105 [.r,.r,.l,.r,.l] n (qjd x0 x1 x2) (CQ qc D n 105 [] [.r,.r,.l,.r,.l] (qh qc 105))=qvq D n x0 x1 x2:=by
 rw[q50]
 simp only[qbe0]
 rfl
theorem qbml (D:DX)(n:Nat) (a0:qe):rfC qc D n 105 (a0,())=q0j D n a0:=by
 have h:rfC qc D n 105 (a0,())=q1f D n (fun x0 x1 x2=>LQ qc D n 105 [.r,.r,.l,.r,.l] n (qjd x0 x1 x2) (CQ qc D n 105 [] [.r,.r,.l,.r,.l] (qh qc 105))) a0:=by kernel_rfl
 rw[h]
 simp only[qbd3]
 rfl

def qr9 (D:DX)(n:Nat) (go:tIxs→Int→Int→tSch→tSch→Option (((tSch)×Unit)×Unit)) (K0:tSch→tSch→Option (((tSch)×Unit)×Unit)) (x0:tIxs) (x1:Int) (x2:Int) (x3:tSch) (x4:tSch):Option (((tSch)×Unit)×Unit):=br (decide (x2<x1)) (br (decide (0≤x2)&&decide (x2<(↑(List.length x0):Int))) (qi (qiw D (Prod.fst (Prod.snd (List.getD x0 (Int.toNat x2) (ByteArray.empty,[],false,()))))) fun b↦br (decide (List.length (Prod.fst (Prod.snd (Prod.snd x4)))+1≤qbk)) (go x0 x1 (IntKind.wrap IntKind.i64 (x2+1)) x3 (Prod.fst x4,Prod.fst (Prod.snd x4),Prod.fst (Prod.snd (Prod.snd x4))++[(Prod.fst (List.getD x0 (Int.toNat x2) (ByteArray.empty,[],false,())),Prod.fst (Prod.fst b),Prod.snd (Prod.snd (List.getD x0 (Int.toNat x2) (ByteArray.empty,[],false,()))))],Prod.snd (Prod.snd (Prod.snd x4)))) none) none) (K0 x3 x4)
def qgd (D:DX)(n:Nat) (K0:tSch→tSch→Option (((tSch)×Unit)×Unit)):Nat→(tIxs)→(Int)→(Int)→(tSch)→(tSch)→Option (((tSch)×Unit)×Unit) | 0=>(fun x0 x1 x2 x3 x4=>none) | m+1=>(fun x0 x1 x2 x3 x4=>qr9 D n (qgd D n K0 m) K0 x0 x1 x2 x3 x4)
def qyk (D:DX)(n:Nat) (v0_0:tSch) (v0_1:tSch):Option (((tSch)×Unit)×Unit):=some (((Prod.fst v0_1,Prod.fst (Prod.snd v0_1),Prod.fst (Prod.snd (Prod.snd v0_1)),()),()),())
def qqf (D:DX)(n:Nat):(tIxs)→(Int)→(Int)→(tSch)→(tSch)→Option (((tSch)×Unit)×Unit):=(fun x0 x1 x2 x3 x4=>qgd D n (fun v0_0 v0_1=>qyk D n v0_0 v0_1) n x0 x1 x2 x3 x4)
def qts (D:DX)(n:Nat) (lp0:tIxs→Int→Int→tSch→tSch→Option (((tSch)×Unit)×Unit)) (a0:tSch):Option (((tSch)×Unit)×Unit):=qi (qfw D (Prod.fst a0)) fun b↦qi (qiw D (Prod.fst (Prod.snd a0))) fun b_1↦lp0 (Prod.fst (Prod.snd (Prod.snd a0))) (↑(List.length (Prod.fst (Prod.snd (Prod.snd a0)))):Int) 0 ([],[],[],()) (Prod.fst (Prod.fst b),Prod.fst (Prod.fst b_1),[],())
def qt3 (D:DX)(n:Nat) (a0:tSch):Option (((tSch)×Unit)×Unit):=qts D n (qqf D n) a0
def qge (x0:tIxs) (x1:Int) (x2:Int) (x3:tSch) (x4:tSch):St:=stq 32 [(2,AV.addr 2 []),(3,AV.addr 3 []),(14,AV.val (Ty.sl yX) x0),(15,avI x1),(16,avI x2)] [(2,Root.mk yS (Mk.pr (Mk.own 0 (Mk.pr Mk.no (Mk.pr Mk.no (Mk.pr Mk.no Mk.no)))) (Mk.pr (Mk.own 0 Mk.no) (Mk.pr (Mk.own 0 (Mk.pr Mk.no (Mk.pr (Mk.own 0 Mk.no) (Mk.pr Mk.no Mk.no)))) Mk.no))) x3 true),(3,Root.mk yS (Mk.pr (Mk.own 0 (Mk.pr Mk.no (Mk.pr Mk.no (Mk.pr Mk.no Mk.no)))) (Mk.pr (Mk.own 0 Mk.no) (Mk.pr (Mk.own 0 (Mk.pr Mk.no (Mk.pr (Mk.own 0 Mk.no) (Mk.pr Mk.no Mk.no)))) Mk.no))) x4 true)] 
def qjs (v0_0:tSch) (v0_1:tSch):St:=stq 32 [(2,AV.addr 2 []),(3,AV.addr 3 [])] [(2,Root.mk yS (Mk.pr (Mk.own 0 (Mk.pr Mk.no (Mk.pr Mk.no (Mk.pr Mk.no Mk.no)))) (Mk.pr (Mk.own 0 Mk.no) (Mk.pr (Mk.own 0 (Mk.pr Mk.no (Mk.pr (Mk.own 0 Mk.no) (Mk.pr Mk.no Mk.no)))) Mk.no))) v0_0 true),(3,Root.mk yS (Mk.pr (Mk.own 0 (Mk.pr Mk.no (Mk.pr Mk.no (Mk.pr Mk.no Mk.no)))) (Mk.pr (Mk.own 0 Mk.no) (Mk.pr (Mk.own 0 (Mk.pr Mk.no (Mk.pr (Mk.own 0 Mk.no) (Mk.pr Mk.no Mk.no)))) Mk.no))) v0_1 true)] 
theorem qbae (D:DX)(n:Nat) (m:Nat) (K:Ex→St→Option (Out ctx 107)) (x0:tIxs) (x1:Int) (x2:Int) (x3:tSch) (x4:tSch) :
 LQ qc D n 107 [.r,.r,.l,.r,.l] (m+1) (qge x0 x1 x2 x3 x4) K=qr9 D n (fun x0 x1 x2 x3 x4=>LQ qc D n 107 [.r,.r,.l,.r,.l] m (qge x0 x1 x2 x3 x4) K) (fun v0_0 v0_1=>K (Ex.exit 0) (qjs v0_0 v0_1)) x0 x1 x2 x3 x4:=by kernel_rfl
theorem qy8 (D:DX)(n:Nat) (K:Ex→St→Option (Out ctx 107)):∀ (m:Nat) (x0:tIxs) (x1:Int) (x2:Int) (x3:tSch) (x4:tSch),LQ qc D n 107 [.r,.r,.l,.r,.l] m (qge x0 x1 x2 x3 x4) K=qgd D n (fun v0_0 v0_1=>K (Ex.exit 0) (qjs v0_0 v0_1)) m x0 x1 x2 x3 x4
 | 0,x0,x1,x2,x3,x4=>qx ..
 | m+1,x0,x1,x2,x3,x4=>by
  have ih:(fun x0 x1 x2 x3 x4=>LQ qc D n 107 [.r,.r,.l,.r,.l] m (qge x0 x1 x2 x3 x4) K)=qgd D n (fun v0_0 v0_1=>K (Ex.exit 0) (qjs v0_0 v0_1)) m:=by funext x0 x1 x2 x3 x4;exact qy8 D n K m x0 x1 x2 x3 x4
  rw[qbae]
  rw[ih];rfl
theorem q8x (D:DX)(n:Nat) (v0_0:tSch) (v0_1:tSch) :
 (CQ qc D n 107 [] [.r,.r,.l,.r,.l] (qh qc 107)) (Ex.exit 0) (qjs v0_0 v0_1)=qyk D n v0_0 v0_1:=by kernel_rfl
theorem q9d (D:DX)(n:Nat) (x0:tIxs) (x1:Int) (x2:Int) (x3:tSch) (x4:tSch) :
 LQ qc D n 107 [.r,.r,.l,.r,.l] n (qge x0 x1 x2 x3 x4) (CQ qc D n 107 [] [.r,.r,.l,.r,.l] (qh qc 107))=qqf D n x0 x1 x2 x3 x4:=by
 rw[qy8]
 simp only[q8x]
 rfl
theorem qbd0 (D:DX)(n:Nat) (a0:tSch):rfC qc D n 107 (a0,())=qt3 D n a0:=by
 have h:rfC qc D n 107 (a0,())=qts D n (fun x0 x1 x2 x3 x4=>LQ qc D n 107 [.r,.r,.l,.r,.l] n (qge x0 x1 x2 x3 x4) (CQ qc D n 107 [] [.r,.r,.l,.r,.l] (qh qc 107))) a0:=by kernel_rfl
 rw[h]
 simp only[q9d]
 rfl

def qxo (D:DX)(n:Nat) (go:Int→tSch→tSch→tSch→Option (((tSch)×Unit)×Unit)) (K0:tSch→tSch→Option (((tSch)×Unit)×Unit)) (x0:Int) (x1:tSch) (x2:tSch) (x3:tSch):Option (((tSch)×Unit)×Unit):=br (decide (x0<(↑(List.length (Prod.fst (Prod.snd (Prod.snd x1)))):Int))) (br (decide (0≤x0)&&decide (x0<(↑(List.length (Prod.fst (Prod.snd (Prod.snd x1)))):Int))) (br (decide (0+List.length (Prod.fst (Prod.snd (List.getD (Prod.fst (Prod.snd (Prod.snd x1))) (Int.toNat x0) (ByteArray.empty,[],false,()))))≤qbk)) (br (decide (List.length (Prod.fst (Prod.snd (Prod.snd x3)))+1≤qbk)) (go (IntKind.wrap IntKind.i64 (x0+1)) x1 x2 (Prod.fst x3,Prod.fst (Prod.snd x3),Prod.fst (Prod.snd (Prod.snd x3))++[(Prod.fst (List.getD (Prod.fst (Prod.snd (Prod.snd x1))) (Int.toNat x0) (ByteArray.empty,[],false,())),[]++Prod.fst (Prod.snd (List.getD (Prod.fst (Prod.snd (Prod.snd x1))) (Int.toNat x0) (ByteArray.empty,[],false,()))),Prod.fst (Prod.snd (Prod.snd (List.getD (Prod.fst (Prod.snd (Prod.snd x1))) (Int.toNat x0) (ByteArray.empty,[],false,())))),())],Prod.snd (Prod.snd (Prod.snd x3)))) none) none) none) (K0 x2 x3)
def qje (D:DX)(n:Nat) (K0:tSch→tSch→Option (((tSch)×Unit)×Unit)):Nat→(Int)→(tSch)→(tSch)→(tSch)→Option (((tSch)×Unit)×Unit) | 0=>(fun x0 x1 x2 x3=>none) | m+1=>(fun x0 x1 x2 x3=>qxo D n (qje D n K0 m) K0 x0 x1 x2 x3)
def q3e (D:DX)(n:Nat) (v0_0:tSch) (v0_1:tSch):Option (((tSch)×Unit)×Unit):=some (((Prod.fst v0_1,Prod.fst (Prod.snd v0_1),Prod.fst (Prod.snd (Prod.snd v0_1)),()),()),())
def qwp (D:DX)(n:Nat):(Int)→(tSch)→(tSch)→(tSch)→Option (((tSch)×Unit)×Unit):=(fun x0 x1 x2 x3=>qje D n (fun v0_0 v0_1=>q3e D n v0_0 v0_1) n x0 x1 x2 x3)
def q0l (D:DX)(n:Nat) (lp0:Int→tSch→tSch→tSch→Option (((tSch)×Unit)×Unit)) (a0:tSch):Option (((tSch)×Unit)×Unit):=br (decide (0+List.length (Prod.fst a0)≤qbk)) (br (decide (0+List.length (Prod.fst (Prod.snd a0))≤qbk)) (lp0 0 a0 ([],[],[],()) ([]++Prod.fst a0,[]++Prod.fst (Prod.snd a0),[],())) none) none
def q1e (D:DX)(n:Nat) (a0:tSch):Option (((tSch)×Unit)×Unit):=q0l D n (qwp D n) a0
def qi7 (x0:Int) (x1:tSch) (x2:tSch) (x3:tSch):St:=stq 42 [(1,AV.addr 1 []),(2,AV.addr 2 []),(3,AV.addr 3 []),(4,avI x0)] [(1,Root.mk yS Mk.no x1 true),(2,Root.mk yS (Mk.pr (Mk.own 0 (Mk.pr Mk.no (Mk.pr Mk.no (Mk.pr Mk.no Mk.no)))) (Mk.pr (Mk.own 0 Mk.no) (Mk.pr (Mk.own 0 (Mk.pr Mk.no (Mk.pr (Mk.own 0 Mk.no) (Mk.pr Mk.no Mk.no)))) Mk.no))) x2 true),(3,Root.mk yS (Mk.pr (Mk.own 0 (Mk.pr Mk.no (Mk.pr Mk.no (Mk.pr Mk.no Mk.no)))) (Mk.pr (Mk.own 0 Mk.no) (Mk.pr (Mk.own 0 (Mk.pr Mk.no (Mk.pr (Mk.own 0 Mk.no) (Mk.pr Mk.no Mk.no)))) Mk.no))) x3 true)] 
def qn0 (v0_0:tSch) (v0_1:tSch):St:=stq 42 [(2,AV.addr 2 []),(3,AV.addr 3 [])] [(2,Root.mk yS (Mk.pr (Mk.own 0 (Mk.pr Mk.no (Mk.pr Mk.no (Mk.pr Mk.no Mk.no)))) (Mk.pr (Mk.own 0 Mk.no) (Mk.pr (Mk.own 0 (Mk.pr Mk.no (Mk.pr (Mk.own 0 Mk.no) (Mk.pr Mk.no Mk.no)))) Mk.no))) v0_0 true),(3,Root.mk yS (Mk.pr (Mk.own 0 (Mk.pr Mk.no (Mk.pr Mk.no (Mk.pr Mk.no Mk.no)))) (Mk.pr (Mk.own 0 Mk.no) (Mk.pr (Mk.own 0 (Mk.pr Mk.no (Mk.pr (Mk.own 0 Mk.no) (Mk.pr Mk.no Mk.no)))) Mk.no))) v0_1 true)] 
theorem qbga (D:DX)(n:Nat) (m:Nat) (K:Ex→St→Option (Out ctx 108)) (x0:Int) (x1:tSch) (x2:tSch) (x3:tSch) :
 LQ qc D n 108 [.r,.r,.l,.r,.l] (m+1) (qi7 x0 x1 x2 x3) K=qxo D n (fun x0 x1 x2 x3=>LQ qc D n 108 [.r,.r,.l,.r,.l] m (qi7 x0 x1 x2 x3) K) (fun v0_0 v0_1=>K (Ex.exit 0) (qn0 v0_0 v0_1)) x0 x1 x2 x3:=by kernel_rfl
theorem q5o (D:DX)(n:Nat) (K:Ex→St→Option (Out ctx 108)):∀ (m:Nat) (x0:Int) (x1:tSch) (x2:tSch) (x3:tSch),LQ qc D n 108 [.r,.r,.l,.r,.l] m (qi7 x0 x1 x2 x3) K=qje D n (fun v0_0 v0_1=>K (Ex.exit 0) (qn0 v0_0 v0_1)) m x0 x1 x2 x3
 | 0,x0,x1,x2,x3=>qx ..
 | m+1,x0,x1,x2,x3=>by
  have ih:(fun x0 x1 x2 x3=>LQ qc D n 108 [.r,.r,.l,.r,.l] m (qi7 x0 x1 x2 x3) K)=qje D n (fun v0_0 v0_1=>K (Ex.exit 0) (qn0 v0_0 v0_1)) m:=by funext x0 x1 x2 x3;exact q5o D n K m x0 x1 x2 x3
  rw[qbga]
  rw[ih];rfl
theorem qbff (D:DX)(n:Nat) (v0_0:tSch) (v0_1:tSch) :
 (CQ qc D n 108 [] [.r,.r,.l,.r,.l] (qh qc 108)) (Ex.exit 0) (qn0 v0_0 v0_1)=q3e D n v0_0 v0_1:=by kernel_rfl
theorem qbeh (D:DX)(n:Nat) (x0:Int) (x1:tSch) (x2:tSch) (x3:tSch) :
 LQ qc D n 108 [.r,.r,.l,.r,.l] n (qi7 x0 x1 x2 x3) (CQ qc D n 108 [] [.r,.r,.l,.r,.l] (qh qc 108))=qwp D n x0 x1 x2 x3:=by
 rw[q5o]
 simp only[qbff]
 rfl
theorem qbly (D:DX)(n:Nat) (a0:tSch):rfC qc D n 108 (a0,())=q1e D n a0:=by
 have h:rfC qc D n 108 (a0,())=q0l D n (fun x0 x1 x2 x3=>LQ qc D n 108 [.r,.r,.l,.r,.l] n (qi7 x0 x1 x2 x3) (CQ qc D n 108 [] [.r,.r,.l,.r,.l] (qh qc 108))) a0:=by kernel_rfl
 rw[h]
 simp only[qbeh]
 rfl

def qvx (D:DX)(n:Nat) (go:qd→qd→Int→tSch→Option ((Bool×Unit)×Unit)) (K0:Bool→Option ((Bool×Unit)×Unit)) (K1:Option ((Bool×Unit)×Unit)) (x0:qd) (x1:qd) (x2:Int) (x3:tSch):Option ((Bool×Unit)×Unit):=br (decide (x2<(↑(List.length (Prod.fst (Prod.snd (Prod.snd x3)))):Int))) (br (decide (0≤x2)&&decide (x2<(↑(List.length (Prod.fst (Prod.snd (Prod.snd x3)))):Int))) (qi (qn7 D x0 (Prod.fst (Prod.snd (List.getD (Prod.fst (Prod.snd (Prod.snd x3))) (Int.toNat x2) (ByteArray.empty,[],false,()))))) fun b↦qi (qn7 D x1 (Prod.fst (Prod.snd (List.getD (Prod.fst (Prod.snd (Prod.snd x3))) (Int.toNat x2) (ByteArray.empty,[],false,()))))) fun b_1↦br (Prod.fst (Prod.snd (Prod.snd (List.getD (Prod.fst (Prod.snd (Prod.snd x3))) (Int.toNat x2) (ByteArray.empty,[],false,()))))) (qi (qs5 D (Prod.fst (Prod.fst b)) (Prod.fst (Prod.fst b_1))) fun b_2↦br (Prod.fst (Prod.fst b_2)) (qi (q0c D (Prod.fst (Prod.fst b))) fun b↦br (!Prod.fst (Prod.fst b)) (K0 true) (go x0 x1 (IntKind.wrap IntKind.i64 (x2+1)) x3)) (go x0 x1 (IntKind.wrap IntKind.i64 (x2+1)) x3)) (go x0 x1 (IntKind.wrap IntKind.i64 (x2+1)) x3)) none) K1
def qh7 (D:DX)(n:Nat) (K0:Bool→Option ((Bool×Unit)×Unit)) (K1:Option ((Bool×Unit)×Unit)):Nat→(qd)→(qd)→(Int)→(tSch)→Option ((Bool×Unit)×Unit) | 0=>(fun x0 x1 x2 x3=>none) | m+1=>(fun x0 x1 x2 x3=>qvx D n (qh7 D n K0 K1 m) K0 K1 x0 x1 x2 x3)
def q1u (D:DX)(n:Nat) (v0_0:Bool):Option ((Bool×Unit)×Unit):=some ((v0_0,()),())
def q14 (D:DX)(n:Nat):Option ((Bool×Unit)×Unit):=some ((false,()),())
def qtp (D:DX)(n:Nat):(qd)→(qd)→(Int)→(tSch)→Option ((Bool×Unit)×Unit):=(fun x0 x1 x2 x3=>qh7 D n (fun v0_0=>q1u D n v0_0) (q14 D n) n x0 x1 x2 x3)
def qxv (D:DX)(n:Nat) (lp0:qd→qd→Int→tSch→Option ((Bool×Unit)×Unit)) (a0:tSch) (a1:qd) (a2:qd):Option ((Bool×Unit)×Unit):=lp0 a1 a2 0 a0
def qx9 (D:DX)(n:Nat) (a0:tSch) (a1:qd) (a2:qd):Option ((Bool×Unit)×Unit):=qxv D n (qtp D n) a0 a1 a2
def qio (x0:qd) (x1:qd) (x2:Int) (x3:tSch):St:=stq 43 [(1,AV.val (Ty.sl yV) x0),(2,AV.val (Ty.sl yV) x1),(3,AV.addr 3 []),(7,avI x2)] [(3,Root.mk yS Mk.no x3 true)] 
def qm4 (v0_0:Bool):St:=stq 43 [(6,AV.val Ty.bool v0_0)] [] 
def qmd:St:=stq 43 [] [] 
theorem qbe7 (D:DX)(n:Nat) (m:Nat) (K:Ex→St→Option (Out ctx 111)) (x0:qd) (x1:qd) (x2:Int) (x3:tSch) :
 LQ qc D n 111 [.r,.l,.r,.l] (m+1) (qio x0 x1 x2 x3) K=qvx D n (fun x0 x1 x2 x3=>LQ qc D n 111 [.r,.l,.r,.l] m (qio x0 x1 x2 x3) K) (fun v0_0=>K (Ex.ret) (qm4 v0_0)) (K (Ex.exit 0) (qmd)) x0 x1 x2 x3:=by kernel_rfl
theorem q33 (D:DX)(n:Nat) (K:Ex→St→Option (Out ctx 111)):∀ (m:Nat) (x0:qd) (x1:qd) (x2:Int) (x3:tSch),LQ qc D n 111 [.r,.l,.r,.l] m (qio x0 x1 x2 x3) K=qh7 D n (fun v0_0=>K (Ex.ret) (qm4 v0_0)) (K (Ex.exit 0) (qmd)) m x0 x1 x2 x3
 | 0,x0,x1,x2,x3=>qx ..
 | m+1,x0,x1,x2,x3=>by
  have ih:(fun x0 x1 x2 x3=>LQ qc D n 111 [.r,.l,.r,.l] m (qio x0 x1 x2 x3) K)=qh7 D n (fun v0_0=>K (Ex.ret) (qm4 v0_0)) (K (Ex.exit 0) (qmd)) m:=by funext x0 x1 x2 x3;exact q33 D n K m x0 x1 x2 x3
  rw[qbe7]
  rw[ih];rfl
theorem qbc0 (D:DX)(n:Nat) (v0_0:Bool) :
 (CQ qc D n 111 [] [.r,.l,.r,.l] (qh qc 111)) (Ex.ret) (qm4 v0_0)=q1u D n v0_0:=by kernel_rfl
theorem qbcw (D:DX)(n:Nat) :
 (CQ qc D n 111 [] [.r,.l,.r,.l] (qh qc 111)) (Ex.exit 0) (qmd)=q14 D n:=by kernel_rfl
theorem qbbn (D:DX)(n:Nat) (x0:qd) (x1:qd) (x2:Int) (x3:tSch) :
 LQ qc D n 111 [.r,.l,.r,.l] n (qio x0 x1 x2 x3) (CQ qc D n 111 [] [.r,.l,.r,.l] (qh qc 111))=qtp D n x0 x1 x2 x3:=by
 rw[q33]
 simp only[qbc0,qbcw]
 rfl
theorem qbim (D:DX)(n:Nat) (a0:tSch) (a1:qd) (a2:qd):rfC qc D n 111 (a0,(a1,(a2,())))=qx9 D n a0 a1 a2:=by
 have h:rfC qc D n 111 (a0,(a1,(a2,())))=qxv D n (fun x0 x1 x2 x3=>LQ qc D n 111 [.r,.l,.r,.l] n (qio x0 x1 x2 x3) (CQ qc D n 111 [] [.r,.l,.r,.l] (qh qc 111))) a0 a1 a2:=by kernel_rfl
 rw[h]
 simp only[qbbn]
 rfl

def qvd (D:DX)(n:Nat) (go:Int→tSch→Option ((Bool×Unit)×Unit)) (K0:Bool→tSch→Option ((Bool×Unit)×Unit)) (K1:tSch→Option ((Bool×Unit)×Unit)) (x0:Int) (x1:tSch):Option ((Bool×Unit)×Unit):=br (decide (x0<(↑(List.length (Prod.fst x1)):Int))) (br (decide (0≤x0)&&decide (x0<(↑(List.length (Prod.fst x1)):Int))) (qi (qop D (Prod.fst (List.getD (Prod.fst x1) (Int.toNat x0) (ByteArray.empty,0,false,())))) fun b↦br (!Prod.fst (Prod.fst b)) (K0 false x1) (br (decide (0≤x0)&&decide (x0<(↑(List.length (Prod.fst x1)):Int))) (qi (qgl D (Prod.fst (Prod.snd (List.getD (Prod.fst x1) (Int.toNat x0) (ByteArray.empty,0,false,())))) 1 3) fun b↦br (!Prod.fst (Prod.fst b)) (K0 false x1) (br (decide (0≤x0)&&decide (x0<(↑(List.length (Prod.fst x1)):Int))) (qi (q57 D x1 (Prod.fst (List.getD (Prod.fst x1) (Int.toNat x0) (ByteArray.empty,0,false,())))) fun b↦br (Prod.fst (Prod.fst b) != x0) (K0 false x1) (go (IntKind.wrap IntKind.i64 (x0+1)) x1)) none)) none)) none) (K1 x1)
def qht (D:DX)(n:Nat) (K0:Bool→tSch→Option ((Bool×Unit)×Unit)) (K1:tSch→Option ((Bool×Unit)×Unit)):Nat→(Int)→(tSch)→Option ((Bool×Unit)×Unit) | 0=>(fun x0 x1=>none) | m+1=>(fun x0 x1=>qvd D n (qht D n K0 K1 m) K0 K1 x0 x1)
def q12 (D:DX)(n:Nat) (v0_0:Bool) (v0_1:tSch):Option ((Bool×Unit)×Unit):=some ((v0_0,()),())
def qvj (D:DX)(n:Nat) (go:Int→tSch→Option ((Bool×Unit)×Unit)) (K0:Bool→Option ((Bool×Unit)×Unit)) (K1:Option ((Bool×Unit)×Unit)) (x1_0:Int) (x1_1:tSch):Option ((Bool×Unit)×Unit):=br (decide (x1_0<(↑(List.length (Prod.fst (Prod.snd x1_1))):Int))) (br (decide (0≤x1_0)&&decide (x1_0<(↑(List.length (Prod.fst (Prod.snd x1_1))):Int))) (br (decide (0≤List.getD (Prod.fst (Prod.snd x1_1)) (Int.toNat x1_0) 0)&&decide (List.getD (Prod.fst (Prod.snd x1_1)) (Int.toNat x1_0) 0<(↑(List.length (Prod.fst x1_1)):Int))) (br (Prod.fst (Prod.snd (Prod.snd (List.getD (Prod.fst x1_1) (Int.toNat (List.getD (Prod.fst (Prod.snd x1_1)) (Int.toNat x1_0) 0)) (ByteArray.empty,0,false,()))))) (K0 false) (go (IntKind.wrap IntKind.i64 (x1_0+1)) x1_1)) none) none) K1
def qh2 (D:DX)(n:Nat) (K0:Bool→Option ((Bool×Unit)×Unit)) (K1:Option ((Bool×Unit)×Unit)):Nat→(Int)→(tSch)→Option ((Bool×Unit)×Unit) | 0=>(fun x1_0 x1_1=>none) | m+1=>(fun x1_0 x1_1=>qvj D n (qh2 D n K0 K1 m) K0 K1 x1_0 x1_1)
def q15 (D:DX)(n:Nat) (v0_0:Bool):Option ((Bool×Unit)×Unit):=some ((v0_0,()),())
def q11 (D:DX)(n:Nat):Option ((Bool×Unit)×Unit):=some ((true,()),())
def qui (D:DX)(n:Nat):(Int)→(tSch)→Option ((Bool×Unit)×Unit):=(fun x1_0 x1_1=>qh2 D n (fun v0_0=>q15 D n v0_0) (q11 D n) n x1_0 x1_1)
def qry (D:DX)(n:Nat) (lp1:Int→tSch→Option ((Bool×Unit)×Unit)) (v1_0:tSch):Option ((Bool×Unit)×Unit):=qi (qgl D (↑(List.length (Prod.fst v1_0)):Int) 1 5) fun b↦br (!Prod.fst (Prod.fst b)) (some ((false,()),())) (qi (qoq D v1_0 (Prod.fst (Prod.snd v1_0)) 4) fun b↦br (!Prod.fst (Prod.fst b)) (some ((false,()),())) (qi (qty D v1_0) fun b↦br (!Prod.fst (Prod.fst b)) (some ((false,()),())) (lp1 0 v1_0)))
def qt2 (D:DX)(n:Nat):(Int)→(tSch)→Option ((Bool×Unit)×Unit):=(fun x0 x1=>qht D n (fun v0_0 v0_1=>q12 D n v0_0 v0_1) (fun v1_0=>qry D n (qui D n) v1_0) n x0 x1)
def qw4 (D:DX)(n:Nat) (lp0:Int→tSch→Option ((Bool×Unit)×Unit)) (a0:tSch):Option ((Bool×Unit)×Unit):=lp0 0 a0
def qxy (D:DX)(n:Nat) (a0:tSch):Option ((Bool×Unit)×Unit):=qw4 D n (qt2 D n) a0
def qin (x0:Int) (x1:tSch):St:=stq 76 [(1,AV.addr 1 []),(3,avI x0)] [(1,Root.mk yS Mk.no x1 true)] 
def qmk (v0_0:Bool) (v0_1:tSch):St:=stq 76 [(1,AV.addr 1 []),(2,AV.val Ty.bool v0_0)] [(1,Root.mk yS Mk.no v0_1 true)] 
def qm3 (v1_0:tSch):St:=stq 76 [(1,AV.addr 1 [])] [(1,Root.mk yS Mk.no v1_0 true)] 
def qhx (x1_0:Int) (x1_1:tSch):St:=stq 76 [(1,AV.addr 1 []),(4,avI x1_0)] [(1,Root.mk yS Mk.no x1_1 true)] 
def qmc (v0_0:Bool):St:=stq 76 [(2,AV.val Ty.bool v0_0)] [] 
def qmu:St:=stq 76 [] [] 
theorem qbew (D:DX)(n:Nat) (m:Nat) (K:Ex→St→Option (Out ctx 112)) (x0:Int) (x1:tSch) :
 LQ qc D n 112 [.r,.l,.r,.l] (m+1) (qin x0 x1) K=qvd D n (fun x0 x1=>LQ qc D n 112 [.r,.l,.r,.l] m (qin x0 x1) K) (fun v0_0 v0_1=>K (Ex.ret) (qmk v0_0 v0_1)) (fun v1_0=>K (Ex.exit 0) (qm3 v1_0)) x0 x1:=by kernel_rfl
theorem q3x (D:DX)(n:Nat) (K:Ex→St→Option (Out ctx 112)):∀ (m:Nat) (x0:Int) (x1:tSch),LQ qc D n 112 [.r,.l,.r,.l] m (qin x0 x1) K=qht D n (fun v0_0 v0_1=>K (Ex.ret) (qmk v0_0 v0_1)) (fun v1_0=>K (Ex.exit 0) (qm3 v1_0)) m x0 x1
 | 0,x0,x1=>qx ..
 | m+1,x0,x1=>by
  have ih:(fun x0 x1=>LQ qc D n 112 [.r,.l,.r,.l] m (qin x0 x1) K)=qht D n (fun v0_0 v0_1=>K (Ex.ret) (qmk v0_0 v0_1)) (fun v1_0=>K (Ex.exit 0) (qm3 v1_0)) m:=by funext x0 x1;exact q3x D n K m x0 x1
  rw[qbew]
  rw[ih];rfl
theorem qbdy (D:DX)(n:Nat) (m:Nat) (K:Ex→St→Option (Out ctx 112)) (x1_0:Int) (x1_1:tSch) :
 LQ qc D n 112 [.r,.r,.r,.l,.r,.l] (m+1) (qhx x1_0 x1_1) K=qvj D n (fun x1_0 x1_1=>LQ qc D n 112 [.r,.r,.r,.l,.r,.l] m (qhx x1_0 x1_1) K) (fun v0_0=>K (Ex.ret) (qmc v0_0)) (K (Ex.exit 2) (qmu)) x1_0 x1_1:=by kernel_rfl
theorem q3d (D:DX)(n:Nat) (K:Ex→St→Option (Out ctx 112)):∀ (m:Nat) (x1_0:Int) (x1_1:tSch),LQ qc D n 112 [.r,.r,.r,.l,.r,.l] m (qhx x1_0 x1_1) K=qh2 D n (fun v0_0=>K (Ex.ret) (qmc v0_0)) (K (Ex.exit 2) (qmu)) m x1_0 x1_1
 | 0,x1_0,x1_1=>qx ..
 | m+1,x1_0,x1_1=>by
  have ih:(fun x1_0 x1_1=>LQ qc D n 112 [.r,.r,.r,.l,.r,.l] m (qhx x1_0 x1_1) K)=qh2 D n (fun v0_0=>K (Ex.ret) (qmc v0_0)) (K (Ex.exit 2) (qmu)) m:=by funext x1_0 x1_1;exact q3d D n K m x1_0 x1_1
  rw[qbdy]
  rw[ih];rfl
theorem qbbg (D:DX)(n:Nat) (v0_0:Bool) :
 (CQ qc D n 112 [] [.r,.r,.r,.l,.r,.l] (qh qc 112)) (Ex.ret) (qmc v0_0)=q15 D n v0_0:=by kernel_rfl
theorem qbbc (D:DX)(n:Nat) :
 (CQ qc D n 112 [] [.r,.r,.r,.l,.r,.l] (qh qc 112)) (Ex.exit 2) (qmu)=q11 D n:=by kernel_rfl
theorem qba7 (D:DX)(n:Nat) (x1_0:Int) (x1_1:tSch) :
 LQ qc D n 112 [.r,.r,.r,.l,.r,.l] n (qhx x1_0 x1_1) (CQ qc D n 112 [] [.r,.r,.r,.l,.r,.l] (qh qc 112))=qui D n x1_0 x1_1:=by
 rw[q3d]
 simp only[qbbg,qbbc]
 rfl
theorem qbbh (D:DX)(n:Nat) (v0_0:Bool) (v0_1:tSch) :
 (CQ qc D n 112 [] [.r,.l,.r,.l] (qh qc 112)) (Ex.ret) (qmk v0_0 v0_1)=q12 D n v0_0 v0_1:=by kernel_rfl
theorem qba3 (D:DX)(n:Nat) (v1_0:tSch) :
 (CQ qc D n 112 [] [.r,.l,.r,.l] (qh qc 112)) (Ex.exit 0) (qm3 v1_0)=qry D n (fun x1_0 x1_1=>LQ qc D n 112 [.r,.r,.r,.l,.r,.l] n (qhx x1_0 x1_1) (CQ qc D n 112 [] [.r,.r,.r,.l,.r,.l] (qh qc 112))) v1_0:=by kernel_rfl
theorem qbda (D:DX)(n:Nat) (x0:Int) (x1:tSch) :
 LQ qc D n 112 [.r,.l,.r,.l] n (qin x0 x1) (CQ qc D n 112 [] [.r,.l,.r,.l] (qh qc 112))=qt2 D n x0 x1:=by
 rw[q3x]
 simp only[qbbh,qba3,qba7]
 rfl
theorem qbhs (D:DX)(n:Nat) (a0:tSch):rfC qc D n 112 (a0,())=qxy D n a0:=by
 have h:rfC qc D n 112 (a0,())=qw4 D n (fun x0 x1=>LQ qc D n 112 [.r,.l,.r,.l] n (qin x0 x1) (CQ qc D n 112 [] [.r,.l,.r,.l] (qh qc 112))) a0:=by kernel_rfl
 rw[h]
 simp only[qbda]
 rfl

def qbfx (D:DX)(n:Nat) (a0:Int) (a1:Int) (a2:Int):Option ((Bool×Unit)×Unit):=some ((bif decide (a0≥a1) then decide (a0≤a2) else false,()),())
def q63 (D:DX)(n:Nat) (a0:Int) (a1:Int) (a2:Int):Option ((Bool×Unit)×Unit):=qbfx D n a0 a1 a2
theorem qbq9 (D:DX)(n:Nat) (a0:Int) (a1:Int) (a2:Int):rfC qc D n 117 (a0,(a1,(a2,())))=q63 D n a0 a1 a2:=by kernel_rfl

def qx8 (D:DX)(n:Nat) (go:qd→List Int→Int→qd→Option ((qd×Unit)×Unit)) (K0:qd→Option ((qd×Unit)×Unit)) (x0:qd) (x1:List Int) (x2:Int) (x3:qd):Option ((qd×Unit)×Unit):=br (decide (x2<(↑(List.length x1):Int))) (br (decide (0≤x2)&&decide (x2<(↑(List.length x1):Int))) (qi (qgl D (List.getD x1 (Int.toNat x2) 0) 0 (IntKind.wrap IntKind.i64 ((↑(List.length x0):Int) - 1))) fun b↦br (Prod.fst (Prod.fst b)) (br (decide (0≤x2)&&decide (x2<(↑(List.length x1):Int))) (br (decide (0≤List.getD x1 (Int.toNat x2) 0)&&decide (List.getD x1 (Int.toNat x2) 0<(↑(List.length x0):Int))) (br (decide (List.length x3+1≤qbk)) (go x0 x1 (IntKind.wrap IntKind.i64 (x2+1)) (x3++[List.getD x0 (Int.toNat (List.getD x1 (Int.toNat x2) 0)) (0,0,ByteArray.empty,())])) none) none) none) (go x0 x1 (IntKind.wrap IntKind.i64 (x2+1)) x3)) none) (K0 x3)
def qi5 (D:DX)(n:Nat) (K0:qd→Option ((qd×Unit)×Unit)):Nat→(qd)→(List Int)→(Int)→(qd)→Option ((qd×Unit)×Unit) | 0=>(fun x0 x1 x2 x3=>none) | m+1=>(fun x0 x1 x2 x3=>qx8 D n (qi5 D n K0 m) K0 x0 x1 x2 x3)
def q3j (D:DX)(n:Nat) (v0_0:qd):Option ((qd×Unit)×Unit):=some ((v0_0,()),())
def qv0 (D:DX)(n:Nat):(qd)→(List Int)→(Int)→(qd)→Option ((qd×Unit)×Unit):=(fun x0 x1 x2 x3=>qi5 D n (fun v0_0=>q3j D n v0_0) n x0 x1 x2 x3)
def q0x (D:DX)(n:Nat) (lp0:qd→List Int→Int→qd→Option ((qd×Unit)×Unit)) (a0:qd) (a1:List Int):Option ((qd×Unit)×Unit):=lp0 a0 a1 0 []
def q04 (D:DX)(n:Nat) (a0:qd) (a1:List Int):Option ((qd×Unit)×Unit):=q0x D n (qv0 D n) a0 a1
def qjf (x0:qd) (x1:List Int) (x2:Int) (x3:qd):St:=stq 33 [(0,AV.val (Ty.sl yV) x0),(1,AV.val (Ty.sl yI) x1),(5,AV.brw 5 [] 0),(6,avI x2)] [(5,Root.mk (Ty.sl yV) (Mk.own 0 (Mk.pr Mk.no (Mk.pr Mk.no (Mk.pr Mk.no Mk.no)))) x3 false)] 
def qnu (v0_0:qd):St:=stq 33 [(5,AV.brw 5 [] 0)] [(5,Root.mk (Ty.sl yV) (Mk.own 0 (Mk.pr Mk.no (Mk.pr Mk.no (Mk.pr Mk.no Mk.no)))) v0_0 false)] 
theorem qbhe (D:DX)(n:Nat) (m:Nat) (K:Ex→St→Option (Out ctx 119)) (x0:qd) (x1:List Int) (x2:Int) (x3:qd) :
 LQ qc D n 119 [.r,.r,.l,.r,.l] (m+1) (qjf x0 x1 x2 x3) K=qx8 D n (fun x0 x1 x2 x3=>LQ qc D n 119 [.r,.r,.l,.r,.l] m (qjf x0 x1 x2 x3) K) (fun v0_0=>K (Ex.exit 0) (qnu v0_0)) x0 x1 x2 x3:=by kernel_rfl
theorem q4v (D:DX)(n:Nat) (K:Ex→St→Option (Out ctx 119)):∀ (m:Nat) (x0:qd) (x1:List Int) (x2:Int) (x3:qd),LQ qc D n 119 [.r,.r,.l,.r,.l] m (qjf x0 x1 x2 x3) K=qi5 D n (fun v0_0=>K (Ex.exit 0) (qnu v0_0)) m x0 x1 x2 x3
 | 0,x0,x1,x2,x3=>qx ..
 | m+1,x0,x1,x2,x3=>by
  have ih:(fun x0 x1 x2 x3=>LQ qc D n 119 [.r,.r,.l,.r,.l] m (qjf x0 x1 x2 x3) K)=qi5 D n (fun v0_0=>K (Ex.exit 0) (qnu v0_0)) m:=by funext x0 x1 x2 x3;exact q4v D n K m x0 x1 x2 x3
  rw[qbhe]
  rw[ih];rfl
theorem qbez (D:DX)(n:Nat) (v0_0:qd) :
 (CQ qc D n 119 [] [.r,.r,.l,.r,.l] (qh qc 119)) (Ex.exit 0) (qnu v0_0)=q3j D n v0_0:=by kernel_rfl
theorem qbeo (D:DX)(n:Nat) (x0:qd) (x1:List Int) (x2:Int) (x3:qd) :
 LQ qc D n 119 [.r,.r,.l,.r,.l] n (qjf x0 x1 x2 x3) (CQ qc D n 119 [] [.r,.r,.l,.r,.l] (qh qc 119))=qv0 D n x0 x1 x2 x3:=by
 rw[q4v]
 simp only[qbez]
 rfl
theorem qbma (D:DX)(n:Nat) (a0:qd) (a1:List Int):rfC qc D n 119 (a0,(a1,()))=q04 D n a0 a1:=by
 have h:rfC qc D n 119 (a0,(a1,()))=q0x D n (fun x0 x1 x2 x3=>LQ qc D n 119 [.r,.r,.l,.r,.l] n (qjf x0 x1 x2 x3) (CQ qc D n 119 [] [.r,.r,.l,.r,.l] (qh qc 119))) a0 a1:=by kernel_rfl
 rw[h]
 simp only[qbeo]
 rfl

def q6y (D:DX)(n:Nat) (a0:tSch) (a1:Int):Option ((Int×Unit)×Unit):=qi (q2g D (Prod.fst a0) a1) fun b↦br (decide (Prod.fst (Prod.fst b)<0)) (some ((-1,()),())) (qi (qu3 D (Prod.fst (Prod.snd a0)) (Prod.fst (Prod.fst b))) fun b↦br (decide (Prod.fst (Prod.fst b)<0)) (some ((-1,()),())) (qi (qyl D (Prod.fst (Prod.snd (Prod.snd a0))) (Prod.fst (Prod.fst b))) fun b↦br (decide (Prod.fst (Prod.fst b)<0)) (some ((-1,()),())) (some ((Prod.fst (Prod.fst b),()),()))))
def qww (D:DX)(n:Nat) (a0:tSch) (a1:Int):Option ((Int×Unit)×Unit):=q6y D n a0 a1
theorem qbh3 (D:DX)(n:Nat) (a0:tSch) (a1:Int):rfC qc D n 120 (a0,(a1,()))=qww D n a0 a1:=by kernel_rfl

def qtl (D:DX)(n:Nat) (go:qe→Int→Int→Option ((Int×Unit)×Unit)) (K0:Int→Int→Option ((Int×Unit)×Unit)) (K1:Int→Option ((Int×Unit)×Unit)) (x0:qe) (x1:Int) (x2:Int):Option ((Int×Unit)×Unit):=br (decide (x2<(↑(List.length x0):Int))) (br (decide (0≤x2)&&decide (x2<(↑(List.length x0):Int))) (qi (ql5 D (List.getD x0 (Int.toNat x2) []) x1) fun b↦br (decide (Prod.fst (Prod.fst b)<0)) (K0 (Prod.fst (Prod.fst b)) (-1)) (go x0 (Prod.fst (Prod.fst b)) (IntKind.wrap IntKind.i64 (x2+1)))) none) (K1 x1)
def qgz (D:DX)(n:Nat) (K0:Int→Int→Option ((Int×Unit)×Unit)) (K1:Int→Option ((Int×Unit)×Unit)):Nat→(qe)→(Int)→(Int)→Option ((Int×Unit)×Unit) | 0=>(fun x0 x1 x2=>none) | m+1=>(fun x0 x1 x2=>qtl D n (qgz D n K0 K1 m) K0 K1 x0 x1 x2)
def qqp (D:DX)(n:Nat) (v0_0:Int) (v0_1:Int):Option ((Int×Unit)×Unit):=some ((v0_1,()),())
def qqa (D:DX)(n:Nat) (v1_0:Int):Option ((Int×Unit)×Unit):=some ((v1_0,()),())
def qrq (D:DX)(n:Nat):(qe)→(Int)→(Int)→Option ((Int×Unit)×Unit):=(fun x0 x1 x2=>qgz D n (fun v0_0 v0_1=>qqp D n v0_0 v0_1) (fun v1_0=>qqa D n v1_0) n x0 x1 x2)
def qwo (D:DX)(n:Nat) (lp0:qe→Int→Int→Option ((Int×Unit)×Unit)) (a0:qe) (a1:Int):Option ((Int×Unit)×Unit):=br (decide (IntKind.wrap IntKind.i64 (a1 - (↑(List.length a0):Int))<0)) (some ((-1,()),())) (lp0 a0 (IntKind.wrap IntKind.i64 (a1 - (↑(List.length a0):Int))) 0)
def qvp (D:DX)(n:Nat) (a0:qe) (a1:Int):Option ((Int×Unit)×Unit):=qwo D n (qrq D n) a0 a1
def qgu (x0:qe) (x1:Int) (x2:Int):St:=stq 27 [(0,AV.val (Ty.sl (Ty.sl yV)) x0),(1,avI x1),(5,avI x2)] [] 
def qks (v0_0:Int) (v0_1:Int):St:=stq 27 [(1,avI v0_0),(4,avI v0_1)] [] 
def qk6 (v1_0:Int):St:=stq 27 [(1,avI v1_0)] [] 
theorem qbba (D:DX)(n:Nat) (m:Nat) (K:Ex→St→Option (Out ctx 121)) (x0:qe) (x1:Int) (x2:Int) :
 LQ qc D n 121 [.r,.r,.r,.l,.r,.l] (m+1) (qgu x0 x1 x2) K=qtl D n (fun x0 x1 x2=>LQ qc D n 121 [.r,.r,.r,.l,.r,.l] m (qgu x0 x1 x2) K) (fun v0_0 v0_1=>K (Ex.ret) (qks v0_0 v0_1)) (fun v1_0=>K (Ex.exit 0) (qk6 v1_0)) x0 x1 x2:=by kernel_rfl
theorem q18 (D:DX)(n:Nat) (K:Ex→St→Option (Out ctx 121)):∀ (m:Nat) (x0:qe) (x1:Int) (x2:Int),LQ qc D n 121 [.r,.r,.r,.l,.r,.l] m (qgu x0 x1 x2) K=qgz D n (fun v0_0 v0_1=>K (Ex.ret) (qks v0_0 v0_1)) (fun v1_0=>K (Ex.exit 0) (qk6 v1_0)) m x0 x1 x2
 | 0,x0,x1,x2=>qx ..
 | m+1,x0,x1,x2=>by
  have ih:(fun x0 x1 x2=>LQ qc D n 121 [.r,.r,.r,.l,.r,.l] m (qgu x0 x1 x2) K)=qgz D n (fun v0_0 v0_1=>K (Ex.ret) (qks v0_0 v0_1)) (fun v1_0=>K (Ex.exit 0) (qk6 v1_0)) m:=by funext x0 x1 x2;exact q18 D n K m x0 x1 x2
  rw[qbba]
  rw[ih];rfl
theorem qba0 (D:DX)(n:Nat) (v0_0:Int) (v0_1:Int) :
 (CQ qc D n 121 [] [.r,.r,.r,.l,.r,.l] (qh qc 121)) (Ex.ret) (qks v0_0 v0_1)=qqp D n v0_0 v0_1:=by kernel_rfl
theorem qbac (D:DX)(n:Nat) (v1_0:Int) :
 (CQ qc D n 121 [] [.r,.r,.r,.l,.r,.l] (qh qc 121)) (Ex.exit 0) (qk6 v1_0)=qqa D n v1_0:=by kernel_rfl
theorem qbaf (D:DX)(n:Nat) (x0:qe) (x1:Int) (x2:Int) :
 LQ qc D n 121 [.r,.r,.r,.l,.r,.l] n (qgu x0 x1 x2) (CQ qc D n 121 [] [.r,.r,.r,.l,.r,.l] (qh qc 121))=qrq D n x0 x1 x2:=by
 rw[q18]
 simp only[qba0,qbac]
 rfl
theorem qbgn (D:DX)(n:Nat) (a0:qe) (a1:Int):rfC qc D n 121 (a0,(a1,()))=qvp D n a0 a1:=by
 have h:rfC qc D n 121 (a0,(a1,()))=qwo D n (fun x0 x1 x2=>LQ qc D n 121 [.r,.r,.r,.l,.r,.l] n (qgu x0 x1 x2) (CQ qc D n 121 [] [.r,.r,.r,.l,.r,.l] (qh qc 121))) a0 a1:=by kernel_rfl
 rw[h]
 simp only[qbaf]
 rfl

def q71 (D:DX)(n:Nat) (a0:Int×Int×ByteArray×Unit) (a1:Int):Option ((Int×Unit)×Unit):=br (decide (IntKind.wrap IntKind.i64 (a1 - (↑(ByteArray.size (Prod.fst (Prod.snd (Prod.snd a0)))):Int))<0)) (some ((-1,()),())) (some ((IntKind.wrap IntKind.i64 (a1 - (↑(ByteArray.size (Prod.fst (Prod.snd (Prod.snd a0)))):Int)),()),()))
def qz1 (D:DX)(n:Nat) (a0:Int×Int×ByteArray×Unit) (a1:Int):Option ((Int×Unit)×Unit):=q71 D n a0 a1
theorem qbk6 (D:DX)(n:Nat) (a0:Int×Int×ByteArray×Unit) (a1:Int):rfC qc D n 122 (a0,(a1,()))=qz1 D n a0 a1:=by kernel_rfl

def q6a (D:DX)(n:Nat) (a0:tSch):Option (((tSch)×Unit)×Unit):=qi (q2t D (Prod.fst a0)) fun b↦qi (qu4 D (Prod.fst (Prod.snd a0))) fun b_1↦qi (qyi D (Prod.fst (Prod.snd (Prod.snd a0)))) fun b_2↦some (((Prod.fst (Prod.fst b),Prod.fst (Prod.fst b_1),Prod.fst (Prod.fst b_2),()),()),())
def qx7 (D:DX)(n:Nat) (a0:tSch):Option (((tSch)×Unit)×Unit):=q6a D n a0
theorem qbh9 (D:DX)(n:Nat) (a0:tSch):rfC qc D n 123 (a0,())=qx7 D n a0:=by kernel_rfl

def quc (D:DX)(n:Nat) (go:qe→Int→qe→Option ((qe×Unit)×Unit)) (K0:qe→Option ((qe×Unit)×Unit)) (x0:qe) (x1:Int) (x2:qe):Option ((qe×Unit)×Unit):=br (decide (x1<(↑(List.length x0):Int))) (br (decide (0≤x1)&&decide (x1<(↑(List.length x0):Int))) (qi (qe2 D (List.getD x0 (Int.toNat x1) [])) fun b↦br (decide (0≤x1)&&decide (x1<(↑(List.length x2):Int))) (go x0 (IntKind.wrap IntKind.i64 (x1+1)) (List.set x2 (Int.toNat x1) (Prod.fst (Prod.fst b)))) none) none) (K0 x2)
def qhb (D:DX)(n:Nat) (K0:qe→Option ((qe×Unit)×Unit)):Nat→(qe)→(Int)→(qe)→Option ((qe×Unit)×Unit) | 0=>(fun x0 x1 x2=>none) | m+1=>(fun x0 x1 x2=>quc D n (qhb D n K0 m) K0 x0 x1 x2)
def qkw (D:DX)(n:Nat) (v0_0:qe):Option ((qe×Unit)×Unit):=some ((v0_0,()),())
def qrv (D:DX)(n:Nat):(qe)→(Int)→(qe)→Option ((qe×Unit)×Unit):=(fun x0 x1 x2=>qhb D n (fun v0_0=>qkw D n v0_0) n x0 x1 x2)
def qvn (D:DX)(n:Nat) (lp0:qe→Int→qe→Option ((qe×Unit)×Unit)) (a0:qe):Option ((qe×Unit)×Unit):=br (decide (0≤(↑(List.length a0):Int))&&decide ((↑(List.length a0):Int)≤(↑(List.length a0):Int))&&decide ((↑(List.length a0):Int)≤(↑qbk:Int))) (lp0 a0 0 (List.replicate (Int.toNat (↑(List.length a0):Int)) [])) none
def qv4 (D:DX)(n:Nat) (a0:qe):Option ((qe×Unit)×Unit):=qvn D n (qrv D n) a0
def qg3 (x0:qe) (x1:Int) (x2:qe):St:=stq 23 [(0,AV.val (Ty.sl (Ty.sl yV)) x0),(3,AV.brw 3 [] 0),(4,avI x1)] [(3,Root.mk (Ty.sl (Ty.sl yV)) (Mk.own 0 (Mk.own 0 (Mk.pr Mk.no (Mk.pr Mk.no (Mk.pr Mk.no Mk.no))))) x2 false)] 
def qkt (v0_0:qe):St:=stq 23 [(3,AV.brw 3 [] 0)] [(3,Root.mk (Ty.sl (Ty.sl yV)) (Mk.own 0 (Mk.own 0 (Mk.pr Mk.no (Mk.pr Mk.no (Mk.pr Mk.no Mk.no))))) v0_0 false)] 
theorem qbcm (D:DX)(n:Nat) (m:Nat) (K:Ex→St→Option (Out ctx 124)) (x0:qe) (x1:Int) (x2:qe) :
 LQ qc D n 124 [.r,.r,.l,.r,.l] (m+1) (qg3 x0 x1 x2) K=quc D n (fun x0 x1 x2=>LQ qc D n 124 [.r,.r,.l,.r,.l] m (qg3 x0 x1 x2) K) (fun v0_0=>K (Ex.exit 0) (qkt v0_0)) x0 x1 x2:=by kernel_rfl
theorem q16 (D:DX)(n:Nat) (K:Ex→St→Option (Out ctx 124)):∀ (m:Nat) (x0:qe) (x1:Int) (x2:qe),LQ qc D n 124 [.r,.r,.l,.r,.l] m (qg3 x0 x1 x2) K=qhb D n (fun v0_0=>K (Ex.exit 0) (qkt v0_0)) m x0 x1 x2
 | 0,x0,x1,x2=>qx ..
 | m+1,x0,x1,x2=>by
  have ih:(fun x0 x1 x2=>LQ qc D n 124 [.r,.r,.l,.r,.l] m (qg3 x0 x1 x2) K)=qhb D n (fun v0_0=>K (Ex.exit 0) (qkt v0_0)) m:=by funext x0 x1 x2;exact q16 D n K m x0 x1 x2
  rw[qbcm]
  rw[ih];rfl
theorem qbap (D:DX)(n:Nat) (v0_0:qe) :
 (CQ qc D n 124 [] [.r,.r,.l,.r,.l] (qh qc 124)) (Ex.exit 0) (qkt v0_0)=qkw D n v0_0:=by kernel_rfl
theorem q95 (D:DX)(n:Nat) (x0:qe) (x1:Int) (x2:qe) :
 LQ qc D n 124 [.r,.r,.l,.r,.l] n (qg3 x0 x1 x2) (CQ qc D n 124 [] [.r,.r,.l,.r,.l] (qh qc 124))=qrv D n x0 x1 x2:=by
 rw[q16]
 simp only[qbap]
 rfl
theorem qbg8 (D:DX)(n:Nat) (a0:qe):rfC qc D n 124 (a0,())=qv4 D n a0:=by
 have h:rfC qc D n 124 (a0,())=qvn D n (fun x0 x1 x2=>LQ qc D n 124 [.r,.r,.l,.r,.l] n (qg3 x0 x1 x2) (CQ qc D n 124 [] [.r,.r,.l,.r,.l] (qh qc 124))) a0:=by kernel_rfl
 rw[h]
 simp only[q95]
 rfl

def qbk9 (D:DX)(n:Nat) (a0:Int×Int×ByteArray×Unit):Option ((tVal×Unit)×Unit):=some (((Prod.fst a0,Prod.fst (Prod.snd a0),Prod.fst (Prod.snd (Prod.snd a0)),()),()),())
def q7c (D:DX)(n:Nat) (a0:Int×Int×ByteArray×Unit):Option ((tVal×Unit)×Unit):=qbk9 D n a0
theorem qbk1 (D:DX)(n:Nat) (a0:Int×Int×ByteArray×Unit):rfC qc D n 125 (a0,())=q7c D n a0:=by kernel_rfl

def q6r (D:DX)(n:Nat) (a0:tSch) (a1:tSch):Option ((Bool×Unit)×Unit):=qi (q2r D (Prod.fst a0) (Prod.fst a1)) fun b↦br (!Prod.fst (Prod.fst b)) (some ((false,()),())) (qi (qu7 D (Prod.fst (Prod.snd a0)) (Prod.fst (Prod.snd a1))) fun b↦br (!Prod.fst (Prod.fst b)) (some ((false,()),())) (qi (qyj D (Prod.fst (Prod.snd (Prod.snd a0))) (Prod.fst (Prod.snd (Prod.snd a1)))) fun b↦br (!Prod.fst (Prod.fst b)) (some ((false,()),())) (some ((true,()),()))))
def qyo (D:DX)(n:Nat) (a0:tSch) (a1:tSch):Option ((Bool×Unit)×Unit):=q6r D n a0 a1
theorem qbin (D:DX)(n:Nat) (a0:tSch) (a1:tSch):rfC qc D n 126 (a0,(a1,()))=qyo D n a0 a1:=by kernel_rfl

def qtv (D:DX)(n:Nat) (go:qe→qe→Int→Option ((Bool×Unit)×Unit)) (K0:Bool→Option ((Bool×Unit)×Unit)) (K1:Option ((Bool×Unit)×Unit)) (x0:qe) (x1:qe) (x2:Int):Option ((Bool×Unit)×Unit):=br (decide (x2<(↑(List.length x0):Int))) (br (decide (0≤x2)&&decide (x2<(↑(List.length x0):Int))) (br (decide (0≤x2)&&decide (x2<(↑(List.length x1):Int))) (qi (qm8 D (List.getD x0 (Int.toNat x2) []) (List.getD x1 (Int.toNat x2) [])) fun b↦br (!Prod.fst (Prod.fst b)) (K0 false) (go x0 x1 (IntKind.wrap IntKind.i64 (x2+1)))) none) none) K1
def qg8 (D:DX)(n:Nat) (K0:Bool→Option ((Bool×Unit)×Unit)) (K1:Option ((Bool×Unit)×Unit)):Nat→(qe)→(qe)→(Int)→Option ((Bool×Unit)×Unit) | 0=>(fun x0 x1 x2=>none) | m+1=>(fun x0 x1 x2=>qtv D n (qg8 D n K0 K1 m) K0 K1 x0 x1 x2)
def qkx (D:DX)(n:Nat) (v0_0:Bool):Option ((Bool×Unit)×Unit):=some ((v0_0,()),())
def qk5 (D:DX)(n:Nat):Option ((Bool×Unit)×Unit):=some ((true,()),())
def qre (D:DX)(n:Nat):(qe)→(qe)→(Int)→Option ((Bool×Unit)×Unit):=(fun x0 x1 x2=>qg8 D n (fun v0_0=>qkx D n v0_0) (qk5 D n) n x0 x1 x2)
def qwm (D:DX)(n:Nat) (lp0:qe→qe→Int→Option ((Bool×Unit)×Unit)) (a0:qe) (a1:qe):Option ((Bool×Unit)×Unit):=br ((↑(List.length a0):Int) != (↑(List.length a1):Int)) (some ((false,()),())) (lp0 a0 a1 0)
def qwk (D:DX)(n:Nat) (a0:qe) (a1:qe):Option ((Bool×Unit)×Unit):=qwm D n (qre D n) a0 a1
def qgw (x0:qe) (x1:qe) (x2:Int):St:=stq 27 [(0,AV.val (Ty.sl (Ty.sl yV)) x0),(1,AV.val (Ty.sl (Ty.sl yV)) x1),(5,avI x2)] [] 
def qk7 (v0_0:Bool):St:=stq 27 [(4,AV.val Ty.bool v0_0)] [] 
def qk8:St:=stq 27 [] [] 
theorem qbc6 (D:DX)(n:Nat) (m:Nat) (K:Ex→St→Option (Out ctx 127)) (x0:qe) (x1:qe) (x2:Int) :
 LQ qc D n 127 [.r,.r,.l,.r,.l] (m+1) (qgw x0 x1 x2) K=qtv D n (fun x0 x1 x2=>LQ qc D n 127 [.r,.r,.l,.r,.l] m (qgw x0 x1 x2) K) (fun v0_0=>K (Ex.ret) (qk7 v0_0)) (K (Ex.exit 0) (qk8)) x0 x1 x2:=by kernel_rfl
theorem q1o (D:DX)(n:Nat) (K:Ex→St→Option (Out ctx 127)):∀ (m:Nat) (x0:qe) (x1:qe) (x2:Int),LQ qc D n 127 [.r,.r,.l,.r,.l] m (qgw x0 x1 x2) K=qg8 D n (fun v0_0=>K (Ex.ret) (qk7 v0_0)) (K (Ex.exit 0) (qk8)) m x0 x1 x2
 | 0,x0,x1,x2=>qx ..
 | m+1,x0,x1,x2=>by
  have ih:(fun x0 x1 x2=>LQ qc D n 127 [.r,.r,.l,.r,.l] m (qgw x0 x1 x2) K)=qg8 D n (fun v0_0=>K (Ex.ret) (qk7 v0_0)) (K (Ex.exit 0) (qk8)) m:=by funext x0 x1 x2;exact q1o D n K m x0 x1 x2
  rw[qbc6]
  rw[ih];rfl
theorem q91 (D:DX)(n:Nat) (v0_0:Bool) :
 (CQ qc D n 127 [] [.r,.r,.l,.r,.l] (qh qc 127)) (Ex.ret) (qk7 v0_0)=qkx D n v0_0:=by kernel_rfl
theorem qbad (D:DX)(n:Nat) :
 (CQ qc D n 127 [] [.r,.r,.l,.r,.l] (qh qc 127)) (Ex.exit 0) (qk8)=qk5 D n:=by kernel_rfl
theorem qbal (D:DX)(n:Nat) (x0:qe) (x1:qe) (x2:Int) :
 LQ qc D n 127 [.r,.r,.l,.r,.l] n (qgw x0 x1 x2) (CQ qc D n 127 [] [.r,.r,.l,.r,.l] (qh qc 127))=qre D n x0 x1 x2:=by
 rw[q1o]
 simp only[q91,qbad]
 rfl
theorem qbgd (D:DX)(n:Nat) (a0:qe) (a1:qe):rfC qc D n 127 (a0,(a1,()))=qwk D n a0 a1:=by
 have h:rfC qc D n 127 (a0,(a1,()))=qwm D n (fun x0 x1 x2=>LQ qc D n 127 [.r,.r,.l,.r,.l] n (qgw x0 x1 x2) (CQ qc D n 127 [] [.r,.r,.l,.r,.l] (qh qc 127))) a0 a1:=by kernel_rfl
 rw[h]
 simp only[qbal]
 rfl

def q8g (D:DX)(n:Nat) (a0:Int×Int×ByteArray×Unit) (a1:Int×Int×ByteArray×Unit):Option ((Bool×Unit)×Unit):=br (Prod.fst a0 != Prod.fst a1) (some ((false,()),())) (br (Prod.fst (Prod.snd a0) != Prod.fst (Prod.snd a1)) (some ((false,()),())) (br (!List.beq (ByteArray.toList (Prod.fst (Prod.snd (Prod.snd a0)))) (ByteArray.toList (Prod.fst (Prod.snd (Prod.snd a1))))) (some ((false,()),())) (some ((true,()),()))))
def q0f (D:DX)(n:Nat) (a0:Int×Int×ByteArray×Unit) (a1:Int×Int×ByteArray×Unit):Option ((Bool×Unit)×Unit):=q8g D n a0 a1
theorem qbmd (D:DX)(n:Nat) (a0:Int×Int×ByteArray×Unit) (a1:Int×Int×ByteArray×Unit):rfC qc D n 128 (a0,(a1,()))=q0f D n a0 a1:=by kernel_rfl

def q3m (D:DX)(n:Nat) (a0:tSch) (a1:Int):Option ((Int×Unit)×(tSch)×Unit):=qi (qyt D (Prod.fst a0) a1) fun b↦qi (qml D (Prod.fst (Prod.snd a0)) (Prod.fst (Prod.fst b))) fun b_1↦qi (qul D (Prod.fst (Prod.snd (Prod.snd a0))) (Prod.fst (Prod.fst b_1))) fun b_2↦some ((Prod.fst (Prod.fst b_2),()),(Prod.fst (Prod.snd b),Prod.fst (Prod.snd b_1),Prod.fst (Prod.snd b_2),()),())
def qtf (D:DX)(n:Nat) (a0:tSch) (a1:Int):Option ((Int×Unit)×(tSch)×Unit):=q3m D n a0 a1
theorem qbee (D:DX)(n:Nat) (a0:tSch) (a1:Int):rfC qc D n 129 (a0,(a1,()))=qtf D n a0 a1:=by kernel_rfl

def qqn (D:DX)(n:Nat) (go:Int→Int→qe→Option ((Int×Unit)×qe×Unit)) (K0:Int→qe→Option ((Int×Unit)×qe×Unit)) (x0:Int) (x1:Int) (x2:qe):Option ((Int×Unit)×qe×Unit):=br (decide (x1<(↑(List.length x2):Int))) (br (decide (0≤x1)&&decide (x1<(↑(List.length x2):Int))) (qi (qn1 D (List.getD x2 (Int.toNat x1) []) x0) fun b↦br (qg1 [PK.mutv (Ty.sl (Ty.pair (Ty.int IntKind.i64) (Ty.pair (Ty.int IntKind.i64) (Ty.pair Ty.str Ty.unit)))) (Mk.top (Ty.sl (Ty.pair (Ty.int IntKind.i64) (Ty.pair (Ty.int IntKind.i64) (Ty.pair Ty.str Ty.unit))))) (Mk.top (Ty.sl (Ty.pair (Ty.int IntKind.i64) (Ty.pair (Ty.int IntKind.i64) (Ty.pair Ty.str Ty.unit))))),PK.val (Ty.int IntKind.i64)] (List.map (ev (St.mk [AV.brw 0 [] 1048576,AV.val (Ty.int IntKind.i64) x0,AV.undef,AV.undef,AV.undef,AV.val (Ty.int IntKind.i64) x1,AV.val (Ty.int IntKind.i64) x1,AV.brw 0 [] 1048576,AV.val (Ty.int IntKind.i64) (↑(List.length x2):Int),AV.val Ty.bool (decide (x1<(↑(List.length x2):Int))),AV.undef,AV.undef,AV.brw 0 [] 1048576,AV.val (Ty.int IntKind.i64) x1,AV.addr 0 [Stp.idx (Int.toNat x1) 1048576],AV.brw 0 [Stp.idx (Int.toNat x1) 1048576] 0,AV.val (Ty.int IntKind.i64) x0,AV.undef,AV.undef] [some (Root.mk (Ty.sl (Ty.sl (Ty.pair (Ty.int IntKind.i64) (Ty.pair (Ty.int IntKind.i64) (Ty.pair Ty.str Ty.unit))))) (Mk.own 1048576 (Mk.own 0 (Mk.pr Mk.no (Mk.pr Mk.no (Mk.pr Mk.no Mk.no))))) x2 false),none,none,none,none,none,none,none,none,none,none,none,none,none,none,none,none,none,none])) [Operand.tmp 15,Operand.tmp 16]++qfd AV.unit)) (go (Prod.fst (Prod.fst b)) (IntKind.wrap IntKind.i64 (x1+1)) (List.set x2 (Int.toNat x1) (Prod.fst (Prod.snd b)))) none) none) (K0 x0 x2)
def qfa (D:DX)(n:Nat) (K0:Int→qe→Option ((Int×Unit)×qe×Unit)):Nat→(Int)→(Int)→(qe)→Option ((Int×Unit)×qe×Unit) | 0=>(fun x0 x1 x2=>none) | m+1=>(fun x0 x1 x2=>qqn D n (qfa D n K0 m) K0 x0 x1 x2)
def qjj (D:DX)(n:Nat) (v0_0:Int) (v0_1:qe):Option ((Int×Unit)×qe×Unit):=some ((v0_0,()),v0_1,())
def qpa (D:DX)(n:Nat):(Int)→(Int)→(qe)→Option ((Int×Unit)×qe×Unit):=(fun x0 x1 x2=>qfa D n (fun v0_0 v0_1=>qjj D n v0_0 v0_1) n x0 x1 x2)
def qr4 (D:DX)(n:Nat) (lp0:Int→Int→qe→Option ((Int×Unit)×qe×Unit)) (a0:qe) (a1:Int):Option ((Int×Unit)×qe×Unit):=lp0 a1 0 a0
def qse (D:DX)(n:Nat) (a0:qe) (a1:Int):Option ((Int×Unit)×qe×Unit):=qr4 D n (qpa D n) a0 a1
def qfb (x0:Int) (x1:Int) (x2:qe):St:=stq 19 [(0,AV.brw 0 [] 1048576),(1,avI x0),(5,avI x1)] [(0,Root.mk (Ty.sl (Ty.sl yV)) (Mk.own 1048576 (Mk.own 0 (Mk.pr Mk.no (Mk.pr Mk.no (Mk.pr Mk.no Mk.no))))) x2 false)] 
def qjc (v0_0:Int) (v0_1:qe):St:=stq 19 [(0,AV.brw 0 [] 1048576),(1,avI v0_0)] [(0,Root.mk (Ty.sl (Ty.sl yV)) (Mk.own 1048576 (Mk.own 0 (Mk.pr Mk.no (Mk.pr Mk.no (Mk.pr Mk.no Mk.no))))) v0_1 false)] 
theorem q8q (D:DX)(n:Nat) (m:Nat) (K:Ex→St→Option (Out ctx 130)) (x0:Int) (x1:Int) (x2:qe) :
 LQ qc D n 130 [.r,.l,.r,.l] (m+1) (qfb x0 x1 x2) K=qqn D n (fun x0 x1 x2=>LQ qc D n 130 [.r,.l,.r,.l] m (qfb x0 x1 x2) K) (fun v0_0 v0_1=>K (Ex.exit 0) (qjc v0_0 v0_1)) x0 x1 x2:=by kernel_rfl
theorem qyp (D:DX)(n:Nat) (K:Ex→St→Option (Out ctx 130)):∀ (m:Nat) (x0:Int) (x1:Int) (x2:qe),LQ qc D n 130 [.r,.l,.r,.l] m (qfb x0 x1 x2) K=qfa D n (fun v0_0 v0_1=>K (Ex.exit 0) (qjc v0_0 v0_1)) m x0 x1 x2
 | 0,x0,x1,x2=>qx ..
 | m+1,x0,x1,x2=>by
  have ih:(fun x0 x1 x2=>LQ qc D n 130 [.r,.l,.r,.l] m (qfb x0 x1 x2) K)=qfa D n (fun v0_0 v0_1=>K (Ex.exit 0) (qjc v0_0 v0_1)) m:=by funext x0 x1 x2;exact qyp D n K m x0 x1 x2
  rw[q8q]
  rw[ih];rfl
theorem q7h (D:DX)(n:Nat) (v0_0:Int) (v0_1:qe) :
 (CQ qc D n 130 [] [.r,.l,.r,.l] (qh qc 130)) (Ex.exit 0) (qjc v0_0 v0_1)=qjj D n v0_0 v0_1:=by kernel_rfl
theorem q7k (D:DX)(n:Nat) (x0:Int) (x1:Int) (x2:qe) :
 LQ qc D n 130 [.r,.l,.r,.l] n (qfb x0 x1 x2) (CQ qc D n 130 [] [.r,.l,.r,.l] (qh qc 130))=qpa D n x0 x1 x2:=by
 rw[qyp]
 simp only[q7h]
 rfl
theorem qbdc (D:DX)(n:Nat) (a0:qe) (a1:Int):rfC qc D n 130 (a0,(a1,()))=qse D n a0 a1:=by
 have h:rfC qc D n 130 (a0,(a1,()))=qr4 D n (fun x0 x1 x2=>LQ qc D n 130 [.r,.l,.r,.l] n (qfb x0 x1 x2) (CQ qc D n 130 [] [.r,.l,.r,.l] (qh qc 130))) a0 a1:=by kernel_rfl
 rw[h]
 simp only[q7k]
 rfl

def qpd (D:DX)(n:Nat) (go:Int→ByteArray→Option ((ByteArray×Unit)×Unit)) (K0:ByteArray→Option ((ByteArray×Unit)×Unit)) (x0:Int) (x1:ByteArray):Option ((ByteArray×Unit)×Unit):=br (decide (x0>0)) (br (decide (ByteArray.size (ByteArray.mk (List.toArray (List.map (fun n↦UInt8.ofNat (Int.toNat n)) [IntKind.wrap IntKind.u8 (IntKind.wrap IntKind.i64 (48+Int.tmod x0 10))])))+ByteArray.size x1≤Nat.pow 2 47)) (go (IntKind.wrap IntKind.i64 (Int.tdiv x0 10)) (ByteArray.append (ByteArray.mk (List.toArray (List.map (fun n↦UInt8.ofNat (Int.toNat n)) [IntKind.wrap IntKind.u8 (IntKind.wrap IntKind.i64 (48+Int.tmod x0 10))]))) x1)) none) (K0 x1)
def qft (D:DX)(n:Nat) (K0:ByteArray→Option ((ByteArray×Unit)×Unit)):Nat→(Int)→(ByteArray)→Option ((ByteArray×Unit)×Unit) | 0=>(fun x0 x1=>none) | m+1=>(fun x0 x1=>qpd D n (qft D n K0 m) K0 x0 x1)
def qrm (D:DX)(n:Nat) (v0_0:ByteArray):Option ((ByteArray×Unit)×Unit):=br (decide (ByteArray.size (ByteArray.mk #[UInt8.ofNat 109])+ByteArray.size v0_0≤Nat.pow 2 47)) (some ((ByteArray.append (ByteArray.mk #[UInt8.ofNat 109]) v0_0,()),())) none
def qub (D:DX)(n:Nat):(Int)→(ByteArray)→Option ((ByteArray×Unit)×Unit):=(fun x0 x1=>qft D n (fun v0_0=>qrm D n v0_0) n x0 x1)
def qxl (D:DX)(n:Nat) (lp0:Int→ByteArray→Option ((ByteArray×Unit)×Unit)) (a0:Int):Option ((ByteArray×Unit)×Unit):=br (decide (a0≤0)) (some ((ByteArray.mk #[UInt8.ofNat 109,UInt8.ofNat 48],()),())) (lp0 a0 (ByteArray.mk #[]))
def qxi (D:DX)(n:Nat) (a0:Int):Option ((ByteArray×Unit)×Unit):=qxl D n (qub D n) a0
def qh5 (x0:Int) (x1:ByteArray):St:=stq 20 [(0,avI x0),(3,AV.val Ty.str x1)] [] 
def ql1 (v0_0:ByteArray):St:=stq 20 [(3,AV.val Ty.str v0_0)] [] 
theorem qbfe (D:DX)(n:Nat) (m:Nat) (K:Ex→St→Option (Out ctx 131)) (x0:Int) (x1:ByteArray) :
 LQ qc D n 131 [.r,.r,.r,.l,.l] (m+1) (qh5 x0 x1) K=qpd D n (fun x0 x1=>LQ qc D n 131 [.r,.r,.r,.l,.l] m (qh5 x0 x1) K) (fun v0_0=>K (Ex.exit 0) (ql1 v0_0)) x0 x1:=by kernel_rfl
theorem q3s (D:DX)(n:Nat) (K:Ex→St→Option (Out ctx 131)):∀ (m:Nat) (x0:Int) (x1:ByteArray),LQ qc D n 131 [.r,.r,.r,.l,.l] m (qh5 x0 x1) K=qft D n (fun v0_0=>K (Ex.exit 0) (ql1 v0_0)) m x0 x1
 | 0,x0,x1=>qx ..
 | m+1,x0,x1=>by
  have ih:(fun x0 x1=>LQ qc D n 131 [.r,.r,.r,.l,.l] m (qh5 x0 x1) K)=qft D n (fun v0_0=>K (Ex.exit 0) (ql1 v0_0)) m:=by funext x0 x1;exact q3s D n K m x0 x1
  rw[qbfe]
  rw[ih];rfl
theorem qbbz (D:DX)(n:Nat) (v0_0:ByteArray) :
 (CQ qc D n 131 [] [.r,.r,.r,.l,.l] (qh qc 131)) (Ex.exit 0) (ql1 v0_0)=qrm D n v0_0:=by kernel_rfl
theorem qbbp (D:DX)(n:Nat) (x0:Int) (x1:ByteArray) :
 LQ qc D n 131 [.r,.r,.r,.l,.l] n (qh5 x0 x1) (CQ qc D n 131 [] [.r,.r,.r,.l,.l] (qh qc 131))=qub D n x0 x1:=by
 rw[q3s]
 simp only[qbbz]
 rfl
theorem qbky (D:DX)(n:Nat) (a0:Int):rfC qc D n 131 (a0,())=qxi D n a0:=by
 have h:rfC qc D n 131 (a0,())=qxl D n (fun x0 x1=>LQ qc D n 131 [.r,.r,.r,.l,.l] n (qh5 x0 x1) (CQ qc D n 131 [] [.r,.r,.r,.l,.l] (qh qc 131))) a0:=by kernel_rfl
 rw[h]
 simp only[qbbp]
 rfl

def q31 (D:DX)(n:Nat) (a0:tSch) (a1:Int):Option ((Int×Unit)×Unit):=qi (qxs D (Prod.fst a0) a1) fun b↦br (decide (Prod.fst (Prod.fst b)<0)) (some ((-1,()),())) (qi (qm0 D (Prod.fst (Prod.snd a0)) (Prod.fst (Prod.fst b))) fun b↦br (decide (Prod.fst (Prod.fst b)<0)) (some ((-1,()),())) (qi (que D (Prod.fst (Prod.snd (Prod.snd a0))) (Prod.fst (Prod.fst b))) fun b↦br (decide (Prod.fst (Prod.fst b)<0)) (some ((-1,()),())) (some ((Prod.fst (Prod.fst b),()),()))))
def qt9 (D:DX)(n:Nat) (a0:tSch) (a1:Int):Option ((Int×Unit)×Unit):=q31 D n a0 a1
theorem qbfj (D:DX)(n:Nat) (a0:tSch) (a1:Int):rfC qc D n 132 (a0,(a1,()))=qt9 D n a0 a1:=by kernel_rfl

def qqb (D:DX)(n:Nat) (go:qe→Int→Int→Option ((Int×Unit)×Unit)) (K0:Int→Int→Option ((Int×Unit)×Unit)) (K1:Int→Option ((Int×Unit)×Unit)) (x0:qe) (x1:Int) (x2:Int):Option ((Int×Unit)×Unit):=br (decide (x2<(↑(List.length x0):Int))) (br (decide (0≤x2)&&decide (x2<(↑(List.length x0):Int))) (qi (qtb D (List.getD x0 (Int.toNat x2) []) x1) fun b↦br (decide (Prod.fst (Prod.fst b)<0)) (K0 (Prod.fst (Prod.fst b)) (-1)) (go x0 (Prod.fst (Prod.fst b)) (IntKind.wrap IntKind.i64 (x2+1)))) none) (K1 x1)
def qe8 (D:DX)(n:Nat) (K0:Int→Int→Option ((Int×Unit)×Unit)) (K1:Int→Option ((Int×Unit)×Unit)):Nat→(qe)→(Int)→(Int)→Option ((Int×Unit)×Unit) | 0=>(fun x0 x1 x2=>none) | m+1=>(fun x0 x1 x2=>qqb D n (qe8 D n K0 K1 m) K0 K1 x0 x1 x2)
def qoa (D:DX)(n:Nat) (v0_0:Int) (v0_1:Int):Option ((Int×Unit)×Unit):=some ((v0_1,()),())
def qji (D:DX)(n:Nat) (v1_0:Int):Option ((Int×Unit)×Unit):=some ((v1_0,()),())
def qo7 (D:DX)(n:Nat):(qe)→(Int)→(Int)→Option ((Int×Unit)×Unit):=(fun x0 x1 x2=>qe8 D n (fun v0_0 v0_1=>qoa D n v0_0 v0_1) (fun v1_0=>qji D n v1_0) n x0 x1 x2)
def qri (D:DX)(n:Nat) (lp0:qe→Int→Int→Option ((Int×Unit)×Unit)) (a0:qe) (a1:Int):Option ((Int×Unit)×Unit):=lp0 a0 a1 0
def qrr (D:DX)(n:Nat) (a0:qe) (a1:Int):Option ((Int×Unit)×Unit):=qri D n (qo7 D n) a0 a1
def qe6 (x0:qe) (x1:Int) (x2:Int):St:=stq 21 [(0,AV.val (Ty.sl (Ty.sl yV)) x0),(1,avI x1),(5,avI x2)] [] 
def qi6 (v0_0:Int) (v0_1:Int):St:=stq 21 [(1,avI v0_0),(4,avI v0_1)] [] 
def qi9 (v1_0:Int):St:=stq 21 [(1,avI v1_0)] [] 
theorem q9i (D:DX)(n:Nat) (m:Nat) (K:Ex→St→Option (Out ctx 133)) (x0:qe) (x1:Int) (x2:Int) :
 LQ qc D n 133 [.r,.l,.r,.l] (m+1) (qe6 x0 x1 x2) K=qqb D n (fun x0 x1 x2=>LQ qc D n 133 [.r,.l,.r,.l] m (qe6 x0 x1 x2) K) (fun v0_0 v0_1=>K (Ex.ret) (qi6 v0_0 v0_1)) (fun v1_0=>K (Ex.exit 0) (qi9 v1_0)) x0 x1 x2:=by kernel_rfl
theorem qyu (D:DX)(n:Nat) (K:Ex→St→Option (Out ctx 133)):∀ (m:Nat) (x0:qe) (x1:Int) (x2:Int),LQ qc D n 133 [.r,.l,.r,.l] m (qe6 x0 x1 x2) K=qe8 D n (fun v0_0 v0_1=>K (Ex.ret) (qi6 v0_0 v0_1)) (fun v1_0=>K (Ex.exit 0) (qi9 v1_0)) m x0 x1 x2
 | 0,x0,x1,x2=>qx ..
 | m+1,x0,x1,x2=>by
  have ih:(fun x0 x1 x2=>LQ qc D n 133 [.r,.l,.r,.l] m (qe6 x0 x1 x2) K)=qe8 D n (fun v0_0 v0_1=>K (Ex.ret) (qi6 v0_0 v0_1)) (fun v1_0=>K (Ex.exit 0) (qi9 v1_0)) m:=by funext x0 x1 x2;exact qyu D n K m x0 x1 x2
  rw[q9i]
  rw[ih];rfl
theorem q70 (D:DX)(n:Nat) (v0_0:Int) (v0_1:Int) :
 (CQ qc D n 133 [] [.r,.l,.r,.l] (qh qc 133)) (Ex.ret) (qi6 v0_0 v0_1)=qoa D n v0_0 v0_1:=by kernel_rfl
theorem q77 (D:DX)(n:Nat) (v1_0:Int) :
 (CQ qc D n 133 [] [.r,.l,.r,.l] (qh qc 133)) (Ex.exit 0) (qi9 v1_0)=qji D n v1_0:=by kernel_rfl
theorem q8n (D:DX)(n:Nat) (x0:qe) (x1:Int) (x2:Int) :
 LQ qc D n 133 [.r,.l,.r,.l] n (qe6 x0 x1 x2) (CQ qc D n 133 [] [.r,.l,.r,.l] (qh qc 133))=qo7 D n x0 x1 x2:=by
 rw[qyu]
 simp only[q70,q77]
 rfl
theorem qba4 (D:DX)(n:Nat) (a0:qe) (a1:Int):rfC qc D n 133 (a0,(a1,()))=qrr D n a0 a1:=by
 have h:rfC qc D n 133 (a0,(a1,()))=qri D n (fun x0 x1 x2=>LQ qc D n 133 [.r,.l,.r,.l] n (qe6 x0 x1 x2) (CQ qc D n 133 [] [.r,.l,.r,.l] (qh qc 133))) a0 a1:=by kernel_rfl
 rw[h]
 simp only[q8n]
 rfl

def quz (D:DX)(n:Nat) (a0:List Int):Option ((List Int×Unit)×Unit):=br (decide (Int.toNat (↑(List.length a0):Int)=0)) (both (some (([],()),())) (br (decide (0+List.length a0≤qbk)) (some (([]++a0,()),())) none)) (br (decide (0+List.length a0≤qbk)) (some (([]++a0,()),())) none)
def qng (D:DX)(n:Nat) (a0:List Int):Option ((List Int×Unit)×Unit):=quz D n a0
theorem q60 (D:DX)(n:Nat) (a0:List Int):rfC qc D n 138 (a0,())=qng D n a0:=by kernel_rfl

def q8k (D:DX)(n:Nat) (a0:Int×Int×ByteArray×Unit):Option ((Bool×Unit)×Unit):=br (decide (Prod.fst a0=0)) (some ((bif decide (Prod.fst (Prod.snd a0)=0) then List.beq (ByteArray.toList (Prod.fst (Prod.snd (Prod.snd a0)))) (ByteArray.toList (ByteArray.mk #[])) else false,()),())) (br (decide (Prod.fst a0=1)) (qi (qgm D (Prod.fst (Prod.snd a0)) 0 1) fun b↦some ((bif Prod.fst (Prod.fst b) then List.beq (ByteArray.toList (Prod.fst (Prod.snd (Prod.snd a0)))) (ByteArray.toList (ByteArray.mk #[])) else false,()),())) (br (decide (Prod.fst a0=2)) (qi (qgm D (Prod.fst (Prod.snd a0)) (-1000000000000) 1000000000000) fun b↦some ((bif Prod.fst (Prod.fst b) then List.beq (ByteArray.toList (Prod.fst (Prod.snd (Prod.snd a0)))) (ByteArray.toList (ByteArray.mk #[])) else false,()),())) (br (decide (Prod.fst a0=3)) (some ((bif decide (Prod.fst (Prod.snd a0)=0) then decide ((↑(ByteArray.size (Prod.fst (Prod.snd (Prod.snd a0)))):Int)≤20) else false,()),())) (some ((false,()),())))))
def q0q (D:DX)(n:Nat) (a0:Int×Int×ByteArray×Unit):Option ((Bool×Unit)×Unit):=q8k D n a0
theorem qbls (D:DX)(n:Nat) (a0:Int×Int×ByteArray×Unit):rfC qc D n 139 (a0,())=q0q D n a0:=by kernel_rfl

def qbz (D:DX)(n:Nat) (a2:Clo) (go:qd→qd→qd→Int→Int→Option ((Int×Unit)×Unit)) (K0:qd→qd→Int→Option ((Int×Unit)×Unit)) (K1:qd→qd→Option ((Int×Unit)×Unit)) (x0:qd) (x1:qd) (x2:qd) (x3:Int) (x4:Int):Option ((Int×Unit)×Unit):=br (decide (x4<x3)) (br (decide (0≤x4)&&decide (x4<(↑(List.length x2):Int))) (br (decide (x4≥(↑(List.length x1):Int))) (K0 x0 x1 1) (br (decide (0≤x4)&&decide (x4<(↑(List.length x1):Int))) (qi (qch ctx D a2 [CapV.val (Ty.pair (Ty.int IntKind.i64) (Ty.pair (Ty.int IntKind.i64) (Ty.pair Ty.str Ty.unit))) (List.getD x2 (Int.toNat x4) (0,0,ByteArray.empty,())),CapV.val (Ty.pair (Ty.int IntKind.i64) (Ty.pair (Ty.int IntKind.i64) (Ty.pair Ty.str Ty.unit))) (List.getD x1 (Int.toNat x4) (0,0,ByteArray.empty,()))] (Ty.int IntKind.i64)) fun b↦br (b != 0) (K0 x0 x1 b) (go x0 x1 x2 x3 (IntKind.wrap IntKind.i64 (x4+1)))) none)) none) (K1 x0 x1)
def qv (D:DX)(n:Nat) (a2:Clo) (K0:qd→qd→Int→Option ((Int×Unit)×Unit)) (K1:qd→qd→Option ((Int×Unit)×Unit)):Nat→(qd)→(qd)→(qd)→(Int)→(Int)→Option ((Int×Unit)×Unit) | 0=>(fun x0 x1 x2 x3 x4=>none) | m+1=>(fun x0 x1 x2 x3 x4=>qbz D n a2 (qv D n a2 K0 K1 m) K0 K1 x0 x1 x2 x3 x4)
def qbv (D:DX)(n:Nat) (a2:Clo) (v0_0:qd) (v0_1:qd) (v0_2:Int):Option ((Int×Unit)×Unit):=some ((v0_2,()),())
def qbd (D:DX)(n:Nat) (a2:Clo) (v1_0:qd) (v1_1:qd):Option ((Int×Unit)×Unit):=br (decide ((↑(List.length v1_0):Int)<(↑(List.length v1_1):Int))) (some ((-1,()),())) (some ((0,()),()))
def qbx (D:DX)(n:Nat) (a2:Clo):(qd)→(qd)→(qd)→(Int)→(Int)→Option ((Int×Unit)×Unit):=(fun x0 x1 x2 x3 x4=>qv D n a2 (fun v0_0 v0_1 v0_2=>qbv D n a2 v0_0 v0_1 v0_2) (fun v1_0 v1_1=>qbd D n a2 v1_0 v1_1) n x0 x1 x2 x3 x4)
def qb9 (D:DX)(n:Nat) (a2:Clo) (lp0:qd→qd→qd→Int→Int→Option ((Int×Unit)×Unit)) (a0:qd) (a1:qd):Option ((Int×Unit)×Unit):=lp0 a0 a1 a0 (↑(List.length a0):Int) 0
def qb7 (D:DX)(n:Nat) (a0:qd) (a1:qd) (a2:Clo):Option ((Int×Unit)×Unit):=qb9 D n a2 (qbx D n a2) a0 a1
def qw (a2:Clo) (x0:qd) (x1:qd) (x2:qd) (x3:Int) (x4:Int):St:=stq 39 [(0,AV.val (Ty.sl yV) x0),(1,AV.val (Ty.sl yV) x1),(2,AV.cloV a2),(11,AV.val (Ty.sl yV) x2),(12,avI x3),(13,avI x4)] [] 
def qbe (a2:Clo) (v0_0:qd) (v0_1:qd) (v0_2:Int):St:=stq 39 [(0,AV.val (Ty.sl yV) v0_0),(1,AV.val (Ty.sl yV) v0_1),(6,avI v0_2)] [] 
def qbf (a2:Clo) (v1_0:qd) (v1_1:qd):St:=stq 39 [(0,AV.val (Ty.sl yV) v1_0),(1,AV.val (Ty.sl yV) v1_1)] [] 
theorem qfh (D:DX)(n:Nat) (a2:Clo) (m:Nat) (K:Ex→St→Option (Out ctx 140)) (x0:qd) (x1:qd) (x2:qd) (x3:Int) (x4:Int) :
 LQ qc D n 140 [.r,.l,.r,.l] (m+1) (qw a2 x0 x1 x2 x3 x4) K=qbz D n a2 (fun x0 x1 x2 x3 x4=>LQ qc D n 140 [.r,.l,.r,.l] m (qw a2 x0 x1 x2 x3 x4) K) (fun v0_0 v0_1 v0_2=>K (Ex.ret) (qbe a2 v0_0 v0_1 v0_2)) (fun v1_0 v1_1=>K (Ex.exit 0) (qbf a2 v1_0 v1_1)) x0 x1 x2 x3 x4:=by kernel_rfl
theorem qcv (D:DX)(n:Nat) (a2:Clo) (K:Ex→St→Option (Out ctx 140)):∀ (m:Nat) (x0:qd) (x1:qd) (x2:qd) (x3:Int) (x4:Int),LQ qc D n 140 [.r,.l,.r,.l] m (qw a2 x0 x1 x2 x3 x4) K=qv D n a2 (fun v0_0 v0_1 v0_2=>K (Ex.ret) (qbe a2 v0_0 v0_1 v0_2)) (fun v1_0 v1_1=>K (Ex.exit 0) (qbf a2 v1_0 v1_1)) m x0 x1 x2 x3 x4
 | 0,x0,x1,x2,x3,x4=>qx ..
 | m+1,x0,x1,x2,x3,x4=>by
  have ih:(fun x0 x1 x2 x3 x4=>LQ qc D n 140 [.r,.l,.r,.l] m (qw a2 x0 x1 x2 x3 x4) K)=qv D n a2 (fun v0_0 v0_1 v0_2=>K (Ex.ret) (qbe a2 v0_0 v0_1 v0_2)) (fun v1_0 v1_1=>K (Ex.exit 0) (qbf a2 v1_0 v1_1)) m:=by funext x0 x1 x2 x3 x4;exact qcv D n a2 K m x0 x1 x2 x3 x4
  rw[qfh]
  rw[ih];rfl
theorem qe5 (D:DX)(n:Nat) (a2:Clo) (v0_0:qd) (v0_1:qd) (v0_2:Int) :
 (CQ qc D n 140 [] [.r,.l,.r,.l] (qh qc 140)) (Ex.ret) (qbe a2 v0_0 v0_1 v0_2)=qbv D n a2 v0_0 v0_1 v0_2:=by kernel_rfl
theorem qe4 (D:DX)(n:Nat) (a2:Clo) (v1_0:qd) (v1_1:qd) :
 (CQ qc D n 140 [] [.r,.l,.r,.l] (qh qc 140)) (Ex.exit 0) (qbf a2 v1_0 v1_1)=qbd D n a2 v1_0 v1_1:=by kernel_rfl
theorem qe3 (D:DX)(n:Nat) (a2:Clo) (x0:qd) (x1:qd) (x2:qd) (x3:Int) (x4:Int) :
 LQ qc D n 140 [.r,.l,.r,.l] n (qw a2 x0 x1 x2 x3 x4) (CQ qc D n 140 [] [.r,.l,.r,.l] (qh qc 140))=qbx D n a2 x0 x1 x2 x3 x4:=by
 rw[qcv]
 simp only[qe5,qe4]
 rfl
theorem qfr (D:DX)(n:Nat) (a0:qd) (a1:qd) (a2:Clo):rfC qc D n 140 (a0,(a1,(a2,())))=qb7 D n a0 a1 a2:=by
 have h:rfC qc D n 140 (a0,(a1,(a2,())))=qb9 D n a2 (fun x0 x1 x2 x3 x4=>LQ qc D n 140 [.r,.l,.r,.l] n (qw a2 x0 x1 x2 x3 x4) (CQ qc D n 140 [] [.r,.l,.r,.l] (qh qc 140))) a0 a1:=by kernel_rfl
 rw[h]
 simp only[qe3]
 rfl

def q7v (D:DX)(n:Nat) (a0:Int×Int×ByteArray×Unit) (a1:Int×Int×ByteArray×Unit):Option ((Int×Unit)×Unit):=br (bif decide (Prod.fst a0<Prod.fst a1) then true else bif decide (Prod.fst a0=Prod.fst a1) then decide (Prod.fst (Prod.snd a0)<Prod.fst (Prod.snd a1)) else false) (some ((-1,()),())) (br (bif decide (Prod.fst a0>Prod.fst a1) then true else decide (Prod.fst (Prod.snd a0)>Prod.fst (Prod.snd a1))) (some ((1,()),())) (qi (q3b D (Prod.fst (Prod.snd (Prod.snd a0))) (Prod.fst (Prod.snd (Prod.snd a1)))) fun b↦some ((Prod.fst (Prod.fst b),()),())))
def qzm (D:DX)(n:Nat) (a0:Int×Int×ByteArray×Unit) (a1:Int×Int×ByteArray×Unit):Option ((Int×Unit)×Unit):=q7v D n a0 a1
theorem qbk8 (D:DX)(n:Nat) (a0:Int×Int×ByteArray×Unit) (a1:Int×Int×ByteArray×Unit):rfC qc D n 141 (a0,(a1,()))=qzm D n a0 a1:=by kernel_rfl

def qfk (D:DX)(n:Nat) (a1:Clo) (a0:tIxs):Option ((Bool×Unit)×Unit):=qi (qdt D a0 a1) fun b↦some ((decide (Prod.fst (Prod.fst b)≥0),()),())
def qde (D:DX)(n:Nat) (a0:tIxs) (a1:Clo):Option ((Bool×Unit)×Unit):=qfk D n a1 a0
theorem qnp (D:DX)(n:Nat) (a0:tIxs) (a1:Clo):rfC qc D n 142 (a0,(a1,()))=qde D n a0 a1:=by kernel_rfl

def q76 (D:DX)(n:Nat) (a0:ByteArray×List Int×Bool×Unit) (a1:qd) (a2:qd):Option ((Bool×Unit)×Unit):=qi (qof D a1 (Prod.fst (Prod.snd a0))) fun b↦br (Prod.fst (Prod.snd (Prod.snd a0))) (qi (qd1 D (Prod.fst (Prod.fst b)) (0,0,ByteArray.empty,())) fun b_1↦br (!Prod.fst (Prod.fst b_1)) (qi (qof D a2 (Prod.fst (Prod.snd a0))) fun b_2↦qi (qda D (Prod.fst (Prod.fst b)) (Prod.fst (Prod.fst b_2))) fun b↦some ((Prod.fst (Prod.fst b),()),())) (some ((false,()),()))) (some ((false,()),()))
def q0m (D:DX)(n:Nat) (a0:ByteArray×List Int×Bool×Unit) (a1:qd) (a2:qd):Option ((Bool×Unit)×Unit):=q76 D n a0 a1 a2
theorem qbk0 (D:DX)(n:Nat) (a0:ByteArray×List Int×Bool×Unit) (a1:qd) (a2:qd):rfC qc D n 143 (a0,(a1,(a2,())))=q0m D n a0 a1 a2:=by kernel_rfl

def qhe (D:DX)(n:Nat) (a0:qd) (a1:Int×Int×ByteArray×Unit):Option ((Bool×Unit)×Unit):=qi (qet D a0 a1) fun b↦some ((decide (Prod.fst (Prod.fst b)≥0),()),())
def qd2 (D:DX)(n:Nat) (a0:qd) (a1:Int×Int×ByteArray×Unit):Option ((Bool×Unit)×Unit):=qhe D n a0 a1
theorem qpv (D:DX)(n:Nat) (a0:qd) (a1:Int×Int×ByteArray×Unit):rfC qc D n 144 (a0,(a1,()))=qd2 D n a0 a1:=by kernel_rfl

def qed (D:DX)(n:Nat) (go:qd→qd→Int→Int→Option ((Bool×Unit)×Unit)) (K0:Bool→Option ((Bool×Unit)×Unit)) (K1:Option ((Bool×Unit)×Unit)) (x0:qd) (x1:qd) (x2:Int) (x3:Int):Option ((Bool×Unit)×Unit):=br (decide (x3<x2)) (br (decide (0≤x3)&&decide (x3<(↑(List.length x0):Int))) (br (decide (0≤x3)&&decide (x3<(↑(List.length x1):Int))) (br (!qrb (Ty.pair (Ty.int IntKind.i64) (Ty.pair (Ty.int IntKind.i64) (Ty.pair Ty.str Ty.unit))) (List.getD x0 (Int.toNat x3) (0,0,ByteArray.empty,())) (List.getD x1 (Int.toNat x3) (0,0,ByteArray.empty,()))) (K0 false) (go x0 x1 x2 (IntKind.wrap IntKind.i64 (x3+1)))) none) none) K1
def qb2 (D:DX)(n:Nat) (K0:Bool→Option ((Bool×Unit)×Unit)) (K1:Option ((Bool×Unit)×Unit)):Nat→(qd)→(qd)→(Int)→(Int)→Option ((Bool×Unit)×Unit) | 0=>(fun x0 x1 x2 x3=>none) | m+1=>(fun x0 x1 x2 x3=>qed D n (qb2 D n K0 K1 m) K0 K1 x0 x1 x2 x3)
def qhg (D:DX)(n:Nat) (v0_0:Bool):Option ((Bool×Unit)×Unit):=some ((v0_0,()),())
def qhh (D:DX)(n:Nat):Option ((Bool×Unit)×Unit):=some ((true,()),())
def qd6 (D:DX)(n:Nat):(qd)→(qd)→(Int)→(Int)→Option ((Bool×Unit)×Unit):=(fun x0 x1 x2 x3=>qb2 D n (fun v0_0=>qhg D n v0_0) (qhh D n) n x0 x1 x2 x3)
def qem (D:DX)(n:Nat) (lp0:qd→qd→Int→Int→Option ((Bool×Unit)×Unit)) (a0:qd) (a1:qd):Option ((Bool×Unit)×Unit):=br ((↑(List.length a0):Int) != (↑(List.length a1):Int)) (some ((false,()),())) (lp0 a0 a1 (↑(List.length a0):Int) 0)
def qeq (D:DX)(n:Nat) (a0:qd) (a1:qd):Option ((Bool×Unit)×Unit):=qem D n (qd6 D n) a0 a1
def qb1 (x0:qd) (x1:qd) (x2:Int) (x3:Int):St:=stq 26 [(0,AV.val (Ty.sl yV) x0),(1,AV.val (Ty.sl yV) x1),(12,avI x2),(13,avI x3)] [] 
def qcw (v0_0:Bool):St:=stq 26 [(4,AV.val Ty.bool v0_0)] [] 
def qcy:St:=stq 26 [] [] 
theorem qp4 (D:DX)(n:Nat) (m:Nat) (K:Ex→St→Option (Out ctx 145)) (x0:qd) (x1:qd) (x2:Int) (x3:Int) :
 LQ qc D n 145 [.r,.r,.l,.r,.l] (m+1) (qb1 x0 x1 x2 x3) K=qed D n (fun x0 x1 x2 x3=>LQ qc D n 145 [.r,.r,.l,.r,.l] m (qb1 x0 x1 x2 x3) K) (fun v0_0=>K (Ex.ret) (qcw v0_0)) (K (Ex.exit 0) (qcy)) x0 x1 x2 x3:=by kernel_rfl
theorem qhn (D:DX)(n:Nat) (K:Ex→St→Option (Out ctx 145)):∀ (m:Nat) (x0:qd) (x1:qd) (x2:Int) (x3:Int),LQ qc D n 145 [.r,.r,.l,.r,.l] m (qb1 x0 x1 x2 x3) K=qb2 D n (fun v0_0=>K (Ex.ret) (qcw v0_0)) (K (Ex.exit 0) (qcy)) m x0 x1 x2 x3
 | 0,x0,x1,x2,x3=>qx ..
 | m+1,x0,x1,x2,x3=>by
  have ih:(fun x0 x1 x2 x3=>LQ qc D n 145 [.r,.r,.l,.r,.l] m (qb1 x0 x1 x2 x3) K)=qb2 D n (fun v0_0=>K (Ex.ret) (qcw v0_0)) (K (Ex.exit 0) (qcy)) m:=by funext x0 x1 x2 x3;exact qhn D n K m x0 x1 x2 x3
  rw[qp4]
  rw[ih];rfl
theorem qpp (D:DX)(n:Nat) (v0_0:Bool) :
 (CQ qc D n 145 [] [.r,.r,.l,.r,.l] (qh qc 145)) (Ex.ret) (qcw v0_0)=qhg D n v0_0:=by kernel_rfl
theorem qpk (D:DX)(n:Nat) :
 (CQ qc D n 145 [] [.r,.r,.l,.r,.l] (qh qc 145)) (Ex.exit 0) (qcy)=qhh D n:=by kernel_rfl
theorem qpu (D:DX)(n:Nat) (x0:qd) (x1:qd) (x2:Int) (x3:Int) :
 LQ qc D n 145 [.r,.r,.l,.r,.l] n (qb1 x0 x1 x2 x3) (CQ qc D n 145 [] [.r,.r,.l,.r,.l] (qh qc 145))=qd6 D n x0 x1 x2 x3:=by
 rw[qhn]
 simp only[qpp,qpk]
 rfl
theorem qsc (D:DX)(n:Nat) (a0:qd) (a1:qd):rfC qc D n 145 (a0,(a1,()))=qeq D n a0 a1:=by
 have h:rfC qc D n 145 (a0,(a1,()))=qem D n (fun x0 x1 x2 x3=>LQ qc D n 145 [.r,.r,.l,.r,.l] n (qb1 x0 x1 x2 x3) (CQ qc D n 145 [] [.r,.r,.l,.r,.l] (qh qc 145))) a0 a1:=by kernel_rfl
 rw[h]
 simp only[qpu]
 rfl

def qtd (D:DX)(n:Nat) (go:ByteArray→Int→Int→Option ((Bool×Unit)×Unit)) (K0:ByteArray→Bool→Option ((Bool×Unit)×Unit)) (K1:ByteArray→Option ((Bool×Unit)×Unit)) (x0:ByteArray) (x1:Int) (x2:Int):Option ((Bool×Unit)×Unit):=br (decide (x2<x1)) (br (decide (0≤x2)&&decide (x2<(↑(ByteArray.size x0):Int))) (br (decide ((↑(UInt8.toNat (Array.getD (ByteArray.data x0) (Int.toNat x2) (UInt8.ofNat 0))):Int)<97)) (K0 x0 false) (br (decide (0≤x2)&&decide (x2<(↑(ByteArray.size x0):Int))) (br (decide ((↑(UInt8.toNat (Array.getD (ByteArray.data x0) (Int.toNat x2) (UInt8.ofNat 0))):Int)>122)) (K0 x0 false) (go x0 x1 (IntKind.wrap IntKind.i64 (x2+1)))) none)) none) (K1 x0)
def qha (D:DX)(n:Nat) (K0:ByteArray→Bool→Option ((Bool×Unit)×Unit)) (K1:ByteArray→Option ((Bool×Unit)×Unit)):Nat→(ByteArray)→(Int)→(Int)→Option ((Bool×Unit)×Unit) | 0=>(fun x0 x1 x2=>none) | m+1=>(fun x0 x1 x2=>qtd D n (qha D n K0 K1 m) K0 K1 x0 x1 x2)
def qzi (D:DX)(n:Nat) (v0_0:ByteArray) (v0_1:Bool):Option ((Bool×Unit)×Unit):=some ((v0_1,()),())
def qql (D:DX)(n:Nat) (v1_0:ByteArray):Option ((Bool×Unit)×Unit):=qi (qgm D (↑(ByteArray.size v1_0):Int) 1 12) fun b↦some ((Prod.fst (Prod.fst b),()),())
def qrk (D:DX)(n:Nat):(ByteArray)→(Int)→(Int)→Option ((Bool×Unit)×Unit):=(fun x0 x1 x2=>qha D n (fun v0_0 v0_1=>qzi D n v0_0 v0_1) (fun v1_0=>qql D n v1_0) n x0 x1 x2)
def qvo (D:DX)(n:Nat) (lp0:ByteArray→Int→Int→Option ((Bool×Unit)×Unit)) (a0:ByteArray):Option ((Bool×Unit)×Unit):=lp0 a0 (↑(ByteArray.size a0):Int) 0
def qvg (D:DX)(n:Nat) (a0:ByteArray):Option ((Bool×Unit)×Unit):=qvo D n (qrk D n) a0
def qg5 (x0:ByteArray) (x1:Int) (x2:Int):St:=stq 23 [(0,AV.val Ty.str x0),(5,avI x1),(6,avI x2)] [] 
def qkr (v0_0:ByteArray) (v0_1:Bool):St:=stq 23 [(0,AV.val Ty.str v0_0),(2,AV.val Ty.bool v0_1)] [] 
def qla (v1_0:ByteArray):St:=stq 23 [(0,AV.val Ty.str v1_0)] [] 
theorem qbcf (D:DX)(n:Nat) (m:Nat) (K:Ex→St→Option (Out ctx 146)) (x0:ByteArray) (x1:Int) (x2:Int) :
 LQ qc D n 146 [.r,.l,.r,.l] (m+1) (qg5 x0 x1 x2) K=qtd D n (fun x0 x1 x2=>LQ qc D n 146 [.r,.l,.r,.l] m (qg5 x0 x1 x2) K) (fun v0_0 v0_1=>K (Ex.ret) (qkr v0_0 v0_1)) (fun v1_0=>K (Ex.exit 0) (qla v1_0)) x0 x1 x2:=by kernel_rfl
theorem q1q (D:DX)(n:Nat) (K:Ex→St→Option (Out ctx 146)):∀ (m:Nat) (x0:ByteArray) (x1:Int) (x2:Int),LQ qc D n 146 [.r,.l,.r,.l] m (qg5 x0 x1 x2) K=qha D n (fun v0_0 v0_1=>K (Ex.ret) (qkr v0_0 v0_1)) (fun v1_0=>K (Ex.exit 0) (qla v1_0)) m x0 x1 x2
 | 0,x0,x1,x2=>qx ..
 | m+1,x0,x1,x2=>by
  have ih:(fun x0 x1 x2=>LQ qc D n 146 [.r,.l,.r,.l] m (qg5 x0 x1 x2) K)=qha D n (fun v0_0 v0_1=>K (Ex.ret) (qkr v0_0 v0_1)) (fun v1_0=>K (Ex.exit 0) (qla v1_0)) m:=by funext x0 x1 x2;exact q1q D n K m x0 x1 x2
  rw[qbcf]
  rw[ih];rfl
theorem q93 (D:DX)(n:Nat) (v0_0:ByteArray) (v0_1:Bool) :
 (CQ qc D n 146 [] [.r,.l,.r,.l] (qh qc 146)) (Ex.ret) (qkr v0_0 v0_1)=qzi D n v0_0 v0_1:=by kernel_rfl
theorem qbav (D:DX)(n:Nat) (v1_0:ByteArray) :
 (CQ qc D n 146 [] [.r,.l,.r,.l] (qh qc 146)) (Ex.exit 0) (qla v1_0)=qql D n v1_0:=by kernel_rfl
theorem q94 (D:DX)(n:Nat) (x0:ByteArray) (x1:Int) (x2:Int) :
 LQ qc D n 146 [.r,.l,.r,.l] n (qg5 x0 x1 x2) (CQ qc D n 146 [] [.r,.l,.r,.l] (qh qc 146))=qrk D n x0 x1 x2:=by
 rw[q1q]
 simp only[q93,qbav]
 rfl
theorem qbg4 (D:DX)(n:Nat) (a0:ByteArray):rfC qc D n 146 (a0,())=qvg D n a0:=by
 have h:rfC qc D n 146 (a0,())=qvo D n (fun x0 x1 x2=>LQ qc D n 146 [.r,.l,.r,.l] n (qg5 x0 x1 x2) (CQ qc D n 146 [] [.r,.l,.r,.l] (qh qc 146))) a0:=by kernel_rfl
 rw[h]
 simp only[q94]
 rfl

def qbc5 (D:DX)(n:Nat) (a0:tSch) (a1:ByteArray):Option ((Int×Unit)×Unit):=qi (qeo D (Prod.fst a0) (Clo.mk 196 [CapV.rptr Ty.str a1])) fun b↦some ((Prod.fst (Prod.fst b),()),())
def q52 (D:DX)(n:Nat) (a0:tSch) (a1:ByteArray):Option ((Int×Unit)×Unit):=qbc5 D n a0 a1
theorem qbo9 (D:DX)(n:Nat) (a0:tSch) (a1:ByteArray):rfC qc D n 147 (a0,(a1,()))=q52 D n a0 a1:=by kernel_rfl

def qwb (D:DX)(n:Nat) (go:List Int→Int→List Int→Int→Int→tSch→Option ((Bool×Unit)×Unit)) (K0:List Int→Int→Bool→Option ((Bool×Unit)×Unit)) (K1:List Int→Int→Option ((Bool×Unit)×Unit)) (x0:List Int) (x1:Int) (x2:List Int) (x3:Int) (x4:Int) (x5:tSch):Option ((Bool×Unit)×Unit):=br (decide (x4<x3)) (br (decide (0≤x4)&&decide (x4<(↑(List.length x2):Int))) (qi (qgm D (List.getD x2 (Int.toNat x4) 0) 0 (IntKind.wrap IntKind.i64 ((↑(List.length (Prod.fst x5)):Int) - 1))) fun b↦br (!Prod.fst (Prod.fst b)) (K0 x0 x1 false) (br (decide (0≤0)&&decide (0≤x4)&&decide (x4≤(↑(List.length x0):Int))) (qi (qjv D (List.drop (Int.toNat 0) (List.take (Int.toNat x4) x0)) (List.getD x2 (Int.toNat x4) 0)) fun b↦br (Prod.fst (Prod.fst b)) (K0 x0 x1 false) (go x0 x1 x2 x3 (IntKind.wrap IntKind.i64 (x4+1)) x5)) none)) none) (K1 x0 x1)
def qh3 (D:DX)(n:Nat) (K0:List Int→Int→Bool→Option ((Bool×Unit)×Unit)) (K1:List Int→Int→Option ((Bool×Unit)×Unit)):Nat→(List Int)→(Int)→(List Int)→(Int)→(Int)→(tSch)→Option ((Bool×Unit)×Unit) | 0=>(fun x0 x1 x2 x3 x4 x5=>none) | m+1=>(fun x0 x1 x2 x3 x4 x5=>qwb D n (qh3 D n K0 K1 m) K0 K1 x0 x1 x2 x3 x4 x5)
def q17 (D:DX)(n:Nat) (v0_0:List Int) (v0_1:Int) (v0_2:Bool):Option ((Bool×Unit)×Unit):=some ((v0_2,()),())
def qr2 (D:DX)(n:Nat) (v1_0:List Int) (v1_1:Int):Option ((Bool×Unit)×Unit):=qi (qgm D (↑(List.length v1_0):Int) 1 v1_1) fun b↦some ((Prod.fst (Prod.fst b),()),())
def qtq (D:DX)(n:Nat):(List Int)→(Int)→(List Int)→(Int)→(Int)→(tSch)→Option ((Bool×Unit)×Unit):=(fun x0 x1 x2 x3 x4 x5=>qh3 D n (fun v0_0 v0_1 v0_2=>q17 D n v0_0 v0_1 v0_2) (fun v1_0 v1_1=>qr2 D n v1_0 v1_1) n x0 x1 x2 x3 x4 x5)
def qyr (D:DX)(n:Nat) (lp0:List Int→Int→List Int→Int→Int→tSch→Option ((Bool×Unit)×Unit)) (a0:tSch) (a1:List Int) (a2:Int):Option ((Bool×Unit)×Unit):=lp0 a1 a2 a1 (↑(List.length a1):Int) 0 a0
def qx5 (D:DX)(n:Nat) (a0:tSch) (a1:List Int) (a2:Int):Option ((Bool×Unit)×Unit):=qyr D n (qtq D n) a0 a1 a2
def qie (x0:List Int) (x1:Int) (x2:List Int) (x3:Int) (x4:Int) (x5:tSch):St:=stq 35 [(1,AV.val (Ty.sl yI) x0),(2,avI x1),(3,AV.addr 3 []),(9,AV.val (Ty.sl yI) x2),(10,avI x3),(11,avI x4)] [(3,Root.mk yS Mk.no x5 true)] 
def qmi (v0_0:List Int) (v0_1:Int) (v0_2:Bool):St:=stq 35 [(1,AV.val (Ty.sl yI) v0_0),(2,avI v0_1),(6,AV.val Ty.bool v0_2)] [] 
def qm2 (v1_0:List Int) (v1_1:Int):St:=stq 35 [(1,AV.val (Ty.sl yI) v1_0),(2,avI v1_1)] [] 
theorem qbex (D:DX)(n:Nat) (m:Nat) (K:Ex→St→Option (Out ctx 148)) (x0:List Int) (x1:Int) (x2:List Int) (x3:Int) (x4:Int) (x5:tSch) :
 LQ qc D n 148 [.r,.l,.r,.l] (m+1) (qie x0 x1 x2 x3 x4 x5) K=qwb D n (fun x0 x1 x2 x3 x4 x5=>LQ qc D n 148 [.r,.l,.r,.l] m (qie x0 x1 x2 x3 x4 x5) K) (fun v0_0 v0_1 v0_2=>K (Ex.ret) (qmi v0_0 v0_1 v0_2)) (fun v1_0 v1_1=>K (Ex.exit 0) (qm2 v1_0 v1_1)) x0 x1 x2 x3 x4 x5:=by kernel_rfl
theorem q35 (D:DX)(n:Nat) (K:Ex→St→Option (Out ctx 148)):∀ (m:Nat) (x0:List Int) (x1:Int) (x2:List Int) (x3:Int) (x4:Int) (x5:tSch),LQ qc D n 148 [.r,.l,.r,.l] m (qie x0 x1 x2 x3 x4 x5) K=qh3 D n (fun v0_0 v0_1 v0_2=>K (Ex.ret) (qmi v0_0 v0_1 v0_2)) (fun v1_0 v1_1=>K (Ex.exit 0) (qm2 v1_0 v1_1)) m x0 x1 x2 x3 x4 x5
 | 0,x0,x1,x2,x3,x4,x5=>qx ..
 | m+1,x0,x1,x2,x3,x4,x5=>by
  have ih:(fun x0 x1 x2 x3 x4 x5=>LQ qc D n 148 [.r,.l,.r,.l] m (qie x0 x1 x2 x3 x4 x5) K)=qh3 D n (fun v0_0 v0_1 v0_2=>K (Ex.ret) (qmi v0_0 v0_1 v0_2)) (fun v1_0 v1_1=>K (Ex.exit 0) (qm2 v1_0 v1_1)) m:=by funext x0 x1 x2 x3 x4 x5;exact q35 D n K m x0 x1 x2 x3 x4 x5
  rw[qbex]
  rw[ih];rfl
theorem qbby (D:DX)(n:Nat) (v0_0:List Int) (v0_1:Int) (v0_2:Bool) :
 (CQ qc D n 148 [] [.r,.l,.r,.l] (qh qc 148)) (Ex.ret) (qmi v0_0 v0_1 v0_2)=q17 D n v0_0 v0_1 v0_2:=by kernel_rfl
theorem qbbj (D:DX)(n:Nat) (v1_0:List Int) (v1_1:Int) :
 (CQ qc D n 148 [] [.r,.l,.r,.l] (qh qc 148)) (Ex.exit 0) (qm2 v1_0 v1_1)=qr2 D n v1_0 v1_1:=by kernel_rfl
theorem qbca (D:DX)(n:Nat) (x0:List Int) (x1:Int) (x2:List Int) (x3:Int) (x4:Int) (x5:tSch) :
 LQ qc D n 148 [.r,.l,.r,.l] n (qie x0 x1 x2 x3 x4 x5) (CQ qc D n 148 [] [.r,.l,.r,.l] (qh qc 148))=qtq D n x0 x1 x2 x3 x4 x5:=by
 rw[q35]
 simp only[qbby,qbbj]
 rfl
theorem qbke (D:DX)(n:Nat) (a0:tSch) (a1:List Int) (a2:Int):rfC qc D n 148 (a0,(a1,(a2,())))=qx5 D n a0 a1 a2:=by
 have h:rfC qc D n 148 (a0,(a1,(a2,())))=qyr D n (fun x0 x1 x2 x3 x4 x5=>LQ qc D n 148 [.r,.l,.r,.l] n (qie x0 x1 x2 x3 x4 x5) (CQ qc D n 148 [] [.r,.l,.r,.l] (qh qc 148))) a0 a1 a2:=by kernel_rfl
 rw[h]
 simp only[qbca]
 rfl

def q3n (D:DX)(n:Nat) (a0:ByteArray×List Int×Bool×Unit) (a1:ByteArray×List Int×Bool×Unit):Option ((Bool×Unit)×Unit):=some ((List.beq (ByteArray.toList (Prod.fst a0)) (ByteArray.toList (Prod.fst a1)),()),())
def quj (D:DX)(n:Nat) (a0:ByteArray×List Int×Bool×Unit) (a1:ByteArray×List Int×Bool×Unit):Option ((Bool×Unit)×Unit):=q3n D n a0 a1
theorem qbeu (D:DX)(n:Nat) (a0:ByteArray×List Int×Bool×Unit) (a1:ByteArray×List Int×Bool×Unit):rfC qc D n 149 (a0,(a1,()))=quj D n a0 a1:=by kernel_rfl

def qni (D:DX)(n:Nat) (a1:Clo) (a0:List Int):Option ((Bool×Unit)×Unit):=qi (qjp D a0 a1) fun b↦some ((decide (Prod.fst (Prod.fst b)≥0),()),())
def qhk (D:DX)(n:Nat) (a0:List Int) (a1:Clo):Option ((Bool×Unit)×Unit):=qni D n a1 a0
theorem qy2 (D:DX)(n:Nat) (a0:List Int) (a1:Clo):rfC qc D n 150 (a0,(a1,()))=qhk D n a0 a1:=by kernel_rfl

def q3c (D:DX)(n:Nat) (a0:Int) (a1:tSch):Option ((Bool×Unit)×Unit):=br (decide (0≤a0)&&decide (a0<(↑(List.length (Prod.fst a1)):Int))) (some ((Prod.fst (Prod.snd (Prod.snd (List.getD (Prod.fst a1) (Int.toNat a0) (ByteArray.empty,0,false,())))),()),())) none
def quh (D:DX)(n:Nat) (a0:Int) (a1:tSch):Option ((Bool×Unit)×Unit):=q3c D n a0 a1
theorem qbfk (D:DX)(n:Nat) (a0:Int) (a1:tSch):rfC qc D n 151 (a0,(a1,()))=quh D n a0 a1:=by kernel_rfl

def qrp (D:DX)(n:Nat) (go:qe→Int→Int→qe→Option ((qe×Unit)×Unit)) (K0:qe→Option ((qe×Unit)×Unit)) (x0:qe) (x1:Int) (x2:Int) (x3:qe):Option ((qe×Unit)×Unit):=br (decide (x2<x1)) (br (decide (0≤x2)&&decide (x2<(↑(List.length x0):Int))) (qi (qes D (List.getD x0 (Int.toNat x2) [])) fun b↦br (decide (List.length x3+1≤qbk)) (go x0 x1 (IntKind.wrap IntKind.i64 (x2+1)) (x3++[Prod.fst (Prod.fst b)])) none) none) (K0 x3)
def qf6 (D:DX)(n:Nat) (K0:qe→Option ((qe×Unit)×Unit)):Nat→(qe)→(Int)→(Int)→(qe)→Option ((qe×Unit)×Unit) | 0=>(fun x0 x1 x2 x3=>none) | m+1=>(fun x0 x1 x2 x3=>qrp D n (qf6 D n K0 m) K0 x0 x1 x2 x3)
def qyd (D:DX)(n:Nat) (v0_0:qe):Option ((qe×Unit)×Unit):=some ((v0_0,()),())
def qqk (D:DX)(n:Nat):(qe)→(Int)→(Int)→(qe)→Option ((qe×Unit)×Unit):=(fun x0 x1 x2 x3=>qf6 D n (fun v0_0=>qyd D n v0_0) n x0 x1 x2 x3)
def qug (D:DX)(n:Nat) (lp0:qe→Int→Int→qe→Option ((qe×Unit)×Unit)) (a0:qe):Option ((qe×Unit)×Unit):=lp0 a0 (↑(List.length a0):Int) 0 []
def qt4 (D:DX)(n:Nat) (a0:qe):Option ((qe×Unit)×Unit):=qug D n (qqk D n) a0
def qf1 (x0:qe) (x1:Int) (x2:Int) (x3:qe):St:=stq 20 [(3,AV.brw 3 [] 0),(7,AV.val (Ty.sl (Ty.sl yV)) x0),(8,avI x1),(9,avI x2)] [(3,Root.mk (Ty.sl (Ty.sl yV)) (Mk.own 0 (Mk.own 0 (Mk.pr Mk.no (Mk.pr Mk.no (Mk.pr Mk.no Mk.no))))) x3 false)] 
def qjx (v0_0:qe):St:=stq 20 [(3,AV.brw 3 [] 0)] [(3,Root.mk (Ty.sl (Ty.sl yV)) (Mk.own 0 (Mk.own 0 (Mk.pr Mk.no (Mk.pr Mk.no (Mk.pr Mk.no Mk.no))))) v0_0 false)] 
theorem qbaj (D:DX)(n:Nat) (m:Nat) (K:Ex→St→Option (Out ctx 152)) (x0:qe) (x1:Int) (x2:Int) (x3:qe) :
 LQ qc D n 152 [.r,.r,.l,.r,.l] (m+1) (qf1 x0 x1 x2 x3) K=qrp D n (fun x0 x1 x2 x3=>LQ qc D n 152 [.r,.r,.l,.r,.l] m (qf1 x0 x1 x2 x3) K) (fun v0_0=>K (Ex.exit 0) (qjx v0_0)) x0 x1 x2 x3:=by kernel_rfl
theorem qzk (D:DX)(n:Nat) (K:Ex→St→Option (Out ctx 152)):∀ (m:Nat) (x0:qe) (x1:Int) (x2:Int) (x3:qe),LQ qc D n 152 [.r,.r,.l,.r,.l] m (qf1 x0 x1 x2 x3) K=qf6 D n (fun v0_0=>K (Ex.exit 0) (qjx v0_0)) m x0 x1 x2 x3
 | 0,x0,x1,x2,x3=>qx ..
 | m+1,x0,x1,x2,x3=>by
  have ih:(fun x0 x1 x2 x3=>LQ qc D n 152 [.r,.r,.l,.r,.l] m (qf1 x0 x1 x2 x3) K)=qf6 D n (fun v0_0=>K (Ex.exit 0) (qjx v0_0)) m:=by funext x0 x1 x2 x3;exact qzk D n K m x0 x1 x2 x3
  rw[qbaj]
  rw[ih];rfl
theorem q8p (D:DX)(n:Nat) (v0_0:qe) :
 (CQ qc D n 152 [] [.r,.r,.l,.r,.l] (qh qc 152)) (Ex.exit 0) (qjx v0_0)=qyd D n v0_0:=by kernel_rfl
theorem q9f (D:DX)(n:Nat) (x0:qe) (x1:Int) (x2:Int) (x3:qe) :
 LQ qc D n 152 [.r,.r,.l,.r,.l] n (qf1 x0 x1 x2 x3) (CQ qc D n 152 [] [.r,.r,.l,.r,.l] (qh qc 152))=qqk D n x0 x1 x2 x3:=by
 rw[qzk]
 simp only[q8p]
 rfl
theorem qbed (D:DX)(n:Nat) (a0:qe):rfC qc D n 152 (a0,())=qt4 D n a0:=by
 have h:rfC qc D n 152 (a0,())=qug D n (fun x0 x1 x2 x3=>LQ qc D n 152 [.r,.r,.l,.r,.l] n (qf1 x0 x1 x2 x3) (CQ qc D n 152 [] [.r,.r,.l,.r,.l] (qh qc 152))) a0:=by kernel_rfl
 rw[h]
 simp only[q9f]
 rfl

def q7f (D:DX)(n:Nat) (a0:qd) (a1:(tSch)×qe×Unit) (a2:qd):Option ((Bool×Unit)×Unit):=qi (ql9 D (Prod.fst a1) a0) fun b↦qi (qda D (Prod.fst (Prod.fst b)) a2) fun b↦some ((Prod.fst (Prod.fst b),()),())
def qzv (D:DX)(n:Nat) (a0:qd) (a1:(tSch)×qe×Unit) (a2:qd):Option ((Bool×Unit)×Unit):=q7f D n a0 a1 a2
theorem qbld (D:DX)(n:Nat) (a0:qd) (a1:(tSch)×
 qe×Unit) (a2:qd):rfC qc D n 153 (a0,(a1,(a2,())))=qzv D n a0 a1 a2:=by kernel_rfl

def q8b (D:DX)(n:Nat) (a0:Int×Int×ByteArray×Unit):Option ((Bool×Unit)×Unit):=br (decide (Prod.fst a0=0)) (some ((bif decide (Prod.fst (Prod.snd a0)=0) then List.beq (ByteArray.toList (Prod.fst (Prod.snd (Prod.snd a0)))) (ByteArray.toList (ByteArray.mk #[])) else false,()),())) (br (decide (Prod.fst a0=1)) (qi (qgl D (Prod.fst (Prod.snd a0)) 0 1) fun b↦some ((bif Prod.fst (Prod.fst b) then List.beq (ByteArray.toList (Prod.fst (Prod.snd (Prod.snd a0)))) (ByteArray.toList (ByteArray.mk #[])) else false,()),())) (br (decide (Prod.fst a0=2)) (qi (qgl D (Prod.fst (Prod.snd a0)) (-1000000000000) 1000000000000) fun b↦some ((bif Prod.fst (Prod.fst b) then List.beq (ByteArray.toList (Prod.fst (Prod.snd (Prod.snd a0)))) (ByteArray.toList (ByteArray.mk #[])) else false,()),())) (br (decide (Prod.fst a0=3)) (some ((bif decide (Prod.fst (Prod.snd a0)=0) then decide ((↑(ByteArray.size (Prod.fst (Prod.snd (Prod.snd a0)))):Int)≤20) else false,()),())) (some ((false,()),())))))
def q07 (D:DX)(n:Nat) (a0:Int×Int×ByteArray×Unit):Option ((Bool×Unit)×Unit):=q8b D n a0
theorem qblw (D:DX)(n:Nat) (a0:Int×Int×ByteArray×Unit):rfC qc D n 158 (a0,())=q07 D n a0:=by kernel_rfl

def qye (D:DX)(n:Nat) (go:qd→qd→Int→Option ((Bool×Unit)×Unit)) (K0:qd→qd→Bool→Option ((Bool×Unit)×Unit)) (K1:qd→qd→Option ((Bool×Unit)×Unit)) (x0:qd) (x1:qd) (x2:Int):Option ((Bool×Unit)×Unit):=br (bif decide (x2<(↑(List.length x0):Int)) then decide (x2<(↑(List.length x1):Int)) else false) (br (decide (0≤x2)&&decide (x2<(↑(List.length x0):Int))) (br (decide (0≤x2)&&decide (x2<(↑(List.length x1):Int))) (qi (qoj D (List.getD x0 (Int.toNat x2) (0,0,ByteArray.empty,())) (List.getD x1 (Int.toNat x2) (0,0,ByteArray.empty,()))) fun b↦br (!Prod.fst (Prod.fst b)) (K0 x0 x1 false) (go x0 x1 (IntKind.wrap IntKind.i64 (x2+1)))) none) none) (K1 x0 x1)
def qjk (D:DX)(n:Nat) (K0:qd→qd→Bool→Option ((Bool×Unit)×Unit)) (K1:qd→qd→Option ((Bool×Unit)×Unit)):Nat→(qd)→(qd)→(Int)→Option ((Bool×Unit)×Unit) | 0=>(fun x0 x1 x2=>none) | m+1=>(fun x0 x1 x2=>qye D n (qjk D n K0 K1 m) K0 K1 x0 x1 x2)
def qt8 (D:DX)(n:Nat) (v0_0:qd) (v0_1:qd) (v0_2:Bool):Option ((Bool×Unit)×Unit):=some ((v0_2,()),())
def qjr (D:DX)(n:Nat) (v1_0:qd) (v1_1:qd):Option ((Bool×Unit)×Unit):=some ((decide ((↑(List.length v1_0):Int)=(↑(List.length v1_1):Int)),()),())
def qvt (D:DX)(n:Nat):(qd)→(qd)→(Int)→Option ((Bool×Unit)×Unit):=(fun x0 x1 x2=>qjk D n (fun v0_0 v0_1 v0_2=>qt8 D n v0_0 v0_1 v0_2) (fun v1_0 v1_1=>qjr D n v1_0 v1_1) n x0 x1 x2)
def qz3 (D:DX)(n:Nat) (lp0:qd→qd→Int→Option ((Bool×Unit)×Unit)) (a0:qd) (a1:qd):Option ((Bool×Unit)×Unit):=lp0 a0 a1 0
def qz9 (D:DX)(n:Nat) (a0:qd) (a1:qd):Option ((Bool×Unit)×Unit):=qz3 D n (qvt D n) a0 a1
def qi3 (x0:qd) (x1:qd) (x2:Int):St:=stq 33 [(0,AV.val (Ty.sl yV) x0),(1,AV.val (Ty.sl yV) x1),(5,avI x2)] [] 
def qn2 (v0_0:qd) (v0_1:qd) (v0_2:Bool):St:=stq 33 [(0,AV.val (Ty.sl yV) v0_0),(1,AV.val (Ty.sl yV) v0_1),(4,AV.val Ty.bool v0_2)] [] 
def qnz (v1_0:qd) (v1_1:qd):St:=stq 33 [(0,AV.val (Ty.sl yV) v1_0),(1,AV.val (Ty.sl yV) v1_1)] [] 
theorem qbg1 (D:DX)(n:Nat) (m:Nat) (K:Ex→St→Option (Out ctx 159)) (x0:qd) (x1:qd) (x2:Int) :
 LQ qc D n 159 [.r,.l,.r,.l] (m+1) (qi3 x0 x1 x2) K=qye D n (fun x0 x1 x2=>LQ qc D n 159 [.r,.l,.r,.l] m (qi3 x0 x1 x2) K) (fun v0_0 v0_1 v0_2=>K (Ex.ret) (qn2 v0_0 v0_1 v0_2)) (fun v1_0 v1_1=>K (Ex.exit 0) (qnz v1_0 v1_1)) x0 x1 x2:=by kernel_rfl
theorem q5y (D:DX)(n:Nat) (K:Ex→St→Option (Out ctx 159)):∀ (m:Nat) (x0:qd) (x1:qd) (x2:Int),LQ qc D n 159 [.r,.l,.r,.l] m (qi3 x0 x1 x2) K=qjk D n (fun v0_0 v0_1 v0_2=>K (Ex.ret) (qn2 v0_0 v0_1 v0_2)) (fun v1_0 v1_1=>K (Ex.exit 0) (qnz v1_0 v1_1)) m x0 x1 x2
 | 0,x0,x1,x2=>qx ..
 | m+1,x0,x1,x2=>by
  have ih:(fun x0 x1 x2=>LQ qc D n 159 [.r,.l,.r,.l] m (qi3 x0 x1 x2) K)=qjk D n (fun v0_0 v0_1 v0_2=>K (Ex.ret) (qn2 v0_0 v0_1 v0_2)) (fun v1_0 v1_1=>K (Ex.exit 0) (qnz v1_0 v1_1)) m:=by funext x0 x1 x2;exact q5y D n K m x0 x1 x2
  rw[qbg1]
  rw[ih];rfl
theorem qbe8 (D:DX)(n:Nat) (v0_0:qd) (v0_1:qd) (v0_2:Bool) :
 (CQ qc D n 159 [] [.r,.l,.r,.l] (qh qc 159)) (Ex.ret) (qn2 v0_0 v0_1 v0_2)=qt8 D n v0_0 v0_1 v0_2:=by kernel_rfl
theorem qbeq (D:DX)(n:Nat) (v1_0:qd) (v1_1:qd) :
 (CQ qc D n 159 [] [.r,.l,.r,.l] (qh qc 159)) (Ex.exit 0) (qnz v1_0 v1_1)=qjr D n v1_0 v1_1:=by kernel_rfl
theorem qbep (D:DX)(n:Nat) (x0:qd) (x1:qd) (x2:Int) :
 LQ qc D n 159 [.r,.l,.r,.l] n (qi3 x0 x1 x2) (CQ qc D n 159 [] [.r,.l,.r,.l] (qh qc 159))=qvt D n x0 x1 x2:=by
 rw[q5y]
 simp only[qbe8,qbeq]
 rfl
theorem qbl5 (D:DX)(n:Nat) (a0:qd) (a1:qd):rfC qc D n 159 (a0,(a1,()))=qz9 D n a0 a1:=by
 have h:rfC qc D n 159 (a0,(a1,()))=qz3 D n (fun x0 x1 x2=>LQ qc D n 159 [.r,.l,.r,.l] n (qi3 x0 x1 x2) (CQ qc D n 159 [] [.r,.l,.r,.l] (qh qc 159))) a0 a1:=by kernel_rfl
 rw[h]
 simp only[qbep]
 rfl

def q4z (D:DX)(n:Nat) (a0:Int×Int×ByteArray×Unit) (a1:Int×Int×ByteArray×Unit):Option ((Bool×Unit)×Unit):=some ((qrb (Ty.pair (Ty.int IntKind.i64) (Ty.pair (Ty.int IntKind.i64) (Ty.pair Ty.str Ty.unit))) a0 a1,()),())
def qv8 (D:DX)(n:Nat) (a0:Int×Int×ByteArray×Unit) (a1:Int×Int×ByteArray×Unit):Option ((Bool×Unit)×Unit):=q4z D n a0 a1
theorem qbg6 (D:DX)(n:Nat) (a0:Int×Int×ByteArray×Unit) (a1:Int×Int×ByteArray×Unit):rfC qc D n 160 (a0,(a1,()))=qv8 D n a0 a1:=by kernel_rfl

def q5n (D:DX)(n:Nat) (a0:Int×Int×ByteArray×Unit) (a1:Int×Int×ByteArray×Unit):Option ((Bool×Unit)×Unit):=br (Prod.fst a0 != Prod.fst a1) (some ((decide (Prod.fst a0<Prod.fst a1),()),())) (br (Prod.fst (Prod.snd a0) != Prod.fst (Prod.snd a1)) (some ((decide (Prod.fst (Prod.snd a0)<Prod.fst (Prod.snd a1)),()),())) (some ((Op.bytesLess (ByteArray.toList (Prod.fst (Prod.snd (Prod.snd a0)))) (ByteArray.toList (Prod.fst (Prod.snd (Prod.snd a1)))),()),())))
def qvf (D:DX)(n:Nat) (a0:Int×Int×ByteArray×Unit) (a1:Int×Int×ByteArray×Unit):Option ((Bool×Unit)×Unit):=q5n D n a0 a1
theorem qbg7 (D:DX)(n:Nat) (a0:Int×Int×ByteArray×Unit) (a1:Int×Int×ByteArray×Unit):rfC qc D n 161 (a0,(a1,()))=qvf D n a0 a1:=by kernel_rfl

def qkq (D:DX)(n:Nat) (a0:qj):Option ((qj×Unit)×Unit):=br (decide (Int.toNat (↑(List.length a0):Int)=0)) (both (some (([],()),())) (br (decide (0+List.length a0≤qbk)) (some (([]++a0,()),())) none)) (br (decide (0+List.length a0≤qbk)) (some (([]++a0,()),())) none)
def qfq (D:DX)(n:Nat) (a0:qj):Option ((qj×Unit)×Unit):=qkq D n a0
theorem qvu (D:DX)(n:Nat) (a0:qj):rfC qc D n 164 (a0,())=qfq D n a0:=by kernel_rfl

def qw6 (D:DX)(n:Nat) (go:qd→Int→Option ((Bool×Unit)×Unit)) (K0:Bool→Option ((Bool×Unit)×Unit)) (K1:Option ((Bool×Unit)×Unit)) (x0:qd) (x1:Int):Option ((Bool×Unit)×Unit):=br (decide (x1<(↑(List.length x0):Int))) (br (decide (0≤x1)&&decide (x1<(↑(List.length x0):Int))) (br (decide (Prod.fst (List.getD x0 (Int.toNat x1) (0,0,ByteArray.empty,()))=0)) (K0 true) (go x0 (IntKind.wrap IntKind.i64 (x1+1)))) none) K1
def qi4 (D:DX)(n:Nat) (K0:Bool→Option ((Bool×Unit)×Unit)) (K1:Option ((Bool×Unit)×Unit)):Nat→(qd)→(Int)→Option ((Bool×Unit)×Unit) | 0=>(fun x0 x1=>none) | m+1=>(fun x0 x1=>qw6 D n (qi4 D n K0 K1 m) K0 K1 x0 x1)
def q32 (D:DX)(n:Nat) (v0_0:Bool):Option ((Bool×Unit)×Unit):=some ((v0_0,()),())
def q3g (D:DX)(n:Nat):Option ((Bool×Unit)×Unit):=some ((false,()),())
def qwa (D:DX)(n:Nat):(qd)→(Int)→Option ((Bool×Unit)×Unit):=(fun x0 x1=>qi4 D n (fun v0_0=>q32 D n v0_0) (q3g D n) n x0 x1)
def qz0 (D:DX)(n:Nat) (lp0:qd→Int→Option ((Bool×Unit)×Unit)) (a0:qd):Option ((Bool×Unit)×Unit):=lp0 a0 0
def q05 (D:DX)(n:Nat) (a0:qd):Option ((Bool×Unit)×Unit):=qz0 D n (qwa D n) a0
def qjb (x0:qd) (x1:Int):St:=stq 16 [(0,AV.val (Ty.sl yV) x0),(3,avI x1)] [] 
def qnx (v0_0:Bool):St:=stq 16 [(2,AV.val Ty.bool v0_0)] [] 
def qnv:St:=stq 16 [] [] 
theorem qbhh (D:DX)(n:Nat) (m:Nat) (K:Ex→St→Option (Out ctx 165)) (x0:qd) (x1:Int) :
 LQ qc D n 165 [.r,.l,.r,.l] (m+1) (qjb x0 x1) K=qw6 D n (fun x0 x1=>LQ qc D n 165 [.r,.l,.r,.l] m (qjb x0 x1) K) (fun v0_0=>K (Ex.ret) (qnx v0_0)) (K (Ex.exit 0) (qnv)) x0 x1:=by kernel_rfl
theorem q44 (D:DX)(n:Nat) (K:Ex→St→Option (Out ctx 165)):∀ (m:Nat) (x0:qd) (x1:Int),LQ qc D n 165 [.r,.l,.r,.l] m (qjb x0 x1) K=qi4 D n (fun v0_0=>K (Ex.ret) (qnx v0_0)) (K (Ex.exit 0) (qnv)) m x0 x1
 | 0,x0,x1=>qx ..
 | m+1,x0,x1=>by
  have ih:(fun x0 x1=>LQ qc D n 165 [.r,.l,.r,.l] m (qjb x0 x1) K)=qi4 D n (fun v0_0=>K (Ex.ret) (qnx v0_0)) (K (Ex.exit 0) (qnv)) m:=by funext x0 x1;exact q44 D n K m x0 x1
  rw[qbhh]
  rw[ih];rfl
theorem qbfc (D:DX)(n:Nat) (v0_0:Bool) :
 (CQ qc D n 165 [] [.r,.l,.r,.l] (qh qc 165)) (Ex.ret) (qnx v0_0)=q32 D n v0_0:=by kernel_rfl
theorem qbd8 (D:DX)(n:Nat) :
 (CQ qc D n 165 [] [.r,.l,.r,.l] (qh qc 165)) (Ex.exit 0) (qnv)=q3g D n:=by kernel_rfl
theorem qbd7 (D:DX)(n:Nat) (x0:qd) (x1:Int) :
 LQ qc D n 165 [.r,.l,.r,.l] n (qjb x0 x1) (CQ qc D n 165 [] [.r,.l,.r,.l] (qh qc 165))=qwa D n x0 x1:=by
 rw[q44]
 simp only[qbfc,qbd8]
 rfl
theorem qbl8 (D:DX)(n:Nat) (a0:qd):rfC qc D n 165 (a0,())=q05 D n a0:=by
 have h:rfC qc D n 165 (a0,())=qz0 D n (fun x0 x1=>LQ qc D n 165 [.r,.l,.r,.l] n (qjb x0 x1) (CQ qc D n 165 [] [.r,.l,.r,.l] (qh qc 165))) a0:=by kernel_rfl
 rw[h]
 simp only[qbd7]
 rfl

def qth (D:DX)(n:Nat) (go:ByteArray→Int→Option ((Bool×Unit)×Unit)) (K0:ByteArray→Bool→Option ((Bool×Unit)×Unit)) (K1:ByteArray→Option ((Bool×Unit)×Unit)) (x0:ByteArray) (x1:Int):Option ((Bool×Unit)×Unit):=br (decide (x1<(↑(ByteArray.size x0):Int))) (br (decide (0≤x1)&&decide (x1<(↑(ByteArray.size x0):Int))) (br (decide ((↑(UInt8.toNat (Array.getD (ByteArray.data x0) (Int.toNat x1) (UInt8.ofNat 0))):Int)<97)) (K0 x0 false) (br (decide (0≤x1)&&decide (x1<(↑(ByteArray.size x0):Int))) (br (decide ((↑(UInt8.toNat (Array.getD (ByteArray.data x0) (Int.toNat x1) (UInt8.ofNat 0))):Int)>122)) (K0 x0 false) (go x0 (IntKind.wrap IntKind.i64 (x1+1)))) none)) none) (K1 x0)
def qgy (D:DX)(n:Nat) (K0:ByteArray→Bool→Option ((Bool×Unit)×Unit)) (K1:ByteArray→Option ((Bool×Unit)×Unit)):Nat→(ByteArray)→(Int)→Option ((Bool×Unit)×Unit) | 0=>(fun x0 x1=>none) | m+1=>(fun x0 x1=>qth D n (qgy D n K0 K1 m) K0 K1 x0 x1)
def qzd (D:DX)(n:Nat) (v0_0:ByteArray) (v0_1:Bool):Option ((Bool×Unit)×Unit):=some ((v0_1,()),())
def qqc (D:DX)(n:Nat) (v1_0:ByteArray):Option ((Bool×Unit)×Unit):=qi (qgl D (↑(ByteArray.size v1_0):Int) 1 12) fun b↦some ((Prod.fst (Prod.fst b),()),())
def qsk (D:DX)(n:Nat):(ByteArray)→(Int)→Option ((Bool×Unit)×Unit):=(fun x0 x1=>qgy D n (fun v0_0 v0_1=>qzd D n v0_0 v0_1) (fun v1_0=>qqc D n v1_0) n x0 x1)
def qv5 (D:DX)(n:Nat) (lp0:ByteArray→Int→Option ((Bool×Unit)×Unit)) (a0:ByteArray):Option ((Bool×Unit)×Unit):=lp0 a0 0
def qwd (D:DX)(n:Nat) (a0:ByteArray):Option ((Bool×Unit)×Unit):=qv5 D n (qsk D n) a0
def qg4 (x0:ByteArray) (x1:Int):St:=stq 23 [(0,AV.val Ty.str x0),(3,avI x1)] [] 
def qky (v0_0:ByteArray) (v0_1:Bool):St:=stq 23 [(0,AV.val Ty.str v0_0),(2,AV.val Ty.bool v0_1)] [] 
def qk2 (v1_0:ByteArray):St:=stq 23 [(0,AV.val Ty.str v1_0)] [] 
theorem qbcs (D:DX)(n:Nat) (m:Nat) (K:Ex→St→Option (Out ctx 166)) (x0:ByteArray) (x1:Int) :
 LQ qc D n 166 [.r,.l,.r,.l] (m+1) (qg4 x0 x1) K=qth D n (fun x0 x1=>LQ qc D n 166 [.r,.l,.r,.l] m (qg4 x0 x1) K) (fun v0_0 v0_1=>K (Ex.ret) (qky v0_0 v0_1)) (fun v1_0=>K (Ex.exit 0) (qk2 v1_0)) x0 x1:=by kernel_rfl
theorem q1t (D:DX)(n:Nat) (K:Ex→St→Option (Out ctx 166)):∀ (m:Nat) (x0:ByteArray) (x1:Int),LQ qc D n 166 [.r,.l,.r,.l] m (qg4 x0 x1) K=qgy D n (fun v0_0 v0_1=>K (Ex.ret) (qky v0_0 v0_1)) (fun v1_0=>K (Ex.exit 0) (qk2 v1_0)) m x0 x1
 | 0,x0,x1=>qx ..
 | m+1,x0,x1=>by
  have ih:(fun x0 x1=>LQ qc D n 166 [.r,.l,.r,.l] m (qg4 x0 x1) K)=qgy D n (fun v0_0 v0_1=>K (Ex.ret) (qky v0_0 v0_1)) (fun v1_0=>K (Ex.exit 0) (qk2 v1_0)) m:=by funext x0 x1;exact q1t D n K m x0 x1
  rw[qbcs]
  rw[ih];rfl
theorem qbaq (D:DX)(n:Nat) (v0_0:ByteArray) (v0_1:Bool) :
 (CQ qc D n 166 [] [.r,.l,.r,.l] (qh qc 166)) (Ex.ret) (qky v0_0 v0_1)=qzd D n v0_0 v0_1:=by kernel_rfl
theorem q99 (D:DX)(n:Nat) (v1_0:ByteArray) :
 (CQ qc D n 166 [] [.r,.l,.r,.l] (qh qc 166)) (Ex.exit 0) (qk2 v1_0)=qqc D n v1_0:=by kernel_rfl
theorem qbab (D:DX)(n:Nat) (x0:ByteArray) (x1:Int) :
 LQ qc D n 166 [.r,.l,.r,.l] n (qg4 x0 x1) (CQ qc D n 166 [] [.r,.l,.r,.l] (qh qc 166))=qsk D n x0 x1:=by
 rw[q1t]
 simp only[qbaq,q99]
 rfl
theorem qbgm (D:DX)(n:Nat) (a0:ByteArray):rfC qc D n 166 (a0,())=qwd D n a0:=by
 have h:rfC qc D n 166 (a0,())=qv5 D n (fun x0 x1=>LQ qc D n 166 [.r,.l,.r,.l] n (qg4 x0 x1) (CQ qc D n 166 [] [.r,.l,.r,.l] (qh qc 166))) a0:=by kernel_rfl
 rw[h]
 simp only[qbab]
 rfl

def q2u (D:DX)(n:Nat) (go:ByteArray→Int→tSch→Option ((Int×Unit)×Unit)) (K0:Int→Option ((Int×Unit)×Unit)) (K1:Option ((Int×Unit)×Unit)) (x0:ByteArray) (x1:Int) (x2:tSch):Option ((Int×Unit)×Unit):=br (decide (x1<(↑(List.length (Prod.fst x2)):Int))) (br (decide (0≤x1)&&decide (x1<(↑(List.length (Prod.fst x2)):Int))) (br (List.beq (ByteArray.toList (Prod.fst (List.getD (Prod.fst x2) (Int.toNat x1) (ByteArray.empty,0,false,())))) (ByteArray.toList x0)) (K0 x1) (go x0 (IntKind.wrap IntKind.i64 (x1+1)) x2)) none) K1
def qlf (D:DX)(n:Nat) (K0:Int→Option ((Int×Unit)×Unit)) (K1:Option ((Int×Unit)×Unit)):Nat→(ByteArray)→(Int)→(tSch)→Option ((Int×Unit)×Unit) | 0=>(fun x0 x1 x2=>none) | m+1=>(fun x0 x1 x2=>q2u D n (qlf D n K0 K1 m) K0 K1 x0 x1 x2)
def q6q (D:DX)(n:Nat) (v0_0:Int):Option ((Int×Unit)×Unit):=some ((v0_0,()),())
def q6h (D:DX)(n:Nat):Option ((Int×Unit)×Unit):=some ((-1,()),())
def q0w (D:DX)(n:Nat):(ByteArray)→(Int)→(tSch)→Option ((Int×Unit)×Unit):=(fun x0 x1 x2=>qlf D n (fun v0_0=>q6q D n v0_0) (q6h D n) n x0 x1 x2)
def q5s (D:DX)(n:Nat) (lp0:ByteArray→Int→tSch→Option ((Int×Unit)×Unit)) (a0:tSch) (a1:ByteArray):Option ((Int×Unit)×Unit):=lp0 a1 0 a0
def q4t (D:DX)(n:Nat) (a0:tSch) (a1:ByteArray):Option ((Int×Unit)×Unit):=q5s D n (q0w D n) a0 a1
def qln (x0:ByteArray) (x1:Int) (x2:tSch):St:=stq 22 [(1,AV.val Ty.str x0),(2,AV.addr 2 []),(5,avI x1)] [(2,Root.mk yS Mk.no x2 true)] 
def qq3 (v0_0:Int):St:=stq 22 [(4,avI v0_0)] [] 
def qqx:St:=stq 22 [] [] 
theorem qbk7 (D:DX)(n:Nat) (m:Nat) (K:Ex→St→Option (Out ctx 167)) (x0:ByteArray) (x1:Int) (x2:tSch) :
 LQ qc D n 167 [.r,.l,.r,.l] (m+1) (qln x0 x1 x2) K=q2u D n (fun x0 x1 x2=>LQ qc D n 167 [.r,.l,.r,.l] m (qln x0 x1 x2) K) (fun v0_0=>K (Ex.ret) (qq3 v0_0)) (K (Ex.exit 0) (qqx)) x0 x1 x2:=by kernel_rfl
theorem q78 (D:DX)(n:Nat) (K:Ex→St→Option (Out ctx 167)):∀ (m:Nat) (x0:ByteArray) (x1:Int) (x2:tSch),LQ qc D n 167 [.r,.l,.r,.l] m (qln x0 x1 x2) K=qlf D n (fun v0_0=>K (Ex.ret) (qq3 v0_0)) (K (Ex.exit 0) (qqx)) m x0 x1 x2
 | 0,x0,x1,x2=>qx ..
 | m+1,x0,x1,x2=>by
  have ih:(fun x0 x1 x2=>LQ qc D n 167 [.r,.l,.r,.l] m (qln x0 x1 x2) K)=qlf D n (fun v0_0=>K (Ex.ret) (qq3 v0_0)) (K (Ex.exit 0) (qqx)) m:=by funext x0 x1 x2;exact q78 D n K m x0 x1 x2
  rw[qbk7]
  rw[ih];rfl
theorem qbiq (D:DX)(n:Nat) (v0_0:Int) :
 (CQ qc D n 167 [] [.r,.l,.r,.l] (qh qc 167)) (Ex.ret) (qq3 v0_0)=q6q D n v0_0:=by kernel_rfl
theorem qbi2 (D:DX)(n:Nat) :
 (CQ qc D n 167 [] [.r,.l,.r,.l] (qh qc 167)) (Ex.exit 0) (qqx)=q6h D n:=by kernel_rfl
theorem qbks (D:DX)(n:Nat) (x0:ByteArray) (x1:Int) (x2:tSch) :
 LQ qc D n 167 [.r,.l,.r,.l] n (qln x0 x1 x2) (CQ qc D n 167 [] [.r,.l,.r,.l] (qh qc 167))=q0w D n x0 x1 x2:=by
 rw[q78]
 simp only[qbiq,qbi2]
 rfl
theorem qbp3 (D:DX)(n:Nat) (a0:tSch) (a1:ByteArray):rfC qc D n 167 (a0,(a1,()))=q4t D n a0 a1:=by
 have h:rfC qc D n 167 (a0,(a1,()))=q5s D n (fun x0 x1 x2=>LQ qc D n 167 [.r,.l,.r,.l] n (qln x0 x1 x2) (CQ qc D n 167 [] [.r,.l,.r,.l] (qh qc 167))) a0 a1:=by kernel_rfl
 rw[h]
 simp only[qbks]
 rfl
end
end Go.G


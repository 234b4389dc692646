import Derived.Test.YtfafjngknkbngaaGreatAV3
set_option linter.unusedVariables false
set_option linter.unusedSimpArgs false
set_option linter.unusedSectionVars false
namespace Go.G
open Go Go.V
abbrev DX:=Den ctx
abbrev tVal:=Int×Int×ByteArray×Unit
abbrev qd:=List tVal
abbrev qe:=List qd
abbrev tIx:=ByteArray×List Int×Bool×Unit
abbrev tIxs:=List tIx
abbrev tCol:=ByteArray×Int×Bool×Unit
abbrev qk:=List tCol
abbrev tSch:=qk×List Int×tIxs×Unit
abbrev tWay:=ByteArray×ByteArray×Unit
abbrev avI:=AV.val (Ty.int IntKind.i64)
abbrev yI:=Ty.int IntKind.i64
abbrev yC:=Ty.pair Ty.str (Ty.pair yI (Ty.pair Ty.bool Ty.unit))
abbrev yX:=Ty.pair Ty.str (Ty.pair (Ty.sl yI) (Ty.pair Ty.bool Ty.unit))
abbrev yV:=Ty.pair yI (Ty.pair yI (Ty.pair Ty.str Ty.unit))
abbrev yS:=Ty.pair (Ty.sl yC) (Ty.pair (Ty.sl yI) (Ty.pair (Ty.sl yX) Ty.unit))
end Go.G
namespace Go.G
open Go Go.V
noncomputable def qxz (D:Den ctx) (a0:(tSch)×qe×Unit) (a1:qd):Option ((Bool×Unit)×Unit):=D 10 (a0,(a1,()))
noncomputable def q6j (D:Den ctx) (a0:(tSch)×qe×Unit):Option ((Bool×Unit)×Unit):=D 17 (a0,())
noncomputable def qvr (D:Den ctx) (a0:(tSch)×qe×Unit) (a1:qd):Option ((((tSch)×qe×Unit)×Int×Unit)×Unit):=D 18 (a0,(a1,()))
noncomputable def qgy (D:Den ctx) (a0:tSch) (a1:qd):Option ((qd×Unit)×Unit):=D 23 (a0,(a1,()))
noncomputable def q3i (D:Den ctx) (a0:(tSch)×qe×Unit) (a1:qd):Option ((((tSch)×qe×Unit)×Int×Unit)×Unit):=D 28 (a0,(a1,()))
noncomputable def q6b (D:Den ctx) (a0:(tSch)×qe×Unit):Option ((Bool×Unit)×Unit):=D 41 (a0,())
noncomputable def qu2 (D:Den ctx) (a0:(tSch)×qe×Unit) (a1:Int):Option ((Int×Unit)×Unit):=D 53 (a0,(a1,()))
noncomputable def qmn (D:Den ctx) (a0:qd) (a1:Int):Option ((Int×Unit)×Unit):=D 54 (a0,(a1,()))
noncomputable def qhe (D:Den ctx) (a0:(tSch)×qe×Unit):Option ((((tSch)×qe×Unit)×Unit)×Unit):=D 55 (a0,())
noncomputable def qe6 (D:Den ctx) (a0:qd):Option ((qd×Unit)×Unit):=D 56 (a0,())
noncomputable def qhb (D:Den ctx) (a0:(tSch)×qe×Unit) (a1:(tSch)×qe×Unit):Option ((Bool×Unit)×Unit):=D 57 (a0,(a1,()))
noncomputable def qmm (D:Den ctx) (a0:qd) (a1:qd):Option ((Bool×Unit)×Unit):=D 58 (a0,(a1,()))
noncomputable def qk7 (D:Den ctx) (a0:(tSch)×qe×Unit) (a1:Int):Option ((Int×Unit)×((tSch)×qe×Unit)×Unit):=D 59 (a0,(a1,()))
noncomputable def qoc (D:Den ctx) (a0:qd) (a1:Int):Option ((Int×Unit)×qd×Unit):=D 60 (a0,(a1,()))
noncomputable def qk9 (D:Den ctx) (a0:(tSch)×qe×Unit) (a1:Int):Option ((Int×Unit)×Unit):=D 61 (a0,(a1,()))
noncomputable def qgq (D:Den ctx) (a0:Int) (a1:Int) (a2:Int):Option ((Bool×Unit)×Unit):=D 68 (a0,(a1,(a2,())))
noncomputable def qyo (D:Den ctx) (a0:tSch) (a1:qd):Option ((Bool×Unit)×Unit):=D 77 (a0,(a1,()))
noncomputable def qpo (D:Den ctx) (a0:qd) (a1:qd):Option ((Bool×Unit)×Unit):=D 78 (a0,(a1,()))
noncomputable def qbn (D:Den ctx) (a0:qe) (a1:Clo):Option ((Bool×Unit)×Unit):=D 79 (a0,(a1,()))
noncomputable def q8q (D:Den ctx) (a0:qd) (a1:(tSch)×qe×Unit) (a2:qd):Option ((Bool×Unit)×Unit):=D 80 (a0,(a1,(a2,())))
noncomputable def qzb (D:Den ctx) (a0:tSch) (a1:qd) (a2:qd):Option ((Bool×Unit)×Unit):=D 81 (a0,(a1,(a2,())))
noncomputable def qrf (D:Den ctx) (a0:tSch):Option ((Bool×Unit)×Unit):=D 82 (a0,())
noncomputable def qqk (D:Den ctx) (a0:(tSch)×qe×Unit):Option ((((tSch)×qe×Unit)×Unit)×Unit):=D 83 (a0,())
noncomputable def q5z (D:Den ctx) (a0:(tSch)×qe×Unit) (a1:qd):Option ((Int×Unit)×Unit):=D 84 (a0,(a1,()))
noncomputable def q6z (D:Den ctx) (a0:qd) (a1:(tSch)×qe×Unit) (a2:qd):Option ((Bool×Unit)×Unit):=D 85 (a0,(a1,(a2,())))
noncomputable def qce (D:Den ctx) (a0:qe) (a1:Clo):Option ((Int×Unit)×Unit):=D 86 (a0,(a1,()))
noncomputable def q7d (D:Den ctx) (a0:qd) (a1:qd) (a2:(tSch)×qe×Unit):Option ((Bool×Unit)×Unit):=D 87 (a0,(a1,(a2,())))
noncomputable def qcl (D:Den ctx) (a0:qd):Option ((qd×Unit)×Unit):=D 89 (a0,())
noncomputable def qoo (D:Den ctx) (a0:qd) (a1:List Int):Option ((qd×Unit)×Unit):=D 94 (a0,(a1,()))
noncomputable def q1m (D:Den ctx) (a0:(tSch)×qe×Unit):Option ((((tSch)×qe×Unit)×Unit)×Unit):=D 99 (a0,())
noncomputable def qxk (D:Den ctx) (a0:tSch) (a1:qd):Option ((Bool×Unit)×Unit):=D 100 (a0,(a1,()))
noncomputable def q6e (D:Den ctx) (a0:(tSch)×qe×Unit) (a1:qd):Option ((Int×Unit)×Unit):=D 101 (a0,(a1,()))
noncomputable def qe5 (D:Den ctx) (a0:tSch) (a1:qd):Option ((qd×Unit)×Unit):=D 102 (a0,(a1,()))
noncomputable def qww (D:Den ctx) (a0:(tSch)×qe×Unit) (a1:qd) (a2:Int):Option ((Bool×Unit)×Unit):=D 103 (a0,(a1,(a2,())))
noncomputable def qoy (D:Den ctx) (a0:qd) (a1:qd):Option ((Bool×Unit)×Unit):=D 104 (a0,(a1,()))
noncomputable def qof (D:Den ctx) (a0:qe):Option ((qe×Unit)×Unit):=D 105 (a0,())
noncomputable def qt6 (D:Den ctx) (a0:tSch):Option (((tSch)×Unit)×Unit):=D 107 (a0,())
noncomputable def q1y (D:Den ctx) (a0:tSch):Option (((tSch)×Unit)×Unit):=D 108 (a0,())
noncomputable def qri (D:Den ctx) (a0:tSch) (a1:qd) (a2:qd):Option ((Bool×Unit)×Unit):=D 111 (a0,(a1,(a2,())))
noncomputable def qrl (D:Den ctx) (a0:tSch):Option ((Bool×Unit)×Unit):=D 112 (a0,())
noncomputable def qgp (D:Den ctx) (a0:Int) (a1:Int) (a2:Int):Option ((Bool×Unit)×Unit):=D 117 (a0,(a1,(a2,())))
noncomputable def qor (D:Den ctx) (a0:qd) (a1:List Int):Option ((qd×Unit)×Unit):=D 119 (a0,(a1,()))
noncomputable def qyv (D:Den ctx) (a0:tSch) (a1:Int):Option ((Int×Unit)×Unit):=D 120 (a0,(a1,()))
noncomputable def qwj (D:Den ctx) (a0:qe) (a1:Int):Option ((Int×Unit)×Unit):=D 121 (a0,(a1,()))
noncomputable def qtn (D:Den ctx) (a0:Int×Int×ByteArray×Unit) (a1:Int):Option ((Int×Unit)×Unit):=D 122 (a0,(a1,()))
noncomputable def qy6 (D:Den ctx) (a0:tSch):Option (((tSch)×Unit)×Unit):=D 123 (a0,())
noncomputable def qw7 (D:Den ctx) (a0:qe):Option ((qe×Unit)×Unit):=D 124 (a0,())
noncomputable def qth (D:Den ctx) (a0:Int×Int×ByteArray×Unit):Option ((tVal×Unit)×Unit):=D 125 (a0,())
noncomputable def qy9 (D:Den ctx) (a0:tSch) (a1:tSch):Option ((Bool×Unit)×Unit):=D 126 (a0,(a1,()))
noncomputable def qwh (D:Den ctx) (a0:qe) (a1:qe):Option ((Bool×Unit)×Unit):=D 127 (a0,(a1,()))
noncomputable def qtb (D:Den ctx) (a0:Int×Int×ByteArray×Unit) (a1:Int×Int×ByteArray×Unit):Option ((Bool×Unit)×Unit):=D 128 (a0,(a1,()))
noncomputable def qud (D:Den ctx) (a0:tSch) (a1:Int):Option ((Int×Unit)×(tSch)×Unit):=D 129 (a0,(a1,()))
noncomputable def qsb (D:Den ctx) (a0:qe) (a1:Int):Option ((Int×Unit)×qe×Unit):=D 130 (a0,(a1,()))
noncomputable def qe3 (D:Den ctx) (a0:Int):Option ((ByteArray×Unit)×Unit):=D 131 (a0,())
noncomputable def qn6 (D:Den ctx) (a0:tSch) (a1:Int):Option ((Int×Unit)×Unit):=D 132 (a0,(a1,()))
noncomputable def qmv (D:Den ctx) (a0:qe) (a1:Int):Option ((Int×Unit)×Unit):=D 133 (a0,(a1,()))
noncomputable def qiy (D:Den ctx) (a0:List Int):Option ((List Int×Unit)×Unit):=D 138 (a0,())
noncomputable def q1n (D:Den ctx) (a0:Int×Int×ByteArray×Unit):Option ((Bool×Unit)×Unit):=D 139 (a0,())
noncomputable def qca (D:Den ctx) (a0:qd) (a1:qd) (a2:Clo):Option ((Int×Unit)×Unit):=D 140 (a0,(a1,(a2,())))
noncomputable def q09 (D:Den ctx) (a0:Int×Int×ByteArray×Unit) (a1:Int×Int×ByteArray×Unit):Option ((Int×Unit)×Unit):=D 141 (a0,(a1,()))
noncomputable def qcp (D:Den ctx) (a0:tIxs) (a1:Clo):Option ((Bool×Unit)×Unit):=D 142 (a0,(a1,()))
noncomputable def q8z (D:Den ctx) (a0:ByteArray×List Int×Bool×Unit) (a1:qd) (a2:qd):Option ((Bool×Unit)×Unit):=D 143 (a0,(a1,(a2,())))
noncomputable def qd5 (D:Den ctx) (a0:qd) (a1:Int×Int×ByteArray×Unit):Option ((Bool×Unit)×Unit):=D 144 (a0,(a1,()))
noncomputable def qdc (D:Den ctx) (a0:qd) (a1:qd):Option ((Bool×Unit)×Unit):=D 145 (a0,(a1,()))
noncomputable def qo0 (D:Den ctx) (a0:ByteArray):Option ((Bool×Unit)×Unit):=D 146 (a0,())
noncomputable def q5r (D:Den ctx) (a0:tSch) (a1:ByteArray):Option ((Int×Unit)×Unit):=D 147 (a0,(a1,()))
noncomputable def qrn (D:Den ctx) (a0:tSch) (a1:List Int) (a2:Int):Option ((Bool×Unit)×Unit):=D 148 (a0,(a1,(a2,())))
noncomputable def q32 (D:Den ctx) (a0:ByteArray×List Int×Bool×Unit) (a1:ByteArray×List Int×Bool×Unit):Option ((Bool×Unit)×Unit):=D 149 (a0,(a1,()))
noncomputable def qhq (D:Den ctx) (a0:List Int) (a1:Clo):Option ((Bool×Unit)×Unit):=D 150 (a0,(a1,()))
noncomputable def q37 (D:Den ctx) (a0:Int) (a1:tSch):Option ((Bool×Unit)×Unit):=D 151 (a0,(a1,()))
noncomputable def qvd (D:Den ctx) (a0:qe):Option ((qe×Unit)×Unit):=D 152 (a0,())
noncomputable def q8x (D:Den ctx) (a0:qd) (a1:(tSch)×qe×Unit) (a2:qd):Option ((Bool×Unit)×Unit):=D 153 (a0,(a1,(a2,())))
noncomputable def q0k (D:Den ctx) (a0:Int×Int×ByteArray×Unit):Option ((Bool×Unit)×Unit):=D 158 (a0,())
noncomputable def qtc (D:Den ctx) (a0:qd) (a1:qd):Option ((Bool×Unit)×Unit):=D 159 (a0,(a1,()))
noncomputable def qpi (D:Den ctx) (a0:Int×Int×ByteArray×Unit) (a1:Int×Int×ByteArray×Unit):Option ((Bool×Unit)×Unit):=D 160 (a0,(a1,()))
noncomputable def qwy (D:Den ctx) (a0:Int×Int×ByteArray×Unit) (a1:Int×Int×ByteArray×Unit):Option ((Bool×Unit)×Unit):=D 161 (a0,(a1,()))
noncomputable def qfx (D:Den ctx) (a0:qk):Option ((qk×Unit)×Unit):=D 164 (a0,())
noncomputable def q08 (D:Den ctx) (a0:qd):Option ((Bool×Unit)×Unit):=D 165 (a0,())
noncomputable def qpp (D:Den ctx) (a0:ByteArray):Option ((Bool×Unit)×Unit):=D 166 (a0,())
noncomputable def q6a (D:Den ctx) (a0:tSch) (a1:ByteArray):Option ((Int×Unit)×Unit):=D 167 (a0,(a1,()))
noncomputable def qox (D:Den ctx) (a0:tSch) (a1:List Int) (a2:Int):Option ((Bool×Unit)×Unit):=D 168 (a0,(a1,(a2,())))
noncomputable def qur (D:Den ctx) (a0:tSch):Option ((Bool×Unit)×Unit):=D 169 (a0,())
noncomputable def q3f (D:Den ctx) (a0:qk) (a1:Int):Option ((Int×Unit)×Unit):=D 174 (a0,(a1,()))
noncomputable def qvm (D:Den ctx) (a0:List Int) (a1:Int):Option ((Int×Unit)×Unit):=D 175 (a0,(a1,()))
noncomputable def qzd (D:Den ctx) (a0:tIxs) (a1:Int):Option ((Int×Unit)×Unit):=D 176 (a0,(a1,()))
noncomputable def q3u (D:Den ctx) (a0:qk):Option ((qk×Unit)×Unit):=D 177 (a0,())
noncomputable def qvp (D:Den ctx) (a0:List Int):Option ((List Int×Unit)×Unit):=D 178 (a0,())
noncomputable def qx0 (D:Den ctx) (a0:tIxs):Option ((tIxs×Unit)×Unit):=D 179 (a0,())
noncomputable def q25 (D:Den ctx) (a0:qk) (a1:qk):Option ((Bool×Unit)×Unit):=D 180 (a0,(a1,()))
noncomputable def qvo (D:Den ctx) (a0:List Int) (a1:List Int):Option ((Bool×Unit)×Unit):=D 181 (a0,(a1,()))
noncomputable def qxo (D:Den ctx) (a0:tIxs) (a1:tIxs):Option ((Bool×Unit)×Unit):=D 182 (a0,(a1,()))
noncomputable def qzo (D:Den ctx) (a0:qk) (a1:Int):Option ((Int×Unit)×qk×Unit):=D 183 (a0,(a1,()))
noncomputable def qmg (D:Den ctx) (a0:List Int) (a1:Int):Option ((Int×Unit)×List Int×Unit):=D 184 (a0,(a1,()))
noncomputable def que (D:Den ctx) (a0:tIxs) (a1:Int):Option ((Int×Unit)×tIxs×Unit):=D 185 (a0,(a1,()))
noncomputable def qxt (D:Den ctx) (a0:qk) (a1:Int):Option ((Int×Unit)×Unit):=D 186 (a0,(a1,()))
noncomputable def qne (D:Den ctx) (a0:List Int) (a1:Int):Option ((Int×Unit)×Unit):=D 187 (a0,(a1,()))
noncomputable def quj (D:Den ctx) (a0:tIxs) (a1:Int):Option ((Int×Unit)×Unit):=D 188 (a0,(a1,()))
noncomputable def qtw (D:Den ctx) (a0:qd) (a1:Int):Option ((Int×Unit)×Unit):=D 189 (a0,(a1,()))
noncomputable def qdv (D:Den ctx) (a0:tIxs) (a1:Clo):Option ((Int×Unit)×Unit):=D 193 (a0,(a1,()))
noncomputable def qer (D:Den ctx) (a0:qd) (a1:Int×Int×ByteArray×Unit):Option ((Int×Unit)×Unit):=D 194 (a0,(a1,()))
noncomputable def qes (D:Den ctx) (a0:qk) (a1:Clo):Option ((Int×Unit)×Unit):=D 195 (a0,(a1,()))
noncomputable def q89 (D:Den ctx) (a0:ByteArray×Int×Bool×Unit) (a1:ByteArray):Option ((Bool×Unit)×Unit):=D 196 (a0,(a1,()))
noncomputable def qkf (D:Den ctx) (a0:List Int) (a1:Int):Option ((Bool×Unit)×Unit):=D 197 (a0,(a1,()))
noncomputable def qjv (D:Den ctx) (a0:List Int) (a1:Clo):Option ((Int×Unit)×Unit):=D 198 (a0,(a1,()))
noncomputable def qyg (D:Den ctx) (a0:ByteArray×Int×Bool×Unit) (a1:Int):Option ((Int×Unit)×Unit):=D 201 (a0,(a1,()))
noncomputable def qts (D:Den ctx) (a0:ByteArray×List Int×Bool×Unit) (a1:Int):Option ((Int×Unit)×Unit):=D 202 (a0,(a1,()))
noncomputable def qyr (D:Den ctx) (a0:ByteArray×Int×Bool×Unit):Option ((tCol×Unit)×Unit):=D 203 (a0,())
noncomputable def qtf (D:Den ctx) (a0:ByteArray×List Int×Bool×Unit):Option ((tIx×Unit)×Unit):=D 204 (a0,())
noncomputable def qzs (D:Den ctx) (a0:ByteArray×Int×Bool×Unit) (a1:ByteArray×Int×Bool×Unit):Option ((Bool×Unit)×Unit):=D 205 (a0,(a1,()))
noncomputable def qtj (D:Den ctx) (a0:ByteArray×List Int×Bool×Unit) (a1:ByteArray×List Int×Bool×Unit):Option ((Bool×Unit)×Unit):=D 206 (a0,(a1,()))
noncomputable def qnj (D:Den ctx) (a0:List Int) (a1:Int):Option ((Int×Unit)×Unit):=D 210 (a0,(a1,()))
noncomputable def qej (D:Den ctx) (a0:qe) (a1:Int) (a2:qe):Option ((qe×Unit)×Unit):=D 88 (a0,(a1,(a2,())))
noncomputable def qvf (D:Den ctx) (a0:List tWay) (a1:Int) (a2:List tWay):Option ((List tWay×Unit)×Unit):=D 93 (a0,(a1,(a2,())))
noncomputable def qru (D:Den ctx) (a0:qe) (a1:Int) (a2:Int):Option ((qe×Unit)×Unit):=D 95 (a0,(a1,(a2,())))
noncomputable def q4s (D:Den ctx) (a0:ByteArray) (a1:ByteArray):Option ((Int×Unit)×Unit):=D 192 (a0,(a1,()))
end Go.G

namespace Go.G
set_option maxRecDepth 100000
set_option maxHeartbeats 0
open Go Go.V
noncomputable section
def qx7 (D:DX)(n:Nat) (a0:(tSch)×qe×Unit) (a1:qd):Option ((Bool×Unit)×Unit):=qi (qu2 D a0 1048576) fun b↦br (decide (Prod.fst (Prod.fst b)<0)) (some ((true,()),())) (qi (qmn D a1 (Prod.fst (Prod.fst b))) fun b↦br (decide (Prod.fst (Prod.fst b)<0)) (some ((true,()),())) (qi (qhe D a0) fun b↦qi (qe6 D a1) fun b_1↦qi (q3i D (Prod.fst (Prod.fst b)) (Prod.fst (Prod.fst b_1))) fun b↦qi (qhe D a0) fun b_2↦qi (qe6 D a1) fun b_3↦qi (qvr D ((Prod.fst (Prod.fst (Prod.fst (Prod.fst b_2))),Prod.fst (Prod.snd (Prod.fst (Prod.fst (Prod.fst b_2)))),Prod.fst (Prod.snd (Prod.snd (Prod.fst (Prod.fst (Prod.fst b_2))))),()),Prod.fst (Prod.snd (Prod.fst (Prod.fst b_2))),()) (Prod.fst (Prod.fst b_3))) fun b_4↦qi (qhb D ((Prod.fst (Prod.fst (Prod.fst (Prod.fst b_4))),Prod.fst (Prod.snd (Prod.fst (Prod.fst (Prod.fst b_4)))),Prod.fst (Prod.snd (Prod.snd (Prod.fst (Prod.fst (Prod.fst b_4))))),()),Prod.fst (Prod.snd (Prod.fst (Prod.fst b_4))),()) (Prod.fst (Prod.fst (Prod.fst b)),Prod.fst (Prod.snd (Prod.fst (Prod.fst b))),())) fun b_5↦br (bif !Prod.fst (Prod.fst b_5) then true else Prod.fst (Prod.snd (Prod.fst b_4)) != Prod.fst (Prod.snd (Prod.fst b))) (some ((false,()),())) (qi (qhe D a0) fun b_6↦qi (qhb D ((Prod.fst (Prod.fst (Prod.fst (Prod.fst b_2))),Prod.fst (Prod.snd (Prod.fst (Prod.fst (Prod.fst b_2)))),Prod.fst (Prod.snd (Prod.snd (Prod.fst (Prod.fst (Prod.fst b_2))))),()),Prod.fst (Prod.snd (Prod.fst (Prod.fst b_2))),()) ((Prod.fst (Prod.fst (Prod.fst (Prod.fst b_6))),Prod.fst (Prod.snd (Prod.fst (Prod.fst (Prod.fst b_6)))),Prod.fst (Prod.snd (Prod.snd (Prod.fst (Prod.fst (Prod.fst b_6))))),()),Prod.fst (Prod.snd (Prod.fst (Prod.fst b_6))),())) fun b_7↦br (!Prod.fst (Prod.fst b_7)) (some ((false,()),())) (qi (qe6 D a1) fun b_8↦qi (qmm D (Prod.fst (Prod.fst b_3)) (Prod.fst (Prod.fst b_8))) fun b_9↦br (!Prod.fst (Prod.fst b_9)) (some ((false,()),())) (qi (qk7 D ((Prod.fst (Prod.fst (Prod.fst (Prod.fst b_2))),Prod.fst (Prod.snd (Prod.fst (Prod.fst (Prod.fst b_2)))),Prod.fst (Prod.snd (Prod.snd (Prod.fst (Prod.fst (Prod.fst b_2))))),()),Prod.fst (Prod.snd (Prod.fst (Prod.fst b_2))),()) 1) fun b_10↦qi (qoc D (Prod.fst (Prod.fst b_3)) (Prod.fst (Prod.fst b_10))) fun b_11↦br (decide (Prod.fst (Prod.fst b_11)<0)) (some ((false,()),())) (qi (qhb D ((Prod.fst (Prod.fst (Prod.fst (Prod.fst b_4))),Prod.fst (Prod.snd (Prod.fst (Prod.fst (Prod.fst b_4)))),Prod.fst (Prod.snd (Prod.snd (Prod.fst (Prod.fst (Prod.fst b_4))))),()),Prod.fst (Prod.snd (Prod.fst (Prod.fst b_4))),()) (Prod.fst (Prod.fst (Prod.fst b)),Prod.fst (Prod.snd (Prod.fst (Prod.fst b))),())) fun b_12↦br (bif !Prod.fst (Prod.fst b_12) then true else Prod.fst (Prod.snd (Prod.fst b_4)) != Prod.fst (Prod.snd (Prod.fst b))) (some ((false,()),())) (qi (qk7 D ((Prod.fst (Prod.fst (Prod.fst (Prod.fst b_4))),Prod.fst (Prod.snd (Prod.fst (Prod.fst (Prod.fst b_4)))),Prod.fst (Prod.snd (Prod.snd (Prod.fst (Prod.fst (Prod.fst b_4))))),()),Prod.fst (Prod.snd (Prod.fst (Prod.fst b_4))),()) 1) fun b_13↦qi (qk9 D ((Prod.fst (Prod.fst (Prod.fst (Prod.snd b_13))),Prod.fst (Prod.snd (Prod.fst (Prod.fst (Prod.snd b_13)))),Prod.fst (Prod.snd (Prod.snd (Prod.fst (Prod.fst (Prod.snd b_13))))),()),Prod.fst (Prod.snd (Prod.fst (Prod.snd b_13))),()) 1) fun b_14↦br (decide (Prod.fst (Prod.fst b_14)<0)) (some ((false,()),())) (br (Prod.fst (Prod.fst b_14) != Prod.fst (Prod.fst b_13)) (some ((false,()),())) (qi (qhe D a0) fun b_15↦qi (qe6 D a1) fun b_16↦qi (qvr D ((Prod.fst (Prod.fst (Prod.fst (Prod.fst b_15))),Prod.fst (Prod.snd (Prod.fst (Prod.fst (Prod.fst b_15)))),Prod.fst (Prod.snd (Prod.snd (Prod.fst (Prod.fst (Prod.fst b_15))))),()),Prod.fst (Prod.snd (Prod.fst (Prod.fst b_15))),()) (Prod.fst (Prod.fst b_16))) fun b_17↦qi (qhb D ((Prod.fst (Prod.fst (Prod.fst (Prod.fst b_17))),Prod.fst (Prod.snd (Prod.fst (Prod.fst (Prod.fst b_17)))),Prod.fst (Prod.snd (Prod.snd (Prod.fst (Prod.fst (Prod.fst b_17))))),()),Prod.fst (Prod.snd (Prod.fst (Prod.fst b_17))),()) (Prod.fst (Prod.fst (Prod.fst b)),Prod.fst (Prod.snd (Prod.fst (Prod.fst b))),())) fun b_18↦br (bif !Prod.fst (Prod.fst b_18) then true else Prod.fst (Prod.snd (Prod.fst b_17)) != Prod.fst (Prod.snd (Prod.fst b))) (some ((false,()),())) (qi (qk9 D ((Prod.fst (Prod.fst (Prod.fst (Prod.snd b_13))),Prod.fst (Prod.snd (Prod.fst (Prod.fst (Prod.snd b_13)))),Prod.fst (Prod.snd (Prod.snd (Prod.fst (Prod.fst (Prod.snd b_13))))),()),Prod.fst (Prod.snd (Prod.fst (Prod.snd b_13))),()) 1) fun b↦br (decide (Prod.fst (Prod.fst b)<0)) (some ((false,()),())) (br (Prod.fst (Prod.fst b) != Prod.fst (Prod.fst b_13)) (some ((false,()),())) (some ((true,()),())))))))))))))
def qpq (D:DX)(n:Nat) (a0:(tSch)×qe×Unit) (a1:qd):Option ((Bool×Unit)×Unit):=qx7 D n a0 a1
theorem qban (D:DX)(n:Nat) (a0:(tSch)×
 qe×Unit) (a1:qd):rfC qc D n 10 (a0,(a1,()))=qpq D n a0 a1:=by kernel_rfl

def q3v (D:DX)(n:Nat) (go:qe→Int→Int→(tSch)×qe×Unit→Option ((Bool×Unit)×Unit)) (K0:Bool→(tSch)×qe×Unit→Option ((Bool×Unit)×Unit)) (K1:(tSch)×qe×Unit→Option ((Bool×Unit)×Unit)) (x0:qe) (x1:Int) (x2:Int) (x3:(tSch)×qe×Unit):Option ((Bool×Unit)×Unit):=br (decide (x2<x1)) (br (decide (0≤x2)&&decide (x2<(↑(List.length x0):Int))) (qi (qyo D (Prod.fst x3) (List.getD x0 (Int.toNat x2) [])) fun b↦br (!Prod.fst (Prod.fst b)) (K0 false x3) (br (decide (x2>0)) (br (decide (0≤IntKind.wrap IntKind.i64 (x2 - 1))&&decide (IntKind.wrap IntKind.i64 (x2 - 1)<(↑(List.length (Prod.fst (Prod.snd x3))):Int))) (qi (qgy D (Prod.fst x3) (List.getD (Prod.fst (Prod.snd x3)) (Int.toNat (IntKind.wrap IntKind.i64 (x2 - 1))) [])) fun b↦qi (qgy D (Prod.fst x3) (List.getD x0 (Int.toNat x2) [])) fun b_1↦qi (qpo D (Prod.fst (Prod.fst b)) (Prod.fst (Prod.fst b_1))) fun b↦br (!Prod.fst (Prod.fst b)) (K0 false x3) (br (decide (0≤0)&&decide (0≤x2)&&decide (x2≤(↑(List.length (Prod.fst (Prod.snd x3))):Int))) (qi (qbn D (List.drop (Int.toNat 0) (List.take (Int.toNat x2) (Prod.fst (Prod.snd x3)))) (Clo.mk 80 [CapV.rptr (Ty.pair (Ty.pair (Ty.sl (Ty.pair Ty.str (Ty.pair (Ty.int IntKind.i64) (Ty.pair Ty.bool Ty.unit)))) (Ty.pair (Ty.sl (Ty.int IntKind.i64)) (Ty.pair (Ty.sl (Ty.pair Ty.str (Ty.pair (Ty.sl (Ty.int IntKind.i64)) (Ty.pair Ty.bool Ty.unit)))) Ty.unit))) (Ty.pair (Ty.sl (Ty.sl (Ty.pair (Ty.int IntKind.i64) (Ty.pair (Ty.int IntKind.i64) (Ty.pair Ty.str Ty.unit))))) Ty.unit)) x3,CapV.rptr (Ty.sl (Ty.pair (Ty.int IntKind.i64) (Ty.pair (Ty.int IntKind.i64) (Ty.pair Ty.str Ty.unit)))) (List.getD x0 (Int.toNat x2) [])])) fun b↦br (Prod.fst (Prod.fst b)) (K0 false x3) (go x0 x1 (IntKind.wrap IntKind.i64 (x2+1)) x3)) none)) none) (br (decide (0≤0)&&decide (0≤x2)&&decide (x2≤(↑(List.length (Prod.fst (Prod.snd x3))):Int))) (qi (qbn D (List.drop (Int.toNat 0) (List.take (Int.toNat x2) (Prod.fst (Prod.snd x3)))) (Clo.mk 80 [CapV.rptr (Ty.pair (Ty.pair (Ty.sl (Ty.pair Ty.str (Ty.pair (Ty.int IntKind.i64) (Ty.pair Ty.bool Ty.unit)))) (Ty.pair (Ty.sl (Ty.int IntKind.i64)) (Ty.pair (Ty.sl (Ty.pair Ty.str (Ty.pair (Ty.sl (Ty.int IntKind.i64)) (Ty.pair Ty.bool Ty.unit)))) Ty.unit))) (Ty.pair (Ty.sl (Ty.sl (Ty.pair (Ty.int IntKind.i64) (Ty.pair (Ty.int IntKind.i64) (Ty.pair Ty.str Ty.unit))))) Ty.unit)) x3,CapV.rptr (Ty.sl (Ty.pair (Ty.int IntKind.i64) (Ty.pair (Ty.int IntKind.i64) (Ty.pair Ty.str Ty.unit)))) (List.getD x0 (Int.toNat x2) [])])) fun b↦br (Prod.fst (Prod.fst b)) (K0 false x3) (go x0 x1 (IntKind.wrap IntKind.i64 (x2+1)) x3)) none))) none) (K1 x3)
def qlq (D:DX)(n:Nat) (K0:Bool→(tSch)×qe×Unit→Option ((Bool×Unit)×Unit)) (K1:(tSch)×qe×Unit→Option ((Bool×Unit)×Unit)):Nat→(qe)→(Int)→(Int)→((tSch)×qe×Unit)→Option ((Bool×Unit)×Unit) | 0=>(fun x0 x1 x2 x3=>none) | m+1=>(fun x0 x1 x2 x3=>q3v D n (qlq D n K0 K1 m) K0 K1 x0 x1 x2 x3)
def q7t (D:DX)(n:Nat) (v0_0:Bool) (v0_1:(tSch)×qe×Unit):Option ((Bool×Unit)×Unit):=some ((v0_0,()),())
def qx9 (D:DX)(n:Nat) (v1_0:(tSch)×qe×Unit):Option ((Bool×Unit)×Unit):=qi (qrf D (Prod.fst v1_0)) fun b↦some ((bif Prod.fst (Prod.fst b) then decide ((↑(List.length (Prod.fst (Prod.snd v1_0))):Int)≤12) else false,()),())
def q0s (D:DX)(n:Nat):(qe)→(Int)→(Int)→((tSch)×qe×Unit)→Option ((Bool×Unit)×Unit):=(fun x0 x1 x2 x3=>qlq D n (fun v0_0 v0_1=>q7t D n v0_0 v0_1) (fun v1_0=>qx9 D n v1_0) n x0 x1 x2 x3)
def q58 (D:DX)(n:Nat) (lp0:qe→Int→Int→(tSch)×qe×Unit→Option ((Bool×Unit)×Unit)) (a0:(tSch)×qe×Unit):Option ((Bool×Unit)×Unit):=lp0 (Prod.fst (Prod.snd a0)) (↑(List.length (Prod.fst (Prod.snd a0))):Int) 0 a0
def q6q (D:DX)(n:Nat) (a0:(tSch)×qe×Unit):Option ((Bool×Unit)×Unit):=q58 D n (q0s D n) a0
def ql2 (x0:qe) (x1:Int) (x2:Int) (x3:(tSch)×qe×Unit):St:=stq 55 [(1,AV.addr 1 []),(6,AV.val (Ty.sl (Ty.sl yV)) x0),(7,avI x1),(8,avI x2)] [(1,Root.mk (Ty.pair yS (Ty.pair (Ty.sl (Ty.sl yV)) Ty.unit)) Mk.no x3 true)] 
def qrk (v0_0:Bool) (v0_1:(tSch)×qe×Unit):St:=stq 55 [(1,AV.addr 1 []),(2,AV.val Ty.bool v0_0)] [(1,Root.mk (Ty.pair yS (Ty.pair (Ty.sl (Ty.sl yV)) Ty.unit)) Mk.no v0_1 true)] 
def qre (v1_0:(tSch)×qe×Unit):St:=stq 55 [(1,AV.addr 1 [])] [(1,Root.mk (Ty.pair yS (Ty.pair (Ty.sl (Ty.sl yV)) Ty.unit)) Mk.no v1_0 true)] 
theorem qbm1 (D:DX)(n:Nat) (m:Nat) (K:Ex→St→Option (Out ctx 17)) (x0:qe) (x1:Int) (x2:Int) (x3:(tSch)×
 qe×Unit) :
 LQ qc D n 17 [.r,.l,.r,.l] (m+1) (ql2 x0 x1 x2 x3) K=q3v D n (fun x0 x1 x2 x3=>LQ qc D n 17 [.r,.l,.r,.l] m (ql2 x0 x1 x2 x3) K) (fun v0_0 v0_1=>K (Ex.ret) (qrk v0_0 v0_1)) (fun v1_0=>K (Ex.exit 0) (qre v1_0)) x0 x1 x2 x3:=by kernel_rfl
theorem q81 (D:DX)(n:Nat) (K:Ex→St→Option (Out ctx 17)):∀ (m:Nat) (x0:qe) (x1:Int) (x2:Int) (x3:(tSch)×
 qe×Unit),LQ qc D n 17 [.r,.l,.r,.l] m (ql2 x0 x1 x2 x3) K=qlq D n (fun v0_0 v0_1=>K (Ex.ret) (qrk v0_0 v0_1)) (fun v1_0=>K (Ex.exit 0) (qre v1_0)) m x0 x1 x2 x3
 | 0,x0,x1,x2,x3=>qy ..
 | m+1,x0,x1,x2,x3=>by
  have ih:(fun x0 x1 x2 x3=>LQ qc D n 17 [.r,.l,.r,.l] m (ql2 x0 x1 x2 x3) K)=qlq D n (fun v0_0 v0_1=>K (Ex.ret) (qrk v0_0 v0_1)) (fun v1_0=>K (Ex.exit 0) (qre v1_0)) m:=by funext x0 x1 x2 x3;exact q81 D n K m x0 x1 x2 x3
  rw[qbm1]
  rw[ih];rfl
theorem qbkz (D:DX)(n:Nat) (v0_0:Bool) (v0_1:(tSch)×
 qe×Unit) :
 (CQ qc D n 17 [] [.r,.l,.r,.l] (qh qc 17)) (Ex.ret) (qrk v0_0 v0_1)=q7t D n v0_0 v0_1:=by kernel_rfl
theorem qblw (D:DX)(n:Nat) (v1_0:(tSch)×
 qe×Unit) :
 (CQ qc D n 17 [] [.r,.l,.r,.l] (qh qc 17)) (Ex.exit 0) (qre v1_0)=qx9 D n v1_0:=by kernel_rfl
theorem qbls (D:DX)(n:Nat) (x0:qe) (x1:Int) (x2:Int) (x3:(tSch)×
 qe×Unit) :
 LQ qc D n 17 [.r,.l,.r,.l] n (ql2 x0 x1 x2 x3) (CQ qc D n 17 [] [.r,.l,.r,.l] (qh qc 17))=q0s D n x0 x1 x2 x3:=by
 rw[q81]
 simp only[qbkz,qblw]
 rfl
theorem qbq0 (D:DX)(n:Nat) (a0:(tSch)×
 qe×Unit):rfC qc D n 17 (a0,())=q6q D n a0:=by
 have h:rfC qc D n 17 (a0,())=q58 D n (fun x0 x1 x2 x3=>LQ qc D n 17 [.r,.l,.r,.l] n (ql2 x0 x1 x2 x3) (CQ qc D n 17 [] [.r,.l,.r,.l] (qh qc 17))) a0:=by kernel_rfl
 rw[h]
 simp only[qbls]
 rfl

def qbat (D:DX)(n:Nat) (a0:(tSch)×qe×Unit) (a1:qd):Option ((((tSch)×qe×Unit)×Int×Unit)×Unit):=qi (qqk D a0) fun b↦qi (qgy D (Prod.fst (Prod.fst (Prod.fst (Prod.fst b))),Prod.fst (Prod.snd (Prod.fst (Prod.fst (Prod.fst b)))),Prod.fst (Prod.snd (Prod.snd (Prod.fst (Prod.fst (Prod.fst b))))),()) a1) fun b_1↦qi (q6j D ((Prod.fst (Prod.fst (Prod.fst (Prod.fst b))),Prod.fst (Prod.snd (Prod.fst (Prod.fst (Prod.fst b)))),Prod.fst (Prod.snd (Prod.snd (Prod.fst (Prod.fst (Prod.fst b))))),()),Prod.fst (Prod.snd (Prod.fst (Prod.fst b))),())) fun b_2↦br (!Prod.fst (Prod.fst b_2)) (some ((((Prod.fst (Prod.fst (Prod.fst (Prod.fst b))),Prod.fst (Prod.snd (Prod.fst (Prod.fst (Prod.fst b)))),Prod.fst (Prod.snd (Prod.snd (Prod.fst (Prod.fst (Prod.fst b))))),()),Prod.fst (Prod.snd (Prod.fst (Prod.fst b))),()),1,()),())) (qi (qyo D (Prod.fst (Prod.fst (Prod.fst (Prod.fst b))),Prod.fst (Prod.snd (Prod.fst (Prod.fst (Prod.fst b)))),Prod.fst (Prod.snd (Prod.snd (Prod.fst (Prod.fst (Prod.fst b))))),()) a1) fun b_3↦br (!Prod.fst (Prod.fst b_3)) (some ((((Prod.fst (Prod.fst (Prod.fst (Prod.fst b))),Prod.fst (Prod.snd (Prod.fst (Prod.fst (Prod.fst b)))),Prod.fst (Prod.snd (Prod.snd (Prod.fst (Prod.fst (Prod.fst b))))),()),Prod.fst (Prod.snd (Prod.fst (Prod.fst b))),()),1,()),())) (qi (q5z D ((Prod.fst (Prod.fst (Prod.fst (Prod.fst b))),Prod.fst (Prod.snd (Prod.fst (Prod.fst (Prod.fst b)))),Prod.fst (Prod.snd (Prod.snd (Prod.fst (Prod.fst (Prod.fst b))))),()),Prod.fst (Prod.snd (Prod.fst (Prod.fst b))),()) (Prod.fst (Prod.fst b_1))) fun b_4↦br (decide (Prod.fst (Prod.fst b_4)≥0)) (some ((((Prod.fst (Prod.fst (Prod.fst (Prod.fst b))),Prod.fst (Prod.snd (Prod.fst (Prod.fst (Prod.fst b)))),Prod.fst (Prod.snd (Prod.snd (Prod.fst (Prod.fst (Prod.fst b))))),()),Prod.fst (Prod.snd (Prod.fst (Prod.fst b))),()),2,()),())) (qi (qbn D (Prod.fst (Prod.snd (Prod.fst (Prod.fst b)))) (Clo.mk 85 [CapV.rptr (Ty.pair (Ty.pair (Ty.sl (Ty.pair Ty.str (Ty.pair (Ty.int IntKind.i64) (Ty.pair Ty.bool Ty.unit)))) (Ty.pair (Ty.sl (Ty.int IntKind.i64)) (Ty.pair (Ty.sl (Ty.pair Ty.str (Ty.pair (Ty.sl (Ty.int IntKind.i64)) (Ty.pair Ty.bool Ty.unit)))) Ty.unit))) (Ty.pair (Ty.sl (Ty.sl (Ty.pair (Ty.int IntKind.i64) (Ty.pair (Ty.int IntKind.i64) (Ty.pair Ty.str Ty.unit))))) Ty.unit)) ((Prod.fst (Prod.fst (Prod.fst (Prod.fst b))),Prod.fst (Prod.snd (Prod.fst (Prod.fst (Prod.fst b)))),Prod.fst (Prod.snd (Prod.snd (Prod.fst (Prod.fst (Prod.fst b))))),()),Prod.fst (Prod.snd (Prod.fst (Prod.fst b))),()),CapV.rptr (Ty.sl (Ty.pair (Ty.int IntKind.i64) (Ty.pair (Ty.int IntKind.i64) (Ty.pair Ty.str Ty.unit)))) a1])) fun b_5↦br (Prod.fst (Prod.fst b_5)) (some ((((Prod.fst (Prod.fst (Prod.fst (Prod.fst b))),Prod.fst (Prod.snd (Prod.fst (Prod.fst (Prod.fst b)))),Prod.fst (Prod.snd (Prod.snd (Prod.fst (Prod.fst (Prod.fst b))))),()),Prod.fst (Prod.snd (Prod.fst (Prod.fst b))),()),3,()),())) (br (decide ((↑(List.length (Prod.fst (Prod.snd (Prod.fst (Prod.fst b))))):Int)=12)) (some ((((Prod.fst (Prod.fst (Prod.fst (Prod.fst b))),Prod.fst (Prod.snd (Prod.fst (Prod.fst (Prod.fst b)))),Prod.fst (Prod.snd (Prod.snd (Prod.fst (Prod.fst (Prod.fst b))))),()),Prod.fst (Prod.snd (Prod.fst (Prod.fst b))),()),5,()),())) (qi (qce D (Prod.fst (Prod.snd (Prod.fst (Prod.fst b)))) (Clo.mk 87 [CapV.rptr (Ty.sl (Ty.pair (Ty.int IntKind.i64) (Ty.pair (Ty.int IntKind.i64) (Ty.pair Ty.str Ty.unit)))) (Prod.fst (Prod.fst b_1)),CapV.rptr (Ty.pair (Ty.pair (Ty.sl (Ty.pair Ty.str (Ty.pair (Ty.int IntKind.i64) (Ty.pair Ty.bool Ty.unit)))) (Ty.pair (Ty.sl (Ty.int IntKind.i64)) (Ty.pair (Ty.sl (Ty.pair Ty.str (Ty.pair (Ty.sl (Ty.int IntKind.i64)) (Ty.pair Ty.bool Ty.unit)))) Ty.unit))) (Ty.pair (Ty.sl (Ty.sl (Ty.pair (Ty.int IntKind.i64) (Ty.pair (Ty.int IntKind.i64) (Ty.pair Ty.str Ty.unit))))) Ty.unit)) ((Prod.fst (Prod.fst (Prod.fst (Prod.fst b))),Prod.fst (Prod.snd (Prod.fst (Prod.fst (Prod.fst b)))),Prod.fst (Prod.snd (Prod.snd (Prod.fst (Prod.fst (Prod.fst b))))),()),Prod.fst (Prod.snd (Prod.fst (Prod.fst b))),())])) fun b_6↦br (decide (Prod.fst (Prod.fst b_6)<0)) (qi (qcl D a1) fun b_7↦qi (qej D (Prod.fst (Prod.snd (Prod.fst (Prod.fst b)))) (↑(List.length (Prod.fst (Prod.snd (Prod.fst (Prod.fst b))))):Int) [Prod.fst (Prod.fst b_7)]) fun b_8↦some ((((Prod.fst (Prod.fst (Prod.fst (Prod.fst b))),Prod.fst (Prod.snd (Prod.fst (Prod.fst (Prod.fst b)))),Prod.fst (Prod.snd (Prod.snd (Prod.fst (Prod.fst (Prod.fst b))))),()),Prod.fst (Prod.fst b_8),()),0,()),())) (qi (qcl D a1) fun b_7↦qi (qej D (Prod.fst (Prod.snd (Prod.fst (Prod.fst b)))) (Prod.fst (Prod.fst b_6)) [Prod.fst (Prod.fst b_7)]) fun b_8↦some ((((Prod.fst (Prod.fst (Prod.fst (Prod.fst b))),Prod.fst (Prod.snd (Prod.fst (Prod.fst (Prod.fst b)))),Prod.fst (Prod.snd (Prod.snd (Prod.fst (Prod.fst (Prod.fst b))))),()),Prod.fst (Prod.fst b_8),()),0,()),())))))))
def q3g (D:DX)(n:Nat) (a0:(tSch)×qe×Unit) (a1:qd):Option ((((tSch)×qe×Unit)×Int×Unit)×Unit):=qbat D n a0 a1
theorem qbpe (D:DX)(n:Nat) (a0:(tSch)×
 qe×Unit) (a1:qd):rfC qc D n 18 (a0,(a1,()))=q3g D n a0 a1:=by kernel_rfl


def q69 (D:DX)(n:Nat) (a0:tSch) (a1:qd):Option ((qd×Unit)×Unit):=qi (qoo D a1 (Prod.fst (Prod.snd a0))) fun b↦some ((Prod.fst (Prod.fst b),()),())
def qzt (D:DX)(n:Nat) (a0:tSch) (a1:qd):Option ((qd×Unit)×Unit):=q69 D n a0 a1
theorem qbi3 (D:DX)(n:Nat) (a0:tSch) (a1:qd):rfC qc D n 23 (a0,(a1,()))=qzt D n a0 a1:=by kernel_rfl



def q07 (D:DX)(n:Nat) (go:qd→Int→(tSch)×qe×Unit→(tSch)×qe×Unit→(tSch)×qe×Unit→Option ((((tSch)×qe×Unit)×Int×Unit)×Unit)) (K0:qd→Int→(tSch)×qe×Unit→(tSch)×qe×Unit→(tSch)×qe×Unit→Option ((((tSch)×qe×Unit)×Int×Unit)×Unit)) (x0:qd) (x1:Int) (x2:(tSch)×qe×Unit) (x3:(tSch)×qe×Unit) (x4:(tSch)×qe×Unit):Option ((((tSch)×qe×Unit)×Int×Unit)×Unit):=br (decide (x1<(↑(List.length (Prod.fst (Prod.snd x2))):Int))) (br (decide (0≤x1)&&decide (x1<(↑(List.length (Prod.fst (Prod.snd x2))):Int))) (qi (qe5 D (Prod.fst x2) (List.getD (Prod.fst (Prod.snd x2)) (Int.toNat x1) [])) fun b↦qi (qe5 D (Prod.fst x2) x0) fun b_1↦qi (qoy D (Prod.fst (Prod.fst b)) (Prod.fst (Prod.fst b_1))) fun b↦br (Prod.fst (Prod.fst b)) (go x0 (IntKind.wrap IntKind.i64 (x1+1)) x2 x3 x4) (K0 x0 x1 x2 x3 x4)) none) (K0 x0 x1 x2 x3 x4)
def qkj (D:DX)(n:Nat) (K0:qd→Int→(tSch)×qe×Unit→(tSch)×qe×Unit→(tSch)×qe×Unit→Option ((((tSch)×qe×Unit)×Int×Unit)×Unit)):Nat→(qd)→(Int)→((tSch)×qe×Unit)→((tSch)×qe×Unit)→((tSch)×qe×Unit)→Option ((((tSch)×qe×Unit)×Int×Unit)×Unit) | 0=>(fun x0 x1 x2 x3 x4=>none) | m+1=>(fun x0 x1 x2 x3 x4=>q07 D n (qkj D n K0 m) K0 x0 x1 x2 x3 x4)
def qih (D:DX)(n:Nat) (v0_0:qd) (v0_1:Int) (v0_2:(tSch)×qe×Unit) (v0_3:(tSch)×qe×Unit) (v0_4:(tSch)×qe×Unit):Option ((((tSch)×qe×Unit)×Int×Unit)×Unit):=br (decide (0≤0)&&decide (0≤v0_1)&&decide (v0_1≤(↑(List.length (Prod.fst (Prod.snd v0_2))):Int))) (qi (qof D (List.drop (Int.toNat 0) (List.take (Int.toNat v0_1) (Prod.fst (Prod.snd v0_2))))) fun b↦br (decide (0+List.length v0_0≤qbl)) (br (decide (List.length (Prod.fst (Prod.fst b))+1≤qbl)) (br (decide (0≤v0_1)&&decide (v0_1≤(↑(List.length (Prod.fst (Prod.snd v0_2))):Int))&&decide ((↑(List.length (Prod.fst (Prod.snd v0_2))):Int)≤(↑(List.length (Prod.fst (Prod.snd v0_2))):Int))) (qi (qof D (List.drop (Int.toNat v0_1) (List.take (Int.toNat (↑(List.length (Prod.fst (Prod.snd v0_2))):Int)) (Prod.fst (Prod.snd v0_2))))) fun b_1↦br (decide (List.length (Prod.fst (Prod.fst b)++[[]++v0_0])+List.length (Prod.fst (Prod.fst b_1))≤qbl)) (some ((((Prod.fst (Prod.fst v0_4),Prod.fst (Prod.snd (Prod.fst v0_4)),Prod.fst (Prod.snd (Prod.snd (Prod.fst v0_4))),()),Prod.fst (Prod.fst b)++[[]++v0_0]++Prod.fst (Prod.fst b_1),()),0,()),())) none) none) none) none) none
def qzg (D:DX)(n:Nat):(qd)→(Int)→((tSch)×qe×Unit)→((tSch)×qe×Unit)→((tSch)×qe×Unit)→Option ((((tSch)×qe×Unit)×Int×Unit)×Unit):=(fun x0 x1 x2 x3 x4=>qkj D n (fun v0_0 v0_1 v0_2 v0_3 v0_4=>qih D n v0_0 v0_1 v0_2 v0_3 v0_4) n x0 x1 x2 x3 x4)
def q3k (D:DX)(n:Nat) (lp0:qd→Int→(tSch)×qe×Unit→(tSch)×qe×Unit→(tSch)×qe×Unit→Option ((((tSch)×qe×Unit)×Int×Unit)×Unit)) (a0:(tSch)×qe×Unit) (a1:qd):Option ((((tSch)×qe×Unit)×Int×Unit)×Unit):=qi (q1m D a0) fun b↦qi (q6b D a0) fun b_1↦br (!Prod.fst (Prod.fst b_1)) (some ((((Prod.fst (Prod.fst (Prod.fst (Prod.fst b))),Prod.fst (Prod.snd (Prod.fst (Prod.fst (Prod.fst b)))),Prod.fst (Prod.snd (Prod.snd (Prod.fst (Prod.fst (Prod.fst b))))),()),Prod.fst (Prod.snd (Prod.fst (Prod.fst b))),()),1,()),())) (qi (qxk D (Prod.fst a0) a1) fun b_2↦br (!Prod.fst (Prod.fst b_2)) (some ((((Prod.fst (Prod.fst (Prod.fst (Prod.fst b))),Prod.fst (Prod.snd (Prod.fst (Prod.fst (Prod.fst b)))),Prod.fst (Prod.snd (Prod.snd (Prod.fst (Prod.fst (Prod.fst b))))),()),Prod.fst (Prod.snd (Prod.fst (Prod.fst b))),()),1,()),())) (qi (qe5 D (Prod.fst a0) a1) fun b_3↦qi (q6e D a0 (Prod.fst (Prod.fst b_3))) fun b_4↦br (decide (Prod.fst (Prod.fst b_4)≥0)) (some ((((Prod.fst (Prod.fst (Prod.fst (Prod.fst b))),Prod.fst (Prod.snd (Prod.fst (Prod.fst (Prod.fst b)))),Prod.fst (Prod.snd (Prod.snd (Prod.fst (Prod.fst (Prod.fst b))))),()),Prod.fst (Prod.snd (Prod.fst (Prod.fst b))),()),2,()),())) (qi (qww D a0 a1 (-1)) fun b_5↦br (Prod.fst (Prod.fst b_5)) (some ((((Prod.fst (Prod.fst (Prod.fst (Prod.fst b))),Prod.fst (Prod.snd (Prod.fst (Prod.fst (Prod.fst b)))),Prod.fst (Prod.snd (Prod.snd (Prod.fst (Prod.fst (Prod.fst b))))),()),Prod.fst (Prod.snd (Prod.fst (Prod.fst b))),()),3,()),())) (br (decide ((↑(List.length (Prod.fst (Prod.snd a0))):Int)≥12)) (some ((((Prod.fst (Prod.fst (Prod.fst (Prod.fst b))),Prod.fst (Prod.snd (Prod.fst (Prod.fst (Prod.fst b)))),Prod.fst (Prod.snd (Prod.snd (Prod.fst (Prod.fst (Prod.fst b))))),()),Prod.fst (Prod.snd (Prod.fst (Prod.fst b))),()),5,()),())) (lp0 a1 0 a0 (([],[],[],()),[],()) ((Prod.fst (Prod.fst (Prod.fst (Prod.fst b))),Prod.fst (Prod.snd (Prod.fst (Prod.fst (Prod.fst b)))),Prod.fst (Prod.snd (Prod.snd (Prod.fst (Prod.fst (Prod.fst b))))),()),Prod.fst (Prod.snd (Prod.fst (Prod.fst b))),()))))))
def q30 (D:DX)(n:Nat) (a0:(tSch)×qe×Unit) (a1:qd):Option ((((tSch)×qe×Unit)×Int×Unit)×Unit):=q3k D n (qzg D n) a0 a1
def qkm (x0:qd) (x1:Int) (x2:(tSch)×qe×Unit) (x3:(tSch)×qe×Unit) (x4:(tSch)×qe×Unit):St:=stq 91 [(1,AV.val (Ty.sl yV) x0),(2,AV.addr 2 []),(4,AV.addr 4 []),(6,AV.addr 6 []),(7,avI x1)] [(2,Root.mk (Ty.pair yS (Ty.pair (Ty.sl (Ty.sl yV)) Ty.unit)) Mk.no x2 true),(4,Root.mk (Ty.pair yS (Ty.pair (Ty.sl (Ty.sl yV)) Ty.unit)) (Mk.pr (Mk.pr (Mk.own 0 (Mk.pr Mk.no (Mk.pr Mk.no (Mk.pr Mk.no Mk.no)))) (Mk.pr (Mk.own 0 Mk.no) (Mk.pr (Mk.own 0 (Mk.pr Mk.no (Mk.pr (Mk.own 0 Mk.no) (Mk.pr Mk.no Mk.no)))) Mk.no))) (Mk.pr (Mk.own 0 (Mk.own 0 (Mk.pr Mk.no (Mk.pr Mk.no (Mk.pr Mk.no Mk.no))))) Mk.no)) x3 true),(6,Root.mk (Ty.pair yS (Ty.pair (Ty.sl (Ty.sl yV)) Ty.unit)) (Mk.pr (Mk.pr (Mk.own 0 (Mk.pr Mk.no (Mk.pr Mk.no (Mk.pr Mk.no Mk.no)))) (Mk.pr (Mk.own 0 Mk.no) (Mk.pr (Mk.own 0 (Mk.pr Mk.no (Mk.pr (Mk.own 0 Mk.no) (Mk.pr Mk.no Mk.no)))) Mk.no))) (Mk.pr (Mk.own 0 (Mk.own 0 (Mk.pr Mk.no (Mk.pr Mk.no (Mk.pr Mk.no Mk.no))))) Mk.no)) x4 true)] 
def qpy (v0_0:qd) (v0_1:Int) (v0_2:(tSch)×qe×Unit) (v0_3:(tSch)×qe×Unit) (v0_4:(tSch)×qe×Unit):St:=stq 91 [(1,AV.val (Ty.sl yV) v0_0),(2,AV.addr 2 []),(4,AV.addr 4 []),(6,AV.addr 6 []),(7,avI v0_1)] [(2,Root.mk (Ty.pair yS (Ty.pair (Ty.sl (Ty.sl yV)) Ty.unit)) Mk.no v0_2 true),(4,Root.mk (Ty.pair yS (Ty.pair (Ty.sl (Ty.sl yV)) Ty.unit)) (Mk.pr (Mk.pr (Mk.own 0 (Mk.pr Mk.no (Mk.pr Mk.no (Mk.pr Mk.no Mk.no)))) (Mk.pr (Mk.own 0 Mk.no) (Mk.pr (Mk.own 0 (Mk.pr Mk.no (Mk.pr (Mk.own 0 Mk.no) (Mk.pr Mk.no Mk.no)))) Mk.no))) (Mk.pr (Mk.own 0 (Mk.own 0 (Mk.pr Mk.no (Mk.pr Mk.no (Mk.pr Mk.no Mk.no))))) Mk.no)) v0_3 true),(6,Root.mk (Ty.pair yS (Ty.pair (Ty.sl (Ty.sl yV)) Ty.unit)) (Mk.pr (Mk.pr (Mk.own 0 (Mk.pr Mk.no (Mk.pr Mk.no (Mk.pr Mk.no Mk.no)))) (Mk.pr (Mk.own 0 Mk.no) (Mk.pr (Mk.own 0 (Mk.pr Mk.no (Mk.pr (Mk.own 0 Mk.no) (Mk.pr Mk.no Mk.no)))) Mk.no))) (Mk.pr (Mk.own 0 (Mk.own 0 (Mk.pr Mk.no (Mk.pr Mk.no (Mk.pr Mk.no Mk.no))))) Mk.no)) v0_4 true)] 
theorem qblm (D:DX)(n:Nat) (m:Nat) (K:Ex→St→Option (Out ctx 28)) (x0:qd) (x1:Int) (x2:(tSch)×
 qe×Unit) (x3:(tSch)×
 qe×Unit) (x4:(tSch)×
 qe×Unit) :
 LQ qc D n 28 [.r,.r,.r,.r,.l,.l] (m+1) (qkm x0 x1 x2 x3 x4) K=q07 D n (fun x0 x1 x2 x3 x4=>LQ qc D n 28 [.r,.r,.r,.r,.l,.l] m (qkm x0 x1 x2 x3 x4) K) (fun v0_0 v0_1 v0_2 v0_3 v0_4=>K (Ex.exit 1) (qpy v0_0 v0_1 v0_2 v0_3 v0_4)) x0 x1 x2 x3 x4:=by kernel_rfl
theorem q7o (D:DX)(n:Nat) (K:Ex→St→Option (Out ctx 28)):∀ (m:Nat) (x0:qd) (x1:Int) (x2:(tSch)×
 qe×Unit) (x3:(tSch)×
 qe×Unit) (x4:(tSch)×
 qe×Unit),LQ qc D n 28 [.r,.r,.r,.r,.l,.l] m (qkm x0 x1 x2 x3 x4) K=qkj D n (fun v0_0 v0_1 v0_2 v0_3 v0_4=>K (Ex.exit 1) (qpy v0_0 v0_1 v0_2 v0_3 v0_4)) m x0 x1 x2 x3 x4
 | 0,x0,x1,x2,x3,x4=>qy ..
 | m+1,x0,x1,x2,x3,x4=>by
  have ih:(fun x0 x1 x2 x3 x4=>LQ qc D n 28 [.r,.r,.r,.r,.l,.l] m (qkm x0 x1 x2 x3 x4) K)=qkj D n (fun v0_0 v0_1 v0_2 v0_3 v0_4=>K (Ex.exit 1) (qpy v0_0 v0_1 v0_2 v0_3 v0_4)) m:=by funext x0 x1 x2 x3 x4;exact q7o D n K m x0 x1 x2 x3 x4
  rw[qblm]
  rw[ih];rfl
theorem qbie (D:DX)(n:Nat) (v0_0:qd) (v0_1:Int) (v0_2:(tSch)×
 qe×Unit) (v0_3:(tSch)×
 qe×Unit) (v0_4:(tSch)×
 qe×Unit) :
 (CQ qc D n 28 [] [.r,.r,.r,.r,.l,.l] (qh qc 28)) (Ex.exit 1) (qpy v0_0 v0_1 v0_2 v0_3 v0_4)=qih D n v0_0 v0_1 v0_2 v0_3 v0_4:=by kernel_rfl
theorem qbiv (D:DX)(n:Nat) (x0:qd) (x1:Int) (x2:(tSch)×
 qe×Unit) (x3:(tSch)×
 qe×Unit) (x4:(tSch)×
 qe×Unit) :
 LQ qc D n 28 [.r,.r,.r,.r,.l,.l] n (qkm x0 x1 x2 x3 x4) (CQ qc D n 28 [] [.r,.r,.r,.r,.l,.l] (qh qc 28))=qzg D n x0 x1 x2 x3 x4:=by
 rw[q7o]
 simp only[qbie]
 rfl
theorem qbo5 (D:DX)(n:Nat) (a0:(tSch)×
 qe×Unit) (a1:qd):rfC qc D n 28 (a0,(a1,()))=q30 D n a0 a1:=by
 have h:rfC qc D n 28 (a0,(a1,()))=q3k D n (fun x0 x1 x2 x3 x4=>LQ qc D n 28 [.r,.r,.r,.r,.l,.l] n (qkm x0 x1 x2 x3 x4) (CQ qc D n 28 [] [.r,.r,.r,.r,.l,.l] (qh qc 28))) a0 a1:=by kernel_rfl
 rw[h]
 simp only[qbiv]
 rfl






def q3r (D:DX)(n:Nat) (go:Int→Int→(tSch)×qe×Unit→Option ((Bool×Unit)×Unit)) (K0:Bool→Int→(tSch)×qe×Unit→Option ((Bool×Unit)×Unit)) (K1:Int→(tSch)×qe×Unit→Option ((Bool×Unit)×Unit)) (x1_0:Int) (x1_1:Int) (x1_2:(tSch)×qe×Unit):Option ((Bool×Unit)×Unit):=br (decide (x1_1<x1_0)) (br (decide (0≤x1_1)&&decide (x1_1<(↑(List.length (Prod.fst (Prod.snd x1_2))):Int))) (br (decide (0≤x1_0)&&decide (x1_0<(↑(List.length (Prod.fst (Prod.snd x1_2))):Int))) (qi (qri D (Prod.fst x1_2) (List.getD (Prod.fst (Prod.snd x1_2)) (Int.toNat x1_1) []) (List.getD (Prod.fst (Prod.snd x1_2)) (Int.toNat x1_0) [])) fun b↦br (Prod.fst (Prod.fst b)) (K0 false x1_0 x1_2) (go x1_0 (IntKind.wrap IntKind.i64 (x1_1+1)) x1_2)) none) none) (K1 x1_0 x1_2)
def qlr (D:DX)(n:Nat) (K0:Bool→Int→(tSch)×qe×Unit→Option ((Bool×Unit)×Unit)) (K1:Int→(tSch)×qe×Unit→Option ((Bool×Unit)×Unit)):Nat→(Int)→(Int)→((tSch)×qe×Unit)→Option ((Bool×Unit)×Unit) | 0=>(fun x1_0 x1_1 x1_2=>none) | m+1=>(fun x1_0 x1_1 x1_2=>q3r D n (qlr D n K0 K1 m) K0 K1 x1_0 x1_1 x1_2)
def qzi (D:DX)(n:Nat) (go:Int→(tSch)×qe×Unit→Option ((Bool×Unit)×Unit)) (K0:Bool→(tSch)×qe×Unit→Option ((Bool×Unit)×Unit)) (K1:(tSch)×qe×Unit→Option ((Bool×Unit)×Unit)) (v0_0:Bool) (v0_1:Int) (v0_2:(tSch)×qe×Unit):Option ((Bool×Unit)×Unit):=K0 v0_0 v0_2
def qrb (D:DX)(n:Nat) (go:Int→(tSch)×qe×Unit→Option ((Bool×Unit)×Unit)) (K0:Bool→(tSch)×qe×Unit→Option ((Bool×Unit)×Unit)) (K1:(tSch)×qe×Unit→Option ((Bool×Unit)×Unit)) (v1_0:Int) (v1_1:(tSch)×qe×Unit):Option ((Bool×Unit)×Unit):=go (IntKind.wrap IntKind.i64 (v1_0+1)) v1_1
def q0o (D:DX)(n:Nat) (go:Int→(tSch)×qe×Unit→Option ((Bool×Unit)×Unit)) (K0:Bool→(tSch)×qe×Unit→Option ((Bool×Unit)×Unit)) (K1:(tSch)×qe×Unit→Option ((Bool×Unit)×Unit)):(Int)→(Int)→((tSch)×qe×Unit)→Option ((Bool×Unit)×Unit):=(fun x1_0 x1_1 x1_2=>qlr D n (fun v0_0 v0_1 v0_2=>qzi D n go K0 K1 v0_0 v0_1 v0_2) (fun v1_0 v1_1=>qrb D n go K0 K1 v1_0 v1_1) n x1_0 x1_1 x1_2)
def q3e (D:DX)(n:Nat) (go:Int→(tSch)×qe×Unit→Option ((Bool×Unit)×Unit)) (K0:Bool→(tSch)×qe×Unit→Option ((Bool×Unit)×Unit)) (K1:(tSch)×qe×Unit→Option ((Bool×Unit)×Unit)) (lp1:Int→Int→(tSch)×qe×Unit→Option ((Bool×Unit)×Unit)) (x0:Int) (x1:(tSch)×qe×Unit):Option ((Bool×Unit)×Unit):=br (decide (x0<(↑(List.length (Prod.fst (Prod.snd x1))):Int))) (br (decide (0≤x0)&&decide (x0<(↑(List.length (Prod.fst (Prod.snd x1))):Int))) (qi (qxk D (Prod.fst x1) (List.getD (Prod.fst (Prod.snd x1)) (Int.toNat x0) [])) fun b↦br (!Prod.fst (Prod.fst b)) (K0 false x1) (br (decide (x0>0)) (br (decide (0≤IntKind.wrap IntKind.i64 (x0 - 1))&&decide (IntKind.wrap IntKind.i64 (x0 - 1)<(↑(List.length (Prod.fst (Prod.snd x1))):Int))) (qi (qe5 D (Prod.fst x1) (List.getD (Prod.fst (Prod.snd x1)) (Int.toNat (IntKind.wrap IntKind.i64 (x0 - 1))) [])) fun b↦br (decide (0≤x0)&&decide (x0<(↑(List.length (Prod.fst (Prod.snd x1))):Int))) (qi (qe5 D (Prod.fst x1) (List.getD (Prod.fst (Prod.snd x1)) (Int.toNat x0) [])) fun b_1↦qi (qoy D (Prod.fst (Prod.fst b)) (Prod.fst (Prod.fst b_1))) fun b↦br (!Prod.fst (Prod.fst b)) (K0 false x1) (lp1 x0 0 x1)) none) none) (lp1 x0 0 x1))) none) (K1 x1)
def qey (D:DX)(n:Nat) (K0:Bool→(tSch)×qe×Unit→Option ((Bool×Unit)×Unit)) (K1:(tSch)×qe×Unit→Option ((Bool×Unit)×Unit)):Nat→(Int)→((tSch)×qe×Unit)→Option ((Bool×Unit)×Unit) | 0=>(fun x0 x1=>none) | m+1=>(fun x0 x1=>q3e D n (qey D n K0 K1 m) K0 K1 (q0o D n (qey D n K0 K1 m) K0 K1) x0 x1)
def qgw (D:DX)(n:Nat) (v0_0:Bool) (v0_1:(tSch)×qe×Unit):Option ((Bool×Unit)×Unit):=some ((v0_0,()),())
def qe4 (D:DX)(n:Nat) (v1_0:(tSch)×qe×Unit):Option ((Bool×Unit)×Unit):=qi (qrl D (Prod.fst v1_0)) fun b↦some ((bif Prod.fst (Prod.fst b) then decide ((↑(List.length (Prod.fst (Prod.snd v1_0))):Int)≤12) else false,()),())
def q1u (D:DX)(n:Nat):(Int)→((tSch)×qe×Unit)→Option ((Bool×Unit)×Unit):=(fun x0 x1=>qey D n (fun v0_0 v0_1=>qgw D n v0_0 v0_1) (fun v1_0=>qe4 D n v1_0) n x0 x1)
def q6h (D:DX)(n:Nat) (lp0:Int→(tSch)×qe×Unit→Option ((Bool×Unit)×Unit)) (a0:(tSch)×qe×Unit):Option ((Bool×Unit)×Unit):=lp0 0 a0
def q5w (D:DX)(n:Nat) (a0:(tSch)×qe×Unit):Option ((Bool×Unit)×Unit):=q6h D n (q1u D n) a0
def qfm (x0:Int) (x1:(tSch)×qe×Unit):St:=stq 73 [(1,AV.addr 1 []),(3,avI x0)] [(1,Root.mk (Ty.pair yS (Ty.pair (Ty.sl (Ty.sl yV)) Ty.unit)) Mk.no x1 true)] 
def qgs (v0_0:Bool) (v0_1:(tSch)×qe×Unit):St:=stq 73 [(1,AV.addr 1 []),(2,AV.val Ty.bool v0_0)] [(1,Root.mk (Ty.pair yS (Ty.pair (Ty.sl (Ty.sl yV)) Ty.unit)) Mk.no v0_1 true)] 
def qgx (v1_0:(tSch)×qe×Unit):St:=stq 73 [(1,AV.addr 1 [])] [(1,Root.mk (Ty.pair yS (Ty.pair (Ty.sl (Ty.sl yV)) Ty.unit)) Mk.no v1_0 true)] 
def qls (x1_0:Int) (x1_1:Int) (x1_2:(tSch)×qe×Unit):St:=stq 73 [(1,AV.addr 1 []),(3,avI x1_0),(4,avI x1_1)] [(1,Root.mk (Ty.pair yS (Ty.pair (Ty.sl (Ty.sl yV)) Ty.unit)) Mk.no x1_2 true)] 
def qrr (v0_0:Bool) (v0_1:Int) (v0_2:(tSch)×qe×Unit):St:=stq 73 [(1,AV.addr 1 []),(2,AV.val Ty.bool v0_0),(3,avI v0_1)] [(1,Root.mk (Ty.pair yS (Ty.pair (Ty.sl (Ty.sl yV)) Ty.unit)) Mk.no v0_2 true)] 
def qrs (v1_0:Int) (v1_1:(tSch)×qe×Unit):St:=stq 73 [(1,AV.addr 1 []),(3,avI v1_0)] [(1,Root.mk (Ty.pair yS (Ty.pair (Ty.sl (Ty.sl yV)) Ty.unit)) Mk.no v1_1 true)] 
theorem qbmo (D:DX)(n:Nat) (m:Nat) (K:Ex→St→Option (Out ctx 41)) (x1_0:Int) (x1_1:Int) (x1_2:(tSch)×
 qe×Unit) :
 LQ qc D n 41 [.r,.l,.r,.l,.l,.r,.l,.l,.r,.r,.l] (m+1) (qls x1_0 x1_1 x1_2) K=q3r D n (fun x1_0 x1_1 x1_2=>LQ qc D n 41 [.r,.l,.r,.l,.l,.r,.l,.l,.r,.r,.l] m (qls x1_0 x1_1 x1_2) K) (fun v0_0 v0_1 v0_2=>K (Ex.ret) (qrr v0_0 v0_1 v0_2)) (fun v1_0 v1_1=>K (Ex.exit 2) (qrs v1_0 v1_1)) x1_0 x1_1 x1_2:=by kernel_rfl
theorem q9i (D:DX)(n:Nat) (K:Ex→St→Option (Out ctx 41)):∀ (m:Nat) (x1_0:Int) (x1_1:Int) (x1_2:(tSch)×
 qe×Unit),LQ qc D n 41 [.r,.l,.r,.l,.l,.r,.l,.l,.r,.r,.l] m (qls x1_0 x1_1 x1_2) K=qlr D n (fun v0_0 v0_1 v0_2=>K (Ex.ret) (qrr v0_0 v0_1 v0_2)) (fun v1_0 v1_1=>K (Ex.exit 2) (qrs v1_0 v1_1)) m x1_0 x1_1 x1_2
 | 0,x1_0,x1_1,x1_2=>qy ..
 | m+1,x1_0,x1_1,x1_2=>by
  have ih:(fun x1_0 x1_1 x1_2=>LQ qc D n 41 [.r,.l,.r,.l,.l,.r,.l,.l,.r,.r,.l] m (qls x1_0 x1_1 x1_2) K)=qlr D n (fun v0_0 v0_1 v0_2=>K (Ex.ret) (qrr v0_0 v0_1 v0_2)) (fun v1_0 v1_1=>K (Ex.exit 2) (qrs v1_0 v1_1)) m:=by funext x1_0 x1_1 x1_2;exact q9i D n K m x1_0 x1_1 x1_2
  rw[qbmo]
  rw[ih];rfl
theorem qbl5 (D:DX)(n:Nat) (m:Nat) (K:Ex→St→Option (Out ctx 41)) (v0_0:Bool) (v0_1:Int) (v0_2:(tSch)×
 qe×Unit) :
 (CQ qc D n 41 [.r,.l,.r,.l,.l] [.r,.l,.l,.r,.r,.l] (LK qc D n 41 [.r,.l,.r,.l] m K)) (Ex.ret) (qrr v0_0 v0_1 v0_2)=qzi D n (fun x0 x1=>LQ qc D n 41 [.r,.l,.r,.l] m (qfm x0 x1) K) (fun v0_0 v0_1=>K (Ex.ret) (qgs v0_0 v0_1)) (fun v1_0=>K (Ex.exit 0) (qgx v1_0)) v0_0 v0_1 v0_2:=by kernel_rfl
theorem qbky (D:DX)(n:Nat) (m:Nat) (K:Ex→St→Option (Out ctx 41)) (v1_0:Int) (v1_1:(tSch)×
 qe×Unit) :
 (CQ qc D n 41 [.r,.l,.r,.l,.l] [.r,.l,.l,.r,.r,.l] (LK qc D n 41 [.r,.l,.r,.l] m K)) (Ex.exit 2) (qrs v1_0 v1_1)=qrb D n (fun x0 x1=>LQ qc D n 41 [.r,.l,.r,.l] m (qfm x0 x1) K) (fun v0_0 v0_1=>K (Ex.ret) (qgs v0_0 v0_1)) (fun v1_0=>K (Ex.exit 0) (qgx v1_0)) v1_0 v1_1:=by kernel_rfl
theorem qbla (D:DX)(n:Nat) (m:Nat) (K:Ex→St→Option (Out ctx 41)) (x1_0:Int) (x1_1:Int) (x1_2:(tSch)×
 qe×Unit) :
 LQ qc D n 41 [.r,.l,.r,.l,.l,.r,.l,.l,.r,.r,.l] n (qls x1_0 x1_1 x1_2) (CQ qc D n 41 [.r,.l,.r,.l,.l] [.r,.l,.l,.r,.r,.l] (LK qc D n 41 [.r,.l,.r,.l] m K))=q0o D n (fun x0 x1=>LQ qc D n 41 [.r,.l,.r,.l] m (qfm x0 x1) K) (fun v0_0 v0_1=>K (Ex.ret) (qgs v0_0 v0_1)) (fun v1_0=>K (Ex.exit 0) (qgx v1_0)) x1_0 x1_1 x1_2:=by
 rw[q9i]
 simp only[qbl5,qbky]
 rfl
theorem qbmx (D:DX)(n:Nat) (m:Nat) (K:Ex→St→Option (Out ctx 41)) (x0:Int) (x1:(tSch)×
 qe×Unit) :
 LQ qc D n 41 [.r,.l,.r,.l] (m+1) (qfm x0 x1) K=q3e D n (fun x0 x1=>LQ qc D n 41 [.r,.l,.r,.l] m (qfm x0 x1) K) (fun v0_0 v0_1=>K (Ex.ret) (qgs v0_0 v0_1)) (fun v1_0=>K (Ex.exit 0) (qgx v1_0)) (fun x1_0 x1_1 x1_2=>LQ qc D n 41 [.r,.l,.r,.l,.l,.r,.l,.l,.r,.r,.l] n (qls x1_0 x1_1 x1_2) (CQ qc D n 41 [.r,.l,.r,.l,.l] [.r,.l,.l,.r,.r,.l] (LK qc D n 41 [.r,.l,.r,.l] m K))) x0 x1:=by kernel_rfl
theorem q8j (D:DX)(n:Nat) (K:Ex→St→Option (Out ctx 41)):∀ (m:Nat) (x0:Int) (x1:(tSch)×
 qe×Unit),LQ qc D n 41 [.r,.l,.r,.l] m (qfm x0 x1) K=qey D n (fun v0_0 v0_1=>K (Ex.ret) (qgs v0_0 v0_1)) (fun v1_0=>K (Ex.exit 0) (qgx v1_0)) m x0 x1
 | 0,x0,x1=>qy ..
 | m+1,x0,x1=>by
  have ih:(fun x0 x1=>LQ qc D n 41 [.r,.l,.r,.l] m (qfm x0 x1) K)=qey D n (fun v0_0 v0_1=>K (Ex.ret) (qgs v0_0 v0_1)) (fun v1_0=>K (Ex.exit 0) (qgx v1_0)) m:=by funext x0 x1;exact q8j D n K m x0 x1
  rw[qbmx]
  simp only[qbla]
  rw[ih];rfl
theorem qbj6 (D:DX)(n:Nat) (v0_0:Bool) (v0_1:(tSch)×
 qe×Unit) :
 (CQ qc D n 41 [] [.r,.l,.r,.l] (qh qc 41)) (Ex.ret) (qgs v0_0 v0_1)=qgw D n v0_0 v0_1:=by kernel_rfl
theorem qbjw (D:DX)(n:Nat) (v1_0:(tSch)×
 qe×Unit) :
 (CQ qc D n 41 [] [.r,.l,.r,.l] (qh qc 41)) (Ex.exit 0) (qgx v1_0)=qe4 D n v1_0:=by kernel_rfl
theorem qbkb (D:DX)(n:Nat) (x0:Int) (x1:(tSch)×
 qe×Unit) :
 LQ qc D n 41 [.r,.l,.r,.l] n (qfm x0 x1) (CQ qc D n 41 [] [.r,.l,.r,.l] (qh qc 41))=q1u D n x0 x1:=by
 rw[q8j]
 simp only[qbj6,qbjw]
 rfl
theorem qbrf (D:DX)(n:Nat) (a0:(tSch)×
 qe×Unit):rfC qc D n 41 (a0,())=q5w D n a0:=by
 have h:rfC qc D n 41 (a0,())=q6h D n (fun x0 x1=>LQ qc D n 41 [.r,.l,.r,.l] n (qfm x0 x1) (CQ qc D n 41 [] [.r,.l,.r,.l] (qh qc 41))) a0:=by kernel_rfl
 rw[h]
 simp only[qbkb]
 rfl

def q38 (D:DX)(n:Nat) (a0:(tSch)×qe×Unit) (a1:Int):Option ((Int×Unit)×Unit):=qi (qyv D (Prod.fst a0) a1) fun b↦br (decide (Prod.fst (Prod.fst b)<0)) (some ((-1,()),())) (qi (qwj D (Prod.fst (Prod.snd a0)) (Prod.fst (Prod.fst b))) fun b↦br (decide (Prod.fst (Prod.fst b)<0)) (some ((-1,()),())) (some ((Prod.fst (Prod.fst b),()),())))
def qux (D:DX)(n:Nat) (a0:(tSch)×qe×Unit) (a1:Int):Option ((Int×Unit)×Unit):=q38 D n a0 a1
theorem qbfj (D:DX)(n:Nat) (a0:(tSch)×
 qe×Unit) (a1:Int):rfC qc D n 53 (a0,(a1,()))=qux D n a0 a1:=by kernel_rfl

def qvz (D:DX)(n:Nat) (go:qd→Int→Int→Option ((Int×Unit)×Unit)) (K0:Int→Int→Option ((Int×Unit)×Unit)) (K1:Int→Option ((Int×Unit)×Unit)) (x0:qd) (x1:Int) (x2:Int):Option ((Int×Unit)×Unit):=br (decide (x2<(↑(List.length x0):Int))) (br (decide (0≤x2)&&decide (x2<(↑(List.length x0):Int))) (qi (qtn D (List.getD x0 (Int.toNat x2) (0,0,ByteArray.empty,())) x1) fun b↦br (decide (Prod.fst (Prod.fst b)<0)) (K0 (Prod.fst (Prod.fst b)) (-1)) (go x0 (Prod.fst (Prod.fst b)) (IntKind.wrap IntKind.i64 (x2+1)))) none) (K1 x1)
def qig (D:DX)(n:Nat) (K0:Int→Int→Option ((Int×Unit)×Unit)) (K1:Int→Option ((Int×Unit)×Unit)):Nat→(qd)→(Int)→(Int)→Option ((Int×Unit)×Unit) | 0=>(fun x0 x1 x2=>none) | m+1=>(fun x0 x1 x2=>qvz D n (qig D n K0 K1 m) K0 K1 x0 x1 x2)
def qsg (D:DX)(n:Nat) (v0_0:Int) (v0_1:Int):Option ((Int×Unit)×Unit):=some ((v0_1,()),())
def qso (D:DX)(n:Nat) (v1_0:Int):Option ((Int×Unit)×Unit):=some ((v1_0,()),())
def qvb (D:DX)(n:Nat):(qd)→(Int)→(Int)→Option ((Int×Unit)×Unit):=(fun x0 x1 x2=>qig D n (fun v0_0 v0_1=>qsg D n v0_0 v0_1) (fun v1_0=>qso D n v1_0) n x0 x1 x2)
def qyb (D:DX)(n:Nat) (lp0:qd→Int→Int→Option ((Int×Unit)×Unit)) (a0:qd) (a1:Int):Option ((Int×Unit)×Unit):=br (decide (IntKind.wrap IntKind.i64 (a1 - (↑(List.length a0):Int))<0)) (some ((-1,()),())) (lp0 a0 (IntKind.wrap IntKind.i64 (a1 - (↑(List.length a0):Int))) 0)
def qxn (D:DX)(n:Nat) (a0:qd) (a1:Int):Option ((Int×Unit)×Unit):=qyb D n (qvb D n) a0 a1
def qis (x0:qd) (x1:Int) (x2:Int):St:=stq 27 [(0,AV.val (Ty.sl yV) x0),(1,avI x1),(5,avI x2)] [] 
def qmk (v0_0:Int) (v0_1:Int):St:=stq 27 [(1,avI v0_0),(4,avI v0_1)] [] 
def qmi (v1_0:Int):St:=stq 27 [(1,avI v1_0)] [] 
theorem qbfh (D:DX)(n:Nat) (m:Nat) (K:Ex→St→Option (Out ctx 54)) (x0:qd) (x1:Int) (x2:Int) :
 LQ qc D n 54 [.r,.r,.r,.l,.r,.l] (m+1) (qis x0 x1 x2) K=qvz D n (fun x0 x1 x2=>LQ qc D n 54 [.r,.r,.r,.l,.r,.l] m (qis x0 x1 x2) K) (fun v0_0 v0_1=>K (Ex.ret) (qmk v0_0 v0_1)) (fun v1_0=>K (Ex.exit 0) (qmi v1_0)) x0 x1 x2:=by kernel_rfl
theorem q39 (D:DX)(n:Nat) (K:Ex→St→Option (Out ctx 54)):∀ (m:Nat) (x0:qd) (x1:Int) (x2:Int),LQ qc D n 54 [.r,.r,.r,.l,.r,.l] m (qis x0 x1 x2) K=qig D n (fun v0_0 v0_1=>K (Ex.ret) (qmk v0_0 v0_1)) (fun v1_0=>K (Ex.exit 0) (qmi v1_0)) m x0 x1 x2
 | 0,x0,x1,x2=>qy ..
 | m+1,x0,x1,x2=>by
  have ih:(fun x0 x1 x2=>LQ qc D n 54 [.r,.r,.r,.l,.r,.l] m (qis x0 x1 x2) K)=qig D n (fun v0_0 v0_1=>K (Ex.ret) (qmk v0_0 v0_1)) (fun v1_0=>K (Ex.exit 0) (qmi v1_0)) m:=by funext x0 x1 x2;exact q39 D n K m x0 x1 x2
  rw[qbfh]
  rw[ih];rfl
theorem qbdc (D:DX)(n:Nat) (v0_0:Int) (v0_1:Int) :
 (CQ qc D n 54 [] [.r,.r,.r,.l,.r,.l] (qh qc 54)) (Ex.ret) (qmk v0_0 v0_1)=qsg D n v0_0 v0_1:=by kernel_rfl
theorem qbc4 (D:DX)(n:Nat) (v1_0:Int) :
 (CQ qc D n 54 [] [.r,.r,.r,.l,.r,.l] (qh qc 54)) (Ex.exit 0) (qmi v1_0)=qso D n v1_0:=by kernel_rfl
theorem qbcb (D:DX)(n:Nat) (x0:qd) (x1:Int) (x2:Int) :
 LQ qc D n 54 [.r,.r,.r,.l,.r,.l] n (qis x0 x1 x2) (CQ qc D n 54 [] [.r,.r,.r,.l,.r,.l] (qh qc 54))=qvb D n x0 x1 x2:=by
 rw[q39]
 simp only[qbdc,qbc4]
 rfl
theorem qbjs (D:DX)(n:Nat) (a0:qd) (a1:Int):rfC qc D n 54 (a0,(a1,()))=qxn D n a0 a1:=by
 have h:rfC qc D n 54 (a0,(a1,()))=qyb D n (fun x0 x1 x2=>LQ qc D n 54 [.r,.r,.r,.l,.r,.l] n (qis x0 x1 x2) (CQ qc D n 54 [] [.r,.r,.r,.l,.r,.l] (qh qc 54))) a0 a1:=by kernel_rfl
 rw[h]
 simp only[qbcb]
 rfl

def q4r (D:DX)(n:Nat) (a0:(tSch)×qe×Unit):Option ((((tSch)×qe×Unit)×Unit)×Unit):=qi (qy6 D (Prod.fst a0)) fun b↦qi (qw7 D (Prod.fst (Prod.snd a0))) fun b_1↦some ((((Prod.fst (Prod.fst (Prod.fst b)),Prod.fst (Prod.snd (Prod.fst (Prod.fst b))),Prod.fst (Prod.snd (Prod.snd (Prod.fst (Prod.fst b)))),()),Prod.fst (Prod.fst b_1),()),()),())
def qtx (D:DX)(n:Nat) (a0:(tSch)×qe×Unit):Option ((((tSch)×qe×Unit)×Unit)×Unit):=q4r D n a0
theorem qbfy (D:DX)(n:Nat) (a0:(tSch)×
 qe×Unit):rfC qc D n 55 (a0,())=qtx D n a0:=by kernel_rfl

def qwl (D:DX)(n:Nat) (go:qd→Int→qd→Option ((qd×Unit)×Unit)) (K0:qd→Option ((qd×Unit)×Unit)) (x0:qd) (x1:Int) (x2:qd):Option ((qd×Unit)×Unit):=br (decide (x1<(↑(List.length x0):Int))) (br (decide (0≤x1)&&decide (x1<(↑(List.length x0):Int))) (qi (qth D (List.getD x0 (Int.toNat x1) (0,0,ByteArray.empty,()))) fun b↦br (decide (0≤x1)&&decide (x1<(↑(List.length x2):Int))) (go x0 (IntKind.wrap IntKind.i64 (x1+1)) (List.set x2 (Int.toNat x1) (Prod.fst (Prod.fst b)))) none) none) (K0 x2)
def qie (D:DX)(n:Nat) (K0:qd→Option ((qd×Unit)×Unit)):Nat→(qd)→(Int)→(qd)→Option ((qd×Unit)×Unit) | 0=>(fun x0 x1 x2=>none) | m+1=>(fun x0 x1 x2=>qwl D n (qie D n K0 m) K0 x0 x1 x2)
def qmt (D:DX)(n:Nat) (v0_0:qd):Option ((qd×Unit)×Unit):=some ((v0_0,()),())
def qu7 (D:DX)(n:Nat):(qd)→(Int)→(qd)→Option ((qd×Unit)×Unit):=(fun x0 x1 x2=>qie D n (fun v0_0=>qmt D n v0_0) n x0 x1 x2)
def qy8 (D:DX)(n:Nat) (lp0:qd→Int→qd→Option ((qd×Unit)×Unit)) (a0:qd):Option ((qd×Unit)×Unit):=br (decide (0≤(↑(List.length a0):Int))&&decide ((↑(List.length a0):Int)≤(↑(List.length a0):Int))&&decide ((↑(List.length a0):Int)≤(↑qbl:Int))) (lp0 a0 0 (List.replicate (Int.toNat (↑(List.length a0):Int)) (0,0,ByteArray.empty,()))) none
def qze (D:DX)(n:Nat) (a0:qd):Option ((qd×Unit)×Unit):=qy8 D n (qu7 D n) a0
def qiv (x0:qd) (x1:Int) (x2:qd):St:=stq 23 [(0,AV.val (Ty.sl yV) x0),(3,AV.brw 3 [] 0),(4,avI x1)] [(3,Root.mk (Ty.sl yV) (Mk.own 0 (Mk.pr Mk.no (Mk.pr Mk.no (Mk.pr Mk.no Mk.no)))) x2 false)] 
def ql4 (v0_0:qd):St:=stq 23 [(3,AV.brw 3 [] 0)] [(3,Root.mk (Ty.sl yV) (Mk.own 0 (Mk.pr Mk.no (Mk.pr Mk.no (Mk.pr Mk.no Mk.no)))) v0_0 false)] 
theorem qbfs (D:DX)(n:Nat) (m:Nat) (K:Ex→St→Option (Out ctx 56)) (x0:qd) (x1:Int) (x2:qd) :
 LQ qc D n 56 [.r,.r,.l,.r,.l] (m+1) (qiv x0 x1 x2) K=qwl D n (fun x0 x1 x2=>LQ qc D n 56 [.r,.r,.l,.r,.l] m (qiv x0 x1 x2) K) (fun v0_0=>K (Ex.exit 0) (ql4 v0_0)) x0 x1 x2:=by kernel_rfl
theorem q4a (D:DX)(n:Nat) (K:Ex→St→Option (Out ctx 56)):∀ (m:Nat) (x0:qd) (x1:Int) (x2:qd),LQ qc D n 56 [.r,.r,.l,.r,.l] m (qiv x0 x1 x2) K=qie D n (fun v0_0=>K (Ex.exit 0) (ql4 v0_0)) m x0 x1 x2
 | 0,x0,x1,x2=>qy ..
 | m+1,x0,x1,x2=>by
  have ih:(fun x0 x1 x2=>LQ qc D n 56 [.r,.r,.l,.r,.l] m (qiv x0 x1 x2) K)=qie D n (fun v0_0=>K (Ex.exit 0) (ql4 v0_0)) m:=by funext x0 x1 x2;exact q4a D n K m x0 x1 x2
  rw[qbfs]
  rw[ih];rfl
theorem qbce (D:DX)(n:Nat) (v0_0:qd) :
 (CQ qc D n 56 [] [.r,.r,.l,.r,.l] (qh qc 56)) (Ex.exit 0) (ql4 v0_0)=qmt D n v0_0:=by kernel_rfl
theorem qbei (D:DX)(n:Nat) (x0:qd) (x1:Int) (x2:qd) :
 LQ qc D n 56 [.r,.r,.l,.r,.l] n (qiv x0 x1 x2) (CQ qc D n 56 [] [.r,.r,.l,.r,.l] (qh qc 56))=qu7 D n x0 x1 x2:=by
 rw[q4a]
 simp only[qbce]
 rfl
theorem qbkp (D:DX)(n:Nat) (a0:qd):rfC qc D n 56 (a0,())=qze D n a0:=by
 have h:rfC qc D n 56 (a0,())=qy8 D n (fun x0 x1 x2=>LQ qc D n 56 [.r,.r,.l,.r,.l] n (qiv x0 x1 x2) (CQ qc D n 56 [] [.r,.r,.l,.r,.l] (qh qc 56))) a0:=by kernel_rfl
 rw[h]
 simp only[qbei]
 rfl

def q4o (D:DX)(n:Nat) (a0:(tSch)×qe×Unit) (a1:(tSch)×qe×Unit):Option ((Bool×Unit)×Unit):=qi (qy9 D (Prod.fst a0) (Prod.fst a1)) fun b↦br (!Prod.fst (Prod.fst b)) (some ((false,()),())) (qi (qwh D (Prod.fst (Prod.snd a0)) (Prod.fst (Prod.snd a1))) fun b↦br (!Prod.fst (Prod.fst b)) (some ((false,()),())) (some ((true,()),())))
def qui (D:DX)(n:Nat) (a0:(tSch)×qe×Unit) (a1:(tSch)×qe×Unit):Option ((Bool×Unit)×Unit):=q4o D n a0 a1
theorem qbfu (D:DX)(n:Nat) (a0:(tSch)×
 qe×Unit) (a1:(tSch)×
 qe×Unit):rfC qc D n 57 (a0,(a1,()))=qui D n a0 a1:=by kernel_rfl

def qwk (D:DX)(n:Nat) (go:qd→qd→Int→Option ((Bool×Unit)×Unit)) (K0:Bool→Option ((Bool×Unit)×Unit)) (K1:Option ((Bool×Unit)×Unit)) (x0:qd) (x1:qd) (x2:Int):Option ((Bool×Unit)×Unit):=br (decide (x2<(↑(List.length x0):Int))) (br (decide (0≤x2)&&decide (x2<(↑(List.length x0):Int))) (br (decide (0≤x2)&&decide (x2<(↑(List.length x1):Int))) (qi (qtb D (List.getD x0 (Int.toNat x2) (0,0,ByteArray.empty,())) (List.getD x1 (Int.toNat x2) (0,0,ByteArray.empty,()))) fun b↦br (!Prod.fst (Prod.fst b)) (K0 false) (go x0 x1 (IntKind.wrap IntKind.i64 (x2+1)))) none) none) K1
def qir (D:DX)(n:Nat) (K0:Bool→Option ((Bool×Unit)×Unit)) (K1:Option ((Bool×Unit)×Unit)):Nat→(qd)→(qd)→(Int)→Option ((Bool×Unit)×Unit) | 0=>(fun x0 x1 x2=>none) | m+1=>(fun x0 x1 x2=>qwk D n (qir D n K0 K1 m) K0 K1 x0 x1 x2)
def qnh (D:DX)(n:Nat) (v0_0:Bool):Option ((Bool×Unit)×Unit):=some ((v0_0,()),())
def qng (D:DX)(n:Nat):Option ((Bool×Unit)×Unit):=some ((true,()),())
def qt3 (D:DX)(n:Nat):(qd)→(qd)→(Int)→Option ((Bool×Unit)×Unit):=(fun x0 x1 x2=>qir D n (fun v0_0=>qnh D n v0_0) (qng D n) n x0 x1 x2)
def qxx (D:DX)(n:Nat) (lp0:qd→qd→Int→Option ((Bool×Unit)×Unit)) (a0:qd) (a1:qd):Option ((Bool×Unit)×Unit):=br ((↑(List.length a0):Int) != (↑(List.length a1):Int)) (some ((false,()),())) (lp0 a0 a1 0)
def qyu (D:DX)(n:Nat) (a0:qd) (a1:qd):Option ((Bool×Unit)×Unit):=qxx D n (qt3 D n) a0 a1
def qh6 (x0:qd) (x1:qd) (x2:Int):St:=stq 27 [(0,AV.val (Ty.sl yV) x0),(1,AV.val (Ty.sl yV) x1),(5,avI x2)] [] 
def ql5 (v0_0:Bool):St:=stq 27 [(4,AV.val Ty.bool v0_0)] [] 
def qms:St:=stq 27 [] [] 
theorem qbgh (D:DX)(n:Nat) (m:Nat) (K:Ex→St→Option (Out ctx 58)) (x0:qd) (x1:qd) (x2:Int) :
 LQ qc D n 58 [.r,.r,.l,.r,.l] (m+1) (qh6 x0 x1 x2) K=qwk D n (fun x0 x1 x2=>LQ qc D n 58 [.r,.r,.l,.r,.l] m (qh6 x0 x1 x2) K) (fun v0_0=>K (Ex.ret) (ql5 v0_0)) (K (Ex.exit 0) (qms)) x0 x1 x2:=by kernel_rfl
theorem q4i (D:DX)(n:Nat) (K:Ex→St→Option (Out ctx 58)):∀ (m:Nat) (x0:qd) (x1:qd) (x2:Int),LQ qc D n 58 [.r,.r,.l,.r,.l] m (qh6 x0 x1 x2) K=qir D n (fun v0_0=>K (Ex.ret) (ql5 v0_0)) (K (Ex.exit 0) (qms)) m x0 x1 x2
 | 0,x0,x1,x2=>qy ..
 | m+1,x0,x1,x2=>by
  have ih:(fun x0 x1 x2=>LQ qc D n 58 [.r,.r,.l,.r,.l] m (qh6 x0 x1 x2) K)=qir D n (fun v0_0=>K (Ex.ret) (ql5 v0_0)) (K (Ex.exit 0) (qms)) m:=by funext x0 x1 x2;exact q4i D n K m x0 x1 x2
  rw[qbgh]
  rw[ih];rfl
theorem qbcu (D:DX)(n:Nat) (v0_0:Bool) :
 (CQ qc D n 58 [] [.r,.r,.l,.r,.l] (qh qc 58)) (Ex.ret) (ql5 v0_0)=qnh D n v0_0:=by kernel_rfl
theorem qbco (D:DX)(n:Nat) :
 (CQ qc D n 58 [] [.r,.r,.l,.r,.l] (qh qc 58)) (Ex.exit 0) (qms)=qng D n:=by kernel_rfl
theorem qbdr (D:DX)(n:Nat) (x0:qd) (x1:qd) (x2:Int) :
 LQ qc D n 58 [.r,.r,.l,.r,.l] n (qh6 x0 x1 x2) (CQ qc D n 58 [] [.r,.r,.l,.r,.l] (qh qc 58))=qt3 D n x0 x1 x2:=by
 rw[q4i]
 simp only[qbcu,qbco]
 rfl
theorem qbj1 (D:DX)(n:Nat) (a0:qd) (a1:qd):rfC qc D n 58 (a0,(a1,()))=qyu D n a0 a1:=by
 have h:rfC qc D n 58 (a0,(a1,()))=qxx D n (fun x0 x1 x2=>LQ qc D n 58 [.r,.r,.l,.r,.l] n (qh6 x0 x1 x2) (CQ qc D n 58 [] [.r,.r,.l,.r,.l] (qh qc 58))) a0 a1:=by kernel_rfl
 rw[h]
 simp only[qbdr]
 rfl

def q0c (D:DX)(n:Nat) (a0:(tSch)×qe×Unit) (a1:Int):Option ((Int×Unit)×((tSch)×qe×Unit)×Unit):=qi (qud D (Prod.fst (Prod.fst a0),Prod.fst (Prod.snd (Prod.fst a0)),Prod.fst (Prod.snd (Prod.snd (Prod.fst a0))),()) a1) fun b↦qi (qsb D (Prod.fst (Prod.snd a0)) (Prod.fst (Prod.fst b))) fun b_1↦some ((Prod.fst (Prod.fst b_1),()),((Prod.fst (Prod.fst (Prod.snd b)),Prod.fst (Prod.snd (Prod.fst (Prod.snd b))),Prod.fst (Prod.snd (Prod.snd (Prod.fst (Prod.snd b)))),()),Prod.fst (Prod.snd b_1),()),())
def qq5 (D:DX)(n:Nat) (a0:(tSch)×qe×Unit) (a1:Int):Option ((Int×Unit)×((tSch)×qe×Unit)×Unit):=q0c D n a0 a1
theorem qbbp (D:DX)(n:Nat) (a0:(tSch)×
 qe×Unit) (a1:Int):rfC qc D n 59 (a0,(a1,()))=qq5 D n a0 a1:=by kernel_rfl

def qs7 (D:DX)(n:Nat) (go:Int→Int→qd→Option ((Int×Unit)×qd×Unit)) (K0:Int→qd→Option ((Int×Unit)×qd×Unit)) (x0:Int) (x1:Int) (x2:qd):Option ((Int×Unit)×qd×Unit):=br (decide (x1<(↑(List.length x2):Int))) (br (decide (0≤x1)&&decide (x1<(↑(List.length x2):Int))) (br (decide (0≤x1)&&decide (x1<(↑(List.length (List.set x2 (Int.toNat x1) (x0,Prod.snd (List.getD x2 (Int.toNat x1) (0,0,ByteArray.empty,()))))):Int))) (qi (qe3 D (IntKind.wrap IntKind.i64 (IntKind.wrap IntKind.i64 (x0+1)+1))) fun b↦br (decide (0≤x1)&&decide (x1<(↑(List.length (List.set (List.set x2 (Int.toNat x1) (x0,Prod.snd (List.getD x2 (Int.toNat x1) (0,0,ByteArray.empty,())))) (Int.toNat x1) (Prod.fst (List.getD (List.set x2 (Int.toNat x1) (x0,Prod.snd (List.getD x2 (Int.toNat x1) (0,0,ByteArray.empty,())))) (Int.toNat x1) (0,0,ByteArray.empty,())),IntKind.wrap IntKind.i64 (x0+1),Prod.snd (Prod.snd (List.getD (List.set x2 (Int.toNat x1) (x0,Prod.snd (List.getD x2 (Int.toNat x1) (0,0,ByteArray.empty,())))) (Int.toNat x1) (0,0,ByteArray.empty,())))))):Int))) (go (IntKind.wrap IntKind.i64 (IntKind.wrap IntKind.i64 (IntKind.wrap IntKind.i64 (x0+1)+1)+1)) (IntKind.wrap IntKind.i64 (x1+1)) (List.set (List.set (List.set x2 (Int.toNat x1) (x0,Prod.snd (List.getD x2 (Int.toNat x1) (0,0,ByteArray.empty,())))) (Int.toNat x1) (Prod.fst (List.getD (List.set x2 (Int.toNat x1) (x0,Prod.snd (List.getD x2 (Int.toNat x1) (0,0,ByteArray.empty,())))) (Int.toNat x1) (0,0,ByteArray.empty,())),IntKind.wrap IntKind.i64 (x0+1),Prod.snd (Prod.snd (List.getD (List.set x2 (Int.toNat x1) (x0,Prod.snd (List.getD x2 (Int.toNat x1) (0,0,ByteArray.empty,())))) (Int.toNat x1) (0,0,ByteArray.empty,()))))) (Int.toNat x1) (Prod.fst (List.getD (List.set (List.set x2 (Int.toNat x1) (x0,Prod.snd (List.getD x2 (Int.toNat x1) (0,0,ByteArray.empty,())))) (Int.toNat x1) (Prod.fst (List.getD (List.set x2 (Int.toNat x1) (x0,Prod.snd (List.getD x2 (Int.toNat x1) (0,0,ByteArray.empty,())))) (Int.toNat x1) (0,0,ByteArray.empty,())),IntKind.wrap IntKind.i64 (x0+1),Prod.snd (Prod.snd (List.getD (List.set x2 (Int.toNat x1) (x0,Prod.snd (List.getD x2 (Int.toNat x1) (0,0,ByteArray.empty,())))) (Int.toNat x1) (0,0,ByteArray.empty,()))))) (Int.toNat x1) (0,0,ByteArray.empty,())),Prod.fst (Prod.snd (List.getD (List.set (List.set x2 (Int.toNat x1) (x0,Prod.snd (List.getD x2 (Int.toNat x1) (0,0,ByteArray.empty,())))) (Int.toNat x1) (Prod.fst (List.getD (List.set x2 (Int.toNat x1) (x0,Prod.snd (List.getD x2 (Int.toNat x1) (0,0,ByteArray.empty,())))) (Int.toNat x1) (0,0,ByteArray.empty,())),IntKind.wrap IntKind.i64 (x0+1),Prod.snd (Prod.snd (List.getD (List.set x2 (Int.toNat x1) (x0,Prod.snd (List.getD x2 (Int.toNat x1) (0,0,ByteArray.empty,())))) (Int.toNat x1) (0,0,ByteArray.empty,()))))) (Int.toNat x1) (0,0,ByteArray.empty,()))),Prod.fst (Prod.fst b),Prod.snd (Prod.snd (Prod.snd (List.getD (List.set (List.set x2 (Int.toNat x1) (x0,Prod.snd (List.getD x2 (Int.toNat x1) (0,0,ByteArray.empty,())))) (Int.toNat x1) (Prod.fst (List.getD (List.set x2 (Int.toNat x1) (x0,Prod.snd (List.getD x2 (Int.toNat x1) (0,0,ByteArray.empty,())))) (Int.toNat x1) (0,0,ByteArray.empty,())),IntKind.wrap IntKind.i64 (x0+1),Prod.snd (Prod.snd (List.getD (List.set x2 (Int.toNat x1) (x0,Prod.snd (List.getD x2 (Int.toNat x1) (0,0,ByteArray.empty,())))) (Int.toNat x1) (0,0,ByteArray.empty,()))))) (Int.toNat x1) (0,0,ByteArray.empty,()))))))) none) none) none) (K0 x0 x2)
def qge (D:DX)(n:Nat) (K0:Int→qd→Option ((Int×Unit)×qd×Unit)):Nat→(Int)→(Int)→(qd)→Option ((Int×Unit)×qd×Unit) | 0=>(fun x0 x1 x2=>none) | m+1=>(fun x0 x1 x2=>qs7 D n (qge D n K0 m) K0 x0 x1 x2)
def qj3 (D:DX)(n:Nat) (v0_0:Int) (v0_1:qd):Option ((Int×Unit)×qd×Unit):=some ((v0_0,()),v0_1,())
def qqo (D:DX)(n:Nat):(Int)→(Int)→(qd)→Option ((Int×Unit)×qd×Unit):=(fun x0 x1 x2=>qge D n (fun v0_0 v0_1=>qj3 D n v0_0 v0_1) n x0 x1 x2)
def qt5 (D:DX)(n:Nat) (lp0:Int→Int→qd→Option ((Int×Unit)×qd×Unit)) (a0:qd) (a1:Int):Option ((Int×Unit)×qd×Unit):=lp0 a1 0 a0
def qtu (D:DX)(n:Nat) (a0:qd) (a1:Int):Option ((Int×Unit)×qd×Unit):=qt5 D n (qqo D n) a0 a1
def qgd (x0:Int) (x1:Int) (x2:qd):St:=stq 35 [(0,AV.brw 0 [] 1048576),(1,avI x0),(5,avI x1)] [(0,Root.mk (Ty.sl yV) (Mk.own 1048576 (Mk.pr Mk.no (Mk.pr Mk.no (Mk.pr Mk.no Mk.no)))) x2 false)] 
def qka (v0_0:Int) (v0_1:qd):St:=stq 35 [(0,AV.brw 0 [] 1048576),(1,avI v0_0)] [(0,Root.mk (Ty.sl yV) (Mk.own 1048576 (Mk.pr Mk.no (Mk.pr Mk.no (Mk.pr Mk.no Mk.no)))) v0_1 false)] 
theorem qba2 (D:DX)(n:Nat) (m:Nat) (K:Ex→St→Option (Out ctx 60)) (x0:Int) (x1:Int) (x2:qd) :
 LQ qc D n 60 [.r,.l,.r,.l] (m+1) (qgd x0 x1 x2) K=qs7 D n (fun x0 x1 x2=>LQ qc D n 60 [.r,.l,.r,.l] m (qgd x0 x1 x2) K) (fun v0_0 v0_1=>K (Ex.exit 0) (qka v0_0 v0_1)) x0 x1 x2:=by kernel_rfl
theorem qz6 (D:DX)(n:Nat) (K:Ex→St→Option (Out ctx 60)):∀ (m:Nat) (x0:Int) (x1:Int) (x2:qd),LQ qc D n 60 [.r,.l,.r,.l] m (qgd x0 x1 x2) K=qge D n (fun v0_0 v0_1=>K (Ex.exit 0) (qka v0_0 v0_1)) m x0 x1 x2
 | 0,x0,x1,x2=>qy ..
 | m+1,x0,x1,x2=>by
  have ih:(fun x0 x1 x2=>LQ qc D n 60 [.r,.l,.r,.l] m (qgd x0 x1 x2) K)=qge D n (fun v0_0 v0_1=>K (Ex.exit 0) (qka v0_0 v0_1)) m:=by funext x0 x1 x2;exact qz6 D n K m x0 x1 x2
  rw[qba2]
  rw[ih];rfl
theorem q9w (D:DX)(n:Nat) (v0_0:Int) (v0_1:qd) :
 (CQ qc D n 60 [] [.r,.l,.r,.l] (qh qc 60)) (Ex.exit 0) (qka v0_0 v0_1)=qj3 D n v0_0 v0_1:=by kernel_rfl
theorem q92 (D:DX)(n:Nat) (x0:Int) (x1:Int) (x2:qd) :
 LQ qc D n 60 [.r,.l,.r,.l] n (qgd x0 x1 x2) (CQ qc D n 60 [] [.r,.l,.r,.l] (qh qc 60))=qqo D n x0 x1 x2:=by
 rw[qz6]
 simp only[q9w]
 rfl
theorem qbe3 (D:DX)(n:Nat) (a0:qd) (a1:Int):rfC qc D n 60 (a0,(a1,()))=qtu D n a0 a1:=by
 have h:rfC qc D n 60 (a0,(a1,()))=qt5 D n (fun x0 x1 x2=>LQ qc D n 60 [.r,.l,.r,.l] n (qgd x0 x1 x2) (CQ qc D n 60 [] [.r,.l,.r,.l] (qh qc 60))) a0 a1:=by kernel_rfl
 rw[h]
 simp only[q92]
 rfl

def q0b (D:DX)(n:Nat) (a0:(tSch)×qe×Unit) (a1:Int):Option ((Int×Unit)×Unit):=qi (qn6 D (Prod.fst a0) a1) fun b↦br (decide (Prod.fst (Prod.fst b)<0)) (some ((-1,()),())) (qi (qmv D (Prod.fst (Prod.snd a0)) (Prod.fst (Prod.fst b))) fun b↦br (decide (Prod.fst (Prod.fst b)<0)) (some ((-1,()),())) (some ((Prod.fst (Prod.fst b),()),())))
def qql (D:DX)(n:Nat) (a0:(tSch)×qe×Unit) (a1:Int):Option ((Int×Unit)×Unit):=q0b D n a0 a1
theorem qbbc (D:DX)(n:Nat) (a0:(tSch)×
 qe×Unit) (a1:Int):rfC qc D n 61 (a0,(a1,()))=qql D n a0 a1:=by kernel_rfl

def qbg3 (D:DX)(n:Nat) (a0:Int) (a1:Int) (a2:Int):Option ((Bool×Unit)×Unit):=some ((bif decide (a0≥a1) then decide (a0≤a2) else false,()),())
def q72 (D:DX)(n:Nat) (a0:Int) (a1:Int) (a2:Int):Option ((Bool×Unit)×Unit):=qbg3 D n a0 a1 a2
theorem qbsf (D:DX)(n:Nat) (a0:Int) (a1:Int) (a2:Int):rfC qc D n 68 (a0,(a1,(a2,())))=q72 D n a0 a1 a2:=by kernel_rfl

def q3o (D:DX)(n:Nat) (go:qd→Int→Int→tSch→Option ((Bool×Unit)×Unit)) (K0:Bool→Option ((Bool×Unit)×Unit)) (K1:Option ((Bool×Unit)×Unit)) (x0:qd) (x1:Int) (x2:Int) (x3:tSch):Option ((Bool×Unit)×Unit):=br (decide (x2<x1)) (br (decide (0≤x2)&&decide (x2<(↑(List.length x0):Int))) (br (decide (0≤x2)&&decide (x2<(↑(List.length (Prod.fst x3)):Int))) (qi (q1n D (List.getD x0 (Int.toNat x2) (0,0,ByteArray.empty,()))) fun b↦br (bif !Prod.fst (Prod.fst b) then true else bif Prod.fst (List.getD x0 (Int.toNat x2) (0,0,ByteArray.empty,())) != Prod.fst (Prod.snd (List.getD (Prod.fst x3) (Int.toNat x2) (ByteArray.empty,0,false,()))) then !bif decide (Prod.fst (List.getD x0 (Int.toNat x2) (0,0,ByteArray.empty,()))=0) then Prod.fst (Prod.snd (Prod.snd (List.getD (Prod.fst x3) (Int.toNat x2) (ByteArray.empty,0,false,())))) else false else false) (K0 false) (go x0 x1 (IntKind.wrap IntKind.i64 (x2+1)) x3)) none) none) K1
def ql0 (D:DX)(n:Nat) (K0:Bool→Option ((Bool×Unit)×Unit)) (K1:Option ((Bool×Unit)×Unit)):Nat→(qd)→(Int)→(Int)→(tSch)→Option ((Bool×Unit)×Unit) | 0=>(fun x0 x1 x2 x3=>none) | m+1=>(fun x0 x1 x2 x3=>q3o D n (ql0 D n K0 K1 m) K0 K1 x0 x1 x2 x3)
def q62 (D:DX)(n:Nat) (v0_0:Bool):Option ((Bool×Unit)×Unit):=some ((v0_0,()),())
def q7j (D:DX)(n:Nat):Option ((Bool×Unit)×Unit):=some ((true,()),())
def q0q (D:DX)(n:Nat):(qd)→(Int)→(Int)→(tSch)→Option ((Bool×Unit)×Unit):=(fun x0 x1 x2 x3=>ql0 D n (fun v0_0=>q62 D n v0_0) (q7j D n) n x0 x1 x2 x3)
def q5l (D:DX)(n:Nat) (lp0:qd→Int→Int→tSch→Option ((Bool×Unit)×Unit)) (a0:tSch) (a1:qd):Option ((Bool×Unit)×Unit):=qi (qrf D a0) fun b↦br (bif !Prod.fst (Prod.fst b) then true else (↑(List.length a1):Int) != (↑(List.length (Prod.fst a0)):Int)) (some ((false,()),())) (lp0 a1 (↑(List.length a1):Int) 0 a0)
def q5q (D:DX)(n:Nat) (a0:tSch) (a1:qd):Option ((Bool×Unit)×Unit):=q5l D n (q0q D n) a0 a1
def qlv (x0:qd) (x1:Int) (x2:Int) (x3:tSch):St:=stq 52 [(2,AV.addr 2 []),(19,AV.val (Ty.sl yV) x0),(20,avI x1),(21,avI x2)] [(2,Root.mk yS Mk.no x3 true)] 
def qrq (v0_0:Bool):St:=stq 52 [(4,AV.val Ty.bool v0_0)] [] 
def qro:St:=stq 52 [] [] 
theorem qbn1 (D:DX)(n:Nat) (m:Nat) (K:Ex→St→Option (Out ctx 77)) (x0:qd) (x1:Int) (x2:Int) (x3:tSch) :
 LQ qc D n 77 [.r,.r,.l,.r,.l] (m+1) (qlv x0 x1 x2 x3) K=q3o D n (fun x0 x1 x2 x3=>LQ qc D n 77 [.r,.r,.l,.r,.l] m (qlv x0 x1 x2 x3) K) (fun v0_0=>K (Ex.ret) (qrq v0_0)) (K (Ex.exit 0) (qro)) x0 x1 x2 x3:=by kernel_rfl
theorem q8e (D:DX)(n:Nat) (K:Ex→St→Option (Out ctx 77)):∀ (m:Nat) (x0:qd) (x1:Int) (x2:Int) (x3:tSch),LQ qc D n 77 [.r,.r,.l,.r,.l] m (qlv x0 x1 x2 x3) K=ql0 D n (fun v0_0=>K (Ex.ret) (qrq v0_0)) (K (Ex.exit 0) (qro)) m x0 x1 x2 x3
 | 0,x0,x1,x2,x3=>qy ..
 | m+1,x0,x1,x2,x3=>by
  have ih:(fun x0 x1 x2 x3=>LQ qc D n 77 [.r,.r,.l,.r,.l] m (qlv x0 x1 x2 x3) K)=ql0 D n (fun v0_0=>K (Ex.ret) (qrq v0_0)) (K (Ex.exit 0) (qro)) m:=by funext x0 x1 x2 x3;exact q8e D n K m x0 x1 x2 x3
  rw[qbn1]
  rw[ih];rfl
theorem qbkx (D:DX)(n:Nat) (v0_0:Bool) :
 (CQ qc D n 77 [] [.r,.r,.l,.r,.l] (qh qc 77)) (Ex.ret) (qrq v0_0)=q62 D n v0_0:=by kernel_rfl
theorem qblq (D:DX)(n:Nat) :
 (CQ qc D n 77 [] [.r,.r,.l,.r,.l] (qh qc 77)) (Ex.exit 0) (qro)=q7j D n:=by kernel_rfl
theorem qbjx (D:DX)(n:Nat) (x0:qd) (x1:Int) (x2:Int) (x3:tSch) :
 LQ qc D n 77 [.r,.r,.l,.r,.l] n (qlv x0 x1 x2 x3) (CQ qc D n 77 [] [.r,.r,.l,.r,.l] (qh qc 77))=q0q D n x0 x1 x2 x3:=by
 rw[q8e]
 simp only[qbkx,qblq]
 rfl
theorem qbrh (D:DX)(n:Nat) (a0:tSch) (a1:qd):rfC qc D n 77 (a0,(a1,()))=q5q D n a0 a1:=by
 have h:rfC qc D n 77 (a0,(a1,()))=q5l D n (fun x0 x1 x2 x3=>LQ qc D n 77 [.r,.r,.l,.r,.l] n (qlv x0 x1 x2 x3) (CQ qc D n 77 [] [.r,.r,.l,.r,.l] (qh qc 77))) a0 a1:=by kernel_rfl
 rw[h]
 simp only[qbjx]
 rfl

def q6u (D:DX)(n:Nat) (a0:qd) (a1:qd):Option ((Bool×Unit)×Unit):=qi (qca D a0 a1 (Clo.mk 141 [])) fun b↦some ((decide (Prod.fst (Prod.fst b)<0),()),())
def qwd (D:DX)(n:Nat) (a0:qd) (a1:qd):Option ((Bool×Unit)×Unit):=q6u D n a0 a1
theorem qbhu (D:DX)(n:Nat) (a0:qd) (a1:qd):rfC qc D n 78 (a0,(a1,()))=qwd D n a0 a1:=by kernel_rfl

def qfs (D:DX)(n:Nat) (a1:Clo) (a0:qe):Option ((Bool×Unit)×Unit):=qi (qce D a0 a1) fun b↦some ((decide (Prod.fst (Prod.fst b)≥0),()),())
def qdh (D:DX)(n:Nat) (a0:qe) (a1:Clo):Option ((Bool×Unit)×Unit):=qfs D n a1 a0
theorem qnz (D:DX)(n:Nat) (a0:qe) (a1:Clo):rfC qc D n 79 (a0,(a1,()))=qdh D n a0 a1:=by kernel_rfl

def q8u (D:DX)(n:Nat) (a0:qd) (a1:(tSch)×qe×Unit) (a2:qd):Option ((Bool×Unit)×Unit):=qi (qzb D (Prod.fst a1) a2 a0) fun b↦some ((Prod.fst (Prod.fst b),()),())
def q1l (D:DX)(n:Nat) (a0:qd) (a1:(tSch)×qe×Unit) (a2:qd):Option ((Bool×Unit)×Unit):=q8u D n a0 a1 a2
theorem qbnv (D:DX)(n:Nat) (a0:qd) (a1:(tSch)×
 qe×Unit) (a2:qd):rfC qc D n 80 (a0,(a1,(a2,())))=q1l D n a0 a1 a2:=by kernel_rfl

def qbdu (D:DX)(n:Nat) (a0:tSch) (a1:qd) (a2:qd):Option ((Bool×Unit)×Unit):=qi (qcp D (Prod.fst (Prod.snd (Prod.snd a0))) (Clo.mk 143 [CapV.rptr (Ty.sl (Ty.pair (Ty.int IntKind.i64) (Ty.pair (Ty.int IntKind.i64) (Ty.pair Ty.str Ty.unit)))) a1,CapV.rptr (Ty.sl (Ty.pair (Ty.int IntKind.i64) (Ty.pair (Ty.int IntKind.i64) (Ty.pair Ty.str Ty.unit)))) a2])) fun b↦some ((Prod.fst (Prod.fst b),()),())
def q5t (D:DX)(n:Nat) (a0:tSch) (a1:qd) (a2:qd):Option ((Bool×Unit)×Unit):=qbdu D n a0 a1 a2
theorem qbpt (D:DX)(n:Nat) (a0:tSch) (a1:qd) (a2:qd):rfC qc D n 81 (a0,(a1,(a2,())))=q5t D n a0 a1 a2:=by kernel_rfl

def qwb (D:DX)(n:Nat) (go:qk→Int→Int→tSch→Option ((Bool×Unit)×Unit)) (K0:Bool→tSch→Option ((Bool×Unit)×Unit)) (K1:tSch→Option ((Bool×Unit)×Unit)) (x0:qk) (x1:Int) (x2:Int) (x3:tSch):Option ((Bool×Unit)×Unit):=br (decide (x2<x1)) (br (decide (0≤x2)&&decide (x2<(↑(List.length x0):Int))) (qi (qo0 D (Prod.fst (List.getD x0 (Int.toNat x2) (ByteArray.empty,0,false,())))) fun b↦br (!Prod.fst (Prod.fst b)) (K0 false x3) (qi (qgq D (Prod.fst (Prod.snd (List.getD x0 (Int.toNat x2) (ByteArray.empty,0,false,())))) 1 3) fun b↦br (!Prod.fst (Prod.fst b)) (K0 false x3) (qi (q5r D x3 (Prod.fst (List.getD x0 (Int.toNat x2) (ByteArray.empty,0,false,())))) fun b↦br (Prod.fst (Prod.fst b) != x2) (K0 false x3) (go x0 x1 (IntKind.wrap IntKind.i64 (x2+1)) x3)))) none) (K1 x3)
def qia (D:DX)(n:Nat) (K0:Bool→tSch→Option ((Bool×Unit)×Unit)) (K1:tSch→Option ((Bool×Unit)×Unit)):Nat→(qk)→(Int)→(Int)→(tSch)→Option ((Bool×Unit)×Unit) | 0=>(fun x0 x1 x2 x3=>none) | m+1=>(fun x0 x1 x2 x3=>qwb D n (qia D n K0 K1 m) K0 K1 x0 x1 x2 x3)
def q2w (D:DX)(n:Nat) (v0_0:Bool) (v0_1:tSch):Option ((Bool×Unit)×Unit):=some ((v0_0,()),())
def qv9 (D:DX)(n:Nat) (go:tIxs→Int→Int→tSch→Option ((Bool×Unit)×Unit)) (K0:Bool→tSch→Option ((Bool×Unit)×Unit)) (K1:tSch→Option ((Bool×Unit)×Unit)) (x1_0:tIxs) (x1_1:Int) (x1_2:Int) (x1_3:tSch):Option ((Bool×Unit)×Unit):=br (decide (x1_2<x1_1)) (br (decide (0≤x1_2)&&decide (x1_2<(↑(List.length x1_0):Int))) (qi (qo0 D (Prod.fst (List.getD x1_0 (Int.toNat x1_2) (ByteArray.empty,[],false,())))) fun b↦br (!Prod.fst (Prod.fst b)) (K0 false x1_3) (qi (qrn D x1_3 (Prod.fst (Prod.snd (List.getD x1_0 (Int.toNat x1_2) (ByteArray.empty,[],false,())))) 3) fun b↦br (!Prod.fst (Prod.fst b)) (K0 false x1_3) (br (decide (0≤0)&&decide (0≤x1_2)&&decide (x1_2≤(↑(List.length (Prod.fst (Prod.snd (Prod.snd x1_3)))):Int))) (qi (qcp D (List.drop (Int.toNat 0) (List.take (Int.toNat x1_2) (Prod.fst (Prod.snd (Prod.snd x1_3))))) (Clo.mk 149 [CapV.rptr (Ty.pair Ty.str (Ty.pair (Ty.sl (Ty.int IntKind.i64)) (Ty.pair Ty.bool Ty.unit))) (List.getD x1_0 (Int.toNat x1_2) (ByteArray.empty,[],false,()))])) fun b↦br (Prod.fst (Prod.fst b)) (K0 false x1_3) (go x1_0 x1_1 (IntKind.wrap IntKind.i64 (x1_2+1)) x1_3)) none))) none) (K1 x1_3)
def qib (D:DX)(n:Nat) (K0:Bool→tSch→Option ((Bool×Unit)×Unit)) (K1:tSch→Option ((Bool×Unit)×Unit)):Nat→(tIxs)→(Int)→(Int)→(tSch)→Option ((Bool×Unit)×Unit) | 0=>(fun x1_0 x1_1 x1_2 x1_3=>none) | m+1=>(fun x1_0 x1_1 x1_2 x1_3=>qv9 D n (qib D n K0 K1 m) K0 K1 x1_0 x1_1 x1_2 x1_3)
def q2i (D:DX)(n:Nat) (v0_0:Bool) (v0_1:tSch):Option ((Bool×Unit)×Unit):=some ((v0_0,()),())
def qs8 (D:DX)(n:Nat) (v1_0:tSch):Option ((Bool×Unit)×Unit):=qi (qgq D (↑(List.length (Prod.fst v1_0)):Int) 1 5) fun b↦br (Prod.fst (Prod.fst b)) (qi (qrn D v1_0 (Prod.fst (Prod.snd v1_0)) 4) fun b↦br (Prod.fst (Prod.fst b)) (qi (qhq D (Prod.fst (Prod.snd v1_0)) (Clo.mk 151 [CapV.rptr (Ty.pair (Ty.sl (Ty.pair Ty.str (Ty.pair (Ty.int IntKind.i64) (Ty.pair Ty.bool Ty.unit)))) (Ty.pair (Ty.sl (Ty.int IntKind.i64)) (Ty.pair (Ty.sl (Ty.pair Ty.str (Ty.pair (Ty.sl (Ty.int IntKind.i64)) (Ty.pair Ty.bool Ty.unit)))) Ty.unit))) v1_0])) fun b↦some ((bif !Prod.fst (Prod.fst b) then decide ((↑(List.length (Prod.fst (Prod.snd (Prod.snd v1_0)))):Int)≤3) else false,()),())) (some ((false,()),()))) (some ((false,()),()))
def quu (D:DX)(n:Nat):(tIxs)→(Int)→(Int)→(tSch)→Option ((Bool×Unit)×Unit):=(fun x1_0 x1_1 x1_2 x1_3=>qib D n (fun v0_0 v0_1=>q2i D n v0_0 v0_1) (fun v1_0=>qs8 D n v1_0) n x1_0 x1_1 x1_2 x1_3)
def qsv (D:DX)(n:Nat) (lp1:tIxs→Int→Int→tSch→Option ((Bool×Unit)×Unit)) (v1_0:tSch):Option ((Bool×Unit)×Unit):=lp1 (Prod.fst (Prod.snd (Prod.snd v1_0))) (↑(List.length (Prod.fst (Prod.snd (Prod.snd v1_0)))):Int) 0 v1_0
def qu3 (D:DX)(n:Nat):(qk)→(Int)→(Int)→(tSch)→Option ((Bool×Unit)×Unit):=(fun x0 x1 x2 x3=>qia D n (fun v0_0 v0_1=>q2w D n v0_0 v0_1) (fun v1_0=>qsv D n (quu D n) v1_0) n x0 x1 x2 x3)
def qzk (D:DX)(n:Nat) (lp0:qk→Int→Int→tSch→Option ((Bool×Unit)×Unit)) (a0:tSch):Option ((Bool×Unit)×Unit):=lp0 (Prod.fst a0) (↑(List.length (Prod.fst a0)):Int) 0 a0
def qyz (D:DX)(n:Nat) (a0:tSch):Option ((Bool×Unit)×Unit):=qzk D n (qu3 D n) a0
def qii (x0:qk) (x1:Int) (x2:Int) (x3:tSch):St:=stq 85 [(1,AV.addr 1 []),(8,AV.val (Ty.sl yC) x0),(9,avI x1),(10,avI x2)] [(1,Root.mk yS Mk.no x3 true)] 
def qnf (v0_0:Bool) (v0_1:tSch):St:=stq 85 [(1,AV.addr 1 []),(2,AV.val Ty.bool v0_0)] [(1,Root.mk yS Mk.no v0_1 true)] 
def qni (v1_0:tSch):St:=stq 85 [(1,AV.addr 1 [])] [(1,Root.mk yS Mk.no v1_0 true)] 
def qif (x1_0:tIxs) (x1_1:Int) (x1_2:Int) (x1_3:tSch):St:=stq 85 [(1,AV.addr 1 []),(35,AV.val (Ty.sl yX) x1_0),(36,avI x1_1),(37,avI x1_2)] [(1,Root.mk yS Mk.no x1_3 true)] 
def qm7 (v0_0:Bool) (v0_1:tSch):St:=stq 85 [(1,AV.addr 1 []),(2,AV.val Ty.bool v0_0)] [(1,Root.mk yS Mk.no v0_1 true)] 
def qmz (v1_0:tSch):St:=stq 85 [(1,AV.addr 1 [])] [(1,Root.mk yS Mk.no v1_0 true)] 
theorem qbgl (D:DX)(n:Nat) (m:Nat) (K:Ex→St→Option (Out ctx 82)) (x0:qk) (x1:Int) (x2:Int) (x3:tSch) :
 LQ qc D n 82 [.r,.l,.r,.l] (m+1) (qii x0 x1 x2 x3) K=qwb D n (fun x0 x1 x2 x3=>LQ qc D n 82 [.r,.l,.r,.l] m (qii x0 x1 x2 x3) K) (fun v0_0 v0_1=>K (Ex.ret) (qnf v0_0 v0_1)) (fun v1_0=>K (Ex.exit 0) (qni v1_0)) x0 x1 x2 x3:=by kernel_rfl
theorem q4d (D:DX)(n:Nat) (K:Ex→St→Option (Out ctx 82)):∀ (m:Nat) (x0:qk) (x1:Int) (x2:Int) (x3:tSch),LQ qc D n 82 [.r,.l,.r,.l] m (qii x0 x1 x2 x3) K=qia D n (fun v0_0 v0_1=>K (Ex.ret) (qnf v0_0 v0_1)) (fun v1_0=>K (Ex.exit 0) (qni v1_0)) m x0 x1 x2 x3
 | 0,x0,x1,x2,x3=>qy ..
 | m+1,x0,x1,x2,x3=>by
  have ih:(fun x0 x1 x2 x3=>LQ qc D n 82 [.r,.l,.r,.l] m (qii x0 x1 x2 x3) K)=qia D n (fun v0_0 v0_1=>K (Ex.ret) (qnf v0_0 v0_1)) (fun v1_0=>K (Ex.exit 0) (qni v1_0)) m:=by funext x0 x1 x2 x3;exact q4d D n K m x0 x1 x2 x3
  rw[qbgl]
  rw[ih];rfl
theorem qbf8 (D:DX)(n:Nat) (m:Nat) (K:Ex→St→Option (Out ctx 82)) (x1_0:tIxs) (x1_1:Int) (x1_2:Int) (x1_3:tSch) :
 LQ qc D n 82 [.r,.r,.l,.r,.l] (m+1) (qif x1_0 x1_1 x1_2 x1_3) K=qv9 D n (fun x1_0 x1_1 x1_2 x1_3=>LQ qc D n 82 [.r,.r,.l,.r,.l] m (qif x1_0 x1_1 x1_2 x1_3) K) (fun v0_0 v0_1=>K (Ex.ret) (qm7 v0_0 v0_1)) (fun v1_0=>K (Ex.exit 2) (qmz v1_0)) x1_0 x1_1 x1_2 x1_3:=by kernel_rfl
theorem q36 (D:DX)(n:Nat) (K:Ex→St→Option (Out ctx 82)):∀ (m:Nat) (x1_0:tIxs) (x1_1:Int) (x1_2:Int) (x1_3:tSch),LQ qc D n 82 [.r,.r,.l,.r,.l] m (qif x1_0 x1_1 x1_2 x1_3) K=qib D n (fun v0_0 v0_1=>K (Ex.ret) (qm7 v0_0 v0_1)) (fun v1_0=>K (Ex.exit 2) (qmz v1_0)) m x1_0 x1_1 x1_2 x1_3
 | 0,x1_0,x1_1,x1_2,x1_3=>qy ..
 | m+1,x1_0,x1_1,x1_2,x1_3=>by
  have ih:(fun x1_0 x1_1 x1_2 x1_3=>LQ qc D n 82 [.r,.r,.l,.r,.l] m (qif x1_0 x1_1 x1_2 x1_3) K)=qib D n (fun v0_0 v0_1=>K (Ex.ret) (qm7 v0_0 v0_1)) (fun v1_0=>K (Ex.exit 2) (qmz v1_0)) m:=by funext x1_0 x1_1 x1_2 x1_3;exact q36 D n K m x1_0 x1_1 x1_2 x1_3
  rw[qbf8]
  rw[ih];rfl
theorem qbdf (D:DX)(n:Nat) (v0_0:Bool) (v0_1:tSch) :
 (CQ qc D n 82 [] [.r,.r,.l,.r,.l] (qh qc 82)) (Ex.ret) (qm7 v0_0 v0_1)=q2i D n v0_0 v0_1:=by kernel_rfl
theorem qbdm (D:DX)(n:Nat) (v1_0:tSch) :
 (CQ qc D n 82 [] [.r,.r,.l,.r,.l] (qh qc 82)) (Ex.exit 2) (qmz v1_0)=qs8 D n v1_0:=by kernel_rfl
theorem qbee (D:DX)(n:Nat) (x1_0:tIxs) (x1_1:Int) (x1_2:Int) (x1_3:tSch) :
 LQ qc D n 82 [.r,.r,.l,.r,.l] n (qif x1_0 x1_1 x1_2 x1_3) (CQ qc D n 82 [] [.r,.r,.l,.r,.l] (qh qc 82))=quu D n x1_0 x1_1 x1_2 x1_3:=by
 rw[q36]
 simp only[qbdf,qbdm]
 rfl
theorem qbdh (D:DX)(n:Nat) (v0_0:Bool) (v0_1:tSch) :
 (CQ qc D n 82 [] [.r,.l,.r,.l] (qh qc 82)) (Ex.ret) (qnf v0_0 v0_1)=q2w D n v0_0 v0_1:=by kernel_rfl
theorem qbdz (D:DX)(n:Nat) (v1_0:tSch) :
 (CQ qc D n 82 [] [.r,.l,.r,.l] (qh qc 82)) (Ex.exit 0) (qni v1_0)=qsv D n (fun x1_0 x1_1 x1_2 x1_3=>LQ qc D n 82 [.r,.r,.l,.r,.l] n (qif x1_0 x1_1 x1_2 x1_3) (CQ qc D n 82 [] [.r,.r,.l,.r,.l] (qh qc 82))) v1_0:=by kernel_rfl
theorem qbds (D:DX)(n:Nat) (x0:qk) (x1:Int) (x2:Int) (x3:tSch) :
 LQ qc D n 82 [.r,.l,.r,.l] n (qii x0 x1 x2 x3) (CQ qc D n 82 [] [.r,.l,.r,.l] (qh qc 82))=qu3 D n x0 x1 x2 x3:=by
 rw[q4d]
 simp only[qbdh,qbdz,qbee]
 rfl
theorem qbjt (D:DX)(n:Nat) (a0:tSch):rfC qc D n 82 (a0,())=qyz D n a0:=by
 have h:rfC qc D n 82 (a0,())=qzk D n (fun x0 x1 x2 x3=>LQ qc D n 82 [.r,.l,.r,.l] n (qii x0 x1 x2 x3) (CQ qc D n 82 [] [.r,.l,.r,.l] (qh qc 82))) a0:=by kernel_rfl
 rw[h]
 simp only[qbds]
 rfl

def qz7 (D:DX)(n:Nat) (a0:(tSch)×qe×Unit):Option ((((tSch)×qe×Unit)×Unit)×Unit):=qi (qt6 D (Prod.fst a0)) fun b↦qi (qvd D (Prod.fst (Prod.snd a0))) fun b_1↦some ((((Prod.fst (Prod.fst (Prod.fst b)),Prod.fst (Prod.snd (Prod.fst (Prod.fst b))),Prod.fst (Prod.snd (Prod.snd (Prod.fst (Prod.fst b)))),()),Prod.fst (Prod.fst b_1),()),()),())
def qqu (D:DX)(n:Nat) (a0:(tSch)×qe×Unit):Option ((((tSch)×qe×Unit)×Unit)×Unit):=qz7 D n a0
theorem qbbo (D:DX)(n:Nat) (a0:(tSch)×
 qe×Unit):rfC qc D n 83 (a0,())=qqu D n a0:=by kernel_rfl

def qbch (D:DX)(n:Nat) (a0:(tSch)×qe×Unit) (a1:qd):Option ((Int×Unit)×Unit):=qi (qce D (Prod.fst (Prod.snd a0)) (Clo.mk 153 [CapV.rptr (Ty.pair (Ty.pair (Ty.sl (Ty.pair Ty.str (Ty.pair (Ty.int IntKind.i64) (Ty.pair Ty.bool Ty.unit)))) (Ty.pair (Ty.sl (Ty.int IntKind.i64)) (Ty.pair (Ty.sl (Ty.pair Ty.str (Ty.pair (Ty.sl (Ty.int IntKind.i64)) (Ty.pair Ty.bool Ty.unit)))) Ty.unit))) (Ty.pair (Ty.sl (Ty.sl (Ty.pair (Ty.int IntKind.i64) (Ty.pair (Ty.int IntKind.i64) (Ty.pair Ty.str Ty.unit))))) Ty.unit)) a0,CapV.rptr (Ty.sl (Ty.pair (Ty.int IntKind.i64) (Ty.pair (Ty.int IntKind.i64) (Ty.pair Ty.str Ty.unit)))) a1])) fun b↦some ((Prod.fst (Prod.fst b),()),())
def q56 (D:DX)(n:Nat) (a0:(tSch)×qe×Unit) (a1:qd):Option ((Int×Unit)×Unit):=qbch D n a0 a1
theorem qbr1 (D:DX)(n:Nat) (a0:(tSch)×
 qe×Unit) (a1:qd):rfC qc D n 84 (a0,(a1,()))=q56 D n a0 a1:=by kernel_rfl

def q7b (D:DX)(n:Nat) (a0:qd) (a1:(tSch)×qe×Unit) (a2:qd):Option ((Bool×Unit)×Unit):=qi (qzb D (Prod.fst a1) a2 a0) fun b↦some ((Prod.fst (Prod.fst b),()),())
def qx1 (D:DX)(n:Nat) (a0:qd) (a1:(tSch)×qe×Unit) (a2:qd):Option ((Bool×Unit)×Unit):=q7b D n a0 a1 a2
theorem qbke (D:DX)(n:Nat) (a0:qd) (a1:(tSch)×
 qe×Unit) (a2:qd):rfC qc D n 85 (a0,(a1,(a2,())))=qx1 D n a0 a1 a2:=by kernel_rfl

def qdp (D:DX)(n:Nat) (a1:Clo) (go:qe→Int→Int→Option ((Int×Unit)×Unit)) (K0:Int→Option ((Int×Unit)×Unit)) (K1:Option ((Int×Unit)×Unit)) (x0:qe) (x1:Int) (x2:Int):Option ((Int×Unit)×Unit):=br (decide (x2<x1)) (br (decide (0≤x2)&&decide (x2<(↑(List.length x0):Int))) (qi (qcd ctx D a1 [CapV.val (Ty.sl (Ty.pair (Ty.int IntKind.i64) (Ty.pair (Ty.int IntKind.i64) (Ty.pair Ty.str Ty.unit)))) (List.getD x0 (Int.toNat x2) [])] Ty.bool) fun b↦br b (K0 x2) (go x0 x1 (IntKind.wrap IntKind.i64 (x2+1)))) none) K1
def qbr (D:DX)(n:Nat) (a1:Clo) (K0:Int→Option ((Int×Unit)×Unit)) (K1:Option ((Int×Unit)×Unit)):Nat→(qe)→(Int)→(Int)→Option ((Int×Unit)×Unit) | 0=>(fun x0 x1 x2=>none) | m+1=>(fun x0 x1 x2=>qdp D n a1 (qbr D n a1 K0 K1 m) K0 K1 x0 x1 x2)
def qfo (D:DX)(n:Nat) (a1:Clo) (v0_0:Int):Option ((Int×Unit)×Unit):=some ((v0_0,()),())
def qfp (D:DX)(n:Nat) (a1:Clo):Option ((Int×Unit)×Unit):=some ((-1,()),())
def qdl (D:DX)(n:Nat) (a1:Clo):(qe)→(Int)→(Int)→Option ((Int×Unit)×Unit):=(fun x0 x1 x2=>qbr D n a1 (fun v0_0=>qfo D n a1 v0_0) (qfp D n a1) n x0 x1 x2)
def qdy (D:DX)(n:Nat) (a1:Clo) (lp0:qe→Int→Int→Option ((Int×Unit)×Unit)) (a0:qe):Option ((Int×Unit)×Unit):=lp0 a0 (↑(List.length a0):Int) 0
def qdz (D:DX)(n:Nat) (a0:qe) (a1:Clo):Option ((Int×Unit)×Unit):=qdy D n a1 (qdl D n a1) a0
def qbs (a1:Clo) (x0:qe) (x1:Int) (x2:Int):St:=stq 19 [(0,AV.val (Ty.sl (Ty.sl yV)) x0),(1,AV.cloV a1),(7,avI x1),(8,avI x2)] [] 
def qcm (a1:Clo) (v0_0:Int):St:=stq 19 [(4,avI v0_0)] [] 
def qcn (a1:Clo):St:=stq 19 [] [] 
theorem qoj (D:DX)(n:Nat) (a1:Clo) (m:Nat) (K:Ex→St→Option (Out ctx 86)) (x0:qe) (x1:Int) (x2:Int) :
 LQ qc D n 86 [.r,.l,.r,.l] (m+1) (qbs a1 x0 x1 x2) K=qdp D n a1 (fun x0 x1 x2=>LQ qc D n 86 [.r,.l,.r,.l] m (qbs a1 x0 x1 x2) K) (fun v0_0=>K (Ex.ret) (qcm a1 v0_0)) (K (Ex.exit 0) (qcn a1)) x0 x1 x2:=by kernel_rfl
theorem qgg (D:DX)(n:Nat) (a1:Clo) (K:Ex→St→Option (Out ctx 86)):∀ (m:Nat) (x0:qe) (x1:Int) (x2:Int),LQ qc D n 86 [.r,.l,.r,.l] m (qbs a1 x0 x1 x2) K=qbr D n a1 (fun v0_0=>K (Ex.ret) (qcm a1 v0_0)) (K (Ex.exit 0) (qcn a1)) m x0 x1 x2
 | 0,x0,x1,x2=>qy ..
 | m+1,x0,x1,x2=>by
  have ih:(fun x0 x1 x2=>LQ qc D n 86 [.r,.l,.r,.l] m (qbs a1 x0 x1 x2) K)=qbr D n a1 (fun v0_0=>K (Ex.ret) (qcm a1 v0_0)) (K (Ex.exit 0) (qcn a1)) m:=by funext x0 x1 x2;exact qgg D n a1 K m x0 x1 x2
  rw[qoj]
  rw[ih];rfl
theorem qnx (D:DX)(n:Nat) (a1:Clo) (v0_0:Int) :
 (CQ qc D n 86 [] [.r,.l,.r,.l] (qh qc 86)) (Ex.ret) (qcm a1 v0_0)=qfo D n a1 v0_0:=by kernel_rfl
theorem qn0 (D:DX)(n:Nat) (a1:Clo) :
 (CQ qc D n 86 [] [.r,.l,.r,.l] (qh qc 86)) (Ex.exit 0) (qcn a1)=qfp D n a1:=by kernel_rfl
theorem qnv (D:DX)(n:Nat) (a1:Clo) (x0:qe) (x1:Int) (x2:Int) :
 LQ qc D n 86 [.r,.l,.r,.l] n (qbs a1 x0 x1 x2) (CQ qc D n 86 [] [.r,.l,.r,.l] (qh qc 86))=qdl D n a1 x0 x1 x2:=by
 rw[qgg]
 simp only[qnx,qn0]
 rfl
theorem qpj (D:DX)(n:Nat) (a0:qe) (a1:Clo):rfC qc D n 86 (a0,(a1,()))=qdz D n a0 a1:=by
 have h:rfC qc D n 86 (a0,(a1,()))=qdy D n a1 (fun x0 x1 x2=>LQ qc D n 86 [.r,.l,.r,.l] n (qbs a1 x0 x1 x2) (CQ qc D n 86 [] [.r,.l,.r,.l] (qh qc 86))) a0:=by kernel_rfl
 rw[h]
 simp only[qnv]
 rfl

def q60 (D:DX)(n:Nat) (a0:qd) (a1:qd) (a2:(tSch)×qe×Unit):Option ((Bool×Unit)×Unit):=qi (qgy D (Prod.fst a2) a0) fun b↦qi (qpo D a1 (Prod.fst (Prod.fst b))) fun b↦some ((Prod.fst (Prod.fst b),()),())
def qx3 (D:DX)(n:Nat) (a0:qd) (a1:qd) (a2:(tSch)×qe×Unit):Option ((Bool×Unit)×Unit):=q60 D n a0 a1 a2
theorem qbk2 (D:DX)(n:Nat) (a0:qd) (a1:qd) (a2:(tSch)×
 qe×Unit):rfC qc D n 87 (a0,(a1,(a2,())))=qx3 D n a0 a1 a2:=by kernel_rfl

def qi6 (D:DX)(n:Nat) (a0:qd):Option ((qd×Unit)×Unit):=br (decide (Int.toNat (↑(List.length a0):Int)=0)) (both (some (([],()),())) (br (decide (0+List.length a0≤qbl)) (some (([]++a0,()),())) none)) (br (decide (0+List.length a0≤qbl)) (some (([]++a0,()),())) none)
def qeu (D:DX)(n:Nat) (a0:qd):Option ((qd×Unit)×Unit):=qi6 D n a0
theorem qsm (D:DX)(n:Nat) (a0:qd):rfC qc D n 89 (a0,())=qeu D n a0:=by kernel_rfl

def qyd (D:DX)(n:Nat) (go:qd→List Int→Int→Int→qd→Option ((qd×Unit)×Unit)) (K0:qd→Option ((qd×Unit)×Unit)) (x0:qd) (x1:List Int) (x2:Int) (x3:Int) (x4:qd):Option ((qd×Unit)×Unit):=br (decide (x3<x2)) (br (decide (0≤x3)&&decide (x3<(↑(List.length x1):Int))) (qi (qgq D (List.getD x1 (Int.toNat x3) 0) 0 (IntKind.wrap IntKind.i64 ((↑(List.length x0):Int) - 1))) fun b↦br (Prod.fst (Prod.fst b)) (br (decide (0≤List.getD x1 (Int.toNat x3) 0)&&decide (List.getD x1 (Int.toNat x3) 0<(↑(List.length x0):Int))) (br (decide (List.length x4+1≤qbl)) (go x0 x1 x2 (IntKind.wrap IntKind.i64 (x3+1)) (x4++[List.getD x0 (Int.toNat (List.getD x1 (Int.toNat x3) 0)) (0,0,ByteArray.empty,())])) none) none) (go x0 x1 x2 (IntKind.wrap IntKind.i64 (x3+1)) x4)) none) (K0 x4)
def qjo (D:DX)(n:Nat) (K0:qd→Option ((qd×Unit)×Unit)):Nat→(qd)→(List Int)→(Int)→(Int)→(qd)→Option ((qd×Unit)×Unit) | 0=>(fun x0 x1 x2 x3 x4=>none) | m+1=>(fun x0 x1 x2 x3 x4=>qyd D n (qjo D n K0 m) K0 x0 x1 x2 x3 x4)
def q34 (D:DX)(n:Nat) (v0_0:qd):Option ((qd×Unit)×Unit):=some ((v0_0,()),())
def qwx (D:DX)(n:Nat):(qd)→(List Int)→(Int)→(Int)→(qd)→Option ((qd×Unit)×Unit):=(fun x0 x1 x2 x3 x4=>qjo D n (fun v0_0=>q34 D n v0_0) n x0 x1 x2 x3 x4)
def q0i (D:DX)(n:Nat) (lp0:qd→List Int→Int→Int→qd→Option ((qd×Unit)×Unit)) (a0:qd) (a1:List Int):Option ((qd×Unit)×Unit):=lp0 a0 a1 (↑(List.length a1):Int) 0 []
def q03 (D:DX)(n:Nat) (a0:qd) (a1:List Int):Option ((qd×Unit)×Unit):=q0i D n (qwx D n) a0 a1
def qjf (x0:qd) (x1:List Int) (x2:Int) (x3:Int) (x4:qd):St:=stq 29 [(0,AV.val (Ty.sl yV) x0),(5,AV.brw 5 [] 0),(9,AV.val (Ty.sl yI) x1),(10,avI x2),(11,avI x3)] [(5,Root.mk (Ty.sl yV) (Mk.own 0 (Mk.pr Mk.no (Mk.pr Mk.no (Mk.pr Mk.no Mk.no)))) x4 false)] 
def qn4 (v0_0:qd):St:=stq 29 [(5,AV.brw 5 [] 0)] [(5,Root.mk (Ty.sl yV) (Mk.own 0 (Mk.pr Mk.no (Mk.pr Mk.no (Mk.pr Mk.no Mk.no)))) v0_0 false)] 
theorem qbhr (D:DX)(n:Nat) (m:Nat) (K:Ex→St→Option (Out ctx 94)) (x0:qd) (x1:List Int) (x2:Int) (x3:Int) (x4:qd) :
 LQ qc D n 94 [.r,.r,.l,.r,.l] (m+1) (qjf x0 x1 x2 x3 x4) K=qyd D n (fun x0 x1 x2 x3 x4=>LQ qc D n 94 [.r,.r,.l,.r,.l] m (qjf x0 x1 x2 x3 x4) K) (fun v0_0=>K (Ex.exit 0) (qn4 v0_0)) x0 x1 x2 x3 x4:=by kernel_rfl
theorem q5s (D:DX)(n:Nat) (K:Ex→St→Option (Out ctx 94)):∀ (m:Nat) (x0:qd) (x1:List Int) (x2:Int) (x3:Int) (x4:qd),LQ qc D n 94 [.r,.r,.l,.r,.l] m (qjf x0 x1 x2 x3 x4) K=qjo D n (fun v0_0=>K (Ex.exit 0) (qn4 v0_0)) m x0 x1 x2 x3 x4
 | 0,x0,x1,x2,x3,x4=>qy ..
 | m+1,x0,x1,x2,x3,x4=>by
  have ih:(fun x0 x1 x2 x3 x4=>LQ qc D n 94 [.r,.r,.l,.r,.l] m (qjf x0 x1 x2 x3 x4) K)=qjo D n (fun v0_0=>K (Ex.exit 0) (qn4 v0_0)) m:=by funext x0 x1 x2 x3 x4;exact q5s D n K m x0 x1 x2 x3 x4
  rw[qbhr]
  rw[ih];rfl
theorem qbe0 (D:DX)(n:Nat) (v0_0:qd) :
 (CQ qc D n 94 [] [.r,.r,.l,.r,.l] (qh qc 94)) (Ex.exit 0) (qn4 v0_0)=q34 D n v0_0:=by kernel_rfl
theorem qbf1 (D:DX)(n:Nat) (x0:qd) (x1:List Int) (x2:Int) (x3:Int) (x4:qd) :
 LQ qc D n 94 [.r,.r,.l,.r,.l] n (qjf x0 x1 x2 x3 x4) (CQ qc D n 94 [] [.r,.r,.l,.r,.l] (qh qc 94))=qwx D n x0 x1 x2 x3 x4:=by
 rw[q5s]
 simp only[qbe0]
 rfl
theorem qbnm (D:DX)(n:Nat) (a0:qd) (a1:List Int):rfC qc D n 94 (a0,(a1,()))=q03 D n a0 a1:=by
 have h:rfC qc D n 94 (a0,(a1,()))=q0i D n (fun x0 x1 x2 x3 x4=>LQ qc D n 94 [.r,.r,.l,.r,.l] n (qjf x0 x1 x2 x3 x4) (CQ qc D n 94 [] [.r,.r,.l,.r,.l] (qh qc 94))) a0 a1:=by kernel_rfl
 rw[h]
 simp only[qbf1]
 rfl

def q8n (D:DX)(n:Nat) (a0:(tSch)×qe×Unit):Option ((((tSch)×qe×Unit)×Unit)×Unit):=qi (q1y D (Prod.fst a0)) fun b↦qi (qof D (Prod.fst (Prod.snd a0))) fun b_1↦some ((((Prod.fst (Prod.fst (Prod.fst b)),Prod.fst (Prod.snd (Prod.fst (Prod.fst b))),Prod.fst (Prod.snd (Prod.snd (Prod.fst (Prod.fst b)))),()),Prod.fst (Prod.fst b_1),()),()),())
def q00 (D:DX)(n:Nat) (a0:(tSch)×qe×Unit):Option ((((tSch)×qe×Unit)×Unit)×Unit):=q8n D n a0
theorem qbmi (D:DX)(n:Nat) (a0:(tSch)×
 qe×Unit):rfC qc D n 99 (a0,())=q00 D n a0:=by kernel_rfl

def q3c (D:DX)(n:Nat) (go:qd→Int→tSch→Option ((Bool×Unit)×Unit)) (K0:Bool→Option ((Bool×Unit)×Unit)) (K1:Option ((Bool×Unit)×Unit)) (x0:qd) (x1:Int) (x2:tSch):Option ((Bool×Unit)×Unit):=br (decide (x1<(↑(List.length x0):Int))) (br (decide (0≤x1)&&decide (x1<(↑(List.length x0):Int))) (qi (q0k D (List.getD x0 (Int.toNat x1) (0,0,ByteArray.empty,()))) fun b↦br (!Prod.fst (Prod.fst b)) (K0 false) (br (decide (0≤x1)&&decide (x1<(↑(List.length x0):Int))) (br (decide (0≤x1)&&decide (x1<(↑(List.length (Prod.fst x2)):Int))) (br (Prod.fst (List.getD x0 (Int.toNat x1) (0,0,ByteArray.empty,())) != Prod.fst (Prod.snd (List.getD (Prod.fst x2) (Int.toNat x1) (ByteArray.empty,0,false,())))) (br (decide (0≤x1)&&decide (x1<(↑(List.length (Prod.fst x2)):Int))) (br (Prod.fst (Prod.snd (Prod.snd (List.getD (Prod.fst x2) (Int.toNat x1) (ByteArray.empty,0,false,()))))) (br (decide (0≤x1)&&decide (x1<(↑(List.length x0):Int))) (br (!decide (Prod.fst (List.getD x0 (Int.toNat x1) (0,0,ByteArray.empty,()))=0)) (K0 false) (go x0 (IntKind.wrap IntKind.i64 (x1+1)) x2)) none) (K0 false)) none) (go x0 (IntKind.wrap IntKind.i64 (x1+1)) x2)) none) none)) none) K1
def qlz (D:DX)(n:Nat) (K0:Bool→Option ((Bool×Unit)×Unit)) (K1:Option ((Bool×Unit)×Unit)):Nat→(qd)→(Int)→(tSch)→Option ((Bool×Unit)×Unit) | 0=>(fun x0 x1 x2=>none) | m+1=>(fun x0 x1 x2=>q3c D n (qlz D n K0 K1 m) K0 K1 x0 x1 x2)
def q7k (D:DX)(n:Nat) (v0_0:Bool):Option ((Bool×Unit)×Unit):=some ((v0_0,()),())
def q7m (D:DX)(n:Nat):Option ((Bool×Unit)×Unit):=some ((true,()),())
def q0n (D:DX)(n:Nat):(qd)→(Int)→(tSch)→Option ((Bool×Unit)×Unit):=(fun x0 x1 x2=>qlz D n (fun v0_0=>q7k D n v0_0) (q7m D n) n x0 x1 x2)
def q6c (D:DX)(n:Nat) (lp0:qd→Int→tSch→Option ((Bool×Unit)×Unit)) (a0:tSch) (a1:qd):Option ((Bool×Unit)×Unit):=qi (qrl D a0) fun b↦br (bif !Prod.fst (Prod.fst b) then true else (↑(List.length a1):Int) != (↑(List.length (Prod.fst a0)):Int)) (some ((false,()),())) (lp0 a1 0 a0)
def q5p (D:DX)(n:Nat) (a0:tSch) (a1:qd):Option ((Bool×Unit)×Unit):=q6c D n (q0n D n) a0 a1
def qlu (x0:qd) (x1:Int) (x2:tSch):St:=stq 60 [(1,AV.val (Ty.sl yV) x0),(2,AV.addr 2 []),(5,avI x1)] [(2,Root.mk yS Mk.no x2 true)] 
def qq7 (v0_0:Bool):St:=stq 60 [(4,AV.val Ty.bool v0_0)] [] 
def qra:St:=stq 60 [] [] 
theorem qbml (D:DX)(n:Nat) (m:Nat) (K:Ex→St→Option (Out ctx 100)) (x0:qd) (x1:Int) (x2:tSch) :
 LQ qc D n 100 [.r,.r,.l,.r,.l] (m+1) (qlu x0 x1 x2) K=q3c D n (fun x0 x1 x2=>LQ qc D n 100 [.r,.r,.l,.r,.l] m (qlu x0 x1 x2) K) (fun v0_0=>K (Ex.ret) (qq7 v0_0)) (K (Ex.exit 0) (qra)) x0 x1 x2:=by kernel_rfl
theorem q76 (D:DX)(n:Nat) (K:Ex→St→Option (Out ctx 100)):∀ (m:Nat) (x0:qd) (x1:Int) (x2:tSch),LQ qc D n 100 [.r,.r,.l,.r,.l] m (qlu x0 x1 x2) K=qlz D n (fun v0_0=>K (Ex.ret) (qq7 v0_0)) (K (Ex.exit 0) (qra)) m x0 x1 x2
 | 0,x0,x1,x2=>qy ..
 | m+1,x0,x1,x2=>by
  have ih:(fun x0 x1 x2=>LQ qc D n 100 [.r,.r,.l,.r,.l] m (qlu x0 x1 x2) K)=qlz D n (fun v0_0=>K (Ex.ret) (qq7 v0_0)) (K (Ex.exit 0) (qra)) m:=by funext x0 x1 x2;exact q76 D n K m x0 x1 x2
  rw[qbml]
  rw[ih];rfl
theorem qbmc (D:DX)(n:Nat) (v0_0:Bool) :
 (CQ qc D n 100 [] [.r,.r,.l,.r,.l] (qh qc 100)) (Ex.ret) (qq7 v0_0)=q7k D n v0_0:=by kernel_rfl
theorem qbjg (D:DX)(n:Nat) :
 (CQ qc D n 100 [] [.r,.r,.l,.r,.l] (qh qc 100)) (Ex.exit 0) (qra)=q7m D n:=by kernel_rfl
theorem qbll (D:DX)(n:Nat) (x0:qd) (x1:Int) (x2:tSch) :
 LQ qc D n 100 [.r,.r,.l,.r,.l] n (qlu x0 x1 x2) (CQ qc D n 100 [] [.r,.r,.l,.r,.l] (qh qc 100))=q0n D n x0 x1 x2:=by
 rw[q76]
 simp only[qbmc,qbjg]
 rfl
theorem qbqc (D:DX)(n:Nat) (a0:tSch) (a1:qd):rfC qc D n 100 (a0,(a1,()))=q5p D n a0 a1:=by
 have h:rfC qc D n 100 (a0,(a1,()))=q6c D n (fun x0 x1 x2=>LQ qc D n 100 [.r,.r,.l,.r,.l] n (qlu x0 x1 x2) (CQ qc D n 100 [] [.r,.r,.l,.r,.l] (qh qc 100))) a0 a1:=by kernel_rfl
 rw[h]
 simp only[qbll]
 rfl

def q28 (D:DX)(n:Nat) (go:qd→Int→(tSch)×qe×Unit→Option ((Int×Unit)×Unit)) (K0:Int→Option ((Int×Unit)×Unit)) (K1:Option ((Int×Unit)×Unit)) (x0:qd) (x1:Int) (x2:(tSch)×qe×Unit):Option ((Int×Unit)×Unit):=br (decide (x1<(↑(List.length (Prod.fst (Prod.snd x2))):Int))) (br (decide (0≤x1)&&decide (x1<(↑(List.length (Prod.fst (Prod.snd x2))):Int))) (qi (qe5 D (Prod.fst x2) (List.getD (Prod.fst (Prod.snd x2)) (Int.toNat x1) [])) fun b↦qi (qtc D (Prod.fst (Prod.fst b)) x0) fun b↦br (Prod.fst (Prod.fst b)) (K0 x1) (go x0 (IntKind.wrap IntKind.i64 (x1+1)) x2)) none) K1
def ql1 (D:DX)(n:Nat) (K0:Int→Option ((Int×Unit)×Unit)) (K1:Option ((Int×Unit)×Unit)):Nat→(qd)→(Int)→((tSch)×qe×Unit)→Option ((Int×Unit)×Unit) | 0=>(fun x0 x1 x2=>none) | m+1=>(fun x0 x1 x2=>q28 D n (ql1 D n K0 K1 m) K0 K1 x0 x1 x2)
def q7e (D:DX)(n:Nat) (v0_0:Int):Option ((Int×Unit)×Unit):=some ((v0_0,()),())
def q7r (D:DX)(n:Nat):Option ((Int×Unit)×Unit):=some ((-1,()),())
def q1q (D:DX)(n:Nat):(qd)→(Int)→((tSch)×qe×Unit)→Option ((Int×Unit)×Unit):=(fun x0 x1 x2=>ql1 D n (fun v0_0=>q7e D n v0_0) (q7r D n) n x0 x1 x2)
def q6r (D:DX)(n:Nat) (lp0:qd→Int→(tSch)×qe×Unit→Option ((Int×Unit)×Unit)) (a0:(tSch)×qe×Unit) (a1:qd):Option ((Int×Unit)×Unit):=lp0 a1 0 a0
def q51 (D:DX)(n:Nat) (a0:(tSch)×qe×Unit) (a1:qd):Option ((Int×Unit)×Unit):=q6r D n (q1q D n) a0 a1
def qly (x0:qd) (x1:Int) (x2:(tSch)×qe×Unit):St:=stq 24 [(1,AV.val (Ty.sl yV) x0),(2,AV.addr 2 []),(5,avI x1)] [(2,Root.mk (Ty.pair yS (Ty.pair (Ty.sl (Ty.sl yV)) Ty.unit)) Mk.no x2 true)] 
def qrh (v0_0:Int):St:=stq 24 [(4,avI v0_0)] [] 
def qq8:St:=stq 24 [] [] 
theorem qbmp (D:DX)(n:Nat) (m:Nat) (K:Ex→St→Option (Out ctx 101)) (x0:qd) (x1:Int) (x2:(tSch)×
 qe×Unit) :
 LQ qc D n 101 [.r,.l,.r,.l] (m+1) (qly x0 x1 x2) K=q28 D n (fun x0 x1 x2=>LQ qc D n 101 [.r,.l,.r,.l] m (qly x0 x1 x2) K) (fun v0_0=>K (Ex.ret) (qrh v0_0)) (K (Ex.exit 0) (qq8)) x0 x1 x2:=by kernel_rfl
theorem q8t (D:DX)(n:Nat) (K:Ex→St→Option (Out ctx 101)):∀ (m:Nat) (x0:qd) (x1:Int) (x2:(tSch)×
 qe×Unit),LQ qc D n 101 [.r,.l,.r,.l] m (qly x0 x1 x2) K=ql1 D n (fun v0_0=>K (Ex.ret) (qrh v0_0)) (K (Ex.exit 0) (qq8)) m x0 x1 x2
 | 0,x0,x1,x2=>qy ..
 | m+1,x0,x1,x2=>by
  have ih:(fun x0 x1 x2=>LQ qc D n 101 [.r,.l,.r,.l] m (qly x0 x1 x2) K)=ql1 D n (fun v0_0=>K (Ex.ret) (qrh v0_0)) (K (Ex.exit 0) (qq8)) m:=by funext x0 x1 x2;exact q8t D n K m x0 x1 x2
  rw[qbmp]
  rw[ih];rfl
theorem qbjr (D:DX)(n:Nat) (v0_0:Int) :
 (CQ qc D n 101 [] [.r,.l,.r,.l] (qh qc 101)) (Ex.ret) (qrh v0_0)=q7e D n v0_0:=by kernel_rfl
theorem qbk4 (D:DX)(n:Nat) :
 (CQ qc D n 101 [] [.r,.l,.r,.l] (qh qc 101)) (Ex.exit 0) (qq8)=q7r D n:=by kernel_rfl
theorem qbi0 (D:DX)(n:Nat) (x0:qd) (x1:Int) (x2:(tSch)×
 qe×Unit) :
 LQ qc D n 101 [.r,.l,.r,.l] n (qly x0 x1 x2) (CQ qc D n 101 [] [.r,.l,.r,.l] (qh qc 101))=q1q D n x0 x1 x2:=by
 rw[q8t]
 simp only[qbjr,qbk4]
 rfl
theorem qbrb (D:DX)(n:Nat) (a0:(tSch)×
 qe×Unit) (a1:qd):rfC qc D n 101 (a0,(a1,()))=q51 D n a0 a1:=by
 have h:rfC qc D n 101 (a0,(a1,()))=q6r D n (fun x0 x1 x2=>LQ qc D n 101 [.r,.l,.r,.l] n (qly x0 x1 x2) (CQ qc D n 101 [] [.r,.l,.r,.l] (qh qc 101))) a0 a1:=by kernel_rfl
 rw[h]
 simp only[qbi0]
 rfl

def q61 (D:DX)(n:Nat) (a0:tSch) (a1:qd):Option ((qd×Unit)×Unit):=qi (qor D a1 (Prod.fst (Prod.snd a0))) fun b↦some ((Prod.fst (Prod.fst b),()),())
def qyq (D:DX)(n:Nat) (a0:tSch) (a1:qd):Option ((qd×Unit)×Unit):=q61 D n a0 a1
theorem qbi2 (D:DX)(n:Nat) (a0:tSch) (a1:qd):rfC qc D n 102 (a0,(a1,()))=qyq D n a0 a1:=by kernel_rfl

def quv (D:DX)(n:Nat) (go:qd→Int→Int→(tSch)×qe×Unit→Option ((Bool×Unit)×Unit)) (K0:Bool→Option ((Bool×Unit)×Unit)) (K1:Option ((Bool×Unit)×Unit)) (x0:qd) (x1:Int) (x2:Int) (x3:(tSch)×qe×Unit):Option ((Bool×Unit)×Unit):=br (decide (x2<(↑(List.length (Prod.fst (Prod.snd x3))):Int))) (br (x2 != x1) (br (decide (0≤x2)&&decide (x2<(↑(List.length (Prod.fst (Prod.snd x3))):Int))) (qi (qri D (Prod.fst x3) (List.getD (Prod.fst (Prod.snd x3)) (Int.toNat x2) []) x0) fun b↦br (Prod.fst (Prod.fst b)) (K0 true) (go x0 x1 (IntKind.wrap IntKind.i64 (x2+1)) x3)) none) (go x0 x1 (IntKind.wrap IntKind.i64 (x2+1)) x3)) K1
def qhf (D:DX)(n:Nat) (K0:Bool→Option ((Bool×Unit)×Unit)) (K1:Option ((Bool×Unit)×Unit)):Nat→(qd)→(Int)→(Int)→((tSch)×qe×Unit)→Option ((Bool×Unit)×Unit) | 0=>(fun x0 x1 x2 x3=>none) | m+1=>(fun x0 x1 x2 x3=>quv D n (qhf D n K0 K1 m) K0 K1 x0 x1 x2 x3)
def q0e (D:DX)(n:Nat) (v0_0:Bool):Option ((Bool×Unit)×Unit):=some ((v0_0,()),())
def qz0 (D:DX)(n:Nat):Option ((Bool×Unit)×Unit):=some ((false,()),())
def qsp (D:DX)(n:Nat):(qd)→(Int)→(Int)→((tSch)×qe×Unit)→Option ((Bool×Unit)×Unit):=(fun x0 x1 x2 x3=>qhf D n (fun v0_0=>q0e D n v0_0) (qz0 D n) n x0 x1 x2 x3)
def qwv (D:DX)(n:Nat) (lp0:qd→Int→Int→(tSch)×qe×Unit→Option ((Bool×Unit)×Unit)) (a0:(tSch)×qe×Unit) (a1:qd) (a2:Int):Option ((Bool×Unit)×Unit):=lp0 a1 a2 0 a0
def qw9 (D:DX)(n:Nat) (a0:(tSch)×qe×Unit) (a1:qd) (a2:Int):Option ((Bool×Unit)×Unit):=qwv D n (qsp D n) a0 a1 a2
def qg2 (x0:qd) (x1:Int) (x2:Int) (x3:(tSch)×qe×Unit):St:=stq 29 [(1,AV.val (Ty.sl yV) x0),(2,avI x1),(3,AV.addr 3 []),(7,avI x2)] [(3,Root.mk (Ty.pair yS (Ty.pair (Ty.sl (Ty.sl yV)) Ty.unit)) Mk.no x3 true)] 
def qln (v0_0:Bool):St:=stq 29 [(6,AV.val Ty.bool v0_0)] [] 
def qlh:St:=stq 29 [] [] 
theorem qbdp (D:DX)(n:Nat) (m:Nat) (K:Ex→St→Option (Out ctx 103)) (x0:qd) (x1:Int) (x2:Int) (x3:(tSch)×
 qe×Unit) :
 LQ qc D n 103 [.r,.l,.r,.l] (m+1) (qg2 x0 x1 x2 x3) K=quv D n (fun x0 x1 x2 x3=>LQ qc D n 103 [.r,.l,.r,.l] m (qg2 x0 x1 x2 x3) K) (fun v0_0=>K (Ex.ret) (qln v0_0)) (K (Ex.exit 0) (qlh)) x0 x1 x2 x3:=by kernel_rfl
theorem q21 (D:DX)(n:Nat) (K:Ex→St→Option (Out ctx 103)):∀ (m:Nat) (x0:qd) (x1:Int) (x2:Int) (x3:(tSch)×
 qe×Unit),LQ qc D n 103 [.r,.l,.r,.l] m (qg2 x0 x1 x2 x3) K=qhf D n (fun v0_0=>K (Ex.ret) (qln v0_0)) (K (Ex.exit 0) (qlh)) m x0 x1 x2 x3
 | 0,x0,x1,x2,x3=>qy ..
 | m+1,x0,x1,x2,x3=>by
  have ih:(fun x0 x1 x2 x3=>LQ qc D n 103 [.r,.l,.r,.l] m (qg2 x0 x1 x2 x3) K)=qhf D n (fun v0_0=>K (Ex.ret) (qln v0_0)) (K (Ex.exit 0) (qlh)) m:=by funext x0 x1 x2 x3;exact q21 D n K m x0 x1 x2 x3
  rw[qbdp]
  rw[ih];rfl
theorem qbbl (D:DX)(n:Nat) (v0_0:Bool) :
 (CQ qc D n 103 [] [.r,.l,.r,.l] (qh qc 103)) (Ex.ret) (qln v0_0)=q0e D n v0_0:=by kernel_rfl
theorem qbbm (D:DX)(n:Nat) :
 (CQ qc D n 103 [] [.r,.l,.r,.l] (qh qc 103)) (Ex.exit 0) (qlh)=qz0 D n:=by kernel_rfl
theorem qbbv (D:DX)(n:Nat) (x0:qd) (x1:Int) (x2:Int) (x3:(tSch)×
 qe×Unit) :
 LQ qc D n 103 [.r,.l,.r,.l] n (qg2 x0 x1 x2 x3) (CQ qc D n 103 [] [.r,.l,.r,.l] (qh qc 103))=qsp D n x0 x1 x2 x3:=by
 rw[q21]
 simp only[qbbl,qbbm]
 rfl
theorem qbig (D:DX)(n:Nat) (a0:(tSch)×
 qe×Unit) (a1:qd) (a2:Int):rfC qc D n 103 (a0,(a1,(a2,())))=qw9 D n a0 a1 a2:=by
 have h:rfC qc D n 103 (a0,(a1,(a2,())))=qwv D n (fun x0 x1 x2 x3=>LQ qc D n 103 [.r,.l,.r,.l] n (qg2 x0 x1 x2 x3) (CQ qc D n 103 [] [.r,.l,.r,.l] (qh qc 103))) a0 a1 a2:=by kernel_rfl
 rw[h]
 simp only[qbbv]
 rfl

def qus (D:DX)(n:Nat) (go:qd→qd→Int→Option ((Bool×Unit)×Unit)) (K0:qd→qd→Bool→Option ((Bool×Unit)×Unit)) (K1:qd→qd→Option ((Bool×Unit)×Unit)) (x0:qd) (x1:qd) (x2:Int):Option ((Bool×Unit)×Unit):=br (bif decide (x2<(↑(List.length x0):Int)) then decide (x2<(↑(List.length x1):Int)) else false) (br (decide (0≤x2)&&decide (x2<(↑(List.length x0):Int))) (br (decide (0≤x2)&&decide (x2<(↑(List.length x1):Int))) (qi (qpi D (List.getD x0 (Int.toNat x2) (0,0,ByteArray.empty,())) (List.getD x1 (Int.toNat x2) (0,0,ByteArray.empty,()))) fun b↦br (!Prod.fst (Prod.fst b)) (br (decide (0≤x2)&&decide (x2<(↑(List.length x0):Int))) (br (decide (0≤x2)&&decide (x2<(↑(List.length x1):Int))) (qi (qwy D (List.getD x0 (Int.toNat x2) (0,0,ByteArray.empty,())) (List.getD x1 (Int.toNat x2) (0,0,ByteArray.empty,()))) fun b↦K0 x0 x1 (Prod.fst (Prod.fst b))) none) none) (go x0 x1 (IntKind.wrap IntKind.i64 (x2+1)))) none) none) (K1 x0 x1)
def qhd (D:DX)(n:Nat) (K0:qd→qd→Bool→Option ((Bool×Unit)×Unit)) (K1:qd→qd→Option ((Bool×Unit)×Unit)):Nat→(qd)→(qd)→(Int)→Option ((Bool×Unit)×Unit) | 0=>(fun x0 x1 x2=>none) | m+1=>(fun x0 x1 x2=>qus D n (qhd D n K0 K1 m) K0 K1 x0 x1 x2)
def qqs (D:DX)(n:Nat) (v0_0:qd) (v0_1:qd) (v0_2:Bool):Option ((Bool×Unit)×Unit):=some ((v0_2,()),())
def qhv (D:DX)(n:Nat) (v1_0:qd) (v1_1:qd):Option ((Bool×Unit)×Unit):=some ((decide ((↑(List.length v1_0):Int)<(↑(List.length v1_1):Int)),()),())
def qsc (D:DX)(n:Nat):(qd)→(qd)→(Int)→Option ((Bool×Unit)×Unit):=(fun x0 x1 x2=>qhd D n (fun v0_0 v0_1 v0_2=>qqs D n v0_0 v0_1 v0_2) (fun v1_0 v1_1=>qhv D n v1_0 v1_1) n x0 x1 x2)
def qwm (D:DX)(n:Nat) (lp0:qd→qd→Int→Option ((Bool×Unit)×Unit)) (a0:qd) (a1:qd):Option ((Bool×Unit)×Unit):=lp0 a0 a1 0
def qwr (D:DX)(n:Nat) (a0:qd) (a1:qd):Option ((Bool×Unit)×Unit):=qwm D n (qsc D n) a0 a1
def qhh (x0:qd) (x1:qd) (x2:Int):St:=stq 42 [(0,AV.val (Ty.sl yV) x0),(1,AV.val (Ty.sl yV) x1),(5,avI x2)] [] 
def qle (v0_0:qd) (v0_1:qd) (v0_2:Bool):St:=stq 42 [(0,AV.val (Ty.sl yV) v0_0),(1,AV.val (Ty.sl yV) v0_1),(4,AV.val Ty.bool v0_2)] [] 
def qll (v1_0:qd) (v1_1:qd):St:=stq 42 [(0,AV.val (Ty.sl yV) v1_0),(1,AV.val (Ty.sl yV) v1_1)] [] 
theorem qbb4 (D:DX)(n:Nat) (m:Nat) (K:Ex→St→Option (Out ctx 104)) (x0:qd) (x1:qd) (x2:Int) :
 LQ qc D n 104 [.r,.l,.r,.l] (m+1) (qhh x0 x1 x2) K=qus D n (fun x0 x1 x2=>LQ qc D n 104 [.r,.l,.r,.l] m (qhh x0 x1 x2) K) (fun v0_0 v0_1 v0_2=>K (Ex.ret) (qle v0_0 v0_1 v0_2)) (fun v1_0 v1_1=>K (Ex.exit 0) (qll v1_0 v1_1)) x0 x1 x2:=by kernel_rfl
theorem q2s (D:DX)(n:Nat) (K:Ex→St→Option (Out ctx 104)):∀ (m:Nat) (x0:qd) (x1:qd) (x2:Int),LQ qc D n 104 [.r,.l,.r,.l] m (qhh x0 x1 x2) K=qhd D n (fun v0_0 v0_1 v0_2=>K (Ex.ret) (qle v0_0 v0_1 v0_2)) (fun v1_0 v1_1=>K (Ex.exit 0) (qll v1_0 v1_1)) m x0 x1 x2
 | 0,x0,x1,x2=>qy ..
 | m+1,x0,x1,x2=>by
  have ih:(fun x0 x1 x2=>LQ qc D n 104 [.r,.l,.r,.l] m (qhh x0 x1 x2) K)=qhd D n (fun v0_0 v0_1 v0_2=>K (Ex.ret) (qle v0_0 v0_1 v0_2)) (fun v1_0 v1_1=>K (Ex.exit 0) (qll v1_0 v1_1)) m:=by funext x0 x1 x2;exact q2s D n K m x0 x1 x2
  rw[qbb4]
  rw[ih];rfl
theorem qbbw (D:DX)(n:Nat) (v0_0:qd) (v0_1:qd) (v0_2:Bool) :
 (CQ qc D n 104 [] [.r,.l,.r,.l] (qh qc 104)) (Ex.ret) (qle v0_0 v0_1 v0_2)=qqs D n v0_0 v0_1 v0_2:=by kernel_rfl
theorem qbbh (D:DX)(n:Nat) (v1_0:qd) (v1_1:qd) :
 (CQ qc D n 104 [] [.r,.l,.r,.l] (qh qc 104)) (Ex.exit 0) (qll v1_0 v1_1)=qhv D n v1_0 v1_1:=by kernel_rfl
theorem qba7 (D:DX)(n:Nat) (x0:qd) (x1:qd) (x2:Int) :
 LQ qc D n 104 [.r,.l,.r,.l] n (qhh x0 x1 x2) (CQ qc D n 104 [] [.r,.l,.r,.l] (qh qc 104))=qsc D n x0 x1 x2:=by
 rw[q2s]
 simp only[qbbw,qbbh]
 rfl
theorem qbix (D:DX)(n:Nat) (a0:qd) (a1:qd):rfC qc D n 104 (a0,(a1,()))=qwr D n a0 a1:=by
 have h:rfC qc D n 104 (a0,(a1,()))=qwm D n (fun x0 x1 x2=>LQ qc D n 104 [.r,.l,.r,.l] n (qhh x0 x1 x2) (CQ qc D n 104 [] [.r,.l,.r,.l] (qh qc 104))) a0 a1:=by kernel_rfl
 rw[h]
 simp only[qba7]
 rfl

def qzu (D:DX)(n:Nat) (go:qe→Int→qe→Option ((qe×Unit)×Unit)) (K0:qe→Option ((qe×Unit)×Unit)) (x0:qe) (x1:Int) (x2:qe):Option ((qe×Unit)×Unit):=br (decide (x1<(↑(List.length x0):Int))) (br (decide (0≤x1)&&decide (x1<(↑(List.length x0):Int))) (br (decide (0+List.length (List.getD x0 (Int.toNat x1) [])≤qbl)) (br (decide (List.length x2+1≤qbl)) (go x0 (IntKind.wrap IntKind.i64 (x1+1)) (x2++[[]++List.getD x0 (Int.toNat x1) []])) none) none) none) (K0 x2)
def qjg (D:DX)(n:Nat) (K0:qe→Option ((qe×Unit)×Unit)):Nat→(qe)→(Int)→(qe)→Option ((qe×Unit)×Unit) | 0=>(fun x0 x1 x2=>none) | m+1=>(fun x0 x1 x2=>qzu D n (qjg D n K0 m) K0 x0 x1 x2)
def q4k (D:DX)(n:Nat) (v0_0:qe):Option ((qe×Unit)×Unit):=some ((v0_0,()),())
def qxa (D:DX)(n:Nat):(qe)→(Int)→(qe)→Option ((qe×Unit)×Unit):=(fun x0 x1 x2=>qjg D n (fun v0_0=>q4k D n v0_0) n x0 x1 x2)
def q0t (D:DX)(n:Nat) (lp0:qe→Int→qe→Option ((qe×Unit)×Unit)) (a0:qe):Option ((qe×Unit)×Unit):=lp0 a0 0 []
def q1z (D:DX)(n:Nat) (a0:qe):Option ((qe×Unit)×Unit):=q0t D n (qxa D n) a0
def qjr (x0:qe) (x1:Int) (x2:qe):St:=stq 22 [(0,AV.val (Ty.sl (Ty.sl yV)) x0),(3,AV.brw 3 [] 0),(4,avI x1)] [(3,Root.mk (Ty.sl (Ty.sl yV)) (Mk.own 0 (Mk.own 0 (Mk.pr Mk.no (Mk.pr Mk.no (Mk.pr Mk.no Mk.no))))) x2 false)] 
def qn9 (v0_0:qe):St:=stq 22 [(3,AV.brw 3 [] 0)] [(3,Root.mk (Ty.sl (Ty.sl yV)) (Mk.own 0 (Mk.own 0 (Mk.pr Mk.no (Mk.pr Mk.no (Mk.pr Mk.no Mk.no))))) v0_0 false)] 
theorem qbhh (D:DX)(n:Nat) (m:Nat) (K:Ex→St→Option (Out ctx 105)) (x0:qe) (x1:Int) (x2:qe) :
 LQ qc D n 105 [.r,.r,.l,.r,.l] (m+1) (qjr x0 x1 x2) K=qzu D n (fun x0 x1 x2=>LQ qc D n 105 [.r,.r,.l,.r,.l] m (qjr x0 x1 x2) K) (fun v0_0=>K (Ex.exit 0) (qn9 v0_0)) x0 x1 x2:=by kernel_rfl
theorem q55 (D:DX)(n:Nat) (K:Ex→St→Option (Out ctx 105)):∀ (m:Nat) (x0:qe) (x1:Int) (x2:qe),LQ qc D n 105 [.r,.r,.l,.r,.l] m (qjr x0 x1 x2) K=qjg D n (fun v0_0=>K (Ex.exit 0) (qn9 v0_0)) m x0 x1 x2
 | 0,x0,x1,x2=>qy ..
 | m+1,x0,x1,x2=>by
  have ih:(fun x0 x1 x2=>LQ qc D n 105 [.r,.r,.l,.r,.l] m (qjr x0 x1 x2) K)=qjg D n (fun v0_0=>K (Ex.exit 0) (qn9 v0_0)) m:=by funext x0 x1 x2;exact q55 D n K m x0 x1 x2
  rw[qbhh]
  rw[ih];rfl
theorem qbf0 (D:DX)(n:Nat) (v0_0:qe) :
 (CQ qc D n 105 [] [.r,.r,.l,.r,.l] (qh qc 105)) (Ex.exit 0) (qn9 v0_0)=q4k D n v0_0:=by kernel_rfl
theorem qbfc (D:DX)(n:Nat) (x0:qe) (x1:Int) (x2:qe) :
 LQ qc D n 105 [.r,.r,.l,.r,.l] n (qjr x0 x1 x2) (CQ qc D n 105 [] [.r,.r,.l,.r,.l] (qh qc 105))=qxa D n x0 x1 x2:=by
 rw[q55]
 simp only[qbf0]
 rfl
theorem qbnf (D:DX)(n:Nat) (a0:qe):rfC qc D n 105 (a0,())=q1z D n a0:=by
 have h:rfC qc D n 105 (a0,())=q0t D n (fun x0 x1 x2=>LQ qc D n 105 [.r,.r,.l,.r,.l] n (qjr x0 x1 x2) (CQ qc D n 105 [] [.r,.r,.l,.r,.l] (qh qc 105))) a0:=by kernel_rfl
 rw[h]
 simp only[qbfc]
 rfl

def qrv (D:DX)(n:Nat) (go:tIxs→Int→Int→tSch→tSch→Option (((tSch)×Unit)×Unit)) (K0:tSch→tSch→Option (((tSch)×Unit)×Unit)) (x0:tIxs) (x1:Int) (x2:Int) (x3:tSch) (x4:tSch):Option (((tSch)×Unit)×Unit):=br (decide (x2<x1)) (br (decide (0≤x2)&&decide (x2<(↑(List.length x0):Int))) (qi (qiy D (Prod.fst (Prod.snd (List.getD x0 (Int.toNat x2) (ByteArray.empty,[],false,()))))) fun b↦br (decide (List.length (Prod.fst (Prod.snd (Prod.snd x4)))+1≤qbl)) (go x0 x1 (IntKind.wrap IntKind.i64 (x2+1)) x3 (Prod.fst x4,Prod.fst (Prod.snd x4),Prod.fst (Prod.snd (Prod.snd x4))++[(Prod.fst (List.getD x0 (Int.toNat x2) (ByteArray.empty,[],false,())),Prod.fst (Prod.fst b),Prod.snd (Prod.snd (List.getD x0 (Int.toNat x2) (ByteArray.empty,[],false,()))))],Prod.snd (Prod.snd (Prod.snd x4)))) none) none) (K0 x3 x4)
def qga (D:DX)(n:Nat) (K0:tSch→tSch→Option (((tSch)×Unit)×Unit)):Nat→(tIxs)→(Int)→(Int)→(tSch)→(tSch)→Option (((tSch)×Unit)×Unit) | 0=>(fun x0 x1 x2 x3 x4=>none) | m+1=>(fun x0 x1 x2 x3 x4=>qrv D n (qga D n K0 m) K0 x0 x1 x2 x3 x4)
def qzc (D:DX)(n:Nat) (v0_0:tSch) (v0_1:tSch):Option (((tSch)×Unit)×Unit):=some (((Prod.fst v0_1,Prod.fst (Prod.snd v0_1),Prod.fst (Prod.snd (Prod.snd v0_1)),()),()),())
def qq2 (D:DX)(n:Nat):(tIxs)→(Int)→(Int)→(tSch)→(tSch)→Option (((tSch)×Unit)×Unit):=(fun x0 x1 x2 x3 x4=>qga D n (fun v0_0 v0_1=>qzc D n v0_0 v0_1) n x0 x1 x2 x3 x4)
def quy (D:DX)(n:Nat) (lp0:tIxs→Int→Int→tSch→tSch→Option (((tSch)×Unit)×Unit)) (a0:tSch):Option (((tSch)×Unit)×Unit):=qi (qfx D (Prod.fst a0)) fun b↦qi (qiy D (Prod.fst (Prod.snd a0))) fun b_1↦lp0 (Prod.fst (Prod.snd (Prod.snd a0))) (↑(List.length (Prod.fst (Prod.snd (Prod.snd a0)))):Int) 0 ([],[],[],()) (Prod.fst (Prod.fst b),Prod.fst (Prod.fst b_1),[],())
def qup (D:DX)(n:Nat) (a0:tSch):Option (((tSch)×Unit)×Unit):=quy D n (qq2 D n) a0
def qgf (x0:tIxs) (x1:Int) (x2:Int) (x3:tSch) (x4:tSch):St:=stq 32 [(2,AV.addr 2 []),(3,AV.addr 3 []),(14,AV.val (Ty.sl yX) x0),(15,avI x1),(16,avI x2)] [(2,Root.mk yS (Mk.pr (Mk.own 0 (Mk.pr Mk.no (Mk.pr Mk.no (Mk.pr Mk.no Mk.no)))) (Mk.pr (Mk.own 0 Mk.no) (Mk.pr (Mk.own 0 (Mk.pr Mk.no (Mk.pr (Mk.own 0 Mk.no) (Mk.pr Mk.no Mk.no)))) Mk.no))) x3 true),(3,Root.mk yS (Mk.pr (Mk.own 0 (Mk.pr Mk.no (Mk.pr Mk.no (Mk.pr Mk.no Mk.no)))) (Mk.pr (Mk.own 0 Mk.no) (Mk.pr (Mk.own 0 (Mk.pr Mk.no (Mk.pr (Mk.own 0 Mk.no) (Mk.pr Mk.no Mk.no)))) Mk.no))) x4 true)] 
def qj9 (v0_0:tSch) (v0_1:tSch):St:=stq 32 [(2,AV.addr 2 []),(3,AV.addr 3 [])] [(2,Root.mk yS (Mk.pr (Mk.own 0 (Mk.pr Mk.no (Mk.pr Mk.no (Mk.pr Mk.no Mk.no)))) (Mk.pr (Mk.own 0 Mk.no) (Mk.pr (Mk.own 0 (Mk.pr Mk.no (Mk.pr (Mk.own 0 Mk.no) (Mk.pr Mk.no Mk.no)))) Mk.no))) v0_0 true),(3,Root.mk yS (Mk.pr (Mk.own 0 (Mk.pr Mk.no (Mk.pr Mk.no (Mk.pr Mk.no Mk.no)))) (Mk.pr (Mk.own 0 Mk.no) (Mk.pr (Mk.own 0 (Mk.pr Mk.no (Mk.pr (Mk.own 0 Mk.no) (Mk.pr Mk.no Mk.no)))) Mk.no))) v0_1 true)] 
theorem qbbg (D:DX)(n:Nat) (m:Nat) (K:Ex→St→Option (Out ctx 107)) (x0:tIxs) (x1:Int) (x2:Int) (x3:tSch) (x4:tSch) :
 LQ qc D n 107 [.r,.r,.l,.r,.l] (m+1) (qgf x0 x1 x2 x3 x4) K=qrv D n (fun x0 x1 x2 x3 x4=>LQ qc D n 107 [.r,.r,.l,.r,.l] m (qgf x0 x1 x2 x3 x4) K) (fun v0_0 v0_1=>K (Ex.exit 0) (qj9 v0_0 v0_1)) x0 x1 x2 x3 x4:=by kernel_rfl
theorem qz3 (D:DX)(n:Nat) (K:Ex→St→Option (Out ctx 107)):∀ (m:Nat) (x0:tIxs) (x1:Int) (x2:Int) (x3:tSch) (x4:tSch),LQ qc D n 107 [.r,.r,.l,.r,.l] m (qgf x0 x1 x2 x3 x4) K=qga D n (fun v0_0 v0_1=>K (Ex.exit 0) (qj9 v0_0 v0_1)) m x0 x1 x2 x3 x4
 | 0,x0,x1,x2,x3,x4=>qy ..
 | m+1,x0,x1,x2,x3,x4=>by
  have ih:(fun x0 x1 x2 x3 x4=>LQ qc D n 107 [.r,.r,.l,.r,.l] m (qgf x0 x1 x2 x3 x4) K)=qga D n (fun v0_0 v0_1=>K (Ex.exit 0) (qj9 v0_0 v0_1)) m:=by funext x0 x1 x2 x3 x4;exact qz3 D n K m x0 x1 x2 x3 x4
  rw[qbbg]
  rw[ih];rfl
theorem qbag (D:DX)(n:Nat) (v0_0:tSch) (v0_1:tSch) :
 (CQ qc D n 107 [] [.r,.r,.l,.r,.l] (qh qc 107)) (Ex.exit 0) (qj9 v0_0 v0_1)=qzc D n v0_0 v0_1:=by kernel_rfl
theorem q93 (D:DX)(n:Nat) (x0:tIxs) (x1:Int) (x2:Int) (x3:tSch) (x4:tSch) :
 LQ qc D n 107 [.r,.r,.l,.r,.l] n (qgf x0 x1 x2 x3 x4) (CQ qc D n 107 [] [.r,.r,.l,.r,.l] (qh qc 107))=qq2 D n x0 x1 x2 x3 x4:=by
 rw[qz3]
 simp only[qbag]
 rfl
theorem qbe2 (D:DX)(n:Nat) (a0:tSch):rfC qc D n 107 (a0,())=qup D n a0:=by
 have h:rfC qc D n 107 (a0,())=quy D n (fun x0 x1 x2 x3 x4=>LQ qc D n 107 [.r,.r,.l,.r,.l] n (qgf x0 x1 x2 x3 x4) (CQ qc D n 107 [] [.r,.r,.l,.r,.l] (qh qc 107))) a0:=by kernel_rfl
 rw[h]
 simp only[q93]
 rfl

def qyt (D:DX)(n:Nat) (go:Int→tSch→tSch→tSch→Option (((tSch)×Unit)×Unit)) (K0:tSch→tSch→Option (((tSch)×Unit)×Unit)) (x0:Int) (x1:tSch) (x2:tSch) (x3:tSch):Option (((tSch)×Unit)×Unit):=br (decide (x0<(↑(List.length (Prod.fst (Prod.snd (Prod.snd x1)))):Int))) (br (decide (0≤x0)&&decide (x0<(↑(List.length (Prod.fst (Prod.snd (Prod.snd x1)))):Int))) (br (decide (0+List.length (Prod.fst (Prod.snd (List.getD (Prod.fst (Prod.snd (Prod.snd x1))) (Int.toNat x0) (ByteArray.empty,[],false,()))))≤qbl)) (br (decide (List.length (Prod.fst (Prod.snd (Prod.snd x3)))+1≤qbl)) (go (IntKind.wrap IntKind.i64 (x0+1)) x1 x2 (Prod.fst x3,Prod.fst (Prod.snd x3),Prod.fst (Prod.snd (Prod.snd x3))++[(Prod.fst (List.getD (Prod.fst (Prod.snd (Prod.snd x1))) (Int.toNat x0) (ByteArray.empty,[],false,())),[]++Prod.fst (Prod.snd (List.getD (Prod.fst (Prod.snd (Prod.snd x1))) (Int.toNat x0) (ByteArray.empty,[],false,()))),Prod.fst (Prod.snd (Prod.snd (List.getD (Prod.fst (Prod.snd (Prod.snd x1))) (Int.toNat x0) (ByteArray.empty,[],false,())))),())],Prod.snd (Prod.snd (Prod.snd x3)))) none) none) none) (K0 x2 x3)
def qji (D:DX)(n:Nat) (K0:tSch→tSch→Option (((tSch)×Unit)×Unit)):Nat→(Int)→(tSch)→(tSch)→(tSch)→Option (((tSch)×Unit)×Unit) | 0=>(fun x0 x1 x2 x3=>none) | m+1=>(fun x0 x1 x2 x3=>qyt D n (qji D n K0 m) K0 x0 x1 x2 x3)
def q4x (D:DX)(n:Nat) (v0_0:tSch) (v0_1:tSch):Option (((tSch)×Unit)×Unit):=some (((Prod.fst v0_1,Prod.fst (Prod.snd v0_1),Prod.fst (Prod.snd (Prod.snd v0_1)),()),()),())
def qv6 (D:DX)(n:Nat):(Int)→(tSch)→(tSch)→(tSch)→Option (((tSch)×Unit)×Unit):=(fun x0 x1 x2 x3=>qji D n (fun v0_0 v0_1=>q4x D n v0_0 v0_1) n x0 x1 x2 x3)
def q1f (D:DX)(n:Nat) (lp0:Int→tSch→tSch→tSch→Option (((tSch)×Unit)×Unit)) (a0:tSch):Option (((tSch)×Unit)×Unit):=br (decide (0+List.length (Prod.fst a0)≤qbl)) (br (decide (0+List.length (Prod.fst (Prod.snd a0))≤qbl)) (lp0 0 a0 ([],[],[],()) ([]++Prod.fst a0,[]++Prod.fst (Prod.snd a0),[],())) none) none
def q13 (D:DX)(n:Nat) (a0:tSch):Option (((tSch)×Unit)×Unit):=q1f D n (qv6 D n) a0
def qja (x0:Int) (x1:tSch) (x2:tSch) (x3:tSch):St:=stq 42 [(1,AV.addr 1 []),(2,AV.addr 2 []),(3,AV.addr 3 []),(4,avI x0)] [(1,Root.mk yS Mk.no x1 true),(2,Root.mk yS (Mk.pr (Mk.own 0 (Mk.pr Mk.no (Mk.pr Mk.no (Mk.pr Mk.no Mk.no)))) (Mk.pr (Mk.own 0 Mk.no) (Mk.pr (Mk.own 0 (Mk.pr Mk.no (Mk.pr (Mk.own 0 Mk.no) (Mk.pr Mk.no Mk.no)))) Mk.no))) x2 true),(3,Root.mk yS (Mk.pr (Mk.own 0 (Mk.pr Mk.no (Mk.pr Mk.no (Mk.pr Mk.no Mk.no)))) (Mk.pr (Mk.own 0 Mk.no) (Mk.pr (Mk.own 0 (Mk.pr Mk.no (Mk.pr (Mk.own 0 Mk.no) (Mk.pr Mk.no Mk.no)))) Mk.no))) x3 true)] 
def qn8 (v0_0:tSch) (v0_1:tSch):St:=stq 42 [(2,AV.addr 2 []),(3,AV.addr 3 [])] [(2,Root.mk yS (Mk.pr (Mk.own 0 (Mk.pr Mk.no (Mk.pr Mk.no (Mk.pr Mk.no Mk.no)))) (Mk.pr (Mk.own 0 Mk.no) (Mk.pr (Mk.own 0 (Mk.pr Mk.no (Mk.pr (Mk.own 0 Mk.no) (Mk.pr Mk.no Mk.no)))) Mk.no))) v0_0 true),(3,Root.mk yS (Mk.pr (Mk.own 0 (Mk.pr Mk.no (Mk.pr Mk.no (Mk.pr Mk.no Mk.no)))) (Mk.pr (Mk.own 0 Mk.no) (Mk.pr (Mk.own 0 (Mk.pr Mk.no (Mk.pr (Mk.own 0 Mk.no) (Mk.pr Mk.no Mk.no)))) Mk.no))) v0_1 true)] 
theorem qbhf (D:DX)(n:Nat) (m:Nat) (K:Ex→St→Option (Out ctx 108)) (x0:Int) (x1:tSch) (x2:tSch) (x3:tSch) :
 LQ qc D n 108 [.r,.r,.l,.r,.l] (m+1) (qja x0 x1 x2 x3) K=qyt D n (fun x0 x1 x2 x3=>LQ qc D n 108 [.r,.r,.l,.r,.l] m (qja x0 x1 x2 x3) K) (fun v0_0 v0_1=>K (Ex.exit 0) (qn8 v0_0 v0_1)) x0 x1 x2 x3:=by kernel_rfl
theorem q6k (D:DX)(n:Nat) (K:Ex→St→Option (Out ctx 108)):∀ (m:Nat) (x0:Int) (x1:tSch) (x2:tSch) (x3:tSch),LQ qc D n 108 [.r,.r,.l,.r,.l] m (qja x0 x1 x2 x3) K=qji D n (fun v0_0 v0_1=>K (Ex.exit 0) (qn8 v0_0 v0_1)) m x0 x1 x2 x3
 | 0,x0,x1,x2,x3=>qy ..
 | m+1,x0,x1,x2,x3=>by
  have ih:(fun x0 x1 x2 x3=>LQ qc D n 108 [.r,.r,.l,.r,.l] m (qja x0 x1 x2 x3) K)=qji D n (fun v0_0 v0_1=>K (Ex.exit 0) (qn8 v0_0 v0_1)) m:=by funext x0 x1 x2 x3;exact q6k D n K m x0 x1 x2 x3
  rw[qbhf]
  rw[ih];rfl
theorem qbe6 (D:DX)(n:Nat) (v0_0:tSch) (v0_1:tSch) :
 (CQ qc D n 108 [] [.r,.r,.l,.r,.l] (qh qc 108)) (Ex.exit 0) (qn8 v0_0 v0_1)=q4x D n v0_0 v0_1:=by kernel_rfl
theorem qbgk (D:DX)(n:Nat) (x0:Int) (x1:tSch) (x2:tSch) (x3:tSch) :
 LQ qc D n 108 [.r,.r,.l,.r,.l] n (qja x0 x1 x2 x3) (CQ qc D n 108 [] [.r,.r,.l,.r,.l] (qh qc 108))=qv6 D n x0 x1 x2 x3:=by
 rw[q6k]
 simp only[qbe6]
 rfl
theorem qbnc (D:DX)(n:Nat) (a0:tSch):rfC qc D n 108 (a0,())=q13 D n a0:=by
 have h:rfC qc D n 108 (a0,())=q1f D n (fun x0 x1 x2 x3=>LQ qc D n 108 [.r,.r,.l,.r,.l] n (qja x0 x1 x2 x3) (CQ qc D n 108 [] [.r,.r,.l,.r,.l] (qh qc 108))) a0:=by kernel_rfl
 rw[h]
 simp only[qbgk]
 rfl

def qv5 (D:DX)(n:Nat) (go:qd→qd→Int→tSch→Option ((Bool×Unit)×Unit)) (K0:Bool→Option ((Bool×Unit)×Unit)) (K1:Option ((Bool×Unit)×Unit)) (x0:qd) (x1:qd) (x2:Int) (x3:tSch):Option ((Bool×Unit)×Unit):=br (decide (x2<(↑(List.length (Prod.fst (Prod.snd (Prod.snd x3)))):Int))) (br (decide (0≤x2)&&decide (x2<(↑(List.length (Prod.fst (Prod.snd (Prod.snd x3)))):Int))) (qi (qor D x0 (Prod.fst (Prod.snd (List.getD (Prod.fst (Prod.snd (Prod.snd x3))) (Int.toNat x2) (ByteArray.empty,[],false,()))))) fun b↦qi (qor D x1 (Prod.fst (Prod.snd (List.getD (Prod.fst (Prod.snd (Prod.snd x3))) (Int.toNat x2) (ByteArray.empty,[],false,()))))) fun b_1↦br (Prod.fst (Prod.snd (Prod.snd (List.getD (Prod.fst (Prod.snd (Prod.snd x3))) (Int.toNat x2) (ByteArray.empty,[],false,()))))) (qi (qtc D (Prod.fst (Prod.fst b)) (Prod.fst (Prod.fst b_1))) fun b_2↦br (Prod.fst (Prod.fst b_2)) (qi (q08 D (Prod.fst (Prod.fst b))) fun b↦br (!Prod.fst (Prod.fst b)) (K0 true) (go x0 x1 (IntKind.wrap IntKind.i64 (x2+1)) x3)) (go x0 x1 (IntKind.wrap IntKind.i64 (x2+1)) x3)) (go x0 x1 (IntKind.wrap IntKind.i64 (x2+1)) x3)) none) K1
def qh4 (D:DX)(n:Nat) (K0:Bool→Option ((Bool×Unit)×Unit)) (K1:Option ((Bool×Unit)×Unit)):Nat→(qd)→(qd)→(Int)→(tSch)→Option ((Bool×Unit)×Unit) | 0=>(fun x0 x1 x2 x3=>none) | m+1=>(fun x0 x1 x2 x3=>qv5 D n (qh4 D n K0 K1 m) K0 K1 x0 x1 x2 x3)
def q2e (D:DX)(n:Nat) (v0_0:Bool):Option ((Bool×Unit)×Unit):=some ((v0_0,()),())
def q2m (D:DX)(n:Nat):Option ((Bool×Unit)×Unit):=some ((false,()),())
def qt4 (D:DX)(n:Nat):(qd)→(qd)→(Int)→(tSch)→Option ((Bool×Unit)×Unit):=(fun x0 x1 x2 x3=>qh4 D n (fun v0_0=>q2e D n v0_0) (q2m D n) n x0 x1 x2 x3)
def qy4 (D:DX)(n:Nat) (lp0:qd→qd→Int→tSch→Option ((Bool×Unit)×Unit)) (a0:tSch) (a1:qd) (a2:qd):Option ((Bool×Unit)×Unit):=lp0 a1 a2 0 a0
def qxw (D:DX)(n:Nat) (a0:tSch) (a1:qd) (a2:qd):Option ((Bool×Unit)×Unit):=qy4 D n (qt4 D n) a0 a1 a2
def qiq (x0:qd) (x1:qd) (x2:Int) (x3:tSch):St:=stq 43 [(1,AV.val (Ty.sl yV) x0),(2,AV.val (Ty.sl yV) x1),(3,AV.addr 3 []),(7,avI x2)] [(3,Root.mk yS Mk.no x3 true)] 
def qme (v0_0:Bool):St:=stq 43 [(6,AV.val Ty.bool v0_0)] [] 
def qm3:St:=stq 43 [] [] 
theorem qbfm (D:DX)(n:Nat) (m:Nat) (K:Ex→St→Option (Out ctx 111)) (x0:qd) (x1:qd) (x2:Int) (x3:tSch) :
 LQ qc D n 111 [.r,.l,.r,.l] (m+1) (qiq x0 x1 x2 x3) K=qv5 D n (fun x0 x1 x2 x3=>LQ qc D n 111 [.r,.l,.r,.l] m (qiq x0 x1 x2 x3) K) (fun v0_0=>K (Ex.ret) (qme v0_0)) (K (Ex.exit 0) (qm3)) x0 x1 x2 x3:=by kernel_rfl
theorem q4q (D:DX)(n:Nat) (K:Ex→St→Option (Out ctx 111)):∀ (m:Nat) (x0:qd) (x1:qd) (x2:Int) (x3:tSch),LQ qc D n 111 [.r,.l,.r,.l] m (qiq x0 x1 x2 x3) K=qh4 D n (fun v0_0=>K (Ex.ret) (qme v0_0)) (K (Ex.exit 0) (qm3)) m x0 x1 x2 x3
 | 0,x0,x1,x2,x3=>qy ..
 | m+1,x0,x1,x2,x3=>by
  have ih:(fun x0 x1 x2 x3=>LQ qc D n 111 [.r,.l,.r,.l] m (qiq x0 x1 x2 x3) K)=qh4 D n (fun v0_0=>K (Ex.ret) (qme v0_0)) (K (Ex.exit 0) (qm3)) m:=by funext x0 x1 x2 x3;exact q4q D n K m x0 x1 x2 x3
  rw[qbfm]
  rw[ih];rfl
theorem qbc1 (D:DX)(n:Nat) (v0_0:Bool) :
 (CQ qc D n 111 [] [.r,.l,.r,.l] (qh qc 111)) (Ex.ret) (qme v0_0)=q2e D n v0_0:=by kernel_rfl
theorem qbd8 (D:DX)(n:Nat) :
 (CQ qc D n 111 [] [.r,.l,.r,.l] (qh qc 111)) (Ex.exit 0) (qm3)=q2m D n:=by kernel_rfl
theorem qbd9 (D:DX)(n:Nat) (x0:qd) (x1:qd) (x2:Int) (x3:tSch) :
 LQ qc D n 111 [.r,.l,.r,.l] n (qiq x0 x1 x2 x3) (CQ qc D n 111 [] [.r,.l,.r,.l] (qh qc 111))=qt4 D n x0 x1 x2 x3:=by
 rw[q4q]
 simp only[qbc1,qbd8]
 rfl
theorem qblv (D:DX)(n:Nat) (a0:tSch) (a1:qd) (a2:qd):rfC qc D n 111 (a0,(a1,(a2,())))=qxw D n a0 a1 a2:=by
 have h:rfC qc D n 111 (a0,(a1,(a2,())))=qy4 D n (fun x0 x1 x2 x3=>LQ qc D n 111 [.r,.l,.r,.l] n (qiq x0 x1 x2 x3) (CQ qc D n 111 [] [.r,.l,.r,.l] (qh qc 111))) a0 a1 a2:=by kernel_rfl
 rw[h]
 simp only[qbd9]
 rfl

def qwe (D:DX)(n:Nat) (go:Int→tSch→Option ((Bool×Unit)×Unit)) (K0:Bool→tSch→Option ((Bool×Unit)×Unit)) (K1:tSch→Option ((Bool×Unit)×Unit)) (x0:Int) (x1:tSch):Option ((Bool×Unit)×Unit):=br (decide (x0<(↑(List.length (Prod.fst x1)):Int))) (br (decide (0≤x0)&&decide (x0<(↑(List.length (Prod.fst x1)):Int))) (qi (qpp D (Prod.fst (List.getD (Prod.fst x1) (Int.toNat x0) (ByteArray.empty,0,false,())))) fun b↦br (!Prod.fst (Prod.fst b)) (K0 false x1) (br (decide (0≤x0)&&decide (x0<(↑(List.length (Prod.fst x1)):Int))) (qi (qgp D (Prod.fst (Prod.snd (List.getD (Prod.fst x1) (Int.toNat x0) (ByteArray.empty,0,false,())))) 1 3) fun b↦br (!Prod.fst (Prod.fst b)) (K0 false x1) (br (decide (0≤x0)&&decide (x0<(↑(List.length (Prod.fst x1)):Int))) (qi (q6a D x1 (Prod.fst (List.getD (Prod.fst x1) (Int.toNat x0) (ByteArray.empty,0,false,())))) fun b↦br (Prod.fst (Prod.fst b) != x0) (K0 false x1) (go (IntKind.wrap IntKind.i64 (x0+1)) x1)) none)) none)) none) (K1 x1)
def qiu (D:DX)(n:Nat) (K0:Bool→tSch→Option ((Bool×Unit)×Unit)) (K1:tSch→Option ((Bool×Unit)×Unit)):Nat→(Int)→(tSch)→Option ((Bool×Unit)×Unit) | 0=>(fun x0 x1=>none) | m+1=>(fun x0 x1=>qwe D n (qiu D n K0 K1 m) K0 K1 x0 x1)
def q23 (D:DX)(n:Nat) (v0_0:Bool) (v0_1:tSch):Option ((Bool×Unit)×Unit):=some ((v0_0,()),())
def qws (D:DX)(n:Nat) (go:Int→tSch→Option ((Bool×Unit)×Unit)) (K0:Bool→Option ((Bool×Unit)×Unit)) (K1:Option ((Bool×Unit)×Unit)) (x1_0:Int) (x1_1:tSch):Option ((Bool×Unit)×Unit):=br (decide (x1_0<(↑(List.length (Prod.fst (Prod.snd x1_1))):Int))) (br (decide (0≤x1_0)&&decide (x1_0<(↑(List.length (Prod.fst (Prod.snd x1_1))):Int))) (br (decide (0≤List.getD (Prod.fst (Prod.snd x1_1)) (Int.toNat x1_0) 0)&&decide (List.getD (Prod.fst (Prod.snd x1_1)) (Int.toNat x1_0) 0<(↑(List.length (Prod.fst x1_1)):Int))) (br (Prod.fst (Prod.snd (Prod.snd (List.getD (Prod.fst x1_1) (Int.toNat (List.getD (Prod.fst (Prod.snd x1_1)) (Int.toNat x1_0) 0)) (ByteArray.empty,0,false,()))))) (K0 false) (go (IntKind.wrap IntKind.i64 (x1_0+1)) x1_1)) none) none) K1
def qip (D:DX)(n:Nat) (K0:Bool→Option ((Bool×Unit)×Unit)) (K1:Option ((Bool×Unit)×Unit)):Nat→(Int)→(tSch)→Option ((Bool×Unit)×Unit) | 0=>(fun x1_0 x1_1=>none) | m+1=>(fun x1_0 x1_1=>qws D n (qip D n K0 K1 m) K0 K1 x1_0 x1_1)
def q2k (D:DX)(n:Nat) (v0_0:Bool):Option ((Bool×Unit)×Unit):=some ((v0_0,()),())
def q2q (D:DX)(n:Nat):Option ((Bool×Unit)×Unit):=some ((true,()),())
def qty (D:DX)(n:Nat):(Int)→(tSch)→Option ((Bool×Unit)×Unit):=(fun x1_0 x1_1=>qip D n (fun v0_0=>q2k D n v0_0) (q2q D n) n x1_0 x1_1)
def qsx (D:DX)(n:Nat) (lp1:Int→tSch→Option ((Bool×Unit)×Unit)) (v1_0:tSch):Option ((Bool×Unit)×Unit):=qi (qgp D (↑(List.length (Prod.fst v1_0)):Int) 1 5) fun b↦br (!Prod.fst (Prod.fst b)) (some ((false,()),())) (qi (qox D v1_0 (Prod.fst (Prod.snd v1_0)) 4) fun b↦br (!Prod.fst (Prod.fst b)) (some ((false,()),())) (qi (qur D v1_0) fun b↦br (!Prod.fst (Prod.fst b)) (some ((false,()),())) (lp1 0 v1_0)))
def qve (D:DX)(n:Nat):(Int)→(tSch)→Option ((Bool×Unit)×Unit):=(fun x0 x1=>qiu D n (fun v0_0 v0_1=>q23 D n v0_0 v0_1) (fun v1_0=>qsx D n (qty D n) v1_0) n x0 x1)
def qye (D:DX)(n:Nat) (lp0:Int→tSch→Option ((Bool×Unit)×Unit)) (a0:tSch):Option ((Bool×Unit)×Unit):=lp0 0 a0
def qxs (D:DX)(n:Nat) (a0:tSch):Option ((Bool×Unit)×Unit):=qye D n (qve D n) a0
def qh8 (x0:Int) (x1:tSch):St:=stq 76 [(1,AV.addr 1 []),(3,avI x0)] [(1,Root.mk yS Mk.no x1 true)] 
def qmo (v0_0:Bool) (v0_1:tSch):St:=stq 76 [(1,AV.addr 1 []),(2,AV.val Ty.bool v0_0)] [(1,Root.mk yS Mk.no v0_1 true)] 
def qmw (v1_0:tSch):St:=stq 76 [(1,AV.addr 1 [])] [(1,Root.mk yS Mk.no v1_0 true)] 
def qh3 (x1_0:Int) (x1_1:tSch):St:=stq 76 [(1,AV.addr 1 []),(4,avI x1_0)] [(1,Root.mk yS Mk.no x1_1 true)] 
def qm8 (v0_0:Bool):St:=stq 76 [(2,AV.val Ty.bool v0_0)] [] 
def qm4:St:=stq 76 [] [] 
theorem qbgf (D:DX)(n:Nat) (m:Nat) (K:Ex→St→Option (Out ctx 112)) (x0:Int) (x1:tSch) :
 LQ qc D n 112 [.r,.l,.r,.l] (m+1) (qh8 x0 x1) K=qwe D n (fun x0 x1=>LQ qc D n 112 [.r,.l,.r,.l] m (qh8 x0 x1) K) (fun v0_0 v0_1=>K (Ex.ret) (qmo v0_0 v0_1)) (fun v1_0=>K (Ex.exit 0) (qmw v1_0)) x0 x1:=by kernel_rfl
theorem q4n (D:DX)(n:Nat) (K:Ex→St→Option (Out ctx 112)):∀ (m:Nat) (x0:Int) (x1:tSch),LQ qc D n 112 [.r,.l,.r,.l] m (qh8 x0 x1) K=qiu D n (fun v0_0 v0_1=>K (Ex.ret) (qmo v0_0 v0_1)) (fun v1_0=>K (Ex.exit 0) (qmw v1_0)) m x0 x1
 | 0,x0,x1=>qy ..
 | m+1,x0,x1=>by
  have ih:(fun x0 x1=>LQ qc D n 112 [.r,.l,.r,.l] m (qh8 x0 x1) K)=qiu D n (fun v0_0 v0_1=>K (Ex.ret) (qmo v0_0 v0_1)) (fun v1_0=>K (Ex.exit 0) (qmw v1_0)) m:=by funext x0 x1;exact q4n D n K m x0 x1
  rw[qbgf]
  rw[ih];rfl
theorem qbfv (D:DX)(n:Nat) (m:Nat) (K:Ex→St→Option (Out ctx 112)) (x1_0:Int) (x1_1:tSch) :
 LQ qc D n 112 [.r,.r,.r,.l,.r,.l] (m+1) (qh3 x1_0 x1_1) K=qws D n (fun x1_0 x1_1=>LQ qc D n 112 [.r,.r,.r,.l,.r,.l] m (qh3 x1_0 x1_1) K) (fun v0_0=>K (Ex.ret) (qm8 v0_0)) (K (Ex.exit 2) (qm4)) x1_0 x1_1:=by kernel_rfl
theorem q4h (D:DX)(n:Nat) (K:Ex→St→Option (Out ctx 112)):∀ (m:Nat) (x1_0:Int) (x1_1:tSch),LQ qc D n 112 [.r,.r,.r,.l,.r,.l] m (qh3 x1_0 x1_1) K=qip D n (fun v0_0=>K (Ex.ret) (qm8 v0_0)) (K (Ex.exit 2) (qm4)) m x1_0 x1_1
 | 0,x1_0,x1_1=>qy ..
 | m+1,x1_0,x1_1=>by
  have ih:(fun x1_0 x1_1=>LQ qc D n 112 [.r,.r,.r,.l,.r,.l] m (qh3 x1_0 x1_1) K)=qip D n (fun v0_0=>K (Ex.ret) (qm8 v0_0)) (K (Ex.exit 2) (qm4)) m:=by funext x1_0 x1_1;exact q4h D n K m x1_0 x1_1
  rw[qbfv]
  rw[ih];rfl
theorem qbdd (D:DX)(n:Nat) (v0_0:Bool) :
 (CQ qc D n 112 [] [.r,.r,.r,.l,.r,.l] (qh qc 112)) (Ex.ret) (qm8 v0_0)=q2k D n v0_0:=by kernel_rfl
theorem qbd5 (D:DX)(n:Nat) :
 (CQ qc D n 112 [] [.r,.r,.r,.l,.r,.l] (qh qc 112)) (Ex.exit 2) (qm4)=q2q D n:=by kernel_rfl
theorem qbef (D:DX)(n:Nat) (x1_0:Int) (x1_1:tSch) :
 LQ qc D n 112 [.r,.r,.r,.l,.r,.l] n (qh3 x1_0 x1_1) (CQ qc D n 112 [] [.r,.r,.r,.l,.r,.l] (qh qc 112))=qty D n x1_0 x1_1:=by
 rw[q4h]
 simp only[qbdd,qbd5]
 rfl
theorem qbcz (D:DX)(n:Nat) (v0_0:Bool) (v0_1:tSch) :
 (CQ qc D n 112 [] [.r,.l,.r,.l] (qh qc 112)) (Ex.ret) (qmo v0_0 v0_1)=q23 D n v0_0 v0_1:=by kernel_rfl
theorem qbcq (D:DX)(n:Nat) (v1_0:tSch) :
 (CQ qc D n 112 [] [.r,.l,.r,.l] (qh qc 112)) (Ex.exit 0) (qmw v1_0)=qsx D n (fun x1_0 x1_1=>LQ qc D n 112 [.r,.r,.r,.l,.r,.l] n (qh3 x1_0 x1_1) (CQ qc D n 112 [] [.r,.r,.r,.l,.r,.l] (qh qc 112))) v1_0:=by kernel_rfl
theorem qbed (D:DX)(n:Nat) (x0:Int) (x1:tSch) :
 LQ qc D n 112 [.r,.l,.r,.l] n (qh8 x0 x1) (CQ qc D n 112 [] [.r,.l,.r,.l] (qh qc 112))=qve D n x0 x1:=by
 rw[q4n]
 simp only[qbcz,qbcq,qbef]
 rfl
theorem qblk (D:DX)(n:Nat) (a0:tSch):rfC qc D n 112 (a0,())=qxs D n a0:=by
 have h:rfC qc D n 112 (a0,())=qye D n (fun x0 x1=>LQ qc D n 112 [.r,.l,.r,.l] n (qh8 x0 x1) (CQ qc D n 112 [] [.r,.l,.r,.l] (qh qc 112))) a0:=by kernel_rfl
 rw[h]
 simp only[qbed]
 rfl

def qbgq (D:DX)(n:Nat) (a0:Int) (a1:Int) (a2:Int):Option ((Bool×Unit)×Unit):=some ((bif decide (a0≥a1) then decide (a0≤a2) else false,()),())
def q7y (D:DX)(n:Nat) (a0:Int) (a1:Int) (a2:Int):Option ((Bool×Unit)×Unit):=qbgq D n a0 a1 a2
theorem qbr7 (D:DX)(n:Nat) (a0:Int) (a1:Int) (a2:Int):rfC qc D n 117 (a0,(a1,(a2,())))=q7y D n a0 a1 a2:=by kernel_rfl

def qxr (D:DX)(n:Nat) (go:qd→List Int→Int→qd→Option ((qd×Unit)×Unit)) (K0:qd→Option ((qd×Unit)×Unit)) (x0:qd) (x1:List Int) (x2:Int) (x3:qd):Option ((qd×Unit)×Unit):=br (decide (x2<(↑(List.length x1):Int))) (br (decide (0≤x2)&&decide (x2<(↑(List.length x1):Int))) (qi (qgp D (List.getD x1 (Int.toNat x2) 0) 0 (IntKind.wrap IntKind.i64 ((↑(List.length x0):Int) - 1))) fun b↦br (Prod.fst (Prod.fst b)) (br (decide (0≤x2)&&decide (x2<(↑(List.length x1):Int))) (br (decide (0≤List.getD x1 (Int.toNat x2) 0)&&decide (List.getD x1 (Int.toNat x2) 0<(↑(List.length x0):Int))) (br (decide (List.length x3+1≤qbl)) (go x0 x1 (IntKind.wrap IntKind.i64 (x2+1)) (x3++[List.getD x0 (Int.toNat (List.getD x1 (Int.toNat x2) 0)) (0,0,ByteArray.empty,())])) none) none) none) (go x0 x1 (IntKind.wrap IntKind.i64 (x2+1)) x3)) none) (K0 x3)
def qjk (D:DX)(n:Nat) (K0:qd→Option ((qd×Unit)×Unit)):Nat→(qd)→(List Int)→(Int)→(qd)→Option ((qd×Unit)×Unit) | 0=>(fun x0 x1 x2 x3=>none) | m+1=>(fun x0 x1 x2 x3=>qxr D n (qjk D n K0 m) K0 x0 x1 x2 x3)
def q4e (D:DX)(n:Nat) (v0_0:qd):Option ((qd×Unit)×Unit):=some ((v0_0,()),())
def qwc (D:DX)(n:Nat):(qd)→(List Int)→(Int)→(qd)→Option ((qd×Unit)×Unit):=(fun x0 x1 x2 x3=>qjk D n (fun v0_0=>q4e D n v0_0) n x0 x1 x2 x3)
def q06 (D:DX)(n:Nat) (lp0:qd→List Int→Int→qd→Option ((qd×Unit)×Unit)) (a0:qd) (a1:List Int):Option ((qd×Unit)×Unit):=lp0 a0 a1 0 []
def q0u (D:DX)(n:Nat) (a0:qd) (a1:List Int):Option ((qd×Unit)×Unit):=q06 D n (qwc D n) a0 a1
def qje (x0:qd) (x1:List Int) (x2:Int) (x3:qd):St:=stq 33 [(0,AV.val (Ty.sl yV) x0),(1,AV.val (Ty.sl yI) x1),(5,AV.brw 5 [] 0),(6,avI x2)] [(5,Root.mk (Ty.sl yV) (Mk.own 0 (Mk.pr Mk.no (Mk.pr Mk.no (Mk.pr Mk.no Mk.no)))) x3 false)] 
def qob (v0_0:qd):St:=stq 33 [(5,AV.brw 5 [] 0)] [(5,Root.mk (Ty.sl yV) (Mk.own 0 (Mk.pr Mk.no (Mk.pr Mk.no (Mk.pr Mk.no Mk.no)))) v0_0 false)] 
theorem qbhv (D:DX)(n:Nat) (m:Nat) (K:Ex→St→Option (Out ctx 119)) (x0:qd) (x1:List Int) (x2:Int) (x3:qd) :
 LQ qc D n 119 [.r,.r,.l,.r,.l] (m+1) (qje x0 x1 x2 x3) K=qxr D n (fun x0 x1 x2 x3=>LQ qc D n 119 [.r,.r,.l,.r,.l] m (qje x0 x1 x2 x3) K) (fun v0_0=>K (Ex.exit 0) (qob v0_0)) x0 x1 x2 x3:=by kernel_rfl
theorem q5n (D:DX)(n:Nat) (K:Ex→St→Option (Out ctx 119)):∀ (m:Nat) (x0:qd) (x1:List Int) (x2:Int) (x3:qd),LQ qc D n 119 [.r,.r,.l,.r,.l] m (qje x0 x1 x2 x3) K=qjk D n (fun v0_0=>K (Ex.exit 0) (qob v0_0)) m x0 x1 x2 x3
 | 0,x0,x1,x2,x3=>qy ..
 | m+1,x0,x1,x2,x3=>by
  have ih:(fun x0 x1 x2 x3=>LQ qc D n 119 [.r,.r,.l,.r,.l] m (qje x0 x1 x2 x3) K)=qjk D n (fun v0_0=>K (Ex.exit 0) (qob v0_0)) m:=by funext x0 x1 x2 x3;exact q5n D n K m x0 x1 x2 x3
  rw[qbhv]
  rw[ih];rfl
theorem qbfa (D:DX)(n:Nat) (v0_0:qd) :
 (CQ qc D n 119 [] [.r,.r,.l,.r,.l] (qh qc 119)) (Ex.exit 0) (qob v0_0)=q4e D n v0_0:=by kernel_rfl
theorem qbge (D:DX)(n:Nat) (x0:qd) (x1:List Int) (x2:Int) (x3:qd) :
 LQ qc D n 119 [.r,.r,.l,.r,.l] n (qje x0 x1 x2 x3) (CQ qc D n 119 [] [.r,.r,.l,.r,.l] (qh qc 119))=qwc D n x0 x1 x2 x3:=by
 rw[q5n]
 simp only[qbfa]
 rfl
theorem qbn0 (D:DX)(n:Nat) (a0:qd) (a1:List Int):rfC qc D n 119 (a0,(a1,()))=q0u D n a0 a1:=by
 have h:rfC qc D n 119 (a0,(a1,()))=q06 D n (fun x0 x1 x2 x3=>LQ qc D n 119 [.r,.r,.l,.r,.l] n (qje x0 x1 x2 x3) (CQ qc D n 119 [] [.r,.r,.l,.r,.l] (qh qc 119))) a0 a1:=by kernel_rfl
 rw[h]
 simp only[qbge]
 rfl

def q7f (D:DX)(n:Nat) (a0:tSch) (a1:Int):Option ((Int×Unit)×Unit):=qi (q3f D (Prod.fst a0) a1) fun b↦br (decide (Prod.fst (Prod.fst b)<0)) (some ((-1,()),())) (qi (qvm D (Prod.fst (Prod.snd a0)) (Prod.fst (Prod.fst b))) fun b↦br (decide (Prod.fst (Prod.fst b)<0)) (some ((-1,()),())) (qi (qzd D (Prod.fst (Prod.snd (Prod.snd a0))) (Prod.fst (Prod.fst b))) fun b↦br (decide (Prod.fst (Prod.fst b)<0)) (some ((-1,()),())) (some ((Prod.fst (Prod.fst b),()),()))))
def qys (D:DX)(n:Nat) (a0:tSch) (a1:Int):Option ((Int×Unit)×Unit):=q7f D n a0 a1
theorem qbkv (D:DX)(n:Nat) (a0:tSch) (a1:Int):rfC qc D n 120 (a0,(a1,()))=qys D n a0 a1:=by kernel_rfl

def qu6 (D:DX)(n:Nat) (go:qe→Int→Int→Option ((Int×Unit)×Unit)) (K0:Int→Int→Option ((Int×Unit)×Unit)) (K1:Int→Option ((Int×Unit)×Unit)) (x0:qe) (x1:Int) (x2:Int):Option ((Int×Unit)×Unit):=br (decide (x2<(↑(List.length x0):Int))) (br (decide (0≤x2)&&decide (x2<(↑(List.length x0):Int))) (qi (qmn D (List.getD x0 (Int.toNat x2) []) x1) fun b↦br (decide (Prod.fst (Prod.fst b)<0)) (K0 (Prod.fst (Prod.fst b)) (-1)) (go x0 (Prod.fst (Prod.fst b)) (IntKind.wrap IntKind.i64 (x2+1)))) none) (K1 x1)
def qg0 (D:DX)(n:Nat) (K0:Int→Int→Option ((Int×Unit)×Unit)) (K1:Int→Option ((Int×Unit)×Unit)):Nat→(qe)→(Int)→(Int)→Option ((Int×Unit)×Unit) | 0=>(fun x0 x1 x2=>none) | m+1=>(fun x0 x1 x2=>qu6 D n (qg0 D n K0 K1 m) K0 K1 x0 x1 x2)
def qqv (D:DX)(n:Nat) (v0_0:Int) (v0_1:Int):Option ((Int×Unit)×Unit):=some ((v0_1,()),())
def qqm (D:DX)(n:Nat) (v1_0:Int):Option ((Int×Unit)×Unit):=some ((v1_0,()),())
def qr4 (D:DX)(n:Nat):(qe)→(Int)→(Int)→Option ((Int×Unit)×Unit):=(fun x0 x1 x2=>qg0 D n (fun v0_0 v0_1=>qqv D n v0_0 v0_1) (fun v1_0=>qqm D n v1_0) n x0 x1 x2)
def qwg (D:DX)(n:Nat) (lp0:qe→Int→Int→Option ((Int×Unit)×Unit)) (a0:qe) (a1:Int):Option ((Int×Unit)×Unit):=br (decide (IntKind.wrap IntKind.i64 (a1 - (↑(List.length a0):Int))<0)) (some ((-1,()),())) (lp0 a0 (IntKind.wrap IntKind.i64 (a1 - (↑(List.length a0):Int))) 0)
def qw6 (D:DX)(n:Nat) (a0:qe) (a1:Int):Option ((Int×Unit)×Unit):=qwg D n (qr4 D n) a0 a1
def qhi (x0:qe) (x1:Int) (x2:Int):St:=stq 27 [(0,AV.val (Ty.sl (Ty.sl yV)) x0),(1,avI x1),(5,avI x2)] [] 
def qk4 (v0_0:Int) (v0_1:Int):St:=stq 27 [(1,avI v0_0),(4,avI v0_1)] [] 
def qk2 (v1_0:Int):St:=stq 27 [(1,avI v1_0)] [] 
theorem qbdk (D:DX)(n:Nat) (m:Nat) (K:Ex→St→Option (Out ctx 121)) (x0:qe) (x1:Int) (x2:Int) :
 LQ qc D n 121 [.r,.r,.r,.l,.r,.l] (m+1) (qhi x0 x1 x2) K=qu6 D n (fun x0 x1 x2=>LQ qc D n 121 [.r,.r,.r,.l,.r,.l] m (qhi x0 x1 x2) K) (fun v0_0 v0_1=>K (Ex.ret) (qk4 v0_0 v0_1)) (fun v1_0=>K (Ex.exit 0) (qk2 v1_0)) x0 x1 x2:=by kernel_rfl
theorem q2d (D:DX)(n:Nat) (K:Ex→St→Option (Out ctx 121)):∀ (m:Nat) (x0:qe) (x1:Int) (x2:Int),LQ qc D n 121 [.r,.r,.r,.l,.r,.l] m (qhi x0 x1 x2) K=qg0 D n (fun v0_0 v0_1=>K (Ex.ret) (qk4 v0_0 v0_1)) (fun v1_0=>K (Ex.exit 0) (qk2 v1_0)) m x0 x1 x2
 | 0,x0,x1,x2=>qy ..
 | m+1,x0,x1,x2=>by
  have ih:(fun x0 x1 x2=>LQ qc D n 121 [.r,.r,.r,.l,.r,.l] m (qhi x0 x1 x2) K)=qg0 D n (fun v0_0 v0_1=>K (Ex.ret) (qk4 v0_0 v0_1)) (fun v1_0=>K (Ex.exit 0) (qk2 v1_0)) m:=by funext x0 x1 x2;exact q2d D n K m x0 x1 x2
  rw[qbdk]
  rw[ih];rfl
theorem qbbe (D:DX)(n:Nat) (v0_0:Int) (v0_1:Int) :
 (CQ qc D n 121 [] [.r,.r,.r,.l,.r,.l] (qh qc 121)) (Ex.ret) (qk4 v0_0 v0_1)=qqv D n v0_0 v0_1:=by kernel_rfl
theorem qba8 (D:DX)(n:Nat) (v1_0:Int) :
 (CQ qc D n 121 [] [.r,.r,.r,.l,.r,.l] (qh qc 121)) (Ex.exit 0) (qk2 v1_0)=qqm D n v1_0:=by kernel_rfl
theorem qbbd (D:DX)(n:Nat) (x0:qe) (x1:Int) (x2:Int) :
 LQ qc D n 121 [.r,.r,.r,.l,.r,.l] n (qhi x0 x1 x2) (CQ qc D n 121 [] [.r,.r,.r,.l,.r,.l] (qh qc 121))=qr4 D n x0 x1 x2:=by
 rw[q2d]
 simp only[qbbe,qba8]
 rfl
theorem qbia (D:DX)(n:Nat) (a0:qe) (a1:Int):rfC qc D n 121 (a0,(a1,()))=qw6 D n a0 a1:=by
 have h:rfC qc D n 121 (a0,(a1,()))=qwg D n (fun x0 x1 x2=>LQ qc D n 121 [.r,.r,.r,.l,.r,.l] n (qhi x0 x1 x2) (CQ qc D n 121 [] [.r,.r,.r,.l,.r,.l] (qh qc 121))) a0 a1:=by kernel_rfl
 rw[h]
 simp only[qbbd]
 rfl

def q8f (D:DX)(n:Nat) (a0:Int×Int×ByteArray×Unit) (a1:Int):Option ((Int×Unit)×Unit):=br (decide (IntKind.wrap IntKind.i64 (a1 - (↑(ByteArray.size (Prod.fst (Prod.snd (Prod.snd a0)))):Int))<0)) (some ((-1,()),())) (some ((IntKind.wrap IntKind.i64 (a1 - (↑(ByteArray.size (Prod.fst (Prod.snd (Prod.snd a0)))):Int)),()),()))
def q0v (D:DX)(n:Nat) (a0:Int×Int×ByteArray×Unit) (a1:Int):Option ((Int×Unit)×Unit):=q8f D n a0 a1
theorem qbm3 (D:DX)(n:Nat) (a0:Int×Int×ByteArray×Unit) (a1:Int):rfC qc D n 122 (a0,(a1,()))=q0v D n a0 a1:=by kernel_rfl

def q7p (D:DX)(n:Nat) (a0:tSch):Option (((tSch)×Unit)×Unit):=qi (q3u D (Prod.fst a0)) fun b↦qi (qvp D (Prod.fst (Prod.snd a0))) fun b_1↦qi (qx0 D (Prod.fst (Prod.snd (Prod.snd a0)))) fun b_2↦some (((Prod.fst (Prod.fst b),Prod.fst (Prod.fst b_1),Prod.fst (Prod.fst b_2),()),()),())
def qya (D:DX)(n:Nat) (a0:tSch):Option (((tSch)×Unit)×Unit):=q7p D n a0
theorem qbk6 (D:DX)(n:Nat) (a0:tSch):rfC qc D n 123 (a0,())=qya D n a0:=by kernel_rfl

def qu4 (D:DX)(n:Nat) (go:qe→Int→qe→Option ((qe×Unit)×Unit)) (K0:qe→Option ((qe×Unit)×Unit)) (x0:qe) (x1:Int) (x2:qe):Option ((qe×Unit)×Unit):=br (decide (x1<(↑(List.length x0):Int))) (br (decide (0≤x1)&&decide (x1<(↑(List.length x0):Int))) (qi (qe6 D (List.getD x0 (Int.toNat x1) [])) fun b↦br (decide (0≤x1)&&decide (x1<(↑(List.length x2):Int))) (go x0 (IntKind.wrap IntKind.i64 (x1+1)) (List.set x2 (Int.toNat x1) (Prod.fst (Prod.fst b)))) none) none) (K0 x2)
def qhc (D:DX)(n:Nat) (K0:qe→Option ((qe×Unit)×Unit)):Nat→(qe)→(Int)→(qe)→Option ((qe×Unit)×Unit) | 0=>(fun x0 x1 x2=>none) | m+1=>(fun x0 x1 x2=>qu4 D n (qhc D n K0 m) K0 x0 x1 x2)
def qlk (D:DX)(n:Nat) (v0_0:qe):Option ((qe×Unit)×Unit):=some ((v0_0,()),())
def qr0 (D:DX)(n:Nat):(qe)→(Int)→(qe)→Option ((qe×Unit)×Unit):=(fun x0 x1 x2=>qhc D n (fun v0_0=>qlk D n v0_0) n x0 x1 x2)
def qw0 (D:DX)(n:Nat) (lp0:qe→Int→qe→Option ((qe×Unit)×Unit)) (a0:qe):Option ((qe×Unit)×Unit):=br (decide (0≤(↑(List.length a0):Int))&&decide ((↑(List.length a0):Int)≤(↑(List.length a0):Int))&&decide ((↑(List.length a0):Int)≤(↑qbl:Int))) (lp0 a0 0 (List.replicate (Int.toNat (↑(List.length a0):Int)) [])) none
def qw5 (D:DX)(n:Nat) (a0:qe):Option ((qe×Unit)×Unit):=qw0 D n (qr0 D n) a0
def qg1 (x0:qe) (x1:Int) (x2:qe):St:=stq 23 [(0,AV.val (Ty.sl (Ty.sl yV)) x0),(3,AV.brw 3 [] 0),(4,avI x1)] [(3,Root.mk (Ty.sl (Ty.sl yV)) (Mk.own 0 (Mk.own 0 (Mk.pr Mk.no (Mk.pr Mk.no (Mk.pr Mk.no Mk.no))))) x2 false)] 
def qk3 (v0_0:qe):St:=stq 23 [(3,AV.brw 3 [] 0)] [(3,Root.mk (Ty.sl (Ty.sl yV)) (Mk.own 0 (Mk.own 0 (Mk.pr Mk.no (Mk.pr Mk.no (Mk.pr Mk.no Mk.no))))) v0_0 false)] 
theorem qbb0 (D:DX)(n:Nat) (m:Nat) (K:Ex→St→Option (Out ctx 124)) (x0:qe) (x1:Int) (x2:qe) :
 LQ qc D n 124 [.r,.r,.l,.r,.l] (m+1) (qg1 x0 x1 x2) K=qu4 D n (fun x0 x1 x2=>LQ qc D n 124 [.r,.r,.l,.r,.l] m (qg1 x0 x1 x2) K) (fun v0_0=>K (Ex.exit 0) (qk3 v0_0)) x0 x1 x2:=by kernel_rfl
theorem q2u (D:DX)(n:Nat) (K:Ex→St→Option (Out ctx 124)):∀ (m:Nat) (x0:qe) (x1:Int) (x2:qe),LQ qc D n 124 [.r,.r,.l,.r,.l] m (qg1 x0 x1 x2) K=qhc D n (fun v0_0=>K (Ex.exit 0) (qk3 v0_0)) m x0 x1 x2
 | 0,x0,x1,x2=>qy ..
 | m+1,x0,x1,x2=>by
  have ih:(fun x0 x1 x2=>LQ qc D n 124 [.r,.r,.l,.r,.l] m (qg1 x0 x1 x2) K)=qhc D n (fun v0_0=>K (Ex.exit 0) (qk3 v0_0)) m:=by funext x0 x1 x2;exact q2u D n K m x0 x1 x2
  rw[qbb0]
  rw[ih];rfl
theorem qba3 (D:DX)(n:Nat) (v0_0:qe) :
 (CQ qc D n 124 [] [.r,.r,.l,.r,.l] (qh qc 124)) (Ex.exit 0) (qk3 v0_0)=qlk D n v0_0:=by kernel_rfl
theorem qbbb (D:DX)(n:Nat) (x0:qe) (x1:Int) (x2:qe) :
 LQ qc D n 124 [.r,.r,.l,.r,.l] n (qg1 x0 x1 x2) (CQ qc D n 124 [] [.r,.r,.l,.r,.l] (qh qc 124))=qr0 D n x0 x1 x2:=by
 rw[q2u]
 simp only[qba3]
 rfl
theorem qbh7 (D:DX)(n:Nat) (a0:qe):rfC qc D n 124 (a0,())=qw5 D n a0:=by
 have h:rfC qc D n 124 (a0,())=qw0 D n (fun x0 x1 x2=>LQ qc D n 124 [.r,.r,.l,.r,.l] n (qg1 x0 x1 x2) (CQ qc D n 124 [] [.r,.r,.l,.r,.l] (qh qc 124))) a0:=by kernel_rfl
 rw[h]
 simp only[qbbb]
 rfl

def qbnu (D:DX)(n:Nat) (a0:Int×Int×ByteArray×Unit):Option ((tVal×Unit)×Unit):=some (((Prod.fst a0,Prod.fst (Prod.snd a0),Prod.fst (Prod.snd (Prod.snd a0)),()),()),())
def q83 (D:DX)(n:Nat) (a0:Int×Int×ByteArray×Unit):Option ((tVal×Unit)×Unit):=qbnu D n a0
theorem qbno (D:DX)(n:Nat) (a0:Int×Int×ByteArray×Unit):rfC qc D n 125 (a0,())=q83 D n a0:=by kernel_rfl

def q63 (D:DX)(n:Nat) (a0:tSch) (a1:tSch):Option ((Bool×Unit)×Unit):=qi (q25 D (Prod.fst a0) (Prod.fst a1)) fun b↦br (!Prod.fst (Prod.fst b)) (some ((false,()),())) (qi (qvo D (Prod.fst (Prod.snd a0)) (Prod.fst (Prod.snd a1))) fun b↦br (!Prod.fst (Prod.fst b)) (some ((false,()),())) (qi (qxo D (Prod.fst (Prod.snd (Prod.snd a0))) (Prod.fst (Prod.snd (Prod.snd a1)))) fun b↦br (!Prod.fst (Prod.fst b)) (some ((false,()),())) (some ((true,()),()))))
def qzr (D:DX)(n:Nat) (a0:tSch) (a1:tSch):Option ((Bool×Unit)×Unit):=q63 D n a0 a1
theorem qblp (D:DX)(n:Nat) (a0:tSch) (a1:tSch):rfC qc D n 126 (a0,(a1,()))=qzr D n a0 a1:=by kernel_rfl

def qu5 (D:DX)(n:Nat) (go:qe→qe→Int→Option ((Bool×Unit)×Unit)) (K0:Bool→Option ((Bool×Unit)×Unit)) (K1:Option ((Bool×Unit)×Unit)) (x0:qe) (x1:qe) (x2:Int):Option ((Bool×Unit)×Unit):=br (decide (x2<(↑(List.length x0):Int))) (br (decide (0≤x2)&&decide (x2<(↑(List.length x0):Int))) (br (decide (0≤x2)&&decide (x2<(↑(List.length x1):Int))) (qi (qmm D (List.getD x0 (Int.toNat x2) []) (List.getD x1 (Int.toNat x2) [])) fun b↦br (!Prod.fst (Prod.fst b)) (K0 false) (go x0 x1 (IntKind.wrap IntKind.i64 (x2+1)))) none) none) K1
def qg9 (D:DX)(n:Nat) (K0:Bool→Option ((Bool×Unit)×Unit)) (K1:Option ((Bool×Unit)×Unit)):Nat→(qe)→(qe)→(Int)→Option ((Bool×Unit)×Unit) | 0=>(fun x0 x1 x2=>none) | m+1=>(fun x0 x1 x2=>qu5 D n (qg9 D n K0 K1 m) K0 K1 x0 x1 x2)
def qli (D:DX)(n:Nat) (v0_0:Bool):Option ((Bool×Unit)×Unit):=some ((v0_0,()),())
def qlm (D:DX)(n:Nat):Option ((Bool×Unit)×Unit):=some ((true,()),())
def qst (D:DX)(n:Nat):(qe)→(qe)→(Int)→Option ((Bool×Unit)×Unit):=(fun x0 x1 x2=>qg9 D n (fun v0_0=>qli D n v0_0) (qlm D n) n x0 x1 x2)
def qw2 (D:DX)(n:Nat) (lp0:qe→qe→Int→Option ((Bool×Unit)×Unit)) (a0:qe) (a1:qe):Option ((Bool×Unit)×Unit):=br ((↑(List.length a0):Int) != (↑(List.length a1):Int)) (some ((false,()),())) (lp0 a0 a1 0)
def qxb (D:DX)(n:Nat) (a0:qe) (a1:qe):Option ((Bool×Unit)×Unit):=qw2 D n (qst D n) a0 a1
def qg5 (x0:qe) (x1:qe) (x2:Int):St:=stq 27 [(0,AV.val (Ty.sl (Ty.sl yV)) x0),(1,AV.val (Ty.sl (Ty.sl yV)) x1),(5,avI x2)] [] 
def qlb (v0_0:Bool):St:=stq 27 [(4,AV.val Ty.bool v0_0)] [] 
def qlj:St:=stq 27 [] [] 
theorem qbc6 (D:DX)(n:Nat) (m:Nat) (K:Ex→St→Option (Out ctx 127)) (x0:qe) (x1:qe) (x2:Int) :
 LQ qc D n 127 [.r,.r,.l,.r,.l] (m+1) (qg5 x0 x1 x2) K=qu5 D n (fun x0 x1 x2=>LQ qc D n 127 [.r,.r,.l,.r,.l] m (qg5 x0 x1 x2) K) (fun v0_0=>K (Ex.ret) (qlb v0_0)) (K (Ex.exit 0) (qlj)) x0 x1 x2:=by kernel_rfl
theorem q2f (D:DX)(n:Nat) (K:Ex→St→Option (Out ctx 127)):∀ (m:Nat) (x0:qe) (x1:qe) (x2:Int),LQ qc D n 127 [.r,.r,.l,.r,.l] m (qg5 x0 x1 x2) K=qg9 D n (fun v0_0=>K (Ex.ret) (qlb v0_0)) (K (Ex.exit 0) (qlj)) m x0 x1 x2
 | 0,x0,x1,x2=>qy ..
 | m+1,x0,x1,x2=>by
  have ih:(fun x0 x1 x2=>LQ qc D n 127 [.r,.r,.l,.r,.l] m (qg5 x0 x1 x2) K)=qg9 D n (fun v0_0=>K (Ex.ret) (qlb v0_0)) (K (Ex.exit 0) (qlj)) m:=by funext x0 x1 x2;exact q2f D n K m x0 x1 x2
  rw[qbc6]
  rw[ih];rfl
theorem qbbf (D:DX)(n:Nat) (v0_0:Bool) :
 (CQ qc D n 127 [] [.r,.r,.l,.r,.l] (qh qc 127)) (Ex.ret) (qlb v0_0)=qli D n v0_0:=by kernel_rfl
theorem qbby (D:DX)(n:Nat) :
 (CQ qc D n 127 [] [.r,.r,.l,.r,.l] (qh qc 127)) (Ex.exit 0) (qlj)=qlm D n:=by kernel_rfl
theorem qbbs (D:DX)(n:Nat) (x0:qe) (x1:qe) (x2:Int) :
 LQ qc D n 127 [.r,.r,.l,.r,.l] n (qg5 x0 x1 x2) (CQ qc D n 127 [] [.r,.r,.l,.r,.l] (qh qc 127))=qst D n x0 x1 x2:=by
 rw[q2f]
 simp only[qbbf,qbby]
 rfl
theorem qbhk (D:DX)(n:Nat) (a0:qe) (a1:qe):rfC qc D n 127 (a0,(a1,()))=qxb D n a0 a1:=by
 have h:rfC qc D n 127 (a0,(a1,()))=qw2 D n (fun x0 x1 x2=>LQ qc D n 127 [.r,.r,.l,.r,.l] n (qg5 x0 x1 x2) (CQ qc D n 127 [] [.r,.r,.l,.r,.l] (qh qc 127))) a0 a1:=by kernel_rfl
 rw[h]
 simp only[qbbs]
 rfl

def q8k (D:DX)(n:Nat) (a0:Int×Int×ByteArray×Unit) (a1:Int×Int×ByteArray×Unit):Option ((Bool×Unit)×Unit):=br (Prod.fst a0 != Prod.fst a1) (some ((false,()),())) (br (Prod.fst (Prod.snd a0) != Prod.fst (Prod.snd a1)) (some ((false,()),())) (br (!List.beq (ByteArray.toList (Prod.fst (Prod.snd (Prod.snd a0)))) (ByteArray.toList (Prod.fst (Prod.snd (Prod.snd a1))))) (some ((false,()),())) (some ((true,()),()))))
def q1k (D:DX)(n:Nat) (a0:Int×Int×ByteArray×Unit) (a1:Int×Int×ByteArray×Unit):Option ((Bool×Unit)×Unit):=q8k D n a0 a1
theorem qbnh (D:DX)(n:Nat) (a0:Int×Int×ByteArray×Unit) (a1:Int×Int×ByteArray×Unit):rfC qc D n 128 (a0,(a1,()))=q1k D n a0 a1:=by kernel_rfl

def q4p (D:DX)(n:Nat) (a0:tSch) (a1:Int):Option ((Int×Unit)×(tSch)×Unit):=qi (qzo D (Prod.fst a0) a1) fun b↦qi (qmg D (Prod.fst (Prod.snd a0)) (Prod.fst (Prod.fst b))) fun b_1↦qi (que D (Prod.fst (Prod.snd (Prod.snd a0))) (Prod.fst (Prod.fst b_1))) fun b_2↦some ((Prod.fst (Prod.fst b_2),()),(Prod.fst (Prod.snd b),Prod.fst (Prod.snd b_1),Prod.fst (Prod.snd b_2),()),())
def qua (D:DX)(n:Nat) (a0:tSch) (a1:Int):Option ((Int×Unit)×(tSch)×Unit):=q4p D n a0 a1
theorem qbf2 (D:DX)(n:Nat) (a0:tSch) (a1:Int):rfC qc D n 129 (a0,(a1,()))=qua D n a0 a1:=by kernel_rfl

def qqq (D:DX)(n:Nat) (go:Int→Int→qe→Option ((Int×Unit)×qe×Unit)) (K0:Int→qe→Option ((Int×Unit)×qe×Unit)) (x0:Int) (x1:Int) (x2:qe):Option ((Int×Unit)×qe×Unit):=br (decide (x1<(↑(List.length x2):Int))) (br (decide (0≤x1)&&decide (x1<(↑(List.length x2):Int))) (qi (qoc D (List.getD x2 (Int.toNat x1) []) x0) fun b↦br (qg8 [PK.mutv (Ty.sl (Ty.pair (Ty.int IntKind.i64) (Ty.pair (Ty.int IntKind.i64) (Ty.pair Ty.str Ty.unit)))) (Mk.top (Ty.sl (Ty.pair (Ty.int IntKind.i64) (Ty.pair (Ty.int IntKind.i64) (Ty.pair Ty.str Ty.unit))))) (Mk.top (Ty.sl (Ty.pair (Ty.int IntKind.i64) (Ty.pair (Ty.int IntKind.i64) (Ty.pair Ty.str Ty.unit))))),PK.val (Ty.int IntKind.i64)] (List.map (ev (St.mk [AV.brw 0 [] 1048576,AV.val (Ty.int IntKind.i64) x0,AV.undef,AV.undef,AV.undef,AV.val (Ty.int IntKind.i64) x1,AV.val (Ty.int IntKind.i64) x1,AV.brw 0 [] 1048576,AV.val (Ty.int IntKind.i64) (↑(List.length x2):Int),AV.val Ty.bool (decide (x1<(↑(List.length x2):Int))),AV.undef,AV.undef,AV.brw 0 [] 1048576,AV.val (Ty.int IntKind.i64) x1,AV.addr 0 [Stp.idx (Int.toNat x1) 1048576],AV.brw 0 [Stp.idx (Int.toNat x1) 1048576] 0,AV.val (Ty.int IntKind.i64) x0,AV.undef,AV.undef] [some (Root.mk (Ty.sl (Ty.sl (Ty.pair (Ty.int IntKind.i64) (Ty.pair (Ty.int IntKind.i64) (Ty.pair Ty.str Ty.unit))))) (Mk.own 1048576 (Mk.own 0 (Mk.pr Mk.no (Mk.pr Mk.no (Mk.pr Mk.no Mk.no))))) x2 false),none,none,none,none,none,none,none,none,none,none,none,none,none,none,none,none,none,none])) [Operand.tmp 15,Operand.tmp 16]++qfk AV.unit)) (go (Prod.fst (Prod.fst b)) (IntKind.wrap IntKind.i64 (x1+1)) (List.set x2 (Int.toNat x1) (Prod.fst (Prod.snd b)))) none) none) (K0 x0 x2)
def qfb (D:DX)(n:Nat) (K0:Int→qe→Option ((Int×Unit)×qe×Unit)):Nat→(Int)→(Int)→(qe)→Option ((Int×Unit)×qe×Unit) | 0=>(fun x0 x1 x2=>none) | m+1=>(fun x0 x1 x2=>qqq D n (qfb D n K0 m) K0 x0 x1 x2)
def qjh (D:DX)(n:Nat) (v0_0:Int) (v0_1:qe):Option ((Int×Unit)×qe×Unit):=some ((v0_0,()),v0_1,())
def qpn (D:DX)(n:Nat):(Int)→(Int)→(qe)→Option ((Int×Unit)×qe×Unit):=(fun x0 x1 x2=>qfb D n (fun v0_0 v0_1=>qjh D n v0_0 v0_1) n x0 x1 x2)
def qsf (D:DX)(n:Nat) (lp0:Int→Int→qe→Option ((Int×Unit)×qe×Unit)) (a0:qe) (a1:Int):Option ((Int×Unit)×qe×Unit):=lp0 a1 0 a0
def qta (D:DX)(n:Nat) (a0:qe) (a1:Int):Option ((Int×Unit)×qe×Unit):=qsf D n (qpn D n) a0 a1
def qff (x0:Int) (x1:Int) (x2:qe):St:=stq 19 [(0,AV.brw 0 [] 1048576),(1,avI x0),(5,avI x1)] [(0,Root.mk (Ty.sl (Ty.sl yV)) (Mk.own 1048576 (Mk.own 0 (Mk.pr Mk.no (Mk.pr Mk.no (Mk.pr Mk.no Mk.no))))) x2 false)] 
def qjq (v0_0:Int) (v0_1:qe):St:=stq 19 [(0,AV.brw 0 [] 1048576),(1,avI v0_0)] [(0,Root.mk (Ty.sl (Ty.sl yV)) (Mk.own 1048576 (Mk.own 0 (Mk.pr Mk.no (Mk.pr Mk.no (Mk.pr Mk.no Mk.no))))) v0_1 false)] 
theorem qbac (D:DX)(n:Nat) (m:Nat) (K:Ex→St→Option (Out ctx 130)) (x0:Int) (x1:Int) (x2:qe) :
 LQ qc D n 130 [.r,.l,.r,.l] (m+1) (qff x0 x1 x2) K=qqq D n (fun x0 x1 x2=>LQ qc D n 130 [.r,.l,.r,.l] m (qff x0 x1 x2) K) (fun v0_0 v0_1=>K (Ex.exit 0) (qjq v0_0 v0_1)) x0 x1 x2:=by kernel_rfl
theorem qym (D:DX)(n:Nat) (K:Ex→St→Option (Out ctx 130)):∀ (m:Nat) (x0:Int) (x1:Int) (x2:qe),LQ qc D n 130 [.r,.l,.r,.l] m (qff x0 x1 x2) K=qfb D n (fun v0_0 v0_1=>K (Ex.exit 0) (qjq v0_0 v0_1)) m x0 x1 x2
 | 0,x0,x1,x2=>qy ..
 | m+1,x0,x1,x2=>by
  have ih:(fun x0 x1 x2=>LQ qc D n 130 [.r,.l,.r,.l] m (qff x0 x1 x2) K)=qfb D n (fun v0_0 v0_1=>K (Ex.exit 0) (qjq v0_0 v0_1)) m:=by funext x0 x1 x2;exact qym D n K m x0 x1 x2
  rw[qbac]
  rw[ih];rfl
theorem q8y (D:DX)(n:Nat) (v0_0:Int) (v0_1:qe) :
 (CQ qc D n 130 [] [.r,.l,.r,.l] (qh qc 130)) (Ex.exit 0) (qjq v0_0 v0_1)=qjh D n v0_0 v0_1:=by kernel_rfl
theorem q8m (D:DX)(n:Nat) (x0:Int) (x1:Int) (x2:qe) :
 LQ qc D n 130 [.r,.l,.r,.l] n (qff x0 x1 x2) (CQ qc D n 130 [] [.r,.l,.r,.l] (qh qc 130))=qpn D n x0 x1 x2:=by
 rw[qym]
 simp only[q8y]
 rfl
theorem qbdy (D:DX)(n:Nat) (a0:qe) (a1:Int):rfC qc D n 130 (a0,(a1,()))=qta D n a0 a1:=by
 have h:rfC qc D n 130 (a0,(a1,()))=qsf D n (fun x0 x1 x2=>LQ qc D n 130 [.r,.l,.r,.l] n (qff x0 x1 x2) (CQ qc D n 130 [] [.r,.l,.r,.l] (qh qc 130))) a0 a1:=by kernel_rfl
 rw[h]
 simp only[q8m]
 rfl

def qpw (D:DX)(n:Nat) (go:Int→ByteArray→Option ((ByteArray×Unit)×Unit)) (K0:ByteArray→Option ((ByteArray×Unit)×Unit)) (x0:Int) (x1:ByteArray):Option ((ByteArray×Unit)×Unit):=br (decide (x0>0)) (br (decide (ByteArray.size (ByteArray.mk (List.toArray (List.map (fun n↦UInt8.ofNat (Int.toNat n)) [IntKind.wrap IntKind.u8 (IntKind.wrap IntKind.i64 (48+Int.tmod x0 10))])))+ByteArray.size x1≤Nat.pow 2 47)) (go (IntKind.wrap IntKind.i64 (Int.tdiv x0 10)) (ByteArray.append (ByteArray.mk (List.toArray (List.map (fun n↦UInt8.ofNat (Int.toNat n)) [IntKind.wrap IntKind.u8 (IntKind.wrap IntKind.i64 (48+Int.tmod x0 10))]))) x1)) none) (K0 x1)
def qfz (D:DX)(n:Nat) (K0:ByteArray→Option ((ByteArray×Unit)×Unit)):Nat→(Int)→(ByteArray)→Option ((ByteArray×Unit)×Unit) | 0=>(fun x0 x1=>none) | m+1=>(fun x0 x1=>qpw D n (qfz D n K0 m) K0 x0 x1)
def qs5 (D:DX)(n:Nat) (v0_0:ByteArray):Option ((ByteArray×Unit)×Unit):=br (decide (ByteArray.size (ByteArray.mk #[UInt8.ofNat 109])+ByteArray.size v0_0≤Nat.pow 2 47)) (some ((ByteArray.append (ByteArray.mk #[UInt8.ofNat 109]) v0_0,()),())) none
def qul (D:DX)(n:Nat):(Int)→(ByteArray)→Option ((ByteArray×Unit)×Unit):=(fun x0 x1=>qfz D n (fun v0_0=>qs5 D n v0_0) n x0 x1)
def qy0 (D:DX)(n:Nat) (lp0:Int→ByteArray→Option ((ByteArray×Unit)×Unit)) (a0:Int):Option ((ByteArray×Unit)×Unit):=br (decide (a0≤0)) (some ((ByteArray.mk #[UInt8.ofNat 109,UInt8.ofNat 48],()),())) (lp0 a0 (ByteArray.mk #[]))
def qx2 (D:DX)(n:Nat) (a0:Int):Option ((ByteArray×Unit)×Unit):=qy0 D n (qul D n) a0
def qio (x0:Int) (x1:ByteArray):St:=stq 20 [(0,avI x0),(3,AV.val Ty.str x1)] [] 
def ql7 (v0_0:ByteArray):St:=stq 20 [(3,AV.val Ty.str v0_0)] [] 
theorem qbgg (D:DX)(n:Nat) (m:Nat) (K:Ex→St→Option (Out ctx 131)) (x0:Int) (x1:ByteArray) :
 LQ qc D n 131 [.r,.r,.r,.l,.l] (m+1) (qio x0 x1) K=qpw D n (fun x0 x1=>LQ qc D n 131 [.r,.r,.r,.l,.l] m (qio x0 x1) K) (fun v0_0=>K (Ex.exit 0) (ql7 v0_0)) x0 x1:=by kernel_rfl
theorem q35 (D:DX)(n:Nat) (K:Ex→St→Option (Out ctx 131)):∀ (m:Nat) (x0:Int) (x1:ByteArray),LQ qc D n 131 [.r,.r,.r,.l,.l] m (qio x0 x1) K=qfz D n (fun v0_0=>K (Ex.exit 0) (ql7 v0_0)) m x0 x1
 | 0,x0,x1=>qy ..
 | m+1,x0,x1=>by
  have ih:(fun x0 x1=>LQ qc D n 131 [.r,.r,.r,.l,.l] m (qio x0 x1) K)=qfz D n (fun v0_0=>K (Ex.exit 0) (ql7 v0_0)) m:=by funext x0 x1;exact q35 D n K m x0 x1
  rw[qbgg]
  rw[ih];rfl
theorem qbcn (D:DX)(n:Nat) (v0_0:ByteArray) :
 (CQ qc D n 131 [] [.r,.r,.r,.l,.l] (qh qc 131)) (Ex.exit 0) (ql7 v0_0)=qs5 D n v0_0:=by kernel_rfl
theorem qbck (D:DX)(n:Nat) (x0:Int) (x1:ByteArray) :
 LQ qc D n 131 [.r,.r,.r,.l,.l] n (qio x0 x1) (CQ qc D n 131 [] [.r,.r,.r,.l,.l] (qh qc 131))=qul D n x0 x1:=by
 rw[q35]
 simp only[qbcn]
 rfl
theorem qbli (D:DX)(n:Nat) (a0:Int):rfC qc D n 131 (a0,())=qx2 D n a0:=by
 have h:rfC qc D n 131 (a0,())=qy0 D n (fun x0 x1=>LQ qc D n 131 [.r,.r,.r,.l,.l] n (qio x0 x1) (CQ qc D n 131 [] [.r,.r,.r,.l,.l] (qh qc 131))) a0:=by kernel_rfl
 rw[h]
 simp only[qbck]
 rfl

def q4g (D:DX)(n:Nat) (a0:tSch) (a1:Int):Option ((Int×Unit)×Unit):=qi (qxt D (Prod.fst a0) a1) fun b↦br (decide (Prod.fst (Prod.fst b)<0)) (some ((-1,()),())) (qi (qne D (Prod.fst (Prod.snd a0)) (Prod.fst (Prod.fst b))) fun b↦br (decide (Prod.fst (Prod.fst b)<0)) (some ((-1,()),())) (qi (quj D (Prod.fst (Prod.snd (Prod.snd a0))) (Prod.fst (Prod.fst b))) fun b↦br (decide (Prod.fst (Prod.fst b)<0)) (some ((-1,()),())) (some ((Prod.fst (Prod.fst b),()),()))))
def qun (D:DX)(n:Nat) (a0:tSch) (a1:Int):Option ((Int×Unit)×Unit):=q4g D n a0 a1
theorem qbfx (D:DX)(n:Nat) (a0:tSch) (a1:Int):rfC qc D n 132 (a0,(a1,()))=qun D n a0 a1:=by kernel_rfl

def qq1 (D:DX)(n:Nat) (go:qe→Int→Int→Option ((Int×Unit)×Unit)) (K0:Int→Int→Option ((Int×Unit)×Unit)) (K1:Int→Option ((Int×Unit)×Unit)) (x0:qe) (x1:Int) (x2:Int):Option ((Int×Unit)×Unit):=br (decide (x2<(↑(List.length x0):Int))) (br (decide (0≤x2)&&decide (x2<(↑(List.length x0):Int))) (qi (qtw D (List.getD x0 (Int.toNat x2) []) x1) fun b↦br (decide (Prod.fst (Prod.fst b)<0)) (K0 (Prod.fst (Prod.fst b)) (-1)) (go x0 (Prod.fst (Prod.fst b)) (IntKind.wrap IntKind.i64 (x2+1)))) none) (K1 x1)
def qfa (D:DX)(n:Nat) (K0:Int→Int→Option ((Int×Unit)×Unit)) (K1:Int→Option ((Int×Unit)×Unit)):Nat→(qe)→(Int)→(Int)→Option ((Int×Unit)×Unit) | 0=>(fun x0 x1 x2=>none) | m+1=>(fun x0 x1 x2=>qq1 D n (qfa D n K0 K1 m) K0 K1 x0 x1 x2)
def qog (D:DX)(n:Nat) (v0_0:Int) (v0_1:Int):Option ((Int×Unit)×Unit):=some ((v0_1,()),())
def qjd (D:DX)(n:Nat) (v1_0:Int):Option ((Int×Unit)×Unit):=some ((v1_0,()),())
def qo9 (D:DX)(n:Nat):(qe)→(Int)→(Int)→Option ((Int×Unit)×Unit):=(fun x0 x1 x2=>qfa D n (fun v0_0 v0_1=>qog D n v0_0 v0_1) (fun v1_0=>qjd D n v1_0) n x0 x1 x2)
def qs1 (D:DX)(n:Nat) (lp0:qe→Int→Int→Option ((Int×Unit)×Unit)) (a0:qe) (a1:Int):Option ((Int×Unit)×Unit):=lp0 a0 a1 0
def qrx (D:DX)(n:Nat) (a0:qe) (a1:Int):Option ((Int×Unit)×Unit):=qs1 D n (qo9 D n) a0 a1
def qfc (x0:qe) (x1:Int) (x2:Int):St:=stq 21 [(0,AV.val (Ty.sl (Ty.sl yV)) x0),(1,avI x1),(5,avI x2)] [] 
def qjn (v0_0:Int) (v0_1:Int):St:=stq 21 [(1,avI v0_0),(4,avI v0_1)] [] 
def qjl (v1_0:Int):St:=stq 21 [(1,avI v1_0)] [] 
theorem q99 (D:DX)(n:Nat) (m:Nat) (K:Ex→St→Option (Out ctx 133)) (x0:qe) (x1:Int) (x2:Int) :
 LQ qc D n 133 [.r,.l,.r,.l] (m+1) (qfc x0 x1 x2) K=qq1 D n (fun x0 x1 x2=>LQ qc D n 133 [.r,.l,.r,.l] m (qfc x0 x1 x2) K) (fun v0_0 v0_1=>K (Ex.ret) (qjn v0_0 v0_1)) (fun v1_0=>K (Ex.exit 0) (qjl v1_0)) x0 x1 x2:=by kernel_rfl
theorem qyw (D:DX)(n:Nat) (K:Ex→St→Option (Out ctx 133)):∀ (m:Nat) (x0:qe) (x1:Int) (x2:Int),LQ qc D n 133 [.r,.l,.r,.l] m (qfc x0 x1 x2) K=qfa D n (fun v0_0 v0_1=>K (Ex.ret) (qjn v0_0 v0_1)) (fun v1_0=>K (Ex.exit 0) (qjl v1_0)) m x0 x1 x2
 | 0,x0,x1,x2=>qy ..
 | m+1,x0,x1,x2=>by
  have ih:(fun x0 x1 x2=>LQ qc D n 133 [.r,.l,.r,.l] m (qfc x0 x1 x2) K)=qfa D n (fun v0_0 v0_1=>K (Ex.ret) (qjn v0_0 v0_1)) (fun v1_0=>K (Ex.exit 0) (qjl v1_0)) m:=by funext x0 x1 x2;exact qyw D n K m x0 x1 x2
  rw[q99]
  rw[ih];rfl
theorem q8h (D:DX)(n:Nat) (v0_0:Int) (v0_1:Int) :
 (CQ qc D n 133 [] [.r,.l,.r,.l] (qh qc 133)) (Ex.ret) (qjn v0_0 v0_1)=qog D n v0_0 v0_1:=by kernel_rfl
theorem q80 (D:DX)(n:Nat) (v1_0:Int) :
 (CQ qc D n 133 [] [.r,.l,.r,.l] (qh qc 133)) (Ex.exit 0) (qjl v1_0)=qjd D n v1_0:=by kernel_rfl
theorem q8b (D:DX)(n:Nat) (x0:qe) (x1:Int) (x2:Int) :
 LQ qc D n 133 [.r,.l,.r,.l] n (qfc x0 x1 x2) (CQ qc D n 133 [] [.r,.l,.r,.l] (qh qc 133))=qo9 D n x0 x1 x2:=by
 rw[qyw]
 simp only[q8h,q80]
 rfl
theorem qbcd (D:DX)(n:Nat) (a0:qe) (a1:Int):rfC qc D n 133 (a0,(a1,()))=qrx D n a0 a1:=by
 have h:rfC qc D n 133 (a0,(a1,()))=qs1 D n (fun x0 x1 x2=>LQ qc D n 133 [.r,.l,.r,.l] n (qfc x0 x1 x2) (CQ qc D n 133 [] [.r,.l,.r,.l] (qh qc 133))) a0 a1:=by kernel_rfl
 rw[h]
 simp only[q8b]
 rfl

def qvh (D:DX)(n:Nat) (a0:List Int):Option ((List Int×Unit)×Unit):=br (decide (Int.toNat (↑(List.length a0):Int)=0)) (both (some (([],()),())) (br (decide (0+List.length a0≤qbl)) (some (([]++a0,()),())) none)) (br (decide (0+List.length a0≤qbl)) (some (([]++a0,()),())) none)
def qno (D:DX)(n:Nat) (a0:List Int):Option ((List Int×Unit)×Unit):=qvh D n a0
theorem q71 (D:DX)(n:Nat) (a0:List Int):rfC qc D n 138 (a0,())=qno D n a0:=by kernel_rfl

def q86 (D:DX)(n:Nat) (a0:Int×Int×ByteArray×Unit):Option ((Bool×Unit)×Unit):=br (decide (Prod.fst a0=0)) (some ((bif decide (Prod.fst (Prod.snd a0)=0) then List.beq (ByteArray.toList (Prod.fst (Prod.snd (Prod.snd a0)))) (ByteArray.toList (ByteArray.mk #[])) else false,()),())) (br (decide (Prod.fst a0=1)) (qi (qgq D (Prod.fst (Prod.snd a0)) 0 1) fun b↦some ((bif Prod.fst (Prod.fst b) then List.beq (ByteArray.toList (Prod.fst (Prod.snd (Prod.snd a0)))) (ByteArray.toList (ByteArray.mk #[])) else false,()),())) (br (decide (Prod.fst a0=2)) (qi (qgq D (Prod.fst (Prod.snd a0)) (-1000000000000) 1000000000000) fun b↦some ((bif Prod.fst (Prod.fst b) then List.beq (ByteArray.toList (Prod.fst (Prod.snd (Prod.snd a0)))) (ByteArray.toList (ByteArray.mk #[])) else false,()),())) (br (decide (Prod.fst a0=3)) (some ((bif decide (Prod.fst (Prod.snd a0)=0) then decide ((↑(ByteArray.size (Prod.fst (Prod.snd (Prod.snd a0)))):Int)≤20) else false,()),())) (some ((false,()),())))))
def q1p (D:DX)(n:Nat) (a0:Int×Int×ByteArray×Unit):Option ((Bool×Unit)×Unit):=q86 D n a0
theorem qbna (D:DX)(n:Nat) (a0:Int×Int×ByteArray×Unit):rfC qc D n 139 (a0,())=q1p D n a0:=by kernel_rfl

def qb0 (D:DX)(n:Nat) (a2:Clo) (go:qd→qd→qd→Int→Int→Option ((Int×Unit)×Unit)) (K0:qd→qd→Int→Option ((Int×Unit)×Unit)) (K1:qd→qd→Option ((Int×Unit)×Unit)) (x0:qd) (x1:qd) (x2:qd) (x3:Int) (x4:Int):Option ((Int×Unit)×Unit):=br (decide (x4<x3)) (br (decide (0≤x4)&&decide (x4<(↑(List.length x2):Int))) (br (decide (x4≥(↑(List.length x1):Int))) (K0 x0 x1 1) (br (decide (0≤x4)&&decide (x4<(↑(List.length x1):Int))) (qi (qcd ctx D a2 [CapV.val (Ty.pair (Ty.int IntKind.i64) (Ty.pair (Ty.int IntKind.i64) (Ty.pair Ty.str Ty.unit))) (List.getD x2 (Int.toNat x4) (0,0,ByteArray.empty,())),CapV.val (Ty.pair (Ty.int IntKind.i64) (Ty.pair (Ty.int IntKind.i64) (Ty.pair Ty.str Ty.unit))) (List.getD x1 (Int.toNat x4) (0,0,ByteArray.empty,()))] (Ty.int IntKind.i64)) fun b↦br (b != 0) (K0 x0 x1 b) (go x0 x1 x2 x3 (IntKind.wrap IntKind.i64 (x4+1)))) none)) none) (K1 x0 x1)
def qx (D:DX)(n:Nat) (a2:Clo) (K0:qd→qd→Int→Option ((Int×Unit)×Unit)) (K1:qd→qd→Option ((Int×Unit)×Unit)):Nat→(qd)→(qd)→(qd)→(Int)→(Int)→Option ((Int×Unit)×Unit) | 0=>(fun x0 x1 x2 x3 x4=>none) | m+1=>(fun x0 x1 x2 x3 x4=>qb0 D n a2 (qx D n a2 K0 K1 m) K0 K1 x0 x1 x2 x3 x4)
def qbw (D:DX)(n:Nat) (a2:Clo) (v0_0:qd) (v0_1:qd) (v0_2:Int):Option ((Int×Unit)×Unit):=some ((v0_2,()),())
def qbi (D:DX)(n:Nat) (a2:Clo) (v1_0:qd) (v1_1:qd):Option ((Int×Unit)×Unit):=br (decide ((↑(List.length v1_0):Int)<(↑(List.length v1_1):Int))) (some ((-1,()),())) (some ((0,()),()))
def qbx (D:DX)(n:Nat) (a2:Clo):(qd)→(qd)→(qd)→(Int)→(Int)→Option ((Int×Unit)×Unit):=(fun x0 x1 x2 x3 x4=>qx D n a2 (fun v0_0 v0_1 v0_2=>qbw D n a2 v0_0 v0_1 v0_2) (fun v1_0 v1_1=>qbi D n a2 v1_0 v1_1) n x0 x1 x2 x3 x4)
def qb9 (D:DX)(n:Nat) (a2:Clo) (lp0:qd→qd→qd→Int→Int→Option ((Int×Unit)×Unit)) (a0:qd) (a1:qd):Option ((Int×Unit)×Unit):=lp0 a0 a1 a0 (↑(List.length a0):Int) 0
def qb8 (D:DX)(n:Nat) (a0:qd) (a1:qd) (a2:Clo):Option ((Int×Unit)×Unit):=qb9 D n a2 (qbx D n a2) a0 a1
def qw (a2:Clo) (x0:qd) (x1:qd) (x2:qd) (x3:Int) (x4:Int):St:=stq 39 [(0,AV.val (Ty.sl yV) x0),(1,AV.val (Ty.sl yV) x1),(2,AV.cloV a2),(11,AV.val (Ty.sl yV) x2),(12,avI x3),(13,avI x4)] [] 
def qbh (a2:Clo) (v0_0:qd) (v0_1:qd) (v0_2:Int):St:=stq 39 [(0,AV.val (Ty.sl yV) v0_0),(1,AV.val (Ty.sl yV) v0_1),(6,avI v0_2)] [] 
def qbg (a2:Clo) (v1_0:qd) (v1_1:qd):St:=stq 39 [(0,AV.val (Ty.sl yV) v1_0),(1,AV.val (Ty.sl yV) v1_1)] [] 
theorem qfj (D:DX)(n:Nat) (a2:Clo) (m:Nat) (K:Ex→St→Option (Out ctx 140)) (x0:qd) (x1:qd) (x2:qd) (x3:Int) (x4:Int) :
 LQ qc D n 140 [.r,.l,.r,.l] (m+1) (qw a2 x0 x1 x2 x3 x4) K=qb0 D n a2 (fun x0 x1 x2 x3 x4=>LQ qc D n 140 [.r,.l,.r,.l] m (qw a2 x0 x1 x2 x3 x4) K) (fun v0_0 v0_1 v0_2=>K (Ex.ret) (qbh a2 v0_0 v0_1 v0_2)) (fun v1_0 v1_1=>K (Ex.exit 0) (qbg a2 v1_0 v1_1)) x0 x1 x2 x3 x4:=by kernel_rfl
theorem qcy (D:DX)(n:Nat) (a2:Clo) (K:Ex→St→Option (Out ctx 140)):∀ (m:Nat) (x0:qd) (x1:qd) (x2:qd) (x3:Int) (x4:Int),LQ qc D n 140 [.r,.l,.r,.l] m (qw a2 x0 x1 x2 x3 x4) K=qx D n a2 (fun v0_0 v0_1 v0_2=>K (Ex.ret) (qbh a2 v0_0 v0_1 v0_2)) (fun v1_0 v1_1=>K (Ex.exit 0) (qbg a2 v1_0 v1_1)) m x0 x1 x2 x3 x4
 | 0,x0,x1,x2,x3,x4=>qy ..
 | m+1,x0,x1,x2,x3,x4=>by
  have ih:(fun x0 x1 x2 x3 x4=>LQ qc D n 140 [.r,.l,.r,.l] m (qw a2 x0 x1 x2 x3 x4) K)=qx D n a2 (fun v0_0 v0_1 v0_2=>K (Ex.ret) (qbh a2 v0_0 v0_1 v0_2)) (fun v1_0 v1_1=>K (Ex.exit 0) (qbg a2 v1_0 v1_1)) m:=by funext x0 x1 x2 x3 x4;exact qcy D n a2 K m x0 x1 x2 x3 x4
  rw[qfj]
  rw[ih];rfl
theorem qe7 (D:DX)(n:Nat) (a2:Clo) (v0_0:qd) (v0_1:qd) (v0_2:Int) :
 (CQ qc D n 140 [] [.r,.l,.r,.l] (qh qc 140)) (Ex.ret) (qbh a2 v0_0 v0_1 v0_2)=qbw D n a2 v0_0 v0_1 v0_2:=by kernel_rfl
theorem qe9 (D:DX)(n:Nat) (a2:Clo) (v1_0:qd) (v1_1:qd) :
 (CQ qc D n 140 [] [.r,.l,.r,.l] (qh qc 140)) (Ex.exit 0) (qbg a2 v1_0 v1_1)=qbi D n a2 v1_0 v1_1:=by kernel_rfl
theorem qe8 (D:DX)(n:Nat) (a2:Clo) (x0:qd) (x1:qd) (x2:qd) (x3:Int) (x4:Int) :
 LQ qc D n 140 [.r,.l,.r,.l] n (qw a2 x0 x1 x2 x3 x4) (CQ qc D n 140 [] [.r,.l,.r,.l] (qh qc 140))=qbx D n a2 x0 x1 x2 x3 x4:=by
 rw[qcy]
 simp only[qe7,qe9]
 rfl
theorem qfy (D:DX)(n:Nat) (a0:qd) (a1:qd) (a2:Clo):rfC qc D n 140 (a0,(a1,(a2,())))=qb8 D n a0 a1 a2:=by
 have h:rfC qc D n 140 (a0,(a1,(a2,())))=qb9 D n a2 (fun x0 x1 x2 x3 x4=>LQ qc D n 140 [.r,.l,.r,.l] n (qw a2 x0 x1 x2 x3 x4) (CQ qc D n 140 [] [.r,.l,.r,.l] (qh qc 140))) a0 a1:=by kernel_rfl
 rw[h]
 simp only[qe8]
 rfl

def q9d (D:DX)(n:Nat) (a0:Int×Int×ByteArray×Unit) (a1:Int×Int×ByteArray×Unit):Option ((Int×Unit)×Unit):=br (bif decide (Prod.fst a0<Prod.fst a1) then true else bif decide (Prod.fst a0=Prod.fst a1) then decide (Prod.fst (Prod.snd a0)<Prod.fst (Prod.snd a1)) else false) (some ((-1,()),())) (br (bif decide (Prod.fst a0>Prod.fst a1) then true else decide (Prod.fst (Prod.snd a0)>Prod.fst (Prod.snd a1))) (some ((1,()),())) (qi (q4s D (Prod.fst (Prod.snd (Prod.snd a0))) (Prod.fst (Prod.snd (Prod.snd a1)))) fun b↦some ((Prod.fst (Prod.fst b),()),())))
def q1a (D:DX)(n:Nat) (a0:Int×Int×ByteArray×Unit) (a1:Int×Int×ByteArray×Unit):Option ((Int×Unit)×Unit):=q9d D n a0 a1
theorem qbns (D:DX)(n:Nat) (a0:Int×Int×ByteArray×Unit) (a1:Int×Int×ByteArray×Unit):rfC qc D n 141 (a0,(a1,()))=q1a D n a0 a1:=by kernel_rfl

def qfr (D:DX)(n:Nat) (a1:Clo) (a0:tIxs):Option ((Bool×Unit)×Unit):=qi (qdv D a0 a1) fun b↦some ((decide (Prod.fst (Prod.fst b)≥0),()),())
def qdg (D:DX)(n:Nat) (a0:tIxs) (a1:Clo):Option ((Bool×Unit)×Unit):=qfr D n a1 a0
theorem qn2 (D:DX)(n:Nat) (a0:tIxs) (a1:Clo):rfC qc D n 142 (a0,(a1,()))=qdg D n a0 a1:=by kernel_rfl

def q9g (D:DX)(n:Nat) (a0:ByteArray×List Int×Bool×Unit) (a1:qd) (a2:qd):Option ((Bool×Unit)×Unit):=qi (qoo D a1 (Prod.fst (Prod.snd a0))) fun b↦br (Prod.fst (Prod.snd (Prod.snd a0))) (qi (qd5 D (Prod.fst (Prod.fst b)) (0,0,ByteArray.empty,())) fun b_1↦br (!Prod.fst (Prod.fst b_1)) (qi (qoo D a2 (Prod.fst (Prod.snd a0))) fun b_2↦qi (qdc D (Prod.fst (Prod.fst b)) (Prod.fst (Prod.fst b_2))) fun b↦some ((Prod.fst (Prod.fst b),()),())) (some ((false,()),()))) (some ((false,()),()))
def q11 (D:DX)(n:Nat) (a0:ByteArray×List Int×Bool×Unit) (a1:qd) (a2:qd):Option ((Bool×Unit)×Unit):=q9g D n a0 a1 a2
theorem qbmq (D:DX)(n:Nat) (a0:ByteArray×List Int×Bool×Unit) (a1:qd) (a2:qd):rfC qc D n 143 (a0,(a1,(a2,())))=q11 D n a0 a1 a2:=by kernel_rfl

def qhj (D:DX)(n:Nat) (a0:qd) (a1:Int×Int×ByteArray×Unit):Option ((Bool×Unit)×Unit):=qi (qer D a0 a1) fun b↦some ((decide (Prod.fst (Prod.fst b)≥0),()),())
def qd4 (D:DX)(n:Nat) (a0:qd) (a1:Int×Int×ByteArray×Unit):Option ((Bool×Unit)×Unit):=qhj D n a0 a1
theorem qp6 (D:DX)(n:Nat) (a0:qd) (a1:Int×Int×ByteArray×Unit):rfC qc D n 144 (a0,(a1,()))=qd4 D n a0 a1:=by kernel_rfl

def qei (D:DX)(n:Nat) (go:qd→qd→Int→Int→Option ((Bool×Unit)×Unit)) (K0:Bool→Option ((Bool×Unit)×Unit)) (K1:Option ((Bool×Unit)×Unit)) (x0:qd) (x1:qd) (x2:Int) (x3:Int):Option ((Bool×Unit)×Unit):=br (decide (x3<x2)) (br (decide (0≤x3)&&decide (x3<(↑(List.length x0):Int))) (br (decide (0≤x3)&&decide (x3<(↑(List.length x1):Int))) (br (!qrt (Ty.pair (Ty.int IntKind.i64) (Ty.pair (Ty.int IntKind.i64) (Ty.pair Ty.str Ty.unit))) (List.getD x0 (Int.toNat x3) (0,0,ByteArray.empty,())) (List.getD x1 (Int.toNat x3) (0,0,ByteArray.empty,()))) (K0 false) (go x0 x1 x2 (IntKind.wrap IntKind.i64 (x3+1)))) none) none) K1
def qb5 (D:DX)(n:Nat) (K0:Bool→Option ((Bool×Unit)×Unit)) (K1:Option ((Bool×Unit)×Unit)):Nat→(qd)→(qd)→(Int)→(Int)→Option ((Bool×Unit)×Unit) | 0=>(fun x0 x1 x2 x3=>none) | m+1=>(fun x0 x1 x2 x3=>qei D n (qb5 D n K0 K1 m) K0 K1 x0 x1 x2 x3)
def qhp (D:DX)(n:Nat) (v0_0:Bool):Option ((Bool×Unit)×Unit):=some ((v0_0,()),())
def qhk (D:DX)(n:Nat):Option ((Bool×Unit)×Unit):=some ((true,()),())
def qea (D:DX)(n:Nat):(qd)→(qd)→(Int)→(Int)→Option ((Bool×Unit)×Unit):=(fun x0 x1 x2 x3=>qb5 D n (fun v0_0=>qhp D n v0_0) (qhk D n) n x0 x1 x2 x3)
def qev (D:DX)(n:Nat) (lp0:qd→qd→Int→Int→Option ((Bool×Unit)×Unit)) (a0:qd) (a1:qd):Option ((Bool×Unit)×Unit):=br ((↑(List.length a0):Int) != (↑(List.length a1):Int)) (some ((false,()),())) (lp0 a0 a1 (↑(List.length a0):Int) 0)
def qeq (D:DX)(n:Nat) (a0:qd) (a1:qd):Option ((Bool×Unit)×Unit):=qev D n (qea D n) a0 a1
def qb6 (x0:qd) (x1:qd) (x2:Int) (x3:Int):St:=stq 26 [(0,AV.val (Ty.sl yV) x0),(1,AV.val (Ty.sl yV) x1),(12,avI x2),(13,avI x3)] [] 
def qcz (v0_0:Bool):St:=stq 26 [(4,AV.val Ty.bool v0_0)] [] 
def qc0:St:=stq 26 [] [] 
theorem qqj (D:DX)(n:Nat) (m:Nat) (K:Ex→St→Option (Out ctx 145)) (x0:qd) (x1:qd) (x2:Int) (x3:Int) :
 LQ qc D n 145 [.r,.r,.l,.r,.l] (m+1) (qb6 x0 x1 x2 x3) K=qei D n (fun x0 x1 x2 x3=>LQ qc D n 145 [.r,.r,.l,.r,.l] m (qb6 x0 x1 x2 x3) K) (fun v0_0=>K (Ex.ret) (qcz v0_0)) (K (Ex.exit 0) (qc0)) x0 x1 x2 x3:=by kernel_rfl
theorem qhx (D:DX)(n:Nat) (K:Ex→St→Option (Out ctx 145)):∀ (m:Nat) (x0:qd) (x1:qd) (x2:Int) (x3:Int),LQ qc D n 145 [.r,.r,.l,.r,.l] m (qb6 x0 x1 x2 x3) K=qb5 D n (fun v0_0=>K (Ex.ret) (qcz v0_0)) (K (Ex.exit 0) (qc0)) m x0 x1 x2 x3
 | 0,x0,x1,x2,x3=>qy ..
 | m+1,x0,x1,x2,x3=>by
  have ih:(fun x0 x1 x2 x3=>LQ qc D n 145 [.r,.r,.l,.r,.l] m (qb6 x0 x1 x2 x3) K)=qb5 D n (fun v0_0=>K (Ex.ret) (qcz v0_0)) (K (Ex.exit 0) (qc0)) m:=by funext x0 x1 x2 x3;exact qhx D n K m x0 x1 x2 x3
  rw[qqj]
  rw[ih];rfl
theorem qqb (D:DX)(n:Nat) (v0_0:Bool) :
 (CQ qc D n 145 [] [.r,.r,.l,.r,.l] (qh qc 145)) (Ex.ret) (qcz v0_0)=qhp D n v0_0:=by kernel_rfl
theorem qp7 (D:DX)(n:Nat) :
 (CQ qc D n 145 [] [.r,.r,.l,.r,.l] (qh qc 145)) (Ex.exit 0) (qc0)=qhk D n:=by kernel_rfl
theorem qp5 (D:DX)(n:Nat) (x0:qd) (x1:qd) (x2:Int) (x3:Int) :
 LQ qc D n 145 [.r,.r,.l,.r,.l] n (qb6 x0 x1 x2 x3) (CQ qc D n 145 [] [.r,.r,.l,.r,.l] (qh qc 145))=qea D n x0 x1 x2 x3:=by
 rw[qhx]
 simp only[qqb,qp7]
 rfl
theorem qr1 (D:DX)(n:Nat) (a0:qd) (a1:qd):rfC qc D n 145 (a0,(a1,()))=qeq D n a0 a1:=by
 have h:rfC qc D n 145 (a0,(a1,()))=qev D n (fun x0 x1 x2 x3=>LQ qc D n 145 [.r,.r,.l,.r,.l] n (qb6 x0 x1 x2 x3) (CQ qc D n 145 [] [.r,.r,.l,.r,.l] (qh qc 145))) a0 a1:=by kernel_rfl
 rw[h]
 simp only[qp5]
 rfl

def qu1 (D:DX)(n:Nat) (go:ByteArray→Int→Int→Option ((Bool×Unit)×Unit)) (K0:ByteArray→Bool→Option ((Bool×Unit)×Unit)) (K1:ByteArray→Option ((Bool×Unit)×Unit)) (x0:ByteArray) (x1:Int) (x2:Int):Option ((Bool×Unit)×Unit):=br (decide (x2<x1)) (br (decide (0≤x2)&&decide (x2<(↑(ByteArray.size x0):Int))) (br (decide ((↑(UInt8.toNat (Array.getD (ByteArray.data x0) (Int.toNat x2) (UInt8.ofNat 0))):Int)<97)) (K0 x0 false) (br (decide (0≤x2)&&decide (x2<(↑(ByteArray.size x0):Int))) (br (decide ((↑(UInt8.toNat (Array.getD (ByteArray.data x0) (Int.toNat x2) (UInt8.ofNat 0))):Int)>122)) (K0 x0 false) (go x0 x1 (IntKind.wrap IntKind.i64 (x2+1)))) none)) none) (K1 x0)
def qg3 (D:DX)(n:Nat) (K0:ByteArray→Bool→Option ((Bool×Unit)×Unit)) (K1:ByteArray→Option ((Bool×Unit)×Unit)):Nat→(ByteArray)→(Int)→(Int)→Option ((Bool×Unit)×Unit) | 0=>(fun x0 x1 x2=>none) | m+1=>(fun x0 x1 x2=>qu1 D n (qg3 D n K0 K1 m) K0 K1 x0 x1 x2)
def qz9 (D:DX)(n:Nat) (v0_0:ByteArray) (v0_1:Bool):Option ((Bool×Unit)×Unit):=some ((v0_1,()),())
def qqt (D:DX)(n:Nat) (v1_0:ByteArray):Option ((Bool×Unit)×Unit):=qi (qgq D (↑(ByteArray.size v1_0):Int) 1 12) fun b↦some ((Prod.fst (Prod.fst b),()),())
def qr8 (D:DX)(n:Nat):(ByteArray)→(Int)→(Int)→Option ((Bool×Unit)×Unit):=(fun x0 x1 x2=>qg3 D n (fun v0_0 v0_1=>qz9 D n v0_0 v0_1) (fun v1_0=>qqt D n v1_0) n x0 x1 x2)
def qv3 (D:DX)(n:Nat) (lp0:ByteArray→Int→Int→Option ((Bool×Unit)×Unit)) (a0:ByteArray):Option ((Bool×Unit)×Unit):=lp0 a0 (↑(ByteArray.size a0):Int) 0
def qwt (D:DX)(n:Nat) (a0:ByteArray):Option ((Bool×Unit)×Unit):=qv3 D n (qr8 D n) a0
def qha (x0:ByteArray) (x1:Int) (x2:Int):St:=stq 23 [(0,AV.val Ty.str x0),(5,avI x1),(6,avI x2)] [] 
def qk8 (v0_0:ByteArray) (v0_1:Bool):St:=stq 23 [(0,AV.val Ty.str v0_0),(2,AV.val Ty.bool v0_1)] [] 
def qk6 (v1_0:ByteArray):St:=stq 23 [(0,AV.val Ty.str v1_0)] [] 
theorem qbcw (D:DX)(n:Nat) (m:Nat) (K:Ex→St→Option (Out ctx 146)) (x0:ByteArray) (x1:Int) (x2:Int) :
 LQ qc D n 146 [.r,.l,.r,.l] (m+1) (qha x0 x1 x2) K=qu1 D n (fun x0 x1 x2=>LQ qc D n 146 [.r,.l,.r,.l] m (qha x0 x1 x2) K) (fun v0_0 v0_1=>K (Ex.ret) (qk8 v0_0 v0_1)) (fun v1_0=>K (Ex.exit 0) (qk6 v1_0)) x0 x1 x2:=by kernel_rfl
theorem q20 (D:DX)(n:Nat) (K:Ex→St→Option (Out ctx 146)):∀ (m:Nat) (x0:ByteArray) (x1:Int) (x2:Int),LQ qc D n 146 [.r,.l,.r,.l] m (qha x0 x1 x2) K=qg3 D n (fun v0_0 v0_1=>K (Ex.ret) (qk8 v0_0 v0_1)) (fun v1_0=>K (Ex.exit 0) (qk6 v1_0)) m x0 x1 x2
 | 0,x0,x1,x2=>qy ..
 | m+1,x0,x1,x2=>by
  have ih:(fun x0 x1 x2=>LQ qc D n 146 [.r,.l,.r,.l] m (qha x0 x1 x2) K)=qg3 D n (fun v0_0 v0_1=>K (Ex.ret) (qk8 v0_0 v0_1)) (fun v1_0=>K (Ex.exit 0) (qk6 v1_0)) m:=by funext x0 x1 x2;exact q20 D n K m x0 x1 x2
  rw[qbcw]
  rw[ih];rfl
theorem qba6 (D:DX)(n:Nat) (v0_0:ByteArray) (v0_1:Bool) :
 (CQ qc D n 146 [] [.r,.l,.r,.l] (qh qc 146)) (Ex.ret) (qk8 v0_0 v0_1)=qz9 D n v0_0 v0_1:=by kernel_rfl
theorem qba5 (D:DX)(n:Nat) (v1_0:ByteArray) :
 (CQ qc D n 146 [] [.r,.l,.r,.l] (qh qc 146)) (Ex.exit 0) (qk6 v1_0)=qqt D n v1_0:=by kernel_rfl
theorem qbaz (D:DX)(n:Nat) (x0:ByteArray) (x1:Int) (x2:Int) :
 LQ qc D n 146 [.r,.l,.r,.l] n (qha x0 x1 x2) (CQ qc D n 146 [] [.r,.l,.r,.l] (qh qc 146))=qr8 D n x0 x1 x2:=by
 rw[q20]
 simp only[qba6,qba5]
 rfl
theorem qbit (D:DX)(n:Nat) (a0:ByteArray):rfC qc D n 146 (a0,())=qwt D n a0:=by
 have h:rfC qc D n 146 (a0,())=qv3 D n (fun x0 x1 x2=>LQ qc D n 146 [.r,.l,.r,.l] n (qha x0 x1 x2) (CQ qc D n 146 [] [.r,.l,.r,.l] (qh qc 146))) a0:=by kernel_rfl
 rw[h]
 simp only[qbaz]
 rfl

def qbdw (D:DX)(n:Nat) (a0:tSch) (a1:ByteArray):Option ((Int×Unit)×Unit):=qi (qes D (Prod.fst a0) (Clo.mk 196 [CapV.rptr Ty.str a1])) fun b↦some ((Prod.fst (Prod.fst b),()),())
def q5v (D:DX)(n:Nat) (a0:tSch) (a1:ByteArray):Option ((Int×Unit)×Unit):=qbdw D n a0 a1
theorem qbpx (D:DX)(n:Nat) (a0:tSch) (a1:ByteArray):rfC qc D n 147 (a0,(a1,()))=q5v D n a0 a1:=by kernel_rfl

def qv4 (D:DX)(n:Nat) (go:List Int→Int→List Int→Int→Int→tSch→Option ((Bool×Unit)×Unit)) (K0:List Int→Int→Bool→Option ((Bool×Unit)×Unit)) (K1:List Int→Int→Option ((Bool×Unit)×Unit)) (x0:List Int) (x1:Int) (x2:List Int) (x3:Int) (x4:Int) (x5:tSch):Option ((Bool×Unit)×Unit):=br (decide (x4<x3)) (br (decide (0≤x4)&&decide (x4<(↑(List.length x2):Int))) (qi (qgq D (List.getD x2 (Int.toNat x4) 0) 0 (IntKind.wrap IntKind.i64 ((↑(List.length (Prod.fst x5)):Int) - 1))) fun b↦br (!Prod.fst (Prod.fst b)) (K0 x0 x1 false) (br (decide (0≤0)&&decide (0≤x4)&&decide (x4≤(↑(List.length x0):Int))) (qi (qkf D (List.drop (Int.toNat 0) (List.take (Int.toNat x4) x0)) (List.getD x2 (Int.toNat x4) 0)) fun b↦br (Prod.fst (Prod.fst b)) (K0 x0 x1 false) (go x0 x1 x2 x3 (IntKind.wrap IntKind.i64 (x4+1)) x5)) none)) none) (K1 x0 x1)
def qic (D:DX)(n:Nat) (K0:List Int→Int→Bool→Option ((Bool×Unit)×Unit)) (K1:List Int→Int→Option ((Bool×Unit)×Unit)):Nat→(List Int)→(Int)→(List Int)→(Int)→(Int)→(tSch)→Option ((Bool×Unit)×Unit) | 0=>(fun x0 x1 x2 x3 x4 x5=>none) | m+1=>(fun x0 x1 x2 x3 x4 x5=>qv4 D n (qic D n K0 K1 m) K0 K1 x0 x1 x2 x3 x4 x5)
def q2y (D:DX)(n:Nat) (v0_0:List Int) (v0_1:Int) (v0_2:Bool):Option ((Bool×Unit)×Unit):=some ((v0_2,()),())
def qr6 (D:DX)(n:Nat) (v1_0:List Int) (v1_1:Int):Option ((Bool×Unit)×Unit):=qi (qgq D (↑(List.length v1_0):Int) 1 v1_1) fun b↦some ((Prod.fst (Prod.fst b),()),())
def qt8 (D:DX)(n:Nat):(List Int)→(Int)→(List Int)→(Int)→(Int)→(tSch)→Option ((Bool×Unit)×Unit):=(fun x0 x1 x2 x3 x4 x5=>qic D n (fun v0_0 v0_1 v0_2=>q2y D n v0_0 v0_1 v0_2) (fun v1_0 v1_1=>qr6 D n v1_0 v1_1) n x0 x1 x2 x3 x4 x5)
def qy1 (D:DX)(n:Nat) (lp0:List Int→Int→List Int→Int→Int→tSch→Option ((Bool×Unit)×Unit)) (a0:tSch) (a1:List Int) (a2:Int):Option ((Bool×Unit)×Unit):=lp0 a1 a2 a1 (↑(List.length a1):Int) 0 a0
def qyh (D:DX)(n:Nat) (a0:tSch) (a1:List Int) (a2:Int):Option ((Bool×Unit)×Unit):=qy1 D n (qt8 D n) a0 a1 a2
def qid (x0:List Int) (x1:Int) (x2:List Int) (x3:Int) (x4:Int) (x5:tSch):St:=stq 35 [(1,AV.val (Ty.sl yI) x0),(2,avI x1),(3,AV.addr 3 []),(9,AV.val (Ty.sl yI) x2),(10,avI x3),(11,avI x4)] [(3,Root.mk yS Mk.no x5 true)] 
def qmh (v0_0:List Int) (v0_1:Int) (v0_2:Bool):St:=stq 35 [(1,AV.val (Ty.sl yI) v0_0),(2,avI v0_1),(6,AV.val Ty.bool v0_2)] [] 
def ql6 (v1_0:List Int) (v1_1:Int):St:=stq 35 [(1,AV.val (Ty.sl yI) v1_0),(2,avI v1_1)] [] 
theorem qbe1 (D:DX)(n:Nat) (m:Nat) (K:Ex→St→Option (Out ctx 148)) (x0:List Int) (x1:Int) (x2:List Int) (x3:Int) (x4:Int) (x5:tSch) :
 LQ qc D n 148 [.r,.l,.r,.l] (m+1) (qid x0 x1 x2 x3 x4 x5) K=qv4 D n (fun x0 x1 x2 x3 x4 x5=>LQ qc D n 148 [.r,.l,.r,.l] m (qid x0 x1 x2 x3 x4 x5) K) (fun v0_0 v0_1 v0_2=>K (Ex.ret) (qmh v0_0 v0_1 v0_2)) (fun v1_0 v1_1=>K (Ex.exit 0) (ql6 v1_0 v1_1)) x0 x1 x2 x3 x4 x5:=by kernel_rfl
theorem q33 (D:DX)(n:Nat) (K:Ex→St→Option (Out ctx 148)):∀ (m:Nat) (x0:List Int) (x1:Int) (x2:List Int) (x3:Int) (x4:Int) (x5:tSch),LQ qc D n 148 [.r,.l,.r,.l] m (qid x0 x1 x2 x3 x4 x5) K=qic D n (fun v0_0 v0_1 v0_2=>K (Ex.ret) (qmh v0_0 v0_1 v0_2)) (fun v1_0 v1_1=>K (Ex.exit 0) (ql6 v1_0 v1_1)) m x0 x1 x2 x3 x4 x5
 | 0,x0,x1,x2,x3,x4,x5=>qy ..
 | m+1,x0,x1,x2,x3,x4,x5=>by
  have ih:(fun x0 x1 x2 x3 x4 x5=>LQ qc D n 148 [.r,.l,.r,.l] m (qid x0 x1 x2 x3 x4 x5) K)=qic D n (fun v0_0 v0_1 v0_2=>K (Ex.ret) (qmh v0_0 v0_1 v0_2)) (fun v1_0 v1_1=>K (Ex.exit 0) (ql6 v1_0 v1_1)) m:=by funext x0 x1 x2 x3 x4 x5;exact q33 D n K m x0 x1 x2 x3 x4 x5
  rw[qbe1]
  rw[ih];rfl
theorem qbb8 (D:DX)(n:Nat) (v0_0:List Int) (v0_1:Int) (v0_2:Bool) :
 (CQ qc D n 148 [] [.r,.l,.r,.l] (qh qc 148)) (Ex.ret) (qmh v0_0 v0_1 v0_2)=q2y D n v0_0 v0_1 v0_2:=by kernel_rfl
theorem qbdi (D:DX)(n:Nat) (v1_0:List Int) (v1_1:Int) :
 (CQ qc D n 148 [] [.r,.l,.r,.l] (qh qc 148)) (Ex.exit 0) (ql6 v1_0 v1_1)=qr6 D n v1_0 v1_1:=by kernel_rfl
theorem qbb2 (D:DX)(n:Nat) (x0:List Int) (x1:Int) (x2:List Int) (x3:Int) (x4:Int) (x5:tSch) :
 LQ qc D n 148 [.r,.l,.r,.l] n (qid x0 x1 x2 x3 x4 x5) (CQ qc D n 148 [] [.r,.l,.r,.l] (qh qc 148))=qt8 D n x0 x1 x2 x3 x4 x5:=by
 rw[q33]
 simp only[qbb8,qbdi]
 rfl
theorem qbi5 (D:DX)(n:Nat) (a0:tSch) (a1:List Int) (a2:Int):rfC qc D n 148 (a0,(a1,(a2,())))=qyh D n a0 a1 a2:=by
 have h:rfC qc D n 148 (a0,(a1,(a2,())))=qy1 D n (fun x0 x1 x2 x3 x4 x5=>LQ qc D n 148 [.r,.l,.r,.l] n (qid x0 x1 x2 x3 x4 x5) (CQ qc D n 148 [] [.r,.l,.r,.l] (qh qc 148))) a0 a1 a2:=by kernel_rfl
 rw[h]
 simp only[qbb2]
 rfl

def q4v (D:DX)(n:Nat) (a0:ByteArray×List Int×Bool×Unit) (a1:ByteArray×List Int×Bool×Unit):Option ((Bool×Unit)×Unit):=some ((List.beq (ByteArray.toList (Prod.fst a0)) (ByteArray.toList (Prod.fst a1)),()),())
def quf (D:DX)(n:Nat) (a0:ByteArray×List Int×Bool×Unit) (a1:ByteArray×List Int×Bool×Unit):Option ((Bool×Unit)×Unit):=q4v D n a0 a1
theorem qbft (D:DX)(n:Nat) (a0:ByteArray×List Int×Bool×Unit) (a1:ByteArray×List Int×Bool×Unit):rfC qc D n 149 (a0,(a1,()))=quf D n a0 a1:=by kernel_rfl

def qnq (D:DX)(n:Nat) (a1:Clo) (a0:List Int):Option ((Bool×Unit)×Unit):=qi (qjv D a0 a1) fun b↦some ((decide (Prod.fst (Prod.fst b)≥0),()),())
def qhr (D:DX)(n:Nat) (a0:List Int) (a1:Clo):Option ((Bool×Unit)×Unit):=qnq D n a1 a0
theorem qzv (D:DX)(n:Nat) (a0:List Int) (a1:Clo):rfC qc D n 150 (a0,(a1,()))=qhr D n a0 a1:=by kernel_rfl

def q4y (D:DX)(n:Nat) (a0:Int) (a1:tSch):Option ((Bool×Unit)×Unit):=br (decide (0≤a0)&&decide (a0<(↑(List.length (Prod.fst a1)):Int))) (some ((Prod.fst (Prod.snd (Prod.snd (List.getD (Prod.fst a1) (Int.toNat a0) (ByteArray.empty,0,false,())))),()),())) none
def quc (D:DX)(n:Nat) (a0:Int) (a1:tSch):Option ((Bool×Unit)×Unit):=q4y D n a0 a1
theorem qbe8 (D:DX)(n:Nat) (a0:Int) (a1:tSch):rfC qc D n 151 (a0,(a1,()))=quc D n a0 a1:=by kernel_rfl

def qr9 (D:DX)(n:Nat) (go:qe→Int→Int→qe→Option ((qe×Unit)×Unit)) (K0:qe→Option ((qe×Unit)×Unit)) (x0:qe) (x1:Int) (x2:Int) (x3:qe):Option ((qe×Unit)×Unit):=br (decide (x2<x1)) (br (decide (0≤x2)&&decide (x2<(↑(List.length x0):Int))) (qi (qcl D (List.getD x0 (Int.toNat x2) [])) fun b↦br (decide (List.length x3+1≤qbl)) (go x0 x1 (IntKind.wrap IntKind.i64 (x2+1)) (x3++[Prod.fst (Prod.fst b)])) none) none) (K0 x3)
def qf2 (D:DX)(n:Nat) (K0:qe→Option ((qe×Unit)×Unit)):Nat→(qe)→(Int)→(Int)→(qe)→Option ((qe×Unit)×Unit) | 0=>(fun x0 x1 x2 x3=>none) | m+1=>(fun x0 x1 x2 x3=>qr9 D n (qf2 D n K0 m) K0 x0 x1 x2 x3)
def qzq (D:DX)(n:Nat) (v0_0:qe):Option ((qe×Unit)×Unit):=some ((v0_0,()),())
def qqi (D:DX)(n:Nat):(qe)→(Int)→(Int)→(qe)→Option ((qe×Unit)×Unit):=(fun x0 x1 x2 x3=>qf2 D n (fun v0_0=>qzq D n v0_0) n x0 x1 x2 x3)
def qt7 (D:DX)(n:Nat) (lp0:qe→Int→Int→qe→Option ((qe×Unit)×Unit)) (a0:qe):Option ((qe×Unit)×Unit):=lp0 a0 (↑(List.length a0):Int) 0 []
def qub (D:DX)(n:Nat) (a0:qe):Option ((qe×Unit)×Unit):=qt7 D n (qqi D n) a0
def qgk (x0:qe) (x1:Int) (x2:Int) (x3:qe):St:=stq 20 [(3,AV.brw 3 [] 0),(7,AV.val (Ty.sl (Ty.sl yV)) x0),(8,avI x1),(9,avI x2)] [(3,Root.mk (Ty.sl (Ty.sl yV)) (Mk.own 0 (Mk.own 0 (Mk.pr Mk.no (Mk.pr Mk.no (Mk.pr Mk.no Mk.no))))) x3 false)] 
def qj7 (v0_0:qe):St:=stq 20 [(3,AV.brw 3 [] 0)] [(3,Root.mk (Ty.sl (Ty.sl yV)) (Mk.own 0 (Mk.own 0 (Mk.pr Mk.no (Mk.pr Mk.no (Mk.pr Mk.no Mk.no))))) v0_0 false)] 
theorem qba9 (D:DX)(n:Nat) (m:Nat) (K:Ex→St→Option (Out ctx 152)) (x0:qe) (x1:Int) (x2:Int) (x3:qe) :
 LQ qc D n 152 [.r,.r,.l,.r,.l] (m+1) (qgk x0 x1 x2 x3) K=qr9 D n (fun x0 x1 x2 x3=>LQ qc D n 152 [.r,.r,.l,.r,.l] m (qgk x0 x1 x2 x3) K) (fun v0_0=>K (Ex.exit 0) (qj7 v0_0)) x0 x1 x2 x3:=by kernel_rfl
theorem qz4 (D:DX)(n:Nat) (K:Ex→St→Option (Out ctx 152)):∀ (m:Nat) (x0:qe) (x1:Int) (x2:Int) (x3:qe),LQ qc D n 152 [.r,.r,.l,.r,.l] m (qgk x0 x1 x2 x3) K=qf2 D n (fun v0_0=>K (Ex.exit 0) (qj7 v0_0)) m x0 x1 x2 x3
 | 0,x0,x1,x2,x3=>qy ..
 | m+1,x0,x1,x2,x3=>by
  have ih:(fun x0 x1 x2 x3=>LQ qc D n 152 [.r,.r,.l,.r,.l] m (qgk x0 x1 x2 x3) K)=qf2 D n (fun v0_0=>K (Ex.exit 0) (qj7 v0_0)) m:=by funext x0 x1 x2 x3;exact qz4 D n K m x0 x1 x2 x3
  rw[qba9]
  rw[ih];rfl
theorem q90 (D:DX)(n:Nat) (v0_0:qe) :
 (CQ qc D n 152 [] [.r,.r,.l,.r,.l] (qh qc 152)) (Ex.exit 0) (qj7 v0_0)=qzq D n v0_0:=by kernel_rfl
theorem qbao (D:DX)(n:Nat) (x0:qe) (x1:Int) (x2:Int) (x3:qe) :
 LQ qc D n 152 [.r,.r,.l,.r,.l] n (qgk x0 x1 x2 x3) (CQ qc D n 152 [] [.r,.r,.l,.r,.l] (qh qc 152))=qqi D n x0 x1 x2 x3:=by
 rw[qz4]
 simp only[q90]
 rfl
theorem qbga (D:DX)(n:Nat) (a0:qe):rfC qc D n 152 (a0,())=qub D n a0:=by
 have h:rfC qc D n 152 (a0,())=qt7 D n (fun x0 x1 x2 x3=>LQ qc D n 152 [.r,.r,.l,.r,.l] n (qgk x0 x1 x2 x3) (CQ qc D n 152 [] [.r,.r,.l,.r,.l] (qh qc 152))) a0:=by kernel_rfl
 rw[h]
 simp only[qbao]
 rfl

def q85 (D:DX)(n:Nat) (a0:qd) (a1:(tSch)×qe×Unit) (a2:qd):Option ((Bool×Unit)×Unit):=qi (qgy D (Prod.fst a1) a0) fun b↦qi (qdc D (Prod.fst (Prod.fst b)) a2) fun b↦some ((Prod.fst (Prod.fst b),()),())
def q10 (D:DX)(n:Nat) (a0:qd) (a1:(tSch)×qe×Unit) (a2:qd):Option ((Bool×Unit)×Unit):=q85 D n a0 a1 a2
theorem qbm5 (D:DX)(n:Nat) (a0:qd) (a1:(tSch)×
 qe×Unit) (a2:qd):rfC qc D n 153 (a0,(a1,(a2,())))=q10 D n a0 a1 a2:=by kernel_rfl

def q8g (D:DX)(n:Nat) (a0:Int×Int×ByteArray×Unit):Option ((Bool×Unit)×Unit):=br (decide (Prod.fst a0=0)) (some ((bif decide (Prod.fst (Prod.snd a0)=0) then List.beq (ByteArray.toList (Prod.fst (Prod.snd (Prod.snd a0)))) (ByteArray.toList (ByteArray.mk #[])) else false,()),())) (br (decide (Prod.fst a0=1)) (qi (qgp D (Prod.fst (Prod.snd a0)) 0 1) fun b↦some ((bif Prod.fst (Prod.fst b) then List.beq (ByteArray.toList (Prod.fst (Prod.snd (Prod.snd a0)))) (ByteArray.toList (ByteArray.mk #[])) else false,()),())) (br (decide (Prod.fst a0=2)) (qi (qgp D (Prod.fst (Prod.snd a0)) (-1000000000000) 1000000000000) fun b↦some ((bif Prod.fst (Prod.fst b) then List.beq (ByteArray.toList (Prod.fst (Prod.snd (Prod.snd a0)))) (ByteArray.toList (ByteArray.mk #[])) else false,()),())) (br (decide (Prod.fst a0=3)) (some ((bif decide (Prod.fst (Prod.snd a0)=0) then decide ((↑(ByteArray.size (Prod.fst (Prod.snd (Prod.snd a0)))):Int)≤20) else false,()),())) (some ((false,()),())))))
def q0p (D:DX)(n:Nat) (a0:Int×Int×ByteArray×Unit):Option ((Bool×Unit)×Unit):=q8g D n a0
theorem qbmu (D:DX)(n:Nat) (a0:Int×Int×ByteArray×Unit):rfC qc D n 158 (a0,())=q0p D n a0:=by kernel_rfl
end
end Go.G


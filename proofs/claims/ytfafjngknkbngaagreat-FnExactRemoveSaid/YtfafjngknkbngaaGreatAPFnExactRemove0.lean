import Derived.Test.YtfafjngknkbngaaGreatAV3
set_option linter.unusedVariables false
set_option linter.unusedSimpArgs false
set_option linter.unusedSectionVars false
namespace Go.G
open Go Go.V
abbrev DX:=Den ctx
abbrev tVal:=Int×Int×ByteArray×Unit
abbrev qd:=List tVal
abbrev qf:=List qd
abbrev tIx:=ByteArray×List Int×Bool×Unit
abbrev tIxs:=List tIx
abbrev tCol:=ByteArray×Int×Bool×Unit
abbrev qk:=List tCol
abbrev tSch:=qk×List Int×tIxs×Unit
abbrev avI:=AV.val (Ty.int IntKind.i64)
abbrev yI:=Ty.int IntKind.i64
abbrev yC:=Ty.pair Ty.str (Ty.pair yI (Ty.pair Ty.bool Ty.unit))
abbrev yX:=Ty.pair Ty.str (Ty.pair (Ty.sl yI) (Ty.pair Ty.bool Ty.unit))
abbrev yV:=Ty.pair yI (Ty.pair yI (Ty.pair Ty.str Ty.unit))
abbrev yS:=Ty.pair (Ty.sl yC) (Ty.pair (Ty.sl yI) (Ty.pair (Ty.sl yX) Ty.unit))
end Go.G
namespace Go.G
open Go Go.V
noncomputable def qxw (D:Den ctx) (a0:(tSch)×qf×Unit) (a1:qd):Option ((Bool×Unit)×Unit):=D 7 (a0,(a1,()))
noncomputable def q47 (D:Den ctx) (a0:(tSch)×qf×Unit):Option ((Bool×Unit)×Unit):=D 17 (a0,())
noncomputable def qmb (D:Den ctx) (a0:tSch) (a1:qd):Option ((qd×Unit)×Unit):=D 23 (a0,(a1,()))
noncomputable def qu5 (D:Den ctx) (a0:(tSch)×qf×Unit) (a1:qd):Option ((((tSch)×qf×Unit)×Int×Unit)×Unit):=D 24 (a0,(a1,()))
noncomputable def q22 (D:Den ctx) (a0:(tSch)×qf×Unit) (a1:qd):Option ((((tSch)×qf×Unit)×Int×Unit)×Unit):=D 30 (a0,(a1,()))
noncomputable def q5o (D:Den ctx) (a0:(tSch)×qf×Unit):Option ((Bool×Unit)×Unit):=D 41 (a0,())
noncomputable def quj (D:Den ctx) (a0:(tSch)×qf×Unit) (a1:Int):Option ((Int×Unit)×Unit):=D 53 (a0,(a1,()))
noncomputable def qmo (D:Den ctx) (a0:qd) (a1:Int):Option ((Int×Unit)×Unit):=D 54 (a0,(a1,()))
noncomputable def qgw (D:Den ctx) (a0:(tSch)×qf×Unit):Option ((((tSch)×qf×Unit)×Unit)×Unit):=D 55 (a0,())
noncomputable def qe4 (D:Den ctx) (a0:qd):Option ((qd×Unit)×Unit):=D 56 (a0,())
noncomputable def qhd (D:Den ctx) (a0:(tSch)×qf×Unit) (a1:(tSch)×qf×Unit):Option ((Bool×Unit)×Unit):=D 57 (a0,(a1,()))
noncomputable def qmy (D:Den ctx) (a0:qd) (a1:qd):Option ((Bool×Unit)×Unit):=D 58 (a0,(a1,()))
noncomputable def qla (D:Den ctx) (a0:(tSch)×qf×Unit) (a1:Int):Option ((Int×Unit)×((tSch)×qf×Unit)×Unit):=D 59 (a0,(a1,()))
noncomputable def qn0 (D:Den ctx) (a0:qd) (a1:Int):Option ((Int×Unit)×qd×Unit):=D 60 (a0,(a1,()))
noncomputable def qk2 (D:Den ctx) (a0:(tSch)×qf×Unit) (a1:Int):Option ((Int×Unit)×Unit):=D 61 (a0,(a1,()))
noncomputable def qgo (D:Den ctx) (a0:Int) (a1:Int) (a2:Int):Option ((Bool×Unit)×Unit):=D 68 (a0,(a1,(a2,())))
noncomputable def q41 (D:Den ctx) (a0:tSch) (a1:qd):Option ((Bool×Unit)×Unit):=D 77 (a0,(a1,()))
noncomputable def qvp (D:Den ctx) (a0:qd) (a1:qd):Option ((Bool×Unit)×Unit):=D 78 (a0,(a1,()))
noncomputable def qb8 (D:Den ctx) (a0:qf) (a1:Clo):Option ((Bool×Unit)×Unit):=D 79 (a0,(a1,()))
noncomputable def q8e (D:Den ctx) (a0:qd) (a1:(tSch)×qf×Unit) (a2:qd):Option ((Bool×Unit)×Unit):=D 80 (a0,(a1,(a2,())))
noncomputable def q4y (D:Den ctx) (a0:tSch) (a1:qd) (a2:qd):Option ((Bool×Unit)×Unit):=D 81 (a0,(a1,(a2,())))
noncomputable def qqw (D:Den ctx) (a0:tSch):Option ((Bool×Unit)×Unit):=D 82 (a0,())
noncomputable def qqq (D:Den ctx) (a0:(tSch)×qf×Unit):Option ((((tSch)×qf×Unit)×Unit)×Unit):=D 83 (a0,())
noncomputable def q5b (D:Den ctx) (a0:(tSch)×qf×Unit) (a1:qd):Option ((Int×Unit)×Unit):=D 84 (a0,(a1,()))
noncomputable def qcv (D:Den ctx) (a0:qf) (a1:Clo):Option ((Int×Unit)×Unit):=D 86 (a0,(a1,()))
noncomputable def qem (D:Den ctx) (a0:qd):Option ((qd×Unit)×Unit):=D 89 (a0,())
noncomputable def qoe (D:Den ctx) (a0:qd) (a1:List Int):Option ((qd×Unit)×Unit):=D 94 (a0,(a1,()))
noncomputable def q0z (D:Den ctx) (a0:(tSch)×qf×Unit):Option ((((tSch)×qf×Unit)×Unit)×Unit):=D 99 (a0,())
noncomputable def q5l (D:Den ctx) (a0:tSch) (a1:qd):Option ((Bool×Unit)×Unit):=D 100 (a0,(a1,()))
noncomputable def q58 (D:Den ctx) (a0:(tSch)×qf×Unit) (a1:qd):Option ((Int×Unit)×Unit):=D 101 (a0,(a1,()))
noncomputable def qm7 (D:Den ctx) (a0:tSch) (a1:qd):Option ((qd×Unit)×Unit):=D 102 (a0,(a1,()))
noncomputable def qwa (D:Den ctx) (a0:qd) (a1:qd):Option ((Bool×Unit)×Unit):=D 104 (a0,(a1,()))
noncomputable def qog (D:Den ctx) (a0:qf):Option ((qf×Unit)×Unit):=D 105 (a0,())
noncomputable def qud (D:Den ctx) (a0:tSch):Option (((tSch)×Unit)×Unit):=D 107 (a0,())
noncomputable def qz8 (D:Den ctx) (a0:tSch):Option (((tSch)×Unit)×Unit):=D 108 (a0,())
noncomputable def qx8 (D:Den ctx) (a0:tSch) (a1:qd) (a2:qd):Option ((Bool×Unit)×Unit):=D 111 (a0,(a1,(a2,())))
noncomputable def qqx (D:Den ctx) (a0:tSch):Option ((Bool×Unit)×Unit):=D 112 (a0,())
noncomputable def qgn (D:Den ctx) (a0:Int) (a1:Int) (a2:Int):Option ((Bool×Unit)×Unit):=D 117 (a0,(a1,(a2,())))
noncomputable def qn6 (D:Den ctx) (a0:qd) (a1:List Int):Option ((qd×Unit)×Unit):=D 119 (a0,(a1,()))
noncomputable def qxq (D:Den ctx) (a0:tSch) (a1:Int):Option ((Int×Unit)×Unit):=D 120 (a0,(a1,()))
noncomputable def qvn (D:Den ctx) (a0:qf) (a1:Int):Option ((Int×Unit)×Unit):=D 121 (a0,(a1,()))
noncomputable def qsu (D:Den ctx) (a0:Int×Int×ByteArray×Unit) (a1:Int):Option ((Int×Unit)×Unit):=D 122 (a0,(a1,()))
noncomputable def qxt (D:Den ctx) (a0:tSch):Option (((tSch)×Unit)×Unit):=D 123 (a0,())
noncomputable def qwd (D:Den ctx) (a0:qf):Option ((qf×Unit)×Unit):=D 124 (a0,())
noncomputable def qs8 (D:Den ctx) (a0:Int×Int×ByteArray×Unit):Option ((tVal×Unit)×Unit):=D 125 (a0,())
noncomputable def qw8 (D:Den ctx) (a0:tSch) (a1:tSch):Option ((Bool×Unit)×Unit):=D 126 (a0,(a1,()))
noncomputable def qvt (D:Den ctx) (a0:qf) (a1:qf):Option ((Bool×Unit)×Unit):=D 127 (a0,(a1,()))
noncomputable def qs9 (D:Den ctx) (a0:Int×Int×ByteArray×Unit) (a1:Int×Int×ByteArray×Unit):Option ((Bool×Unit)×Unit):=D 128 (a0,(a1,()))
noncomputable def qug (D:Den ctx) (a0:tSch) (a1:Int):Option ((Int×Unit)×(tSch)×Unit):=D 129 (a0,(a1,()))
noncomputable def qsl (D:Den ctx) (a0:qf) (a1:Int):Option ((Int×Unit)×qf×Unit):=D 130 (a0,(a1,()))
noncomputable def qe2 (D:Den ctx) (a0:Int):Option ((ByteArray×Unit)×Unit):=D 131 (a0,())
noncomputable def qnz (D:Den ctx) (a0:tSch) (a1:Int):Option ((Int×Unit)×Unit):=D 132 (a0,(a1,()))
noncomputable def qma (D:Den ctx) (a0:qf) (a1:Int):Option ((Int×Unit)×Unit):=D 133 (a0,(a1,()))
noncomputable def qix (D:Den ctx) (a0:List Int):Option ((List Int×Unit)×Unit):=D 138 (a0,())
noncomputable def qzz (D:Den ctx) (a0:Int×Int×ByteArray×Unit):Option ((Bool×Unit)×Unit):=D 139 (a0,())
noncomputable def qcb (D:Den ctx) (a0:qd) (a1:qd) (a2:Clo):Option ((Int×Unit)×Unit):=D 140 (a0,(a1,(a2,())))
noncomputable def qzv (D:Den ctx) (a0:Int×Int×ByteArray×Unit) (a1:Int×Int×ByteArray×Unit):Option ((Int×Unit)×Unit):=D 141 (a0,(a1,()))
noncomputable def qco (D:Den ctx) (a0:tIxs) (a1:Clo):Option ((Bool×Unit)×Unit):=D 142 (a0,(a1,()))
noncomputable def q7l (D:Den ctx) (a0:ByteArray×List Int×Bool×Unit) (a1:qd) (a2:qd):Option ((Bool×Unit)×Unit):=D 143 (a0,(a1,(a2,())))
noncomputable def qd4 (D:Den ctx) (a0:qd) (a1:Int×Int×ByteArray×Unit):Option ((Bool×Unit)×Unit):=D 144 (a0,(a1,()))
noncomputable def qdb (D:Den ctx) (a0:qd) (a1:qd):Option ((Bool×Unit)×Unit):=D 145 (a0,(a1,()))
noncomputable def qo1 (D:Den ctx) (a0:ByteArray):Option ((Bool×Unit)×Unit):=D 146 (a0,())
noncomputable def q5g (D:Den ctx) (a0:tSch) (a1:ByteArray):Option ((Int×Unit)×Unit):=D 147 (a0,(a1,()))
noncomputable def qqv (D:Den ctx) (a0:tSch) (a1:List Int) (a2:Int):Option ((Bool×Unit)×Unit):=D 148 (a0,(a1,(a2,())))
noncomputable def q3m (D:Den ctx) (a0:ByteArray×List Int×Bool×Unit) (a1:ByteArray×List Int×Bool×Unit):Option ((Bool×Unit)×Unit):=D 149 (a0,(a1,()))
noncomputable def qhm (D:Den ctx) (a0:List Int) (a1:Clo):Option ((Bool×Unit)×Unit):=D 150 (a0,(a1,()))
noncomputable def q3j (D:Den ctx) (a0:Int) (a1:tSch):Option ((Bool×Unit)×Unit):=D 151 (a0,(a1,()))
noncomputable def qtx (D:Den ctx) (a0:qf):Option ((qf×Unit)×Unit):=D 152 (a0,())
noncomputable def q78 (D:Den ctx) (a0:qd) (a1:(tSch)×qf×Unit) (a2:qd):Option ((Bool×Unit)×Unit):=D 153 (a0,(a1,(a2,())))
noncomputable def q05 (D:Den ctx) (a0:Int×Int×ByteArray×Unit):Option ((Bool×Unit)×Unit):=D 158 (a0,())
noncomputable def qs0 (D:Den ctx) (a0:qd) (a1:qd):Option ((Bool×Unit)×Unit):=D 159 (a0,(a1,()))
noncomputable def qoo (D:Den ctx) (a0:Int×Int×ByteArray×Unit) (a1:Int×Int×ByteArray×Unit):Option ((Bool×Unit)×Unit):=D 160 (a0,(a1,()))
noncomputable def qvg (D:Den ctx) (a0:Int×Int×ByteArray×Unit) (a1:Int×Int×ByteArray×Unit):Option ((Bool×Unit)×Unit):=D 161 (a0,(a1,()))
noncomputable def qfv (D:Den ctx) (a0:qk):Option ((qk×Unit)×Unit):=D 164 (a0,())
noncomputable def q0h (D:Den ctx) (a0:qd):Option ((Bool×Unit)×Unit):=D 165 (a0,())
noncomputable def qo9 (D:Den ctx) (a0:ByteArray):Option ((Bool×Unit)×Unit):=D 166 (a0,())
noncomputable def q51 (D:Den ctx) (a0:tSch) (a1:ByteArray):Option ((Int×Unit)×Unit):=D 167 (a0,(a1,()))
noncomputable def qou (D:Den ctx) (a0:tSch) (a1:List Int) (a2:Int):Option ((Bool×Unit)×Unit):=D 168 (a0,(a1,(a2,())))
noncomputable def qtd (D:Den ctx) (a0:tSch):Option ((Bool×Unit)×Unit):=D 169 (a0,())
noncomputable def q2o (D:Den ctx) (a0:qk) (a1:Int):Option ((Int×Unit)×Unit):=D 174 (a0,(a1,()))
noncomputable def qu9 (D:Den ctx) (a0:List Int) (a1:Int):Option ((Int×Unit)×Unit):=D 175 (a0,(a1,()))
noncomputable def qx0 (D:Den ctx) (a0:tIxs) (a1:Int):Option ((Int×Unit)×Unit):=D 176 (a0,(a1,()))
noncomputable def q2q (D:Den ctx) (a0:qk):Option ((qk×Unit)×Unit):=D 177 (a0,())
noncomputable def qvc (D:Den ctx) (a0:List Int):Option ((List Int×Unit)×Unit):=D 178 (a0,())
noncomputable def qxz (D:Den ctx) (a0:tIxs):Option ((tIxs×Unit)×Unit):=D 179 (a0,())
noncomputable def q25 (D:Den ctx) (a0:qk) (a1:qk):Option ((Bool×Unit)×Unit):=D 180 (a0,(a1,()))
noncomputable def qu4 (D:Den ctx) (a0:List Int) (a1:List Int):Option ((Bool×Unit)×Unit):=D 181 (a0,(a1,()))
noncomputable def qx9 (D:Den ctx) (a0:tIxs) (a1:tIxs):Option ((Bool×Unit)×Unit):=D 182 (a0,(a1,()))
noncomputable def qxl (D:Den ctx) (a0:qk) (a1:Int):Option ((Int×Unit)×qk×Unit):=D 183 (a0,(a1,()))
noncomputable def qmj (D:Den ctx) (a0:List Int) (a1:Int):Option ((Int×Unit)×List Int×Unit):=D 184 (a0,(a1,()))
noncomputable def qtz (D:Den ctx) (a0:tIxs) (a1:Int):Option ((Int×Unit)×tIxs×Unit):=D 185 (a0,(a1,()))
noncomputable def qxh (D:Den ctx) (a0:qk) (a1:Int):Option ((Int×Unit)×Unit):=D 186 (a0,(a1,()))
noncomputable def qmf (D:Den ctx) (a0:List Int) (a1:Int):Option ((Int×Unit)×Unit):=D 187 (a0,(a1,()))
noncomputable def quf (D:Den ctx) (a0:tIxs) (a1:Int):Option ((Int×Unit)×Unit):=D 188 (a0,(a1,()))
noncomputable def qt8 (D:Den ctx) (a0:qd) (a1:Int):Option ((Int×Unit)×Unit):=D 189 (a0,(a1,()))
noncomputable def qd0 (D:Den ctx) (a0:tIxs) (a1:Clo):Option ((Int×Unit)×Unit):=D 193 (a0,(a1,()))
noncomputable def qew (D:Den ctx) (a0:qd) (a1:Int×Int×ByteArray×Unit):Option ((Int×Unit)×Unit):=D 194 (a0,(a1,()))
noncomputable def qex (D:Den ctx) (a0:qk) (a1:Clo):Option ((Int×Unit)×Unit):=D 195 (a0,(a1,()))
noncomputable def q8b (D:Den ctx) (a0:ByteArray×Int×Bool×Unit) (a1:ByteArray):Option ((Bool×Unit)×Unit):=D 196 (a0,(a1,()))
noncomputable def qj5 (D:Den ctx) (a0:List Int) (a1:Int):Option ((Bool×Unit)×Unit):=D 197 (a0,(a1,()))
noncomputable def qjq (D:Den ctx) (a0:List Int) (a1:Clo):Option ((Int×Unit)×Unit):=D 198 (a0,(a1,()))
noncomputable def qw1 (D:Den ctx) (a0:ByteArray×Int×Bool×Unit) (a1:Int):Option ((Int×Unit)×Unit):=D 201 (a0,(a1,()))
noncomputable def qs3 (D:Den ctx) (a0:ByteArray×List Int×Bool×Unit) (a1:Int):Option ((Int×Unit)×Unit):=D 202 (a0,(a1,()))
noncomputable def qyk (D:Den ctx) (a0:ByteArray×Int×Bool×Unit):Option ((tCol×Unit)×Unit):=D 203 (a0,())
noncomputable def qs6 (D:Den ctx) (a0:ByteArray×List Int×Bool×Unit):Option ((tIx×Unit)×Unit):=D 204 (a0,())
noncomputable def qyv (D:Den ctx) (a0:ByteArray×Int×Bool×Unit) (a1:ByteArray×Int×Bool×Unit):Option ((Bool×Unit)×Unit):=D 205 (a0,(a1,()))
noncomputable def qs1 (D:Den ctx) (a0:ByteArray×List Int×Bool×Unit) (a1:ByteArray×List Int×Bool×Unit):Option ((Bool×Unit)×Unit):=D 206 (a0,(a1,()))
noncomputable def qng (D:Den ctx) (a0:List Int) (a1:Int):Option ((Int×Unit)×Unit):=D 210 (a0,(a1,()))
noncomputable def qre (D:Den ctx) (a0:qf) (a1:Int) (a2:qf):Option ((qf×Unit)×Unit):=D 88 (a0,(a1,(a2,())))
noncomputable def qis (D:Den ctx) (a0:qf) (a1:Int) (a2:Int):Option ((qf×Unit)×Unit):=D 95 (a0,(a1,(a2,())))
noncomputable def q37 (D:Den ctx) (a0:ByteArray) (a1:ByteArray):Option ((Int×Unit)×Unit):=D 192 (a0,(a1,()))
end Go.G

namespace Go.G
set_option maxRecDepth 100000
set_option maxHeartbeats 0
open Go Go.V
noncomputable section
def qyb (D:DX)(n:Nat) (a0:(tSch)×qf×Unit) (a1:qd):Option ((Bool×Unit)×Unit):=qj (quj D a0 1048576) fun b↦br (decide (Prod.fst (Prod.fst b)<0)) (some ((true,()),())) (qj (qmo D a1 (Prod.fst (Prod.fst b))) fun b↦br (decide (Prod.fst (Prod.fst b)<0)) (some ((true,()),())) (qj (qgw D a0) fun b↦qj (qe4 D a1) fun b_1↦qj (q22 D (Prod.fst (Prod.fst b)) (Prod.fst (Prod.fst b_1))) fun b↦qj (qgw D a0) fun b_2↦qj (qe4 D a1) fun b_3↦qj (qu5 D ((Prod.fst (Prod.fst (Prod.fst (Prod.fst b_2))),Prod.fst (Prod.snd (Prod.fst (Prod.fst (Prod.fst b_2)))),Prod.fst (Prod.snd (Prod.snd (Prod.fst (Prod.fst (Prod.fst b_2))))),()),Prod.fst (Prod.snd (Prod.fst (Prod.fst b_2))),()) (Prod.fst (Prod.fst b_3))) fun b_4↦qj (qhd D ((Prod.fst (Prod.fst (Prod.fst (Prod.fst b_4))),Prod.fst (Prod.snd (Prod.fst (Prod.fst (Prod.fst b_4)))),Prod.fst (Prod.snd (Prod.snd (Prod.fst (Prod.fst (Prod.fst b_4))))),()),Prod.fst (Prod.snd (Prod.fst (Prod.fst b_4))),()) (Prod.fst (Prod.fst (Prod.fst b)),Prod.fst (Prod.snd (Prod.fst (Prod.fst b))),())) fun b_5↦br (bif !Prod.fst (Prod.fst b_5) then true else Prod.fst (Prod.snd (Prod.fst b_4)) != Prod.fst (Prod.snd (Prod.fst b))) (some ((false,()),())) (qj (qgw D a0) fun b_6↦qj (qhd D ((Prod.fst (Prod.fst (Prod.fst (Prod.fst b_2))),Prod.fst (Prod.snd (Prod.fst (Prod.fst (Prod.fst b_2)))),Prod.fst (Prod.snd (Prod.snd (Prod.fst (Prod.fst (Prod.fst b_2))))),()),Prod.fst (Prod.snd (Prod.fst (Prod.fst b_2))),()) ((Prod.fst (Prod.fst (Prod.fst (Prod.fst b_6))),Prod.fst (Prod.snd (Prod.fst (Prod.fst (Prod.fst b_6)))),Prod.fst (Prod.snd (Prod.snd (Prod.fst (Prod.fst (Prod.fst b_6))))),()),Prod.fst (Prod.snd (Prod.fst (Prod.fst b_6))),())) fun b_7↦br (!Prod.fst (Prod.fst b_7)) (some ((false,()),())) (qj (qe4 D a1) fun b_8↦qj (qmy D (Prod.fst (Prod.fst b_3)) (Prod.fst (Prod.fst b_8))) fun b_9↦br (!Prod.fst (Prod.fst b_9)) (some ((false,()),())) (qj (qla D ((Prod.fst (Prod.fst (Prod.fst (Prod.fst b_2))),Prod.fst (Prod.snd (Prod.fst (Prod.fst (Prod.fst b_2)))),Prod.fst (Prod.snd (Prod.snd (Prod.fst (Prod.fst (Prod.fst b_2))))),()),Prod.fst (Prod.snd (Prod.fst (Prod.fst b_2))),()) 1) fun b_10↦qj (qn0 D (Prod.fst (Prod.fst b_3)) (Prod.fst (Prod.fst b_10))) fun b_11↦br (decide (Prod.fst (Prod.fst b_11)<0)) (some ((false,()),())) (qj (qhd D ((Prod.fst (Prod.fst (Prod.fst (Prod.fst b_4))),Prod.fst (Prod.snd (Prod.fst (Prod.fst (Prod.fst b_4)))),Prod.fst (Prod.snd (Prod.snd (Prod.fst (Prod.fst (Prod.fst b_4))))),()),Prod.fst (Prod.snd (Prod.fst (Prod.fst b_4))),()) (Prod.fst (Prod.fst (Prod.fst b)),Prod.fst (Prod.snd (Prod.fst (Prod.fst b))),())) fun b_12↦br (bif !Prod.fst (Prod.fst b_12) then true else Prod.fst (Prod.snd (Prod.fst b_4)) != Prod.fst (Prod.snd (Prod.fst b))) (some ((false,()),())) (qj (qla D ((Prod.fst (Prod.fst (Prod.fst (Prod.fst b_4))),Prod.fst (Prod.snd (Prod.fst (Prod.fst (Prod.fst b_4)))),Prod.fst (Prod.snd (Prod.snd (Prod.fst (Prod.fst (Prod.fst b_4))))),()),Prod.fst (Prod.snd (Prod.fst (Prod.fst b_4))),()) 1) fun b_13↦qj (qk2 D ((Prod.fst (Prod.fst (Prod.fst (Prod.snd b_13))),Prod.fst (Prod.snd (Prod.fst (Prod.fst (Prod.snd b_13)))),Prod.fst (Prod.snd (Prod.snd (Prod.fst (Prod.fst (Prod.snd b_13))))),()),Prod.fst (Prod.snd (Prod.fst (Prod.snd b_13))),()) 1) fun b_14↦br (decide (Prod.fst (Prod.fst b_14)<0)) (some ((false,()),())) (br (Prod.fst (Prod.fst b_14) != Prod.fst (Prod.fst b_13)) (some ((false,()),())) (qj (qgw D a0) fun b_15↦qj (qe4 D a1) fun b_16↦qj (qu5 D ((Prod.fst (Prod.fst (Prod.fst (Prod.fst b_15))),Prod.fst (Prod.snd (Prod.fst (Prod.fst (Prod.fst b_15)))),Prod.fst (Prod.snd (Prod.snd (Prod.fst (Prod.fst (Prod.fst b_15))))),()),Prod.fst (Prod.snd (Prod.fst (Prod.fst b_15))),()) (Prod.fst (Prod.fst b_16))) fun b_17↦qj (qhd D ((Prod.fst (Prod.fst (Prod.fst (Prod.fst b_17))),Prod.fst (Prod.snd (Prod.fst (Prod.fst (Prod.fst b_17)))),Prod.fst (Prod.snd (Prod.snd (Prod.fst (Prod.fst (Prod.fst b_17))))),()),Prod.fst (Prod.snd (Prod.fst (Prod.fst b_17))),()) (Prod.fst (Prod.fst (Prod.fst b)),Prod.fst (Prod.snd (Prod.fst (Prod.fst b))),())) fun b_18↦br (bif !Prod.fst (Prod.fst b_18) then true else Prod.fst (Prod.snd (Prod.fst b_17)) != Prod.fst (Prod.snd (Prod.fst b))) (some ((false,()),())) (qj (qk2 D ((Prod.fst (Prod.fst (Prod.fst (Prod.snd b_13))),Prod.fst (Prod.snd (Prod.fst (Prod.fst (Prod.snd b_13)))),Prod.fst (Prod.snd (Prod.snd (Prod.fst (Prod.fst (Prod.snd b_13))))),()),Prod.fst (Prod.snd (Prod.fst (Prod.snd b_13))),()) 1) fun b↦br (decide (Prod.fst (Prod.fst b)<0)) (some ((false,()),())) (br (Prod.fst (Prod.fst b) != Prod.fst (Prod.fst b_13)) (some ((false,()),())) (some ((true,()),())))))))))))))
def qoy (D:DX)(n:Nat) (a0:(tSch)×qf×Unit) (a1:qd):Option ((Bool×Unit)×Unit):=qyb D n a0 a1
theorem q9h (D:DX)(n:Nat) (a0:(tSch)×
 qf×Unit) (a1:qd):rfC qc D n 7 (a0,(a1,()))=qoy D n a0 a1:=by kernel_rfl

def q2m (D:DX)(n:Nat) (go:qf→Int→Int→(tSch)×qf×Unit→Option ((Bool×Unit)×Unit)) (K0:Bool→(tSch)×qf×Unit→Option ((Bool×Unit)×Unit)) (K1:(tSch)×qf×Unit→Option ((Bool×Unit)×Unit)) (x0:qf) (x1:Int) (x2:Int) (x3:(tSch)×qf×Unit):Option ((Bool×Unit)×Unit):=br (decide (x2<x1)) (br (decide (0≤x2)&&decide (x2<(↑(List.length x0):Int))) (qj (q41 D (Prod.fst x3) (List.getD x0 (Int.toNat x2) [])) fun b↦br (!Prod.fst (Prod.fst b)) (K0 false x3) (br (decide (x2>0)) (br (decide (0≤IntKind.wrap IntKind.i64 (x2 - 1))&&decide (IntKind.wrap IntKind.i64 (x2 - 1)<(↑(List.length (Prod.fst (Prod.snd x3))):Int))) (qj (qmb D (Prod.fst x3) (List.getD (Prod.fst (Prod.snd x3)) (Int.toNat (IntKind.wrap IntKind.i64 (x2 - 1))) [])) fun b↦qj (qmb D (Prod.fst x3) (List.getD x0 (Int.toNat x2) [])) fun b_1↦qj (qvp D (Prod.fst (Prod.fst b)) (Prod.fst (Prod.fst b_1))) fun b↦br (!Prod.fst (Prod.fst b)) (K0 false x3) (br (decide (0≤0)&&decide (0≤x2)&&decide (x2≤(↑(List.length (Prod.fst (Prod.snd x3))):Int))) (qj (qb8 D (List.drop (Int.toNat 0) (List.take (Int.toNat x2) (Prod.fst (Prod.snd x3)))) (Clo.mk 80 [CapV.rptr (Ty.pair (Ty.pair (Ty.sl (Ty.pair Ty.str (Ty.pair (Ty.int IntKind.i64) (Ty.pair Ty.bool Ty.unit)))) (Ty.pair (Ty.sl (Ty.int IntKind.i64)) (Ty.pair (Ty.sl (Ty.pair Ty.str (Ty.pair (Ty.sl (Ty.int IntKind.i64)) (Ty.pair Ty.bool Ty.unit)))) Ty.unit))) (Ty.pair (Ty.sl (Ty.sl (Ty.pair (Ty.int IntKind.i64) (Ty.pair (Ty.int IntKind.i64) (Ty.pair Ty.str Ty.unit))))) Ty.unit)) x3,CapV.rptr (Ty.sl (Ty.pair (Ty.int IntKind.i64) (Ty.pair (Ty.int IntKind.i64) (Ty.pair Ty.str Ty.unit)))) (List.getD x0 (Int.toNat x2) [])])) fun b↦br (Prod.fst (Prod.fst b)) (K0 false x3) (go x0 x1 (IntKind.wrap IntKind.i64 (x2+1)) x3)) none)) none) (br (decide (0≤0)&&decide (0≤x2)&&decide (x2≤(↑(List.length (Prod.fst (Prod.snd x3))):Int))) (qj (qb8 D (List.drop (Int.toNat 0) (List.take (Int.toNat x2) (Prod.fst (Prod.snd x3)))) (Clo.mk 80 [CapV.rptr (Ty.pair (Ty.pair (Ty.sl (Ty.pair Ty.str (Ty.pair (Ty.int IntKind.i64) (Ty.pair Ty.bool Ty.unit)))) (Ty.pair (Ty.sl (Ty.int IntKind.i64)) (Ty.pair (Ty.sl (Ty.pair Ty.str (Ty.pair (Ty.sl (Ty.int IntKind.i64)) (Ty.pair Ty.bool Ty.unit)))) Ty.unit))) (Ty.pair (Ty.sl (Ty.sl (Ty.pair (Ty.int IntKind.i64) (Ty.pair (Ty.int IntKind.i64) (Ty.pair Ty.str Ty.unit))))) Ty.unit)) x3,CapV.rptr (Ty.sl (Ty.pair (Ty.int IntKind.i64) (Ty.pair (Ty.int IntKind.i64) (Ty.pair Ty.str Ty.unit)))) (List.getD x0 (Int.toNat x2) [])])) fun b↦br (Prod.fst (Prod.fst b)) (K0 false x3) (go x0 x1 (IntKind.wrap IntKind.i64 (x2+1)) x3)) none))) none) (K1 x3)
def qlf (D:DX)(n:Nat) (K0:Bool→(tSch)×qf×Unit→Option ((Bool×Unit)×Unit)) (K1:(tSch)×qf×Unit→Option ((Bool×Unit)×Unit)):Nat→(qf)→(Int)→(Int)→((tSch)×qf×Unit)→Option ((Bool×Unit)×Unit) | 0=>(fun x0 x1 x2 x3=>none) | m+1=>(fun x0 x1 x2 x3=>q2m D n (qlf D n K0 K1 m) K0 K1 x0 x1 x2 x3)
def q6x (D:DX)(n:Nat) (v0_0:Bool) (v0_1:(tSch)×qf×Unit):Option ((Bool×Unit)×Unit):=some ((v0_0,()),())
def qx4 (D:DX)(n:Nat) (v1_0:(tSch)×qf×Unit):Option ((Bool×Unit)×Unit):=qj (qqw D (Prod.fst v1_0)) fun b↦some ((bif Prod.fst (Prod.fst b) then decide ((↑(List.length (Prod.fst (Prod.snd v1_0))):Int)≤12) else false,()),())
def qz3 (D:DX)(n:Nat):(qf)→(Int)→(Int)→((tSch)×qf×Unit)→Option ((Bool×Unit)×Unit):=(fun x0 x1 x2 x3=>qlf D n (fun v0_0 v0_1=>q6x D n v0_0 v0_1) (fun v1_0=>qx4 D n v1_0) n x0 x1 x2 x3)
def q5x (D:DX)(n:Nat) (lp0:qf→Int→Int→(tSch)×qf×Unit→Option ((Bool×Unit)×Unit)) (a0:(tSch)×qf×Unit):Option ((Bool×Unit)×Unit):=lp0 (Prod.fst (Prod.snd a0)) (↑(List.length (Prod.fst (Prod.snd a0))):Int) 0 a0
def q5k (D:DX)(n:Nat) (a0:(tSch)×qf×Unit):Option ((Bool×Unit)×Unit):=q5x D n (qz3 D n) a0
def qlh (x0:qf) (x1:Int) (x2:Int) (x3:(tSch)×qf×Unit):St:=stq 55 [(1,AV.addr 1 []),(6,AV.val (Ty.sl (Ty.sl yV)) x0),(7,avI x1),(8,avI x2)] [(1,Root.mk (Ty.pair yS (Ty.pair (Ty.sl (Ty.sl yV)) Ty.unit)) Mk.no x3 true)] 
def qq9 (v0_0:Bool) (v0_1:(tSch)×qf×Unit):St:=stq 55 [(1,AV.addr 1 []),(2,AV.val Ty.bool v0_0)] [(1,Root.mk (Ty.pair yS (Ty.pair (Ty.sl (Ty.sl yV)) Ty.unit)) Mk.no v0_1 true)] 
def qqu (v1_0:(tSch)×qf×Unit):St:=stq 55 [(1,AV.addr 1 [])] [(1,Root.mk (Ty.pair yS (Ty.pair (Ty.sl (Ty.sl yV)) Ty.unit)) Mk.no v1_0 true)] 
theorem qblz (D:DX)(n:Nat) (m:Nat) (K:Ex→St→Option (Out ctx 17)) (x0:qf) (x1:Int) (x2:Int) (x3:(tSch)×
 qf×Unit) :
 LQ qc D n 17 [.r,.l,.r,.l] (m+1) (qlh x0 x1 x2 x3) K=q2m D n (fun x0 x1 x2 x3=>LQ qc D n 17 [.r,.l,.r,.l] m (qlh x0 x1 x2 x3) K) (fun v0_0 v0_1=>K (Ex.ret) (qq9 v0_0 v0_1)) (fun v1_0=>K (Ex.exit 0) (qqu v1_0)) x0 x1 x2 x3:=by kernel_rfl
theorem q7q (D:DX)(n:Nat) (K:Ex→St→Option (Out ctx 17)):∀ (m:Nat) (x0:qf) (x1:Int) (x2:Int) (x3:(tSch)×
 qf×Unit),LQ qc D n 17 [.r,.l,.r,.l] m (qlh x0 x1 x2 x3) K=qlf D n (fun v0_0 v0_1=>K (Ex.ret) (qq9 v0_0 v0_1)) (fun v1_0=>K (Ex.exit 0) (qqu v1_0)) m x0 x1 x2 x3
 | 0,x0,x1,x2,x3=>qy ..
 | m+1,x0,x1,x2,x3=>by
  have ih:(fun x0 x1 x2 x3=>LQ qc D n 17 [.r,.l,.r,.l] m (qlh x0 x1 x2 x3) K)=qlf D n (fun v0_0 v0_1=>K (Ex.ret) (qq9 v0_0 v0_1)) (fun v1_0=>K (Ex.exit 0) (qqu v1_0)) m:=by funext x0 x1 x2 x3;exact q7q D n K m x0 x1 x2 x3
  rw[qblz]
  rw[ih];rfl
theorem qbiy (D:DX)(n:Nat) (v0_0:Bool) (v0_1:(tSch)×
 qf×Unit) :
 (CQ qc D n 17 [] [.r,.l,.r,.l] (qi qc 17)) (Ex.ret) (qq9 v0_0 v0_1)=q6x D n v0_0 v0_1:=by kernel_rfl
theorem qbkw (D:DX)(n:Nat) (v1_0:(tSch)×
 qf×Unit) :
 (CQ qc D n 17 [] [.r,.l,.r,.l] (qi qc 17)) (Ex.exit 0) (qqu v1_0)=qx4 D n v1_0:=by kernel_rfl
theorem qbkc (D:DX)(n:Nat) (x0:qf) (x1:Int) (x2:Int) (x3:(tSch)×
 qf×Unit) :
 LQ qc D n 17 [.r,.l,.r,.l] n (qlh x0 x1 x2 x3) (CQ qc D n 17 [] [.r,.l,.r,.l] (qi qc 17))=qz3 D n x0 x1 x2 x3:=by
 rw[q7q]
 simp only[qbiy,qbkw]
 rfl
theorem qbqa (D:DX)(n:Nat) (a0:(tSch)×
 qf×Unit):rfC qc D n 17 (a0,())=q5k D n a0:=by
 have h:rfC qc D n 17 (a0,())=q5x D n (fun x0 x1 x2 x3=>LQ qc D n 17 [.r,.l,.r,.l] n (qlh x0 x1 x2 x3) (CQ qc D n 17 [] [.r,.l,.r,.l] (qi qc 17))) a0:=by kernel_rfl
 rw[h]
 simp only[qbkc]
 rfl



def q60 (D:DX)(n:Nat) (a0:tSch) (a1:qd):Option ((qd×Unit)×Unit):=qj (qoe D a1 (Prod.fst (Prod.snd a0))) fun b↦some ((Prod.fst (Prod.fst b),()),())
def qym (D:DX)(n:Nat) (a0:tSch) (a1:qd):Option ((qd×Unit)×Unit):=q60 D n a0 a1
theorem qbj8 (D:DX)(n:Nat) (a0:tSch) (a1:qd):rfC qc D n 23 (a0,(a1,()))=qym D n a0 a1:=by kernel_rfl

def q90 (D:DX)(n:Nat) (a0:(tSch)×qf×Unit) (a1:qd):Option ((((tSch)×qf×Unit)×Int×Unit)×Unit):=qj (qqq D a0) fun b↦qj (q47 D ((Prod.fst (Prod.fst (Prod.fst (Prod.fst b))),Prod.fst (Prod.snd (Prod.fst (Prod.fst (Prod.fst b)))),Prod.fst (Prod.snd (Prod.snd (Prod.fst (Prod.fst (Prod.fst b))))),()),Prod.fst (Prod.snd (Prod.fst (Prod.fst b))),())) fun b_1↦br (!Prod.fst (Prod.fst b_1)) (some ((((Prod.fst (Prod.fst (Prod.fst (Prod.fst b))),Prod.fst (Prod.snd (Prod.fst (Prod.fst (Prod.fst b)))),Prod.fst (Prod.snd (Prod.snd (Prod.fst (Prod.fst (Prod.fst b))))),()),Prod.fst (Prod.snd (Prod.fst (Prod.fst b))),()),1,()),())) (qj (q5b D ((Prod.fst (Prod.fst (Prod.fst (Prod.fst b))),Prod.fst (Prod.snd (Prod.fst (Prod.fst (Prod.fst b)))),Prod.fst (Prod.snd (Prod.snd (Prod.fst (Prod.fst (Prod.fst b))))),()),Prod.fst (Prod.snd (Prod.fst (Prod.fst b))),()) a1) fun b_2↦br (decide (Prod.fst (Prod.fst b_2)<0)) (some ((((Prod.fst (Prod.fst (Prod.fst (Prod.fst b))),Prod.fst (Prod.snd (Prod.fst (Prod.fst (Prod.fst b)))),Prod.fst (Prod.snd (Prod.snd (Prod.fst (Prod.fst (Prod.fst b))))),()),Prod.fst (Prod.snd (Prod.fst (Prod.fst b))),()),4,()),())) (qj (qis D (Prod.fst (Prod.snd (Prod.fst (Prod.fst b)))) (Prod.fst (Prod.fst b_2)) (IntKind.wrap IntKind.i64 (Prod.fst (Prod.fst b_2)+1))) fun b_3↦some ((((Prod.fst (Prod.fst (Prod.fst (Prod.fst b))),Prod.fst (Prod.snd (Prod.fst (Prod.fst (Prod.fst b)))),Prod.fst (Prod.snd (Prod.snd (Prod.fst (Prod.fst (Prod.fst b))))),()),Prod.fst (Prod.fst b_3),()),0,()),())))
def q27 (D:DX)(n:Nat) (a0:(tSch)×qf×Unit) (a1:qd):Option ((((tSch)×qf×Unit)×Int×Unit)×Unit):=q90 D n a0 a1
theorem qbns (D:DX)(n:Nat) (a0:(tSch)×
 qf×Unit) (a1:qd):rfC qc D n 24 (a0,(a1,()))=q27 D n a0 a1:=by kernel_rfl



def q92 (D:DX)(n:Nat) (a0:(tSch)×qf×Unit) (a1:qd):Option ((((tSch)×qf×Unit)×Int×Unit)×Unit):=qj (q0z D a0) fun b↦qj (q5o D a0) fun b_1↦br (!Prod.fst (Prod.fst b_1)) (some ((((Prod.fst (Prod.fst (Prod.fst (Prod.fst b))),Prod.fst (Prod.snd (Prod.fst (Prod.fst (Prod.fst b)))),Prod.fst (Prod.snd (Prod.snd (Prod.fst (Prod.fst (Prod.fst b))))),()),Prod.fst (Prod.snd (Prod.fst (Prod.fst b))),()),1,()),())) (qj (q58 D a0 a1) fun b_2↦br (decide (Prod.fst (Prod.fst b_2)<0)) (some ((((Prod.fst (Prod.fst (Prod.fst (Prod.fst b))),Prod.fst (Prod.snd (Prod.fst (Prod.fst (Prod.fst b)))),Prod.fst (Prod.snd (Prod.snd (Prod.fst (Prod.fst (Prod.fst b))))),()),Prod.fst (Prod.snd (Prod.fst (Prod.fst b))),()),4,()),())) (br (decide (0≤0)&&decide (0≤Prod.fst (Prod.fst b_2))&&decide (Prod.fst (Prod.fst b_2)≤(↑(List.length (Prod.fst (Prod.snd a0))):Int))) (qj (qog D (List.drop (Int.toNat 0) (List.take (Int.toNat (Prod.fst (Prod.fst b_2))) (Prod.fst (Prod.snd a0))))) fun b_3↦br (decide (0≤IntKind.wrap IntKind.i64 (Prod.fst (Prod.fst b_2)+1))&&decide (IntKind.wrap IntKind.i64 (Prod.fst (Prod.fst b_2)+1)≤(↑(List.length (Prod.fst (Prod.snd a0))):Int))&&decide ((↑(List.length (Prod.fst (Prod.snd a0))):Int)≤(↑(List.length (Prod.fst (Prod.snd a0))):Int))) (qj (qog D (List.drop (Int.toNat (IntKind.wrap IntKind.i64 (Prod.fst (Prod.fst b_2)+1))) (List.take (Int.toNat (↑(List.length (Prod.fst (Prod.snd a0))):Int)) (Prod.fst (Prod.snd a0))))) fun b_4↦br (decide (List.length (Prod.fst (Prod.fst b_3))+List.length (Prod.fst (Prod.fst b_4))≤qbm)) (some ((((Prod.fst (Prod.fst (Prod.fst (Prod.fst b))),Prod.fst (Prod.snd (Prod.fst (Prod.fst (Prod.fst b)))),Prod.fst (Prod.snd (Prod.snd (Prod.fst (Prod.fst (Prod.fst b))))),()),Prod.fst (Prod.fst b_3)++Prod.fst (Prod.fst b_4),()),0,()),())) none) none) none))
def q2s (D:DX)(n:Nat) (a0:(tSch)×qf×Unit) (a1:qd):Option ((((tSch)×qf×Unit)×Int×Unit)×Unit):=q92 D n a0 a1
theorem qbn4 (D:DX)(n:Nat) (a0:(tSch)×
 qf×Unit) (a1:qd):rfC qc D n 30 (a0,(a1,()))=q2s D n a0 a1:=by kernel_rfl





def q24 (D:DX)(n:Nat) (go:Int→Int→(tSch)×qf×Unit→Option ((Bool×Unit)×Unit)) (K0:Bool→Int→(tSch)×qf×Unit→Option ((Bool×Unit)×Unit)) (K1:Int→(tSch)×qf×Unit→Option ((Bool×Unit)×Unit)) (x1_0:Int) (x1_1:Int) (x1_2:(tSch)×qf×Unit):Option ((Bool×Unit)×Unit):=br (decide (x1_1<x1_0)) (br (decide (0≤x1_1)&&decide (x1_1<(↑(List.length (Prod.fst (Prod.snd x1_2))):Int))) (br (decide (0≤x1_0)&&decide (x1_0<(↑(List.length (Prod.fst (Prod.snd x1_2))):Int))) (qj (qx8 D (Prod.fst x1_2) (List.getD (Prod.fst (Prod.snd x1_2)) (Int.toNat x1_1) []) (List.getD (Prod.fst (Prod.snd x1_2)) (Int.toNat x1_0) [])) fun b↦br (Prod.fst (Prod.fst b)) (K0 false x1_0 x1_2) (go x1_0 (IntKind.wrap IntKind.i64 (x1_1+1)) x1_2)) none) none) (K1 x1_0 x1_2)
def qlt (D:DX)(n:Nat) (K0:Bool→Int→(tSch)×qf×Unit→Option ((Bool×Unit)×Unit)) (K1:Int→(tSch)×qf×Unit→Option ((Bool×Unit)×Unit)):Nat→(Int)→(Int)→((tSch)×qf×Unit)→Option ((Bool×Unit)×Unit) | 0=>(fun x1_0 x1_1 x1_2=>none) | m+1=>(fun x1_0 x1_1 x1_2=>q24 D n (qlt D n K0 K1 m) K0 K1 x1_0 x1_1 x1_2)
def qxg (D:DX)(n:Nat) (go:Int→(tSch)×qf×Unit→Option ((Bool×Unit)×Unit)) (K0:Bool→(tSch)×qf×Unit→Option ((Bool×Unit)×Unit)) (K1:(tSch)×qf×Unit→Option ((Bool×Unit)×Unit)) (v0_0:Bool) (v0_1:Int) (v0_2:(tSch)×qf×Unit):Option ((Bool×Unit)×Unit):=K0 v0_0 v0_2
def qq4 (D:DX)(n:Nat) (go:Int→(tSch)×qf×Unit→Option ((Bool×Unit)×Unit)) (K0:Bool→(tSch)×qf×Unit→Option ((Bool×Unit)×Unit)) (K1:(tSch)×qf×Unit→Option ((Bool×Unit)×Unit)) (v1_0:Int) (v1_1:(tSch)×qf×Unit):Option ((Bool×Unit)×Unit):=go (IntKind.wrap IntKind.i64 (v1_0+1)) v1_1
def q0m (D:DX)(n:Nat) (go:Int→(tSch)×qf×Unit→Option ((Bool×Unit)×Unit)) (K0:Bool→(tSch)×qf×Unit→Option ((Bool×Unit)×Unit)) (K1:(tSch)×qf×Unit→Option ((Bool×Unit)×Unit)):(Int)→(Int)→((tSch)×qf×Unit)→Option ((Bool×Unit)×Unit):=(fun x1_0 x1_1 x1_2=>qlt D n (fun v0_0 v0_1 v0_2=>qxg D n go K0 K1 v0_0 v0_1 v0_2) (fun v1_0 v1_1=>qq4 D n go K0 K1 v1_0 v1_1) n x1_0 x1_1 x1_2)
def q2y (D:DX)(n:Nat) (go:Int→(tSch)×qf×Unit→Option ((Bool×Unit)×Unit)) (K0:Bool→(tSch)×qf×Unit→Option ((Bool×Unit)×Unit)) (K1:(tSch)×qf×Unit→Option ((Bool×Unit)×Unit)) (lp1:Int→Int→(tSch)×qf×Unit→Option ((Bool×Unit)×Unit)) (x0:Int) (x1:(tSch)×qf×Unit):Option ((Bool×Unit)×Unit):=br (decide (x0<(↑(List.length (Prod.fst (Prod.snd x1))):Int))) (br (decide (0≤x0)&&decide (x0<(↑(List.length (Prod.fst (Prod.snd x1))):Int))) (qj (q5l D (Prod.fst x1) (List.getD (Prod.fst (Prod.snd x1)) (Int.toNat x0) [])) fun b↦br (!Prod.fst (Prod.fst b)) (K0 false x1) (br (decide (x0>0)) (br (decide (0≤IntKind.wrap IntKind.i64 (x0 - 1))&&decide (IntKind.wrap IntKind.i64 (x0 - 1)<(↑(List.length (Prod.fst (Prod.snd x1))):Int))) (qj (qm7 D (Prod.fst x1) (List.getD (Prod.fst (Prod.snd x1)) (Int.toNat (IntKind.wrap IntKind.i64 (x0 - 1))) [])) fun b↦br (decide (0≤x0)&&decide (x0<(↑(List.length (Prod.fst (Prod.snd x1))):Int))) (qj (qm7 D (Prod.fst x1) (List.getD (Prod.fst (Prod.snd x1)) (Int.toNat x0) [])) fun b_1↦qj (qwa D (Prod.fst (Prod.fst b)) (Prod.fst (Prod.fst b_1))) fun b↦br (!Prod.fst (Prod.fst b)) (K0 false x1) (lp1 x0 0 x1)) none) none) (lp1 x0 0 x1))) none) (K1 x1)
def qey (D:DX)(n:Nat) (K0:Bool→(tSch)×qf×Unit→Option ((Bool×Unit)×Unit)) (K1:(tSch)×qf×Unit→Option ((Bool×Unit)×Unit)):Nat→(Int)→((tSch)×qf×Unit)→Option ((Bool×Unit)×Unit) | 0=>(fun x0 x1=>none) | m+1=>(fun x0 x1=>q2y D n (qey D n K0 K1 m) K0 K1 (q0m D n (qey D n K0 K1 m) K0 K1) x0 x1)
def qgv (D:DX)(n:Nat) (v0_0:Bool) (v0_1:(tSch)×qf×Unit):Option ((Bool×Unit)×Unit):=some ((v0_0,()),())
def qe3 (D:DX)(n:Nat) (v1_0:(tSch)×qf×Unit):Option ((Bool×Unit)×Unit):=qj (qqx D (Prod.fst v1_0)) fun b↦some ((bif Prod.fst (Prod.fst b) then decide ((↑(List.length (Prod.fst (Prod.snd v1_0))):Int)≤12) else false,()),())
def qzx (D:DX)(n:Nat):(Int)→((tSch)×qf×Unit)→Option ((Bool×Unit)×Unit):=(fun x0 x1=>qey D n (fun v0_0 v0_1=>qgv D n v0_0 v0_1) (fun v1_0=>qe3 D n v1_0) n x0 x1)
def q49 (D:DX)(n:Nat) (lp0:Int→(tSch)×qf×Unit→Option ((Bool×Unit)×Unit)) (a0:(tSch)×qf×Unit):Option ((Bool×Unit)×Unit):=lp0 0 a0
def q5h (D:DX)(n:Nat) (a0:(tSch)×qf×Unit):Option ((Bool×Unit)×Unit):=q49 D n (qzx D n) a0
def qfk (x0:Int) (x1:(tSch)×qf×Unit):St:=stq 73 [(1,AV.addr 1 []),(3,avI x0)] [(1,Root.mk (Ty.pair yS (Ty.pair (Ty.sl (Ty.sl yV)) Ty.unit)) Mk.no x1 true)] 
def qgr (v0_0:Bool) (v0_1:(tSch)×qf×Unit):St:=stq 73 [(1,AV.addr 1 []),(2,AV.val Ty.bool v0_0)] [(1,Root.mk (Ty.pair yS (Ty.pair (Ty.sl (Ty.sl yV)) Ty.unit)) Mk.no v0_1 true)] 
def qgu (v1_0:(tSch)×qf×Unit):St:=stq 73 [(1,AV.addr 1 [])] [(1,Root.mk (Ty.pair yS (Ty.pair (Ty.sl (Ty.sl yV)) Ty.unit)) Mk.no v1_0 true)] 
def qlp (x1_0:Int) (x1_1:Int) (x1_2:(tSch)×qf×Unit):St:=stq 73 [(1,AV.addr 1 []),(3,avI x1_0),(4,avI x1_1)] [(1,Root.mk (Ty.pair yS (Ty.pair (Ty.sl (Ty.sl yV)) Ty.unit)) Mk.no x1_2 true)] 
def qq7 (v0_0:Bool) (v0_1:Int) (v0_2:(tSch)×qf×Unit):St:=stq 73 [(1,AV.addr 1 []),(2,AV.val Ty.bool v0_0),(3,avI v0_1)] [(1,Root.mk (Ty.pair yS (Ty.pair (Ty.sl (Ty.sl yV)) Ty.unit)) Mk.no v0_2 true)] 
def qrc (v1_0:Int) (v1_1:(tSch)×qf×Unit):St:=stq 73 [(1,AV.addr 1 []),(3,avI v1_0)] [(1,Root.mk (Ty.pair yS (Ty.pair (Ty.sl (Ty.sl yV)) Ty.unit)) Mk.no v1_1 true)] 
theorem qbl7 (D:DX)(n:Nat) (m:Nat) (K:Ex→St→Option (Out ctx 41)) (x1_0:Int) (x1_1:Int) (x1_2:(tSch)×
 qf×Unit) :
 LQ qc D n 41 [.r,.l,.r,.l,.l,.r,.l,.l,.r,.r,.l] (m+1) (qlp x1_0 x1_1 x1_2) K=q24 D n (fun x1_0 x1_1 x1_2=>LQ qc D n 41 [.r,.l,.r,.l,.l,.r,.l,.l,.r,.r,.l] m (qlp x1_0 x1_1 x1_2) K) (fun v0_0 v0_1 v0_2=>K (Ex.ret) (qq7 v0_0 v0_1 v0_2)) (fun v1_0 v1_1=>K (Ex.exit 2) (qrc v1_0 v1_1)) x1_0 x1_1 x1_2:=by kernel_rfl
theorem q73 (D:DX)(n:Nat) (K:Ex→St→Option (Out ctx 41)):∀ (m:Nat) (x1_0:Int) (x1_1:Int) (x1_2:(tSch)×
 qf×Unit),LQ qc D n 41 [.r,.l,.r,.l,.l,.r,.l,.l,.r,.r,.l] m (qlp x1_0 x1_1 x1_2) K=qlt D n (fun v0_0 v0_1 v0_2=>K (Ex.ret) (qq7 v0_0 v0_1 v0_2)) (fun v1_0 v1_1=>K (Ex.exit 2) (qrc v1_0 v1_1)) m x1_0 x1_1 x1_2
 | 0,x1_0,x1_1,x1_2=>qy ..
 | m+1,x1_0,x1_1,x1_2=>by
  have ih:(fun x1_0 x1_1 x1_2=>LQ qc D n 41 [.r,.l,.r,.l,.l,.r,.l,.l,.r,.r,.l] m (qlp x1_0 x1_1 x1_2) K)=qlt D n (fun v0_0 v0_1 v0_2=>K (Ex.ret) (qq7 v0_0 v0_1 v0_2)) (fun v1_0 v1_1=>K (Ex.exit 2) (qrc v1_0 v1_1)) m:=by funext x1_0 x1_1 x1_2;exact q73 D n K m x1_0 x1_1 x1_2
  rw[qbl7]
  rw[ih];rfl
theorem qbke (D:DX)(n:Nat) (m:Nat) (K:Ex→St→Option (Out ctx 41)) (v0_0:Bool) (v0_1:Int) (v0_2:(tSch)×
 qf×Unit) :
 (CQ qc D n 41 [.r,.l,.r,.l,.l] [.r,.l,.l,.r,.r,.l] (LK qc D n 41 [.r,.l,.r,.l] m K)) (Ex.ret) (qq7 v0_0 v0_1 v0_2)=qxg D n (fun x0 x1=>LQ qc D n 41 [.r,.l,.r,.l] m (qfk x0 x1) K) (fun v0_0 v0_1=>K (Ex.ret) (qgr v0_0 v0_1)) (fun v1_0=>K (Ex.exit 0) (qgu v1_0)) v0_0 v0_1 v0_2:=by kernel_rfl
theorem qbjt (D:DX)(n:Nat) (m:Nat) (K:Ex→St→Option (Out ctx 41)) (v1_0:Int) (v1_1:(tSch)×
 qf×Unit) :
 (CQ qc D n 41 [.r,.l,.r,.l,.l] [.r,.l,.l,.r,.r,.l] (LK qc D n 41 [.r,.l,.r,.l] m K)) (Ex.exit 2) (qrc v1_0 v1_1)=qq4 D n (fun x0 x1=>LQ qc D n 41 [.r,.l,.r,.l] m (qfk x0 x1) K) (fun v0_0 v0_1=>K (Ex.ret) (qgr v0_0 v0_1)) (fun v1_0=>K (Ex.exit 0) (qgu v1_0)) v1_0 v1_1:=by kernel_rfl
theorem qbix (D:DX)(n:Nat) (m:Nat) (K:Ex→St→Option (Out ctx 41)) (x1_0:Int) (x1_1:Int) (x1_2:(tSch)×
 qf×Unit) :
 LQ qc D n 41 [.r,.l,.r,.l,.l,.r,.l,.l,.r,.r,.l] n (qlp x1_0 x1_1 x1_2) (CQ qc D n 41 [.r,.l,.r,.l,.l] [.r,.l,.l,.r,.r,.l] (LK qc D n 41 [.r,.l,.r,.l] m K))=q0m D n (fun x0 x1=>LQ qc D n 41 [.r,.l,.r,.l] m (qfk x0 x1) K) (fun v0_0 v0_1=>K (Ex.ret) (qgr v0_0 v0_1)) (fun v1_0=>K (Ex.exit 0) (qgu v1_0)) x1_0 x1_1 x1_2:=by
 rw[q73]
 simp only[qbke,qbjt]
 rfl
theorem qbmk (D:DX)(n:Nat) (m:Nat) (K:Ex→St→Option (Out ctx 41)) (x0:Int) (x1:(tSch)×
 qf×Unit) :
 LQ qc D n 41 [.r,.l,.r,.l] (m+1) (qfk x0 x1) K=q2y D n (fun x0 x1=>LQ qc D n 41 [.r,.l,.r,.l] m (qfk x0 x1) K) (fun v0_0 v0_1=>K (Ex.ret) (qgr v0_0 v0_1)) (fun v1_0=>K (Ex.exit 0) (qgu v1_0)) (fun x1_0 x1_1 x1_2=>LQ qc D n 41 [.r,.l,.r,.l,.l,.r,.l,.l,.r,.r,.l] n (qlp x1_0 x1_1 x1_2) (CQ qc D n 41 [.r,.l,.r,.l,.l] [.r,.l,.l,.r,.r,.l] (LK qc D n 41 [.r,.l,.r,.l] m K))) x0 x1:=by kernel_rfl
theorem q7y (D:DX)(n:Nat) (K:Ex→St→Option (Out ctx 41)):∀ (m:Nat) (x0:Int) (x1:(tSch)×
 qf×Unit),LQ qc D n 41 [.r,.l,.r,.l] m (qfk x0 x1) K=qey D n (fun v0_0 v0_1=>K (Ex.ret) (qgr v0_0 v0_1)) (fun v1_0=>K (Ex.exit 0) (qgu v1_0)) m x0 x1
 | 0,x0,x1=>qy ..
 | m+1,x0,x1=>by
  have ih:(fun x0 x1=>LQ qc D n 41 [.r,.l,.r,.l] m (qfk x0 x1) K)=qey D n (fun v0_0 v0_1=>K (Ex.ret) (qgr v0_0 v0_1)) (fun v1_0=>K (Ex.exit 0) (qgu v1_0)) m:=by funext x0 x1;exact q7y D n K m x0 x1
  rw[qbmk]
  simp only[qbix]
  rw[ih];rfl
theorem qbjn (D:DX)(n:Nat) (v0_0:Bool) (v0_1:(tSch)×
 qf×Unit) :
 (CQ qc D n 41 [] [.r,.l,.r,.l] (qi qc 41)) (Ex.ret) (qgr v0_0 v0_1)=qgv D n v0_0 v0_1:=by kernel_rfl
theorem qbjd (D:DX)(n:Nat) (v1_0:(tSch)×
 qf×Unit) :
 (CQ qc D n 41 [] [.r,.l,.r,.l] (qi qc 41)) (Ex.exit 0) (qgu v1_0)=qe3 D n v1_0:=by kernel_rfl
theorem qbj5 (D:DX)(n:Nat) (x0:Int) (x1:(tSch)×
 qf×Unit) :
 LQ qc D n 41 [.r,.l,.r,.l] n (qfk x0 x1) (CQ qc D n 41 [] [.r,.l,.r,.l] (qi qc 41))=qzx D n x0 x1:=by
 rw[q7y]
 simp only[qbjn,qbjd]
 rfl
theorem qbqd (D:DX)(n:Nat) (a0:(tSch)×
 qf×Unit):rfC qc D n 41 (a0,())=q5h D n a0:=by
 have h:rfC qc D n 41 (a0,())=q49 D n (fun x0 x1=>LQ qc D n 41 [.r,.l,.r,.l] n (qfk x0 x1) (CQ qc D n 41 [] [.r,.l,.r,.l] (qi qc 41))) a0:=by kernel_rfl
 rw[h]
 simp only[qbj5]
 rfl

def q3o (D:DX)(n:Nat) (a0:(tSch)×qf×Unit) (a1:Int):Option ((Int×Unit)×Unit):=qj (qxq D (Prod.fst a0) a1) fun b↦br (decide (Prod.fst (Prod.fst b)<0)) (some ((-1,()),())) (qj (qvn D (Prod.fst (Prod.snd a0)) (Prod.fst (Prod.fst b))) fun b↦br (decide (Prod.fst (Prod.fst b)<0)) (some ((-1,()),())) (some ((Prod.fst (Prod.fst b),()),())))
def qto (D:DX)(n:Nat) (a0:(tSch)×qf×Unit) (a1:Int):Option ((Int×Unit)×Unit):=q3o D n a0 a1
theorem qbea (D:DX)(n:Nat) (a0:(tSch)×
 qf×Unit) (a1:Int):rfC qc D n 53 (a0,(a1,()))=qto D n a0 a1:=by kernel_rfl

def qvj (D:DX)(n:Nat) (go:qd→Int→Int→Option ((Int×Unit)×Unit)) (K0:Int→Int→Option ((Int×Unit)×Unit)) (K1:Int→Option ((Int×Unit)×Unit)) (x0:qd) (x1:Int) (x2:Int):Option ((Int×Unit)×Unit):=br (decide (x2<(↑(List.length x0):Int))) (br (decide (0≤x2)&&decide (x2<(↑(List.length x0):Int))) (qj (qsu D (List.getD x0 (Int.toNat x2) (0,0,ByteArray.empty,())) x1) fun b↦br (decide (Prod.fst (Prod.fst b)<0)) (K0 (Prod.fst (Prod.fst b)) (-1)) (go x0 (Prod.fst (Prod.fst b)) (IntKind.wrap IntKind.i64 (x2+1)))) none) (K1 x1)
def qic (D:DX)(n:Nat) (K0:Int→Int→Option ((Int×Unit)×Unit)) (K1:Int→Option ((Int×Unit)×Unit)):Nat→(qd)→(Int)→(Int)→Option ((Int×Unit)×Unit) | 0=>(fun x0 x1 x2=>none) | m+1=>(fun x0 x1 x2=>qvj D n (qic D n K0 K1 m) K0 K1 x0 x1 x2)
def qrw (D:DX)(n:Nat) (v0_0:Int) (v0_1:Int):Option ((Int×Unit)×Unit):=some ((v0_1,()),())
def qr6 (D:DX)(n:Nat) (v1_0:Int):Option ((Int×Unit)×Unit):=some ((v1_0,()),())
def qtw (D:DX)(n:Nat):(qd)→(Int)→(Int)→Option ((Int×Unit)×Unit):=(fun x0 x1 x2=>qic D n (fun v0_0 v0_1=>qrw D n v0_0 v0_1) (fun v1_0=>qr6 D n v1_0) n x0 x1 x2)
def qxx (D:DX)(n:Nat) (lp0:qd→Int→Int→Option ((Int×Unit)×Unit)) (a0:qd) (a1:Int):Option ((Int×Unit)×Unit):=br (decide (IntKind.wrap IntKind.i64 (a1 - (↑(List.length a0):Int))<0)) (some ((-1,()),())) (lp0 a0 (IntKind.wrap IntKind.i64 (a1 - (↑(List.length a0):Int))) 0)
def qxb (D:DX)(n:Nat) (a0:qd) (a1:Int):Option ((Int×Unit)×Unit):=qxx D n (qtw D n) a0 a1
def qib (x0:qd) (x1:Int) (x2:Int):St:=stq 27 [(0,AV.val (Ty.sl yV) x0),(1,avI x1),(5,avI x2)] [] 
def qmh (v0_0:Int) (v0_1:Int):St:=stq 27 [(1,avI v0_0),(4,avI v0_1)] [] 
def qmu (v1_0:Int):St:=stq 27 [(1,avI v1_0)] [] 
theorem qbd9 (D:DX)(n:Nat) (m:Nat) (K:Ex→St→Option (Out ctx 54)) (x0:qd) (x1:Int) (x2:Int) :
 LQ qc D n 54 [.r,.r,.r,.l,.r,.l] (m+1) (qib x0 x1 x2) K=qvj D n (fun x0 x1 x2=>LQ qc D n 54 [.r,.r,.r,.l,.r,.l] m (qib x0 x1 x2) K) (fun v0_0 v0_1=>K (Ex.ret) (qmh v0_0 v0_1)) (fun v1_0=>K (Ex.exit 0) (qmu v1_0)) x0 x1 x2:=by kernel_rfl
theorem q35 (D:DX)(n:Nat) (K:Ex→St→Option (Out ctx 54)):∀ (m:Nat) (x0:qd) (x1:Int) (x2:Int),LQ qc D n 54 [.r,.r,.r,.l,.r,.l] m (qib x0 x1 x2) K=qic D n (fun v0_0 v0_1=>K (Ex.ret) (qmh v0_0 v0_1)) (fun v1_0=>K (Ex.exit 0) (qmu v1_0)) m x0 x1 x2
 | 0,x0,x1,x2=>qy ..
 | m+1,x0,x1,x2=>by
  have ih:(fun x0 x1 x2=>LQ qc D n 54 [.r,.r,.r,.l,.r,.l] m (qib x0 x1 x2) K)=qic D n (fun v0_0 v0_1=>K (Ex.ret) (qmh v0_0 v0_1)) (fun v1_0=>K (Ex.exit 0) (qmu v1_0)) m:=by funext x0 x1 x2;exact q35 D n K m x0 x1 x2
  rw[qbd9]
  rw[ih];rfl
theorem qbb9 (D:DX)(n:Nat) (v0_0:Int) (v0_1:Int) :
 (CQ qc D n 54 [] [.r,.r,.r,.l,.r,.l] (qi qc 54)) (Ex.ret) (qmh v0_0 v0_1)=qrw D n v0_0 v0_1:=by kernel_rfl
theorem qbcv (D:DX)(n:Nat) (v1_0:Int) :
 (CQ qc D n 54 [] [.r,.r,.r,.l,.r,.l] (qi qc 54)) (Ex.exit 0) (qmu v1_0)=qr6 D n v1_0:=by kernel_rfl
theorem qbc6 (D:DX)(n:Nat) (x0:qd) (x1:Int) (x2:Int) :
 LQ qc D n 54 [.r,.r,.r,.l,.r,.l] n (qib x0 x1 x2) (CQ qc D n 54 [] [.r,.r,.r,.l,.r,.l] (qi qc 54))=qtw D n x0 x1 x2:=by
 rw[q35]
 simp only[qbb9,qbcv]
 rfl
theorem qbin (D:DX)(n:Nat) (a0:qd) (a1:Int):rfC qc D n 54 (a0,(a1,()))=qxb D n a0 a1:=by
 have h:rfC qc D n 54 (a0,(a1,()))=qxx D n (fun x0 x1 x2=>LQ qc D n 54 [.r,.r,.r,.l,.r,.l] n (qib x0 x1 x2) (CQ qc D n 54 [] [.r,.r,.r,.l,.r,.l] (qi qc 54))) a0 a1:=by kernel_rfl
 rw[h]
 simp only[qbc6]
 rfl

def q3n (D:DX)(n:Nat) (a0:(tSch)×qf×Unit):Option ((((tSch)×qf×Unit)×Unit)×Unit):=qj (qxt D (Prod.fst a0)) fun b↦qj (qwd D (Prod.fst (Prod.snd a0))) fun b_1↦some ((((Prod.fst (Prod.fst (Prod.fst b)),Prod.fst (Prod.snd (Prod.fst (Prod.fst b))),Prod.fst (Prod.snd (Prod.snd (Prod.fst (Prod.fst b)))),()),Prod.fst (Prod.fst b_1),()),()),())
def qt1 (D:DX)(n:Nat) (a0:(tSch)×qf×Unit):Option ((((tSch)×qf×Unit)×Unit)×Unit):=q3n D n a0
theorem qbd6 (D:DX)(n:Nat) (a0:(tSch)×
 qf×Unit):rfC qc D n 55 (a0,())=qt1 D n a0:=by kernel_rfl

def qwo (D:DX)(n:Nat) (go:qd→Int→qd→Option ((qd×Unit)×Unit)) (K0:qd→Option ((qd×Unit)×Unit)) (x0:qd) (x1:Int) (x2:qd):Option ((qd×Unit)×Unit):=br (decide (x1<(↑(List.length x0):Int))) (br (decide (0≤x1)&&decide (x1<(↑(List.length x0):Int))) (qj (qs8 D (List.getD x0 (Int.toNat x1) (0,0,ByteArray.empty,()))) fun b↦br (decide (0≤x1)&&decide (x1<(↑(List.length x2):Int))) (go x0 (IntKind.wrap IntKind.i64 (x1+1)) (List.set x2 (Int.toNat x1) (Prod.fst (Prod.fst b)))) none) none) (K0 x2)
def qio (D:DX)(n:Nat) (K0:qd→Option ((qd×Unit)×Unit)):Nat→(qd)→(Int)→(qd)→Option ((qd×Unit)×Unit) | 0=>(fun x0 x1 x2=>none) | m+1=>(fun x0 x1 x2=>qwo D n (qio D n K0 m) K0 x0 x1 x2)
def qme (D:DX)(n:Nat) (v0_0:qd):Option ((qd×Unit)×Unit):=some ((v0_0,()),())
def qur (D:DX)(n:Nat):(qd)→(Int)→(qd)→Option ((qd×Unit)×Unit):=(fun x0 x1 x2=>qio D n (fun v0_0=>qme D n v0_0) n x0 x1 x2)
def qyn (D:DX)(n:Nat) (lp0:qd→Int→qd→Option ((qd×Unit)×Unit)) (a0:qd):Option ((qd×Unit)×Unit):=br (decide (0≤(↑(List.length a0):Int))&&decide ((↑(List.length a0):Int)≤(↑(List.length a0):Int))&&decide ((↑(List.length a0):Int)≤(↑qbm:Int))) (lp0 a0 0 (List.replicate (Int.toNat (↑(List.length a0):Int)) (0,0,ByteArray.empty,()))) none
def qx1 (D:DX)(n:Nat) (a0:qd):Option ((qd×Unit)×Unit):=qyn D n (qur D n) a0
def qii (x0:qd) (x1:Int) (x2:qd):St:=stq 23 [(0,AV.val (Ty.sl yV) x0),(3,AV.brw 3 [] 0),(4,avI x1)] [(3,Root.mk (Ty.sl yV) (Mk.own 0 (Mk.pr Mk.no (Mk.pr Mk.no (Mk.pr Mk.no Mk.no)))) x2 false)] 
def qmx (v0_0:qd):St:=stq 23 [(3,AV.brw 3 [] 0)] [(3,Root.mk (Ty.sl yV) (Mk.own 0 (Mk.pr Mk.no (Mk.pr Mk.no (Mk.pr Mk.no Mk.no)))) v0_0 false)] 
theorem qbey (D:DX)(n:Nat) (m:Nat) (K:Ex→St→Option (Out ctx 56)) (x0:qd) (x1:Int) (x2:qd) :
 LQ qc D n 56 [.r,.r,.l,.r,.l] (m+1) (qii x0 x1 x2) K=qwo D n (fun x0 x1 x2=>LQ qc D n 56 [.r,.r,.l,.r,.l] m (qii x0 x1 x2) K) (fun v0_0=>K (Ex.exit 0) (qmx v0_0)) x0 x1 x2:=by kernel_rfl
theorem q3w (D:DX)(n:Nat) (K:Ex→St→Option (Out ctx 56)):∀ (m:Nat) (x0:qd) (x1:Int) (x2:qd),LQ qc D n 56 [.r,.r,.l,.r,.l] m (qii x0 x1 x2) K=qio D n (fun v0_0=>K (Ex.exit 0) (qmx v0_0)) m x0 x1 x2
 | 0,x0,x1,x2=>qy ..
 | m+1,x0,x1,x2=>by
  have ih:(fun x0 x1 x2=>LQ qc D n 56 [.r,.r,.l,.r,.l] m (qii x0 x1 x2) K)=qio D n (fun v0_0=>K (Ex.exit 0) (qmx v0_0)) m:=by funext x0 x1 x2;exact q3w D n K m x0 x1 x2
  rw[qbey]
  rw[ih];rfl
theorem qbcn (D:DX)(n:Nat) (v0_0:qd) :
 (CQ qc D n 56 [] [.r,.r,.l,.r,.l] (qi qc 56)) (Ex.exit 0) (qmx v0_0)=qme D n v0_0:=by kernel_rfl
theorem qbce (D:DX)(n:Nat) (x0:qd) (x1:Int) (x2:qd) :
 LQ qc D n 56 [.r,.r,.l,.r,.l] n (qii x0 x1 x2) (CQ qc D n 56 [] [.r,.r,.l,.r,.l] (qi qc 56))=qur D n x0 x1 x2:=by
 rw[q3w]
 simp only[qbcn]
 rfl
theorem qbjv (D:DX)(n:Nat) (a0:qd):rfC qc D n 56 (a0,())=qx1 D n a0:=by
 have h:rfC qc D n 56 (a0,())=qyn D n (fun x0 x1 x2=>LQ qc D n 56 [.r,.r,.l,.r,.l] n (qii x0 x1 x2) (CQ qc D n 56 [] [.r,.r,.l,.r,.l] (qi qc 56))) a0:=by kernel_rfl
 rw[h]
 simp only[qbce]
 rfl

def q3q (D:DX)(n:Nat) (a0:(tSch)×qf×Unit) (a1:(tSch)×qf×Unit):Option ((Bool×Unit)×Unit):=qj (qw8 D (Prod.fst a0) (Prod.fst a1)) fun b↦br (!Prod.fst (Prod.fst b)) (some ((false,()),())) (qj (qvt D (Prod.fst (Prod.snd a0)) (Prod.fst (Prod.snd a1))) fun b↦br (!Prod.fst (Prod.fst b)) (some ((false,()),())) (some ((true,()),())))
def quw (D:DX)(n:Nat) (a0:(tSch)×qf×Unit) (a1:(tSch)×qf×Unit):Option ((Bool×Unit)×Unit):=q3q D n a0 a1
theorem qbe0 (D:DX)(n:Nat) (a0:(tSch)×
 qf×Unit) (a1:(tSch)×
 qf×Unit):rfC qc D n 57 (a0,(a1,()))=quw D n a0 a1:=by kernel_rfl

def qwg (D:DX)(n:Nat) (go:qd→qd→Int→Option ((Bool×Unit)×Unit)) (K0:Bool→Option ((Bool×Unit)×Unit)) (K1:Option ((Bool×Unit)×Unit)) (x0:qd) (x1:qd) (x2:Int):Option ((Bool×Unit)×Unit):=br (decide (x2<(↑(List.length x0):Int))) (br (decide (0≤x2)&&decide (x2<(↑(List.length x0):Int))) (br (decide (0≤x2)&&decide (x2<(↑(List.length x1):Int))) (qj (qs9 D (List.getD x0 (Int.toNat x2) (0,0,ByteArray.empty,())) (List.getD x1 (Int.toNat x2) (0,0,ByteArray.empty,()))) fun b↦br (!Prod.fst (Prod.fst b)) (K0 false) (go x0 x1 (IntKind.wrap IntKind.i64 (x2+1)))) none) none) K1
def qh2 (D:DX)(n:Nat) (K0:Bool→Option ((Bool×Unit)×Unit)) (K1:Option ((Bool×Unit)×Unit)):Nat→(qd)→(qd)→(Int)→Option ((Bool×Unit)×Unit) | 0=>(fun x0 x1 x2=>none) | m+1=>(fun x0 x1 x2=>qwg D n (qh2 D n K0 K1 m) K0 K1 x0 x1 x2)
def ql8 (D:DX)(n:Nat) (v0_0:Bool):Option ((Bool×Unit)×Unit):=some ((v0_0,()),())
def qmg (D:DX)(n:Nat):Option ((Bool×Unit)×Unit):=some ((true,()),())
def qtv (D:DX)(n:Nat):(qd)→(qd)→(Int)→Option ((Bool×Unit)×Unit):=(fun x0 x1 x2=>qh2 D n (fun v0_0=>ql8 D n v0_0) (qmg D n) n x0 x1 x2)
def qxi (D:DX)(n:Nat) (lp0:qd→qd→Int→Option ((Bool×Unit)×Unit)) (a0:qd) (a1:qd):Option ((Bool×Unit)×Unit):=br ((↑(List.length a0):Int) != (↑(List.length a1):Int)) (some ((false,()),())) (lp0 a0 a1 0)
def qyg (D:DX)(n:Nat) (a0:qd) (a1:qd):Option ((Bool×Unit)×Unit):=qxi D n (qtv D n) a0 a1
def qh0 (x0:qd) (x1:qd) (x2:Int):St:=stq 27 [(0,AV.val (Ty.sl yV) x0),(1,AV.val (Ty.sl yV) x1),(5,avI x2)] [] 
def qlz (v0_0:Bool):St:=stq 27 [(4,AV.val Ty.bool v0_0)] [] 
def qm1:St:=stq 27 [] [] 
theorem qbe7 (D:DX)(n:Nat) (m:Nat) (K:Ex→St→Option (Out ctx 58)) (x0:qd) (x1:qd) (x2:Int) :
 LQ qc D n 58 [.r,.r,.l,.r,.l] (m+1) (qh0 x0 x1 x2) K=qwg D n (fun x0 x1 x2=>LQ qc D n 58 [.r,.r,.l,.r,.l] m (qh0 x0 x1 x2) K) (fun v0_0=>K (Ex.ret) (qlz v0_0)) (K (Ex.exit 0) (qm1)) x0 x1 x2:=by kernel_rfl
theorem q3p (D:DX)(n:Nat) (K:Ex→St→Option (Out ctx 58)):∀ (m:Nat) (x0:qd) (x1:qd) (x2:Int),LQ qc D n 58 [.r,.r,.l,.r,.l] m (qh0 x0 x1 x2) K=qh2 D n (fun v0_0=>K (Ex.ret) (qlz v0_0)) (K (Ex.exit 0) (qm1)) m x0 x1 x2
 | 0,x0,x1,x2=>qy ..
 | m+1,x0,x1,x2=>by
  have ih:(fun x0 x1 x2=>LQ qc D n 58 [.r,.r,.l,.r,.l] m (qh0 x0 x1 x2) K)=qh2 D n (fun v0_0=>K (Ex.ret) (qlz v0_0)) (K (Ex.exit 0) (qm1)) m:=by funext x0 x1 x2;exact q3p D n K m x0 x1 x2
  rw[qbe7]
  rw[ih];rfl
theorem qba8 (D:DX)(n:Nat) (v0_0:Bool) :
 (CQ qc D n 58 [] [.r,.r,.l,.r,.l] (qi qc 58)) (Ex.ret) (qlz v0_0)=ql8 D n v0_0:=by kernel_rfl
theorem qbcc (D:DX)(n:Nat) :
 (CQ qc D n 58 [] [.r,.r,.l,.r,.l] (qi qc 58)) (Ex.exit 0) (qm1)=qmg D n:=by kernel_rfl
theorem qbbt (D:DX)(n:Nat) (x0:qd) (x1:qd) (x2:Int) :
 LQ qc D n 58 [.r,.r,.l,.r,.l] n (qh0 x0 x1 x2) (CQ qc D n 58 [] [.r,.r,.l,.r,.l] (qi qc 58))=qtv D n x0 x1 x2:=by
 rw[q3p]
 simp only[qba8,qbcc]
 rfl
theorem qbhz (D:DX)(n:Nat) (a0:qd) (a1:qd):rfC qc D n 58 (a0,(a1,()))=qyg D n a0 a1:=by
 have h:rfC qc D n 58 (a0,(a1,()))=qxi D n (fun x0 x1 x2=>LQ qc D n 58 [.r,.r,.l,.r,.l] n (qh0 x0 x1 x2) (CQ qc D n 58 [] [.r,.r,.l,.r,.l] (qi qc 58))) a0 a1:=by kernel_rfl
 rw[h]
 simp only[qbbt]
 rfl

def qze (D:DX)(n:Nat) (a0:(tSch)×qf×Unit) (a1:Int):Option ((Int×Unit)×((tSch)×qf×Unit)×Unit):=qj (qug D (Prod.fst (Prod.fst a0),Prod.fst (Prod.snd (Prod.fst a0)),Prod.fst (Prod.snd (Prod.snd (Prod.fst a0))),()) a1) fun b↦qj (qsl D (Prod.fst (Prod.snd a0)) (Prod.fst (Prod.fst b))) fun b_1↦some ((Prod.fst (Prod.fst b_1),()),((Prod.fst (Prod.fst (Prod.snd b)),Prod.fst (Prod.snd (Prod.fst (Prod.snd b))),Prod.fst (Prod.snd (Prod.snd (Prod.fst (Prod.snd b)))),()),Prod.fst (Prod.snd b_1),()),())
def qqh (D:DX)(n:Nat) (a0:(tSch)×qf×Unit) (a1:Int):Option ((Int×Unit)×((tSch)×qf×Unit)×Unit):=qze D n a0 a1
theorem qbaq (D:DX)(n:Nat) (a0:(tSch)×
 qf×Unit) (a1:Int):rfC qc D n 59 (a0,(a1,()))=qqh D n a0 a1:=by kernel_rfl

def qsa (D:DX)(n:Nat) (go:Int→Int→qd→Option ((Int×Unit)×qd×Unit)) (K0:Int→qd→Option ((Int×Unit)×qd×Unit)) (x0:Int) (x1:Int) (x2:qd):Option ((Int×Unit)×qd×Unit):=br (decide (x1<(↑(List.length x2):Int))) (br (decide (0≤x1)&&decide (x1<(↑(List.length x2):Int))) (br (decide (0≤x1)&&decide (x1<(↑(List.length (List.set x2 (Int.toNat x1) (x0,Prod.snd (List.getD x2 (Int.toNat x1) (0,0,ByteArray.empty,()))))):Int))) (qj (qe2 D (IntKind.wrap IntKind.i64 (IntKind.wrap IntKind.i64 (x0+1)+1))) fun b↦br (decide (0≤x1)&&decide (x1<(↑(List.length (List.set (List.set x2 (Int.toNat x1) (x0,Prod.snd (List.getD x2 (Int.toNat x1) (0,0,ByteArray.empty,())))) (Int.toNat x1) (Prod.fst (List.getD (List.set x2 (Int.toNat x1) (x0,Prod.snd (List.getD x2 (Int.toNat x1) (0,0,ByteArray.empty,())))) (Int.toNat x1) (0,0,ByteArray.empty,())),IntKind.wrap IntKind.i64 (x0+1),Prod.snd (Prod.snd (List.getD (List.set x2 (Int.toNat x1) (x0,Prod.snd (List.getD x2 (Int.toNat x1) (0,0,ByteArray.empty,())))) (Int.toNat x1) (0,0,ByteArray.empty,())))))):Int))) (go (IntKind.wrap IntKind.i64 (IntKind.wrap IntKind.i64 (IntKind.wrap IntKind.i64 (x0+1)+1)+1)) (IntKind.wrap IntKind.i64 (x1+1)) (List.set (List.set (List.set x2 (Int.toNat x1) (x0,Prod.snd (List.getD x2 (Int.toNat x1) (0,0,ByteArray.empty,())))) (Int.toNat x1) (Prod.fst (List.getD (List.set x2 (Int.toNat x1) (x0,Prod.snd (List.getD x2 (Int.toNat x1) (0,0,ByteArray.empty,())))) (Int.toNat x1) (0,0,ByteArray.empty,())),IntKind.wrap IntKind.i64 (x0+1),Prod.snd (Prod.snd (List.getD (List.set x2 (Int.toNat x1) (x0,Prod.snd (List.getD x2 (Int.toNat x1) (0,0,ByteArray.empty,())))) (Int.toNat x1) (0,0,ByteArray.empty,()))))) (Int.toNat x1) (Prod.fst (List.getD (List.set (List.set x2 (Int.toNat x1) (x0,Prod.snd (List.getD x2 (Int.toNat x1) (0,0,ByteArray.empty,())))) (Int.toNat x1) (Prod.fst (List.getD (List.set x2 (Int.toNat x1) (x0,Prod.snd (List.getD x2 (Int.toNat x1) (0,0,ByteArray.empty,())))) (Int.toNat x1) (0,0,ByteArray.empty,())),IntKind.wrap IntKind.i64 (x0+1),Prod.snd (Prod.snd (List.getD (List.set x2 (Int.toNat x1) (x0,Prod.snd (List.getD x2 (Int.toNat x1) (0,0,ByteArray.empty,())))) (Int.toNat x1) (0,0,ByteArray.empty,()))))) (Int.toNat x1) (0,0,ByteArray.empty,())),Prod.fst (Prod.snd (List.getD (List.set (List.set x2 (Int.toNat x1) (x0,Prod.snd (List.getD x2 (Int.toNat x1) (0,0,ByteArray.empty,())))) (Int.toNat x1) (Prod.fst (List.getD (List.set x2 (Int.toNat x1) (x0,Prod.snd (List.getD x2 (Int.toNat x1) (0,0,ByteArray.empty,())))) (Int.toNat x1) (0,0,ByteArray.empty,())),IntKind.wrap IntKind.i64 (x0+1),Prod.snd (Prod.snd (List.getD (List.set x2 (Int.toNat x1) (x0,Prod.snd (List.getD x2 (Int.toNat x1) (0,0,ByteArray.empty,())))) (Int.toNat x1) (0,0,ByteArray.empty,()))))) (Int.toNat x1) (0,0,ByteArray.empty,()))),Prod.fst (Prod.fst b),Prod.snd (Prod.snd (Prod.snd (List.getD (List.set (List.set x2 (Int.toNat x1) (x0,Prod.snd (List.getD x2 (Int.toNat x1) (0,0,ByteArray.empty,())))) (Int.toNat x1) (Prod.fst (List.getD (List.set x2 (Int.toNat x1) (x0,Prod.snd (List.getD x2 (Int.toNat x1) (0,0,ByteArray.empty,())))) (Int.toNat x1) (0,0,ByteArray.empty,())),IntKind.wrap IntKind.i64 (x0+1),Prod.snd (Prod.snd (List.getD (List.set x2 (Int.toNat x1) (x0,Prod.snd (List.getD x2 (Int.toNat x1) (0,0,ByteArray.empty,())))) (Int.toNat x1) (0,0,ByteArray.empty,()))))) (Int.toNat x1) (0,0,ByteArray.empty,()))))))) none) none) none) (K0 x0 x2)
def qf5 (D:DX)(n:Nat) (K0:Int→qd→Option ((Int×Unit)×qd×Unit)):Nat→(Int)→(Int)→(qd)→Option ((Int×Unit)×qd×Unit) | 0=>(fun x0 x1 x2=>none) | m+1=>(fun x0 x1 x2=>qsa D n (qf5 D n K0 m) K0 x0 x1 x2)
def qjw (D:DX)(n:Nat) (v0_0:Int) (v0_1:qd):Option ((Int×Unit)×qd×Unit):=some ((v0_0,()),v0_1,())
def qqm (D:DX)(n:Nat):(Int)→(Int)→(qd)→Option ((Int×Unit)×qd×Unit):=(fun x0 x1 x2=>qf5 D n (fun v0_0 v0_1=>qjw D n v0_0 v0_1) n x0 x1 x2)
def qui (D:DX)(n:Nat) (lp0:Int→Int→qd→Option ((Int×Unit)×qd×Unit)) (a0:qd) (a1:Int):Option ((Int×Unit)×qd×Unit):=lp0 a1 0 a0
def qt7 (D:DX)(n:Nat) (a0:qd) (a1:Int):Option ((Int×Unit)×qd×Unit):=qui D n (qqm D n) a0 a1
def qf3 (x0:Int) (x1:Int) (x2:qd):St:=stq 35 [(0,AV.brw 0 [] 1048576),(1,avI x0),(5,avI x1)] [(0,Root.mk (Ty.sl yV) (Mk.own 1048576 (Mk.pr Mk.no (Mk.pr Mk.no (Mk.pr Mk.no Mk.no)))) x2 false)] 
def qjz (v0_0:Int) (v0_1:qd):St:=stq 35 [(0,AV.brw 0 [] 1048576),(1,avI v0_0)] [(0,Root.mk (Ty.sl yV) (Mk.own 1048576 (Mk.pr Mk.no (Mk.pr Mk.no (Mk.pr Mk.no Mk.no)))) v0_1 false)] 
theorem q95 (D:DX)(n:Nat) (m:Nat) (K:Ex→St→Option (Out ctx 60)) (x0:Int) (x1:Int) (x2:qd) :
 LQ qc D n 60 [.r,.l,.r,.l] (m+1) (qf3 x0 x1 x2) K=qsa D n (fun x0 x1 x2=>LQ qc D n 60 [.r,.l,.r,.l] m (qf3 x0 x1 x2) K) (fun v0_0 v0_1=>K (Ex.exit 0) (qjz v0_0 v0_1)) x0 x1 x2:=by kernel_rfl
theorem qzk (D:DX)(n:Nat) (K:Ex→St→Option (Out ctx 60)):∀ (m:Nat) (x0:Int) (x1:Int) (x2:qd),LQ qc D n 60 [.r,.l,.r,.l] m (qf3 x0 x1 x2) K=qf5 D n (fun v0_0 v0_1=>K (Ex.exit 0) (qjz v0_0 v0_1)) m x0 x1 x2
 | 0,x0,x1,x2=>qy ..
 | m+1,x0,x1,x2=>by
  have ih:(fun x0 x1 x2=>LQ qc D n 60 [.r,.l,.r,.l] m (qf3 x0 x1 x2) K)=qf5 D n (fun v0_0 v0_1=>K (Ex.exit 0) (qjz v0_0 v0_1)) m:=by funext x0 x1 x2;exact qzk D n K m x0 x1 x2
  rw[q95]
  rw[ih];rfl
theorem q9t (D:DX)(n:Nat) (v0_0:Int) (v0_1:qd) :
 (CQ qc D n 60 [] [.r,.l,.r,.l] (qi qc 60)) (Ex.exit 0) (qjz v0_0 v0_1)=qjw D n v0_0 v0_1:=by kernel_rfl
theorem q87 (D:DX)(n:Nat) (x0:Int) (x1:Int) (x2:qd) :
 LQ qc D n 60 [.r,.l,.r,.l] n (qf3 x0 x1 x2) (CQ qc D n 60 [] [.r,.l,.r,.l] (qi qc 60))=qqm D n x0 x1 x2:=by
 rw[qzk]
 simp only[q9t]
 rfl
theorem qbfd (D:DX)(n:Nat) (a0:qd) (a1:Int):rfC qc D n 60 (a0,(a1,()))=qt7 D n a0 a1:=by
 have h:rfC qc D n 60 (a0,(a1,()))=qui D n (fun x0 x1 x2=>LQ qc D n 60 [.r,.l,.r,.l] n (qf3 x0 x1 x2) (CQ qc D n 60 [] [.r,.l,.r,.l] (qi qc 60))) a0 a1:=by kernel_rfl
 rw[h]
 simp only[q87]
 rfl

def qzg (D:DX)(n:Nat) (a0:(tSch)×qf×Unit) (a1:Int):Option ((Int×Unit)×Unit):=qj (qnz D (Prod.fst a0) a1) fun b↦br (decide (Prod.fst (Prod.fst b)<0)) (some ((-1,()),())) (qj (qma D (Prod.fst (Prod.snd a0)) (Prod.fst (Prod.fst b))) fun b↦br (decide (Prod.fst (Prod.fst b)<0)) (some ((-1,()),())) (some ((Prod.fst (Prod.fst b),()),())))
def qqc (D:DX)(n:Nat) (a0:(tSch)×qf×Unit) (a1:Int):Option ((Int×Unit)×Unit):=qzg D n a0 a1
theorem q99 (D:DX)(n:Nat) (a0:(tSch)×
 qf×Unit) (a1:Int):rfC qc D n 61 (a0,(a1,()))=qqc D n a0 a1:=by kernel_rfl

def qbft (D:DX)(n:Nat) (a0:Int) (a1:Int) (a2:Int):Option ((Bool×Unit)×Unit):=some ((bif decide (a0≥a1) then decide (a0≤a2) else false,()),())
def q7a (D:DX)(n:Nat) (a0:Int) (a1:Int) (a2:Int):Option ((Bool×Unit)×Unit):=qbft D n a0 a1 a2
theorem qbq7 (D:DX)(n:Nat) (a0:Int) (a1:Int) (a2:Int):rfC qc D n 68 (a0,(a1,(a2,())))=q7a D n a0 a1 a2:=by kernel_rfl

def q2h (D:DX)(n:Nat) (go:qd→Int→Int→tSch→Option ((Bool×Unit)×Unit)) (K0:Bool→Option ((Bool×Unit)×Unit)) (K1:Option ((Bool×Unit)×Unit)) (x0:qd) (x1:Int) (x2:Int) (x3:tSch):Option ((Bool×Unit)×Unit):=br (decide (x2<x1)) (br (decide (0≤x2)&&decide (x2<(↑(List.length x0):Int))) (br (decide (0≤x2)&&decide (x2<(↑(List.length (Prod.fst x3)):Int))) (qj (qzz D (List.getD x0 (Int.toNat x2) (0,0,ByteArray.empty,()))) fun b↦br (bif !Prod.fst (Prod.fst b) then true else bif Prod.fst (List.getD x0 (Int.toNat x2) (0,0,ByteArray.empty,())) != Prod.fst (Prod.snd (List.getD (Prod.fst x3) (Int.toNat x2) (ByteArray.empty,0,false,()))) then !bif decide (Prod.fst (List.getD x0 (Int.toNat x2) (0,0,ByteArray.empty,()))=0) then Prod.fst (Prod.snd (Prod.snd (List.getD (Prod.fst x3) (Int.toNat x2) (ByteArray.empty,0,false,())))) else false else false) (K0 false) (go x0 x1 (IntKind.wrap IntKind.i64 (x2+1)) x3)) none) none) K1
def qlr (D:DX)(n:Nat) (K0:Bool→Option ((Bool×Unit)×Unit)) (K1:Option ((Bool×Unit)×Unit)):Nat→(qd)→(Int)→(Int)→(tSch)→Option ((Bool×Unit)×Unit) | 0=>(fun x0 x1 x2 x3=>none) | m+1=>(fun x0 x1 x2 x3=>q2h D n (qlr D n K0 K1 m) K0 K1 x0 x1 x2 x3)
def q6p (D:DX)(n:Nat) (v0_0:Bool):Option ((Bool×Unit)×Unit):=some ((v0_0,()),())
def q6j (D:DX)(n:Nat):Option ((Bool×Unit)×Unit):=some ((true,()),())
def qz2 (D:DX)(n:Nat):(qd)→(Int)→(Int)→(tSch)→Option ((Bool×Unit)×Unit):=(fun x0 x1 x2 x3=>qlr D n (fun v0_0=>q6p D n v0_0) (q6j D n) n x0 x1 x2 x3)
def q43 (D:DX)(n:Nat) (lp0:qd→Int→Int→tSch→Option ((Bool×Unit)×Unit)) (a0:tSch) (a1:qd):Option ((Bool×Unit)×Unit):=qj (qqw D a0) fun b↦br (bif !Prod.fst (Prod.fst b) then true else (↑(List.length a1):Int) != (↑(List.length (Prod.fst a0)):Int)) (some ((false,()),())) (lp0 a1 (↑(List.length a1):Int) 0 a0)
def q5w (D:DX)(n:Nat) (a0:tSch) (a1:qd):Option ((Bool×Unit)×Unit):=q43 D n (qz2 D n) a0 a1
def qlj (x0:qd) (x1:Int) (x2:Int) (x3:tSch):St:=stq 52 [(2,AV.addr 2 []),(19,AV.val (Ty.sl yV) x0),(20,avI x1),(21,avI x2)] [(2,Root.mk yS Mk.no x3 true)] 
def qqy (v0_0:Bool):St:=stq 52 [(4,AV.val Ty.bool v0_0)] [] 
def qqt:St:=stq 52 [] [] 
theorem qbl4 (D:DX)(n:Nat) (m:Nat) (K:Ex→St→Option (Out ctx 77)) (x0:qd) (x1:Int) (x2:Int) (x3:tSch) :
 LQ qc D n 77 [.r,.r,.l,.r,.l] (m+1) (qlj x0 x1 x2 x3) K=q2h D n (fun x0 x1 x2 x3=>LQ qc D n 77 [.r,.r,.l,.r,.l] m (qlj x0 x1 x2 x3) K) (fun v0_0=>K (Ex.ret) (qqy v0_0)) (K (Ex.exit 0) (qqt)) x0 x1 x2 x3:=by kernel_rfl
theorem q7m (D:DX)(n:Nat) (K:Ex→St→Option (Out ctx 77)):∀ (m:Nat) (x0:qd) (x1:Int) (x2:Int) (x3:tSch),LQ qc D n 77 [.r,.r,.l,.r,.l] m (qlj x0 x1 x2 x3) K=qlr D n (fun v0_0=>K (Ex.ret) (qqy v0_0)) (K (Ex.exit 0) (qqt)) m x0 x1 x2 x3
 | 0,x0,x1,x2,x3=>qy ..
 | m+1,x0,x1,x2,x3=>by
  have ih:(fun x0 x1 x2 x3=>LQ qc D n 77 [.r,.r,.l,.r,.l] m (qlj x0 x1 x2 x3) K)=qlr D n (fun v0_0=>K (Ex.ret) (qqy v0_0)) (K (Ex.exit 0) (qqt)) m:=by funext x0 x1 x2 x3;exact q7m D n K m x0 x1 x2 x3
  rw[qbl4]
  rw[ih];rfl
theorem qbil (D:DX)(n:Nat) (v0_0:Bool) :
 (CQ qc D n 77 [] [.r,.r,.l,.r,.l] (qi qc 77)) (Ex.ret) (qqy v0_0)=q6p D n v0_0:=by kernel_rfl
theorem qbik (D:DX)(n:Nat) :
 (CQ qc D n 77 [] [.r,.r,.l,.r,.l] (qi qc 77)) (Ex.exit 0) (qqt)=q6j D n:=by kernel_rfl
theorem qbky (D:DX)(n:Nat) (x0:qd) (x1:Int) (x2:Int) (x3:tSch) :
 LQ qc D n 77 [.r,.r,.l,.r,.l] n (qlj x0 x1 x2 x3) (CQ qc D n 77 [] [.r,.r,.l,.r,.l] (qi qc 77))=qz2 D n x0 x1 x2 x3:=by
 rw[q7m]
 simp only[qbil,qbik]
 rfl
theorem qbpf (D:DX)(n:Nat) (a0:tSch) (a1:qd):rfC qc D n 77 (a0,(a1,()))=q5w D n a0 a1:=by
 have h:rfC qc D n 77 (a0,(a1,()))=q43 D n (fun x0 x1 x2 x3=>LQ qc D n 77 [.r,.r,.l,.r,.l] n (qlj x0 x1 x2 x3) (CQ qc D n 77 [] [.r,.r,.l,.r,.l] (qi qc 77))) a0 a1:=by kernel_rfl
 rw[h]
 simp only[qbky]
 rfl

def q5p (D:DX)(n:Nat) (a0:qd) (a1:qd):Option ((Bool×Unit)×Unit):=qj (qcb D a0 a1 (Clo.mk 141 [])) fun b↦some ((decide (Prod.fst (Prod.fst b)<0),()),())
def qv1 (D:DX)(n:Nat) (a0:qd) (a1:qd):Option ((Bool×Unit)×Unit):=q5p D n a0 a1
theorem qbhp (D:DX)(n:Nat) (a0:qd) (a1:qd):rfC qc D n 78 (a0,(a1,()))=qv1 D n a0 a1:=by kernel_rfl

def qfm (D:DX)(n:Nat) (a1:Clo) (a0:qf):Option ((Bool×Unit)×Unit):=qj (qcv D a0 a1) fun b↦some ((decide (Prod.fst (Prod.fst b)≥0),()),())
def qdg (D:DX)(n:Nat) (a0:qf) (a1:Clo):Option ((Bool×Unit)×Unit):=qfm D n a1 a0
theorem qnu (D:DX)(n:Nat) (a0:qf) (a1:Clo):rfC qc D n 79 (a0,(a1,()))=qdg D n a0 a1:=by kernel_rfl

def q7u (D:DX)(n:Nat) (a0:qd) (a1:(tSch)×qf×Unit) (a2:qd):Option ((Bool×Unit)×Unit):=qj (q4y D (Prod.fst a1) a2 a0) fun b↦some ((Prod.fst (Prod.fst b),()),())
def q1e (D:DX)(n:Nat) (a0:qd) (a1:(tSch)×qf×Unit) (a2:qd):Option ((Bool×Unit)×Unit):=q7u D n a0 a1 a2
theorem qbmi (D:DX)(n:Nat) (a0:qd) (a1:(tSch)×
 qf×Unit) (a2:qd):rfC qc D n 80 (a0,(a1,(a2,())))=q1e D n a0 a1 a2:=by kernel_rfl

def qbcg (D:DX)(n:Nat) (a0:tSch) (a1:qd) (a2:qd):Option ((Bool×Unit)×Unit):=qj (qco D (Prod.fst (Prod.snd (Prod.snd a0))) (Clo.mk 143 [CapV.rptr (Ty.sl (Ty.pair (Ty.int IntKind.i64) (Ty.pair (Ty.int IntKind.i64) (Ty.pair Ty.str Ty.unit)))) a1,CapV.rptr (Ty.sl (Ty.pair (Ty.int IntKind.i64) (Ty.pair (Ty.int IntKind.i64) (Ty.pair Ty.str Ty.unit)))) a2])) fun b↦some ((Prod.fst (Prod.fst b),()),())
def q45 (D:DX)(n:Nat) (a0:tSch) (a1:qd) (a2:qd):Option ((Bool×Unit)×Unit):=qbcg D n a0 a1 a2
theorem qbox (D:DX)(n:Nat) (a0:tSch) (a1:qd) (a2:qd):rfC qc D n 81 (a0,(a1,(a2,())))=q45 D n a0 a1 a2:=by kernel_rfl

def qwi (D:DX)(n:Nat) (go:qk→Int→Int→tSch→Option ((Bool×Unit)×Unit)) (K0:Bool→tSch→Option ((Bool×Unit)×Unit)) (K1:tSch→Option ((Bool×Unit)×Unit)) (x0:qk) (x1:Int) (x2:Int) (x3:tSch):Option ((Bool×Unit)×Unit):=br (decide (x2<x1)) (br (decide (0≤x2)&&decide (x2<(↑(List.length x0):Int))) (qj (qo1 D (Prod.fst (List.getD x0 (Int.toNat x2) (ByteArray.empty,0,false,())))) fun b↦br (!Prod.fst (Prod.fst b)) (K0 false x3) (qj (qgo D (Prod.fst (Prod.snd (List.getD x0 (Int.toNat x2) (ByteArray.empty,0,false,())))) 1 3) fun b↦br (!Prod.fst (Prod.fst b)) (K0 false x3) (qj (q5g D x3 (Prod.fst (List.getD x0 (Int.toNat x2) (ByteArray.empty,0,false,())))) fun b↦br (Prod.fst (Prod.fst b) != x2) (K0 false x3) (go x0 x1 (IntKind.wrap IntKind.i64 (x2+1)) x3)))) none) (K1 x3)
def qh5 (D:DX)(n:Nat) (K0:Bool→tSch→Option ((Bool×Unit)×Unit)) (K1:tSch→Option ((Bool×Unit)×Unit)):Nat→(qk)→(Int)→(Int)→(tSch)→Option ((Bool×Unit)×Unit) | 0=>(fun x0 x1 x2 x3=>none) | m+1=>(fun x0 x1 x2 x3=>qwi D n (qh5 D n K0 K1 m) K0 K1 x0 x1 x2 x3)
def q2b (D:DX)(n:Nat) (v0_0:Bool) (v0_1:tSch):Option ((Bool×Unit)×Unit):=some ((v0_0,()),())
def qvo (D:DX)(n:Nat) (go:tIxs→Int→Int→tSch→Option ((Bool×Unit)×Unit)) (K0:Bool→tSch→Option ((Bool×Unit)×Unit)) (K1:tSch→Option ((Bool×Unit)×Unit)) (x1_0:tIxs) (x1_1:Int) (x1_2:Int) (x1_3:tSch):Option ((Bool×Unit)×Unit):=br (decide (x1_2<x1_1)) (br (decide (0≤x1_2)&&decide (x1_2<(↑(List.length x1_0):Int))) (qj (qo1 D (Prod.fst (List.getD x1_0 (Int.toNat x1_2) (ByteArray.empty,[],false,())))) fun b↦br (!Prod.fst (Prod.fst b)) (K0 false x1_3) (qj (qqv D x1_3 (Prod.fst (Prod.snd (List.getD x1_0 (Int.toNat x1_2) (ByteArray.empty,[],false,())))) 3) fun b↦br (!Prod.fst (Prod.fst b)) (K0 false x1_3) (br (decide (0≤0)&&decide (0≤x1_2)&&decide (x1_2≤(↑(List.length (Prod.fst (Prod.snd (Prod.snd x1_3)))):Int))) (qj (qco D (List.drop (Int.toNat 0) (List.take (Int.toNat x1_2) (Prod.fst (Prod.snd (Prod.snd x1_3))))) (Clo.mk 149 [CapV.rptr (Ty.pair Ty.str (Ty.pair (Ty.sl (Ty.int IntKind.i64)) (Ty.pair Ty.bool Ty.unit))) (List.getD x1_0 (Int.toNat x1_2) (ByteArray.empty,[],false,()))])) fun b↦br (Prod.fst (Prod.fst b)) (K0 false x1_3) (go x1_0 x1_1 (IntKind.wrap IntKind.i64 (x1_2+1)) x1_3)) none))) none) (K1 x1_3)
def qh7 (D:DX)(n:Nat) (K0:Bool→tSch→Option ((Bool×Unit)×Unit)) (K1:tSch→Option ((Bool×Unit)×Unit)):Nat→(tIxs)→(Int)→(Int)→(tSch)→Option ((Bool×Unit)×Unit) | 0=>(fun x1_0 x1_1 x1_2 x1_3=>none) | m+1=>(fun x1_0 x1_1 x1_2 x1_3=>qvo D n (qh7 D n K0 K1 m) K0 K1 x1_0 x1_1 x1_2 x1_3)
def q1r (D:DX)(n:Nat) (v0_0:Bool) (v0_1:tSch):Option ((Bool×Unit)×Unit):=some ((v0_0,()),())
def qrv (D:DX)(n:Nat) (v1_0:tSch):Option ((Bool×Unit)×Unit):=qj (qgo D (↑(List.length (Prod.fst v1_0)):Int) 1 5) fun b↦br (Prod.fst (Prod.fst b)) (qj (qqv D v1_0 (Prod.fst (Prod.snd v1_0)) 4) fun b↦br (Prod.fst (Prod.fst b)) (qj (qhm D (Prod.fst (Prod.snd v1_0)) (Clo.mk 151 [CapV.rptr (Ty.pair (Ty.sl (Ty.pair Ty.str (Ty.pair (Ty.int IntKind.i64) (Ty.pair Ty.bool Ty.unit)))) (Ty.pair (Ty.sl (Ty.int IntKind.i64)) (Ty.pair (Ty.sl (Ty.pair Ty.str (Ty.pair (Ty.sl (Ty.int IntKind.i64)) (Ty.pair Ty.bool Ty.unit)))) Ty.unit))) v1_0])) fun b↦some ((bif !Prod.fst (Prod.fst b) then decide ((↑(List.length (Prod.fst (Prod.snd (Prod.snd v1_0)))):Int)≤3) else false,()),())) (some ((false,()),()))) (some ((false,()),()))
def qut (D:DX)(n:Nat):(tIxs)→(Int)→(Int)→(tSch)→Option ((Bool×Unit)×Unit):=(fun x1_0 x1_1 x1_2 x1_3=>qh7 D n (fun v0_0 v0_1=>q1r D n v0_0 v0_1) (fun v1_0=>qrv D n v1_0) n x1_0 x1_1 x1_2 x1_3)
def qsf (D:DX)(n:Nat) (lp1:tIxs→Int→Int→tSch→Option ((Bool×Unit)×Unit)) (v1_0:tSch):Option ((Bool×Unit)×Unit):=lp1 (Prod.fst (Prod.snd (Prod.snd v1_0))) (↑(List.length (Prod.fst (Prod.snd (Prod.snd v1_0)))):Int) 0 v1_0
def qua (D:DX)(n:Nat):(qk)→(Int)→(Int)→(tSch)→Option ((Bool×Unit)×Unit):=(fun x0 x1 x2 x3=>qh5 D n (fun v0_0 v0_1=>q2b D n v0_0 v0_1) (fun v1_0=>qsf D n (qut D n) v1_0) n x0 x1 x2 x3)
def qxv (D:DX)(n:Nat) (lp0:qk→Int→Int→tSch→Option ((Bool×Unit)×Unit)) (a0:tSch):Option ((Bool×Unit)×Unit):=lp0 (Prod.fst a0) (↑(List.length (Prod.fst a0)):Int) 0 a0
def qw3 (D:DX)(n:Nat) (a0:tSch):Option ((Bool×Unit)×Unit):=qxv D n (qua D n) a0
def qid (x0:qk) (x1:Int) (x2:Int) (x3:tSch):St:=stq 85 [(1,AV.addr 1 []),(8,AV.val (Ty.sl yC) x0),(9,avI x1),(10,avI x2)] [(1,Root.mk yS Mk.no x3 true)] 
def ql5 (v0_0:Bool) (v0_1:tSch):St:=stq 85 [(1,AV.addr 1 []),(2,AV.val Ty.bool v0_0)] [(1,Root.mk yS Mk.no v0_1 true)] 
def qmk (v1_0:tSch):St:=stq 85 [(1,AV.addr 1 [])] [(1,Root.mk yS Mk.no v1_0 true)] 
def qh3 (x1_0:tIxs) (x1_1:Int) (x1_2:Int) (x1_3:tSch):St:=stq 85 [(1,AV.addr 1 []),(35,AV.val (Ty.sl yX) x1_0),(36,avI x1_1),(37,avI x1_2)] [(1,Root.mk yS Mk.no x1_3 true)] 
def qm3 (v0_0:Bool) (v0_1:tSch):St:=stq 85 [(1,AV.addr 1 []),(2,AV.val Ty.bool v0_0)] [(1,Root.mk yS Mk.no v0_1 true)] 
def qm4 (v1_0:tSch):St:=stq 85 [(1,AV.addr 1 [])] [(1,Root.mk yS Mk.no v1_0 true)] 
theorem qbeg (D:DX)(n:Nat) (m:Nat) (K:Ex→St→Option (Out ctx 82)) (x0:qk) (x1:Int) (x2:Int) (x3:tSch) :
 LQ qc D n 82 [.r,.l,.r,.l] (m+1) (qid x0 x1 x2 x3) K=qwi D n (fun x0 x1 x2 x3=>LQ qc D n 82 [.r,.l,.r,.l] m (qid x0 x1 x2 x3) K) (fun v0_0 v0_1=>K (Ex.ret) (ql5 v0_0 v0_1)) (fun v1_0=>K (Ex.exit 0) (qmk v1_0)) x0 x1 x2 x3:=by kernel_rfl
theorem q33 (D:DX)(n:Nat) (K:Ex→St→Option (Out ctx 82)):∀ (m:Nat) (x0:qk) (x1:Int) (x2:Int) (x3:tSch),LQ qc D n 82 [.r,.l,.r,.l] m (qid x0 x1 x2 x3) K=qh5 D n (fun v0_0 v0_1=>K (Ex.ret) (ql5 v0_0 v0_1)) (fun v1_0=>K (Ex.exit 0) (qmk v1_0)) m x0 x1 x2 x3
 | 0,x0,x1,x2,x3=>qy ..
 | m+1,x0,x1,x2,x3=>by
  have ih:(fun x0 x1 x2 x3=>LQ qc D n 82 [.r,.l,.r,.l] m (qid x0 x1 x2 x3) K)=qh5 D n (fun v0_0 v0_1=>K (Ex.ret) (ql5 v0_0 v0_1)) (fun v1_0=>K (Ex.exit 0) (qmk v1_0)) m:=by funext x0 x1 x2 x3;exact q33 D n K m x0 x1 x2 x3
  rw[qbeg]
  rw[ih];rfl
theorem qbe3 (D:DX)(n:Nat) (m:Nat) (K:Ex→St→Option (Out ctx 82)) (x1_0:tIxs) (x1_1:Int) (x1_2:Int) (x1_3:tSch) :
 LQ qc D n 82 [.r,.r,.l,.r,.l] (m+1) (qh3 x1_0 x1_1 x1_2 x1_3) K=qvo D n (fun x1_0 x1_1 x1_2 x1_3=>LQ qc D n 82 [.r,.r,.l,.r,.l] m (qh3 x1_0 x1_1 x1_2 x1_3) K) (fun v0_0 v0_1=>K (Ex.ret) (qm3 v0_0 v0_1)) (fun v1_0=>K (Ex.exit 2) (qm4 v1_0)) x1_0 x1_1 x1_2 x1_3:=by kernel_rfl
theorem q31 (D:DX)(n:Nat) (K:Ex→St→Option (Out ctx 82)):∀ (m:Nat) (x1_0:tIxs) (x1_1:Int) (x1_2:Int) (x1_3:tSch),LQ qc D n 82 [.r,.r,.l,.r,.l] m (qh3 x1_0 x1_1 x1_2 x1_3) K=qh7 D n (fun v0_0 v0_1=>K (Ex.ret) (qm3 v0_0 v0_1)) (fun v1_0=>K (Ex.exit 2) (qm4 v1_0)) m x1_0 x1_1 x1_2 x1_3
 | 0,x1_0,x1_1,x1_2,x1_3=>qy ..
 | m+1,x1_0,x1_1,x1_2,x1_3=>by
  have ih:(fun x1_0 x1_1 x1_2 x1_3=>LQ qc D n 82 [.r,.r,.l,.r,.l] m (qh3 x1_0 x1_1 x1_2 x1_3) K)=qh7 D n (fun v0_0 v0_1=>K (Ex.ret) (qm3 v0_0 v0_1)) (fun v1_0=>K (Ex.exit 2) (qm4 v1_0)) m:=by funext x1_0 x1_1 x1_2 x1_3;exact q31 D n K m x1_0 x1_1 x1_2 x1_3
  rw[qbe3]
  rw[ih];rfl
theorem qbbr (D:DX)(n:Nat) (v0_0:Bool) (v0_1:tSch) :
 (CQ qc D n 82 [] [.r,.r,.l,.r,.l] (qi qc 82)) (Ex.ret) (qm3 v0_0 v0_1)=q1r D n v0_0 v0_1:=by kernel_rfl
theorem qbdk (D:DX)(n:Nat) (v1_0:tSch) :
 (CQ qc D n 82 [] [.r,.r,.l,.r,.l] (qi qc 82)) (Ex.exit 2) (qm4 v1_0)=qrv D n v1_0:=by kernel_rfl
theorem qbcr (D:DX)(n:Nat) (x1_0:tIxs) (x1_1:Int) (x1_2:Int) (x1_3:tSch) :
 LQ qc D n 82 [.r,.r,.l,.r,.l] n (qh3 x1_0 x1_1 x1_2 x1_3) (CQ qc D n 82 [] [.r,.r,.l,.r,.l] (qi qc 82))=qut D n x1_0 x1_1 x1_2 x1_3:=by
 rw[q31]
 simp only[qbbr,qbdk]
 rfl
theorem qbbx (D:DX)(n:Nat) (v0_0:Bool) (v0_1:tSch) :
 (CQ qc D n 82 [] [.r,.l,.r,.l] (qi qc 82)) (Ex.ret) (ql5 v0_0 v0_1)=q2b D n v0_0 v0_1:=by kernel_rfl
theorem qbck (D:DX)(n:Nat) (v1_0:tSch) :
 (CQ qc D n 82 [] [.r,.l,.r,.l] (qi qc 82)) (Ex.exit 0) (qmk v1_0)=qsf D n (fun x1_0 x1_1 x1_2 x1_3=>LQ qc D n 82 [.r,.r,.l,.r,.l] n (qh3 x1_0 x1_1 x1_2 x1_3) (CQ qc D n 82 [] [.r,.r,.l,.r,.l] (qi qc 82))) v1_0:=by kernel_rfl
theorem qbb7 (D:DX)(n:Nat) (x0:qk) (x1:Int) (x2:Int) (x3:tSch) :
 LQ qc D n 82 [.r,.l,.r,.l] n (qid x0 x1 x2 x3) (CQ qc D n 82 [] [.r,.l,.r,.l] (qi qc 82))=qua D n x0 x1 x2 x3:=by
 rw[q33]
 simp only[qbbx,qbck,qbcr]
 rfl
theorem qbh2 (D:DX)(n:Nat) (a0:tSch):rfC qc D n 82 (a0,())=qw3 D n a0:=by
 have h:rfC qc D n 82 (a0,())=qxv D n (fun x0 x1 x2 x3=>LQ qc D n 82 [.r,.l,.r,.l] n (qid x0 x1 x2 x3) (CQ qc D n 82 [] [.r,.l,.r,.l] (qi qc 82))) a0:=by kernel_rfl
 rw[h]
 simp only[qbb7]
 rfl

def qzf (D:DX)(n:Nat) (a0:(tSch)×qf×Unit):Option ((((tSch)×qf×Unit)×Unit)×Unit):=qj (qud D (Prod.fst a0)) fun b↦qj (qtx D (Prod.fst (Prod.snd a0))) fun b_1↦some ((((Prod.fst (Prod.fst (Prod.fst b)),Prod.fst (Prod.snd (Prod.fst (Prod.fst b))),Prod.fst (Prod.snd (Prod.snd (Prod.fst (Prod.fst b)))),()),Prod.fst (Prod.fst b_1),()),()),())
def qp4 (D:DX)(n:Nat) (a0:(tSch)×qf×Unit):Option ((((tSch)×qf×Unit)×Unit)×Unit):=qzf D n a0
theorem qbai (D:DX)(n:Nat) (a0:(tSch)×
 qf×Unit):rfC qc D n 83 (a0,())=qp4 D n a0:=by kernel_rfl

def qbbw (D:DX)(n:Nat) (a0:(tSch)×qf×Unit) (a1:qd):Option ((Int×Unit)×Unit):=qj (qcv D (Prod.fst (Prod.snd a0)) (Clo.mk 153 [CapV.rptr (Ty.pair (Ty.pair (Ty.sl (Ty.pair Ty.str (Ty.pair (Ty.int IntKind.i64) (Ty.pair Ty.bool Ty.unit)))) (Ty.pair (Ty.sl (Ty.int IntKind.i64)) (Ty.pair (Ty.sl (Ty.pair Ty.str (Ty.pair (Ty.sl (Ty.int IntKind.i64)) (Ty.pair Ty.bool Ty.unit)))) Ty.unit))) (Ty.pair (Ty.sl (Ty.sl (Ty.pair (Ty.int IntKind.i64) (Ty.pair (Ty.int IntKind.i64) (Ty.pair Ty.str Ty.unit))))) Ty.unit)) a0,CapV.rptr (Ty.sl (Ty.pair (Ty.int IntKind.i64) (Ty.pair (Ty.int IntKind.i64) (Ty.pair Ty.str Ty.unit)))) a1])) fun b↦some ((Prod.fst (Prod.fst b),()),())
def q5f (D:DX)(n:Nat) (a0:(tSch)×qf×Unit) (a1:qd):Option ((Int×Unit)×Unit):=qbbw D n a0 a1
theorem qbpe (D:DX)(n:Nat) (a0:(tSch)×
 qf×Unit) (a1:qd):rfC qc D n 84 (a0,(a1,()))=q5f D n a0 a1:=by kernel_rfl


def qdn (D:DX)(n:Nat) (a1:Clo) (go:qf→Int→Int→Option ((Int×Unit)×Unit)) (K0:Int→Option ((Int×Unit)×Unit)) (K1:Option ((Int×Unit)×Unit)) (x0:qf) (x1:Int) (x2:Int):Option ((Int×Unit)×Unit):=br (decide (x2<x1)) (br (decide (0≤x2)&&decide (x2<(↑(List.length x0):Int))) (qj (qcj ctx D a1 [CapV.val (Ty.sl (Ty.pair (Ty.int IntKind.i64) (Ty.pair (Ty.int IntKind.i64) (Ty.pair Ty.str Ty.unit)))) (List.getD x0 (Int.toNat x2) [])] Ty.bool) fun b↦br b (K0 x2) (go x0 x1 (IntKind.wrap IntKind.i64 (x2+1)))) none) K1
def qbt (D:DX)(n:Nat) (a1:Clo) (K0:Int→Option ((Int×Unit)×Unit)) (K1:Option ((Int×Unit)×Unit)):Nat→(qf)→(Int)→(Int)→Option ((Int×Unit)×Unit) | 0=>(fun x0 x1 x2=>none) | m+1=>(fun x0 x1 x2=>qdn D n a1 (qbt D n a1 K0 K1 m) K0 K1 x0 x1 x2)
def qfq (D:DX)(n:Nat) (a1:Clo) (v0_0:Int):Option ((Int×Unit)×Unit):=some ((v0_0,()),())
def qfo (D:DX)(n:Nat) (a1:Clo):Option ((Int×Unit)×Unit):=some ((-1,()),())
def qdi (D:DX)(n:Nat) (a1:Clo):(qf)→(Int)→(Int)→Option ((Int×Unit)×Unit):=(fun x0 x1 x2=>qbt D n a1 (fun v0_0=>qfq D n a1 v0_0) (qfo D n a1) n x0 x1 x2)
def qdy (D:DX)(n:Nat) (a1:Clo) (lp0:qf→Int→Int→Option ((Int×Unit)×Unit)) (a0:qf):Option ((Int×Unit)×Unit):=lp0 a0 (↑(List.length a0):Int) 0
def qd1 (D:DX)(n:Nat) (a0:qf) (a1:Clo):Option ((Int×Unit)×Unit):=qdy D n a1 (qdi D n a1) a0
def qbs (a1:Clo) (x0:qf) (x1:Int) (x2:Int):St:=stq 19 [(0,AV.val (Ty.sl (Ty.sl yV)) x0),(1,AV.cloV a1),(7,avI x1),(8,avI x2)] [] 
def qcp (a1:Clo) (v0_0:Int):St:=stq 19 [(4,avI v0_0)] [] 
def qcq (a1:Clo):St:=stq 19 [] [] 
theorem qok (D:DX)(n:Nat) (a1:Clo) (m:Nat) (K:Ex→St→Option (Out ctx 86)) (x0:qf) (x1:Int) (x2:Int) :
 LQ qc D n 86 [.r,.l,.r,.l] (m+1) (qbs a1 x0 x1 x2) K=qdn D n a1 (fun x0 x1 x2=>LQ qc D n 86 [.r,.l,.r,.l] m (qbs a1 x0 x1 x2) K) (fun v0_0=>K (Ex.ret) (qcp a1 v0_0)) (K (Ex.exit 0) (qcq a1)) x0 x1 x2:=by kernel_rfl
theorem qfz (D:DX)(n:Nat) (a1:Clo) (K:Ex→St→Option (Out ctx 86)):∀ (m:Nat) (x0:qf) (x1:Int) (x2:Int),LQ qc D n 86 [.r,.l,.r,.l] m (qbs a1 x0 x1 x2) K=qbt D n a1 (fun v0_0=>K (Ex.ret) (qcp a1 v0_0)) (K (Ex.exit 0) (qcq a1)) m x0 x1 x2
 | 0,x0,x1,x2=>qy ..
 | m+1,x0,x1,x2=>by
  have ih:(fun x0 x1 x2=>LQ qc D n 86 [.r,.l,.r,.l] m (qbs a1 x0 x1 x2) K)=qbt D n a1 (fun v0_0=>K (Ex.ret) (qcp a1 v0_0)) (K (Ex.exit 0) (qcq a1)) m:=by funext x0 x1 x2;exact qfz D n a1 K m x0 x1 x2
  rw[qok]
  rw[ih];rfl
theorem qnr (D:DX)(n:Nat) (a1:Clo) (v0_0:Int) :
 (CQ qc D n 86 [] [.r,.l,.r,.l] (qi qc 86)) (Ex.ret) (qcp a1 v0_0)=qfq D n a1 v0_0:=by kernel_rfl
theorem qns (D:DX)(n:Nat) (a1:Clo) :
 (CQ qc D n 86 [] [.r,.l,.r,.l] (qi qc 86)) (Ex.exit 0) (qcq a1)=qfo D n a1:=by kernel_rfl
theorem qnn (D:DX)(n:Nat) (a1:Clo) (x0:qf) (x1:Int) (x2:Int) :
 LQ qc D n 86 [.r,.l,.r,.l] n (qbs a1 x0 x1 x2) (CQ qc D n 86 [] [.r,.l,.r,.l] (qi qc 86))=qdi D n a1 x0 x1 x2:=by
 rw[qfz]
 simp only[qnr,qns]
 rfl
theorem qor (D:DX)(n:Nat) (a0:qf) (a1:Clo):rfC qc D n 86 (a0,(a1,()))=qd1 D n a0 a1:=by
 have h:rfC qc D n 86 (a0,(a1,()))=qdy D n a1 (fun x0 x1 x2=>LQ qc D n 86 [.r,.l,.r,.l] n (qbs a1 x0 x1 x2) (CQ qc D n 86 [] [.r,.l,.r,.l] (qi qc 86))) a0:=by kernel_rfl
 rw[h]
 simp only[qnn]
 rfl


def qi4 (D:DX)(n:Nat) (a0:qd):Option ((qd×Unit)×Unit):=br (decide (Int.toNat (↑(List.length a0):Int)=0)) (both (some (([],()),())) (br (decide (0+List.length a0≤qbm)) (some (([]++a0,()),())) none)) (br (decide (0+List.length a0≤qbm)) (some (([]++a0,()),())) none)
def qer (D:DX)(n:Nat) (a0:qd):Option ((qd×Unit)×Unit):=qi4 D n a0
theorem qr5 (D:DX)(n:Nat) (a0:qd):rfC qc D n 89 (a0,())=qer D n a0:=by kernel_rfl

def qxc (D:DX)(n:Nat) (go:qd→List Int→Int→Int→qd→Option ((qd×Unit)×Unit)) (K0:qd→Option ((qd×Unit)×Unit)) (x0:qd) (x1:List Int) (x2:Int) (x3:Int) (x4:qd):Option ((qd×Unit)×Unit):=br (decide (x3<x2)) (br (decide (0≤x3)&&decide (x3<(↑(List.length x1):Int))) (qj (qgo D (List.getD x1 (Int.toNat x3) 0) 0 (IntKind.wrap IntKind.i64 ((↑(List.length x0):Int) - 1))) fun b↦br (Prod.fst (Prod.fst b)) (br (decide (0≤List.getD x1 (Int.toNat x3) 0)&&decide (List.getD x1 (Int.toNat x3) 0<(↑(List.length x0):Int))) (br (decide (List.length x4+1≤qbm)) (go x0 x1 x2 (IntKind.wrap IntKind.i64 (x3+1)) (x4++[List.getD x0 (Int.toNat (List.getD x1 (Int.toNat x3) 0)) (0,0,ByteArray.empty,())])) none) none) (go x0 x1 x2 (IntKind.wrap IntKind.i64 (x3+1)) x4)) none) (K0 x4)
def qjb (D:DX)(n:Nat) (K0:qd→Option ((qd×Unit)×Unit)):Nat→(qd)→(List Int)→(Int)→(Int)→(qd)→Option ((qd×Unit)×Unit) | 0=>(fun x0 x1 x2 x3 x4=>none) | m+1=>(fun x0 x1 x2 x3 x4=>qxc D n (qjb D n K0 m) K0 x0 x1 x2 x3 x4)
def q3b (D:DX)(n:Nat) (v0_0:qd):Option ((qd×Unit)×Unit):=some ((v0_0,()),())
def qv8 (D:DX)(n:Nat):(qd)→(List Int)→(Int)→(Int)→(qd)→Option ((qd×Unit)×Unit):=(fun x0 x1 x2 x3 x4=>qjb D n (fun v0_0=>q3b D n v0_0) n x0 x1 x2 x3 x4)
def q0v (D:DX)(n:Nat) (lp0:qd→List Int→Int→Int→qd→Option ((qd×Unit)×Unit)) (a0:qd) (a1:List Int):Option ((qd×Unit)×Unit):=lp0 a0 a1 (↑(List.length a1):Int) 0 []
def q0d (D:DX)(n:Nat) (a0:qd) (a1:List Int):Option ((qd×Unit)×Unit):=q0v D n (qv8 D n) a0 a1
def qi7 (x0:qd) (x1:List Int) (x2:Int) (x3:Int) (x4:qd):St:=stq 29 [(0,AV.val (Ty.sl yV) x0),(5,AV.brw 5 [] 0),(9,AV.val (Ty.sl yI) x1),(10,avI x2),(11,avI x3)] [(5,Root.mk (Ty.sl yV) (Mk.own 0 (Mk.pr Mk.no (Mk.pr Mk.no (Mk.pr Mk.no Mk.no)))) x4 false)] 
def qn4 (v0_0:qd):St:=stq 29 [(5,AV.brw 5 [] 0)] [(5,Root.mk (Ty.sl yV) (Mk.own 0 (Mk.pr Mk.no (Mk.pr Mk.no (Mk.pr Mk.no Mk.no)))) v0_0 false)] 
theorem qbgr (D:DX)(n:Nat) (m:Nat) (K:Ex→St→Option (Out ctx 94)) (x0:qd) (x1:List Int) (x2:Int) (x3:Int) (x4:qd) :
 LQ qc D n 94 [.r,.r,.l,.r,.l] (m+1) (qi7 x0 x1 x2 x3 x4) K=qxc D n (fun x0 x1 x2 x3 x4=>LQ qc D n 94 [.r,.r,.l,.r,.l] m (qi7 x0 x1 x2 x3 x4) K) (fun v0_0=>K (Ex.exit 0) (qn4 v0_0)) x0 x1 x2 x3 x4:=by kernel_rfl
theorem q5i (D:DX)(n:Nat) (K:Ex→St→Option (Out ctx 94)):∀ (m:Nat) (x0:qd) (x1:List Int) (x2:Int) (x3:Int) (x4:qd),LQ qc D n 94 [.r,.r,.l,.r,.l] m (qi7 x0 x1 x2 x3 x4) K=qjb D n (fun v0_0=>K (Ex.exit 0) (qn4 v0_0)) m x0 x1 x2 x3 x4
 | 0,x0,x1,x2,x3,x4=>qy ..
 | m+1,x0,x1,x2,x3,x4=>by
  have ih:(fun x0 x1 x2 x3 x4=>LQ qc D n 94 [.r,.r,.l,.r,.l] m (qi7 x0 x1 x2 x3 x4) K)=qjb D n (fun v0_0=>K (Ex.exit 0) (qn4 v0_0)) m:=by funext x0 x1 x2 x3 x4;exact q5i D n K m x0 x1 x2 x3 x4
  rw[qbgr]
  rw[ih];rfl
theorem qbee (D:DX)(n:Nat) (v0_0:qd) :
 (CQ qc D n 94 [] [.r,.r,.l,.r,.l] (qi qc 94)) (Ex.exit 0) (qn4 v0_0)=q3b D n v0_0:=by kernel_rfl
theorem qbez (D:DX)(n:Nat) (x0:qd) (x1:List Int) (x2:Int) (x3:Int) (x4:qd) :
 LQ qc D n 94 [.r,.r,.l,.r,.l] n (qi7 x0 x1 x2 x3 x4) (CQ qc D n 94 [] [.r,.r,.l,.r,.l] (qi qc 94))=qv8 D n x0 x1 x2 x3 x4:=by
 rw[q5i]
 simp only[qbee]
 rfl
theorem qblg (D:DX)(n:Nat) (a0:qd) (a1:List Int):rfC qc D n 94 (a0,(a1,()))=q0d D n a0 a1:=by
 have h:rfC qc D n 94 (a0,(a1,()))=q0v D n (fun x0 x1 x2 x3 x4=>LQ qc D n 94 [.r,.r,.l,.r,.l] n (qi7 x0 x1 x2 x3 x4) (CQ qc D n 94 [] [.r,.r,.l,.r,.l] (qi qc 94))) a0 a1:=by kernel_rfl
 rw[h]
 simp only[qbez]
 rfl

def q7x (D:DX)(n:Nat) (a0:(tSch)×qf×Unit):Option ((((tSch)×qf×Unit)×Unit)×Unit):=qj (qz8 D (Prod.fst a0)) fun b↦qj (qog D (Prod.fst (Prod.snd a0))) fun b_1↦some ((((Prod.fst (Prod.fst (Prod.fst b)),Prod.fst (Prod.snd (Prod.fst (Prod.fst b))),Prod.fst (Prod.snd (Prod.snd (Prod.fst (Prod.fst b)))),()),Prod.fst (Prod.fst b_1),()),()),())
def qzu (D:DX)(n:Nat) (a0:(tSch)×qf×Unit):Option ((((tSch)×qf×Unit)×Unit)×Unit):=q7x D n a0
theorem qbk4 (D:DX)(n:Nat) (a0:(tSch)×
 qf×Unit):rfC qc D n 99 (a0,())=qzu D n a0:=by kernel_rfl

def q2u (D:DX)(n:Nat) (go:qd→Int→tSch→Option ((Bool×Unit)×Unit)) (K0:Bool→Option ((Bool×Unit)×Unit)) (K1:Option ((Bool×Unit)×Unit)) (x0:qd) (x1:Int) (x2:tSch):Option ((Bool×Unit)×Unit):=br (decide (x1<(↑(List.length x0):Int))) (br (decide (0≤x1)&&decide (x1<(↑(List.length x0):Int))) (qj (q05 D (List.getD x0 (Int.toNat x1) (0,0,ByteArray.empty,()))) fun b↦br (!Prod.fst (Prod.fst b)) (K0 false) (br (decide (0≤x1)&&decide (x1<(↑(List.length x0):Int))) (br (decide (0≤x1)&&decide (x1<(↑(List.length (Prod.fst x2)):Int))) (br (Prod.fst (List.getD x0 (Int.toNat x1) (0,0,ByteArray.empty,())) != Prod.fst (Prod.snd (List.getD (Prod.fst x2) (Int.toNat x1) (ByteArray.empty,0,false,())))) (br (decide (0≤x1)&&decide (x1<(↑(List.length (Prod.fst x2)):Int))) (br (Prod.fst (Prod.snd (Prod.snd (List.getD (Prod.fst x2) (Int.toNat x1) (ByteArray.empty,0,false,()))))) (br (decide (0≤x1)&&decide (x1<(↑(List.length x0):Int))) (br (!decide (Prod.fst (List.getD x0 (Int.toNat x1) (0,0,ByteArray.empty,()))=0)) (K0 false) (go x0 (IntKind.wrap IntKind.i64 (x1+1)) x2)) none) (K0 false)) none) (go x0 (IntKind.wrap IntKind.i64 (x1+1)) x2)) none) none)) none) K1
def qlq (D:DX)(n:Nat) (K0:Bool→Option ((Bool×Unit)×Unit)) (K1:Option ((Bool×Unit)×Unit)):Nat→(qd)→(Int)→(tSch)→Option ((Bool×Unit)×Unit) | 0=>(fun x0 x1 x2=>none) | m+1=>(fun x0 x1 x2=>q2u D n (qlq D n K0 K1 m) K0 K1 x0 x1 x2)
def q6s (D:DX)(n:Nat) (v0_0:Bool):Option ((Bool×Unit)×Unit):=some ((v0_0,()),())
def q6w (D:DX)(n:Nat):Option ((Bool×Unit)×Unit):=some ((true,()),())
def q0i (D:DX)(n:Nat):(qd)→(Int)→(tSch)→Option ((Bool×Unit)×Unit):=(fun x0 x1 x2=>qlq D n (fun v0_0=>q6s D n v0_0) (q6w D n) n x0 x1 x2)
def q4u (D:DX)(n:Nat) (lp0:qd→Int→tSch→Option ((Bool×Unit)×Unit)) (a0:tSch) (a1:qd):Option ((Bool×Unit)×Unit):=qj (qqx D a0) fun b↦br (bif !Prod.fst (Prod.fst b) then true else (↑(List.length a1):Int) != (↑(List.length (Prod.fst a0)):Int)) (some ((false,()),())) (lp0 a1 0 a0)
def q42 (D:DX)(n:Nat) (a0:tSch) (a1:qd):Option ((Bool×Unit)×Unit):=q4u D n (q0i D n) a0 a1
def qlo (x0:qd) (x1:Int) (x2:tSch):St:=stq 60 [(1,AV.val (Ty.sl yV) x0),(2,AV.addr 2 []),(5,avI x1)] [(2,Root.mk yS Mk.no x2 true)] 
def qqz (v0_0:Bool):St:=stq 60 [(4,AV.val Ty.bool v0_0)] [] 
def qq6:St:=stq 60 [] [] 
theorem qbml (D:DX)(n:Nat) (m:Nat) (K:Ex→St→Option (Out ctx 100)) (x0:qd) (x1:Int) (x2:tSch) :
 LQ qc D n 100 [.r,.r,.l,.r,.l] (m+1) (qlo x0 x1 x2) K=q2u D n (fun x0 x1 x2=>LQ qc D n 100 [.r,.r,.l,.r,.l] m (qlo x0 x1 x2) K) (fun v0_0=>K (Ex.ret) (qqz v0_0)) (K (Ex.exit 0) (qq6)) x0 x1 x2:=by kernel_rfl
theorem q7s (D:DX)(n:Nat) (K:Ex→St→Option (Out ctx 100)):∀ (m:Nat) (x0:qd) (x1:Int) (x2:tSch),LQ qc D n 100 [.r,.r,.l,.r,.l] m (qlo x0 x1 x2) K=qlq D n (fun v0_0=>K (Ex.ret) (qqz v0_0)) (K (Ex.exit 0) (qq6)) m x0 x1 x2
 | 0,x0,x1,x2=>qy ..
 | m+1,x0,x1,x2=>by
  have ih:(fun x0 x1 x2=>LQ qc D n 100 [.r,.r,.l,.r,.l] m (qlo x0 x1 x2) K)=qlq D n (fun v0_0=>K (Ex.ret) (qqz v0_0)) (K (Ex.exit 0) (qq6)) m:=by funext x0 x1 x2;exact q7s D n K m x0 x1 x2
  rw[qbml]
  rw[ih];rfl
theorem qbkp (D:DX)(n:Nat) (v0_0:Bool) :
 (CQ qc D n 100 [] [.r,.r,.l,.r,.l] (qi qc 100)) (Ex.ret) (qqz v0_0)=q6s D n v0_0:=by kernel_rfl
theorem qbi5 (D:DX)(n:Nat) :
 (CQ qc D n 100 [] [.r,.r,.l,.r,.l] (qi qc 100)) (Ex.exit 0) (qq6)=q6w D n:=by kernel_rfl
theorem qbjj (D:DX)(n:Nat) (x0:qd) (x1:Int) (x2:tSch) :
 LQ qc D n 100 [.r,.r,.l,.r,.l] n (qlo x0 x1 x2) (CQ qc D n 100 [] [.r,.r,.l,.r,.l] (qi qc 100))=q0i D n x0 x1 x2:=by
 rw[q7s]
 simp only[qbkp,qbi5]
 rfl
theorem qbov (D:DX)(n:Nat) (a0:tSch) (a1:qd):rfC qc D n 100 (a0,(a1,()))=q42 D n a0 a1:=by
 have h:rfC qc D n 100 (a0,(a1,()))=q4u D n (fun x0 x1 x2=>LQ qc D n 100 [.r,.r,.l,.r,.l] n (qlo x0 x1 x2) (CQ qc D n 100 [] [.r,.r,.l,.r,.l] (qi qc 100))) a0 a1:=by kernel_rfl
 rw[h]
 simp only[qbjj]
 rfl

def q2k (D:DX)(n:Nat) (go:qd→Int→(tSch)×qf×Unit→Option ((Int×Unit)×Unit)) (K0:Int→Option ((Int×Unit)×Unit)) (K1:Option ((Int×Unit)×Unit)) (x0:qd) (x1:Int) (x2:(tSch)×qf×Unit):Option ((Int×Unit)×Unit):=br (decide (x1<(↑(List.length (Prod.fst (Prod.snd x2))):Int))) (br (decide (0≤x1)&&decide (x1<(↑(List.length (Prod.fst (Prod.snd x2))):Int))) (qj (qm7 D (Prod.fst x2) (List.getD (Prod.fst (Prod.snd x2)) (Int.toNat x1) [])) fun b↦qj (qs0 D (Prod.fst (Prod.fst b)) x0) fun b↦br (Prod.fst (Prod.fst b)) (K0 x1) (go x0 (IntKind.wrap IntKind.i64 (x1+1)) x2)) none) K1
def qln (D:DX)(n:Nat) (K0:Int→Option ((Int×Unit)×Unit)) (K1:Option ((Int×Unit)×Unit)):Nat→(qd)→(Int)→((tSch)×qf×Unit)→Option ((Int×Unit)×Unit) | 0=>(fun x0 x1 x2=>none) | m+1=>(fun x0 x1 x2=>q2k D n (qln D n K0 K1 m) K0 K1 x0 x1 x2)
def q6z (D:DX)(n:Nat) (v0_0:Int):Option ((Int×Unit)×Unit):=some ((v0_0,()),())
def q6k (D:DX)(n:Nat):Option ((Int×Unit)×Unit):=some ((-1,()),())
def q0s (D:DX)(n:Nat):(qd)→(Int)→((tSch)×qf×Unit)→Option ((Int×Unit)×Unit):=(fun x0 x1 x2=>qln D n (fun v0_0=>q6z D n v0_0) (q6k D n) n x0 x1 x2)
def q59 (D:DX)(n:Nat) (lp0:qd→Int→(tSch)×qf×Unit→Option ((Int×Unit)×Unit)) (a0:(tSch)×qf×Unit) (a1:qd):Option ((Int×Unit)×Unit):=lp0 a1 0 a0
def q5s (D:DX)(n:Nat) (a0:(tSch)×qf×Unit) (a1:qd):Option ((Int×Unit)×Unit):=q59 D n (q0s D n) a0 a1
def qls (x0:qd) (x1:Int) (x2:(tSch)×qf×Unit):St:=stq 24 [(1,AV.val (Ty.sl yV) x0),(2,AV.addr 2 []),(5,avI x1)] [(2,Root.mk (Ty.pair yS (Ty.pair (Ty.sl (Ty.sl yV)) Ty.unit)) Mk.no x2 true)] 
def qq1 (v0_0:Int):St:=stq 24 [(4,avI v0_0)] [] 
def qq2:St:=stq 24 [] [] 
theorem qblp (D:DX)(n:Nat) (m:Nat) (K:Ex→St→Option (Out ctx 101)) (x0:qd) (x1:Int) (x2:(tSch)×
 qf×Unit) :
 LQ qc D n 101 [.r,.l,.r,.l] (m+1) (qls x0 x1 x2) K=q2k D n (fun x0 x1 x2=>LQ qc D n 101 [.r,.l,.r,.l] m (qls x0 x1 x2) K) (fun v0_0=>K (Ex.ret) (qq1 v0_0)) (K (Ex.exit 0) (qq2)) x0 x1 x2:=by kernel_rfl
theorem q8d (D:DX)(n:Nat) (K:Ex→St→Option (Out ctx 101)):∀ (m:Nat) (x0:qd) (x1:Int) (x2:(tSch)×
 qf×Unit),LQ qc D n 101 [.r,.l,.r,.l] m (qls x0 x1 x2) K=qln D n (fun v0_0=>K (Ex.ret) (qq1 v0_0)) (K (Ex.exit 0) (qq2)) m x0 x1 x2
 | 0,x0,x1,x2=>qy ..
 | m+1,x0,x1,x2=>by
  have ih:(fun x0 x1 x2=>LQ qc D n 101 [.r,.l,.r,.l] m (qls x0 x1 x2) K)=qln D n (fun v0_0=>K (Ex.ret) (qq1 v0_0)) (K (Ex.exit 0) (qq2)) m:=by funext x0 x1 x2;exact q8d D n K m x0 x1 x2
  rw[qblp]
  rw[ih];rfl
theorem qbka (D:DX)(n:Nat) (v0_0:Int) :
 (CQ qc D n 101 [] [.r,.l,.r,.l] (qi qc 101)) (Ex.ret) (qq1 v0_0)=q6z D n v0_0:=by kernel_rfl
theorem qbjr (D:DX)(n:Nat) :
 (CQ qc D n 101 [] [.r,.l,.r,.l] (qi qc 101)) (Ex.exit 0) (qq2)=q6k D n:=by kernel_rfl
theorem qbji (D:DX)(n:Nat) (x0:qd) (x1:Int) (x2:(tSch)×
 qf×Unit) :
 LQ qc D n 101 [.r,.l,.r,.l] n (qls x0 x1 x2) (CQ qc D n 101 [] [.r,.l,.r,.l] (qi qc 101))=q0s D n x0 x1 x2:=by
 rw[q8d]
 simp only[qbka,qbjr]
 rfl
theorem qbpw (D:DX)(n:Nat) (a0:(tSch)×
 qf×Unit) (a1:qd):rfC qc D n 101 (a0,(a1,()))=q5s D n a0 a1:=by
 have h:rfC qc D n 101 (a0,(a1,()))=q59 D n (fun x0 x1 x2=>LQ qc D n 101 [.r,.l,.r,.l] n (qls x0 x1 x2) (CQ qc D n 101 [] [.r,.l,.r,.l] (qi qc 101))) a0 a1:=by kernel_rfl
 rw[h]
 simp only[qbji]
 rfl

def q6h (D:DX)(n:Nat) (a0:tSch) (a1:qd):Option ((qd×Unit)×Unit):=qj (qn6 D a1 (Prod.fst (Prod.snd a0))) fun b↦some ((Prod.fst (Prod.fst b),()),())
def qxe (D:DX)(n:Nat) (a0:tSch) (a1:qd):Option ((qd×Unit)×Unit):=q6h D n a0 a1
theorem qbj2 (D:DX)(n:Nat) (a0:tSch) (a1:qd):rfC qc D n 102 (a0,(a1,()))=qxe D n a0 a1:=by kernel_rfl


def qth (D:DX)(n:Nat) (go:qd→qd→Int→Option ((Bool×Unit)×Unit)) (K0:qd→qd→Bool→Option ((Bool×Unit)×Unit)) (K1:qd→qd→Option ((Bool×Unit)×Unit)) (x0:qd) (x1:qd) (x2:Int):Option ((Bool×Unit)×Unit):=br (bif decide (x2<(↑(List.length x0):Int)) then decide (x2<(↑(List.length x1):Int)) else false) (br (decide (0≤x2)&&decide (x2<(↑(List.length x0):Int))) (br (decide (0≤x2)&&decide (x2<(↑(List.length x1):Int))) (qj (qoo D (List.getD x0 (Int.toNat x2) (0,0,ByteArray.empty,())) (List.getD x1 (Int.toNat x2) (0,0,ByteArray.empty,()))) fun b↦br (!Prod.fst (Prod.fst b)) (br (decide (0≤x2)&&decide (x2<(↑(List.length x0):Int))) (br (decide (0≤x2)&&decide (x2<(↑(List.length x1):Int))) (qj (qvg D (List.getD x0 (Int.toNat x2) (0,0,ByteArray.empty,())) (List.getD x1 (Int.toNat x2) (0,0,ByteArray.empty,()))) fun b↦K0 x0 x1 (Prod.fst (Prod.fst b))) none) none) (go x0 x1 (IntKind.wrap IntKind.i64 (x2+1)))) none) none) (K1 x0 x1)
def qgz (D:DX)(n:Nat) (K0:qd→qd→Bool→Option ((Bool×Unit)×Unit)) (K1:qd→qd→Option ((Bool×Unit)×Unit)):Nat→(qd)→(qd)→(Int)→Option ((Bool×Unit)×Unit) | 0=>(fun x0 x1 x2=>none) | m+1=>(fun x0 x1 x2=>qth D n (qgz D n K0 K1 m) K0 K1 x0 x1 x2)
def qqp (D:DX)(n:Nat) (v0_0:qd) (v0_1:qd) (v0_2:Bool):Option ((Bool×Unit)×Unit):=some ((v0_2,()),())
def qhn (D:DX)(n:Nat) (v1_0:qd) (v1_1:qd):Option ((Bool×Unit)×Unit):=some ((decide ((↑(List.length v1_0):Int)<(↑(List.length v1_1):Int)),()),())
def qr8 (D:DX)(n:Nat):(qd)→(qd)→(Int)→Option ((Bool×Unit)×Unit):=(fun x0 x1 x2=>qgz D n (fun v0_0 v0_1 v0_2=>qqp D n v0_0 v0_1 v0_2) (fun v1_0 v1_1=>qhn D n v1_0 v1_1) n x0 x1 x2)
def qvu (D:DX)(n:Nat) (lp0:qd→qd→Int→Option ((Bool×Unit)×Unit)) (a0:qd) (a1:qd):Option ((Bool×Unit)×Unit):=lp0 a0 a1 0
def qwq (D:DX)(n:Nat) (a0:qd) (a1:qd):Option ((Bool×Unit)×Unit):=qvu D n (qr8 D n) a0 a1
def qg2 (x0:qd) (x1:qd) (x2:Int):St:=stq 42 [(0,AV.val (Ty.sl yV) x0),(1,AV.val (Ty.sl yV) x1),(5,avI x2)] [] 
def qkv (v0_0:qd) (v0_1:qd) (v0_2:Bool):St:=stq 42 [(0,AV.val (Ty.sl yV) v0_0),(1,AV.val (Ty.sl yV) v0_1),(4,AV.val Ty.bool v0_2)] [] 
def qk8 (v1_0:qd) (v1_1:qd):St:=stq 42 [(0,AV.val (Ty.sl yV) v1_0),(1,AV.val (Ty.sl yV) v1_1)] [] 
theorem qbb3 (D:DX)(n:Nat) (m:Nat) (K:Ex→St→Option (Out ctx 104)) (x0:qd) (x1:qd) (x2:Int) :
 LQ qc D n 104 [.r,.l,.r,.l] (m+1) (qg2 x0 x1 x2) K=qth D n (fun x0 x1 x2=>LQ qc D n 104 [.r,.l,.r,.l] m (qg2 x0 x1 x2) K) (fun v0_0 v0_1 v0_2=>K (Ex.ret) (qkv v0_0 v0_1 v0_2)) (fun v1_0 v1_1=>K (Ex.exit 0) (qk8 v1_0 v1_1)) x0 x1 x2:=by kernel_rfl
theorem q17 (D:DX)(n:Nat) (K:Ex→St→Option (Out ctx 104)):∀ (m:Nat) (x0:qd) (x1:qd) (x2:Int),LQ qc D n 104 [.r,.l,.r,.l] m (qg2 x0 x1 x2) K=qgz D n (fun v0_0 v0_1 v0_2=>K (Ex.ret) (qkv v0_0 v0_1 v0_2)) (fun v1_0 v1_1=>K (Ex.exit 0) (qk8 v1_0 v1_1)) m x0 x1 x2
 | 0,x0,x1,x2=>qy ..
 | m+1,x0,x1,x2=>by
  have ih:(fun x0 x1 x2=>LQ qc D n 104 [.r,.l,.r,.l] m (qg2 x0 x1 x2) K)=qgz D n (fun v0_0 v0_1 v0_2=>K (Ex.ret) (qkv v0_0 v0_1 v0_2)) (fun v1_0 v1_1=>K (Ex.exit 0) (qk8 v1_0 v1_1)) m:=by funext x0 x1 x2;exact q17 D n K m x0 x1 x2
  rw[qbb3]
  rw[ih];rfl
theorem qban (D:DX)(n:Nat) (v0_0:qd) (v0_1:qd) (v0_2:Bool) :
 (CQ qc D n 104 [] [.r,.l,.r,.l] (qi qc 104)) (Ex.ret) (qkv v0_0 v0_1 v0_2)=qqp D n v0_0 v0_1 v0_2:=by kernel_rfl
theorem qbav (D:DX)(n:Nat) (v1_0:qd) (v1_1:qd) :
 (CQ qc D n 104 [] [.r,.l,.r,.l] (qi qc 104)) (Ex.exit 0) (qk8 v1_0 v1_1)=qhn D n v1_0 v1_1:=by kernel_rfl
theorem q96 (D:DX)(n:Nat) (x0:qd) (x1:qd) (x2:Int) :
 LQ qc D n 104 [.r,.l,.r,.l] n (qg2 x0 x1 x2) (CQ qc D n 104 [] [.r,.l,.r,.l] (qi qc 104))=qr8 D n x0 x1 x2:=by
 rw[q17]
 simp only[qban,qbav]
 rfl
theorem qbgo (D:DX)(n:Nat) (a0:qd) (a1:qd):rfC qc D n 104 (a0,(a1,()))=qwq D n a0 a1:=by
 have h:rfC qc D n 104 (a0,(a1,()))=qvu D n (fun x0 x1 x2=>LQ qc D n 104 [.r,.l,.r,.l] n (qg2 x0 x1 x2) (CQ qc D n 104 [] [.r,.l,.r,.l] (qi qc 104))) a0 a1:=by kernel_rfl
 rw[h]
 simp only[q96]
 rfl

def qw4 (D:DX)(n:Nat) (go:qf→Int→qf→Option ((qf×Unit)×Unit)) (K0:qf→Option ((qf×Unit)×Unit)) (x0:qf) (x1:Int) (x2:qf):Option ((qf×Unit)×Unit):=br (decide (x1<(↑(List.length x0):Int))) (br (decide (0≤x1)&&decide (x1<(↑(List.length x0):Int))) (br (decide (0+List.length (List.getD x0 (Int.toNat x1) [])≤qbm)) (br (decide (List.length x2+1≤qbm)) (go x0 (IntKind.wrap IntKind.i64 (x1+1)) (x2++[[]++List.getD x0 (Int.toNat x1) []])) none) none) none) (K0 x2)
def qjc (D:DX)(n:Nat) (K0:qf→Option ((qf×Unit)×Unit)):Nat→(qf)→(Int)→(qf)→Option ((qf×Unit)×Unit) | 0=>(fun x0 x1 x2=>none) | m+1=>(fun x0 x1 x2=>qw4 D n (qjc D n K0 m) K0 x0 x1 x2)
def q3i (D:DX)(n:Nat) (v0_0:qf):Option ((qf×Unit)×Unit):=some ((v0_0,()),())
def qwb (D:DX)(n:Nat):(qf)→(Int)→(qf)→Option ((qf×Unit)×Unit):=(fun x0 x1 x2=>qjc D n (fun v0_0=>q3i D n v0_0) n x0 x1 x2)
def q1f (D:DX)(n:Nat) (lp0:qf→Int→qf→Option ((qf×Unit)×Unit)) (a0:qf):Option ((qf×Unit)×Unit):=lp0 a0 0 []
def q02 (D:DX)(n:Nat) (a0:qf):Option ((qf×Unit)×Unit):=q1f D n (qwb D n) a0
def qi8 (x0:qf) (x1:Int) (x2:qf):St:=stq 22 [(0,AV.val (Ty.sl (Ty.sl yV)) x0),(3,AV.brw 3 [] 0),(4,avI x1)] [(3,Root.mk (Ty.sl (Ty.sl yV)) (Mk.own 0 (Mk.own 0 (Mk.pr Mk.no (Mk.pr Mk.no (Mk.pr Mk.no Mk.no))))) x2 false)] 
def qnx (v0_0:qf):St:=stq 22 [(3,AV.brw 3 [] 0)] [(3,Root.mk (Ty.sl (Ty.sl yV)) (Mk.own 0 (Mk.own 0 (Mk.pr Mk.no (Mk.pr Mk.no (Mk.pr Mk.no Mk.no))))) v0_0 false)] 
theorem qbhi (D:DX)(n:Nat) (m:Nat) (K:Ex→St→Option (Out ctx 105)) (x0:qf) (x1:Int) (x2:qf) :
 LQ qc D n 105 [.r,.r,.l,.r,.l] (m+1) (qi8 x0 x1 x2) K=qw4 D n (fun x0 x1 x2=>LQ qc D n 105 [.r,.r,.l,.r,.l] m (qi8 x0 x1 x2) K) (fun v0_0=>K (Ex.exit 0) (qnx v0_0)) x0 x1 x2:=by kernel_rfl
theorem q5z (D:DX)(n:Nat) (K:Ex→St→Option (Out ctx 105)):∀ (m:Nat) (x0:qf) (x1:Int) (x2:qf),LQ qc D n 105 [.r,.r,.l,.r,.l] m (qi8 x0 x1 x2) K=qjc D n (fun v0_0=>K (Ex.exit 0) (qnx v0_0)) m x0 x1 x2
 | 0,x0,x1,x2=>qy ..
 | m+1,x0,x1,x2=>by
  have ih:(fun x0 x1 x2=>LQ qc D n 105 [.r,.r,.l,.r,.l] m (qi8 x0 x1 x2) K)=qjc D n (fun v0_0=>K (Ex.exit 0) (qnx v0_0)) m:=by funext x0 x1 x2;exact q5z D n K m x0 x1 x2
  rw[qbhi]
  rw[ih];rfl
theorem qben (D:DX)(n:Nat) (v0_0:qf) :
 (CQ qc D n 105 [] [.r,.r,.l,.r,.l] (qi qc 105)) (Ex.exit 0) (qnx v0_0)=q3i D n v0_0:=by kernel_rfl
theorem qbex (D:DX)(n:Nat) (x0:qf) (x1:Int) (x2:qf) :
 LQ qc D n 105 [.r,.r,.l,.r,.l] n (qi8 x0 x1 x2) (CQ qc D n 105 [] [.r,.r,.l,.r,.l] (qi qc 105))=qwb D n x0 x1 x2:=by
 rw[q5z]
 simp only[qben]
 rfl
theorem qbmq (D:DX)(n:Nat) (a0:qf):rfC qc D n 105 (a0,())=q02 D n a0:=by
 have h:rfC qc D n 105 (a0,())=q1f D n (fun x0 x1 x2=>LQ qc D n 105 [.r,.r,.l,.r,.l] n (qi8 x0 x1 x2) (CQ qc D n 105 [] [.r,.r,.l,.r,.l] (qi qc 105))) a0:=by kernel_rfl
 rw[h]
 simp only[qbex]
 rfl

def qrj (D:DX)(n:Nat) (go:tIxs→Int→Int→tSch→tSch→Option (((tSch)×Unit)×Unit)) (K0:tSch→tSch→Option (((tSch)×Unit)×Unit)) (x0:tIxs) (x1:Int) (x2:Int) (x3:tSch) (x4:tSch):Option (((tSch)×Unit)×Unit):=br (decide (x2<x1)) (br (decide (0≤x2)&&decide (x2<(↑(List.length x0):Int))) (qj (qix D (Prod.fst (Prod.snd (List.getD x0 (Int.toNat x2) (ByteArray.empty,[],false,()))))) fun b↦br (decide (List.length (Prod.fst (Prod.snd (Prod.snd x4)))+1≤qbm)) (go x0 x1 (IntKind.wrap IntKind.i64 (x2+1)) x3 (Prod.fst x4,Prod.fst (Prod.snd x4),Prod.fst (Prod.snd (Prod.snd x4))++[(Prod.fst (List.getD x0 (Int.toNat x2) (ByteArray.empty,[],false,())),Prod.fst (Prod.fst b),Prod.snd (Prod.snd (List.getD x0 (Int.toNat x2) (ByteArray.empty,[],false,()))))],Prod.snd (Prod.snd (Prod.snd x4)))) none) none) (K0 x3 x4)
def qf0 (D:DX)(n:Nat) (K0:tSch→tSch→Option (((tSch)×Unit)×Unit)):Nat→(tIxs)→(Int)→(Int)→(tSch)→(tSch)→Option (((tSch)×Unit)×Unit) | 0=>(fun x0 x1 x2 x3 x4=>none) | m+1=>(fun x0 x1 x2 x3 x4=>qrj D n (qf0 D n K0 m) K0 x0 x1 x2 x3 x4)
def qx7 (D:DX)(n:Nat) (v0_0:tSch) (v0_1:tSch):Option (((tSch)×Unit)×Unit):=some (((Prod.fst v0_1,Prod.fst (Prod.snd v0_1),Prod.fst (Prod.snd (Prod.snd v0_1)),()),()),())
def qqa (D:DX)(n:Nat):(tIxs)→(Int)→(Int)→(tSch)→(tSch)→Option (((tSch)×Unit)×Unit):=(fun x0 x1 x2 x3 x4=>qf0 D n (fun v0_0 v0_1=>qx7 D n v0_0 v0_1) n x0 x1 x2 x3 x4)
def qt0 (D:DX)(n:Nat) (lp0:tIxs→Int→Int→tSch→tSch→Option (((tSch)×Unit)×Unit)) (a0:tSch):Option (((tSch)×Unit)×Unit):=qj (qfv D (Prod.fst a0)) fun b↦qj (qix D (Prod.fst (Prod.snd a0))) fun b_1↦lp0 (Prod.fst (Prod.snd (Prod.snd a0))) (↑(List.length (Prod.fst (Prod.snd (Prod.snd a0)))):Int) 0 ([],[],[],()) (Prod.fst (Prod.fst b),Prod.fst (Prod.fst b_1),[],())
def qts (D:DX)(n:Nat) (a0:tSch):Option (((tSch)×Unit)×Unit):=qt0 D n (qqa D n) a0
def qf1 (x0:tIxs) (x1:Int) (x2:Int) (x3:tSch) (x4:tSch):St:=stq 32 [(2,AV.addr 2 []),(3,AV.addr 3 []),(14,AV.val (Ty.sl yX) x0),(15,avI x1),(16,avI x2)] [(2,Root.mk yS (Mk.pr (Mk.own 0 (Mk.pr Mk.no (Mk.pr Mk.no (Mk.pr Mk.no Mk.no)))) (Mk.pr (Mk.own 0 Mk.no) (Mk.pr (Mk.own 0 (Mk.pr Mk.no (Mk.pr (Mk.own 0 Mk.no) (Mk.pr Mk.no Mk.no)))) Mk.no))) x3 true),(3,Root.mk yS (Mk.pr (Mk.own 0 (Mk.pr Mk.no (Mk.pr Mk.no (Mk.pr Mk.no Mk.no)))) (Mk.pr (Mk.own 0 Mk.no) (Mk.pr (Mk.own 0 (Mk.pr Mk.no (Mk.pr (Mk.own 0 Mk.no) (Mk.pr Mk.no Mk.no)))) Mk.no))) x4 true)] 
def qj6 (v0_0:tSch) (v0_1:tSch):St:=stq 32 [(2,AV.addr 2 []),(3,AV.addr 3 [])] [(2,Root.mk yS (Mk.pr (Mk.own 0 (Mk.pr Mk.no (Mk.pr Mk.no (Mk.pr Mk.no Mk.no)))) (Mk.pr (Mk.own 0 Mk.no) (Mk.pr (Mk.own 0 (Mk.pr Mk.no (Mk.pr (Mk.own 0 Mk.no) (Mk.pr Mk.no Mk.no)))) Mk.no))) v0_0 true),(3,Root.mk yS (Mk.pr (Mk.own 0 (Mk.pr Mk.no (Mk.pr Mk.no (Mk.pr Mk.no Mk.no)))) (Mk.pr (Mk.own 0 Mk.no) (Mk.pr (Mk.own 0 (Mk.pr Mk.no (Mk.pr (Mk.own 0 Mk.no) (Mk.pr Mk.no Mk.no)))) Mk.no))) v0_1 true)] 
theorem qbaw (D:DX)(n:Nat) (m:Nat) (K:Ex→St→Option (Out ctx 107)) (x0:tIxs) (x1:Int) (x2:Int) (x3:tSch) (x4:tSch) :
 LQ qc D n 107 [.r,.r,.l,.r,.l] (m+1) (qf1 x0 x1 x2 x3 x4) K=qrj D n (fun x0 x1 x2 x3 x4=>LQ qc D n 107 [.r,.r,.l,.r,.l] m (qf1 x0 x1 x2 x3 x4) K) (fun v0_0 v0_1=>K (Ex.exit 0) (qj6 v0_0 v0_1)) x0 x1 x2 x3 x4:=by kernel_rfl
theorem qza (D:DX)(n:Nat) (K:Ex→St→Option (Out ctx 107)):∀ (m:Nat) (x0:tIxs) (x1:Int) (x2:Int) (x3:tSch) (x4:tSch),LQ qc D n 107 [.r,.r,.l,.r,.l] m (qf1 x0 x1 x2 x3 x4) K=qf0 D n (fun v0_0 v0_1=>K (Ex.exit 0) (qj6 v0_0 v0_1)) m x0 x1 x2 x3 x4
 | 0,x0,x1,x2,x3,x4=>qy ..
 | m+1,x0,x1,x2,x3,x4=>by
  have ih:(fun x0 x1 x2 x3 x4=>LQ qc D n 107 [.r,.r,.l,.r,.l] m (qf1 x0 x1 x2 x3 x4) K)=qf0 D n (fun v0_0 v0_1=>K (Ex.exit 0) (qj6 v0_0 v0_1)) m:=by funext x0 x1 x2 x3 x4;exact qza D n K m x0 x1 x2 x3 x4
  rw[qbaw]
  rw[ih];rfl
theorem q8s (D:DX)(n:Nat) (v0_0:tSch) (v0_1:tSch) :
 (CQ qc D n 107 [] [.r,.r,.l,.r,.l] (qi qc 107)) (Ex.exit 0) (qj6 v0_0 v0_1)=qx7 D n v0_0 v0_1:=by kernel_rfl
theorem q9l (D:DX)(n:Nat) (x0:tIxs) (x1:Int) (x2:Int) (x3:tSch) (x4:tSch) :
 LQ qc D n 107 [.r,.r,.l,.r,.l] n (qf1 x0 x1 x2 x3 x4) (CQ qc D n 107 [] [.r,.r,.l,.r,.l] (qi qc 107))=qqa D n x0 x1 x2 x3 x4:=by
 rw[qza]
 simp only[q8s]
 rfl
theorem qbev (D:DX)(n:Nat) (a0:tSch):rfC qc D n 107 (a0,())=qts D n a0:=by
 have h:rfC qc D n 107 (a0,())=qt0 D n (fun x0 x1 x2 x3 x4=>LQ qc D n 107 [.r,.r,.l,.r,.l] n (qf1 x0 x1 x2 x3 x4) (CQ qc D n 107 [] [.r,.r,.l,.r,.l] (qi qc 107))) a0:=by kernel_rfl
 rw[h]
 simp only[q9l]
 rfl

def qwz (D:DX)(n:Nat) (go:Int→tSch→tSch→tSch→Option (((tSch)×Unit)×Unit)) (K0:tSch→tSch→Option (((tSch)×Unit)×Unit)) (x0:Int) (x1:tSch) (x2:tSch) (x3:tSch):Option (((tSch)×Unit)×Unit):=br (decide (x0<(↑(List.length (Prod.fst (Prod.snd (Prod.snd x1)))):Int))) (br (decide (0≤x0)&&decide (x0<(↑(List.length (Prod.fst (Prod.snd (Prod.snd x1)))):Int))) (br (decide (0+List.length (Prod.fst (Prod.snd (List.getD (Prod.fst (Prod.snd (Prod.snd x1))) (Int.toNat x0) (ByteArray.empty,[],false,()))))≤qbm)) (br (decide (List.length (Prod.fst (Prod.snd (Prod.snd x3)))+1≤qbm)) (go (IntKind.wrap IntKind.i64 (x0+1)) x1 x2 (Prod.fst x3,Prod.fst (Prod.snd x3),Prod.fst (Prod.snd (Prod.snd x3))++[(Prod.fst (List.getD (Prod.fst (Prod.snd (Prod.snd x1))) (Int.toNat x0) (ByteArray.empty,[],false,())),[]++Prod.fst (Prod.snd (List.getD (Prod.fst (Prod.snd (Prod.snd x1))) (Int.toNat x0) (ByteArray.empty,[],false,()))),Prod.fst (Prod.snd (Prod.snd (List.getD (Prod.fst (Prod.snd (Prod.snd x1))) (Int.toNat x0) (ByteArray.empty,[],false,())))),())],Prod.snd (Prod.snd (Prod.snd x3)))) none) none) none) (K0 x2 x3)
def qjm (D:DX)(n:Nat) (K0:tSch→tSch→Option (((tSch)×Unit)×Unit)):Nat→(Int)→(tSch)→(tSch)→(tSch)→Option (((tSch)×Unit)×Unit) | 0=>(fun x0 x1 x2 x3=>none) | m+1=>(fun x0 x1 x2 x3=>qwz D n (qjm D n K0 m) K0 x0 x1 x2 x3)
def q3h (D:DX)(n:Nat) (v0_0:tSch) (v0_1:tSch):Option (((tSch)×Unit)×Unit):=some (((Prod.fst v0_1,Prod.fst (Prod.snd v0_1),Prod.fst (Prod.snd (Prod.snd v0_1)),()),()),())
def qvl (D:DX)(n:Nat):(Int)→(tSch)→(tSch)→(tSch)→Option (((tSch)×Unit)×Unit):=(fun x0 x1 x2 x3=>qjm D n (fun v0_0 v0_1=>q3h D n v0_0 v0_1) n x0 x1 x2 x3)
def q0r (D:DX)(n:Nat) (lp0:Int→tSch→tSch→tSch→Option (((tSch)×Unit)×Unit)) (a0:tSch):Option (((tSch)×Unit)×Unit):=br (decide (0+List.length (Prod.fst a0)≤qbm)) (br (decide (0+List.length (Prod.fst (Prod.snd a0))≤qbm)) (lp0 0 a0 ([],[],[],()) ([]++Prod.fst a0,[]++Prod.fst (Prod.snd a0),[],())) none) none
def qzs (D:DX)(n:Nat) (a0:tSch):Option (((tSch)×Unit)×Unit):=q0r D n (qvl D n) a0
def qjf (x0:Int) (x1:tSch) (x2:tSch) (x3:tSch):St:=stq 42 [(1,AV.addr 1 []),(2,AV.addr 2 []),(3,AV.addr 3 []),(4,avI x0)] [(1,Root.mk yS Mk.no x1 true),(2,Root.mk yS (Mk.pr (Mk.own 0 (Mk.pr Mk.no (Mk.pr Mk.no (Mk.pr Mk.no Mk.no)))) (Mk.pr (Mk.own 0 Mk.no) (Mk.pr (Mk.own 0 (Mk.pr Mk.no (Mk.pr (Mk.own 0 Mk.no) (Mk.pr Mk.no Mk.no)))) Mk.no))) x2 true),(3,Root.mk yS (Mk.pr (Mk.own 0 (Mk.pr Mk.no (Mk.pr Mk.no (Mk.pr Mk.no Mk.no)))) (Mk.pr (Mk.own 0 Mk.no) (Mk.pr (Mk.own 0 (Mk.pr Mk.no (Mk.pr (Mk.own 0 Mk.no) (Mk.pr Mk.no Mk.no)))) Mk.no))) x3 true)] 
def qn1 (v0_0:tSch) (v0_1:tSch):St:=stq 42 [(2,AV.addr 2 []),(3,AV.addr 3 [])] [(2,Root.mk yS (Mk.pr (Mk.own 0 (Mk.pr Mk.no (Mk.pr Mk.no (Mk.pr Mk.no Mk.no)))) (Mk.pr (Mk.own 0 Mk.no) (Mk.pr (Mk.own 0 (Mk.pr Mk.no (Mk.pr (Mk.own 0 Mk.no) (Mk.pr Mk.no Mk.no)))) Mk.no))) v0_0 true),(3,Root.mk yS (Mk.pr (Mk.own 0 (Mk.pr Mk.no (Mk.pr Mk.no (Mk.pr Mk.no Mk.no)))) (Mk.pr (Mk.own 0 Mk.no) (Mk.pr (Mk.own 0 (Mk.pr Mk.no (Mk.pr (Mk.own 0 Mk.no) (Mk.pr Mk.no Mk.no)))) Mk.no))) v0_1 true)] 
theorem qbge (D:DX)(n:Nat) (m:Nat) (K:Ex→St→Option (Out ctx 108)) (x0:Int) (x1:tSch) (x2:tSch) (x3:tSch) :
 LQ qc D n 108 [.r,.r,.l,.r,.l] (m+1) (qjf x0 x1 x2 x3) K=qwz D n (fun x0 x1 x2 x3=>LQ qc D n 108 [.r,.r,.l,.r,.l] m (qjf x0 x1 x2 x3) K) (fun v0_0 v0_1=>K (Ex.exit 0) (qn1 v0_0 v0_1)) x0 x1 x2 x3:=by kernel_rfl
theorem q44 (D:DX)(n:Nat) (K:Ex→St→Option (Out ctx 108)):∀ (m:Nat) (x0:Int) (x1:tSch) (x2:tSch) (x3:tSch),LQ qc D n 108 [.r,.r,.l,.r,.l] m (qjf x0 x1 x2 x3) K=qjm D n (fun v0_0 v0_1=>K (Ex.exit 0) (qn1 v0_0 v0_1)) m x0 x1 x2 x3
 | 0,x0,x1,x2,x3=>qy ..
 | m+1,x0,x1,x2,x3=>by
  have ih:(fun x0 x1 x2 x3=>LQ qc D n 108 [.r,.r,.l,.r,.l] m (qjf x0 x1 x2 x3) K)=qjm D n (fun v0_0 v0_1=>K (Ex.exit 0) (qn1 v0_0 v0_1)) m:=by funext x0 x1 x2 x3;exact q44 D n K m x0 x1 x2 x3
  rw[qbge]
  rw[ih];rfl
theorem qbe6 (D:DX)(n:Nat) (v0_0:tSch) (v0_1:tSch) :
 (CQ qc D n 108 [] [.r,.r,.l,.r,.l] (qi qc 108)) (Ex.exit 0) (qn1 v0_0 v0_1)=q3h D n v0_0 v0_1:=by kernel_rfl
theorem qbeu (D:DX)(n:Nat) (x0:Int) (x1:tSch) (x2:tSch) (x3:tSch) :
 LQ qc D n 108 [.r,.r,.l,.r,.l] n (qjf x0 x1 x2 x3) (CQ qc D n 108 [] [.r,.r,.l,.r,.l] (qi qc 108))=qvl D n x0 x1 x2 x3:=by
 rw[q44]
 simp only[qbe6]
 rfl
theorem qblw (D:DX)(n:Nat) (a0:tSch):rfC qc D n 108 (a0,())=qzs D n a0:=by
 have h:rfC qc D n 108 (a0,())=q0r D n (fun x0 x1 x2 x3=>LQ qc D n 108 [.r,.r,.l,.r,.l] n (qjf x0 x1 x2 x3) (CQ qc D n 108 [] [.r,.r,.l,.r,.l] (qi qc 108))) a0:=by kernel_rfl
 rw[h]
 simp only[qbeu]
 rfl

def qvm (D:DX)(n:Nat) (go:qd→qd→Int→tSch→Option ((Bool×Unit)×Unit)) (K0:Bool→Option ((Bool×Unit)×Unit)) (K1:Option ((Bool×Unit)×Unit)) (x0:qd) (x1:qd) (x2:Int) (x3:tSch):Option ((Bool×Unit)×Unit):=br (decide (x2<(↑(List.length (Prod.fst (Prod.snd (Prod.snd x3)))):Int))) (br (decide (0≤x2)&&decide (x2<(↑(List.length (Prod.fst (Prod.snd (Prod.snd x3)))):Int))) (qj (qn6 D x0 (Prod.fst (Prod.snd (List.getD (Prod.fst (Prod.snd (Prod.snd x3))) (Int.toNat x2) (ByteArray.empty,[],false,()))))) fun b↦qj (qn6 D x1 (Prod.fst (Prod.snd (List.getD (Prod.fst (Prod.snd (Prod.snd x3))) (Int.toNat x2) (ByteArray.empty,[],false,()))))) fun b_1↦br (Prod.fst (Prod.snd (Prod.snd (List.getD (Prod.fst (Prod.snd (Prod.snd x3))) (Int.toNat x2) (ByteArray.empty,[],false,()))))) (qj (qs0 D (Prod.fst (Prod.fst b)) (Prod.fst (Prod.fst b_1))) fun b_2↦br (Prod.fst (Prod.fst b_2)) (qj (q0h D (Prod.fst (Prod.fst b))) fun b↦br (!Prod.fst (Prod.fst b)) (K0 true) (go x0 x1 (IntKind.wrap IntKind.i64 (x2+1)) x3)) (go x0 x1 (IntKind.wrap IntKind.i64 (x2+1)) x3)) (go x0 x1 (IntKind.wrap IntKind.i64 (x2+1)) x3)) none) K1
def qh1 (D:DX)(n:Nat) (K0:Bool→Option ((Bool×Unit)×Unit)) (K1:Option ((Bool×Unit)×Unit)):Nat→(qd)→(qd)→(Int)→(tSch)→Option ((Bool×Unit)×Unit) | 0=>(fun x0 x1 x2 x3=>none) | m+1=>(fun x0 x1 x2 x3=>qvm D n (qh1 D n K0 K1 m) K0 K1 x0 x1 x2 x3)
def q15 (D:DX)(n:Nat) (v0_0:Bool):Option ((Bool×Unit)×Unit):=some ((v0_0,()),())
def q19 (D:DX)(n:Nat):Option ((Bool×Unit)×Unit):=some ((false,()),())
def quq (D:DX)(n:Nat):(qd)→(qd)→(Int)→(tSch)→Option ((Bool×Unit)×Unit):=(fun x0 x1 x2 x3=>qh1 D n (fun v0_0=>q15 D n v0_0) (q19 D n) n x0 x1 x2 x3)
def qx2 (D:DX)(n:Nat) (lp0:qd→qd→Int→tSch→Option ((Bool×Unit)×Unit)) (a0:tSch) (a1:qd) (a2:qd):Option ((Bool×Unit)×Unit):=lp0 a1 a2 0 a0
def qxr (D:DX)(n:Nat) (a0:tSch) (a1:qd) (a2:qd):Option ((Bool×Unit)×Unit):=qx2 D n (quq D n) a0 a1 a2
def qhw (x0:qd) (x1:qd) (x2:Int) (x3:tSch):St:=stq 43 [(1,AV.val (Ty.sl yV) x0),(2,AV.val (Ty.sl yV) x1),(3,AV.addr 3 []),(7,avI x2)] [(3,Root.mk yS Mk.no x3 true)] 
def ql9 (v0_0:Bool):St:=stq 43 [(6,AV.val Ty.bool v0_0)] [] 
def qmm:St:=stq 43 [] [] 
theorem qbep (D:DX)(n:Nat) (m:Nat) (K:Ex→St→Option (Out ctx 111)) (x0:qd) (x1:qd) (x2:Int) (x3:tSch) :
 LQ qc D n 111 [.r,.l,.r,.l] (m+1) (qhw x0 x1 x2 x3) K=qvm D n (fun x0 x1 x2 x3=>LQ qc D n 111 [.r,.l,.r,.l] m (qhw x0 x1 x2 x3) K) (fun v0_0=>K (Ex.ret) (ql9 v0_0)) (K (Ex.exit 0) (qmm)) x0 x1 x2 x3:=by kernel_rfl
theorem q3c (D:DX)(n:Nat) (K:Ex→St→Option (Out ctx 111)):∀ (m:Nat) (x0:qd) (x1:qd) (x2:Int) (x3:tSch),LQ qc D n 111 [.r,.l,.r,.l] m (qhw x0 x1 x2 x3) K=qh1 D n (fun v0_0=>K (Ex.ret) (ql9 v0_0)) (K (Ex.exit 0) (qmm)) m x0 x1 x2 x3
 | 0,x0,x1,x2,x3=>qy ..
 | m+1,x0,x1,x2,x3=>by
  have ih:(fun x0 x1 x2 x3=>LQ qc D n 111 [.r,.l,.r,.l] m (qhw x0 x1 x2 x3) K)=qh1 D n (fun v0_0=>K (Ex.ret) (ql9 v0_0)) (K (Ex.exit 0) (qmm)) m:=by funext x0 x1 x2 x3;exact q3c D n K m x0 x1 x2 x3
  rw[qbep]
  rw[ih];rfl
theorem qbcf (D:DX)(n:Nat) (v0_0:Bool) :
 (CQ qc D n 111 [] [.r,.l,.r,.l] (qi qc 111)) (Ex.ret) (ql9 v0_0)=q15 D n v0_0:=by kernel_rfl
theorem qba6 (D:DX)(n:Nat) :
 (CQ qc D n 111 [] [.r,.l,.r,.l] (qi qc 111)) (Ex.exit 0) (qmm)=q19 D n:=by kernel_rfl
theorem qbbh (D:DX)(n:Nat) (x0:qd) (x1:qd) (x2:Int) (x3:tSch) :
 LQ qc D n 111 [.r,.l,.r,.l] n (qhw x0 x1 x2 x3) (CQ qc D n 111 [] [.r,.l,.r,.l] (qi qc 111))=quq D n x0 x1 x2 x3:=by
 rw[q3c]
 simp only[qbcf,qba6]
 rfl
theorem qbj7 (D:DX)(n:Nat) (a0:tSch) (a1:qd) (a2:qd):rfC qc D n 111 (a0,(a1,(a2,())))=qxr D n a0 a1 a2:=by
 have h:rfC qc D n 111 (a0,(a1,(a2,())))=qx2 D n (fun x0 x1 x2 x3=>LQ qc D n 111 [.r,.l,.r,.l] n (qhw x0 x1 x2 x3) (CQ qc D n 111 [] [.r,.l,.r,.l] (qi qc 111))) a0 a1 a2:=by kernel_rfl
 rw[h]
 simp only[qbbh]
 rfl

def qvq (D:DX)(n:Nat) (go:Int→tSch→Option ((Bool×Unit)×Unit)) (K0:Bool→tSch→Option ((Bool×Unit)×Unit)) (K1:tSch→Option ((Bool×Unit)×Unit)) (x0:Int) (x1:tSch):Option ((Bool×Unit)×Unit):=br (decide (x0<(↑(List.length (Prod.fst x1)):Int))) (br (decide (0≤x0)&&decide (x0<(↑(List.length (Prod.fst x1)):Int))) (qj (qo9 D (Prod.fst (List.getD (Prod.fst x1) (Int.toNat x0) (ByteArray.empty,0,false,())))) fun b↦br (!Prod.fst (Prod.fst b)) (K0 false x1) (br (decide (0≤x0)&&decide (x0<(↑(List.length (Prod.fst x1)):Int))) (qj (qgn D (Prod.fst (Prod.snd (List.getD (Prod.fst x1) (Int.toNat x0) (ByteArray.empty,0,false,())))) 1 3) fun b↦br (!Prod.fst (Prod.fst b)) (K0 false x1) (br (decide (0≤x0)&&decide (x0<(↑(List.length (Prod.fst x1)):Int))) (qj (q51 D x1 (Prod.fst (List.getD (Prod.fst x1) (Int.toNat x0) (ByteArray.empty,0,false,())))) fun b↦br (Prod.fst (Prod.fst b) != x0) (K0 false x1) (go (IntKind.wrap IntKind.i64 (x0+1)) x1)) none)) none)) none) (K1 x1)
def qht (D:DX)(n:Nat) (K0:Bool→tSch→Option ((Bool×Unit)×Unit)) (K1:tSch→Option ((Bool×Unit)×Unit)):Nat→(Int)→(tSch)→Option ((Bool×Unit)×Unit) | 0=>(fun x0 x1=>none) | m+1=>(fun x0 x1=>qvq D n (qht D n K0 K1 m) K0 K1 x0 x1)
def q1v (D:DX)(n:Nat) (v0_0:Bool) (v0_1:tSch):Option ((Bool×Unit)×Unit):=some ((v0_0,()),())
def qwp (D:DX)(n:Nat) (go:Int→tSch→Option ((Bool×Unit)×Unit)) (K0:Bool→Option ((Bool×Unit)×Unit)) (K1:Option ((Bool×Unit)×Unit)) (x1_0:Int) (x1_1:tSch):Option ((Bool×Unit)×Unit):=br (decide (x1_0<(↑(List.length (Prod.fst (Prod.snd x1_1))):Int))) (br (decide (0≤x1_0)&&decide (x1_0<(↑(List.length (Prod.fst (Prod.snd x1_1))):Int))) (br (decide (0≤List.getD (Prod.fst (Prod.snd x1_1)) (Int.toNat x1_0) 0)&&decide (List.getD (Prod.fst (Prod.snd x1_1)) (Int.toNat x1_0) 0<(↑(List.length (Prod.fst x1_1)):Int))) (br (Prod.fst (Prod.snd (Prod.snd (List.getD (Prod.fst x1_1) (Int.toNat (List.getD (Prod.fst (Prod.snd x1_1)) (Int.toNat x1_0) 0)) (ByteArray.empty,0,false,()))))) (K0 false) (go (IntKind.wrap IntKind.i64 (x1_0+1)) x1_1)) none) none) K1
def qhv (D:DX)(n:Nat) (K0:Bool→Option ((Bool×Unit)×Unit)) (K1:Option ((Bool×Unit)×Unit)):Nat→(Int)→(tSch)→Option ((Bool×Unit)×Unit) | 0=>(fun x1_0 x1_1=>none) | m+1=>(fun x1_0 x1_1=>qwp D n (qhv D n K0 K1 m) K0 K1 x1_0 x1_1)
def q1z (D:DX)(n:Nat) (v0_0:Bool):Option ((Bool×Unit)×Unit):=some ((v0_0,()),())
def q12 (D:DX)(n:Nat):Option ((Bool×Unit)×Unit):=some ((true,()),())
def qty (D:DX)(n:Nat):(Int)→(tSch)→Option ((Bool×Unit)×Unit):=(fun x1_0 x1_1=>qhv D n (fun v0_0=>q1z D n v0_0) (q12 D n) n x1_0 x1_1)
def qrs (D:DX)(n:Nat) (lp1:Int→tSch→Option ((Bool×Unit)×Unit)) (v1_0:tSch):Option ((Bool×Unit)×Unit):=qj (qgn D (↑(List.length (Prod.fst v1_0)):Int) 1 5) fun b↦br (!Prod.fst (Prod.fst b)) (some ((false,()),())) (qj (qou D v1_0 (Prod.fst (Prod.snd v1_0)) 4) fun b↦br (!Prod.fst (Prod.fst b)) (some ((false,()),())) (qj (qtd D v1_0) fun b↦br (!Prod.fst (Prod.fst b)) (some ((false,()),())) (lp1 0 v1_0)))
def qti (D:DX)(n:Nat):(Int)→(tSch)→Option ((Bool×Unit)×Unit):=(fun x0 x1=>qht D n (fun v0_0 v0_1=>q1v D n v0_0 v0_1) (fun v1_0=>qrs D n (qty D n) v1_0) n x0 x1)
def qyx (D:DX)(n:Nat) (lp0:Int→tSch→Option ((Bool×Unit)×Unit)) (a0:tSch):Option ((Bool×Unit)×Unit):=lp0 0 a0
def qxk (D:DX)(n:Nat) (a0:tSch):Option ((Bool×Unit)×Unit):=qyx D n (qti D n) a0
def qif (x0:Int) (x1:tSch):St:=stq 76 [(1,AV.addr 1 []),(3,avI x0)] [(1,Root.mk yS Mk.no x1 true)] 
def qmc (v0_0:Bool) (v0_1:tSch):St:=stq 76 [(1,AV.addr 1 []),(2,AV.val Ty.bool v0_0)] [(1,Root.mk yS Mk.no v0_1 true)] 
def qmi (v1_0:tSch):St:=stq 76 [(1,AV.addr 1 [])] [(1,Root.mk yS Mk.no v1_0 true)] 
def qig (x1_0:Int) (x1_1:tSch):St:=stq 76 [(1,AV.addr 1 []),(4,avI x1_0)] [(1,Root.mk yS Mk.no x1_1 true)] 
def ql0 (v0_0:Bool):St:=stq 76 [(2,AV.val Ty.bool v0_0)] [] 
def qmt:St:=stq 76 [] [] 
theorem qbe1 (D:DX)(n:Nat) (m:Nat) (K:Ex→St→Option (Out ctx 112)) (x0:Int) (x1:tSch) :
 LQ qc D n 112 [.r,.l,.r,.l] (m+1) (qif x0 x1) K=qvq D n (fun x0 x1=>LQ qc D n 112 [.r,.l,.r,.l] m (qif x0 x1) K) (fun v0_0 v0_1=>K (Ex.ret) (qmc v0_0 v0_1)) (fun v1_0=>K (Ex.exit 0) (qmi v1_0)) x0 x1:=by kernel_rfl
theorem q3r (D:DX)(n:Nat) (K:Ex→St→Option (Out ctx 112)):∀ (m:Nat) (x0:Int) (x1:tSch),LQ qc D n 112 [.r,.l,.r,.l] m (qif x0 x1) K=qht D n (fun v0_0 v0_1=>K (Ex.ret) (qmc v0_0 v0_1)) (fun v1_0=>K (Ex.exit 0) (qmi v1_0)) m x0 x1
 | 0,x0,x1=>qy ..
 | m+1,x0,x1=>by
  have ih:(fun x0 x1=>LQ qc D n 112 [.r,.l,.r,.l] m (qif x0 x1) K)=qht D n (fun v0_0 v0_1=>K (Ex.ret) (qmc v0_0 v0_1)) (fun v1_0=>K (Ex.exit 0) (qmi v1_0)) m:=by funext x0 x1;exact q3r D n K m x0 x1
  rw[qbe1]
  rw[ih];rfl
theorem qbfh (D:DX)(n:Nat) (m:Nat) (K:Ex→St→Option (Out ctx 112)) (x1_0:Int) (x1_1:tSch) :
 LQ qc D n 112 [.r,.r,.r,.l,.r,.l] (m+1) (qig x1_0 x1_1) K=qwp D n (fun x1_0 x1_1=>LQ qc D n 112 [.r,.r,.r,.l,.r,.l] m (qig x1_0 x1_1) K) (fun v0_0=>K (Ex.ret) (ql0 v0_0)) (K (Ex.exit 2) (qmt)) x1_0 x1_1:=by kernel_rfl
theorem q32 (D:DX)(n:Nat) (K:Ex→St→Option (Out ctx 112)):∀ (m:Nat) (x1_0:Int) (x1_1:tSch),LQ qc D n 112 [.r,.r,.r,.l,.r,.l] m (qig x1_0 x1_1) K=qhv D n (fun v0_0=>K (Ex.ret) (ql0 v0_0)) (K (Ex.exit 2) (qmt)) m x1_0 x1_1
 | 0,x1_0,x1_1=>qy ..
 | m+1,x1_0,x1_1=>by
  have ih:(fun x1_0 x1_1=>LQ qc D n 112 [.r,.r,.r,.l,.r,.l] m (qig x1_0 x1_1) K)=qhv D n (fun v0_0=>K (Ex.ret) (ql0 v0_0)) (K (Ex.exit 2) (qmt)) m:=by funext x1_0 x1_1;exact q32 D n K m x1_0 x1_1
  rw[qbfh]
  rw[ih];rfl
theorem qbc2 (D:DX)(n:Nat) (v0_0:Bool) :
 (CQ qc D n 112 [] [.r,.r,.r,.l,.r,.l] (qi qc 112)) (Ex.ret) (ql0 v0_0)=q1z D n v0_0:=by kernel_rfl
theorem qbch (D:DX)(n:Nat) :
 (CQ qc D n 112 [] [.r,.r,.r,.l,.r,.l] (qi qc 112)) (Ex.exit 2) (qmt)=q12 D n:=by kernel_rfl
theorem qbbp (D:DX)(n:Nat) (x1_0:Int) (x1_1:tSch) :
 LQ qc D n 112 [.r,.r,.r,.l,.r,.l] n (qig x1_0 x1_1) (CQ qc D n 112 [] [.r,.r,.r,.l,.r,.l] (qi qc 112))=qty D n x1_0 x1_1:=by
 rw[q32]
 simp only[qbc2,qbch]
 rfl
theorem qbdh (D:DX)(n:Nat) (v0_0:Bool) (v0_1:tSch) :
 (CQ qc D n 112 [] [.r,.l,.r,.l] (qi qc 112)) (Ex.ret) (qmc v0_0 v0_1)=q1v D n v0_0 v0_1:=by kernel_rfl
theorem qbde (D:DX)(n:Nat) (v1_0:tSch) :
 (CQ qc D n 112 [] [.r,.l,.r,.l] (qi qc 112)) (Ex.exit 0) (qmi v1_0)=qrs D n (fun x1_0 x1_1=>LQ qc D n 112 [.r,.r,.r,.l,.r,.l] n (qig x1_0 x1_1) (CQ qc D n 112 [] [.r,.r,.r,.l,.r,.l] (qi qc 112))) v1_0:=by kernel_rfl
theorem qbbm (D:DX)(n:Nat) (x0:Int) (x1:tSch) :
 LQ qc D n 112 [.r,.l,.r,.l] n (qif x0 x1) (CQ qc D n 112 [] [.r,.l,.r,.l] (qi qc 112))=qti D n x0 x1:=by
 rw[q3r]
 simp only[qbdh,qbde,qbbp]
 rfl
theorem qbi7 (D:DX)(n:Nat) (a0:tSch):rfC qc D n 112 (a0,())=qxk D n a0:=by
 have h:rfC qc D n 112 (a0,())=qyx D n (fun x0 x1=>LQ qc D n 112 [.r,.l,.r,.l] n (qif x0 x1) (CQ qc D n 112 [] [.r,.l,.r,.l] (qi qc 112))) a0:=by kernel_rfl
 rw[h]
 simp only[qbbm]
 rfl

def qbfz (D:DX)(n:Nat) (a0:Int) (a1:Int) (a2:Int):Option ((Bool×Unit)×Unit):=some ((bif decide (a0≥a1) then decide (a0≤a2) else false,()),())
def q68 (D:DX)(n:Nat) (a0:Int) (a1:Int) (a2:Int):Option ((Bool×Unit)×Unit):=qbfz D n a0 a1 a2
theorem qbqz (D:DX)(n:Nat) (a0:Int) (a1:Int) (a2:Int):rfC qc D n 117 (a0,(a1,(a2,())))=q68 D n a0 a1 a2:=by kernel_rfl

def qyf (D:DX)(n:Nat) (go:qd→List Int→Int→qd→Option ((qd×Unit)×Unit)) (K0:qd→Option ((qd×Unit)×Unit)) (x0:qd) (x1:List Int) (x2:Int) (x3:qd):Option ((qd×Unit)×Unit):=br (decide (x2<(↑(List.length x1):Int))) (br (decide (0≤x2)&&decide (x2<(↑(List.length x1):Int))) (qj (qgn D (List.getD x1 (Int.toNat x2) 0) 0 (IntKind.wrap IntKind.i64 ((↑(List.length x0):Int) - 1))) fun b↦br (Prod.fst (Prod.fst b)) (br (decide (0≤x2)&&decide (x2<(↑(List.length x1):Int))) (br (decide (0≤List.getD x1 (Int.toNat x2) 0)&&decide (List.getD x1 (Int.toNat x2) 0<(↑(List.length x0):Int))) (br (decide (List.length x3+1≤qbm)) (go x0 x1 (IntKind.wrap IntKind.i64 (x2+1)) (x3++[List.getD x0 (Int.toNat (List.getD x1 (Int.toNat x2) 0)) (0,0,ByteArray.empty,())])) none) none) none) (go x0 x1 (IntKind.wrap IntKind.i64 (x2+1)) x3)) none) (K0 x3)
def qjh (D:DX)(n:Nat) (K0:qd→Option ((qd×Unit)×Unit)):Nat→(qd)→(List Int)→(Int)→(qd)→Option ((qd×Unit)×Unit) | 0=>(fun x0 x1 x2 x3=>none) | m+1=>(fun x0 x1 x2 x3=>qyf D n (qjh D n K0 m) K0 x0 x1 x2 x3)
def q3d (D:DX)(n:Nat) (v0_0:qd):Option ((qd×Unit)×Unit):=some ((v0_0,()),())
def qwh (D:DX)(n:Nat):(qd)→(List Int)→(Int)→(qd)→Option ((qd×Unit)×Unit):=(fun x0 x1 x2 x3=>qjh D n (fun v0_0=>q3d D n v0_0) n x0 x1 x2 x3)
def q0n (D:DX)(n:Nat) (lp0:qd→List Int→Int→qd→Option ((qd×Unit)×Unit)) (a0:qd) (a1:List Int):Option ((qd×Unit)×Unit):=lp0 a0 a1 0 []
def qz6 (D:DX)(n:Nat) (a0:qd) (a1:List Int):Option ((qd×Unit)×Unit):=q0n D n (qwh D n) a0 a1
def qje (x0:qd) (x1:List Int) (x2:Int) (x3:qd):St:=stq 33 [(0,AV.val (Ty.sl yV) x0),(1,AV.val (Ty.sl yI) x1),(5,AV.brw 5 [] 0),(6,avI x2)] [(5,Root.mk (Ty.sl yV) (Mk.own 0 (Mk.pr Mk.no (Mk.pr Mk.no (Mk.pr Mk.no Mk.no)))) x3 false)] 
def qn2 (v0_0:qd):St:=stq 33 [(5,AV.brw 5 [] 0)] [(5,Root.mk (Ty.sl yV) (Mk.own 0 (Mk.pr Mk.no (Mk.pr Mk.no (Mk.pr Mk.no Mk.no)))) v0_0 false)] 
theorem qbgx (D:DX)(n:Nat) (m:Nat) (K:Ex→St→Option (Out ctx 119)) (x0:qd) (x1:List Int) (x2:Int) (x3:qd) :
 LQ qc D n 119 [.r,.r,.l,.r,.l] (m+1) (qje x0 x1 x2 x3) K=qyf D n (fun x0 x1 x2 x3=>LQ qc D n 119 [.r,.r,.l,.r,.l] m (qje x0 x1 x2 x3) K) (fun v0_0=>K (Ex.exit 0) (qn2 v0_0)) x0 x1 x2 x3:=by kernel_rfl
theorem q5t (D:DX)(n:Nat) (K:Ex→St→Option (Out ctx 119)):∀ (m:Nat) (x0:qd) (x1:List Int) (x2:Int) (x3:qd),LQ qc D n 119 [.r,.r,.l,.r,.l] m (qje x0 x1 x2 x3) K=qjh D n (fun v0_0=>K (Ex.exit 0) (qn2 v0_0)) m x0 x1 x2 x3
 | 0,x0,x1,x2,x3=>qy ..
 | m+1,x0,x1,x2,x3=>by
  have ih:(fun x0 x1 x2 x3=>LQ qc D n 119 [.r,.r,.l,.r,.l] m (qje x0 x1 x2 x3) K)=qjh D n (fun v0_0=>K (Ex.exit 0) (qn2 v0_0)) m:=by funext x0 x1 x2 x3;exact q5t D n K m x0 x1 x2 x3
  rw[qbgx]
  rw[ih];rfl
theorem qbeq (D:DX)(n:Nat) (v0_0:qd) :
 (CQ qc D n 119 [] [.r,.r,.l,.r,.l] (qi qc 119)) (Ex.exit 0) (qn2 v0_0)=q3d D n v0_0:=by kernel_rfl
theorem qbfa (D:DX)(n:Nat) (x0:qd) (x1:List Int) (x2:Int) (x3:qd) :
 LQ qc D n 119 [.r,.r,.l,.r,.l] n (qje x0 x1 x2 x3) (CQ qc D n 119 [] [.r,.r,.l,.r,.l] (qi qc 119))=qwh D n x0 x1 x2 x3:=by
 rw[q5t]
 simp only[qbeq]
 rfl
theorem qbls (D:DX)(n:Nat) (a0:qd) (a1:List Int):rfC qc D n 119 (a0,(a1,()))=qz6 D n a0 a1:=by
 have h:rfC qc D n 119 (a0,(a1,()))=q0n D n (fun x0 x1 x2 x3=>LQ qc D n 119 [.r,.r,.l,.r,.l] n (qje x0 x1 x2 x3) (CQ qc D n 119 [] [.r,.r,.l,.r,.l] (qi qc 119))) a0 a1:=by kernel_rfl
 rw[h]
 simp only[qbfa]
 rfl

def q6b (D:DX)(n:Nat) (a0:tSch) (a1:Int):Option ((Int×Unit)×Unit):=qj (q2o D (Prod.fst a0) a1) fun b↦br (decide (Prod.fst (Prod.fst b)<0)) (some ((-1,()),())) (qj (qu9 D (Prod.fst (Prod.snd a0)) (Prod.fst (Prod.fst b))) fun b↦br (decide (Prod.fst (Prod.fst b)<0)) (some ((-1,()),())) (qj (qx0 D (Prod.fst (Prod.snd (Prod.snd a0))) (Prod.fst (Prod.fst b))) fun b↦br (decide (Prod.fst (Prod.fst b)<0)) (some ((-1,()),())) (some ((Prod.fst (Prod.fst b),()),()))))
def qxp (D:DX)(n:Nat) (a0:tSch) (a1:Int):Option ((Int×Unit)×Unit):=q6b D n a0 a1
theorem qbkj (D:DX)(n:Nat) (a0:tSch) (a1:Int):rfC qc D n 120 (a0,(a1,()))=qxp D n a0 a1:=by kernel_rfl

def qtg (D:DX)(n:Nat) (go:qf→Int→Int→Option ((Int×Unit)×Unit)) (K0:Int→Int→Option ((Int×Unit)×Unit)) (K1:Int→Option ((Int×Unit)×Unit)) (x0:qf) (x1:Int) (x2:Int):Option ((Int×Unit)×Unit):=br (decide (x2<(↑(List.length x0):Int))) (br (decide (0≤x2)&&decide (x2<(↑(List.length x0):Int))) (qj (qmo D (List.getD x0 (Int.toNat x2) []) x1) fun b↦br (decide (Prod.fst (Prod.fst b)<0)) (K0 (Prod.fst (Prod.fst b)) (-1)) (go x0 (Prod.fst (Prod.fst b)) (IntKind.wrap IntKind.i64 (x2+1)))) none) (K1 x1)
def qgx (D:DX)(n:Nat) (K0:Int→Int→Option ((Int×Unit)×Unit)) (K1:Int→Option ((Int×Unit)×Unit)):Nat→(qf)→(Int)→(Int)→Option ((Int×Unit)×Unit) | 0=>(fun x0 x1 x2=>none) | m+1=>(fun x0 x1 x2=>qtg D n (qgx D n K0 K1 m) K0 K1 x0 x1 x2)
def qqk (D:DX)(n:Nat) (v0_0:Int) (v0_1:Int):Option ((Int×Unit)×Unit):=some ((v0_1,()),())
def qp9 (D:DX)(n:Nat) (v1_0:Int):Option ((Int×Unit)×Unit):=some ((v1_0,()),())
def qrx (D:DX)(n:Nat):(qf)→(Int)→(Int)→Option ((Int×Unit)×Unit):=(fun x0 x1 x2=>qgx D n (fun v0_0 v0_1=>qqk D n v0_0 v0_1) (fun v1_0=>qp9 D n v1_0) n x0 x1 x2)
def qvk (D:DX)(n:Nat) (lp0:qf→Int→Int→Option ((Int×Unit)×Unit)) (a0:qf) (a1:Int):Option ((Int×Unit)×Unit):=br (decide (IntKind.wrap IntKind.i64 (a1 - (↑(List.length a0):Int))<0)) (some ((-1,()),())) (lp0 a0 (IntKind.wrap IntKind.i64 (a1 - (↑(List.length a0):Int))) 0)
def qwr (D:DX)(n:Nat) (a0:qf) (a1:Int):Option ((Int×Unit)×Unit):=qvk D n (qrx D n) a0 a1
def qhc (x0:qf) (x1:Int) (x2:Int):St:=stq 27 [(0,AV.val (Ty.sl (Ty.sl yV)) x0),(1,avI x1),(5,avI x2)] [] 
def qk7 (v0_0:Int) (v0_1:Int):St:=stq 27 [(1,avI v0_0),(4,avI v0_1)] [] 
def qkw (v1_0:Int):St:=stq 27 [(1,avI v1_0)] [] 
theorem qba5 (D:DX)(n:Nat) (m:Nat) (K:Ex→St→Option (Out ctx 121)) (x0:qf) (x1:Int) (x2:Int) :
 LQ qc D n 121 [.r,.r,.r,.l,.r,.l] (m+1) (qhc x0 x1 x2) K=qtg D n (fun x0 x1 x2=>LQ qc D n 121 [.r,.r,.r,.l,.r,.l] m (qhc x0 x1 x2) K) (fun v0_0 v0_1=>K (Ex.ret) (qk7 v0_0 v0_1)) (fun v1_0=>K (Ex.exit 0) (qkw v1_0)) x0 x1 x2:=by kernel_rfl
theorem q1p (D:DX)(n:Nat) (K:Ex→St→Option (Out ctx 121)):∀ (m:Nat) (x0:qf) (x1:Int) (x2:Int),LQ qc D n 121 [.r,.r,.r,.l,.r,.l] m (qhc x0 x1 x2) K=qgx D n (fun v0_0 v0_1=>K (Ex.ret) (qk7 v0_0 v0_1)) (fun v1_0=>K (Ex.exit 0) (qkw v1_0)) m x0 x1 x2
 | 0,x0,x1,x2=>qy ..
 | m+1,x0,x1,x2=>by
  have ih:(fun x0 x1 x2=>LQ qc D n 121 [.r,.r,.r,.l,.r,.l] m (qhc x0 x1 x2) K)=qgx D n (fun v0_0 v0_1=>K (Ex.ret) (qk7 v0_0 v0_1)) (fun v1_0=>K (Ex.exit 0) (qkw v1_0)) m:=by funext x0 x1 x2;exact q1p D n K m x0 x1 x2
  rw[qba5]
  rw[ih];rfl
theorem qbah (D:DX)(n:Nat) (v0_0:Int) (v0_1:Int) :
 (CQ qc D n 121 [] [.r,.r,.r,.l,.r,.l] (qi qc 121)) (Ex.ret) (qk7 v0_0 v0_1)=qqk D n v0_0 v0_1:=by kernel_rfl
theorem qbac (D:DX)(n:Nat) (v1_0:Int) :
 (CQ qc D n 121 [] [.r,.r,.r,.l,.r,.l] (qi qc 121)) (Ex.exit 0) (qkw v1_0)=qp9 D n v1_0:=by kernel_rfl
theorem qbau (D:DX)(n:Nat) (x0:qf) (x1:Int) (x2:Int) :
 LQ qc D n 121 [.r,.r,.r,.l,.r,.l] n (qhc x0 x1 x2) (CQ qc D n 121 [] [.r,.r,.r,.l,.r,.l] (qi qc 121))=qrx D n x0 x1 x2:=by
 rw[q1p]
 simp only[qbah,qbac]
 rfl
theorem qbgc (D:DX)(n:Nat) (a0:qf) (a1:Int):rfC qc D n 121 (a0,(a1,()))=qwr D n a0 a1:=by
 have h:rfC qc D n 121 (a0,(a1,()))=qvk D n (fun x0 x1 x2=>LQ qc D n 121 [.r,.r,.r,.l,.r,.l] n (qhc x0 x1 x2) (CQ qc D n 121 [] [.r,.r,.r,.l,.r,.l] (qi qc 121))) a0 a1:=by kernel_rfl
 rw[h]
 simp only[qbau]
 rfl

def q8p (D:DX)(n:Nat) (a0:Int×Int×ByteArray×Unit) (a1:Int):Option ((Int×Unit)×Unit):=br (decide (IntKind.wrap IntKind.i64 (a1 - (↑(ByteArray.size (Prod.fst (Prod.snd (Prod.snd a0)))):Int))<0)) (some ((-1,()),())) (some ((IntKind.wrap IntKind.i64 (a1 - (↑(ByteArray.size (Prod.fst (Prod.snd (Prod.snd a0)))):Int)),()),()))
def q0q (D:DX)(n:Nat) (a0:Int×Int×ByteArray×Unit) (a1:Int):Option ((Int×Unit)×Unit):=q8p D n a0 a1
theorem qbmc (D:DX)(n:Nat) (a0:Int×Int×ByteArray×Unit) (a1:Int):rfC qc D n 122 (a0,(a1,()))=q0q D n a0 a1:=by kernel_rfl

def q6d (D:DX)(n:Nat) (a0:tSch):Option (((tSch)×Unit)×Unit):=qj (q2q D (Prod.fst a0)) fun b↦qj (qvc D (Prod.fst (Prod.snd a0))) fun b_1↦qj (qxz D (Prod.fst (Prod.snd (Prod.snd a0)))) fun b_2↦some (((Prod.fst (Prod.fst b),Prod.fst (Prod.fst b_1),Prod.fst (Prod.fst b_2),()),()),())
def qye (D:DX)(n:Nat) (a0:tSch):Option (((tSch)×Unit)×Unit):=q6d D n a0
theorem qbi6 (D:DX)(n:Nat) (a0:tSch):rfC qc D n 123 (a0,())=qye D n a0:=by kernel_rfl

def qub (D:DX)(n:Nat) (go:qf→Int→qf→Option ((qf×Unit)×Unit)) (K0:qf→Option ((qf×Unit)×Unit)) (x0:qf) (x1:Int) (x2:qf):Option ((qf×Unit)×Unit):=br (decide (x1<(↑(List.length x0):Int))) (br (decide (0≤x1)&&decide (x1<(↑(List.length x0):Int))) (qj (qe4 D (List.getD x0 (Int.toNat x1) [])) fun b↦br (decide (0≤x1)&&decide (x1<(↑(List.length x2):Int))) (go x0 (IntKind.wrap IntKind.i64 (x1+1)) (List.set x2 (Int.toNat x1) (Prod.fst (Prod.fst b)))) none) none) (K0 x2)
def qg6 (D:DX)(n:Nat) (K0:qf→Option ((qf×Unit)×Unit)):Nat→(qf)→(Int)→(qf)→Option ((qf×Unit)×Unit) | 0=>(fun x0 x1 x2=>none) | m+1=>(fun x0 x1 x2=>qub D n (qg6 D n K0 m) K0 x0 x1 x2)
def qk3 (D:DX)(n:Nat) (v0_0:qf):Option ((qf×Unit)×Unit):=some ((v0_0,()),())
def qsc (D:DX)(n:Nat):(qf)→(Int)→(qf)→Option ((qf×Unit)×Unit):=(fun x0 x1 x2=>qg6 D n (fun v0_0=>qk3 D n v0_0) n x0 x1 x2)
def qvz (D:DX)(n:Nat) (lp0:qf→Int→qf→Option ((qf×Unit)×Unit)) (a0:qf):Option ((qf×Unit)×Unit):=br (decide (0≤(↑(List.length a0):Int))&&decide ((↑(List.length a0):Int)≤(↑(List.length a0):Int))&&decide ((↑(List.length a0):Int)≤(↑qbm:Int))) (lp0 a0 0 (List.replicate (Int.toNat (↑(List.length a0):Int)) [])) none
def qvx (D:DX)(n:Nat) (a0:qf):Option ((qf×Unit)×Unit):=qvz D n (qsc D n) a0
def qg4 (x0:qf) (x1:Int) (x2:qf):St:=stq 23 [(0,AV.val (Ty.sl (Ty.sl yV)) x0),(3,AV.brw 3 [] 0),(4,avI x1)] [(3,Root.mk (Ty.sl (Ty.sl yV)) (Mk.own 0 (Mk.own 0 (Mk.pr Mk.no (Mk.pr Mk.no (Mk.pr Mk.no Mk.no))))) x2 false)] 
def qk5 (v0_0:qf):St:=stq 23 [(3,AV.brw 3 [] 0)] [(3,Root.mk (Ty.sl (Ty.sl yV)) (Mk.own 0 (Mk.own 0 (Mk.pr Mk.no (Mk.pr Mk.no (Mk.pr Mk.no Mk.no))))) v0_0 false)] 
theorem qbbv (D:DX)(n:Nat) (m:Nat) (K:Ex→St→Option (Out ctx 124)) (x0:qf) (x1:Int) (x2:qf) :
 LQ qc D n 124 [.r,.r,.l,.r,.l] (m+1) (qg4 x0 x1 x2) K=qub D n (fun x0 x1 x2=>LQ qc D n 124 [.r,.r,.l,.r,.l] m (qg4 x0 x1 x2) K) (fun v0_0=>K (Ex.exit 0) (qk5 v0_0)) x0 x1 x2:=by kernel_rfl
theorem q11 (D:DX)(n:Nat) (K:Ex→St→Option (Out ctx 124)):∀ (m:Nat) (x0:qf) (x1:Int) (x2:qf),LQ qc D n 124 [.r,.r,.l,.r,.l] m (qg4 x0 x1 x2) K=qg6 D n (fun v0_0=>K (Ex.exit 0) (qk5 v0_0)) m x0 x1 x2
 | 0,x0,x1,x2=>qy ..
 | m+1,x0,x1,x2=>by
  have ih:(fun x0 x1 x2=>LQ qc D n 124 [.r,.r,.l,.r,.l] m (qg4 x0 x1 x2) K)=qg6 D n (fun v0_0=>K (Ex.exit 0) (qk5 v0_0)) m:=by funext x0 x1 x2;exact q11 D n K m x0 x1 x2
  rw[qbbv]
  rw[ih];rfl
theorem qba1 (D:DX)(n:Nat) (v0_0:qf) :
 (CQ qc D n 124 [] [.r,.r,.l,.r,.l] (qi qc 124)) (Ex.exit 0) (qk5 v0_0)=qk3 D n v0_0:=by kernel_rfl
theorem qbaa (D:DX)(n:Nat) (x0:qf) (x1:Int) (x2:qf) :
 LQ qc D n 124 [.r,.r,.l,.r,.l] n (qg4 x0 x1 x2) (CQ qc D n 124 [] [.r,.r,.l,.r,.l] (qi qc 124))=qsc D n x0 x1 x2:=by
 rw[q11]
 simp only[qba1]
 rfl
theorem qbhl (D:DX)(n:Nat) (a0:qf):rfC qc D n 124 (a0,())=qvx D n a0:=by
 have h:rfC qc D n 124 (a0,())=qvz D n (fun x0 x1 x2=>LQ qc D n 124 [.r,.r,.l,.r,.l] n (qg4 x0 x1 x2) (CQ qc D n 124 [] [.r,.r,.l,.r,.l] (qi qc 124))) a0:=by kernel_rfl
 rw[h]
 simp only[qbaa]
 rfl

def qblt (D:DX)(n:Nat) (a0:Int×Int×ByteArray×Unit):Option ((tVal×Unit)×Unit):=some (((Prod.fst a0,Prod.fst (Prod.snd a0),Prod.fst (Prod.snd (Prod.snd a0)),()),()),())
def q8f (D:DX)(n:Nat) (a0:Int×Int×ByteArray×Unit):Option ((tVal×Unit)×Unit):=qblt D n a0
theorem qbl5 (D:DX)(n:Nat) (a0:Int×Int×ByteArray×Unit):rfC qc D n 125 (a0,())=q8f D n a0:=by kernel_rfl

def q6a (D:DX)(n:Nat) (a0:tSch) (a1:tSch):Option ((Bool×Unit)×Unit):=qj (q25 D (Prod.fst a0) (Prod.fst a1)) fun b↦br (!Prod.fst (Prod.fst b)) (some ((false,()),())) (qj (qu4 D (Prod.fst (Prod.snd a0)) (Prod.fst (Prod.snd a1))) fun b↦br (!Prod.fst (Prod.fst b)) (some ((false,()),())) (qj (qx9 D (Prod.fst (Prod.snd (Prod.snd a0))) (Prod.fst (Prod.snd (Prod.snd a1)))) fun b↦br (!Prod.fst (Prod.fst b)) (some ((false,()),())) (some ((true,()),()))))
def qx3 (D:DX)(n:Nat) (a0:tSch) (a1:tSch):Option ((Bool×Unit)×Unit):=q6a D n a0 a1
theorem qbim (D:DX)(n:Nat) (a0:tSch) (a1:tSch):rfC qc D n 126 (a0,(a1,()))=qx3 D n a0 a1:=by kernel_rfl

def qt5 (D:DX)(n:Nat) (go:qf→qf→Int→Option ((Bool×Unit)×Unit)) (K0:Bool→Option ((Bool×Unit)×Unit)) (K1:Option ((Bool×Unit)×Unit)) (x0:qf) (x1:qf) (x2:Int):Option ((Bool×Unit)×Unit):=br (decide (x2<(↑(List.length x0):Int))) (br (decide (0≤x2)&&decide (x2<(↑(List.length x0):Int))) (br (decide (0≤x2)&&decide (x2<(↑(List.length x1):Int))) (qj (qmy D (List.getD x0 (Int.toNat x2) []) (List.getD x1 (Int.toNat x2) [])) fun b↦br (!Prod.fst (Prod.fst b)) (K0 false) (go x0 x1 (IntKind.wrap IntKind.i64 (x2+1)))) none) none) K1
def qg0 (D:DX)(n:Nat) (K0:Bool→Option ((Bool×Unit)×Unit)) (K1:Option ((Bool×Unit)×Unit)):Nat→(qf)→(qf)→(Int)→Option ((Bool×Unit)×Unit) | 0=>(fun x0 x1 x2=>none) | m+1=>(fun x0 x1 x2=>qt5 D n (qg0 D n K0 K1 m) K0 K1 x0 x1 x2)
def qk1 (D:DX)(n:Nat) (v0_0:Bool):Option ((Bool×Unit)×Unit):=some ((v0_0,()),())
def qk6 (D:DX)(n:Nat):Option ((Bool×Unit)×Unit):=some ((true,()),())
def qsr (D:DX)(n:Nat):(qf)→(qf)→(Int)→Option ((Bool×Unit)×Unit):=(fun x0 x1 x2=>qg0 D n (fun v0_0=>qk1 D n v0_0) (qk6 D n) n x0 x1 x2)
def qwm (D:DX)(n:Nat) (lp0:qf→qf→Int→Option ((Bool×Unit)×Unit)) (a0:qf) (a1:qf):Option ((Bool×Unit)×Unit):=br ((↑(List.length a0):Int) != (↑(List.length a1):Int)) (some ((false,()),())) (lp0 a0 a1 0)
def qvd (D:DX)(n:Nat) (a0:qf) (a1:qf):Option ((Bool×Unit)×Unit):=qwm D n (qsr D n) a0 a1
def qhb (x0:qf) (x1:qf) (x2:Int):St:=stq 27 [(0,AV.val (Ty.sl (Ty.sl yV)) x0),(1,AV.val (Ty.sl (Ty.sl yV)) x1),(5,avI x2)] [] 
def qk9 (v0_0:Bool):St:=stq 27 [(4,AV.val Ty.bool v0_0)] [] 
def qkx:St:=stq 27 [] [] 
theorem qbdi (D:DX)(n:Nat) (m:Nat) (K:Ex→St→Option (Out ctx 127)) (x0:qf) (x1:qf) (x2:Int) :
 LQ qc D n 127 [.r,.r,.l,.r,.l] (m+1) (qhb x0 x1 x2) K=qt5 D n (fun x0 x1 x2=>LQ qc D n 127 [.r,.r,.l,.r,.l] m (qhb x0 x1 x2) K) (fun v0_0=>K (Ex.ret) (qk9 v0_0)) (K (Ex.exit 0) (qkx)) x0 x1 x2:=by kernel_rfl
theorem q1s (D:DX)(n:Nat) (K:Ex→St→Option (Out ctx 127)):∀ (m:Nat) (x0:qf) (x1:qf) (x2:Int),LQ qc D n 127 [.r,.r,.l,.r,.l] m (qhb x0 x1 x2) K=qg0 D n (fun v0_0=>K (Ex.ret) (qk9 v0_0)) (K (Ex.exit 0) (qkx)) m x0 x1 x2
 | 0,x0,x1,x2=>qy ..
 | m+1,x0,x1,x2=>by
  have ih:(fun x0 x1 x2=>LQ qc D n 127 [.r,.r,.l,.r,.l] m (qhb x0 x1 x2) K)=qg0 D n (fun v0_0=>K (Ex.ret) (qk9 v0_0)) (K (Ex.exit 0) (qkx)) m:=by funext x0 x1 x2;exact q1s D n K m x0 x1 x2
  rw[qbdi]
  rw[ih];rfl
theorem qbal (D:DX)(n:Nat) (v0_0:Bool) :
 (CQ qc D n 127 [] [.r,.r,.l,.r,.l] (qi qc 127)) (Ex.ret) (qk9 v0_0)=qk1 D n v0_0:=by kernel_rfl
theorem qbaz (D:DX)(n:Nat) :
 (CQ qc D n 127 [] [.r,.r,.l,.r,.l] (qi qc 127)) (Ex.exit 0) (qkx)=qk6 D n:=by kernel_rfl
theorem q97 (D:DX)(n:Nat) (x0:qf) (x1:qf) (x2:Int) :
 LQ qc D n 127 [.r,.r,.l,.r,.l] n (qhb x0 x1 x2) (CQ qc D n 127 [] [.r,.r,.l,.r,.l] (qi qc 127))=qsr D n x0 x1 x2:=by
 rw[q1s]
 simp only[qbal,qbaz]
 rfl
theorem qbhq (D:DX)(n:Nat) (a0:qf) (a1:qf):rfC qc D n 127 (a0,(a1,()))=qvd D n a0 a1:=by
 have h:rfC qc D n 127 (a0,(a1,()))=qwm D n (fun x0 x1 x2=>LQ qc D n 127 [.r,.r,.l,.r,.l] n (qhb x0 x1 x2) (CQ qc D n 127 [] [.r,.r,.l,.r,.l] (qi qc 127))) a0 a1:=by kernel_rfl
 rw[h]
 simp only[q97]
 rfl

def q8h (D:DX)(n:Nat) (a0:Int×Int×ByteArray×Unit) (a1:Int×Int×ByteArray×Unit):Option ((Bool×Unit)×Unit):=br (Prod.fst a0 != Prod.fst a1) (some ((false,()),())) (br (Prod.fst (Prod.snd a0) != Prod.fst (Prod.snd a1)) (some ((false,()),())) (br (!List.beq (ByteArray.toList (Prod.fst (Prod.snd (Prod.snd a0)))) (ByteArray.toList (Prod.fst (Prod.snd (Prod.snd a1))))) (some ((false,()),())) (some ((true,()),()))))
def qzn (D:DX)(n:Nat) (a0:Int×Int×ByteArray×Unit) (a1:Int×Int×ByteArray×Unit):Option ((Bool×Unit)×Unit):=q8h D n a0 a1
theorem qbl8 (D:DX)(n:Nat) (a0:Int×Int×ByteArray×Unit) (a1:Int×Int×ByteArray×Unit):rfC qc D n 128 (a0,(a1,()))=qzn D n a0 a1:=by kernel_rfl

def q3t (D:DX)(n:Nat) (a0:tSch) (a1:Int):Option ((Int×Unit)×(tSch)×Unit):=qj (qxl D (Prod.fst a0) a1) fun b↦qj (qmj D (Prod.fst (Prod.snd a0)) (Prod.fst (Prod.fst b))) fun b_1↦qj (qtz D (Prod.fst (Prod.snd (Prod.snd a0))) (Prod.fst (Prod.fst b_1))) fun b_2↦some ((Prod.fst (Prod.fst b_2),()),(Prod.fst (Prod.snd b),Prod.fst (Prod.snd b_1),Prod.fst (Prod.snd b_2),()),())
def qt2 (D:DX)(n:Nat) (a0:tSch) (a1:Int):Option ((Int×Unit)×(tSch)×Unit):=q3t D n a0 a1
theorem qbe2 (D:DX)(n:Nat) (a0:tSch) (a1:Int):rfC qc D n 129 (a0,(a1,()))=qt2 D n a0 a1:=by kernel_rfl

def qql (D:DX)(n:Nat) (go:Int→Int→qf→Option ((Int×Unit)×qf×Unit)) (K0:Int→qf→Option ((Int×Unit)×qf×Unit)) (x0:Int) (x1:Int) (x2:qf):Option ((Int×Unit)×qf×Unit):=br (decide (x1<(↑(List.length x2):Int))) (br (decide (0≤x1)&&decide (x1<(↑(List.length x2):Int))) (qj (qn0 D (List.getD x2 (Int.toNat x1) []) x0) fun b↦br (qgy [PK.mutv (Ty.sl (Ty.pair (Ty.int IntKind.i64) (Ty.pair (Ty.int IntKind.i64) (Ty.pair Ty.str Ty.unit)))) (Mk.top (Ty.sl (Ty.pair (Ty.int IntKind.i64) (Ty.pair (Ty.int IntKind.i64) (Ty.pair Ty.str Ty.unit))))) (Mk.top (Ty.sl (Ty.pair (Ty.int IntKind.i64) (Ty.pair (Ty.int IntKind.i64) (Ty.pair Ty.str Ty.unit))))),PK.val (Ty.int IntKind.i64)] (List.map (ev (St.mk [AV.brw 0 [] 1048576,AV.val (Ty.int IntKind.i64) x0,AV.undef,AV.undef,AV.undef,AV.val (Ty.int IntKind.i64) x1,AV.val (Ty.int IntKind.i64) x1,AV.brw 0 [] 1048576,AV.val (Ty.int IntKind.i64) (↑(List.length x2):Int),AV.val Ty.bool (decide (x1<(↑(List.length x2):Int))),AV.undef,AV.undef,AV.brw 0 [] 1048576,AV.val (Ty.int IntKind.i64) x1,AV.addr 0 [Stp.idx (Int.toNat x1) 1048576],AV.brw 0 [Stp.idx (Int.toNat x1) 1048576] 0,AV.val (Ty.int IntKind.i64) x0,AV.undef,AV.undef] [some (Root.mk (Ty.sl (Ty.sl (Ty.pair (Ty.int IntKind.i64) (Ty.pair (Ty.int IntKind.i64) (Ty.pair Ty.str Ty.unit))))) (Mk.own 1048576 (Mk.own 0 (Mk.pr Mk.no (Mk.pr Mk.no (Mk.pr Mk.no Mk.no))))) x2 false),none,none,none,none,none,none,none,none,none,none,none,none,none,none,none,none,none,none])) [Operand.tmp 15,Operand.tmp 16]++qfg AV.unit)) (go (Prod.fst (Prod.fst b)) (IntKind.wrap IntKind.i64 (x1+1)) (List.set x2 (Int.toNat x1) (Prod.fst (Prod.snd b)))) none) none) (K0 x0 x2)
def qfb (D:DX)(n:Nat) (K0:Int→qf→Option ((Int×Unit)×qf×Unit)):Nat→(Int)→(Int)→(qf)→Option ((Int×Unit)×qf×Unit) | 0=>(fun x0 x1 x2=>none) | m+1=>(fun x0 x1 x2=>qql D n (qfb D n K0 m) K0 x0 x1 x2)
def qi5 (D:DX)(n:Nat) (v0_0:Int) (v0_1:qf):Option ((Int×Unit)×qf×Unit):=some ((v0_0,()),v0_1,())
def qop (D:DX)(n:Nat):(Int)→(Int)→(qf)→Option ((Int×Unit)×qf×Unit):=(fun x0 x1 x2=>qfb D n (fun v0_0 v0_1=>qi5 D n v0_0 v0_1) n x0 x1 x2)
def qr3 (D:DX)(n:Nat) (lp0:Int→Int→qf→Option ((Int×Unit)×qf×Unit)) (a0:qf) (a1:Int):Option ((Int×Unit)×qf×Unit):=lp0 a1 0 a0
def qss (D:DX)(n:Nat) (a0:qf) (a1:Int):Option ((Int×Unit)×qf×Unit):=qr3 D n (qop D n) a0 a1
def qfd (x0:Int) (x1:Int) (x2:qf):St:=stq 19 [(0,AV.brw 0 [] 1048576),(1,avI x0),(5,avI x1)] [(0,Root.mk (Ty.sl (Ty.sl yV)) (Mk.own 1048576 (Mk.own 0 (Mk.pr Mk.no (Mk.pr Mk.no (Mk.pr Mk.no Mk.no))))) x2 false)] 
def qjg (v0_0:Int) (v0_1:qf):St:=stq 19 [(0,AV.brw 0 [] 1048576),(1,avI v0_0)] [(0,Root.mk (Ty.sl (Ty.sl yV)) (Mk.own 1048576 (Mk.own 0 (Mk.pr Mk.no (Mk.pr Mk.no (Mk.pr Mk.no Mk.no))))) v0_1 false)] 
theorem q86 (D:DX)(n:Nat) (m:Nat) (K:Ex→St→Option (Out ctx 130)) (x0:Int) (x1:Int) (x2:qf) :
 LQ qc D n 130 [.r,.l,.r,.l] (m+1) (qfd x0 x1 x2) K=qql D n (fun x0 x1 x2=>LQ qc D n 130 [.r,.l,.r,.l] m (qfd x0 x1 x2) K) (fun v0_0 v0_1=>K (Ex.exit 0) (qjg v0_0 v0_1)) x0 x1 x2:=by kernel_rfl
theorem qxo (D:DX)(n:Nat) (K:Ex→St→Option (Out ctx 130)):∀ (m:Nat) (x0:Int) (x1:Int) (x2:qf),LQ qc D n 130 [.r,.l,.r,.l] m (qfd x0 x1 x2) K=qfb D n (fun v0_0 v0_1=>K (Ex.exit 0) (qjg v0_0 v0_1)) m x0 x1 x2
 | 0,x0,x1,x2=>qy ..
 | m+1,x0,x1,x2=>by
  have ih:(fun x0 x1 x2=>LQ qc D n 130 [.r,.l,.r,.l] m (qfd x0 x1 x2) K)=qfb D n (fun v0_0 v0_1=>K (Ex.exit 0) (qjg v0_0 v0_1)) m:=by funext x0 x1 x2;exact qxo D n K m x0 x1 x2
  rw[q86]
  rw[ih];rfl
theorem q8a (D:DX)(n:Nat) (v0_0:Int) (v0_1:qf) :
 (CQ qc D n 130 [] [.r,.l,.r,.l] (qi qc 130)) (Ex.exit 0) (qjg v0_0 v0_1)=qi5 D n v0_0 v0_1:=by kernel_rfl
theorem q7t (D:DX)(n:Nat) (x0:Int) (x1:Int) (x2:qf) :
 LQ qc D n 130 [.r,.l,.r,.l] n (qfd x0 x1 x2) (CQ qc D n 130 [] [.r,.l,.r,.l] (qi qc 130))=qop D n x0 x1 x2:=by
 rw[qxo]
 simp only[q8a]
 rfl
theorem qbdc (D:DX)(n:Nat) (a0:qf) (a1:Int):rfC qc D n 130 (a0,(a1,()))=qss D n a0 a1:=by
 have h:rfC qc D n 130 (a0,(a1,()))=qr3 D n (fun x0 x1 x2=>LQ qc D n 130 [.r,.l,.r,.l] n (qfd x0 x1 x2) (CQ qc D n 130 [] [.r,.l,.r,.l] (qi qc 130))) a0 a1:=by kernel_rfl
 rw[h]
 simp only[q7t]
 rfl

def qon (D:DX)(n:Nat) (go:Int→ByteArray→Option ((ByteArray×Unit)×Unit)) (K0:ByteArray→Option ((ByteArray×Unit)×Unit)) (x0:Int) (x1:ByteArray):Option ((ByteArray×Unit)×Unit):=br (decide (x0>0)) (br (decide (ByteArray.size (ByteArray.mk (List.toArray (List.map (fun n↦UInt8.ofNat (Int.toNat n)) [IntKind.wrap IntKind.u8 (IntKind.wrap IntKind.i64 (48+Int.tmod x0 10))])))+ByteArray.size x1≤Nat.pow 2 47)) (go (IntKind.wrap IntKind.i64 (Int.tdiv x0 10)) (ByteArray.append (ByteArray.mk (List.toArray (List.map (fun n↦UInt8.ofNat (Int.toNat n)) [IntKind.wrap IntKind.u8 (IntKind.wrap IntKind.i64 (48+Int.tmod x0 10))]))) x1)) none) (K0 x1)
def qfs (D:DX)(n:Nat) (K0:ByteArray→Option ((ByteArray×Unit)×Unit)):Nat→(Int)→(ByteArray)→Option ((ByteArray×Unit)×Unit) | 0=>(fun x0 x1=>none) | m+1=>(fun x0 x1=>qon D n (qfs D n K0 m) K0 x0 x1)
def qr2 (D:DX)(n:Nat) (v0_0:ByteArray):Option ((ByteArray×Unit)×Unit):=br (decide (ByteArray.size (ByteArray.mk #[UInt8.ofNat 109])+ByteArray.size v0_0≤Nat.pow 2 47)) (some ((ByteArray.append (ByteArray.mk #[UInt8.ofNat 109]) v0_0,()),())) none
def qtq (D:DX)(n:Nat):(Int)→(ByteArray)→Option ((ByteArray×Unit)×Unit):=(fun x0 x1=>qfs D n (fun v0_0=>qr2 D n v0_0) n x0 x1)
def qw5 (D:DX)(n:Nat) (lp0:Int→ByteArray→Option ((ByteArray×Unit)×Unit)) (a0:Int):Option ((ByteArray×Unit)×Unit):=br (decide (a0≤0)) (some ((ByteArray.mk #[UInt8.ofNat 109,UInt8.ofNat 48],()),())) (lp0 a0 (ByteArray.mk #[]))
def qyo (D:DX)(n:Nat) (a0:Int):Option ((ByteArray×Unit)×Unit):=qw5 D n (qtq D n) a0
def qhx (x0:Int) (x1:ByteArray):St:=stq 20 [(0,avI x0),(3,AV.val Ty.str x1)] [] 
def qm2 (v0_0:ByteArray):St:=stq 20 [(3,AV.val Ty.str v0_0)] [] 
theorem qbfl (D:DX)(n:Nat) (m:Nat) (K:Ex→St→Option (Out ctx 131)) (x0:Int) (x1:ByteArray) :
 LQ qc D n 131 [.r,.r,.r,.l,.l] (m+1) (qhx x0 x1) K=qon D n (fun x0 x1=>LQ qc D n 131 [.r,.r,.r,.l,.l] m (qhx x0 x1) K) (fun v0_0=>K (Ex.exit 0) (qm2 v0_0)) x0 x1:=by kernel_rfl
theorem q3v (D:DX)(n:Nat) (K:Ex→St→Option (Out ctx 131)):∀ (m:Nat) (x0:Int) (x1:ByteArray),LQ qc D n 131 [.r,.r,.r,.l,.l] m (qhx x0 x1) K=qfs D n (fun v0_0=>K (Ex.exit 0) (qm2 v0_0)) m x0 x1
 | 0,x0,x1=>qy ..
 | m+1,x0,x1=>by
  have ih:(fun x0 x1=>LQ qc D n 131 [.r,.r,.r,.l,.l] m (qhx x0 x1) K)=qfs D n (fun v0_0=>K (Ex.exit 0) (qm2 v0_0)) m:=by funext x0 x1;exact q3v D n K m x0 x1
  rw[qbfl]
  rw[ih];rfl
theorem qbc5 (D:DX)(n:Nat) (v0_0:ByteArray) :
 (CQ qc D n 131 [] [.r,.r,.r,.l,.l] (qi qc 131)) (Ex.exit 0) (qm2 v0_0)=qr2 D n v0_0:=by kernel_rfl
theorem qbbq (D:DX)(n:Nat) (x0:Int) (x1:ByteArray) :
 LQ qc D n 131 [.r,.r,.r,.l,.l] n (qhx x0 x1) (CQ qc D n 131 [] [.r,.r,.r,.l,.l] (qi qc 131))=qtq D n x0 x1:=by
 rw[q3v]
 simp only[qbc5]
 rfl
theorem qbib (D:DX)(n:Nat) (a0:Int):rfC qc D n 131 (a0,())=qyo D n a0:=by
 have h:rfC qc D n 131 (a0,())=qw5 D n (fun x0 x1=>LQ qc D n 131 [.r,.r,.r,.l,.l] n (qhx x0 x1) (CQ qc D n 131 [] [.r,.r,.r,.l,.l] (qi qc 131))) a0:=by kernel_rfl
 rw[h]
 simp only[qbbq]
 rfl

def q3z (D:DX)(n:Nat) (a0:tSch) (a1:Int):Option ((Int×Unit)×Unit):=qj (qxh D (Prod.fst a0) a1) fun b↦br (decide (Prod.fst (Prod.fst b)<0)) (some ((-1,()),())) (qj (qmf D (Prod.fst (Prod.snd a0)) (Prod.fst (Prod.fst b))) fun b↦br (decide (Prod.fst (Prod.fst b)<0)) (some ((-1,()),())) (qj (quf D (Prod.fst (Prod.snd (Prod.snd a0))) (Prod.fst (Prod.fst b))) fun b↦br (decide (Prod.fst (Prod.fst b)<0)) (some ((-1,()),())) (some ((Prod.fst (Prod.fst b),()),()))))
def quv (D:DX)(n:Nat) (a0:tSch) (a1:Int):Option ((Int×Unit)×Unit):=q3z D n a0 a1
theorem qbec (D:DX)(n:Nat) (a0:tSch) (a1:Int):rfC qc D n 132 (a0,(a1,()))=quv D n a0 a1:=by kernel_rfl

def qqe (D:DX)(n:Nat) (go:qf→Int→Int→Option ((Int×Unit)×Unit)) (K0:Int→Int→Option ((Int×Unit)×Unit)) (K1:Int→Option ((Int×Unit)×Unit)) (x0:qf) (x1:Int) (x2:Int):Option ((Int×Unit)×Unit):=br (decide (x2<(↑(List.length x0):Int))) (br (decide (0≤x2)&&decide (x2<(↑(List.length x0):Int))) (qj (qt8 D (List.getD x0 (Int.toNat x2) []) x1) fun b↦br (decide (Prod.fst (Prod.fst b)<0)) (K0 (Prod.fst (Prod.fst b)) (-1)) (go x0 (Prod.fst (Prod.fst b)) (IntKind.wrap IntKind.i64 (x2+1)))) none) (K1 x1)
def qe8 (D:DX)(n:Nat) (K0:Int→Int→Option ((Int×Unit)×Unit)) (K1:Int→Option ((Int×Unit)×Unit)):Nat→(qf)→(Int)→(Int)→Option ((Int×Unit)×Unit) | 0=>(fun x0 x1 x2=>none) | m+1=>(fun x0 x1 x2=>qqe D n (qe8 D n K0 K1 m) K0 K1 x0 x1 x2)
def qn8 (D:DX)(n:Nat) (v0_0:Int) (v0_1:Int):Option ((Int×Unit)×Unit):=some ((v0_1,()),())
def qja (D:DX)(n:Nat) (v1_0:Int):Option ((Int×Unit)×Unit):=some ((v1_0,()),())
def qot (D:DX)(n:Nat):(qf)→(Int)→(Int)→Option ((Int×Unit)×Unit):=(fun x0 x1 x2=>qe8 D n (fun v0_0 v0_1=>qn8 D n v0_0 v0_1) (fun v1_0=>qja D n v1_0) n x0 x1 x2)
def qrk (D:DX)(n:Nat) (lp0:qf→Int→Int→Option ((Int×Unit)×Unit)) (a0:qf) (a1:Int):Option ((Int×Unit)×Unit):=lp0 a0 a1 0
def qrz (D:DX)(n:Nat) (a0:qf) (a1:Int):Option ((Int×Unit)×Unit):=qrk D n (qot D n) a0 a1
def qfa (x0:qf) (x1:Int) (x2:Int):St:=stq 21 [(0,AV.val (Ty.sl (Ty.sl yV)) x0),(1,avI x1),(5,avI x2)] [] 
def qjd (v0_0:Int) (v0_1:Int):St:=stq 21 [(1,avI v0_0),(4,avI v0_1)] [] 
def qjk (v1_0:Int):St:=stq 21 [(1,avI v1_0)] [] 
theorem q81 (D:DX)(n:Nat) (m:Nat) (K:Ex→St→Option (Out ctx 133)) (x0:qf) (x1:Int) (x2:Int) :
 LQ qc D n 133 [.r,.l,.r,.l] (m+1) (qfa x0 x1 x2) K=qqe D n (fun x0 x1 x2=>LQ qc D n 133 [.r,.l,.r,.l] m (qfa x0 x1 x2) K) (fun v0_0 v0_1=>K (Ex.ret) (qjd v0_0 v0_1)) (fun v1_0=>K (Ex.exit 0) (qjk v1_0)) x0 x1 x2:=by kernel_rfl
theorem qw7 (D:DX)(n:Nat) (K:Ex→St→Option (Out ctx 133)):∀ (m:Nat) (x0:qf) (x1:Int) (x2:Int),LQ qc D n 133 [.r,.l,.r,.l] m (qfa x0 x1 x2) K=qe8 D n (fun v0_0 v0_1=>K (Ex.ret) (qjd v0_0 v0_1)) (fun v1_0=>K (Ex.exit 0) (qjk v1_0)) m x0 x1 x2
 | 0,x0,x1,x2=>qy ..
 | m+1,x0,x1,x2=>by
  have ih:(fun x0 x1 x2=>LQ qc D n 133 [.r,.l,.r,.l] m (qfa x0 x1 x2) K)=qe8 D n (fun v0_0 v0_1=>K (Ex.ret) (qjd v0_0 v0_1)) (fun v1_0=>K (Ex.exit 0) (qjk v1_0)) m:=by funext x0 x1 x2;exact qw7 D n K m x0 x1 x2
  rw[q81]
  rw[ih];rfl
theorem q7j (D:DX)(n:Nat) (v0_0:Int) (v0_1:Int) :
 (CQ qc D n 133 [] [.r,.l,.r,.l] (qi qc 133)) (Ex.ret) (qjd v0_0 v0_1)=qn8 D n v0_0 v0_1:=by kernel_rfl
theorem q75 (D:DX)(n:Nat) (v1_0:Int) :
 (CQ qc D n 133 [] [.r,.l,.r,.l] (qi qc 133)) (Ex.exit 0) (qjk v1_0)=qja D n v1_0:=by kernel_rfl
theorem q7k (D:DX)(n:Nat) (x0:qf) (x1:Int) (x2:Int) :
 LQ qc D n 133 [.r,.l,.r,.l] n (qfa x0 x1 x2) (CQ qc D n 133 [] [.r,.l,.r,.l] (qi qc 133))=qot D n x0 x1 x2:=by
 rw[qw7]
 simp only[q7j,q75]
 rfl
theorem qbcu (D:DX)(n:Nat) (a0:qf) (a1:Int):rfC qc D n 133 (a0,(a1,()))=qrz D n a0 a1:=by
 have h:rfC qc D n 133 (a0,(a1,()))=qrk D n (fun x0 x1 x2=>LQ qc D n 133 [.r,.l,.r,.l] n (qfa x0 x1 x2) (CQ qc D n 133 [] [.r,.l,.r,.l] (qi qc 133))) a0 a1:=by kernel_rfl
 rw[h]
 simp only[q7k]
 rfl

def qu0 (D:DX)(n:Nat) (a0:List Int):Option ((List Int×Unit)×Unit):=br (decide (Int.toNat (↑(List.length a0):Int)=0)) (both (some (([],()),())) (br (decide (0+List.length a0≤qbm)) (some (([]++a0,()),())) none)) (br (decide (0+List.length a0≤qbm)) (some (([]++a0,()),())) none)
def qnb (D:DX)(n:Nat) (a0:List Int):Option ((List Int×Unit)×Unit):=qu0 D n a0
theorem q63 (D:DX)(n:Nat) (a0:List Int):rfC qc D n 138 (a0,())=qnb D n a0:=by kernel_rfl

def q8c (D:DX)(n:Nat) (a0:Int×Int×ByteArray×Unit):Option ((Bool×Unit)×Unit):=br (decide (Prod.fst a0=0)) (some ((bif decide (Prod.fst (Prod.snd a0)=0) then List.beq (ByteArray.toList (Prod.fst (Prod.snd (Prod.snd a0)))) (ByteArray.toList (ByteArray.mk #[])) else false,()),())) (br (decide (Prod.fst a0=1)) (qj (qgo D (Prod.fst (Prod.snd a0)) 0 1) fun b↦some ((bif Prod.fst (Prod.fst b) then List.beq (ByteArray.toList (Prod.fst (Prod.snd (Prod.snd a0)))) (ByteArray.toList (ByteArray.mk #[])) else false,()),())) (br (decide (Prod.fst a0=2)) (qj (qgo D (Prod.fst (Prod.snd a0)) (-1000000000000) 1000000000000) fun b↦some ((bif Prod.fst (Prod.fst b) then List.beq (ByteArray.toList (Prod.fst (Prod.snd (Prod.snd a0)))) (ByteArray.toList (ByteArray.mk #[])) else false,()),())) (br (decide (Prod.fst a0=3)) (some ((bif decide (Prod.fst (Prod.snd a0)=0) then decide ((↑(ByteArray.size (Prod.fst (Prod.snd (Prod.snd a0)))):Int)≤20) else false,()),())) (some ((false,()),())))))
def qzo (D:DX)(n:Nat) (a0:Int×Int×ByteArray×Unit):Option ((Bool×Unit)×Unit):=q8c D n a0
theorem qbk9 (D:DX)(n:Nat) (a0:Int×Int×ByteArray×Unit):rfC qc D n 139 (a0,())=qzo D n a0:=by kernel_rfl

def qb1 (D:DX)(n:Nat) (a2:Clo) (go:qd→qd→qd→Int→Int→Option ((Int×Unit)×Unit)) (K0:qd→qd→Int→Option ((Int×Unit)×Unit)) (K1:qd→qd→Option ((Int×Unit)×Unit)) (x0:qd) (x1:qd) (x2:qd) (x3:Int) (x4:Int):Option ((Int×Unit)×Unit):=br (decide (x4<x3)) (br (decide (0≤x4)&&decide (x4<(↑(List.length x2):Int))) (br (decide (x4≥(↑(List.length x1):Int))) (K0 x0 x1 1) (br (decide (0≤x4)&&decide (x4<(↑(List.length x1):Int))) (qj (qcj ctx D a2 [CapV.val (Ty.pair (Ty.int IntKind.i64) (Ty.pair (Ty.int IntKind.i64) (Ty.pair Ty.str Ty.unit))) (List.getD x2 (Int.toNat x4) (0,0,ByteArray.empty,())),CapV.val (Ty.pair (Ty.int IntKind.i64) (Ty.pair (Ty.int IntKind.i64) (Ty.pair Ty.str Ty.unit))) (List.getD x1 (Int.toNat x4) (0,0,ByteArray.empty,()))] (Ty.int IntKind.i64)) fun b↦br (b != 0) (K0 x0 x1 b) (go x0 x1 x2 x3 (IntKind.wrap IntKind.i64 (x4+1)))) none)) none) (K1 x0 x1)
def qx (D:DX)(n:Nat) (a2:Clo) (K0:qd→qd→Int→Option ((Int×Unit)×Unit)) (K1:qd→qd→Option ((Int×Unit)×Unit)):Nat→(qd)→(qd)→(qd)→(Int)→(Int)→Option ((Int×Unit)×Unit) | 0=>(fun x0 x1 x2 x3 x4=>none) | m+1=>(fun x0 x1 x2 x3 x4=>qb1 D n a2 (qx D n a2 K0 K1 m) K0 K1 x0 x1 x2 x3 x4)
def qbx (D:DX)(n:Nat) (a2:Clo) (v0_0:qd) (v0_1:qd) (v0_2:Int):Option ((Int×Unit)×Unit):=some ((v0_2,()),())
def qbf (D:DX)(n:Nat) (a2:Clo) (v1_0:qd) (v1_1:qd):Option ((Int×Unit)×Unit):=br (decide ((↑(List.length v1_0):Int)<(↑(List.length v1_1):Int))) (some ((-1,()),())) (some ((0,()),()))
def qb0 (D:DX)(n:Nat) (a2:Clo):(qd)→(qd)→(qd)→(Int)→(Int)→Option ((Int×Unit)×Unit):=(fun x0 x1 x2 x3 x4=>qx D n a2 (fun v0_0 v0_1 v0_2=>qbx D n a2 v0_0 v0_1 v0_2) (fun v1_0 v1_1=>qbf D n a2 v1_0 v1_1) n x0 x1 x2 x3 x4)
def qca (D:DX)(n:Nat) (a2:Clo) (lp0:qd→qd→qd→Int→Int→Option ((Int×Unit)×Unit)) (a0:qd) (a1:qd):Option ((Int×Unit)×Unit):=lp0 a0 a1 a0 (↑(List.length a0):Int) 0
def qb9 (D:DX)(n:Nat) (a0:qd) (a1:qd) (a2:Clo):Option ((Int×Unit)×Unit):=qca D n a2 (qb0 D n a2) a0 a1
def qw (a2:Clo) (x0:qd) (x1:qd) (x2:qd) (x3:Int) (x4:Int):St:=stq 39 [(0,AV.val (Ty.sl yV) x0),(1,AV.val (Ty.sl yV) x1),(2,AV.cloV a2),(11,AV.val (Ty.sl yV) x2),(12,avI x3),(13,avI x4)] [] 
def qbg (a2:Clo) (v0_0:qd) (v0_1:qd) (v0_2:Int):St:=stq 39 [(0,AV.val (Ty.sl yV) v0_0),(1,AV.val (Ty.sl yV) v0_1),(6,avI v0_2)] [] 
def qbh (a2:Clo) (v1_0:qd) (v1_1:qd):St:=stq 39 [(0,AV.val (Ty.sl yV) v1_0),(1,AV.val (Ty.sl yV) v1_1)] [] 
theorem qfe (D:DX)(n:Nat) (a2:Clo) (m:Nat) (K:Ex→St→Option (Out ctx 140)) (x0:qd) (x1:qd) (x2:qd) (x3:Int) (x4:Int) :
 LQ qc D n 140 [.r,.l,.r,.l] (m+1) (qw a2 x0 x1 x2 x3 x4) K=qb1 D n a2 (fun x0 x1 x2 x3 x4=>LQ qc D n 140 [.r,.l,.r,.l] m (qw a2 x0 x1 x2 x3 x4) K) (fun v0_0 v0_1 v0_2=>K (Ex.ret) (qbg a2 v0_0 v0_1 v0_2)) (fun v1_0 v1_1=>K (Ex.exit 0) (qbh a2 v1_0 v1_1)) x0 x1 x2 x3 x4:=by kernel_rfl
theorem qcx (D:DX)(n:Nat) (a2:Clo) (K:Ex→St→Option (Out ctx 140)):∀ (m:Nat) (x0:qd) (x1:qd) (x2:qd) (x3:Int) (x4:Int),LQ qc D n 140 [.r,.l,.r,.l] m (qw a2 x0 x1 x2 x3 x4) K=qx D n a2 (fun v0_0 v0_1 v0_2=>K (Ex.ret) (qbg a2 v0_0 v0_1 v0_2)) (fun v1_0 v1_1=>K (Ex.exit 0) (qbh a2 v1_0 v1_1)) m x0 x1 x2 x3 x4
 | 0,x0,x1,x2,x3,x4=>qy ..
 | m+1,x0,x1,x2,x3,x4=>by
  have ih:(fun x0 x1 x2 x3 x4=>LQ qc D n 140 [.r,.l,.r,.l] m (qw a2 x0 x1 x2 x3 x4) K)=qx D n a2 (fun v0_0 v0_1 v0_2=>K (Ex.ret) (qbg a2 v0_0 v0_1 v0_2)) (fun v1_0 v1_1=>K (Ex.exit 0) (qbh a2 v1_0 v1_1)) m:=by funext x0 x1 x2 x3 x4;exact qcx D n a2 K m x0 x1 x2 x3 x4
  rw[qfe]
  rw[ih];rfl
theorem qe6 (D:DX)(n:Nat) (a2:Clo) (v0_0:qd) (v0_1:qd) (v0_2:Int) :
 (CQ qc D n 140 [] [.r,.l,.r,.l] (qi qc 140)) (Ex.ret) (qbg a2 v0_0 v0_1 v0_2)=qbx D n a2 v0_0 v0_1 v0_2:=by kernel_rfl
theorem qe7 (D:DX)(n:Nat) (a2:Clo) (v1_0:qd) (v1_1:qd) :
 (CQ qc D n 140 [] [.r,.l,.r,.l] (qi qc 140)) (Ex.exit 0) (qbh a2 v1_0 v1_1)=qbf D n a2 v1_0 v1_1:=by kernel_rfl
theorem qe5 (D:DX)(n:Nat) (a2:Clo) (x0:qd) (x1:qd) (x2:qd) (x3:Int) (x4:Int) :
 LQ qc D n 140 [.r,.l,.r,.l] n (qw a2 x0 x1 x2 x3 x4) (CQ qc D n 140 [] [.r,.l,.r,.l] (qi qc 140))=qb0 D n a2 x0 x1 x2 x3 x4:=by
 rw[qcx]
 simp only[qe6,qe7]
 rfl
theorem qfu (D:DX)(n:Nat) (a0:qd) (a1:qd) (a2:Clo):rfC qc D n 140 (a0,(a1,(a2,())))=qb9 D n a0 a1 a2:=by
 have h:rfC qc D n 140 (a0,(a1,(a2,())))=qca D n a2 (fun x0 x1 x2 x3 x4=>LQ qc D n 140 [.r,.l,.r,.l] n (qw a2 x0 x1 x2 x3 x4) (CQ qc D n 140 [] [.r,.l,.r,.l] (qi qc 140))) a0 a1:=by kernel_rfl
 rw[h]
 simp only[qe5]
 rfl

def q8l (D:DX)(n:Nat) (a0:Int×Int×ByteArray×Unit) (a1:Int×Int×ByteArray×Unit):Option ((Int×Unit)×Unit):=br (bif decide (Prod.fst a0<Prod.fst a1) then true else bif decide (Prod.fst a0=Prod.fst a1) then decide (Prod.fst (Prod.snd a0)<Prod.fst (Prod.snd a1)) else false) (some ((-1,()),())) (br (bif decide (Prod.fst a0>Prod.fst a1) then true else decide (Prod.fst (Prod.snd a0)>Prod.fst (Prod.snd a1))) (some ((1,()),())) (qj (q37 D (Prod.fst (Prod.snd (Prod.snd a0))) (Prod.fst (Prod.snd (Prod.snd a1)))) fun b↦some ((Prod.fst (Prod.fst b),()),())))
def q1a (D:DX)(n:Nat) (a0:Int×Int×ByteArray×Unit) (a1:Int×Int×ByteArray×Unit):Option ((Int×Unit)×Unit):=q8l D n a0 a1
theorem qbme (D:DX)(n:Nat) (a0:Int×Int×ByteArray×Unit) (a1:Int×Int×ByteArray×Unit):rfC qc D n 141 (a0,(a1,()))=q1a D n a0 a1:=by kernel_rfl

def qfp (D:DX)(n:Nat) (a1:Clo) (a0:tIxs):Option ((Bool×Unit)×Unit):=qj (qd0 D a0 a1) fun b↦some ((decide (Prod.fst (Prod.fst b)≥0),()),())
def qdf (D:DX)(n:Nat) (a0:tIxs) (a1:Clo):Option ((Bool×Unit)×Unit):=qfp D n a1 a0
theorem qnv (D:DX)(n:Nat) (a0:tIxs) (a1:Clo):rfC qc D n 142 (a0,(a1,()))=qdf D n a0 a1:=by kernel_rfl

def q7p (D:DX)(n:Nat) (a0:ByteArray×List Int×Bool×Unit) (a1:qd) (a2:qd):Option ((Bool×Unit)×Unit):=qj (qoe D a1 (Prod.fst (Prod.snd a0))) fun b↦br (Prod.fst (Prod.snd (Prod.snd a0))) (qj (qd4 D (Prod.fst (Prod.fst b)) (0,0,ByteArray.empty,())) fun b_1↦br (!Prod.fst (Prod.fst b_1)) (qj (qoe D a2 (Prod.fst (Prod.snd a0))) fun b_2↦qj (qdb D (Prod.fst (Prod.fst b)) (Prod.fst (Prod.fst b_2))) fun b↦some ((Prod.fst (Prod.fst b),()),())) (some ((false,()),()))) (some ((false,()),()))
def qz4 (D:DX)(n:Nat) (a0:ByteArray×List Int×Bool×Unit) (a1:qd) (a2:qd):Option ((Bool×Unit)×Unit):=q7p D n a0 a1 a2
theorem qbln (D:DX)(n:Nat) (a0:ByteArray×List Int×Bool×Unit) (a1:qd) (a2:qd):rfC qc D n 143 (a0,(a1,(a2,())))=qz4 D n a0 a1 a2:=by kernel_rfl

def qhi (D:DX)(n:Nat) (a0:qd) (a1:Int×Int×ByteArray×Unit):Option ((Bool×Unit)×Unit):=qj (qew D a0 a1) fun b↦some ((decide (Prod.fst (Prod.fst b)≥0),()),())
def qd3 (D:DX)(n:Nat) (a0:qd) (a1:Int×Int×ByteArray×Unit):Option ((Bool×Unit)×Unit):=qhi D n a0 a1
theorem qpo (D:DX)(n:Nat) (a0:qd) (a1:Int×Int×ByteArray×Unit):rfC qc D n 144 (a0,(a1,()))=qd3 D n a0 a1:=by kernel_rfl

def qeh (D:DX)(n:Nat) (go:qd→qd→Int→Int→Option ((Bool×Unit)×Unit)) (K0:Bool→Option ((Bool×Unit)×Unit)) (K1:Option ((Bool×Unit)×Unit)) (x0:qd) (x1:qd) (x2:Int) (x3:Int):Option ((Bool×Unit)×Unit):=br (decide (x3<x2)) (br (decide (0≤x3)&&decide (x3<(↑(List.length x0):Int))) (br (decide (0≤x3)&&decide (x3<(↑(List.length x1):Int))) (br (!qra (Ty.pair (Ty.int IntKind.i64) (Ty.pair (Ty.int IntKind.i64) (Ty.pair Ty.str Ty.unit))) (List.getD x0 (Int.toNat x3) (0,0,ByteArray.empty,())) (List.getD x1 (Int.toNat x3) (0,0,ByteArray.empty,()))) (K0 false) (go x0 x1 x2 (IntKind.wrap IntKind.i64 (x3+1)))) none) none) K1
def qb7 (D:DX)(n:Nat) (K0:Bool→Option ((Bool×Unit)×Unit)) (K1:Option ((Bool×Unit)×Unit)):Nat→(qd)→(qd)→(Int)→(Int)→Option ((Bool×Unit)×Unit) | 0=>(fun x0 x1 x2 x3=>none) | m+1=>(fun x0 x1 x2 x3=>qeh D n (qb7 D n K0 K1 m) K0 K1 x0 x1 x2 x3)
def qhj (D:DX)(n:Nat) (v0_0:Bool):Option ((Bool×Unit)×Unit):=some ((v0_0,()),())
def qhf (D:DX)(n:Nat):Option ((Bool×Unit)×Unit):=some ((true,()),())
def qd9 (D:DX)(n:Nat):(qd)→(qd)→(Int)→(Int)→Option ((Bool×Unit)×Unit):=(fun x0 x1 x2 x3=>qb7 D n (fun v0_0=>qhj D n v0_0) (qhf D n) n x0 x1 x2 x3)
def qen (D:DX)(n:Nat) (lp0:qd→qd→Int→Int→Option ((Bool×Unit)×Unit)) (a0:qd) (a1:qd):Option ((Bool×Unit)×Unit):=br ((↑(List.length a0):Int) != (↑(List.length a1):Int)) (some ((false,()),())) (lp0 a0 a1 (↑(List.length a0):Int) 0)
def qet (D:DX)(n:Nat) (a0:qd) (a1:qd):Option ((Bool×Unit)×Unit):=qen D n (qd9 D n) a0 a1
def qb3 (x0:qd) (x1:qd) (x2:Int) (x3:Int):St:=stq 26 [(0,AV.val (Ty.sl yV) x0),(1,AV.val (Ty.sl yV) x1),(12,avI x2),(13,avI x3)] [] 
def qc1 (v0_0:Bool):St:=stq 26 [(4,AV.val Ty.bool v0_0)] [] 
def qc3:St:=stq 26 [] [] 
theorem qqb (D:DX)(n:Nat) (m:Nat) (K:Ex→St→Option (Out ctx 145)) (x0:qd) (x1:qd) (x2:Int) (x3:Int) :
 LQ qc D n 145 [.r,.r,.l,.r,.l] (m+1) (qb3 x0 x1 x2 x3) K=qeh D n (fun x0 x1 x2 x3=>LQ qc D n 145 [.r,.r,.l,.r,.l] m (qb3 x0 x1 x2 x3) K) (fun v0_0=>K (Ex.ret) (qc1 v0_0)) (K (Ex.exit 0) (qc3)) x0 x1 x2 x3:=by kernel_rfl
theorem qhp (D:DX)(n:Nat) (K:Ex→St→Option (Out ctx 145)):∀ (m:Nat) (x0:qd) (x1:qd) (x2:Int) (x3:Int),LQ qc D n 145 [.r,.r,.l,.r,.l] m (qb3 x0 x1 x2 x3) K=qb7 D n (fun v0_0=>K (Ex.ret) (qc1 v0_0)) (K (Ex.exit 0) (qc3)) m x0 x1 x2 x3
 | 0,x0,x1,x2,x3=>qy ..
 | m+1,x0,x1,x2,x3=>by
  have ih:(fun x0 x1 x2 x3=>LQ qc D n 145 [.r,.r,.l,.r,.l] m (qb3 x0 x1 x2 x3) K)=qb7 D n (fun v0_0=>K (Ex.ret) (qc1 v0_0)) (K (Ex.exit 0) (qc3)) m:=by funext x0 x1 x2 x3;exact qhp D n K m x0 x1 x2 x3
  rw[qqb]
  rw[ih];rfl
theorem qpt (D:DX)(n:Nat) (v0_0:Bool) :
 (CQ qc D n 145 [] [.r,.r,.l,.r,.l] (qi qc 145)) (Ex.ret) (qc1 v0_0)=qhj D n v0_0:=by kernel_rfl
theorem qpn (D:DX)(n:Nat) :
 (CQ qc D n 145 [] [.r,.r,.l,.r,.l] (qi qc 145)) (Ex.exit 0) (qc3)=qhf D n:=by kernel_rfl
theorem qpk (D:DX)(n:Nat) (x0:qd) (x1:qd) (x2:Int) (x3:Int) :
 LQ qc D n 145 [.r,.r,.l,.r,.l] n (qb3 x0 x1 x2 x3) (CQ qc D n 145 [] [.r,.r,.l,.r,.l] (qi qc 145))=qd9 D n x0 x1 x2 x3:=by
 rw[qhp]
 simp only[qpt,qpn]
 rfl
theorem qro (D:DX)(n:Nat) (a0:qd) (a1:qd):rfC qc D n 145 (a0,(a1,()))=qet D n a0 a1:=by
 have h:rfC qc D n 145 (a0,(a1,()))=qen D n (fun x0 x1 x2 x3=>LQ qc D n 145 [.r,.r,.l,.r,.l] n (qb3 x0 x1 x2 x3) (CQ qc D n 145 [] [.r,.r,.l,.r,.l] (qi qc 145))) a0 a1:=by kernel_rfl
 rw[h]
 simp only[qpk]
 rfl

def qtm (D:DX)(n:Nat) (go:ByteArray→Int→Int→Option ((Bool×Unit)×Unit)) (K0:ByteArray→Bool→Option ((Bool×Unit)×Unit)) (K1:ByteArray→Option ((Bool×Unit)×Unit)) (x0:ByteArray) (x1:Int) (x2:Int):Option ((Bool×Unit)×Unit):=br (decide (x2<x1)) (br (decide (0≤x2)&&decide (x2<(↑(ByteArray.size x0):Int))) (br (decide ((↑(UInt8.toNat (Array.getD (ByteArray.data x0) (Int.toNat x2) (UInt8.ofNat 0))):Int)<97)) (K0 x0 false) (br (decide (0≤x2)&&decide (x2<(↑(ByteArray.size x0):Int))) (br (decide ((↑(UInt8.toNat (Array.getD (ByteArray.data x0) (Int.toNat x2) (UInt8.ofNat 0))):Int)>122)) (K0 x0 false) (go x0 x1 (IntKind.wrap IntKind.i64 (x2+1)))) none)) none) (K1 x0)
def qha (D:DX)(n:Nat) (K0:ByteArray→Bool→Option ((Bool×Unit)×Unit)) (K1:ByteArray→Option ((Bool×Unit)×Unit)):Nat→(ByteArray)→(Int)→(Int)→Option ((Bool×Unit)×Unit) | 0=>(fun x0 x1 x2=>none) | m+1=>(fun x0 x1 x2=>qtm D n (qha D n K0 K1 m) K0 K1 x0 x1 x2)
def qzi (D:DX)(n:Nat) (v0_0:ByteArray) (v0_1:Bool):Option ((Bool×Unit)×Unit):=some ((v0_1,()),())
def qp5 (D:DX)(n:Nat) (v1_0:ByteArray):Option ((Bool×Unit)×Unit):=qj (qgo D (↑(ByteArray.size v1_0):Int) 1 12) fun b↦some ((Prod.fst (Prod.fst b),()),())
def qrm (D:DX)(n:Nat):(ByteArray)→(Int)→(Int)→Option ((Bool×Unit)×Unit):=(fun x0 x1 x2=>qha D n (fun v0_0 v0_1=>qzi D n v0_0 v0_1) (fun v1_0=>qp5 D n v1_0) n x0 x1 x2)
def qv7 (D:DX)(n:Nat) (lp0:ByteArray→Int→Int→Option ((Bool×Unit)×Unit)) (a0:ByteArray):Option ((Bool×Unit)×Unit):=lp0 a0 (↑(ByteArray.size a0):Int) 0
def qv0 (D:DX)(n:Nat) (a0:ByteArray):Option ((Bool×Unit)×Unit):=qv7 D n (qrm D n) a0
def qg7 (x0:ByteArray) (x1:Int) (x2:Int):St:=stq 23 [(0,AV.val Ty.str x0),(5,avI x1),(6,avI x2)] [] 
def qk4 (v0_0:ByteArray) (v0_1:Bool):St:=stq 23 [(0,AV.val Ty.str v0_0),(2,AV.val Ty.bool v0_1)] [] 
def qk0 (v1_0:ByteArray):St:=stq 23 [(0,AV.val Ty.str v1_0)] [] 
theorem qbbf (D:DX)(n:Nat) (m:Nat) (K:Ex→St→Option (Out ctx 146)) (x0:ByteArray) (x1:Int) (x2:Int) :
 LQ qc D n 146 [.r,.l,.r,.l] (m+1) (qg7 x0 x1 x2) K=qtm D n (fun x0 x1 x2=>LQ qc D n 146 [.r,.l,.r,.l] m (qg7 x0 x1 x2) K) (fun v0_0 v0_1=>K (Ex.ret) (qk4 v0_0 v0_1)) (fun v1_0=>K (Ex.exit 0) (qk0 v1_0)) x0 x1 x2:=by kernel_rfl
theorem q1y (D:DX)(n:Nat) (K:Ex→St→Option (Out ctx 146)):∀ (m:Nat) (x0:ByteArray) (x1:Int) (x2:Int),LQ qc D n 146 [.r,.l,.r,.l] m (qg7 x0 x1 x2) K=qha D n (fun v0_0 v0_1=>K (Ex.ret) (qk4 v0_0 v0_1)) (fun v1_0=>K (Ex.exit 0) (qk0 v1_0)) m x0 x1 x2
 | 0,x0,x1,x2=>qy ..
 | m+1,x0,x1,x2=>by
  have ih:(fun x0 x1 x2=>LQ qc D n 146 [.r,.l,.r,.l] m (qg7 x0 x1 x2) K)=qha D n (fun v0_0 v0_1=>K (Ex.ret) (qk4 v0_0 v0_1)) (fun v1_0=>K (Ex.exit 0) (qk0 v1_0)) m:=by funext x0 x1 x2;exact q1y D n K m x0 x1 x2
  rw[qbbf]
  rw[ih];rfl
theorem q93 (D:DX)(n:Nat) (v0_0:ByteArray) (v0_1:Bool) :
 (CQ qc D n 146 [] [.r,.l,.r,.l] (qi qc 146)) (Ex.ret) (qk4 v0_0 v0_1)=qzi D n v0_0 v0_1:=by kernel_rfl
theorem qbab (D:DX)(n:Nat) (v1_0:ByteArray) :
 (CQ qc D n 146 [] [.r,.l,.r,.l] (qi qc 146)) (Ex.exit 0) (qk0 v1_0)=qp5 D n v1_0:=by kernel_rfl
theorem qba3 (D:DX)(n:Nat) (x0:ByteArray) (x1:Int) (x2:Int) :
 LQ qc D n 146 [.r,.l,.r,.l] n (qg7 x0 x1 x2) (CQ qc D n 146 [] [.r,.l,.r,.l] (qi qc 146))=qrm D n x0 x1 x2:=by
 rw[q1y]
 simp only[q93,qbab]
 rfl
theorem qbhs (D:DX)(n:Nat) (a0:ByteArray):rfC qc D n 146 (a0,())=qv0 D n a0:=by
 have h:rfC qc D n 146 (a0,())=qv7 D n (fun x0 x1 x2=>LQ qc D n 146 [.r,.l,.r,.l] n (qg7 x0 x1 x2) (CQ qc D n 146 [] [.r,.l,.r,.l] (qi qc 146))) a0:=by kernel_rfl
 rw[h]
 simp only[qba3]
 rfl

def qbcw (D:DX)(n:Nat) (a0:tSch) (a1:ByteArray):Option ((Int×Unit)×Unit):=qj (qex D (Prod.fst a0) (Clo.mk 196 [CapV.rptr Ty.str a1])) fun b↦some ((Prod.fst (Prod.fst b),()),())
def q50 (D:DX)(n:Nat) (a0:tSch) (a1:ByteArray):Option ((Int×Unit)×Unit):=qbcw D n a0 a1
theorem qbp2 (D:DX)(n:Nat) (a0:tSch) (a1:ByteArray):rfC qc D n 147 (a0,(a1,()))=q50 D n a0 a1:=by kernel_rfl

def qv2 (D:DX)(n:Nat) (go:List Int→Int→List Int→Int→Int→tSch→Option ((Bool×Unit)×Unit)) (K0:List Int→Int→Bool→Option ((Bool×Unit)×Unit)) (K1:List Int→Int→Option ((Bool×Unit)×Unit)) (x0:List Int) (x1:Int) (x2:List Int) (x3:Int) (x4:Int) (x5:tSch):Option ((Bool×Unit)×Unit):=br (decide (x4<x3)) (br (decide (0≤x4)&&decide (x4<(↑(List.length x2):Int))) (qj (qgo D (List.getD x2 (Int.toNat x4) 0) 0 (IntKind.wrap IntKind.i64 ((↑(List.length (Prod.fst x5)):Int) - 1))) fun b↦br (!Prod.fst (Prod.fst b)) (K0 x0 x1 false) (br (decide (0≤0)&&decide (0≤x4)&&decide (x4≤(↑(List.length x0):Int))) (qj (qj5 D (List.drop (Int.toNat 0) (List.take (Int.toNat x4) x0)) (List.getD x2 (Int.toNat x4) 0)) fun b↦br (Prod.fst (Prod.fst b)) (K0 x0 x1 false) (go x0 x1 x2 x3 (IntKind.wrap IntKind.i64 (x4+1)) x5)) none)) none) (K1 x0 x1)
def qhy (D:DX)(n:Nat) (K0:List Int→Int→Bool→Option ((Bool×Unit)×Unit)) (K1:List Int→Int→Option ((Bool×Unit)×Unit)):Nat→(List Int)→(Int)→(List Int)→(Int)→(Int)→(tSch)→Option ((Bool×Unit)×Unit) | 0=>(fun x0 x1 x2 x3 x4 x5=>none) | m+1=>(fun x0 x1 x2 x3 x4 x5=>qv2 D n (qhy D n K0 K1 m) K0 K1 x0 x1 x2 x3 x4 x5)
def q18 (D:DX)(n:Nat) (v0_0:List Int) (v0_1:Int) (v0_2:Bool):Option ((Bool×Unit)×Unit):=some ((v0_2,()),())
def qsk (D:DX)(n:Nat) (v1_0:List Int) (v1_1:Int):Option ((Bool×Unit)×Unit):=qj (qgo D (↑(List.length v1_0):Int) 1 v1_1) fun b↦some ((Prod.fst (Prod.fst b),()),())
def qtt (D:DX)(n:Nat):(List Int)→(Int)→(List Int)→(Int)→(Int)→(tSch)→Option ((Bool×Unit)×Unit):=(fun x0 x1 x2 x3 x4 x5=>qhy D n (fun v0_0 v0_1 v0_2=>q18 D n v0_0 v0_1 v0_2) (fun v1_0 v1_1=>qsk D n v1_0 v1_1) n x0 x1 x2 x3 x4 x5)
def qxa (D:DX)(n:Nat) (lp0:List Int→Int→List Int→Int→Int→tSch→Option ((Bool×Unit)×Unit)) (a0:tSch) (a1:List Int) (a2:Int):Option ((Bool×Unit)×Unit):=lp0 a1 a2 a1 (↑(List.length a1):Int) 0 a0
def qxm (D:DX)(n:Nat) (a0:tSch) (a1:List Int) (a2:Int):Option ((Bool×Unit)×Unit):=qxa D n (qtt D n) a0 a1 a2
def qih (x0:List Int) (x1:Int) (x2:List Int) (x3:Int) (x4:Int) (x5:tSch):St:=stq 35 [(1,AV.val (Ty.sl yI) x0),(2,avI x1),(3,AV.addr 3 []),(9,AV.val (Ty.sl yI) x2),(10,avI x3),(11,avI x4)] [(3,Root.mk yS Mk.no x5 true)] 
def qmr (v0_0:List Int) (v0_1:Int) (v0_2:Bool):St:=stq 35 [(1,AV.val (Ty.sl yI) v0_0),(2,avI v0_1),(6,AV.val Ty.bool v0_2)] [] 
def qly (v1_0:List Int) (v1_1:Int):St:=stq 35 [(1,AV.val (Ty.sl yI) v1_0),(2,avI v1_1)] [] 
theorem qbe5 (D:DX)(n:Nat) (m:Nat) (K:Ex→St→Option (Out ctx 148)) (x0:List Int) (x1:Int) (x2:List Int) (x3:Int) (x4:Int) (x5:tSch) :
 LQ qc D n 148 [.r,.l,.r,.l] (m+1) (qih x0 x1 x2 x3 x4 x5) K=qv2 D n (fun x0 x1 x2 x3 x4 x5=>LQ qc D n 148 [.r,.l,.r,.l] m (qih x0 x1 x2 x3 x4 x5) K) (fun v0_0 v0_1 v0_2=>K (Ex.ret) (qmr v0_0 v0_1 v0_2)) (fun v1_0 v1_1=>K (Ex.exit 0) (qly v1_0 v1_1)) x0 x1 x2 x3 x4 x5:=by kernel_rfl
theorem q3s (D:DX)(n:Nat) (K:Ex→St→Option (Out ctx 148)):∀ (m:Nat) (x0:List Int) (x1:Int) (x2:List Int) (x3:Int) (x4:Int) (x5:tSch),LQ qc D n 148 [.r,.l,.r,.l] m (qih x0 x1 x2 x3 x4 x5) K=qhy D n (fun v0_0 v0_1 v0_2=>K (Ex.ret) (qmr v0_0 v0_1 v0_2)) (fun v1_0 v1_1=>K (Ex.exit 0) (qly v1_0 v1_1)) m x0 x1 x2 x3 x4 x5
 | 0,x0,x1,x2,x3,x4,x5=>qy ..
 | m+1,x0,x1,x2,x3,x4,x5=>by
  have ih:(fun x0 x1 x2 x3 x4 x5=>LQ qc D n 148 [.r,.l,.r,.l] m (qih x0 x1 x2 x3 x4 x5) K)=qhy D n (fun v0_0 v0_1 v0_2=>K (Ex.ret) (qmr v0_0 v0_1 v0_2)) (fun v1_0 v1_1=>K (Ex.exit 0) (qly v1_0 v1_1)) m:=by funext x0 x1 x2 x3 x4 x5;exact q3s D n K m x0 x1 x2 x3 x4 x5
  rw[qbe5]
  rw[ih];rfl
theorem qbbk (D:DX)(n:Nat) (v0_0:List Int) (v0_1:Int) (v0_2:Bool) :
 (CQ qc D n 148 [] [.r,.l,.r,.l] (qi qc 148)) (Ex.ret) (qmr v0_0 v0_1 v0_2)=q18 D n v0_0 v0_1 v0_2:=by kernel_rfl
theorem qbcj (D:DX)(n:Nat) (v1_0:List Int) (v1_1:Int) :
 (CQ qc D n 148 [] [.r,.l,.r,.l] (qi qc 148)) (Ex.exit 0) (qly v1_0 v1_1)=qsk D n v1_0 v1_1:=by kernel_rfl
theorem qbcl (D:DX)(n:Nat) (x0:List Int) (x1:Int) (x2:List Int) (x3:Int) (x4:Int) (x5:tSch) :
 LQ qc D n 148 [.r,.l,.r,.l] n (qih x0 x1 x2 x3 x4 x5) (CQ qc D n 148 [] [.r,.l,.r,.l] (qi qc 148))=qtt D n x0 x1 x2 x3 x4 x5:=by
 rw[q3s]
 simp only[qbbk,qbcj]
 rfl
theorem qbkx (D:DX)(n:Nat) (a0:tSch) (a1:List Int) (a2:Int):rfC qc D n 148 (a0,(a1,(a2,())))=qxm D n a0 a1 a2:=by
 have h:rfC qc D n 148 (a0,(a1,(a2,())))=qxa D n (fun x0 x1 x2 x3 x4 x5=>LQ qc D n 148 [.r,.l,.r,.l] n (qih x0 x1 x2 x3 x4 x5) (CQ qc D n 148 [] [.r,.l,.r,.l] (qi qc 148))) a0 a1 a2:=by kernel_rfl
 rw[h]
 simp only[qbcl]
 rfl

def q3e (D:DX)(n:Nat) (a0:ByteArray×List Int×Bool×Unit) (a1:ByteArray×List Int×Bool×Unit):Option ((Bool×Unit)×Unit):=some ((List.beq (ByteArray.toList (Prod.fst a0)) (ByteArray.toList (Prod.fst a1)),()),())
def quc (D:DX)(n:Nat) (a0:ByteArray×List Int×Bool×Unit) (a1:ByteArray×List Int×Bool×Unit):Option ((Bool×Unit)×Unit):=q3e D n a0 a1
theorem qbfg (D:DX)(n:Nat) (a0:ByteArray×List Int×Bool×Unit) (a1:ByteArray×List Int×Bool×Unit):rfC qc D n 149 (a0,(a1,()))=quc D n a0 a1:=by kernel_rfl

def qnl (D:DX)(n:Nat) (a1:Clo) (a0:List Int):Option ((Bool×Unit)×Unit):=qj (qjq D a0 a1) fun b↦some ((decide (Prod.fst (Prod.fst b)≥0),()),())
def qhl (D:DX)(n:Nat) (a0:List Int) (a1:Clo):Option ((Bool×Unit)×Unit):=qnl D n a1 a0
theorem qy6 (D:DX)(n:Nat) (a0:List Int) (a1:Clo):rfC qc D n 150 (a0,(a1,()))=qhl D n a0 a1:=by kernel_rfl

def q3g (D:DX)(n:Nat) (a0:Int) (a1:tSch):Option ((Bool×Unit)×Unit):=br (decide (0≤a0)&&decide (a0<(↑(List.length (Prod.fst a1)):Int))) (some ((Prod.fst (Prod.snd (Prod.snd (List.getD (Prod.fst a1) (Int.toNat a0) (ByteArray.empty,0,false,())))),()),())) none
def qtj (D:DX)(n:Nat) (a0:Int) (a1:tSch):Option ((Bool×Unit)×Unit):=q3g D n a0 a1
theorem qbfe (D:DX)(n:Nat) (a0:Int) (a1:tSch):rfC qc D n 151 (a0,(a1,()))=qtj D n a0 a1:=by kernel_rfl

def qr7 (D:DX)(n:Nat) (go:qf→Int→Int→qf→Option ((qf×Unit)×Unit)) (K0:qf→Option ((qf×Unit)×Unit)) (x0:qf) (x1:Int) (x2:Int) (x3:qf):Option ((qf×Unit)×Unit):=br (decide (x2<x1)) (br (decide (0≤x2)&&decide (x2<(↑(List.length x0):Int))) (qj (qem D (List.getD x0 (Int.toNat x2) [])) fun b↦br (decide (List.length x3+1≤qbm)) (go x0 x1 (IntKind.wrap IntKind.i64 (x2+1)) (x3++[Prod.fst (Prod.fst b)])) none) none) (K0 x3)
def qf7 (D:DX)(n:Nat) (K0:qf→Option ((qf×Unit)×Unit)):Nat→(qf)→(Int)→(Int)→(qf)→Option ((qf×Unit)×Unit) | 0=>(fun x0 x1 x2 x3=>none) | m+1=>(fun x0 x1 x2 x3=>qr7 D n (qf7 D n K0 m) K0 x0 x1 x2 x3)
def qyp (D:DX)(n:Nat) (v0_0:qf):Option ((qf×Unit)×Unit):=some ((v0_0,()),())
def qqj (D:DX)(n:Nat):(qf)→(Int)→(Int)→(qf)→Option ((qf×Unit)×Unit):=(fun x0 x1 x2 x3=>qf7 D n (fun v0_0=>qyp D n v0_0) n x0 x1 x2 x3)
def qtf (D:DX)(n:Nat) (lp0:qf→Int→Int→qf→Option ((qf×Unit)×Unit)) (a0:qf):Option ((qf×Unit)×Unit):=lp0 a0 (↑(List.length a0):Int) 0 []
def qtn (D:DX)(n:Nat) (a0:qf):Option ((qf×Unit)×Unit):=qtf D n (qqj D n) a0
def qgd (x0:qf) (x1:Int) (x2:Int) (x3:qf):St:=stq 20 [(3,AV.brw 3 [] 0),(7,AV.val (Ty.sl (Ty.sl yV)) x0),(8,avI x1),(9,avI x2)] [(3,Root.mk (Ty.sl (Ty.sl yV)) (Mk.own 0 (Mk.own 0 (Mk.pr Mk.no (Mk.pr Mk.no (Mk.pr Mk.no Mk.no))))) x3 false)] 
def qj3 (v0_0:qf):St:=stq 20 [(3,AV.brw 3 [] 0)] [(3,Root.mk (Ty.sl (Ty.sl yV)) (Mk.own 0 (Mk.own 0 (Mk.pr Mk.no (Mk.pr Mk.no (Mk.pr Mk.no Mk.no))))) v0_0 false)] 
theorem qba2 (D:DX)(n:Nat) (m:Nat) (K:Ex→St→Option (Out ctx 152)) (x0:qf) (x1:Int) (x2:Int) (x3:qf) :
 LQ qc D n 152 [.r,.r,.l,.r,.l] (m+1) (qgd x0 x1 x2 x3) K=qr7 D n (fun x0 x1 x2 x3=>LQ qc D n 152 [.r,.r,.l,.r,.l] m (qgd x0 x1 x2 x3) K) (fun v0_0=>K (Ex.exit 0) (qj3 v0_0)) x0 x1 x2 x3:=by kernel_rfl
theorem qy8 (D:DX)(n:Nat) (K:Ex→St→Option (Out ctx 152)):∀ (m:Nat) (x0:qf) (x1:Int) (x2:Int) (x3:qf),LQ qc D n 152 [.r,.r,.l,.r,.l] m (qgd x0 x1 x2 x3) K=qf7 D n (fun v0_0=>K (Ex.exit 0) (qj3 v0_0)) m x0 x1 x2 x3
 | 0,x0,x1,x2,x3=>qy ..
 | m+1,x0,x1,x2,x3=>by
  have ih:(fun x0 x1 x2 x3=>LQ qc D n 152 [.r,.r,.l,.r,.l] m (qgd x0 x1 x2 x3) K)=qf7 D n (fun v0_0=>K (Ex.exit 0) (qj3 v0_0)) m:=by funext x0 x1 x2 x3;exact qy8 D n K m x0 x1 x2 x3
  rw[qba2]
  rw[ih];rfl
theorem q8w (D:DX)(n:Nat) (v0_0:qf) :
 (CQ qc D n 152 [] [.r,.r,.l,.r,.l] (qi qc 152)) (Ex.exit 0) (qj3 v0_0)=qyp D n v0_0:=by kernel_rfl
theorem q9w (D:DX)(n:Nat) (x0:qf) (x1:Int) (x2:Int) (x3:qf) :
 LQ qc D n 152 [.r,.r,.l,.r,.l] n (qgd x0 x1 x2 x3) (CQ qc D n 152 [] [.r,.r,.l,.r,.l] (qi qc 152))=qqj D n x0 x1 x2 x3:=by
 rw[qy8]
 simp only[q8w]
 rfl
theorem qber (D:DX)(n:Nat) (a0:qf):rfC qc D n 152 (a0,())=qtn D n a0:=by
 have h:rfC qc D n 152 (a0,())=qtf D n (fun x0 x1 x2 x3=>LQ qc D n 152 [.r,.r,.l,.r,.l] n (qgd x0 x1 x2 x3) (CQ qc D n 152 [] [.r,.r,.l,.r,.l] (qi qc 152))) a0:=by kernel_rfl
 rw[h]
 simp only[q9w]
 rfl

def q8n (D:DX)(n:Nat) (a0:qd) (a1:(tSch)×qf×Unit) (a2:qd):Option ((Bool×Unit)×Unit):=qj (qmb D (Prod.fst a1) a0) fun b↦qj (qdb D (Prod.fst (Prod.fst b)) a2) fun b↦some ((Prod.fst (Prod.fst b),()),())
def q1g (D:DX)(n:Nat) (a0:qd) (a1:(tSch)×qf×Unit) (a2:qd):Option ((Bool×Unit)×Unit):=q8n D n a0 a1 a2
theorem qbl0 (D:DX)(n:Nat) (a0:qd) (a1:(tSch)×
 qf×Unit) (a2:qd):rfC qc D n 153 (a0,(a1,(a2,())))=q1g D n a0 a1 a2:=by kernel_rfl

def q79 (D:DX)(n:Nat) (a0:Int×Int×ByteArray×Unit):Option ((Bool×Unit)×Unit):=br (decide (Prod.fst a0=0)) (some ((bif decide (Prod.fst (Prod.snd a0)=0) then List.beq (ByteArray.toList (Prod.fst (Prod.snd (Prod.snd a0)))) (ByteArray.toList (ByteArray.mk #[])) else false,()),())) (br (decide (Prod.fst a0=1)) (qj (qgn D (Prod.fst (Prod.snd a0)) 0 1) fun b↦some ((bif Prod.fst (Prod.fst b) then List.beq (ByteArray.toList (Prod.fst (Prod.snd (Prod.snd a0)))) (ByteArray.toList (ByteArray.mk #[])) else false,()),())) (br (decide (Prod.fst a0=2)) (qj (qgn D (Prod.fst (Prod.snd a0)) (-1000000000000) 1000000000000) fun b↦some ((bif Prod.fst (Prod.fst b) then List.beq (ByteArray.toList (Prod.fst (Prod.snd (Prod.snd a0)))) (ByteArray.toList (ByteArray.mk #[])) else false,()),())) (br (decide (Prod.fst a0=3)) (some ((bif decide (Prod.fst (Prod.snd a0)=0) then decide ((↑(ByteArray.size (Prod.fst (Prod.snd (Prod.snd a0)))):Int)≤20) else false,()),())) (some ((false,()),())))))
def q09 (D:DX)(n:Nat) (a0:Int×Int×ByteArray×Unit):Option ((Bool×Unit)×Unit):=q79 D n a0
theorem qbmp (D:DX)(n:Nat) (a0:Int×Int×ByteArray×Unit):rfC qc D n 158 (a0,())=q09 D n a0:=by kernel_rfl

def qyu (D:DX)(n:Nat) (go:qd→qd→Int→Option ((Bool×Unit)×Unit)) (K0:qd→qd→Bool→Option ((Bool×Unit)×Unit)) (K1:qd→qd→Option ((Bool×Unit)×Unit)) (x0:qd) (x1:qd) (x2:Int):Option ((Bool×Unit)×Unit):=br (bif decide (x2<(↑(List.length x0):Int)) then decide (x2<(↑(List.length x1):Int)) else false) (br (decide (0≤x2)&&decide (x2<(↑(List.length x0):Int))) (br (decide (0≤x2)&&decide (x2<(↑(List.length x1):Int))) (qj (qoo D (List.getD x0 (Int.toNat x2) (0,0,ByteArray.empty,())) (List.getD x1 (Int.toNat x2) (0,0,ByteArray.empty,()))) fun b↦br (!Prod.fst (Prod.fst b)) (K0 x0 x1 false) (go x0 x1 (IntKind.wrap IntKind.i64 (x2+1)))) none) none) (K1 x0 x1)
def qi6 (D:DX)(n:Nat) (K0:qd→qd→Bool→Option ((Bool×Unit)×Unit)) (K1:qd→qd→Option ((Bool×Unit)×Unit)):Nat→(qd)→(qd)→(Int)→Option ((Bool×Unit)×Unit) | 0=>(fun x0 x1 x2=>none) | m+1=>(fun x0 x1 x2=>qyu D n (qi6 D n K0 K1 m) K0 K1 x0 x1 x2)
def qt4 (D:DX)(n:Nat) (v0_0:qd) (v0_1:qd) (v0_2:Bool):Option ((Bool×Unit)×Unit):=some ((v0_2,()),())
def qjt (D:DX)(n:Nat) (v1_0:qd) (v1_1:qd):Option ((Bool×Unit)×Unit):=some ((decide ((↑(List.length v1_0):Int)=(↑(List.length v1_1):Int)),()),())
def qv3 (D:DX)(n:Nat):(qd)→(qd)→(Int)→Option ((Bool×Unit)×Unit):=(fun x0 x1 x2=>qi6 D n (fun v0_0 v0_1 v0_2=>qt4 D n v0_0 v0_1 v0_2) (fun v1_0 v1_1=>qjt D n v1_0 v1_1) n x0 x1 x2)
def q00 (D:DX)(n:Nat) (lp0:qd→qd→Int→Option ((Bool×Unit)×Unit)) (a0:qd) (a1:qd):Option ((Bool×Unit)×Unit):=lp0 a0 a1 0
def qzq (D:DX)(n:Nat) (a0:qd) (a1:qd):Option ((Bool×Unit)×Unit):=q00 D n (qv3 D n) a0 a1
def qjl (x0:qd) (x1:qd) (x2:Int):St:=stq 33 [(0,AV.val (Ty.sl yV) x0),(1,AV.val (Ty.sl yV) x1),(5,avI x2)] [] 
def qny (v0_0:qd) (v0_1:qd) (v0_2:Bool):St:=stq 33 [(0,AV.val (Ty.sl yV) v0_0),(1,AV.val (Ty.sl yV) v0_1),(4,AV.val Ty.bool v0_2)] [] 
def qn3 (v1_0:qd) (v1_1:qd):St:=stq 33 [(0,AV.val (Ty.sl yV) v1_0),(1,AV.val (Ty.sl yV) v1_1)] [] 
theorem qbgl (D:DX)(n:Nat) (m:Nat) (K:Ex→St→Option (Out ctx 159)) (x0:qd) (x1:qd) (x2:Int) :
 LQ qc D n 159 [.r,.l,.r,.l] (m+1) (qjl x0 x1 x2) K=qyu D n (fun x0 x1 x2=>LQ qc D n 159 [.r,.l,.r,.l] m (qjl x0 x1 x2) K) (fun v0_0 v0_1 v0_2=>K (Ex.ret) (qny v0_0 v0_1 v0_2)) (fun v1_0 v1_1=>K (Ex.exit 0) (qn3 v1_0 v1_1)) x0 x1 x2:=by kernel_rfl
theorem q5e (D:DX)(n:Nat) (K:Ex→St→Option (Out ctx 159)):∀ (m:Nat) (x0:qd) (x1:qd) (x2:Int),LQ qc D n 159 [.r,.l,.r,.l] m (qjl x0 x1 x2) K=qi6 D n (fun v0_0 v0_1 v0_2=>K (Ex.ret) (qny v0_0 v0_1 v0_2)) (fun v1_0 v1_1=>K (Ex.exit 0) (qn3 v1_0 v1_1)) m x0 x1 x2
 | 0,x0,x1,x2=>qy ..
 | m+1,x0,x1,x2=>by
  have ih:(fun x0 x1 x2=>LQ qc D n 159 [.r,.l,.r,.l] m (qjl x0 x1 x2) K)=qi6 D n (fun v0_0 v0_1 v0_2=>K (Ex.ret) (qny v0_0 v0_1 v0_2)) (fun v1_0 v1_1=>K (Ex.exit 0) (qn3 v1_0 v1_1)) m:=by funext x0 x1 x2;exact q5e D n K m x0 x1 x2
  rw[qbgl]
  rw[ih];rfl
theorem qbd5 (D:DX)(n:Nat) (v0_0:qd) (v0_1:qd) (v0_2:Bool) :
 (CQ qc D n 159 [] [.r,.l,.r,.l] (qi qc 159)) (Ex.ret) (qny v0_0 v0_1 v0_2)=qt4 D n v0_0 v0_1 v0_2:=by kernel_rfl
theorem qbfj (D:DX)(n:Nat) (v1_0:qd) (v1_1:qd) :
 (CQ qc D n 159 [] [.r,.l,.r,.l] (qi qc 159)) (Ex.exit 0) (qn3 v1_0 v1_1)=qjt D n v1_0 v1_1:=by kernel_rfl
theorem qbes (D:DX)(n:Nat) (x0:qd) (x1:qd) (x2:Int) :
 LQ qc D n 159 [.r,.l,.r,.l] n (qjl x0 x1 x2) (CQ qc D n 159 [] [.r,.l,.r,.l] (qi qc 159))=qv3 D n x0 x1 x2:=by
 rw[q5e]
 simp only[qbd5,qbfj]
 rfl
theorem qblq (D:DX)(n:Nat) (a0:qd) (a1:qd):rfC qc D n 159 (a0,(a1,()))=qzq D n a0 a1:=by
 have h:rfC qc D n 159 (a0,(a1,()))=q00 D n (fun x0 x1 x2=>LQ qc D n 159 [.r,.l,.r,.l] n (qjl x0 x1 x2) (CQ qc D n 159 [] [.r,.l,.r,.l] (qi qc 159))) a0 a1:=by kernel_rfl
 rw[h]
 simp only[qbes]
 rfl

def q5d (D:DX)(n:Nat) (a0:Int×Int×ByteArray×Unit) (a1:Int×Int×ByteArray×Unit):Option ((Bool×Unit)×Unit):=some ((qra (Ty.pair (Ty.int IntKind.i64) (Ty.pair (Ty.int IntKind.i64) (Ty.pair Ty.str Ty.unit))) a0 a1,()),())
def qv5 (D:DX)(n:Nat) (a0:Int×Int×ByteArray×Unit) (a1:Int×Int×ByteArray×Unit):Option ((Bool×Unit)×Unit):=q5d D n a0 a1
theorem qbg3 (D:DX)(n:Nat) (a0:Int×Int×ByteArray×Unit) (a1:Int×Int×ByteArray×Unit):rfC qc D n 160 (a0,(a1,()))=qv5 D n a0 a1:=by kernel_rfl

def q54 (D:DX)(n:Nat) (a0:Int×Int×ByteArray×Unit) (a1:Int×Int×ByteArray×Unit):Option ((Bool×Unit)×Unit):=br (Prod.fst a0 != Prod.fst a1) (some ((decide (Prod.fst a0<Prod.fst a1),()),())) (br (Prod.fst (Prod.snd a0) != Prod.fst (Prod.snd a1)) (some ((decide (Prod.fst (Prod.snd a0)<Prod.fst (Prod.snd a1)),()),())) (some ((Op.bytesLess (ByteArray.toList (Prod.fst (Prod.snd (Prod.snd a0)))) (ByteArray.toList (Prod.fst (Prod.snd (Prod.snd a1)))),()),())))
def qvs (D:DX)(n:Nat) (a0:Int×Int×ByteArray×Unit) (a1:Int×Int×ByteArray×Unit):Option ((Bool×Unit)×Unit):=q54 D n a0 a1
theorem qbga (D:DX)(n:Nat) (a0:Int×Int×ByteArray×Unit) (a1:Int×Int×ByteArray×Unit):rfC qc D n 161 (a0,(a1,()))=qvs D n a0 a1:=by kernel_rfl

def qkq (D:DX)(n:Nat) (a0:qk):Option ((qk×Unit)×Unit):=br (decide (Int.toNat (↑(List.length a0):Int)=0)) (both (some (([],()),())) (br (decide (0+List.length a0≤qbm)) (some (([]++a0,()),())) none)) (br (decide (0+List.length a0≤qbm)) (some (([]++a0,()),())) none)
def qfr (D:DX)(n:Nat) (a0:qk):Option ((qk×Unit)×Unit):=qkq D n a0
theorem qv9 (D:DX)(n:Nat) (a0:qk):rfC qc D n 164 (a0,())=qfr D n a0:=by kernel_rfl

def qya (D:DX)(n:Nat) (go:qd→Int→Option ((Bool×Unit)×Unit)) (K0:Bool→Option ((Bool×Unit)×Unit)) (K1:Option ((Bool×Unit)×Unit)) (x0:qd) (x1:Int):Option ((Bool×Unit)×Unit):=br (decide (x1<(↑(List.length x0):Int))) (br (decide (0≤x1)&&decide (x1<(↑(List.length x0):Int))) (br (decide (Prod.fst (List.getD x0 (Int.toNat x1) (0,0,ByteArray.empty,()))=0)) (K0 true) (go x0 (IntKind.wrap IntKind.i64 (x1+1)))) none) K1
def qji (D:DX)(n:Nat) (K0:Bool→Option ((Bool×Unit)×Unit)) (K1:Option ((Bool×Unit)×Unit)):Nat→(qd)→(Int)→Option ((Bool×Unit)×Unit) | 0=>(fun x0 x1=>none) | m+1=>(fun x0 x1=>qya D n (qji D n K0 K1 m) K0 K1 x0 x1)
def q3x (D:DX)(n:Nat) (v0_0:Bool):Option ((Bool×Unit)×Unit):=some ((v0_0,()),())
def q3l (D:DX)(n:Nat):Option ((Bool×Unit)×Unit):=some ((false,()),())
def qv4 (D:DX)(n:Nat):(qd)→(Int)→Option ((Bool×Unit)×Unit):=(fun x0 x1=>qji D n (fun v0_0=>q3x D n v0_0) (q3l D n) n x0 x1)
def qzm (D:DX)(n:Nat) (lp0:qd→Int→Option ((Bool×Unit)×Unit)) (a0:qd):Option ((Bool×Unit)×Unit):=lp0 a0 0
def q0u (D:DX)(n:Nat) (a0:qd):Option ((Bool×Unit)×Unit):=qzm D n (qv4 D n) a0
def qjj (x0:qd) (x1:Int):St:=stq 16 [(0,AV.val (Ty.sl yV) x0),(3,avI x1)] [] 
def qn5 (v0_0:Bool):St:=stq 16 [(2,AV.val Ty.bool v0_0)] [] 
def qnw:St:=stq 16 [] [] 
theorem qbhf (D:DX)(n:Nat) (m:Nat) (K:Ex→St→Option (Out ctx 165)) (x0:qd) (x1:Int) :
 LQ qc D n 165 [.r,.l,.r,.l] (m+1) (qjj x0 x1) K=qya D n (fun x0 x1=>LQ qc D n 165 [.r,.l,.r,.l] m (qjj x0 x1) K) (fun v0_0=>K (Ex.ret) (qn5 v0_0)) (K (Ex.exit 0) (qnw)) x0 x1:=by kernel_rfl
theorem q55 (D:DX)(n:Nat) (K:Ex→St→Option (Out ctx 165)):∀ (m:Nat) (x0:qd) (x1:Int),LQ qc D n 165 [.r,.l,.r,.l] m (qjj x0 x1) K=qji D n (fun v0_0=>K (Ex.ret) (qn5 v0_0)) (K (Ex.exit 0) (qnw)) m x0 x1
 | 0,x0,x1=>qy ..
 | m+1,x0,x1=>by
  have ih:(fun x0 x1=>LQ qc D n 165 [.r,.l,.r,.l] m (qjj x0 x1) K)=qji D n (fun v0_0=>K (Ex.ret) (qn5 v0_0)) (K (Ex.exit 0) (qnw)) m:=by funext x0 x1;exact q55 D n K m x0 x1
  rw[qbhf]
  rw[ih];rfl
theorem qbe8 (D:DX)(n:Nat) (v0_0:Bool) :
 (CQ qc D n 165 [] [.r,.l,.r,.l] (qi qc 165)) (Ex.ret) (qn5 v0_0)=q3x D n v0_0:=by kernel_rfl
theorem qbd1 (D:DX)(n:Nat) :
 (CQ qc D n 165 [] [.r,.l,.r,.l] (qi qc 165)) (Ex.exit 0) (qnw)=q3l D n:=by kernel_rfl
theorem qbd3 (D:DX)(n:Nat) (x0:qd) (x1:Int) :
 LQ qc D n 165 [.r,.l,.r,.l] n (qjj x0 x1) (CQ qc D n 165 [] [.r,.l,.r,.l] (qi qc 165))=qv4 D n x0 x1:=by
 rw[q55]
 simp only[qbe8,qbd1]
 rfl
theorem qbll (D:DX)(n:Nat) (a0:qd):rfC qc D n 165 (a0,())=q0u D n a0:=by
 have h:rfC qc D n 165 (a0,())=qzm D n (fun x0 x1=>LQ qc D n 165 [.r,.l,.r,.l] n (qjj x0 x1) (CQ qc D n 165 [] [.r,.l,.r,.l] (qi qc 165))) a0:=by kernel_rfl
 rw[h]
 simp only[qbd3]
 rfl

def qtr (D:DX)(n:Nat) (go:ByteArray→Int→Option ((Bool×Unit)×Unit)) (K0:ByteArray→Bool→Option ((Bool×Unit)×Unit)) (K1:ByteArray→Option ((Bool×Unit)×Unit)) (x0:ByteArray) (x1:Int):Option ((Bool×Unit)×Unit):=br (decide (x1<(↑(ByteArray.size x0):Int))) (br (decide (0≤x1)&&decide (x1<(↑(ByteArray.size x0):Int))) (br (decide ((↑(UInt8.toNat (Array.getD (ByteArray.data x0) (Int.toNat x1) (UInt8.ofNat 0))):Int)<97)) (K0 x0 false) (br (decide (0≤x1)&&decide (x1<(↑(ByteArray.size x0):Int))) (br (decide ((↑(UInt8.toNat (Array.getD (ByteArray.data x0) (Int.toNat x1) (UInt8.ofNat 0))):Int)>122)) (K0 x0 false) (go x0 (IntKind.wrap IntKind.i64 (x1+1)))) none)) none) (K1 x0)
def qg3 (D:DX)(n:Nat) (K0:ByteArray→Bool→Option ((Bool×Unit)×Unit)) (K1:ByteArray→Option ((Bool×Unit)×Unit)):Nat→(ByteArray)→(Int)→Option ((Bool×Unit)×Unit) | 0=>(fun x0 x1=>none) | m+1=>(fun x0 x1=>qtr D n (qg3 D n K0 K1 m) K0 K1 x0 x1)
def qzd (D:DX)(n:Nat) (v0_0:ByteArray) (v0_1:Bool):Option ((Bool×Unit)×Unit):=some ((v0_1,()),())
def qqn (D:DX)(n:Nat) (v1_0:ByteArray):Option ((Bool×Unit)×Unit):=qj (qgn D (↑(ByteArray.size v1_0):Int) 1 12) fun b↦some ((Prod.fst (Prod.fst b),()),())
def qrl (D:DX)(n:Nat):(ByteArray)→(Int)→Option ((Bool×Unit)×Unit):=(fun x0 x1=>qg3 D n (fun v0_0 v0_1=>qzd D n v0_0 v0_1) (fun v1_0=>qqn D n v1_0) n x0 x1)
def qvr (D:DX)(n:Nat) (lp0:ByteArray→Int→Option ((Bool×Unit)×Unit)) (a0:ByteArray):Option ((Bool×Unit)×Unit):=lp0 a0 0
def qv6 (D:DX)(n:Nat) (a0:ByteArray):Option ((Bool×Unit)×Unit):=qvr D n (qrl D n) a0
def qg9 (x0:ByteArray) (x1:Int):St:=stq 23 [(0,AV.val Ty.str x0),(3,avI x1)] [] 
def qlc (v0_0:ByteArray) (v0_1:Bool):St:=stq 23 [(0,AV.val Ty.str v0_0),(2,AV.val Ty.bool v0_1)] [] 
def qku (v1_0:ByteArray):St:=stq 23 [(0,AV.val Ty.str v1_0)] [] 
theorem qbdb (D:DX)(n:Nat) (m:Nat) (K:Ex→St→Option (Out ctx 166)) (x0:ByteArray) (x1:Int) :
 LQ qc D n 166 [.r,.l,.r,.l] (m+1) (qg9 x0 x1) K=qtr D n (fun x0 x1=>LQ qc D n 166 [.r,.l,.r,.l] m (qg9 x0 x1) K) (fun v0_0 v0_1=>K (Ex.ret) (qlc v0_0 v0_1)) (fun v1_0=>K (Ex.exit 0) (qku v1_0)) x0 x1:=by kernel_rfl
theorem q1w (D:DX)(n:Nat) (K:Ex→St→Option (Out ctx 166)):∀ (m:Nat) (x0:ByteArray) (x1:Int),LQ qc D n 166 [.r,.l,.r,.l] m (qg9 x0 x1) K=qg3 D n (fun v0_0 v0_1=>K (Ex.ret) (qlc v0_0 v0_1)) (fun v1_0=>K (Ex.exit 0) (qku v1_0)) m x0 x1
 | 0,x0,x1=>qy ..
 | m+1,x0,x1=>by
  have ih:(fun x0 x1=>LQ qc D n 166 [.r,.l,.r,.l] m (qg9 x0 x1) K)=qg3 D n (fun v0_0 v0_1=>K (Ex.ret) (qlc v0_0 v0_1)) (fun v1_0=>K (Ex.exit 0) (qku v1_0)) m:=by funext x0 x1;exact q1w D n K m x0 x1
  rw[qbdb]
  rw[ih];rfl
theorem qbaj (D:DX)(n:Nat) (v0_0:ByteArray) (v0_1:Bool) :
 (CQ qc D n 166 [] [.r,.l,.r,.l] (qi qc 166)) (Ex.ret) (qlc v0_0 v0_1)=qzd D n v0_0 v0_1:=by kernel_rfl
theorem qbat (D:DX)(n:Nat) (v1_0:ByteArray) :
 (CQ qc D n 166 [] [.r,.l,.r,.l] (qi qc 166)) (Ex.exit 0) (qku v1_0)=qqn D n v1_0:=by kernel_rfl
theorem qbam (D:DX)(n:Nat) (x0:ByteArray) (x1:Int) :
 LQ qc D n 166 [.r,.l,.r,.l] n (qg9 x0 x1) (CQ qc D n 166 [] [.r,.l,.r,.l] (qi qc 166))=qrl D n x0 x1:=by
 rw[q1w]
 simp only[qbaj,qbat]
 rfl
theorem qbhb (D:DX)(n:Nat) (a0:ByteArray):rfC qc D n 166 (a0,())=qv6 D n a0:=by
 have h:rfC qc D n 166 (a0,())=qvr D n (fun x0 x1=>LQ qc D n 166 [.r,.l,.r,.l] n (qg9 x0 x1) (CQ qc D n 166 [] [.r,.l,.r,.l] (qi qc 166))) a0:=by kernel_rfl
 rw[h]
 simp only[qbam]
 rfl

def q21 (D:DX)(n:Nat) (go:ByteArray→Int→tSch→Option ((Int×Unit)×Unit)) (K0:Int→Option ((Int×Unit)×Unit)) (K1:Option ((Int×Unit)×Unit)) (x0:ByteArray) (x1:Int) (x2:tSch):Option ((Int×Unit)×Unit):=br (decide (x1<(↑(List.length (Prod.fst x2)):Int))) (br (decide (0≤x1)&&decide (x1<(↑(List.length (Prod.fst x2)):Int))) (br (List.beq (ByteArray.toList (Prod.fst (List.getD (Prod.fst x2) (Int.toNat x1) (ByteArray.empty,0,false,())))) (ByteArray.toList x0)) (K0 x1) (go x0 (IntKind.wrap IntKind.i64 (x1+1)) x2)) none) K1
def qlm (D:DX)(n:Nat) (K0:Int→Option ((Int×Unit)×Unit)) (K1:Option ((Int×Unit)×Unit)):Nat→(ByteArray)→(Int)→(tSch)→Option ((Int×Unit)×Unit) | 0=>(fun x0 x1 x2=>none) | m+1=>(fun x0 x1 x2=>q21 D n (qlm D n K0 K1 m) K0 K1 x0 x1 x2)
def q6e (D:DX)(n:Nat) (v0_0:Int):Option ((Int×Unit)×Unit):=some ((v0_0,()),())
def q6q (D:DX)(n:Nat):Option ((Int×Unit)×Unit):=some ((-1,()),())
def qz1 (D:DX)(n:Nat):(ByteArray)→(Int)→(tSch)→Option ((Int×Unit)×Unit):=(fun x0 x1 x2=>qlm D n (fun v0_0=>q6e D n v0_0) (q6q D n) n x0 x1 x2)
def q5m (D:DX)(n:Nat) (lp0:ByteArray→Int→tSch→Option ((Int×Unit)×Unit)) (a0:tSch) (a1:ByteArray):Option ((Int×Unit)×Unit):=lp0 a1 0 a0
def q4v (D:DX)(n:Nat) (a0:tSch) (a1:ByteArray):Option ((Int×Unit)×Unit):=q5m D n (qz1 D n) a0 a1
def qlk (x0:ByteArray) (x1:Int) (x2:tSch):St:=stq 22 [(1,AV.val Ty.str x0),(2,AV.addr 2 []),(5,avI x1)] [(2,Root.mk yS Mk.no x2 true)] 
def qq5 (v0_0:Int):St:=stq 22 [(4,avI v0_0)] [] 
def qrd:St:=stq 22 [] [] 
theorem qble (D:DX)(n:Nat) (m:Nat) (K:Ex→St→Option (Out ctx 167)) (x0:ByteArray) (x1:Int) (x2:tSch) :
 LQ qc D n 167 [.r,.l,.r,.l] (m+1) (qlk x0 x1 x2) K=q21 D n (fun x0 x1 x2=>LQ qc D n 167 [.r,.l,.r,.l] m (qlk x0 x1 x2) K) (fun v0_0=>K (Ex.ret) (qq5 v0_0)) (K (Ex.exit 0) (qrd)) x0 x1 x2:=by kernel_rfl
theorem q8j (D:DX)(n:Nat) (K:Ex→St→Option (Out ctx 167)):∀ (m:Nat) (x0:ByteArray) (x1:Int) (x2:tSch),LQ qc D n 167 [.r,.l,.r,.l] m (qlk x0 x1 x2) K=qlm D n (fun v0_0=>K (Ex.ret) (qq5 v0_0)) (K (Ex.exit 0) (qrd)) m x0 x1 x2
 | 0,x0,x1,x2=>qy ..
 | m+1,x0,x1,x2=>by
  have ih:(fun x0 x1 x2=>LQ qc D n 167 [.r,.l,.r,.l] m (qlk x0 x1 x2) K)=qlm D n (fun v0_0=>K (Ex.ret) (qq5 v0_0)) (K (Ex.exit 0) (qrd)) m:=by funext x0 x1 x2;exact q8j D n K m x0 x1 x2
  rw[qble]
  rw[ih];rfl
theorem qbj1 (D:DX)(n:Nat) (v0_0:Int) :
 (CQ qc D n 167 [] [.r,.l,.r,.l] (qi qc 167)) (Ex.ret) (qq5 v0_0)=q6e D n v0_0:=by kernel_rfl
theorem qbit (D:DX)(n:Nat) :
 (CQ qc D n 167 [] [.r,.l,.r,.l] (qi qc 167)) (Ex.exit 0) (qrd)=q6q D n:=by kernel_rfl
theorem qbkk (D:DX)(n:Nat) (x0:ByteArray) (x1:Int) (x2:tSch) :
 LQ qc D n 167 [.r,.l,.r,.l] n (qlk x0 x1 x2) (CQ qc D n 167 [] [.r,.l,.r,.l] (qi qc 167))=qz1 D n x0 x1 x2:=by
 rw[q8j]
 simp only[qbj1,qbit]
 rfl
theorem qbp3 (D:DX)(n:Nat) (a0:tSch) (a1:ByteArray):rfC qc D n 167 (a0,(a1,()))=q4v D n a0 a1:=by
 have h:rfC qc D n 167 (a0,(a1,()))=q5m D n (fun x0 x1 x2=>LQ qc D n 167 [.r,.l,.r,.l] n (qlk x0 x1 x2) (CQ qc D n 167 [] [.r,.l,.r,.l] (qi qc 167))) a0 a1:=by kernel_rfl
 rw[h]
 simp only[qbkk]
 rfl
end
end Go.G


import Derived.Test.YtcdcbckcploljaaGreatAV3
set_option linter.unusedVariables false
set_option linter.unusedSimpArgs false
set_option linter.unusedSectionVars false
namespace Go.G
open Go Go.V
abbrev DX:=Den ctx
abbrev tCur:=List Int×Int×Int×Unit
abbrev avI:=AV.val (Ty.int IntKind.i64)
abbrev yI:=Ty.int IntKind.i64
end Go.G
namespace Go.G
open Go Go.V
noncomputable def qu6 (D:Den ctx) (a0:List Int):Option ((Bool×Unit)×Unit):=D 4 (a0,())
noncomputable def qwr (D:Den ctx) (a0:List Int):Option ((Bool×Unit)×Unit):=D 7 (a0,())
noncomputable def qrh (D:Den ctx) (a0:Int×Int×Int×Unit) (a1:List (Int×Int×Unit)):Option (((Bool×(Int×List Int×Unit)×List (Int×Int×Int×Unit)×Unit)×Bool×Unit)×Unit):=D 9 (a0,(a1,()))
noncomputable def qr7 (D:Den ctx) (a0:Int×Int×Int×Unit) (a1:List (Int×Int×Unit)):Option (((Bool×(Int×List Int×Unit)×List (Int×Int×Int×Unit)×Unit)×Bool×Unit)×Unit):=D 10 (a0,(a1,()))
noncomputable def qqy (D:Den ctx) (a0:Int×Int×Int×Unit) (a1:List (Int×Int×Unit)):Option ((Int×Unit)×Unit):=D 11 (a0,(a1,()))
noncomputable def qn1 (D:Den ctx) (a0:List Int):Option (((Int×Int×Int×Unit)×List (Int×Int×Unit)×Unit)×Unit):=D 12 (a0,())
noncomputable def qmf (D:Den ctx) (a0:List Int):Option (((Int×Int×Int×Unit)×List (Int×Int×Unit)×Unit)×Unit):=D 13 (a0,())
noncomputable def qot (D:Den ctx) (a0:List Int):Option ((List (Int×Int×Unit)×Int×Unit)×Unit):=D 14 (a0,())
noncomputable def qdc (D:Den ctx) (a0:List (Int×Int×Unit)) (a1:Int):Option ((Int×Bool×Unit)×Unit):=D 15 (a0,(a1,()))
noncomputable def qc2 (D:Den ctx) (a0:List (Int×Int×Unit)) (a1:Int):Option ((Int×Bool×Unit)×Unit):=D 16 (a0,(a1,()))
noncomputable def qmm (D:Den ctx) (a0:Int×Int×Int×Unit) (a1:List (Int×Int×Unit)):Option ((Int×Unit)×Unit):=D 17 (a0,(a1,()))
noncomputable def qnu (D:Den ctx) (a0:Bool×(Int×List Int×Unit)×List (Int×Int×Int×Unit)×Unit) (a1:Bool×(Int×List Int×Unit)×List (Int×Int×Int×Unit)×Unit):Option ((Bool×Unit)×Unit):=D 18 (a0,(a1,()))
noncomputable def qqu (D:Den ctx) (a0:Int×Int×Int×Unit):Option ((Bool×Unit)×Unit):=D 24 (a0,())
noncomputable def qll (D:Den ctx) (a0:List Int):Option ((tCur×Unit)×Unit):=D 26 (a0,())
noncomputable def qil (D:Den ctx) (a0:List Int×Int×Int×Unit):Option (((List Int×Int×Unit)×Unit)×tCur×Unit):=D 27 (a0,())
noncomputable def qls (D:Den ctx) (a0:List Int×Int×Int×Unit):Option (((Int×Int×Int×Unit)×Unit)×tCur×Unit):=D 28 (a0,())
noncomputable def qo7 (D:Den ctx) (a0:List Int×Int×Unit):Option ((List Int×Unit)×Unit):=D 29 (a0,())
noncomputable def qlk (D:Den ctx) (a0:Int×Int×Int×Unit) (a1:List (Int×Int×Unit)):Option (((List (Int×Int×Unit)×List Int×Int×Bool×Unit)×Unit)×Unit):=D 30 (a0,(a1,()))
noncomputable def qr0 (D:Den ctx) (a0:Int×Int×Int×Unit) (a1:List (Int×Int×Unit)):Option (((Int×List Int×Unit)×Bool×Unit)×Unit):=D 31 (a0,(a1,()))
noncomputable def qbl (D:Den ctx):Option ((Int×Unit)×Unit):=D 32 ()
noncomputable def qcs (D:Den ctx) (a0:Int):Option ((Int×Unit)×Unit):=D 33 (a0,())
noncomputable def ql7 (D:Den ctx) (a0:Int×Int×Int×Unit) (a1:List (Int×Int×Unit)) (a2:Int) (a3:Int):Option ((List (Int×Int×Int×Unit)×Unit)×Unit):=D 34 (a0,(a1,(a2,(a3,()))))
noncomputable def qgq (D:Den ctx) (a0:List Int):Option (Unit×List Int×Unit):=D 35 (a0,())
noncomputable def qr8 (D:Den ctx) (a0:Int×Int×Int×Unit) (a1:Int) (a2:Int) (a3:Int) (a4:Int):Option ((Int×Unit)×Unit):=D 36 (a0,(a1,(a2,(a3,(a4,())))))
noncomputable def qcq (D:Den ctx) (a0:Int):Option ((Int×Unit)×Unit):=D 37 (a0,())
noncomputable def qqs (D:Den ctx) (a0:Int×Int×Int×Unit):Option ((Bool×Unit)×Unit):=D 38 (a0,())
noncomputable def qsz (D:Den ctx) (a0:Int×Int×Int×Unit) (a1:List (Int×Int×Unit)):Option (((Bool×(Int×List Int×Unit)×List (Int×Int×Int×Unit)×Unit)×Bool×Unit)×Unit):=D 39 (a0,(a1,()))
noncomputable def qb2 (D:Den ctx):Option ((Int×Unit)×Unit):=D 40 ()
noncomputable def qe9 (D:Den ctx) (a0:List (Int×Int×Int×Unit)) (a1:List (Int×Int×Unit)) (a2:Int):Option ((List (Int×Int×Int×Unit)×Unit)×Unit):=D 41 (a0,(a1,(a2,())))
noncomputable def qb7 (D:Den ctx) (a0:Int):Option ((Int×Unit)×Unit):=D 42 (a0,())
noncomputable def qbs (D:Den ctx) (a0:List (Int×Int×Int×Unit)) (a1:List (Int×Int×Unit)) (a2:Int) (a3:Int):Option ((List (Int×Int×Int×Unit)×Unit)×Unit):=D 43 (a0,(a1,(a2,(a3,()))))
noncomputable def qcz (D:Den ctx) (a0:Int):Option ((Int×Unit)×Unit):=D 44 (a0,())
noncomputable def qn8 (D:Den ctx) (a0:Int×Int×Int×Unit) (a1:List (Int×Int×Unit)):Option ((List (Int×Int×Int×Unit)×Unit)×Unit):=D 45 (a0,(a1,()))
noncomputable def qm1 (D:Den ctx) (a0:List Int×Int×Int×Unit):Option (((Int×Int×Int×Unit)×Unit)×tCur×Unit):=D 46 (a0,())
noncomputable def qjt (D:Den ctx) (a0:List Int×Int×Int×Unit) (a1:List Int×Int×Unit) (a2:Int×Int×Int×Unit) (a3:Int):Option ((List (Int×Int×Unit)×Unit)×tCur×Unit):=D 47 (a0,(a1,(a2,(a3,()))))
noncomputable def qbc (D:Den ctx) (a0:List Int×Int×Int×Unit) (a1:Int):Option ((Int×Unit)×tCur×Unit):=D 48 (a0,(a1,()))
noncomputable def qtk (D:Den ctx) (a0:Int×Int×Int×Unit) (a1:List (Int×Int×Unit)):Option (((List (Int×Int×Unit)×Int×Bool×Unit)×Unit)×Unit):=D 49 (a0,(a1,()))
noncomputable def qvj (D:Den ctx) (a0:Int×List Int×Unit) (a1:Int×List Int×Unit):Option ((Bool×Unit)×Unit):=D 50 (a0,(a1,()))
noncomputable def qlr (D:Den ctx) (a0:List (Int×Int×Int×Unit)) (a1:List (Int×Int×Int×Unit)):Option ((Bool×Unit)×Unit):=D 51 (a0,(a1,()))
noncomputable def qby (D:Den ctx) (a0:Int):Option ((Bool×Unit)×Unit):=D 57 (a0,())
noncomputable def qms (D:Den ctx) (a0:Int) (a1:Int) (a2:Int):Option ((Bool×Unit)×Unit):=D 59 (a0,(a1,(a2,())))
noncomputable def qfo (D:Den ctx) (a0:Int):Option ((Bool×Unit)×Unit):=D 60 (a0,())
noncomputable def qdn (D:Den ctx) (a0:Int):Option ((Bool×Unit)×Unit):=D 61 (a0,())
noncomputable def qc8 (D:Den ctx) (a0:Int):Option ((Int×Unit)×Unit):=D 62 (a0,())
noncomputable def qc6 (D:Den ctx) (a0:Int):Option ((Int×Unit)×Unit):=D 63 (a0,())
noncomputable def qc7 (D:Den ctx) (a0:Int):Option ((Int×Unit)×Unit):=D 64 (a0,())
noncomputable def qpt (D:Den ctx):Option (((List Int×Int×Unit)×Unit)×Unit):=D 65 ()
noncomputable def qor (D:Den ctx) (a0:List Int×Int×Unit) (a1:Int):Option ((Int×Unit)×Unit):=D 66 (a0,(a1,()))
noncomputable def qj0 (D:Den ctx) (a0:List Int×Int×Int×Unit) (a1:List Int):Option ((Int×Unit)×tCur×Unit):=D 67 (a0,(a1,()))
noncomputable def qoz (D:Den ctx) (a0:Int):Option ((Bool×Unit)×Unit):=D 68 (a0,())
noncomputable def qe2 (D:Den ctx) (a0:Int):Option ((Bool×Unit)×Unit):=D 69 (a0,())
noncomputable def qrk (D:Den ctx) (a0:List Int×Int×Unit):Option ((Bool×Unit)×Unit):=D 70 (a0,())
noncomputable def qb9 (D:Den ctx) (a0:Int):Option ((Int×Unit)×Unit):=D 71 (a0,())
noncomputable def qo8 (D:Den ctx) (a0:List Int×Int×Unit) (a1:Int):Option ((Int×Unit)×Unit):=D 72 (a0,(a1,()))
noncomputable def qd4 (D:Den ctx) (a0:Int):Option ((Int×Unit)×Unit):=D 73 (a0,())
noncomputable def qcj (D:Den ctx) (a0:List (Int×Int×Unit)×List Int×Int×Bool×Unit) (a1:Int×Int×Int×Unit):Option (Unit×(List (Int×Int×Unit)×List Int×Int×Bool×Unit)×Unit):=D 74 (a0,(a1,()))
noncomputable def qj (D:Den ctx) (a0:List (Int×Int×Unit)×List Int×Int×Bool×Unit) (a1:Int):Option ((Int×Unit)×(List (Int×Int×Unit)×List Int×Int×Bool×Unit)×Unit):=D 75 (a0,(a1,()))
noncomputable def qv (D:Den ctx) (a0:List (Int×Int×Unit)×List Int×Int×Bool×Unit) (a1:Bool):Option (Unit×(List (Int×Int×Unit)×List Int×Int×Bool×Unit)×Unit):=D 76 (a0,(a1,()))
noncomputable def qhz (D:Den ctx) (a0:Bool) (a1:Int):Option ((Int×Unit)×Unit):=D 77 (a0,(a1,()))
noncomputable def qcl (D:Den ctx) (a0:Int) (a1:Int) (a2:Int) (a3:List (Int×Int×Unit)) (a4:List (Int×Int×Int×Unit)):Option (Unit×List (Int×Int×Int×Unit)×Unit):=D 78 (a0,(a1,(a2,(a3,(a4,())))))
noncomputable def qcy (D:Den ctx) (a0:List (Int×Int×Int×Unit)) (a1:Clo):Option (Unit×List (Int×Int×Int×Unit)×Unit):=D 79 (a0,(a1,()))
noncomputable def qtw (D:Den ctx) (a0:Int×Int×Int×Unit) (a1:Int×Int×Int×Unit):Option ((Int×Unit)×Unit):=D 80 (a0,(a1,()))
noncomputable def qi (D:Den ctx) (a0:List Int) (a1:Int) (a2:Int) (a3:Int):Option (Unit×List Int×Unit):=D 81 (a0,(a1,(a2,(a3,()))))
noncomputable def qk5 (D:Den ctx) (a0:Int):Option ((Int×Unit)×Unit):=D 82 (a0,())
noncomputable def qek (D:Den ctx) (a0:Int) (a1:Int) (a2:Int):Option ((Bool×Unit)×Unit):=D 83 (a0,(a1,(a2,())))
noncomputable def qnz (D:Den ctx) (a0:Int):Option ((Bool×Unit)×Unit):=D 84 (a0,())
noncomputable def qef (D:Den ctx) (a0:Int):Option ((Bool×Unit)×Unit):=D 85 (a0,())
noncomputable def qb3 (D:Den ctx) (a0:Int):Option ((Int×Unit)×Unit):=D 86 (a0,())
noncomputable def qfx (D:Den ctx) (a0:List (Int×Int×Int×Unit)) (a1:List (Int×Int×Unit)) (a2:Int) (a3:Int):Option ((List (Int×Int×Int×Unit)×Unit)×Unit):=D 87 (a0,(a1,(a2,(a3,()))))
noncomputable def qrz (D:Den ctx) (a0:List Int×Int×Int×Unit) (a1:Int):Option ((Bool×Unit)×tCur×Unit):=D 88 (a0,(a1,()))
noncomputable def qg3 (D:Den ctx) (a0:List Int×Int×Int×Unit):Option ((Int×Unit)×tCur×Unit):=D 89 (a0,())
noncomputable def qtb (D:Den ctx) (a0:List (Int×Int×Unit)×Int×Bool×Unit) (a1:Int×Int×Int×Unit):Option (Unit×(List (Int×Int×Unit)×Int×Bool×Unit)×Unit):=D 90 (a0,(a1,()))
noncomputable def qt0 (D:Den ctx) (a0:List (Int×Int×Unit)×Int×Bool×Unit) (a1:Int×Int×Int×Unit):Option (Unit×(List (Int×Int×Unit)×Int×Bool×Unit)×Unit):=D 91 (a0,(a1,()))
noncomputable def qs9 (D:Den ctx) (a0:List (Int×Int×Unit)×Int×Bool×Unit) (a1:Int×Int×Int×Unit):Option (Unit×(List (Int×Int×Unit)×Int×Bool×Unit)×Unit):=D 92 (a0,(a1,()))
noncomputable def qx (D:Den ctx) (a0:List (Int×Int×Unit)×Int×Bool×Unit) (a1:Int):Option ((Int×Unit)×(List (Int×Int×Unit)×Int×Bool×Unit)×Unit):=D 93 (a0,(a1,()))
noncomputable def qr3 (D:Den ctx) (a0:List (Int×Int×Unit)×Int×Bool×Unit):Option (Unit×(List (Int×Int×Unit)×Int×Bool×Unit)×Unit):=D 94 (a0,())
noncomputable def qfk (D:Den ctx) (a0:List (Int×Int×Unit)×Int×Bool×Unit) (a1:Bool):Option (Unit×(List (Int×Int×Unit)×Int×Bool×Unit)×Unit):=D 95 (a0,(a1,()))
noncomputable def qrq (D:Den ctx) (a0:List Int) (a1:List Int):Option ((Bool×Unit)×Unit):=D 96 (a0,(a1,()))
noncomputable def qn3 (D:Den ctx) (a0:Bool):Option ((Int×Unit)×Unit):=D 100 (a0,())
noncomputable def qei (D:Den ctx) (a0:List (Int×Int×Unit)×List Int×Int×Bool×Unit) (a1:Int) (a2:List Int):Option (Unit×(List (Int×Int×Unit)×List Int×Int×Bool×Unit)×Unit):=D 101 (a0,(a1,(a2,())))
noncomputable def qg (D:Den ctx) (a0:List (Int×Int×Int×Unit)) (a1:Int) (a2:Int) (a3:Int) (a4:Clo):Option (Unit×List (Int×Int×Int×Unit)×Unit):=D 102 (a0,(a1,(a2,(a3,(a4,())))))
noncomputable def qg7 (D:Den ctx) (a0:List Int) (a1:Int) (a2:Int):Option (Unit×List Int×Unit):=D 103 (a0,(a1,(a2,())))
noncomputable def qph (D:Den ctx) (a0:List Int) (a1:Int) (a2:Int):Option (Unit×List Int×Unit):=D 104 (a0,(a1,(a2,())))
noncomputable def qmu (D:Den ctx) (a0:List Int) (a1:Int) (a2:Int):Option (Unit×List Int×Unit):=D 105 (a0,(a1,(a2,())))
noncomputable def qhx (D:Den ctx) (a0:List Int) (a1:Int) (a2:Int):Option ((Int×Int×Unit)×Unit):=D 106 (a0,(a1,(a2,())))
noncomputable def qho (D:Den ctx) (a0:List Int) (a1:Int) (a2:Int):Option (Unit×List Int×Unit):=D 107 (a0,(a1,(a2,())))
noncomputable def qcu (D:Den ctx) (a0:List Int) (a1:Int) (a2:Int):Option ((Bool×Unit)×List Int×Unit):=D 108 (a0,(a1,(a2,())))
noncomputable def qdr (D:Den ctx) (a0:Int) (a1:Int):Option ((Bool×Unit)×Unit):=D 109 (a0,(a1,()))
noncomputable def qbj (D:Den ctx) (a0:List Int) (a1:Int) (a2:Int) (a3:Int):Option ((Int×Unit)×List Int×Unit):=D 110 (a0,(a1,(a2,(a3,()))))
noncomputable def qr (D:Den ctx) (a0:List Int) (a1:Int) (a2:Int) (a3:Int):Option ((Int×Bool×Unit)×List Int×Unit):=D 111 (a0,(a1,(a2,(a3,()))))
noncomputable def qsd (D:Den ctx) (a0:Int):Option ((Int×Unit)×Unit):=D 113 (a0,())
noncomputable def qs2 (D:Den ctx) (a0:Int) (a1:Int):Option ((Int×Unit)×Unit):=D 114 (a0,(a1,()))
noncomputable def qje (D:Den ctx) (a0:List (Int×Int×Unit)×Int×Bool×Unit) (a1:Int) (a2:List Int):Option (Unit×(List (Int×Int×Unit)×Int×Bool×Unit)×Unit):=D 115 (a0,(a1,(a2,())))
noncomputable def qfq (D:Den ctx) (a0:List (Int×Int×Int×Unit)) (a1:Int) (a2:Int) (a3:Clo):Option (Unit×List (Int×Int×Int×Unit)×Unit):=D 116 (a0,(a1,(a2,(a3,()))))
noncomputable def ql4 (D:Den ctx) (a0:List (Int×Int×Int×Unit)) (a1:Int) (a2:Int) (a3:Clo):Option (Unit×List (Int×Int×Int×Unit)×Unit):=D 117 (a0,(a1,(a2,(a3,()))))
noncomputable def qj2 (D:Den ctx) (a0:List (Int×Int×Int×Unit)) (a1:Int) (a2:Int) (a3:Clo):Option (Unit×List (Int×Int×Int×Unit)×Unit):=D 118 (a0,(a1,(a2,(a3,()))))
noncomputable def qf2 (D:Den ctx) (a0:List (Int×Int×Int×Unit)) (a1:Int) (a2:Int) (a3:Clo):Option ((Int×Int×Unit)×Unit):=D 119 (a0,(a1,(a2,(a3,()))))
noncomputable def qfy (D:Den ctx) (a0:List (Int×Int×Int×Unit)) (a1:Int) (a2:Int) (a3:Clo):Option (Unit×List (Int×Int×Int×Unit)×Unit):=D 120 (a0,(a1,(a2,(a3,()))))
noncomputable def qb6 (D:Den ctx) (a0:List (Int×Int×Int×Unit)) (a1:Int) (a2:Int) (a3:Clo):Option ((Bool×Unit)×List (Int×Int×Int×Unit)×Unit):=D 121 (a0,(a1,(a2,(a3,()))))
noncomputable def q8 (D:Den ctx) (a0:List (Int×Int×Int×Unit)) (a1:Int) (a2:Int) (a3:Int) (a4:Clo):Option ((Int×Unit)×List (Int×Int×Int×Unit)×Unit):=D 122 (a0,(a1,(a2,(a3,(a4,())))))
noncomputable def qo (D:Den ctx) (a0:List (Int×Int×Int×Unit)) (a1:Int) (a2:Int) (a3:Int) (a4:Clo):Option ((Int×Bool×Unit)×List (Int×Int×Int×Unit)×Unit):=D 123 (a0,(a1,(a2,(a3,(a4,())))))
noncomputable def qn0 (D:Den ctx) (a0:Int):Option ((Bool×Unit)×Unit):=D 129 (a0,())
end Go.G

namespace Go.G
set_option maxRecDepth 100000
set_option maxHeartbeats 0
open Go Go.V
noncomputable section
def qvs (D:DX)(n:Nat) (a0:List Int):Option ((Bool×Unit)×Unit):=qd (qwr D a0) fun b↦br (Prod.fst (Prod.fst b)) (some ((true,()),())) (qd (qn1 D a0) fun b↦qd (qmf D a0) fun b_1↦qd (qrh D (Prod.fst (Prod.fst b_1)) (Prod.fst (Prod.snd (Prod.fst b_1)))) fun b_2↦qd (qr7 D (Prod.fst (Prod.fst b_1)) (Prod.fst (Prod.snd (Prod.fst b_1)))) fun b_3↦qd (qot D a0) fun b_4↦qd (qdc D (Prod.fst (Prod.fst b_4)) (Prod.fst (Prod.snd (Prod.fst b_4)))) fun b_5↦qd (qc2 D (Prod.fst (Prod.fst b_4)) (Prod.fst (Prod.snd (Prod.fst b_4)))) fun b_6↦qd (qqy D (Prod.fst (Prod.fst b)) (Prod.fst (Prod.snd (Prod.fst b)))) fun b_7↦qd (qmm D (Prod.fst (Prod.fst b)) (Prod.fst (Prod.snd (Prod.fst b)))) fun b_8↦br (bif Prod.fst (Prod.fst b_7) != Prod.fst (Prod.fst b_8) then true else !decide (Prod.fst (Prod.snd (Prod.fst b_2))=Prod.fst (Prod.snd (Prod.fst b_3)))) (some ((false,()),())) (qd (qnu D (Prod.fst (Prod.fst (Prod.fst b_2)),(Prod.fst (Prod.fst (Prod.snd (Prod.fst (Prod.fst b_2)))),Prod.fst (Prod.snd (Prod.fst (Prod.snd (Prod.fst (Prod.fst b_2))))),()),Prod.fst (Prod.snd (Prod.snd (Prod.fst (Prod.fst b_2)))),()) (Prod.fst (Prod.fst (Prod.fst b_3)),(Prod.fst (Prod.fst (Prod.snd (Prod.fst (Prod.fst b_3)))),Prod.fst (Prod.snd (Prod.fst (Prod.snd (Prod.fst (Prod.fst b_3))))),()),Prod.snd (Prod.snd (Prod.fst (Prod.fst b_3))))) fun b_9↦br (bif bif !Prod.fst (Prod.fst b_9) then true else Prod.fst (Prod.fst b_5) != Prod.fst (Prod.fst b_6) then true else !decide (Prod.fst (Prod.snd (Prod.fst b_5))=Prod.fst (Prod.snd (Prod.fst b_6)))) (some ((false,()),())) (qd (qqy D (Prod.fst (Prod.fst b)) (Prod.fst (Prod.snd (Prod.fst b)))) fun b↦br (bif decide (Prod.fst (Prod.fst b)≥20) then true else decide (Prod.fst (Prod.fst b) < -1)) (some ((false,()),())) (br (decide (0+List.length (Prod.fst (Prod.fst b_4))≤qec)) (br (decide (List.length ([]++Prod.fst (Prod.fst b_4))+1≤qec)) (qd (qdc D ([]++Prod.fst (Prod.fst b_4)++[(Prod.fst (Prod.snd (Prod.fst b_4)),77,())]) (Prod.fst (Prod.snd (Prod.fst b_4)))) fun b↦some ((bif Prod.fst (Prod.snd (Prod.fst b)) then decide (Prod.fst (Prod.fst b)=77) else false,()),())) none) none))))
def qql (D:DX)(n:Nat) (a0:List Int):Option ((Bool×Unit)×Unit):=qvs D n a0
theorem q3q (D:DX)(n:Nat) (a0:List Int):rfC qe D n 4 (a0,())=qql D n a0:=by kernel_rfl

def qbbl (D:DX)(n:Nat) (a0:List Int):Option ((Bool×Unit)×Unit):=some ((decide ((↑(List.length a0):Int)>1048576),()),())
def q2x (D:DX)(n:Nat) (a0:List Int):Option ((Bool×Unit)×Unit):=qbbl D n a0
theorem qbby (D:DX)(n:Nat) (a0:List Int):rfC qe D n 7 (a0,())=q2x D n a0:=by kernel_rfl

def qqn (D:DX)(n:Nat) (go:List (Int×Int×Unit)→Int→Int→Int→Int→Int×Int×Int×Unit→Bool×(Int×List Int×Unit)×List (Int×Int×Int×Unit)×Unit→Bool×(Int×List Int×Unit)×List (Int×Int×Int×Unit)×Unit→List (Int×Int×Unit)×List Int×Int×Bool×Unit→Option (((Bool×(Int×List Int×Unit)×List (Int×Int×Int×Unit)×Unit)×Bool×Unit)×Unit)) (K0:List (Int×Int×Unit)→Int×Int×Int×Unit→Bool×(Int×List Int×Unit)×List (Int×Int×Int×Unit)×Unit→Bool×(Int×List Int×Unit)×List (Int×Int×Int×Unit)×Unit→Option (((Bool×(Int×List Int×Unit)×List (Int×Int×Int×Unit)×Unit)×Bool×Unit)×Unit)) (x0:List (Int×Int×Unit)) (x1:Int) (x2:Int) (x3:Int) (x4:Int) (x5:Int×Int×Int×Unit) (x6:Bool×(Int×List Int×Unit)×List (Int×Int×Int×Unit)×Unit) (x7:Bool×(Int×List Int×Unit)×List (Int×Int×Int×Unit)×Unit) (x8:List (Int×Int×Unit)×List Int×Int×Bool×Unit):Option (((Bool×(Int×List Int×Unit)×List (Int×Int×Int×Unit)×Unit)×Bool×Unit)×Unit):=br (decide (x4<x3)) (br (decide (0≤x4)&&decide (x4<(↑(List.length (Prod.fst (Prod.snd x8))):Int))) (qd (qdc D x0 (List.getD (Prod.fst (Prod.snd x8)) (Int.toNat x4) 0)) fun b↦qd (qr8 D x5 (List.getD (Prod.fst (Prod.snd x8)) (Int.toNat x4) 0) (Prod.fst (Prod.fst b)) x2 x1) fun b_1↦br (decide (List.length (Prod.fst (Prod.snd (Prod.snd x7)))+1≤qec)) (br (decide (Prod.fst x5=7)) (br (decide (List.length (Prod.fst (Prod.snd (Prod.fst (Prod.snd x7))))+1≤qec)) (go x0 x1 x2 x3 (IntKind.wrap IntKind.i64 (x4+1)) x5 x6 (Prod.fst x7,(Prod.fst (Prod.fst (Prod.snd x7)),Prod.fst (Prod.snd (Prod.fst (Prod.snd x7)))++[Prod.fst (Prod.fst b)],Prod.snd (Prod.snd (Prod.fst (Prod.snd x7)))),Prod.fst (Prod.snd (Prod.snd x7))++[(List.getD (Prod.fst (Prod.snd x8)) (Int.toNat x4) 0,Prod.fst (Prod.fst b),Prod.fst (Prod.fst b_1),())],Prod.snd (Prod.snd (Prod.snd x7))) x8) none) (go x0 x1 x2 x3 (IntKind.wrap IntKind.i64 (x4+1)) x5 x6 (Prod.fst x7,Prod.fst (Prod.snd x7),Prod.fst (Prod.snd (Prod.snd x7))++[(List.getD (Prod.fst (Prod.snd x8)) (Int.toNat x4) 0,Prod.fst (Prod.fst b),Prod.fst (Prod.fst b_1),())],Prod.snd (Prod.snd (Prod.snd x7))) x8)) none) none) (K0 x0 x5 x6 x7)
def qf3 (D:DX)(n:Nat) (K0:List (Int×Int×Unit)→Int×Int×Int×Unit→Bool×(Int×List Int×Unit)×List (Int×Int×Int×Unit)×Unit→Bool×(Int×List Int×Unit)×List (Int×Int×Int×Unit)×Unit→Option (((Bool×(Int×List Int×Unit)×List (Int×Int×Int×Unit)×Unit)×Bool×Unit)×Unit)):Nat→(List (Int×Int×Unit))→(Int)→(Int)→(Int)→(Int)→(Int×Int×Int×Unit)→(Bool×(Int×List Int×Unit)×List (Int×Int×Int×Unit)×Unit)→(Bool×(Int×List Int×Unit)×List (Int×Int×Int×Unit)×Unit)→(List (Int×Int×Unit)×List Int×Int×Bool×Unit)→Option (((Bool×(Int×List Int×Unit)×List (Int×Int×Int×Unit)×Unit)×Bool×Unit)×Unit) | 0=>(fun x0 x1 x2 x3 x4 x5 x6 x7 x8=>none) | m+1=>(fun x0 x1 x2 x3 x4 x5 x6 x7 x8=>qqn D n (qf3 D n K0 m) K0 x0 x1 x2 x3 x4 x5 x6 x7 x8)
def qf8 (D:DX)(n:Nat) (v0_0:List (Int×Int×Unit)) (v0_1:Int×Int×Int×Unit) (v0_2:Bool×(Int×List Int×Unit)×List (Int×Int×Int×Unit)×Unit) (v0_3:Bool×(Int×List Int×Unit)×List (Int×Int×Int×Unit)×Unit):Option (((Bool×(Int×List Int×Unit)×List (Int×Int×Int×Unit)×Unit)×Bool×Unit)×Unit):=br (decide (Prod.fst v0_1=10)) (qd (qcq D (Prod.fst (Prod.snd (Prod.snd v0_1)))) fun b↦qd (qdc D v0_0 (Prod.fst (Prod.fst b))) fun b↦br (Prod.fst (Prod.fst b) != 0) (some (((Prod.fst v0_3,(0,[IntKind.wrap IntKind.i64 (Prod.fst (Prod.fst b) - 1)],()),Prod.fst (Prod.snd (Prod.snd v0_3)),()),true,()),())) (some (((Prod.fst v0_3,(3,Prod.fst (Prod.snd (Prod.fst (Prod.snd v0_3))),()),Prod.fst (Prod.snd (Prod.snd v0_3)),()),true,()),()))) (some (((Prod.fst v0_3,(Prod.fst (Prod.fst (Prod.snd v0_3)),Prod.fst (Prod.snd (Prod.fst (Prod.snd v0_3))),()),Prod.fst (Prod.snd (Prod.snd v0_3)),()),true,()),()))
def qoq (D:DX)(n:Nat):(List (Int×Int×Unit))→(Int)→(Int)→(Int)→(Int)→(Int×Int×Int×Unit)→(Bool×(Int×List Int×Unit)×List (Int×Int×Int×Unit)×Unit)→(Bool×(Int×List Int×Unit)×List (Int×Int×Int×Unit)×Unit)→(List (Int×Int×Unit)×List Int×Int×Bool×Unit)→Option (((Bool×(Int×List Int×Unit)×List (Int×Int×Int×Unit)×Unit)×Bool×Unit)×Unit):=(fun x0 x1 x2 x3 x4 x5 x6 x7 x8=>qf3 D n (fun v0_0 v0_1 v0_2 v0_3=>qf8 D n v0_0 v0_1 v0_2 v0_3) n x0 x1 x2 x3 x4 x5 x6 x7 x8)
def qr6 (D:DX)(n:Nat) (lp0:List (Int×Int×Unit)→Int→Int→Int→Int→Int×Int×Int×Unit→Bool×(Int×List Int×Unit)×List (Int×Int×Int×Unit)×Unit→Bool×(Int×List Int×Unit)×List (Int×Int×Int×Unit)×Unit→List (Int×Int×Unit)×List Int×Int×Bool×Unit→Option (((Bool×(Int×List Int×Unit)×List (Int×Int×Int×Unit)×Unit)×Bool×Unit)×Unit)) (a0:Int×Int×Int×Unit) (a1:List (Int×Int×Unit)):Option (((Bool×(Int×List Int×Unit)×List (Int×Int×Int×Unit)×Unit)×Bool×Unit)×Unit):=qd (qqu D a0) fun b↦br (!Prod.fst (Prod.fst b)) (some (((false,(0,[],()),[],()),false,()),())) (qd (qlk D a0 a1) fun b↦br (decide (Prod.fst (Prod.snd (Prod.snd (Prod.fst (Prod.fst b))))≥0)) (some (((false,(0,[],()),[],()),false,()),())) (qd (qr0 D a0 a1) fun b_1↦br (Prod.fst (Prod.snd (Prod.fst b_1))) (some (((true,(Prod.fst (Prod.fst (Prod.fst b_1)),Prod.fst (Prod.snd (Prod.fst (Prod.fst b_1))),()),[],()),true,()),())) (qd (qbl D) fun b_2↦qd (qdc D a1 (Prod.fst (Prod.fst b_2))) fun b_3↦qd (qcs D (Prod.fst (Prod.snd a0))) fun b_4↦qd (qdc D a1 (Prod.fst (Prod.fst b_4))) fun b_5↦br (decide (Prod.fst a0=9)) (qd (qcs D (IntKind.wrap IntKind.i64 (Prod.fst (Prod.fst b_3) - 1))) fun b_6↦qd (qdc D a1 (Prod.fst (Prod.fst b_6))) fun b_7↦br (bif bif decide (Prod.fst a0=1) then true else decide (Prod.fst a0=2) then true else decide (Prod.fst a0=3)) (qd (ql7 D a0 a1 (Prod.fst (Prod.fst b_7)) (Prod.fst (Prod.fst b_3))) fun b↦some (((false,(0,[],()),Prod.fst (Prod.fst b),()),true,()),())) (qd (qgq D (Prod.fst (Prod.snd (Prod.fst (Prod.fst b))))) fun b_8↦lp0 a1 (Prod.fst (Prod.fst b_3)) (Prod.fst (Prod.fst b_7)) (↑(List.length (Prod.fst (Prod.snd b_8))):Int) 0 a0 (false,(0,[],()),[],()) (false,(0,[],()),[],()) (Prod.fst (Prod.fst (Prod.fst b)),Prod.fst (Prod.snd b_8),Prod.snd (Prod.snd (Prod.fst (Prod.fst b)))))) (br (bif bif decide (Prod.fst a0=1) then true else decide (Prod.fst a0=2) then true else decide (Prod.fst a0=3)) (qd (ql7 D a0 a1 (Prod.fst (Prod.fst b_5)) (Prod.fst (Prod.fst b_3))) fun b↦some (((false,(0,[],()),Prod.fst (Prod.fst b),()),true,()),())) (qd (qgq D (Prod.fst (Prod.snd (Prod.fst (Prod.fst b))))) fun b_6↦lp0 a1 (Prod.fst (Prod.fst b_3)) (Prod.fst (Prod.fst b_5)) (↑(List.length (Prod.fst (Prod.snd b_6))):Int) 0 a0 (false,(0,[],()),[],()) (false,(0,[],()),[],()) (Prod.fst (Prod.fst (Prod.fst b)),Prod.fst (Prod.snd b_6),Prod.snd (Prod.snd (Prod.fst (Prod.fst b)))))))))
def qrv (D:DX)(n:Nat) (a0:Int×Int×Int×Unit) (a1:List (Int×Int×Unit)):Option (((Bool×(Int×List Int×Unit)×List (Int×Int×Int×Unit)×Unit)×Bool×Unit)×Unit):=qr6 D n (qoq D n) a0 a1
def qhi (x0:List (Int×Int×Unit)) (x1:Int) (x2:Int) (x3:Int) (x4:Int) (x5:Int×Int×Int×Unit) (x6:Bool×(Int×List Int×Unit)×List (Int×Int×Int×Unit)×Unit) (x7:Bool×(Int×List Int×Unit)×List (Int×Int×Int×Unit)×Unit) (x8:List (Int×Int×Unit)×List Int×Int×Bool×Unit):St:=stq 154 [(1,AV.val (Ty.sl (Ty.pair yI (Ty.pair yI Ty.unit))) x0),(2,AV.addr 2 []),(4,AV.addr 4 []),(9,avI x1),(11,avI x2),(13,AV.addr 13 []),(95,AV.brw 26 [Stp.snd,Stp.fst] 0),(96,avI x3),(97,avI x4)] [(2,Root.mk (Ty.pair yI (Ty.pair yI (Ty.pair yI Ty.unit))) Mk.no x5 true),(4,Root.mk (Ty.pair Ty.bool (Ty.pair (Ty.pair yI (Ty.pair (Ty.sl yI) Ty.unit)) (Ty.pair (Ty.sl (Ty.pair yI (Ty.pair yI (Ty.pair yI Ty.unit)))) Ty.unit))) (Mk.pr Mk.no (Mk.pr (Mk.pr Mk.no (Mk.pr (Mk.own 0 Mk.no) Mk.no)) (Mk.pr (Mk.own 0 Mk.no) Mk.no))) x6 true),(13,Root.mk (Ty.pair Ty.bool (Ty.pair (Ty.pair yI (Ty.pair (Ty.sl yI) Ty.unit)) (Ty.pair (Ty.sl (Ty.pair yI (Ty.pair yI (Ty.pair yI Ty.unit)))) Ty.unit))) (Mk.pr Mk.no (Mk.pr (Mk.pr Mk.no (Mk.pr (Mk.own 0 Mk.no) Mk.no)) (Mk.pr (Mk.own 0 Mk.no) Mk.no))) x7 true),(26,Root.mk (Ty.pair (Ty.sl (Ty.pair yI (Ty.pair yI Ty.unit))) (Ty.pair (Ty.sl yI) (Ty.pair yI (Ty.pair Ty.bool Ty.unit)))) (Mk.pr Mk.no (Mk.pr (Mk.own 0 Mk.no) Mk.no)) x8 true)] 
def qju (v0_0:List (Int×Int×Unit)) (v0_1:Int×Int×Int×Unit) (v0_2:Bool×(Int×List Int×Unit)×List (Int×Int×Int×Unit)×Unit) (v0_3:Bool×(Int×List Int×Unit)×List (Int×Int×Int×Unit)×Unit):St:=stq 154 [(1,AV.val (Ty.sl (Ty.pair yI (Ty.pair yI Ty.unit))) v0_0),(2,AV.addr 2 []),(4,AV.addr 4 []),(13,AV.addr 13 [])] [(2,Root.mk (Ty.pair yI (Ty.pair yI (Ty.pair yI Ty.unit))) Mk.no v0_1 true),(4,Root.mk (Ty.pair Ty.bool (Ty.pair (Ty.pair yI (Ty.pair (Ty.sl yI) Ty.unit)) (Ty.pair (Ty.sl (Ty.pair yI (Ty.pair yI (Ty.pair yI Ty.unit)))) Ty.unit))) (Mk.pr Mk.no (Mk.pr (Mk.pr Mk.no (Mk.pr (Mk.own 0 Mk.no) Mk.no)) (Mk.pr (Mk.own 0 Mk.no) Mk.no))) v0_2 true),(13,Root.mk (Ty.pair Ty.bool (Ty.pair (Ty.pair yI (Ty.pair (Ty.sl yI) Ty.unit)) (Ty.pair (Ty.sl (Ty.pair yI (Ty.pair yI (Ty.pair yI Ty.unit)))) Ty.unit))) (Mk.pr Mk.no (Mk.pr (Mk.pr Mk.no (Mk.pr (Mk.own 0 Mk.no) Mk.no)) (Mk.pr (Mk.own 0 Mk.no) Mk.no))) v0_3 true)] 
theorem q13 (D:DX)(n:Nat) (m:Nat) (K:Ex→St→Option (Out ctx 9)) (x0:List (Int×Int×Unit)) (x1:Int) (x2:Int) (x3:Int) (x4:Int) (x5:Int×Int×Int×Unit) (x6:Bool×(Int×List Int×Unit)×List (Int×Int×Int×Unit)×Unit) (x7:Bool×(Int×List Int×Unit)×List (Int×Int×Int×Unit)×Unit) (x8:List (Int×Int×Unit)×List Int×Int×Bool×Unit) :
 LQ qe D n 9 [.r,.r,.r,.r,.r,.r,.r,.r,.r,.r,.r,.l,.r,.l] (m+1) (qhi x0 x1 x2 x3 x4 x5 x6 x7 x8) K=qqn D n (fun x0 x1 x2 x3 x4 x5 x6 x7 x8=>LQ qe D n 9 [.r,.r,.r,.r,.r,.r,.r,.r,.r,.r,.r,.l,.r,.l] m (qhi x0 x1 x2 x3 x4 x5 x6 x7 x8) K) (fun v0_0 v0_1 v0_2 v0_3=>K (Ex.exit 0) (qju v0_0 v0_1 v0_2 v0_3)) x0 x1 x2 x3 x4 x5 x6 x7 x8:=by kernel_rfl
theorem qus (D:DX)(n:Nat) (K:Ex→St→Option (Out ctx 9)):∀ (m:Nat) (x0:List (Int×Int×Unit)) (x1:Int) (x2:Int) (x3:Int) (x4:Int) (x5:Int×Int×Int×Unit) (x6:Bool×(Int×List Int×Unit)×List (Int×Int×Int×Unit)×Unit) (x7:Bool×(Int×List Int×Unit)×List (Int×Int×Int×Unit)×Unit) (x8:List (Int×Int×Unit)×List Int×Int×Bool×Unit),LQ qe D n 9 [.r,.r,.r,.r,.r,.r,.r,.r,.r,.r,.r,.l,.r,.l] m (qhi x0 x1 x2 x3 x4 x5 x6 x7 x8) K=qf3 D n (fun v0_0 v0_1 v0_2 v0_3=>K (Ex.exit 0) (qju v0_0 v0_1 v0_2 v0_3)) m x0 x1 x2 x3 x4 x5 x6 x7 x8
 | 0,x0,x1,x2,x3,x4,x5,x6,x7,x8=>qc1 ..
 | m+1,x0,x1,x2,x3,x4,x5,x6,x7,x8=>by
  have ih:(fun x0 x1 x2 x3 x4 x5 x6 x7 x8=>LQ qe D n 9 [.r,.r,.r,.r,.r,.r,.r,.r,.r,.r,.r,.l,.r,.l] m (qhi x0 x1 x2 x3 x4 x5 x6 x7 x8) K)=qf3 D n (fun v0_0 v0_1 v0_2 v0_3=>K (Ex.exit 0) (qju v0_0 v0_1 v0_2 v0_3)) m:=by funext x0 x1 x2 x3 x4 x5 x6 x7 x8;exact qus D n K m x0 x1 x2 x3 x4 x5 x6 x7 x8
  rw[q13]
  rw[ih];rfl
theorem q0k (D:DX)(n:Nat) (v0_0:List (Int×Int×Unit)) (v0_1:Int×Int×Int×Unit) (v0_2:Bool×(Int×List Int×Unit)×List (Int×Int×Int×Unit)×Unit) (v0_3:Bool×(Int×List Int×Unit)×List (Int×Int×Int×Unit)×Unit) :
 (CQ qe D n 9 [] [.r,.r,.r,.r,.r,.r,.r,.r,.r,.r,.r,.l,.r,.l] (qy qe 9)) (Ex.exit 0) (qju v0_0 v0_1 v0_2 v0_3)=qf8 D n v0_0 v0_1 v0_2 v0_3:=by kernel_rfl
theorem q0t (D:DX)(n:Nat) (x0:List (Int×Int×Unit)) (x1:Int) (x2:Int) (x3:Int) (x4:Int) (x5:Int×Int×Int×Unit) (x6:Bool×(Int×List Int×Unit)×List (Int×Int×Int×Unit)×Unit) (x7:Bool×(Int×List Int×Unit)×List (Int×Int×Int×Unit)×Unit) (x8:List (Int×Int×Unit)×List Int×Int×Bool×Unit) :
 LQ qe D n 9 [.r,.r,.r,.r,.r,.r,.r,.r,.r,.r,.r,.l,.r,.l] n (qhi x0 x1 x2 x3 x4 x5 x6 x7 x8) (CQ qe D n 9 [] [.r,.r,.r,.r,.r,.r,.r,.r,.r,.r,.r,.l,.r,.l] (qy qe 9))=qoq D n x0 x1 x2 x3 x4 x5 x6 x7 x8:=by
 rw[qus]
 simp only[q0k]
 rfl
theorem q6m (D:DX)(n:Nat) (a0:Int×Int×Int×Unit) (a1:List (Int×Int×Unit)):rfC qe D n 9 (a0,(a1,()))=qrv D n a0 a1:=by
 have h:rfC qe D n 9 (a0,(a1,()))=qr6 D n (fun x0 x1 x2 x3 x4 x5 x6 x7 x8=>LQ qe D n 9 [.r,.r,.r,.r,.r,.r,.r,.r,.r,.r,.r,.l,.r,.l] n (qhi x0 x1 x2 x3 x4 x5 x6 x7 x8) (CQ qe D n 9 [] [.r,.r,.r,.r,.r,.r,.r,.r,.r,.r,.r,.l,.r,.l] (qy qe 9))) a0 a1:=by kernel_rfl
 rw[h]
 simp only[q0t]
 rfl

def qjk (D:DX)(n:Nat) (go:List (Int×Int×Unit)→Int→Bool×(Int×List Int×Unit)×List (Int×Int×Int×Unit)×Unit→Bool×(Int×List Int×Unit)×List (Int×Int×Int×Unit)×Unit→Option (((Bool×(Int×List Int×Unit)×List (Int×Int×Int×Unit)×Unit)×Bool×Unit)×Unit)) (K0:Bool×(Int×List Int×Unit)×List (Int×Int×Int×Unit)×Unit→Bool×(Int×List Int×Unit)×List (Int×Int×Int×Unit)×Unit→Option (((Bool×(Int×List Int×Unit)×List (Int×Int×Int×Unit)×Unit)×Bool×Unit)×Unit)) (x0:List (Int×Int×Unit)) (x1:Int) (x2:Bool×(Int×List Int×Unit)×List (Int×Int×Int×Unit)×Unit) (x3:Bool×(Int×List Int×Unit)×List (Int×Int×Int×Unit)×Unit):Option (((Bool×(Int×List Int×Unit)×List (Int×Int×Int×Unit)×Unit)×Bool×Unit)×Unit):=br (decide (x1<4)) (qd (qb7 D x1) fun b↦qd (qe9 D (Prod.fst (Prod.snd (Prod.snd x3))) x0 (Prod.fst (Prod.fst b))) fun b↦qd (qb7 D x1) fun b_1↦qd (qc2 D x0 (Prod.fst (Prod.fst b_1))) fun b_2↦br (decide (List.length (Prod.fst (Prod.snd (Prod.fst (Prod.snd x3))))+1≤qec)) (go x0 (IntKind.wrap IntKind.i64 (x1+1)) x2 (Prod.fst x3,(Prod.fst (Prod.fst (Prod.snd x3)),Prod.fst (Prod.snd (Prod.fst (Prod.snd x3)))++[Prod.fst (Prod.fst b_2)],Prod.snd (Prod.snd (Prod.fst (Prod.snd x3)))),Prod.fst (Prod.fst b),Prod.snd (Prod.snd (Prod.snd x3)))) none) (K0 x2 x3)
def qcx (D:DX)(n:Nat) (K0:Bool×(Int×List Int×Unit)×List (Int×Int×Int×Unit)×Unit→Bool×(Int×List Int×Unit)×List (Int×Int×Int×Unit)×Unit→Option (((Bool×(Int×List Int×Unit)×List (Int×Int×Int×Unit)×Unit)×Bool×Unit)×Unit)):Nat→(List (Int×Int×Unit))→(Int)→(Bool×(Int×List Int×Unit)×List (Int×Int×Int×Unit)×Unit)→(Bool×(Int×List Int×Unit)×List (Int×Int×Int×Unit)×Unit)→Option (((Bool×(Int×List Int×Unit)×List (Int×Int×Int×Unit)×Unit)×Bool×Unit)×Unit) | 0=>(fun x0 x1 x2 x3=>none) | m+1=>(fun x0 x1 x2 x3=>qjk D n (qcx D n K0 m) K0 x0 x1 x2 x3)
def qm6 (D:DX)(n:Nat) (v0_0:Bool×(Int×List Int×Unit)×List (Int×Int×Int×Unit)×Unit) (v0_1:Bool×(Int×List Int×Unit)×List (Int×Int×Int×Unit)×Unit):Option (((Bool×(Int×List Int×Unit)×List (Int×Int×Int×Unit)×Unit)×Bool×Unit)×Unit):=some (((Prod.fst v0_1,(Prod.fst (Prod.fst (Prod.snd v0_1)),Prod.fst (Prod.snd (Prod.fst (Prod.snd v0_1))),()),Prod.snd (Prod.snd v0_1)),true,()),())
def qos (D:DX)(n:Nat):(List (Int×Int×Unit))→(Int)→(Bool×(Int×List Int×Unit)×List (Int×Int×Int×Unit)×Unit)→(Bool×(Int×List Int×Unit)×List (Int×Int×Int×Unit)×Unit)→Option (((Bool×(Int×List Int×Unit)×List (Int×Int×Int×Unit)×Unit)×Bool×Unit)×Unit):=(fun x0 x1 x2 x3=>qcx D n (fun v0_0 v0_1=>qm6 D n v0_0 v0_1) n x0 x1 x2 x3)
def qsc (D:DX)(n:Nat) (lp0:List (Int×Int×Unit)→Int→Bool×(Int×List Int×Unit)×List (Int×Int×Int×Unit)×Unit→Bool×(Int×List Int×Unit)×List (Int×Int×Int×Unit)×Unit→Option (((Bool×(Int×List Int×Unit)×List (Int×Int×Int×Unit)×Unit)×Bool×Unit)×Unit)) (a0:Int×Int×Int×Unit) (a1:List (Int×Int×Unit)):Option (((Bool×(Int×List Int×Unit)×List (Int×Int×Int×Unit)×Unit)×Bool×Unit)×Unit):=qd (qqs D a0) fun b↦br (!Prod.fst (Prod.fst b)) (some (((false,(0,[],()),[],()),false,()),())) (qd (qmm D a0 a1) fun b↦br (Prod.fst (Prod.fst b) != -1) (some (((false,(0,[],()),[],()),false,()),())) (qd (qsz D a0 a1) fun b↦br (Prod.fst (Prod.snd (Prod.fst b))) (some (((Prod.fst (Prod.fst (Prod.fst b)),(Prod.fst (Prod.fst (Prod.snd (Prod.fst (Prod.fst b)))),Prod.fst (Prod.snd (Prod.fst (Prod.snd (Prod.fst (Prod.fst b))))),()),Prod.fst (Prod.snd (Prod.snd (Prod.fst (Prod.fst b)))),()),true,()),())) (qd (qb2 D) fun b↦qd (qc2 D a1 (Prod.fst (Prod.fst b))) fun b↦br (decide (Prod.fst a0=7)) (lp0 a1 0 (false,(0,[],()),[],()) (false,(0,[],()),[],())) (br (decide (Prod.fst a0=8)) (qd (qb2 D) fun b↦qd (qbs D [] a1 (Prod.fst (Prod.fst b)) 1) fun b↦some (((false,(0,[],()),Prod.fst (Prod.fst b),()),true,()),())) (br (decide (Prod.fst a0=9)) (qd (qb7 D (IntKind.wrap IntKind.i64 (Prod.fst (Prod.fst b) - 1))) fun b_1↦qd (qc2 D a1 (Prod.fst (Prod.fst b_1))) fun b_2↦qd (qb2 D) fun b_3↦qd (qbs D [] a1 (Prod.fst (Prod.fst b_3)) (IntKind.wrap IntKind.i64 (Prod.fst (Prod.fst b)+1))) fun b_4↦qd (qb7 D (IntKind.wrap IntKind.i64 (Prod.fst (Prod.fst b) - 1))) fun b_5↦qd (qe9 D (Prod.fst (Prod.fst b_4)) a1 (Prod.fst (Prod.fst b_5))) fun b_6↦qd (qcz D (Prod.fst (Prod.fst b_2))) fun b_7↦qd (qbs D (Prod.fst (Prod.fst b_6)) a1 (Prod.fst (Prod.fst b_7)) (Prod.fst (Prod.fst b))) fun b↦some (((false,(0,[],()),Prod.fst (Prod.fst b),()),true,()),())) (br (decide (Prod.fst a0=10)) (qd (qb2 D) fun b↦qd (qe9 D [] a1 (Prod.fst (Prod.fst b))) fun b↦qd (qcz D (Prod.fst (Prod.snd (Prod.snd a0)))) fun b_1↦qd (qe9 D (Prod.fst (Prod.fst b)) a1 (Prod.fst (Prod.fst b_1))) fun b↦qd (qcz D (Prod.fst (Prod.snd (Prod.snd a0)))) fun b_2↦qd (qc2 D a1 (Prod.fst (Prod.fst b_2))) fun b_3↦br (decide (Prod.fst (Prod.fst b_3)=0)) (some (((false,(3,[],()),Prod.fst (Prod.fst b),()),true,()),())) (some (((false,(0,[IntKind.wrap IntKind.i64 (Prod.fst (Prod.fst b_3) - 1)],()),Prod.fst (Prod.fst b),()),true,()),()))) (qd (qn8 D a0 a1) fun b↦some (((false,(0,[],()),Prod.fst (Prod.fst b),()),true,()),()))))))))
def qr5 (D:DX)(n:Nat) (a0:Int×Int×Int×Unit) (a1:List (Int×Int×Unit)):Option (((Bool×(Int×List Int×Unit)×List (Int×Int×Int×Unit)×Unit)×Bool×Unit)×Unit):=qsc D n (qos D n) a0 a1
def qhd (x0:List (Int×Int×Unit)) (x1:Int) (x2:Bool×(Int×List Int×Unit)×List (Int×Int×Int×Unit)×Unit) (x3:Bool×(Int×List Int×Unit)×List (Int×Int×Int×Unit)×Unit):St:=stq 150 [(1,AV.val (Ty.sl (Ty.pair yI (Ty.pair yI Ty.unit))) x0),(4,AV.addr 4 []),(8,AV.addr 8 []),(11,avI x1)] [(4,Root.mk (Ty.pair Ty.bool (Ty.pair (Ty.pair yI (Ty.pair (Ty.sl yI) Ty.unit)) (Ty.pair (Ty.sl (Ty.pair yI (Ty.pair yI (Ty.pair yI Ty.unit)))) Ty.unit))) (Mk.pr Mk.no (Mk.pr (Mk.pr Mk.no (Mk.pr (Mk.own 0 Mk.no) Mk.no)) (Mk.pr (Mk.own 0 Mk.no) Mk.no))) x2 true),(8,Root.mk (Ty.pair Ty.bool (Ty.pair (Ty.pair yI (Ty.pair (Ty.sl yI) Ty.unit)) (Ty.pair (Ty.sl (Ty.pair yI (Ty.pair yI (Ty.pair yI Ty.unit)))) Ty.unit))) (Mk.pr Mk.no (Mk.pr (Mk.pr Mk.no (Mk.pr (Mk.own 0 Mk.no) Mk.no)) Mk.no)) x3 true)] 
def qj5 (v0_0:Bool×(Int×List Int×Unit)×List (Int×Int×Int×Unit)×Unit) (v0_1:Bool×(Int×List Int×Unit)×List (Int×Int×Int×Unit)×Unit):St:=stq 150 [(4,AV.addr 4 []),(8,AV.addr 8 [])] [(4,Root.mk (Ty.pair Ty.bool (Ty.pair (Ty.pair yI (Ty.pair (Ty.sl yI) Ty.unit)) (Ty.pair (Ty.sl (Ty.pair yI (Ty.pair yI (Ty.pair yI Ty.unit)))) Ty.unit))) (Mk.pr Mk.no (Mk.pr (Mk.pr Mk.no (Mk.pr (Mk.own 0 Mk.no) Mk.no)) (Mk.pr (Mk.own 0 Mk.no) Mk.no))) v0_0 true),(8,Root.mk (Ty.pair Ty.bool (Ty.pair (Ty.pair yI (Ty.pair (Ty.sl yI) Ty.unit)) (Ty.pair (Ty.sl (Ty.pair yI (Ty.pair yI (Ty.pair yI Ty.unit)))) Ty.unit))) (Mk.pr Mk.no (Mk.pr (Mk.pr Mk.no (Mk.pr (Mk.own 0 Mk.no) Mk.no)) Mk.no)) v0_1 true)] 
theorem q19 (D:DX)(n:Nat) (m:Nat) (K:Ex→St→Option (Out ctx 10)) (x0:List (Int×Int×Unit)) (x1:Int) (x2:Bool×(Int×List Int×Unit)×List (Int×Int×Int×Unit)×Unit) (x3:Bool×(Int×List Int×Unit)×List (Int×Int×Int×Unit)×Unit) :
 LQ qe D n 10 [.r,.r,.r,.r,.r,.r,.l,.r,.l,.r,.l,.r,.l] (m+1) (qhd x0 x1 x2 x3) K=qjk D n (fun x0 x1 x2 x3=>LQ qe D n 10 [.r,.r,.r,.r,.r,.r,.l,.r,.l,.r,.l,.r,.l] m (qhd x0 x1 x2 x3) K) (fun v0_0 v0_1=>K (Ex.exit 1) (qj5 v0_0 v0_1)) x0 x1 x2 x3:=by kernel_rfl
theorem qup (D:DX)(n:Nat) (K:Ex→St→Option (Out ctx 10)):∀ (m:Nat) (x0:List (Int×Int×Unit)) (x1:Int) (x2:Bool×(Int×List Int×Unit)×List (Int×Int×Int×Unit)×Unit) (x3:Bool×(Int×List Int×Unit)×List (Int×Int×Int×Unit)×Unit),LQ qe D n 10 [.r,.r,.r,.r,.r,.r,.l,.r,.l,.r,.l,.r,.l] m (qhd x0 x1 x2 x3) K=qcx D n (fun v0_0 v0_1=>K (Ex.exit 1) (qj5 v0_0 v0_1)) m x0 x1 x2 x3
 | 0,x0,x1,x2,x3=>qc1 ..
 | m+1,x0,x1,x2,x3=>by
  have ih:(fun x0 x1 x2 x3=>LQ qe D n 10 [.r,.r,.r,.r,.r,.r,.l,.r,.l,.r,.l,.r,.l] m (qhd x0 x1 x2 x3) K)=qcx D n (fun v0_0 v0_1=>K (Ex.exit 1) (qj5 v0_0 v0_1)) m:=by funext x0 x1 x2 x3;exact qup D n K m x0 x1 x2 x3
  rw[q19]
  rw[ih];rfl
theorem q0m (D:DX)(n:Nat) (v0_0:Bool×(Int×List Int×Unit)×List (Int×Int×Int×Unit)×Unit) (v0_1:Bool×(Int×List Int×Unit)×List (Int×Int×Int×Unit)×Unit) :
 (CQ qe D n 10 [] [.r,.r,.r,.r,.r,.r,.l,.r,.l,.r,.l,.r,.l] (qy qe 10)) (Ex.exit 1) (qj5 v0_0 v0_1)=qm6 D n v0_0 v0_1:=by kernel_rfl
theorem q07 (D:DX)(n:Nat) (x0:List (Int×Int×Unit)) (x1:Int) (x2:Bool×(Int×List Int×Unit)×List (Int×Int×Int×Unit)×Unit) (x3:Bool×(Int×List Int×Unit)×List (Int×Int×Int×Unit)×Unit) :
 LQ qe D n 10 [.r,.r,.r,.r,.r,.r,.l,.r,.l,.r,.l,.r,.l] n (qhd x0 x1 x2 x3) (CQ qe D n 10 [] [.r,.r,.r,.r,.r,.r,.l,.r,.l,.r,.l,.r,.l] (qy qe 10))=qos D n x0 x1 x2 x3:=by
 rw[qup]
 simp only[q0m]
 rfl
theorem q54 (D:DX)(n:Nat) (a0:Int×Int×Int×Unit) (a1:List (Int×Int×Unit)):rfC qe D n 10 (a0,(a1,()))=qr5 D n a0 a1:=by
 have h:rfC qe D n 10 (a0,(a1,()))=qsc D n (fun x0 x1 x2 x3=>LQ qe D n 10 [.r,.r,.r,.r,.r,.r,.l,.r,.l,.r,.l,.r,.l] n (qhd x0 x1 x2 x3) (CQ qe D n 10 [] [.r,.r,.r,.r,.r,.r,.l,.r,.l,.r,.l,.r,.l] (qy qe 10))) a0 a1:=by kernel_rfl
 rw[h]
 simp only[q07]
 rfl

def qz1 (D:DX)(n:Nat) (a0:Int×Int×Int×Unit) (a1:List (Int×Int×Unit)):Option ((Int×Unit)×Unit):=qd (qqu D a0) fun b↦br (!Prod.fst (Prod.fst b)) (some ((-1,()),())) (qd (qlk D a0 a1) fun b↦some ((Prod.fst (Prod.snd (Prod.snd (Prod.fst (Prod.fst b)))),()),()))
def qu3 (D:DX)(n:Nat) (a0:Int×Int×Int×Unit) (a1:List (Int×Int×Unit)):Option ((Int×Unit)×Unit):=qz1 D n a0 a1
theorem qbat (D:DX)(n:Nat) (a0:Int×Int×Int×Unit) (a1:List (Int×Int×Unit)):rfC qe D n 11 (a0,(a1,()))=qu3 D n a0 a1:=by kernel_rfl

def qui (D:DX)(n:Nat) (a0:List Int):Option (((Int×Int×Int×Unit)×List (Int×Int×Unit)×Unit)×Unit):=qd (qll D a0) fun b↦qd (qm1 D (Prod.fst (Prod.fst b))) fun b↦qd (qil D (Prod.fst (Prod.snd b))) fun b_1↦qd (qbc D (Prod.fst (Prod.snd b_1)) 12) fun b_2↦qd (qjt D (Prod.fst (Prod.snd b_2)) (Prod.fst (Prod.fst (Prod.fst b_1)),Prod.snd (Prod.fst (Prod.fst b_1))) (Prod.fst (Prod.fst b)) (Prod.fst (Prod.fst b_2))) fun b_3↦some ((Prod.fst (Prod.fst b),Prod.fst (Prod.fst b_3),()),())
def qov (D:DX)(n:Nat) (a0:List Int):Option (((Int×Int×Int×Unit)×List (Int×Int×Unit)×Unit)×Unit):=qui D n a0
theorem q25 (D:DX)(n:Nat) (a0:List Int):rfC qe D n 12 (a0,())=qov D n a0:=by kernel_rfl

def qse (D:DX)(n:Nat) (a0:List Int):Option (((Int×Int×Int×Unit)×List (Int×Int×Unit)×Unit)×Unit):=qd (qll D a0) fun b↦qd (qm1 D (Prod.fst (Prod.fst b))) fun b↦qd (qil D (Prod.fst (Prod.snd b))) fun b_1↦qd (qbc D (Prod.fst (Prod.snd b_1)) 8) fun b_2↦qd (qjt D (Prod.fst (Prod.snd b_2)) (Prod.fst (Prod.fst (Prod.fst b_1)),Prod.snd (Prod.fst (Prod.fst b_1))) (Prod.fst (Prod.fst b)) (IntKind.wrap IntKind.i64 (12 - IntKind.wrap IntKind.i64 (IntKind.wrap IntKind.i64 (Int.tdiv (Prod.fst (Prod.fst b_2)) 7) * 10)))) fun b_3↦some ((Prod.fst (Prod.fst b),Prod.fst (Prod.fst b_3),()),())
def qmk (D:DX)(n:Nat) (a0:List Int):Option (((Int×Int×Int×Unit)×List (Int×Int×Unit)×Unit)×Unit):=qse D n a0
theorem qzt (D:DX)(n:Nat) (a0:List Int):rfC qe D n 13 (a0,())=qmk D n a0:=by kernel_rfl

def qne (D:DX)(n:Nat) (go:Int→List (Int×Int×Unit)→List Int×Int×Int×Unit→Option ((List (Int×Int×Unit)×Int×Unit)×Unit)) (K0:List (Int×Int×Unit)→List Int×Int×Int×Unit→Option ((List (Int×Int×Unit)×Int×Unit)×Unit)) (x0:Int) (x1:List (Int×Int×Unit)) (x2:List Int×Int×Int×Unit):Option ((List (Int×Int×Unit)×Int×Unit)×Unit):=qd (qbc D x2 6) fun b↦br (decide (x0<Prod.fst (Prod.fst b))) (qd (qbc D (Prod.fst (Prod.snd b)) 5) fun b↦qd (qbc D (Prod.fst (Prod.snd b)) 9) fun b_1↦br (decide (List.length x1+1≤qec)) (go (IntKind.wrap IntKind.i64 (x0+1)) (x1++[(Prod.fst (Prod.fst b),Prod.fst (Prod.fst b_1),())]) (Prod.fst (Prod.snd b_1))) none) (K0 x1 (Prod.fst (Prod.snd b)))
def qf5 (D:DX)(n:Nat) (K0:List (Int×Int×Unit)→List Int×Int×Int×Unit→Option ((List (Int×Int×Unit)×Int×Unit)×Unit)):Nat→(Int)→(List (Int×Int×Unit))→tCur→Option ((List (Int×Int×Unit)×Int×Unit)×Unit) | 0=>(fun x0 x1 x2=>none) | m+1=>(fun x0 x1 x2=>qne D n (qf5 D n K0 m) K0 x0 x1 x2)
def qif (D:DX)(n:Nat) (v0_0:List (Int×Int×Unit)) (v0_1:List Int×Int×Int×Unit):Option ((List (Int×Int×Unit)×Int×Unit)×Unit):=qd (qbc D v0_1 6) fun b↦some ((v0_0,IntKind.wrap IntKind.i64 (Prod.fst (Prod.fst b) - 1),()),())
def qmg (D:DX)(n:Nat):(Int)→(List (Int×Int×Unit))→tCur→Option ((List (Int×Int×Unit)×Int×Unit)×Unit):=(fun x0 x1 x2=>qf5 D n (fun v0_0 v0_1=>qif D n v0_0 v0_1) n x0 x1 x2)
def qns (D:DX)(n:Nat) (lp0:Int→List (Int×Int×Unit)→List Int×Int×Int×Unit→Option ((List (Int×Int×Unit)×Int×Unit)×Unit)) (a0:List Int):Option ((List (Int×Int×Unit)×Int×Unit)×Unit):=qd (qll D a0) fun b↦lp0 0 [] (Prod.fst (Prod.fst b))
def qnr (D:DX)(n:Nat) (a0:List Int):Option ((List (Int×Int×Unit)×Int×Unit)×Unit):=qns D n (qmg D n) a0
def qf6 (x0:Int) (x1:List (Int×Int×Unit)) (x2:List Int×Int×Int×Unit):St:=stq 30 [(4,AV.addr 9 []),(5,AV.brw 5 [] 0),(6,avI x0)] [(5,Root.mk (Ty.sl (Ty.pair yI (Ty.pair yI Ty.unit))) (Mk.own 0 Mk.no) x1 false),(9,Root.mk (Ty.pair (Ty.sl (Ty.int IntKind.u8)) (Ty.pair yI (Ty.pair yI Ty.unit))) Mk.no x2 true)] 
def qip (v0_0:List (Int×Int×Unit)) (v0_1:List Int×Int×Int×Unit):St:=stq 30 [(4,AV.addr 9 []),(5,AV.brw 5 [] 0)] [(5,Root.mk (Ty.sl (Ty.pair yI (Ty.pair yI Ty.unit))) (Mk.own 0 Mk.no) v0_0 false),(9,Root.mk (Ty.pair (Ty.sl (Ty.int IntKind.u8)) (Ty.pair yI (Ty.pair yI Ty.unit))) Mk.no v0_1 true)] 
theorem qzu (D:DX)(n:Nat) (m:Nat) (K:Ex→St→Option (Out ctx 14)) (x0:Int) (x1:List (Int×Int×Unit)) (x2:List Int×Int×Int×Unit) :
 LQ qe D n 14 [.r,.r,.r,.l,.r,.l] (m+1) (qf6 x0 x1 x2) K=qne D n (fun x0 x1 x2=>LQ qe D n 14 [.r,.r,.r,.l,.r,.l] m (qf6 x0 x1 x2) K) (fun v0_0 v0_1=>K (Ex.exit 0) (qip v0_0 v0_1)) x0 x1 x2:=by kernel_rfl
theorem qsf (D:DX)(n:Nat) (K:Ex→St→Option (Out ctx 14)):∀ (m:Nat) (x0:Int) (x1:List (Int×Int×Unit)) (x2:List Int×Int×Int×Unit),LQ qe D n 14 [.r,.r,.r,.l,.r,.l] m (qf6 x0 x1 x2) K=qf5 D n (fun v0_0 v0_1=>K (Ex.exit 0) (qip v0_0 v0_1)) m x0 x1 x2
 | 0,x0,x1,x2=>qc1 ..
 | m+1,x0,x1,x2=>by
  have ih:(fun x0 x1 x2=>LQ qe D n 14 [.r,.r,.r,.l,.r,.l] m (qf6 x0 x1 x2) K)=qf5 D n (fun v0_0 v0_1=>K (Ex.exit 0) (qip v0_0 v0_1)) m:=by funext x0 x1 x2;exact qsf D n K m x0 x1 x2
  rw[qzu]
  rw[ih];rfl
theorem qyg (D:DX)(n:Nat) (v0_0:List (Int×Int×Unit)) (v0_1:List Int×Int×Int×Unit) :
 (CQ qe D n 14 [] [.r,.r,.r,.l,.r,.l] (qy qe 14)) (Ex.exit 0) (qip v0_0 v0_1)=qif D n v0_0 v0_1:=by kernel_rfl
theorem qyc (D:DX)(n:Nat) (x0:Int) (x1:List (Int×Int×Unit)) (x2:List Int×Int×Int×Unit) :
 LQ qe D n 14 [.r,.r,.r,.l,.r,.l] n (qf6 x0 x1 x2) (CQ qe D n 14 [] [.r,.r,.r,.l,.r,.l] (qy qe 14))=qmg D n x0 x1 x2:=by
 rw[qsf]
 simp only[qyg]
 rfl
theorem q21 (D:DX)(n:Nat) (a0:List Int):rfC qe D n 14 (a0,())=qnr D n a0:=by
 have h:rfC qe D n 14 (a0,())=qns D n (fun x0 x1 x2=>LQ qe D n 14 [.r,.r,.r,.l,.r,.l] n (qf6 x0 x1 x2) (CQ qe D n 14 [] [.r,.r,.r,.l,.r,.l] (qy qe 14))) a0:=by kernel_rfl
 rw[h]
 simp only[qyc]
 rfl

def qt4 (D:DX)(n:Nat) (go:List (Int×Int×Unit)→Int→Int→Option ((Int×Bool×Unit)×Unit)) (K0:Int→Bool→Option ((Int×Bool×Unit)×Unit)) (K1:Option ((Int×Bool×Unit)×Unit)) (x0:List (Int×Int×Unit)) (x1:Int) (x2:Int):Option ((Int×Bool×Unit)×Unit):=br (decide (x2≥0)) (br (decide (0≤x2)&&decide (x2<(↑(List.length x0):Int))) (br (decide (Prod.fst (List.getD x0 (Int.toNat x2) (0,0,()))=x1)) (br (decide (0≤x2)&&decide (x2<(↑(List.length x0):Int))) (K0 (Prod.fst (Prod.snd (List.getD x0 (Int.toNat x2) (0,0,())))) true) none) (go x0 x1 (IntKind.wrap IntKind.i64 (x2 - 1)))) none) K1
def qjp (D:DX)(n:Nat) (K0:Int→Bool→Option ((Int×Bool×Unit)×Unit)) (K1:Option ((Int×Bool×Unit)×Unit)):Nat→(List (Int×Int×Unit))→(Int)→(Int)→Option ((Int×Bool×Unit)×Unit) | 0=>(fun x0 x1 x2=>none) | m+1=>(fun x0 x1 x2=>qt4 D n (qjp D n K0 K1 m) K0 K1 x0 x1 x2)
def qpq (D:DX)(n:Nat) (v0_0:Int) (v0_1:Bool):Option ((Int×Bool×Unit)×Unit):=some ((v0_0,v0_1,()),())
def qqj (D:DX)(n:Nat):Option ((Int×Bool×Unit)×Unit):=some ((0,false,()),())
def qr9 (D:DX)(n:Nat):(List (Int×Int×Unit))→(Int)→(Int)→Option ((Int×Bool×Unit)×Unit):=(fun x0 x1 x2=>qjp D n (fun v0_0 v0_1=>qpq D n v0_0 v0_1) (qqj D n) n x0 x1 x2)
def qu0 (D:DX)(n:Nat) (lp0:List (Int×Int×Unit)→Int→Int→Option ((Int×Bool×Unit)×Unit)) (a0:List (Int×Int×Unit)) (a1:Int):Option ((Int×Bool×Unit)×Unit):=lp0 a0 a1 (IntKind.wrap IntKind.i64 ((↑(List.length a0):Int) - 1))
def qu4 (D:DX)(n:Nat) (a0:List (Int×Int×Unit)) (a1:Int):Option ((Int×Bool×Unit)×Unit):=qu0 D n (qr9 D n) a0 a1
def qja (x0:List (Int×Int×Unit)) (x1:Int) (x2:Int):St:=stq 26 [(0,AV.val (Ty.sl (Ty.pair yI (Ty.pair yI Ty.unit))) x0),(1,avI x1),(6,avI x2)] [] 
def qma (v0_0:Int) (v0_1:Bool):St:=stq 26 [(4,avI v0_0),(5,AV.val Ty.bool v0_1)] [] 
def ql1:St:=stq 26 [] [] 
theorem q6u (D:DX)(n:Nat) (m:Nat) (K:Ex→St→Option (Out ctx 15)) (x0:List (Int×Int×Unit)) (x1:Int) (x2:Int) :
 LQ qe D n 15 [.r,.l,.r,.l] (m+1) (qja x0 x1 x2) K=qt4 D n (fun x0 x1 x2=>LQ qe D n 15 [.r,.l,.r,.l] m (qja x0 x1 x2) K) (fun v0_0 v0_1=>K (Ex.ret) (qma v0_0 v0_1)) (K (Ex.exit 0) (ql1)) x0 x1 x2:=by kernel_rfl
theorem qxk (D:DX)(n:Nat) (K:Ex→St→Option (Out ctx 15)):∀ (m:Nat) (x0:List (Int×Int×Unit)) (x1:Int) (x2:Int),LQ qe D n 15 [.r,.l,.r,.l] m (qja x0 x1 x2) K=qjp D n (fun v0_0 v0_1=>K (Ex.ret) (qma v0_0 v0_1)) (K (Ex.exit 0) (ql1)) m x0 x1 x2
 | 0,x0,x1,x2=>qc1 ..
 | m+1,x0,x1,x2=>by
  have ih:(fun x0 x1 x2=>LQ qe D n 15 [.r,.l,.r,.l] m (qja x0 x1 x2) K)=qjp D n (fun v0_0 v0_1=>K (Ex.ret) (qma v0_0 v0_1)) (K (Ex.exit 0) (ql1)) m:=by funext x0 x1 x2;exact qxk D n K m x0 x1 x2
  rw[q6u]
  rw[ih];rfl
theorem q3b (D:DX)(n:Nat) (v0_0:Int) (v0_1:Bool) :
 (CQ qe D n 15 [] [.r,.l,.r,.l] (qy qe 15)) (Ex.ret) (qma v0_0 v0_1)=qpq D n v0_0 v0_1:=by kernel_rfl
theorem q41 (D:DX)(n:Nat) :
 (CQ qe D n 15 [] [.r,.l,.r,.l] (qy qe 15)) (Ex.exit 0) (ql1)=qqj D n:=by kernel_rfl
theorem q4a (D:DX)(n:Nat) (x0:List (Int×Int×Unit)) (x1:Int) (x2:Int) :
 LQ qe D n 15 [.r,.l,.r,.l] n (qja x0 x1 x2) (CQ qe D n 15 [] [.r,.l,.r,.l] (qy qe 15))=qr9 D n x0 x1 x2:=by
 rw[qxk]
 simp only[q3b,q41]
 rfl
theorem q93 (D:DX)(n:Nat) (a0:List (Int×Int×Unit)) (a1:Int):rfC qe D n 15 (a0,(a1,()))=qu4 D n a0 a1:=by
 have h:rfC qe D n 15 (a0,(a1,()))=qu0 D n (fun x0 x1 x2=>LQ qe D n 15 [.r,.l,.r,.l] n (qja x0 x1 x2) (CQ qe D n 15 [] [.r,.l,.r,.l] (qy qe 15))) a0 a1:=by kernel_rfl
 rw[h]
 simp only[q4a]
 rfl

def qtr (D:DX)(n:Nat) (go:List (Int×Int×Unit)→Int→Int→Bool→Int→Option ((Int×Bool×Unit)×Unit)) (K0:Int→Bool→Option ((Int×Bool×Unit)×Unit)) (x0:List (Int×Int×Unit)) (x1:Int) (x2:Int) (x3:Bool) (x4:Int):Option ((Int×Bool×Unit)×Unit):=br (decide (x4<(↑(List.length x0):Int))) (br (decide (0≤x4)&&decide (x4<(↑(List.length x0):Int))) (br (decide (Prod.fst (List.getD x0 (Int.toNat x4) (0,0,()))=x1)) (br (decide (0≤x4)&&decide (x4<(↑(List.length x0):Int))) (go x0 x1 (Prod.fst (Prod.snd (List.getD x0 (Int.toNat x4) (0,0,())))) true (IntKind.wrap IntKind.i64 (x4+1))) none) (go x0 x1 x2 x3 (IntKind.wrap IntKind.i64 (x4+1)))) none) (K0 x2 x3)
def qjn (D:DX)(n:Nat) (K0:Int→Bool→Option ((Int×Bool×Unit)×Unit)):Nat→(List (Int×Int×Unit))→(Int)→(Int)→(Bool)→(Int)→Option ((Int×Bool×Unit)×Unit) | 0=>(fun x0 x1 x2 x3 x4=>none) | m+1=>(fun x0 x1 x2 x3 x4=>qtr D n (qjn D n K0 m) K0 x0 x1 x2 x3 x4)
def qpo (D:DX)(n:Nat) (v0_0:Int) (v0_1:Bool):Option ((Int×Bool×Unit)×Unit):=some ((v0_0,v0_1,()),())
def qrx (D:DX)(n:Nat):(List (Int×Int×Unit))→(Int)→(Int)→(Bool)→(Int)→Option ((Int×Bool×Unit)×Unit):=(fun x0 x1 x2 x3 x4=>qjn D n (fun v0_0 v0_1=>qpo D n v0_0 v0_1) n x0 x1 x2 x3 x4)
def qux (D:DX)(n:Nat) (lp0:List (Int×Int×Unit)→Int→Int→Bool→Int→Option ((Int×Bool×Unit)×Unit)) (a0:List (Int×Int×Unit)) (a1:Int):Option ((Int×Bool×Unit)×Unit):=lp0 a0 a1 0 false 0
def quw (D:DX)(n:Nat) (a0:List (Int×Int×Unit)) (a1:Int):Option ((Int×Bool×Unit)×Unit):=qux D n (qrx D n) a0 a1
def qjc (x0:List (Int×Int×Unit)) (x1:Int) (x2:Int) (x3:Bool) (x4:Int):St:=stq 29 [(0,AV.val (Ty.sl (Ty.pair yI (Ty.pair yI Ty.unit))) x0),(1,avI x1),(6,avI x2),(7,AV.val Ty.bool x3),(8,avI x4)] [] 
def qmd (v0_0:Int) (v0_1:Bool):St:=stq 29 [(6,avI v0_0),(7,AV.val Ty.bool v0_1)] [] 
theorem q59 (D:DX)(n:Nat) (m:Nat) (K:Ex→St→Option (Out ctx 16)) (x0:List (Int×Int×Unit)) (x1:Int) (x2:Int) (x3:Bool) (x4:Int) :
 LQ qe D n 16 [.r,.r,.r,.l,.r,.l] (m+1) (qjc x0 x1 x2 x3 x4) K=qtr D n (fun x0 x1 x2 x3 x4=>LQ qe D n 16 [.r,.r,.r,.l,.r,.l] m (qjc x0 x1 x2 x3 x4) K) (fun v0_0 v0_1=>K (Ex.exit 0) (qmd v0_0 v0_1)) x0 x1 x2 x3 x4:=by kernel_rfl
theorem qxj (D:DX)(n:Nat) (K:Ex→St→Option (Out ctx 16)):∀ (m:Nat) (x0:List (Int×Int×Unit)) (x1:Int) (x2:Int) (x3:Bool) (x4:Int),LQ qe D n 16 [.r,.r,.r,.l,.r,.l] m (qjc x0 x1 x2 x3 x4) K=qjn D n (fun v0_0 v0_1=>K (Ex.exit 0) (qmd v0_0 v0_1)) m x0 x1 x2 x3 x4
 | 0,x0,x1,x2,x3,x4=>qc1 ..
 | m+1,x0,x1,x2,x3,x4=>by
  have ih:(fun x0 x1 x2 x3 x4=>LQ qe D n 16 [.r,.r,.r,.l,.r,.l] m (qjc x0 x1 x2 x3 x4) K)=qjn D n (fun v0_0 v0_1=>K (Ex.exit 0) (qmd v0_0 v0_1)) m:=by funext x0 x1 x2 x3 x4;exact qxj D n K m x0 x1 x2 x3 x4
  rw[q59]
  rw[ih];rfl
theorem q4z (D:DX)(n:Nat) (v0_0:Int) (v0_1:Bool) :
 (CQ qe D n 16 [] [.r,.r,.r,.l,.r,.l] (qy qe 16)) (Ex.exit 0) (qmd v0_0 v0_1)=qpo D n v0_0 v0_1:=by kernel_rfl
theorem q4x (D:DX)(n:Nat) (x0:List (Int×Int×Unit)) (x1:Int) (x2:Int) (x3:Bool) (x4:Int) :
 LQ qe D n 16 [.r,.r,.r,.l,.r,.l] n (qjc x0 x1 x2 x3 x4) (CQ qe D n 16 [] [.r,.r,.r,.l,.r,.l] (qy qe 16))=qrx D n x0 x1 x2 x3 x4:=by
 rw[qxj]
 simp only[q4z]
 rfl
theorem q94 (D:DX)(n:Nat) (a0:List (Int×Int×Unit)) (a1:Int):rfC qe D n 16 (a0,(a1,()))=quw D n a0 a1:=by
 have h:rfC qe D n 16 (a0,(a1,()))=qux D n (fun x0 x1 x2 x3 x4=>LQ qe D n 16 [.r,.r,.r,.l,.r,.l] n (qjc x0 x1 x2 x3 x4) (CQ qe D n 16 [] [.r,.r,.r,.l,.r,.l] (qy qe 16))) a0 a1:=by kernel_rfl
 rw[h]
 simp only[q4x]
 rfl

def q0h (D:DX)(n:Nat) (a0:Int×Int×Int×Unit) (a1:List (Int×Int×Unit)):Option ((Int×Unit)×Unit):=qd (qqs D a0) fun b↦br (!Prod.fst (Prod.fst b)) (some ((-1,()),())) (qd (qtk D a0 a1) fun b↦some ((Prod.fst (Prod.snd (Prod.fst (Prod.fst b))),()),()))
def qu5 (D:DX)(n:Nat) (a0:Int×Int×Int×Unit) (a1:List (Int×Int×Unit)):Option ((Int×Unit)×Unit):=q0h D n a0 a1
theorem qbav (D:DX)(n:Nat) (a0:Int×Int×Int×Unit) (a1:List (Int×Int×Unit)):rfC qe D n 17 (a0,(a1,()))=qu5 D n a0 a1:=by kernel_rfl

def qud (D:DX)(n:Nat) (a0:Bool×(Int×List Int×Unit)×List (Int×Int×Int×Unit)×Unit) (a1:Bool×(Int×List Int×Unit)×List (Int×Int×Int×Unit)×Unit):Option ((Bool×Unit)×Unit):=br (decide (Prod.fst a0=Prod.fst a1)) (qd (qvj D (Prod.fst (Prod.snd a0)) (Prod.fst (Prod.snd a1))) fun b↦br (Prod.fst (Prod.fst b)) (qd (qlr D (Prod.fst (Prod.snd (Prod.snd a0))) (Prod.fst (Prod.snd (Prod.snd a1)))) fun b↦some ((Prod.fst (Prod.fst b),()),())) (some ((false,()),()))) (some ((false,()),()))
def qoo (D:DX)(n:Nat) (a0:Bool×(Int×List Int×Unit)×List (Int×Int×Int×Unit)×Unit) (a1:Bool×(Int×List Int×Unit)×List (Int×Int×Int×Unit)×Unit):Option ((Bool×Unit)×Unit):=qud D n a0 a1
theorem q1y (D:DX)(n:Nat) (a0:Bool×(Int×List Int×Unit)×List (Int×Int×Int×Unit)×Unit) (a1:Bool×(Int×List Int×Unit)×List (Int×Int×Int×Unit)×Unit):rfC qe D n 18 (a0,(a1,()))=qoo D n a0 a1:=by kernel_rfl

def q0g (D:DX)(n:Nat) (a0:Int×Int×Int×Unit):Option ((Bool×Unit)×Unit):=br (decide (Prod.fst a0=1)) (br (decide (Prod.fst a0=1)) (qd (qfo D (Prod.fst (Prod.snd a0))) fun b↦br (Prod.fst (Prod.fst b)) (qd (qby D (Prod.fst (Prod.snd (Prod.snd a0)))) fun b↦some ((Prod.fst (Prod.fst b),()),())) (some ((false,()),()))) (br (decide (Prod.fst a0=3)) (br (decide (Prod.fst a0=3)) (qd (qfo D (Prod.fst (Prod.snd a0))) fun b↦some ((bif Prod.fst (Prod.fst b) then decide (Prod.fst (Prod.snd (Prod.snd a0))=0) else false,()),())) (br (decide (Prod.fst a0=5)) (br (decide (Prod.fst a0=5)) (br (decide (Prod.fst (Prod.snd a0)=0)) (qd (qby D (Prod.fst (Prod.snd (Prod.snd a0)))) fun b↦some ((Prod.fst (Prod.fst b),()),())) (some ((false,()),()))) (br (decide (Prod.fst a0=6)) (qd (qdn D (Prod.fst (Prod.snd a0))) fun b↦some ((bif Prod.fst (Prod.fst b) then decide (Prod.fst (Prod.snd (Prod.snd a0))=0) else false,()),())) (br (decide (Prod.fst a0=7)) (br (decide (Prod.fst a0=7)) (some ((bif decide (Prod.fst (Prod.snd a0)=0) then decide (Prod.fst (Prod.snd (Prod.snd a0))=0) else false,()),())) (some ((false,()),()))) (br (decide (Prod.fst a0=8)) (br (decide (Prod.fst a0=8)) (some ((bif decide (Prod.fst (Prod.snd a0)=0) then decide (Prod.fst (Prod.snd (Prod.snd a0))=0) else false,()),())) (some ((false,()),()))) (br (decide (Prod.fst a0=9)) (some ((bif decide (Prod.fst (Prod.snd a0)=0) then decide (Prod.fst (Prod.snd (Prod.snd a0))=0) else false,()),())) (some ((false,()),()))))))) (br (decide (Prod.fst a0=10)) (br (decide (Prod.fst (Prod.snd a0)=0)) (qd (qby D (Prod.fst (Prod.snd (Prod.snd a0)))) fun b↦some ((Prod.fst (Prod.fst b),()),())) (some ((false,()),()))) (br (decide (Prod.fst a0=6)) (qd (qdn D (Prod.fst (Prod.snd a0))) fun b↦some ((bif Prod.fst (Prod.fst b) then decide (Prod.fst (Prod.snd (Prod.snd a0))=0) else false,()),())) (br (decide (Prod.fst a0=7)) (br (decide (Prod.fst a0=7)) (some ((bif decide (Prod.fst (Prod.snd a0)=0) then decide (Prod.fst (Prod.snd (Prod.snd a0))=0) else false,()),())) (some ((false,()),()))) (br (decide (Prod.fst a0=8)) (br (decide (Prod.fst a0=8)) (some ((bif decide (Prod.fst (Prod.snd a0)=0) then decide (Prod.fst (Prod.snd (Prod.snd a0))=0) else false,()),())) (some ((false,()),()))) (br (decide (Prod.fst a0=9)) (some ((bif decide (Prod.fst (Prod.snd a0)=0) then decide (Prod.fst (Prod.snd (Prod.snd a0))=0) else false,()),())) (some ((false,()),()))))))))) (br (decide (Prod.fst a0=4)) (qd (qfo D (Prod.fst (Prod.snd a0))) fun b↦some ((bif Prod.fst (Prod.fst b) then decide (Prod.fst (Prod.snd (Prod.snd a0))=0) else false,()),())) (br (decide (Prod.fst a0=5)) (br (decide (Prod.fst a0=5)) (br (decide (Prod.fst (Prod.snd a0)=0)) (qd (qby D (Prod.fst (Prod.snd (Prod.snd a0)))) fun b↦some ((Prod.fst (Prod.fst b),()),())) (some ((false,()),()))) (br (decide (Prod.fst a0=6)) (qd (qdn D (Prod.fst (Prod.snd a0))) fun b↦some ((bif Prod.fst (Prod.fst b) then decide (Prod.fst (Prod.snd (Prod.snd a0))=0) else false,()),())) (br (decide (Prod.fst a0=7)) (br (decide (Prod.fst a0=7)) (some ((bif decide (Prod.fst (Prod.snd a0)=0) then decide (Prod.fst (Prod.snd (Prod.snd a0))=0) else false,()),())) (some ((false,()),()))) (br (decide (Prod.fst a0=8)) (br (decide (Prod.fst a0=8)) (some ((bif decide (Prod.fst (Prod.snd a0)=0) then decide (Prod.fst (Prod.snd (Prod.snd a0))=0) else false,()),())) (some ((false,()),()))) (br (decide (Prod.fst a0=9)) (some ((bif decide (Prod.fst (Prod.snd a0)=0) then decide (Prod.fst (Prod.snd (Prod.snd a0))=0) else false,()),())) (some ((false,()),()))))))) (br (decide (Prod.fst a0=10)) (br (decide (Prod.fst (Prod.snd a0)=0)) (qd (qby D (Prod.fst (Prod.snd (Prod.snd a0)))) fun b↦some ((Prod.fst (Prod.fst b),()),())) (some ((false,()),()))) (br (decide (Prod.fst a0=6)) (qd (qdn D (Prod.fst (Prod.snd a0))) fun b↦some ((bif Prod.fst (Prod.fst b) then decide (Prod.fst (Prod.snd (Prod.snd a0))=0) else false,()),())) (br (decide (Prod.fst a0=7)) (br (decide (Prod.fst a0=7)) (some ((bif decide (Prod.fst (Prod.snd a0)=0) then decide (Prod.fst (Prod.snd (Prod.snd a0))=0) else false,()),())) (some ((false,()),()))) (br (decide (Prod.fst a0=8)) (br (decide (Prod.fst a0=8)) (some ((bif decide (Prod.fst (Prod.snd a0)=0) then decide (Prod.fst (Prod.snd (Prod.snd a0))=0) else false,()),())) (some ((false,()),()))) (br (decide (Prod.fst a0=9)) (some ((bif decide (Prod.fst (Prod.snd a0)=0) then decide (Prod.fst (Prod.snd (Prod.snd a0))=0) else false,()),())) (some ((false,()),()))))))))))) (br (decide (Prod.fst a0=2)) (qd (qfo D (Prod.fst (Prod.snd a0))) fun b↦br (Prod.fst (Prod.fst b)) (qd (qby D (Prod.fst (Prod.snd (Prod.snd a0)))) fun b↦some ((Prod.fst (Prod.fst b),()),())) (some ((false,()),()))) (br (decide (Prod.fst a0=3)) (br (decide (Prod.fst a0=3)) (qd (qfo D (Prod.fst (Prod.snd a0))) fun b↦some ((bif Prod.fst (Prod.fst b) then decide (Prod.fst (Prod.snd (Prod.snd a0))=0) else false,()),())) (br (decide (Prod.fst a0=5)) (br (decide (Prod.fst a0=5)) (br (decide (Prod.fst (Prod.snd a0)=0)) (qd (qby D (Prod.fst (Prod.snd (Prod.snd a0)))) fun b↦some ((Prod.fst (Prod.fst b),()),())) (some ((false,()),()))) (br (decide (Prod.fst a0=6)) (qd (qdn D (Prod.fst (Prod.snd a0))) fun b↦some ((bif Prod.fst (Prod.fst b) then decide (Prod.fst (Prod.snd (Prod.snd a0))=0) else false,()),())) (br (decide (Prod.fst a0=7)) (br (decide (Prod.fst a0=7)) (some ((bif decide (Prod.fst (Prod.snd a0)=0) then decide (Prod.fst (Prod.snd (Prod.snd a0))=0) else false,()),())) (some ((false,()),()))) (br (decide (Prod.fst a0=8)) (br (decide (Prod.fst a0=8)) (some ((bif decide (Prod.fst (Prod.snd a0)=0) then decide (Prod.fst (Prod.snd (Prod.snd a0))=0) else false,()),())) (some ((false,()),()))) (br (decide (Prod.fst a0=9)) (some ((bif decide (Prod.fst (Prod.snd a0)=0) then decide (Prod.fst (Prod.snd (Prod.snd a0))=0) else false,()),())) (some ((false,()),()))))))) (br (decide (Prod.fst a0=10)) (br (decide (Prod.fst (Prod.snd a0)=0)) (qd (qby D (Prod.fst (Prod.snd (Prod.snd a0)))) fun b↦some ((Prod.fst (Prod.fst b),()),())) (some ((false,()),()))) (br (decide (Prod.fst a0=6)) (qd (qdn D (Prod.fst (Prod.snd a0))) fun b↦some ((bif Prod.fst (Prod.fst b) then decide (Prod.fst (Prod.snd (Prod.snd a0))=0) else false,()),())) (br (decide (Prod.fst a0=7)) (br (decide (Prod.fst a0=7)) (some ((bif decide (Prod.fst (Prod.snd a0)=0) then decide (Prod.fst (Prod.snd (Prod.snd a0))=0) else false,()),())) (some ((false,()),()))) (br (decide (Prod.fst a0=8)) (br (decide (Prod.fst a0=8)) (some ((bif decide (Prod.fst (Prod.snd a0)=0) then decide (Prod.fst (Prod.snd (Prod.snd a0))=0) else false,()),())) (some ((false,()),()))) (br (decide (Prod.fst a0=9)) (some ((bif decide (Prod.fst (Prod.snd a0)=0) then decide (Prod.fst (Prod.snd (Prod.snd a0))=0) else false,()),())) (some ((false,()),()))))))))) (br (decide (Prod.fst a0=4)) (qd (qfo D (Prod.fst (Prod.snd a0))) fun b↦some ((bif Prod.fst (Prod.fst b) then decide (Prod.fst (Prod.snd (Prod.snd a0))=0) else false,()),())) (br (decide (Prod.fst a0=5)) (br (decide (Prod.fst a0=5)) (br (decide (Prod.fst (Prod.snd a0)=0)) (qd (qby D (Prod.fst (Prod.snd (Prod.snd a0)))) fun b↦some ((Prod.fst (Prod.fst b),()),())) (some ((false,()),()))) (br (decide (Prod.fst a0=6)) (qd (qdn D (Prod.fst (Prod.snd a0))) fun b↦some ((bif Prod.fst (Prod.fst b) then decide (Prod.fst (Prod.snd (Prod.snd a0))=0) else false,()),())) (br (decide (Prod.fst a0=7)) (br (decide (Prod.fst a0=7)) (some ((bif decide (Prod.fst (Prod.snd a0)=0) then decide (Prod.fst (Prod.snd (Prod.snd a0))=0) else false,()),())) (some ((false,()),()))) (br (decide (Prod.fst a0=8)) (br (decide (Prod.fst a0=8)) (some ((bif decide (Prod.fst (Prod.snd a0)=0) then decide (Prod.fst (Prod.snd (Prod.snd a0))=0) else false,()),())) (some ((false,()),()))) (br (decide (Prod.fst a0=9)) (some ((bif decide (Prod.fst (Prod.snd a0)=0) then decide (Prod.fst (Prod.snd (Prod.snd a0))=0) else false,()),())) (some ((false,()),()))))))) (br (decide (Prod.fst a0=10)) (br (decide (Prod.fst (Prod.snd a0)=0)) (qd (qby D (Prod.fst (Prod.snd (Prod.snd a0)))) fun b↦some ((Prod.fst (Prod.fst b),()),())) (some ((false,()),()))) (br (decide (Prod.fst a0=6)) (qd (qdn D (Prod.fst (Prod.snd a0))) fun b↦some ((bif Prod.fst (Prod.fst b) then decide (Prod.fst (Prod.snd (Prod.snd a0))=0) else false,()),())) (br (decide (Prod.fst a0=7)) (br (decide (Prod.fst a0=7)) (some ((bif decide (Prod.fst (Prod.snd a0)=0) then decide (Prod.fst (Prod.snd (Prod.snd a0))=0) else false,()),())) (some ((false,()),()))) (br (decide (Prod.fst a0=8)) (br (decide (Prod.fst a0=8)) (some ((bif decide (Prod.fst (Prod.snd a0)=0) then decide (Prod.fst (Prod.snd (Prod.snd a0))=0) else false,()),())) (some ((false,()),()))) (br (decide (Prod.fst a0=9)) (some ((bif decide (Prod.fst (Prod.snd a0)=0) then decide (Prod.fst (Prod.snd (Prod.snd a0))=0) else false,()),())) (some ((false,()),())))))))))))
def quz (D:DX)(n:Nat) (a0:Int×Int×Int×Unit):Option ((Bool×Unit)×Unit):=q0g D n a0
theorem qbap (D:DX)(n:Nat) (a0:Int×Int×Int×Unit):rfC qe D n 24 (a0,())=quz D n a0:=by kernel_rfl

def qrp (D:DX)(n:Nat) (go:List Int→Int→Int→Option ((tCur×Unit)×Unit)) (K0:List Int→Int→Option ((tCur×Unit)×Unit)) (x0:List Int) (x1:Int) (x2:Int):Option ((tCur×Unit)×Unit):=br (bif decide (x2<(↑(List.length x0):Int)) then decide (x2<4000) else false) (br (decide (0≤x2)&&decide (x2<(↑(List.length x0):Int))) (go x0 (IntKind.wrap IntKind.i64 (↑(BitVec.toNat (BitVec.and (BitVec.ofInt (IntKind.bits IntKind.i64) (IntKind.wrap IntKind.i64 (IntKind.wrap IntKind.i64 (IntKind.wrap IntKind.i64 (x1 * 131)+IntKind.wrap IntKind.i64 (List.getD x0 (Int.toNat x2) 0))+7))) (BitVec.ofInt (IntKind.bits IntKind.i64) 1073741823))):Int)) (IntKind.wrap IntKind.i64 (x2+1))) none) (K0 x0 x1)
def qh1 (D:DX)(n:Nat) (K0:List Int→Int→Option ((tCur×Unit)×Unit)):Nat→(List Int)→(Int)→(Int)→Option ((tCur×Unit)×Unit) | 0=>(fun x0 x1 x2=>none) | m+1=>(fun x0 x1 x2=>qrp D n (qh1 D n K0 m) K0 x0 x1 x2)
def qou (D:DX)(n:Nat) (v0_0:List Int) (v0_1:Int):Option ((tCur×Unit)×Unit):=some (((v0_0,0,v0_1,()),()),())
def qpf (D:DX)(n:Nat):(List Int)→(Int)→(Int)→Option ((tCur×Unit)×Unit):=(fun x0 x1 x2=>qh1 D n (fun v0_0 v0_1=>qou D n v0_0 v0_1) n x0 x1 x2)
def qs6 (D:DX)(n:Nat) (lp0:List Int→Int→Int→Option ((tCur×Unit)×Unit)) (a0:List Int):Option ((tCur×Unit)×Unit):=lp0 a0 (IntKind.wrap IntKind.i64 (27323+(↑(List.length a0):Int))) 0
def qtz (D:DX)(n:Nat) (a0:List Int):Option ((tCur×Unit)×Unit):=qs6 D n (qpf D n) a0
def qic (x0:List Int) (x1:Int) (x2:Int):St:=stq 32 [(0,AV.val (Ty.sl (Ty.int IntKind.u8)) x0),(3,avI x1),(4,avI x2)] [] 
def qk3 (v0_0:List Int) (v0_1:Int):St:=stq 32 [(0,AV.val (Ty.sl (Ty.int IntKind.u8)) v0_0),(3,avI v0_1)] [] 
theorem q4f (D:DX)(n:Nat) (m:Nat) (K:Ex→St→Option (Out ctx 26)) (x0:List Int) (x1:Int) (x2:Int) :
 LQ qe D n 26 [.r,.r,.l,.r,.l] (m+1) (qic x0 x1 x2) K=qrp D n (fun x0 x1 x2=>LQ qe D n 26 [.r,.r,.l,.r,.l] m (qic x0 x1 x2) K) (fun v0_0 v0_1=>K (Ex.exit 0) (qk3 v0_0 v0_1)) x0 x1 x2:=by kernel_rfl
theorem qvy (D:DX)(n:Nat) (K:Ex→St→Option (Out ctx 26)):∀ (m:Nat) (x0:List Int) (x1:Int) (x2:Int),LQ qe D n 26 [.r,.r,.l,.r,.l] m (qic x0 x1 x2) K=qh1 D n (fun v0_0 v0_1=>K (Ex.exit 0) (qk3 v0_0 v0_1)) m x0 x1 x2
 | 0,x0,x1,x2=>qc1 ..
 | m+1,x0,x1,x2=>by
  have ih:(fun x0 x1 x2=>LQ qe D n 26 [.r,.r,.l,.r,.l] m (qic x0 x1 x2) K)=qh1 D n (fun v0_0 v0_1=>K (Ex.exit 0) (qk3 v0_0 v0_1)) m:=by funext x0 x1 x2;exact qvy D n K m x0 x1 x2
  rw[q4f]
  rw[ih];rfl
theorem q2m (D:DX)(n:Nat) (v0_0:List Int) (v0_1:Int) :
 (CQ qe D n 26 [] [.r,.r,.l,.r,.l] (qy qe 26)) (Ex.exit 0) (qk3 v0_0 v0_1)=qou D n v0_0 v0_1:=by kernel_rfl
theorem q2i (D:DX)(n:Nat) (x0:List Int) (x1:Int) (x2:Int) :
 LQ qe D n 26 [.r,.r,.l,.r,.l] n (qic x0 x1 x2) (CQ qe D n 26 [] [.r,.r,.l,.r,.l] (qy qe 26))=qpf D n x0 x1 x2:=by
 rw[qvy]
 simp only[q2m]
 rfl
theorem q9g (D:DX)(n:Nat) (a0:List Int):rfC qe D n 26 (a0,())=qtz D n a0:=by
 have h:rfC qe D n 26 (a0,())=qs6 D n (fun x0 x1 x2=>LQ qe D n 26 [.r,.r,.l,.r,.l] n (qic x0 x1 x2) (CQ qe D n 26 [] [.r,.r,.l,.r,.l] (qy qe 26))) a0:=by kernel_rfl
 rw[h]
 simp only[q2i]
 rfl

def qkv (D:DX)(n:Nat) (go:Int→List Int×Int×Int×Unit→List Int×Int×Unit→List Int×Int×Unit→Option (((List Int×Int×Unit)×Unit)×tCur×Unit)) (K0:List Int×Int×Int×Unit→List Int×Int×Unit→List Int×Int×Unit→Option (((List Int×Int×Unit)×Unit)×tCur×Unit)) (x0:Int) (x1:List Int×Int×Int×Unit) (x2:List Int×Int×Unit) (x3:List Int×Int×Unit):Option (((List Int×Int×Unit)×Unit)×tCur×Unit):=br (decide (x0<4)) (qd (qbc D x1 7) fun b↦qd (qor D (Prod.fst x3,Prod.snd x3) (Prod.fst (Prod.fst b))) fun b_1↦br (decide (Prod.fst (Prod.fst b_1)<0)) (br (decide (0≤x0)&&decide (x0<(↑(List.length (Prod.fst x3)):Int))) (go (IntKind.wrap IntKind.i64 (x0+1)) (Prod.fst (Prod.snd b)) x2 (List.set (Prod.fst x3) (Int.toNat x0) (Prod.fst (Prod.fst b)),Prod.snd x3)) none) (go (IntKind.wrap IntKind.i64 (x0+1)) (Prod.fst (Prod.snd b)) x2 x3)) (K0 x1 x2 x3)
def qet (D:DX)(n:Nat) (K0:List Int×Int×Int×Unit→List Int×Int×Unit→List Int×Int×Unit→Option (((List Int×Int×Unit)×Unit)×tCur×Unit)):Nat→(Int)→tCur→(List Int×Int×Unit)→(List Int×Int×Unit)→Option (((List Int×Int×Unit)×Unit)×tCur×Unit) | 0=>(fun x0 x1 x2 x3=>none) | m+1=>(fun x0 x1 x2 x3=>qkv D n (qet D n K0 m) K0 x0 x1 x2 x3)
def qgx (D:DX)(n:Nat) (v0_0:List Int×Int×Int×Unit) (v0_1:List Int×Int×Unit) (v0_2:List Int×Int×Unit):Option (((List Int×Int×Unit)×Unit)×tCur×Unit):=qd (qj0 D v0_0 [0,0,1,3,5]) fun b↦some (((Prod.fst v0_2,Prod.fst (Prod.fst b),Prod.snd (Prod.snd v0_2)),()),Prod.fst (Prod.snd b),())
def qj8 (D:DX)(n:Nat):(Int)→tCur→(List Int×Int×Unit)→(List Int×Int×Unit)→Option (((List Int×Int×Unit)×Unit)×tCur×Unit):=(fun x0 x1 x2 x3=>qet D n (fun v0_0 v0_1 v0_2=>qgx D n v0_0 v0_1 v0_2) n x0 x1 x2 x3)
def qlb (D:DX)(n:Nat) (lp0:Int→List Int×Int×Int×Unit→List Int×Int×Unit→List Int×Int×Unit→Option (((List Int×Int×Unit)×Unit)×tCur×Unit)) (a0:List Int×Int×Int×Unit):Option (((List Int×Int×Unit)×Unit)×tCur×Unit):=qd (qpt D) fun b↦lp0 0 a0 ([],0,()) (Prod.fst (Prod.fst (Prod.fst b)),Prod.snd (Prod.fst (Prod.fst b)))
def qly (D:DX)(n:Nat) (a0:List Int×Int×Int×Unit):Option (((List Int×Int×Unit)×Unit)×tCur×Unit):=qlb D n (qj8 D n) a0
def qew (x0:Int) (x1:List Int×Int×Int×Unit) (x2:List Int×Int×Unit) (x3:List Int×Int×Unit):St:=stq 27 [(0,AV.addr 0 []),(2,AV.addr 2 []),(3,AV.addr 3 []),(4,avI x0)] [(0,Root.mk (Ty.pair (Ty.sl (Ty.int IntKind.u8)) (Ty.pair yI (Ty.pair yI Ty.unit))) Mk.no x1 true),(2,Root.mk (Ty.pair (Ty.sl yI) (Ty.pair yI Ty.unit)) (Mk.pr (Mk.own 0 Mk.no) Mk.no) x2 true),(3,Root.mk (Ty.pair (Ty.sl yI) (Ty.pair yI Ty.unit)) (Mk.pr (Mk.own 0 Mk.no) Mk.no) x3 true)] 
def qgy (v0_0:List Int×Int×Int×Unit) (v0_1:List Int×Int×Unit) (v0_2:List Int×Int×Unit):St:=stq 27 [(0,AV.addr 0 []),(2,AV.addr 2 []),(3,AV.addr 3 [])] [(0,Root.mk (Ty.pair (Ty.sl (Ty.int IntKind.u8)) (Ty.pair yI (Ty.pair yI Ty.unit))) Mk.no v0_0 true),(2,Root.mk (Ty.pair (Ty.sl yI) (Ty.pair yI Ty.unit)) (Mk.pr (Mk.own 0 Mk.no) Mk.no) v0_1 true),(3,Root.mk (Ty.pair (Ty.sl yI) (Ty.pair yI Ty.unit)) (Mk.pr (Mk.own 0 Mk.no) Mk.no) v0_2 true)] 
theorem qwn (D:DX)(n:Nat) (m:Nat) (K:Ex→St→Option (Out ctx 27)) (x0:Int) (x1:List Int×Int×Int×Unit) (x2:List Int×Int×Unit) (x3:List Int×Int×Unit) :
 LQ qe D n 27 [.r,.r,.l,.r,.l] (m+1) (qew x0 x1 x2 x3) K=qkv D n (fun x0 x1 x2 x3=>LQ qe D n 27 [.r,.r,.l,.r,.l] m (qew x0 x1 x2 x3) K) (fun v0_0 v0_1 v0_2=>K (Ex.exit 0) (qgy v0_0 v0_1 v0_2)) x0 x1 x2 x3:=by kernel_rfl
theorem qn7 (D:DX)(n:Nat) (K:Ex→St→Option (Out ctx 27)):∀ (m:Nat) (x0:Int) (x1:List Int×Int×Int×Unit) (x2:List Int×Int×Unit) (x3:List Int×Int×Unit),LQ qe D n 27 [.r,.r,.l,.r,.l] m (qew x0 x1 x2 x3) K=qet D n (fun v0_0 v0_1 v0_2=>K (Ex.exit 0) (qgy v0_0 v0_1 v0_2)) m x0 x1 x2 x3
 | 0,x0,x1,x2,x3=>qc1 ..
 | m+1,x0,x1,x2,x3=>by
  have ih:(fun x0 x1 x2 x3=>LQ qe D n 27 [.r,.r,.l,.r,.l] m (qew x0 x1 x2 x3) K)=qet D n (fun v0_0 v0_1 v0_2=>K (Ex.exit 0) (qgy v0_0 v0_1 v0_2)) m:=by funext x0 x1 x2 x3;exact qn7 D n K m x0 x1 x2 x3
  rw[qwn]
  rw[ih];rfl
theorem qv3 (D:DX)(n:Nat) (v0_0:List Int×Int×Int×Unit) (v0_1:List Int×Int×Unit) (v0_2:List Int×Int×Unit) :
 (CQ qe D n 27 [] [.r,.r,.l,.r,.l] (qy qe 27)) (Ex.exit 0) (qgy v0_0 v0_1 v0_2)=qgx D n v0_0 v0_1 v0_2:=by kernel_rfl
theorem qwa (D:DX)(n:Nat) (x0:Int) (x1:List Int×Int×Int×Unit) (x2:List Int×Int×Unit) (x3:List Int×Int×Unit) :
 LQ qe D n 27 [.r,.r,.l,.r,.l] n (qew x0 x1 x2 x3) (CQ qe D n 27 [] [.r,.r,.l,.r,.l] (qy qe 27))=qj8 D n x0 x1 x2 x3:=by
 rw[qn7]
 simp only[qv3]
 rfl
theorem qyd (D:DX)(n:Nat) (a0:List Int×Int×Int×Unit):rfC qe D n 27 (a0,())=qly D n a0:=by
 have h:rfC qe D n 27 (a0,())=qlb D n (fun x0 x1 x2 x3=>LQ qe D n 27 [.r,.r,.l,.r,.l] n (qew x0 x1 x2 x3) (CQ qe D n 27 [] [.r,.r,.l,.r,.l] (qy qe 27))) a0:=by kernel_rfl
 rw[h]
 simp only[qwa]
 rfl

def qq4 (D:DX)(n:Nat) (a0:List Int×Int×Int×Unit):Option (((Int×Int×Int×Unit)×Unit)×tCur×Unit):=qd (qj0 D a0 (List.set (List.set (List.set (List.set (List.set (List.set (List.set (List.set (List.set (List.set (List.set (List.set (List.set (List.set (List.replicate 14 0) 0 1) 1 1) 2 1) 3 2) 4 2) 5 3) 6 4) 7 5) 8 6) 9 7) 10 8) 11 9) 12 9) 13 10)) fun b↦qd (qoz D (Prod.fst (Prod.fst b))) fun b_1↦br (Prod.fst (Prod.fst b_1)) (qd (qbc D (Prod.fst (Prod.snd b)) 4) fun b_2↦br (decide (Prod.fst (Prod.fst b)=6)) (qd (qbc D (Prod.fst (Prod.snd b_2)) 3) fun b_3↦qd (qe2 D (Prod.fst (Prod.fst b))) fun b_4↦br (Prod.fst (Prod.fst b_4)) (qd (qbc D (Prod.fst (Prod.snd b_3)) 4) fun b_5↦some (((Prod.fst (Prod.fst b),Prod.fst (Prod.fst b_3),IntKind.wrap IntKind.i64 (1+Prod.fst (Prod.fst b_5)),()),()),Prod.fst (Prod.snd b_5),())) (some (((Prod.fst (Prod.fst b),Prod.fst (Prod.fst b_3),0,()),()),Prod.fst (Prod.snd b_3),()))) (qd (qe2 D (Prod.fst (Prod.fst b))) fun b_3↦br (Prod.fst (Prod.fst b_3)) (qd (qbc D (Prod.fst (Prod.snd b_2)) 4) fun b_4↦some (((Prod.fst (Prod.fst b),Prod.fst (Prod.fst b_2),IntKind.wrap IntKind.i64 (1+Prod.fst (Prod.fst b_4)),()),()),Prod.fst (Prod.snd b_4),())) (some (((Prod.fst (Prod.fst b),Prod.fst (Prod.fst b_2),0,()),()),Prod.fst (Prod.snd b_2),())))) (br (decide (Prod.fst (Prod.fst b)=6)) (qd (qbc D (Prod.fst (Prod.snd b)) 3) fun b_2↦qd (qe2 D (Prod.fst (Prod.fst b))) fun b_3↦br (Prod.fst (Prod.fst b_3)) (qd (qbc D (Prod.fst (Prod.snd b_2)) 4) fun b_4↦some (((Prod.fst (Prod.fst b),Prod.fst (Prod.fst b_2),IntKind.wrap IntKind.i64 (1+Prod.fst (Prod.fst b_4)),()),()),Prod.fst (Prod.snd b_4),())) (some (((Prod.fst (Prod.fst b),Prod.fst (Prod.fst b_2),0,()),()),Prod.fst (Prod.snd b_2),()))) (qd (qe2 D (Prod.fst (Prod.fst b))) fun b_2↦br (Prod.fst (Prod.fst b_2)) (qd (qbc D (Prod.fst (Prod.snd b)) 4) fun b_3↦some (((Prod.fst (Prod.fst b),0,IntKind.wrap IntKind.i64 (1+Prod.fst (Prod.fst b_3)),()),()),Prod.fst (Prod.snd b_3),())) (some (((Prod.fst (Prod.fst b),0,0,()),()),Prod.fst (Prod.snd b),()))))
def qlw (D:DX)(n:Nat) (a0:List Int×Int×Int×Unit):Option (((Int×Int×Int×Unit)×Unit)×tCur×Unit):=qq4 D n a0
theorem qx6 (D:DX)(n:Nat) (a0:List Int×Int×Int×Unit):rfC qe D n 28 (a0,())=qlw D n a0:=by kernel_rfl

def qow (D:DX)(n:Nat) (go:Int→List Int×Int×Unit→List Int→Option ((List Int×Unit)×Unit)) (K0:List Int×Int×Unit→List Int→Option ((List Int×Unit)×Unit)) (x0:Int) (x1:List Int×Int×Unit) (x2:List Int):Option ((List Int×Unit)×Unit):=br (decide (x0<4)) (br (decide (0≤x0)&&decide (x0<(↑(List.length (Prod.fst x1)):Int))) (qd (qb7 D x0) fun b↦br (decide (0≤Prod.fst (Prod.fst b))&&decide (Prod.fst (Prod.fst b)<(↑(List.length x2):Int))) (br (decide (List.getD (Prod.fst x1) (Int.toNat x0) 0=0)) (go (IntKind.wrap IntKind.i64 (x0+1)) x1 (List.set x2 (Int.toNat (Prod.fst (Prod.fst b))) (List.getD (Prod.fst x1) (Int.toNat x0) 0))) (qd (qb9 D (List.getD (Prod.fst x1) (Int.toNat x0) 0)) fun b_1↦br (decide (0≤Prod.fst (Prod.fst b_1))&&decide (Prod.fst (Prod.fst b_1)<(↑(List.length (List.set x2 (Int.toNat (Prod.fst (Prod.fst b))) (List.getD (Prod.fst x1) (Int.toNat x0) 0))):Int))) (br (decide (x0<IntKind.wrap IntKind.i64 (Prod.fst (Prod.snd x1) - 1))) (qd (qcz D (List.getD (Prod.fst x1) (Int.toNat x0) 0)) fun b_2↦br (decide (0≤Prod.fst (Prod.fst b_2))&&decide (Prod.fst (Prod.fst b_2)<(↑(List.length (List.set (List.set x2 (Int.toNat (Prod.fst (Prod.fst b))) (List.getD (Prod.fst x1) (Int.toNat x0) 0)) (Int.toNat (Prod.fst (Prod.fst b_1))) (IntKind.wrap IntKind.i64 (x0+1)))):Int))) (go (IntKind.wrap IntKind.i64 (x0+1)) x1 (List.set (List.set (List.set x2 (Int.toNat (Prod.fst (Prod.fst b))) (List.getD (Prod.fst x1) (Int.toNat x0) 0)) (Int.toNat (Prod.fst (Prod.fst b_1))) (IntKind.wrap IntKind.i64 (x0+1))) (Int.toNat (Prod.fst (Prod.fst b_2))) (IntKind.wrap IntKind.i64 (x0+1)))) none) (go (IntKind.wrap IntKind.i64 (x0+1)) x1 (List.set (List.set x2 (Int.toNat (Prod.fst (Prod.fst b))) (List.getD (Prod.fst x1) (Int.toNat x0) 0)) (Int.toNat (Prod.fst (Prod.fst b_1))) (IntKind.wrap IntKind.i64 (x0+1))))) none)) none) none) (K0 x1 x2)
def qgu (D:DX)(n:Nat) (K0:List Int×Int×Unit→List Int→Option ((List Int×Unit)×Unit)):Nat→(Int)→(List Int×Int×Unit)→(List Int)→Option ((List Int×Unit)×Unit) | 0=>(fun x0 x1 x2=>none) | m+1=>(fun x0 x1 x2=>qow D n (qgu D n K0 m) K0 x0 x1 x2)
def qoj (D:DX)(n:Nat) (go:Int→List Int×Int×Unit→List Int→Option ((List Int×Unit)×Unit)) (K0:List Int×Int×Unit→List Int→Option ((List Int×Unit)×Unit)) (x1_0:Int) (x1_1:List Int×Int×Unit) (x1_2:List Int):Option ((List Int×Unit)×Unit):=br (decide (x1_0<3)) (qd (qd4 D x1_0) fun b↦qd (qo8 D x1_1 x1_0) fun b_1↦br (decide (0≤Prod.fst (Prod.fst b))&&decide (Prod.fst (Prod.fst b)<(↑(List.length x1_2):Int))) (go (IntKind.wrap IntKind.i64 (x1_0+1)) x1_1 (List.set x1_2 (Int.toNat (Prod.fst (Prod.fst b))) (Prod.fst (Prod.fst b_1)))) none) (K0 x1_1 x1_2)
def qgv (D:DX)(n:Nat) (K0:List Int×Int×Unit→List Int→Option ((List Int×Unit)×Unit)):Nat→(Int)→(List Int×Int×Unit)→(List Int)→Option ((List Int×Unit)×Unit) | 0=>(fun x1_0 x1_1 x1_2=>none) | m+1=>(fun x1_0 x1_1 x1_2=>qoj D n (qgv D n K0 m) K0 x1_0 x1_1 x1_2)
def qi0 (D:DX)(n:Nat) (v0_0:List Int×Int×Unit) (v0_1:List Int):Option ((List Int×Unit)×Unit):=qd (qb2 D) fun b↦br (decide (0≤Prod.fst (Prod.fst b))&&decide (Prod.fst (Prod.fst b)<(↑(List.length v0_1):Int))) (some ((List.set v0_1 (Int.toNat (Prod.fst (Prod.fst b))) (Prod.fst (Prod.snd v0_0)),()),())) none
def qka (D:DX)(n:Nat):(Int)→(List Int×Int×Unit)→(List Int)→Option ((List Int×Unit)×Unit):=(fun x1_0 x1_1 x1_2=>qgv D n (fun v0_0 v0_1=>qi0 D n v0_0 v0_1) n x1_0 x1_1 x1_2)
def qi1 (D:DX)(n:Nat) (lp1:Int→List Int×Int×Unit→List Int→Option ((List Int×Unit)×Unit)) (v0_0:List Int×Int×Unit) (v0_1:List Int):Option ((List Int×Unit)×Unit):=lp1 0 v0_0 v0_1
def qnf (D:DX)(n:Nat):(Int)→(List Int×Int×Unit)→(List Int)→Option ((List Int×Unit)×Unit):=(fun x0 x1 x2=>qgu D n (fun v0_0 v0_1=>qi1 D n (qka D n) v0_0 v0_1) n x0 x1 x2)
def qpv (D:DX)(n:Nat) (lp0:Int→List Int×Int×Unit→List Int→Option ((List Int×Unit)×Unit)) (a0:List Int×Int×Unit):Option ((List Int×Unit)×Unit):=qd (qrk D a0) fun b↦br (!Prod.fst (Prod.fst b)) (some (([],()),())) (lp0 0 a0 (List.replicate (Int.toNat 20) 0))
def qpk (D:DX)(n:Nat) (a0:List Int×Int×Unit):Option ((List Int×Unit)×Unit):=qpv D n (qnf D n) a0
def qgz (x0:Int) (x1:List Int×Int×Unit) (x2:List Int):St:=stq 62 [(1,AV.addr 1 []),(3,AV.brw 3 [] 0),(4,avI x0)] [(1,Root.mk (Ty.pair (Ty.sl yI) (Ty.pair yI Ty.unit)) Mk.no x1 true),(3,Root.mk (Ty.sl yI) (Mk.own 0 Mk.no) x2 false)] 
def qi4 (v0_0:List Int×Int×Unit) (v0_1:List Int):St:=stq 62 [(1,AV.addr 1 []),(3,AV.brw 3 [] 0)] [(1,Root.mk (Ty.pair (Ty.sl yI) (Ty.pair yI Ty.unit)) Mk.no v0_0 true),(3,Root.mk (Ty.sl yI) (Mk.own 0 Mk.no) v0_1 false)] 
def qgs (x1_0:Int) (x1_1:List Int×Int×Unit) (x1_2:List Int):St:=stq 62 [(1,AV.addr 1 []),(3,AV.brw 3 [] 0),(6,avI x1_0)] [(1,Root.mk (Ty.pair (Ty.sl yI) (Ty.pair yI Ty.unit)) Mk.no x1_1 true),(3,Root.mk (Ty.sl yI) (Mk.own 0 Mk.no) x1_2 false)] 
def qi6 (v0_0:List Int×Int×Unit) (v0_1:List Int):St:=stq 62 [(1,AV.addr 1 []),(3,AV.brw 3 [] 0)] [(1,Root.mk (Ty.pair (Ty.sl yI) (Ty.pair yI Ty.unit)) Mk.no v0_0 true),(3,Root.mk (Ty.sl yI) (Mk.own 0 Mk.no) v0_1 false)] 
theorem q0u (D:DX)(n:Nat) (m:Nat) (K:Ex→St→Option (Out ctx 29)) (x0:Int) (x1:List Int×Int×Unit) (x2:List Int) :
 LQ qe D n 29 [.r,.r,.r,.l,.r,.l] (m+1) (qgz x0 x1 x2) K=qow D n (fun x0 x1 x2=>LQ qe D n 29 [.r,.r,.r,.l,.r,.l] m (qgz x0 x1 x2) K) (fun v0_0 v0_1=>K (Ex.exit 0) (qi4 v0_0 v0_1)) x0 x1 x2:=by kernel_rfl
theorem qs1 (D:DX)(n:Nat) (K:Ex→St→Option (Out ctx 29)):∀ (m:Nat) (x0:Int) (x1:List Int×Int×Unit) (x2:List Int),LQ qe D n 29 [.r,.r,.r,.l,.r,.l] m (qgz x0 x1 x2) K=qgu D n (fun v0_0 v0_1=>K (Ex.exit 0) (qi4 v0_0 v0_1)) m x0 x1 x2
 | 0,x0,x1,x2=>qc1 ..
 | m+1,x0,x1,x2=>by
  have ih:(fun x0 x1 x2=>LQ qe D n 29 [.r,.r,.r,.l,.r,.l] m (qgz x0 x1 x2) K)=qgu D n (fun v0_0 v0_1=>K (Ex.exit 0) (qi4 v0_0 v0_1)) m:=by funext x0 x1 x2;exact qs1 D n K m x0 x1 x2
  rw[q0u]
  rw[ih];rfl
theorem q0n (D:DX)(n:Nat) (m:Nat) (K:Ex→St→Option (Out ctx 29)) (x1_0:Int) (x1_1:List Int×Int×Unit) (x1_2:List Int) :
 LQ qe D n 29 [.r,.r,.r,.r,.l,.r,.l] (m+1) (qgs x1_0 x1_1 x1_2) K=qoj D n (fun x1_0 x1_1 x1_2=>LQ qe D n 29 [.r,.r,.r,.r,.l,.r,.l] m (qgs x1_0 x1_1 x1_2) K) (fun v0_0 v0_1=>K (Ex.exit 2) (qi6 v0_0 v0_1)) x1_0 x1_1 x1_2:=by kernel_rfl
theorem qty (D:DX)(n:Nat) (K:Ex→St→Option (Out ctx 29)):∀ (m:Nat) (x1_0:Int) (x1_1:List Int×Int×Unit) (x1_2:List Int),LQ qe D n 29 [.r,.r,.r,.r,.l,.r,.l] m (qgs x1_0 x1_1 x1_2) K=qgv D n (fun v0_0 v0_1=>K (Ex.exit 2) (qi6 v0_0 v0_1)) m x1_0 x1_1 x1_2
 | 0,x1_0,x1_1,x1_2=>qc1 ..
 | m+1,x1_0,x1_1,x1_2=>by
  have ih:(fun x1_0 x1_1 x1_2=>LQ qe D n 29 [.r,.r,.r,.r,.l,.r,.l] m (qgs x1_0 x1_1 x1_2) K)=qgv D n (fun v0_0 v0_1=>K (Ex.exit 2) (qi6 v0_0 v0_1)) m:=by funext x1_0 x1_1 x1_2;exact qty D n K m x1_0 x1_1 x1_2
  rw[q0n]
  rw[ih];rfl
theorem qzs (D:DX)(n:Nat) (v0_0:List Int×Int×Unit) (v0_1:List Int) :
 (CQ qe D n 29 [] [.r,.r,.r,.r,.l,.r,.l] (qy qe 29)) (Ex.exit 2) (qi6 v0_0 v0_1)=qi0 D n v0_0 v0_1:=by kernel_rfl
theorem qzk (D:DX)(n:Nat) (x1_0:Int) (x1_1:List Int×Int×Unit) (x1_2:List Int) :
 LQ qe D n 29 [.r,.r,.r,.r,.l,.r,.l] n (qgs x1_0 x1_1 x1_2) (CQ qe D n 29 [] [.r,.r,.r,.r,.l,.r,.l] (qy qe 29))=qka D n x1_0 x1_1 x1_2:=by
 rw[qty]
 simp only[qzs]
 rfl
theorem qzj (D:DX)(n:Nat) (v0_0:List Int×Int×Unit) (v0_1:List Int) :
 (CQ qe D n 29 [] [.r,.r,.r,.l,.r,.l] (qy qe 29)) (Ex.exit 0) (qi4 v0_0 v0_1)=qi1 D n (fun x1_0 x1_1 x1_2=>LQ qe D n 29 [.r,.r,.r,.r,.l,.r,.l] n (qgs x1_0 x1_1 x1_2) (CQ qe D n 29 [] [.r,.r,.r,.r,.l,.r,.l] (qy qe 29))) v0_0 v0_1:=by kernel_rfl
theorem qzp (D:DX)(n:Nat) (x0:Int) (x1:List Int×Int×Unit) (x2:List Int) :
 LQ qe D n 29 [.r,.r,.r,.l,.r,.l] n (qgz x0 x1 x2) (CQ qe D n 29 [] [.r,.r,.r,.l,.r,.l] (qy qe 29))=qnf D n x0 x1 x2:=by
 rw[qs1]
 simp only[qzj,qzk]
 rfl
theorem q3p (D:DX)(n:Nat) (a0:List Int×Int×Unit):rfC qe D n 29 (a0,())=qpk D n a0:=by
 have h:rfC qe D n 29 (a0,())=qpv D n (fun x0 x1 x2=>LQ qe D n 29 [.r,.r,.r,.l,.r,.l] n (qgz x0 x1 x2) (CQ qe D n 29 [] [.r,.r,.r,.l,.r,.l] (qy qe 29))) a0:=by kernel_rfl
 rw[h]
 simp only[qzp]
 rfl

def qh8 (D:DX)(n:Nat) (go:Int→List (Int×Int×Unit)×List Int×Int×Bool×Unit→Option (((List (Int×Int×Unit)×List Int×Int×Bool×Unit)×Unit)×Unit)) (K0:List (Int×Int×Unit)×List Int×Int×Bool×Unit→Option (((List (Int×Int×Unit)×List Int×Int×Bool×Unit)×Unit)×Unit)) (x0:Int) (x1:List (Int×Int×Unit)×List Int×Int×Bool×Unit):Option (((List (Int×Int×Unit)×List Int×Int×Bool×Unit)×Unit)×Unit):=br (decide (x0<4)) (qd (qcs D x0) fun b↦qd (qj D x1 (Prod.fst (Prod.fst b))) fun b↦go (IntKind.wrap IntKind.i64 (x0+1)) (Prod.fst (Prod.snd b))) (K0 x1)
def qd3 (D:DX)(n:Nat) (K0:List (Int×Int×Unit)×List Int×Int×Bool×Unit→Option (((List (Int×Int×Unit)×List Int×Int×Bool×Unit)×Unit)×Unit)):Nat→(Int)→(List (Int×Int×Unit)×List Int×Int×Bool×Unit)→Option (((List (Int×Int×Unit)×List Int×Int×Bool×Unit)×Unit)×Unit) | 0=>(fun x0 x1=>none) | m+1=>(fun x0 x1=>qh8 D n (qd3 D n K0 m) K0 x0 x1)
def qkx (D:DX)(n:Nat) (v0_0:List (Int×Int×Unit)×List Int×Int×Bool×Unit):Option (((List (Int×Int×Unit)×List Int×Int×Bool×Unit)×Unit)×Unit):=some ((v0_0,()),())
def qmb (D:DX)(n:Nat):(Int)→(List (Int×Int×Unit)×List Int×Int×Bool×Unit)→Option (((List (Int×Int×Unit)×List Int×Int×Bool×Unit)×Unit)×Unit):=(fun x0 x1=>qd3 D n (fun v0_0=>qkx D n v0_0) n x0 x1)
def qny (D:DX)(n:Nat) (lp0:Int→List (Int×Int×Unit)×List Int×Int×Bool×Unit→Option (((List (Int×Int×Unit)×List Int×Int×Bool×Unit)×Unit)×Unit)) (a0:Int×Int×Int×Unit) (a1:List (Int×Int×Unit)):Option (((List (Int×Int×Unit)×List Int×Int×Bool×Unit)×Unit)×Unit):=br (decide (Prod.fst a0=1)) (br (decide (Prod.fst a0=1)) (qd (qcj D (a1,[],-1,false,()) a0) fun b↦some ((Prod.fst (Prod.snd b),()),())) (br (decide (Prod.fst a0=4)) (qd (qcs D (Prod.fst (Prod.snd a0))) fun b↦qd (qj D (a1,[],-1,false,()) (Prod.fst (Prod.fst b))) fun b↦some ((Prod.fst (Prod.snd b),()),())) (br (decide (Prod.fst a0=5)) (qd (qc8 D (Prod.fst (Prod.snd (Prod.snd a0)))) fun b↦qd (qj D (a1,[],-1,false,()) (Prod.fst (Prod.fst b))) fun b↦some ((Prod.fst (Prod.snd b),()),())) (br (decide (Prod.fst a0=6)) (qd (qc6 D (Prod.fst (Prod.snd a0))) fun b↦qd (qj D (a1,[],-1,false,()) (Prod.fst (Prod.fst b))) fun b↦some ((Prod.fst (Prod.snd b),()),())) (br (decide (Prod.fst a0=7)) (lp0 0 (a1,[],-1,false,())) (br (decide (Prod.fst a0=8)) (qd (qbl D) fun b↦qd (qj D (a1,[],-1,false,()) (Prod.fst (Prod.fst b))) fun b↦some ((Prod.fst (Prod.snd b),()),())) (br (decide (Prod.fst a0=9)) (qd (qbl D) fun b↦qd (qj D (a1,[],-1,false,()) (Prod.fst (Prod.fst b))) fun b↦qd (qv D (Prod.fst (Prod.snd b)) (bif decide (Prod.fst (Prod.fst b)<1) then true else decide (Prod.fst (Prod.fst b)>4))) fun b_1↦qd (qcs D (IntKind.wrap IntKind.i64 (Prod.fst (Prod.fst b) - 1))) fun b↦qd (qj D (Prod.fst (Prod.snd b_1)) (Prod.fst (Prod.fst b))) fun b↦qd (qby D (Prod.fst (Prod.fst b))) fun b_2↦qd (qv D (Prod.fst (Prod.snd b)) !Prod.fst (Prod.fst b_2)) fun b_3↦qd (qcq D (Prod.fst (Prod.fst b))) fun b↦qd (qj D (Prod.fst (Prod.snd b_3)) (Prod.fst (Prod.fst b))) fun b↦some ((Prod.fst (Prod.snd b),()),())) (br (decide (Prod.fst a0=10)) (qd (qbl D) fun b↦qd (qj D (a1,[],-1,false,()) (Prod.fst (Prod.fst b))) fun b↦qd (qv D (Prod.fst (Prod.snd b)) (Prod.fst (Prod.fst b) != 5)) fun b↦qd (qcq D (Prod.fst (Prod.snd (Prod.snd a0)))) fun b_1↦qd (qj D (Prod.fst (Prod.snd b)) (Prod.fst (Prod.fst b_1))) fun b↦some ((Prod.fst (Prod.snd b),()),())) (some (((a1,[],-1,false,()),()),())))))))))) (br (decide (Prod.fst a0=2)) (br (decide (Prod.fst a0=2)) (qd (qcj D (a1,[],-1,false,()) a0) fun b↦some ((Prod.fst (Prod.snd b),()),())) (br (decide (Prod.fst a0=4)) (qd (qcs D (Prod.fst (Prod.snd a0))) fun b↦qd (qj D (a1,[],-1,false,()) (Prod.fst (Prod.fst b))) fun b↦some ((Prod.fst (Prod.snd b),()),())) (br (decide (Prod.fst a0=5)) (qd (qc8 D (Prod.fst (Prod.snd (Prod.snd a0)))) fun b↦qd (qj D (a1,[],-1,false,()) (Prod.fst (Prod.fst b))) fun b↦some ((Prod.fst (Prod.snd b),()),())) (br (decide (Prod.fst a0=6)) (qd (qc6 D (Prod.fst (Prod.snd a0))) fun b↦qd (qj D (a1,[],-1,false,()) (Prod.fst (Prod.fst b))) fun b↦some ((Prod.fst (Prod.snd b),()),())) (br (decide (Prod.fst a0=7)) (lp0 0 (a1,[],-1,false,())) (br (decide (Prod.fst a0=8)) (qd (qbl D) fun b↦qd (qj D (a1,[],-1,false,()) (Prod.fst (Prod.fst b))) fun b↦some ((Prod.fst (Prod.snd b),()),())) (br (decide (Prod.fst a0=9)) (qd (qbl D) fun b↦qd (qj D (a1,[],-1,false,()) (Prod.fst (Prod.fst b))) fun b↦qd (qv D (Prod.fst (Prod.snd b)) (bif decide (Prod.fst (Prod.fst b)<1) then true else decide (Prod.fst (Prod.fst b)>4))) fun b_1↦qd (qcs D (IntKind.wrap IntKind.i64 (Prod.fst (Prod.fst b) - 1))) fun b↦qd (qj D (Prod.fst (Prod.snd b_1)) (Prod.fst (Prod.fst b))) fun b↦qd (qby D (Prod.fst (Prod.fst b))) fun b_2↦qd (qv D (Prod.fst (Prod.snd b)) !Prod.fst (Prod.fst b_2)) fun b_3↦qd (qcq D (Prod.fst (Prod.fst b))) fun b↦qd (qj D (Prod.fst (Prod.snd b_3)) (Prod.fst (Prod.fst b))) fun b↦some ((Prod.fst (Prod.snd b),()),())) (br (decide (Prod.fst a0=10)) (qd (qbl D) fun b↦qd (qj D (a1,[],-1,false,()) (Prod.fst (Prod.fst b))) fun b↦qd (qv D (Prod.fst (Prod.snd b)) (Prod.fst (Prod.fst b) != 5)) fun b↦qd (qcq D (Prod.fst (Prod.snd (Prod.snd a0)))) fun b_1↦qd (qj D (Prod.fst (Prod.snd b)) (Prod.fst (Prod.fst b_1))) fun b↦some ((Prod.fst (Prod.snd b),()),())) (some (((a1,[],-1,false,()),()),())))))))))) (br (decide (Prod.fst a0=3)) (qd (qcj D (a1,[],-1,false,()) a0) fun b↦some ((Prod.fst (Prod.snd b),()),())) (br (decide (Prod.fst a0=4)) (qd (qcs D (Prod.fst (Prod.snd a0))) fun b↦qd (qj D (a1,[],-1,false,()) (Prod.fst (Prod.fst b))) fun b↦some ((Prod.fst (Prod.snd b),()),())) (br (decide (Prod.fst a0=5)) (qd (qc8 D (Prod.fst (Prod.snd (Prod.snd a0)))) fun b↦qd (qj D (a1,[],-1,false,()) (Prod.fst (Prod.fst b))) fun b↦some ((Prod.fst (Prod.snd b),()),())) (br (decide (Prod.fst a0=6)) (qd (qc6 D (Prod.fst (Prod.snd a0))) fun b↦qd (qj D (a1,[],-1,false,()) (Prod.fst (Prod.fst b))) fun b↦some ((Prod.fst (Prod.snd b),()),())) (br (decide (Prod.fst a0=7)) (lp0 0 (a1,[],-1,false,())) (br (decide (Prod.fst a0=8)) (qd (qbl D) fun b↦qd (qj D (a1,[],-1,false,()) (Prod.fst (Prod.fst b))) fun b↦some ((Prod.fst (Prod.snd b),()),())) (br (decide (Prod.fst a0=9)) (qd (qbl D) fun b↦qd (qj D (a1,[],-1,false,()) (Prod.fst (Prod.fst b))) fun b↦qd (qv D (Prod.fst (Prod.snd b)) (bif decide (Prod.fst (Prod.fst b)<1) then true else decide (Prod.fst (Prod.fst b)>4))) fun b_1↦qd (qcs D (IntKind.wrap IntKind.i64 (Prod.fst (Prod.fst b) - 1))) fun b↦qd (qj D (Prod.fst (Prod.snd b_1)) (Prod.fst (Prod.fst b))) fun b↦qd (qby D (Prod.fst (Prod.fst b))) fun b_2↦qd (qv D (Prod.fst (Prod.snd b)) !Prod.fst (Prod.fst b_2)) fun b_3↦qd (qcq D (Prod.fst (Prod.fst b))) fun b↦qd (qj D (Prod.fst (Prod.snd b_3)) (Prod.fst (Prod.fst b))) fun b↦some ((Prod.fst (Prod.snd b),()),())) (br (decide (Prod.fst a0=10)) (qd (qbl D) fun b↦qd (qj D (a1,[],-1,false,()) (Prod.fst (Prod.fst b))) fun b↦qd (qv D (Prod.fst (Prod.snd b)) (Prod.fst (Prod.fst b) != 5)) fun b↦qd (qcq D (Prod.fst (Prod.snd (Prod.snd a0)))) fun b_1↦qd (qj D (Prod.fst (Prod.snd b)) (Prod.fst (Prod.fst b_1))) fun b↦some ((Prod.fst (Prod.snd b),()),())) (some (((a1,[],-1,false,()),()),())))))))))))
def qol (D:DX)(n:Nat) (a0:Int×Int×Int×Unit) (a1:List (Int×Int×Unit)):Option (((List (Int×Int×Unit)×List Int×Int×Bool×Unit)×Unit)×Unit):=qny D n (qmb D n) a0 a1
def qia (x0:Int) (x1:List (Int×Int×Unit)×List Int×Int×Bool×Unit):St:=stq 100 [(5,AV.addr 12 []),(45,avI x0)] [(12,Root.mk (Ty.pair (Ty.sl (Ty.pair yI (Ty.pair yI Ty.unit))) (Ty.pair (Ty.sl yI) (Ty.pair yI (Ty.pair Ty.bool Ty.unit)))) (Mk.pr Mk.no (Mk.pr (Mk.own 0 Mk.no) Mk.no)) x1 true)] 
def qk0 (v0_0:List (Int×Int×Unit)×List Int×Int×Bool×Unit):St:=stq 100 [(5,AV.addr 12 [])] [(12,Root.mk (Ty.pair (Ty.sl (Ty.pair yI (Ty.pair yI Ty.unit))) (Ty.pair (Ty.sl yI) (Ty.pair yI (Ty.pair Ty.bool Ty.unit)))) (Mk.pr Mk.no (Mk.pr (Mk.own 0 Mk.no) Mk.no)) v0_0 true)] 
theorem q3y (D:DX)(n:Nat) (m:Nat) (K:Ex→St→Option (Out ctx 30)) (x0:Int) (x1:List (Int×Int×Unit)×List Int×Int×Bool×Unit) :
 LQ qe D n 30 [.r,.r,.l,.r,.l,.r,.r,.r,.r,.r,.r,.r,.r,.r,.l,.r,.l] (m+1) (qia x0 x1) K=qh8 D n (fun x0 x1=>LQ qe D n 30 [.r,.r,.l,.r,.l,.r,.r,.r,.r,.r,.r,.r,.r,.r,.l,.r,.l] m (qia x0 x1) K) (fun v0_0=>K (Ex.exit 1) (qk0 v0_0)) x0 x1:=by kernel_rfl
theorem qv1 (D:DX)(n:Nat) (K:Ex→St→Option (Out ctx 30)):∀ (m:Nat) (x0:Int) (x1:List (Int×Int×Unit)×List Int×Int×Bool×Unit),LQ qe D n 30 [.r,.r,.l,.r,.l,.r,.r,.r,.r,.r,.r,.r,.r,.r,.l,.r,.l] m (qia x0 x1) K=qd3 D n (fun v0_0=>K (Ex.exit 1) (qk0 v0_0)) m x0 x1
 | 0,x0,x1=>qc1 ..
 | m+1,x0,x1=>by
  have ih:(fun x0 x1=>LQ qe D n 30 [.r,.r,.l,.r,.l,.r,.r,.r,.r,.r,.r,.r,.r,.r,.l,.r,.l] m (qia x0 x1) K)=qd3 D n (fun v0_0=>K (Ex.exit 1) (qk0 v0_0)) m:=by funext x0 x1;exact qv1 D n K m x0 x1
  rw[q3y]
  rw[ih];rfl
theorem q1q (D:DX)(n:Nat) (v0_0:List (Int×Int×Unit)×List Int×Int×Bool×Unit) :
 (CQ qe D n 30 [] [.r,.r,.l,.r,.l,.r,.r,.r,.r,.r,.r,.r,.r,.r,.l,.r,.l] (qy qe 30)) (Ex.exit 1) (qk0 v0_0)=qkx D n v0_0:=by kernel_rfl
theorem q18 (D:DX)(n:Nat) (x0:Int) (x1:List (Int×Int×Unit)×List Int×Int×Bool×Unit) :
 LQ qe D n 30 [.r,.r,.l,.r,.l,.r,.r,.r,.r,.r,.r,.r,.r,.r,.l,.r,.l] n (qia x0 x1) (CQ qe D n 30 [] [.r,.r,.l,.r,.l,.r,.r,.r,.r,.r,.r,.r,.r,.r,.l,.r,.l] (qy qe 30))=qmb D n x0 x1:=by
 rw[qv1]
 simp only[q1q]
 rfl
theorem q7h (D:DX)(n:Nat) (a0:Int×Int×Int×Unit) (a1:List (Int×Int×Unit)):rfC qe D n 30 (a0,(a1,()))=qol D n a0 a1:=by
 have h:rfC qe D n 30 (a0,(a1,()))=qny D n (fun x0 x1=>LQ qe D n 30 [.r,.r,.l,.r,.l,.r,.r,.r,.r,.r,.r,.r,.r,.r,.l,.r,.l] n (qia x0 x1) (CQ qe D n 30 [] [.r,.r,.l,.r,.l,.r,.r,.r,.r,.r,.r,.r,.r,.r,.l,.r,.l] (qy qe 30))) a0 a1:=by kernel_rfl
 rw[h]
 simp only[q18]
 rfl

def qxa (D:DX)(n:Nat) (a0:Int×Int×Int×Unit) (a1:List (Int×Int×Unit)):Option (((Int×List Int×Unit)×Bool×Unit)×Unit):=qd (qcs D (Prod.fst (Prod.snd a0))) fun b↦qd (qdc D a1 (Prod.fst (Prod.fst b))) fun b↦qd (qc8 D (Prod.fst (Prod.snd (Prod.snd a0)))) fun b_1↦qd (qdc D a1 (Prod.fst (Prod.fst b_1))) fun b_2↦qd (qbl D) fun b_3↦qd (qdc D a1 (Prod.fst (Prod.fst b_3))) fun b_4↦br (bif decide (Prod.fst a0=1) then Prod.fst (Prod.fst b) != 0 else false) (some (((1,[],()),true,()),())) (br (bif decide (Prod.fst a0=1) then Prod.fst (Prod.fst b_2) != 0 else false) (some (((2,[],()),true,()),())) (br (bif bif bif decide (Prod.fst a0=2) then true else decide (Prod.fst a0=3) then true else decide (Prod.fst a0=4) then decide (Prod.fst (Prod.fst b)=0) else false) (some (((3,[],()),true,()),())) (br (bif decide (Prod.fst a0=2) then decide (Prod.fst (Prod.fst b)=Prod.fst (Prod.snd (Prod.snd a0))) else false) (some (((0,[],()),true,()),())) (br (bif decide (Prod.fst a0=2) then Prod.fst (Prod.fst b_2) != 0 else false) (some (((2,[],()),true,()),())) (br (decide (Prod.fst a0=4)) (some (((0,[Prod.fst (Prod.fst b)],()),true,()),())) (br (bif decide (Prod.fst a0=5) then decide (Prod.fst (Prod.fst b_2)=0) else false) (some (((3,[],()),true,()),())) (br (decide (Prod.fst a0=5)) (some (((0,[IntKind.wrap IntKind.i64 (Prod.fst (Prod.fst b_2) - 1)],()),true,()),())) (br (decide (Prod.fst a0=6)) (qd (qc6 D (Prod.fst (Prod.snd a0))) fun b↦qd (qdc D a1 (Prod.fst (Prod.fst b))) fun b↦some (((0,[Prod.fst (Prod.fst b)],()),true,()),())) (br (bif decide (Prod.fst a0=8) then Prod.fst (Prod.fst b_4) != 0 else false) (br (bif decide (Prod.fst a0=8) then Prod.fst (Prod.fst b_4) != 0 else false) (some (((4,[],()),true,()),())) (some (((0,[],()),false,()),()))) (br (bif decide (Prod.fst a0=9) then bif decide (Prod.fst (Prod.fst b_4)<1) then true else decide (Prod.fst (Prod.fst b_4)>4) else false) (br (bif decide (Prod.fst a0=9) then bif decide (Prod.fst (Prod.fst b_4)<1) then true else decide (Prod.fst (Prod.fst b_4)>4) else false) (some (((4,[],()),true,()),())) (some (((0,[],()),false,()),()))) (br (bif decide (Prod.fst a0=10) then Prod.fst (Prod.fst b_4) != 5 else false) (some (((4,[],()),true,()),())) (some (((0,[],()),false,()),())))))))))))))
def qrt (D:DX)(n:Nat) (a0:Int×Int×Int×Unit) (a1:List (Int×Int×Unit)):Option (((Int×List Int×Unit)×Bool×Unit)×Unit):=qxa D n a0 a1
theorem q56 (D:DX)(n:Nat) (a0:Int×Int×Int×Unit) (a1:List (Int×Int×Unit)):rfC qe D n 31 (a0,(a1,()))=qrt D n a0 a1:=by kernel_rfl

def q39 (D:DX)(n:Nat):Option ((Int×Unit)×Unit):=some ((13,()),())
def qvp (D:DX)(n:Nat):Option ((Int×Unit)×Unit):=q39 D n
theorem q3w (D:DX)(n:Nat):rfC qe D n 32 ()=qvp D n:=by kernel_rfl

def qyk (D:DX)(n:Nat) (a0:Int):Option ((Int×Unit)×Unit):=qd (qfo D a0) fun b↦qd (qhz D (Prod.fst (Prod.fst b)) a0) fun b↦some ((Prod.fst (Prod.fst b),()),())
def qs4 (D:DX)(n:Nat) (a0:Int):Option ((Int×Unit)×Unit):=qyk D n a0
theorem q87 (D:DX)(n:Nat) (a0:Int):rfC qe D n 33 (a0,())=qs4 D n a0:=by kernel_rfl

def qvu (D:DX)(n:Nat) (a0:Int×Int×Int×Unit) (a1:List (Int×Int×Unit)) (a2:Int) (a3:Int):Option ((List (Int×Int×Int×Unit)×Unit)×Unit):=qd (qcs D (Prod.fst (Prod.snd a0))) fun b↦qd (qcl D (Prod.fst (Prod.fst b)) (Prod.fst (Prod.snd (Prod.snd a0))) 0 a1 []) fun b↦qd (qbl D) fun b_1↦qd (qcl D (Prod.fst (Prod.fst b_1)) a3 0 a1 (Prod.fst (Prod.snd b))) fun b↦qd (qc8 D a2) fun b_2↦qd (qcl D (Prod.fst (Prod.fst b_2)) 0 0 a1 (Prod.fst (Prod.snd b))) fun b↦qd (qcq D a2) fun b_3↦qd (qcl D (Prod.fst (Prod.fst b_3)) 0 0 a1 (Prod.fst (Prod.snd b))) fun b↦qd (qc8 D (Prod.fst (Prod.snd (Prod.snd a0)))) fun b_4↦qd (qcl D (Prod.fst (Prod.fst b_4)) (IntKind.wrap IntKind.i64 (Prod.fst (Prod.snd a0)+1)) 0 a1 (Prod.fst (Prod.snd b))) fun b↦qd (qcq D (Prod.fst (Prod.snd (Prod.snd a0)))) fun b_5↦qd (qcl D (Prod.fst (Prod.fst b_5)) (IntKind.wrap IntKind.i64 (Prod.fst (Prod.snd a0)+1)) 0 a1 (Prod.fst (Prod.snd b))) fun b↦qd (qc7 D a2) fun b_6↦qd (qc7 D (Prod.fst (Prod.snd (Prod.snd a0)))) fun b_7↦br (Prod.fst (Prod.fst b_6) != Prod.fst (Prod.fst b_7)) (qd (qc7 D a2) fun b_8↦qd (qc6 D (Prod.fst (Prod.fst b_8))) fun b_9↦qd (qcl D (Prod.fst (Prod.fst b_9)) 0 (-1) a1 (Prod.fst (Prod.snd b))) fun b↦qd (qc7 D (Prod.fst (Prod.snd (Prod.snd a0)))) fun b_10↦qd (qc6 D (Prod.fst (Prod.fst b_10))) fun b_11↦qd (qcl D (Prod.fst (Prod.fst b_11)) 0 1 a1 (Prod.fst (Prod.snd b))) fun b↦qd (qcy D (Prod.fst (Prod.snd b)) (Clo.mk 80 [])) fun b↦some ((Prod.fst (Prod.snd b),()),())) (qd (qcy D (Prod.fst (Prod.snd b)) (Clo.mk 80 [])) fun b↦some ((Prod.fst (Prod.snd b),()),()))
def qp6 (D:DX)(n:Nat) (a0:Int×Int×Int×Unit) (a1:List (Int×Int×Unit)) (a2:Int) (a3:Int):Option ((List (Int×Int×Int×Unit)×Unit)×Unit):=qvu D n a0 a1 a2 a3
theorem q3z (D:DX)(n:Nat) (a0:Int×Int×Int×Unit) (a1:List (Int×Int×Unit)) (a2:Int) (a3:Int):rfC qe D n 34 (a0,(a1,(a2,(a3,()))))=qp6 D n a0 a1 a2 a3:=by kernel_rfl

def qnl (D:DX)(n:Nat) (a0:List Int):Option (Unit×List Int×Unit):=qd (qk5 D (IntKind.wrap IntKind.u64 (↑(List.length a0):Int))) fun b↦qd (qi D a0 0 (↑(List.length a0):Int) (Prod.fst (Prod.fst b))) fun b↦some ((),Prod.fst (Prod.snd b),())
def qji (D:DX)(n:Nat) (a0:List Int):Option (Unit×List Int×Unit):=qnl D n a0
theorem qvc (D:DX)(n:Nat) (a0:List Int):rfC qe D n 35 (a0,())=qji D n a0:=by kernel_rfl

def qxg (D:DX)(n:Nat) (a0:Int×Int×Int×Unit) (a1:Int) (a2:Int) (a3:Int) (a4:Int):Option ((Int×Unit)×Unit):=br (decide (Prod.fst a0=8)) (some ((IntKind.wrap IntKind.i64 (a2+1),()),())) (br (decide (Prod.fst a0=9)) (qd (qbl D) fun b↦br (decide (a1=Prod.fst (Prod.fst b))) (some ((IntKind.wrap IntKind.i64 (a2+1),()),())) (qd (qcq D a3) fun b↦br (decide (a1=Prod.fst (Prod.fst b))) (some ((a4,()),())) (some ((a2,()),())))) (some ((a2,()),())))
def qrl (D:DX)(n:Nat) (a0:Int×Int×Int×Unit) (a1:Int) (a2:Int) (a3:Int) (a4:Int):Option ((Int×Unit)×Unit):=qxg D n a0 a1 a2 a3 a4
theorem q6r (D:DX)(n:Nat) (a0:Int×Int×Int×Unit) (a1:Int) (a2:Int) (a3:Int) (a4:Int):rfC qe D n 36 (a0,(a1,(a2,(a3,(a4,())))))=qrl D n a0 a1 a2 a3 a4:=by kernel_rfl

def qx3 (D:DX)(n:Nat) (a0:Int):Option ((Int×Unit)×Unit):=qd (qby D a0) fun b↦qd (qbl D) fun b_1↦qd (qhz D (Prod.fst (Prod.fst b)) (IntKind.wrap IntKind.i64 (Prod.fst (Prod.fst b_1)+a0))) fun b↦some ((Prod.fst (Prod.fst b),()),())
def qtv (D:DX)(n:Nat) (a0:Int):Option ((Int×Unit)×Unit):=qx3 D n a0
theorem q9x (D:DX)(n:Nat) (a0:Int):rfC qe D n 37 (a0,())=qtv D n a0:=by kernel_rfl

def q0d (D:DX)(n:Nat) (a0:Int×Int×Int×Unit):Option ((Bool×Unit)×Unit):=qd (qek D (Prod.fst a0) 1 10) fun b↦br (!Prod.fst (Prod.fst b)) (some ((false,()),())) (qd (qoz D (Prod.fst a0)) fun b↦br (Prod.fst (Prod.fst b)) (qd (qnz D (Prod.fst (Prod.snd a0))) fun b↦br (decide (Prod.fst a0=6)) (qd (qek D (Prod.fst (Prod.snd a0)) 0 2) fun b↦qd (qe2 D (Prod.fst a0)) fun b_1↦br (Prod.fst (Prod.fst b_1)) (br (Prod.fst (Prod.fst b)) (qd (qef D (Prod.fst (Prod.snd (Prod.snd a0)))) fun b↦some ((Prod.fst (Prod.fst b),()),())) (some ((false,()),()))) (some ((bif Prod.fst (Prod.fst b) then decide (Prod.fst (Prod.snd (Prod.snd a0))=0) else false,()),()))) (qd (qe2 D (Prod.fst a0)) fun b_1↦br (Prod.fst (Prod.fst b_1)) (br (Prod.fst (Prod.fst b)) (qd (qef D (Prod.fst (Prod.snd (Prod.snd a0)))) fun b↦some ((Prod.fst (Prod.fst b),()),())) (some ((false,()),()))) (some ((bif Prod.fst (Prod.fst b) then decide (Prod.fst (Prod.snd (Prod.snd a0))=0) else false,()),())))) (br (decide (Prod.fst a0=6)) (qd (qek D (Prod.fst (Prod.snd a0)) 0 2) fun b↦qd (qe2 D (Prod.fst a0)) fun b_1↦br (Prod.fst (Prod.fst b_1)) (br (Prod.fst (Prod.fst b)) (qd (qef D (Prod.fst (Prod.snd (Prod.snd a0)))) fun b↦some ((Prod.fst (Prod.fst b),()),())) (some ((false,()),()))) (some ((bif Prod.fst (Prod.fst b) then decide (Prod.fst (Prod.snd (Prod.snd a0))=0) else false,()),()))) (qd (qe2 D (Prod.fst a0)) fun b↦br (Prod.fst (Prod.fst b)) (br (decide (Prod.fst (Prod.snd a0)=0)) (qd (qef D (Prod.fst (Prod.snd (Prod.snd a0)))) fun b↦some ((Prod.fst (Prod.fst b),()),())) (some ((false,()),()))) (some ((bif decide (Prod.fst (Prod.snd a0)=0) then decide (Prod.fst (Prod.snd (Prod.snd a0))=0) else false,()),())))))
def quv (D:DX)(n:Nat) (a0:Int×Int×Int×Unit):Option ((Bool×Unit)×Unit):=q0d D n a0
theorem qbaa (D:DX)(n:Nat) (a0:Int×Int×Int×Unit):rfC qe D n 38 (a0,())=quv D n a0:=by kernel_rfl

def qx4 (D:DX)(n:Nat) (a0:Int×Int×Int×Unit) (a1:List (Int×Int×Unit)):Option (((Bool×(Int×List Int×Unit)×List (Int×Int×Int×Unit)×Unit)×Bool×Unit)×Unit):=qd (qb7 D (Prod.fst (Prod.snd a0))) fun b↦qd (qc2 D a1 (Prod.fst (Prod.fst b))) fun b↦qd (qb9 D (Prod.fst (Prod.snd (Prod.snd a0)))) fun b_1↦qd (qc2 D a1 (Prod.fst (Prod.fst b_1))) fun b_2↦qd (qb2 D) fun b_3↦qd (qc2 D a1 (Prod.fst (Prod.fst b_3))) fun b_4↦br (bif decide (Prod.fst a0=1) then Prod.fst (Prod.fst b) != 0 else false) (some (((true,(1,[],()),[],()),true,()),())) (br (bif decide (Prod.fst a0=1) then Prod.fst (Prod.fst b_2) != 0 else false) (some (((true,(2,[],()),[],()),true,()),())) (br (bif bif bif decide (Prod.fst a0=2) then true else decide (Prod.fst a0=3) then true else decide (Prod.fst a0=4) then decide (Prod.fst (Prod.fst b)=0) else false) (some (((true,(3,[],()),[],()),true,()),())) (br (bif decide (Prod.fst a0=2) then decide (Prod.fst (Prod.fst b)=Prod.fst (Prod.snd (Prod.snd a0))) else false) (some (((true,(0,[],()),[],()),true,()),())) (br (bif decide (Prod.fst a0=2) then Prod.fst (Prod.fst b_2) != 0 else false) (some (((true,(2,[],()),[],()),true,()),())) (br (decide (Prod.fst a0=4)) (some (((true,(0,[Prod.fst (Prod.fst b)],()),[],()),true,()),())) (br (bif decide (Prod.fst a0=5) then decide (Prod.fst (Prod.fst b_2)=0) else false) (some (((true,(3,[],()),[],()),true,()),())) (br (decide (Prod.fst a0=5)) (some (((true,(0,[IntKind.wrap IntKind.i64 (Prod.fst (Prod.fst b_2) - 1)],()),[],()),true,()),())) (br (decide (Prod.fst a0=6)) (qd (qd4 D (Prod.fst (Prod.snd a0))) fun b↦qd (qc2 D a1 (Prod.fst (Prod.fst b))) fun b↦some (((true,(0,[Prod.fst (Prod.fst b)],()),[],()),true,()),())) (br (bif decide (Prod.fst a0=8) then Prod.fst (Prod.fst b_4) != 0 else false) (br (bif decide (Prod.fst a0=8) then Prod.fst (Prod.fst b_4) != 0 else false) (some (((true,(4,[],()),[],()),true,()),())) (some (((true,(-1,[],()),[],()),false,()),()))) (br (decide (Prod.fst a0=9)) (qd (qek D (Prod.fst (Prod.fst b_4)) 1 4) fun b↦br (!Prod.fst (Prod.fst b)) (br (!Prod.fst (Prod.fst b)) (some (((true,(4,[],()),[],()),true,()),())) (some (((true,(-1,[],()),[],()),false,()),()))) (br (bif decide (Prod.fst a0=10) then Prod.fst (Prod.fst b_4) != 5 else false) (some (((true,(4,[],()),[],()),true,()),())) (some (((true,(-1,[],()),[],()),false,()),())))) (br (bif decide (Prod.fst a0=10) then Prod.fst (Prod.fst b_4) != 5 else false) (some (((true,(4,[],()),[],()),true,()),())) (some (((true,(-1,[],()),[],()),false,()),())))))))))))))
def qt1 (D:DX)(n:Nat) (a0:Int×Int×Int×Unit) (a1:List (Int×Int×Unit)):Option (((Bool×(Int×List Int×Unit)×List (Int×Int×Int×Unit)×Unit)×Bool×Unit)×Unit):=qx4 D n a0 a1
theorem q7i (D:DX)(n:Nat) (a0:Int×Int×Int×Unit) (a1:List (Int×Int×Unit)):rfC qe D n 39 (a0,(a1,()))=qt1 D n a0 a1:=by kernel_rfl

def q43 (D:DX)(n:Nat):Option ((Int×Unit)×Unit):=some ((13,()),())
def qwf (D:DX)(n:Nat):Option ((Int×Unit)×Unit):=q43 D n
theorem q3m (D:DX)(n:Nat):rfC qe D n 40 ()=qwf D n:=by kernel_rfl

def qxc (D:DX)(n:Nat) (a0:List (Int×Int×Int×Unit)) (a1:List (Int×Int×Unit)) (a2:Int):Option ((List (Int×Int×Int×Unit)×Unit)×Unit):=qd (qc2 D a1 a2) fun b↦qd (qbs D a0 a1 a2 (Prod.fst (Prod.fst b))) fun b↦some ((Prod.fst (Prod.fst b),()),())
def qrm (D:DX)(n:Nat) (a0:List (Int×Int×Int×Unit)) (a1:List (Int×Int×Unit)) (a2:Int):Option ((List (Int×Int×Int×Unit)×Unit)×Unit):=qxc D n a0 a1 a2
theorem q57 (D:DX)(n:Nat) (a0:List (Int×Int×Int×Unit)) (a1:List (Int×Int×Unit)) (a2:Int):rfC qe D n 41 (a0,(a1,(a2,())))=qrm D n a0 a1 a2:=by kernel_rfl

def qxx (D:DX)(n:Nat) (a0:Int):Option ((Int×Unit)×Unit):=qd (qnz D a0) fun b↦br (!Prod.fst (Prod.fst b)) (some ((-1,()),())) (some ((a0,()),()))
def qtl (D:DX)(n:Nat) (a0:Int):Option ((Int×Unit)×Unit):=qxx D n a0
theorem q7y (D:DX)(n:Nat) (a0:Int):rfC qe D n 42 (a0,())=qtl D n a0:=by kernel_rfl

def qm3 (D:DX)(n:Nat) (go:List (Int×Int×Int×Unit)→Int→Int→Int→Int→Option ((List (Int×Int×Int×Unit)×Unit)×Unit)) (K0:List (Int×Int×Int×Unit)→Int→Int→Int→Int→Option ((List (Int×Int×Int×Unit)×Unit)×Unit)) (x0:List (Int×Int×Int×Unit)) (x1:Int) (x2:Int) (x3:Int) (x4:Int):Option ((List (Int×Int×Int×Unit)×Unit)×Unit):=br (decide (x4<(↑(List.length x0):Int))) (br (decide (0≤x4)&&decide (x4<(↑(List.length x0):Int))) (br (decide (Prod.fst (List.getD x0 (Int.toNat x4) (0,0,0,()))<x1)) (go x0 x1 x2 x3 (IntKind.wrap IntKind.i64 (x4+1))) (K0 x0 x1 x2 x3 x4)) none) (K0 x0 x1 x2 x3 x4)
def qg2 (D:DX)(n:Nat) (K0:List (Int×Int×Int×Unit)→Int→Int→Int→Int→Option ((List (Int×Int×Int×Unit)×Unit)×Unit)):Nat→(List (Int×Int×Int×Unit))→(Int)→(Int)→(Int)→(Int)→Option ((List (Int×Int×Int×Unit)×Unit)×Unit) | 0=>(fun x0 x1 x2 x3 x4=>none) | m+1=>(fun x0 x1 x2 x3 x4=>qm3 D n (qg2 D n K0 m) K0 x0 x1 x2 x3 x4)
def qk2 (D:DX)(n:Nat) (v0_0:List (Int×Int×Int×Unit)) (v0_1:Int) (v0_2:Int) (v0_3:Int) (v0_4:Int):Option ((List (Int×Int×Int×Unit)×Unit)×Unit):=br (decide (0≤0)&&decide (0≤v0_4)&&decide (v0_4≤(↑(List.length v0_0):Int))) (br (decide (0+List.length (List.drop (Int.toNat 0) (List.take (Int.toNat v0_4) v0_0))≤qec)) (br (decide (List.length ([]++List.drop (Int.toNat 0) (List.take (Int.toNat v0_4) v0_0))+1≤qec)) (br (decide (0≤v0_4)&&decide (v0_4≤(↑(List.length v0_0):Int))&&decide ((↑(List.length v0_0):Int)≤(↑(List.length v0_0):Int))) (br (decide (List.length ([]++List.drop (Int.toNat 0) (List.take (Int.toNat v0_4) v0_0)++[(v0_1,v0_3,v0_2,())])+List.length (List.drop (Int.toNat v0_4) (List.take (Int.toNat (↑(List.length v0_0):Int)) v0_0))≤qec)) (some (([]++List.drop (Int.toNat 0) (List.take (Int.toNat v0_4) v0_0)++[(v0_1,v0_3,v0_2,())]++List.drop (Int.toNat v0_4) (List.take (Int.toNat (↑(List.length v0_0):Int)) v0_0),()),())) none) none) none) none) none
def qpi (D:DX)(n:Nat):(List (Int×Int×Int×Unit))→(Int)→(Int)→(Int)→(Int)→Option ((List (Int×Int×Int×Unit)×Unit)×Unit):=(fun x0 x1 x2 x3 x4=>qg2 D n (fun v0_0 v0_1 v0_2 v0_3 v0_4=>qk2 D n v0_0 v0_1 v0_2 v0_3 v0_4) n x0 x1 x2 x3 x4)
def qs0 (D:DX)(n:Nat) (lp0:List (Int×Int×Int×Unit)→Int→Int→Int→Int→Option ((List (Int×Int×Int×Unit)×Unit)×Unit)) (a0:List (Int×Int×Int×Unit)) (a1:List (Int×Int×Unit)) (a2:Int) (a3:Int):Option ((List (Int×Int×Int×Unit)×Unit)×Unit):=qd (qc2 D a1 a2) fun b↦br (bif !Prod.fst (Prod.snd (Prod.fst b)) then true else decide (a2<0)) (some ((a0,()),())) (lp0 a0 a2 a3 (Prod.fst (Prod.fst b)) 0)
def qte (D:DX)(n:Nat) (a0:List (Int×Int×Int×Unit)) (a1:List (Int×Int×Unit)) (a2:Int) (a3:Int):Option ((List (Int×Int×Int×Unit)×Unit)×Unit):=qs0 D n (qpi D n) a0 a1 a2 a3
def qh4 (x0:List (Int×Int×Int×Unit)) (x1:Int) (x2:Int) (x3:Int) (x4:Int):St:=stq 58 [(0,AV.val (Ty.sl (Ty.pair yI (Ty.pair yI (Ty.pair yI Ty.unit)))) x0),(2,avI x1),(3,avI x2),(9,avI x3),(11,avI x4)] [] 
def qky (v0_0:List (Int×Int×Int×Unit)) (v0_1:Int) (v0_2:Int) (v0_3:Int) (v0_4:Int):St:=stq 58 [(0,AV.val (Ty.sl (Ty.pair yI (Ty.pair yI (Ty.pair yI Ty.unit)))) v0_0),(2,avI v0_1),(3,avI v0_2),(9,avI v0_3),(11,avI v0_4)] [] 
theorem q4j (D:DX)(n:Nat) (m:Nat) (K:Ex→St→Option (Out ctx 43)) (x0:List (Int×Int×Int×Unit)) (x1:Int) (x2:Int) (x3:Int) (x4:Int) :
 LQ qe D n 43 [.r,.r,.r,.r,.l,.l] (m+1) (qh4 x0 x1 x2 x3 x4) K=qm3 D n (fun x0 x1 x2 x3 x4=>LQ qe D n 43 [.r,.r,.r,.r,.l,.l] m (qh4 x0 x1 x2 x3 x4) K) (fun v0_0 v0_1 v0_2 v0_3 v0_4=>K (Ex.exit 0) (qky v0_0 v0_1 v0_2 v0_3 v0_4)) x0 x1 x2 x3 x4:=by kernel_rfl
theorem qv9 (D:DX)(n:Nat) (K:Ex→St→Option (Out ctx 43)):∀ (m:Nat) (x0:List (Int×Int×Int×Unit)) (x1:Int) (x2:Int) (x3:Int) (x4:Int),LQ qe D n 43 [.r,.r,.r,.r,.l,.l] m (qh4 x0 x1 x2 x3 x4) K=qg2 D n (fun v0_0 v0_1 v0_2 v0_3 v0_4=>K (Ex.exit 0) (qky v0_0 v0_1 v0_2 v0_3 v0_4)) m x0 x1 x2 x3 x4
 | 0,x0,x1,x2,x3,x4=>qc1 ..
 | m+1,x0,x1,x2,x3,x4=>by
  have ih:(fun x0 x1 x2 x3 x4=>LQ qe D n 43 [.r,.r,.r,.r,.l,.l] m (qh4 x0 x1 x2 x3 x4) K)=qg2 D n (fun v0_0 v0_1 v0_2 v0_3 v0_4=>K (Ex.exit 0) (qky v0_0 v0_1 v0_2 v0_3 v0_4)) m:=by funext x0 x1 x2 x3 x4;exact qv9 D n K m x0 x1 x2 x3 x4
  rw[q4j]
  rw[ih];rfl
theorem q11 (D:DX)(n:Nat) (v0_0:List (Int×Int×Int×Unit)) (v0_1:Int) (v0_2:Int) (v0_3:Int) (v0_4:Int) :
 (CQ qe D n 43 [] [.r,.r,.r,.r,.l,.l] (qy qe 43)) (Ex.exit 0) (qky v0_0 v0_1 v0_2 v0_3 v0_4)=qk2 D n v0_0 v0_1 v0_2 v0_3 v0_4:=by kernel_rfl
theorem q1s (D:DX)(n:Nat) (x0:List (Int×Int×Int×Unit)) (x1:Int) (x2:Int) (x3:Int) (x4:Int) :
 LQ qe D n 43 [.r,.r,.r,.r,.l,.l] n (qh4 x0 x1 x2 x3 x4) (CQ qe D n 43 [] [.r,.r,.r,.r,.l,.l] (qy qe 43))=qpi D n x0 x1 x2 x3 x4:=by
 rw[qv9]
 simp only[q11]
 rfl
theorem q7b (D:DX)(n:Nat) (a0:List (Int×Int×Int×Unit)) (a1:List (Int×Int×Unit)) (a2:Int) (a3:Int):rfC qe D n 43 (a0,(a1,(a2,(a3,()))))=qte D n a0 a1 a2 a3:=by
 have h:rfC qe D n 43 (a0,(a1,(a2,(a3,()))))=qs0 D n (fun x0 x1 x2 x3 x4=>LQ qe D n 43 [.r,.r,.r,.r,.l,.l] n (qh4 x0 x1 x2 x3 x4) (CQ qe D n 43 [] [.r,.r,.r,.r,.l,.l] (qy qe 43))) a0 a1 a2 a3:=by kernel_rfl
 rw[h]
 simp only[q1s]
 rfl

def qyt (D:DX)(n:Nat) (a0:Int):Option ((Int×Unit)×Unit):=qd (qef D a0) fun b↦br (!Prod.fst (Prod.fst b)) (some ((-1,()),())) (qd (qb2 D) fun b↦some ((IntKind.wrap IntKind.i64 (Prod.fst (Prod.fst b)+a0),()),()))
def qto (D:DX)(n:Nat) (a0:Int):Option ((Int×Unit)×Unit):=qyt D n a0
theorem q9h (D:DX)(n:Nat) (a0:Int):rfC qe D n 44 (a0,())=qto D n a0:=by kernel_rfl

def quk (D:DX)(n:Nat) (a0:Int×Int×Int×Unit) (a1:List (Int×Int×Unit)):Option ((List (Int×Int×Int×Unit)×Unit)×Unit):=qd (qb7 D (Prod.fst (Prod.snd a0))) fun b↦qd (qc2 D a1 (Prod.fst (Prod.fst b))) fun b↦br (Prod.fst a0 != 3) (qd (qb7 D (Prod.fst (Prod.snd a0))) fun b_1↦qd (qbs D [] a1 (Prod.fst (Prod.fst b_1)) (Prod.fst (Prod.snd (Prod.snd a0)))) fun b_2↦qd (qb2 D) fun b_3↦qd (qe9 D (Prod.fst (Prod.fst b_2)) a1 (Prod.fst (Prod.fst b_3))) fun b_4↦qd (qb9 D (Prod.fst (Prod.fst b))) fun b_5↦qd (qbs D (Prod.fst (Prod.fst b_4)) a1 (Prod.fst (Prod.fst b_5)) 0) fun b_6↦qd (qcz D (Prod.fst (Prod.fst b))) fun b_7↦qd (qbs D (Prod.fst (Prod.fst b_6)) a1 (Prod.fst (Prod.fst b_7)) 0) fun b_8↦qd (qb9 D (Prod.fst (Prod.snd (Prod.snd a0)))) fun b_9↦qd (qbs D (Prod.fst (Prod.fst b_8)) a1 (Prod.fst (Prod.fst b_9)) (IntKind.wrap IntKind.i64 (Prod.fst (Prod.snd a0)+1))) fun b_10↦qd (qcz D (Prod.fst (Prod.snd (Prod.snd a0)))) fun b_11↦qd (qbs D (Prod.fst (Prod.fst b_10)) a1 (Prod.fst (Prod.fst b_11)) (IntKind.wrap IntKind.i64 (Prod.fst (Prod.snd a0)+1))) fun b_12↦qd (qb3 D (Prod.fst (Prod.fst b))) fun b_13↦qd (qb3 D (Prod.fst (Prod.snd (Prod.snd a0)))) fun b_14↦br (Prod.fst (Prod.fst b_13) != Prod.fst (Prod.fst b_14)) (qd (qfx D (Prod.fst (Prod.fst b_12)) a1 (Prod.fst (Prod.fst b)) (-1)) fun b↦qd (qfx D (Prod.fst (Prod.fst b)) a1 (Prod.fst (Prod.snd (Prod.snd a0))) 1) fun b↦some ((Prod.fst (Prod.fst b),()),())) (some ((Prod.fst (Prod.fst b_12),()),()))) (qd (qb7 D (Prod.fst (Prod.snd a0))) fun b_1↦qd (qbs D [] a1 (Prod.fst (Prod.fst b_1)) 0) fun b_2↦qd (qb2 D) fun b_3↦qd (qe9 D (Prod.fst (Prod.fst b_2)) a1 (Prod.fst (Prod.fst b_3))) fun b_4↦qd (qb9 D (Prod.fst (Prod.fst b))) fun b_5↦qd (qbs D (Prod.fst (Prod.fst b_4)) a1 (Prod.fst (Prod.fst b_5)) 0) fun b_6↦qd (qcz D (Prod.fst (Prod.fst b))) fun b_7↦qd (qbs D (Prod.fst (Prod.fst b_6)) a1 (Prod.fst (Prod.fst b_7)) 0) fun b_8↦qd (qb9 D 0) fun b_9↦qd (qbs D (Prod.fst (Prod.fst b_8)) a1 (Prod.fst (Prod.fst b_9)) (IntKind.wrap IntKind.i64 (Prod.fst (Prod.snd a0)+1))) fun b_10↦qd (qcz D 0) fun b_11↦qd (qbs D (Prod.fst (Prod.fst b_10)) a1 (Prod.fst (Prod.fst b_11)) (IntKind.wrap IntKind.i64 (Prod.fst (Prod.snd a0)+1))) fun b_12↦qd (qb3 D (Prod.fst (Prod.fst b))) fun b_13↦qd (qb3 D 0) fun b_14↦br (Prod.fst (Prod.fst b_13) != Prod.fst (Prod.fst b_14)) (qd (qfx D (Prod.fst (Prod.fst b_12)) a1 (Prod.fst (Prod.fst b)) (-1)) fun b↦qd (qfx D (Prod.fst (Prod.fst b)) a1 0 1) fun b↦some ((Prod.fst (Prod.fst b),()),())) (some ((Prod.fst (Prod.fst b_12),()),())))
def qnx (D:DX)(n:Nat) (a0:Int×Int×Int×Unit) (a1:List (Int×Int×Unit)):Option ((List (Int×Int×Int×Unit)×Unit)×Unit):=quk D n a0 a1
theorem q2g (D:DX)(n:Nat) (a0:Int×Int×Int×Unit) (a1:List (Int×Int×Unit)):rfC qe D n 45 (a0,(a1,()))=qnx D n a0 a1:=by kernel_rfl

def qxe (D:DX)(n:Nat) (a0:List Int×Int×Int×Unit):Option (((Int×Int×Int×Unit)×Unit)×tCur×Unit):=qd (qls D a0) fun b↦qd (qbc D (Prod.fst (Prod.snd b)) 10) fun b_1↦br (decide (Prod.fst (Prod.fst b_1)=0)) (qd (qbc D (Prod.fst (Prod.snd b_1)) 13) fun b_2↦some (((IntKind.wrap IntKind.i64 (Prod.fst (Prod.fst b_2) - 1),Prod.snd (Prod.fst (Prod.fst b))),()),Prod.fst (Prod.snd b_2),())) (br (decide (Prod.fst (Prod.fst b_1)=1)) (qd (qbc D (Prod.fst (Prod.snd b_1)) 7) fun b_2↦some (((Prod.fst (Prod.fst (Prod.fst b)),IntKind.wrap IntKind.i64 (Prod.fst (Prod.fst b_2) - 1),Prod.snd (Prod.snd (Prod.fst (Prod.fst b)))),()),Prod.fst (Prod.snd b_2),())) (br (decide (Prod.fst (Prod.fst b_1)=2)) (qd (qbc D (Prod.fst (Prod.snd b_1)) 9) fun b_2↦some (((Prod.fst (Prod.fst (Prod.fst b)),Prod.fst (Prod.snd (Prod.fst (Prod.fst b))),IntKind.wrap IntKind.i64 (Prod.fst (Prod.fst b_2) - 1),Prod.snd (Prod.snd (Prod.snd (Prod.fst (Prod.fst b))))),()),Prod.fst (Prod.snd b_2),())) (some ((Prod.fst (Prod.fst b),()),Prod.fst (Prod.snd b_1),()))))
def qro (D:DX)(n:Nat) (a0:List Int×Int×Int×Unit):Option (((Int×Int×Int×Unit)×Unit)×tCur×Unit):=qxe D n a0
theorem q6j (D:DX)(n:Nat) (a0:List Int×Int×Int×Unit):rfC qe D n 46 (a0,())=qro D n a0:=by kernel_rfl

def qmj (D:DX)(n:Nat) (go:Int→Int→List Int×Int×Int×Unit→Int×Int×Int×Unit→List Int→List (Int×Int×Unit)→Option ((List (Int×Int×Unit)×Unit)×tCur×Unit)) (K0:List Int×Int×Int×Unit→List (Int×Int×Unit)→Option ((List (Int×Int×Unit)×Unit)×tCur×Unit)) (x0:Int) (x1:Int) (x2:List Int×Int×Int×Unit) (x3:Int×Int×Int×Unit) (x4:List Int) (x5:List (Int×Int×Unit)):Option ((List (Int×Int×Unit)×Unit)×tCur×Unit):=br (bif decide (x1<x0) then decide (x1<12) else false) (qd (qmm D x3 x5) fun b↦br (bif decide (Prod.fst (Prod.fst b)<0) then true else decide (Prod.fst (Prod.fst b)≥(↑(List.length x4):Int))) (K0 x2 x5) (br (decide (0≤Prod.fst (Prod.fst b))&&decide (Prod.fst (Prod.fst b)<(↑(List.length x4):Int))) (br (decide (List.length x5+1≤qec)) (go x0 (IntKind.wrap IntKind.i64 (x1+1)) x2 x3 x4 (x5++[(Prod.fst (Prod.fst b),List.getD x4 (Int.toNat (Prod.fst (Prod.fst b))) 0,())])) none) none)) (K0 x2 x5)
def qfs (D:DX)(n:Nat) (K0:List Int×Int×Int×Unit→List (Int×Int×Unit)→Option ((List (Int×Int×Unit)×Unit)×tCur×Unit)):Nat→(Int)→(Int)→tCur→(Int×Int×Int×Unit)→(List Int)→(List (Int×Int×Unit))→Option ((List (Int×Int×Unit)×Unit)×tCur×Unit) | 0=>(fun x0 x1 x2 x3 x4 x5=>none) | m+1=>(fun x0 x1 x2 x3 x4 x5=>qmj D n (qfs D n K0 m) K0 x0 x1 x2 x3 x4 x5)
def qhv (D:DX)(n:Nat) (v0_0:List Int×Int×Int×Unit) (v0_1:List (Int×Int×Unit)):Option ((List (Int×Int×Unit)×Unit)×tCur×Unit):=br (decide ((↑(List.length v0_1):Int)>0)) (qd (qrz D v0_0 8) fun b↦br (Prod.fst (Prod.fst b)) (qd (qbc D (Prod.fst (Prod.snd b)) (↑(List.length v0_1):Int)) fun b↦qd (qbc D (Prod.fst (Prod.snd b)) 9) fun b_1↦br (decide (0≤Prod.fst (Prod.fst b))&&decide (Prod.fst (Prod.fst b)<(↑(List.length v0_1):Int))) (some ((List.set v0_1 (Int.toNat (Prod.fst (Prod.fst b))) (Prod.fst (List.getD v0_1 (Int.toNat (Prod.fst (Prod.fst b))) (0,0,())),IntKind.wrap IntKind.i64 (Prod.fst (Prod.fst b_1) - 1),Prod.snd (Prod.snd (List.getD v0_1 (Int.toNat (Prod.fst (Prod.fst b))) (0,0,())))),()),Prod.fst (Prod.snd b_1),())) none) (some ((v0_1,()),Prod.fst (Prod.snd b),()))) (some ((v0_1,()),v0_0,()))
def qlt (D:DX)(n:Nat):(Int)→(Int)→tCur→(Int×Int×Int×Unit)→(List Int)→(List (Int×Int×Unit))→Option ((List (Int×Int×Unit)×Unit)×tCur×Unit):=(fun x0 x1 x2 x3 x4 x5=>qfs D n (fun v0_0 v0_1=>qhv D n v0_0 v0_1) n x0 x1 x2 x3 x4 x5)
def qnc (D:DX)(n:Nat) (lp0:Int→Int→List Int×Int×Int×Unit→Int×Int×Int×Unit→List Int→List (Int×Int×Unit)→Option ((List (Int×Int×Unit)×Unit)×tCur×Unit)) (a0:List Int×Int×Int×Unit) (a1:List Int×Int×Unit) (a2:Int×Int×Int×Unit) (a3:Int):Option ((List (Int×Int×Unit)×Unit)×tCur×Unit):=qd (qo7 D a1) fun b↦lp0 a3 0 a0 a2 (Prod.fst (Prod.fst b)) []
def qnb (D:DX)(n:Nat) (a0:List Int×Int×Int×Unit) (a1:List Int×Int×Unit) (a2:Int×Int×Int×Unit) (a3:Int):Option ((List (Int×Int×Unit)×Unit)×tCur×Unit):=qnc D n (qlt D n) a0 a1 a2 a3
def qfv (x0:Int) (x1:Int) (x2:List Int×Int×Int×Unit) (x3:Int×Int×Int×Unit) (x4:List Int) (x5:List (Int×Int×Unit)):St:=stq 63 [(0,AV.addr 0 []),(3,avI x0),(6,AV.addr 6 []),(9,AV.brw 9 [] 0),(10,AV.brw 10 [] 0),(11,avI x1)] [(0,Root.mk (Ty.pair (Ty.sl (Ty.int IntKind.u8)) (Ty.pair yI (Ty.pair yI Ty.unit))) Mk.no x2 true),(6,Root.mk (Ty.pair yI (Ty.pair yI (Ty.pair yI Ty.unit))) Mk.no x3 true),(9,Root.mk (Ty.sl yI) (Mk.own 0 Mk.no) x4 false),(10,Root.mk (Ty.sl (Ty.pair yI (Ty.pair yI Ty.unit))) (Mk.own 0 Mk.no) x5 false)] 
def qht (v0_0:List Int×Int×Int×Unit) (v0_1:List (Int×Int×Unit)):St:=stq 63 [(0,AV.addr 0 []),(10,AV.brw 10 [] 0)] [(0,Root.mk (Ty.pair (Ty.sl (Ty.int IntKind.u8)) (Ty.pair yI (Ty.pair yI Ty.unit))) Mk.no v0_0 true),(10,Root.mk (Ty.sl (Ty.pair yI (Ty.pair yI Ty.unit))) (Mk.own 0 Mk.no) v0_1 false)] 
theorem qx5 (D:DX)(n:Nat) (m:Nat) (K:Ex→St→Option (Out ctx 47)) (x0:Int) (x1:Int) (x2:List Int×Int×Int×Unit) (x3:Int×Int×Int×Unit) (x4:List Int) (x5:List (Int×Int×Unit)) :
 LQ qe D n 47 [.r,.r,.r,.l,.r,.l] (m+1) (qfv x0 x1 x2 x3 x4 x5) K=qmj D n (fun x0 x1 x2 x3 x4 x5=>LQ qe D n 47 [.r,.r,.r,.l,.r,.l] m (qfv x0 x1 x2 x3 x4 x5) K) (fun v0_0 v0_1=>K (Ex.exit 0) (qht v0_0 v0_1)) x0 x1 x2 x3 x4 x5:=by kernel_rfl
theorem qre (D:DX)(n:Nat) (K:Ex→St→Option (Out ctx 47)):∀ (m:Nat) (x0:Int) (x1:Int) (x2:List Int×Int×Int×Unit) (x3:Int×Int×Int×Unit) (x4:List Int) (x5:List (Int×Int×Unit)),LQ qe D n 47 [.r,.r,.r,.l,.r,.l] m (qfv x0 x1 x2 x3 x4 x5) K=qfs D n (fun v0_0 v0_1=>K (Ex.exit 0) (qht v0_0 v0_1)) m x0 x1 x2 x3 x4 x5
 | 0,x0,x1,x2,x3,x4,x5=>qc1 ..
 | m+1,x0,x1,x2,x3,x4,x5=>by
  have ih:(fun x0 x1 x2 x3 x4 x5=>LQ qe D n 47 [.r,.r,.r,.l,.r,.l] m (qfv x0 x1 x2 x3 x4 x5) K)=qfs D n (fun v0_0 v0_1=>K (Ex.exit 0) (qht v0_0 v0_1)) m:=by funext x0 x1 x2 x3 x4 x5;exact qre D n K m x0 x1 x2 x3 x4 x5
  rw[qx5]
  rw[ih];rfl
theorem qxp (D:DX)(n:Nat) (v0_0:List Int×Int×Int×Unit) (v0_1:List (Int×Int×Unit)) :
 (CQ qe D n 47 [] [.r,.r,.r,.l,.r,.l] (qy qe 47)) (Ex.exit 0) (qht v0_0 v0_1)=qhv D n v0_0 v0_1:=by kernel_rfl
theorem qxo (D:DX)(n:Nat) (x0:Int) (x1:Int) (x2:List Int×Int×Int×Unit) (x3:Int×Int×Int×Unit) (x4:List Int) (x5:List (Int×Int×Unit)) :
 LQ qe D n 47 [.r,.r,.r,.l,.r,.l] n (qfv x0 x1 x2 x3 x4 x5) (CQ qe D n 47 [] [.r,.r,.r,.l,.r,.l] (qy qe 47))=qlt D n x0 x1 x2 x3 x4 x5:=by
 rw[qre]
 simp only[qxp]
 rfl
theorem q00 (D:DX)(n:Nat) (a0:List Int×Int×Int×Unit) (a1:List Int×Int×Unit) (a2:Int×Int×Int×Unit) (a3:Int):rfC qe D n 47 (a0,(a1,(a2,(a3,()))))=qnb D n a0 a1 a2 a3:=by
 have h:rfC qe D n 47 (a0,(a1,(a2,(a3,()))))=qnc D n (fun x0 x1 x2 x3 x4 x5=>LQ qe D n 47 [.r,.r,.r,.l,.r,.l] n (qfv x0 x1 x2 x3 x4 x5) (CQ qe D n 47 [] [.r,.r,.r,.l,.r,.l] (qy qe 47))) a0 a1 a2 a3:=by kernel_rfl
 rw[h]
 simp only[qxo]
 rfl

def qwe (D:DX)(n:Nat) (a0:List Int×Int×Int×Unit) (a1:Int):Option ((Int×Unit)×tCur×Unit):=br (decide (a1≤0)) (some ((0,()),a0,())) (br (decide (a1≤256)) (qd (qg3 D a0) fun b↦br (decide (a1=0)) none (some ((Int.tmod (Prod.fst (Prod.fst b)) a1,()),Prod.fst (Prod.snd b),()))) (qd (qg3 D a0) fun b↦qd (qg3 D (Prod.fst (Prod.snd b))) fun b_1↦qd (qg3 D (Prod.fst (Prod.snd b_1))) fun b_2↦qd (qg3 D (Prod.fst (Prod.snd b_2))) fun b_3↦br (decide (a1=0)) none (some ((Int.tmod (IntKind.wrap IntKind.i64 (IntKind.wrap IntKind.i64 (IntKind.wrap IntKind.i64 (IntKind.wrap IntKind.i64 (Prod.fst (Prod.fst b) * 16777216)+IntKind.wrap IntKind.i64 (Prod.fst (Prod.fst b_1) * 65536))+IntKind.wrap IntKind.i64 (Prod.fst (Prod.fst b_2) * 256))+Prod.fst (Prod.fst b_3))) a1,()),Prod.fst (Prod.snd b_3),()))))
def qpe (D:DX)(n:Nat) (a0:List Int×Int×Int×Unit) (a1:Int):Option ((Int×Unit)×tCur×Unit):=qwe D n a0 a1
theorem q4s (D:DX)(n:Nat) (a0:List Int×Int×Int×Unit) (a1:Int):rfC qe D n 48 (a0,(a1,()))=qpe D n a0 a1:=by kernel_rfl

def qr4 (D:DX)(n:Nat) (go:Int→List (Int×Int×Unit)×Int×Bool×Unit→Option (((List (Int×Int×Unit)×Int×Bool×Unit)×Unit)×Unit)) (K0:List (Int×Int×Unit)×Int×Bool×Unit→Option (((List (Int×Int×Unit)×Int×Bool×Unit)×Unit)×Unit)) (x0:Int) (x1:List (Int×Int×Unit)×Int×Bool×Unit):Option (((List (Int×Int×Unit)×Int×Bool×Unit)×Unit)×Unit):=br (decide (x0<4)) (qd (qb7 D x0) fun b↦qd (qx D x1 (Prod.fst (Prod.fst b))) fun b↦go (IntKind.wrap IntKind.i64 (x0+1)) (Prod.fst (Prod.snd b))) (K0 x1)
def qh6 (D:DX)(n:Nat) (K0:List (Int×Int×Unit)×Int×Bool×Unit→Option (((List (Int×Int×Unit)×Int×Bool×Unit)×Unit)×Unit)):Nat→(Int)→(List (Int×Int×Unit)×Int×Bool×Unit)→Option (((List (Int×Int×Unit)×Int×Bool×Unit)×Unit)×Unit) | 0=>(fun x0 x1=>none) | m+1=>(fun x0 x1=>qr4 D n (qh6 D n K0 m) K0 x0 x1)
def qob (D:DX)(n:Nat) (v0_0:List (Int×Int×Unit)×Int×Bool×Unit):Option (((List (Int×Int×Unit)×Int×Bool×Unit)×Unit)×Unit):=some ((v0_0,()),())
def qqi (D:DX)(n:Nat):(Int)→(List (Int×Int×Unit)×Int×Bool×Unit)→Option (((List (Int×Int×Unit)×Int×Bool×Unit)×Unit)×Unit):=(fun x0 x1=>qh6 D n (fun v0_0=>qob D n v0_0) n x0 x1)
def qtn (D:DX)(n:Nat) (lp0:Int→List (Int×Int×Unit)×Int×Bool×Unit→Option (((List (Int×Int×Unit)×Int×Bool×Unit)×Unit)×Unit)) (a0:Int×Int×Int×Unit) (a1:List (Int×Int×Unit)):Option (((List (Int×Int×Unit)×Int×Bool×Unit)×Unit)×Unit):=br (decide (Prod.fst a0=1)) (qd (qtb D (a1,-1,false,()) a0) fun b↦some ((Prod.fst (Prod.snd b),()),())) (br (decide (Prod.fst a0=2)) (qd (qt0 D (a1,-1,false,()) a0) fun b↦some ((Prod.fst (Prod.snd b),()),())) (br (decide (Prod.fst a0=3)) (qd (qs9 D (a1,-1,false,()) a0) fun b↦some ((Prod.fst (Prod.snd b),()),())) (br (decide (Prod.fst a0=4)) (qd (qb7 D (Prod.fst (Prod.snd a0))) fun b↦qd (qx D (a1,-1,false,()) (Prod.fst (Prod.fst b))) fun b↦some ((Prod.fst (Prod.snd b),()),())) (br (decide (Prod.fst a0=5)) (qd (qb9 D (Prod.fst (Prod.snd (Prod.snd a0)))) fun b↦qd (qx D (a1,-1,false,()) (Prod.fst (Prod.fst b))) fun b↦some ((Prod.fst (Prod.snd b),()),())) (br (decide (Prod.fst a0=6)) (qd (qd4 D (Prod.fst (Prod.snd a0))) fun b↦qd (qx D (a1,-1,false,()) (Prod.fst (Prod.fst b))) fun b↦some ((Prod.fst (Prod.snd b),()),())) (br (decide (Prod.fst a0=7)) (lp0 0 (a1,-1,false,())) (br (decide (Prod.fst a0=8)) (qd (qb2 D) fun b↦qd (qx D (a1,-1,false,()) (Prod.fst (Prod.fst b))) fun b↦some ((Prod.fst (Prod.snd b),()),())) (br (decide (Prod.fst a0=9)) (qd (qr3 D (a1,-1,false,())) fun b↦some ((Prod.fst (Prod.snd b),()),())) (br (decide (Prod.fst a0=10)) (qd (qb2 D) fun b↦qd (qx D (a1,-1,false,()) (Prod.fst (Prod.fst b))) fun b↦qd (qfk D (Prod.fst (Prod.snd b)) (Prod.fst (Prod.fst b) != 5)) fun b↦qd (qcz D (Prod.fst (Prod.snd (Prod.snd a0)))) fun b_1↦qd (qx D (Prod.fst (Prod.snd b)) (Prod.fst (Prod.fst b_1))) fun b↦some ((Prod.fst (Prod.snd b),()),())) (some (((a1,-1,false,()),()),())))))))))))
def qt3 (D:DX)(n:Nat) (a0:Int×Int×Int×Unit) (a1:List (Int×Int×Unit)):Option (((List (Int×Int×Unit)×Int×Bool×Unit)×Unit)×Unit):=qtn D n (qqi D n) a0 a1
def qh9 (x0:Int) (x1:List (Int×Int×Unit)×Int×Bool×Unit):St:=stq 81 [(5,AV.addr 9 []),(6,avI x0)] [(9,Root.mk (Ty.pair (Ty.sl (Ty.pair yI (Ty.pair yI Ty.unit))) (Ty.pair yI (Ty.pair Ty.bool Ty.unit))) Mk.no x1 true)] 
def qkz (v0_0:List (Int×Int×Unit)×Int×Bool×Unit):St:=stq 81 [(5,AV.addr 9 [])] [(9,Root.mk (Ty.pair (Ty.sl (Ty.pair yI (Ty.pair yI Ty.unit))) (Ty.pair yI (Ty.pair Ty.bool Ty.unit))) Mk.no v0_0 true)] 
theorem q3c (D:DX)(n:Nat) (m:Nat) (K:Ex→St→Option (Out ctx 49)) (x0:Int) (x1:List (Int×Int×Unit)×Int×Bool×Unit) :
 LQ qe D n 49 [.r,.r,.l,.r,.l,.r,.r,.r,.r,.r,.r,.r,.r,.r,.r,.r,.r,.r,.l,.r,.l] (m+1) (qh9 x0 x1) K=qr4 D n (fun x0 x1=>LQ qe D n 49 [.r,.r,.l,.r,.l,.r,.r,.r,.r,.r,.r,.r,.r,.r,.r,.r,.r,.r,.l,.r,.l] m (qh9 x0 x1) K) (fun v0_0=>K (Ex.exit 1) (qkz v0_0)) x0 x1:=by kernel_rfl
theorem qu7 (D:DX)(n:Nat) (K:Ex→St→Option (Out ctx 49)):∀ (m:Nat) (x0:Int) (x1:List (Int×Int×Unit)×Int×Bool×Unit),LQ qe D n 49 [.r,.r,.l,.r,.l,.r,.r,.r,.r,.r,.r,.r,.r,.r,.r,.r,.r,.r,.l,.r,.l] m (qh9 x0 x1) K=qh6 D n (fun v0_0=>K (Ex.exit 1) (qkz v0_0)) m x0 x1
 | 0,x0,x1=>qc1 ..
 | m+1,x0,x1=>by
  have ih:(fun x0 x1=>LQ qe D n 49 [.r,.r,.l,.r,.l,.r,.r,.r,.r,.r,.r,.r,.r,.r,.r,.r,.r,.r,.l,.r,.l] m (qh9 x0 x1) K)=qh6 D n (fun v0_0=>K (Ex.exit 1) (qkz v0_0)) m:=by funext x0 x1;exact qu7 D n K m x0 x1
  rw[q3c]
  rw[ih];rfl
theorem q1w (D:DX)(n:Nat) (v0_0:List (Int×Int×Unit)×Int×Bool×Unit) :
 (CQ qe D n 49 [] [.r,.r,.l,.r,.l,.r,.r,.r,.r,.r,.r,.r,.r,.r,.r,.r,.r,.r,.l,.r,.l] (qy qe 49)) (Ex.exit 1) (qkz v0_0)=qob D n v0_0:=by kernel_rfl
theorem q2z (D:DX)(n:Nat) (x0:Int) (x1:List (Int×Int×Unit)×Int×Bool×Unit) :
 LQ qe D n 49 [.r,.r,.l,.r,.l,.r,.r,.r,.r,.r,.r,.r,.r,.r,.r,.r,.r,.r,.l,.r,.l] n (qh9 x0 x1) (CQ qe D n 49 [] [.r,.r,.l,.r,.l,.r,.r,.r,.r,.r,.r,.r,.r,.r,.r,.r,.r,.r,.l,.r,.l] (qy qe 49))=qqi D n x0 x1:=by
 rw[qu7]
 simp only[q1w]
 rfl
theorem q8u (D:DX)(n:Nat) (a0:Int×Int×Int×Unit) (a1:List (Int×Int×Unit)):rfC qe D n 49 (a0,(a1,()))=qt3 D n a0 a1:=by
 have h:rfC qe D n 49 (a0,(a1,()))=qtn D n (fun x0 x1=>LQ qe D n 49 [.r,.r,.l,.r,.l,.r,.r,.r,.r,.r,.r,.r,.r,.r,.r,.r,.r,.r,.l,.r,.l] n (qh9 x0 x1) (CQ qe D n 49 [] [.r,.r,.l,.r,.l,.r,.r,.r,.r,.r,.r,.r,.r,.r,.r,.r,.r,.r,.l,.r,.l] (qy qe 49))) a0 a1:=by kernel_rfl
 rw[h]
 simp only[q2z]
 rfl

def qvb (D:DX)(n:Nat) (a0:Int×List Int×Unit) (a1:Int×List Int×Unit):Option ((Bool×Unit)×Unit):=br (decide (Prod.fst a0=Prod.fst a1)) (qd (qrq D (Prod.fst (Prod.snd a0)) (Prod.fst (Prod.snd a1))) fun b↦some ((Prod.fst (Prod.fst b),()),())) (some ((false,()),()))
def qqh (D:DX)(n:Nat) (a0:Int×List Int×Unit) (a1:Int×List Int×Unit):Option ((Bool×Unit)×Unit):=qvb D n a0 a1
theorem q4d (D:DX)(n:Nat) (a0:Int×List Int×Unit) (a1:Int×List Int×Unit):rfC qe D n 50 (a0,(a1,()))=qqh D n a0 a1:=by kernel_rfl

def qkw (D:DX)(n:Nat) (go:List (Int×Int×Int×Unit)→List (Int×Int×Int×Unit)→Int→Option ((Bool×Unit)×Unit)) (K0:Bool→Option ((Bool×Unit)×Unit)) (K1:Option ((Bool×Unit)×Unit)) (x0:List (Int×Int×Int×Unit)) (x1:List (Int×Int×Int×Unit)) (x2:Int):Option ((Bool×Unit)×Unit):=br (decide (x2<(↑(List.length x0):Int))) (br (decide (0≤x2)&&decide (x2<(↑(List.length x0):Int))) (br (decide (0≤x2)&&decide (x2<(↑(List.length x1):Int))) (br (!qmz (Ty.pair (Ty.int IntKind.i64) (Ty.pair (Ty.int IntKind.i64) (Ty.pair (Ty.int IntKind.i64) Ty.unit))) (List.getD x0 (Int.toNat x2) (0,0,0,())) (List.getD x1 (Int.toNat x2) (0,0,0,()))) (K0 false) (go x0 x1 (IntKind.wrap IntKind.i64 (x2+1)))) none) none) K1
def qex (D:DX)(n:Nat) (K0:Bool→Option ((Bool×Unit)×Unit)) (K1:Option ((Bool×Unit)×Unit)):Nat→(List (Int×Int×Int×Unit))→(List (Int×Int×Int×Unit))→(Int)→Option ((Bool×Unit)×Unit) | 0=>(fun x0 x1 x2=>none) | m+1=>(fun x0 x1 x2=>qkw D n (qex D n K0 K1 m) K0 K1 x0 x1 x2)
def qjf (D:DX)(n:Nat) (v0_0:Bool):Option ((Bool×Unit)×Unit):=some ((v0_0,()),())
def qi7 (D:DX)(n:Nat):Option ((Bool×Unit)×Unit):=some ((true,()),())
def qkc (D:DX)(n:Nat):(List (Int×Int×Int×Unit))→(List (Int×Int×Int×Unit))→(Int)→Option ((Bool×Unit)×Unit):=(fun x0 x1 x2=>qex D n (fun v0_0=>qjf D n v0_0) (qi7 D n) n x0 x1 x2)
def qlo (D:DX)(n:Nat) (lp0:List (Int×Int×Int×Unit)→List (Int×Int×Int×Unit)→Int→Option ((Bool×Unit)×Unit)) (a0:List (Int×Int×Int×Unit)) (a1:List (Int×Int×Int×Unit)):Option ((Bool×Unit)×Unit):=br ((↑(List.length a0):Int) != (↑(List.length a1):Int)) (some ((false,()),())) (lp0 a0 a1 0)
def qld (D:DX)(n:Nat) (a0:List (Int×Int×Int×Unit)) (a1:List (Int×Int×Int×Unit)):Option ((Bool×Unit)×Unit):=qlo D n (qkc D n) a0 a1
def qeu (x0:List (Int×Int×Int×Unit)) (x1:List (Int×Int×Int×Unit)) (x2:Int):St:=stq 26 [(0,AV.val (Ty.sl (Ty.pair yI (Ty.pair yI (Ty.pair yI Ty.unit)))) x0),(1,AV.val (Ty.sl (Ty.pair yI (Ty.pair yI (Ty.pair yI Ty.unit)))) x1),(5,avI x2)] [] 
def qgo (v0_0:Bool):St:=stq 26 [(4,AV.val Ty.bool v0_0)] [] 
def qgt:St:=stq 26 [] [] 
theorem qwt (D:DX)(n:Nat) (m:Nat) (K:Ex→St→Option (Out ctx 51)) (x0:List (Int×Int×Int×Unit)) (x1:List (Int×Int×Int×Unit)) (x2:Int) :
 LQ qe D n 51 [.r,.r,.l,.r,.l] (m+1) (qeu x0 x1 x2) K=qkw D n (fun x0 x1 x2=>LQ qe D n 51 [.r,.r,.l,.r,.l] m (qeu x0 x1 x2) K) (fun v0_0=>K (Ex.ret) (qgo v0_0)) (K (Ex.exit 0) (qgt)) x0 x1 x2:=by kernel_rfl
theorem qnt (D:DX)(n:Nat) (K:Ex→St→Option (Out ctx 51)):∀ (m:Nat) (x0:List (Int×Int×Int×Unit)) (x1:List (Int×Int×Int×Unit)) (x2:Int),LQ qe D n 51 [.r,.r,.l,.r,.l] m (qeu x0 x1 x2) K=qex D n (fun v0_0=>K (Ex.ret) (qgo v0_0)) (K (Ex.exit 0) (qgt)) m x0 x1 x2
 | 0,x0,x1,x2=>qc1 ..
 | m+1,x0,x1,x2=>by
  have ih:(fun x0 x1 x2=>LQ qe D n 51 [.r,.r,.l,.r,.l] m (qeu x0 x1 x2) K)=qex D n (fun v0_0=>K (Ex.ret) (qgo v0_0)) (K (Ex.exit 0) (qgt)) m:=by funext x0 x1 x2;exact qnt D n K m x0 x1 x2
  rw[qwt]
  rw[ih];rfl
theorem qv4 (D:DX)(n:Nat) (v0_0:Bool) :
 (CQ qe D n 51 [] [.r,.r,.l,.r,.l] (qy qe 51)) (Ex.ret) (qgo v0_0)=qjf D n v0_0:=by kernel_rfl
theorem qve (D:DX)(n:Nat) :
 (CQ qe D n 51 [] [.r,.r,.l,.r,.l] (qy qe 51)) (Ex.exit 0) (qgt)=qi7 D n:=by kernel_rfl
theorem qu9 (D:DX)(n:Nat) (x0:List (Int×Int×Int×Unit)) (x1:List (Int×Int×Int×Unit)) (x2:Int) :
 LQ qe D n 51 [.r,.r,.l,.r,.l] n (qeu x0 x1 x2) (CQ qe D n 51 [] [.r,.r,.l,.r,.l] (qy qe 51))=qkc D n x0 x1 x2:=by
 rw[qnt]
 simp only[qv4,qve]
 rfl
theorem qx7 (D:DX)(n:Nat) (a0:List (Int×Int×Int×Unit)) (a1:List (Int×Int×Int×Unit)):rfC qe D n 51 (a0,(a1,()))=qld D n a0 a1:=by
 have h:rfC qe D n 51 (a0,(a1,()))=qlo D n (fun x0 x1 x2=>LQ qe D n 51 [.r,.r,.l,.r,.l] n (qeu x0 x1 x2) (CQ qe D n 51 [] [.r,.r,.l,.r,.l] (qy qe 51))) a0 a1:=by kernel_rfl
 rw[h]
 simp only[qu9]
 rfl

def qyo (D:DX)(n:Nat) (a0:Int):Option ((Bool×Unit)×Unit):=qd (qms D a0 1 6) fun b↦some ((Prod.fst (Prod.fst b),()),())
def qsu (D:DX)(n:Nat) (a0:Int):Option ((Bool×Unit)×Unit):=qyo D n a0
theorem q7a (D:DX)(n:Nat) (a0:Int):rfC qe D n 57 (a0,())=qsu D n a0:=by kernel_rfl

def qbal (D:DX)(n:Nat) (a0:Int) (a1:Int) (a2:Int):Option ((Bool×Unit)×Unit):=some ((bif decide (a0≥a1) then decide (a0≤a2) else false,()),())
def qz4 (D:DX)(n:Nat) (a0:Int) (a1:Int) (a2:Int):Option ((Bool×Unit)×Unit):=qbal D n a0 a1 a2
theorem qbas (D:DX)(n:Nat) (a0:Int) (a1:Int) (a2:Int):rfC qe D n 59 (a0,(a1,(a2,())))=qz4 D n a0 a1 a2:=by kernel_rfl

def qxv (D:DX)(n:Nat) (a0:Int):Option ((Bool×Unit)×Unit):=qd (qms D a0 0 3) fun b↦some ((Prod.fst (Prod.fst b),()),())
def qss (D:DX)(n:Nat) (a0:Int):Option ((Bool×Unit)×Unit):=qxv D n a0
theorem q7w (D:DX)(n:Nat) (a0:Int):rfC qe D n 60 (a0,())=qss D n a0:=by kernel_rfl

def qvh (D:DX)(n:Nat) (a0:Int):Option ((Bool×Unit)×Unit):=qd (qms D a0 0 2) fun b↦some ((Prod.fst (Prod.fst b),()),())
def qpy (D:DX)(n:Nat) (a0:Int):Option ((Bool×Unit)×Unit):=qvh D n a0
theorem q4n (D:DX)(n:Nat) (a0:Int):rfC qe D n 61 (a0,())=qpy D n a0:=by kernel_rfl

def qvl (D:DX)(n:Nat) (a0:Int):Option ((Int×Unit)×Unit):=qd (qby D a0) fun b↦qd (qhz D (Prod.fst (Prod.fst b)) (IntKind.wrap IntKind.i64 (3+a0))) fun b↦some ((Prod.fst (Prod.fst b),()),())
def qpc (D:DX)(n:Nat) (a0:Int):Option ((Int×Unit)×Unit):=qvl D n a0
theorem q32 (D:DX)(n:Nat) (a0:Int):rfC qe D n 62 (a0,())=qpc D n a0:=by kernel_rfl

def qu8 (D:DX)(n:Nat) (a0:Int):Option ((Int×Unit)×Unit):=qd (qdn D a0) fun b↦qd (qhz D (Prod.fst (Prod.fst b)) (IntKind.wrap IntKind.i64 (10+a0))) fun b↦some ((Prod.fst (Prod.fst b),()),())
def qqe (D:DX)(n:Nat) (a0:Int):Option ((Int×Unit)×Unit):=qu8 D n a0
theorem q3t (D:DX)(n:Nat) (a0:Int):rfC qe D n 63 (a0,())=qqe D n a0:=by kernel_rfl

def qwb (D:DX)(n:Nat) (a0:Int):Option ((Int×Unit)×Unit):=qd (qby D a0) fun b↦br (!Prod.fst (Prod.fst b)) (some ((-1,()),())) (some ((Int.tmod a0 3,()),()))
def qpj (D:DX)(n:Nat) (a0:Int):Option ((Int×Unit)×Unit):=qwb D n a0
theorem q35 (D:DX)(n:Nat) (a0:Int):rfC qe D n 64 (a0,())=qpj D n a0:=by kernel_rfl

def q37 (D:DX)(n:Nat):Option (((List Int×Int×Unit)×Unit)×Unit):=some (((List.replicate (Int.toNat 4) 0,0,()),()),())
def qvw (D:DX)(n:Nat):Option (((List Int×Int×Unit)×Unit)×Unit):=q37 D n
theorem q3o (D:DX)(n:Nat):rfC qe D n 65 ()=qvw D n:=by kernel_rfl

def qrs (D:DX)(n:Nat) (go:Int→Int→List Int×Int×Unit→Option ((Int×Unit)×Unit)) (K0:Int→Option ((Int×Unit)×Unit)) (K1:Option ((Int×Unit)×Unit)) (x0:Int) (x1:Int) (x2:List Int×Int×Unit):Option ((Int×Unit)×Unit):=br (decide (x1<(↑(List.length (Prod.fst x2)):Int))) (br (decide (0≤x1)&&decide (x1<(↑(List.length (Prod.fst x2)):Int))) (br (decide (List.getD (Prod.fst x2) (Int.toNat x1) 0=x0)) (K0 x1) (go x0 (IntKind.wrap IntKind.i64 (x1+1)) x2)) none) K1
def qhy (D:DX)(n:Nat) (K0:Int→Option ((Int×Unit)×Unit)) (K1:Option ((Int×Unit)×Unit)):Nat→(Int)→(Int)→(List Int×Int×Unit)→Option ((Int×Unit)×Unit) | 0=>(fun x0 x1 x2=>none) | m+1=>(fun x0 x1 x2=>qrs D n (qhy D n K0 K1 m) K0 K1 x0 x1 x2)
def qok (D:DX)(n:Nat) (v0_0:Int):Option ((Int×Unit)×Unit):=some ((v0_0,()),())
def qo0 (D:DX)(n:Nat):Option ((Int×Unit)×Unit):=some ((-1,()),())
def qp9 (D:DX)(n:Nat):(Int)→(Int)→(List Int×Int×Unit)→Option ((Int×Unit)×Unit):=(fun x0 x1 x2=>qhy D n (fun v0_0=>qok D n v0_0) (qo0 D n) n x0 x1 x2)
def qtu (D:DX)(n:Nat) (lp0:Int→Int→List Int×Int×Unit→Option ((Int×Unit)×Unit)) (a0:List Int×Int×Unit) (a1:Int):Option ((Int×Unit)×Unit):=lp0 a1 0 a0
def qtj (D:DX)(n:Nat) (a0:List Int×Int×Unit) (a1:Int):Option ((Int×Unit)×Unit):=qtu D n (qp9 D n) a0 a1
def qh2 (x0:Int) (x1:Int) (x2:List Int×Int×Unit):St:=stq 21 [(1,avI x0),(2,AV.addr 2 []),(5,avI x1)] [(2,Root.mk (Ty.pair (Ty.sl yI) (Ty.pair yI Ty.unit)) Mk.no x2 true)] 
def qk7 (v0_0:Int):St:=stq 21 [(4,avI v0_0)] [] 
def qk1:St:=stq 21 [] [] 
theorem q4g (D:DX)(n:Nat) (m:Nat) (K:Ex→St→Option (Out ctx 66)) (x0:Int) (x1:Int) (x2:List Int×Int×Unit) :
 LQ qe D n 66 [.r,.l,.r,.l] (m+1) (qh2 x0 x1 x2) K=qrs D n (fun x0 x1 x2=>LQ qe D n 66 [.r,.l,.r,.l] m (qh2 x0 x1 x2) K) (fun v0_0=>K (Ex.ret) (qk7 v0_0)) (K (Ex.exit 0) (qk1)) x0 x1 x2:=by kernel_rfl
theorem qwd (D:DX)(n:Nat) (K:Ex→St→Option (Out ctx 66)):∀ (m:Nat) (x0:Int) (x1:Int) (x2:List Int×Int×Unit),LQ qe D n 66 [.r,.l,.r,.l] m (qh2 x0 x1 x2) K=qhy D n (fun v0_0=>K (Ex.ret) (qk7 v0_0)) (K (Ex.exit 0) (qk1)) m x0 x1 x2
 | 0,x0,x1,x2=>qc1 ..
 | m+1,x0,x1,x2=>by
  have ih:(fun x0 x1 x2=>LQ qe D n 66 [.r,.l,.r,.l] m (qh2 x0 x1 x2) K)=qhy D n (fun v0_0=>K (Ex.ret) (qk7 v0_0)) (K (Ex.exit 0) (qk1)) m:=by funext x0 x1 x2;exact qwd D n K m x0 x1 x2
  rw[q4g]
  rw[ih];rfl
theorem q2f (D:DX)(n:Nat) (v0_0:Int) :
 (CQ qe D n 66 [] [.r,.l,.r,.l] (qy qe 66)) (Ex.ret) (qk7 v0_0)=qok D n v0_0:=by kernel_rfl
theorem q2o (D:DX)(n:Nat) :
 (CQ qe D n 66 [] [.r,.l,.r,.l] (qy qe 66)) (Ex.exit 0) (qk1)=qo0 D n:=by kernel_rfl
theorem q2r (D:DX)(n:Nat) (x0:Int) (x1:Int) (x2:List Int×Int×Unit) :
 LQ qe D n 66 [.r,.l,.r,.l] n (qh2 x0 x1 x2) (CQ qe D n 66 [] [.r,.l,.r,.l] (qy qe 66))=qp9 D n x0 x1 x2:=by
 rw[qwd]
 simp only[q2f,q2o]
 rfl
theorem q8a (D:DX)(n:Nat) (a0:List Int×Int×Unit) (a1:Int):rfC qe D n 66 (a0,(a1,()))=qtj D n a0 a1:=by
 have h:rfC qe D n 66 (a0,(a1,()))=qtu D n (fun x0 x1 x2=>LQ qe D n 66 [.r,.l,.r,.l] n (qh2 x0 x1 x2) (CQ qe D n 66 [] [.r,.l,.r,.l] (qy qe 66))) a0 a1:=by kernel_rfl
 rw[h]
 simp only[q2r]
 rfl

def qt2 (D:DX)(n:Nat) (a0:List Int×Int×Int×Unit) (a1:List Int):Option ((Int×Unit)×tCur×Unit):=qd (qbc D a0 (↑(List.length a1):Int)) fun b↦br (decide (0≤Prod.fst (Prod.fst b))&&decide (Prod.fst (Prod.fst b)<(↑(List.length a1):Int))) (some ((List.getD a1 (Int.toNat (Prod.fst (Prod.fst b))) 0,()),Prod.fst (Prod.snd b),())) none
def qna (D:DX)(n:Nat) (a0:List Int×Int×Int×Unit) (a1:List Int):Option ((Int×Unit)×tCur×Unit):=qt2 D n a0 a1
theorem q1l (D:DX)(n:Nat) (a0:List Int×Int×Int×Unit) (a1:List Int):rfC qe D n 67 (a0,(a1,()))=qna D n a0 a1:=by kernel_rfl

def qxw (D:DX)(n:Nat) (a0:Int):Option ((Bool×Unit)×Unit):=qd (qek D a0 1 4) fun b↦some ((Prod.fst (Prod.fst b),()),())
def qsx (D:DX)(n:Nat) (a0:Int):Option ((Bool×Unit)×Unit):=qxw D n a0
theorem q8c (D:DX)(n:Nat) (a0:Int):rfC qe D n 68 (a0,())=qsx D n a0:=by kernel_rfl

def q7j (D:DX)(n:Nat) (a0:Int):Option ((Bool×Unit)×Unit):=some ((bif bif bif decide (a0=1) then true else decide (a0=2) then true else decide (a0=5) then true else decide (a0=10),()),())
def qx0 (D:DX)(n:Nat) (a0:Int):Option ((Bool×Unit)×Unit):=q7j D n a0
theorem q8b (D:DX)(n:Nat) (a0:Int):rfC qe D n 69 (a0,())=qx0 D n a0:=by kernel_rfl

def qqp (D:DX)(n:Nat) (go:Int→List Int×Int×Unit→Option ((Bool×Unit)×Unit)) (K0:Bool→List Int×Int×Unit→Option ((Bool×Unit)×Unit)) (K1:List Int×Int×Unit→Option ((Bool×Unit)×Unit)) (x0:Int) (x1:List Int×Int×Unit):Option ((Bool×Unit)×Unit):=br (decide (x0<(↑(List.length (Prod.fst x1)):Int))) (br (decide (0≤x0)&&decide (x0<(↑(List.length (Prod.fst x1)):Int))) (br (List.getD (Prod.fst x1) (Int.toNat x0) 0 != 0) (br (decide (0≤x0)&&decide (x0<(↑(List.length (Prod.fst x1)):Int))) (qd (qef D (List.getD (Prod.fst x1) (Int.toNat x0) 0)) fun b↦br (!Prod.fst (Prod.fst b)) (K0 false x1) (br (decide (0≤x0)&&decide (x0<(↑(List.length (Prod.fst x1)):Int))) (qd (qor D x1 (List.getD (Prod.fst x1) (Int.toNat x0) 0)) fun b↦br (Prod.fst (Prod.fst b) != x0) (K0 false x1) (go (IntKind.wrap IntKind.i64 (x0+1)) x1)) none)) none) (go (IntKind.wrap IntKind.i64 (x0+1)) x1)) none) (K1 x1)
def qhe (D:DX)(n:Nat) (K0:Bool→List Int×Int×Unit→Option ((Bool×Unit)×Unit)) (K1:List Int×Int×Unit→Option ((Bool×Unit)×Unit)):Nat→(Int)→(List Int×Int×Unit)→Option ((Bool×Unit)×Unit) | 0=>(fun x0 x1=>none) | m+1=>(fun x0 x1=>qqp D n (qhe D n K0 K1 m) K0 K1 x0 x1)
def qni (D:DX)(n:Nat) (v0_0:Bool) (v0_1:List Int×Int×Unit):Option ((Bool×Unit)×Unit):=some ((v0_0,()),())
def qjx (D:DX)(n:Nat) (v1_0:List Int×Int×Unit):Option ((Bool×Unit)×Unit):=br (decide ((↑(List.length (Prod.fst v1_0)):Int)=4)) (qd (qek D (Prod.fst (Prod.snd v1_0)) 0 5) fun b↦some ((Prod.fst (Prod.fst b),()),())) (some ((false,()),()))
def qn2 (D:DX)(n:Nat):(Int)→(List Int×Int×Unit)→Option ((Bool×Unit)×Unit):=(fun x0 x1=>qhe D n (fun v0_0 v0_1=>qni D n v0_0 v0_1) (fun v1_0=>qjx D n v1_0) n x0 x1)
def qr1 (D:DX)(n:Nat) (lp0:Int→List Int×Int×Unit→Option ((Bool×Unit)×Unit)) (a0:List Int×Int×Unit):Option ((Bool×Unit)×Unit):=lp0 0 a0
def qry (D:DX)(n:Nat) (a0:List Int×Int×Unit):Option ((Bool×Unit)×Unit):=qr1 D n (qn2 D n) a0
def qhk (x0:Int) (x1:List Int×Int×Unit):St:=stq 46 [(1,AV.addr 1 []),(3,avI x0)] [(1,Root.mk (Ty.pair (Ty.sl yI) (Ty.pair yI Ty.unit)) Mk.no x1 true)] 
def qj3 (v0_0:Bool) (v0_1:List Int×Int×Unit):St:=stq 46 [(1,AV.addr 1 []),(2,AV.val Ty.bool v0_0)] [(1,Root.mk (Ty.pair (Ty.sl yI) (Ty.pair yI Ty.unit)) Mk.no v0_1 true)] 
def qj9 (v1_0:List Int×Int×Unit):St:=stq 46 [(1,AV.addr 1 [])] [(1,Root.mk (Ty.pair (Ty.sl yI) (Ty.pair yI Ty.unit)) Mk.no v1_0 true)] 
theorem q1v (D:DX)(n:Nat) (m:Nat) (K:Ex→St→Option (Out ctx 70)) (x0:Int) (x1:List Int×Int×Unit) :
 LQ qe D n 70 [.r,.l,.r,.l] (m+1) (qhk x0 x1) K=qqp D n (fun x0 x1=>LQ qe D n 70 [.r,.l,.r,.l] m (qhk x0 x1) K) (fun v0_0 v0_1=>K (Ex.ret) (qj3 v0_0 v0_1)) (fun v1_0=>K (Ex.exit 0) (qj9 v1_0)) x0 x1:=by kernel_rfl
theorem quc (D:DX)(n:Nat) (K:Ex→St→Option (Out ctx 70)):∀ (m:Nat) (x0:Int) (x1:List Int×Int×Unit),LQ qe D n 70 [.r,.l,.r,.l] m (qhk x0 x1) K=qhe D n (fun v0_0 v0_1=>K (Ex.ret) (qj3 v0_0 v0_1)) (fun v1_0=>K (Ex.exit 0) (qj9 v1_0)) m x0 x1
 | 0,x0,x1=>qc1 ..
 | m+1,x0,x1=>by
  have ih:(fun x0 x1=>LQ qe D n 70 [.r,.l,.r,.l] m (qhk x0 x1) K)=qhe D n (fun v0_0 v0_1=>K (Ex.ret) (qj3 v0_0 v0_1)) (fun v1_0=>K (Ex.exit 0) (qj9 v1_0)) m:=by funext x0 x1;exact quc D n K m x0 x1
  rw[q1v]
  rw[ih];rfl
theorem q1f (D:DX)(n:Nat) (v0_0:Bool) (v0_1:List Int×Int×Unit) :
 (CQ qe D n 70 [] [.r,.l,.r,.l] (qy qe 70)) (Ex.ret) (qj3 v0_0 v0_1)=qni D n v0_0 v0_1:=by kernel_rfl
theorem q04 (D:DX)(n:Nat) (v1_0:List Int×Int×Unit) :
 (CQ qe D n 70 [] [.r,.l,.r,.l] (qy qe 70)) (Ex.exit 0) (qj9 v1_0)=qjx D n v1_0:=by kernel_rfl
theorem q1i (D:DX)(n:Nat) (x0:Int) (x1:List Int×Int×Unit) :
 LQ qe D n 70 [.r,.l,.r,.l] n (qhk x0 x1) (CQ qe D n 70 [] [.r,.l,.r,.l] (qy qe 70))=qn2 D n x0 x1:=by
 rw[quc]
 simp only[q1f,q04]
 rfl
theorem q6w (D:DX)(n:Nat) (a0:List Int×Int×Unit):rfC qe D n 70 (a0,())=qry D n a0:=by
 have h:rfC qe D n 70 (a0,())=qr1 D n (fun x0 x1=>LQ qe D n 70 [.r,.l,.r,.l] n (qhk x0 x1) (CQ qe D n 70 [] [.r,.l,.r,.l] (qy qe 70))) a0:=by kernel_rfl
 rw[h]
 simp only[q1i]
 rfl

def qvi (D:DX)(n:Nat) (a0:Int):Option ((Int×Unit)×Unit):=qd (qef D a0) fun b↦br (!Prod.fst (Prod.fst b)) (some ((-1,()),())) (some ((IntKind.wrap IntKind.i64 (3+a0),()),()))
def qqf (D:DX)(n:Nat) (a0:Int):Option ((Int×Unit)×Unit):=qvi D n a0
theorem q3l (D:DX)(n:Nat) (a0:Int):rfC qe D n 71 (a0,())=qqf D n a0:=by kernel_rfl

def qog (D:DX)(n:Nat) (go:Int→Int→Int→List Int×Int×Unit→Option ((Int×Unit)×Unit)) (K0:Int→Option ((Int×Unit)×Unit)) (x0:Int) (x1:Int) (x2:Int) (x3:List Int×Int×Unit):Option ((Int×Unit)×Unit):=br (decide (x2<(↑(List.length (Prod.fst x3)):Int))) (br (decide (0≤x2)&&decide (x2<(↑(List.length (Prod.fst x3)):Int))) (qd (qef D (List.getD (Prod.fst x3) (Int.toNat x2) 0)) fun b↦br (Prod.fst (Prod.fst b)) (br (decide (0≤x2)&&decide (x2<(↑(List.length (Prod.fst x3)):Int))) (qd (qb3 D (List.getD (Prod.fst x3) (Int.toNat x2) 0)) fun b↦qd (qn3 D (decide (Prod.fst (Prod.fst b)=x0))) fun b↦go x0 (IntKind.wrap IntKind.i64 (x1+Prod.fst (Prod.fst b))) (IntKind.wrap IntKind.i64 (x2+1)) x3) none) (qd (qn3 D false) fun b↦go x0 (IntKind.wrap IntKind.i64 (x1+Prod.fst (Prod.fst b))) (IntKind.wrap IntKind.i64 (x2+1)) x3)) none) (K0 x1)
def qgp (D:DX)(n:Nat) (K0:Int→Option ((Int×Unit)×Unit)):Nat→(Int)→(Int)→(Int)→(List Int×Int×Unit)→Option ((Int×Unit)×Unit) | 0=>(fun x0 x1 x2 x3=>none) | m+1=>(fun x0 x1 x2 x3=>qog D n (qgp D n K0 m) K0 x0 x1 x2 x3)
def qme (D:DX)(n:Nat) (v0_0:Int):Option ((Int×Unit)×Unit):=some ((v0_0,()),())
def qnd (D:DX)(n:Nat):(Int)→(Int)→(Int)→(List Int×Int×Unit)→Option ((Int×Unit)×Unit):=(fun x0 x1 x2 x3=>qgp D n (fun v0_0=>qme D n v0_0) n x0 x1 x2 x3)
def qpd (D:DX)(n:Nat) (lp0:Int→Int→Int→List Int×Int×Unit→Option ((Int×Unit)×Unit)) (a0:List Int×Int×Unit) (a1:Int):Option ((Int×Unit)×Unit):=lp0 a1 0 0 a0
def qp7 (D:DX)(n:Nat) (a0:List Int×Int×Unit) (a1:Int):Option ((Int×Unit)×Unit):=qpd D n (qnd D n) a0 a1
def qgw (x0:Int) (x1:Int) (x2:Int) (x3:List Int×Int×Unit):St:=stq 34 [(1,avI x0),(2,AV.addr 2 []),(5,avI x1),(6,avI x2)] [(2,Root.mk (Ty.pair (Ty.sl yI) (Ty.pair yI Ty.unit)) Mk.no x3 true)] 
def qi3 (v0_0:Int):St:=stq 34 [(5,avI v0_0)] [] 
theorem q1j (D:DX)(n:Nat) (m:Nat) (K:Ex→St→Option (Out ctx 72)) (x0:Int) (x1:Int) (x2:Int) (x3:List Int×Int×Unit) :
 LQ qe D n 72 [.r,.r,.l,.r,.l] (m+1) (qgw x0 x1 x2 x3) K=qog D n (fun x0 x1 x2 x3=>LQ qe D n 72 [.r,.r,.l,.r,.l] m (qgw x0 x1 x2 x3) K) (fun v0_0=>K (Ex.exit 0) (qi3 v0_0)) x0 x1 x2 x3:=by kernel_rfl
theorem qt6 (D:DX)(n:Nat) (K:Ex→St→Option (Out ctx 72)):∀ (m:Nat) (x0:Int) (x1:Int) (x2:Int) (x3:List Int×Int×Unit),LQ qe D n 72 [.r,.r,.l,.r,.l] m (qgw x0 x1 x2 x3) K=qgp D n (fun v0_0=>K (Ex.exit 0) (qi3 v0_0)) m x0 x1 x2 x3
 | 0,x0,x1,x2,x3=>qc1 ..
 | m+1,x0,x1,x2,x3=>by
  have ih:(fun x0 x1 x2 x3=>LQ qe D n 72 [.r,.r,.l,.r,.l] m (qgw x0 x1 x2 x3) K)=qgp D n (fun v0_0=>K (Ex.exit 0) (qi3 v0_0)) m:=by funext x0 x1 x2 x3;exact qt6 D n K m x0 x1 x2 x3
  rw[q1j]
  rw[ih];rfl
theorem qzi (D:DX)(n:Nat) (v0_0:Int) :
 (CQ qe D n 72 [] [.r,.r,.l,.r,.l] (qy qe 72)) (Ex.exit 0) (qi3 v0_0)=qme D n v0_0:=by kernel_rfl
theorem qzr (D:DX)(n:Nat) (x0:Int) (x1:Int) (x2:Int) (x3:List Int×Int×Unit) :
 LQ qe D n 72 [.r,.r,.l,.r,.l] n (qgw x0 x1 x2 x3) (CQ qe D n 72 [] [.r,.r,.l,.r,.l] (qy qe 72))=qnd D n x0 x1 x2 x3:=by
 rw[qt6]
 simp only[qzi]
 rfl
theorem q4y (D:DX)(n:Nat) (a0:List Int×Int×Unit) (a1:Int):rfC qe D n 72 (a0,(a1,()))=qp7 D n a0 a1:=by
 have h:rfC qe D n 72 (a0,(a1,()))=qpd D n (fun x0 x1 x2 x3=>LQ qe D n 72 [.r,.r,.l,.r,.l] n (qgw x0 x1 x2 x3) (CQ qe D n 72 [] [.r,.r,.l,.r,.l] (qy qe 72))) a0 a1:=by kernel_rfl
 rw[h]
 simp only[qzr]
 rfl

def qva (D:DX)(n:Nat) (a0:Int):Option ((Int×Unit)×Unit):=qd (qek D a0 0 2) fun b↦br (!Prod.fst (Prod.fst b)) (some ((-1,()),())) (some ((IntKind.wrap IntKind.i64 (10+a0),()),()))
def qp1 (D:DX)(n:Nat) (a0:Int):Option ((Int×Unit)×Unit):=qva D n a0
theorem q3r (D:DX)(n:Nat) (a0:Int):rfC qe D n 73 (a0,())=qp1 D n a0:=by kernel_rfl

def qd5 (D:DX)(n:Nat) (a0:List (Int×Int×Unit)×List Int×Int×Bool×Unit) (a1:Int×Int×Int×Unit):Option (Unit×(List (Int×Int×Unit)×List Int×Int×Bool×Unit)×Unit):=qd (qcs D (Prod.fst (Prod.snd a1))) fun b↦qd (qj D a0 (Prod.fst (Prod.fst b))) fun b↦br (decide (Prod.fst a1=1)) (qd (qv D (Prod.fst (Prod.snd b)) (Prod.fst (Prod.fst b) != 0)) fun b↦qd (qc8 D (Prod.fst (Prod.snd (Prod.snd a1)))) fun b_1↦qd (qj D (Prod.fst (Prod.snd b)) (Prod.fst (Prod.fst b_1))) fun b↦qd (qv D (Prod.fst (Prod.snd b)) (Prod.fst (Prod.fst b) != 0)) fun b↦qd (qc7 D (Prod.fst (Prod.snd (Prod.snd a1)))) fun b_2↦qd (qc6 D (Prod.fst (Prod.fst b_2))) fun b_3↦qd (qj D (Prod.fst (Prod.snd b)) (Prod.fst (Prod.fst b_3))) fun b↦qd (qei D (Prod.fst (Prod.snd b)) (Prod.fst (Prod.snd a1)) [Prod.fst (Prod.snd (Prod.snd a1))]) fun b↦some ((),Prod.fst (Prod.snd b),())) (br (decide (Prod.fst a1=2)) (qd (qv D (Prod.fst (Prod.snd b)) (bif decide (Prod.fst (Prod.fst b)=0) then true else decide (Prod.fst (Prod.fst b)=Prod.fst (Prod.snd (Prod.snd a1))))) fun b_1↦qd (qc8 D (Prod.fst (Prod.snd (Prod.snd a1)))) fun b_2↦qd (qj D (Prod.fst (Prod.snd b_1)) (Prod.fst (Prod.fst b_2))) fun b_3↦qd (qv D (Prod.fst (Prod.snd b_3)) (Prod.fst (Prod.fst b_3) != 0)) fun b_4↦qd (qc8 D (Prod.fst (Prod.fst b))) fun b_5↦qd (qj D (Prod.fst (Prod.snd b_4)) (Prod.fst (Prod.fst b_5))) fun b_6↦qd (qc7 D (Prod.fst (Prod.fst b))) fun b_7↦qd (qc7 D (Prod.fst (Prod.snd (Prod.snd a1)))) fun b_8↦br (Prod.fst (Prod.fst b_7) != Prod.fst (Prod.fst b_8)) (qd (qc7 D (Prod.fst (Prod.fst b))) fun b_9↦qd (qc6 D (Prod.fst (Prod.fst b_9))) fun b_10↦qd (qj D (Prod.fst (Prod.snd b_6)) (Prod.fst (Prod.fst b_10))) fun b_11↦qd (qc7 D (Prod.fst (Prod.snd (Prod.snd a1)))) fun b_12↦qd (qc6 D (Prod.fst (Prod.fst b_12))) fun b_13↦qd (qj D (Prod.fst (Prod.snd b_11)) (Prod.fst (Prod.fst b_13))) fun b_14↦qd (qei D (Prod.fst (Prod.snd b_14)) (Prod.fst (Prod.snd a1)) [Prod.fst (Prod.fst b),Prod.fst (Prod.snd (Prod.snd a1))]) fun b↦some ((),Prod.fst (Prod.snd b),())) (qd (qei D (Prod.fst (Prod.snd b_6)) (Prod.fst (Prod.snd a1)) [Prod.fst (Prod.fst b),Prod.fst (Prod.snd (Prod.snd a1))]) fun b↦some ((),Prod.fst (Prod.snd b),()))) (qd (qv D (Prod.fst (Prod.snd b)) (decide (Prod.fst (Prod.fst b)=0))) fun b_1↦qd (qc8 D (Prod.fst (Prod.fst b))) fun b_2↦qd (qj D (Prod.fst (Prod.snd b_1)) (Prod.fst (Prod.fst b_2))) fun b_3↦qd (qc7 D (Prod.fst (Prod.fst b))) fun b_4↦qd (qc6 D (Prod.fst (Prod.fst b_4))) fun b_5↦qd (qj D (Prod.fst (Prod.snd b_3)) (Prod.fst (Prod.fst b_5))) fun b_6↦qd (qei D (Prod.fst (Prod.snd b_6)) (Prod.fst (Prod.snd a1)) [Prod.fst (Prod.fst b)]) fun b↦some ((),Prod.fst (Prod.snd b),())))
def qdg (D:DX)(n:Nat) (a0:List (Int×Int×Unit)×List Int×Int×Bool×Unit) (a1:Int×Int×Int×Unit):Option (Unit×(List (Int×Int×Unit)×List Int×Int×Bool×Unit)×Unit):=qd5 D n a0 a1
theorem qxn (D:DX)(n:Nat) (a0:List (Int×Int×Unit)×List Int×Int×Bool×Unit) (a1:Int×Int×Int×Unit):rfC qe D n 74 (a0,(a1,()))=qdg D n a0 a1:=by kernel_rfl

def qf7 (D:DX)(n:Nat) (a0:List (Int×Int×Unit)×List Int×Int×Bool×Unit) (a1:Int):Option ((Int×Unit)×(List (Int×Int×Unit)×List Int×Int×Bool×Unit)×Unit):=br (Prod.fst (Prod.snd (Prod.snd (Prod.snd a0)))) (some ((0,()),a0,())) (qd (qdc D (Prod.fst a0) a1) fun b↦br (bif decide (a1<0) then true else !Prod.fst (Prod.snd (Prod.fst b))) (some ((0,()),(Prod.fst a0,Prod.fst (Prod.snd a0),a1,true,Prod.snd (Prod.snd (Prod.snd (Prod.snd a0)))),())) (br (decide (List.length (Prod.fst (Prod.snd a0))+1≤qec)) (some ((Prod.fst (Prod.fst b),()),(Prod.fst a0,Prod.fst (Prod.snd a0)++[a1],Prod.snd (Prod.snd a0)),())) none))
def qfa (D:DX)(n:Nat) (a0:List (Int×Int×Unit)×List Int×Int×Bool×Unit) (a1:Int):Option ((Int×Unit)×(List (Int×Int×Unit)×List Int×Int×Bool×Unit)×Unit):=qf7 D n a0 a1
theorem q0p (D:DX)(n:Nat) (a0:List (Int×Int×Unit)×List Int×Int×Bool×Unit) (a1:Int):rfC qe D n 75 (a0,(a1,()))=qfa D n a0 a1:=by kernel_rfl

def qmh (D:DX)(n:Nat) (a0:List (Int×Int×Unit)×List Int×Int×Bool×Unit) (a1:Bool):Option (Unit×(List (Int×Int×Unit)×List Int×Int×Bool×Unit)×Unit):=some ((),(Prod.fst a0,Prod.fst (Prod.snd a0),Prod.fst (Prod.snd (Prod.snd a0)),bif Prod.fst (Prod.snd (Prod.snd (Prod.snd a0))) then true else a1,Prod.snd (Prod.snd (Prod.snd (Prod.snd a0)))),())
def qi5 (D:DX)(n:Nat) (a0:List (Int×Int×Unit)×List Int×Int×Bool×Unit) (a1:Bool):Option (Unit×(List (Int×Int×Unit)×List Int×Int×Bool×Unit)×Unit):=qmh D n a0 a1
theorem qzo (D:DX)(n:Nat) (a0:List (Int×Int×Unit)×List Int×Int×Bool×Unit) (a1:Bool):rfC qe D n 76 (a0,(a1,()))=qi5 D n a0 a1:=by kernel_rfl

def q6i (D:DX)(n:Nat) (a0:Bool) (a1:Int):Option ((Int×Unit)×Unit):=br (!a0) (some ((-1,()),())) (some ((a1,()),()))
def qxf (D:DX)(n:Nat) (a0:Bool) (a1:Int):Option ((Int×Unit)×Unit):=q6i D n a0 a1
theorem q6k (D:DX)(n:Nat) (a0:Bool) (a1:Int):rfC qe D n 77 (a0,(a1,()))=qxf D n a0 a1:=by kernel_rfl

def qkd (D:DX)(n:Nat) (a0:Int) (a1:Int) (a2:Int) (a3:List (Int×Int×Unit)) (a4:List (Int×Int×Int×Unit)):Option (Unit×List (Int×Int×Int×Unit)×Unit):=qd (qdc D a3 a0) fun b↦br (bif decide (a0<0) then true else !Prod.fst (Prod.snd (Prod.fst b))) (some ((),a4,())) (br (decide (a2=1)) (br (decide (List.length a4+1≤qec)) (some ((),a4++[(a0,Prod.fst (Prod.fst b),IntKind.wrap IntKind.i64 (Prod.fst (Prod.fst b)+1),())],())) none) (br (decide (a2 = -1)) (br (decide (List.length a4+1≤qec)) (some ((),a4++[(a0,Prod.fst (Prod.fst b),if IntKind.wrap IntKind.i64 (Prod.fst (Prod.fst b) - 1)>0 then IntKind.wrap IntKind.i64 (Prod.fst (Prod.fst b) - 1) else 0,())],())) none) (br (decide (List.length a4+1≤qec)) (some ((),a4++[(a0,Prod.fst (Prod.fst b),a1,())],())) none)))
def qhq (D:DX)(n:Nat) (a0:Int) (a1:Int) (a2:Int) (a3:List (Int×Int×Unit)) (a4:List (Int×Int×Int×Unit)):Option (Unit×List (Int×Int×Int×Unit)×Unit):=qkd D n a0 a1 a2 a3 a4
theorem q0w (D:DX)(n:Nat) (a0:Int) (a1:Int) (a2:Int) (a3:List (Int×Int×Unit)) (a4:List (Int×Int×Int×Unit)):rfC qe D n 78 (a0,(a1,(a2,(a3,(a4,())))))=qhq D n a0 a1 a2 a3 a4:=by kernel_rfl

def qfw (D:DX)(n:Nat) (a1:Clo) (a0:List (Int×Int×Int×Unit)):Option (Unit×List (Int×Int×Int×Unit)×Unit):=qd (qk5 D (IntKind.wrap IntKind.u64 (↑(List.length a0):Int))) fun b↦qd (qg D a0 0 (↑(List.length a0):Int) (Prod.fst (Prod.fst b)) a1) fun b↦some ((),Prod.fst (Prod.snd b),())
def qd2 (D:DX)(n:Nat) (a0:List (Int×Int×Int×Unit)) (a1:Clo):Option (Unit×List (Int×Int×Int×Unit)×Unit):=qfw D n a1 a0
theorem qkl (D:DX)(n:Nat) (a0:List (Int×Int×Int×Unit)) (a1:Clo):rfC qe D n 79 (a0,(a1,()))=qd2 D n a0 a1:=by kernel_rfl

def qtg (D:DX)(n:Nat) (a0:Int×Int×Int×Unit) (a1:Int×Int×Int×Unit):Option ((Int×Unit)×Unit):=some ((IntKind.wrap IntKind.i64 (Prod.fst a0 - Prod.fst a1),()),())
def qm8 (D:DX)(n:Nat) (a0:Int×Int×Int×Unit) (a1:Int×Int×Int×Unit):Option ((Int×Unit)×Unit):=qtg D n a0 a1
theorem q1k (D:DX)(n:Nat) (a0:Int×Int×Int×Unit) (a1:Int×Int×Int×Unit):rfC qe D n 80 (a0,(a1,()))=qm8 D n a0 a1:=by kernel_rfl

def qf4 (D:DX)(n:Nat) (go:Int→Int→Int→Bool→Bool→List Int→Option (Unit×List Int×Unit)) (K0:List Int→Option (Unit×List Int×Unit)) (x0:Int) (x1:Int) (x2:Int) (x3:Bool) (x4:Bool) (x5:List Int):Option (Unit×List Int×Unit):=br (decide (IntKind.wrap IntKind.i64 (x1 - x0)≤12)) (qd (qg7 D x5 x0 x1) fun b↦K0 (Prod.fst (Prod.snd b))) (br (decide (x2=0)) (qd (qph D x5 x0 x1) fun b↦K0 (Prod.fst (Prod.snd b))) (br (!x3) (qd (qmu D x5 x0 x1) fun b↦qd (qhx D (Prod.fst (Prod.snd b)) x0 x1) fun b_1↦br (decide (Prod.fst (Prod.snd (Prod.fst b_1))=2)) (qd (qho D (Prod.fst (Prod.snd b)) x0 x1) fun b↦br (bif bif x3 then x4 else false then true else false) (qd (qcu D (Prod.fst (Prod.snd b)) x0 x1) fun b↦br (Prod.fst (Prod.fst b)) (K0 (Prod.fst (Prod.snd b))) (br (decide (x0>0)) (br (decide (0≤IntKind.wrap IntKind.i64 (x0 - 1))&&decide (IntKind.wrap IntKind.i64 (x0 - 1)<(↑(List.length (Prod.fst (Prod.snd b))):Int))) (br (decide (0≤IntKind.wrap IntKind.i64 (IntKind.wrap IntKind.i64 (x1 - 1) - IntKind.wrap IntKind.i64 (Prod.fst (Prod.fst b_1) - x0)))&&decide (IntKind.wrap IntKind.i64 (IntKind.wrap IntKind.i64 (x1 - 1) - IntKind.wrap IntKind.i64 (Prod.fst (Prod.fst b_1) - x0))<(↑(List.length (Prod.fst (Prod.snd b))):Int))) (qd (qdr D (List.getD (Prod.fst (Prod.snd b)) (Int.toNat (IntKind.wrap IntKind.i64 (x0 - 1))) 0) (List.getD (Prod.fst (Prod.snd b)) (Int.toNat (IntKind.wrap IntKind.i64 (IntKind.wrap IntKind.i64 (x1 - 1) - IntKind.wrap IntKind.i64 (Prod.fst (Prod.fst b_1) - x0)))) 0)) fun b_2↦br (!Prod.fst (Prod.fst b_2)) (qd (qbj D (Prod.fst (Prod.snd b)) x0 x1 (IntKind.wrap IntKind.i64 (IntKind.wrap IntKind.i64 (x1 - 1) - IntKind.wrap IntKind.i64 (Prod.fst (Prod.fst b_1) - x0)))) fun b↦go (Prod.fst (Prod.fst b)) x1 (IntKind.wrap IntKind.i64 (x2 - 1)) x3 x4 (Prod.fst (Prod.snd b))) (qd (qr D (Prod.fst (Prod.snd b)) x0 x1 (IntKind.wrap IntKind.i64 (IntKind.wrap IntKind.i64 (x1 - 1) - IntKind.wrap IntKind.i64 (Prod.fst (Prod.fst b_1) - x0)))) fun b↦br (decide (IntKind.wrap IntKind.i64 (Prod.fst (Prod.fst b) - x0)<IntKind.wrap IntKind.i64 (x1 - Prod.fst (Prod.fst b)))) (qd (qi D (Prod.fst (Prod.snd b)) x0 (Prod.fst (Prod.fst b)) (IntKind.wrap IntKind.i64 (x2 - 1))) fun b_3↦go (IntKind.wrap IntKind.i64 (Prod.fst (Prod.fst b)+1)) x1 (IntKind.wrap IntKind.i64 (x2 - 1)) (decide (IntKind.wrap IntKind.i64 (Prod.fst (Prod.fst b) - x0)≥IntKind.wrap IntKind.i64 (Int.tdiv (IntKind.wrap IntKind.i64 (x1 - x0)) 8))) (Prod.fst (Prod.snd (Prod.fst b))) (Prod.fst (Prod.snd b_3))) (qd (qi D (Prod.fst (Prod.snd b)) (IntKind.wrap IntKind.i64 (Prod.fst (Prod.fst b)+1)) x1 (IntKind.wrap IntKind.i64 (x2 - 1))) fun b_3↦go x0 (Prod.fst (Prod.fst b)) (IntKind.wrap IntKind.i64 (x2 - 1)) (decide (IntKind.wrap IntKind.i64 (x1 - Prod.fst (Prod.fst b))≥IntKind.wrap IntKind.i64 (Int.tdiv (IntKind.wrap IntKind.i64 (x1 - x0)) 8))) (Prod.fst (Prod.snd (Prod.fst b))) (Prod.fst (Prod.snd b_3))))) none) none) (qd (qr D (Prod.fst (Prod.snd b)) x0 x1 (IntKind.wrap IntKind.i64 (IntKind.wrap IntKind.i64 (x1 - 1) - IntKind.wrap IntKind.i64 (Prod.fst (Prod.fst b_1) - x0)))) fun b↦br (decide (IntKind.wrap IntKind.i64 (Prod.fst (Prod.fst b) - x0)<IntKind.wrap IntKind.i64 (x1 - Prod.fst (Prod.fst b)))) (qd (qi D (Prod.fst (Prod.snd b)) x0 (Prod.fst (Prod.fst b)) (IntKind.wrap IntKind.i64 (x2 - 1))) fun b_2↦go (IntKind.wrap IntKind.i64 (Prod.fst (Prod.fst b)+1)) x1 (IntKind.wrap IntKind.i64 (x2 - 1)) (decide (IntKind.wrap IntKind.i64 (Prod.fst (Prod.fst b) - x0)≥IntKind.wrap IntKind.i64 (Int.tdiv (IntKind.wrap IntKind.i64 (x1 - x0)) 8))) (Prod.fst (Prod.snd (Prod.fst b))) (Prod.fst (Prod.snd b_2))) (qd (qi D (Prod.fst (Prod.snd b)) (IntKind.wrap IntKind.i64 (Prod.fst (Prod.fst b)+1)) x1 (IntKind.wrap IntKind.i64 (x2 - 1))) fun b_2↦go x0 (Prod.fst (Prod.fst b)) (IntKind.wrap IntKind.i64 (x2 - 1)) (decide (IntKind.wrap IntKind.i64 (x1 - Prod.fst (Prod.fst b))≥IntKind.wrap IntKind.i64 (Int.tdiv (IntKind.wrap IntKind.i64 (x1 - x0)) 8))) (Prod.fst (Prod.snd (Prod.fst b))) (Prod.fst (Prod.snd b_2)))))) (br (decide (x0>0)) (br (decide (0≤IntKind.wrap IntKind.i64 (x0 - 1))&&decide (IntKind.wrap IntKind.i64 (x0 - 1)<(↑(List.length (Prod.fst (Prod.snd b))):Int))) (br (decide (0≤IntKind.wrap IntKind.i64 (IntKind.wrap IntKind.i64 (x1 - 1) - IntKind.wrap IntKind.i64 (Prod.fst (Prod.fst b_1) - x0)))&&decide (IntKind.wrap IntKind.i64 (IntKind.wrap IntKind.i64 (x1 - 1) - IntKind.wrap IntKind.i64 (Prod.fst (Prod.fst b_1) - x0))<(↑(List.length (Prod.fst (Prod.snd b))):Int))) (qd (qdr D (List.getD (Prod.fst (Prod.snd b)) (Int.toNat (IntKind.wrap IntKind.i64 (x0 - 1))) 0) (List.getD (Prod.fst (Prod.snd b)) (Int.toNat (IntKind.wrap IntKind.i64 (IntKind.wrap IntKind.i64 (x1 - 1) - IntKind.wrap IntKind.i64 (Prod.fst (Prod.fst b_1) - x0)))) 0)) fun b_2↦br (!Prod.fst (Prod.fst b_2)) (qd (qbj D (Prod.fst (Prod.snd b)) x0 x1 (IntKind.wrap IntKind.i64 (IntKind.wrap IntKind.i64 (x1 - 1) - IntKind.wrap IntKind.i64 (Prod.fst (Prod.fst b_1) - x0)))) fun b↦go (Prod.fst (Prod.fst b)) x1 (IntKind.wrap IntKind.i64 (x2 - 1)) x3 x4 (Prod.fst (Prod.snd b))) (qd (qr D (Prod.fst (Prod.snd b)) x0 x1 (IntKind.wrap IntKind.i64 (IntKind.wrap IntKind.i64 (x1 - 1) - IntKind.wrap IntKind.i64 (Prod.fst (Prod.fst b_1) - x0)))) fun b↦br (decide (IntKind.wrap IntKind.i64 (Prod.fst (Prod.fst b) - x0)<IntKind.wrap IntKind.i64 (x1 - Prod.fst (Prod.fst b)))) (qd (qi D (Prod.fst (Prod.snd b)) x0 (Prod.fst (Prod.fst b)) (IntKind.wrap IntKind.i64 (x2 - 1))) fun b_3↦go (IntKind.wrap IntKind.i64 (Prod.fst (Prod.fst b)+1)) x1 (IntKind.wrap IntKind.i64 (x2 - 1)) (decide (IntKind.wrap IntKind.i64 (Prod.fst (Prod.fst b) - x0)≥IntKind.wrap IntKind.i64 (Int.tdiv (IntKind.wrap IntKind.i64 (x1 - x0)) 8))) (Prod.fst (Prod.snd (Prod.fst b))) (Prod.fst (Prod.snd b_3))) (qd (qi D (Prod.fst (Prod.snd b)) (IntKind.wrap IntKind.i64 (Prod.fst (Prod.fst b)+1)) x1 (IntKind.wrap IntKind.i64 (x2 - 1))) fun b_3↦go x0 (Prod.fst (Prod.fst b)) (IntKind.wrap IntKind.i64 (x2 - 1)) (decide (IntKind.wrap IntKind.i64 (x1 - Prod.fst (Prod.fst b))≥IntKind.wrap IntKind.i64 (Int.tdiv (IntKind.wrap IntKind.i64 (x1 - x0)) 8))) (Prod.fst (Prod.snd (Prod.fst b))) (Prod.fst (Prod.snd b_3))))) none) none) (qd (qr D (Prod.fst (Prod.snd b)) x0 x1 (IntKind.wrap IntKind.i64 (IntKind.wrap IntKind.i64 (x1 - 1) - IntKind.wrap IntKind.i64 (Prod.fst (Prod.fst b_1) - x0)))) fun b↦br (decide (IntKind.wrap IntKind.i64 (Prod.fst (Prod.fst b) - x0)<IntKind.wrap IntKind.i64 (x1 - Prod.fst (Prod.fst b)))) (qd (qi D (Prod.fst (Prod.snd b)) x0 (Prod.fst (Prod.fst b)) (IntKind.wrap IntKind.i64 (x2 - 1))) fun b_2↦go (IntKind.wrap IntKind.i64 (Prod.fst (Prod.fst b)+1)) x1 (IntKind.wrap IntKind.i64 (x2 - 1)) (decide (IntKind.wrap IntKind.i64 (Prod.fst (Prod.fst b) - x0)≥IntKind.wrap IntKind.i64 (Int.tdiv (IntKind.wrap IntKind.i64 (x1 - x0)) 8))) (Prod.fst (Prod.snd (Prod.fst b))) (Prod.fst (Prod.snd b_2))) (qd (qi D (Prod.fst (Prod.snd b)) (IntKind.wrap IntKind.i64 (Prod.fst (Prod.fst b)+1)) x1 (IntKind.wrap IntKind.i64 (x2 - 1))) fun b_2↦go x0 (Prod.fst (Prod.fst b)) (IntKind.wrap IntKind.i64 (x2 - 1)) (decide (IntKind.wrap IntKind.i64 (x1 - Prod.fst (Prod.fst b))≥IntKind.wrap IntKind.i64 (Int.tdiv (IntKind.wrap IntKind.i64 (x1 - x0)) 8))) (Prod.fst (Prod.snd (Prod.fst b))) (Prod.fst (Prod.snd b_2)))))) (br (bif bif x3 then x4 else false then decide (Prod.fst (Prod.snd (Prod.fst b_1))=1) else false) (qd (qcu D (Prod.fst (Prod.snd b)) x0 x1) fun b↦br (Prod.fst (Prod.fst b)) (K0 (Prod.fst (Prod.snd b))) (br (decide (x0>0)) (br (decide (0≤IntKind.wrap IntKind.i64 (x0 - 1))&&decide (IntKind.wrap IntKind.i64 (x0 - 1)<(↑(List.length (Prod.fst (Prod.snd b))):Int))) (br (decide (0≤Prod.fst (Prod.fst b_1))&&decide (Prod.fst (Prod.fst b_1)<(↑(List.length (Prod.fst (Prod.snd b))):Int))) (qd (qdr D (List.getD (Prod.fst (Prod.snd b)) (Int.toNat (IntKind.wrap IntKind.i64 (x0 - 1))) 0) (List.getD (Prod.fst (Prod.snd b)) (Int.toNat (Prod.fst (Prod.fst b_1))) 0)) fun b_2↦br (!Prod.fst (Prod.fst b_2)) (qd (qbj D (Prod.fst (Prod.snd b)) x0 x1 (Prod.fst (Prod.fst b_1))) fun b↦go (Prod.fst (Prod.fst b)) x1 (IntKind.wrap IntKind.i64 (x2 - 1)) x3 x4 (Prod.fst (Prod.snd b))) (qd (qr D (Prod.fst (Prod.snd b)) x0 x1 (Prod.fst (Prod.fst b_1))) fun b↦br (decide (IntKind.wrap IntKind.i64 (Prod.fst (Prod.fst b) - x0)<IntKind.wrap IntKind.i64 (x1 - Prod.fst (Prod.fst b)))) (qd (qi D (Prod.fst (Prod.snd b)) x0 (Prod.fst (Prod.fst b)) (IntKind.wrap IntKind.i64 (x2 - 1))) fun b_3↦go (IntKind.wrap IntKind.i64 (Prod.fst (Prod.fst b)+1)) x1 (IntKind.wrap IntKind.i64 (x2 - 1)) (decide (IntKind.wrap IntKind.i64 (Prod.fst (Prod.fst b) - x0)≥IntKind.wrap IntKind.i64 (Int.tdiv (IntKind.wrap IntKind.i64 (x1 - x0)) 8))) (Prod.fst (Prod.snd (Prod.fst b))) (Prod.fst (Prod.snd b_3))) (qd (qi D (Prod.fst (Prod.snd b)) (IntKind.wrap IntKind.i64 (Prod.fst (Prod.fst b)+1)) x1 (IntKind.wrap IntKind.i64 (x2 - 1))) fun b_3↦go x0 (Prod.fst (Prod.fst b)) (IntKind.wrap IntKind.i64 (x2 - 1)) (decide (IntKind.wrap IntKind.i64 (x1 - Prod.fst (Prod.fst b))≥IntKind.wrap IntKind.i64 (Int.tdiv (IntKind.wrap IntKind.i64 (x1 - x0)) 8))) (Prod.fst (Prod.snd (Prod.fst b))) (Prod.fst (Prod.snd b_3))))) none) none) (qd (qr D (Prod.fst (Prod.snd b)) x0 x1 (Prod.fst (Prod.fst b_1))) fun b↦br (decide (IntKind.wrap IntKind.i64 (Prod.fst (Prod.fst b) - x0)<IntKind.wrap IntKind.i64 (x1 - Prod.fst (Prod.fst b)))) (qd (qi D (Prod.fst (Prod.snd b)) x0 (Prod.fst (Prod.fst b)) (IntKind.wrap IntKind.i64 (x2 - 1))) fun b_2↦go (IntKind.wrap IntKind.i64 (Prod.fst (Prod.fst b)+1)) x1 (IntKind.wrap IntKind.i64 (x2 - 1)) (decide (IntKind.wrap IntKind.i64 (Prod.fst (Prod.fst b) - x0)≥IntKind.wrap IntKind.i64 (Int.tdiv (IntKind.wrap IntKind.i64 (x1 - x0)) 8))) (Prod.fst (Prod.snd (Prod.fst b))) (Prod.fst (Prod.snd b_2))) (qd (qi D (Prod.fst (Prod.snd b)) (IntKind.wrap IntKind.i64 (Prod.fst (Prod.fst b)+1)) x1 (IntKind.wrap IntKind.i64 (x2 - 1))) fun b_2↦go x0 (Prod.fst (Prod.fst b)) (IntKind.wrap IntKind.i64 (x2 - 1)) (decide (IntKind.wrap IntKind.i64 (x1 - Prod.fst (Prod.fst b))≥IntKind.wrap IntKind.i64 (Int.tdiv (IntKind.wrap IntKind.i64 (x1 - x0)) 8))) (Prod.fst (Prod.snd (Prod.fst b))) (Prod.fst (Prod.snd b_2)))))) (br (decide (x0>0)) (br (decide (0≤IntKind.wrap IntKind.i64 (x0 - 1))&&decide (IntKind.wrap IntKind.i64 (x0 - 1)<(↑(List.length (Prod.fst (Prod.snd b))):Int))) (br (decide (0≤Prod.fst (Prod.fst b_1))&&decide (Prod.fst (Prod.fst b_1)<(↑(List.length (Prod.fst (Prod.snd b))):Int))) (qd (qdr D (List.getD (Prod.fst (Prod.snd b)) (Int.toNat (IntKind.wrap IntKind.i64 (x0 - 1))) 0) (List.getD (Prod.fst (Prod.snd b)) (Int.toNat (Prod.fst (Prod.fst b_1))) 0)) fun b_2↦br (!Prod.fst (Prod.fst b_2)) (qd (qbj D (Prod.fst (Prod.snd b)) x0 x1 (Prod.fst (Prod.fst b_1))) fun b↦go (Prod.fst (Prod.fst b)) x1 (IntKind.wrap IntKind.i64 (x2 - 1)) x3 x4 (Prod.fst (Prod.snd b))) (qd (qr D (Prod.fst (Prod.snd b)) x0 x1 (Prod.fst (Prod.fst b_1))) fun b↦br (decide (IntKind.wrap IntKind.i64 (Prod.fst (Prod.fst b) - x0)<IntKind.wrap IntKind.i64 (x1 - Prod.fst (Prod.fst b)))) (qd (qi D (Prod.fst (Prod.snd b)) x0 (Prod.fst (Prod.fst b)) (IntKind.wrap IntKind.i64 (x2 - 1))) fun b_3↦go (IntKind.wrap IntKind.i64 (Prod.fst (Prod.fst b)+1)) x1 (IntKind.wrap IntKind.i64 (x2 - 1)) (decide (IntKind.wrap IntKind.i64 (Prod.fst (Prod.fst b) - x0)≥IntKind.wrap IntKind.i64 (Int.tdiv (IntKind.wrap IntKind.i64 (x1 - x0)) 8))) (Prod.fst (Prod.snd (Prod.fst b))) (Prod.fst (Prod.snd b_3))) (qd (qi D (Prod.fst (Prod.snd b)) (IntKind.wrap IntKind.i64 (Prod.fst (Prod.fst b)+1)) x1 (IntKind.wrap IntKind.i64 (x2 - 1))) fun b_3↦go x0 (Prod.fst (Prod.fst b)) (IntKind.wrap IntKind.i64 (x2 - 1)) (decide (IntKind.wrap IntKind.i64 (x1 - Prod.fst (Prod.fst b))≥IntKind.wrap IntKind.i64 (Int.tdiv (IntKind.wrap IntKind.i64 (x1 - x0)) 8))) (Prod.fst (Prod.snd (Prod.fst b))) (Prod.fst (Prod.snd b_3))))) none) none) (qd (qr D (Prod.fst (Prod.snd b)) x0 x1 (Prod.fst (Prod.fst b_1))) fun b↦br (decide (IntKind.wrap IntKind.i64 (Prod.fst (Prod.fst b) - x0)<IntKind.wrap IntKind.i64 (x1 - Prod.fst (Prod.fst b)))) (qd (qi D (Prod.fst (Prod.snd b)) x0 (Prod.fst (Prod.fst b)) (IntKind.wrap IntKind.i64 (x2 - 1))) fun b_2↦go (IntKind.wrap IntKind.i64 (Prod.fst (Prod.fst b)+1)) x1 (IntKind.wrap IntKind.i64 (x2 - 1)) (decide (IntKind.wrap IntKind.i64 (Prod.fst (Prod.fst b) - x0)≥IntKind.wrap IntKind.i64 (Int.tdiv (IntKind.wrap IntKind.i64 (x1 - x0)) 8))) (Prod.fst (Prod.snd (Prod.fst b))) (Prod.fst (Prod.snd b_2))) (qd (qi D (Prod.fst (Prod.snd b)) (IntKind.wrap IntKind.i64 (Prod.fst (Prod.fst b)+1)) x1 (IntKind.wrap IntKind.i64 (x2 - 1))) fun b_2↦go x0 (Prod.fst (Prod.fst b)) (IntKind.wrap IntKind.i64 (x2 - 1)) (decide (IntKind.wrap IntKind.i64 (x1 - Prod.fst (Prod.fst b))≥IntKind.wrap IntKind.i64 (Int.tdiv (IntKind.wrap IntKind.i64 (x1 - x0)) 8))) (Prod.fst (Prod.snd (Prod.fst b))) (Prod.fst (Prod.snd b_2))))))) (qd (qhx D x5 x0 x1) fun b↦br (decide (Prod.fst (Prod.snd (Prod.fst b))=2)) (qd (qho D x5 x0 x1) fun b_1↦br (bif bif x3 then x4 else false then true else false) (qd (qcu D (Prod.fst (Prod.snd b_1)) x0 x1) fun b_2↦br (Prod.fst (Prod.fst b_2)) (K0 (Prod.fst (Prod.snd b_2))) (br (decide (x0>0)) (br (decide (0≤IntKind.wrap IntKind.i64 (x0 - 1))&&decide (IntKind.wrap IntKind.i64 (x0 - 1)<(↑(List.length (Prod.fst (Prod.snd b_2))):Int))) (br (decide (0≤IntKind.wrap IntKind.i64 (IntKind.wrap IntKind.i64 (x1 - 1) - IntKind.wrap IntKind.i64 (Prod.fst (Prod.fst b) - x0)))&&decide (IntKind.wrap IntKind.i64 (IntKind.wrap IntKind.i64 (x1 - 1) - IntKind.wrap IntKind.i64 (Prod.fst (Prod.fst b) - x0))<(↑(List.length (Prod.fst (Prod.snd b_2))):Int))) (qd (qdr D (List.getD (Prod.fst (Prod.snd b_2)) (Int.toNat (IntKind.wrap IntKind.i64 (x0 - 1))) 0) (List.getD (Prod.fst (Prod.snd b_2)) (Int.toNat (IntKind.wrap IntKind.i64 (IntKind.wrap IntKind.i64 (x1 - 1) - IntKind.wrap IntKind.i64 (Prod.fst (Prod.fst b) - x0)))) 0)) fun b_3↦br (!Prod.fst (Prod.fst b_3)) (qd (qbj D (Prod.fst (Prod.snd b_2)) x0 x1 (IntKind.wrap IntKind.i64 (IntKind.wrap IntKind.i64 (x1 - 1) - IntKind.wrap IntKind.i64 (Prod.fst (Prod.fst b) - x0)))) fun b↦go (Prod.fst (Prod.fst b)) x1 x2 x3 x4 (Prod.fst (Prod.snd b))) (qd (qr D (Prod.fst (Prod.snd b_2)) x0 x1 (IntKind.wrap IntKind.i64 (IntKind.wrap IntKind.i64 (x1 - 1) - IntKind.wrap IntKind.i64 (Prod.fst (Prod.fst b) - x0)))) fun b↦br (decide (IntKind.wrap IntKind.i64 (Prod.fst (Prod.fst b) - x0)<IntKind.wrap IntKind.i64 (x1 - Prod.fst (Prod.fst b)))) (qd (qi D (Prod.fst (Prod.snd b)) x0 (Prod.fst (Prod.fst b)) x2) fun b_4↦go (IntKind.wrap IntKind.i64 (Prod.fst (Prod.fst b)+1)) x1 x2 (decide (IntKind.wrap IntKind.i64 (Prod.fst (Prod.fst b) - x0)≥IntKind.wrap IntKind.i64 (Int.tdiv (IntKind.wrap IntKind.i64 (x1 - x0)) 8))) (Prod.fst (Prod.snd (Prod.fst b))) (Prod.fst (Prod.snd b_4))) (qd (qi D (Prod.fst (Prod.snd b)) (IntKind.wrap IntKind.i64 (Prod.fst (Prod.fst b)+1)) x1 x2) fun b_4↦go x0 (Prod.fst (Prod.fst b)) x2 (decide (IntKind.wrap IntKind.i64 (x1 - Prod.fst (Prod.fst b))≥IntKind.wrap IntKind.i64 (Int.tdiv (IntKind.wrap IntKind.i64 (x1 - x0)) 8))) (Prod.fst (Prod.snd (Prod.fst b))) (Prod.fst (Prod.snd b_4))))) none) none) (qd (qr D (Prod.fst (Prod.snd b_2)) x0 x1 (IntKind.wrap IntKind.i64 (IntKind.wrap IntKind.i64 (x1 - 1) - IntKind.wrap IntKind.i64 (Prod.fst (Prod.fst b) - x0)))) fun b↦br (decide (IntKind.wrap IntKind.i64 (Prod.fst (Prod.fst b) - x0)<IntKind.wrap IntKind.i64 (x1 - Prod.fst (Prod.fst b)))) (qd (qi D (Prod.fst (Prod.snd b)) x0 (Prod.fst (Prod.fst b)) x2) fun b_3↦go (IntKind.wrap IntKind.i64 (Prod.fst (Prod.fst b)+1)) x1 x2 (decide (IntKind.wrap IntKind.i64 (Prod.fst (Prod.fst b) - x0)≥IntKind.wrap IntKind.i64 (Int.tdiv (IntKind.wrap IntKind.i64 (x1 - x0)) 8))) (Prod.fst (Prod.snd (Prod.fst b))) (Prod.fst (Prod.snd b_3))) (qd (qi D (Prod.fst (Prod.snd b)) (IntKind.wrap IntKind.i64 (Prod.fst (Prod.fst b)+1)) x1 x2) fun b_3↦go x0 (Prod.fst (Prod.fst b)) x2 (decide (IntKind.wrap IntKind.i64 (x1 - Prod.fst (Prod.fst b))≥IntKind.wrap IntKind.i64 (Int.tdiv (IntKind.wrap IntKind.i64 (x1 - x0)) 8))) (Prod.fst (Prod.snd (Prod.fst b))) (Prod.fst (Prod.snd b_3)))))) (br (decide (x0>0)) (br (decide (0≤IntKind.wrap IntKind.i64 (x0 - 1))&&decide (IntKind.wrap IntKind.i64 (x0 - 1)<(↑(List.length (Prod.fst (Prod.snd b_1))):Int))) (br (decide (0≤IntKind.wrap IntKind.i64 (IntKind.wrap IntKind.i64 (x1 - 1) - IntKind.wrap IntKind.i64 (Prod.fst (Prod.fst b) - x0)))&&decide (IntKind.wrap IntKind.i64 (IntKind.wrap IntKind.i64 (x1 - 1) - IntKind.wrap IntKind.i64 (Prod.fst (Prod.fst b) - x0))<(↑(List.length (Prod.fst (Prod.snd b_1))):Int))) (qd (qdr D (List.getD (Prod.fst (Prod.snd b_1)) (Int.toNat (IntKind.wrap IntKind.i64 (x0 - 1))) 0) (List.getD (Prod.fst (Prod.snd b_1)) (Int.toNat (IntKind.wrap IntKind.i64 (IntKind.wrap IntKind.i64 (x1 - 1) - IntKind.wrap IntKind.i64 (Prod.fst (Prod.fst b) - x0)))) 0)) fun b_2↦br (!Prod.fst (Prod.fst b_2)) (qd (qbj D (Prod.fst (Prod.snd b_1)) x0 x1 (IntKind.wrap IntKind.i64 (IntKind.wrap IntKind.i64 (x1 - 1) - IntKind.wrap IntKind.i64 (Prod.fst (Prod.fst b) - x0)))) fun b↦go (Prod.fst (Prod.fst b)) x1 x2 x3 x4 (Prod.fst (Prod.snd b))) (qd (qr D (Prod.fst (Prod.snd b_1)) x0 x1 (IntKind.wrap IntKind.i64 (IntKind.wrap IntKind.i64 (x1 - 1) - IntKind.wrap IntKind.i64 (Prod.fst (Prod.fst b) - x0)))) fun b↦br (decide (IntKind.wrap IntKind.i64 (Prod.fst (Prod.fst b) - x0)<IntKind.wrap IntKind.i64 (x1 - Prod.fst (Prod.fst b)))) (qd (qi D (Prod.fst (Prod.snd b)) x0 (Prod.fst (Prod.fst b)) x2) fun b_3↦go (IntKind.wrap IntKind.i64 (Prod.fst (Prod.fst b)+1)) x1 x2 (decide (IntKind.wrap IntKind.i64 (Prod.fst (Prod.fst b) - x0)≥IntKind.wrap IntKind.i64 (Int.tdiv (IntKind.wrap IntKind.i64 (x1 - x0)) 8))) (Prod.fst (Prod.snd (Prod.fst b))) (Prod.fst (Prod.snd b_3))) (qd (qi D (Prod.fst (Prod.snd b)) (IntKind.wrap IntKind.i64 (Prod.fst (Prod.fst b)+1)) x1 x2) fun b_3↦go x0 (Prod.fst (Prod.fst b)) x2 (decide (IntKind.wrap IntKind.i64 (x1 - Prod.fst (Prod.fst b))≥IntKind.wrap IntKind.i64 (Int.tdiv (IntKind.wrap IntKind.i64 (x1 - x0)) 8))) (Prod.fst (Prod.snd (Prod.fst b))) (Prod.fst (Prod.snd b_3))))) none) none) (qd (qr D (Prod.fst (Prod.snd b_1)) x0 x1 (IntKind.wrap IntKind.i64 (IntKind.wrap IntKind.i64 (x1 - 1) - IntKind.wrap IntKind.i64 (Prod.fst (Prod.fst b) - x0)))) fun b↦br (decide (IntKind.wrap IntKind.i64 (Prod.fst (Prod.fst b) - x0)<IntKind.wrap IntKind.i64 (x1 - Prod.fst (Prod.fst b)))) (qd (qi D (Prod.fst (Prod.snd b)) x0 (Prod.fst (Prod.fst b)) x2) fun b_2↦go (IntKind.wrap IntKind.i64 (Prod.fst (Prod.fst b)+1)) x1 x2 (decide (IntKind.wrap IntKind.i64 (Prod.fst (Prod.fst b) - x0)≥IntKind.wrap IntKind.i64 (Int.tdiv (IntKind.wrap IntKind.i64 (x1 - x0)) 8))) (Prod.fst (Prod.snd (Prod.fst b))) (Prod.fst (Prod.snd b_2))) (qd (qi D (Prod.fst (Prod.snd b)) (IntKind.wrap IntKind.i64 (Prod.fst (Prod.fst b)+1)) x1 x2) fun b_2↦go x0 (Prod.fst (Prod.fst b)) x2 (decide (IntKind.wrap IntKind.i64 (x1 - Prod.fst (Prod.fst b))≥IntKind.wrap IntKind.i64 (Int.tdiv (IntKind.wrap IntKind.i64 (x1 - x0)) 8))) (Prod.fst (Prod.snd (Prod.fst b))) (Prod.fst (Prod.snd b_2)))))) (br (bif bif x3 then x4 else false then decide (Prod.fst (Prod.snd (Prod.fst b))=1) else false) (qd (qcu D x5 x0 x1) fun b_1↦br (Prod.fst (Prod.fst b_1)) (K0 (Prod.fst (Prod.snd b_1))) (br (decide (x0>0)) (br (decide (0≤IntKind.wrap IntKind.i64 (x0 - 1))&&decide (IntKind.wrap IntKind.i64 (x0 - 1)<(↑(List.length (Prod.fst (Prod.snd b_1))):Int))) (br (decide (0≤Prod.fst (Prod.fst b))&&decide (Prod.fst (Prod.fst b)<(↑(List.length (Prod.fst (Prod.snd b_1))):Int))) (qd (qdr D (List.getD (Prod.fst (Prod.snd b_1)) (Int.toNat (IntKind.wrap IntKind.i64 (x0 - 1))) 0) (List.getD (Prod.fst (Prod.snd b_1)) (Int.toNat (Prod.fst (Prod.fst b))) 0)) fun b_2↦br (!Prod.fst (Prod.fst b_2)) (qd (qbj D (Prod.fst (Prod.snd b_1)) x0 x1 (Prod.fst (Prod.fst b))) fun b↦go (Prod.fst (Prod.fst b)) x1 x2 x3 x4 (Prod.fst (Prod.snd b))) (qd (qr D (Prod.fst (Prod.snd b_1)) x0 x1 (Prod.fst (Prod.fst b))) fun b↦br (decide (IntKind.wrap IntKind.i64 (Prod.fst (Prod.fst b) - x0)<IntKind.wrap IntKind.i64 (x1 - Prod.fst (Prod.fst b)))) (qd (qi D (Prod.fst (Prod.snd b)) x0 (Prod.fst (Prod.fst b)) x2) fun b_3↦go (IntKind.wrap IntKind.i64 (Prod.fst (Prod.fst b)+1)) x1 x2 (decide (IntKind.wrap IntKind.i64 (Prod.fst (Prod.fst b) - x0)≥IntKind.wrap IntKind.i64 (Int.tdiv (IntKind.wrap IntKind.i64 (x1 - x0)) 8))) (Prod.fst (Prod.snd (Prod.fst b))) (Prod.fst (Prod.snd b_3))) (qd (qi D (Prod.fst (Prod.snd b)) (IntKind.wrap IntKind.i64 (Prod.fst (Prod.fst b)+1)) x1 x2) fun b_3↦go x0 (Prod.fst (Prod.fst b)) x2 (decide (IntKind.wrap IntKind.i64 (x1 - Prod.fst (Prod.fst b))≥IntKind.wrap IntKind.i64 (Int.tdiv (IntKind.wrap IntKind.i64 (x1 - x0)) 8))) (Prod.fst (Prod.snd (Prod.fst b))) (Prod.fst (Prod.snd b_3))))) none) none) (qd (qr D (Prod.fst (Prod.snd b_1)) x0 x1 (Prod.fst (Prod.fst b))) fun b↦br (decide (IntKind.wrap IntKind.i64 (Prod.fst (Prod.fst b) - x0)<IntKind.wrap IntKind.i64 (x1 - Prod.fst (Prod.fst b)))) (qd (qi D (Prod.fst (Prod.snd b)) x0 (Prod.fst (Prod.fst b)) x2) fun b_2↦go (IntKind.wrap IntKind.i64 (Prod.fst (Prod.fst b)+1)) x1 x2 (decide (IntKind.wrap IntKind.i64 (Prod.fst (Prod.fst b) - x0)≥IntKind.wrap IntKind.i64 (Int.tdiv (IntKind.wrap IntKind.i64 (x1 - x0)) 8))) (Prod.fst (Prod.snd (Prod.fst b))) (Prod.fst (Prod.snd b_2))) (qd (qi D (Prod.fst (Prod.snd b)) (IntKind.wrap IntKind.i64 (Prod.fst (Prod.fst b)+1)) x1 x2) fun b_2↦go x0 (Prod.fst (Prod.fst b)) x2 (decide (IntKind.wrap IntKind.i64 (x1 - Prod.fst (Prod.fst b))≥IntKind.wrap IntKind.i64 (Int.tdiv (IntKind.wrap IntKind.i64 (x1 - x0)) 8))) (Prod.fst (Prod.snd (Prod.fst b))) (Prod.fst (Prod.snd b_2)))))) (br (decide (x0>0)) (br (decide (0≤IntKind.wrap IntKind.i64 (x0 - 1))&&decide (IntKind.wrap IntKind.i64 (x0 - 1)<(↑(List.length x5):Int))) (br (decide (0≤Prod.fst (Prod.fst b))&&decide (Prod.fst (Prod.fst b)<(↑(List.length x5):Int))) (qd (qdr D (List.getD x5 (Int.toNat (IntKind.wrap IntKind.i64 (x0 - 1))) 0) (List.getD x5 (Int.toNat (Prod.fst (Prod.fst b))) 0)) fun b_1↦br (!Prod.fst (Prod.fst b_1)) (qd (qbj D x5 x0 x1 (Prod.fst (Prod.fst b))) fun b↦go (Prod.fst (Prod.fst b)) x1 x2 x3 x4 (Prod.fst (Prod.snd b))) (qd (qr D x5 x0 x1 (Prod.fst (Prod.fst b))) fun b↦br (decide (IntKind.wrap IntKind.i64 (Prod.fst (Prod.fst b) - x0)<IntKind.wrap IntKind.i64 (x1 - Prod.fst (Prod.fst b)))) (qd (qi D (Prod.fst (Prod.snd b)) x0 (Prod.fst (Prod.fst b)) x2) fun b_2↦go (IntKind.wrap IntKind.i64 (Prod.fst (Prod.fst b)+1)) x1 x2 (decide (IntKind.wrap IntKind.i64 (Prod.fst (Prod.fst b) - x0)≥IntKind.wrap IntKind.i64 (Int.tdiv (IntKind.wrap IntKind.i64 (x1 - x0)) 8))) (Prod.fst (Prod.snd (Prod.fst b))) (Prod.fst (Prod.snd b_2))) (qd (qi D (Prod.fst (Prod.snd b)) (IntKind.wrap IntKind.i64 (Prod.fst (Prod.fst b)+1)) x1 x2) fun b_2↦go x0 (Prod.fst (Prod.fst b)) x2 (decide (IntKind.wrap IntKind.i64 (x1 - Prod.fst (Prod.fst b))≥IntKind.wrap IntKind.i64 (Int.tdiv (IntKind.wrap IntKind.i64 (x1 - x0)) 8))) (Prod.fst (Prod.snd (Prod.fst b))) (Prod.fst (Prod.snd b_2))))) none) none) (qd (qr D x5 x0 x1 (Prod.fst (Prod.fst b))) fun b↦br (decide (IntKind.wrap IntKind.i64 (Prod.fst (Prod.fst b) - x0)<IntKind.wrap IntKind.i64 (x1 - Prod.fst (Prod.fst b)))) (qd (qi D (Prod.fst (Prod.snd b)) x0 (Prod.fst (Prod.fst b)) x2) fun b_1↦go (IntKind.wrap IntKind.i64 (Prod.fst (Prod.fst b)+1)) x1 x2 (decide (IntKind.wrap IntKind.i64 (Prod.fst (Prod.fst b) - x0)≥IntKind.wrap IntKind.i64 (Int.tdiv (IntKind.wrap IntKind.i64 (x1 - x0)) 8))) (Prod.fst (Prod.snd (Prod.fst b))) (Prod.fst (Prod.snd b_1))) (qd (qi D (Prod.fst (Prod.snd b)) (IntKind.wrap IntKind.i64 (Prod.fst (Prod.fst b)+1)) x1 x2) fun b_1↦go x0 (Prod.fst (Prod.fst b)) x2 (decide (IntKind.wrap IntKind.i64 (x1 - Prod.fst (Prod.fst b))≥IntKind.wrap IntKind.i64 (Int.tdiv (IntKind.wrap IntKind.i64 (x1 - x0)) 8))) (Prod.fst (Prod.snd (Prod.fst b))) (Prod.fst (Prod.snd b_1)))))))))
def qds (D:DX)(n:Nat) (K0:List Int→Option (Unit×List Int×Unit)):Nat→(Int)→(Int)→(Int)→(Bool)→(Bool)→(List Int)→Option (Unit×List Int×Unit) | 0=>(fun x0 x1 x2 x3 x4 x5=>none) | m+1=>(fun x0 x1 x2 x3 x4 x5=>qf4 D n (qds D n K0 m) K0 x0 x1 x2 x3 x4 x5)
def qim (D:DX)(n:Nat) (v0_0:List Int):Option (Unit×List Int×Unit):=some ((),v0_0,())
def qfz (D:DX)(n:Nat):(Int)→(Int)→(Int)→(Bool)→(Bool)→(List Int)→Option (Unit×List Int×Unit):=(fun x0 x1 x2 x3 x4 x5=>qds D n (fun v0_0=>qim D n v0_0) n x0 x1 x2 x3 x4 x5)
def qgg (D:DX)(n:Nat) (lp0:Int→Int→Int→Bool→Bool→List Int→Option (Unit×List Int×Unit)) (a0:List Int) (a1:Int) (a2:Int) (a3:Int):Option (Unit×List Int×Unit):=lp0 a1 a2 a3 true true a0
def qgk (D:DX)(n:Nat) (a0:List Int) (a1:Int) (a2:Int) (a3:Int):Option (Unit×List Int×Unit):=qgg D n (qfz D n) a0 a1 a2 a3
def qcw (x0:Int) (x1:Int) (x2:Int) (x3:Bool) (x4:Bool) (x5:List Int):St:=stq 134 [(0,AV.brw 0 [] 1048576),(1,avI x0),(2,avI x1),(3,avI x2),(8,AV.val Ty.bool x3),(9,AV.val Ty.bool x4)] [(0,Root.mk (Ty.sl yI) (Mk.own 1048576 Mk.no) x5 false)] 
def qd7 (v0_0:List Int):St:=stq 134 [(0,AV.brw 0 [] 1048576)] [(0,Root.mk (Ty.sl yI) (Mk.own 1048576 Mk.no) v0_0 false)] 
theorem qo5 (D:DX)(n:Nat) (m:Nat) (K:Ex→St→Option (Out ctx 81)) (x0:Int) (x1:Int) (x2:Int) (x3:Bool) (x4:Bool) (x5:List Int) :
 LQ qe D n 81 [.r,.r,.l] (m+1) (qcw x0 x1 x2 x3 x4 x5) K=qf4 D n (fun x0 x1 x2 x3 x4 x5=>LQ qe D n 81 [.r,.r,.l] m (qcw x0 x1 x2 x3 x4 x5) K) (fun v0_0=>K (Ex.ret) (qd7 v0_0)) x0 x1 x2 x3 x4 x5:=by kernel_rfl
theorem qiv (D:DX)(n:Nat) (K:Ex→St→Option (Out ctx 81)):∀ (m:Nat) (x0:Int) (x1:Int) (x2:Int) (x3:Bool) (x4:Bool) (x5:List Int),LQ qe D n 81 [.r,.r,.l] m (qcw x0 x1 x2 x3 x4 x5) K=qds D n (fun v0_0=>K (Ex.ret) (qd7 v0_0)) m x0 x1 x2 x3 x4 x5
 | 0,x0,x1,x2,x3,x4,x5=>qc1 ..
 | m+1,x0,x1,x2,x3,x4,x5=>by
  have ih:(fun x0 x1 x2 x3 x4 x5=>LQ qe D n 81 [.r,.r,.l] m (qcw x0 x1 x2 x3 x4 x5) K)=qds D n (fun v0_0=>K (Ex.ret) (qd7 v0_0)) m:=by funext x0 x1 x2 x3 x4 x5;exact qiv D n K m x0 x1 x2 x3 x4 x5
  rw[qo5]
  rw[ih];rfl
theorem qoc (D:DX)(n:Nat) (v0_0:List Int) :
 (CQ qe D n 81 [] [.r,.r,.l] (qy qe 81)) (Ex.ret) (qd7 v0_0)=qim D n v0_0:=by kernel_rfl
theorem qox (D:DX)(n:Nat) (x0:Int) (x1:Int) (x2:Int) (x3:Bool) (x4:Bool) (x5:List Int) :
 LQ qe D n 81 [.r,.r,.l] n (qcw x0 x1 x2 x3 x4 x5) (CQ qe D n 81 [] [.r,.r,.l] (qy qe 81))=qfz D n x0 x1 x2 x3 x4 x5:=by
 rw[qiv]
 simp only[qoc]
 rfl
theorem qrg (D:DX)(n:Nat) (a0:List Int) (a1:Int) (a2:Int) (a3:Int):rfC qe D n 81 (a0,(a1,(a2,(a3,()))))=qgk D n a0 a1 a2 a3:=by
 have h:rfC qe D n 81 (a0,(a1,(a2,(a3,()))))=qgg D n (fun x0 x1 x2 x3 x4 x5=>LQ qe D n 81 [.r,.r,.l] n (qcw x0 x1 x2 x3 x4 x5) (CQ qe D n 81 [] [.r,.r,.l] (qy qe 81))) a0 a1 a2 a3:=by kernel_rfl
 rw[h]
 simp only[qox]
 rfl

def que (D:DX)(n:Nat) (a0:Int):Option ((Int×Unit)×Unit):=qd (qsd D a0) fun b↦some ((Prod.fst (Prod.fst b),()),())
def qn6 (D:DX)(n:Nat) (a0:Int):Option ((Int×Unit)×Unit):=que D n a0
theorem q1r (D:DX)(n:Nat) (a0:Int):rfC qe D n 82 (a0,())=qn6 D n a0:=by kernel_rfl

def qbac (D:DX)(n:Nat) (a0:Int) (a1:Int) (a2:Int):Option ((Bool×Unit)×Unit):=some ((bif decide (a0≥a1) then decide (a0≤a2) else false,()),())
def qz2 (D:DX)(n:Nat) (a0:Int) (a1:Int) (a2:Int):Option ((Bool×Unit)×Unit):=qbac D n a0 a1 a2
theorem q91 (D:DX)(n:Nat) (a0:Int) (a1:Int) (a2:Int):rfC qe D n 83 (a0,(a1,(a2,())))=qz2 D n a0 a1 a2:=by kernel_rfl

def qyq (D:DX)(n:Nat) (a0:Int):Option ((Bool×Unit)×Unit):=qd (qek D a0 0 3) fun b↦some ((Prod.fst (Prod.fst b),()),())
def qt5 (D:DX)(n:Nat) (a0:Int):Option ((Bool×Unit)×Unit):=qyq D n a0
theorem q7n (D:DX)(n:Nat) (a0:Int):rfC qe D n 84 (a0,())=qt5 D n a0:=by kernel_rfl

def qxz (D:DX)(n:Nat) (a0:Int):Option ((Bool×Unit)×Unit):=qd (qek D a0 1 6) fun b↦some ((Prod.fst (Prod.fst b),()),())
def qs8 (D:DX)(n:Nat) (a0:Int):Option ((Bool×Unit)×Unit):=qxz D n a0
theorem q7p (D:DX)(n:Nat) (a0:Int):rfC qe D n 85 (a0,())=qs8 D n a0:=by kernel_rfl

def qvg (D:DX)(n:Nat) (a0:Int):Option ((Int×Unit)×Unit):=qd (qef D a0) fun b↦br (!Prod.fst (Prod.fst b)) (some ((-1,()),())) (some ((Int.tmod a0 3,()),()))
def qpw (D:DX)(n:Nat) (a0:Int):Option ((Int×Unit)×Unit):=qvg D n a0
theorem q3h (D:DX)(n:Nat) (a0:Int):rfC qe D n 86 (a0,())=qpw D n a0:=by kernel_rfl

def qw9 (D:DX)(n:Nat) (a0:List (Int×Int×Int×Unit)) (a1:List (Int×Int×Unit)) (a2:Int) (a3:Int):Option ((List (Int×Int×Int×Unit)×Unit)×Unit):=qd (qb3 D a2) fun b↦qd (qd4 D (Prod.fst (Prod.fst b))) fun b↦qd (qc2 D a1 (Prod.fst (Prod.fst b))) fun b_1↦qd (qs2 D (IntKind.wrap IntKind.i64 (Prod.fst (Prod.fst b_1)+a3)) 0) fun b_2↦qd (qbs D a0 a1 (Prod.fst (Prod.fst b)) (Prod.fst (Prod.fst b_2))) fun b↦some ((Prod.fst (Prod.fst b),()),())
def qsb (D:DX)(n:Nat) (a0:List (Int×Int×Int×Unit)) (a1:List (Int×Int×Unit)) (a2:Int) (a3:Int):Option ((List (Int×Int×Int×Unit)×Unit)×Unit):=qw9 D n a0 a1 a2 a3
theorem q6t (D:DX)(n:Nat) (a0:List (Int×Int×Int×Unit)) (a1:List (Int×Int×Unit)) (a2:Int) (a3:Int):rfC qe D n 87 (a0,(a1,(a2,(a3,()))))=qsb D n a0 a1 a2 a3:=by kernel_rfl

def qxh (D:DX)(n:Nat) (a0:List Int×Int×Int×Unit) (a1:Int):Option ((Bool×Unit)×tCur×Unit):=qd (qbc D a0 a1) fun b↦some ((decide (Prod.fst (Prod.fst b)=0),()),Prod.fst (Prod.snd b),())
def qri (D:DX)(n:Nat) (a0:List Int×Int×Int×Unit) (a1:Int):Option ((Bool×Unit)×tCur×Unit):=qxh D n a0 a1
theorem q61 (D:DX)(n:Nat) (a0:List Int×Int×Int×Unit) (a1:Int):rfC qe D n 88 (a0,(a1,()))=qri D n a0 a1:=by kernel_rfl

def qxl (D:DX)(n:Nat) (a0:List Int×Int×Int×Unit):Option ((Int×Unit)×tCur×Unit):=br (decide (Prod.fst (Prod.snd a0)<(↑(List.length (Prod.fst a0)):Int))) (br (decide (0≤Prod.fst (Prod.snd a0))&&decide (Prod.fst (Prod.snd a0)<(↑(List.length (Prod.fst a0)):Int))) (some ((IntKind.wrap IntKind.i64 (↑(BitVec.toNat (BitVec.and (BitVec.ofInt (IntKind.bits IntKind.i64) (IntKind.wrap IntKind.i64 (IntKind.wrap IntKind.i64 (↑(BitVec.toNat (BitVec.and (BitVec.ofInt (IntKind.bits IntKind.i64) (IntKind.wrap IntKind.i64 (↑(BitVec.toNat (BitVec.xor (BitVec.ofInt (IntKind.bits IntKind.i64) (Int.fdiv (IntKind.wrap IntKind.i64 (IntKind.wrap IntKind.i64 (Prod.fst (Prod.snd (Prod.snd a0)) * 6364136223846793005)+1442695040888963407)) (Int.pow 2 (if Int.toNat 33≤IntKind.bits IntKind.i64 then Int.toNat 33 else IntKind.bits IntKind.i64)))) (BitVec.ofInt (IntKind.bits IntKind.i64) (Int.fdiv (IntKind.wrap IntKind.i64 (IntKind.wrap IntKind.i64 (Prod.fst (Prod.snd (Prod.snd a0)) * 6364136223846793005)+1442695040888963407)) (Int.pow 2 (if Int.toNat 45≤IntKind.bits IntKind.i64 then Int.toNat 45 else IntKind.bits IntKind.i64)))))):Int))) (BitVec.ofInt (IntKind.bits IntKind.i64) 255))):Int)+IntKind.wrap IntKind.i64 (List.getD (Prod.fst a0) (Int.toNat (Prod.fst (Prod.snd a0))) 0)))) (BitVec.ofInt (IntKind.bits IntKind.i64) 255))):Int),()),(Prod.fst a0,IntKind.wrap IntKind.i64 (Prod.fst (Prod.snd a0)+1),IntKind.wrap IntKind.i64 (IntKind.wrap IntKind.i64 (Prod.fst (Prod.snd (Prod.snd a0)) * 6364136223846793005)+1442695040888963407),Prod.snd (Prod.snd (Prod.snd a0))),())) none) (some ((IntKind.wrap IntKind.i64 (↑(BitVec.toNat (BitVec.and (BitVec.ofInt (IntKind.bits IntKind.i64) (IntKind.wrap IntKind.i64 (↑(BitVec.toNat (BitVec.xor (BitVec.ofInt (IntKind.bits IntKind.i64) (Int.fdiv (IntKind.wrap IntKind.i64 (IntKind.wrap IntKind.i64 (Prod.fst (Prod.snd (Prod.snd a0)) * 6364136223846793005)+1442695040888963407)) (Int.pow 2 (if Int.toNat 33≤IntKind.bits IntKind.i64 then Int.toNat 33 else IntKind.bits IntKind.i64)))) (BitVec.ofInt (IntKind.bits IntKind.i64) (Int.fdiv (IntKind.wrap IntKind.i64 (IntKind.wrap IntKind.i64 (Prod.fst (Prod.snd (Prod.snd a0)) * 6364136223846793005)+1442695040888963407)) (Int.pow 2 (if Int.toNat 45≤IntKind.bits IntKind.i64 then Int.toNat 45 else IntKind.bits IntKind.i64)))))):Int))) (BitVec.ofInt (IntKind.bits IntKind.i64) 255))):Int),()),(Prod.fst a0,Prod.fst (Prod.snd a0),IntKind.wrap IntKind.i64 (IntKind.wrap IntKind.i64 (Prod.fst (Prod.snd (Prod.snd a0)) * 6364136223846793005)+1442695040888963407),Prod.snd (Prod.snd (Prod.snd a0))),()))
def qrj (D:DX)(n:Nat) (a0:List Int×Int×Int×Unit):Option ((Int×Unit)×tCur×Unit):=qxl D n a0
theorem q6e (D:DX)(n:Nat) (a0:List Int×Int×Int×Unit):rfC qe D n 89 (a0,())=qrj D n a0:=by kernel_rfl

def qyl (D:DX)(n:Nat) (a0:List (Int×Int×Unit)×Int×Bool×Unit) (a1:Int×Int×Int×Unit):Option (Unit×(List (Int×Int×Unit)×Int×Bool×Unit)×Unit):=qd (qb7 D (Prod.fst (Prod.snd a1))) fun b↦qd (qx D a0 (Prod.fst (Prod.fst b))) fun b↦qd (qfk D (Prod.fst (Prod.snd b)) (Prod.fst (Prod.fst b) != 0)) fun b↦qd (qb9 D (Prod.fst (Prod.snd (Prod.snd a1)))) fun b_1↦qd (qx D (Prod.fst (Prod.snd b)) (Prod.fst (Prod.fst b_1))) fun b↦qd (qfk D (Prod.fst (Prod.snd b)) (Prod.fst (Prod.fst b) != 0)) fun b↦qd (qb3 D (Prod.fst (Prod.snd (Prod.snd a1)))) fun b_2↦qd (qd4 D (Prod.fst (Prod.fst b_2))) fun b_3↦qd (qx D (Prod.fst (Prod.snd b)) (Prod.fst (Prod.fst b_3))) fun b↦qd (qje D (Prod.fst (Prod.snd b)) (Prod.fst (Prod.snd a1)) [Prod.fst (Prod.snd (Prod.snd a1))]) fun b↦some ((),Prod.fst (Prod.snd b),())
def qtc (D:DX)(n:Nat) (a0:List (Int×Int×Unit)×Int×Bool×Unit) (a1:Int×Int×Int×Unit):Option (Unit×(List (Int×Int×Unit)×Int×Bool×Unit)×Unit):=qyl D n a0 a1
theorem q7l (D:DX)(n:Nat) (a0:List (Int×Int×Unit)×Int×Bool×Unit) (a1:Int×Int×Int×Unit):rfC qe D n 90 (a0,(a1,()))=qtc D n a0 a1:=by kernel_rfl

def qym (D:DX)(n:Nat) (a0:List (Int×Int×Unit)×Int×Bool×Unit) (a1:Int×Int×Int×Unit):Option (Unit×(List (Int×Int×Unit)×Int×Bool×Unit)×Unit):=qd (qb7 D (Prod.fst (Prod.snd a1))) fun b↦qd (qx D a0 (Prod.fst (Prod.fst b))) fun b↦qd (qfk D (Prod.fst (Prod.snd b)) (bif decide (Prod.fst (Prod.fst b)=0) then true else decide (Prod.fst (Prod.fst b)=Prod.fst (Prod.snd (Prod.snd a1))))) fun b_1↦qd (qb9 D (Prod.fst (Prod.snd (Prod.snd a1)))) fun b_2↦qd (qx D (Prod.fst (Prod.snd b_1)) (Prod.fst (Prod.fst b_2))) fun b_3↦qd (qfk D (Prod.fst (Prod.snd b_3)) (Prod.fst (Prod.fst b_3) != 0)) fun b_4↦qd (qb9 D (Prod.fst (Prod.fst b))) fun b_5↦qd (qx D (Prod.fst (Prod.snd b_4)) (Prod.fst (Prod.fst b_5))) fun b_6↦qd (qb3 D (Prod.fst (Prod.fst b))) fun b_7↦qd (qb3 D (Prod.fst (Prod.snd (Prod.snd a1)))) fun b_8↦br (Prod.fst (Prod.fst b_7) != Prod.fst (Prod.fst b_8)) (qd (qb3 D (Prod.fst (Prod.fst b))) fun b_9↦qd (qd4 D (Prod.fst (Prod.fst b_9))) fun b_10↦qd (qx D (Prod.fst (Prod.snd b_6)) (Prod.fst (Prod.fst b_10))) fun b_11↦qd (qb3 D (Prod.fst (Prod.snd (Prod.snd a1)))) fun b_12↦qd (qd4 D (Prod.fst (Prod.fst b_12))) fun b_13↦qd (qx D (Prod.fst (Prod.snd b_11)) (Prod.fst (Prod.fst b_13))) fun b_14↦qd (qje D (Prod.fst (Prod.snd b_14)) (Prod.fst (Prod.snd a1)) [Prod.fst (Prod.fst b),Prod.fst (Prod.snd (Prod.snd a1))]) fun b↦some ((),Prod.fst (Prod.snd b),())) (qd (qje D (Prod.fst (Prod.snd b_6)) (Prod.fst (Prod.snd a1)) [Prod.fst (Prod.fst b),Prod.fst (Prod.snd (Prod.snd a1))]) fun b↦some ((),Prod.fst (Prod.snd b),()))
def qs7 (D:DX)(n:Nat) (a0:List (Int×Int×Unit)×Int×Bool×Unit) (a1:Int×Int×Int×Unit):Option (Unit×(List (Int×Int×Unit)×Int×Bool×Unit)×Unit):=qym D n a0 a1
theorem q9f (D:DX)(n:Nat) (a0:List (Int×Int×Unit)×Int×Bool×Unit) (a1:Int×Int×Int×Unit):rfC qe D n 91 (a0,(a1,()))=qs7 D n a0 a1:=by kernel_rfl

def qyv (D:DX)(n:Nat) (a0:List (Int×Int×Unit)×Int×Bool×Unit) (a1:Int×Int×Int×Unit):Option (Unit×(List (Int×Int×Unit)×Int×Bool×Unit)×Unit):=qd (qb7 D (Prod.fst (Prod.snd a1))) fun b↦qd (qx D a0 (Prod.fst (Prod.fst b))) fun b↦qd (qfk D (Prod.fst (Prod.snd b)) (decide (Prod.fst (Prod.fst b)=0))) fun b_1↦qd (qb9 D (Prod.fst (Prod.fst b))) fun b_2↦qd (qx D (Prod.fst (Prod.snd b_1)) (Prod.fst (Prod.fst b_2))) fun b_3↦qd (qb3 D (Prod.fst (Prod.fst b))) fun b_4↦qd (qd4 D (Prod.fst (Prod.fst b_4))) fun b_5↦qd (qx D (Prod.fst (Prod.snd b_3)) (Prod.fst (Prod.fst b_5))) fun b_6↦qd (qje D (Prod.fst (Prod.snd b_6)) (Prod.fst (Prod.snd a1)) [Prod.fst (Prod.fst b)]) fun b↦some ((),Prod.fst (Prod.snd b),())
def qsy (D:DX)(n:Nat) (a0:List (Int×Int×Unit)×Int×Bool×Unit) (a1:Int×Int×Int×Unit):Option (Unit×(List (Int×Int×Unit)×Int×Bool×Unit)×Unit):=qyv D n a0 a1
theorem q7r (D:DX)(n:Nat) (a0:List (Int×Int×Unit)×Int×Bool×Unit) (a1:Int×Int×Int×Unit):rfC qe D n 92 (a0,(a1,()))=qsy D n a0 a1:=by kernel_rfl

def qkm (D:DX)(n:Nat) (a0:List (Int×Int×Unit)×Int×Bool×Unit) (a1:Int):Option ((Int×Unit)×(List (Int×Int×Unit)×Int×Bool×Unit)×Unit):=br (Prod.fst (Prod.snd (Prod.snd a0))) (some ((0,()),a0,())) (qd (qc2 D (Prod.fst a0) a1) fun b↦br (bif !Prod.fst (Prod.snd (Prod.fst b)) then true else decide (a1<0)) (some ((0,()),(Prod.fst a0,a1,true,Prod.snd (Prod.snd (Prod.snd a0))),())) (some ((Prod.fst (Prod.fst b),()),a0,())))
def qid (D:DX)(n:Nat) (a0:List (Int×Int×Unit)×Int×Bool×Unit) (a1:Int):Option ((Int×Unit)×(List (Int×Int×Unit)×Int×Bool×Unit)×Unit):=qkm D n a0 a1
theorem q6c (D:DX)(n:Nat) (a0:List (Int×Int×Unit)×Int×Bool×Unit) (a1:Int):rfC qe D n 93 (a0,(a1,()))=qid D n a0 a1:=by kernel_rfl

def qxi (D:DX)(n:Nat) (a0:List (Int×Int×Unit)×Int×Bool×Unit):Option (Unit×(List (Int×Int×Unit)×Int×Bool×Unit)×Unit):=qd (qb2 D) fun b↦qd (qx D a0 (Prod.fst (Prod.fst b))) fun b↦qd (qek D (Prod.fst (Prod.fst b)) 1 4) fun b_1↦qd (qfk D (Prod.fst (Prod.snd b)) !Prod.fst (Prod.fst b_1)) fun b_2↦qd (qb7 D (IntKind.wrap IntKind.i64 (Prod.fst (Prod.fst b) - 1))) fun b↦qd (qx D (Prod.fst (Prod.snd b_2)) (Prod.fst (Prod.fst b))) fun b↦br (Prod.fst (Prod.fst b) != 0) (qd (qcz D (Prod.fst (Prod.fst b))) fun b_3↦qd (qx D (Prod.fst (Prod.snd b)) (Prod.fst (Prod.fst b_3))) fun b↦some ((),Prod.fst (Prod.snd b),())) (some ((),Prod.fst (Prod.snd b),()))
def qr2 (D:DX)(n:Nat) (a0:List (Int×Int×Unit)×Int×Bool×Unit):Option (Unit×(List (Int×Int×Unit)×Int×Bool×Unit)×Unit):=qxi D n a0
theorem q6b (D:DX)(n:Nat) (a0:List (Int×Int×Unit)×Int×Bool×Unit):rfC qe D n 94 (a0,())=qr2 D n a0:=by kernel_rfl

def qbab (D:DX)(n:Nat) (a0:List (Int×Int×Unit)×Int×Bool×Unit) (a1:Bool):Option (Unit×(List (Int×Int×Unit)×Int×Bool×Unit)×Unit):=some ((),(Prod.fst a0,Prod.fst (Prod.snd a0),bif Prod.fst (Prod.snd (Prod.snd a0)) then true else a1,Prod.snd (Prod.snd (Prod.snd a0))),())
def qzw (D:DX)(n:Nat) (a0:List (Int×Int×Unit)×Int×Bool×Unit) (a1:Bool):Option (Unit×(List (Int×Int×Unit)×Int×Bool×Unit)×Unit):=qbab D n a0 a1
theorem qbaq (D:DX)(n:Nat) (a0:List (Int×Int×Unit)×Int×Bool×Unit) (a1:Bool):rfC qe D n 95 (a0,(a1,()))=qzw D n a0 a1:=by kernel_rfl

def qqr (D:DX)(n:Nat) (go:List Int→List Int→Int→Option ((Bool×Unit)×Unit)) (K0:List Int→List Int→Bool→Option ((Bool×Unit)×Unit)) (K1:List Int→List Int→Option ((Bool×Unit)×Unit)) (x0:List Int) (x1:List Int) (x2:Int):Option ((Bool×Unit)×Unit):=br (bif decide (x2<(↑(List.length x0):Int)) then decide (x2<(↑(List.length x1):Int)) else false) (br (decide (0≤x2)&&decide (x2<(↑(List.length x0):Int))) (br (decide (0≤x2)&&decide (x2<(↑(List.length x1):Int))) (br (List.getD x0 (Int.toNat x2) 0 != List.getD x1 (Int.toNat x2) 0) (K0 x0 x1 false) (go x0 x1 (IntKind.wrap IntKind.i64 (x2+1)))) none) none) (K1 x0 x1)
def qhh (D:DX)(n:Nat) (K0:List Int→List Int→Bool→Option ((Bool×Unit)×Unit)) (K1:List Int→List Int→Option ((Bool×Unit)×Unit)):Nat→(List Int)→(List Int)→(Int)→Option ((Bool×Unit)×Unit) | 0=>(fun x0 x1 x2=>none) | m+1=>(fun x0 x1 x2=>qqr D n (qhh D n K0 K1 m) K0 K1 x0 x1 x2)
def qm9 (D:DX)(n:Nat) (v0_0:List Int) (v0_1:List Int) (v0_2:Bool):Option ((Bool×Unit)×Unit):=some ((v0_2,()),())
def qjz (D:DX)(n:Nat) (v1_0:List Int) (v1_1:List Int):Option ((Bool×Unit)×Unit):=some ((decide ((↑(List.length v1_0):Int)=(↑(List.length v1_1):Int)),()),())
def qo2 (D:DX)(n:Nat):(List Int)→(List Int)→(Int)→Option ((Bool×Unit)×Unit):=(fun x0 x1 x2=>qhh D n (fun v0_0 v0_1 v0_2=>qm9 D n v0_0 v0_1 v0_2) (fun v1_0 v1_1=>qjz D n v1_0 v1_1) n x0 x1 x2)
def qrr (D:DX)(n:Nat) (lp0:List Int→List Int→Int→Option ((Bool×Unit)×Unit)) (a0:List Int) (a1:List Int):Option ((Bool×Unit)×Unit):=lp0 a0 a1 0
def qrw (D:DX)(n:Nat) (a0:List Int) (a1:List Int):Option ((Bool×Unit)×Unit):=qrr D n (qo2 D n) a0 a1
def qhm (x0:List Int) (x1:List Int) (x2:Int):St:=stq 32 [(0,AV.val (Ty.sl yI) x0),(1,AV.val (Ty.sl yI) x1),(5,avI x2)] [] 
def qj7 (v0_0:List Int) (v0_1:List Int) (v0_2:Bool):St:=stq 32 [(0,AV.val (Ty.sl yI) v0_0),(1,AV.val (Ty.sl yI) v0_1),(4,AV.val Ty.bool v0_2)] [] 
def qj6 (v1_0:List Int) (v1_1:List Int):St:=stq 32 [(0,AV.val (Ty.sl yI) v1_0),(1,AV.val (Ty.sl yI) v1_1)] [] 
theorem q1n (D:DX)(n:Nat) (m:Nat) (K:Ex→St→Option (Out ctx 96)) (x0:List Int) (x1:List Int) (x2:Int) :
 LQ qe D n 96 [.r,.l,.r,.l] (m+1) (qhm x0 x1 x2) K=qqr D n (fun x0 x1 x2=>LQ qe D n 96 [.r,.l,.r,.l] m (qhm x0 x1 x2) K) (fun v0_0 v0_1 v0_2=>K (Ex.ret) (qj7 v0_0 v0_1 v0_2)) (fun v1_0 v1_1=>K (Ex.exit 0) (qj6 v1_0 v1_1)) x0 x1 x2:=by kernel_rfl
theorem qun (D:DX)(n:Nat) (K:Ex→St→Option (Out ctx 96)):∀ (m:Nat) (x0:List Int) (x1:List Int) (x2:Int),LQ qe D n 96 [.r,.l,.r,.l] m (qhm x0 x1 x2) K=qhh D n (fun v0_0 v0_1 v0_2=>K (Ex.ret) (qj7 v0_0 v0_1 v0_2)) (fun v1_0 v1_1=>K (Ex.exit 0) (qj6 v1_0 v1_1)) m x0 x1 x2
 | 0,x0,x1,x2=>qc1 ..
 | m+1,x0,x1,x2=>by
  have ih:(fun x0 x1 x2=>LQ qe D n 96 [.r,.l,.r,.l] m (qhm x0 x1 x2) K)=qhh D n (fun v0_0 v0_1 v0_2=>K (Ex.ret) (qj7 v0_0 v0_1 v0_2)) (fun v1_0 v1_1=>K (Ex.exit 0) (qj6 v1_0 v1_1)) m:=by funext x0 x1 x2;exact qun D n K m x0 x1 x2
  rw[q1n]
  rw[ih];rfl
theorem q1c (D:DX)(n:Nat) (v0_0:List Int) (v0_1:List Int) (v0_2:Bool) :
 (CQ qe D n 96 [] [.r,.l,.r,.l] (qy qe 96)) (Ex.ret) (qj7 v0_0 v0_1 v0_2)=qm9 D n v0_0 v0_1 v0_2:=by kernel_rfl
theorem q0v (D:DX)(n:Nat) (v1_0:List Int) (v1_1:List Int) :
 (CQ qe D n 96 [] [.r,.l,.r,.l] (qy qe 96)) (Ex.exit 0) (qj6 v1_0 v1_1)=qjz D n v1_0 v1_1:=by kernel_rfl
theorem q0y (D:DX)(n:Nat) (x0:List Int) (x1:List Int) (x2:Int) :
 LQ qe D n 96 [.r,.l,.r,.l] n (qhm x0 x1 x2) (CQ qe D n 96 [] [.r,.l,.r,.l] (qy qe 96))=qo2 D n x0 x1 x2:=by
 rw[qun]
 simp only[q1c,q0v]
 rfl
theorem q6v (D:DX)(n:Nat) (a0:List Int) (a1:List Int):rfC qe D n 96 (a0,(a1,()))=qrw D n a0 a1:=by
 have h:rfC qe D n 96 (a0,(a1,()))=qrr D n (fun x0 x1 x2=>LQ qe D n 96 [.r,.l,.r,.l] n (qhm x0 x1 x2) (CQ qe D n 96 [] [.r,.l,.r,.l] (qy qe 96))) a0 a1:=by kernel_rfl
 rw[h]
 simp only[q0y]
 rfl

def q9z (D:DX)(n:Nat) (a0:Bool):Option ((Int×Unit)×Unit):=br a0 (some ((1,()),())) (some ((0,()),()))
def qyp (D:DX)(n:Nat) (a0:Bool):Option ((Int×Unit)×Unit):=q9z D n a0
theorem q9t (D:DX)(n:Nat) (a0:Bool):rfC qe D n 100 (a0,())=qyp D n a0:=by kernel_rfl

def qg4 (D:DX)(n:Nat) (go:List Int→Int→Int→List (Int×Int×Unit)×List Int×Int×Bool×Unit→Option (Unit×(List (Int×Int×Unit)×List Int×Int×Bool×Unit)×Unit)) (K0:List (Int×Int×Unit)×List Int×Int×Bool×Unit→Option (Unit×(List (Int×Int×Unit)×List Int×Int×Bool×Unit)×Unit)) (x0:List Int) (x1:Int) (x2:Int) (x3:List (Int×Int×Unit)×List Int×Int×Bool×Unit):Option (Unit×(List (Int×Int×Unit)×List Int×Int×Bool×Unit)×Unit):=br (decide (x2<x1)) (br (decide (0≤x2)&&decide (x2<(↑(List.length x0):Int))) (qd (qcq D (List.getD x0 (Int.toNat x2) 0)) fun b↦qd (qj D x3 (Prod.fst (Prod.fst b))) fun b↦go x0 x1 (IntKind.wrap IntKind.i64 (x2+1)) (Prod.fst (Prod.snd b))) none) (K0 x3)
def qc3 (D:DX)(n:Nat) (K0:List (Int×Int×Unit)×List Int×Int×Bool×Unit→Option (Unit×(List (Int×Int×Unit)×List Int×Int×Bool×Unit)×Unit)):Nat→(List Int)→(Int)→(Int)→(List (Int×Int×Unit)×List Int×Int×Bool×Unit)→Option (Unit×(List (Int×Int×Unit)×List Int×Int×Bool×Unit)×Unit) | 0=>(fun x0 x1 x2 x3=>none) | m+1=>(fun x0 x1 x2 x3=>qg4 D n (qc3 D n K0 m) K0 x0 x1 x2 x3)
def qdf (D:DX)(n:Nat) (v0_0:List (Int×Int×Unit)×List Int×Int×Bool×Unit):Option (Unit×(List (Int×Int×Unit)×List Int×Int×Bool×Unit)×Unit):=some ((),v0_0,())
def qgm (D:DX)(n:Nat):(List Int)→(Int)→(Int)→(List (Int×Int×Unit)×List Int×Int×Bool×Unit)→Option (Unit×(List (Int×Int×Unit)×List Int×Int×Bool×Unit)×Unit):=(fun x0 x1 x2 x3=>qc3 D n (fun v0_0=>qdf D n v0_0) n x0 x1 x2 x3)
def qhs (D:DX)(n:Nat) (lp0:List Int→Int→Int→List (Int×Int×Unit)×List Int×Int×Bool×Unit→Option (Unit×(List (Int×Int×Unit)×List Int×Int×Bool×Unit)×Unit)) (a0:List (Int×Int×Unit)×List Int×Int×Bool×Unit) (a1:Int) (a2:List Int):Option (Unit×(List (Int×Int×Unit)×List Int×Int×Bool×Unit)×Unit):=qd (qbl D) fun b↦qd (qj D a0 (Prod.fst (Prod.fst b))) fun b↦qd (qv D (Prod.fst (Prod.snd b)) (decide (Prod.fst (Prod.fst b)≤IntKind.wrap IntKind.i64 (a1+1)))) fun b↦lp0 a2 (↑(List.length a2):Int) 0 (Prod.fst (Prod.snd b))
def qhr (D:DX)(n:Nat) (a0:List (Int×Int×Unit)×List Int×Int×Bool×Unit) (a1:Int) (a2:List Int):Option (Unit×(List (Int×Int×Unit)×List Int×Int×Bool×Unit)×Unit):=qhs D n (qgm D n) a0 a1 a2
def qfr (x0:List Int) (x1:Int) (x2:Int) (x3:List (Int×Int×Unit)×List Int×Int×Bool×Unit):St:=stq 29 [(0,AV.addr 0 []),(18,AV.val (Ty.sl yI) x0),(19,avI x1),(20,avI x2)] [(0,Root.mk (Ty.pair (Ty.sl (Ty.pair yI (Ty.pair yI Ty.unit))) (Ty.pair (Ty.sl yI) (Ty.pair yI (Ty.pair Ty.bool Ty.unit)))) (Mk.pr Mk.no (Mk.pr (Mk.own 0 Mk.no) Mk.no)) x3 true)] 
def qhu (v0_0:List (Int×Int×Unit)×List Int×Int×Bool×Unit):St:=stq 29 [(0,AV.addr 0 [])] [(0,Root.mk (Ty.pair (Ty.sl (Ty.pair yI (Ty.pair yI Ty.unit))) (Ty.pair (Ty.sl yI) (Ty.pair yI (Ty.pair Ty.bool Ty.unit)))) (Mk.pr Mk.no (Mk.pr (Mk.own 0 Mk.no) Mk.no)) v0_0 true)] 
theorem qx2 (D:DX)(n:Nat) (m:Nat) (K:Ex→St→Option (Out ctx 101)) (x0:List Int) (x1:Int) (x2:Int) (x3:List (Int×Int×Unit)×List Int×Int×Bool×Unit) :
 LQ qe D n 101 [.r,.r,.r,.l] (m+1) (qfr x0 x1 x2 x3) K=qg4 D n (fun x0 x1 x2 x3=>LQ qe D n 101 [.r,.r,.r,.l] m (qfr x0 x1 x2 x3) K) (fun v0_0=>K (Ex.exit 0) (qhu v0_0)) x0 x1 x2 x3:=by kernel_rfl
theorem qqz (D:DX)(n:Nat) (K:Ex→St→Option (Out ctx 101)):∀ (m:Nat) (x0:List Int) (x1:Int) (x2:Int) (x3:List (Int×Int×Unit)×List Int×Int×Bool×Unit),LQ qe D n 101 [.r,.r,.r,.l] m (qfr x0 x1 x2 x3) K=qc3 D n (fun v0_0=>K (Ex.exit 0) (qhu v0_0)) m x0 x1 x2 x3
 | 0,x0,x1,x2,x3=>qc1 ..
 | m+1,x0,x1,x2,x3=>by
  have ih:(fun x0 x1 x2 x3=>LQ qe D n 101 [.r,.r,.r,.l] m (qfr x0 x1 x2 x3) K)=qc3 D n (fun v0_0=>K (Ex.exit 0) (qhu v0_0)) m:=by funext x0 x1 x2 x3;exact qqz D n K m x0 x1 x2 x3
  rw[qx2]
  rw[ih];rfl
theorem qxq (D:DX)(n:Nat) (v0_0:List (Int×Int×Unit)×List Int×Int×Bool×Unit) :
 (CQ qe D n 101 [] [.r,.r,.r,.l] (qy qe 101)) (Ex.exit 0) (qhu v0_0)=qdf D n v0_0:=by kernel_rfl
theorem qxm (D:DX)(n:Nat) (x0:List Int) (x1:Int) (x2:Int) (x3:List (Int×Int×Unit)×List Int×Int×Bool×Unit) :
 LQ qe D n 101 [.r,.r,.r,.l] n (qfr x0 x1 x2 x3) (CQ qe D n 101 [] [.r,.r,.r,.l] (qy qe 101))=qgm D n x0 x1 x2 x3:=by
 rw[qqz]
 simp only[qxq]
 rfl
theorem q0z (D:DX)(n:Nat) (a0:List (Int×Int×Unit)×List Int×Int×Bool×Unit) (a1:Int) (a2:List Int):rfC qe D n 101 (a0,(a1,(a2,())))=qhr D n a0 a1 a2:=by
 have h:rfC qe D n 101 (a0,(a1,(a2,())))=qhs D n (fun x0 x1 x2 x3=>LQ qe D n 101 [.r,.r,.r,.l] n (qfr x0 x1 x2 x3) (CQ qe D n 101 [] [.r,.r,.r,.l] (qy qe 101))) a0 a1 a2:=by kernel_rfl
 rw[h]
 simp only[qxm]
 rfl
end
end Go.G


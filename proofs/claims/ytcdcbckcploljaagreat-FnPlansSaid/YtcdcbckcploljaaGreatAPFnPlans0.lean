import Derived.Test.YtcdcbckcploljaaGreatAV3
set_option linter.unusedVariables false
set_option linter.unusedSimpArgs false
set_option linter.unusedSectionVars false
namespace Go.G
open Go Go.V
abbrev DX:=Den ctx
abbrev tCur:=List Int×Int×Int×Unit
abbrev avI:=AV.val (Ty.int IntKind.i64)
abbrev yI:=Ty.int IntKind.i64
end Go.G
namespace Go.G
open Go Go.V
noncomputable def qyq (D:Den ctx) (a0:List Int):Option ((Bool×Unit)×Unit):=D 6 (a0,())
noncomputable def q0t (D:Den ctx) (a0:List Int):Option ((Bool×Unit)×Unit):=D 7 (a0,())
noncomputable def qpj (D:Den ctx) (a0:List Int):Option (((List Int×Int×Unit)×(Int×Int×Int×Unit)×List (Int×Int×Unit)×Unit)×Unit):=D 8 (a0,())
noncomputable def qub (D:Den ctx) (a0:Int×Int×Int×Unit) (a1:List (Int×Int×Unit)):Option (((Bool×(Int×List Int×Unit)×List (Int×Int×Int×Unit)×Unit)×Bool×Unit)×Unit):=D 9 (a0,(a1,()))
noncomputable def quk (D:Den ctx) (a0:Int×Int×Int×Unit) (a1:List (Int×Int×Unit)):Option (((Bool×(Int×List Int×Unit)×List (Int×Int×Int×Unit)×Unit)×Bool×Unit)×Unit):=D 10 (a0,(a1,()))
noncomputable def qeg (D:Den ctx) (a0:List (Int×Int×Unit)) (a1:Int):Option ((Int×Bool×Unit)×Unit):=D 15 (a0,(a1,()))
noncomputable def qdj (D:Den ctx) (a0:List (Int×Int×Unit)) (a1:Int):Option ((Int×Bool×Unit)×Unit):=D 16 (a0,(a1,()))
noncomputable def qth (D:Den ctx) (a0:Int×Int×Int×Unit) (a1:List (Int×Int×Unit)):Option ((Int×Unit)×Unit):=D 17 (a0,(a1,()))
noncomputable def qri (D:Den ctx) (a0:Bool×(Int×List Int×Unit)×List (Int×Int×Int×Unit)×Unit) (a1:Bool×(Int×List Int×Unit)×List (Int×Int×Int×Unit)×Unit):Option ((Bool×Unit)×Unit):=D 18 (a0,(a1,()))
noncomputable def qn9 (D:Den ctx) (a0:List Int×Int×Unit) (a1:Int×Int×Int×Unit) (a2:Int×List Int×Unit):Option ((Bool×Unit)×Unit):=D 19 (a0,(a1,(a2,())))
noncomputable def qqz (D:Den ctx) (a0:List Int×Int×Unit) (a1:Int×Int×Int×Unit) (a2:Int×List Int×Unit):Option (((List Int×Int×Unit)×Unit)×Unit):=D 20 (a0,(a1,(a2,())))
noncomputable def qm0 (D:Den ctx) (a0:List Int) (a1:List Int):Option ((Bool×Unit)×Unit):=D 21 (a0,(a1,()))
noncomputable def qrf (D:Den ctx) (a0:List Int×Int×Unit) (a1:Int):Option ((Int×Unit)×Unit):=D 22 (a0,(a1,()))
noncomputable def qmj (D:Den ctx) (a0:List Int×Int×Unit):Option ((Bool×Unit)×Unit):=D 23 (a0,())
noncomputable def qo2 (D:Den ctx) (a0:Int×Int×Int×Unit):Option ((Bool×Unit)×Unit):=D 24 (a0,())
noncomputable def qk3 (D:Den ctx) (a0:List Int×Int×Unit):Option ((List Int×Unit)×Unit):=D 25 (a0,())
noncomputable def qw9 (D:Den ctx) (a0:List Int):Option ((tCur×Unit)×Unit):=D 26 (a0,())
noncomputable def qnh (D:Den ctx) (a0:List Int×Int×Int×Unit):Option (((List Int×Int×Unit)×Unit)×tCur×Unit):=D 27 (a0,())
noncomputable def qnx (D:Den ctx) (a0:List Int×Int×Int×Unit):Option (((Int×Int×Int×Unit)×Unit)×tCur×Unit):=D 28 (a0,())
noncomputable def qrz (D:Den ctx) (a0:List Int×Int×Unit):Option ((List Int×Unit)×Unit):=D 29 (a0,())
noncomputable def qqh (D:Den ctx) (a0:Int×Int×Int×Unit) (a1:List (Int×Int×Unit)):Option (((List (Int×Int×Unit)×List Int×Int×Bool×Unit)×Unit)×Unit):=D 30 (a0,(a1,()))
noncomputable def que (D:Den ctx) (a0:Int×Int×Int×Unit) (a1:List (Int×Int×Unit)):Option (((Int×List Int×Unit)×Bool×Unit)×Unit):=D 31 (a0,(a1,()))
noncomputable def qbn (D:Den ctx):Option ((Int×Unit)×Unit):=D 32 ()
noncomputable def qcx (D:Den ctx) (a0:Int):Option ((Int×Unit)×Unit):=D 33 (a0,())
noncomputable def qn7 (D:Den ctx) (a0:Int×Int×Int×Unit) (a1:List (Int×Int×Unit)) (a2:Int) (a3:Int):Option ((List (Int×Int×Int×Unit)×Unit)×Unit):=D 34 (a0,(a1,(a2,(a3,()))))
noncomputable def qhn (D:Den ctx) (a0:List Int):Option (Unit×List Int×Unit):=D 35 (a0,())
noncomputable def qug (D:Den ctx) (a0:Int×Int×Int×Unit) (a1:Int) (a2:Int) (a3:Int) (a4:Int):Option ((Int×Unit)×Unit):=D 36 (a0,(a1,(a2,(a3,(a4,())))))
noncomputable def qcj (D:Den ctx) (a0:Int):Option ((Int×Unit)×Unit):=D 37 (a0,())
noncomputable def qtj (D:Den ctx) (a0:Int×Int×Int×Unit):Option ((Bool×Unit)×Unit):=D 38 (a0,())
noncomputable def qxg (D:Den ctx) (a0:Int×Int×Int×Unit) (a1:List (Int×Int×Unit)):Option (((Bool×(Int×List Int×Unit)×List (Int×Int×Int×Unit)×Unit)×Bool×Unit)×Unit):=D 39 (a0,(a1,()))
noncomputable def qb6 (D:Den ctx):Option ((Int×Unit)×Unit):=D 40 ()
noncomputable def qfq (D:Den ctx) (a0:List (Int×Int×Int×Unit)) (a1:List (Int×Int×Unit)) (a2:Int):Option ((List (Int×Int×Int×Unit)×Unit)×Unit):=D 41 (a0,(a1,(a2,())))
noncomputable def qcd (D:Den ctx) (a0:Int):Option ((Int×Unit)×Unit):=D 42 (a0,())
noncomputable def qbx (D:Den ctx) (a0:List (Int×Int×Int×Unit)) (a1:List (Int×Int×Unit)) (a2:Int) (a3:Int):Option ((List (Int×Int×Int×Unit)×Unit)×Unit):=D 43 (a0,(a1,(a2,(a3,()))))
noncomputable def qc8 (D:Den ctx) (a0:Int):Option ((Int×Unit)×Unit):=D 44 (a0,())
noncomputable def qp6 (D:Den ctx) (a0:Int×Int×Int×Unit) (a1:List (Int×Int×Unit)):Option ((List (Int×Int×Int×Unit)×Unit)×Unit):=D 45 (a0,(a1,()))
noncomputable def qdr (D:Den ctx) (a0:List Int×Int×Int×Unit) (a1:Int):Option ((Int×Unit)×tCur×Unit):=D 48 (a0,(a1,()))
noncomputable def qwb (D:Den ctx) (a0:Int×Int×Int×Unit) (a1:List (Int×Int×Unit)):Option (((List (Int×Int×Unit)×Int×Bool×Unit)×Unit)×Unit):=D 49 (a0,(a1,()))
noncomputable def qzv (D:Den ctx) (a0:Int×List Int×Unit) (a1:Int×List Int×Unit):Option ((Bool×Unit)×Unit):=D 50 (a0,(a1,()))
noncomputable def qn2 (D:Den ctx) (a0:List (Int×Int×Int×Unit)) (a1:List (Int×Int×Int×Unit)):Option ((Bool×Unit)×Unit):=D 51 (a0,(a1,()))
noncomputable def qy2 (D:Den ctx) (a0:List Int×Int×Unit) (a1:Int×Int×Int×Unit) (a2:Int):Option ((Bool×Unit)×Unit):=D 52 (a0,(a1,(a2,())))
noncomputable def qzg (D:Den ctx) (a0:List Int×Int×Unit) (a1:Int×Int×Int×Unit):Option ((List Int×Bool×Unit)×Unit):=D 53 (a0,(a1,()))
noncomputable def qj6 (D:Den ctx) (a0:List Int) (a1:List Int):Option ((Bool×Unit)×Unit):=D 54 (a0,(a1,()))
noncomputable def qqy (D:Den ctx) (a0:List Int×Int×Unit):Option (((List Int×Int×Unit)×Unit)×Unit):=D 55 (a0,())
noncomputable def qg4 (D:Den ctx) (a0:List Int) (a1:Int):Option ((Int×Unit)×Unit):=D 56 (a0,(a1,()))
noncomputable def qbw (D:Den ctx) (a0:Int):Option ((Bool×Unit)×Unit):=D 57 (a0,())
noncomputable def qh9 (D:Den ctx) (a0:List Int) (a1:Int):Option ((Bool×Unit)×Unit):=D 58 (a0,(a1,()))
noncomputable def qmp (D:Den ctx) (a0:Int) (a1:Int) (a2:Int):Option ((Bool×Unit)×Unit):=D 59 (a0,(a1,(a2,())))
noncomputable def qgf (D:Den ctx) (a0:Int):Option ((Bool×Unit)×Unit):=D 60 (a0,())
noncomputable def qdy (D:Den ctx) (a0:Int):Option ((Bool×Unit)×Unit):=D 61 (a0,())
noncomputable def qc4 (D:Den ctx) (a0:Int):Option ((Int×Unit)×Unit):=D 62 (a0,())
noncomputable def qc2 (D:Den ctx) (a0:Int):Option ((Int×Unit)×Unit):=D 63 (a0,())
noncomputable def qcn (D:Den ctx) (a0:Int):Option ((Int×Unit)×Unit):=D 64 (a0,())
noncomputable def qsn (D:Den ctx):Option (((List Int×Int×Unit)×Unit)×Unit):=D 65 ()
noncomputable def qqk (D:Den ctx) (a0:List Int×Int×Unit) (a1:Int):Option ((Int×Unit)×Unit):=D 66 (a0,(a1,()))
noncomputable def ql0 (D:Den ctx) (a0:List Int×Int×Int×Unit) (a1:List Int):Option ((Int×Unit)×tCur×Unit):=D 67 (a0,(a1,()))
noncomputable def qp7 (D:Den ctx) (a0:Int):Option ((Bool×Unit)×Unit):=D 68 (a0,())
noncomputable def qfm (D:Den ctx) (a0:Int):Option ((Bool×Unit)×Unit):=D 69 (a0,())
noncomputable def quc (D:Den ctx) (a0:List Int×Int×Unit):Option ((Bool×Unit)×Unit):=D 70 (a0,())
noncomputable def qce (D:Den ctx) (a0:Int):Option ((Int×Unit)×Unit):=D 71 (a0,())
noncomputable def qs6 (D:Den ctx) (a0:List Int×Int×Unit) (a1:Int):Option ((Int×Unit)×Unit):=D 72 (a0,(a1,()))
noncomputable def qeh (D:Den ctx) (a0:Int):Option ((Int×Unit)×Unit):=D 73 (a0,())
noncomputable def qcq (D:Den ctx) (a0:List (Int×Int×Unit)×List Int×Int×Bool×Unit) (a1:Int×Int×Int×Unit):Option (Unit×(List (Int×Int×Unit)×List Int×Int×Bool×Unit)×Unit):=D 74 (a0,(a1,()))
noncomputable def qk (D:Den ctx) (a0:List (Int×Int×Unit)×List Int×Int×Bool×Unit) (a1:Int):Option ((Int×Unit)×(List (Int×Int×Unit)×List Int×Int×Bool×Unit)×Unit):=D 75 (a0,(a1,()))
noncomputable def qz (D:Den ctx) (a0:List (Int×Int×Unit)×List Int×Int×Bool×Unit) (a1:Bool):Option (Unit×(List (Int×Int×Unit)×List Int×Int×Bool×Unit)×Unit):=D 76 (a0,(a1,()))
noncomputable def qjh (D:Den ctx) (a0:Bool) (a1:Int):Option ((Int×Unit)×Unit):=D 77 (a0,(a1,()))
noncomputable def qcr (D:Den ctx) (a0:Int) (a1:Int) (a2:Int) (a3:List (Int×Int×Unit)) (a4:List (Int×Int×Int×Unit)):Option (Unit×List (Int×Int×Int×Unit)×Unit):=D 78 (a0,(a1,(a2,(a3,(a4,())))))
noncomputable def qc7 (D:Den ctx) (a0:List (Int×Int×Int×Unit)) (a1:Clo):Option (Unit×List (Int×Int×Int×Unit)×Unit):=D 79 (a0,(a1,()))
noncomputable def qwd (D:Den ctx) (a0:Int×Int×Int×Unit) (a1:Int×Int×Int×Unit):Option ((Int×Unit)×Unit):=D 80 (a0,(a1,()))
noncomputable def qj (D:Den ctx) (a0:List Int) (a1:Int) (a2:Int) (a3:Int):Option (Unit×List Int×Unit):=D 81 (a0,(a1,(a2,(a3,()))))
noncomputable def qm5 (D:Den ctx) (a0:Int):Option ((Int×Unit)×Unit):=D 82 (a0,())
noncomputable def qey (D:Den ctx) (a0:Int) (a1:Int) (a2:Int):Option ((Bool×Unit)×Unit):=D 83 (a0,(a1,(a2,())))
noncomputable def qq7 (D:Den ctx) (a0:Int):Option ((Bool×Unit)×Unit):=D 84 (a0,())
noncomputable def qeu (D:Den ctx) (a0:Int):Option ((Bool×Unit)×Unit):=D 85 (a0,())
noncomputable def qb5 (D:Den ctx) (a0:Int):Option ((Int×Unit)×Unit):=D 86 (a0,())
noncomputable def qgn (D:Den ctx) (a0:List (Int×Int×Int×Unit)) (a1:List (Int×Int×Unit)) (a2:Int) (a3:Int):Option ((List (Int×Int×Int×Unit)×Unit)×Unit):=D 87 (a0,(a1,(a2,(a3,()))))
noncomputable def qh2 (D:Den ctx) (a0:List Int×Int×Int×Unit):Option ((Int×Unit)×tCur×Unit):=D 89 (a0,())
noncomputable def qv2 (D:Den ctx) (a0:List (Int×Int×Unit)×Int×Bool×Unit) (a1:Int×Int×Int×Unit):Option (Unit×(List (Int×Int×Unit)×Int×Bool×Unit)×Unit):=D 90 (a0,(a1,()))
noncomputable def qxd (D:Den ctx) (a0:List (Int×Int×Unit)×Int×Bool×Unit) (a1:Int×Int×Int×Unit):Option (Unit×(List (Int×Int×Unit)×Int×Bool×Unit)×Unit):=D 91 (a0,(a1,()))
noncomputable def qwh (D:Den ctx) (a0:List (Int×Int×Unit)×Int×Bool×Unit) (a1:Int×Int×Int×Unit):Option (Unit×(List (Int×Int×Unit)×Int×Bool×Unit)×Unit):=D 92 (a0,(a1,()))
noncomputable def q7 (D:Den ctx) (a0:List (Int×Int×Unit)×Int×Bool×Unit) (a1:Int):Option ((Int×Unit)×(List (Int×Int×Unit)×Int×Bool×Unit)×Unit):=D 93 (a0,(a1,()))
noncomputable def qur (D:Den ctx) (a0:List (Int×Int×Unit)×Int×Bool×Unit):Option (Unit×(List (Int×Int×Unit)×Int×Bool×Unit)×Unit):=D 94 (a0,())
noncomputable def qf6 (D:Den ctx) (a0:List (Int×Int×Unit)×Int×Bool×Unit) (a1:Bool):Option (Unit×(List (Int×Int×Unit)×Int×Bool×Unit)×Unit):=D 95 (a0,(a1,()))
noncomputable def qt7 (D:Den ctx) (a0:List Int) (a1:List Int):Option ((Bool×Unit)×Unit):=D 96 (a0,(a1,()))
noncomputable def qj4 (D:Den ctx) (a0:List Int×Int×Unit):Option ((Bool×Unit)×Unit):=D 97 (a0,())
noncomputable def qrq (D:Den ctx) (a0:List Int×Int×Unit) (a1:Int):Option ((Int×Unit)×Unit):=D 98 (a0,(a1,()))
noncomputable def qoz (D:Den ctx) (a0:List Int):Option ((List Int×Unit)×Unit):=D 99 (a0,())
noncomputable def qqn (D:Den ctx) (a0:Bool):Option ((Int×Unit)×Unit):=D 100 (a0,())
noncomputable def qes (D:Den ctx) (a0:List (Int×Int×Unit)×List Int×Int×Bool×Unit) (a1:Int) (a2:List Int):Option (Unit×(List (Int×Int×Unit)×List Int×Int×Bool×Unit)×Unit):=D 101 (a0,(a1,(a2,())))
noncomputable def qg (D:Den ctx) (a0:List (Int×Int×Int×Unit)) (a1:Int) (a2:Int) (a3:Int) (a4:Clo):Option (Unit×List (Int×Int×Int×Unit)×Unit):=D 102 (a0,(a1,(a2,(a3,(a4,())))))
noncomputable def qig (D:Den ctx) (a0:List Int) (a1:Int) (a2:Int):Option (Unit×List Int×Unit):=D 103 (a0,(a1,(a2,())))
noncomputable def qsl (D:Den ctx) (a0:List Int) (a1:Int) (a2:Int):Option (Unit×List Int×Unit):=D 104 (a0,(a1,(a2,())))
noncomputable def qou (D:Den ctx) (a0:List Int) (a1:Int) (a2:Int):Option (Unit×List Int×Unit):=D 105 (a0,(a1,(a2,())))
noncomputable def qi7 (D:Den ctx) (a0:List Int) (a1:Int) (a2:Int):Option ((Int×Int×Unit)×Unit):=D 106 (a0,(a1,(a2,())))
noncomputable def qi3 (D:Den ctx) (a0:List Int) (a1:Int) (a2:Int):Option (Unit×List Int×Unit):=D 107 (a0,(a1,(a2,())))
noncomputable def qcy (D:Den ctx) (a0:List Int) (a1:Int) (a2:Int):Option ((Bool×Unit)×List Int×Unit):=D 108 (a0,(a1,(a2,())))
noncomputable def qds (D:Den ctx) (a0:Int) (a1:Int):Option ((Bool×Unit)×Unit):=D 109 (a0,(a1,()))
noncomputable def qbp (D:Den ctx) (a0:List Int) (a1:Int) (a2:Int) (a3:Int):Option ((Int×Unit)×List Int×Unit):=D 110 (a0,(a1,(a2,(a3,()))))
noncomputable def qw (D:Den ctx) (a0:List Int) (a1:Int) (a2:Int) (a3:Int):Option ((Int×Bool×Unit)×List Int×Unit):=D 111 (a0,(a1,(a2,(a3,()))))
noncomputable def qu1 (D:Den ctx) (a0:Int):Option ((Int×Unit)×Unit):=D 113 (a0,())
noncomputable def qwf (D:Den ctx) (a0:Int) (a1:Int):Option ((Int×Unit)×Unit):=D 114 (a0,(a1,()))
noncomputable def qld (D:Den ctx) (a0:List (Int×Int×Unit)×Int×Bool×Unit) (a1:Int) (a2:List Int):Option (Unit×(List (Int×Int×Unit)×Int×Bool×Unit)×Unit):=D 115 (a0,(a1,(a2,())))
noncomputable def qf8 (D:Den ctx) (a0:List (Int×Int×Int×Unit)) (a1:Int) (a2:Int) (a3:Clo):Option (Unit×List (Int×Int×Int×Unit)×Unit):=D 116 (a0,(a1,(a2,(a3,()))))
noncomputable def qn8 (D:Den ctx) (a0:List (Int×Int×Int×Unit)) (a1:Int) (a2:Int) (a3:Clo):Option (Unit×List (Int×Int×Int×Unit)×Unit):=D 117 (a0,(a1,(a2,(a3,()))))
noncomputable def ql3 (D:Den ctx) (a0:List (Int×Int×Int×Unit)) (a1:Int) (a2:Int) (a3:Clo):Option (Unit×List (Int×Int×Int×Unit)×Unit):=D 118 (a0,(a1,(a2,(a3,()))))
noncomputable def qgq (D:Den ctx) (a0:List (Int×Int×Int×Unit)) (a1:Int) (a2:Int) (a3:Clo):Option ((Int×Int×Unit)×Unit):=D 119 (a0,(a1,(a2,(a3,()))))
noncomputable def qgl (D:Den ctx) (a0:List (Int×Int×Int×Unit)) (a1:Int) (a2:Int) (a3:Clo):Option (Unit×List (Int×Int×Int×Unit)×Unit):=D 120 (a0,(a1,(a2,(a3,()))))
noncomputable def qb8 (D:Den ctx) (a0:List (Int×Int×Int×Unit)) (a1:Int) (a2:Int) (a3:Clo):Option ((Bool×Unit)×List (Int×Int×Int×Unit)×Unit):=D 121 (a0,(a1,(a2,(a3,()))))
noncomputable def qbd (D:Den ctx) (a0:List (Int×Int×Int×Unit)) (a1:Int) (a2:Int) (a3:Int) (a4:Clo):Option ((Int×Unit)×List (Int×Int×Int×Unit)×Unit):=D 122 (a0,(a1,(a2,(a3,(a4,())))))
noncomputable def qp (D:Den ctx) (a0:List (Int×Int×Int×Unit)) (a1:Int) (a2:Int) (a3:Int) (a4:Clo):Option ((Int×Bool×Unit)×List (Int×Int×Int×Unit)×Unit):=D 123 (a0,(a1,(a2,(a3,(a4,())))))
noncomputable def qrg (D:Den ctx) (a0:Int):Option ((Bool×Unit)×Unit):=D 129 (a0,())
end Go.G

namespace Go.G
set_option maxRecDepth 100000
set_option maxHeartbeats 0
open Go Go.V
noncomputable section
def qqx (D:DX)(n:Nat) (go:Int→List Int×Int×Unit→Int×Int×Int×Unit→Bool×(Int×List Int×Unit)×List (Int×Int×Int×Unit)×Unit→List Int→Option ((Bool×Unit)×Unit)) (K0:Bool→List Int×Int×Unit→Int×Int×Int×Unit→Bool×(Int×List Int×Unit)×List (Int×Int×Int×Unit)×Unit→List Int→Option ((Bool×Unit)×Unit)) (K1:List Int×Int×Unit→Int×Int×Int×Unit→Bool×(Int×List Int×Unit)×List (Int×Int×Int×Unit)×Unit→List Int→Option ((Bool×Unit)×Unit)) (x0:Int) (x1:List Int×Int×Unit) (x2:Int×Int×Int×Unit) (x3:Bool×(Int×List Int×Unit)×List (Int×Int×Int×Unit)×Unit) (x4:List Int):Option ((Bool×Unit)×Unit):=br (decide (x0<(↑(List.length (Prod.fst (Prod.snd (Prod.snd x3)))):Int))) (br (decide (0≤x0)&&decide (x0<(↑(List.length (Prod.fst (Prod.snd (Prod.snd x3)))):Int))) (br (decide (0≤Prod.fst (List.getD (Prod.fst (Prod.snd (Prod.snd x3))) (Int.toNat x0) (0,0,0,())))&&decide (Prod.fst (List.getD (Prod.fst (Prod.snd (Prod.snd x3))) (Int.toNat x0) (0,0,0,()))<(↑(List.length x4):Int))) (br (List.getD x4 (Int.toNat (Prod.fst (List.getD (Prod.fst (Prod.snd (Prod.snd x3))) (Int.toNat x0) (0,0,0,())))) 0 != Prod.fst (Prod.snd (List.getD (Prod.fst (Prod.snd (Prod.snd x3))) (Int.toNat x0) (0,0,0,())))) (K0 false x1 x2 x3 x4) (br (decide (x0>0)) (br (decide (0≤IntKind.wrap IntKind.i64 (x0 - 1))&&decide (IntKind.wrap IntKind.i64 (x0 - 1)<(↑(List.length (Prod.fst (Prod.snd (Prod.snd x3)))):Int))) (br (decide (Prod.fst (List.getD (Prod.fst (Prod.snd (Prod.snd x3))) (Int.toNat (IntKind.wrap IntKind.i64 (x0 - 1))) (0,0,0,()))≥Prod.fst (List.getD (Prod.fst (Prod.snd (Prod.snd x3))) (Int.toNat x0) (0,0,0,())))) (K0 false x1 x2 x3 x4) (br (decide (0≤Prod.fst (List.getD (Prod.fst (Prod.snd (Prod.snd x3))) (Int.toNat x0) (0,0,0,())))&&decide (Prod.fst (List.getD (Prod.fst (Prod.snd (Prod.snd x3))) (Int.toNat x0) (0,0,0,()))<(↑(List.length x4):Int))) (go (IntKind.wrap IntKind.i64 (x0+1)) x1 x2 x3 (List.set x4 (Int.toNat (Prod.fst (List.getD (Prod.fst (Prod.snd (Prod.snd x3))) (Int.toNat x0) (0,0,0,())))) (Prod.fst (Prod.snd (Prod.snd (List.getD (Prod.fst (Prod.snd (Prod.snd x3))) (Int.toNat x0) (0,0,0,()))))))) none)) none) (br (decide (0≤Prod.fst (List.getD (Prod.fst (Prod.snd (Prod.snd x3))) (Int.toNat x0) (0,0,0,())))&&decide (Prod.fst (List.getD (Prod.fst (Prod.snd (Prod.snd x3))) (Int.toNat x0) (0,0,0,()))<(↑(List.length x4):Int))) (go (IntKind.wrap IntKind.i64 (x0+1)) x1 x2 x3 (List.set x4 (Int.toNat (Prod.fst (List.getD (Prod.fst (Prod.snd (Prod.snd x3))) (Int.toNat x0) (0,0,0,())))) (Prod.fst (Prod.snd (Prod.snd (List.getD (Prod.fst (Prod.snd (Prod.snd x3))) (Int.toNat x0) (0,0,0,()))))))) none))) none) none) (K1 x1 x2 x3 x4)
def qgc (D:DX)(n:Nat) (K0:Bool→List Int×Int×Unit→Int×Int×Int×Unit→Bool×(Int×List Int×Unit)×List (Int×Int×Int×Unit)×Unit→List Int→Option ((Bool×Unit)×Unit)) (K1:List Int×Int×Unit→Int×Int×Int×Unit→Bool×(Int×List Int×Unit)×List (Int×Int×Int×Unit)×Unit→List Int→Option ((Bool×Unit)×Unit)):Nat→(Int)→(List Int×Int×Unit)→(Int×Int×Int×Unit)→(Bool×(Int×List Int×Unit)×List (Int×Int×Int×Unit)×Unit)→(List Int)→Option ((Bool×Unit)×Unit) | 0=>(fun x0 x1 x2 x3 x4=>none) | m+1=>(fun x0 x1 x2 x3 x4=>qqx D n (qgc D n K0 K1 m) K0 K1 x0 x1 x2 x3 x4)
def qop (D:DX)(n:Nat) (v0_0:Bool) (v0_1:List Int×Int×Unit) (v0_2:Int×Int×Int×Unit) (v0_3:Bool×(Int×List Int×Unit)×List (Int×Int×Int×Unit)×Unit) (v0_4:List Int):Option ((Bool×Unit)×Unit):=some ((v0_0,()),())
def qkm (D:DX)(n:Nat) (v1_0:List Int×Int×Unit) (v1_1:Int×Int×Int×Unit) (v1_2:Bool×(Int×List Int×Unit)×List (Int×Int×Int×Unit)×Unit) (v1_3:List Int):Option ((Bool×Unit)×Unit):=qe (qqz D (Prod.fst v1_0,Prod.snd v1_0) v1_1 (Prod.fst (Prod.fst (Prod.snd v1_2)),Prod.fst (Prod.snd (Prod.fst (Prod.snd v1_2))),())) fun b↦qe (qk3 D (Prod.fst (Prod.fst (Prod.fst b)),Prod.snd (Prod.fst (Prod.fst b)))) fun b↦qe (qm0 D v1_3 (Prod.fst (Prod.fst b))) fun b↦some ((Prod.fst (Prod.fst b),()),())
def qpk (D:DX)(n:Nat):(Int)→(List Int×Int×Unit)→(Int×Int×Int×Unit)→(Bool×(Int×List Int×Unit)×List (Int×Int×Int×Unit)×Unit)→(List Int)→Option ((Bool×Unit)×Unit):=(fun x0 x1 x2 x3 x4=>qgc D n (fun v0_0 v0_1 v0_2 v0_3 v0_4=>qop D n v0_0 v0_1 v0_2 v0_3 v0_4) (fun v1_0 v1_1 v1_2 v1_3=>qkm D n v1_0 v1_1 v1_2 v1_3) n x0 x1 x2 x3 x4)
def qs2 (D:DX)(n:Nat) (lp0:Int→List Int×Int×Unit→Int×Int×Int×Unit→Bool×(Int×List Int×Unit)×List (Int×Int×Int×Unit)×Unit→List Int→Option ((Bool×Unit)×Unit)) (a0:List Int):Option ((Bool×Unit)×Unit):=qe (q0t D a0) fun b↦br (Prod.fst (Prod.fst b)) (some ((true,()),())) (qe (qpj D a0) fun b↦qe (qub D (Prod.fst (Prod.snd (Prod.fst b))) (Prod.fst (Prod.snd (Prod.snd (Prod.fst b))))) fun b_1↦qe (quk D (Prod.fst (Prod.snd (Prod.fst b))) (Prod.fst (Prod.snd (Prod.snd (Prod.fst b))))) fun b_2↦br (!decide (Prod.fst (Prod.snd (Prod.fst b_1))=Prod.fst (Prod.snd (Prod.fst b_2)))) (some ((false,()),())) (qe (qri D (Prod.fst (Prod.fst (Prod.fst b_1)),(Prod.fst (Prod.fst (Prod.snd (Prod.fst (Prod.fst b_1)))),Prod.fst (Prod.snd (Prod.fst (Prod.snd (Prod.fst (Prod.fst b_1))))),()),Prod.fst (Prod.snd (Prod.snd (Prod.fst (Prod.fst b_1)))),()) (Prod.fst (Prod.fst (Prod.fst b_2)),(Prod.fst (Prod.fst (Prod.snd (Prod.fst (Prod.fst b_2)))),Prod.fst (Prod.snd (Prod.fst (Prod.snd (Prod.fst (Prod.fst b_2))))),()),Prod.snd (Prod.snd (Prod.fst (Prod.fst b_2))))) fun b_3↦br (!Prod.fst (Prod.fst b_3)) (some ((false,()),())) (br (!Prod.fst (Prod.snd (Prod.fst b_1))) (some ((false,()),())) (qe (qmj D (Prod.fst (Prod.fst (Prod.fst b)),Prod.snd (Prod.fst (Prod.fst b)))) fun b_4↦br (!Prod.fst (Prod.fst b_4)) (some ((false,()),())) (qe (qo2 D (Prod.fst (Prod.snd (Prod.fst b)))) fun b_5↦br (!Prod.fst (Prod.fst b_5)) (some ((false,()),())) (qe (qn9 D (Prod.fst (Prod.fst (Prod.fst b)),Prod.snd (Prod.fst (Prod.fst b))) (Prod.fst (Prod.snd (Prod.fst b))) (Prod.fst (Prod.fst (Prod.snd (Prod.fst (Prod.fst b_1)))),Prod.fst (Prod.snd (Prod.fst (Prod.snd (Prod.fst (Prod.fst b_1))))),())) fun b_6↦br (!Prod.fst (Prod.fst b_6)) (some ((false,()),())) (qe (qk3 D (Prod.fst (Prod.fst (Prod.fst b)),Prod.snd (Prod.fst (Prod.fst b)))) fun b_7↦br (Prod.fst (Prod.fst (Prod.fst b_1))) (br (decide ((↑(List.length (Prod.fst (Prod.snd (Prod.snd (Prod.fst (Prod.fst b_1)))))):Int)=0)) (qe (qqz D (Prod.fst (Prod.fst (Prod.fst b)),Prod.snd (Prod.fst (Prod.fst b))) (Prod.fst (Prod.snd (Prod.fst b))) (Prod.fst (Prod.fst (Prod.snd (Prod.fst (Prod.fst b_1)))),Prod.fst (Prod.snd (Prod.fst (Prod.snd (Prod.fst (Prod.fst b_1))))),())) fun b↦qe (qk3 D (Prod.fst (Prod.fst (Prod.fst b)),Prod.snd (Prod.fst (Prod.fst b)))) fun b↦qe (qm0 D (Prod.fst (Prod.fst b)) (Prod.fst (Prod.fst b_7))) fun b↦some ((Prod.fst (Prod.fst b),()),())) (some ((false,()),()))) (lp0 0 (Prod.fst (Prod.fst (Prod.fst b)),Prod.snd (Prod.fst (Prod.fst b))) (Prod.fst (Prod.snd (Prod.fst b))) (Prod.fst (Prod.fst (Prod.fst b_1)),(Prod.fst (Prod.fst (Prod.snd (Prod.fst (Prod.fst b_1)))),Prod.fst (Prod.snd (Prod.fst (Prod.snd (Prod.fst (Prod.fst b_1))))),()),Prod.fst (Prod.snd (Prod.snd (Prod.fst (Prod.fst b_1)))),()) (Prod.fst (Prod.fst b_7))))))))))
def qtb (D:DX)(n:Nat) (a0:List Int):Option ((Bool×Unit)×Unit):=qs2 D n (qpk D n) a0
def qhf (x0:Int) (x1:List Int×Int×Unit) (x2:Int×Int×Int×Unit) (x3:Bool×(Int×List Int×Unit)×List (Int×Int×Int×Unit)×Unit) (x4:List Int):St:=stq 128 [(3,AV.addr 3 []),(4,AV.addr 4 []),(6,AV.addr 6 []),(10,AV.brw 10 [] 0),(11,avI x0)] [(3,Root.mk (Ty.pair (Ty.sl yI) (Ty.pair yI Ty.unit)) (Mk.pr (Mk.own 0 Mk.no) Mk.no) x1 true),(4,Root.mk (Ty.pair yI (Ty.pair yI (Ty.pair yI Ty.unit))) Mk.no x2 true),(6,Root.mk (Ty.pair Ty.bool (Ty.pair (Ty.pair yI (Ty.pair (Ty.sl yI) Ty.unit)) (Ty.pair (Ty.sl (Ty.pair yI (Ty.pair yI (Ty.pair yI Ty.unit)))) Ty.unit))) (Mk.pr Mk.no (Mk.pr (Mk.pr Mk.no (Mk.pr (Mk.own 0 Mk.no) Mk.no)) (Mk.pr (Mk.own 0 Mk.no) Mk.no))) x3 true),(10,Root.mk (Ty.sl yI) (Mk.own 0 Mk.no) x4 false)] 
def qkj (v0_0:Bool) (v0_1:List Int×Int×Unit) (v0_2:Int×Int×Int×Unit) (v0_3:Bool×(Int×List Int×Unit)×List (Int×Int×Int×Unit)×Unit) (v0_4:List Int):St:=stq 128 [(2,AV.val Ty.bool v0_0),(3,AV.addr 3 []),(4,AV.addr 4 []),(6,AV.addr 6 []),(10,AV.brw 10 [] 0)] [(3,Root.mk (Ty.pair (Ty.sl yI) (Ty.pair yI Ty.unit)) (Mk.pr (Mk.own 0 Mk.no) Mk.no) v0_1 true),(4,Root.mk (Ty.pair yI (Ty.pair yI (Ty.pair yI Ty.unit))) Mk.no v0_2 true),(6,Root.mk (Ty.pair Ty.bool (Ty.pair (Ty.pair yI (Ty.pair (Ty.sl yI) Ty.unit)) (Ty.pair (Ty.sl (Ty.pair yI (Ty.pair yI (Ty.pair yI Ty.unit)))) Ty.unit))) (Mk.pr Mk.no (Mk.pr (Mk.pr Mk.no (Mk.pr (Mk.own 0 Mk.no) Mk.no)) (Mk.pr (Mk.own 0 Mk.no) Mk.no))) v0_3 true),(10,Root.mk (Ty.sl yI) (Mk.own 0 Mk.no) v0_4 false)] 
def qkt (v1_0:List Int×Int×Unit) (v1_1:Int×Int×Int×Unit) (v1_2:Bool×(Int×List Int×Unit)×List (Int×Int×Int×Unit)×Unit) (v1_3:List Int):St:=stq 128 [(3,AV.addr 3 []),(4,AV.addr 4 []),(6,AV.addr 6 []),(10,AV.brw 10 [] 0)] [(3,Root.mk (Ty.pair (Ty.sl yI) (Ty.pair yI Ty.unit)) (Mk.pr (Mk.own 0 Mk.no) Mk.no) v1_0 true),(4,Root.mk (Ty.pair yI (Ty.pair yI (Ty.pair yI Ty.unit))) Mk.no v1_1 true),(6,Root.mk (Ty.pair Ty.bool (Ty.pair (Ty.pair yI (Ty.pair (Ty.sl yI) Ty.unit)) (Ty.pair (Ty.sl (Ty.pair yI (Ty.pair yI (Ty.pair yI Ty.unit)))) Ty.unit))) (Mk.pr Mk.no (Mk.pr (Mk.pr Mk.no (Mk.pr (Mk.own 0 Mk.no) Mk.no)) (Mk.pr (Mk.own 0 Mk.no) Mk.no))) v1_2 true),(10,Root.mk (Ty.sl yI) (Mk.own 0 Mk.no) v1_3 false)] 
theorem q5i (D:DX)(n:Nat) (m:Nat) (K:Ex→St→Option (Out ctx 6)) (x0:Int) (x1:List Int×Int×Unit) (x2:Int×Int×Int×Unit) (x3:Bool×(Int×List Int×Unit)×List (Int×Int×Int×Unit)×Unit) (x4:List Int) :
 LQ qd D n 6 [.r,.r,.r,.r,.r,.r,.r,.r,.r,.r,.l,.r,.l] (m+1) (qhf x0 x1 x2 x3 x4) K=qqx D n (fun x0 x1 x2 x3 x4=>LQ qd D n 6 [.r,.r,.r,.r,.r,.r,.r,.r,.r,.r,.l,.r,.l] m (qhf x0 x1 x2 x3 x4) K) (fun v0_0 v0_1 v0_2 v0_3 v0_4=>K (Ex.ret) (qkj v0_0 v0_1 v0_2 v0_3 v0_4)) (fun v1_0 v1_1 v1_2 v1_3=>K (Ex.exit 0) (qkt v1_0 v1_1 v1_2 v1_3)) x0 x1 x2 x3 x4:=by kernel_rfl
theorem qwm (D:DX)(n:Nat) (K:Ex→St→Option (Out ctx 6)):∀ (m:Nat) (x0:Int) (x1:List Int×Int×Unit) (x2:Int×Int×Int×Unit) (x3:Bool×(Int×List Int×Unit)×List (Int×Int×Int×Unit)×Unit) (x4:List Int),LQ qd D n 6 [.r,.r,.r,.r,.r,.r,.r,.r,.r,.r,.l,.r,.l] m (qhf x0 x1 x2 x3 x4) K=qgc D n (fun v0_0 v0_1 v0_2 v0_3 v0_4=>K (Ex.ret) (qkj v0_0 v0_1 v0_2 v0_3 v0_4)) (fun v1_0 v1_1 v1_2 v1_3=>K (Ex.exit 0) (qkt v1_0 v1_1 v1_2 v1_3)) m x0 x1 x2 x3 x4
 | 0,x0,x1,x2,x3,x4=>qcb ..
 | m+1,x0,x1,x2,x3,x4=>by
  have ih:(fun x0 x1 x2 x3 x4=>LQ qd D n 6 [.r,.r,.r,.r,.r,.r,.r,.r,.r,.r,.l,.r,.l] m (qhf x0 x1 x2 x3 x4) K)=qgc D n (fun v0_0 v0_1 v0_2 v0_3 v0_4=>K (Ex.ret) (qkj v0_0 v0_1 v0_2 v0_3 v0_4)) (fun v1_0 v1_1 v1_2 v1_3=>K (Ex.exit 0) (qkt v1_0 v1_1 v1_2 v1_3)) m:=by funext x0 x1 x2 x3 x4;exact qwm D n K m x0 x1 x2 x3 x4
  rw[q5i]
  rw[ih];rfl
theorem q3l (D:DX)(n:Nat) (v0_0:Bool) (v0_1:List Int×Int×Unit) (v0_2:Int×Int×Int×Unit) (v0_3:Bool×(Int×List Int×Unit)×List (Int×Int×Int×Unit)×Unit) (v0_4:List Int) :
 (CQ qd D n 6 [] [.r,.r,.r,.r,.r,.r,.r,.r,.r,.r,.l,.r,.l] (qu qd 6)) (Ex.ret) (qkj v0_0 v0_1 v0_2 v0_3 v0_4)=qop D n v0_0 v0_1 v0_2 v0_3 v0_4:=by kernel_rfl
theorem q3h (D:DX)(n:Nat) (v1_0:List Int×Int×Unit) (v1_1:Int×Int×Int×Unit) (v1_2:Bool×(Int×List Int×Unit)×List (Int×Int×Int×Unit)×Unit) (v1_3:List Int) :
 (CQ qd D n 6 [] [.r,.r,.r,.r,.r,.r,.r,.r,.r,.r,.l,.r,.l] (qu qd 6)) (Ex.exit 0) (qkt v1_0 v1_1 v1_2 v1_3)=qkm D n v1_0 v1_1 v1_2 v1_3:=by kernel_rfl
theorem q3b (D:DX)(n:Nat) (x0:Int) (x1:List Int×Int×Unit) (x2:Int×Int×Int×Unit) (x3:Bool×(Int×List Int×Unit)×List (Int×Int×Int×Unit)×Unit) (x4:List Int) :
 LQ qd D n 6 [.r,.r,.r,.r,.r,.r,.r,.r,.r,.r,.l,.r,.l] n (qhf x0 x1 x2 x3 x4) (CQ qd D n 6 [] [.r,.r,.r,.r,.r,.r,.r,.r,.r,.r,.l,.r,.l] (qu qd 6))=qpk D n x0 x1 x2 x3 x4:=by
 rw[qwm]
 simp only[q3l,q3h]
 rfl
theorem q7i (D:DX)(n:Nat) (a0:List Int):rfC qd D n 6 (a0,())=qtb D n a0:=by
 have h:rfC qd D n 6 (a0,())=qs2 D n (fun x0 x1 x2 x3 x4=>LQ qd D n 6 [.r,.r,.r,.r,.r,.r,.r,.r,.r,.r,.l,.r,.l] n (qhf x0 x1 x2 x3 x4) (CQ qd D n 6 [] [.r,.r,.r,.r,.r,.r,.r,.r,.r,.r,.l,.r,.l] (qu qd 6))) a0:=by kernel_rfl
 rw[h]
 simp only[q3b]
 rfl

def qbgj (D:DX)(n:Nat) (a0:List Int):Option ((Bool×Unit)×Unit):=some ((decide ((↑(List.length a0):Int)>1048576),()),())
def q55 (D:DX)(n:Nat) (a0:List Int):Option ((Bool×Unit)×Unit):=qbgj D n a0
theorem qbg9 (D:DX)(n:Nat) (a0:List Int):rfC qd D n 7 (a0,())=q55 D n a0:=by kernel_rfl

def qor (D:DX)(n:Nat) (go:Int→List Int×Int×Unit→Int×Int×Int×Unit→List Int×Int×Unit→Int×Int×Int×Unit→List Int→List (Int×Int×Unit)→Option (((List Int×Int×Unit)×(Int×Int×Int×Unit)×List (Int×Int×Unit)×Unit)×Unit)) (K0:List Int×Int×Unit→Int×Int×Int×Unit→List Int×Int×Unit→Int×Int×Int×Unit→List (Int×Int×Unit)→Option (((List Int×Int×Unit)×(Int×Int×Int×Unit)×List (Int×Int×Unit)×Unit)×Unit)) (x0:Int) (x1:List Int×Int×Unit) (x2:Int×Int×Int×Unit) (x3:List Int×Int×Unit) (x4:Int×Int×Int×Unit) (x5:List Int) (x6:List (Int×Int×Unit)):Option (((List Int×Int×Unit)×(Int×Int×Int×Unit)×List (Int×Int×Unit)×Unit)×Unit):=br (decide (x0<12)) (qe (qth D x4 x6) fun b↦br (decide (Prod.fst (Prod.fst b)<0)) (K0 x1 x2 x3 x4 x6) (br (decide (0≤Prod.fst (Prod.fst b))&&decide (Prod.fst (Prod.fst b)<(↑(List.length x5):Int))) (br (decide (List.length x6+1≤qeq)) (go (IntKind.wrap IntKind.i64 (x0+1)) x1 x2 x3 x4 x5 (x6++[(Prod.fst (Prod.fst b),List.getD x5 (Int.toNat (Prod.fst (Prod.fst b))) 0,())])) none) none)) (K0 x1 x2 x3 x4 x6)
def qgj (D:DX)(n:Nat) (K0:List Int×Int×Unit→Int×Int×Int×Unit→List Int×Int×Unit→Int×Int×Int×Unit→List (Int×Int×Unit)→Option (((List Int×Int×Unit)×(Int×Int×Int×Unit)×List (Int×Int×Unit)×Unit)×Unit)):Nat→(Int)→(List Int×Int×Unit)→(Int×Int×Int×Unit)→(List Int×Int×Unit)→(Int×Int×Int×Unit)→(List Int)→(List (Int×Int×Unit))→Option (((List Int×Int×Unit)×(Int×Int×Int×Unit)×List (Int×Int×Unit)×Unit)×Unit) | 0=>(fun x0 x1 x2 x3 x4 x5 x6=>none) | m+1=>(fun x0 x1 x2 x3 x4 x5 x6=>qor D n (qgj D n K0 m) K0 x0 x1 x2 x3 x4 x5 x6)
def qms (D:DX)(n:Nat) (v0_0:List Int×Int×Unit) (v0_1:Int×Int×Int×Unit) (v0_2:List Int×Int×Unit) (v0_3:Int×Int×Int×Unit) (v0_4:List (Int×Int×Unit)):Option (((List Int×Int×Unit)×(Int×Int×Int×Unit)×List (Int×Int×Unit)×Unit)×Unit):=some (((Prod.fst v0_2,Prod.snd v0_2),v0_3,v0_4,()),())
def qns (D:DX)(n:Nat):(Int)→(List Int×Int×Unit)→(Int×Int×Int×Unit)→(List Int×Int×Unit)→(Int×Int×Int×Unit)→(List Int)→(List (Int×Int×Unit))→Option (((List Int×Int×Unit)×(Int×Int×Int×Unit)×List (Int×Int×Unit)×Unit)×Unit):=(fun x0 x1 x2 x3 x4 x5 x6=>qgj D n (fun v0_0 v0_1 v0_2 v0_3 v0_4=>qms D n v0_0 v0_1 v0_2 v0_3 v0_4) n x0 x1 x2 x3 x4 x5 x6)
def qpt (D:DX)(n:Nat) (lp0:Int→List Int×Int×Unit→Int×Int×Int×Unit→List Int×Int×Unit→Int×Int×Int×Unit→List Int→List (Int×Int×Unit)→Option (((List Int×Int×Unit)×(Int×Int×Int×Unit)×List (Int×Int×Unit)×Unit)×Unit)) (a0:List Int):Option (((List Int×Int×Unit)×(Int×Int×Int×Unit)×List (Int×Int×Unit)×Unit)×Unit):=qe (qw9 D a0) fun b↦qe (qnh D (Prod.fst (Prod.fst b))) fun b↦qe (qnx D (Prod.fst (Prod.snd b))) fun b_1↦qe (qrz D (Prod.fst (Prod.fst (Prod.fst b)),Prod.snd (Prod.fst (Prod.fst b)))) fun b_2↦lp0 0 ([],0,()) (0,0,0,()) (Prod.fst (Prod.fst (Prod.fst b)),Prod.snd (Prod.fst (Prod.fst b))) (Prod.fst (Prod.fst b_1)) (Prod.fst (Prod.fst b_2)) []
def qpm (D:DX)(n:Nat) (a0:List Int):Option (((List Int×Int×Unit)×(Int×Int×Int×Unit)×List (Int×Int×Unit)×Unit)×Unit):=qpt D n (qns D n) a0
def qgh (x0:Int) (x1:List Int×Int×Unit) (x2:Int×Int×Int×Unit) (x3:List Int×Int×Unit) (x4:Int×Int×Int×Unit) (x5:List Int) (x6:List (Int×Int×Unit)):St:=stq 42 [(2,AV.addr 2 []),(3,AV.addr 3 []),(6,AV.addr 6 []),(7,AV.addr 7 []),(8,AV.brw 8 [] 0),(9,AV.brw 9 [] 0),(10,avI x0)] [(2,Root.mk (Ty.pair (Ty.sl yI) (Ty.pair yI Ty.unit)) (Mk.pr (Mk.own 0 Mk.no) Mk.no) x1 true),(3,Root.mk (Ty.pair yI (Ty.pair yI (Ty.pair yI Ty.unit))) Mk.no x2 true),(6,Root.mk (Ty.pair (Ty.sl yI) (Ty.pair yI Ty.unit)) (Mk.pr (Mk.own 0 Mk.no) Mk.no) x3 true),(7,Root.mk (Ty.pair yI (Ty.pair yI (Ty.pair yI Ty.unit))) Mk.no x4 true),(8,Root.mk (Ty.sl yI) (Mk.own 0 Mk.no) x5 false),(9,Root.mk (Ty.sl (Ty.pair yI (Ty.pair yI Ty.unit))) (Mk.own 0 Mk.no) x6 false)] 
def qi6 (v0_0:List Int×Int×Unit) (v0_1:Int×Int×Int×Unit) (v0_2:List Int×Int×Unit) (v0_3:Int×Int×Int×Unit) (v0_4:List (Int×Int×Unit)):St:=stq 42 [(2,AV.addr 2 []),(3,AV.addr 3 []),(6,AV.addr 6 []),(7,AV.addr 7 []),(9,AV.brw 9 [] 0)] [(2,Root.mk (Ty.pair (Ty.sl yI) (Ty.pair yI Ty.unit)) (Mk.pr (Mk.own 0 Mk.no) Mk.no) v0_0 true),(3,Root.mk (Ty.pair yI (Ty.pair yI (Ty.pair yI Ty.unit))) Mk.no v0_1 true),(6,Root.mk (Ty.pair (Ty.sl yI) (Ty.pair yI Ty.unit)) (Mk.pr (Mk.own 0 Mk.no) Mk.no) v0_2 true),(7,Root.mk (Ty.pair yI (Ty.pair yI (Ty.pair yI Ty.unit))) Mk.no v0_3 true),(9,Root.mk (Ty.sl (Ty.pair yI (Ty.pair yI Ty.unit))) (Mk.own 0 Mk.no) v0_4 false)] 
theorem q16 (D:DX)(n:Nat) (m:Nat) (K:Ex→St→Option (Out ctx 8)) (x0:Int) (x1:List Int×Int×Unit) (x2:Int×Int×Int×Unit) (x3:List Int×Int×Unit) (x4:Int×Int×Int×Unit) (x5:List Int) (x6:List (Int×Int×Unit)) :
 LQ qd D n 8 [.r,.r,.r,.r,.r,.r,.l,.r,.l] (m+1) (qgh x0 x1 x2 x3 x4 x5 x6) K=qor D n (fun x0 x1 x2 x3 x4 x5 x6=>LQ qd D n 8 [.r,.r,.r,.r,.r,.r,.l,.r,.l] m (qgh x0 x1 x2 x3 x4 x5 x6) K) (fun v0_0 v0_1 v0_2 v0_3 v0_4=>K (Ex.exit 0) (qi6 v0_0 v0_1 v0_2 v0_3 v0_4)) x0 x1 x2 x3 x4 x5 x6:=by kernel_rfl
theorem qt2 (D:DX)(n:Nat) (K:Ex→St→Option (Out ctx 8)):∀ (m:Nat) (x0:Int) (x1:List Int×Int×Unit) (x2:Int×Int×Int×Unit) (x3:List Int×Int×Unit) (x4:Int×Int×Int×Unit) (x5:List Int) (x6:List (Int×Int×Unit)),LQ qd D n 8 [.r,.r,.r,.r,.r,.r,.l,.r,.l] m (qgh x0 x1 x2 x3 x4 x5 x6) K=qgj D n (fun v0_0 v0_1 v0_2 v0_3 v0_4=>K (Ex.exit 0) (qi6 v0_0 v0_1 v0_2 v0_3 v0_4)) m x0 x1 x2 x3 x4 x5 x6
 | 0,x0,x1,x2,x3,x4,x5,x6=>qcb ..
 | m+1,x0,x1,x2,x3,x4,x5,x6=>by
  have ih:(fun x0 x1 x2 x3 x4 x5 x6=>LQ qd D n 8 [.r,.r,.r,.r,.r,.r,.l,.r,.l] m (qgh x0 x1 x2 x3 x4 x5 x6) K)=qgj D n (fun v0_0 v0_1 v0_2 v0_3 v0_4=>K (Ex.exit 0) (qi6 v0_0 v0_1 v0_2 v0_3 v0_4)) m:=by funext x0 x1 x2 x3 x4 x5 x6;exact qt2 D n K m x0 x1 x2 x3 x4 x5 x6
  rw[q16]
  rw[ih];rfl
theorem q1a (D:DX)(n:Nat) (v0_0:List Int×Int×Unit) (v0_1:Int×Int×Int×Unit) (v0_2:List Int×Int×Unit) (v0_3:Int×Int×Int×Unit) (v0_4:List (Int×Int×Unit)) :
 (CQ qd D n 8 [] [.r,.r,.r,.r,.r,.r,.l,.r,.l] (qu qd 8)) (Ex.exit 0) (qi6 v0_0 v0_1 v0_2 v0_3 v0_4)=qms D n v0_0 v0_1 v0_2 v0_3 v0_4:=by kernel_rfl
theorem q07 (D:DX)(n:Nat) (x0:Int) (x1:List Int×Int×Unit) (x2:Int×Int×Int×Unit) (x3:List Int×Int×Unit) (x4:Int×Int×Int×Unit) (x5:List Int) (x6:List (Int×Int×Unit)) :
 LQ qd D n 8 [.r,.r,.r,.r,.r,.r,.l,.r,.l] n (qgh x0 x1 x2 x3 x4 x5 x6) (CQ qd D n 8 [] [.r,.r,.r,.r,.r,.r,.l,.r,.l] (qu qd 8))=qns D n x0 x1 x2 x3 x4 x5 x6:=by
 rw[qt2]
 simp only[q1a]
 rfl
theorem q5d (D:DX)(n:Nat) (a0:List Int):rfC qd D n 8 (a0,())=qpm D n a0:=by
 have h:rfC qd D n 8 (a0,())=qpt D n (fun x0 x1 x2 x3 x4 x5 x6=>LQ qd D n 8 [.r,.r,.r,.r,.r,.r,.l,.r,.l] n (qgh x0 x1 x2 x3 x4 x5 x6) (CQ qd D n 8 [] [.r,.r,.r,.r,.r,.r,.l,.r,.l] (qu qd 8))) a0:=by kernel_rfl
 rw[h]
 simp only[q07]
 rfl

def qs3 (D:DX)(n:Nat) (go:List (Int×Int×Unit)→Int→Int→Int→Int→Int×Int×Int×Unit→Bool×(Int×List Int×Unit)×List (Int×Int×Int×Unit)×Unit→Bool×(Int×List Int×Unit)×List (Int×Int×Int×Unit)×Unit→List (Int×Int×Unit)×List Int×Int×Bool×Unit→Option (((Bool×(Int×List Int×Unit)×List (Int×Int×Int×Unit)×Unit)×Bool×Unit)×Unit)) (K0:List (Int×Int×Unit)→Int×Int×Int×Unit→Bool×(Int×List Int×Unit)×List (Int×Int×Int×Unit)×Unit→Bool×(Int×List Int×Unit)×List (Int×Int×Int×Unit)×Unit→Option (((Bool×(Int×List Int×Unit)×List (Int×Int×Int×Unit)×Unit)×Bool×Unit)×Unit)) (x0:List (Int×Int×Unit)) (x1:Int) (x2:Int) (x3:Int) (x4:Int) (x5:Int×Int×Int×Unit) (x6:Bool×(Int×List Int×Unit)×List (Int×Int×Int×Unit)×Unit) (x7:Bool×(Int×List Int×Unit)×List (Int×Int×Int×Unit)×Unit) (x8:List (Int×Int×Unit)×List Int×Int×Bool×Unit):Option (((Bool×(Int×List Int×Unit)×List (Int×Int×Int×Unit)×Unit)×Bool×Unit)×Unit):=br (decide (x4<x3)) (br (decide (0≤x4)&&decide (x4<(↑(List.length (Prod.fst (Prod.snd x8))):Int))) (qe (qeg D x0 (List.getD (Prod.fst (Prod.snd x8)) (Int.toNat x4) 0)) fun b↦qe (qug D x5 (List.getD (Prod.fst (Prod.snd x8)) (Int.toNat x4) 0) (Prod.fst (Prod.fst b)) x2 x1) fun b_1↦br (decide (List.length (Prod.fst (Prod.snd (Prod.snd x7)))+1≤qeq)) (br (decide (Prod.fst x5=7)) (br (decide (List.length (Prod.fst (Prod.snd (Prod.fst (Prod.snd x7))))+1≤qeq)) (go x0 x1 x2 x3 (IntKind.wrap IntKind.i64 (x4+1)) x5 x6 (Prod.fst x7,(Prod.fst (Prod.fst (Prod.snd x7)),Prod.fst (Prod.snd (Prod.fst (Prod.snd x7)))++[Prod.fst (Prod.fst b)],Prod.snd (Prod.snd (Prod.fst (Prod.snd x7)))),Prod.fst (Prod.snd (Prod.snd x7))++[(List.getD (Prod.fst (Prod.snd x8)) (Int.toNat x4) 0,Prod.fst (Prod.fst b),Prod.fst (Prod.fst b_1),())],Prod.snd (Prod.snd (Prod.snd x7))) x8) none) (go x0 x1 x2 x3 (IntKind.wrap IntKind.i64 (x4+1)) x5 x6 (Prod.fst x7,Prod.fst (Prod.snd x7),Prod.fst (Prod.snd (Prod.snd x7))++[(List.getD (Prod.fst (Prod.snd x8)) (Int.toNat x4) 0,Prod.fst (Prod.fst b),Prod.fst (Prod.fst b_1),())],Prod.snd (Prod.snd (Prod.snd x7))) x8)) none) none) (K0 x0 x5 x6 x7)
def qgz (D:DX)(n:Nat) (K0:List (Int×Int×Unit)→Int×Int×Int×Unit→Bool×(Int×List Int×Unit)×List (Int×Int×Int×Unit)×Unit→Bool×(Int×List Int×Unit)×List (Int×Int×Int×Unit)×Unit→Option (((Bool×(Int×List Int×Unit)×List (Int×Int×Int×Unit)×Unit)×Bool×Unit)×Unit)):Nat→(List (Int×Int×Unit))→(Int)→(Int)→(Int)→(Int)→(Int×Int×Int×Unit)→(Bool×(Int×List Int×Unit)×List (Int×Int×Int×Unit)×Unit)→(Bool×(Int×List Int×Unit)×List (Int×Int×Int×Unit)×Unit)→(List (Int×Int×Unit)×List Int×Int×Bool×Unit)→Option (((Bool×(Int×List Int×Unit)×List (Int×Int×Int×Unit)×Unit)×Bool×Unit)×Unit) | 0=>(fun x0 x1 x2 x3 x4 x5 x6 x7 x8=>none) | m+1=>(fun x0 x1 x2 x3 x4 x5 x6 x7 x8=>qs3 D n (qgz D n K0 m) K0 x0 x1 x2 x3 x4 x5 x6 x7 x8)
def qgx (D:DX)(n:Nat) (v0_0:List (Int×Int×Unit)) (v0_1:Int×Int×Int×Unit) (v0_2:Bool×(Int×List Int×Unit)×List (Int×Int×Int×Unit)×Unit) (v0_3:Bool×(Int×List Int×Unit)×List (Int×Int×Int×Unit)×Unit):Option (((Bool×(Int×List Int×Unit)×List (Int×Int×Int×Unit)×Unit)×Bool×Unit)×Unit):=br (decide (Prod.fst v0_1=10)) (qe (qcj D (Prod.fst (Prod.snd (Prod.snd v0_1)))) fun b↦qe (qeg D v0_0 (Prod.fst (Prod.fst b))) fun b↦br (Prod.fst (Prod.fst b) != 0) (some (((Prod.fst v0_3,(0,[IntKind.wrap IntKind.i64 (Prod.fst (Prod.fst b) - 1)],()),Prod.fst (Prod.snd (Prod.snd v0_3)),()),true,()),())) (some (((Prod.fst v0_3,(3,Prod.fst (Prod.snd (Prod.fst (Prod.snd v0_3))),()),Prod.fst (Prod.snd (Prod.snd v0_3)),()),true,()),()))) (some (((Prod.fst v0_3,(Prod.fst (Prod.fst (Prod.snd v0_3)),Prod.fst (Prod.snd (Prod.fst (Prod.snd v0_3))),()),Prod.fst (Prod.snd (Prod.snd v0_3)),()),true,()),()))
def qre (D:DX)(n:Nat):(List (Int×Int×Unit))→(Int)→(Int)→(Int)→(Int)→(Int×Int×Int×Unit)→(Bool×(Int×List Int×Unit)×List (Int×Int×Int×Unit)×Unit)→(Bool×(Int×List Int×Unit)×List (Int×Int×Int×Unit)×Unit)→(List (Int×Int×Unit)×List Int×Int×Bool×Unit)→Option (((Bool×(Int×List Int×Unit)×List (Int×Int×Int×Unit)×Unit)×Bool×Unit)×Unit):=(fun x0 x1 x2 x3 x4 x5 x6 x7 x8=>qgz D n (fun v0_0 v0_1 v0_2 v0_3=>qgx D n v0_0 v0_1 v0_2 v0_3) n x0 x1 x2 x3 x4 x5 x6 x7 x8)
def qux (D:DX)(n:Nat) (lp0:List (Int×Int×Unit)→Int→Int→Int→Int→Int×Int×Int×Unit→Bool×(Int×List Int×Unit)×List (Int×Int×Int×Unit)×Unit→Bool×(Int×List Int×Unit)×List (Int×Int×Int×Unit)×Unit→List (Int×Int×Unit)×List Int×Int×Bool×Unit→Option (((Bool×(Int×List Int×Unit)×List (Int×Int×Int×Unit)×Unit)×Bool×Unit)×Unit)) (a0:Int×Int×Int×Unit) (a1:List (Int×Int×Unit)):Option (((Bool×(Int×List Int×Unit)×List (Int×Int×Int×Unit)×Unit)×Bool×Unit)×Unit):=qe (qo2 D a0) fun b↦br (!Prod.fst (Prod.fst b)) (some (((false,(0,[],()),[],()),false,()),())) (qe (qqh D a0 a1) fun b↦br (decide (Prod.fst (Prod.snd (Prod.snd (Prod.fst (Prod.fst b))))≥0)) (some (((false,(0,[],()),[],()),false,()),())) (qe (que D a0 a1) fun b_1↦br (Prod.fst (Prod.snd (Prod.fst b_1))) (some (((true,(Prod.fst (Prod.fst (Prod.fst b_1)),Prod.fst (Prod.snd (Prod.fst (Prod.fst b_1))),()),[],()),true,()),())) (qe (qbn D) fun b_2↦qe (qeg D a1 (Prod.fst (Prod.fst b_2))) fun b_3↦qe (qcx D (Prod.fst (Prod.snd a0))) fun b_4↦qe (qeg D a1 (Prod.fst (Prod.fst b_4))) fun b_5↦br (decide (Prod.fst a0=9)) (qe (qcx D (IntKind.wrap IntKind.i64 (Prod.fst (Prod.fst b_3) - 1))) fun b_6↦qe (qeg D a1 (Prod.fst (Prod.fst b_6))) fun b_7↦br (bif bif decide (Prod.fst a0=1) then true else decide (Prod.fst a0=2) then true else decide (Prod.fst a0=3)) (qe (qn7 D a0 a1 (Prod.fst (Prod.fst b_7)) (Prod.fst (Prod.fst b_3))) fun b↦some (((false,(0,[],()),Prod.fst (Prod.fst b),()),true,()),())) (qe (qhn D (Prod.fst (Prod.snd (Prod.fst (Prod.fst b))))) fun b_8↦lp0 a1 (Prod.fst (Prod.fst b_3)) (Prod.fst (Prod.fst b_7)) (↑(List.length (Prod.fst (Prod.snd b_8))):Int) 0 a0 (false,(0,[],()),[],()) (false,(0,[],()),[],()) (Prod.fst (Prod.fst (Prod.fst b)),Prod.fst (Prod.snd b_8),Prod.snd (Prod.snd (Prod.fst (Prod.fst b)))))) (br (bif bif decide (Prod.fst a0=1) then true else decide (Prod.fst a0=2) then true else decide (Prod.fst a0=3)) (qe (qn7 D a0 a1 (Prod.fst (Prod.fst b_5)) (Prod.fst (Prod.fst b_3))) fun b↦some (((false,(0,[],()),Prod.fst (Prod.fst b),()),true,()),())) (qe (qhn D (Prod.fst (Prod.snd (Prod.fst (Prod.fst b))))) fun b_6↦lp0 a1 (Prod.fst (Prod.fst b_3)) (Prod.fst (Prod.fst b_5)) (↑(List.length (Prod.fst (Prod.snd b_6))):Int) 0 a0 (false,(0,[],()),[],()) (false,(0,[],()),[],()) (Prod.fst (Prod.fst (Prod.fst b)),Prod.fst (Prod.snd b_6),Prod.snd (Prod.snd (Prod.fst (Prod.fst b)))))))))
def qul (D:DX)(n:Nat) (a0:Int×Int×Int×Unit) (a1:List (Int×Int×Unit)):Option (((Bool×(Int×List Int×Unit)×List (Int×Int×Int×Unit)×Unit)×Bool×Unit)×Unit):=qux D n (qre D n) a0 a1
def qik (x0:List (Int×Int×Unit)) (x1:Int) (x2:Int) (x3:Int) (x4:Int) (x5:Int×Int×Int×Unit) (x6:Bool×(Int×List Int×Unit)×List (Int×Int×Int×Unit)×Unit) (x7:Bool×(Int×List Int×Unit)×List (Int×Int×Int×Unit)×Unit) (x8:List (Int×Int×Unit)×List Int×Int×Bool×Unit):St:=stq 154 [(1,AV.val (Ty.sl (Ty.pair yI (Ty.pair yI Ty.unit))) x0),(2,AV.addr 2 []),(4,AV.addr 4 []),(9,avI x1),(11,avI x2),(13,AV.addr 13 []),(95,AV.brw 26 [Stp.snd,Stp.fst] 0),(96,avI x3),(97,avI x4)] [(2,Root.mk (Ty.pair yI (Ty.pair yI (Ty.pair yI Ty.unit))) Mk.no x5 true),(4,Root.mk (Ty.pair Ty.bool (Ty.pair (Ty.pair yI (Ty.pair (Ty.sl yI) Ty.unit)) (Ty.pair (Ty.sl (Ty.pair yI (Ty.pair yI (Ty.pair yI Ty.unit)))) Ty.unit))) (Mk.pr Mk.no (Mk.pr (Mk.pr Mk.no (Mk.pr (Mk.own 0 Mk.no) Mk.no)) (Mk.pr (Mk.own 0 Mk.no) Mk.no))) x6 true),(13,Root.mk (Ty.pair Ty.bool (Ty.pair (Ty.pair yI (Ty.pair (Ty.sl yI) Ty.unit)) (Ty.pair (Ty.sl (Ty.pair yI (Ty.pair yI (Ty.pair yI Ty.unit)))) Ty.unit))) (Mk.pr Mk.no (Mk.pr (Mk.pr Mk.no (Mk.pr (Mk.own 0 Mk.no) Mk.no)) (Mk.pr (Mk.own 0 Mk.no) Mk.no))) x7 true),(26,Root.mk (Ty.pair (Ty.sl (Ty.pair yI (Ty.pair yI Ty.unit))) (Ty.pair (Ty.sl yI) (Ty.pair yI (Ty.pair Ty.bool Ty.unit)))) (Mk.pr Mk.no (Mk.pr (Mk.own 0 Mk.no) Mk.no)) x8 true)] 
def ql7 (v0_0:List (Int×Int×Unit)) (v0_1:Int×Int×Int×Unit) (v0_2:Bool×(Int×List Int×Unit)×List (Int×Int×Int×Unit)×Unit) (v0_3:Bool×(Int×List Int×Unit)×List (Int×Int×Int×Unit)×Unit):St:=stq 154 [(1,AV.val (Ty.sl (Ty.pair yI (Ty.pair yI Ty.unit))) v0_0),(2,AV.addr 2 []),(4,AV.addr 4 []),(13,AV.addr 13 [])] [(2,Root.mk (Ty.pair yI (Ty.pair yI (Ty.pair yI Ty.unit))) Mk.no v0_1 true),(4,Root.mk (Ty.pair Ty.bool (Ty.pair (Ty.pair yI (Ty.pair (Ty.sl yI) Ty.unit)) (Ty.pair (Ty.sl (Ty.pair yI (Ty.pair yI (Ty.pair yI Ty.unit)))) Ty.unit))) (Mk.pr Mk.no (Mk.pr (Mk.pr Mk.no (Mk.pr (Mk.own 0 Mk.no) Mk.no)) (Mk.pr (Mk.own 0 Mk.no) Mk.no))) v0_2 true),(13,Root.mk (Ty.pair Ty.bool (Ty.pair (Ty.pair yI (Ty.pair (Ty.sl yI) Ty.unit)) (Ty.pair (Ty.sl (Ty.pair yI (Ty.pair yI (Ty.pair yI Ty.unit)))) Ty.unit))) (Mk.pr Mk.no (Mk.pr (Mk.pr Mk.no (Mk.pr (Mk.own 0 Mk.no) Mk.no)) (Mk.pr (Mk.own 0 Mk.no) Mk.no))) v0_3 true)] 
theorem q6w (D:DX)(n:Nat) (m:Nat) (K:Ex→St→Option (Out ctx 9)) (x0:List (Int×Int×Unit)) (x1:Int) (x2:Int) (x3:Int) (x4:Int) (x5:Int×Int×Int×Unit) (x6:Bool×(Int×List Int×Unit)×List (Int×Int×Int×Unit)×Unit) (x7:Bool×(Int×List Int×Unit)×List (Int×Int×Int×Unit)×Unit) (x8:List (Int×Int×Unit)×List Int×Int×Bool×Unit) :
 LQ qd D n 9 [.r,.r,.r,.r,.r,.r,.r,.r,.r,.r,.r,.l,.r,.l] (m+1) (qik x0 x1 x2 x3 x4 x5 x6 x7 x8) K=qs3 D n (fun x0 x1 x2 x3 x4 x5 x6 x7 x8=>LQ qd D n 9 [.r,.r,.r,.r,.r,.r,.r,.r,.r,.r,.r,.l,.r,.l] m (qik x0 x1 x2 x3 x4 x5 x6 x7 x8) K) (fun v0_0 v0_1 v0_2 v0_3=>K (Ex.exit 0) (ql7 v0_0 v0_1 v0_2 v0_3)) x0 x1 x2 x3 x4 x5 x6 x7 x8:=by kernel_rfl
theorem qxm (D:DX)(n:Nat) (K:Ex→St→Option (Out ctx 9)):∀ (m:Nat) (x0:List (Int×Int×Unit)) (x1:Int) (x2:Int) (x3:Int) (x4:Int) (x5:Int×Int×Int×Unit) (x6:Bool×(Int×List Int×Unit)×List (Int×Int×Int×Unit)×Unit) (x7:Bool×(Int×List Int×Unit)×List (Int×Int×Int×Unit)×Unit) (x8:List (Int×Int×Unit)×List Int×Int×Bool×Unit),LQ qd D n 9 [.r,.r,.r,.r,.r,.r,.r,.r,.r,.r,.r,.l,.r,.l] m (qik x0 x1 x2 x3 x4 x5 x6 x7 x8) K=qgz D n (fun v0_0 v0_1 v0_2 v0_3=>K (Ex.exit 0) (ql7 v0_0 v0_1 v0_2 v0_3)) m x0 x1 x2 x3 x4 x5 x6 x7 x8
 | 0,x0,x1,x2,x3,x4,x5,x6,x7,x8=>qcb ..
 | m+1,x0,x1,x2,x3,x4,x5,x6,x7,x8=>by
  have ih:(fun x0 x1 x2 x3 x4 x5 x6 x7 x8=>LQ qd D n 9 [.r,.r,.r,.r,.r,.r,.r,.r,.r,.r,.r,.l,.r,.l] m (qik x0 x1 x2 x3 x4 x5 x6 x7 x8) K)=qgz D n (fun v0_0 v0_1 v0_2 v0_3=>K (Ex.exit 0) (ql7 v0_0 v0_1 v0_2 v0_3)) m:=by funext x0 x1 x2 x3 x4 x5 x6 x7 x8;exact qxm D n K m x0 x1 x2 x3 x4 x5 x6 x7 x8
  rw[q6w]
  rw[ih];rfl
theorem q5l (D:DX)(n:Nat) (v0_0:List (Int×Int×Unit)) (v0_1:Int×Int×Int×Unit) (v0_2:Bool×(Int×List Int×Unit)×List (Int×Int×Int×Unit)×Unit) (v0_3:Bool×(Int×List Int×Unit)×List (Int×Int×Int×Unit)×Unit) :
 (CQ qd D n 9 [] [.r,.r,.r,.r,.r,.r,.r,.r,.r,.r,.r,.l,.r,.l] (qu qd 9)) (Ex.exit 0) (ql7 v0_0 v0_1 v0_2 v0_3)=qgx D n v0_0 v0_1 v0_2 v0_3:=by kernel_rfl
theorem q4f (D:DX)(n:Nat) (x0:List (Int×Int×Unit)) (x1:Int) (x2:Int) (x3:Int) (x4:Int) (x5:Int×Int×Int×Unit) (x6:Bool×(Int×List Int×Unit)×List (Int×Int×Int×Unit)×Unit) (x7:Bool×(Int×List Int×Unit)×List (Int×Int×Int×Unit)×Unit) (x8:List (Int×Int×Unit)×List Int×Int×Bool×Unit) :
 LQ qd D n 9 [.r,.r,.r,.r,.r,.r,.r,.r,.r,.r,.r,.l,.r,.l] n (qik x0 x1 x2 x3 x4 x5 x6 x7 x8) (CQ qd D n 9 [] [.r,.r,.r,.r,.r,.r,.r,.r,.r,.r,.r,.l,.r,.l] (qu qd 9))=qre D n x0 x1 x2 x3 x4 x5 x6 x7 x8:=by
 rw[qxm]
 simp only[q5l]
 rfl
theorem qbav (D:DX)(n:Nat) (a0:Int×Int×Int×Unit) (a1:List (Int×Int×Unit)):rfC qd D n 9 (a0,(a1,()))=qul D n a0 a1:=by
 have h:rfC qd D n 9 (a0,(a1,()))=qux D n (fun x0 x1 x2 x3 x4 x5 x6 x7 x8=>LQ qd D n 9 [.r,.r,.r,.r,.r,.r,.r,.r,.r,.r,.r,.l,.r,.l] n (qik x0 x1 x2 x3 x4 x5 x6 x7 x8) (CQ qd D n 9 [] [.r,.r,.r,.r,.r,.r,.r,.r,.r,.r,.r,.l,.r,.l] (qu qd 9))) a0 a1:=by kernel_rfl
 rw[h]
 simp only[q4f]
 rfl

def qlb (D:DX)(n:Nat) (go:List (Int×Int×Unit)→Int→Bool×(Int×List Int×Unit)×List (Int×Int×Int×Unit)×Unit→Bool×(Int×List Int×Unit)×List (Int×Int×Int×Unit)×Unit→Option (((Bool×(Int×List Int×Unit)×List (Int×Int×Int×Unit)×Unit)×Bool×Unit)×Unit)) (K0:Bool×(Int×List Int×Unit)×List (Int×Int×Int×Unit)×Unit→Bool×(Int×List Int×Unit)×List (Int×Int×Int×Unit)×Unit→Option (((Bool×(Int×List Int×Unit)×List (Int×Int×Int×Unit)×Unit)×Bool×Unit)×Unit)) (x0:List (Int×Int×Unit)) (x1:Int) (x2:Bool×(Int×List Int×Unit)×List (Int×Int×Int×Unit)×Unit) (x3:Bool×(Int×List Int×Unit)×List (Int×Int×Int×Unit)×Unit):Option (((Bool×(Int×List Int×Unit)×List (Int×Int×Int×Unit)×Unit)×Bool×Unit)×Unit):=br (decide (x1<4)) (qe (qcd D x1) fun b↦qe (qfq D (Prod.fst (Prod.snd (Prod.snd x3))) x0 (Prod.fst (Prod.fst b))) fun b↦qe (qcd D x1) fun b_1↦qe (qdj D x0 (Prod.fst (Prod.fst b_1))) fun b_2↦br (decide (List.length (Prod.fst (Prod.snd (Prod.fst (Prod.snd x3))))+1≤qeq)) (go x0 (IntKind.wrap IntKind.i64 (x1+1)) x2 (Prod.fst x3,(Prod.fst (Prod.fst (Prod.snd x3)),Prod.fst (Prod.snd (Prod.fst (Prod.snd x3)))++[Prod.fst (Prod.fst b_2)],Prod.snd (Prod.snd (Prod.fst (Prod.snd x3)))),Prod.fst (Prod.fst b),Prod.snd (Prod.snd (Prod.snd x3)))) none) (K0 x2 x3)
def qc5 (D:DX)(n:Nat) (K0:Bool×(Int×List Int×Unit)×List (Int×Int×Int×Unit)×Unit→Bool×(Int×List Int×Unit)×List (Int×Int×Int×Unit)×Unit→Option (((Bool×(Int×List Int×Unit)×List (Int×Int×Int×Unit)×Unit)×Bool×Unit)×Unit)):Nat→(List (Int×Int×Unit))→(Int)→(Bool×(Int×List Int×Unit)×List (Int×Int×Int×Unit)×Unit)→(Bool×(Int×List Int×Unit)×List (Int×Int×Int×Unit)×Unit)→Option (((Bool×(Int×List Int×Unit)×List (Int×Int×Int×Unit)×Unit)×Bool×Unit)×Unit) | 0=>(fun x0 x1 x2 x3=>none) | m+1=>(fun x0 x1 x2 x3=>qlb D n (qc5 D n K0 m) K0 x0 x1 x2 x3)
def qpd (D:DX)(n:Nat) (v0_0:Bool×(Int×List Int×Unit)×List (Int×Int×Int×Unit)×Unit) (v0_1:Bool×(Int×List Int×Unit)×List (Int×Int×Int×Unit)×Unit):Option (((Bool×(Int×List Int×Unit)×List (Int×Int×Int×Unit)×Unit)×Bool×Unit)×Unit):=some (((Prod.fst v0_1,(Prod.fst (Prod.fst (Prod.snd v0_1)),Prod.fst (Prod.snd (Prod.fst (Prod.snd v0_1))),()),Prod.snd (Prod.snd v0_1)),true,()),())
def qp4 (D:DX)(n:Nat):(List (Int×Int×Unit))→(Int)→(Bool×(Int×List Int×Unit)×List (Int×Int×Int×Unit)×Unit)→(Bool×(Int×List Int×Unit)×List (Int×Int×Int×Unit)×Unit)→Option (((Bool×(Int×List Int×Unit)×List (Int×Int×Int×Unit)×Unit)×Bool×Unit)×Unit):=(fun x0 x1 x2 x3=>qc5 D n (fun v0_0 v0_1=>qpd D n v0_0 v0_1) n x0 x1 x2 x3)
def quf (D:DX)(n:Nat) (lp0:List (Int×Int×Unit)→Int→Bool×(Int×List Int×Unit)×List (Int×Int×Int×Unit)×Unit→Bool×(Int×List Int×Unit)×List (Int×Int×Int×Unit)×Unit→Option (((Bool×(Int×List Int×Unit)×List (Int×Int×Int×Unit)×Unit)×Bool×Unit)×Unit)) (a0:Int×Int×Int×Unit) (a1:List (Int×Int×Unit)):Option (((Bool×(Int×List Int×Unit)×List (Int×Int×Int×Unit)×Unit)×Bool×Unit)×Unit):=qe (qtj D a0) fun b↦br (!Prod.fst (Prod.fst b)) (some (((false,(0,[],()),[],()),false,()),())) (qe (qth D a0 a1) fun b↦br (Prod.fst (Prod.fst b) != -1) (some (((false,(0,[],()),[],()),false,()),())) (qe (qxg D a0 a1) fun b↦br (Prod.fst (Prod.snd (Prod.fst b))) (some (((Prod.fst (Prod.fst (Prod.fst b)),(Prod.fst (Prod.fst (Prod.snd (Prod.fst (Prod.fst b)))),Prod.fst (Prod.snd (Prod.fst (Prod.snd (Prod.fst (Prod.fst b))))),()),Prod.fst (Prod.snd (Prod.snd (Prod.fst (Prod.fst b)))),()),true,()),())) (qe (qb6 D) fun b↦qe (qdj D a1 (Prod.fst (Prod.fst b))) fun b↦br (decide (Prod.fst a0=7)) (lp0 a1 0 (false,(0,[],()),[],()) (false,(0,[],()),[],())) (br (decide (Prod.fst a0=8)) (qe (qb6 D) fun b↦qe (qbx D [] a1 (Prod.fst (Prod.fst b)) 1) fun b↦some (((false,(0,[],()),Prod.fst (Prod.fst b),()),true,()),())) (br (decide (Prod.fst a0=9)) (qe (qcd D (IntKind.wrap IntKind.i64 (Prod.fst (Prod.fst b) - 1))) fun b_1↦qe (qdj D a1 (Prod.fst (Prod.fst b_1))) fun b_2↦qe (qb6 D) fun b_3↦qe (qbx D [] a1 (Prod.fst (Prod.fst b_3)) (IntKind.wrap IntKind.i64 (Prod.fst (Prod.fst b)+1))) fun b_4↦qe (qcd D (IntKind.wrap IntKind.i64 (Prod.fst (Prod.fst b) - 1))) fun b_5↦qe (qfq D (Prod.fst (Prod.fst b_4)) a1 (Prod.fst (Prod.fst b_5))) fun b_6↦qe (qc8 D (Prod.fst (Prod.fst b_2))) fun b_7↦qe (qbx D (Prod.fst (Prod.fst b_6)) a1 (Prod.fst (Prod.fst b_7)) (Prod.fst (Prod.fst b))) fun b↦some (((false,(0,[],()),Prod.fst (Prod.fst b),()),true,()),())) (br (decide (Prod.fst a0=10)) (qe (qb6 D) fun b↦qe (qfq D [] a1 (Prod.fst (Prod.fst b))) fun b↦qe (qc8 D (Prod.fst (Prod.snd (Prod.snd a0)))) fun b_1↦qe (qfq D (Prod.fst (Prod.fst b)) a1 (Prod.fst (Prod.fst b_1))) fun b↦qe (qc8 D (Prod.fst (Prod.snd (Prod.snd a0)))) fun b_2↦qe (qdj D a1 (Prod.fst (Prod.fst b_2))) fun b_3↦br (decide (Prod.fst (Prod.fst b_3)=0)) (some (((false,(3,[],()),Prod.fst (Prod.fst b),()),true,()),())) (some (((false,(0,[IntKind.wrap IntKind.i64 (Prod.fst (Prod.fst b_3) - 1)],()),Prod.fst (Prod.fst b),()),true,()),()))) (qe (qp6 D a0 a1) fun b↦some (((false,(0,[],()),Prod.fst (Prod.fst b),()),true,()),()))))))))
def quu (D:DX)(n:Nat) (a0:Int×Int×Int×Unit) (a1:List (Int×Int×Unit)):Option (((Bool×(Int×List Int×Unit)×List (Int×Int×Int×Unit)×Unit)×Bool×Unit)×Unit):=quf D n (qp4 D n) a0 a1
def qit (x0:List (Int×Int×Unit)) (x1:Int) (x2:Bool×(Int×List Int×Unit)×List (Int×Int×Int×Unit)×Unit) (x3:Bool×(Int×List Int×Unit)×List (Int×Int×Int×Unit)×Unit):St:=stq 150 [(1,AV.val (Ty.sl (Ty.pair yI (Ty.pair yI Ty.unit))) x0),(4,AV.addr 4 []),(8,AV.addr 8 []),(11,avI x1)] [(4,Root.mk (Ty.pair Ty.bool (Ty.pair (Ty.pair yI (Ty.pair (Ty.sl yI) Ty.unit)) (Ty.pair (Ty.sl (Ty.pair yI (Ty.pair yI (Ty.pair yI Ty.unit)))) Ty.unit))) (Mk.pr Mk.no (Mk.pr (Mk.pr Mk.no (Mk.pr (Mk.own 0 Mk.no) Mk.no)) (Mk.pr (Mk.own 0 Mk.no) Mk.no))) x2 true),(8,Root.mk (Ty.pair Ty.bool (Ty.pair (Ty.pair yI (Ty.pair (Ty.sl yI) Ty.unit)) (Ty.pair (Ty.sl (Ty.pair yI (Ty.pair yI (Ty.pair yI Ty.unit)))) Ty.unit))) (Mk.pr Mk.no (Mk.pr (Mk.pr Mk.no (Mk.pr (Mk.own 0 Mk.no) Mk.no)) Mk.no)) x3 true)] 
def ql8 (v0_0:Bool×(Int×List Int×Unit)×List (Int×Int×Int×Unit)×Unit) (v0_1:Bool×(Int×List Int×Unit)×List (Int×Int×Int×Unit)×Unit):St:=stq 150 [(4,AV.addr 4 []),(8,AV.addr 8 [])] [(4,Root.mk (Ty.pair Ty.bool (Ty.pair (Ty.pair yI (Ty.pair (Ty.sl yI) Ty.unit)) (Ty.pair (Ty.sl (Ty.pair yI (Ty.pair yI (Ty.pair yI Ty.unit)))) Ty.unit))) (Mk.pr Mk.no (Mk.pr (Mk.pr Mk.no (Mk.pr (Mk.own 0 Mk.no) Mk.no)) (Mk.pr (Mk.own 0 Mk.no) Mk.no))) v0_0 true),(8,Root.mk (Ty.pair Ty.bool (Ty.pair (Ty.pair yI (Ty.pair (Ty.sl yI) Ty.unit)) (Ty.pair (Ty.sl (Ty.pair yI (Ty.pair yI (Ty.pair yI Ty.unit)))) Ty.unit))) (Mk.pr Mk.no (Mk.pr (Mk.pr Mk.no (Mk.pr (Mk.own 0 Mk.no) Mk.no)) Mk.no)) v0_1 true)] 
theorem q7d (D:DX)(n:Nat) (m:Nat) (K:Ex→St→Option (Out ctx 10)) (x0:List (Int×Int×Unit)) (x1:Int) (x2:Bool×(Int×List Int×Unit)×List (Int×Int×Int×Unit)×Unit) (x3:Bool×(Int×List Int×Unit)×List (Int×Int×Int×Unit)×Unit) :
 LQ qd D n 10 [.r,.r,.r,.r,.r,.r,.l,.r,.l,.r,.l,.r,.l] (m+1) (qit x0 x1 x2 x3) K=qlb D n (fun x0 x1 x2 x3=>LQ qd D n 10 [.r,.r,.r,.r,.r,.r,.l,.r,.l,.r,.l,.r,.l] m (qit x0 x1 x2 x3) K) (fun v0_0 v0_1=>K (Ex.exit 1) (ql8 v0_0 v0_1)) x0 x1 x2 x3:=by kernel_rfl
theorem qxh (D:DX)(n:Nat) (K:Ex→St→Option (Out ctx 10)):∀ (m:Nat) (x0:List (Int×Int×Unit)) (x1:Int) (x2:Bool×(Int×List Int×Unit)×List (Int×Int×Int×Unit)×Unit) (x3:Bool×(Int×List Int×Unit)×List (Int×Int×Int×Unit)×Unit),LQ qd D n 10 [.r,.r,.r,.r,.r,.r,.l,.r,.l,.r,.l,.r,.l] m (qit x0 x1 x2 x3) K=qc5 D n (fun v0_0 v0_1=>K (Ex.exit 1) (ql8 v0_0 v0_1)) m x0 x1 x2 x3
 | 0,x0,x1,x2,x3=>qcb ..
 | m+1,x0,x1,x2,x3=>by
  have ih:(fun x0 x1 x2 x3=>LQ qd D n 10 [.r,.r,.r,.r,.r,.r,.l,.r,.l,.r,.l,.r,.l] m (qit x0 x1 x2 x3) K)=qc5 D n (fun v0_0 v0_1=>K (Ex.exit 1) (ql8 v0_0 v0_1)) m:=by funext x0 x1 x2 x3;exact qxh D n K m x0 x1 x2 x3
  rw[q7d]
  rw[ih];rfl
theorem q4v (D:DX)(n:Nat) (v0_0:Bool×(Int×List Int×Unit)×List (Int×Int×Int×Unit)×Unit) (v0_1:Bool×(Int×List Int×Unit)×List (Int×Int×Int×Unit)×Unit) :
 (CQ qd D n 10 [] [.r,.r,.r,.r,.r,.r,.l,.r,.l,.r,.l,.r,.l] (qu qd 10)) (Ex.exit 1) (ql8 v0_0 v0_1)=qpd D n v0_0 v0_1:=by kernel_rfl
theorem q4s (D:DX)(n:Nat) (x0:List (Int×Int×Unit)) (x1:Int) (x2:Bool×(Int×List Int×Unit)×List (Int×Int×Int×Unit)×Unit) (x3:Bool×(Int×List Int×Unit)×List (Int×Int×Int×Unit)×Unit) :
 LQ qd D n 10 [.r,.r,.r,.r,.r,.r,.l,.r,.l,.r,.l,.r,.l] n (qit x0 x1 x2 x3) (CQ qd D n 10 [] [.r,.r,.r,.r,.r,.r,.l,.r,.l,.r,.l,.r,.l] (qu qd 10))=qp4 D n x0 x1 x2 x3:=by
 rw[qxh]
 simp only[q4v]
 rfl
theorem qba0 (D:DX)(n:Nat) (a0:Int×Int×Int×Unit) (a1:List (Int×Int×Unit)):rfC qd D n 10 (a0,(a1,()))=quu D n a0 a1:=by
 have h:rfC qd D n 10 (a0,(a1,()))=quf D n (fun x0 x1 x2 x3=>LQ qd D n 10 [.r,.r,.r,.r,.r,.r,.l,.r,.l,.r,.l,.r,.l] n (qit x0 x1 x2 x3) (CQ qd D n 10 [] [.r,.r,.r,.r,.r,.r,.l,.r,.l,.r,.l,.r,.l] (qu qd 10))) a0 a1:=by kernel_rfl
 rw[h]
 simp only[q4s]
 rfl





def qwz (D:DX)(n:Nat) (go:List (Int×Int×Unit)→Int→Int→Option ((Int×Bool×Unit)×Unit)) (K0:Int→Bool→Option ((Int×Bool×Unit)×Unit)) (K1:Option ((Int×Bool×Unit)×Unit)) (x0:List (Int×Int×Unit)) (x1:Int) (x2:Int):Option ((Int×Bool×Unit)×Unit):=br (decide (x2≥0)) (br (decide (0≤x2)&&decide (x2<(↑(List.length x0):Int))) (br (decide (Prod.fst (List.getD x0 (Int.toNat x2) (0,0,()))=x1)) (br (decide (0≤x2)&&decide (x2<(↑(List.length x0):Int))) (K0 (Prod.fst (Prod.snd (List.getD x0 (Int.toNat x2) (0,0,())))) true) none) (go x0 x1 (IntKind.wrap IntKind.i64 (x2 - 1)))) none) K1
def qk0 (D:DX)(n:Nat) (K0:Int→Bool→Option ((Int×Bool×Unit)×Unit)) (K1:Option ((Int×Bool×Unit)×Unit)):Nat→(List (Int×Int×Unit))→(Int)→(Int)→Option ((Int×Bool×Unit)×Unit) | 0=>(fun x0 x1 x2=>none) | m+1=>(fun x0 x1 x2=>qwz D n (qk0 D n K0 K1 m) K0 K1 x0 x1 x2)
def qrt (D:DX)(n:Nat) (v0_0:Int) (v0_1:Bool):Option ((Int×Bool×Unit)×Unit):=some ((v0_0,v0_1,()),())
def qr6 (D:DX)(n:Nat):Option ((Int×Bool×Unit)×Unit):=some ((0,false,()),())
def quy (D:DX)(n:Nat):(List (Int×Int×Unit))→(Int)→(Int)→Option ((Int×Bool×Unit)×Unit):=(fun x0 x1 x2=>qk0 D n (fun v0_0 v0_1=>qrt D n v0_0 v0_1) (qr6 D n) n x0 x1 x2)
def qyk (D:DX)(n:Nat) (lp0:List (Int×Int×Unit)→Int→Int→Option ((Int×Bool×Unit)×Unit)) (a0:List (Int×Int×Unit)) (a1:Int):Option ((Int×Bool×Unit)×Unit):=lp0 a0 a1 (IntKind.wrap IntKind.i64 ((↑(List.length a0):Int) - 1))
def qyh (D:DX)(n:Nat) (a0:List (Int×Int×Unit)) (a1:Int):Option ((Int×Bool×Unit)×Unit):=qyk D n (quy D n) a0 a1
def qkx (x0:List (Int×Int×Unit)) (x1:Int) (x2:Int):St:=stq 26 [(0,AV.val (Ty.sl (Ty.pair yI (Ty.pair yI Ty.unit))) x0),(1,avI x1),(6,avI x2)] [] 
def qoe (v0_0:Int) (v0_1:Bool):St:=stq 26 [(4,avI v0_0),(5,AV.val Ty.bool v0_1)] [] 
def qob:St:=stq 26 [] [] 
theorem qbaz (D:DX)(n:Nat) (m:Nat) (K:Ex→St→Option (Out ctx 15)) (x0:List (Int×Int×Unit)) (x1:Int) (x2:Int) :
 LQ qd D n 15 [.r,.l,.r,.l] (m+1) (qkx x0 x1 x2) K=qwz D n (fun x0 x1 x2=>LQ qd D n 15 [.r,.l,.r,.l] m (qkx x0 x1 x2) K) (fun v0_0 v0_1=>K (Ex.ret) (qoe v0_0 v0_1)) (K (Ex.exit 0) (qob)) x0 x1 x2:=by kernel_rfl
theorem q0x (D:DX)(n:Nat) (K:Ex→St→Option (Out ctx 15)):∀ (m:Nat) (x0:List (Int×Int×Unit)) (x1:Int) (x2:Int),LQ qd D n 15 [.r,.l,.r,.l] m (qkx x0 x1 x2) K=qk0 D n (fun v0_0 v0_1=>K (Ex.ret) (qoe v0_0 v0_1)) (K (Ex.exit 0) (qob)) m x0 x1 x2
 | 0,x0,x1,x2=>qcb ..
 | m+1,x0,x1,x2=>by
  have ih:(fun x0 x1 x2=>LQ qd D n 15 [.r,.l,.r,.l] m (qkx x0 x1 x2) K)=qk0 D n (fun v0_0 v0_1=>K (Ex.ret) (qoe v0_0 v0_1)) (K (Ex.exit 0) (qob)) m:=by funext x0 x1 x2;exact q0x D n K m x0 x1 x2
  rw[qbaz]
  rw[ih];rfl
theorem q82 (D:DX)(n:Nat) (v0_0:Int) (v0_1:Bool) :
 (CQ qd D n 15 [] [.r,.l,.r,.l] (qu qd 15)) (Ex.ret) (qoe v0_0 v0_1)=qrt D n v0_0 v0_1:=by kernel_rfl
theorem q7r (D:DX)(n:Nat) :
 (CQ qd D n 15 [] [.r,.l,.r,.l] (qu qd 15)) (Ex.exit 0) (qob)=qr6 D n:=by kernel_rfl
theorem q8n (D:DX)(n:Nat) (x0:List (Int×Int×Unit)) (x1:Int) (x2:Int) :
 LQ qd D n 15 [.r,.l,.r,.l] n (qkx x0 x1 x2) (CQ qd D n 15 [] [.r,.l,.r,.l] (qu qd 15))=quy D n x0 x1 x2:=by
 rw[q0x]
 simp only[q82,q7r]
 rfl
theorem qbet (D:DX)(n:Nat) (a0:List (Int×Int×Unit)) (a1:Int):rfC qd D n 15 (a0,(a1,()))=qyh D n a0 a1:=by
 have h:rfC qd D n 15 (a0,(a1,()))=qyk D n (fun x0 x1 x2=>LQ qd D n 15 [.r,.l,.r,.l] n (qkx x0 x1 x2) (CQ qd D n 15 [] [.r,.l,.r,.l] (qu qd 15))) a0 a1:=by kernel_rfl
 rw[h]
 simp only[q8n]
 rfl

def qxf (D:DX)(n:Nat) (go:List (Int×Int×Unit)→Int→Int→Bool→Int→Option ((Int×Bool×Unit)×Unit)) (K0:Int→Bool→Option ((Int×Bool×Unit)×Unit)) (x0:List (Int×Int×Unit)) (x1:Int) (x2:Int) (x3:Bool) (x4:Int):Option ((Int×Bool×Unit)×Unit):=br (decide (x4<(↑(List.length x0):Int))) (br (decide (0≤x4)&&decide (x4<(↑(List.length x0):Int))) (br (decide (Prod.fst (List.getD x0 (Int.toNat x4) (0,0,()))=x1)) (br (decide (0≤x4)&&decide (x4<(↑(List.length x0):Int))) (go x0 x1 (Prod.fst (Prod.snd (List.getD x0 (Int.toNat x4) (0,0,())))) true (IntKind.wrap IntKind.i64 (x4+1))) none) (go x0 x1 x2 x3 (IntKind.wrap IntKind.i64 (x4+1)))) none) (K0 x2 x3)
def qk5 (D:DX)(n:Nat) (K0:Int→Bool→Option ((Int×Bool×Unit)×Unit)):Nat→(List (Int×Int×Unit))→(Int)→(Int)→(Bool)→(Int)→Option ((Int×Bool×Unit)×Unit) | 0=>(fun x0 x1 x2 x3 x4=>none) | m+1=>(fun x0 x1 x2 x3 x4=>qxf D n (qk5 D n K0 m) K0 x0 x1 x2 x3 x4)
def qr4 (D:DX)(n:Nat) (v0_0:Int) (v0_1:Bool):Option ((Int×Bool×Unit)×Unit):=some ((v0_0,v0_1,()),())
def quz (D:DX)(n:Nat):(List (Int×Int×Unit))→(Int)→(Int)→(Bool)→(Int)→Option ((Int×Bool×Unit)×Unit):=(fun x0 x1 x2 x3 x4=>qk5 D n (fun v0_0 v0_1=>qr4 D n v0_0 v0_1) n x0 x1 x2 x3 x4)
def qyo (D:DX)(n:Nat) (lp0:List (Int×Int×Unit)→Int→Int→Bool→Int→Option ((Int×Bool×Unit)×Unit)) (a0:List (Int×Int×Unit)) (a1:Int):Option ((Int×Bool×Unit)×Unit):=lp0 a0 a1 0 false 0
def qyl (D:DX)(n:Nat) (a0:List (Int×Int×Unit)) (a1:Int):Option ((Int×Bool×Unit)×Unit):=qyo D n (quz D n) a0 a1
def qlc (x0:List (Int×Int×Unit)) (x1:Int) (x2:Int) (x3:Bool) (x4:Int):St:=stq 29 [(0,AV.val (Ty.sl (Ty.pair yI (Ty.pair yI Ty.unit))) x0),(1,avI x1),(6,avI x2),(7,AV.val Ty.bool x3),(8,avI x4)] [] 
def qoj (v0_0:Int) (v0_1:Bool):St:=stq 29 [(6,avI v0_0),(7,AV.val Ty.bool v0_1)] [] 
theorem qbbc (D:DX)(n:Nat) (m:Nat) (K:Ex→St→Option (Out ctx 16)) (x0:List (Int×Int×Unit)) (x1:Int) (x2:Int) (x3:Bool) (x4:Int) :
 LQ qd D n 16 [.r,.r,.r,.l,.r,.l] (m+1) (qlc x0 x1 x2 x3 x4) K=qxf D n (fun x0 x1 x2 x3 x4=>LQ qd D n 16 [.r,.r,.r,.l,.r,.l] m (qlc x0 x1 x2 x3 x4) K) (fun v0_0 v0_1=>K (Ex.exit 0) (qoj v0_0 v0_1)) x0 x1 x2 x3 x4:=by kernel_rfl
theorem q0y (D:DX)(n:Nat) (K:Ex→St→Option (Out ctx 16)):∀ (m:Nat) (x0:List (Int×Int×Unit)) (x1:Int) (x2:Int) (x3:Bool) (x4:Int),LQ qd D n 16 [.r,.r,.r,.l,.r,.l] m (qlc x0 x1 x2 x3 x4) K=qk5 D n (fun v0_0 v0_1=>K (Ex.exit 0) (qoj v0_0 v0_1)) m x0 x1 x2 x3 x4
 | 0,x0,x1,x2,x3,x4=>qcb ..
 | m+1,x0,x1,x2,x3,x4=>by
  have ih:(fun x0 x1 x2 x3 x4=>LQ qd D n 16 [.r,.r,.r,.l,.r,.l] m (qlc x0 x1 x2 x3 x4) K)=qk5 D n (fun v0_0 v0_1=>K (Ex.exit 0) (qoj v0_0 v0_1)) m:=by funext x0 x1 x2 x3 x4;exact q0y D n K m x0 x1 x2 x3 x4
  rw[qbbc]
  rw[ih];rfl
theorem q74 (D:DX)(n:Nat) (v0_0:Int) (v0_1:Bool) :
 (CQ qd D n 16 [] [.r,.r,.r,.l,.r,.l] (qu qd 16)) (Ex.exit 0) (qoj v0_0 v0_1)=qr4 D n v0_0 v0_1:=by kernel_rfl
theorem q8a (D:DX)(n:Nat) (x0:List (Int×Int×Unit)) (x1:Int) (x2:Int) (x3:Bool) (x4:Int) :
 LQ qd D n 16 [.r,.r,.r,.l,.r,.l] n (qlc x0 x1 x2 x3 x4) (CQ qd D n 16 [] [.r,.r,.r,.l,.r,.l] (qu qd 16))=quz D n x0 x1 x2 x3 x4:=by
 rw[q0y]
 simp only[q74]
 rfl
theorem qbff (D:DX)(n:Nat) (a0:List (Int×Int×Unit)) (a1:Int):rfC qd D n 16 (a0,(a1,()))=qyl D n a0 a1:=by
 have h:rfC qd D n 16 (a0,(a1,()))=qyo D n (fun x0 x1 x2 x3 x4=>LQ qd D n 16 [.r,.r,.r,.l,.r,.l] n (qlc x0 x1 x2 x3 x4) (CQ qd D n 16 [] [.r,.r,.r,.l,.r,.l] (qu qd 16))) a0 a1:=by kernel_rfl
 rw[h]
 simp only[q8a]
 rfl

def q30 (D:DX)(n:Nat) (a0:Int×Int×Int×Unit) (a1:List (Int×Int×Unit)):Option ((Int×Unit)×Unit):=qe (qtj D a0) fun b↦br (!Prod.fst (Prod.fst b)) (some ((-1,()),())) (qe (qwb D a0 a1) fun b↦some ((Prod.fst (Prod.snd (Prod.fst (Prod.fst b))),()),()))
def qyp (D:DX)(n:Nat) (a0:Int×Int×Int×Unit) (a1:List (Int×Int×Unit)):Option ((Int×Unit)×Unit):=q30 D n a0 a1
theorem qbfa (D:DX)(n:Nat) (a0:Int×Int×Int×Unit) (a1:List (Int×Int×Unit)):rfC qd D n 17 (a0,(a1,()))=qyp D n a0 a1:=by kernel_rfl

def qxu (D:DX)(n:Nat) (a0:Bool×(Int×List Int×Unit)×List (Int×Int×Int×Unit)×Unit) (a1:Bool×(Int×List Int×Unit)×List (Int×Int×Int×Unit)×Unit):Option ((Bool×Unit)×Unit):=br (decide (Prod.fst a0=Prod.fst a1)) (qe (qzv D (Prod.fst (Prod.snd a0)) (Prod.fst (Prod.snd a1))) fun b↦br (Prod.fst (Prod.fst b)) (qe (qn2 D (Prod.fst (Prod.snd (Prod.snd a0))) (Prod.fst (Prod.snd (Prod.snd a1)))) fun b↦some ((Prod.fst (Prod.fst b),()),())) (some ((false,()),()))) (some ((false,()),()))
def qqs (D:DX)(n:Nat) (a0:Bool×(Int×List Int×Unit)×List (Int×Int×Int×Unit)×Unit) (a1:Bool×(Int×List Int×Unit)×List (Int×Int×Int×Unit)×Unit):Option ((Bool×Unit)×Unit):=qxu D n a0 a1
theorem q7g (D:DX)(n:Nat) (a0:Bool×(Int×List Int×Unit)×List (Int×Int×Int×Unit)×Unit) (a1:Bool×(Int×List Int×Unit)×List (Int×Int×Int×Unit)×Unit):rfC qd D n 18 (a0,(a1,()))=qqs D n a0 a1:=by kernel_rfl

def qzz (D:DX)(n:Nat) (a0:List Int×Int×Unit) (a1:Int×Int×Int×Unit) (a2:Int×List Int×Unit):Option ((Bool×Unit)×Unit):=qe (qmj D a0) fun b↦br (!Prod.fst (Prod.fst b)) (some ((false,()),())) (qe (qo2 D a1) fun b↦br (!Prod.fst (Prod.fst b)) (some ((false,()),())) (br (Prod.fst a2 != 0) (br (decide ((↑(List.length (Prod.fst (Prod.snd a2))):Int)=0)) (qe (qy2 D a0 a1 (Prod.fst a2)) fun b↦some ((Prod.fst (Prod.fst b),()),())) (some ((false,()),()))) (qe (qzg D a0 a1) fun b↦br (Prod.fst (Prod.snd (Prod.fst b))) (qe (qj6 D (Prod.fst (Prod.fst b)) (Prod.fst (Prod.snd a2))) fun b↦some ((Prod.fst (Prod.fst b),()),())) (some ((false,()),())))))
def qr2 (D:DX)(n:Nat) (a0:List Int×Int×Unit) (a1:Int×Int×Int×Unit) (a2:Int×List Int×Unit):Option ((Bool×Unit)×Unit):=qzz D n a0 a1 a2
theorem q88 (D:DX)(n:Nat) (a0:List Int×Int×Unit) (a1:Int×Int×Int×Unit) (a2:Int×List Int×Unit):rfC qd D n 19 (a0,(a1,(a2,())))=qr2 D n a0 a1 a2:=by kernel_rfl

def q1j (D:DX)(n:Nat) (a0:List Int×Int×Unit) (a1:Int×Int×Int×Unit) (a2:Int×List Int×Unit):Option (((List Int×Int×Unit)×Unit)×Unit):=qe (qqy D a0) fun b↦qe (qn9 D a0 a1 a2) fun b_1↦br (bif !Prod.fst (Prod.fst b_1) then true else Prod.fst a2 != 0) (some (((Prod.fst (Prod.fst (Prod.fst b)),Prod.snd (Prod.fst (Prod.fst b))),()),())) (br (decide (Prod.fst a1=1)) (br (decide (Prod.fst a1=1)) (br (decide (0≤Prod.fst (Prod.snd a1))&&decide (Prod.fst (Prod.snd a1)<(↑(List.length (Prod.fst (Prod.fst (Prod.fst b)))):Int))) (some (((List.set (Prod.fst (Prod.fst (Prod.fst b))) (Int.toNat (Prod.fst (Prod.snd a1))) (Prod.fst (Prod.snd (Prod.snd a1))),Prod.snd (Prod.fst (Prod.fst b))),()),())) none) (br (decide (Prod.fst a1=3)) (br (decide (0≤Prod.fst (Prod.snd a1))&&decide (Prod.fst (Prod.snd a1)<(↑(List.length (Prod.fst (Prod.fst (Prod.fst b)))):Int))) (some (((List.set (Prod.fst (Prod.fst (Prod.fst b))) (Int.toNat (Prod.fst (Prod.snd a1))) 0,Prod.snd (Prod.fst (Prod.fst b))),()),())) none) (br (decide (Prod.fst a1=8)) (br (decide (Prod.fst a1=8)) (some (((Prod.fst (Prod.fst (Prod.fst b)),IntKind.wrap IntKind.i64 (Prod.fst (Prod.snd (Prod.fst (Prod.fst b)))+1),Prod.snd (Prod.snd (Prod.fst (Prod.fst b)))),()),())) (some (((Prod.fst (Prod.fst (Prod.fst b)),Prod.snd (Prod.fst (Prod.fst b))),()),()))) (br (decide (Prod.fst a1=9)) (some (((Prod.fst (Prod.fst (Prod.fst b)),IntKind.wrap IntKind.i64 (Prod.fst (Prod.snd (Prod.fst (Prod.fst b)))+1),Prod.snd (Prod.snd (Prod.fst (Prod.fst b)))),()),())) (some (((Prod.fst (Prod.fst (Prod.fst b)),Prod.snd (Prod.fst (Prod.fst b))),()),())))))) (br (decide (Prod.fst a1=2)) (br (decide (0≤Prod.fst (Prod.snd a1))&&decide (Prod.fst (Prod.snd a1)<(↑(List.length (Prod.fst (Prod.fst (Prod.fst b)))):Int))) (some (((List.set (Prod.fst (Prod.fst (Prod.fst b))) (Int.toNat (Prod.fst (Prod.snd a1))) (Prod.fst (Prod.snd (Prod.snd a1))),Prod.snd (Prod.fst (Prod.fst b))),()),())) none) (br (decide (Prod.fst a1=3)) (br (decide (0≤Prod.fst (Prod.snd a1))&&decide (Prod.fst (Prod.snd a1)<(↑(List.length (Prod.fst (Prod.fst (Prod.fst b)))):Int))) (some (((List.set (Prod.fst (Prod.fst (Prod.fst b))) (Int.toNat (Prod.fst (Prod.snd a1))) 0,Prod.snd (Prod.fst (Prod.fst b))),()),())) none) (br (decide (Prod.fst a1=8)) (br (decide (Prod.fst a1=8)) (some (((Prod.fst (Prod.fst (Prod.fst b)),IntKind.wrap IntKind.i64 (Prod.fst (Prod.snd (Prod.fst (Prod.fst b)))+1),Prod.snd (Prod.snd (Prod.fst (Prod.fst b)))),()),())) (some (((Prod.fst (Prod.fst (Prod.fst b)),Prod.snd (Prod.fst (Prod.fst b))),()),()))) (br (decide (Prod.fst a1=9)) (some (((Prod.fst (Prod.fst (Prod.fst b)),IntKind.wrap IntKind.i64 (Prod.fst (Prod.snd (Prod.fst (Prod.fst b)))+1),Prod.snd (Prod.snd (Prod.fst (Prod.fst b)))),()),())) (some (((Prod.fst (Prod.fst (Prod.fst b)),Prod.snd (Prod.fst (Prod.fst b))),()),())))))))
def qxe (D:DX)(n:Nat) (a0:List Int×Int×Unit) (a1:Int×Int×Int×Unit) (a2:Int×List Int×Unit):Option (((List Int×Int×Unit)×Unit)×Unit):=q1j D n a0 a1 a2
theorem qbc5 (D:DX)(n:Nat) (a0:List Int×Int×Unit) (a1:Int×Int×Int×Unit) (a2:Int×List Int×Unit):rfC qd D n 20 (a0,(a1,(a2,())))=qxe D n a0 a1 a2:=by kernel_rfl

def qpl (D:DX)(n:Nat) (go:List Int→List Int→Int→Option ((Bool×Unit)×Unit)) (K0:Bool→Option ((Bool×Unit)×Unit)) (K1:Option ((Bool×Unit)×Unit)) (x0:List Int) (x1:List Int) (x2:Int):Option ((Bool×Unit)×Unit):=br (decide (x2<(↑(List.length x0):Int))) (br (decide (0≤x2)&&decide (x2<(↑(List.length x0):Int))) (br (decide (0≤x2)&&decide (x2<(↑(List.length x1):Int))) (br (List.getD x0 (Int.toNat x2) 0 != List.getD x1 (Int.toNat x2) 0) (K0 false) (go x0 x1 (IntKind.wrap IntKind.i64 (x2+1)))) none) none) K1
def qgv (D:DX)(n:Nat) (K0:Bool→Option ((Bool×Unit)×Unit)) (K1:Option ((Bool×Unit)×Unit)):Nat→(List Int)→(List Int)→(Int)→Option ((Bool×Unit)×Unit) | 0=>(fun x0 x1 x2=>none) | m+1=>(fun x0 x1 x2=>qpl D n (qgv D n K0 K1 m) K0 K1 x0 x1 x2)
def qnd (D:DX)(n:Nat) (v0_0:Bool):Option ((Bool×Unit)×Unit):=some ((v0_0,()),())
def qnp (D:DX)(n:Nat):Option ((Bool×Unit)×Unit):=some ((true,()),())
def qom (D:DX)(n:Nat):(List Int)→(List Int)→(Int)→Option ((Bool×Unit)×Unit):=(fun x0 x1 x2=>qgv D n (fun v0_0=>qnd D n v0_0) (qnp D n) n x0 x1 x2)
def qp3 (D:DX)(n:Nat) (lp0:List Int→List Int→Int→Option ((Bool×Unit)×Unit)) (a0:List Int) (a1:List Int):Option ((Bool×Unit)×Unit):=br ((↑(List.length a0):Int) != (↑(List.length a1):Int)) (some ((false,()),())) (lp0 a0 a1 0)
def qrk (D:DX)(n:Nat) (a0:List Int) (a1:List Int):Option ((Bool×Unit)×Unit):=qp3 D n (qom D n) a0 a1
def qgu (x0:List Int) (x1:List Int) (x2:Int):St:=stq 26 [(0,AV.val (Ty.sl yI) x0),(1,AV.val (Ty.sl yI) x1),(5,avI x2)] [] 
def qj2 (v0_0:Bool):St:=stq 26 [(4,AV.val Ty.bool v0_0)] [] 
def qj3:St:=stq 26 [] [] 
theorem q3e (D:DX)(n:Nat) (m:Nat) (K:Ex→St→Option (Out ctx 21)) (x0:List Int) (x1:List Int) (x2:Int) :
 LQ qd D n 21 [.r,.r,.l,.r,.l] (m+1) (qgu x0 x1 x2) K=qpl D n (fun x0 x1 x2=>LQ qd D n 21 [.r,.r,.l,.r,.l] m (qgu x0 x1 x2) K) (fun v0_0=>K (Ex.ret) (qj2 v0_0)) (K (Ex.exit 0) (qj3)) x0 x1 x2:=by kernel_rfl
theorem qu2 (D:DX)(n:Nat) (K:Ex→St→Option (Out ctx 21)):∀ (m:Nat) (x0:List Int) (x1:List Int) (x2:Int),LQ qd D n 21 [.r,.r,.l,.r,.l] m (qgu x0 x1 x2) K=qgv D n (fun v0_0=>K (Ex.ret) (qj2 v0_0)) (K (Ex.exit 0) (qj3)) m x0 x1 x2
 | 0,x0,x1,x2=>qcb ..
 | m+1,x0,x1,x2=>by
  have ih:(fun x0 x1 x2=>LQ qd D n 21 [.r,.r,.l,.r,.l] m (qgu x0 x1 x2) K)=qgv D n (fun v0_0=>K (Ex.ret) (qj2 v0_0)) (K (Ex.exit 0) (qj3)) m:=by funext x0 x1 x2;exact qu2 D n K m x0 x1 x2
  rw[q3e]
  rw[ih];rfl
theorem q1z (D:DX)(n:Nat) (v0_0:Bool) :
 (CQ qd D n 21 [] [.r,.r,.l,.r,.l] (qu qd 21)) (Ex.ret) (qj2 v0_0)=qnd D n v0_0:=by kernel_rfl
theorem q2h (D:DX)(n:Nat) :
 (CQ qd D n 21 [] [.r,.r,.l,.r,.l] (qu qd 21)) (Ex.exit 0) (qj3)=qnp D n:=by kernel_rfl
theorem q2b (D:DX)(n:Nat) (x0:List Int) (x1:List Int) (x2:Int) :
 LQ qd D n 21 [.r,.r,.l,.r,.l] n (qgu x0 x1 x2) (CQ qd D n 21 [] [.r,.r,.l,.r,.l] (qu qd 21))=qom D n x0 x1 x2:=by
 rw[qu2]
 simp only[q1z,q2h]
 rfl
theorem q6e (D:DX)(n:Nat) (a0:List Int) (a1:List Int):rfC qd D n 21 (a0,(a1,()))=qrk D n a0 a1:=by
 have h:rfC qd D n 21 (a0,(a1,()))=qp3 D n (fun x0 x1 x2=>LQ qd D n 21 [.r,.r,.l,.r,.l] n (qgu x0 x1 x2) (CQ qd D n 21 [] [.r,.r,.l,.r,.l] (qu qd 21))) a0 a1:=by kernel_rfl
 rw[h]
 simp only[q2b]
 rfl

def q2e (D:DX)(n:Nat) (a0:List Int×Int×Unit) (a1:Int):Option ((Int×Unit)×Unit):=qe (qg4 D (Prod.fst a0) a1) fun b↦some ((Prod.fst (Prod.fst b),()),())
def qw8 (D:DX)(n:Nat) (a0:List Int×Int×Unit) (a1:Int):Option ((Int×Unit)×Unit):=q2e D n a0 a1
theorem qbdv (D:DX)(n:Nat) (a0:List Int×Int×Unit) (a1:Int):rfC qd D n 22 (a0,(a1,()))=qw8 D n a0 a1:=by kernel_rfl

def qtc (D:DX)(n:Nat) (go:List Int→Int→Int→List Int×Int×Unit→Option ((Bool×Unit)×Unit)) (K0:Bool→List Int×Int×Unit→Option ((Bool×Unit)×Unit)) (K1:List Int×Int×Unit→Option ((Bool×Unit)×Unit)) (x0:List Int) (x1:Int) (x2:Int) (x3:List Int×Int×Unit):Option ((Bool×Unit)×Unit):=br (decide (x2<x1)) (br (decide (0≤x2)&&decide (x2<(↑(List.length x0):Int))) (br (List.getD x0 (Int.toNat x2) 0 != 0) (qe (qbw D (List.getD x0 (Int.toNat x2) 0)) fun b↦br (!Prod.fst (Prod.fst b)) (K0 false x3) (br (decide (0≤0)&&decide (0≤x2)&&decide (x2≤(↑(List.length (Prod.fst x3)):Int))) (qe (qh9 D (List.drop (Int.toNat 0) (List.take (Int.toNat x2) (Prod.fst x3))) (List.getD x0 (Int.toNat x2) 0)) fun b↦br (Prod.fst (Prod.fst b)) (K0 false x3) (go x0 x1 (IntKind.wrap IntKind.i64 (x2+1)) x3)) none)) (go x0 x1 (IntKind.wrap IntKind.i64 (x2+1)) x3)) none) (K1 x3)
def qij (D:DX)(n:Nat) (K0:Bool→List Int×Int×Unit→Option ((Bool×Unit)×Unit)) (K1:List Int×Int×Unit→Option ((Bool×Unit)×Unit)):Nat→(List Int)→(Int)→(Int)→(List Int×Int×Unit)→Option ((Bool×Unit)×Unit) | 0=>(fun x0 x1 x2 x3=>none) | m+1=>(fun x0 x1 x2 x3=>qtc D n (qij D n K0 K1 m) K0 K1 x0 x1 x2 x3)
def qpi (D:DX)(n:Nat) (v0_0:Bool) (v0_1:List Int×Int×Unit):Option ((Bool×Unit)×Unit):=some ((v0_0,()),())
def ql1 (D:DX)(n:Nat) (v1_0:List Int×Int×Unit):Option ((Bool×Unit)×Unit):=br (decide ((↑(List.length (Prod.fst v1_0)):Int)=4)) (qe (qmp D (Prod.fst (Prod.snd v1_0)) 0 5) fun b↦some ((Prod.fst (Prod.fst b),()),())) (some ((false,()),()))
def qqt (D:DX)(n:Nat):(List Int)→(Int)→(Int)→(List Int×Int×Unit)→Option ((Bool×Unit)×Unit):=(fun x0 x1 x2 x3=>qij D n (fun v0_0 v0_1=>qpi D n v0_0 v0_1) (fun v1_0=>ql1 D n v1_0) n x0 x1 x2 x3)
def qua (D:DX)(n:Nat) (lp0:List Int→Int→Int→List Int×Int×Unit→Option ((Bool×Unit)×Unit)) (a0:List Int×Int×Unit):Option ((Bool×Unit)×Unit):=lp0 (Prod.fst a0) (↑(List.length (Prod.fst a0)):Int) 0 a0
def qus (D:DX)(n:Nat) (a0:List Int×Int×Unit):Option ((Bool×Unit)×Unit):=qua D n (qqt D n) a0
def qin (x0:List Int) (x1:Int) (x2:Int) (x3:List Int×Int×Unit):St:=stq 38 [(1,AV.addr 1 []),(6,AV.val (Ty.sl yI) x0),(7,avI x1),(8,avI x2)] [(1,Root.mk (Ty.pair (Ty.sl yI) (Ty.pair yI Ty.unit)) Mk.no x3 true)] 
def ql6 (v0_0:Bool) (v0_1:List Int×Int×Unit):St:=stq 38 [(1,AV.addr 1 []),(2,AV.val Ty.bool v0_0)] [(1,Root.mk (Ty.pair (Ty.sl yI) (Ty.pair yI Ty.unit)) Mk.no v0_1 true)] 
def qlw (v1_0:List Int×Int×Unit):St:=stq 38 [(1,AV.addr 1 [])] [(1,Root.mk (Ty.pair (Ty.sl yI) (Ty.pair yI Ty.unit)) Mk.no v1_0 true)] 
theorem q52 (D:DX)(n:Nat) (m:Nat) (K:Ex→St→Option (Out ctx 23)) (x0:List Int) (x1:Int) (x2:Int) (x3:List Int×Int×Unit) :
 LQ qd D n 23 [.r,.l,.r,.l] (m+1) (qin x0 x1 x2 x3) K=qtc D n (fun x0 x1 x2 x3=>LQ qd D n 23 [.r,.l,.r,.l] m (qin x0 x1 x2 x3) K) (fun v0_0 v0_1=>K (Ex.ret) (ql6 v0_0 v0_1)) (fun v1_0=>K (Ex.exit 0) (qlw v1_0)) x0 x1 x2 x3:=by kernel_rfl
theorem qxq (D:DX)(n:Nat) (K:Ex→St→Option (Out ctx 23)):∀ (m:Nat) (x0:List Int) (x1:Int) (x2:Int) (x3:List Int×Int×Unit),LQ qd D n 23 [.r,.l,.r,.l] m (qin x0 x1 x2 x3) K=qij D n (fun v0_0 v0_1=>K (Ex.ret) (ql6 v0_0 v0_1)) (fun v1_0=>K (Ex.exit 0) (qlw v1_0)) m x0 x1 x2 x3
 | 0,x0,x1,x2,x3=>qcb ..
 | m+1,x0,x1,x2,x3=>by
  have ih:(fun x0 x1 x2 x3=>LQ qd D n 23 [.r,.l,.r,.l] m (qin x0 x1 x2 x3) K)=qij D n (fun v0_0 v0_1=>K (Ex.ret) (ql6 v0_0 v0_1)) (fun v1_0=>K (Ex.exit 0) (qlw v1_0)) m:=by funext x0 x1 x2 x3;exact qxq D n K m x0 x1 x2 x3
  rw[q52]
  rw[ih];rfl
theorem q49 (D:DX)(n:Nat) (v0_0:Bool) (v0_1:List Int×Int×Unit) :
 (CQ qd D n 23 [] [.r,.l,.r,.l] (qu qd 23)) (Ex.ret) (ql6 v0_0 v0_1)=qpi D n v0_0 v0_1:=by kernel_rfl
theorem q4j (D:DX)(n:Nat) (v1_0:List Int×Int×Unit) :
 (CQ qd D n 23 [] [.r,.l,.r,.l] (qu qd 23)) (Ex.exit 0) (qlw v1_0)=ql1 D n v1_0:=by kernel_rfl
theorem q41 (D:DX)(n:Nat) (x0:List Int) (x1:Int) (x2:Int) (x3:List Int×Int×Unit) :
 LQ qd D n 23 [.r,.l,.r,.l] n (qin x0 x1 x2 x3) (CQ qd D n 23 [] [.r,.l,.r,.l] (qu qd 23))=qqt D n x0 x1 x2 x3:=by
 rw[qxq]
 simp only[q49,q4j]
 rfl
theorem qba6 (D:DX)(n:Nat) (a0:List Int×Int×Unit):rfC qd D n 23 (a0,())=qus D n a0:=by
 have h:rfC qd D n 23 (a0,())=qua D n (fun x0 x1 x2 x3=>LQ qd D n 23 [.r,.l,.r,.l] n (qin x0 x1 x2 x3) (CQ qd D n 23 [] [.r,.l,.r,.l] (qu qd 23))) a0:=by kernel_rfl
 rw[h]
 simp only[q41]
 rfl

def q32 (D:DX)(n:Nat) (a0:Int×Int×Int×Unit):Option ((Bool×Unit)×Unit):=br (decide (Prod.fst a0=1)) (br (decide (Prod.fst a0=1)) (qe (qgf D (Prod.fst (Prod.snd a0))) fun b↦br (Prod.fst (Prod.fst b)) (qe (qbw D (Prod.fst (Prod.snd (Prod.snd a0)))) fun b↦some ((Prod.fst (Prod.fst b),()),())) (some ((false,()),()))) (br (decide (Prod.fst a0=3)) (br (decide (Prod.fst a0=3)) (qe (qgf D (Prod.fst (Prod.snd a0))) fun b↦some ((bif Prod.fst (Prod.fst b) then decide (Prod.fst (Prod.snd (Prod.snd a0))=0) else false,()),())) (br (decide (Prod.fst a0=5)) (br (decide (Prod.fst a0=5)) (br (decide (Prod.fst (Prod.snd a0)=0)) (qe (qbw D (Prod.fst (Prod.snd (Prod.snd a0)))) fun b↦some ((Prod.fst (Prod.fst b),()),())) (some ((false,()),()))) (br (decide (Prod.fst a0=6)) (qe (qdy D (Prod.fst (Prod.snd a0))) fun b↦some ((bif Prod.fst (Prod.fst b) then decide (Prod.fst (Prod.snd (Prod.snd a0))=0) else false,()),())) (br (decide (Prod.fst a0=7)) (br (decide (Prod.fst a0=7)) (some ((bif decide (Prod.fst (Prod.snd a0)=0) then decide (Prod.fst (Prod.snd (Prod.snd a0))=0) else false,()),())) (some ((false,()),()))) (br (decide (Prod.fst a0=8)) (br (decide (Prod.fst a0=8)) (some ((bif decide (Prod.fst (Prod.snd a0)=0) then decide (Prod.fst (Prod.snd (Prod.snd a0))=0) else false,()),())) (some ((false,()),()))) (br (decide (Prod.fst a0=9)) (some ((bif decide (Prod.fst (Prod.snd a0)=0) then decide (Prod.fst (Prod.snd (Prod.snd a0))=0) else false,()),())) (some ((false,()),()))))))) (br (decide (Prod.fst a0=10)) (br (decide (Prod.fst (Prod.snd a0)=0)) (qe (qbw D (Prod.fst (Prod.snd (Prod.snd a0)))) fun b↦some ((Prod.fst (Prod.fst b),()),())) (some ((false,()),()))) (br (decide (Prod.fst a0=6)) (qe (qdy D (Prod.fst (Prod.snd a0))) fun b↦some ((bif Prod.fst (Prod.fst b) then decide (Prod.fst (Prod.snd (Prod.snd a0))=0) else false,()),())) (br (decide (Prod.fst a0=7)) (br (decide (Prod.fst a0=7)) (some ((bif decide (Prod.fst (Prod.snd a0)=0) then decide (Prod.fst (Prod.snd (Prod.snd a0))=0) else false,()),())) (some ((false,()),()))) (br (decide (Prod.fst a0=8)) (br (decide (Prod.fst a0=8)) (some ((bif decide (Prod.fst (Prod.snd a0)=0) then decide (Prod.fst (Prod.snd (Prod.snd a0))=0) else false,()),())) (some ((false,()),()))) (br (decide (Prod.fst a0=9)) (some ((bif decide (Prod.fst (Prod.snd a0)=0) then decide (Prod.fst (Prod.snd (Prod.snd a0))=0) else false,()),())) (some ((false,()),()))))))))) (br (decide (Prod.fst a0=4)) (qe (qgf D (Prod.fst (Prod.snd a0))) fun b↦some ((bif Prod.fst (Prod.fst b) then decide (Prod.fst (Prod.snd (Prod.snd a0))=0) else false,()),())) (br (decide (Prod.fst a0=5)) (br (decide (Prod.fst a0=5)) (br (decide (Prod.fst (Prod.snd a0)=0)) (qe (qbw D (Prod.fst (Prod.snd (Prod.snd a0)))) fun b↦some ((Prod.fst (Prod.fst b),()),())) (some ((false,()),()))) (br (decide (Prod.fst a0=6)) (qe (qdy D (Prod.fst (Prod.snd a0))) fun b↦some ((bif Prod.fst (Prod.fst b) then decide (Prod.fst (Prod.snd (Prod.snd a0))=0) else false,()),())) (br (decide (Prod.fst a0=7)) (br (decide (Prod.fst a0=7)) (some ((bif decide (Prod.fst (Prod.snd a0)=0) then decide (Prod.fst (Prod.snd (Prod.snd a0))=0) else false,()),())) (some ((false,()),()))) (br (decide (Prod.fst a0=8)) (br (decide (Prod.fst a0=8)) (some ((bif decide (Prod.fst (Prod.snd a0)=0) then decide (Prod.fst (Prod.snd (Prod.snd a0))=0) else false,()),())) (some ((false,()),()))) (br (decide (Prod.fst a0=9)) (some ((bif decide (Prod.fst (Prod.snd a0)=0) then decide (Prod.fst (Prod.snd (Prod.snd a0))=0) else false,()),())) (some ((false,()),()))))))) (br (decide (Prod.fst a0=10)) (br (decide (Prod.fst (Prod.snd a0)=0)) (qe (qbw D (Prod.fst (Prod.snd (Prod.snd a0)))) fun b↦some ((Prod.fst (Prod.fst b),()),())) (some ((false,()),()))) (br (decide (Prod.fst a0=6)) (qe (qdy D (Prod.fst (Prod.snd a0))) fun b↦some ((bif Prod.fst (Prod.fst b) then decide (Prod.fst (Prod.snd (Prod.snd a0))=0) else false,()),())) (br (decide (Prod.fst a0=7)) (br (decide (Prod.fst a0=7)) (some ((bif decide (Prod.fst (Prod.snd a0)=0) then decide (Prod.fst (Prod.snd (Prod.snd a0))=0) else false,()),())) (some ((false,()),()))) (br (decide (Prod.fst a0=8)) (br (decide (Prod.fst a0=8)) (some ((bif decide (Prod.fst (Prod.snd a0)=0) then decide (Prod.fst (Prod.snd (Prod.snd a0))=0) else false,()),())) (some ((false,()),()))) (br (decide (Prod.fst a0=9)) (some ((bif decide (Prod.fst (Prod.snd a0)=0) then decide (Prod.fst (Prod.snd (Prod.snd a0))=0) else false,()),())) (some ((false,()),()))))))))))) (br (decide (Prod.fst a0=2)) (qe (qgf D (Prod.fst (Prod.snd a0))) fun b↦br (Prod.fst (Prod.fst b)) (qe (qbw D (Prod.fst (Prod.snd (Prod.snd a0)))) fun b↦some ((Prod.fst (Prod.fst b),()),())) (some ((false,()),()))) (br (decide (Prod.fst a0=3)) (br (decide (Prod.fst a0=3)) (qe (qgf D (Prod.fst (Prod.snd a0))) fun b↦some ((bif Prod.fst (Prod.fst b) then decide (Prod.fst (Prod.snd (Prod.snd a0))=0) else false,()),())) (br (decide (Prod.fst a0=5)) (br (decide (Prod.fst a0=5)) (br (decide (Prod.fst (Prod.snd a0)=0)) (qe (qbw D (Prod.fst (Prod.snd (Prod.snd a0)))) fun b↦some ((Prod.fst (Prod.fst b),()),())) (some ((false,()),()))) (br (decide (Prod.fst a0=6)) (qe (qdy D (Prod.fst (Prod.snd a0))) fun b↦some ((bif Prod.fst (Prod.fst b) then decide (Prod.fst (Prod.snd (Prod.snd a0))=0) else false,()),())) (br (decide (Prod.fst a0=7)) (br (decide (Prod.fst a0=7)) (some ((bif decide (Prod.fst (Prod.snd a0)=0) then decide (Prod.fst (Prod.snd (Prod.snd a0))=0) else false,()),())) (some ((false,()),()))) (br (decide (Prod.fst a0=8)) (br (decide (Prod.fst a0=8)) (some ((bif decide (Prod.fst (Prod.snd a0)=0) then decide (Prod.fst (Prod.snd (Prod.snd a0))=0) else false,()),())) (some ((false,()),()))) (br (decide (Prod.fst a0=9)) (some ((bif decide (Prod.fst (Prod.snd a0)=0) then decide (Prod.fst (Prod.snd (Prod.snd a0))=0) else false,()),())) (some ((false,()),()))))))) (br (decide (Prod.fst a0=10)) (br (decide (Prod.fst (Prod.snd a0)=0)) (qe (qbw D (Prod.fst (Prod.snd (Prod.snd a0)))) fun b↦some ((Prod.fst (Prod.fst b),()),())) (some ((false,()),()))) (br (decide (Prod.fst a0=6)) (qe (qdy D (Prod.fst (Prod.snd a0))) fun b↦some ((bif Prod.fst (Prod.fst b) then decide (Prod.fst (Prod.snd (Prod.snd a0))=0) else false,()),())) (br (decide (Prod.fst a0=7)) (br (decide (Prod.fst a0=7)) (some ((bif decide (Prod.fst (Prod.snd a0)=0) then decide (Prod.fst (Prod.snd (Prod.snd a0))=0) else false,()),())) (some ((false,()),()))) (br (decide (Prod.fst a0=8)) (br (decide (Prod.fst a0=8)) (some ((bif decide (Prod.fst (Prod.snd a0)=0) then decide (Prod.fst (Prod.snd (Prod.snd a0))=0) else false,()),())) (some ((false,()),()))) (br (decide (Prod.fst a0=9)) (some ((bif decide (Prod.fst (Prod.snd a0)=0) then decide (Prod.fst (Prod.snd (Prod.snd a0))=0) else false,()),())) (some ((false,()),()))))))))) (br (decide (Prod.fst a0=4)) (qe (qgf D (Prod.fst (Prod.snd a0))) fun b↦some ((bif Prod.fst (Prod.fst b) then decide (Prod.fst (Prod.snd (Prod.snd a0))=0) else false,()),())) (br (decide (Prod.fst a0=5)) (br (decide (Prod.fst a0=5)) (br (decide (Prod.fst (Prod.snd a0)=0)) (qe (qbw D (Prod.fst (Prod.snd (Prod.snd a0)))) fun b↦some ((Prod.fst (Prod.fst b),()),())) (some ((false,()),()))) (br (decide (Prod.fst a0=6)) (qe (qdy D (Prod.fst (Prod.snd a0))) fun b↦some ((bif Prod.fst (Prod.fst b) then decide (Prod.fst (Prod.snd (Prod.snd a0))=0) else false,()),())) (br (decide (Prod.fst a0=7)) (br (decide (Prod.fst a0=7)) (some ((bif decide (Prod.fst (Prod.snd a0)=0) then decide (Prod.fst (Prod.snd (Prod.snd a0))=0) else false,()),())) (some ((false,()),()))) (br (decide (Prod.fst a0=8)) (br (decide (Prod.fst a0=8)) (some ((bif decide (Prod.fst (Prod.snd a0)=0) then decide (Prod.fst (Prod.snd (Prod.snd a0))=0) else false,()),())) (some ((false,()),()))) (br (decide (Prod.fst a0=9)) (some ((bif decide (Prod.fst (Prod.snd a0)=0) then decide (Prod.fst (Prod.snd (Prod.snd a0))=0) else false,()),())) (some ((false,()),()))))))) (br (decide (Prod.fst a0=10)) (br (decide (Prod.fst (Prod.snd a0)=0)) (qe (qbw D (Prod.fst (Prod.snd (Prod.snd a0)))) fun b↦some ((Prod.fst (Prod.fst b),()),())) (some ((false,()),()))) (br (decide (Prod.fst a0=6)) (qe (qdy D (Prod.fst (Prod.snd a0))) fun b↦some ((bif Prod.fst (Prod.fst b) then decide (Prod.fst (Prod.snd (Prod.snd a0))=0) else false,()),())) (br (decide (Prod.fst a0=7)) (br (decide (Prod.fst a0=7)) (some ((bif decide (Prod.fst (Prod.snd a0)=0) then decide (Prod.fst (Prod.snd (Prod.snd a0))=0) else false,()),())) (some ((false,()),()))) (br (decide (Prod.fst a0=8)) (br (decide (Prod.fst a0=8)) (some ((bif decide (Prod.fst (Prod.snd a0)=0) then decide (Prod.fst (Prod.snd (Prod.snd a0))=0) else false,()),())) (some ((false,()),()))) (br (decide (Prod.fst a0=9)) (some ((bif decide (Prod.fst (Prod.snd a0)=0) then decide (Prod.fst (Prod.snd (Prod.snd a0))=0) else false,()),())) (some ((false,()),())))))))))))
def qyn (D:DX)(n:Nat) (a0:Int×Int×Int×Unit):Option ((Bool×Unit)×Unit):=q32 D n a0
theorem qbfh (D:DX)(n:Nat) (a0:Int×Int×Int×Unit):rfC qd D n 24 (a0,())=qyn D n a0:=by kernel_rfl

def qqj (D:DX)(n:Nat) (go:List Int→Int→Int→List Int×Int×Unit→List Int→Option ((List Int×Unit)×Unit)) (K0:List Int×Int×Unit→List Int→Option ((List Int×Unit)×Unit)) (x0:List Int) (x1:Int) (x2:Int) (x3:List Int×Int×Unit) (x4:List Int):Option ((List Int×Unit)×Unit):=br (decide (x2<x1)) (br (decide (0≤x2)&&decide (x2<(↑(List.length x0):Int))) (br (decide (List.getD x0 (Int.toNat x2) 0=0)) (go x0 x1 (IntKind.wrap IntKind.i64 (x2+1)) x3 x4) (qe (qc4 D (List.getD x0 (Int.toNat x2) 0)) fun b↦br (decide (0≤Prod.fst (Prod.fst b))&&decide (Prod.fst (Prod.fst b)<(↑(List.length x4):Int))) (qe (qcn D (List.getD x0 (Int.toNat x2) 0)) fun b_1↦qe (qc2 D (Prod.fst (Prod.fst b_1))) fun b_2↦br (decide (0≤Prod.fst (Prod.fst b_2))&&decide (Prod.fst (Prod.fst b_2)<(↑(List.length (List.set x4 (Int.toNat (Prod.fst (Prod.fst b))) (IntKind.wrap IntKind.i64 (x2+1)))):Int))) (br (decide (0≤Prod.fst (Prod.fst b_2))&&decide (Prod.fst (Prod.fst b_2)<(↑(List.length (List.set x4 (Int.toNat (Prod.fst (Prod.fst b))) (IntKind.wrap IntKind.i64 (x2+1)))):Int))) (br (decide (x2<IntKind.wrap IntKind.i64 (Prod.fst (Prod.snd x3) - 1))) (qe (qcj D (List.getD x0 (Int.toNat x2) 0)) fun b_3↦br (decide (0≤Prod.fst (Prod.fst b_3))&&decide (Prod.fst (Prod.fst b_3)<(↑(List.length (List.set (List.set x4 (Int.toNat (Prod.fst (Prod.fst b))) (IntKind.wrap IntKind.i64 (x2+1))) (Int.toNat (Prod.fst (Prod.fst b_2))) (IntKind.wrap IntKind.i64 (List.getD (List.set x4 (Int.toNat (Prod.fst (Prod.fst b))) (IntKind.wrap IntKind.i64 (x2+1))) (Int.toNat (Prod.fst (Prod.fst b_2))) 0+1)))):Int))) (go x0 x1 (IntKind.wrap IntKind.i64 (x2+1)) x3 (List.set (List.set (List.set x4 (Int.toNat (Prod.fst (Prod.fst b))) (IntKind.wrap IntKind.i64 (x2+1))) (Int.toNat (Prod.fst (Prod.fst b_2))) (IntKind.wrap IntKind.i64 (List.getD (List.set x4 (Int.toNat (Prod.fst (Prod.fst b))) (IntKind.wrap IntKind.i64 (x2+1))) (Int.toNat (Prod.fst (Prod.fst b_2))) 0+1))) (Int.toNat (Prod.fst (Prod.fst b_3))) (IntKind.wrap IntKind.i64 (x2+1)))) none) (go x0 x1 (IntKind.wrap IntKind.i64 (x2+1)) x3 (List.set (List.set x4 (Int.toNat (Prod.fst (Prod.fst b))) (IntKind.wrap IntKind.i64 (x2+1))) (Int.toNat (Prod.fst (Prod.fst b_2))) (IntKind.wrap IntKind.i64 (List.getD (List.set x4 (Int.toNat (Prod.fst (Prod.fst b))) (IntKind.wrap IntKind.i64 (x2+1))) (Int.toNat (Prod.fst (Prod.fst b_2))) 0+1))))) none) none) none)) none) (K0 x3 x4)
def qhr (D:DX)(n:Nat) (K0:List Int×Int×Unit→List Int→Option ((List Int×Unit)×Unit)):Nat→(List Int)→(Int)→(Int)→(List Int×Int×Unit)→(List Int)→Option ((List Int×Unit)×Unit) | 0=>(fun x0 x1 x2 x3 x4=>none) | m+1=>(fun x0 x1 x2 x3 x4=>qqj D n (qhr D n K0 m) K0 x0 x1 x2 x3 x4)
def qkk (D:DX)(n:Nat) (v0_0:List Int×Int×Unit) (v0_1:List Int):Option ((List Int×Unit)×Unit):=qe (qbn D) fun b↦br (decide (0≤Prod.fst (Prod.fst b))&&decide (Prod.fst (Prod.fst b)<(↑(List.length v0_1):Int))) (some ((List.set v0_1 (Int.toNat (Prod.fst (Prod.fst b))) (Prod.fst (Prod.snd v0_0)),()),())) none
def qpv (D:DX)(n:Nat):(List Int)→(Int)→(Int)→(List Int×Int×Unit)→(List Int)→Option ((List Int×Unit)×Unit):=(fun x0 x1 x2 x3 x4=>qhr D n (fun v0_0 v0_1=>qkk D n v0_0 v0_1) n x0 x1 x2 x3 x4)
def qrn (D:DX)(n:Nat) (lp0:List Int→Int→Int→List Int×Int×Unit→List Int→Option ((List Int×Unit)×Unit)) (a0:List Int×Int×Unit):Option ((List Int×Unit)×Unit):=qe (qmj D a0) fun b↦br (!Prod.fst (Prod.fst b)) (some (([],()),())) (br (decide (0<List.length (Prod.fst a0))&&decide (0<List.length (List.replicate (Int.toNat 20) 0))) (lp0 (Prod.fst a0) (↑(List.length (Prod.fst a0)):Int) 0 a0 (qmc (Ty.int IntKind.i64) (List.replicate (Int.toNat 20) 0) (Prod.fst a0))) (lp0 (Prod.fst a0) (↑(List.length (Prod.fst a0)):Int) 0 a0 (List.replicate (Int.toNat 20) 0)))
def qrs (D:DX)(n:Nat) (a0:List Int×Int×Unit):Option ((List Int×Unit)×Unit):=qrn D n (qpv D n) a0
def qhw (x0:List Int) (x1:Int) (x2:Int) (x3:List Int×Int×Unit) (x4:List Int):St:=stq 56 [(1,AV.addr 1 []),(3,AV.brw 3 [] 0),(15,AV.val (Ty.sl yI) x0),(16,avI x1),(17,avI x2)] [(1,Root.mk (Ty.pair (Ty.sl yI) (Ty.pair yI Ty.unit)) Mk.no x3 true),(3,Root.mk (Ty.sl yI) (Mk.own 0 Mk.no) x4 false)] 
def qkp (v0_0:List Int×Int×Unit) (v0_1:List Int):St:=stq 56 [(1,AV.addr 1 []),(3,AV.brw 3 [] 0)] [(1,Root.mk (Ty.pair (Ty.sl yI) (Ty.pair yI Ty.unit)) Mk.no v0_0 true),(3,Root.mk (Ty.sl yI) (Mk.own 0 Mk.no) v0_1 false)] 
theorem q40 (D:DX)(n:Nat) (m:Nat) (K:Ex→St→Option (Out ctx 25)) (x0:List Int) (x1:Int) (x2:Int) (x3:List Int×Int×Unit) (x4:List Int) :
 LQ qd D n 25 [.r,.r,.r,.r,.l,.r,.l] (m+1) (qhw x0 x1 x2 x3 x4) K=qqj D n (fun x0 x1 x2 x3 x4=>LQ qd D n 25 [.r,.r,.r,.r,.l,.r,.l] m (qhw x0 x1 x2 x3 x4) K) (fun v0_0 v0_1=>K (Ex.exit 0) (qkp v0_0 v0_1)) x0 x1 x2 x3 x4:=by kernel_rfl
theorem qwg (D:DX)(n:Nat) (K:Ex→St→Option (Out ctx 25)):∀ (m:Nat) (x0:List Int) (x1:Int) (x2:Int) (x3:List Int×Int×Unit) (x4:List Int),LQ qd D n 25 [.r,.r,.r,.r,.l,.r,.l] m (qhw x0 x1 x2 x3 x4) K=qhr D n (fun v0_0 v0_1=>K (Ex.exit 0) (qkp v0_0 v0_1)) m x0 x1 x2 x3 x4
 | 0,x0,x1,x2,x3,x4=>qcb ..
 | m+1,x0,x1,x2,x3,x4=>by
  have ih:(fun x0 x1 x2 x3 x4=>LQ qd D n 25 [.r,.r,.r,.r,.l,.r,.l] m (qhw x0 x1 x2 x3 x4) K)=qhr D n (fun v0_0 v0_1=>K (Ex.exit 0) (qkp v0_0 v0_1)) m:=by funext x0 x1 x2 x3 x4;exact qwg D n K m x0 x1 x2 x3 x4
  rw[q40]
  rw[ih];rfl
theorem q3c (D:DX)(n:Nat) (v0_0:List Int×Int×Unit) (v0_1:List Int) :
 (CQ qd D n 25 [] [.r,.r,.r,.r,.l,.r,.l] (qu qd 25)) (Ex.exit 0) (qkp v0_0 v0_1)=qkk D n v0_0 v0_1:=by kernel_rfl
theorem q3k (D:DX)(n:Nat) (x0:List Int) (x1:Int) (x2:Int) (x3:List Int×Int×Unit) (x4:List Int) :
 LQ qd D n 25 [.r,.r,.r,.r,.l,.r,.l] n (qhw x0 x1 x2 x3 x4) (CQ qd D n 25 [] [.r,.r,.r,.r,.l,.r,.l] (qu qd 25))=qpv D n x0 x1 x2 x3 x4:=by
 rw[qwg]
 simp only[q3c]
 rfl
theorem q9i (D:DX)(n:Nat) (a0:List Int×Int×Unit):rfC qd D n 25 (a0,())=qrs D n a0:=by
 have h:rfC qd D n 25 (a0,())=qrn D n (fun x0 x1 x2 x3 x4=>LQ qd D n 25 [.r,.r,.r,.r,.l,.r,.l] n (qhw x0 x1 x2 x3 x4) (CQ qd D n 25 [] [.r,.r,.r,.r,.l,.r,.l] (qu qd 25))) a0:=by kernel_rfl
 rw[h]
 simp only[q3k]
 rfl

def quq (D:DX)(n:Nat) (go:List Int→Int→Int→Option ((tCur×Unit)×Unit)) (K0:List Int→Int→Option ((tCur×Unit)×Unit)) (x0:List Int) (x1:Int) (x2:Int):Option ((tCur×Unit)×Unit):=br (bif decide (x2<(↑(List.length x0):Int)) then decide (x2<4000) else false) (br (decide (0≤x2)&&decide (x2<(↑(List.length x0):Int))) (go x0 (IntKind.wrap IntKind.i64 (↑(BitVec.toNat (BitVec.and (BitVec.ofInt (IntKind.bits IntKind.i64) (IntKind.wrap IntKind.i64 (IntKind.wrap IntKind.i64 (IntKind.wrap IntKind.i64 (x1 * 131)+IntKind.wrap IntKind.i64 (List.getD x0 (Int.toNat x2) 0))+7))) (BitVec.ofInt (IntKind.bits IntKind.i64) 1073741823))):Int)) (IntKind.wrap IntKind.i64 (x2+1))) none) (K0 x0 x1)
def qjk (D:DX)(n:Nat) (K0:List Int→Int→Option ((tCur×Unit)×Unit)):Nat→(List Int)→(Int)→(Int)→Option ((tCur×Unit)×Unit) | 0=>(fun x0 x1 x2=>none) | m+1=>(fun x0 x1 x2=>quq D n (qjk D n K0 m) K0 x0 x1 x2)
def qqe (D:DX)(n:Nat) (v0_0:List Int) (v0_1:Int):Option ((tCur×Unit)×Unit):=some (((v0_0,0,v0_1,()),()),())
def qr8 (D:DX)(n:Nat):(List Int)→(Int)→(Int)→Option ((tCur×Unit)×Unit):=(fun x0 x1 x2=>qjk D n (fun v0_0 v0_1=>qqe D n v0_0 v0_1) n x0 x1 x2)
def qv5 (D:DX)(n:Nat) (lp0:List Int→Int→Int→Option ((tCur×Unit)×Unit)) (a0:List Int):Option ((tCur×Unit)×Unit):=lp0 a0 (IntKind.wrap IntKind.i64 (27323+(↑(List.length a0):Int))) 0
def qwc (D:DX)(n:Nat) (a0:List Int):Option ((tCur×Unit)×Unit):=qv5 D n (qr8 D n) a0
def qjq (x0:List Int) (x1:Int) (x2:Int):St:=stq 32 [(0,AV.val (Ty.sl (Ty.int IntKind.u8)) x0),(3,avI x1),(4,avI x2)] [] 
def qm8 (v0_0:List Int) (v0_1:Int):St:=stq 32 [(0,AV.val (Ty.sl (Ty.int IntKind.u8)) v0_0),(3,avI v0_1)] [] 
theorem q7t (D:DX)(n:Nat) (m:Nat) (K:Ex→St→Option (Out ctx 26)) (x0:List Int) (x1:Int) (x2:Int) :
 LQ qd D n 26 [.r,.r,.l,.r,.l] (m+1) (qjq x0 x1 x2) K=quq D n (fun x0 x1 x2=>LQ qd D n 26 [.r,.r,.l,.r,.l] m (qjq x0 x1 x2) K) (fun v0_0 v0_1=>K (Ex.exit 0) (qm8 v0_0 v0_1)) x0 x1 x2:=by kernel_rfl
theorem qz0 (D:DX)(n:Nat) (K:Ex→St→Option (Out ctx 26)):∀ (m:Nat) (x0:List Int) (x1:Int) (x2:Int),LQ qd D n 26 [.r,.r,.l,.r,.l] m (qjq x0 x1 x2) K=qjk D n (fun v0_0 v0_1=>K (Ex.exit 0) (qm8 v0_0 v0_1)) m x0 x1 x2
 | 0,x0,x1,x2=>qcb ..
 | m+1,x0,x1,x2=>by
  have ih:(fun x0 x1 x2=>LQ qd D n 26 [.r,.r,.l,.r,.l] m (qjq x0 x1 x2) K)=qjk D n (fun v0_0 v0_1=>K (Ex.exit 0) (qm8 v0_0 v0_1)) m:=by funext x0 x1 x2;exact qz0 D n K m x0 x1 x2
  rw[q7t]
  rw[ih];rfl
theorem q7b (D:DX)(n:Nat) (v0_0:List Int) (v0_1:Int) :
 (CQ qd D n 26 [] [.r,.r,.l,.r,.l] (qu qd 26)) (Ex.exit 0) (qm8 v0_0 v0_1)=qqe D n v0_0 v0_1:=by kernel_rfl
theorem q6q (D:DX)(n:Nat) (x0:List Int) (x1:Int) (x2:Int) :
 LQ qd D n 26 [.r,.r,.l,.r,.l] n (qjq x0 x1 x2) (CQ qd D n 26 [] [.r,.r,.l,.r,.l] (qu qd 26))=qr8 D n x0 x1 x2:=by
 rw[qz0]
 simp only[q7b]
 rfl
theorem qbdn (D:DX)(n:Nat) (a0:List Int):rfC qd D n 26 (a0,())=qwc D n a0:=by
 have h:rfC qd D n 26 (a0,())=qv5 D n (fun x0 x1 x2=>LQ qd D n 26 [.r,.r,.l,.r,.l] n (qjq x0 x1 x2) (CQ qd D n 26 [] [.r,.r,.l,.r,.l] (qu qd 26))) a0:=by kernel_rfl
 rw[h]
 simp only[q6q]
 rfl

def qmu (D:DX)(n:Nat) (go:Int→List Int×Int×Int×Unit→List Int×Int×Unit→List Int×Int×Unit→Option (((List Int×Int×Unit)×Unit)×tCur×Unit)) (K0:List Int×Int×Int×Unit→List Int×Int×Unit→List Int×Int×Unit→Option (((List Int×Int×Unit)×Unit)×tCur×Unit)) (x0:Int) (x1:List Int×Int×Int×Unit) (x2:List Int×Int×Unit) (x3:List Int×Int×Unit):Option (((List Int×Int×Unit)×Unit)×tCur×Unit):=br (decide (x0<4)) (qe (qdr D x1 7) fun b↦qe (qqk D (Prod.fst x3,Prod.snd x3) (Prod.fst (Prod.fst b))) fun b_1↦br (decide (Prod.fst (Prod.fst b_1)<0)) (br (decide (0≤x0)&&decide (x0<(↑(List.length (Prod.fst x3)):Int))) (go (IntKind.wrap IntKind.i64 (x0+1)) (Prod.fst (Prod.snd b)) x2 (List.set (Prod.fst x3) (Int.toNat x0) (Prod.fst (Prod.fst b)),Prod.snd x3)) none) (go (IntKind.wrap IntKind.i64 (x0+1)) (Prod.fst (Prod.snd b)) x2 x3)) (K0 x1 x2 x3)
def qfe (D:DX)(n:Nat) (K0:List Int×Int×Int×Unit→List Int×Int×Unit→List Int×Int×Unit→Option (((List Int×Int×Unit)×Unit)×tCur×Unit)):Nat→(Int)→tCur→(List Int×Int×Unit)→(List Int×Int×Unit)→Option (((List Int×Int×Unit)×Unit)×tCur×Unit) | 0=>(fun x0 x1 x2 x3=>none) | m+1=>(fun x0 x1 x2 x3=>qmu D n (qfe D n K0 m) K0 x0 x1 x2 x3)
def qhi (D:DX)(n:Nat) (v0_0:List Int×Int×Int×Unit) (v0_1:List Int×Int×Unit) (v0_2:List Int×Int×Unit):Option (((List Int×Int×Unit)×Unit)×tCur×Unit):=qe (ql0 D v0_0 [0,0,1,3,5]) fun b↦some (((Prod.fst v0_2,Prod.fst (Prod.fst b),Prod.snd (Prod.snd v0_2)),()),Prod.fst (Prod.snd b),())
def ql9 (D:DX)(n:Nat):(Int)→tCur→(List Int×Int×Unit)→(List Int×Int×Unit)→Option (((List Int×Int×Unit)×Unit)×tCur×Unit):=(fun x0 x1 x2 x3=>qfe D n (fun v0_0 v0_1 v0_2=>qhi D n v0_0 v0_1 v0_2) n x0 x1 x2 x3)
def qnm (D:DX)(n:Nat) (lp0:Int→List Int×Int×Int×Unit→List Int×Int×Unit→List Int×Int×Unit→Option (((List Int×Int×Unit)×Unit)×tCur×Unit)) (a0:List Int×Int×Int×Unit):Option (((List Int×Int×Unit)×Unit)×tCur×Unit):=qe (qsn D) fun b↦lp0 0 a0 ([],0,()) (Prod.fst (Prod.fst (Prod.fst b)),Prod.snd (Prod.fst (Prod.fst b)))
def qn4 (D:DX)(n:Nat) (a0:List Int×Int×Int×Unit):Option (((List Int×Int×Unit)×Unit)×tCur×Unit):=qnm D n (ql9 D n) a0
def qfb (x0:Int) (x1:List Int×Int×Int×Unit) (x2:List Int×Int×Unit) (x3:List Int×Int×Unit):St:=stq 27 [(0,AV.addr 0 []),(2,AV.addr 2 []),(3,AV.addr 3 []),(4,avI x0)] [(0,Root.mk (Ty.pair (Ty.sl (Ty.int IntKind.u8)) (Ty.pair yI (Ty.pair yI Ty.unit))) Mk.no x1 true),(2,Root.mk (Ty.pair (Ty.sl yI) (Ty.pair yI Ty.unit)) (Mk.pr (Mk.own 0 Mk.no) Mk.no) x2 true),(3,Root.mk (Ty.pair (Ty.sl yI) (Ty.pair yI Ty.unit)) (Mk.pr (Mk.own 0 Mk.no) Mk.no) x3 true)] 
def qhh (v0_0:List Int×Int×Int×Unit) (v0_1:List Int×Int×Unit) (v0_2:List Int×Int×Unit):St:=stq 27 [(0,AV.addr 0 []),(2,AV.addr 2 []),(3,AV.addr 3 [])] [(0,Root.mk (Ty.pair (Ty.sl (Ty.int IntKind.u8)) (Ty.pair yI (Ty.pair yI Ty.unit))) Mk.no v0_0 true),(2,Root.mk (Ty.pair (Ty.sl yI) (Ty.pair yI Ty.unit)) (Mk.pr (Mk.own 0 Mk.no) Mk.no) v0_1 true),(3,Root.mk (Ty.pair (Ty.sl yI) (Ty.pair yI Ty.unit)) (Mk.pr (Mk.own 0 Mk.no) Mk.no) v0_2 true)] 
theorem q0a (D:DX)(n:Nat) (m:Nat) (K:Ex→St→Option (Out ctx 27)) (x0:Int) (x1:List Int×Int×Int×Unit) (x2:List Int×Int×Unit) (x3:List Int×Int×Unit) :
 LQ qd D n 27 [.r,.r,.l,.r,.l] (m+1) (qfb x0 x1 x2 x3) K=qmu D n (fun x0 x1 x2 x3=>LQ qd D n 27 [.r,.r,.l,.r,.l] m (qfb x0 x1 x2 x3) K) (fun v0_0 v0_1 v0_2=>K (Ex.exit 0) (qhh v0_0 v0_1 v0_2)) x0 x1 x2 x3:=by kernel_rfl
theorem qq1 (D:DX)(n:Nat) (K:Ex→St→Option (Out ctx 27)):∀ (m:Nat) (x0:Int) (x1:List Int×Int×Int×Unit) (x2:List Int×Int×Unit) (x3:List Int×Int×Unit),LQ qd D n 27 [.r,.r,.l,.r,.l] m (qfb x0 x1 x2 x3) K=qfe D n (fun v0_0 v0_1 v0_2=>K (Ex.exit 0) (qhh v0_0 v0_1 v0_2)) m x0 x1 x2 x3
 | 0,x0,x1,x2,x3=>qcb ..
 | m+1,x0,x1,x2,x3=>by
  have ih:(fun x0 x1 x2 x3=>LQ qd D n 27 [.r,.r,.l,.r,.l] m (qfb x0 x1 x2 x3) K)=qfe D n (fun v0_0 v0_1 v0_2=>K (Ex.exit 0) (qhh v0_0 v0_1 v0_2)) m:=by funext x0 x1 x2 x3;exact qq1 D n K m x0 x1 x2 x3
  rw[q0a]
  rw[ih];rfl
theorem qy6 (D:DX)(n:Nat) (v0_0:List Int×Int×Int×Unit) (v0_1:List Int×Int×Unit) (v0_2:List Int×Int×Unit) :
 (CQ qd D n 27 [] [.r,.r,.l,.r,.l] (qu qd 27)) (Ex.exit 0) (qhh v0_0 v0_1 v0_2)=qhi D n v0_0 v0_1 v0_2:=by kernel_rfl
theorem qzf (D:DX)(n:Nat) (x0:Int) (x1:List Int×Int×Int×Unit) (x2:List Int×Int×Unit) (x3:List Int×Int×Unit) :
 LQ qd D n 27 [.r,.r,.l,.r,.l] n (qfb x0 x1 x2 x3) (CQ qd D n 27 [] [.r,.r,.l,.r,.l] (qu qd 27))=ql9 D n x0 x1 x2 x3:=by
 rw[qq1]
 simp only[qy6]
 rfl
theorem q1g (D:DX)(n:Nat) (a0:List Int×Int×Int×Unit):rfC qd D n 27 (a0,())=qn4 D n a0:=by
 have h:rfC qd D n 27 (a0,())=qnm D n (fun x0 x1 x2 x3=>LQ qd D n 27 [.r,.r,.l,.r,.l] n (qfb x0 x1 x2 x3) (CQ qd D n 27 [] [.r,.r,.l,.r,.l] (qu qd 27))) a0:=by kernel_rfl
 rw[h]
 simp only[qzf]
 rfl

def qtw (D:DX)(n:Nat) (a0:List Int×Int×Int×Unit):Option (((Int×Int×Int×Unit)×Unit)×tCur×Unit):=qe (ql0 D a0 (List.set (List.set (List.set (List.set (List.set (List.set (List.set (List.set (List.set (List.set (List.set (List.set (List.set (List.set (List.replicate 14 0) 0 1) 1 1) 2 1) 3 2) 4 2) 5 3) 6 4) 7 5) 8 6) 9 7) 10 8) 11 9) 12 9) 13 10)) fun b↦qe (qp7 D (Prod.fst (Prod.fst b))) fun b_1↦br (Prod.fst (Prod.fst b_1)) (qe (qdr D (Prod.fst (Prod.snd b)) 4) fun b_2↦br (decide (Prod.fst (Prod.fst b)=6)) (qe (qdr D (Prod.fst (Prod.snd b_2)) 3) fun b_3↦qe (qfm D (Prod.fst (Prod.fst b))) fun b_4↦br (Prod.fst (Prod.fst b_4)) (qe (qdr D (Prod.fst (Prod.snd b_3)) 4) fun b_5↦some (((Prod.fst (Prod.fst b),Prod.fst (Prod.fst b_3),IntKind.wrap IntKind.i64 (1+Prod.fst (Prod.fst b_5)),()),()),Prod.fst (Prod.snd b_5),())) (some (((Prod.fst (Prod.fst b),Prod.fst (Prod.fst b_3),0,()),()),Prod.fst (Prod.snd b_3),()))) (qe (qfm D (Prod.fst (Prod.fst b))) fun b_3↦br (Prod.fst (Prod.fst b_3)) (qe (qdr D (Prod.fst (Prod.snd b_2)) 4) fun b_4↦some (((Prod.fst (Prod.fst b),Prod.fst (Prod.fst b_2),IntKind.wrap IntKind.i64 (1+Prod.fst (Prod.fst b_4)),()),()),Prod.fst (Prod.snd b_4),())) (some (((Prod.fst (Prod.fst b),Prod.fst (Prod.fst b_2),0,()),()),Prod.fst (Prod.snd b_2),())))) (br (decide (Prod.fst (Prod.fst b)=6)) (qe (qdr D (Prod.fst (Prod.snd b)) 3) fun b_2↦qe (qfm D (Prod.fst (Prod.fst b))) fun b_3↦br (Prod.fst (Prod.fst b_3)) (qe (qdr D (Prod.fst (Prod.snd b_2)) 4) fun b_4↦some (((Prod.fst (Prod.fst b),Prod.fst (Prod.fst b_2),IntKind.wrap IntKind.i64 (1+Prod.fst (Prod.fst b_4)),()),()),Prod.fst (Prod.snd b_4),())) (some (((Prod.fst (Prod.fst b),Prod.fst (Prod.fst b_2),0,()),()),Prod.fst (Prod.snd b_2),()))) (qe (qfm D (Prod.fst (Prod.fst b))) fun b_2↦br (Prod.fst (Prod.fst b_2)) (qe (qdr D (Prod.fst (Prod.snd b)) 4) fun b_3↦some (((Prod.fst (Prod.fst b),0,IntKind.wrap IntKind.i64 (1+Prod.fst (Prod.fst b_3)),()),()),Prod.fst (Prod.snd b_3),())) (some (((Prod.fst (Prod.fst b),0,0,()),()),Prod.fst (Prod.snd b),()))))
def qnc (D:DX)(n:Nat) (a0:List Int×Int×Int×Unit):Option (((Int×Int×Int×Unit)×Unit)×tCur×Unit):=qtw D n a0
theorem q1y (D:DX)(n:Nat) (a0:List Int×Int×Int×Unit):rfC qd D n 28 (a0,())=qnc D n a0:=by kernel_rfl

def qrd (D:DX)(n:Nat) (go:Int→List Int×Int×Unit→List Int→Option ((List Int×Unit)×Unit)) (K0:List Int×Int×Unit→List Int→Option ((List Int×Unit)×Unit)) (x0:Int) (x1:List Int×Int×Unit) (x2:List Int):Option ((List Int×Unit)×Unit):=br (decide (x0<4)) (br (decide (0≤x0)&&decide (x0<(↑(List.length (Prod.fst x1)):Int))) (qe (qcd D x0) fun b↦br (decide (0≤Prod.fst (Prod.fst b))&&decide (Prod.fst (Prod.fst b)<(↑(List.length x2):Int))) (br (decide (List.getD (Prod.fst x1) (Int.toNat x0) 0=0)) (go (IntKind.wrap IntKind.i64 (x0+1)) x1 (List.set x2 (Int.toNat (Prod.fst (Prod.fst b))) (List.getD (Prod.fst x1) (Int.toNat x0) 0))) (qe (qce D (List.getD (Prod.fst x1) (Int.toNat x0) 0)) fun b_1↦br (decide (0≤Prod.fst (Prod.fst b_1))&&decide (Prod.fst (Prod.fst b_1)<(↑(List.length (List.set x2 (Int.toNat (Prod.fst (Prod.fst b))) (List.getD (Prod.fst x1) (Int.toNat x0) 0))):Int))) (br (decide (x0<IntKind.wrap IntKind.i64 (Prod.fst (Prod.snd x1) - 1))) (qe (qc8 D (List.getD (Prod.fst x1) (Int.toNat x0) 0)) fun b_2↦br (decide (0≤Prod.fst (Prod.fst b_2))&&decide (Prod.fst (Prod.fst b_2)<(↑(List.length (List.set (List.set x2 (Int.toNat (Prod.fst (Prod.fst b))) (List.getD (Prod.fst x1) (Int.toNat x0) 0)) (Int.toNat (Prod.fst (Prod.fst b_1))) (IntKind.wrap IntKind.i64 (x0+1)))):Int))) (go (IntKind.wrap IntKind.i64 (x0+1)) x1 (List.set (List.set (List.set x2 (Int.toNat (Prod.fst (Prod.fst b))) (List.getD (Prod.fst x1) (Int.toNat x0) 0)) (Int.toNat (Prod.fst (Prod.fst b_1))) (IntKind.wrap IntKind.i64 (x0+1))) (Int.toNat (Prod.fst (Prod.fst b_2))) (IntKind.wrap IntKind.i64 (x0+1)))) none) (go (IntKind.wrap IntKind.i64 (x0+1)) x1 (List.set (List.set x2 (Int.toNat (Prod.fst (Prod.fst b))) (List.getD (Prod.fst x1) (Int.toNat x0) 0)) (Int.toNat (Prod.fst (Prod.fst b_1))) (IntKind.wrap IntKind.i64 (x0+1))))) none)) none) none) (K0 x1 x2)
def qhu (D:DX)(n:Nat) (K0:List Int×Int×Unit→List Int→Option ((List Int×Unit)×Unit)):Nat→(Int)→(List Int×Int×Unit)→(List Int)→Option ((List Int×Unit)×Unit) | 0=>(fun x0 x1 x2=>none) | m+1=>(fun x0 x1 x2=>qrd D n (qhu D n K0 m) K0 x0 x1 x2)
def qql (D:DX)(n:Nat) (go:Int→List Int×Int×Unit→List Int→Option ((List Int×Unit)×Unit)) (K0:List Int×Int×Unit→List Int→Option ((List Int×Unit)×Unit)) (x1_0:Int) (x1_1:List Int×Int×Unit) (x1_2:List Int):Option ((List Int×Unit)×Unit):=br (decide (x1_0<3)) (qe (qeh D x1_0) fun b↦qe (qs6 D x1_1 x1_0) fun b_1↦br (decide (0≤Prod.fst (Prod.fst b))&&decide (Prod.fst (Prod.fst b)<(↑(List.length x1_2):Int))) (go (IntKind.wrap IntKind.i64 (x1_0+1)) x1_1 (List.set x1_2 (Int.toNat (Prod.fst (Prod.fst b))) (Prod.fst (Prod.fst b_1)))) none) (K0 x1_1 x1_2)
def qho (D:DX)(n:Nat) (K0:List Int×Int×Unit→List Int→Option ((List Int×Unit)×Unit)):Nat→(Int)→(List Int×Int×Unit)→(List Int)→Option ((List Int×Unit)×Unit) | 0=>(fun x1_0 x1_1 x1_2=>none) | m+1=>(fun x1_0 x1_1 x1_2=>qql D n (qho D n K0 m) K0 x1_0 x1_1 x1_2)
def qku (D:DX)(n:Nat) (v0_0:List Int×Int×Unit) (v0_1:List Int):Option ((List Int×Unit)×Unit):=qe (qb6 D) fun b↦br (decide (0≤Prod.fst (Prod.fst b))&&decide (Prod.fst (Prod.fst b)<(↑(List.length v0_1):Int))) (some ((List.set v0_1 (Int.toNat (Prod.fst (Prod.fst b))) (Prod.fst (Prod.snd v0_0)),()),())) none
def ql5 (D:DX)(n:Nat):(Int)→(List Int×Int×Unit)→(List Int)→Option ((List Int×Unit)×Unit):=(fun x1_0 x1_1 x1_2=>qho D n (fun v0_0 v0_1=>qku D n v0_0 v0_1) n x1_0 x1_1 x1_2)
def qks (D:DX)(n:Nat) (lp1:Int→List Int×Int×Unit→List Int→Option ((List Int×Unit)×Unit)) (v0_0:List Int×Int×Unit) (v0_1:List Int):Option ((List Int×Unit)×Unit):=lp1 0 v0_0 v0_1
def qpq (D:DX)(n:Nat):(Int)→(List Int×Int×Unit)→(List Int)→Option ((List Int×Unit)×Unit):=(fun x0 x1 x2=>qhu D n (fun v0_0 v0_1=>qks D n (ql5 D n) v0_0 v0_1) n x0 x1 x2)
def qsh (D:DX)(n:Nat) (lp0:Int→List Int×Int×Unit→List Int→Option ((List Int×Unit)×Unit)) (a0:List Int×Int×Unit):Option ((List Int×Unit)×Unit):=qe (quc D a0) fun b↦br (!Prod.fst (Prod.fst b)) (some (([],()),())) (lp0 0 a0 (List.replicate (Int.toNat 20) 0))
def qsp (D:DX)(n:Nat) (a0:List Int×Int×Unit):Option ((List Int×Unit)×Unit):=qsh D n (qpq D n) a0
def qhp (x0:Int) (x1:List Int×Int×Unit) (x2:List Int):St:=stq 62 [(1,AV.addr 1 []),(3,AV.brw 3 [] 0),(4,avI x0)] [(1,Root.mk (Ty.pair (Ty.sl yI) (Ty.pair yI Ty.unit)) Mk.no x1 true),(3,Root.mk (Ty.sl yI) (Mk.own 0 Mk.no) x2 false)] 
def qkr (v0_0:List Int×Int×Unit) (v0_1:List Int):St:=stq 62 [(1,AV.addr 1 []),(3,AV.brw 3 [] 0)] [(1,Root.mk (Ty.pair (Ty.sl yI) (Ty.pair yI Ty.unit)) Mk.no v0_0 true),(3,Root.mk (Ty.sl yI) (Mk.own 0 Mk.no) v0_1 false)] 
def qhm (x1_0:Int) (x1_1:List Int×Int×Unit) (x1_2:List Int):St:=stq 62 [(1,AV.addr 1 []),(3,AV.brw 3 [] 0),(6,avI x1_0)] [(1,Root.mk (Ty.pair (Ty.sl yI) (Ty.pair yI Ty.unit)) Mk.no x1_1 true),(3,Root.mk (Ty.sl yI) (Mk.own 0 Mk.no) x1_2 false)] 
def qkq (v0_0:List Int×Int×Unit) (v0_1:List Int):St:=stq 62 [(1,AV.addr 1 []),(3,AV.brw 3 [] 0)] [(1,Root.mk (Ty.pair (Ty.sl yI) (Ty.pair yI Ty.unit)) Mk.no v0_0 true),(3,Root.mk (Ty.sl yI) (Mk.own 0 Mk.no) v0_1 false)] 
theorem q42 (D:DX)(n:Nat) (m:Nat) (K:Ex→St→Option (Out ctx 29)) (x0:Int) (x1:List Int×Int×Unit) (x2:List Int) :
 LQ qd D n 29 [.r,.r,.r,.l,.r,.l] (m+1) (qhp x0 x1 x2) K=qrd D n (fun x0 x1 x2=>LQ qd D n 29 [.r,.r,.r,.l,.r,.l] m (qhp x0 x1 x2) K) (fun v0_0 v0_1=>K (Ex.exit 0) (qkr v0_0 v0_1)) x0 x1 x2:=by kernel_rfl
theorem qv7 (D:DX)(n:Nat) (K:Ex→St→Option (Out ctx 29)):∀ (m:Nat) (x0:Int) (x1:List Int×Int×Unit) (x2:List Int),LQ qd D n 29 [.r,.r,.r,.l,.r,.l] m (qhp x0 x1 x2) K=qhu D n (fun v0_0 v0_1=>K (Ex.exit 0) (qkr v0_0 v0_1)) m x0 x1 x2
 | 0,x0,x1,x2=>qcb ..
 | m+1,x0,x1,x2=>by
  have ih:(fun x0 x1 x2=>LQ qd D n 29 [.r,.r,.r,.l,.r,.l] m (qhp x0 x1 x2) K)=qhu D n (fun v0_0 v0_1=>K (Ex.exit 0) (qkr v0_0 v0_1)) m:=by funext x0 x1 x2;exact qv7 D n K m x0 x1 x2
  rw[q42]
  rw[ih];rfl
theorem q4e (D:DX)(n:Nat) (m:Nat) (K:Ex→St→Option (Out ctx 29)) (x1_0:Int) (x1_1:List Int×Int×Unit) (x1_2:List Int) :
 LQ qd D n 29 [.r,.r,.r,.r,.l,.r,.l] (m+1) (qhm x1_0 x1_1 x1_2) K=qql D n (fun x1_0 x1_1 x1_2=>LQ qd D n 29 [.r,.r,.r,.r,.l,.r,.l] m (qhm x1_0 x1_1 x1_2) K) (fun v0_0 v0_1=>K (Ex.exit 2) (qkq v0_0 v0_1)) x1_0 x1_1 x1_2:=by kernel_rfl
theorem qw3 (D:DX)(n:Nat) (K:Ex→St→Option (Out ctx 29)):∀ (m:Nat) (x1_0:Int) (x1_1:List Int×Int×Unit) (x1_2:List Int),LQ qd D n 29 [.r,.r,.r,.r,.l,.r,.l] m (qhm x1_0 x1_1 x1_2) K=qho D n (fun v0_0 v0_1=>K (Ex.exit 2) (qkq v0_0 v0_1)) m x1_0 x1_1 x1_2
 | 0,x1_0,x1_1,x1_2=>qcb ..
 | m+1,x1_0,x1_1,x1_2=>by
  have ih:(fun x1_0 x1_1 x1_2=>LQ qd D n 29 [.r,.r,.r,.r,.l,.r,.l] m (qhm x1_0 x1_1 x1_2) K)=qho D n (fun v0_0 v0_1=>K (Ex.exit 2) (qkq v0_0 v0_1)) m:=by funext x1_0 x1_1 x1_2;exact qw3 D n K m x1_0 x1_1 x1_2
  rw[q4e]
  rw[ih];rfl
theorem q3g (D:DX)(n:Nat) (v0_0:List Int×Int×Unit) (v0_1:List Int) :
 (CQ qd D n 29 [] [.r,.r,.r,.r,.l,.r,.l] (qu qd 29)) (Ex.exit 2) (qkq v0_0 v0_1)=qku D n v0_0 v0_1:=by kernel_rfl
theorem q3i (D:DX)(n:Nat) (x1_0:Int) (x1_1:List Int×Int×Unit) (x1_2:List Int) :
 LQ qd D n 29 [.r,.r,.r,.r,.l,.r,.l] n (qhm x1_0 x1_1 x1_2) (CQ qd D n 29 [] [.r,.r,.r,.r,.l,.r,.l] (qu qd 29))=ql5 D n x1_0 x1_1 x1_2:=by
 rw[qw3]
 simp only[q3g]
 rfl
theorem q29 (D:DX)(n:Nat) (v0_0:List Int×Int×Unit) (v0_1:List Int) :
 (CQ qd D n 29 [] [.r,.r,.r,.l,.r,.l] (qu qd 29)) (Ex.exit 0) (qkr v0_0 v0_1)=qks D n (fun x1_0 x1_1 x1_2=>LQ qd D n 29 [.r,.r,.r,.r,.l,.r,.l] n (qhm x1_0 x1_1 x1_2) (CQ qd D n 29 [] [.r,.r,.r,.r,.l,.r,.l] (qu qd 29))) v0_0 v0_1:=by kernel_rfl
theorem q26 (D:DX)(n:Nat) (x0:Int) (x1:List Int×Int×Unit) (x2:List Int) :
 LQ qd D n 29 [.r,.r,.r,.l,.r,.l] n (qhp x0 x1 x2) (CQ qd D n 29 [] [.r,.r,.r,.l,.r,.l] (qu qd 29))=qpq D n x0 x1 x2:=by
 rw[qv7]
 simp only[q29,q3i]
 rfl
theorem q8z (D:DX)(n:Nat) (a0:List Int×Int×Unit):rfC qd D n 29 (a0,())=qsp D n a0:=by
 have h:rfC qd D n 29 (a0,())=qsh D n (fun x0 x1 x2=>LQ qd D n 29 [.r,.r,.r,.l,.r,.l] n (qhp x0 x1 x2) (CQ qd D n 29 [] [.r,.r,.r,.l,.r,.l] (qu qd 29))) a0:=by kernel_rfl
 rw[h]
 simp only[q26]
 rfl

def qjo (D:DX)(n:Nat) (go:Int→List (Int×Int×Unit)×List Int×Int×Bool×Unit→Option (((List (Int×Int×Unit)×List Int×Int×Bool×Unit)×Unit)×Unit)) (K0:List (Int×Int×Unit)×List Int×Int×Bool×Unit→Option (((List (Int×Int×Unit)×List Int×Int×Bool×Unit)×Unit)×Unit)) (x0:Int) (x1:List (Int×Int×Unit)×List Int×Int×Bool×Unit):Option (((List (Int×Int×Unit)×List Int×Int×Bool×Unit)×Unit)×Unit):=br (decide (x0<4)) (qe (qcx D x0) fun b↦qe (qk D x1 (Prod.fst (Prod.fst b))) fun b↦go (IntKind.wrap IntKind.i64 (x0+1)) (Prod.fst (Prod.snd b))) (K0 x1)
def qef (D:DX)(n:Nat) (K0:List (Int×Int×Unit)×List Int×Int×Bool×Unit→Option (((List (Int×Int×Unit)×List Int×Int×Bool×Unit)×Unit)×Unit)):Nat→(Int)→(List (Int×Int×Unit)×List Int×Int×Bool×Unit)→Option (((List (Int×Int×Unit)×List Int×Int×Bool×Unit)×Unit)×Unit) | 0=>(fun x0 x1=>none) | m+1=>(fun x0 x1=>qjo D n (qef D n K0 m) K0 x0 x1)
def qmw (D:DX)(n:Nat) (v0_0:List (Int×Int×Unit)×List Int×Int×Bool×Unit):Option (((List (Int×Int×Unit)×List Int×Int×Bool×Unit)×Unit)×Unit):=some ((v0_0,()),())
def qoi (D:DX)(n:Nat):(Int)→(List (Int×Int×Unit)×List Int×Int×Bool×Unit)→Option (((List (Int×Int×Unit)×List Int×Int×Bool×Unit)×Unit)×Unit):=(fun x0 x1=>qef D n (fun v0_0=>qmw D n v0_0) n x0 x1)
def qqb (D:DX)(n:Nat) (lp0:Int→List (Int×Int×Unit)×List Int×Int×Bool×Unit→Option (((List (Int×Int×Unit)×List Int×Int×Bool×Unit)×Unit)×Unit)) (a0:Int×Int×Int×Unit) (a1:List (Int×Int×Unit)):Option (((List (Int×Int×Unit)×List Int×Int×Bool×Unit)×Unit)×Unit):=br (decide (Prod.fst a0=1)) (br (decide (Prod.fst a0=1)) (qe (qcq D (a1,[],-1,false,()) a0) fun b↦some ((Prod.fst (Prod.snd b),()),())) (br (decide (Prod.fst a0=4)) (qe (qcx D (Prod.fst (Prod.snd a0))) fun b↦qe (qk D (a1,[],-1,false,()) (Prod.fst (Prod.fst b))) fun b↦some ((Prod.fst (Prod.snd b),()),())) (br (decide (Prod.fst a0=5)) (qe (qc4 D (Prod.fst (Prod.snd (Prod.snd a0)))) fun b↦qe (qk D (a1,[],-1,false,()) (Prod.fst (Prod.fst b))) fun b↦some ((Prod.fst (Prod.snd b),()),())) (br (decide (Prod.fst a0=6)) (qe (qc2 D (Prod.fst (Prod.snd a0))) fun b↦qe (qk D (a1,[],-1,false,()) (Prod.fst (Prod.fst b))) fun b↦some ((Prod.fst (Prod.snd b),()),())) (br (decide (Prod.fst a0=7)) (lp0 0 (a1,[],-1,false,())) (br (decide (Prod.fst a0=8)) (qe (qbn D) fun b↦qe (qk D (a1,[],-1,false,()) (Prod.fst (Prod.fst b))) fun b↦some ((Prod.fst (Prod.snd b),()),())) (br (decide (Prod.fst a0=9)) (qe (qbn D) fun b↦qe (qk D (a1,[],-1,false,()) (Prod.fst (Prod.fst b))) fun b↦qe (qz D (Prod.fst (Prod.snd b)) (bif decide (Prod.fst (Prod.fst b)<1) then true else decide (Prod.fst (Prod.fst b)>4))) fun b_1↦qe (qcx D (IntKind.wrap IntKind.i64 (Prod.fst (Prod.fst b) - 1))) fun b↦qe (qk D (Prod.fst (Prod.snd b_1)) (Prod.fst (Prod.fst b))) fun b↦qe (qbw D (Prod.fst (Prod.fst b))) fun b_2↦qe (qz D (Prod.fst (Prod.snd b)) !Prod.fst (Prod.fst b_2)) fun b_3↦qe (qcj D (Prod.fst (Prod.fst b))) fun b↦qe (qk D (Prod.fst (Prod.snd b_3)) (Prod.fst (Prod.fst b))) fun b↦some ((Prod.fst (Prod.snd b),()),())) (br (decide (Prod.fst a0=10)) (qe (qbn D) fun b↦qe (qk D (a1,[],-1,false,()) (Prod.fst (Prod.fst b))) fun b↦qe (qz D (Prod.fst (Prod.snd b)) (Prod.fst (Prod.fst b) != 5)) fun b↦qe (qcj D (Prod.fst (Prod.snd (Prod.snd a0)))) fun b_1↦qe (qk D (Prod.fst (Prod.snd b)) (Prod.fst (Prod.fst b_1))) fun b↦some ((Prod.fst (Prod.snd b),()),())) (some (((a1,[],-1,false,()),()),())))))))))) (br (decide (Prod.fst a0=2)) (br (decide (Prod.fst a0=2)) (qe (qcq D (a1,[],-1,false,()) a0) fun b↦some ((Prod.fst (Prod.snd b),()),())) (br (decide (Prod.fst a0=4)) (qe (qcx D (Prod.fst (Prod.snd a0))) fun b↦qe (qk D (a1,[],-1,false,()) (Prod.fst (Prod.fst b))) fun b↦some ((Prod.fst (Prod.snd b),()),())) (br (decide (Prod.fst a0=5)) (qe (qc4 D (Prod.fst (Prod.snd (Prod.snd a0)))) fun b↦qe (qk D (a1,[],-1,false,()) (Prod.fst (Prod.fst b))) fun b↦some ((Prod.fst (Prod.snd b),()),())) (br (decide (Prod.fst a0=6)) (qe (qc2 D (Prod.fst (Prod.snd a0))) fun b↦qe (qk D (a1,[],-1,false,()) (Prod.fst (Prod.fst b))) fun b↦some ((Prod.fst (Prod.snd b),()),())) (br (decide (Prod.fst a0=7)) (lp0 0 (a1,[],-1,false,())) (br (decide (Prod.fst a0=8)) (qe (qbn D) fun b↦qe (qk D (a1,[],-1,false,()) (Prod.fst (Prod.fst b))) fun b↦some ((Prod.fst (Prod.snd b),()),())) (br (decide (Prod.fst a0=9)) (qe (qbn D) fun b↦qe (qk D (a1,[],-1,false,()) (Prod.fst (Prod.fst b))) fun b↦qe (qz D (Prod.fst (Prod.snd b)) (bif decide (Prod.fst (Prod.fst b)<1) then true else decide (Prod.fst (Prod.fst b)>4))) fun b_1↦qe (qcx D (IntKind.wrap IntKind.i64 (Prod.fst (Prod.fst b) - 1))) fun b↦qe (qk D (Prod.fst (Prod.snd b_1)) (Prod.fst (Prod.fst b))) fun b↦qe (qbw D (Prod.fst (Prod.fst b))) fun b_2↦qe (qz D (Prod.fst (Prod.snd b)) !Prod.fst (Prod.fst b_2)) fun b_3↦qe (qcj D (Prod.fst (Prod.fst b))) fun b↦qe (qk D (Prod.fst (Prod.snd b_3)) (Prod.fst (Prod.fst b))) fun b↦some ((Prod.fst (Prod.snd b),()),())) (br (decide (Prod.fst a0=10)) (qe (qbn D) fun b↦qe (qk D (a1,[],-1,false,()) (Prod.fst (Prod.fst b))) fun b↦qe (qz D (Prod.fst (Prod.snd b)) (Prod.fst (Prod.fst b) != 5)) fun b↦qe (qcj D (Prod.fst (Prod.snd (Prod.snd a0)))) fun b_1↦qe (qk D (Prod.fst (Prod.snd b)) (Prod.fst (Prod.fst b_1))) fun b↦some ((Prod.fst (Prod.snd b),()),())) (some (((a1,[],-1,false,()),()),())))))))))) (br (decide (Prod.fst a0=3)) (qe (qcq D (a1,[],-1,false,()) a0) fun b↦some ((Prod.fst (Prod.snd b),()),())) (br (decide (Prod.fst a0=4)) (qe (qcx D (Prod.fst (Prod.snd a0))) fun b↦qe (qk D (a1,[],-1,false,()) (Prod.fst (Prod.fst b))) fun b↦some ((Prod.fst (Prod.snd b),()),())) (br (decide (Prod.fst a0=5)) (qe (qc4 D (Prod.fst (Prod.snd (Prod.snd a0)))) fun b↦qe (qk D (a1,[],-1,false,()) (Prod.fst (Prod.fst b))) fun b↦some ((Prod.fst (Prod.snd b),()),())) (br (decide (Prod.fst a0=6)) (qe (qc2 D (Prod.fst (Prod.snd a0))) fun b↦qe (qk D (a1,[],-1,false,()) (Prod.fst (Prod.fst b))) fun b↦some ((Prod.fst (Prod.snd b),()),())) (br (decide (Prod.fst a0=7)) (lp0 0 (a1,[],-1,false,())) (br (decide (Prod.fst a0=8)) (qe (qbn D) fun b↦qe (qk D (a1,[],-1,false,()) (Prod.fst (Prod.fst b))) fun b↦some ((Prod.fst (Prod.snd b),()),())) (br (decide (Prod.fst a0=9)) (qe (qbn D) fun b↦qe (qk D (a1,[],-1,false,()) (Prod.fst (Prod.fst b))) fun b↦qe (qz D (Prod.fst (Prod.snd b)) (bif decide (Prod.fst (Prod.fst b)<1) then true else decide (Prod.fst (Prod.fst b)>4))) fun b_1↦qe (qcx D (IntKind.wrap IntKind.i64 (Prod.fst (Prod.fst b) - 1))) fun b↦qe (qk D (Prod.fst (Prod.snd b_1)) (Prod.fst (Prod.fst b))) fun b↦qe (qbw D (Prod.fst (Prod.fst b))) fun b_2↦qe (qz D (Prod.fst (Prod.snd b)) !Prod.fst (Prod.fst b_2)) fun b_3↦qe (qcj D (Prod.fst (Prod.fst b))) fun b↦qe (qk D (Prod.fst (Prod.snd b_3)) (Prod.fst (Prod.fst b))) fun b↦some ((Prod.fst (Prod.snd b),()),())) (br (decide (Prod.fst a0=10)) (qe (qbn D) fun b↦qe (qk D (a1,[],-1,false,()) (Prod.fst (Prod.fst b))) fun b↦qe (qz D (Prod.fst (Prod.snd b)) (Prod.fst (Prod.fst b) != 5)) fun b↦qe (qcj D (Prod.fst (Prod.snd (Prod.snd a0)))) fun b_1↦qe (qk D (Prod.fst (Prod.snd b)) (Prod.fst (Prod.fst b_1))) fun b↦some ((Prod.fst (Prod.snd b),()),())) (some (((a1,[],-1,false,()),()),())))))))))))
def qq8 (D:DX)(n:Nat) (a0:Int×Int×Int×Unit) (a1:List (Int×Int×Unit)):Option (((List (Int×Int×Unit)×List Int×Int×Bool×Unit)×Unit)×Unit):=qqb D n (qoi D n) a0 a1
def qjd (x0:Int) (x1:List (Int×Int×Unit)×List Int×Int×Bool×Unit):St:=stq 100 [(5,AV.addr 12 []),(45,avI x0)] [(12,Root.mk (Ty.pair (Ty.sl (Ty.pair yI (Ty.pair yI Ty.unit))) (Ty.pair (Ty.sl yI) (Ty.pair yI (Ty.pair Ty.bool Ty.unit)))) (Mk.pr Mk.no (Mk.pr (Mk.own 0 Mk.no) Mk.no)) x1 true)] 
def qmv (v0_0:List (Int×Int×Unit)×List Int×Int×Bool×Unit):St:=stq 100 [(5,AV.addr 12 [])] [(12,Root.mk (Ty.pair (Ty.sl (Ty.pair yI (Ty.pair yI Ty.unit))) (Ty.pair (Ty.sl yI) (Ty.pair yI (Ty.pair Ty.bool Ty.unit)))) (Mk.pr Mk.no (Mk.pr (Mk.own 0 Mk.no) Mk.no)) v0_0 true)] 
theorem q8r (D:DX)(n:Nat) (m:Nat) (K:Ex→St→Option (Out ctx 30)) (x0:Int) (x1:List (Int×Int×Unit)×List Int×Int×Bool×Unit) :
 LQ qd D n 30 [.r,.r,.l,.r,.l,.r,.r,.r,.r,.r,.r,.r,.r,.r,.l,.r,.l] (m+1) (qjd x0 x1) K=qjo D n (fun x0 x1=>LQ qd D n 30 [.r,.r,.l,.r,.l,.r,.r,.r,.r,.r,.r,.r,.r,.r,.l,.r,.l] m (qjd x0 x1) K) (fun v0_0=>K (Ex.exit 1) (qmv v0_0)) x0 x1:=by kernel_rfl
theorem qzu (D:DX)(n:Nat) (K:Ex→St→Option (Out ctx 30)):∀ (m:Nat) (x0:Int) (x1:List (Int×Int×Unit)×List Int×Int×Bool×Unit),LQ qd D n 30 [.r,.r,.l,.r,.l,.r,.r,.r,.r,.r,.r,.r,.r,.r,.l,.r,.l] m (qjd x0 x1) K=qef D n (fun v0_0=>K (Ex.exit 1) (qmv v0_0)) m x0 x1
 | 0,x0,x1=>qcb ..
 | m+1,x0,x1=>by
  have ih:(fun x0 x1=>LQ qd D n 30 [.r,.r,.l,.r,.l,.r,.r,.r,.r,.r,.r,.r,.r,.r,.l,.r,.l] m (qjd x0 x1) K)=qef D n (fun v0_0=>K (Ex.exit 1) (qmv v0_0)) m:=by funext x0 x1;exact qzu D n K m x0 x1
  rw[q8r]
  rw[ih];rfl
theorem q5z (D:DX)(n:Nat) (v0_0:List (Int×Int×Unit)×List Int×Int×Bool×Unit) :
 (CQ qd D n 30 [] [.r,.r,.l,.r,.l,.r,.r,.r,.r,.r,.r,.r,.r,.r,.l,.r,.l] (qu qd 30)) (Ex.exit 1) (qmv v0_0)=qmw D n v0_0:=by kernel_rfl
theorem q5y (D:DX)(n:Nat) (x0:Int) (x1:List (Int×Int×Unit)×List Int×Int×Bool×Unit) :
 LQ qd D n 30 [.r,.r,.l,.r,.l,.r,.r,.r,.r,.r,.r,.r,.r,.r,.l,.r,.l] n (qjd x0 x1) (CQ qd D n 30 [] [.r,.r,.l,.r,.l,.r,.r,.r,.r,.r,.r,.r,.r,.r,.l,.r,.l] (qu qd 30))=qoi D n x0 x1:=by
 rw[qzu]
 simp only[q5z]
 rfl
theorem qbc9 (D:DX)(n:Nat) (a0:Int×Int×Int×Unit) (a1:List (Int×Int×Unit)):rfC qd D n 30 (a0,(a1,()))=qq8 D n a0 a1:=by
 have h:rfC qd D n 30 (a0,(a1,()))=qqb D n (fun x0 x1=>LQ qd D n 30 [.r,.r,.l,.r,.l,.r,.r,.r,.r,.r,.r,.r,.r,.r,.l,.r,.l] n (qjd x0 x1) (CQ qd D n 30 [] [.r,.r,.l,.r,.l,.r,.r,.r,.r,.r,.r,.r,.r,.r,.l,.r,.l] (qu qd 30))) a0 a1:=by kernel_rfl
 rw[h]
 simp only[q5y]
 rfl

def q05 (D:DX)(n:Nat) (a0:Int×Int×Int×Unit) (a1:List (Int×Int×Unit)):Option (((Int×List Int×Unit)×Bool×Unit)×Unit):=qe (qcx D (Prod.fst (Prod.snd a0))) fun b↦qe (qeg D a1 (Prod.fst (Prod.fst b))) fun b↦qe (qc4 D (Prod.fst (Prod.snd (Prod.snd a0)))) fun b_1↦qe (qeg D a1 (Prod.fst (Prod.fst b_1))) fun b_2↦qe (qbn D) fun b_3↦qe (qeg D a1 (Prod.fst (Prod.fst b_3))) fun b_4↦br (bif decide (Prod.fst a0=1) then Prod.fst (Prod.fst b) != 0 else false) (some (((1,[],()),true,()),())) (br (bif decide (Prod.fst a0=1) then Prod.fst (Prod.fst b_2) != 0 else false) (some (((2,[],()),true,()),())) (br (bif bif bif decide (Prod.fst a0=2) then true else decide (Prod.fst a0=3) then true else decide (Prod.fst a0=4) then decide (Prod.fst (Prod.fst b)=0) else false) (some (((3,[],()),true,()),())) (br (bif decide (Prod.fst a0=2) then decide (Prod.fst (Prod.fst b)=Prod.fst (Prod.snd (Prod.snd a0))) else false) (some (((0,[],()),true,()),())) (br (bif decide (Prod.fst a0=2) then Prod.fst (Prod.fst b_2) != 0 else false) (some (((2,[],()),true,()),())) (br (decide (Prod.fst a0=4)) (some (((0,[Prod.fst (Prod.fst b)],()),true,()),())) (br (bif decide (Prod.fst a0=5) then decide (Prod.fst (Prod.fst b_2)=0) else false) (some (((3,[],()),true,()),())) (br (decide (Prod.fst a0=5)) (some (((0,[IntKind.wrap IntKind.i64 (Prod.fst (Prod.fst b_2) - 1)],()),true,()),())) (br (decide (Prod.fst a0=6)) (qe (qc2 D (Prod.fst (Prod.snd a0))) fun b↦qe (qeg D a1 (Prod.fst (Prod.fst b))) fun b↦some (((0,[Prod.fst (Prod.fst b)],()),true,()),())) (br (bif decide (Prod.fst a0=8) then Prod.fst (Prod.fst b_4) != 0 else false) (br (bif decide (Prod.fst a0=8) then Prod.fst (Prod.fst b_4) != 0 else false) (some (((4,[],()),true,()),())) (some (((0,[],()),false,()),()))) (br (bif decide (Prod.fst a0=9) then bif decide (Prod.fst (Prod.fst b_4)<1) then true else decide (Prod.fst (Prod.fst b_4)>4) else false) (br (bif decide (Prod.fst a0=9) then bif decide (Prod.fst (Prod.fst b_4)<1) then true else decide (Prod.fst (Prod.fst b_4)>4) else false) (some (((4,[],()),true,()),())) (some (((0,[],()),false,()),()))) (br (bif decide (Prod.fst a0=10) then Prod.fst (Prod.fst b_4) != 5 else false) (some (((4,[],()),true,()),())) (some (((0,[],()),false,()),())))))))))))))
def qt8 (D:DX)(n:Nat) (a0:Int×Int×Int×Unit) (a1:List (Int×Int×Unit)):Option (((Int×List Int×Unit)×Bool×Unit)×Unit):=q05 D n a0 a1
theorem qbax (D:DX)(n:Nat) (a0:Int×Int×Int×Unit) (a1:List (Int×Int×Unit)):rfC qd D n 31 (a0,(a1,()))=qt8 D n a0 a1:=by kernel_rfl

def q79 (D:DX)(n:Nat):Option ((Int×Unit)×Unit):=some ((13,()),())
def qyw (D:DX)(n:Nat):Option ((Int×Unit)×Unit):=q79 D n
theorem q7y (D:DX)(n:Nat):rfC qd D n 32 ()=qyw D n:=by kernel_rfl

def q1u (D:DX)(n:Nat) (a0:Int):Option ((Int×Unit)×Unit):=qe (qgf D a0) fun b↦qe (qjh D (Prod.fst (Prod.fst b)) a0) fun b↦some ((Prod.fst (Prod.fst b),()),())
def qwk (D:DX)(n:Nat) (a0:Int):Option ((Int×Unit)×Unit):=q1u D n a0
theorem qbcy (D:DX)(n:Nat) (a0:Int):rfC qd D n 33 (a0,())=qwk D n a0:=by kernel_rfl

def qy8 (D:DX)(n:Nat) (a0:Int×Int×Int×Unit) (a1:List (Int×Int×Unit)) (a2:Int) (a3:Int):Option ((List (Int×Int×Int×Unit)×Unit)×Unit):=qe (qcx D (Prod.fst (Prod.snd a0))) fun b↦qe (qcr D (Prod.fst (Prod.fst b)) (Prod.fst (Prod.snd (Prod.snd a0))) 0 a1 []) fun b↦qe (qbn D) fun b_1↦qe (qcr D (Prod.fst (Prod.fst b_1)) a3 0 a1 (Prod.fst (Prod.snd b))) fun b↦qe (qc4 D a2) fun b_2↦qe (qcr D (Prod.fst (Prod.fst b_2)) 0 0 a1 (Prod.fst (Prod.snd b))) fun b↦qe (qcj D a2) fun b_3↦qe (qcr D (Prod.fst (Prod.fst b_3)) 0 0 a1 (Prod.fst (Prod.snd b))) fun b↦qe (qc4 D (Prod.fst (Prod.snd (Prod.snd a0)))) fun b_4↦qe (qcr D (Prod.fst (Prod.fst b_4)) (IntKind.wrap IntKind.i64 (Prod.fst (Prod.snd a0)+1)) 0 a1 (Prod.fst (Prod.snd b))) fun b↦qe (qcj D (Prod.fst (Prod.snd (Prod.snd a0)))) fun b_5↦qe (qcr D (Prod.fst (Prod.fst b_5)) (IntKind.wrap IntKind.i64 (Prod.fst (Prod.snd a0)+1)) 0 a1 (Prod.fst (Prod.snd b))) fun b↦qe (qcn D a2) fun b_6↦qe (qcn D (Prod.fst (Prod.snd (Prod.snd a0)))) fun b_7↦br (Prod.fst (Prod.fst b_6) != Prod.fst (Prod.fst b_7)) (qe (qcn D a2) fun b_8↦qe (qc2 D (Prod.fst (Prod.fst b_8))) fun b_9↦qe (qcr D (Prod.fst (Prod.fst b_9)) 0 (-1) a1 (Prod.fst (Prod.snd b))) fun b↦qe (qcn D (Prod.fst (Prod.snd (Prod.snd a0)))) fun b_10↦qe (qc2 D (Prod.fst (Prod.fst b_10))) fun b_11↦qe (qcr D (Prod.fst (Prod.fst b_11)) 0 1 a1 (Prod.fst (Prod.snd b))) fun b↦qe (qc7 D (Prod.fst (Prod.snd b)) (Clo.mk 80 [])) fun b↦some ((Prod.fst (Prod.snd b),()),())) (qe (qc7 D (Prod.fst (Prod.snd b)) (Clo.mk 80 [])) fun b↦some ((Prod.fst (Prod.snd b),()),()))
def qsx (D:DX)(n:Nat) (a0:Int×Int×Int×Unit) (a1:List (Int×Int×Unit)) (a2:Int) (a3:Int):Option ((List (Int×Int×Int×Unit)×Unit)×Unit):=qy8 D n a0 a1 a2 a3
theorem q9b (D:DX)(n:Nat) (a0:Int×Int×Int×Unit) (a1:List (Int×Int×Unit)) (a2:Int) (a3:Int):rfC qd D n 34 (a0,(a1,(a2,(a3,()))))=qsx D n a0 a1 a2 a3:=by kernel_rfl

def qpz (D:DX)(n:Nat) (a0:List Int):Option (Unit×List Int×Unit):=qe (qm5 D (IntKind.wrap IntKind.u64 (↑(List.length a0):Int))) fun b↦qe (qj D a0 0 (↑(List.length a0):Int) (Prod.fst (Prod.fst b))) fun b↦some ((),Prod.fst (Prod.snd b),())
def qk2 (D:DX)(n:Nat) (a0:List Int):Option (Unit×List Int×Unit):=qpz D n a0
theorem qzn (D:DX)(n:Nat) (a0:List Int):rfC qd D n 35 (a0,())=qk2 D n a0:=by kernel_rfl

def q04 (D:DX)(n:Nat) (a0:Int×Int×Int×Unit) (a1:Int) (a2:Int) (a3:Int) (a4:Int):Option ((Int×Unit)×Unit):=br (decide (Prod.fst a0=8)) (some ((IntKind.wrap IntKind.i64 (a2+1),()),())) (br (decide (Prod.fst a0=9)) (qe (qbn D) fun b↦br (decide (a1=Prod.fst (Prod.fst b))) (some ((IntKind.wrap IntKind.i64 (a2+1),()),())) (qe (qcj D a3) fun b↦br (decide (a1=Prod.fst (Prod.fst b))) (some ((a4,()),())) (some ((a2,()),())))) (some ((a2,()),())))
def qun (D:DX)(n:Nat) (a0:Int×Int×Int×Unit) (a1:Int) (a2:Int) (a3:Int) (a4:Int):Option ((Int×Unit)×Unit):=q04 D n a0 a1 a2 a3 a4
theorem qbbj (D:DX)(n:Nat) (a0:Int×Int×Int×Unit) (a1:Int) (a2:Int) (a3:Int) (a4:Int):rfC qd D n 36 (a0,(a1,(a2,(a3,(a4,())))))=qun D n a0 a1 a2 a3 a4:=by kernel_rfl

def q1k (D:DX)(n:Nat) (a0:Int):Option ((Int×Unit)×Unit):=qe (qbw D a0) fun b↦qe (qbn D) fun b_1↦qe (qjh D (Prod.fst (Prod.fst b)) (IntKind.wrap IntKind.i64 (Prod.fst (Prod.fst b_1)+a0))) fun b↦some ((Prod.fst (Prod.fst b),()),())
def qwq (D:DX)(n:Nat) (a0:Int):Option ((Int×Unit)×Unit):=q1k D n a0
theorem qbeb (D:DX)(n:Nat) (a0:Int):rfC qd D n 37 (a0,())=qwq D n a0:=by kernel_rfl

def q35 (D:DX)(n:Nat) (a0:Int×Int×Int×Unit):Option ((Bool×Unit)×Unit):=qe (qey D (Prod.fst a0) 1 10) fun b↦br (!Prod.fst (Prod.fst b)) (some ((false,()),())) (qe (qp7 D (Prod.fst a0)) fun b↦br (Prod.fst (Prod.fst b)) (qe (qq7 D (Prod.fst (Prod.snd a0))) fun b↦br (decide (Prod.fst a0=6)) (qe (qey D (Prod.fst (Prod.snd a0)) 0 2) fun b↦qe (qfm D (Prod.fst a0)) fun b_1↦br (Prod.fst (Prod.fst b_1)) (br (Prod.fst (Prod.fst b)) (qe (qeu D (Prod.fst (Prod.snd (Prod.snd a0)))) fun b↦some ((Prod.fst (Prod.fst b),()),())) (some ((false,()),()))) (some ((bif Prod.fst (Prod.fst b) then decide (Prod.fst (Prod.snd (Prod.snd a0))=0) else false,()),()))) (qe (qfm D (Prod.fst a0)) fun b_1↦br (Prod.fst (Prod.fst b_1)) (br (Prod.fst (Prod.fst b)) (qe (qeu D (Prod.fst (Prod.snd (Prod.snd a0)))) fun b↦some ((Prod.fst (Prod.fst b),()),())) (some ((false,()),()))) (some ((bif Prod.fst (Prod.fst b) then decide (Prod.fst (Prod.snd (Prod.snd a0))=0) else false,()),())))) (br (decide (Prod.fst a0=6)) (qe (qey D (Prod.fst (Prod.snd a0)) 0 2) fun b↦qe (qfm D (Prod.fst a0)) fun b_1↦br (Prod.fst (Prod.fst b_1)) (br (Prod.fst (Prod.fst b)) (qe (qeu D (Prod.fst (Prod.snd (Prod.snd a0)))) fun b↦some ((Prod.fst (Prod.fst b),()),())) (some ((false,()),()))) (some ((bif Prod.fst (Prod.fst b) then decide (Prod.fst (Prod.snd (Prod.snd a0))=0) else false,()),()))) (qe (qfm D (Prod.fst a0)) fun b↦br (Prod.fst (Prod.fst b)) (br (decide (Prod.fst (Prod.snd a0)=0)) (qe (qeu D (Prod.fst (Prod.snd (Prod.snd a0)))) fun b↦some ((Prod.fst (Prod.fst b),()),())) (some ((false,()),()))) (some ((bif decide (Prod.fst (Prod.snd a0)=0) then decide (Prod.fst (Prod.snd (Prod.snd a0))=0) else false,()),())))))
def qx9 (D:DX)(n:Nat) (a0:Int×Int×Int×Unit):Option ((Bool×Unit)×Unit):=q35 D n a0
theorem qbew (D:DX)(n:Nat) (a0:Int×Int×Int×Unit):rfC qd D n 38 (a0,())=qx9 D n a0:=by kernel_rfl

def q15 (D:DX)(n:Nat) (a0:Int×Int×Int×Unit) (a1:List (Int×Int×Unit)):Option (((Bool×(Int×List Int×Unit)×List (Int×Int×Int×Unit)×Unit)×Bool×Unit)×Unit):=qe (qcd D (Prod.fst (Prod.snd a0))) fun b↦qe (qdj D a1 (Prod.fst (Prod.fst b))) fun b↦qe (qce D (Prod.fst (Prod.snd (Prod.snd a0)))) fun b_1↦qe (qdj D a1 (Prod.fst (Prod.fst b_1))) fun b_2↦qe (qb6 D) fun b_3↦qe (qdj D a1 (Prod.fst (Prod.fst b_3))) fun b_4↦br (bif decide (Prod.fst a0=1) then Prod.fst (Prod.fst b) != 0 else false) (some (((true,(1,[],()),[],()),true,()),())) (br (bif decide (Prod.fst a0=1) then Prod.fst (Prod.fst b_2) != 0 else false) (some (((true,(2,[],()),[],()),true,()),())) (br (bif bif bif decide (Prod.fst a0=2) then true else decide (Prod.fst a0=3) then true else decide (Prod.fst a0=4) then decide (Prod.fst (Prod.fst b)=0) else false) (some (((true,(3,[],()),[],()),true,()),())) (br (bif decide (Prod.fst a0=2) then decide (Prod.fst (Prod.fst b)=Prod.fst (Prod.snd (Prod.snd a0))) else false) (some (((true,(0,[],()),[],()),true,()),())) (br (bif decide (Prod.fst a0=2) then Prod.fst (Prod.fst b_2) != 0 else false) (some (((true,(2,[],()),[],()),true,()),())) (br (decide (Prod.fst a0=4)) (some (((true,(0,[Prod.fst (Prod.fst b)],()),[],()),true,()),())) (br (bif decide (Prod.fst a0=5) then decide (Prod.fst (Prod.fst b_2)=0) else false) (some (((true,(3,[],()),[],()),true,()),())) (br (decide (Prod.fst a0=5)) (some (((true,(0,[IntKind.wrap IntKind.i64 (Prod.fst (Prod.fst b_2) - 1)],()),[],()),true,()),())) (br (decide (Prod.fst a0=6)) (qe (qeh D (Prod.fst (Prod.snd a0))) fun b↦qe (qdj D a1 (Prod.fst (Prod.fst b))) fun b↦some (((true,(0,[Prod.fst (Prod.fst b)],()),[],()),true,()),())) (br (bif decide (Prod.fst a0=8) then Prod.fst (Prod.fst b_4) != 0 else false) (br (bif decide (Prod.fst a0=8) then Prod.fst (Prod.fst b_4) != 0 else false) (some (((true,(4,[],()),[],()),true,()),())) (some (((true,(-1,[],()),[],()),false,()),()))) (br (decide (Prod.fst a0=9)) (qe (qey D (Prod.fst (Prod.fst b_4)) 1 4) fun b↦br (!Prod.fst (Prod.fst b)) (br (!Prod.fst (Prod.fst b)) (some (((true,(4,[],()),[],()),true,()),())) (some (((true,(-1,[],()),[],()),false,()),()))) (br (bif decide (Prod.fst a0=10) then Prod.fst (Prod.fst b_4) != 5 else false) (some (((true,(4,[],()),[],()),true,()),())) (some (((true,(-1,[],()),[],()),false,()),())))) (br (bif decide (Prod.fst a0=10) then Prod.fst (Prod.fst b_4) != 5 else false) (some (((true,(4,[],()),[],()),true,()),())) (some (((true,(-1,[],()),[],()),false,()),())))))))))))))
def qwx (D:DX)(n:Nat) (a0:Int×Int×Int×Unit) (a1:List (Int×Int×Unit)):Option (((Bool×(Int×List Int×Unit)×List (Int×Int×Int×Unit)×Unit)×Bool×Unit)×Unit):=q15 D n a0 a1
theorem qbcr (D:DX)(n:Nat) (a0:Int×Int×Int×Unit) (a1:List (Int×Int×Unit)):rfC qd D n 39 (a0,(a1,()))=qwx D n a0 a1:=by kernel_rfl

def q9d (D:DX)(n:Nat):Option ((Int×Unit)×Unit):=some ((13,()),())
def qy1 (D:DX)(n:Nat):Option ((Int×Unit)×Unit):=q9d D n
theorem q9c (D:DX)(n:Nat):rfC qd D n 40 ()=qy1 D n:=by kernel_rfl

def q0z (D:DX)(n:Nat) (a0:List (Int×Int×Int×Unit)) (a1:List (Int×Int×Unit)) (a2:Int):Option ((List (Int×Int×Int×Unit)×Unit)×Unit):=qe (qdj D a1 a2) fun b↦qe (qbx D a0 a1 a2 (Prod.fst (Prod.fst b))) fun b↦some ((Prod.fst (Prod.fst b),()),())
def quv (D:DX)(n:Nat) (a0:List (Int×Int×Int×Unit)) (a1:List (Int×Int×Unit)) (a2:Int):Option ((List (Int×Int×Int×Unit)×Unit)×Unit):=q0z D n a0 a1 a2
theorem qbbl (D:DX)(n:Nat) (a0:List (Int×Int×Int×Unit)) (a1:List (Int×Int×Unit)) (a2:Int):rfC qd D n 41 (a0,(a1,(a2,())))=quv D n a0 a1 a2:=by kernel_rfl

def q2d (D:DX)(n:Nat) (a0:Int):Option ((Int×Unit)×Unit):=qe (qq7 D a0) fun b↦br (!Prod.fst (Prod.fst b)) (some ((-1,()),())) (some ((a0,()),()))
def qv0 (D:DX)(n:Nat) (a0:Int):Option ((Int×Unit)×Unit):=q2d D n a0
theorem qbd2 (D:DX)(n:Nat) (a0:Int):rfC qd D n 42 (a0,())=qv0 D n a0:=by kernel_rfl

def qo9 (D:DX)(n:Nat) (go:List (Int×Int×Int×Unit)→Int→Int→Int→Int→Option ((List (Int×Int×Int×Unit)×Unit)×Unit)) (K0:List (Int×Int×Int×Unit)→Int→Int→Int→Int→Option ((List (Int×Int×Int×Unit)×Unit)×Unit)) (x0:List (Int×Int×Int×Unit)) (x1:Int) (x2:Int) (x3:Int) (x4:Int):Option ((List (Int×Int×Int×Unit)×Unit)×Unit):=br (decide (x4<(↑(List.length x0):Int))) (br (decide (0≤x4)&&decide (x4<(↑(List.length x0):Int))) (br (decide (Prod.fst (List.getD x0 (Int.toNat x4) (0,0,0,()))<x1)) (go x0 x1 x2 x3 (IntKind.wrap IntKind.i64 (x4+1))) (K0 x0 x1 x2 x3 x4)) none) (K0 x0 x1 x2 x3 x4)
def qhy (D:DX)(n:Nat) (K0:List (Int×Int×Int×Unit)→Int→Int→Int→Int→Option ((List (Int×Int×Int×Unit)×Unit)×Unit)):Nat→(List (Int×Int×Int×Unit))→(Int)→(Int)→(Int)→(Int)→Option ((List (Int×Int×Int×Unit)×Unit)×Unit) | 0=>(fun x0 x1 x2 x3 x4=>none) | m+1=>(fun x0 x1 x2 x3 x4=>qo9 D n (qhy D n K0 m) K0 x0 x1 x2 x3 x4)
def qm6 (D:DX)(n:Nat) (v0_0:List (Int×Int×Int×Unit)) (v0_1:Int) (v0_2:Int) (v0_3:Int) (v0_4:Int):Option ((List (Int×Int×Int×Unit)×Unit)×Unit):=br (decide (0≤0)&&decide (0≤v0_4)&&decide (v0_4≤(↑(List.length v0_0):Int))) (br (decide (0+List.length (List.drop (Int.toNat 0) (List.take (Int.toNat v0_4) v0_0))≤qeq)) (br (decide (List.length ([]++List.drop (Int.toNat 0) (List.take (Int.toNat v0_4) v0_0))+1≤qeq)) (br (decide (0≤v0_4)&&decide (v0_4≤(↑(List.length v0_0):Int))&&decide ((↑(List.length v0_0):Int)≤(↑(List.length v0_0):Int))) (br (decide (List.length ([]++List.drop (Int.toNat 0) (List.take (Int.toNat v0_4) v0_0)++[(v0_1,v0_3,v0_2,())])+List.length (List.drop (Int.toNat v0_4) (List.take (Int.toNat (↑(List.length v0_0):Int)) v0_0))≤qeq)) (some (([]++List.drop (Int.toNat 0) (List.take (Int.toNat v0_4) v0_0)++[(v0_1,v0_3,v0_2,())]++List.drop (Int.toNat v0_4) (List.take (Int.toNat (↑(List.length v0_0):Int)) v0_0),()),())) none) none) none) none) none
def qsb (D:DX)(n:Nat):(List (Int×Int×Int×Unit))→(Int)→(Int)→(Int)→(Int)→Option ((List (Int×Int×Int×Unit)×Unit)×Unit):=(fun x0 x1 x2 x3 x4=>qhy D n (fun v0_0 v0_1 v0_2 v0_3 v0_4=>qm6 D n v0_0 v0_1 v0_2 v0_3 v0_4) n x0 x1 x2 x3 x4)
def qv9 (D:DX)(n:Nat) (lp0:List (Int×Int×Int×Unit)→Int→Int→Int→Int→Option ((List (Int×Int×Int×Unit)×Unit)×Unit)) (a0:List (Int×Int×Int×Unit)) (a1:List (Int×Int×Unit)) (a2:Int) (a3:Int):Option ((List (Int×Int×Int×Unit)×Unit)×Unit):=qe (qdj D a1 a2) fun b↦br (bif !Prod.fst (Prod.snd (Prod.fst b)) then true else decide (a2<0)) (some ((a0,()),())) (lp0 a0 a2 a3 (Prod.fst (Prod.fst b)) 0)
def qwy (D:DX)(n:Nat) (a0:List (Int×Int×Int×Unit)) (a1:List (Int×Int×Unit)) (a2:Int) (a3:Int):Option ((List (Int×Int×Int×Unit)×Unit)×Unit):=qv9 D n (qsb D n) a0 a1 a2 a3
def qjj (x0:List (Int×Int×Int×Unit)) (x1:Int) (x2:Int) (x3:Int) (x4:Int):St:=stq 58 [(0,AV.val (Ty.sl (Ty.pair yI (Ty.pair yI (Ty.pair yI Ty.unit)))) x0),(2,avI x1),(3,avI x2),(9,avI x3),(11,avI x4)] [] 
def qmy (v0_0:List (Int×Int×Int×Unit)) (v0_1:Int) (v0_2:Int) (v0_3:Int) (v0_4:Int):St:=stq 58 [(0,AV.val (Ty.sl (Ty.pair yI (Ty.pair yI (Ty.pair yI Ty.unit)))) v0_0),(2,avI v0_1),(3,avI v0_2),(9,avI v0_3),(11,avI v0_4)] [] 
theorem q8o (D:DX)(n:Nat) (m:Nat) (K:Ex→St→Option (Out ctx 43)) (x0:List (Int×Int×Int×Unit)) (x1:Int) (x2:Int) (x3:Int) (x4:Int) :
 LQ qd D n 43 [.r,.r,.r,.r,.l,.l] (m+1) (qjj x0 x1 x2 x3 x4) K=qo9 D n (fun x0 x1 x2 x3 x4=>LQ qd D n 43 [.r,.r,.r,.r,.l,.l] m (qjj x0 x1 x2 x3 x4) K) (fun v0_0 v0_1 v0_2 v0_3 v0_4=>K (Ex.exit 0) (qmy v0_0 v0_1 v0_2 v0_3 v0_4)) x0 x1 x2 x3 x4:=by kernel_rfl
theorem qzd (D:DX)(n:Nat) (K:Ex→St→Option (Out ctx 43)):∀ (m:Nat) (x0:List (Int×Int×Int×Unit)) (x1:Int) (x2:Int) (x3:Int) (x4:Int),LQ qd D n 43 [.r,.r,.r,.r,.l,.l] m (qjj x0 x1 x2 x3 x4) K=qhy D n (fun v0_0 v0_1 v0_2 v0_3 v0_4=>K (Ex.exit 0) (qmy v0_0 v0_1 v0_2 v0_3 v0_4)) m x0 x1 x2 x3 x4
 | 0,x0,x1,x2,x3,x4=>qcb ..
 | m+1,x0,x1,x2,x3,x4=>by
  have ih:(fun x0 x1 x2 x3 x4=>LQ qd D n 43 [.r,.r,.r,.r,.l,.l] m (qjj x0 x1 x2 x3 x4) K)=qhy D n (fun v0_0 v0_1 v0_2 v0_3 v0_4=>K (Ex.exit 0) (qmy v0_0 v0_1 v0_2 v0_3 v0_4)) m:=by funext x0 x1 x2 x3 x4;exact qzd D n K m x0 x1 x2 x3 x4
  rw[q8o]
  rw[ih];rfl
theorem q67 (D:DX)(n:Nat) (v0_0:List (Int×Int×Int×Unit)) (v0_1:Int) (v0_2:Int) (v0_3:Int) (v0_4:Int) :
 (CQ qd D n 43 [] [.r,.r,.r,.r,.l,.l] (qu qd 43)) (Ex.exit 0) (qmy v0_0 v0_1 v0_2 v0_3 v0_4)=qm6 D n v0_0 v0_1 v0_2 v0_3 v0_4:=by kernel_rfl
theorem q50 (D:DX)(n:Nat) (x0:List (Int×Int×Int×Unit)) (x1:Int) (x2:Int) (x3:Int) (x4:Int) :
 LQ qd D n 43 [.r,.r,.r,.r,.l,.l] n (qjj x0 x1 x2 x3 x4) (CQ qd D n 43 [] [.r,.r,.r,.r,.l,.l] (qu qd 43))=qsb D n x0 x1 x2 x3 x4:=by
 rw[qzd]
 simp only[q67]
 rfl
theorem qbdi (D:DX)(n:Nat) (a0:List (Int×Int×Int×Unit)) (a1:List (Int×Int×Unit)) (a2:Int) (a3:Int):rfC qd D n 43 (a0,(a1,(a2,(a3,()))))=qwy D n a0 a1 a2 a3:=by
 have h:rfC qd D n 43 (a0,(a1,(a2,(a3,()))))=qv9 D n (fun x0 x1 x2 x3 x4=>LQ qd D n 43 [.r,.r,.r,.r,.l,.l] n (qjj x0 x1 x2 x3 x4) (CQ qd D n 43 [] [.r,.r,.r,.r,.l,.l] (qu qd 43))) a0 a1 a2 a3:=by kernel_rfl
 rw[h]
 simp only[q50]
 rfl

def q13 (D:DX)(n:Nat) (a0:Int):Option ((Int×Unit)×Unit):=qe (qeu D a0) fun b↦br (!Prod.fst (Prod.fst b)) (some ((-1,()),())) (qe (qb6 D) fun b↦some ((IntKind.wrap IntKind.i64 (Prod.fst (Prod.fst b)+a0),()),()))
def qwu (D:DX)(n:Nat) (a0:Int):Option ((Int×Unit)×Unit):=q13 D n a0
theorem qbdg (D:DX)(n:Nat) (a0:Int):rfC qd D n 44 (a0,())=qwu D n a0:=by kernel_rfl

def qxp (D:DX)(n:Nat) (a0:Int×Int×Int×Unit) (a1:List (Int×Int×Unit)):Option ((List (Int×Int×Int×Unit)×Unit)×Unit):=qe (qcd D (Prod.fst (Prod.snd a0))) fun b↦qe (qdj D a1 (Prod.fst (Prod.fst b))) fun b↦br (Prod.fst a0 != 3) (qe (qcd D (Prod.fst (Prod.snd a0))) fun b_1↦qe (qbx D [] a1 (Prod.fst (Prod.fst b_1)) (Prod.fst (Prod.snd (Prod.snd a0)))) fun b_2↦qe (qb6 D) fun b_3↦qe (qfq D (Prod.fst (Prod.fst b_2)) a1 (Prod.fst (Prod.fst b_3))) fun b_4↦qe (qce D (Prod.fst (Prod.fst b))) fun b_5↦qe (qbx D (Prod.fst (Prod.fst b_4)) a1 (Prod.fst (Prod.fst b_5)) 0) fun b_6↦qe (qc8 D (Prod.fst (Prod.fst b))) fun b_7↦qe (qbx D (Prod.fst (Prod.fst b_6)) a1 (Prod.fst (Prod.fst b_7)) 0) fun b_8↦qe (qce D (Prod.fst (Prod.snd (Prod.snd a0)))) fun b_9↦qe (qbx D (Prod.fst (Prod.fst b_8)) a1 (Prod.fst (Prod.fst b_9)) (IntKind.wrap IntKind.i64 (Prod.fst (Prod.snd a0)+1))) fun b_10↦qe (qc8 D (Prod.fst (Prod.snd (Prod.snd a0)))) fun b_11↦qe (qbx D (Prod.fst (Prod.fst b_10)) a1 (Prod.fst (Prod.fst b_11)) (IntKind.wrap IntKind.i64 (Prod.fst (Prod.snd a0)+1))) fun b_12↦qe (qb5 D (Prod.fst (Prod.fst b))) fun b_13↦qe (qb5 D (Prod.fst (Prod.snd (Prod.snd a0)))) fun b_14↦br (Prod.fst (Prod.fst b_13) != Prod.fst (Prod.fst b_14)) (qe (qgn D (Prod.fst (Prod.fst b_12)) a1 (Prod.fst (Prod.fst b)) (-1)) fun b↦qe (qgn D (Prod.fst (Prod.fst b)) a1 (Prod.fst (Prod.snd (Prod.snd a0))) 1) fun b↦some ((Prod.fst (Prod.fst b),()),())) (some ((Prod.fst (Prod.fst b_12),()),()))) (qe (qcd D (Prod.fst (Prod.snd a0))) fun b_1↦qe (qbx D [] a1 (Prod.fst (Prod.fst b_1)) 0) fun b_2↦qe (qb6 D) fun b_3↦qe (qfq D (Prod.fst (Prod.fst b_2)) a1 (Prod.fst (Prod.fst b_3))) fun b_4↦qe (qce D (Prod.fst (Prod.fst b))) fun b_5↦qe (qbx D (Prod.fst (Prod.fst b_4)) a1 (Prod.fst (Prod.fst b_5)) 0) fun b_6↦qe (qc8 D (Prod.fst (Prod.fst b))) fun b_7↦qe (qbx D (Prod.fst (Prod.fst b_6)) a1 (Prod.fst (Prod.fst b_7)) 0) fun b_8↦qe (qce D 0) fun b_9↦qe (qbx D (Prod.fst (Prod.fst b_8)) a1 (Prod.fst (Prod.fst b_9)) (IntKind.wrap IntKind.i64 (Prod.fst (Prod.snd a0)+1))) fun b_10↦qe (qc8 D 0) fun b_11↦qe (qbx D (Prod.fst (Prod.fst b_10)) a1 (Prod.fst (Prod.fst b_11)) (IntKind.wrap IntKind.i64 (Prod.fst (Prod.snd a0)+1))) fun b_12↦qe (qb5 D (Prod.fst (Prod.fst b))) fun b_13↦qe (qb5 D 0) fun b_14↦br (Prod.fst (Prod.fst b_13) != Prod.fst (Prod.fst b_14)) (qe (qgn D (Prod.fst (Prod.fst b_12)) a1 (Prod.fst (Prod.fst b)) (-1)) fun b↦qe (qgn D (Prod.fst (Prod.fst b)) a1 0 1) fun b↦some ((Prod.fst (Prod.fst b),()),())) (some ((Prod.fst (Prod.fst b_12),()),())))
def qqa (D:DX)(n:Nat) (a0:Int×Int×Int×Unit) (a1:List (Int×Int×Unit)):Option ((List (Int×Int×Int×Unit)×Unit)×Unit):=qxp D n a0 a1
theorem q62 (D:DX)(n:Nat) (a0:Int×Int×Int×Unit) (a1:List (Int×Int×Unit)):rfC qd D n 45 (a0,(a1,()))=qqa D n a0 a1:=by kernel_rfl



def qzr (D:DX)(n:Nat) (a0:List Int×Int×Int×Unit) (a1:Int):Option ((Int×Unit)×tCur×Unit):=br (decide (a1≤0)) (some ((0,()),a0,())) (br (decide (a1≤256)) (qe (qh2 D a0) fun b↦br (decide (a1=0)) none (some ((Int.tmod (Prod.fst (Prod.fst b)) a1,()),Prod.fst (Prod.snd b),()))) (qe (qh2 D a0) fun b↦qe (qh2 D (Prod.fst (Prod.snd b))) fun b_1↦qe (qh2 D (Prod.fst (Prod.snd b_1))) fun b_2↦qe (qh2 D (Prod.fst (Prod.snd b_2))) fun b_3↦br (decide (a1=0)) none (some ((Int.tmod (IntKind.wrap IntKind.i64 (IntKind.wrap IntKind.i64 (IntKind.wrap IntKind.i64 (IntKind.wrap IntKind.i64 (Prod.fst (Prod.fst b) * 16777216)+IntKind.wrap IntKind.i64 (Prod.fst (Prod.fst b_1) * 65536))+IntKind.wrap IntKind.i64 (Prod.fst (Prod.fst b_2) * 256))+Prod.fst (Prod.fst b_3))) a1,()),Prod.fst (Prod.snd b_3),()))))
def qsj (D:DX)(n:Nat) (a0:List Int×Int×Int×Unit) (a1:Int):Option ((Int×Unit)×tCur×Unit):=qzr D n a0 a1
theorem q8v (D:DX)(n:Nat) (a0:List Int×Int×Int×Unit) (a1:Int):rfC qd D n 48 (a0,(a1,()))=qsj D n a0 a1:=by kernel_rfl

def qup (D:DX)(n:Nat) (go:Int→List (Int×Int×Unit)×Int×Bool×Unit→Option (((List (Int×Int×Unit)×Int×Bool×Unit)×Unit)×Unit)) (K0:List (Int×Int×Unit)×Int×Bool×Unit→Option (((List (Int×Int×Unit)×Int×Bool×Unit)×Unit)×Unit)) (x0:Int) (x1:List (Int×Int×Unit)×Int×Bool×Unit):Option (((List (Int×Int×Unit)×Int×Bool×Unit)×Unit)×Unit):=br (decide (x0<4)) (qe (qcd D x0) fun b↦qe (q7 D x1 (Prod.fst (Prod.fst b))) fun b↦go (IntKind.wrap IntKind.i64 (x0+1)) (Prod.fst (Prod.snd b))) (K0 x1)
def qji (D:DX)(n:Nat) (K0:List (Int×Int×Unit)×Int×Bool×Unit→Option (((List (Int×Int×Unit)×Int×Bool×Unit)×Unit)×Unit)):Nat→(Int)→(List (Int×Int×Unit)×Int×Bool×Unit)→Option (((List (Int×Int×Unit)×Int×Bool×Unit)×Unit)×Unit) | 0=>(fun x0 x1=>none) | m+1=>(fun x0 x1=>qup D n (qji D n K0 m) K0 x0 x1)
def qqu (D:DX)(n:Nat) (v0_0:List (Int×Int×Unit)×Int×Bool×Unit):Option (((List (Int×Int×Unit)×Int×Bool×Unit)×Unit)×Unit):=some ((v0_0,()),())
def qs9 (D:DX)(n:Nat):(Int)→(List (Int×Int×Unit)×Int×Bool×Unit)→Option (((List (Int×Int×Unit)×Int×Bool×Unit)×Unit)×Unit):=(fun x0 x1=>qji D n (fun v0_0=>qqu D n v0_0) n x0 x1)
def qvx (D:DX)(n:Nat) (lp0:Int→List (Int×Int×Unit)×Int×Bool×Unit→Option (((List (Int×Int×Unit)×Int×Bool×Unit)×Unit)×Unit)) (a0:Int×Int×Int×Unit) (a1:List (Int×Int×Unit)):Option (((List (Int×Int×Unit)×Int×Bool×Unit)×Unit)×Unit):=br (decide (Prod.fst a0=1)) (qe (qv2 D (a1,-1,false,()) a0) fun b↦some ((Prod.fst (Prod.snd b),()),())) (br (decide (Prod.fst a0=2)) (qe (qxd D (a1,-1,false,()) a0) fun b↦some ((Prod.fst (Prod.snd b),()),())) (br (decide (Prod.fst a0=3)) (qe (qwh D (a1,-1,false,()) a0) fun b↦some ((Prod.fst (Prod.snd b),()),())) (br (decide (Prod.fst a0=4)) (qe (qcd D (Prod.fst (Prod.snd a0))) fun b↦qe (q7 D (a1,-1,false,()) (Prod.fst (Prod.fst b))) fun b↦some ((Prod.fst (Prod.snd b),()),())) (br (decide (Prod.fst a0=5)) (qe (qce D (Prod.fst (Prod.snd (Prod.snd a0)))) fun b↦qe (q7 D (a1,-1,false,()) (Prod.fst (Prod.fst b))) fun b↦some ((Prod.fst (Prod.snd b),()),())) (br (decide (Prod.fst a0=6)) (qe (qeh D (Prod.fst (Prod.snd a0))) fun b↦qe (q7 D (a1,-1,false,()) (Prod.fst (Prod.fst b))) fun b↦some ((Prod.fst (Prod.snd b),()),())) (br (decide (Prod.fst a0=7)) (lp0 0 (a1,-1,false,())) (br (decide (Prod.fst a0=8)) (qe (qb6 D) fun b↦qe (q7 D (a1,-1,false,()) (Prod.fst (Prod.fst b))) fun b↦some ((Prod.fst (Prod.snd b),()),())) (br (decide (Prod.fst a0=9)) (qe (qur D (a1,-1,false,())) fun b↦some ((Prod.fst (Prod.snd b),()),())) (br (decide (Prod.fst a0=10)) (qe (qb6 D) fun b↦qe (q7 D (a1,-1,false,()) (Prod.fst (Prod.fst b))) fun b↦qe (qf6 D (Prod.fst (Prod.snd b)) (Prod.fst (Prod.fst b) != 5)) fun b↦qe (qc8 D (Prod.fst (Prod.snd (Prod.snd a0)))) fun b_1↦qe (q7 D (Prod.fst (Prod.snd b)) (Prod.fst (Prod.fst b_1))) fun b↦some ((Prod.fst (Prod.snd b),()),())) (some (((a1,-1,false,()),()),())))))))))))
def qvt (D:DX)(n:Nat) (a0:Int×Int×Int×Unit) (a1:List (Int×Int×Unit)):Option (((List (Int×Int×Unit)×Int×Bool×Unit)×Unit)×Unit):=qvx D n (qs9 D n) a0 a1
def qjp (x0:Int) (x1:List (Int×Int×Unit)×Int×Bool×Unit):St:=stq 81 [(5,AV.addr 9 []),(6,avI x0)] [(9,Root.mk (Ty.pair (Ty.sl (Ty.pair yI (Ty.pair yI Ty.unit))) (Ty.pair yI (Ty.pair Ty.bool Ty.unit))) Mk.no x1 true)] 
def qm7 (v0_0:List (Int×Int×Unit)×Int×Bool×Unit):St:=stq 81 [(5,AV.addr 9 [])] [(9,Root.mk (Ty.pair (Ty.sl (Ty.pair yI (Ty.pair yI Ty.unit))) (Ty.pair yI (Ty.pair Ty.bool Ty.unit))) Mk.no v0_0 true)] 
theorem q9h (D:DX)(n:Nat) (m:Nat) (K:Ex→St→Option (Out ctx 49)) (x0:Int) (x1:List (Int×Int×Unit)×Int×Bool×Unit) :
 LQ qd D n 49 [.r,.r,.l,.r,.l,.r,.r,.r,.r,.r,.r,.r,.r,.r,.r,.r,.r,.r,.l,.r,.l] (m+1) (qjp x0 x1) K=qup D n (fun x0 x1=>LQ qd D n 49 [.r,.r,.l,.r,.l,.r,.r,.r,.r,.r,.r,.r,.r,.r,.r,.r,.r,.r,.l,.r,.l] m (qjp x0 x1) K) (fun v0_0=>K (Ex.exit 1) (qm7 v0_0)) x0 x1:=by kernel_rfl
theorem qzq (D:DX)(n:Nat) (K:Ex→St→Option (Out ctx 49)):∀ (m:Nat) (x0:Int) (x1:List (Int×Int×Unit)×Int×Bool×Unit),LQ qd D n 49 [.r,.r,.l,.r,.l,.r,.r,.r,.r,.r,.r,.r,.r,.r,.r,.r,.r,.r,.l,.r,.l] m (qjp x0 x1) K=qji D n (fun v0_0=>K (Ex.exit 1) (qm7 v0_0)) m x0 x1
 | 0,x0,x1=>qcb ..
 | m+1,x0,x1=>by
  have ih:(fun x0 x1=>LQ qd D n 49 [.r,.r,.l,.r,.l,.r,.r,.r,.r,.r,.r,.r,.r,.r,.r,.r,.r,.r,.l,.r,.l] m (qjp x0 x1) K)=qji D n (fun v0_0=>K (Ex.exit 1) (qm7 v0_0)) m:=by funext x0 x1;exact qzq D n K m x0 x1
  rw[q9h]
  rw[ih];rfl
theorem q7f (D:DX)(n:Nat) (v0_0:List (Int×Int×Unit)×Int×Bool×Unit) :
 (CQ qd D n 49 [] [.r,.r,.l,.r,.l,.r,.r,.r,.r,.r,.r,.r,.r,.r,.r,.r,.r,.r,.l,.r,.l] (qu qd 49)) (Ex.exit 1) (qm7 v0_0)=qqu D n v0_0:=by kernel_rfl
theorem q5r (D:DX)(n:Nat) (x0:Int) (x1:List (Int×Int×Unit)×Int×Bool×Unit) :
 LQ qd D n 49 [.r,.r,.l,.r,.l,.r,.r,.r,.r,.r,.r,.r,.r,.r,.r,.r,.r,.r,.l,.r,.l] n (qjp x0 x1) (CQ qd D n 49 [] [.r,.r,.l,.r,.l,.r,.r,.r,.r,.r,.r,.r,.r,.r,.r,.r,.r,.r,.l,.r,.l] (qu qd 49))=qs9 D n x0 x1:=by
 rw[qzq]
 simp only[q7f]
 rfl
theorem qbcg (D:DX)(n:Nat) (a0:Int×Int×Int×Unit) (a1:List (Int×Int×Unit)):rfC qd D n 49 (a0,(a1,()))=qvt D n a0 a1:=by
 have h:rfC qd D n 49 (a0,(a1,()))=qvx D n (fun x0 x1=>LQ qd D n 49 [.r,.r,.l,.r,.l,.r,.r,.r,.r,.r,.r,.r,.r,.r,.r,.r,.r,.r,.l,.r,.l] n (qjp x0 x1) (CQ qd D n 49 [] [.r,.r,.l,.r,.l,.r,.r,.r,.r,.r,.r,.r,.r,.r,.r,.r,.r,.r,.l,.r,.l] (qu qd 49))) a0 a1:=by kernel_rfl
 rw[h]
 simp only[q5r]
 rfl

def qzs (D:DX)(n:Nat) (a0:Int×List Int×Unit) (a1:Int×List Int×Unit):Option ((Bool×Unit)×Unit):=br (decide (Prod.fst a0=Prod.fst a1)) (qe (qt7 D (Prod.fst (Prod.snd a0)) (Prod.fst (Prod.snd a1))) fun b↦some ((Prod.fst (Prod.fst b),()),())) (some ((false,()),()))
def qrw (D:DX)(n:Nat) (a0:Int×List Int×Unit) (a1:Int×List Int×Unit):Option ((Bool×Unit)×Unit):=qzs D n a0 a1
theorem q8h (D:DX)(n:Nat) (a0:Int×List Int×Unit) (a1:Int×List Int×Unit):rfC qd D n 50 (a0,(a1,()))=qrw D n a0 a1:=by kernel_rfl

def qmt (D:DX)(n:Nat) (go:List (Int×Int×Int×Unit)→List (Int×Int×Int×Unit)→Int→Option ((Bool×Unit)×Unit)) (K0:Bool→Option ((Bool×Unit)×Unit)) (K1:Option ((Bool×Unit)×Unit)) (x0:List (Int×Int×Int×Unit)) (x1:List (Int×Int×Int×Unit)) (x2:Int):Option ((Bool×Unit)×Unit):=br (decide (x2<(↑(List.length x0):Int))) (br (decide (0≤x2)&&decide (x2<(↑(List.length x0):Int))) (br (decide (0≤x2)&&decide (x2<(↑(List.length x1):Int))) (br (!qo6 (Ty.pair (Ty.int IntKind.i64) (Ty.pair (Ty.int IntKind.i64) (Ty.pair (Ty.int IntKind.i64) Ty.unit))) (List.getD x0 (Int.toNat x2) (0,0,0,())) (List.getD x1 (Int.toNat x2) (0,0,0,()))) (K0 false) (go x0 x1 (IntKind.wrap IntKind.i64 (x2+1)))) none) none) K1
def qff (D:DX)(n:Nat) (K0:Bool→Option ((Bool×Unit)×Unit)) (K1:Option ((Bool×Unit)×Unit)):Nat→(List (Int×Int×Int×Unit))→(List (Int×Int×Int×Unit))→(Int)→Option ((Bool×Unit)×Unit) | 0=>(fun x0 x1 x2=>none) | m+1=>(fun x0 x1 x2=>qmt D n (qff D n K0 K1 m) K0 K1 x0 x1 x2)
def qlg (D:DX)(n:Nat) (v0_0:Bool):Option ((Bool×Unit)×Unit):=some ((v0_0,()),())
def qk1 (D:DX)(n:Nat):Option ((Bool×Unit)×Unit):=some ((true,()),())
def qlq (D:DX)(n:Nat):(List (Int×Int×Int×Unit))→(List (Int×Int×Int×Unit))→(Int)→Option ((Bool×Unit)×Unit):=(fun x0 x1 x2=>qff D n (fun v0_0=>qlg D n v0_0) (qk1 D n) n x0 x1 x2)
def qni (D:DX)(n:Nat) (lp0:List (Int×Int×Int×Unit)→List (Int×Int×Int×Unit)→Int→Option ((Bool×Unit)×Unit)) (a0:List (Int×Int×Int×Unit)) (a1:List (Int×Int×Int×Unit)):Option ((Bool×Unit)×Unit):=br ((↑(List.length a0):Int) != (↑(List.length a1):Int)) (some ((false,()),())) (lp0 a0 a1 0)
def qn3 (D:DX)(n:Nat) (a0:List (Int×Int×Int×Unit)) (a1:List (Int×Int×Int×Unit)):Option ((Bool×Unit)×Unit):=qni D n (qlq D n) a0 a1
def qfg (x0:List (Int×Int×Int×Unit)) (x1:List (Int×Int×Int×Unit)) (x2:Int):St:=stq 26 [(0,AV.val (Ty.sl (Ty.pair yI (Ty.pair yI (Ty.pair yI Ty.unit)))) x0),(1,AV.val (Ty.sl (Ty.pair yI (Ty.pair yI (Ty.pair yI Ty.unit)))) x1),(5,avI x2)] [] 
def qhq (v0_0:Bool):St:=stq 26 [(4,AV.val Ty.bool v0_0)] [] 
def qhg:St:=stq 26 [] [] 
theorem q0h (D:DX)(n:Nat) (m:Nat) (K:Ex→St→Option (Out ctx 51)) (x0:List (Int×Int×Int×Unit)) (x1:List (Int×Int×Int×Unit)) (x2:Int) :
 LQ qd D n 51 [.r,.r,.l,.r,.l] (m+1) (qfg x0 x1 x2) K=qmt D n (fun x0 x1 x2=>LQ qd D n 51 [.r,.r,.l,.r,.l] m (qfg x0 x1 x2) K) (fun v0_0=>K (Ex.ret) (qhq v0_0)) (K (Ex.exit 0) (qhg)) x0 x1 x2:=by kernel_rfl
theorem qrj (D:DX)(n:Nat) (K:Ex→St→Option (Out ctx 51)):∀ (m:Nat) (x0:List (Int×Int×Int×Unit)) (x1:List (Int×Int×Int×Unit)) (x2:Int),LQ qd D n 51 [.r,.r,.l,.r,.l] m (qfg x0 x1 x2) K=qff D n (fun v0_0=>K (Ex.ret) (qhq v0_0)) (K (Ex.exit 0) (qhg)) m x0 x1 x2
 | 0,x0,x1,x2=>qcb ..
 | m+1,x0,x1,x2=>by
  have ih:(fun x0 x1 x2=>LQ qd D n 51 [.r,.r,.l,.r,.l] m (qfg x0 x1 x2) K)=qff D n (fun v0_0=>K (Ex.ret) (qhq v0_0)) (K (Ex.exit 0) (qhg)) m:=by funext x0 x1 x2;exact qrj D n K m x0 x1 x2
  rw[q0h]
  rw[ih];rfl
theorem qzh (D:DX)(n:Nat) (v0_0:Bool) :
 (CQ qd D n 51 [] [.r,.r,.l,.r,.l] (qu qd 51)) (Ex.ret) (qhq v0_0)=qlg D n v0_0:=by kernel_rfl
theorem qyt (D:DX)(n:Nat) :
 (CQ qd D n 51 [] [.r,.r,.l,.r,.l] (qu qd 51)) (Ex.exit 0) (qhg)=qk1 D n:=by kernel_rfl
theorem qy5 (D:DX)(n:Nat) (x0:List (Int×Int×Int×Unit)) (x1:List (Int×Int×Int×Unit)) (x2:Int) :
 LQ qd D n 51 [.r,.r,.l,.r,.l] n (qfg x0 x1 x2) (CQ qd D n 51 [] [.r,.r,.l,.r,.l] (qu qd 51))=qlq D n x0 x1 x2:=by
 rw[qrj]
 simp only[qzh,qyt]
 rfl
theorem q1d (D:DX)(n:Nat) (a0:List (Int×Int×Int×Unit)) (a1:List (Int×Int×Int×Unit)):rfC qd D n 51 (a0,(a1,()))=qn3 D n a0 a1:=by
 have h:rfC qd D n 51 (a0,(a1,()))=qni D n (fun x0 x1 x2=>LQ qd D n 51 [.r,.r,.l,.r,.l] n (qfg x0 x1 x2) (CQ qd D n 51 [] [.r,.r,.l,.r,.l] (qu qd 51))) a0 a1:=by kernel_rfl
 rw[h]
 simp only[qy5]
 rfl

def qdd (D:DX)(n:Nat) (a0:List Int×Int×Unit) (a1:Int×Int×Int×Unit) (a2:Int):Option ((Bool×Unit)×Unit):=qe (qrf D a0 (Prod.fst (Prod.snd (Prod.snd a1)))) fun b↦br (decide (a2=1)) (br (decide (Prod.fst a1=1)) (br (decide (0≤Prod.fst (Prod.snd a1))&&decide (Prod.fst (Prod.snd a1)<(↑(List.length (Prod.fst a0)):Int))) (some ((List.getD (Prod.fst a0) (Int.toNat (Prod.fst (Prod.snd a1))) 0 != 0,()),())) none) (some ((false,()),()))) (br (decide (a2=2)) (some ((bif bif decide (Prod.fst a1=1) then true else decide (Prod.fst a1=2) then decide (Prod.fst (Prod.fst b)≥0) else false,()),())) (br (bif decide (a2=3) then bif bif decide (Prod.fst a1=2) then true else decide (Prod.fst a1=3) then true else decide (Prod.fst a1=4) else false) (br (decide (0≤Prod.fst (Prod.snd a1))&&decide (Prod.fst (Prod.snd a1)<(↑(List.length (Prod.fst a0)):Int))) (some ((decide (List.getD (Prod.fst a0) (Int.toNat (Prod.fst (Prod.snd a1))) 0=0),()),())) none) (br (decide (a2=3)) (br (decide (Prod.fst (Prod.fst b)<0)) (br (decide (Prod.fst a1=5)) (some ((true,()),())) (br (decide (Prod.fst a1=10)) (qe (qj4 D a0) fun b↦some ((Prod.fst (Prod.fst b),()),())) (some ((false,()),())))) (some ((false,()),()))) (br (bif decide (a2=4) then decide (Prod.fst a1=8) else false) (some ((Prod.fst (Prod.snd a0) != 0,()),())) (br (bif decide (a2=4) then decide (Prod.fst a1=9) else false) (br (decide (Prod.fst (Prod.snd a0)=0)) (some ((true,()),())) (qe (qj4 D a0) fun b↦some ((Prod.fst (Prod.fst b),()),()))) (br (bif decide (a2=4) then decide (Prod.fst a1=10) else false) (qe (qj4 D a0) fun b↦some ((!Prod.fst (Prod.fst b),()),())) (some ((false,()),()))))))))
def qc3 (D:DX)(n:Nat) (a0:List Int×Int×Unit) (a1:Int×Int×Int×Unit) (a2:Int):Option ((Bool×Unit)×Unit):=qdd D n a0 a1 a2
theorem q86 (D:DX)(n:Nat) (a0:List Int×Int×Unit) (a1:Int×Int×Int×Unit) (a2:Int):rfC qd D n 52 (a0,(a1,(a2,())))=qc3 D n a0 a1 a2:=by kernel_rfl

def qde (D:DX)(n:Nat) (a0:List Int×Int×Unit) (a1:Int×Int×Int×Unit):Option ((List Int×Bool×Unit)×Unit):=qe (qrf D a0 (Prod.fst (Prod.snd (Prod.snd a1)))) fun b↦br (decide (Prod.fst a1=1)) (br (decide (0≤Prod.fst (Prod.snd a1))&&decide (Prod.fst (Prod.snd a1)<(↑(List.length (Prod.fst a0)):Int))) (some (([],bif decide (List.getD (Prod.fst a0) (Int.toNat (Prod.fst (Prod.snd a1))) 0=0) then decide (Prod.fst (Prod.fst b)<0) else false,()),())) none) (br (decide (Prod.fst a1=2)) (br (decide (0≤Prod.fst (Prod.snd a1))&&decide (Prod.fst (Prod.snd a1)<(↑(List.length (Prod.fst a0)):Int))) (some (([],bif List.getD (Prod.fst a0) (Int.toNat (Prod.fst (Prod.snd a1))) 0 != 0 then bif decide (Prod.fst (Prod.fst b)<0) then true else decide (Prod.fst (Prod.fst b)=Prod.fst (Prod.snd a1)) else false,()),())) none) (br (decide (Prod.fst a1=3)) (br (decide (0≤Prod.fst (Prod.snd a1))&&decide (Prod.fst (Prod.snd a1)<(↑(List.length (Prod.fst a0)):Int))) (some (([],List.getD (Prod.fst a0) (Int.toNat (Prod.fst (Prod.snd a1))) 0 != 0,()),())) none) (br (decide (Prod.fst a1=4)) (br (decide (0≤Prod.fst (Prod.snd a1))&&decide (Prod.fst (Prod.snd a1)<(↑(List.length (Prod.fst a0)):Int))) (br (decide (0≤Prod.fst (Prod.snd a1))&&decide (Prod.fst (Prod.snd a1)<(↑(List.length (Prod.fst a0)):Int))) (some (([List.getD (Prod.fst a0) (Int.toNat (Prod.fst (Prod.snd a1))) 0],List.getD (Prod.fst a0) (Int.toNat (Prod.fst (Prod.snd a1))) 0 != 0,()),())) none) none) (br (decide (Prod.fst a1=5)) (some (([Prod.fst (Prod.fst b)],decide (Prod.fst (Prod.fst b)≥0),()),())) (br (decide (Prod.fst a1=6)) (qe (qrq D a0 (Prod.fst (Prod.snd a1))) fun b↦some (([Prod.fst (Prod.fst b)],true,()),())) (br (decide (Prod.fst a1=7)) (some ((Prod.fst a0,true,()),())) (br (decide (Prod.fst a1=8)) (some (([],decide (Prod.fst (Prod.snd a0)=0),()),())) (br (decide (Prod.fst a1=9)) (br (Prod.fst (Prod.snd a0) != 0) (qe (qj4 D a0) fun b↦some (([],!Prod.fst (Prod.fst b),()),())) (some (([],false,()),()))) (br (decide (Prod.fst (Prod.fst b)≥0)) (qe (qj4 D a0) fun b_1↦some (([Prod.fst (Prod.fst b)],Prod.fst (Prod.fst b_1),()),())) (some (([Prod.fst (Prod.fst b)],false,()),())))))))))))
def qc6 (D:DX)(n:Nat) (a0:List Int×Int×Unit) (a1:Int×Int×Int×Unit):Option ((List Int×Bool×Unit)×Unit):=qde D n a0 a1
theorem q7m (D:DX)(n:Nat) (a0:List Int×Int×Unit) (a1:Int×Int×Int×Unit):rfC qd D n 53 (a0,(a1,()))=qc6 D n a0 a1:=by kernel_rfl

def qi8 (D:DX)(n:Nat) (go:List Int→List Int→Int→Int→Option ((Bool×Unit)×Unit)) (K0:Bool→Option ((Bool×Unit)×Unit)) (K1:Option ((Bool×Unit)×Unit)) (x0:List Int) (x1:List Int) (x2:Int) (x3:Int):Option ((Bool×Unit)×Unit):=br (decide (x3<x2)) (br (decide (0≤x3)&&decide (x3<(↑(List.length x0):Int))) (br (decide (0≤x3)&&decide (x3<(↑(List.length x1):Int))) (br (List.getD x0 (Int.toNat x3) 0 != List.getD x1 (Int.toNat x3) 0) (K0 false) (go x0 x1 x2 (IntKind.wrap IntKind.i64 (x3+1)))) none) none) K1
def qd7 (D:DX)(n:Nat) (K0:Bool→Option ((Bool×Unit)×Unit)) (K1:Option ((Bool×Unit)×Unit)):Nat→(List Int)→(List Int)→(Int)→(Int)→Option ((Bool×Unit)×Unit) | 0=>(fun x0 x1 x2 x3=>none) | m+1=>(fun x0 x1 x2 x3=>qi8 D n (qd7 D n K0 K1 m) K0 K1 x0 x1 x2 x3)
def qh7 (D:DX)(n:Nat) (v0_0:Bool):Option ((Bool×Unit)×Unit):=some ((v0_0,()),())
def qia (D:DX)(n:Nat):Option ((Bool×Unit)×Unit):=some ((true,()),())
def qiz (D:DX)(n:Nat):(List Int)→(List Int)→(Int)→(Int)→Option ((Bool×Unit)×Unit):=(fun x0 x1 x2 x3=>qd7 D n (fun v0_0=>qh7 D n v0_0) (qia D n) n x0 x1 x2 x3)
def qkc (D:DX)(n:Nat) (lp0:List Int→List Int→Int→Int→Option ((Bool×Unit)×Unit)) (a0:List Int) (a1:List Int):Option ((Bool×Unit)×Unit):=br ((↑(List.length a0):Int) != (↑(List.length a1):Int)) (some ((false,()),())) (lp0 a0 a1 (↑(List.length a0):Int) 0)
def qkb (D:DX)(n:Nat) (a0:List Int) (a1:List Int):Option ((Bool×Unit)×Unit):=qkc D n (qiz D n) a0 a1
def qd4 (x0:List Int) (x1:List Int) (x2:Int) (x3:Int):St:=stq 26 [(0,AV.val (Ty.sl yI) x0),(1,AV.val (Ty.sl yI) x1),(12,avI x2),(13,avI x3)] [] 
def qf1 (v0_0:Bool):St:=stq 26 [(4,AV.val Ty.bool v0_0)] [] 
def qf4:St:=stq 26 [] [] 
theorem qv6 (D:DX)(n:Nat) (m:Nat) (K:Ex→St→Option (Out ctx 54)) (x0:List Int) (x1:List Int) (x2:Int) (x3:Int) :
 LQ qd D n 54 [.r,.r,.l,.r,.l] (m+1) (qd4 x0 x1 x2 x3) K=qi8 D n (fun x0 x1 x2 x3=>LQ qd D n 54 [.r,.r,.l,.r,.l] m (qd4 x0 x1 x2 x3) K) (fun v0_0=>K (Ex.ret) (qf1 v0_0)) (K (Ex.exit 0) (qf4)) x0 x1 x2 x3:=by kernel_rfl
theorem qn0 (D:DX)(n:Nat) (K:Ex→St→Option (Out ctx 54)):∀ (m:Nat) (x0:List Int) (x1:List Int) (x2:Int) (x3:Int),LQ qd D n 54 [.r,.r,.l,.r,.l] m (qd4 x0 x1 x2 x3) K=qd7 D n (fun v0_0=>K (Ex.ret) (qf1 v0_0)) (K (Ex.exit 0) (qf4)) m x0 x1 x2 x3
 | 0,x0,x1,x2,x3=>qcb ..
 | m+1,x0,x1,x2,x3=>by
  have ih:(fun x0 x1 x2 x3=>LQ qd D n 54 [.r,.r,.l,.r,.l] m (qd4 x0 x1 x2 x3) K)=qd7 D n (fun v0_0=>K (Ex.ret) (qf1 v0_0)) (K (Ex.exit 0) (qf4)) m:=by funext x0 x1 x2 x3;exact qn0 D n K m x0 x1 x2 x3
  rw[qv6]
  rw[ih];rfl
theorem qvd (D:DX)(n:Nat) (v0_0:Bool) :
 (CQ qd D n 54 [] [.r,.r,.l,.r,.l] (qu qd 54)) (Ex.ret) (qf1 v0_0)=qh7 D n v0_0:=by kernel_rfl
theorem qve (D:DX)(n:Nat) :
 (CQ qd D n 54 [] [.r,.r,.l,.r,.l] (qu qd 54)) (Ex.exit 0) (qf4)=qia D n:=by kernel_rfl
theorem qvg (D:DX)(n:Nat) (x0:List Int) (x1:List Int) (x2:Int) (x3:Int) :
 LQ qd D n 54 [.r,.r,.l,.r,.l] n (qd4 x0 x1 x2 x3) (CQ qd D n 54 [] [.r,.r,.l,.r,.l] (qu qd 54))=qiz D n x0 x1 x2 x3:=by
 rw[qn0]
 simp only[qvd,qve]
 rfl
theorem qyj (D:DX)(n:Nat) (a0:List Int) (a1:List Int):rfC qd D n 54 (a0,(a1,()))=qkb D n a0 a1:=by
 have h:rfC qd D n 54 (a0,(a1,()))=qkc D n (fun x0 x1 x2 x3=>LQ qd D n 54 [.r,.r,.l,.r,.l] n (qd4 x0 x1 x2 x3) (CQ qd D n 54 [] [.r,.r,.l,.r,.l] (qu qd 54))) a0 a1:=by kernel_rfl
 rw[h]
 simp only[qvg]
 rfl

def qxt (D:DX)(n:Nat) (a0:List Int×Int×Unit):Option (((List Int×Int×Unit)×Unit)×Unit):=qe (qoz D (Prod.fst a0)) fun b↦some (((Prod.fst (Prod.fst b),Prod.fst (Prod.snd a0),()),()),())
def qqc (D:DX)(n:Nat) (a0:List Int×Int×Unit):Option (((List Int×Int×Unit)×Unit)×Unit):=qxt D n a0
theorem q5t (D:DX)(n:Nat) (a0:List Int×Int×Unit):rfC qd D n 55 (a0,())=qqc D n a0:=by kernel_rfl

def qi9 (D:DX)(n:Nat) (go:List Int→Int→Int→Int→Option ((Int×Unit)×Unit)) (K0:Int→Option ((Int×Unit)×Unit)) (K1:Option ((Int×Unit)×Unit)) (x0:List Int) (x1:Int) (x2:Int) (x3:Int):Option ((Int×Unit)×Unit):=br (decide (x3<x2)) (br (decide (0≤x3)&&decide (x3<(↑(List.length x0):Int))) (br (decide (x1=List.getD x0 (Int.toNat x3) 0)) (K0 x3) (go x0 x1 x2 (IntKind.wrap IntKind.i64 (x3+1)))) none) K1
def qd5 (D:DX)(n:Nat) (K0:Int→Option ((Int×Unit)×Unit)) (K1:Option ((Int×Unit)×Unit)):Nat→(List Int)→(Int)→(Int)→(Int)→Option ((Int×Unit)×Unit) | 0=>(fun x0 x1 x2 x3=>none) | m+1=>(fun x0 x1 x2 x3=>qi9 D n (qd5 D n K0 K1 m) K0 K1 x0 x1 x2 x3)
def qh5 (D:DX)(n:Nat) (v0_0:Int):Option ((Int×Unit)×Unit):=some ((v0_0,()),())
def qib (D:DX)(n:Nat):Option ((Int×Unit)×Unit):=some ((-1,()),())
def qi0 (D:DX)(n:Nat):(List Int)→(Int)→(Int)→(Int)→Option ((Int×Unit)×Unit):=(fun x0 x1 x2 x3=>qd5 D n (fun v0_0=>qh5 D n v0_0) (qib D n) n x0 x1 x2 x3)
def qj9 (D:DX)(n:Nat) (lp0:List Int→Int→Int→Int→Option ((Int×Unit)×Unit)) (a0:List Int) (a1:Int):Option ((Int×Unit)×Unit):=lp0 a0 a1 (↑(List.length a0):Int) 0
def qj7 (D:DX)(n:Nat) (a0:List Int) (a1:Int):Option ((Int×Unit)×Unit):=qj9 D n (qi0 D n) a0 a1
def qd6 (x0:List Int) (x1:Int) (x2:Int) (x3:Int):St:=stq 19 [(0,AV.val (Ty.sl yI) x0),(1,avI x1),(7,avI x2),(8,avI x3)] [] 
def qf5 (v0_0:Int):St:=stq 19 [(4,avI v0_0)] [] 
def qf3:St:=stq 19 [] [] 
theorem qwr (D:DX)(n:Nat) (m:Nat) (K:Ex→St→Option (Out ctx 56)) (x0:List Int) (x1:Int) (x2:Int) (x3:Int) :
 LQ qd D n 56 [.r,.l,.r,.l] (m+1) (qd6 x0 x1 x2 x3) K=qi9 D n (fun x0 x1 x2 x3=>LQ qd D n 56 [.r,.l,.r,.l] m (qd6 x0 x1 x2 x3) K) (fun v0_0=>K (Ex.ret) (qf5 v0_0)) (K (Ex.exit 0) (qf3)) x0 x1 x2 x3:=by kernel_rfl
theorem qnv (D:DX)(n:Nat) (K:Ex→St→Option (Out ctx 56)):∀ (m:Nat) (x0:List Int) (x1:Int) (x2:Int) (x3:Int),LQ qd D n 56 [.r,.l,.r,.l] m (qd6 x0 x1 x2 x3) K=qd5 D n (fun v0_0=>K (Ex.ret) (qf5 v0_0)) (K (Ex.exit 0) (qf3)) m x0 x1 x2 x3
 | 0,x0,x1,x2,x3=>qcb ..
 | m+1,x0,x1,x2,x3=>by
  have ih:(fun x0 x1 x2 x3=>LQ qd D n 56 [.r,.l,.r,.l] m (qd6 x0 x1 x2 x3) K)=qd5 D n (fun v0_0=>K (Ex.ret) (qf5 v0_0)) (K (Ex.exit 0) (qf3)) m:=by funext x0 x1 x2 x3;exact qnv D n K m x0 x1 x2 x3
  rw[qwr]
  rw[ih];rfl
theorem qu8 (D:DX)(n:Nat) (v0_0:Int) :
 (CQ qd D n 56 [] [.r,.l,.r,.l] (qu qd 56)) (Ex.ret) (qf5 v0_0)=qh5 D n v0_0:=by kernel_rfl
theorem qvc (D:DX)(n:Nat) :
 (CQ qd D n 56 [] [.r,.l,.r,.l] (qu qd 56)) (Ex.exit 0) (qf3)=qib D n:=by kernel_rfl
theorem qu5 (D:DX)(n:Nat) (x0:List Int) (x1:Int) (x2:Int) (x3:Int) :
 LQ qd D n 56 [.r,.l,.r,.l] n (qd6 x0 x1 x2 x3) (CQ qd D n 56 [] [.r,.l,.r,.l] (qu qd 56))=qi0 D n x0 x1 x2 x3:=by
 rw[qnv]
 simp only[qu8,qvc]
 rfl
theorem qyb (D:DX)(n:Nat) (a0:List Int) (a1:Int):rfC qd D n 56 (a0,(a1,()))=qj7 D n a0 a1:=by
 have h:rfC qd D n 56 (a0,(a1,()))=qj9 D n (fun x0 x1 x2 x3=>LQ qd D n 56 [.r,.l,.r,.l] n (qd6 x0 x1 x2 x3) (CQ qd D n 56 [] [.r,.l,.r,.l] (qu qd 56))) a0 a1:=by kernel_rfl
 rw[h]
 simp only[qu5]
 rfl

def q1m (D:DX)(n:Nat) (a0:Int):Option ((Bool×Unit)×Unit):=qe (qmp D a0 1 6) fun b↦some ((Prod.fst (Prod.fst b),()),())
def qw7 (D:DX)(n:Nat) (a0:Int):Option ((Bool×Unit)×Unit):=q1m D n a0
theorem qbcu (D:DX)(n:Nat) (a0:Int):rfC qd D n 57 (a0,())=qw7 D n a0:=by kernel_rfl

def qmx (D:DX)(n:Nat) (a0:List Int) (a1:Int):Option ((Bool×Unit)×Unit):=qe (qg4 D a0 a1) fun b↦some ((decide (Prod.fst (Prod.fst b)≥0),()),())
def qh8 (D:DX)(n:Nat) (a0:List Int) (a1:Int):Option ((Bool×Unit)×Unit):=qmx D n a0 a1
theorem qu3 (D:DX)(n:Nat) (a0:List Int) (a1:Int):rfC qd D n 58 (a0,(a1,()))=qh8 D n a0 a1:=by kernel_rfl

def qbev (D:DX)(n:Nat) (a0:Int) (a1:Int) (a2:Int):Option ((Bool×Unit)×Unit):=some ((bif decide (a0≥a1) then decide (a0≤a2) else false,()),())
def q33 (D:DX)(n:Nat) (a0:Int) (a1:Int) (a2:Int):Option ((Bool×Unit)×Unit):=qbev D n a0 a1 a2
theorem qbe0 (D:DX)(n:Nat) (a0:Int) (a1:Int) (a2:Int):rfC qd D n 59 (a0,(a1,(a2,())))=q33 D n a0 a1 a2:=by kernel_rfl

def q1r (D:DX)(n:Nat) (a0:Int):Option ((Bool×Unit)×Unit):=qe (qmp D a0 0 3) fun b↦some ((Prod.fst (Prod.fst b),()),())
def qws (D:DX)(n:Nat) (a0:Int):Option ((Bool×Unit)×Unit):=q1r D n a0
theorem qbcj (D:DX)(n:Nat) (a0:Int):rfC qd D n 60 (a0,())=qws D n a0:=by kernel_rfl

def qyx (D:DX)(n:Nat) (a0:Int):Option ((Bool×Unit)×Unit):=qe (qmp D a0 0 2) fun b↦some ((Prod.fst (Prod.fst b),()),())
def qsy (D:DX)(n:Nat) (a0:Int):Option ((Bool×Unit)×Unit):=qyx D n a0
theorem q8f (D:DX)(n:Nat) (a0:Int):rfC qd D n 61 (a0,())=qsy D n a0:=by kernel_rfl

def qyr (D:DX)(n:Nat) (a0:Int):Option ((Int×Unit)×Unit):=qe (qbw D a0) fun b↦qe (qjh D (Prod.fst (Prod.fst b)) (IntKind.wrap IntKind.i64 (3+a0))) fun b↦some ((Prod.fst (Prod.fst b),()),())
def qse (D:DX)(n:Nat) (a0:Int):Option ((Int×Unit)×Unit):=qyr D n a0
theorem q9g (D:DX)(n:Nat) (a0:Int):rfC qd D n 62 (a0,())=qse D n a0:=by kernel_rfl

def qzm (D:DX)(n:Nat) (a0:Int):Option ((Int×Unit)×Unit):=qe (qdy D a0) fun b↦qe (qjh D (Prod.fst (Prod.fst b)) (IntKind.wrap IntKind.i64 (10+a0))) fun b↦some ((Prod.fst (Prod.fst b),()),())
def qsk (D:DX)(n:Nat) (a0:Int):Option ((Int×Unit)×Unit):=qzm D n a0
theorem q7v (D:DX)(n:Nat) (a0:Int):rfC qd D n 63 (a0,())=qsk D n a0:=by kernel_rfl

def qy4 (D:DX)(n:Nat) (a0:Int):Option ((Int×Unit)×Unit):=qe (qbw D a0) fun b↦br (!Prod.fst (Prod.fst b)) (some ((-1,()),())) (some ((Int.tmod a0 3,()),()))
def qsf (D:DX)(n:Nat) (a0:Int):Option ((Int×Unit)×Unit):=qy4 D n a0
theorem q8w (D:DX)(n:Nat) (a0:Int):rfC qd D n 64 (a0,())=qsf D n a0:=by kernel_rfl

def q8x (D:DX)(n:Nat):Option (((List Int×Int×Unit)×Unit)×Unit):=some (((List.replicate (Int.toNat 4) 0,0,()),()),())
def qzy (D:DX)(n:Nat):Option (((List Int×Int×Unit)×Unit)×Unit):=q8x D n
theorem q73 (D:DX)(n:Nat):rfC qd D n 65 ()=qzy D n:=by kernel_rfl

def qu0 (D:DX)(n:Nat) (go:Int→Int→List Int×Int×Unit→Option ((Int×Unit)×Unit)) (K0:Int→Option ((Int×Unit)×Unit)) (K1:Option ((Int×Unit)×Unit)) (x0:Int) (x1:Int) (x2:List Int×Int×Unit):Option ((Int×Unit)×Unit):=br (decide (x1<(↑(List.length (Prod.fst x2)):Int))) (br (decide (0≤x1)&&decide (x1<(↑(List.length (Prod.fst x2)):Int))) (br (decide (List.getD (Prod.fst x2) (Int.toNat x1) 0=x0)) (K0 x1) (go x0 (IntKind.wrap IntKind.i64 (x1+1)) x2)) none) K1
def qjg (D:DX)(n:Nat) (K0:Int→Option ((Int×Unit)×Unit)) (K1:Option ((Int×Unit)×Unit)):Nat→(Int)→(Int)→(List Int×Int×Unit)→Option ((Int×Unit)×Unit) | 0=>(fun x0 x1 x2=>none) | m+1=>(fun x0 x1 x2=>qu0 D n (qjg D n K0 K1 m) K0 K1 x0 x1 x2)
def qqq (D:DX)(n:Nat) (v0_0:Int):Option ((Int×Unit)×Unit):=some ((v0_0,()),())
def qp5 (D:DX)(n:Nat):Option ((Int×Unit)×Unit):=some ((-1,()),())
def qsd (D:DX)(n:Nat):(Int)→(Int)→(List Int×Int×Unit)→Option ((Int×Unit)×Unit):=(fun x0 x1 x2=>qjg D n (fun v0_0=>qqq D n v0_0) (qp5 D n) n x0 x1 x2)
def qwj (D:DX)(n:Nat) (lp0:Int→Int→List Int×Int×Unit→Option ((Int×Unit)×Unit)) (a0:List Int×Int×Unit) (a1:Int):Option ((Int×Unit)×Unit):=lp0 a1 0 a0
def qvo (D:DX)(n:Nat) (a0:List Int×Int×Unit) (a1:Int):Option ((Int×Unit)×Unit):=qwj D n (qsd D n) a0 a1
def qjf (x0:Int) (x1:Int) (x2:List Int×Int×Unit):St:=stq 21 [(1,avI x0),(2,AV.addr 2 []),(5,avI x1)] [(2,Root.mk (Ty.pair (Ty.sl yI) (Ty.pair yI Ty.unit)) Mk.no x2 true)] 
def qmz (v0_0:Int):St:=stq 21 [(4,avI v0_0)] [] 
def qm1:St:=stq 21 [] [] 
theorem q7w (D:DX)(n:Nat) (m:Nat) (K:Ex→St→Option (Out ctx 66)) (x0:Int) (x1:Int) (x2:List Int×Int×Unit) :
 LQ qd D n 66 [.r,.l,.r,.l] (m+1) (qjf x0 x1 x2) K=qu0 D n (fun x0 x1 x2=>LQ qd D n 66 [.r,.l,.r,.l] m (qjf x0 x1 x2) K) (fun v0_0=>K (Ex.ret) (qmz v0_0)) (K (Ex.exit 0) (qm1)) x0 x1 x2:=by kernel_rfl
theorem qyv (D:DX)(n:Nat) (K:Ex→St→Option (Out ctx 66)):∀ (m:Nat) (x0:Int) (x1:Int) (x2:List Int×Int×Unit),LQ qd D n 66 [.r,.l,.r,.l] m (qjf x0 x1 x2) K=qjg D n (fun v0_0=>K (Ex.ret) (qmz v0_0)) (K (Ex.exit 0) (qm1)) m x0 x1 x2
 | 0,x0,x1,x2=>qcb ..
 | m+1,x0,x1,x2=>by
  have ih:(fun x0 x1 x2=>LQ qd D n 66 [.r,.l,.r,.l] m (qjf x0 x1 x2) K)=qjg D n (fun v0_0=>K (Ex.ret) (qmz v0_0)) (K (Ex.exit 0) (qm1)) m:=by funext x0 x1 x2;exact qyv D n K m x0 x1 x2
  rw[q7w]
  rw[ih];rfl
theorem q5v (D:DX)(n:Nat) (v0_0:Int) :
 (CQ qd D n 66 [] [.r,.l,.r,.l] (qu qd 66)) (Ex.ret) (qmz v0_0)=qqq D n v0_0:=by kernel_rfl
theorem q56 (D:DX)(n:Nat) :
 (CQ qd D n 66 [] [.r,.l,.r,.l] (qu qd 66)) (Ex.exit 0) (qm1)=qp5 D n:=by kernel_rfl
theorem q53 (D:DX)(n:Nat) (x0:Int) (x1:Int) (x2:List Int×Int×Unit) :
 LQ qd D n 66 [.r,.l,.r,.l] n (qjf x0 x1 x2) (CQ qd D n 66 [] [.r,.l,.r,.l] (qu qd 66))=qsd D n x0 x1 x2:=by
 rw[qyv]
 simp only[q5v,q56]
 rfl
theorem qbcv (D:DX)(n:Nat) (a0:List Int×Int×Unit) (a1:Int):rfC qd D n 66 (a0,(a1,()))=qvo D n a0 a1:=by
 have h:rfC qd D n 66 (a0,(a1,()))=qwj D n (fun x0 x1 x2=>LQ qd D n 66 [.r,.l,.r,.l] n (qjf x0 x1 x2) (CQ qd D n 66 [] [.r,.l,.r,.l] (qu qd 66))) a0 a1:=by kernel_rfl
 rw[h]
 simp only[q53]
 rfl

def qw0 (D:DX)(n:Nat) (a0:List Int×Int×Int×Unit) (a1:List Int):Option ((Int×Unit)×tCur×Unit):=qe (qdr D a0 (↑(List.length a1):Int)) fun b↦br (decide (0≤Prod.fst (Prod.fst b))&&decide (Prod.fst (Prod.fst b)<(↑(List.length a1):Int))) (some ((List.getD a1 (Int.toNat (Prod.fst (Prod.fst b))) 0,()),Prod.fst (Prod.snd b),())) none
def qpc (D:DX)(n:Nat) (a0:List Int×Int×Int×Unit) (a1:List Int):Option ((Int×Unit)×tCur×Unit):=qw0 D n a0 a1
theorem q4w (D:DX)(n:Nat) (a0:List Int×Int×Int×Unit) (a1:List Int):rfC qd D n 67 (a0,(a1,()))=qpc D n a0 a1:=by kernel_rfl

def q1p (D:DX)(n:Nat) (a0:Int):Option ((Bool×Unit)×Unit):=qe (qey D a0 1 4) fun b↦some ((Prod.fst (Prod.fst b),()),())
def qxc (D:DX)(n:Nat) (a0:Int):Option ((Bool×Unit)×Unit):=q1p D n a0
theorem qbdl (D:DX)(n:Nat) (a0:Int):rfC qd D n 68 (a0,())=qxc D n a0:=by kernel_rfl

def qbej (D:DX)(n:Nat) (a0:Int):Option ((Bool×Unit)×Unit):=some ((bif bif bif decide (a0=1) then true else decide (a0=2) then true else decide (a0=5) then true else decide (a0=10),()),())
def q1x (D:DX)(n:Nat) (a0:Int):Option ((Bool×Unit)×Unit):=qbej D n a0
theorem qbbt (D:DX)(n:Nat) (a0:Int):rfC qd D n 69 (a0,())=q1x D n a0:=by kernel_rfl

def qta (D:DX)(n:Nat) (go:Int→List Int×Int×Unit→Option ((Bool×Unit)×Unit)) (K0:Bool→List Int×Int×Unit→Option ((Bool×Unit)×Unit)) (K1:List Int×Int×Unit→Option ((Bool×Unit)×Unit)) (x0:Int) (x1:List Int×Int×Unit):Option ((Bool×Unit)×Unit):=br (decide (x0<(↑(List.length (Prod.fst x1)):Int))) (br (decide (0≤x0)&&decide (x0<(↑(List.length (Prod.fst x1)):Int))) (br (List.getD (Prod.fst x1) (Int.toNat x0) 0 != 0) (br (decide (0≤x0)&&decide (x0<(↑(List.length (Prod.fst x1)):Int))) (qe (qeu D (List.getD (Prod.fst x1) (Int.toNat x0) 0)) fun b↦br (!Prod.fst (Prod.fst b)) (K0 false x1) (br (decide (0≤x0)&&decide (x0<(↑(List.length (Prod.fst x1)):Int))) (qe (qqk D x1 (List.getD (Prod.fst x1) (Int.toNat x0) 0)) fun b↦br (Prod.fst (Prod.fst b) != x0) (K0 false x1) (go (IntKind.wrap IntKind.i64 (x0+1)) x1)) none)) none) (go (IntKind.wrap IntKind.i64 (x0+1)) x1)) none) (K1 x1)
def qil (D:DX)(n:Nat) (K0:Bool→List Int×Int×Unit→Option ((Bool×Unit)×Unit)) (K1:List Int×Int×Unit→Option ((Bool×Unit)×Unit)):Nat→(Int)→(List Int×Int×Unit)→Option ((Bool×Unit)×Unit) | 0=>(fun x0 x1=>none) | m+1=>(fun x0 x1=>qta D n (qil D n K0 K1 m) K0 K1 x0 x1)
def qps (D:DX)(n:Nat) (v0_0:Bool) (v0_1:List Int×Int×Unit):Option ((Bool×Unit)×Unit):=some ((v0_0,()),())
def qmb (D:DX)(n:Nat) (v1_0:List Int×Int×Unit):Option ((Bool×Unit)×Unit):=br (decide ((↑(List.length (Prod.fst v1_0)):Int)=4)) (qe (qey D (Prod.fst (Prod.snd v1_0)) 0 5) fun b↦some ((Prod.fst (Prod.fst b),()),())) (some ((false,()),()))
def qqv (D:DX)(n:Nat):(Int)→(List Int×Int×Unit)→Option ((Bool×Unit)×Unit):=(fun x0 x1=>qil D n (fun v0_0 v0_1=>qps D n v0_0 v0_1) (fun v1_0=>qmb D n v1_0) n x0 x1)
def qt9 (D:DX)(n:Nat) (lp0:Int→List Int×Int×Unit→Option ((Bool×Unit)×Unit)) (a0:List Int×Int×Unit):Option ((Bool×Unit)×Unit):=lp0 0 a0
def qum (D:DX)(n:Nat) (a0:List Int×Int×Unit):Option ((Bool×Unit)×Unit):=qt9 D n (qqv D n) a0
def qiu (x0:Int) (x1:List Int×Int×Unit):St:=stq 46 [(1,AV.addr 1 []),(3,avI x0)] [(1,Root.mk (Ty.pair (Ty.sl yI) (Ty.pair yI Ty.unit)) Mk.no x1 true)] 
def qly (v0_0:Bool) (v0_1:List Int×Int×Unit):St:=stq 46 [(1,AV.addr 1 []),(2,AV.val Ty.bool v0_0)] [(1,Root.mk (Ty.pair (Ty.sl yI) (Ty.pair yI Ty.unit)) Mk.no v0_1 true)] 
def qls (v1_0:List Int×Int×Unit):St:=stq 46 [(1,AV.addr 1 [])] [(1,Root.mk (Ty.pair (Ty.sl yI) (Ty.pair yI Ty.unit)) Mk.no v1_0 true)] 
theorem q6f (D:DX)(n:Nat) (m:Nat) (K:Ex→St→Option (Out ctx 70)) (x0:Int) (x1:List Int×Int×Unit) :
 LQ qd D n 70 [.r,.l,.r,.l] (m+1) (qiu x0 x1) K=qta D n (fun x0 x1=>LQ qd D n 70 [.r,.l,.r,.l] m (qiu x0 x1) K) (fun v0_0 v0_1=>K (Ex.ret) (qly v0_0 v0_1)) (fun v1_0=>K (Ex.exit 0) (qls v1_0)) x0 x1:=by kernel_rfl
theorem qx0 (D:DX)(n:Nat) (K:Ex→St→Option (Out ctx 70)):∀ (m:Nat) (x0:Int) (x1:List Int×Int×Unit),LQ qd D n 70 [.r,.l,.r,.l] m (qiu x0 x1) K=qil D n (fun v0_0 v0_1=>K (Ex.ret) (qly v0_0 v0_1)) (fun v1_0=>K (Ex.exit 0) (qls v1_0)) m x0 x1
 | 0,x0,x1=>qcb ..
 | m+1,x0,x1=>by
  have ih:(fun x0 x1=>LQ qd D n 70 [.r,.l,.r,.l] m (qiu x0 x1) K)=qil D n (fun v0_0 v0_1=>K (Ex.ret) (qly v0_0 v0_1)) (fun v1_0=>K (Ex.exit 0) (qls v1_0)) m:=by funext x0 x1;exact qx0 D n K m x0 x1
  rw[q6f]
  rw[ih];rfl
theorem q4g (D:DX)(n:Nat) (v0_0:Bool) (v0_1:List Int×Int×Unit) :
 (CQ qd D n 70 [] [.r,.l,.r,.l] (qu qd 70)) (Ex.ret) (qly v0_0 v0_1)=qps D n v0_0 v0_1:=by kernel_rfl
theorem q4d (D:DX)(n:Nat) (v1_0:List Int×Int×Unit) :
 (CQ qd D n 70 [] [.r,.l,.r,.l] (qu qd 70)) (Ex.exit 0) (qls v1_0)=qmb D n v1_0:=by kernel_rfl
theorem q4t (D:DX)(n:Nat) (x0:Int) (x1:List Int×Int×Unit) :
 LQ qd D n 70 [.r,.l,.r,.l] n (qiu x0 x1) (CQ qd D n 70 [] [.r,.l,.r,.l] (qu qd 70))=qqv D n x0 x1:=by
 rw[qx0]
 simp only[q4g,q4d]
 rfl
theorem qbbh (D:DX)(n:Nat) (a0:List Int×Int×Unit):rfC qd D n 70 (a0,())=qum D n a0:=by
 have h:rfC qd D n 70 (a0,())=qt9 D n (fun x0 x1=>LQ qd D n 70 [.r,.l,.r,.l] n (qiu x0 x1) (CQ qd D n 70 [] [.r,.l,.r,.l] (qu qd 70))) a0:=by kernel_rfl
 rw[h]
 simp only[q4t]
 rfl

def qzl (D:DX)(n:Nat) (a0:Int):Option ((Int×Unit)×Unit):=qe (qeu D a0) fun b↦br (!Prod.fst (Prod.fst b)) (some ((-1,()),())) (some ((IntKind.wrap IntKind.i64 (3+a0),()),()))
def qsz (D:DX)(n:Nat) (a0:Int):Option ((Int×Unit)×Unit):=qzl D n a0
theorem q8i (D:DX)(n:Nat) (a0:Int):rfC qd D n 71 (a0,())=qsz D n a0:=by kernel_rfl

def qqo (D:DX)(n:Nat) (go:Int→Int→Int→List Int×Int×Unit→Option ((Int×Unit)×Unit)) (K0:Int→Option ((Int×Unit)×Unit)) (x0:Int) (x1:Int) (x2:Int) (x3:List Int×Int×Unit):Option ((Int×Unit)×Unit):=br (decide (x2<(↑(List.length (Prod.fst x3)):Int))) (br (decide (0≤x2)&&decide (x2<(↑(List.length (Prod.fst x3)):Int))) (qe (qeu D (List.getD (Prod.fst x3) (Int.toNat x2) 0)) fun b↦br (Prod.fst (Prod.fst b)) (br (decide (0≤x2)&&decide (x2<(↑(List.length (Prod.fst x3)):Int))) (qe (qb5 D (List.getD (Prod.fst x3) (Int.toNat x2) 0)) fun b↦qe (qqn D (decide (Prod.fst (Prod.fst b)=x0))) fun b↦go x0 (IntKind.wrap IntKind.i64 (x1+Prod.fst (Prod.fst b))) (IntKind.wrap IntKind.i64 (x2+1)) x3) none) (qe (qqn D false) fun b↦go x0 (IntKind.wrap IntKind.i64 (x1+Prod.fst (Prod.fst b))) (IntKind.wrap IntKind.i64 (x2+1)) x3)) none) (K0 x1)
def qhj (D:DX)(n:Nat) (K0:Int→Option ((Int×Unit)×Unit)):Nat→(Int)→(Int)→(Int)→(List Int×Int×Unit)→Option ((Int×Unit)×Unit) | 0=>(fun x0 x1 x2 x3=>none) | m+1=>(fun x0 x1 x2 x3=>qqo D n (qhj D n K0 m) K0 x0 x1 x2 x3)
def qon (D:DX)(n:Nat) (v0_0:Int):Option ((Int×Unit)×Unit):=some ((v0_0,()),())
def qpo (D:DX)(n:Nat):(Int)→(Int)→(Int)→(List Int×Int×Unit)→Option ((Int×Unit)×Unit):=(fun x0 x1 x2 x3=>qhj D n (fun v0_0=>qon D n v0_0) n x0 x1 x2 x3)
def qr5 (D:DX)(n:Nat) (lp0:Int→Int→Int→List Int×Int×Unit→Option ((Int×Unit)×Unit)) (a0:List Int×Int×Unit) (a1:Int):Option ((Int×Unit)×Unit):=lp0 a1 0 0 a0
def qsi (D:DX)(n:Nat) (a0:List Int×Int×Unit) (a1:Int):Option ((Int×Unit)×Unit):=qr5 D n (qpo D n) a0 a1
def qht (x0:Int) (x1:Int) (x2:Int) (x3:List Int×Int×Unit):St:=stq 34 [(1,avI x0),(2,AV.addr 2 []),(5,avI x1),(6,avI x2)] [(2,Root.mk (Ty.pair (Ty.sl yI) (Ty.pair yI Ty.unit)) Mk.no x3 true)] 
def qkv (v0_0:Int):St:=stq 34 [(5,avI v0_0)] [] 
theorem q5c (D:DX)(n:Nat) (m:Nat) (K:Ex→St→Option (Out ctx 72)) (x0:Int) (x1:Int) (x2:Int) (x3:List Int×Int×Unit) :
 LQ qd D n 72 [.r,.r,.l,.r,.l] (m+1) (qht x0 x1 x2 x3) K=qqo D n (fun x0 x1 x2 x3=>LQ qd D n 72 [.r,.r,.l,.r,.l] m (qht x0 x1 x2 x3) K) (fun v0_0=>K (Ex.exit 0) (qkv v0_0)) x0 x1 x2 x3:=by kernel_rfl
theorem qw5 (D:DX)(n:Nat) (K:Ex→St→Option (Out ctx 72)):∀ (m:Nat) (x0:Int) (x1:Int) (x2:Int) (x3:List Int×Int×Unit),LQ qd D n 72 [.r,.r,.l,.r,.l] m (qht x0 x1 x2 x3) K=qhj D n (fun v0_0=>K (Ex.exit 0) (qkv v0_0)) m x0 x1 x2 x3
 | 0,x0,x1,x2,x3=>qcb ..
 | m+1,x0,x1,x2,x3=>by
  have ih:(fun x0 x1 x2 x3=>LQ qd D n 72 [.r,.r,.l,.r,.l] m (qht x0 x1 x2 x3) K)=qhj D n (fun v0_0=>K (Ex.exit 0) (qkv v0_0)) m:=by funext x0 x1 x2 x3;exact qw5 D n K m x0 x1 x2 x3
  rw[q5c]
  rw[ih];rfl
theorem q3f (D:DX)(n:Nat) (v0_0:Int) :
 (CQ qd D n 72 [] [.r,.r,.l,.r,.l] (qu qd 72)) (Ex.exit 0) (qkv v0_0)=qon D n v0_0:=by kernel_rfl
theorem q3j (D:DX)(n:Nat) (x0:Int) (x1:Int) (x2:Int) (x3:List Int×Int×Unit) :
 LQ qd D n 72 [.r,.r,.l,.r,.l] n (qht x0 x1 x2 x3) (CQ qd D n 72 [] [.r,.r,.l,.r,.l] (qu qd 72))=qpo D n x0 x1 x2 x3:=by
 rw[qw5]
 simp only[q3f]
 rfl
theorem q7l (D:DX)(n:Nat) (a0:List Int×Int×Unit) (a1:Int):rfC qd D n 72 (a0,(a1,()))=qsi D n a0 a1:=by
 have h:rfC qd D n 72 (a0,(a1,()))=qr5 D n (fun x0 x1 x2 x3=>LQ qd D n 72 [.r,.r,.l,.r,.l] n (qht x0 x1 x2 x3) (CQ qd D n 72 [] [.r,.r,.l,.r,.l] (qu qd 72))) a0 a1:=by kernel_rfl
 rw[h]
 simp only[q3j]
 rfl

def qzj (D:DX)(n:Nat) (a0:Int):Option ((Int×Unit)×Unit):=qe (qey D a0 0 2) fun b↦br (!Prod.fst (Prod.fst b)) (some ((-1,()),())) (some ((IntKind.wrap IntKind.i64 (10+a0),()),()))
def qs7 (D:DX)(n:Nat) (a0:Int):Option ((Int×Unit)×Unit):=qzj D n a0
theorem q8s (D:DX)(n:Nat) (a0:Int):rfC qd D n 73 (a0,())=qs7 D n a0:=by kernel_rfl

def qei (D:DX)(n:Nat) (a0:List (Int×Int×Unit)×List Int×Int×Bool×Unit) (a1:Int×Int×Int×Unit):Option (Unit×(List (Int×Int×Unit)×List Int×Int×Bool×Unit)×Unit):=qe (qcx D (Prod.fst (Prod.snd a1))) fun b↦qe (qk D a0 (Prod.fst (Prod.fst b))) fun b↦br (decide (Prod.fst a1=1)) (qe (qz D (Prod.fst (Prod.snd b)) (Prod.fst (Prod.fst b) != 0)) fun b↦qe (qc4 D (Prod.fst (Prod.snd (Prod.snd a1)))) fun b_1↦qe (qk D (Prod.fst (Prod.snd b)) (Prod.fst (Prod.fst b_1))) fun b↦qe (qz D (Prod.fst (Prod.snd b)) (Prod.fst (Prod.fst b) != 0)) fun b↦qe (qcn D (Prod.fst (Prod.snd (Prod.snd a1)))) fun b_2↦qe (qc2 D (Prod.fst (Prod.fst b_2))) fun b_3↦qe (qk D (Prod.fst (Prod.snd b)) (Prod.fst (Prod.fst b_3))) fun b↦qe (qes D (Prod.fst (Prod.snd b)) (Prod.fst (Prod.snd a1)) [Prod.fst (Prod.snd (Prod.snd a1))]) fun b↦some ((),Prod.fst (Prod.snd b),())) (br (decide (Prod.fst a1=2)) (qe (qz D (Prod.fst (Prod.snd b)) (bif decide (Prod.fst (Prod.fst b)=0) then true else decide (Prod.fst (Prod.fst b)=Prod.fst (Prod.snd (Prod.snd a1))))) fun b_1↦qe (qc4 D (Prod.fst (Prod.snd (Prod.snd a1)))) fun b_2↦qe (qk D (Prod.fst (Prod.snd b_1)) (Prod.fst (Prod.fst b_2))) fun b_3↦qe (qz D (Prod.fst (Prod.snd b_3)) (Prod.fst (Prod.fst b_3) != 0)) fun b_4↦qe (qc4 D (Prod.fst (Prod.fst b))) fun b_5↦qe (qk D (Prod.fst (Prod.snd b_4)) (Prod.fst (Prod.fst b_5))) fun b_6↦qe (qcn D (Prod.fst (Prod.fst b))) fun b_7↦qe (qcn D (Prod.fst (Prod.snd (Prod.snd a1)))) fun b_8↦br (Prod.fst (Prod.fst b_7) != Prod.fst (Prod.fst b_8)) (qe (qcn D (Prod.fst (Prod.fst b))) fun b_9↦qe (qc2 D (Prod.fst (Prod.fst b_9))) fun b_10↦qe (qk D (Prod.fst (Prod.snd b_6)) (Prod.fst (Prod.fst b_10))) fun b_11↦qe (qcn D (Prod.fst (Prod.snd (Prod.snd a1)))) fun b_12↦qe (qc2 D (Prod.fst (Prod.fst b_12))) fun b_13↦qe (qk D (Prod.fst (Prod.snd b_11)) (Prod.fst (Prod.fst b_13))) fun b_14↦qe (qes D (Prod.fst (Prod.snd b_14)) (Prod.fst (Prod.snd a1)) [Prod.fst (Prod.fst b),Prod.fst (Prod.snd (Prod.snd a1))]) fun b↦some ((),Prod.fst (Prod.snd b),())) (qe (qes D (Prod.fst (Prod.snd b_6)) (Prod.fst (Prod.snd a1)) [Prod.fst (Prod.fst b),Prod.fst (Prod.snd (Prod.snd a1))]) fun b↦some ((),Prod.fst (Prod.snd b),()))) (qe (qz D (Prod.fst (Prod.snd b)) (decide (Prod.fst (Prod.fst b)=0))) fun b_1↦qe (qc4 D (Prod.fst (Prod.fst b))) fun b_2↦qe (qk D (Prod.fst (Prod.snd b_1)) (Prod.fst (Prod.fst b_2))) fun b_3↦qe (qcn D (Prod.fst (Prod.fst b))) fun b_4↦qe (qc2 D (Prod.fst (Prod.fst b_4))) fun b_5↦qe (qk D (Prod.fst (Prod.snd b_3)) (Prod.fst (Prod.fst b_5))) fun b_6↦qe (qes D (Prod.fst (Prod.snd b_6)) (Prod.fst (Prod.snd a1)) [Prod.fst (Prod.fst b)]) fun b↦some ((),Prod.fst (Prod.snd b),())))
def qdp (D:DX)(n:Nat) (a0:List (Int×Int×Unit)×List Int×Int×Bool×Unit) (a1:Int×Int×Int×Unit):Option (Unit×(List (Int×Int×Unit)×List Int×Int×Bool×Unit)×Unit):=qei D n a0 a1
theorem q09 (D:DX)(n:Nat) (a0:List (Int×Int×Unit)×List Int×Int×Bool×Unit) (a1:Int×Int×Int×Unit):rfC qd D n 74 (a0,(a1,()))=qdp D n a0 a1:=by kernel_rfl

def qgs (D:DX)(n:Nat) (a0:List (Int×Int×Unit)×List Int×Int×Bool×Unit) (a1:Int):Option ((Int×Unit)×(List (Int×Int×Unit)×List Int×Int×Bool×Unit)×Unit):=br (Prod.fst (Prod.snd (Prod.snd (Prod.snd a0)))) (some ((0,()),a0,())) (qe (qeg D (Prod.fst a0) a1) fun b↦br (bif decide (a1<0) then true else !Prod.fst (Prod.snd (Prod.fst b))) (some ((0,()),(Prod.fst a0,Prod.fst (Prod.snd a0),a1,true,Prod.snd (Prod.snd (Prod.snd (Prod.snd a0)))),())) (br (decide (List.length (Prod.fst (Prod.snd a0))+1≤qeq)) (some ((Prod.fst (Prod.fst b),()),(Prod.fst a0,Prod.fst (Prod.snd a0)++[a1],Prod.snd (Prod.snd a0)),())) none))
def qfs (D:DX)(n:Nat) (a0:List (Int×Int×Unit)×List Int×Int×Bool×Unit) (a1:Int):Option ((Int×Unit)×(List (Int×Int×Unit)×List Int×Int×Bool×Unit)×Unit):=qgs D n a0 a1
theorem q4x (D:DX)(n:Nat) (a0:List (Int×Int×Unit)×List Int×Int×Bool×Unit) (a1:Int):rfC qd D n 75 (a0,(a1,()))=qfs D n a0 a1:=by kernel_rfl

def qot (D:DX)(n:Nat) (a0:List (Int×Int×Unit)×List Int×Int×Bool×Unit) (a1:Bool):Option (Unit×(List (Int×Int×Unit)×List Int×Int×Bool×Unit)×Unit):=some ((),(Prod.fst a0,Prod.fst (Prod.snd a0),Prod.fst (Prod.snd (Prod.snd a0)),bif Prod.fst (Prod.snd (Prod.snd (Prod.snd a0))) then true else a1,Prod.snd (Prod.snd (Prod.snd (Prod.snd a0)))),())
def qkn (D:DX)(n:Nat) (a0:List (Int×Int×Unit)×List Int×Int×Bool×Unit) (a1:Bool):Option (Unit×(List (Int×Int×Unit)×List Int×Int×Bool×Unit)×Unit):=qot D n a0 a1
theorem q3m (D:DX)(n:Nat) (a0:List (Int×Int×Unit)×List Int×Int×Bool×Unit) (a1:Bool):rfC qd D n 76 (a0,(a1,()))=qkn D n a0 a1:=by kernel_rfl

def qba5 (D:DX)(n:Nat) (a0:Bool) (a1:Int):Option ((Int×Unit)×Unit):=br (!a0) (some ((-1,()),())) (some ((a1,()),()))
def q0v (D:DX)(n:Nat) (a0:Bool) (a1:Int):Option ((Int×Unit)×Unit):=qba5 D n a0 a1
theorem qba7 (D:DX)(n:Nat) (a0:Bool) (a1:Int):rfC qd D n 77 (a0,(a1,()))=q0v D n a0 a1:=by kernel_rfl

def qlx (D:DX)(n:Nat) (a0:Int) (a1:Int) (a2:Int) (a3:List (Int×Int×Unit)) (a4:List (Int×Int×Int×Unit)):Option (Unit×List (Int×Int×Int×Unit)×Unit):=qe (qeg D a3 a0) fun b↦br (bif decide (a0<0) then true else !Prod.fst (Prod.snd (Prod.fst b))) (some ((),a4,())) (br (decide (a2=1)) (br (decide (List.length a4+1≤qeq)) (some ((),a4++[(a0,Prod.fst (Prod.fst b),IntKind.wrap IntKind.i64 (Prod.fst (Prod.fst b)+1),())],())) none) (br (decide (a2 = -1)) (br (decide (List.length a4+1≤qeq)) (some ((),a4++[(a0,Prod.fst (Prod.fst b),if IntKind.wrap IntKind.i64 (Prod.fst (Prod.fst b) - 1)>0 then IntKind.wrap IntKind.i64 (Prod.fst (Prod.fst b) - 1) else 0,())],())) none) (br (decide (List.length a4+1≤qeq)) (some ((),a4++[(a0,Prod.fst (Prod.fst b),a1,())],())) none)))
def qiw (D:DX)(n:Nat) (a0:Int) (a1:Int) (a2:Int) (a3:List (Int×Int×Unit)) (a4:List (Int×Int×Int×Unit)):Option (Unit×List (Int×Int×Int×Unit)×Unit):=qlx D n a0 a1 a2 a3 a4
theorem q4n (D:DX)(n:Nat) (a0:Int) (a1:Int) (a2:Int) (a3:List (Int×Int×Unit)) (a4:List (Int×Int×Int×Unit)):rfC qd D n 78 (a0,(a1,(a2,(a3,(a4,())))))=qiw D n a0 a1 a2 a3 a4:=by kernel_rfl

def qgm (D:DX)(n:Nat) (a1:Clo) (a0:List (Int×Int×Int×Unit)):Option (Unit×List (Int×Int×Int×Unit)×Unit):=qe (qm5 D (IntKind.wrap IntKind.u64 (↑(List.length a0):Int))) fun b↦qe (qg D a0 0 (↑(List.length a0):Int) (Prod.fst (Prod.fst b)) a1) fun b↦some ((),Prod.fst (Prod.snd b),())
def qee (D:DX)(n:Nat) (a0:List (Int×Int×Int×Unit)) (a1:Clo):Option (Unit×List (Int×Int×Int×Unit)×Unit):=qgm D n a1 a0
theorem qme (D:DX)(n:Nat) (a0:List (Int×Int×Int×Unit)) (a1:Clo):rfC qd D n 79 (a0,(a1,()))=qee D n a0 a1:=by kernel_rfl

def qwa (D:DX)(n:Nat) (a0:Int×Int×Int×Unit) (a1:Int×Int×Int×Unit):Option ((Int×Unit)×Unit):=some ((IntKind.wrap IntKind.i64 (Prod.fst a0 - Prod.fst a1),()),())
def qpf (D:DX)(n:Nat) (a0:Int×Int×Int×Unit) (a1:Int×Int×Int×Unit):Option ((Int×Unit)×Unit):=qwa D n a0 a1
theorem q4h (D:DX)(n:Nat) (a0:Int×Int×Int×Unit) (a1:Int×Int×Int×Unit):rfC qd D n 80 (a0,(a1,()))=qpf D n a0 a1:=by kernel_rfl
end
end Go.G


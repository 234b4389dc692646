import Derived.Test.YtpmimbgkiindbaaGreatAV3
set_option linter.unusedVariables false
set_option linter.unusedSimpArgs false
set_option linter.unusedSectionVars false
open Go.IntKind (wrap)
namespace Go.G
open Go Go.V
abbrev DX:=Den ctx
abbrev KT (k:Nat):=Ex→St→Option (Out ctx k)
noncomputable abbrev LF (D:DX)(n:Nat)(k:Nat):=LQ (C:=ctx) qk0 D n k
noncomputable abbrev CF (D:DX)(n:Nat)(k:Nat):=CQ (C:=ctx) qk0 D n k
noncomputable abbrev KF (D:DX)(n:Nat)(k:Nat):=LK (C:=ctx) qk0 D n k
noncomputable abbrev lF (k:Nat):=qbq0 (C:=ctx) qk0 k
noncomputable abbrev rF (D:DX)(n:Nat)(k:Nat):=rfC (C:=ctx) qk0 D n k
noncomputable abbrev bF (k:Nat):=qwc qk0 k
theorem eL2 {t0 t1 R:Type}{A B:Nat→t0→t1→R}(b:(t0→t1→R)→t0→t1→R)(h0:∀ x0 x1,A 0 x0 x1=B 0 x0 x1)(ha:∀ m x0 x1,A (m+1) x0 x1=b (A m) x0 x1)(hb:∀ m x0 x1,B (m+1) x0 x1=b (B m) x0 x1):∀ m x0 x1,A m x0 x1=B m x0 x1
| 0=>h0
| m+1=>fun x0 x1=>by rw[ha,hb,show A m=B m from funext fun x0=>funext fun x1=>eL2 b h0 ha hb m x0 x1]
theorem eL3 {t0 t1 t2 R:Type}{A B:Nat→t0→t1→t2→R}(b:(t0→t1→t2→R)→t0→t1→t2→R)(h0:∀ x0 x1 x2,A 0 x0 x1 x2=B 0 x0 x1 x2)(ha:∀ m x0 x1 x2,A (m+1) x0 x1 x2=b (A m) x0 x1 x2)(hb:∀ m x0 x1 x2,B (m+1) x0 x1 x2=b (B m) x0 x1 x2):∀ m x0 x1 x2,A m x0 x1 x2=B m x0 x1 x2
| 0=>h0
| m+1=>fun x0 x1 x2=>by rw[ha,hb,show A m=B m from funext fun x0=>funext fun x1=>funext fun x2=>eL3 b h0 ha hb m x0 x1 x2]
theorem eL4 {t0 t1 t2 t3 R:Type}{A B:Nat→t0→t1→t2→t3→R}(b:(t0→t1→t2→t3→R)→t0→t1→t2→t3→R)(h0:∀ x0 x1 x2 x3,A 0 x0 x1 x2 x3=B 0 x0 x1 x2 x3)(ha:∀ m x0 x1 x2 x3,A (m+1) x0 x1 x2 x3=b (A m) x0 x1 x2 x3)(hb:∀ m x0 x1 x2 x3,B (m+1) x0 x1 x2 x3=b (B m) x0 x1 x2 x3):∀ m x0 x1 x2 x3,A m x0 x1 x2 x3=B m x0 x1 x2 x3
| 0=>h0
| m+1=>fun x0 x1 x2 x3=>by rw[ha,hb,show A m=B m from funext fun x0=>funext fun x1=>funext fun x2=>funext fun x3=>eL4 b h0 ha hb m x0 x1 x2 x3]
theorem eL5 {t0 t1 t2 t3 t4 R:Type}{A B:Nat→t0→t1→t2→t3→t4→R}(b:(t0→t1→t2→t3→t4→R)→t0→t1→t2→t3→t4→R)(h0:∀ x0 x1 x2 x3 x4,A 0 x0 x1 x2 x3 x4=B 0 x0 x1 x2 x3 x4)(ha:∀ m x0 x1 x2 x3 x4,A (m+1) x0 x1 x2 x3 x4=b (A m) x0 x1 x2 x3 x4)(hb:∀ m x0 x1 x2 x3 x4,B (m+1) x0 x1 x2 x3 x4=b (B m) x0 x1 x2 x3 x4):∀ m x0 x1 x2 x3 x4,A m x0 x1 x2 x3 x4=B m x0 x1 x2 x3 x4
| 0=>h0
| m+1=>fun x0 x1 x2 x3 x4=>by rw[ha,hb,show A m=B m from funext fun x0=>funext fun x1=>funext fun x2=>funext fun x3=>funext fun x4=>eL5 b h0 ha hb m x0 x1 x2 x3 x4]
theorem eL6 {t0 t1 t2 t3 t4 t5 R:Type}{A B:Nat→t0→t1→t2→t3→t4→t5→R}(b:(t0→t1→t2→t3→t4→t5→R)→t0→t1→t2→t3→t4→t5→R)(h0:∀ x0 x1 x2 x3 x4 x5,A 0 x0 x1 x2 x3 x4 x5=B 0 x0 x1 x2 x3 x4 x5)(ha:∀ m x0 x1 x2 x3 x4 x5,A (m+1) x0 x1 x2 x3 x4 x5=b (A m) x0 x1 x2 x3 x4 x5)(hb:∀ m x0 x1 x2 x3 x4 x5,B (m+1) x0 x1 x2 x3 x4 x5=b (B m) x0 x1 x2 x3 x4 x5):∀ m x0 x1 x2 x3 x4 x5,A m x0 x1 x2 x3 x4 x5=B m x0 x1 x2 x3 x4 x5
| 0=>h0
| m+1=>fun x0 x1 x2 x3 x4 x5=>by rw[ha,hb,show A m=B m from funext fun x0=>funext fun x1=>funext fun x2=>funext fun x3=>funext fun x4=>funext fun x5=>eL6 b h0 ha hb m x0 x1 x2 x3 x4 x5]
theorem eL9 {t0 t1 t2 t3 t4 t5 t6 t7 t8 R:Type}{A B:Nat→t0→t1→t2→t3→t4→t5→t6→t7→t8→R}(b:(t0→t1→t2→t3→t4→t5→t6→t7→t8→R)→t0→t1→t2→t3→t4→t5→t6→t7→t8→R)(h0:∀ x0 x1 x2 x3 x4 x5 x6 x7 x8,A 0 x0 x1 x2 x3 x4 x5 x6 x7 x8=B 0 x0 x1 x2 x3 x4 x5 x6 x7 x8)(ha:∀ m x0 x1 x2 x3 x4 x5 x6 x7 x8,A (m+1) x0 x1 x2 x3 x4 x5 x6 x7 x8=b (A m) x0 x1 x2 x3 x4 x5 x6 x7 x8)(hb:∀ m x0 x1 x2 x3 x4 x5 x6 x7 x8,B (m+1) x0 x1 x2 x3 x4 x5 x6 x7 x8=b (B m) x0 x1 x2 x3 x4 x5 x6 x7 x8):∀ m x0 x1 x2 x3 x4 x5 x6 x7 x8,A m x0 x1 x2 x3 x4 x5 x6 x7 x8=B m x0 x1 x2 x3 x4 x5 x6 x7 x8
| 0=>h0
| m+1=>fun x0 x1 x2 x3 x4 x5 x6 x7 x8=>by rw[ha,hb,show A m=B m from funext fun x0=>funext fun x1=>funext fun x2=>funext fun x3=>funext fun x4=>funext fun x5=>funext fun x6=>funext fun x7=>funext fun x8=>eL9 b h0 ha hb m x0 x1 x2 x3 x4 x5 x6 x7 x8]
abbrev pq0:List Dir:=[.r,.r,.l,.r,.l]
abbrev pq1:List Dir:=[.r,.r,.r,.l,.r,.l]
abbrev pq2:List Dir:=[.r,.l,.r,.l]
abbrev pq3:List Dir:=[.r,.r,.r,.r,.l,.r,.l]
abbrev pq4:List Dir:=[.r,.r,.r,.r,.r,.r,.r,.r,.r,.r,.r,.l,.r,.l]
abbrev pq5:List Dir:=[.r,.r,.r,.r,.r,.r,.l,.r,.l]
abbrev pq6:List Dir:=[.r,.r,.r,.r,.r,.r,.r,.r,.r,.r,.l,.r,.l]
abbrev pq7:List Dir:=[.r,.r,.l,.r,.l,.r,.r,.r,.r,.r,.r,.r,.r,.r,.l,.r,.l]
abbrev pq8:List Dir:=[.r,.r,.r,.r,.r,.l,.r,.l]
abbrev pq9:List Dir:=[.r,.r,.r,.r,.r,.r,.r,.r,.r,.r,.r,.r,.l,.r,.l]
abbrev pq10:List Dir:=[.r,.r,.r,.r,.r,.r,.l,.r,.l,.l,.r,.l,.l,.r,.r,.l]
abbrev pq11:List Dir:=[.r,.l,.l,.r,.l,.l,.r,.l]
abbrev pq12:List Dir:=[.r,.l]
abbrev pq13:List Dir:=[.r,.r,.r,.l,.r,.l,.l,.r,.l,.l,.r,.r,.r,.l]
abbrev pq14:List Dir:=[.r,.r,.l,.r,.l,.l,.r,.l,.l,.r,.l,.r,.l]
abbrev pq15:List Dir:=[.r,.r,.l]
abbrev tq44:=Bool×Unit
abbrev tq43:=Int×Int×Unit
abbrev tq42:=(Int×Unit)×Unit
abbrev tq41:=tq44×Unit
abbrev tq40:=Int×List Int×Unit
abbrev tq39:=List Int×Int×Unit
abbrev tq38:=Unit×List Int×Unit
abbrev tq37:=Int×tq43
abbrev tq36:=(List Int×Unit)×Unit
abbrev tq35:=(Int×tq44)×Unit
abbrev tq34:=List Int×tq43
abbrev tq33:=Int×tq37
abbrev tq32:=List tq37×Unit
abbrev tq31:=tq34×Unit
abbrev tq30:=(tq39×Unit)×Unit
abbrev tq29:=Unit×tq32
abbrev tq28:=tq32×Unit
abbrev tq27:=tq31×Unit
abbrev tq26:=(tq37×tq44)×Unit
abbrev tq25:=(Int×Unit)×tq31
abbrev tq24:=List tq43×List Int×Int×tq44
abbrev tq23:=tq24×Unit
abbrev tq22:=Bool×tq40×tq32
abbrev tq21:=Unit×tq23
abbrev tq20:=(tq39×Unit)×tq31
abbrev tq19:=tq23×Unit
abbrev tq18:=Int×Int×List tq37×tq40×Unit
abbrev tq17:=Int×tq37×Int×Int×Int×tq40×Unit
abbrev tq16:=(List (List tq37)×Unit)×tq31
abbrev tq15:=(tq39×List (List tq37)×List Int×Unit)×Unit
abbrev tq14:=(tq22×tq44)×Unit
abbrev tq13:=List tq37×Int×Bool×List tq43×List tq33×Unit
abbrev tq12:=List tq37×List tq18×Unit
abbrev tq11:=(tq13×Unit)×Unit
abbrev tq10:=(tq12×Unit)×Unit
abbrev tq9:=(tq12×tq44)×Unit
abbrev tq8:=(tq12×tq33×tq44)×Unit
abbrev tq7:=(tq33×tq33×Int×Unit)×tq12×Unit
abbrev tq6:=(tq12×tq33×tq33×Int×Unit)×Unit
abbrev tq5:=tq12×List tq13×Int×List tq17×List Int×tq39×Unit
abbrev tq4:=Unit×tq5×Unit
abbrev tq3:=(tq5×Unit)×Unit
abbrev tq2:=(Int×Unit)×tq5×Unit
abbrev tq1:=tq44×tq5×Unit
abbrev tq0:=(tq5×tq44)×Unit
end Go.G
namespace Go.G
open Go Go.V
noncomputable def q1p (D:Den ctx) (a0:List Int):Option tq41:=D 6 (a0,())
noncomputable def qbbm (D:Den ctx) (a0:List Int):Option tq41:=D 12 (a0,())
noncomputable def qpr (D:Den ctx) (a0:List Int):Option tq15:=D 13 (a0,())
noncomputable def qsy (D:Den ctx) (a0:tq39) (a1:List (List tq37)):Option tq0:=D 14 (a0,(a1,()))
noncomputable def qtb (D:Den ctx) (a0:tq39) (a1:List (List tq37)):Option tq0:=D 15 (a0,(a1,()))
noncomputable def q01 (D:Den ctx) (a0:tq5) (a1:List Int):Option tq3:=D 16 (a0,(a1,()))
noncomputable def q38 (D:Den ctx) (a0:tq13):Option tq41:=D 17 (a0,())
noncomputable def qyg (D:Den ctx) (a0 a1:tq40):Option tq41:=D 28 (a0,(a1,()))
noncomputable def qej (D:Den ctx) (a0:Int):Option tq42:=D 35 (a0,())
noncomputable def qgp (D:Den ctx) (a0:tq5):Option tq41:=D 40 (a0,())
noncomputable def q6n (D:Den ctx) (a0:List Int):Option tq27:=D 44 (a0,())
noncomputable def qqm (D:Den ctx) (a0:tq34):Option tq20:=D 45 (a0,())
noncomputable def qug (D:Den ctx) (a0:tq34):Option tq16:=D 46 (a0,())
noncomputable def qce (D:Den ctx) (a0:tq34) (a1:Int):Option tq25:=D 47 (a0,(a1,()))
noncomputable def q2a (D:Den ctx) (a0:List Int) (a1 a2:Int):Option tq42:=D 48 (a0,(a1,(a2,())))
noncomputable def q20 (D:Den ctx) (a0:tq39) (a1:Int):Option tq9:=D 49 (a0,(a1,()))
noncomputable def qp8 (D:Den ctx) (a0:tq39):Option tq30:=D 50 (a0,())
noncomputable def q59 (D:Den ctx) (a0:List tq37):Option tq11:=D 51 (a0,())
noncomputable def q2j (D:Den ctx) (a0:tq39) (a1:Int):Option tq9:=D 52 (a0,(a1,()))
noncomputable def q22 (D:Den ctx) (a0:tq39):Option tq30:=D 53 (a0,())
noncomputable def q5y (D:Den ctx) (a0:List tq37):Option tq11:=D 54 (a0,())
noncomputable def qvd (D:Den ctx) (a0:tq5):Option tq41:=D 55 (a0,())
noncomputable def qi9 (D:Den ctx) (a0:tq5):Option tq3:=D 56 (a0,())
noncomputable def qtx (D:Den ctx) (a0:tq5) (a1:Int):Option tq0:=D 57 (a0,(a1,()))
noncomputable def qbp (D:Den ctx) (a0 a1 a2:Int):Option tq41:=D 58 (a0,(a1,(a2,())))
noncomputable def qkd (D:Den ctx) (a0:tq12):Option tq41:=D 63 (a0,())
noncomputable def qdu (D:Den ctx) (a0:List tq37) (a1:Clo):Option tq41:=D 64 (a0,(a1,()))
noncomputable def qt9 (D:Den ctx) (a0:tq39):Option tq41:=D 66 (a0,())
noncomputable def qlw (D:Den ctx) (a0 a1:List Int):Option tq41:=D 67 (a0,(a1,()))
noncomputable def qr5 (D:Den ctx) (a0:tq39):Option tq36:=D 68 (a0,())
noncomputable def qgc (D:Den ctx) (a0:List Int):Option tq36:=D 69 (a0,())
noncomputable def qcp (D:Den ctx):Option tq42:=D 70 ()
noncomputable def qdj (D:Den ctx) (a0:Int):Option tq42:=D 73 (a0,())
noncomputable def qlx (D:Den ctx) (a0:List Int) (a1:Int):Option tq42:=D 74 (a0,(a1,()))
noncomputable def qk4 (D:Den ctx) (a0:Bool) (a1:Int):Option tq42:=D 75 (a0,(a1,()))
noncomputable def qhn (D:Den ctx) (a0:Int):Option tq41:=D 76 (a0,())
noncomputable def qc3 (D:Den ctx) (a0:Int):Option tq42:=D 77 (a0,())
noncomputable def qli (D:Den ctx) (a0:tq17) (a1:Int) (a2:tq5):Option tq41:=D 79 (a0,(a1,(a2,())))
noncomputable def qlv (D:Den ctx) (a0:tq37):Option tq41:=D 80 (a0,())
noncomputable def qxd (D:Den ctx) (a0:tq13) (a1:Int):Option tq41:=D 81 (a0,(a1,()))
noncomputable def q0l (D:Den ctx) (a0:tq5) (a1:Int):Option tq41:=D 82 (a0,(a1,()))
noncomputable def qzw (D:Den ctx) (a0:tq5):Option tq41:=D 83 (a0,())
noncomputable def qif (D:Den ctx) (a0:tq40):Option ((tq40×Unit)×Unit):=D 85 (a0,())
noncomputable def qy3 (D:Den ctx):Option tq30:=D 90 ()
noncomputable def qw3 (D:Den ctx) (a0:tq39) (a1:Int):Option tq42:=D 91 (a0,(a1,()))
noncomputable def qnz (D:Den ctx) (a0:tq34) (a1:List Int):Option tq25:=D 92 (a0,(a1,()))
noncomputable def qqq (D:Den ctx) (a0:tq34):Option ((tq37×Unit)×tq31):=D 93 (a0,())
noncomputable def qjh (D:Den ctx) (a0:tq34):Option tq25:=D 94 (a0,())
noncomputable def qe3 (D:Den ctx) (a0:List tq37):Option tq28:=D 95 (a0,())
noncomputable def qyt (D:Den ctx) (a0:tq39):Option tq36:=D 96 (a0,())
noncomputable def qbo (D:Den ctx) (a0 a1 a2:Int):Option tq41:=D 97 (a0,(a1,(a2,())))
noncomputable def qqk (D:Den ctx) (a0:tq12):Option tq41:=D 98 (a0,())
noncomputable def qt6 (D:Den ctx) (a0:tq39):Option tq41:=D 99 (a0,())
noncomputable def q0h (D:Den ctx) (a0:tq5):Option tq41:=D 100 (a0,())
noncomputable def qww (D:Den ctx) (a0:tq13) (a1:Int):Option tq41:=D 101 (a0,(a1,()))
noncomputable def qw1 (D:Den ctx) (a0:tq5) (a1:Int):Option tq41:=D 102 (a0,(a1,()))
noncomputable def qj9 (D:Den ctx) (a0:tq12):Option tq10:=D 103 (a0,())
noncomputable def qhp (D:Den ctx) (a0:tq13):Option tq11:=D 104 (a0,())
noncomputable def qm1 (D:Den ctx) (a0:tq5) (a1:Int):Option tq4:=D 105 (a0,(a1,()))
noncomputable def qpn (D:Den ctx) (a0:tq5) (a1:Int):Option tq1:=D 106 (a0,(a1,()))
noncomputable def qzz (D:Den ctx) (a0:tq18) (a1:Int):Option tq26:=D 107 (a0,(a1,()))
noncomputable def qds (D:Den ctx) (a0:List tq18) (a1:Clo):Option tq41:=D 109 (a0,(a1,()))
noncomputable def qbaj (D:Den ctx) (a0:tq18):Option tq41:=D 110 (a0,())
noncomputable def q3c (D:Den ctx) (a0:tq18):Option tq41:=D 111 (a0,())
noncomputable def q1y (D:Den ctx) (a0:tq37) (a1:Int):Option tq41:=D 112 (a0,(a1,()))
noncomputable def qh8 (D:Den ctx) (a0:List tq37) (a1:Clo):Option tq42:=D 113 (a0,(a1,()))
noncomputable def qgx (D:Den ctx) (a0:List Int) (a1:Int):Option tq41:=D 114 (a0,(a1,()))
noncomputable def qdi (D:Den ctx) (a0:Int):Option tq42:=D 115 (a0,())
noncomputable def qqx (D:Den ctx) (a0:Int):Option tq41:=D 118 (a0,())
noncomputable def qry (D:Den ctx) (a0:Int):Option tq41:=D 119 (a0,())
noncomputable def qe7 (D:Den ctx) (a0:List tq37) (a1:Clo):Option tq41:=D 120 (a0,(a1,()))
noncomputable def q35 (D:Den ctx) (a0:tq37):Option tq41:=D 121 (a0,())
noncomputable def qcy (D:Den ctx) (a0:List tq43) (a1:Clo):Option tq41:=D 122 (a0,(a1,()))
noncomputable def q36 (D:Den ctx) (a0:tq43):Option tq41:=D 123 (a0,())
noncomputable def qrx (D:Den ctx) (a0:Int):Option tq41:=D 124 (a0,())
noncomputable def qij (D:Den ctx) (a0:Int):Option tq41:=D 125 (a0,())
noncomputable def qcx (D:Den ctx) (a0:List tq33) (a1:Clo):Option tq41:=D 126 (a0,(a1,()))
noncomputable def q31 (D:Den ctx) (a0:tq33) (a1:Int):Option tq41:=D 127 (a0,(a1,()))
noncomputable def qxx (D:Den ctx) (a0:Int):Option tq41:=D 132 (a0,())
noncomputable def qhf (D:Den ctx) (a0:Int):Option tq41:=D 133 (a0,())
noncomputable def q48 (D:Den ctx) (a0:Int):Option tq42:=D 134 (a0,())
noncomputable def q0n (D:Den ctx) (a0:Int):Option tq42:=D 135 (a0,())
noncomputable def q66 (D:Den ctx) (a0:Int):Option tq42:=D 136 (a0,())
noncomputable def qz0 (D:Den ctx) (a0:tq39) (a1:Int):Option tq42:=D 137 (a0,(a1,()))
noncomputable def qz7 (D:Den ctx) (a0:Int):Option tq42:=D 138 (a0,())
noncomputable def qr8 (D:Den ctx):Option tq42:=D 139 ()
noncomputable def q2o (D:Den ctx) (a0:tq18):Option tq41:=D 140 (a0,())
noncomputable def qbcd (D:Den ctx) (a0:tq37) (a1:Int):Option tq41:=D 141 (a0,(a1,()))
noncomputable def qbm8 (D:Den ctx) (a0:tq18) (a1:Int):Option tq26:=D 142 (a0,(a1,()))
noncomputable def qjb (D:Den ctx) (a0:Int):Option tq41:=D 143 (a0,())
noncomputable def qbpw (D:Den ctx) (a0:tq5) (a1:tq17):Option tq41:=D 144 (a0,(a1,()))
noncomputable def qq0 (D:Den ctx) (a0:Bool):Option tq42:=D 145 (a0,())
noncomputable def q0x (D:Den ctx) (a0:tq37):Option tq41:=D 146 (a0,())
noncomputable def q15 (D:Den ctx) (a0:tq5) (a1:Int):Option tq42:=D 147 (a0,(a1,()))
noncomputable def qfz (D:Den ctx) (a0:List tq37):Option tq28:=D 148 (a0,())
noncomputable def qc7 (D:Den ctx) (a0:List tq37):Option tq28:=D 149 (a0,())
noncomputable def qf6 (D:Den ctx) (a0:List tq43):Option ((List tq43×Unit)×Unit):=D 150 (a0,())
noncomputable def qf7 (D:Den ctx) (a0:List tq33):Option ((List tq33×Unit)×Unit):=D 151 (a0,())
noncomputable def qbbo (D:Den ctx) (a0:tq13):Option ((tq33×tq44)×Unit):=D 152 (a0,())
noncomputable def q19 (D:Den ctx) (a0:tq12) (a1:tq33):Option tq6:=D 153 (a0,(a1,()))
noncomputable def qo0 (D:Den ctx) (a0:tq13) (a1:tq33):Option tq11:=D 154 (a0,(a1,()))
noncomputable def qtv (D:Den ctx) (a0:tq13) (a1:tq33):Option tq11:=D 155 (a0,(a1,()))
noncomputable def qbav (D:Den ctx) (a0:tq13):Option tq11:=D 156 (a0,())
noncomputable def qi4 (D:Den ctx) (a0:tq5) (a1:Int) (a2:tq40):Option tq4:=D 157 (a0,(a1,(a2,())))
noncomputable def qjm (D:Den ctx) (a0:tq5) (a1:Int) (a2:tq40):Option tq4:=D 158 (a0,(a1,(a2,())))
noncomputable def q8f (D:Den ctx) (a0:tq37) (a1:List tq43):Option tq42:=D 159 (a0,(a1,()))
noncomputable def qt8 (D:Den ctx) (a0:tq37) (a1:List tq43):Option tq14:=D 160 (a0,(a1,()))
noncomputable def qw0 (D:Den ctx) (a0:tq12) (a1:Int) (a2:List tq37) (a3:tq40):Option tq8:=D 161 (a0,(a1,(a2,(a3,()))))
noncomputable def qh2 (D:Den ctx) (a0:List tq18) (a1:Clo):Option tq42:=D 162 (a0,(a1,()))
noncomputable def qjt (D:Den ctx) (a0:List tq37) (a1:Clo):Option tq42:=D 163 (a0,(a1,()))
noncomputable def qh3 (D:Den ctx) (a0:List tq43) (a1:Clo):Option tq42:=D 164 (a0,(a1,()))
noncomputable def qh5 (D:Den ctx) (a0:List tq33) (a1:Clo):Option tq42:=D 165 (a0,(a1,()))
noncomputable def qv5 (D:Den ctx) (a0:Int):Option tq41:=D 166 (a0,())
noncomputable def q0a (D:Den ctx) (a0:Int):Option tq42:=D 167 (a0,())
noncomputable def q4e (D:Den ctx) (a0:tq12) (a1:tq33):Option tq7:=D 168 (a0,(a1,()))
noncomputable def qhw (D:Den ctx) (a0:tq5) (a1:Int):Option tq2:=D 169 (a0,(a1,()))
noncomputable def qw5 (D:Den ctx) (a0:tq37) (a1:List tq43):Option tq19:=D 170 (a0,(a1,()))
noncomputable def q3b (D:Den ctx) (a0:tq37) (a1:List tq43):Option ((tq40×tq44)×Unit):=D 171 (a0,(a1,()))
noncomputable def qer (D:Den ctx) (a0:List tq43) (a1:Int):Option tq35:=D 172 (a0,(a1,()))
noncomputable def qfd (D:Den ctx) (a0:Int):Option tq42:=D 173 (a0,())
noncomputable def qr2 (D:Den ctx) (a0:tq37) (a1:List tq43) (a2 a3:Int):Option tq28:=D 174 (a0,(a1,(a2,(a3,()))))
noncomputable def qjc (D:Den ctx) (a0:List Int):Option tq38:=D 175 (a0,())
noncomputable def q3g (D:Den ctx) (a0:tq37) (a1 a2 a3 a4:Int):Option tq42:=D 176 (a0,(a1,(a2,(a3,(a4,())))))
noncomputable def q9a (D:Den ctx) (a0:tq37) (a1:Int):Option tq41:=D 177 (a0,(a1,()))
noncomputable def qhx (D:Den ctx) (a0:tq24) (a1:tq37):Option tq21:=D 178 (a0,(a1,()))
noncomputable def qs (D:Den ctx) (a0:tq24) (a1:Int):Option ((Int×Unit)×tq23):=D 179 (a0,(a1,()))
noncomputable def qb9 (D:Den ctx) (a0:tq24) (a1:Bool):Option tq21:=D 180 (a0,(a1,()))
noncomputable def qcu (D:Den ctx) (a0 a1 a2:Int) (a3:List tq43) (a4:List tq37):Option tq29:=D 181 (a0,(a1,(a2,(a3,(a4,())))))
noncomputable def qc4 (D:Den ctx) (a0:List tq37) (a1:Clo):Option tq29:=D 182 (a0,(a1,()))
noncomputable def q6c (D:Den ctx) (a0 a1:tq37):Option tq42:=D 183 (a0,(a1,()))
noncomputable def qj (D:Den ctx) (a0:List Int) (a1 a2 a3:Int):Option tq38:=D 184 (a0,(a1,(a2,(a3,()))))
noncomputable def qqb (D:Den ctx) (a0:Int):Option tq42:=D 185 (a0,())
noncomputable def qgm (D:Den ctx) (a0:tq24) (a1:Int) (a2:List Int):Option tq21:=D 186 (a0,(a1,(a2,())))
noncomputable def qf (D:Den ctx) (a0:List tq37) (a1 a2 a3:Int) (a4:Clo):Option tq29:=D 187 (a0,(a1,(a2,(a3,(a4,())))))
noncomputable def qjy (D:Den ctx) (a0:List Int) (a1 a2:Int):Option tq38:=D 188 (a0,(a1,(a2,())))
noncomputable def q0p (D:Den ctx) (a0:List Int) (a1 a2:Int):Option tq38:=D 189 (a0,(a1,(a2,())))
noncomputable def qts (D:Den ctx) (a0:List Int) (a1 a2:Int):Option tq38:=D 190 (a0,(a1,(a2,())))
noncomputable def qks (D:Den ctx) (a0:List Int) (a1 a2:Int):Option (tq43×Unit):=D 191 (a0,(a1,(a2,())))
noncomputable def qke (D:Den ctx) (a0:List Int) (a1 a2:Int):Option tq38:=D 192 (a0,(a1,(a2,())))
noncomputable def qc2 (D:Den ctx) (a0:List Int) (a1 a2:Int):Option (tq44×List Int×Unit):=D 193 (a0,(a1,(a2,())))
noncomputable def qdm (D:Den ctx) (a0 a1:Int):Option tq41:=D 194 (a0,(a1,()))
noncomputable def qbr (D:Den ctx) (a0:List Int) (a1 a2 a3:Int):Option ((Int×Unit)×List Int×Unit):=D 195 (a0,(a1,(a2,(a3,()))))
noncomputable def qv (D:Den ctx) (a0:List Int) (a1 a2 a3:Int):Option ((Int×tq44)×List Int×Unit):=D 196 (a0,(a1,(a2,(a3,()))))
noncomputable def q32 (D:Den ctx) (a0:Int):Option tq42:=D 198 (a0,())
noncomputable def qhk (D:Den ctx) (a0:List tq37) (a1 a2:Int) (a3:Clo):Option tq29:=D 199 (a0,(a1,(a2,(a3,()))))
noncomputable def qsc (D:Den ctx) (a0:List tq37) (a1 a2:Int) (a3:Clo):Option tq29:=D 200 (a0,(a1,(a2,(a3,()))))
noncomputable def qn0 (D:Den ctx) (a0:List tq37) (a1 a2:Int) (a3:Clo):Option tq29:=D 201 (a0,(a1,(a2,(a3,()))))
noncomputable def qib (D:Den ctx) (a0:List tq37) (a1 a2:Int) (a3:Clo):Option (tq43×Unit):=D 202 (a0,(a1,(a2,(a3,()))))
noncomputable def qhs (D:Den ctx) (a0:List tq37) (a1 a2:Int) (a3:Clo):Option tq29:=D 203 (a0,(a1,(a2,(a3,()))))
noncomputable def qcf (D:Den ctx) (a0:List tq37) (a1 a2:Int) (a3:Clo):Option (tq44×tq32):=D 204 (a0,(a1,(a2,(a3,()))))
noncomputable def qbc (D:Den ctx) (a0:List tq37) (a1 a2 a3:Int) (a4:Clo):Option ((Int×Unit)×tq32):=D 205 (a0,(a1,(a2,(a3,(a4,())))))
noncomputable def qm (D:Den ctx) (a0:List tq37) (a1 a2 a3:Int) (a4:Clo):Option ((Int×tq44)×tq32):=D 206 (a0,(a1,(a2,(a3,(a4,())))))
noncomputable def qxa (D:Den ctx) (a0:Int):Option tq41:=D 212 (a0,())
end Go.G

namespace Go.G
set_option maxRecDepth 100000
set_option maxHeartbeats 0
open Go Go.V
noncomputable section
def qpe (D:DX)(n:Nat) (go:Int→tq5→tq5→Option tq41) (K0:Bool→tq5→tq5→Option tq41) (K1:tq5→tq5→Option tq41) (x0:Int) (x1 x2:tq5):Option tq41:=let y0:=List.getD x1.2.2.2.1 x0.toNat (0,(0,0,0,()),0,0,0,(0,[],()),());let y1:=List.getD x2.2.2.2.1 x0.toNat (0,(0,0,0,()),0,0,0,(0,[],()),());br (decide (x0<(x1.2.2.2.1.length:Int))) (br (decide (0≤x0)&&decide (x0<(x1.2.2.2.1.length:Int))) (br (decide (0≤x0)&&decide (x0<(x2.2.2.2.1.length:Int))) (br (bif bif !qjw yq21 y0.2.1 y1.2.1 then true else y0.1 != y1.1 then true else y0.2.2.1 != y1.2.2.1) (K0 false x1 x2) (br (decide (y0.2.2.2.1≥0)) (br (y0.2.2.2.1 != y1.2.2.2.1) (K0 false x1 x2) (qd (qyg D y0.2.2.2.2.2.1 y1.2.2.2.2.2.1) fun b↦br (bif !b.1.1 then true else bif decide (y0.2.2.2.2.1≥0) then y0.2.2.2.2.1 != y1.2.2.2.2.1 else false) (K0 false x1 x2) (go (wrap .i64 (x0+1)) x1 x2))) (br (bif false then true else bif decide (y0.2.2.2.2.1≥0) then y0.2.2.2.2.1 != y1.2.2.2.2.1 else false) (K0 false x1 x2) (go (wrap .i64 (x0+1)) x1 x2)))) none) none) (K1 x1 x2)
def qh4 (D:DX)(n:Nat) (K0:Bool→tq5→tq5→Option tq41) (K1:tq5→tq5→Option tq41):Nat→Int→tq5→tq5→Option tq41 | 0=>(fun x0 x1 x2=>none) | m+1=>(fun x0 x1 x2=>qpe D n (qh4 D n K0 K1 m) K0 K1 x0 x1 x2)
def qvg (D:DX)(n:Nat) (a:Bool) (b c:tq5):Option tq41:=some ((a,()),())
def qo6 (D:DX)(n:Nat) (go:Int→tq5→tq5→Option tq41) (K0:Bool→tq5→tq5→Option tq41) (K1:tq5→tq5→Option tq41) (a:Int) (b c:tq5):Option tq41:=br (decide (a<(b.2.2.2.2.1.length:Int))) (br (decide (0≤a)&&decide (a<(b.2.2.2.2.1.length:Int))) (br (decide (0≤a)&&decide (a<(c.2.2.2.2.1.length:Int))) (br (List.getD b.2.2.2.2.1 a.toNat 0 != List.getD c.2.2.2.2.1 a.toNat 0) (K0 false b c) (go (wrap .i64 (a+1)) b c)) none) none) (K1 b c)
def qh1 (D:DX)(n:Nat) (K0:Bool→tq5→tq5→Option tq41) (K1:tq5→tq5→Option tq41):Nat→Int→tq5→tq5→Option tq41 | 0=>(fun a b c=>none) | m+1=>(fun a b c=>qo6 D n (qh1 D n K0 K1 m) K0 K1 a b c)
def qvw (D:DX)(n:Nat) (a:Bool) (b c:tq5):Option tq41:=some ((a,()),())
def qpm (D:DX)(n:Nat) (go:Int→tq5→tq5→Option tq41) (K0:Bool→Option tq41) (K1:Option tq41) (a:Int) (b c:tq5):Option tq41:=br (decide (a<(b.1.2.1.length:Int))) (br (decide (0≤a)&&decide (a<(c.1.2.1.length:Int))) (br (decide (0≤a)&&decide (a<(b.1.2.1.length:Int))) (br (decide ((List.getD c.1.2.1 a.toNat (0,0,[],(0,[],()),())).1<(List.getD b.1.2.1 a.toNat (0,0,[],(0,[],()),())).1)) (K0 false) (go (wrap .i64 (a+1)) b c)) none) none) K1
def qhz (D:DX)(n:Nat) (K0:Bool→Option tq41) (K1:Option tq41):Nat→Int→tq5→tq5→Option tq41 | 0=>(fun a b c=>none) | m+1=>(fun a b c=>qpm D n (qhz D n K0 K1 m) K0 K1 a b c)
def q98 (D:DX)(n:Nat) (a:Bool):Option tq41:=some ((a,()),())
def q9c (D:DX)(n:Nat):Option tq41:=some ((true,()),())
def qn9 (D:DX)(n:Nat):(Int)→tq5→tq5→Option tq41:=(fun a b d=>qhz D n (fun c=>q98 D n c) (q9c D n) n a b d)
def qmc (D:DX)(n:Nat) (lp2:Int→tq5→tq5→Option tq41) (a b:tq5):Option tq41:=lp2 0 a b
def qn5 (D:DX)(n:Nat):(Int)→tq5→tq5→Option tq41:=(fun a b h=>qh1 D n (fun c d e=>qvw D n c d e) (fun f g=>qmc D n (qn9 D n) f g) n a b h)
def qm0 (D:DX)(n:Nat) (lp1:Int→tq5→tq5→Option tq41) (a b:tq5):Option tq41:=lp1 0 a b
def qof (D:DX)(n:Nat):(Int)→tq5→tq5→Option tq41:=(fun x0 x1 x2=>qh4 D n (fun a b c=>qvg D n a b c) (fun d e=>qm0 D n (qn5 D n) d e) n x0 x1 x2)
def qra (D:DX)(n:Nat) (lp0:Int→tq5→tq5→Option tq41) (a0:List Int):Option tq41:=qd (qbbm D a0) fun b↦br b.1.1 (some ((true,()),())) (qd (qpr D a0) fun b↦qd (qsy D b.1.1 b.1.2.1) fun b_1↦qd (qtb D b.1.1 b.1.2.1) fun b_2↦br (bif !decide (b_1.1.2.1=b_2.1.2.1) then true else !b_1.1.2.1) (some ((false,()),())) (br (decide (0≤0)&&decide (0≤wrap .i64 (Int.tdiv (b.1.2.2.1.length:Int) 2))&&decide (wrap .i64 (Int.tdiv (b.1.2.2.1.length:Int) 2)≤(b.1.2.2.1.length:Int))) (qd (q01 D b_1.1.1 (List.drop (Int.toNat 0) (List.take (Int.toNat (wrap .i64 (Int.tdiv (b.1.2.2.1.length:Int) 2))) b.1.2.2.1))) fun b_3↦br (decide (0≤wrap .i64 (Int.tdiv (b.1.2.2.1.length:Int) 2))&&decide (wrap .i64 (Int.tdiv (b.1.2.2.1.length:Int) 2)≤(b.1.2.2.1.length:Int))&&decide ((b.1.2.2.1.length:Int)≤(b.1.2.2.1.length:Int))) (qd (q01 D b_3.1.1 (List.drop (Int.toNat (wrap .i64 (Int.tdiv (b.1.2.2.1.length:Int) 2))) (List.take (Int.toNat (b.1.2.2.1.length:Int)) b.1.2.2.1))) fun b↦br (bif bif decide ((b.1.1.2.2.2.1.length:Int)<(b_3.1.1.2.2.2.1.length:Int)) then true else decide ((b.1.1.2.2.2.2.1.length:Int)<(b_3.1.1.2.2.2.2.1.length:Int)) then true else decide (b.1.1.2.2.1<b_3.1.1.2.2.1)) (some ((false,()),())) (lp0 0 b_3.1.1 b.1.1)) none) none))
def qqv (D:DX)(n:Nat) (a0:List Int):Option tq41:=qra D n (qof D n) a0
def qpv (x0:Int) (x1 x2:tq5):St:=stq 190 [(11,AV.addr 11 []),(12,AV.addr 12 []),(13,AV.val yq34 x0)] [(11,Root.mk yq0 Mk.no x1 true),(12,Root.mk yq0 Mk.no x2 true)]
def qmg (a:Bool) (b c:tq5):St:=stq 190 [(2,AV.val Ty.bool a),(11,AV.addr 11 []),(12,AV.addr 12 [])] [(11,Root.mk yq0 Mk.no b true),(12,Root.mk yq0 Mk.no c true)]
def qm5 (a b:tq5):St:=stq 190 [(11,AV.addr 11 []),(12,AV.addr 12 [])] [(11,Root.mk yq0 Mk.no a true),(12,Root.mk yq0 Mk.no b true)]
def qpx (a:Int) (b c:tq5):St:=stq 190 [(11,AV.addr 11 []),(12,AV.addr 12 []),(16,AV.val yq34 a)] [(11,Root.mk yq0 Mk.no b true),(12,Root.mk yq0 Mk.no c true)]
def qmu (a:Bool) (b c:tq5):St:=stq 190 [(2,AV.val Ty.bool a),(11,AV.addr 11 []),(12,AV.addr 12 [])] [(11,Root.mk yq0 Mk.no b true),(12,Root.mk yq0 Mk.no c true)]
def qm2 (a b:tq5):St:=stq 190 [(11,AV.addr 11 []),(12,AV.addr 12 [])] [(11,Root.mk yq0 Mk.no a true),(12,Root.mk yq0 Mk.no b true)]
def qpz (a:Int) (b c:tq5):St:=stq 190 [(11,AV.addr 11 []),(12,AV.addr 12 []),(17,AV.val yq34 a)] [(11,Root.mk yq0 Mk.no b true),(12,Root.mk yq0 Mk.no c true)]
def qvr (a:Bool):St:=stq 190 [(2,AV.val Ty.bool a)] []
def qvi:St:=stq 190 [] []
theorem qbbf (D:DX)(n:Nat) (K:KT 6):∀ (m:Nat) (x0:Int) (x1 x2:tq5),LF D n 6 pq6 m (qpv x0 x1 x2) K=qh4 D n (fun a b c=>K (Ex.ret) (qmg a b c)) (fun d e=>K (Ex.exit 0) (qm5 d e)) m x0 x1 x2:=eL3 (fun F=>qpe D n F (fun a b c=>K (Ex.ret) (qmg a b c)) (fun d e=>K (Ex.exit 0) (qm5 d e))) (fun _ _ _ =>q7 ..) (fun _ _ _ _ =>by kernel_rfl) (fun _ _ _ _ =>rfl)
theorem qbbd (D:DX)(n:Nat) (K:KT 6):∀ (m:Nat) (f:Int) (g h:tq5),LF D n 6 pq4 m (qpx f g h) K=qh1 D n (fun a b c=>K (Ex.ret) (qmu a b c)) (fun d e=>K (Ex.exit 2) (qm2 d e)) m f g h:=eL3 (fun F=>qo6 D n F (fun a b c=>K (Ex.ret) (qmu a b c)) (fun d e=>K (Ex.exit 2) (qm2 d e))) (fun _ _ _ =>q7 ..) (fun _ _ _ _ =>by kernel_rfl) (fun _ _ _ _ =>rfl)
theorem qba0 (D:DX)(n:Nat) (K:KT 6):∀ (m:Nat) (b:Int) (c d:tq5),LF D n 6 pq9 m (qpz b c d) K=qhz D n (fun a=>K (Ex.ret) (qvr a)) (K (Ex.exit 4) (qvi)) m b c d:=eL3 (fun F=>qpm D n F (fun a=>K (Ex.ret) (qvr a)) (K (Ex.exit 4) (qvi))) (fun _ _ _ =>q7 ..) (fun _ _ _ _ =>by kernel_rfl) (fun _ _ _ _ =>rfl)
theorem qbaq (D:DX)(n:Nat) (a:Int) (b c:tq5):LF D n 6 pq9 n (qpz a b c) (CF D n 6 [] pq9 (lF 6))=qn9 D n a b c :=by rw[qba0];kernel_rfl
theorem q9j (D:DX)(n:Nat) (a:Bool) (b c:tq5):(CF D n 6 [] pq4 (lF 6)) (Ex.ret) (qmu a b c)=qvw D n a b c:=by kernel_rfl
theorem qbar (D:DX)(n:Nat) (a b:tq5):(CF D n 6 [] pq4 (lF 6)) (Ex.exit 2) (qm2 a b)=qmc D n (fun c d e=>LF D n 6 pq9 n (qpz c d e) (CF D n 6 [] pq9 (lF 6))) a b:=by kernel_rfl
theorem q87 (D:DX)(n:Nat) (a:Int) (b c:tq5):LF D n 6 pq4 n (qpx a b c) (CF D n 6 [] pq4 (lF 6))=qn5 D n a b c:=by
 rw[qbbd]
 simp only[q9j,qbar,qbaq]
 rfl
theorem q99 (D:DX)(n:Nat) (a:Bool) (b c:tq5):(CF D n 6 [] pq6 (lF 6)) (Ex.ret) (qmg a b c)=qvg D n a b c:=by kernel_rfl
theorem q9k (D:DX)(n:Nat) (a b:tq5):(CF D n 6 [] pq6 (lF 6)) (Ex.exit 0) (qm5 a b)=qm0 D n (fun c d e=>LF D n 6 pq4 n (qpx c d e) (CF D n 6 [] pq4 (lF 6))) a b:=by kernel_rfl
theorem q9d (D:DX)(n:Nat) (x0) (x1) (x2):LF D n 6 pq6 n (qpv x0 x1 x2) (CF D n 6 [] pq6 (lF 6))=qof D n x0 x1 x2:=by
 rw[qbbf]
 simp only[q99,q9k,q87]
 rfl
theorem qbdt (D:DX)(n:Nat) (a0:List Int):rF D n 6 (a0,())=qqv D n a0:=by
 have h:rF D n 6 (a0,())=qra D n (fun x0 x1 x2=>LF D n 6 pq6 n (qpv x0 x1 x2) (CF D n 6 [] pq6 (lF 6))) a0:=by kernel_rfl
 rw[h]
 simp only[q9d]
 rfl

def qbwt (D:DX)(n:Nat) (a0:List Int):Option tq41:=some ((decide ((a0.length:Int)>1048576),()),())
def qbll (D:DX)(n:Nat) (a0:List Int):Option tq41:=qbwt D n a0
theorem qbwm (D:DX)(n:Nat) (a0:List Int):rF D n 12 (a0,())=qbll D n a0:=by kernel_rfl

def qn4 (D:DX)(n:Nat) (go:Int→Int→Int→Int→tq39→tq39→List (List tq37)→List Int→tq34→Option tq15) (K0:Int→Int→tq39→tq39→List (List tq37)→List Int→tq34→Option tq15) (c d e f:Int) (g h:tq39) (i:List (List tq37)) (a:List Int) (j:tq34):Option tq15:=qd (qce D j 6) fun b↦br (decide (f<wrap .i64 (1+b.1.1))) (br (decide (a.length+1≤qb8)) (go c d e (wrap .i64 (f+1)) g h i (a++[e]) b.2.1) none) (K0 c d g h i a b.2.1)
def qhj (D:DX)(n:Nat) (K0:Int→Int→tq39→tq39→List (List tq37)→List Int→tq34→Option tq15):Nat→Int→Int→Int→Int→tq39→tq39→(List (List tq37))→(List Int)→tq34→Option tq15 | 0=>(fun a b c d e f g h i=>none) | m+1=>(fun a b c d e f g h i=>qn4 D n (qhj D n K0 m) K0 a b c d e f g h i)
def ql0 (D:DX)(n:Nat) (go:Int→Int→tq39→tq39→List (List tq37)→List Int→tq34→Option tq15) (K0:tq39→tq39→List (List tq37)→List Int→Option tq15) (a b:Int) (c d:tq39) (e:List (List tq37)) (f:List Int) (g:tq34):Option tq15:=go a (wrap .i64 (b+1)) c d e f g
def qmd (D:DX)(n:Nat) (go:Int→Int→tq39→tq39→List (List tq37)→List Int→tq34→Option tq15) (K0:tq39→tq39→List (List tq37)→List Int→Option tq15):(Int)→(Int)→(Int)→(Int)→tq39→tq39→(List (List tq37))→(List Int)→tq34→Option tq15:=(fun a i j k l m o p q=>qhj D n (fun b c d e f g h=>ql0 D n go K0 b c d e f g h) n a i j k l m o p q)
def qnm (D:DX)(n:Nat) (go:Int→Int→tq39→tq39→List (List tq37)→List Int→tq34→Option tq15) (K0:tq39→tq39→List (List tq37)→List Int→Option tq15) (lp1:Int→Int→Int→Int→tq39→tq39→List (List tq37)→List Int→tq34→Option tq15) (x0 x1:Int) (x2 x3:tq39) (x4:List (List tq37)) (x5:List Int) (x6:tq34):Option tq15:=br (decide (x1<x0)) (qd (qce D x6 (x4.length:Int)) fun b↦lp1 x0 x1 b.1.1 0 x2 x3 x4 x5 b.2.1) (K0 x2 x3 x4 x5)
def qc9 (D:DX)(n:Nat) (K0:tq39→tq39→List (List tq37)→List Int→Option tq15):Nat→Int→Int→tq39→tq39→(List (List tq37))→(List Int)→tq34→Option tq15 | 0=>(fun x0 x1 x2 x3 x4 x5 x6=>none) | m+1=>(fun x0 x1 x2 x3 x4 x5 x6=>qnm D n (qc9 D n K0 m) K0 (qmd D n (qc9 D n K0 m) K0) x0 x1 x2 x3 x4 x5 x6)
def qty (D:DX)(n:Nat) (d a:tq39) (b:List (List tq37)) (c:List Int):Option tq15:=some (((a.1,a.2),b,c,()),())
def qmy (D:DX)(n:Nat):(Int)→(Int)→tq39→tq39→(List (List tq37))→(List Int)→tq34→Option tq15:=(fun x0 x1 x2 x3 x4 x5 x6=>qc9 D n (fun a b c d=>qty D n a b c d) n x0 x1 x2 x3 x4 x5 x6)
def qpw (D:DX)(n:Nat) (lp0:Int→Int→tq39→tq39→List (List tq37)→List Int→tq34→Option tq15) (a0:List Int):Option tq15:=qd (q6n D a0) fun b↦qd (qqm D b.1.1) fun b↦qd (qug D b.2.1) fun b_1↦qd (q2a D a0 60 120) fun b_2↦qd (qce D b_1.2.1 b_2.1.1) fun b_3↦lp0 b_3.1.1 0 ([],0,()) (b.1.1.1,b.1.1.2) b_1.1.1 [] b_3.2.1
def qpo (D:DX)(n:Nat) (a0:List Int):Option tq15:=qpw D n (qmy D n) a0
def qd9 (x0 x1:Int) (x2 x3:tq39) (x4:List (List tq37)) (x5:List Int) (x6:tq34):St:=stq 47 [(2,AV.addr 2 []),(5,AV.addr 14 []),(6,AV.addr 6 []),(7,AV.brw 7 [] 0),(8,AV.brw 8 [] 0),(9,AV.val yq34 x0),(10,AV.val yq34 x1)] [(2,Root.mk yq25 kq29 x2 true),(6,Root.mk yq25 kq29 x3 true),(7,Root.mk yq18 kq31 x4 false),(8,Root.mk yq30 kq37 x5 false),(14,Root.mk yq20 Mk.no x6 true)]
def qit (a b:tq39) (c:List (List tq37)) (d:List Int):St:=stq 47 [(2,AV.addr 2 []),(6,AV.addr 6 []),(7,AV.brw 7 [] 0),(8,AV.brw 8 [] 0)] [(2,Root.mk yq25 kq29 a true),(6,Root.mk yq25 kq29 b true),(7,Root.mk yq18 kq31 c false),(8,Root.mk yq30 kq37 d false)]
def qnl (a b c d:Int) (e f:tq39) (g:List (List tq37)) (h:List Int) (i:tq34):St:=stq 47 [(2,AV.addr 2 []),(5,AV.addr 14 []),(6,AV.addr 6 []),(7,AV.brw 7 [] 0),(8,AV.brw 8 [] 0),(9,AV.val yq34 a),(10,AV.val yq34 b),(11,AV.val yq34 c),(12,AV.val yq34 d)] [(2,Root.mk yq25 kq29 e true),(6,Root.mk yq25 kq29 f true),(7,Root.mk yq18 kq31 g false),(8,Root.mk yq30 kq37 h false),(14,Root.mk yq20 Mk.no i true)]
def qtw (a b:Int) (c d:tq39) (e:List (List tq37)) (f:List Int) (g:tq34):St:=stq 47 [(2,AV.addr 2 []),(5,AV.addr 14 []),(6,AV.addr 6 []),(7,AV.brw 7 [] 0),(8,AV.brw 8 [] 0),(9,AV.val yq34 a),(10,AV.val yq34 b)] [(2,Root.mk yq25 kq29 c true),(6,Root.mk yq25 kq29 d true),(7,Root.mk yq18 kq31 e false),(8,Root.mk yq30 kq37 f false),(14,Root.mk yq20 Mk.no g true)]
theorem q9g (D:DX)(n:Nat) (K:KT 13):∀ (m:Nat) (h i j k:Int) (l o:tq39) (p:List (List tq37)) (q:List Int) (r:tq34),LF D n 13 pq10 m (qnl h i j k l o p q r) K=qhj D n (fun a b c d e f g=>K (Ex.exit 2) (qtw a b c d e f g)) m h i j k l o p q r:=eL9 (fun F=>qn4 D n F (fun a b c d e f g=>K (Ex.exit 2) (qtw a b c d e f g))) (fun _ _ _ _ _ _ _ _ _ =>q7 ..) (fun _ _ _ _ _ _ _ _ _ _ =>by kernel_rfl) (fun _ _ _ _ _ _ _ _ _ _ =>rfl)
theorem q8e (D:DX)(n:Nat) (m:Nat) (K:KT 13) (a b c d:Int) (e f:tq39) (g:List (List tq37)) (h:List Int) (i:tq34):LF D n 13 pq10 n (qnl a b c d e f g h i) (CF D n 13 [.r,.r,.r,.r,.r,.r,.l,.r,.l,.l] [.r,.l,.l,.r,.r,.l] (KF D n 13 pq5 m K))=qmd D n (fun x0 x1 x2 x3 x4 x5 x6=>LF D n 13 pq5 m (qd9 x0 x1 x2 x3 x4 x5 x6) K) (fun j k o p=>K (Ex.exit 0) (qit j k o p)) a b c d e f g h i :=by rw[q9g];kernel_rfl
theorem q9i (D:DX)(n:Nat) (m:Nat) (K:KT 13) (x0) (x1) (x2) (x3) (x4:List (List tq37)) (x5) (x6):LF D n 13 pq5 (m+1) (qd9 x0 x1 x2 x3 x4 x5 x6) K=qnm D n (fun x0 x1 x2 x3 x4 x5 x6=>LF D n 13 pq5 m (qd9 x0 x1 x2 x3 x4 x5 x6) K) (fun a b c d=>K (Ex.exit 0) (qit a b c d)) (fun e f g h i j k o p=>LF D n 13 pq10 n (qnl e f g h i j k o p) (CF D n 13 [.r,.r,.r,.r,.r,.r,.l,.r,.l,.l] [.r,.l,.l,.r,.r,.l] (KF D n 13 pq5 m K))) x0 x1 x2 x3 x4 x5 x6:=by kernel_rfl
theorem qvo (D:DX)(n:Nat) (K:KT 13):∀ (m:Nat) (x0 x1:Int) (x2 x3:tq39) (x4:List (List tq37)) (x5:List Int) (x6:tq34),LF D n 13 pq5 m (qd9 x0 x1 x2 x3 x4 x5 x6) K=qc9 D n (fun a b c d=>K (Ex.exit 0) (qit a b c d)) m x0 x1 x2 x3 x4 x5 x6
 | 0,x0,x1,x2,x3,x4,x5,x6=>q7 ..
 | m+1,x0,x1,x2,x3,x4,x5,x6=>by
  have ih:(fun x0 x1 x2 x3 x4 x5 x6=>LF D n 13 pq5 m (qd9 x0 x1 x2 x3 x4 x5 x6) K)=qc9 D n (fun a b c d=>K (Ex.exit 0) (qit a b c d)) m:=by funext x0 x1 x2 x3 x4 x5 x6;exact qvo D n K m x0 x1 x2 x3 x4 x5 x6
  rw[q9i]
  simp only[q8e]
  rw[ih];rfl
theorem q8v (D:DX)(n:Nat) (x0) (x1) (x2) (x3) (x4:List (List tq37)) (x5) (x6):LF D n 13 pq5 n (qd9 x0 x1 x2 x3 x4 x5 x6) (CF D n 13 [] pq5 (lF 13))=qmy D n x0 x1 x2 x3 x4 x5 x6 :=by rw[qvo];kernel_rfl
theorem qbct (D:DX)(n:Nat) (a0:List Int):rF D n 13 (a0,())=qpo D n a0:=by
 have h:rF D n 13 (a0,())=qpw D n (fun x0 x1 x2 x3 x4 x5 x6=>LF D n 13 pq5 n (qd9 x0 x1 x2 x3 x4 x5 x6) (CF D n 13 [] pq5 (lF 13))) a0:=by kernel_rfl
 rw[h]
 simp only[q8v]
 rfl

def qq5 (D:DX)(n:Nat) (go:Bool→List (List tq37)→Int→Int→tq5→tq5→Option tq0) (K0:Bool→tq5→tq5→Option tq0) (x0:Bool) (x1:List (List tq37)) (x2 x3:Int) (x4 x5:tq5):Option tq0:=br (decide (x3<x2)) (br (decide (0≤x3)&&decide (x3<(x1.length:Int))) (qd (q59 D (List.getD x1 x3.toNat [])) fun b↦br (decide (x5.2.1.length+1≤qb8)) (go x0 x1 x2 (wrap .i64 (x3+1)) x4 (x5.1,x5.2.1++[(b.1.1.1,b.1.1.2.1,b.1.1.2.2.1,b.1.1.2.2.2.1,b.1.1.2.2.2.2.1,())],x5.2.2)) none) none) (K0 x0 x4 x5)
def qiy (D:DX)(n:Nat) (K0:Bool→tq5→tq5→Option tq0):Nat→Bool→(List (List tq37))→Int→Int→tq5→tq5→Option tq0 | 0=>(fun x0 x1 x2 x3 x4 x5=>none) | m+1=>(fun x0 x1 x2 x3 x4 x5=>qq5 D n (qiy D n K0 m) K0 x0 x1 x2 x3 x4 x5)
def qxw (D:DX)(n:Nat) (c:Bool) (d a:tq5):Option tq0:=br (!c) (some (((([],[],()),[],0,[],[],([],0,()),()),false,()),())) (qd (qgp D ((a.1.1,a.1.2.1,()),a.2.1,a.2.2.1,a.2.2.2.1,a.2.2.2.2.1,(a.2.2.2.2.2.1.1,a.2.2.2.2.2.1.2),())) fun b↦br (!b.1.1) (some (((([],[],()),[],0,[],[],([],0,()),()),false,()),())) (some ((((a.1.1,a.1.2.1,()),a.2.1,a.2.2.1,a.2.2.2.1,a.2.2.2.2.1,(a.2.2.2.2.2.1.1,a.2.2.2.2.2.1.2),()),true,()),())))
def qpb (D:DX)(n:Nat):(Bool)→(List (List tq37))→(Int)→(Int)→tq5→tq5→Option tq0:=(fun x0 x1 x2 x3 x4 x5=>qiy D n (fun a b c=>qxw D n a b c) n x0 x1 x2 x3 x4 x5)
def qti (D:DX)(n:Nat) (lp0:Bool→List (List tq37)→Int→Int→tq5→tq5→Option tq0) (a0:tq39) (a1:List (List tq37)):Option tq0:=qd (q20 D a0 (a1.length:Int)) fun b↦qd (qp8 D a0) fun b_1↦lp0 b.1.2.1 a1 (a1.length:Int) 0 (([],[],()),[],0,[],[],([],0,()),()) ((b.1.1.1,b.1.1.2.1,()),[],0,[],[],(b_1.1.1.1,b_1.1.1.2),())
def qtf (D:DX)(n:Nat) (a0:tq39) (a1:List (List tq37)):Option tq0:=qti D n (qpb D n) a0 a1
def qrb (x0:Bool) (x1:List (List tq37)) (x2 x3:Int) (x4 x5:tq5):St:=stq 45 [(4,AV.addr 4 []),(7,AV.val Ty.bool x0),(8,AV.addr 8 []),(22,AV.val yq18 x1),(23,AV.val yq34 x2),(24,AV.val yq34 x3)] [(4,Root.mk yq0 kq1 x4 true),(8,Root.mk yq0 kq2 x5 true)]
def qw2 (a:Bool) (b c:tq5):St:=stq 45 [(4,AV.addr 4 []),(7,AV.val Ty.bool a),(8,AV.addr 8 [])] [(4,Root.mk yq0 kq1 b true),(8,Root.mk yq0 kq2 c true)]
theorem qbcs (D:DX)(n:Nat) (K:KT 14):∀ (m:Nat) (x0:Bool) (x1:List (List tq37)) (x2 x3:Int) (x4 x5:tq5),LF D n 14 pq1 m (qrb x0 x1 x2 x3 x4 x5) K=qiy D n (fun a b c=>K (Ex.exit 0) (qw2 a b c)) m x0 x1 x2 x3 x4 x5:=eL6 (fun F=>qq5 D n F (fun a b c=>K (Ex.exit 0) (qw2 a b c))) (fun _ _ _ _ _ _ =>q7 ..) (fun _ _ _ _ _ _ _ =>by kernel_rfl) (fun _ _ _ _ _ _ _ =>rfl)
theorem qbba (D:DX)(n:Nat) (x0) (x1:List (List tq37)) (x2) (x3) (x4) (x5):LF D n 14 pq1 n (qrb x0 x1 x2 x3 x4 x5) (CF D n 14 [] pq1 (lF 14))=qpb D n x0 x1 x2 x3 x4 x5 :=by rw[qbcs];kernel_rfl
theorem qbfu (D:DX)(n:Nat) (a0:tq39) (a1:List (List tq37)):rF D n 14 (a0,(a1,()))=qtf D n a0 a1:=by
 have h:rF D n 14 (a0,(a1,()))=qti D n (fun x0 x1 x2 x3 x4 x5=>LF D n 14 pq1 n (qrb x0 x1 x2 x3 x4 x5) (CF D n 14 [] pq1 (lF 14))) a0 a1:=by kernel_rfl
 rw[h]
 simp only[qbba]
 rfl

def qrk (D:DX)(n:Nat) (go:List (List tq37)→Bool→Int→tq5→tq5→Option tq0) (K0:Bool→tq5→tq5→Option tq0) (x0:List (List tq37)) (x1:Bool) (x2:Int) (x3 x4:tq5):Option tq0:=br (decide (x2<(x0.length:Int))) (br (decide (0≤x2)&&decide (x2<(x0.length:Int))) (qd (q5y D (List.getD x0 x2.toNat [])) fun b↦br (decide (x4.2.1.length+1≤qb8)) (go x0 x1 (wrap .i64 (x2+1)) x3 (x4.1,x4.2.1++[(b.1.1.1,b.1.1.2.1,b.1.1.2.2.1,b.1.1.2.2.2.1,b.1.1.2.2.2.2.1,())],x4.2.2)) none) none) (K0 x1 x3 x4)
def qiz (D:DX)(n:Nat) (K0:Bool→tq5→tq5→Option tq0):Nat→(List (List tq37))→Bool→Int→tq5→tq5→Option tq0 | 0=>(fun x0 x1 x2 x3 x4=>none) | m+1=>(fun x0 x1 x2 x3 x4=>qrk D n (qiz D n K0 m) K0 x0 x1 x2 x3 x4)
def qwg (D:DX)(n:Nat) (c:Bool) (d a:tq5):Option tq0:=br (!c) (some (((([],[],()),[],0,[],[],([],0,()),()),false,()),())) (qd (qvd D ((a.1.1,a.1.2.1,()),a.2.1,a.2.2.1,a.2.2.2.1,a.2.2.2.2.1,(a.2.2.2.2.2.1.1,a.2.2.2.2.2.1.2),())) fun b↦br (!b.1.1) (some (((([],[],()),[],0,[],[],([],0,()),()),false,()),())) (some ((((a.1.1,a.1.2.1,()),a.2.1,a.2.2.1,a.2.2.2.1,a.2.2.2.2.1,(a.2.2.2.2.2.1.1,a.2.2.2.2.2.1.2),()),true,()),())))
def qpf (D:DX)(n:Nat):(List (List tq37))→(Bool)→(Int)→tq5→tq5→Option tq0:=(fun x0 x1 x2 x3 x4=>qiz D n (fun a b c=>qwg D n a b c) n x0 x1 x2 x3 x4)
def qta (D:DX)(n:Nat) (lp0:List (List tq37)→Bool→Int→tq5→tq5→Option tq0) (a0:tq39) (a1:List (List tq37)):Option tq0:=qd (q2j D a0 (a1.length:Int)) fun b↦qd (q22 D a0) fun b_1↦lp0 a1 b.1.2.1 0 (([],[],()),[],0,[],[],([],0,()),()) ((b.1.1.1,b.1.1.2.1,()),[],0,[],[],(b_1.1.1.1,b_1.1.1.2),())
def qso (D:DX)(n:Nat) (a0:tq39) (a1:List (List tq37)):Option tq0:=qta D n (qpf D n) a0 a1
def qrc (x0:List (List tq37)) (x1:Bool) (x2:Int) (x3 x4:tq5):St:=stq 46 [(1,AV.val yq18 x0),(4,AV.addr 4 []),(7,AV.val Ty.bool x1),(8,AV.addr 8 []),(9,AV.val yq34 x2)] [(4,Root.mk yq0 kq1 x3 true),(8,Root.mk yq0 kq1 x4 true)]
def qxm (a:Bool) (b c:tq5):St:=stq 46 [(4,AV.addr 4 []),(7,AV.val Ty.bool a),(8,AV.addr 8 [])] [(4,Root.mk yq0 kq1 b true),(8,Root.mk yq0 kq1 c true)]
theorem qbci (D:DX)(n:Nat) (K:KT 15):∀ (m:Nat) (x0:List (List tq37)) (x1:Bool) (x2:Int) (x3 x4:tq5),LF D n 15 pq1 m (qrc x0 x1 x2 x3 x4) K=qiz D n (fun a b c=>K (Ex.exit 0) (qxm a b c)) m x0 x1 x2 x3 x4:=eL5 (fun F=>qrk D n F (fun a b c=>K (Ex.exit 0) (qxm a b c))) (fun _ _ _ _ _ =>q7 ..) (fun _ _ _ _ _ _ =>by kernel_rfl) (fun _ _ _ _ _ _ =>rfl)
theorem qba1 (D:DX)(n:Nat) (x0:List (List tq37)) (x1) (x2) (x3) (x4):LF D n 15 pq1 n (qrc x0 x1 x2 x3 x4) (CF D n 15 [] pq1 (lF 15))=qpf D n x0 x1 x2 x3 x4 :=by rw[qbci];kernel_rfl
theorem qbgq (D:DX)(n:Nat) (a0:tq39) (a1:List (List tq37)):rF D n 15 (a0,(a1,()))=qso D n a0 a1:=by
 have h:rF D n 15 (a0,(a1,()))=qta D n (fun x0 x1 x2 x3 x4=>LF D n 15 pq1 n (qrc x0 x1 x2 x3 x4) (CF D n 15 [] pq1 (lF 15))) a0 a1:=by kernel_rfl
 rw[h]
 simp only[qba1]
 rfl

def q6h (D:DX)(n:Nat) (go:List Int→Int→Int→tq5→tq5→Option tq3) (K0:tq5→tq5→Option tq3) (x0:List Int) (x1 x2:Int) (x3 x4:tq5):Option tq3:=br (decide (x2<x1)) (br (decide (0≤x2)&&decide (x2<(x0.length:Int))) (qd (qtx D x3 (List.getD x0 x2.toNat 0)) fun b↦go x0 x1 (wrap .i64 (x2+1)) b.1.1 x4) none) (K0 x3 x4)
def qrj (D:DX)(n:Nat) (K0:tq5→tq5→Option tq3):Nat→(List Int)→Int→Int→tq5→tq5→Option tq3 | 0=>(fun x0 x1 x2 x3 x4=>none) | m+1=>(fun x0 x1 x2 x3 x4=>q6h D n (qrj D n K0 m) K0 x0 x1 x2 x3 x4)
def qbmu (D:DX)(n:Nat) (a b:tq5):Option tq3:=some ((a,()),())
def q2i (D:DX)(n:Nat):(List Int)→(Int)→(Int)→tq5→tq5→Option tq3:=(fun x0 x1 x2 x3 x4=>qrj D n (fun a b=>qbmu D n a b) n x0 x1 x2 x3 x4)
def q8r (D:DX)(n:Nat) (lp0:List Int→Int→Int→tq5→tq5→Option tq3) (a0:tq5) (a1:List Int):Option tq3:=qd (qi9 D a0) fun b↦br (decide ((a1.length:Int)>2000)) (some ((((b.1.1.1.1,b.1.1.1.2.1,()),b.1.1.2.1,b.1.1.2.2.1,b.1.1.2.2.2.1,b.1.1.2.2.2.2.1,b.1.1.2.2.2.2.2),()),())) (lp0 a1 (a1.length:Int) 0 ((b.1.1.1.1,b.1.1.1.2.1,()),b.1.1.2.1,b.1.1.2.2.1,b.1.1.2.2.2.1,b.1.1.2.2.2.2.1,b.1.1.2.2.2.2.2) (([],[],()),[],0,[],[],([],0,()),()))
def q8k (D:DX)(n:Nat) (a0:tq5) (a1:List Int):Option tq3:=q8r D n (q2i D n) a0 a1
def q5v (x0:List Int) (x1 x2:Int) (x3 x4:tq5):St:=stq 27 [(2,AV.addr 2 []),(4,AV.addr 4 []),(13,AV.val yq30 x0),(14,AV.val yq34 x1),(15,AV.val yq34 x2)] [(2,Root.mk yq0 Mk.no x3 true),(4,Root.mk yq0 kq1 x4 true)]
def q95 (a b:tq5):St:=stq 27 [(2,AV.addr 2 []),(4,AV.addr 4 [])] [(2,Root.mk yq0 Mk.no a true),(4,Root.mk yq0 kq1 b true)]
theorem qbp8 (D:DX)(n:Nat) (K:KT 16):∀ (m:Nat) (x0:List Int) (x1 x2:Int) (x3 x4:tq5),LF D n 16 pq1 m (q5v x0 x1 x2 x3 x4) K=qrj D n (fun a b=>K (Ex.exit 0) (q95 a b)) m x0 x1 x2 x3 x4:=eL5 (fun F=>q6h D n F (fun a b=>K (Ex.exit 0) (q95 a b))) (fun _ _ _ _ _ =>q7 ..) (fun _ _ _ _ _ _ =>by kernel_rfl) (fun _ _ _ _ _ _ =>rfl)
theorem qbmt (D:DX)(n:Nat) (x0) (x1) (x2) (x3) (x4):LF D n 16 pq1 n (q5v x0 x1 x2 x3 x4) (CF D n 16 [] pq1 (lF 16))=q2i D n x0 x1 x2 x3 x4 :=by rw[qbp8];kernel_rfl
theorem qbut (D:DX)(n:Nat) (a0:tq5) (a1:List Int):rF D n 16 (a0,(a1,()))=q8k D n a0 a1:=by
 have h:rF D n 16 (a0,(a1,()))=q8r D n (fun x0 x1 x2 x3 x4=>LF D n 16 pq1 n (q5v x0 x1 x2 x3 x4) (CF D n 16 [] pq1 (lF 16))) a0 a1:=by kernel_rfl
 rw[h]
 simp only[qbmt]
 rfl

def qtn (D:DX)(n:Nat) (a0:tq13):Option tq41:=some ((decide (a0.2.1=(a0.1.length:Int)),()),())
def ql8 (D:DX)(n:Nat) (a0:tq13):Option tq41:=qtn D n a0
theorem qbft (D:DX)(n:Nat) (a0:tq13):rF D n 17 (a0,())=ql8 D n a0:=by kernel_rfl



def q90 (D:DX)(n:Nat) (a0 a1:tq40):Option tq41:=br (decide (a0.1=a1.1)) (qd (qlw D a0.2.1 a1.2.1) fun b↦some ((b.1.1,()),())) (some ((false,()),()))
def qzm (D:DX)(n:Nat) (a0 a1:tq40):Option tq41:=q90 D n a0 a1
theorem qbnf (D:DX)(n:Nat) (a0 a1:tq40):rF D n 28 (a0,(a1,()))=qzm D n a0 a1:=by kernel_rfl




def qben (D:DX)(n:Nat) (a0:Int):Option tq42:=qd (qhn D a0) fun b↦qd (qcp D) fun b_1↦qd (qk4 D b.1.1 (wrap .i64 (b_1.1.1+a0))) fun b↦some ((b.1.1,()),())
def q6d (D:DX)(n:Nat) (a0:Int):Option tq42:=qben D n a0
theorem qbsf (D:DX)(n:Nat) (a0:Int):rF D n 35 (a0,())=q6d D n a0:=by kernel_rfl





def qsv (D:DX)(n:Nat) (go:Int→List tq17→Int→Int→tq5→Option tq41) (K0:Bool→Int→tq5→Option tq41) (K1:Int→tq5→Option tq41) (x0:Int) (x1:List tq17) (x2 x3:Int) (x4:tq5):Option tq41:=let y0:=List.getD x1 x3.toNat (0,(0,0,0,()),0,0,0,(0,[],()),());br (decide (x3<x2)) (br (decide (0≤x3)&&decide (x3<(x1.length:Int))) (qd (qbp D y0.1 0 (wrap .i64 (x0 - 1))) fun b↦br (!b.1.1) (K0 false x0 x4) (qd (qlv D y0.2.1) fun b↦br (!b.1.1) (K0 false x0 x4) (qd (qbp D y0.2.2.1 0 x4.2.2.1) fun b↦br (!b.1.1) (K0 false x0 x4) (qd (qli D y0 y0.2.2.2.1 x4) fun b↦br (!b.1.1) (K0 false x0 x4) (qd (qli D y0 y0.2.2.2.2.1 x4) fun b↦br (!b.1.1) (K0 false x0 x4) (go x0 x1 x2 (wrap .i64 (x3+1)) x4)))))) none) (K1 x0 x4)
def qjr (D:DX)(n:Nat) (K0:Bool→Int→tq5→Option tq41) (K1:Int→tq5→Option tq41):Nat→Int→(List tq17)→Int→Int→tq5→Option tq41 | 0=>(fun x0 x1 x2 x3 x4=>none) | m+1=>(fun x0 x1 x2 x3 x4=>qsv D n (qjr D n K0 K1 m) K0 K1 x0 x1 x2 x3 x4)
def qyd (D:DX)(n:Nat) (a:Bool) (b:Int) (c:tq5):Option tq41:=some ((a,()),())
def qsr (D:DX)(n:Nat) (go:Int→List tq13→Int→Int→tq5→Option tq41) (K0:Bool→tq5→Option tq41) (K1:tq5→Option tq41) (e:Int) (d:List tq13) (f a:Int) (c:tq5):Option tq41:=br (decide (a<f)) (br (decide (0≤a)&&decide (a<(d.length:Int))) (qd (qxd D (List.getD d a.toNat ([],0,false,[],[],())) e) fun b↦br (!b.1.1) (K0 false c) (qd (q0l D c a) fun b↦br (!b.1.1) (K0 false c) (go e d f (wrap .i64 (a+1)) c))) none) (K1 c)
def qjs (D:DX)(n:Nat) (K0:Bool→tq5→Option tq41) (K1:tq5→Option tq41):Nat→Int→(List tq13)→Int→Int→tq5→Option tq41 | 0=>(fun a b c d e=>none) | m+1=>(fun a b c d e=>qsr D n (qjs D n K0 K1 m) K0 K1 a b c d e)
def qbco (D:DX)(n:Nat) (a:Bool) (b:tq5):Option tq41:=some ((a,()),())
def qx9 (D:DX)(n:Nat) (a:tq5):Option tq41:=qd (qzw D a) fun b↦some ((b.1.1,()),())
def qqn (D:DX)(n:Nat):(Int)→(List tq13)→(Int)→(Int)→tq5→Option tq41:=(fun a b f g h=>qjs D n (fun c d=>qbco D n c d) (fun e=>qx9 D n e) n a b f g h)
def qpt (D:DX)(n:Nat) (lp1:Int→List tq13→Int→Int→tq5→Option tq41) (b:Int) (a:tq5):Option tq41:=lp1 b a.2.1 (a.2.1.length:Int) 0 a
def qrv (D:DX)(n:Nat):(Int)→(List tq17)→(Int)→(Int)→tq5→Option tq41:=(fun x0 x1 x2 x3 x4=>qjr D n (fun a b c=>qyd D n a b c) (fun d e=>qpt D n (qqn D n) d e) n x0 x1 x2 x3 x4)
def qup (D:DX)(n:Nat) (lp0:Int→List tq17→Int→Int→tq5→Option tq41) (a0:tq5):Option tq41:=qd (qkd D a0.1) fun b↦br (bif !b.1.1 then true else (a0.1.2.1.length:Int) != (a0.2.1.length:Int)) (some ((false,()),())) (qd (qbp D a0.2.2.1 0 100000) fun b↦br (bif !b.1.1 then true else decide ((a0.2.2.2.1.length:Int)>40)) (some ((false,()),())) (qd (qt9 D a0.2.2.2.2.2.1) fun b↦br (!b.1.1) (some ((false,()),())) (lp0 (a0.2.1.length:Int) a0.2.2.2.1 (a0.2.2.2.1.length:Int) 0 a0)))
def qut (D:DX)(n:Nat) (a0:tq5):Option tq41:=qup D n (qrv D n) a0
def qth (x0:Int) (x1:List tq17) (x2 x3:Int) (x4:tq5):St:=stq 108 [(1,AV.addr 1 []),(3,AV.val yq34 x0),(4,AV.clo 79 (AV.pair (AV.addr 1 []) AV.unit)),(44,AV.val yq6 x1),(45,AV.val yq34 x2),(46,AV.val yq34 x3)] [(1,Root.mk yq0 Mk.no x4 true)]
def qpq (a:Bool) (b:Int) (c:tq5):St:=stq 108 [(1,AV.addr 1 []),(2,AV.val Ty.bool a),(3,AV.val yq34 b)] [(1,Root.mk yq0 Mk.no c true)]
def qpg (a:Int) (b:tq5):St:=stq 108 [(1,AV.addr 1 []),(3,AV.val yq34 a)] [(1,Root.mk yq0 Mk.no b true)]
def qtl (a:Int) (b:List tq13) (c d:Int) (e:tq5):St:=stq 108 [(1,AV.addr 1 []),(3,AV.val yq34 a),(88,AV.val yq4 b),(89,AV.val yq34 c),(90,AV.val yq34 d)] [(1,Root.mk yq0 Mk.no e true)]
def qx6 (a:Bool) (b:tq5):St:=stq 108 [(1,AV.addr 1 []),(2,AV.val Ty.bool a)] [(1,Root.mk yq0 Mk.no b true)]
def qyc (a:tq5):St:=stq 108 [(1,AV.addr 1 [])] [(1,Root.mk yq0 Mk.no a true)]
theorem qber (D:DX)(n:Nat) (K:KT 40):∀ (m:Nat) (x0:Int) (x1:List tq17) (x2 x3:Int) (x4:tq5),LF D n 40 pq3 m (qth x0 x1 x2 x3 x4) K=qjr D n (fun a b c=>K (Ex.ret) (qpq a b c)) (fun d e=>K (Ex.exit 0) (qpg d e)) m x0 x1 x2 x3 x4:=eL5 (fun F=>qsv D n F (fun a b c=>K (Ex.ret) (qpq a b c)) (fun d e=>K (Ex.exit 0) (qpg d e))) (fun _ _ _ _ _ =>q7 ..) (fun _ _ _ _ _ _ =>by kernel_rfl) (fun _ _ _ _ _ _ =>rfl)
theorem qbel (D:DX)(n:Nat) (K:KT 40):∀ (m:Nat) (d:Int) (e:List tq13) (f g:Int) (h:tq5),LF D n 40 pq8 m (qtl d e f g h) K=qjs D n (fun a b=>K (Ex.ret) (qx6 a b)) (fun c=>K (Ex.exit 2) (qyc c)) m d e f g h:=eL5 (fun F=>qsr D n F (fun a b=>K (Ex.ret) (qx6 a b)) (fun c=>K (Ex.exit 2) (qyc c))) (fun _ _ _ _ _ =>q7 ..) (fun _ _ _ _ _ _ =>by kernel_rfl) (fun _ _ _ _ _ _ =>rfl)
theorem qbcx (D:DX)(n:Nat) (a:Int) (b:List tq13) (c d:Int) (e:tq5):LF D n 40 pq8 n (qtl a b c d e) (CF D n 40 [] pq8 (lF 40))=qqn D n a b c d e :=by rw[qbel];kernel_rfl
theorem qbck (D:DX)(n:Nat) (a:Bool) (b:Int) (c:tq5):(CF D n 40 [] pq3 (lF 40)) (Ex.ret) (qpq a b c)=qyd D n a b c:=by kernel_rfl
theorem qbcj (D:DX)(n:Nat) (a:Int) (b:tq5):(CF D n 40 [] pq3 (lF 40)) (Ex.exit 0) (qpg a b)=qpt D n (fun c d e f g=>LF D n 40 pq8 n (qtl c d e f g) (CF D n 40 [] pq8 (lF 40))) a b:=by kernel_rfl
theorem qbcy (D:DX)(n:Nat) (x0) (x1) (x2) (x3) (x4):LF D n 40 pq3 n (qth x0 x1 x2 x3 x4) (CF D n 40 [] pq3 (lF 40))=qrv D n x0 x1 x2 x3 x4:=by
 rw[qber]
 simp only[qbck,qbcj,qbcx]
 rfl
theorem qbhu (D:DX)(n:Nat) (a0:tq5):rF D n 40 (a0,())=qut D n a0:=by
 have h:rF D n 40 (a0,())=qup D n (fun x0 x1 x2 x3 x4=>LF D n 40 pq3 n (qth x0 x1 x2 x3 x4) (CF D n 40 [] pq3 (lF 40))) a0:=by kernel_rfl
 rw[h]
 simp only[qbcy]
 rfl


def q1z (D:DX)(n:Nat) (go:List Int→Int→Int→Option tq27) (K0:List Int→Int→Option tq27) (x0:List Int) (x1 x2:Int):Option tq27:=br (bif decide (x2<(x0.length:Int)) then decide (x2<4000) else false) (br (decide (0≤x2)&&decide (x2<(x0.length:Int))) (go x0 (wrap .i64 (↑(BitVec.toNat (BitVec.and (BitVec.ofInt (IntKind.bits IntKind.i64) (wrap .i64 (wrap .i64 (wrap .i64 (x1 * 131)+wrap .i64 (List.getD x0 x2.toNat 0))+7))) (BitVec.ofInt (IntKind.bits IntKind.i64) 1073741823))):Int)) (wrap .i64 (x2+1))) none) (K0 x0 x1)
def qok (D:DX)(n:Nat) (K0:List Int→Int→Option tq27):Nat→(List Int)→Int→Int→Option tq27 | 0=>(fun x0 x1 x2=>none) | m+1=>(fun x0 x1 x2=>q1z D n (qok D n K0 m) K0 x0 x1 x2)
def q7j (D:DX)(n:Nat) (a:List Int) (b:Int):Option tq27:=some (((a,0,b,()),()),())
def qzt (D:DX)(n:Nat):(List Int)→(Int)→(Int)→Option tq27:=(fun x0 x1 x2=>qok D n (fun a b=>q7j D n a b) n x0 x1 x2)
def q42 (D:DX)(n:Nat) (lp0:List Int→Int→Int→Option tq27) (a0:List Int):Option tq27:=lp0 a0 (wrap .i64 (27323+(a0.length:Int))) 0
def q50 (D:DX)(n:Nat) (a0:List Int):Option tq27:=q42 D n (qzt D n) a0
def q13 (x0:List Int) (x1 x2:Int):St:=stq 32 [(0,AV.val yq32 x0),(3,AV.val yq34 x1),(4,AV.val yq34 x2)] []
def q7o (a:List Int) (b:Int):St:=stq 32 [(0,AV.val yq32 a),(3,AV.val yq34 b)] []
theorem qbm4 (D:DX)(n:Nat) (K:KT 44):∀ (m:Nat) (x0:List Int) (x1 x2:Int),LF D n 44 pq0 m (q13 x0 x1 x2) K=qok D n (fun a b=>K (Ex.exit 0) (q7o a b)) m x0 x1 x2:=eL3 (fun F=>q1z D n F (fun a b=>K (Ex.exit 0) (q7o a b))) (fun _ _ _ =>q7 ..) (fun _ _ _ _ =>by kernel_rfl) (fun _ _ _ _ =>rfl)
theorem qbj5 (D:DX)(n:Nat) (x0) (x1) (x2):LF D n 44 pq0 n (q13 x0 x1 x2) (CF D n 44 [] pq0 (lF 44))=qzt D n x0 x1 x2 :=by rw[qbm4];kernel_rfl
theorem qbro (D:DX)(n:Nat) (a0:List Int):rF D n 44 (a0,())=q50 D n a0:=by
 have h:rF D n 44 (a0,())=q42 D n (fun x0 x1 x2=>LF D n 44 pq0 n (q13 x0 x1 x2) (CF D n 44 [] pq0 (lF 44))) a0:=by kernel_rfl
 rw[h]
 simp only[qbj5]
 rfl

def qpj (D:DX)(n:Nat) (go:Int→tq34→tq39→tq39→Option tq20) (K0:tq34→tq39→tq39→Option tq20) (x0:Int) (x1:tq34) (x2 x3:tq39):Option tq20:=br (decide (x0<4)) (qd (qce D x1 7) fun b↦qd (qw3 D (x3.1,x3.2) b.1.1) fun b_1↦br (decide (b_1.1.1<0)) (br (decide (0≤x0)&&decide (x0<(x3.1.length:Int))) (go (wrap .i64 (x0+1)) b.2.1 x2 (List.set x3.1 x0.toNat b.1.1,x3.2)) none) (go (wrap .i64 (x0+1)) b.2.1 x2 x3)) (K0 x1 x2 x3)
def qia (D:DX)(n:Nat) (K0:tq34→tq39→tq39→Option tq20):Nat→Int→tq34→tq39→tq39→Option tq20 | 0=>(fun x0 x1 x2 x3=>none) | m+1=>(fun x0 x1 x2 x3=>qpj D n (qia D n K0 m) K0 x0 x1 x2 x3)
def qms (D:DX)(n:Nat) (c:tq34) (d a:tq39):Option tq20:=qd (qnz D c [0,0,1,3,5]) fun b↦some (((a.1,b.1.1,a.2.2),()),b.2.1,())
def qob (D:DX)(n:Nat):(Int)→tq34→tq39→tq39→Option tq20:=(fun x0 x1 x2 x3=>qia D n (fun a b c=>qms D n a b c) n x0 x1 x2 x3)
def qq3 (D:DX)(n:Nat) (lp0:Int→tq34→tq39→tq39→Option tq20) (a0:tq34):Option tq20:=qd (qy3 D) fun b↦lp0 0 a0 ([],0,()) (b.1.1.1,b.1.1.2)
def qrg (D:DX)(n:Nat) (a0:tq34):Option tq20:=qq3 D n (qob D n) a0
def qpi (x0:Int) (x1:tq34) (x2 x3:tq39):St:=stq 27 [(0,AV.addr 0 []),(2,AV.addr 2 []),(3,AV.addr 3 []),(4,AV.val yq34 x0)] [(0,Root.mk yq20 Mk.no x1 true),(2,Root.mk yq25 kq29 x2 true),(3,Root.mk yq25 kq29 x3 true)]
def qvp (a:tq34) (b c:tq39):St:=stq 27 [(0,AV.addr 0 []),(2,AV.addr 2 []),(3,AV.addr 3 [])] [(0,Root.mk yq20 Mk.no a true),(2,Root.mk yq25 kq29 b true),(3,Root.mk yq25 kq29 c true)]
theorem qbbi (D:DX)(n:Nat) (K:KT 45):∀ (m:Nat) (x0:Int) (x1:tq34) (x2 x3:tq39),LF D n 45 pq0 m (qpi x0 x1 x2 x3) K=qia D n (fun a b c=>K (Ex.exit 0) (qvp a b c)) m x0 x1 x2 x3:=eL4 (fun F=>qpj D n F (fun a b c=>K (Ex.exit 0) (qvp a b c))) (fun _ _ _ _ =>q7 ..) (fun _ _ _ _ _ =>by kernel_rfl) (fun _ _ _ _ _ =>rfl)
theorem q80 (D:DX)(n:Nat) (x0) (x1) (x2) (x3):LF D n 45 pq0 n (qpi x0 x1 x2 x3) (CF D n 45 [] pq0 (lF 45))=qob D n x0 x1 x2 x3 :=by rw[qbbi];kernel_rfl
theorem qbd3 (D:DX)(n:Nat) (a0:tq34):rF D n 45 (a0,())=qrg D n a0:=by
 have h:rF D n 45 (a0,())=qq3 D n (fun x0 x1 x2 x3=>LF D n 45 pq0 n (qpi x0 x1 x2 x3) (CF D n 45 [] pq0 (lF 45))) a0:=by kernel_rfl
 rw[h]
 simp only[q80]
 rfl

def qtk (D:DX)(n:Nat) (go:Int→Int→tq34→List (List tq37)→List tq37→Option tq16) (K0:Int→tq34→List (List tq37)→List tq37→Option tq16) (c d:Int) (f:tq34) (e:List (List tq37)) (a:List tq37):Option tq16:=qd (qce D f 4) fun b↦br (decide (d<wrap .i64 (1+b.1.1))) (qd (qqq D b.2.1) fun b↦br (decide (a.length+1≤qb8)) (go c (wrap .i64 (d+1)) b.2.1 e (a++[b.1.1])) none) (K0 c b.2.1 e a)
def qjn (D:DX)(n:Nat) (K0:Int→tq34→List (List tq37)→List tq37→Option tq16):Nat→Int→Int→tq34→(List (List tq37))→(List tq37)→Option tq16 | 0=>(fun a b c d e=>none) | m+1=>(fun a b c d e=>qtk D n (qjn D n K0 m) K0 a b c d e)
def qo4 (D:DX)(n:Nat) (go:Int→tq34→List (List tq37)→Option tq16) (K0:tq34→List (List tq37)→Option tq16) (b:Int) (c:tq34) (a:List (List tq37)) (d:List tq37):Option tq16:=br (decide (a.length+1≤qb8)) (go (wrap .i64 (b+1)) c (a++[d])) none
def qq9 (D:DX)(n:Nat) (go:Int→tq34→List (List tq37)→Option tq16) (K0:tq34→List (List tq37)→Option tq16):(Int)→(Int)→tq34→(List (List tq37))→(List tq37)→Option tq16:=(fun a f g h i=>qjn D n (fun b c d e=>qo4 D n go K0 b c d e) n a f g h i)
def qsm (D:DX)(n:Nat) (go:Int→tq34→List (List tq37)→Option tq16) (K0:tq34→List (List tq37)→Option tq16) (lp1:Int→Int→tq34→List (List tq37)→List tq37→Option tq16) (x0:Int) (x1:tq34) (x2:List (List tq37)):Option tq16:=qd (qce D x1 3) fun b↦br (decide (x0<wrap .i64 (1+b.1.1))) (lp1 x0 0 b.2.1 x2 []) (K0 b.2.1 x2)
def qes (D:DX)(n:Nat) (K0:tq34→List (List tq37)→Option tq16):Nat→Int→tq34→(List (List tq37))→Option tq16 | 0=>(fun x0 x1 x2=>none) | m+1=>(fun x0 x1 x2=>qsm D n (qes D n K0 m) K0 (qq9 D n (qes D n K0 m) K0) x0 x1 x2)
def qx8 (D:DX)(n:Nat) (a:tq34) (b:List (List tq37)):Option tq16:=some ((b,()),a,())
def qq6 (D:DX)(n:Nat):(Int)→tq34→(List (List tq37))→Option tq16:=(fun x0 x1 x2=>qes D n (fun a b=>qx8 D n a b) n x0 x1 x2)
def qui (D:DX)(n:Nat) (lp0:Int→tq34→List (List tq37)→Option tq16) (a0:tq34):Option tq16:=lp0 0 a0 []
def qu6 (D:DX)(n:Nat) (a0:tq34):Option tq16:=qui D n (qq6 D n) a0
def qfv (x0:Int) (x1:tq34) (x2:List (List tq37)):St:=stq 33 [(0,AV.addr 0 []),(3,AV.brw 3 [] 0),(4,AV.val yq34 x0)] [(0,Root.mk yq20 Mk.no x1 true),(3,Root.mk yq18 kq31 x2 false)]
def qkq (a:tq34) (b:List (List tq37)):St:=stq 33 [(0,AV.addr 0 []),(3,AV.brw 3 [] 0)] [(0,Root.mk yq20 Mk.no a true),(3,Root.mk yq18 kq31 b false)]
def qtm (a b:Int) (c:tq34) (d:List (List tq37)) (e:List tq37):St:=stq 33 [(0,AV.addr 0 []),(3,AV.brw 3 [] 0),(4,AV.val yq34 a),(5,AV.brw 5 [] 0),(6,AV.val yq34 b)] [(0,Root.mk yq20 Mk.no c true),(3,Root.mk yq18 kq31 d false),(5,Root.mk yq19 kq37 e false)]
def qyb (a:Int) (b:tq34) (c:List (List tq37)) (d:List tq37):St:=stq 33 [(0,AV.addr 0 []),(3,AV.brw 3 [] 0),(4,AV.val yq34 a),(5,AV.brw 5 [] 0)] [(0,Root.mk yq20 Mk.no b true),(3,Root.mk yq18 kq31 c false),(5,Root.mk yq19 kq37 d false)]
theorem qbdo (D:DX)(n:Nat) (K:KT 46):∀ (m:Nat) (e f:Int) (g:tq34) (h:List (List tq37)) (i:List tq37),LF D n 46 pq14 m (qtm e f g h i) K=qjn D n (fun a b c d=>K (Ex.exit 2) (qyb a b c d)) m e f g h i:=eL5 (fun F=>qtk D n F (fun a b c d=>K (Ex.exit 2) (qyb a b c d))) (fun _ _ _ _ _ =>q7 ..) (fun _ _ _ _ _ _ =>by kernel_rfl) (fun _ _ _ _ _ _ =>rfl)
theorem qbch (D:DX)(n:Nat) (m:Nat) (K:KT 46) (a b:Int) (c:tq34) (d:List (List tq37)) (e:List tq37):LF D n 46 pq14 n (qtm a b c d e) (CF D n 46 [.r,.r,.l,.r,.l,.l] [.r,.l,.l,.r,.l,.r,.l] (KF D n 46 pq0 m K))=qq9 D n (fun x0 x1 x2=>LF D n 46 pq0 m (qfv x0 x1 x2) K) (fun f g=>K (Ex.exit 0) (qkq f g)) a b c d e :=by rw[qbdo];kernel_rfl
theorem qbdm (D:DX)(n:Nat) (m:Nat) (K:KT 46) (x0) (x1) (x2:List (List tq37)):LF D n 46 pq0 (m+1) (qfv x0 x1 x2) K=qsm D n (fun x0 x1 x2=>LF D n 46 pq0 m (qfv x0 x1 x2) K) (fun a b=>K (Ex.exit 0) (qkq a b)) (fun c d e f g=>LF D n 46 pq14 n (qtm c d e f g) (CF D n 46 [.r,.r,.l,.r,.l,.l] [.r,.l,.l,.r,.l,.r,.l] (KF D n 46 pq0 m K))) x0 x1 x2:=by kernel_rfl
theorem q1h (D:DX)(n:Nat) (K:KT 46):∀ (m:Nat) (x0:Int) (x1:tq34) (x2:List (List tq37)),LF D n 46 pq0 m (qfv x0 x1 x2) K=qes D n (fun a b=>K (Ex.exit 0) (qkq a b)) m x0 x1 x2
 | 0,x0,x1,x2=>q7 ..
 | m+1,x0,x1,x2=>by
  have ih:(fun x0 x1 x2=>LF D n 46 pq0 m (qfv x0 x1 x2) K)=qes D n (fun a b=>K (Ex.exit 0) (qkq a b)) m:=by funext x0 x1 x2;exact q1h D n K m x0 x1 x2
  rw[qbdm]
  simp only[qbch]
  rw[ih];rfl
theorem qbcq (D:DX)(n:Nat) (x0) (x1) (x2:List (List tq37)):LF D n 46 pq0 n (qfv x0 x1 x2) (CF D n 46 [] pq0 (lF 46))=qq6 D n x0 x1 x2 :=by rw[q1h];kernel_rfl
theorem qbh7 (D:DX)(n:Nat) (a0:tq34):rF D n 46 (a0,())=qu6 D n a0:=by
 have h:rF D n 46 (a0,())=qui D n (fun x0 x1 x2=>LF D n 46 pq0 n (qfv x0 x1 x2) (CF D n 46 [] pq0 (lF 46))) a0:=by kernel_rfl
 rw[h]
 simp only[qbcq]
 rfl

def qbai (D:DX)(n:Nat) (a0:tq34) (a1:Int):Option tq25:=br (decide (a1≤0)) (some ((0,()),a0,())) (br (decide (a1≤256)) (qd (qjh D a0) fun b↦br (decide (a1=0)) none (some ((Int.tmod b.1.1 a1,()),b.2.1,()))) (qd (qjh D a0) fun b↦qd (qjh D b.2.1) fun b_1↦qd (qjh D b_1.2.1) fun b_2↦qd (qjh D b_2.2.1) fun b_3↦br (decide (a1=0)) none (some ((Int.tmod (wrap .i64 (wrap .i64 (wrap .i64 (wrap .i64 (b.1.1 * 16777216)+wrap .i64 (b_1.1.1 * 65536))+wrap .i64 (b_2.1.1 * 256))+b_3.1.1)) a1,()),b_3.2.1,()))))
def qzr (D:DX)(n:Nat) (a0:tq34) (a1:Int):Option tq25:=qbai D n a0 a1
theorem qblt (D:DX)(n:Nat) (a0:tq34) (a1:Int):rF D n 47 (a0,(a1,()))=qzr D n a0 a1:=by kernel_rfl

def qbcf (D:DX)(n:Nat) (a0:List Int) (a1 a2:Int):Option tq42:=br (decide (wrap .i64 (a1+wrap .i64 (Int.tdiv (a0.length:Int) 4))>a2)) (some ((a2,()),())) (some ((wrap .i64 (a1+wrap .i64 (Int.tdiv (a0.length:Int) 4)),()),()))
def q25 (D:DX)(n:Nat) (a0:List Int) (a1 a2:Int):Option tq42:=qbcf D n a0 a1 a2
theorem qbp6 (D:DX)(n:Nat) (a0:List Int) (a1 a2:Int):rF D n 48 (a0,(a1,(a2,())))=q25 D n a0 a1 a2:=by kernel_rfl

def qy4 (D:DX)(n:Nat) (go:Int→Int→tq12→tq12→List Int→Option tq9) (K0:tq12→tq12→Option tq9) (x0 x1:Int) (x2 x3:tq12) (x4:List Int):Option tq9:=br (decide (x1<x0)) (br (decide (0≤x1)&&decide (x1<(x4.length:Int))) (br (decide (x3.1.length+1≤qb8)) (go x0 (wrap .i64 (x1+1)) x2 (x3.1++[(List.getD x4 x1.toNat 0,0,0,())],x3.2) x4) none) none) (K0 x2 x3)
def qme (D:DX)(n:Nat) (K0:tq12→tq12→Option tq9):Nat→Int→Int→tq12→tq12→(List Int)→Option tq9 | 0=>(fun x0 x1 x2 x3 x4=>none) | m+1=>(fun x0 x1 x2 x3 x4=>qy4 D n (qme D n K0 m) K0 x0 x1 x2 x3 x4)
def q6s (D:DX)(n:Nat) (c a:tq12):Option tq9:=qd (qkd D (a.1,a.2.1,())) fun b↦br (!b.1.1) (some ((([],[],()),false,()),())) (some (((a.1,a.2.1,()),true,()),()))
def qxz (D:DX)(n:Nat):(Int)→(Int)→tq12→tq12→(List Int)→Option tq9:=(fun x0 x1 x2 x3 x4=>qme D n (fun a b=>q6s D n a b) n x0 x1 x2 x3 x4)
def q26 (D:DX)(n:Nat) (lp0:Int→Int→tq12→tq12→List Int→Option tq9) (a0:tq39) (a1:Int):Option tq9:=qd (qbp D a1 1 4) fun b↦br (!b.1.1) (some ((([],[],()),false,()),())) (br (decide (0≤a1)&&decide (a1≤a1)&&decide (a1≤(↑qb8:Int))) (qd (qr5 D a0) fun b↦lp0 (b.1.1.length:Int) 0 ([],[],()) ([],List.replicate a1.toNat (0,0,[],(0,[],()),()),()) b.1.1) none)
def q29 (D:DX)(n:Nat) (a0:tq39) (a1:Int):Option tq9:=q26 D n (qxz D n) a0 a1
def qzs (x0 x1:Int) (x2 x3:tq12) (x4:List Int):St:=stq 36 [(4,AV.addr 4 []),(6,AV.addr 6 []),(17,AV.brw 17 [] 0),(18,AV.val yq34 x0),(19,AV.val yq34 x1)] [(4,Root.mk yq3 kq14 x2 true),(6,Root.mk yq3 kq14 x3 true),(17,Root.mk yq30 kq37 x4 false)]
def q41 (a b:tq12):St:=stq 36 [(4,AV.addr 4 []),(6,AV.addr 6 [])] [(4,Root.mk yq3 kq14 a true),(6,Root.mk yq3 kq14 b true)]
theorem qblg (D:DX)(n:Nat) (K:KT 49):∀ (m:Nat) (x0 x1:Int) (x2 x3:tq12) (x4:List Int),LF D n 49 pq1 m (qzs x0 x1 x2 x3 x4) K=qme D n (fun a b=>K (Ex.exit 0) (q41 a b)) m x0 x1 x2 x3 x4:=eL5 (fun F=>qy4 D n F (fun a b=>K (Ex.exit 0) (q41 a b))) (fun _ _ _ _ _ =>q7 ..) (fun _ _ _ _ _ _ =>by kernel_rfl) (fun _ _ _ _ _ _ =>rfl)
theorem qbhp (D:DX)(n:Nat) (x0) (x1) (x2) (x3) (x4):LF D n 49 pq1 n (qzs x0 x1 x2 x3 x4) (CF D n 49 [] pq1 (lF 49))=qxz D n x0 x1 x2 x3 x4 :=by rw[qblg];kernel_rfl
theorem qbqt (D:DX)(n:Nat) (a0:tq39) (a1:Int):rF D n 49 (a0,(a1,()))=q29 D n a0 a1:=by
 have h:rF D n 49 (a0,(a1,()))=q26 D n (fun x0 x1 x2 x3 x4=>LF D n 49 pq1 n (qzs x0 x1 x2 x3 x4) (CF D n 49 [] pq1 (lF 49))) a0 a1:=by kernel_rfl
 rw[h]
 simp only[qbhp]
 rfl

def q7r (D:DX)(n:Nat) (a0:tq39):Option tq30:=qd (qgc D a0.1) fun b↦some (((b.1.1,a0.2.1,()),()),())
def qxj (D:DX)(n:Nat) (a0:tq39):Option tq30:=q7r D n a0
theorem qbjf (D:DX)(n:Nat) (a0:tq39):rF D n 50 (a0,())=qxj D n a0:=by kernel_rfl

def q5a (D:DX)(n:Nat) (a0:List tq37):Option tq11:=qd (qe3 D a0) fun b↦some (((b.1.1,0,false,[],[],()),()),())
def qu5 (D:DX)(n:Nat) (a0:List tq37):Option tq11:=q5a D n a0
theorem qbih (D:DX)(n:Nat) (a0:List tq37):rF D n 51 (a0,())=qu5 D n a0:=by kernel_rfl

def qzl (D:DX)(n:Nat) (go:Int→Int→tq12→tq12→List Int→Option tq9) (K0:Int→tq12→tq12→Option tq9) (x0 x1:Int) (x2 x3:tq12) (x4:List Int):Option tq9:=br (decide (x1<(x4.length:Int))) (br (decide (0≤x1)&&decide (x1<(x4.length:Int))) (br (decide (x3.1.length+1≤qb8)) (go x0 (wrap .i64 (x1+1)) x2 (x3.1++[(List.getD x4 x1.toNat 0,0,0,())],x3.2) x4) none) none) (K0 x0 x2 x3)
def qmr (D:DX)(n:Nat) (K0:Int→tq12→tq12→Option tq9):Nat→Int→Int→tq12→tq12→(List Int)→Option tq9 | 0=>(fun x0 x1 x2 x3 x4=>none) | m+1=>(fun x0 x1 x2 x3 x4=>qzl D n (qmr D n K0 m) K0 x0 x1 x2 x3 x4)
def q5c (D:DX)(n:Nat) (a:Int) (d c:tq12):Option tq9:=qd (qbo D a 1 4) fun b↦br b.1.1 (br (decide (0≤a)&&decide (a≤a)&&decide (a≤(↑qb8:Int))) (qd (qqk D (c.1,List.replicate a.toNat (0,0,[],(0,[],()),()),())) fun b↦br (!b.1.1) (some ((([],[],()),false,()),())) (some (((c.1,List.replicate a.toNat (0,0,[],(0,[],()),()),()),true,()),()))) none) (qd (qqk D (c.1,c.2.1,())) fun b↦br (!b.1.1) (some ((([],[],()),false,()),())) (some (((c.1,c.2.1,()),true,()),())))
def qv0 (D:DX)(n:Nat):(Int)→(Int)→tq12→tq12→(List Int)→Option tq9:=(fun x0 x1 x2 x3 x4=>qmr D n (fun a b c=>q5c D n a b c) n x0 x1 x2 x3 x4)
def q11 (D:DX)(n:Nat) (lp0:Int→Int→tq12→tq12→List Int→Option tq9) (a0:tq39) (a1:Int):Option tq9:=qd (qyt D a0) fun b↦lp0 a1 0 ([],[],()) ([],[],()) b.1.1
def q3d (D:DX)(n:Nat) (a0:tq39) (a1:Int):Option tq9:=q11 D n (qv0 D n) a0 a1
def qyr (x0 x1:Int) (x2 x3:tq12) (x4:List Int):St:=stq 38 [(1,AV.val yq34 x0),(4,AV.addr 4 []),(6,AV.addr 6 []),(7,AV.brw 7 [] 0),(8,AV.val yq34 x1)] [(4,Root.mk yq3 kq14 x2 true),(6,Root.mk yq3 kq14 x3 true),(7,Root.mk yq30 kq37 x4 false)]
def q4y (a:Int) (b c:tq12):St:=stq 38 [(1,AV.val yq34 a),(4,AV.addr 4 []),(6,AV.addr 6 [])] [(4,Root.mk yq3 kq14 b true),(6,Root.mk yq3 kq14 c true)]
theorem qbjj (D:DX)(n:Nat) (K:KT 52):∀ (m:Nat) (x0 x1:Int) (x2 x3:tq12) (x4:List Int),LF D n 52 pq1 m (qyr x0 x1 x2 x3 x4) K=qmr D n (fun a b c=>K (Ex.exit 0) (q4y a b c)) m x0 x1 x2 x3 x4:=eL5 (fun F=>qzl D n F (fun a b c=>K (Ex.exit 0) (q4y a b c))) (fun _ _ _ _ _ =>q7 ..) (fun _ _ _ _ _ _ =>by kernel_rfl) (fun _ _ _ _ _ _ =>rfl)
theorem qbix (D:DX)(n:Nat) (x0) (x1) (x2) (x3) (x4):LF D n 52 pq1 n (qyr x0 x1 x2 x3 x4) (CF D n 52 [] pq1 (lF 52))=qv0 D n x0 x1 x2 x3 x4 :=by rw[qbjj];kernel_rfl
theorem qbqk (D:DX)(n:Nat) (a0:tq39) (a1:Int):rF D n 52 (a0,(a1,()))=q3d D n a0 a1:=by
 have h:rF D n 52 (a0,(a1,()))=q11 D n (fun x0 x1 x2 x3 x4=>LF D n 52 pq1 n (qyr x0 x1 x2 x3 x4) (CF D n 52 [] pq1 (lF 52))) a0 a1:=by kernel_rfl
 rw[h]
 simp only[qbix]
 rfl

def qbcb (D:DX)(n:Nat) (a0:tq39):Option tq30:=br (decide (0+a0.1.length≤qb8)) (some ((([]++a0.1,a0.2.1,()),()),())) none
def q18 (D:DX)(n:Nat) (a0:tq39):Option tq30:=qbcb D n a0
theorem qbqq (D:DX)(n:Nat) (a0:tq39):rF D n 53 (a0,())=q18 D n a0:=by kernel_rfl

def q6p (D:DX)(n:Nat) (a0:List tq37):Option tq11:=br (decide (0+a0.length≤qb8)) (some ((([]++a0,0,false,[],[],()),()),())) none
def quf (D:DX)(n:Nat) (a0:List tq37):Option tq11:=q6p D n a0
theorem qbiy (D:DX)(n:Nat) (a0:List tq37):rF D n 54 (a0,())=quf D n a0:=by kernel_rfl

def qto (D:DX)(n:Nat) (go:Int→tq5→Option tq41) (K0:Bool→Option tq41) (K1:Option tq41) (x0:Int) (x1:tq5):Option tq41:=br (decide (x0<(x1.2.1.length:Int))) (br (decide (0≤x0)&&decide (x0<(x1.2.1.length:Int))) (qd (qww D (List.getD x1.2.1 x0.toNat ([],0,false,[],[],())) (x1.2.1.length:Int)) fun b↦br (!b.1.1) (K0 false) (qd (qw1 D x1 x0) fun b↦br (!b.1.1) (K0 false) (go (wrap .i64 (x0+1)) x1))) none) K1
def qjl (D:DX)(n:Nat) (K0:Bool→Option tq41) (K1:Option tq41):Nat→Int→tq5→Option tq41 | 0=>(fun x0 x1=>none) | m+1=>(fun x0 x1=>qto D n (qjl D n K0 K1 m) K0 K1 x0 x1)
def qbcl (D:DX)(n:Nat) (a:Bool):Option tq41:=some ((a,()),())
def qbcu (D:DX)(n:Nat):Option tq41:=some ((true,()),())
def qqu (D:DX)(n:Nat):(Int)→tq5→Option tq41:=(fun x0 x1=>qjl D n (fun a=>qbcl D n a) (qbcu D n) n x0 x1)
def qux (D:DX)(n:Nat) (lp0:Int→tq5→Option tq41) (a0:tq5):Option tq41:=qd (qqk D a0.1) fun b↦br (bif !b.1.1 then true else (a0.1.2.1.length:Int) != (a0.2.1.length:Int)) (some ((false,()),())) (qd (qbo D a0.2.2.1 0 100000) fun b↦br (!b.1.1) (some ((false,()),())) (qd (qt6 D a0.2.2.2.2.2.1) fun b↦br (!b.1.1) (some ((false,()),())) (qd (q0h D a0) fun b↦br (!b.1.1) (some ((false,()),())) (lp0 0 a0))))
def qur (D:DX)(n:Nat) (a0:tq5):Option tq41:=qux D n (qqu D n) a0
def qs5 (x0:Int) (x1:tq5):St:=stq 58 [(1,AV.addr 1 []),(3,AV.val yq34 x0)] [(1,Root.mk yq0 Mk.no x1 true)]
def qye (a:Bool):St:=stq 58 [(2,AV.val Ty.bool a)] []
def qx7:St:=stq 58 [] []
theorem qbes (D:DX)(n:Nat) (K:KT 55):∀ (m:Nat) (x0:Int) (x1:tq5),LF D n 55 pq0 m (qs5 x0 x1) K=qjl D n (fun a=>K (Ex.ret) (qye a)) (K (Ex.exit 0) (qx7)) m x0 x1:=eL2 (fun F=>qto D n F (fun a=>K (Ex.ret) (qye a)) (K (Ex.exit 0) (qx7))) (fun _ _ =>q7 ..) (fun _ _ _ =>by kernel_rfl) (fun _ _ _ =>rfl)
theorem qbcv (D:DX)(n:Nat) (x0) (x1):LF D n 55 pq0 n (qs5 x0 x1) (CF D n 55 [] pq0 (lF 55))=qqu D n x0 x1 :=by rw[qbes];kernel_rfl
theorem qbia (D:DX)(n:Nat) (a0:tq5):rF D n 55 (a0,())=qur D n a0:=by
 have h:rF D n 55 (a0,())=qux D n (fun x0 x1=>LF D n 55 pq0 n (qs5 x0 x1) (CF D n 55 [] pq0 (lF 55))) a0:=by kernel_rfl
 rw[h]
 simp only[qbcv]
 rfl

def qpc (D:DX)(n:Nat) (go:List tq13→Int→Int→tq5→tq5→tq5→Option tq3) (K0:tq5→tq5→tq5→Option tq3) (x0:List tq13) (x1 x2:Int) (x3 x4 x5:tq5):Option tq3:=br (decide (x2<x1)) (br (decide (0≤x2)&&decide (x2<(x0.length:Int))) (qd (qhp D (List.getD x0 x2.toNat ([],0,false,[],[],()))) fun b↦br (decide (x5.2.1.length+1≤qb8)) (go x0 x1 (wrap .i64 (x2+1)) x3 x4 (x5.1,x5.2.1++[(b.1.1.1,b.1.1.2.1,b.1.1.2.2.1,b.1.1.2.2.2.1,b.1.1.2.2.2.2.1,())],x5.2.2)) none) none) (K0 x3 x4 x5)
def qhy (D:DX)(n:Nat) (K0:tq5→tq5→tq5→Option tq3):Nat→(List tq13)→Int→Int→tq5→tq5→tq5→Option tq3 | 0=>(fun x0 x1 x2 x3 x4 x5=>none) | m+1=>(fun x0 x1 x2 x3 x4 x5=>qpc D n (qhy D n K0 m) K0 x0 x1 x2 x3 x4 x5)
def qo7 (D:DX)(n:Nat) (go:List tq17→Int→Int→tq5→tq5→Option tq3) (K0:tq5→tq5→Option tq3) (d:List tq17) (e c:Int) (f a:tq5):Option tq3:=let y0:=List.getD d c.toNat (0,(0,0,0,()),0,0,0,(0,[],()),());br (decide (c<e)) (br (decide (0≤c)&&decide (c<(d.length:Int))) (qd (qif D y0.2.2.2.2.2.1) fun b↦br (decide (a.2.2.2.1.length+1≤qb8)) (go d e (wrap .i64 (c+1)) f (a.1,a.2.1,a.2.2.1,a.2.2.2.1++[(y0.1,y0.2.1,y0.2.2.1,y0.2.2.2.1,y0.2.2.2.2.1,(b.1.1.1,b.1.1.2.1,()),())],a.2.2.2.2)) none) none) (K0 f a)
def qh7 (D:DX)(n:Nat) (K0:tq5→tq5→Option tq3):Nat→(List tq17)→Int→Int→tq5→tq5→Option tq3 | 0=>(fun a b c d e=>none) | m+1=>(fun a b c d e=>qo7 D n (qh7 D n K0 m) K0 a b c d e)
def q94 (D:DX)(n:Nat) (b a:tq5):Option tq3:=some ((((a.1.1,a.1.2.1,()),a.2.1,a.2.2.1,a.2.2.2.1,a.2.2.2.2.1,(a.2.2.2.2.2.1.1,a.2.2.2.2.2.1.2),()),()),())
def qoc (D:DX)(n:Nat):(List tq17)→(Int)→(Int)→tq5→tq5→Option tq3:=(fun a d e f g=>qh7 D n (fun b c=>q94 D n b c) n a d e f g)
def qmt (D:DX)(n:Nat) (lp1:List tq17→Int→Int→tq5→tq5→Option tq3) (a b c:tq5):Option tq3:=lp1 a.2.2.2.1 (a.2.2.2.1.length:Int) 0 b c
def qnt (D:DX)(n:Nat):(List tq13)→(Int)→(Int)→tq5→tq5→tq5→Option tq3:=(fun x0 x1 x2 x3 x4 x5=>qhy D n (fun a b c=>qmt D n (qoc D n) a b c) n x0 x1 x2 x3 x4 x5)
def qqs (D:DX)(n:Nat) (lp0:List tq13→Int→Int→tq5→tq5→tq5→Option tq3) (a0:tq5):Option tq3:=qd (qj9 D a0.1) fun b↦qd (qgc D a0.2.2.2.2.1) fun b_1↦qd (qp8 D a0.2.2.2.2.2.1) fun b_2↦lp0 a0.2.1 (a0.2.1.length:Int) 0 a0 (([],[],()),[],0,[],[],([],0,()),()) ((b.1.1.1,b.1.1.2.1,()),[],a0.2.2.1,[],b_1.1.1,(b_2.1.1.1,b_2.1.1.2),())
def qrd (D:DX)(n:Nat) (a0:tq5):Option tq3:=qqs D n (qnt D n) a0
def qo5 (x0:List tq13) (x1 x2:Int) (x3 x4 x5:tq5):St:=stq 54 [(1,AV.addr 1 []),(2,AV.addr 2 []),(3,AV.addr 3 []),(21,AV.val yq4 x0),(22,AV.val yq34 x1),(23,AV.val yq34 x2)] [(1,Root.mk yq0 Mk.no x3 true),(2,Root.mk yq0 kq1 x4 true),(3,Root.mk yq0 kq2 x5 true)]
def qmo (a b c:tq5):St:=stq 54 [(1,AV.addr 1 []),(2,AV.addr 2 []),(3,AV.addr 3 [])] [(1,Root.mk yq0 Mk.no a true),(2,Root.mk yq0 kq1 b true),(3,Root.mk yq0 kq2 c true)]
def qo3 (a:List tq17) (b c:Int) (d e:tq5):St:=stq 54 [(2,AV.addr 2 []),(3,AV.addr 3 []),(36,AV.val yq6 a),(37,AV.val yq34 b),(38,AV.val yq34 c)] [(2,Root.mk yq0 kq1 d true),(3,Root.mk yq0 kq2 e true)]
def qvx (a b:tq5):St:=stq 54 [(2,AV.addr 2 []),(3,AV.addr 3 [])] [(2,Root.mk yq0 kq1 a true),(3,Root.mk yq0 kq2 b true)]
theorem qbbb (D:DX)(n:Nat) (K:KT 56):∀ (m:Nat) (x0:List tq13) (x1 x2:Int) (x3 x4 x5:tq5),LF D n 56 pq0 m (qo5 x0 x1 x2 x3 x4 x5) K=qhy D n (fun a b c=>K (Ex.exit 0) (qmo a b c)) m x0 x1 x2 x3 x4 x5:=eL6 (fun F=>qpc D n F (fun a b c=>K (Ex.exit 0) (qmo a b c))) (fun _ _ _ _ _ _ =>q7 ..) (fun _ _ _ _ _ _ _ =>by kernel_rfl) (fun _ _ _ _ _ _ _ =>rfl)
theorem qbbq (D:DX)(n:Nat) (K:KT 56):∀ (m:Nat) (c:List tq17) (d e:Int) (f g:tq5),LF D n 56 pq1 m (qo3 c d e f g) K=qh7 D n (fun a b=>K (Ex.exit 2) (qvx a b)) m c d e f g:=eL5 (fun F=>qo7 D n F (fun a b=>K (Ex.exit 2) (qvx a b))) (fun _ _ _ _ _ =>q7 ..) (fun _ _ _ _ _ _ =>by kernel_rfl) (fun _ _ _ _ _ _ =>rfl)
theorem q9f (D:DX)(n:Nat) (a:List tq17) (b c:Int) (d e:tq5):LF D n 56 pq1 n (qo3 a b c d e) (CF D n 56 [] pq1 (lF 56))=qoc D n a b c d e :=by rw[qbbq];kernel_rfl
theorem q83 (D:DX)(n:Nat) (a b c:tq5):(CF D n 56 [] pq0 (lF 56)) (Ex.exit 0) (qmo a b c)=qmt D n (fun d e f g h=>LF D n 56 pq1 n (qo3 d e f g h) (CF D n 56 [] pq1 (lF 56))) a b c:=by kernel_rfl
theorem q9q (D:DX)(n:Nat) (x0) (x1) (x2) (x3) (x4) (x5):LF D n 56 pq0 n (qo5 x0 x1 x2 x3 x4 x5) (CF D n 56 [] pq0 (lF 56))=qnt D n x0 x1 x2 x3 x4 x5:=by
 rw[qbbb]
 simp only[q83,q9f]
 rfl
theorem qbdu (D:DX)(n:Nat) (a0:tq5):rF D n 56 (a0,())=qrd D n a0:=by
 have h:rF D n 56 (a0,())=qqs D n (fun x0 x1 x2 x3 x4 x5=>LF D n 56 pq0 n (qo5 x0 x1 x2 x3 x4 x5) (CF D n 56 [] pq0 (lF 56))) a0:=by kernel_rfl
 rw[h]
 simp only[q9q]
 rfl

def q8t (D:DX)(n:Nat) (a0:tq5) (a1:Int):Option tq0:=let y0:Option tq0:=qd (qi9 D a0) fun b↦some ((((b.1.1.1.1,b.1.1.1.2.1,()),b.1.1.2.1,b.1.1.2.2.1,b.1.1.2.2.2.1,b.1.1.2.2.2.2.1,b.1.1.2.2.2.2.2),false,()),());qd (qgp D a0) fun b↦br (!b.1.1) y0 (qd (qbp D a1 0 (wrap .i64 ((a0.2.1.length:Int) - 1))) fun b↦br (!b.1.1) y0 (br (decide (0≤a1)&&decide (a1<(a0.2.1.length:Int))) (qd (q38 D (List.getD a0.2.1 a1.toNat ([],0,false,[],[],()))) fun b↦br (bif b.1.1 then true else decide (a0.2.2.1=100000)) y0 (qd (qi9 D a0) fun b↦br (decide (0≤a1)&&decide (a1<(b.1.1.2.1.length:Int))) (br (!(List.getD b.1.1.2.1 a1.toNat ([],0,false,[],[],())).2.2.1) (br (decide (0≤(List.getD b.1.1.2.1 a1.toNat ([],0,false,[],[],())).2.1)&&decide ((List.getD b.1.1.2.1 a1.toNat ([],0,false,[],[],())).2.1<((List.getD b.1.1.2.1 a1.toNat ([],0,false,[],[],())).1.length:Int))) (br (decide (b.1.1.2.2.2.1.length+1≤qb8)) (qd (qgp D ((b.1.1.1.1,b.1.1.1.2.1,()),List.set b.1.1.2.1 a1.toNat ((List.getD b.1.1.2.1 a1.toNat ([],0,false,[],[],())).1,(List.getD b.1.1.2.1 a1.toNat ([],0,false,[],[],())).2.1,true,(List.getD b.1.1.2.1 a1.toNat ([],0,false,[],[],())).2.2.2),wrap .i64 (b.1.1.2.2.1+1),b.1.1.2.2.2.1++[(a1,List.getD (List.getD b.1.1.2.1 a1.toNat ([],0,false,[],[],())).1 (Int.toNat (List.getD b.1.1.2.1 a1.toNat ([],0,false,[],[],())).2.1) (0,0,0,()),wrap .i64 (b.1.1.2.2.1+1),-1,-1,(0,[],()),())],b.1.1.2.2.2.2.1,b.1.1.2.2.2.2.2)) fun b_1↦let a:=List.getD b.1.1.2.1 a1.toNat ([],0,false,[],[],());br (!b_1.1.1) y0 (some ((((b.1.1.1.1,b.1.1.1.2.1,()),List.set b.1.1.2.1 a1.toNat (a.1,a.2.1,true,a.2.2.2),wrap .i64 (b.1.1.2.2.1+1),b.1.1.2.2.2.1++[(a1,List.getD a.1 (Int.toNat a.2.1) (0,0,0,()),wrap .i64 (b.1.1.2.2.1+1),-1,-1,(0,[],()),())],b.1.1.2.2.2.2.1,b.1.1.2.2.2.2.2),true,()),()))) none) none) (br (decide (((List.getD b.1.1.2.1 a1.toNat ([],0,false,[],[],())).2.2.2.2.1.length:Int)>0)) (qd (qm1 D ((b.1.1.1.1,b.1.1.1.2.1,()),b.1.1.2.1,wrap .i64 (b.1.1.2.2.1+1),b.1.1.2.2.2.1,b.1.1.2.2.2.2.1,b.1.1.2.2.2.2.2) a1) fun b↦qd (qgp D ((b.2.1.1.1,b.2.1.1.2.1,()),b.2.1.2.1,b.2.1.2.2.1,b.2.1.2.2.2.1,b.2.1.2.2.2.2.1,b.2.1.2.2.2.2.2)) fun b_1↦br (!b_1.1.1) y0 (some ((((b.2.1.1.1,b.2.1.1.2.1,()),b.2.1.2.1,b.2.1.2.2.1,b.2.1.2.2.2.1,b.2.1.2.2.2.2.1,b.2.1.2.2.2.2.2),true,()),()))) (qd (qpn D ((b.1.1.1.1,b.1.1.1.2.1,()),b.1.1.2.1,wrap .i64 (b.1.1.2.2.1+1),b.1.1.2.2.2.1,b.1.1.2.2.2.2.1,b.1.1.2.2.2.2.2) a1) fun b↦br (!b.1.1) y0 (qd (qgp D ((b.2.1.1.1,b.2.1.1.2.1,()),b.2.1.2.1,b.2.1.2.2.1,b.2.1.2.2.2.1,b.2.1.2.2.2.2.1,b.2.1.2.2.2.2.2)) fun b_1↦br (!b_1.1.1) y0 (some ((((b.2.1.1.1,b.2.1.1.2.1,()),b.2.1.2.1,b.2.1.2.2.1,b.2.1.2.2.2.1,b.2.1.2.2.2.2.1,b.2.1.2.2.2.2.2),true,()),())))))) none)) none))
def q0z (D:DX)(n:Nat) (a0:tq5) (a1:Int):Option tq0:=q8t D n a0 a1
theorem qbug (D:DX)(n:Nat) (a0:tq5) (a1:Int):rF D n 57 (a0,(a1,()))=q0z D n a0 a1:=by kernel_rfl

def qbus (D:DX)(n:Nat) (a0 a1 a2:Int):Option tq41:=some ((bif decide (a0≥a1) then decide (a0≤a2) else false,()),())
def qbha (D:DX)(n:Nat) (a0 a1 a2:Int):Option tq41:=qbus D n a0 a1 a2
theorem qbuu (D:DX)(n:Nat) (a0 a1 a2:Int):rF D n 58 (a0,(a1,(a2,())))=qbha D n a0 a1 a2:=by kernel_rfl




def q2s (D:DX)(n:Nat) (go:List tq37→Int→Int→tq12→Option tq41) (K0:Bool→Option tq41) (K1:Option tq41) (x0:List tq37) (x1 x2:Int) (x3:tq12):Option tq41:=let y0:=List.getD x0 x2.toNat (0,0,0,());let y1:=List.getD x3.2.1 (Int.toNat (wrap .i64 (y0.2.1 - 1))) (0,0,[],(0,[],()),());br (decide (x2<x1)) (br (decide (0≤x2)&&decide (x2<(x0.length:Int))) (qd (q1y D y0 (x3.2.1.length:Int)) fun b↦br (!b.1.1) (K0 false) (br (decide (y0.2.1=0)) (go x0 x1 (wrap .i64 (x2+1)) x3) (br (decide (0≤wrap .i64 (y0.2.1 - 1))&&decide (wrap .i64 (y0.2.1 - 1)<(x3.2.1.length:Int))) (qd (qzz D y1 x2) fun b↦br (bif !b.1.2.1 then true else y1.1 != y0.2.2.1) (K0 false) (go x0 x1 (wrap .i64 (x2+1)) x3)) none))) none) K1
def qom (D:DX)(n:Nat) (K0:Bool→Option tq41) (K1:Option tq41):Nat→(List tq37)→Int→Int→tq12→Option tq41 | 0=>(fun x0 x1 x2 x3=>none) | m+1=>(fun x0 x1 x2 x3=>q2s D n (qom D n K0 K1 m) K0 K1 x0 x1 x2 x3)
def q7x (D:DX)(n:Nat) (a:Bool):Option tq41:=some ((a,()),())
def q7m (D:DX)(n:Nat):Option tq41:=some ((true,()),())
def qzh (D:DX)(n:Nat):(List tq37)→(Int)→(Int)→tq12→Option tq41:=(fun x0 x1 x2 x3=>qom D n (fun a=>q7x D n a) (q7m D n) n x0 x1 x2 x3)
def q47 (D:DX)(n:Nat) (lp0:List tq37→Int→Int→tq12→Option tq41) (a0:tq12):Option tq41:=br ((a0.1.length:Int) != 20) (some ((false,()),())) (qd (qbp D (a0.2.1.length:Int) 1 4) fun b↦br (!b.1.1) (some ((false,()),())) (qd (qds D a0.2.1 (Clo.mk 110 [])) fun b↦br b.1.1 (some ((false,()),())) (lp0 a0.1 (a0.1.length:Int) 0 a0)))
def q6j (D:DX)(n:Nat) (a0:tq12):Option tq41:=q47 D n (qzh D n) a0
def q2y (x0:List tq37) (x1 x2:Int) (x3:tq12):St:=stq 64 [(1,AV.addr 1 []),(25,AV.val yq19 x0),(26,AV.val yq34 x1),(27,AV.val yq34 x2)] [(1,Root.mk yq3 Mk.no x3 true)]
def q7w (a:Bool):St:=stq 64 [(2,AV.val Ty.bool a)] []
def q7a:St:=stq 64 [] []
theorem qbme (D:DX)(n:Nat) (K:KT 63):∀ (m:Nat) (x0:List tq37) (x1 x2:Int) (x3:tq12),LF D n 63 pq0 m (q2y x0 x1 x2 x3) K=qom D n (fun a=>K (Ex.ret) (q7w a)) (K (Ex.exit 0) (q7a)) m x0 x1 x2 x3:=eL4 (fun F=>q2s D n F (fun a=>K (Ex.ret) (q7w a)) (K (Ex.exit 0) (q7a))) (fun _ _ _ _ =>q7 ..) (fun _ _ _ _ _ =>by kernel_rfl) (fun _ _ _ _ _ =>rfl)
theorem qbjk (D:DX)(n:Nat) (x0) (x1) (x2) (x3):LF D n 63 pq0 n (q2y x0 x1 x2 x3) (CF D n 63 [] pq0 (lF 63))=qzh D n x0 x1 x2 x3 :=by rw[qbme];kernel_rfl
theorem qbsn (D:DX)(n:Nat) (a0:tq12):rF D n 63 (a0,())=q6j D n a0:=by
 have h:rF D n 63 (a0,())=q47 D n (fun x0 x1 x2 x3=>LF D n 63 pq0 n (q2y x0 x1 x2 x3) (CF D n 63 [] pq0 (lF 63))) a0:=by kernel_rfl
 rw[h]
 simp only[qbjk]
 rfl

def qg2 (D:DX)(n:Nat) (a1:Clo) (a0:List tq37):Option tq41:=qd (qh8 D a0 a1) fun b↦some ((decide (b.1.1≥0),()),())
def qdz (D:DX)(n:Nat) (a0:List tq37) (a1:Clo):Option tq41:=qg2 D n a1 a0
theorem qm9 (D:DX)(n:Nat) (a0:List tq37) (a1:Clo):rF D n 64 (a0,(a1,()))=qdz D n a0 a1:=by kernel_rfl

def q0e (D:DX)(n:Nat) (go:List Int→Int→Int→tq39→Option tq41) (K0:Bool→tq39→Option tq41) (K1:tq39→Option tq41) (x0:List Int) (x1 x2:Int) (x3:tq39):Option tq41:=br (decide (x2<x1)) (br (decide (0≤x2)&&decide (x2<(x0.length:Int))) (br (List.getD x0 x2.toNat 0 != 0) (qd (qhn D (List.getD x0 x2.toNat 0)) fun b↦br (!b.1.1) (K0 false x3) (br (decide (0≤0)&&decide (0≤x2)&&decide (x2≤(x3.1.length:Int))) (qd (qgx D (List.drop (Int.toNat 0) (List.take x2.toNat x3.1)) (List.getD x0 x2.toNat 0)) fun b↦br b.1.1 (K0 false x3) (go x0 x1 (wrap .i64 (x2+1)) x3)) none)) (go x0 x1 (wrap .i64 (x2+1)) x3)) none) (K1 x3)
def qmz (D:DX)(n:Nat) (K0:Bool→tq39→Option tq41) (K1:tq39→Option tq41):Nat→(List Int)→Int→Int→tq39→Option tq41 | 0=>(fun x0 x1 x2 x3=>none) | m+1=>(fun x0 x1 x2 x3=>q0e D n (qmz D n K0 K1 m) K0 K1 x0 x1 x2 x3)
def q43 (D:DX)(n:Nat) (a:Bool) (b:tq39):Option tq41:=some ((a,()),())
def quh (D:DX)(n:Nat) (a:tq39):Option tq41:=br (decide ((a.1.length:Int)=4)) (qd (qbp D a.2.1 0 5) fun b↦some ((b.1.1,()),())) (some ((false,()),()))
def qwb (D:DX)(n:Nat):(List Int)→(Int)→(Int)→tq39→Option tq41:=(fun x0 x1 x2 x3=>qmz D n (fun a b=>q43 D n a b) (fun c=>quh D n c) n x0 x1 x2 x3)
def q24 (D:DX)(n:Nat) (lp0:List Int→Int→Int→tq39→Option tq41) (a0:tq39):Option tq41:=lp0 a0.1 (a0.1.length:Int) 0 a0
def q14 (D:DX)(n:Nat) (a0:tq39):Option tq41:=q24 D n (qwb D n) a0
def qzu (x0:List Int) (x1 x2:Int) (x3:tq39):St:=stq 38 [(1,AV.addr 1 []),(6,AV.val yq30 x0),(7,AV.val yq34 x1),(8,AV.val yq34 x2)] [(1,Root.mk yq25 Mk.no x3 true)]
def q62 (a:Bool) (b:tq39):St:=stq 38 [(1,AV.addr 1 []),(2,AV.val Ty.bool a)] [(1,Root.mk yq25 Mk.no b true)]
def q5e (a:tq39):St:=stq 38 [(1,AV.addr 1 [])] [(1,Root.mk yq25 Mk.no a true)]
theorem qbkr (D:DX)(n:Nat) (K:KT 66):∀ (m:Nat) (x0:List Int) (x1 x2:Int) (x3:tq39),LF D n 66 pq2 m (qzu x0 x1 x2 x3) K=qmz D n (fun a b=>K (Ex.ret) (q62 a b)) (fun c=>K (Ex.exit 0) (q5e c)) m x0 x1 x2 x3:=eL4 (fun F=>q0e D n F (fun a b=>K (Ex.ret) (q62 a b)) (fun c=>K (Ex.exit 0) (q5e c))) (fun _ _ _ _ =>q7 ..) (fun _ _ _ _ _ =>by kernel_rfl) (fun _ _ _ _ _ =>rfl)
theorem qbio (D:DX)(n:Nat) (x0) (x1) (x2) (x3):LF D n 66 pq2 n (qzu x0 x1 x2 x3) (CF D n 66 [] pq2 (lF 66))=qwb D n x0 x1 x2 x3 :=by rw[qbkr];kernel_rfl
theorem qbpm (D:DX)(n:Nat) (a0:tq39):rF D n 66 (a0,())=q14 D n a0:=by
 have h:rF D n 66 (a0,())=q24 D n (fun x0 x1 x2 x3=>LF D n 66 pq2 n (qzu x0 x1 x2 x3) (CF D n 66 [] pq2 (lF 66))) a0:=by kernel_rfl
 rw[h]
 simp only[qbio]
 rfl

def qky (D:DX)(n:Nat) (go:List Int→List Int→Int→Int→Option tq41) (K0:Bool→Option tq41) (K1:Option tq41) (x0 x1:List Int) (x2 x3:Int):Option tq41:=br (decide (x3<x2)) (br (decide (0≤x3)&&decide (x3<(x0.length:Int))) (br (decide (0≤x3)&&decide (x3<(x1.length:Int))) (br (List.getD x0 x3.toNat 0 != List.getD x1 x3.toNat 0) (K0 false) (go x0 x1 x2 (wrap .i64 (x3+1)))) none) none) K1
def qft (D:DX)(n:Nat) (K0:Bool→Option tq41) (K1:Option tq41):Nat→(List Int)→(List Int)→Int→Int→Option tq41 | 0=>(fun x0 x1 x2 x3=>none) | m+1=>(fun x0 x1 x2 x3=>qky D n (qft D n K0 K1 m) K0 K1 x0 x1 x2 x3)
def qp0 (D:DX)(n:Nat) (a:Bool):Option tq41:=some ((a,()),())
def qp2 (D:DX)(n:Nat):Option tq41:=some ((true,()),())
def qki (D:DX)(n:Nat):(List Int)→(List Int)→(Int)→(Int)→Option tq41:=(fun x0 x1 x2 x3=>qft D n (fun a=>qp0 D n a) (qp2 D n) n x0 x1 x2 x3)
def ql2 (D:DX)(n:Nat) (lp0:List Int→List Int→Int→Int→Option tq41) (a0 a1:List Int):Option tq41:=br ((a0.length:Int) != (a1.length:Int)) (some ((false,()),())) (lp0 a0 a1 (a0.length:Int) 0)
def qlz (D:DX)(n:Nat) (a0 a1:List Int):Option tq41:=ql2 D n (qki D n) a0 a1
def qkt (x0 x1:List Int) (x2 x3:Int):St:=stq 26 [(0,AV.val yq30 x0),(1,AV.val yq30 x1),(12,AV.val yq34 x2),(13,AV.val yq34 x3)] []
def qp3 (a:Bool):St:=stq 26 [(4,AV.val Ty.bool a)] []
def qp7:St:=stq 26 [] []
theorem q6w (D:DX)(n:Nat) (K:KT 67):∀ (m:Nat) (x0 x1:List Int) (x2 x3:Int),LF D n 67 pq0 m (qkt x0 x1 x2 x3) K=qft D n (fun a=>K (Ex.ret) (qp3 a)) (K (Ex.exit 0) (qp7)) m x0 x1 x2 x3:=eL4 (fun F=>qky D n F (fun a=>K (Ex.ret) (qp3 a)) (K (Ex.exit 0) (qp7))) (fun _ _ _ _ =>q7 ..) (fun _ _ _ _ _ =>by kernel_rfl) (fun _ _ _ _ _ =>rfl)
theorem q4h (D:DX)(n:Nat) (x0) (x1) (x2) (x3):LF D n 67 pq0 n (qkt x0 x1 x2 x3) (CF D n 67 [] pq0 (lF 67))=qki D n x0 x1 x2 x3 :=by rw[q6w];kernel_rfl
theorem q8m (D:DX)(n:Nat) (a0 a1:List Int):rF D n 67 (a0,(a1,()))=qlz D n a0 a1:=by
 have h:rF D n 67 (a0,(a1,()))=ql2 D n (fun x0 x1 x2 x3=>LF D n 67 pq0 n (qkt x0 x1 x2 x3) (CF D n 67 [] pq0 (lF 67))) a0 a1:=by kernel_rfl
 rw[h]
 simp only[q4h]
 rfl

def qxe (D:DX)(n:Nat) (go:List Int→Int→Int→tq39→List Int→Option tq36) (K0:tq39→List Int→Option tq36) (x0:List Int) (x1 x2:Int) (x3:tq39) (x4:List Int):Option tq36:=let y0:=wrap .i64 (x2+1);let y1:=List.getD x0 x2.toNat 0;br (decide (x2<x1)) (br (decide (0≤x2)&&decide (x2<(x0.length:Int))) (br (decide (y1=0)) (go x0 x1 y0 x3 x4) (qd (qdj D y1) fun b↦br (decide (0≤b.1.1)&&decide (b.1.1<(x4.length:Int))) (qd (qc3 D y1) fun b_1↦qd (qdi D b_1.1.1) fun b_2↦br (decide (0≤b_2.1.1)&&decide (b_2.1.1<((List.set x4 b.1.1.toNat y0).length:Int))) (br (decide (0≤b_2.1.1)&&decide (b_2.1.1<((List.set x4 b.1.1.toNat y0).length:Int))) (br (decide (x2<wrap .i64 (x3.2.1 - 1))) (qd (qej D y1) fun b_3↦let a:=List.set (List.set x4 b.1.1.toNat y0) b_2.1.1.toNat (wrap .i64 (List.getD (List.set x4 b.1.1.toNat y0) b_2.1.1.toNat 0+1));br (decide (0≤b_3.1.1)&&decide (b_3.1.1<(a.length:Int))) (go x0 x1 y0 x3 (List.set a b_3.1.1.toNat y0)) none) (go x0 x1 y0 x3 (List.set (List.set x4 b.1.1.toNat y0) b_2.1.1.toNat (wrap .i64 (List.getD (List.set x4 b.1.1.toNat y0) b_2.1.1.toNat 0+1))))) none) none) none)) none) (K0 x3 x4)
def qlf (D:DX)(n:Nat) (K0:tq39→List Int→Option tq36):Nat→(List Int)→Int→Int→tq39→(List Int)→Option tq36 | 0=>(fun x0 x1 x2 x3 x4=>none) | m+1=>(fun x0 x1 x2 x3 x4=>qxe D n (qlf D n K0 m) K0 x0 x1 x2 x3 x4)
def qsj (D:DX)(n:Nat) (c:tq39) (a:List Int):Option tq36:=qd (qcp D) fun b↦br (decide (0≤b.1.1)&&decide (b.1.1<(a.length:Int))) (some ((List.set a b.1.1.toNat c.2.1,()),())) none
def qu9 (D:DX)(n:Nat):(List Int)→(Int)→(Int)→tq39→(List Int)→Option tq36:=(fun x0 x1 x2 x3 x4=>qlf D n (fun a b=>qsj D n a b) n x0 x1 x2 x3 x4)
def qy0 (D:DX)(n:Nat) (lp0:List Int→Int→Int→tq39→List Int→Option tq36) (a0:tq39):Option tq36:=qd (qt9 D a0) fun b↦br (!b.1.1) (some (([],()),())) (br (decide (0<a0.1.length)&&decide (0<(List.replicate (Int.toNat 20) 0).length)) (lp0 a0.1 (a0.1.length:Int) 0 a0 (qoq yq34 (List.replicate (Int.toNat 20) 0) a0.1)) (lp0 a0.1 (a0.1.length:Int) 0 a0 (List.replicate (Int.toNat 20) 0)))
def qyf (D:DX)(n:Nat) (a0:tq39):Option tq36:=qy0 D n (qu9 D n) a0
def qwd (x0:List Int) (x1 x2:Int) (x3:tq39) (x4:List Int):St:=stq 56 [(1,AV.addr 1 []),(3,AV.brw 3 [] 0),(15,AV.val yq30 x0),(16,AV.val yq34 x1),(17,AV.val yq34 x2)] [(1,Root.mk yq25 Mk.no x3 true),(3,Root.mk yq30 kq37 x4 false)]
def q3t (a:tq39) (b:List Int):St:=stq 56 [(1,AV.addr 1 []),(3,AV.brw 3 [] 0)] [(1,Root.mk yq25 Mk.no a true),(3,Root.mk yq30 kq37 b false)]
theorem qbiq (D:DX)(n:Nat) (K:KT 68):∀ (m:Nat) (x0:List Int) (x1 x2:Int) (x3:tq39) (x4:List Int),LF D n 68 pq3 m (qwd x0 x1 x2 x3 x4) K=qlf D n (fun a b=>K (Ex.exit 0) (q3t a b)) m x0 x1 x2 x3 x4:=eL5 (fun F=>qxe D n F (fun a b=>K (Ex.exit 0) (q3t a b))) (fun _ _ _ _ _ =>q7 ..) (fun _ _ _ _ _ _ =>by kernel_rfl) (fun _ _ _ _ _ _ =>rfl)
theorem qbgh (D:DX)(n:Nat) (x0) (x1) (x2) (x3) (x4):LF D n 68 pq3 n (qwd x0 x1 x2 x3 x4) (CF D n 68 [] pq3 (lF 68))=qu9 D n x0 x1 x2 x3 x4 :=by rw[qbiq];kernel_rfl
theorem qblp (D:DX)(n:Nat) (a0:tq39):rF D n 68 (a0,())=qyf D n a0:=by
 have h:rF D n 68 (a0,())=qy0 D n (fun x0 x1 x2 x3 x4=>LF D n 68 pq3 n (qwd x0 x1 x2 x3 x4) (CF D n 68 [] pq3 (lF 68))) a0:=by kernel_rfl
 rw[h]
 simp only[qbgh]
 rfl

def qlu (D:DX)(n:Nat) (a0:List Int):Option tq36:=br (decide (Int.toNat (a0.length:Int)=0)) (both (some (([],()),())) (br (decide (0+a0.length≤qb8)) (some (([]++a0,()),())) none)) (br (decide (0+a0.length≤qb8)) (some (([]++a0,()),())) none)
def qip (D:DX)(n:Nat) (a0:List Int):Option tq36:=qlu D n a0
theorem q8h (D:DX)(n:Nat) (a0:List Int):rF D n 69 (a0,())=qip D n a0:=by kernel_rfl

def qblu (D:DX)(n:Nat):Option tq42:=some ((13,()),())
def q81 (D:DX)(n:Nat):Option tq42:=qblu D n
theorem qbl6 (D:DX)(n:Nat):rF D n 70 ()=q81 D n:=by kernel_rfl


def q96 (D:DX)(n:Nat) (a0:Int):Option tq42:=qd (qhn D a0) fun b↦qd (qk4 D b.1.1 (wrap .i64 (3+a0))) fun b↦some ((b.1.1,()),())
def qzo (D:DX)(n:Nat) (a0:Int):Option tq42:=q96 D n a0
theorem qbnr (D:DX)(n:Nat) (a0:Int):rF D n 73 (a0,())=qzo D n a0:=by kernel_rfl

def qkv (D:DX)(n:Nat) (go:List Int→Int→Int→Int→Option tq42) (K0:Int→Option tq42) (K1:Option tq42) (x0:List Int) (x1 x2 x3:Int):Option tq42:=br (decide (x3<x2)) (br (decide (0≤x3)&&decide (x3<(x0.length:Int))) (br (decide (x1=List.getD x0 x3.toNat 0)) (K0 x3) (go x0 x1 x2 (wrap .i64 (x3+1)))) none) K1
def qfs (D:DX)(n:Nat) (K0:Int→Option tq42) (K1:Option tq42):Nat→(List Int)→Int→Int→Int→Option tq42 | 0=>(fun x0 x1 x2 x3=>none) | m+1=>(fun x0 x1 x2 x3=>qkv D n (qfs D n K0 K1 m) K0 K1 x0 x1 x2 x3)
def qp6 (D:DX)(n:Nat) (a:Int):Option tq42:=some ((a,()),())
def qqa (D:DX)(n:Nat):Option tq42:=some ((-1,()),())
def qkk (D:DX)(n:Nat):(List Int)→(Int)→(Int)→(Int)→Option tq42:=(fun x0 x1 x2 x3=>qfs D n (fun a=>qp6 D n a) (qqa D n) n x0 x1 x2 x3)
def qly (D:DX)(n:Nat) (lp0:List Int→Int→Int→Int→Option tq42) (a0:List Int) (a1:Int):Option tq42:=lp0 a0 a1 (a0.length:Int) 0
def qlt (D:DX)(n:Nat) (a0:List Int) (a1:Int):Option tq42:=qly D n (qkk D n) a0 a1
def qkw (x0:List Int) (x1 x2 x3:Int):St:=stq 19 [(0,AV.val yq30 x0),(1,AV.val yq34 x1),(7,AV.val yq34 x2),(8,AV.val yq34 x3)] []
def qp5 (a:Int):St:=stq 19 [(4,AV.val yq34 a)] []
def qp1:St:=stq 19 [] []
theorem q5r (D:DX)(n:Nat) (K:KT 74):∀ (m:Nat) (x0:List Int) (x1 x2 x3:Int),LF D n 74 pq2 m (qkw x0 x1 x2 x3) K=qfs D n (fun a=>K (Ex.ret) (qp5 a)) (K (Ex.exit 0) (qp1)) m x0 x1 x2 x3:=eL4 (fun F=>qkv D n F (fun a=>K (Ex.ret) (qp5 a)) (K (Ex.exit 0) (qp1))) (fun _ _ _ _ =>q7 ..) (fun _ _ _ _ _ =>by kernel_rfl) (fun _ _ _ _ _ =>rfl)
theorem q4d (D:DX)(n:Nat) (x0) (x1) (x2) (x3):LF D n 74 pq2 n (qkw x0 x1 x2 x3) (CF D n 74 [] pq2 (lF 74))=qkk D n x0 x1 x2 x3 :=by rw[q5r];kernel_rfl
theorem q8d (D:DX)(n:Nat) (a0:List Int) (a1:Int):rF D n 74 (a0,(a1,()))=qlt D n a0 a1:=by
 have h:rF D n 74 (a0,(a1,()))=qly D n (fun x0 x1 x2 x3=>LF D n 74 pq2 n (qkw x0 x1 x2 x3) (CF D n 74 [] pq2 (lF 74))) a0 a1:=by kernel_rfl
 rw[h]
 simp only[q4d]
 rfl

def qbqr (D:DX)(n:Nat) (a0:Bool) (a1:Int):Option tq42:=br (!a0) (some ((-1,()),())) (some ((a1,()),()))
def qbb4 (D:DX)(n:Nat) (a0:Bool) (a1:Int):Option tq42:=qbqr D n a0 a1
theorem qbpq (D:DX)(n:Nat) (a0:Bool) (a1:Int):rF D n 75 (a0,(a1,()))=qbb4 D n a0 a1:=by kernel_rfl

def qbep (D:DX)(n:Nat) (a0:Int):Option tq41:=qd (qbp D a0 1 6) fun b↦some ((b.1.1,()),())
def q5l (D:DX)(n:Nat) (a0:Int):Option tq41:=qbep D n a0
theorem qbs6 (D:DX)(n:Nat) (a0:Int):rF D n 76 (a0,())=q5l D n a0:=by kernel_rfl

def q9z (D:DX)(n:Nat) (a0:Int):Option tq42:=qd (qhn D a0) fun b↦br (!b.1.1) (some ((-1,()),())) (some ((Int.tmod a0 3,()),()))
def q0c (D:DX)(n:Nat) (a0:Int):Option tq42:=q9z D n a0
theorem qbm5 (D:DX)(n:Nat) (a0:Int):rF D n 77 (a0,())=q0c D n a0:=by kernel_rfl


def q09 (D:DX)(n:Nat) (a0:tq17) (a1:Int) (a2:tq5):Option tq41:=br (decide (a1 = -1)) (some ((true,()),())) (qd (qbp D a1 a0.2.2.1 a2.2.2.1) fun b↦some ((b.1.1,()),()))
def qrs (D:DX)(n:Nat) (a0:tq17) (a1:Int) (a2:tq5):Option tq41:=q09 D n a0 a1 a2
theorem qbdk (D:DX)(n:Nat) (a0:tq17) (a1:Int) (a2:tq5):rF D n 79 (a0,(a1,(a2,())))=qrs D n a0 a1 a2:=by kernel_rfl

def qbhh (D:DX)(n:Nat) (a0:tq37):Option tq41:=let y3:Option tq41:=qd (qhn D a0.2.2.1) fun b↦some ((b.1.1,()),());let y6:Option tq41:=br (decide (a0.2.1=0)) y3 (some ((false,()),()));let y1:Option tq41:=br (decide (a0.1=6)) (qd (qry D a0.2.1) fun b↦some ((bif b.1.1 then decide (a0.2.2.1=0) else false,()),())) (br (decide (a0.1=7)) (br (decide (a0.1=7)) (some ((bif decide (a0.2.1=0) then decide (a0.2.2.1=0) else false,()),())) (some ((false,()),()))) (br (decide (a0.1=8)) (br (decide (a0.1=8)) (some ((bif decide (a0.2.1=0) then decide (a0.2.2.1=0) else false,()),())) (some ((false,()),()))) (br (decide (a0.1=9)) (some ((bif decide (a0.2.1=0) then decide (a0.2.2.1=0) else false,()),())) (some ((false,()),())))));let y0:Option tq41:=br (decide (a0.1=5)) (br (decide (a0.1=5)) y6 y1) (br (decide (a0.1=10)) y6 y1);let y2:Option tq41:=qd (qqx D a0.2.1) fun b↦some ((bif b.1.1 then decide (a0.2.2.1=0) else false,()),());let y4:Option tq41:=br (decide (a0.1=3)) (br (decide (a0.1=3)) y2 y0) (br (decide (a0.1=4)) y2 y0);let y5:Option tq41:=qd (qqx D a0.2.1) fun b↦br b.1.1 y3 (some ((false,()),()));br (decide (a0.1=1)) (br (decide (a0.1=1)) y5 y4) (br (decide (a0.1=2)) y5 y4)
def q8q (D:DX)(n:Nat) (a0:tq37):Option tq41:=qbhh D n a0
theorem qbuk (D:DX)(n:Nat) (a0:tq37):rF D n 80 (a0,())=q8q D n a0:=by kernel_rfl

def q7q (D:DX)(n:Nat) (a0:tq13) (a1:Int):Option tq41:=let y0:Option tq41:=qd (qcy D a0.2.2.2.1 (Clo.mk 123 [])) fun b↦br b.1.1 (some ((false,()),())) (qd (qcx D a0.2.2.2.2.1 (Clo.mk 127 [CapV.rptr yq34 a1])) fun b↦some ((!b.1.1,()),()));br (decide ((a0.1.length:Int)>8)) (some ((false,()),())) (qd (qe7 D a0.1 (Clo.mk 121 [])) fun b↦br b.1.1 (some ((false,()),())) (qd (qbp D a0.2.1 0 (a0.1.length:Int)) fun b↦br (bif bif bif !b.1.1 then true else bif a0.2.2.1 then decide (a0.2.1=(a0.1.length:Int)) else false then true else decide ((a0.2.2.2.1.length:Int)>12) then true else decide ((a0.2.2.2.2.1.length:Int)>2)) (some ((false,()),())) (br (!a0.2.2.1) (br (decide (wrap .i64 ((a0.2.2.2.1.length:Int)+(a0.2.2.2.2.1.length:Int))>0)) (some ((false,()),())) y0) y0)))
def qxh (D:DX)(n:Nat) (a0:tq13) (a1:Int):Option tq41:=q7q D n a0 a1
theorem qbke (D:DX)(n:Nat) (a0:tq13) (a1:Int):rF D n 81 (a0,(a1,()))=qxh D n a0 a1:=by kernel_rfl

def qws (D:DX)(n:Nat) (go:Int→Int→Int→Int→List tq17→Int→Int→tq5→tq13→Option tq41) (K0:Int→Int→Int→tq5→tq13→Option tq41) (x0 x1 x2 x3:Int) (x4:List tq17) (x5 x6:Int) (x7:tq5) (x8:tq13):Option tq41:=br (decide (x6<x5)) (br (decide (0≤x6)&&decide (x6<(x4.length:Int))) (br ((List.getD x4 x6.toNat (0,(0,0,0,()),0,0,0,(0,[],()),())).1 != x0) (go x0 x1 x2 x3 x4 x5 (wrap .i64 (x6+1)) x7 x8) (br (decide ((List.getD x4 x6.toNat (0,(0,0,0,()),0,0,0,(0,[],()),())).2.2.2.2.1≥0)) (go x0 x6 (wrap .i64 (x2+1)) x3 x4 x5 (wrap .i64 (x6+1)) x7 x8) (go x0 x6 x2 (wrap .i64 (x3+1)) x4 x5 (wrap .i64 (x6+1)) x7 x8))) none) (K0 x1 x2 x3 x7 x8)
def qll (D:DX)(n:Nat) (K0:Int→Int→Int→tq5→tq13→Option tq41):Nat→Int→Int→Int→Int→(List tq17)→Int→Int→tq5→tq13→Option tq41 | 0=>(fun x0 x1 x2 x3 x4 x5 x6 x7 x8=>none) | m+1=>(fun x0 x1 x2 x3 x4 x5 x6 x7 x8=>qws D n (qll D n K0 m) K0 x0 x1 x2 x3 x4 x5 x6 x7 x8)
def qsn (D:DX)(n:Nat) (b e d:Int) (c:tq5) (a:tq13):Option tq41:=let y0:=List.getD c.2.2.2.1 b.toNat (0,(0,0,0,()),0,0,0,(0,[],()),());br (e != a.2.1) (some ((false,()),())) (br (!a.2.2.1) (some ((decide (d=0),()),())) (br (bif decide (b≥0) then decide (d=1) else false) (br (decide (0≤b)&&decide (b<(c.2.2.2.1.length:Int))) (br (decide (y0.2.2.2.2.1 = -1)) (br (decide (0≤b)&&decide (b<(c.2.2.2.1.length:Int))) (br (decide (0≤a.2.1)&&decide (a.2.1<(a.1.length:Int))) (some ((qjw yq21 y0.2.1 (List.getD a.1 a.2.1.toNat (0,0,0,())),()),())) none) none) (some ((false,()),()))) none) (some ((false,()),()))))
def quk (D:DX)(n:Nat):(Int)→(Int)→(Int)→(Int)→(List tq17)→(Int)→(Int)→tq5→tq13→Option tq41:=(fun x0 x1 x2 x3 x4 x5 x6 x7 x8=>qll D n (fun a b c d e=>qsn D n a b c d e) n x0 x1 x2 x3 x4 x5 x6 x7 x8)
def qzi (D:DX)(n:Nat) (lp0:Int→Int→Int→Int→List tq17→Int→Int→tq5→tq13→Option tq41) (a0:tq5) (a1:Int):Option tq41:=br (decide (0≤a1)&&decide (a1<(a0.2.1.length:Int))) (lp0 a1 (-1) 0 0 a0.2.2.2.1 (a0.2.2.2.1.length:Int) 0 a0 (List.getD a0.2.1 a1.toNat ([],0,false,[],[],()))) none
def qy6 (D:DX)(n:Nat) (a0:tq5) (a1:Int):Option tq41:=qzi D n (quk D n) a0 a1
def qwx (x0 x1 x2 x3:Int) (x4:List tq17) (x5 x6:Int) (x7:tq5) (x8:tq13):St:=stq 76 [(1,AV.val yq34 x0),(2,AV.addr 2 []),(5,AV.addr 5 []),(6,AV.val yq34 x1),(7,AV.val yq34 x2),(8,AV.val yq34 x3),(17,AV.val yq6 x4),(18,AV.val yq34 x5),(19,AV.val yq34 x6)] [(2,Root.mk yq0 Mk.no x7 true),(5,Root.mk yq5 Mk.no x8 true)]
def q3n (a b c:Int) (d:tq5) (e:tq13):St:=stq 76 [(2,AV.addr 2 []),(5,AV.addr 5 []),(6,AV.val yq34 a),(7,AV.val yq34 b),(8,AV.val yq34 c)] [(2,Root.mk yq0 Mk.no d true),(5,Root.mk yq5 Mk.no e true)]
theorem qbin (D:DX)(n:Nat) (K:KT 82):∀ (m:Nat) (x0 x1 x2 x3:Int) (x4:List tq17) (x5 x6:Int) (x7:tq5) (x8:tq13),LF D n 82 pq8 m (qwx x0 x1 x2 x3 x4 x5 x6 x7 x8) K=qll D n (fun a b c d e=>K (Ex.exit 0) (q3n a b c d e)) m x0 x1 x2 x3 x4 x5 x6 x7 x8:=eL9 (fun F=>qws D n F (fun a b c d e=>K (Ex.exit 0) (q3n a b c d e))) (fun _ _ _ _ _ _ _ _ _ =>q7 ..) (fun _ _ _ _ _ _ _ _ _ _ =>by kernel_rfl) (fun _ _ _ _ _ _ _ _ _ _ =>rfl)
theorem qbgb (D:DX)(n:Nat) (x0) (x1) (x2) (x3) (x4) (x5) (x6) (x7) (x8):LF D n 82 pq8 n (qwx x0 x1 x2 x3 x4 x5 x6 x7 x8) (CF D n 82 [] pq8 (lF 82))=quk D n x0 x1 x2 x3 x4 x5 x6 x7 x8 :=by rw[qbin];kernel_rfl
theorem qbly (D:DX)(n:Nat) (a0:tq5) (a1:Int):rF D n 82 (a0,(a1,()))=qy6 D n a0 a1:=by
 have h:rF D n 82 (a0,(a1,()))=qzi D n (fun x0 x1 x2 x3 x4 x5 x6 x7 x8=>LF D n 82 pq8 n (qwx x0 x1 x2 x3 x4 x5 x6 x7 x8) (CF D n 82 [] pq8 (lF 82))) a0 a1:=by kernel_rfl
 rw[h]
 simp only[qbgb]
 rfl

def qwu (D:DX)(n:Nat) (go:Int→List tq17→Int→Int→tq5→Option tq41) (K0:Int→tq5→Option tq41) (x0:Int) (x1:List tq17) (x2 x3:Int) (x4:tq5):Option tq41:=br (decide (x3<x2)) (br (decide (0≤x3)&&decide (x3<(x1.length:Int))) (br (decide ((List.getD x1 x3.toNat (0,(0,0,0,()),0,0,0,(0,[],()),())).2.2.2.1≥0)) (go (wrap .i64 (x0+1)) x1 x2 (wrap .i64 (x3+1)) x4) (go x0 x1 x2 (wrap .i64 (x3+1)) x4)) none) (K0 x0 x4)
def qlm (D:DX)(n:Nat) (K0:Int→tq5→Option tq41):Nat→Int→(List tq17)→Int→Int→tq5→Option tq41 | 0=>(fun x0 x1 x2 x3 x4=>none) | m+1=>(fun x0 x1 x2 x3 x4=>qwu D n (qlm D n K0 m) K0 x0 x1 x2 x3 x4)
def qxi (D:DX)(n:Nat) (go:Int→List Int→Int→Int→tq5→Option tq41) (K0:Bool→Int→tq5→Option tq41) (K1:Int→tq5→Option tq41) (d:Int) (e:List Int) (f c:Int) (a:tq5):Option tq41:=let y2:=List.getD e c.toNat 0;let y0:=List.getD a.2.2.2.1 (Int.toNat y2) (0,(0,0,0,()),0,0,0,(0,[],()),());let y1:=Int.toNat (wrap .i64 (c - 1));br (decide (c<f)) (br (decide (0≤c)&&decide (c<(e.length:Int))) (qd (qbp D y2 0 (wrap .i64 ((a.2.2.2.1.length:Int) - 1))) fun b↦br (!b.1.1) (K0 false d a) (br (decide (0≤y2)&&decide (y2<(a.2.2.2.1.length:Int))) (br (decide (y0.2.2.2.1<0)) (K0 false d a) (br (decide (0≤0)&&decide (0≤c)&&decide (c≤(a.2.2.2.2.1.length:Int))) (qd (qgx D (List.drop (Int.toNat 0) (List.take c.toNat a.2.2.2.2.1)) y2) fun b↦br b.1.1 (K0 false d a) (br (decide (c>0)) (br (decide (0≤wrap .i64 (c - 1))&&decide (wrap .i64 (c - 1)<(a.2.2.2.2.1.length:Int))) (br (decide (0≤List.getD a.2.2.2.2.1 y1 0)&&decide (List.getD a.2.2.2.2.1 y1 0<(a.2.2.2.1.length:Int))) (br (decide (0≤y2)&&decide (y2<(a.2.2.2.1.length:Int))) (br (decide ((List.getD a.2.2.2.1 (Int.toNat (List.getD a.2.2.2.2.1 y1 0)) (0,(0,0,0,()),0,0,0,(0,[],()),())).2.2.2.1>y0.2.2.2.1)) (K0 false d a) (go d e f (wrap .i64 (c+1)) a)) none) none) none) (go d e f (wrap .i64 (c+1)) a))) none)) none)) none) (K1 d a)
def qla (D:DX)(n:Nat) (K0:Bool→Int→tq5→Option tq41) (K1:Int→tq5→Option tq41):Nat→Int→(List Int)→Int→Int→tq5→Option tq41 | 0=>(fun a b c d e=>none) | m+1=>(fun a b c d e=>qxi D n (qla D n K0 K1 m) K0 K1 a b c d e)
def qbgd (D:DX)(n:Nat) (a:Bool) (b:Int) (c:tq5):Option tq41:=some ((a,()),())
def q30 (D:DX)(n:Nat) (a:Int) (b:tq5):Option tq41:=some ((decide (a=(b.2.2.2.2.1.length:Int)),()),())
def qub (D:DX)(n:Nat):(Int)→(List Int)→(Int)→(Int)→tq5→Option tq41:=(fun a b h i j=>qla D n (fun c d e=>qbgd D n c d e) (fun f g=>q30 D n f g) n a b h i j)
def qsz (D:DX)(n:Nat) (lp1:Int→List Int→Int→Int→tq5→Option tq41) (b:Int) (a:tq5):Option tq41:=lp1 b a.2.2.2.2.1 (a.2.2.2.2.1.length:Int) 0 a
def qud (D:DX)(n:Nat):(Int)→(List tq17)→(Int)→(Int)→tq5→Option tq41:=(fun x0 x1 x2 x3 x4=>qlm D n (fun a b=>qsz D n (qub D n) a b) n x0 x1 x2 x3 x4)
def qz9 (D:DX)(n:Nat) (lp0:Int→List tq17→Int→Int→tq5→Option tq41) (a0:tq5):Option tq41:=lp0 0 a0.2.2.2.1 (a0.2.2.2.1.length:Int) 0 a0
def qyj (D:DX)(n:Nat) (a0:tq5):Option tq41:=qz9 D n (qud D n) a0
def qv1 (x0:Int) (x1:List tq17) (x2 x3:Int) (x4:tq5):St:=stq 83 [(1,AV.addr 1 []),(3,AV.val yq34 x0),(9,AV.val yq6 x1),(10,AV.val yq34 x2),(11,AV.val yq34 x3)] [(1,Root.mk yq0 Mk.no x4 true)]
def qs7 (a:Int) (b:tq5):St:=stq 83 [(1,AV.addr 1 []),(3,AV.val yq34 a)] [(1,Root.mk yq0 Mk.no b true)]
def qwy (a:Int) (b:List Int) (c d:Int) (e:tq5):St:=stq 83 [(1,AV.addr 1 []),(3,AV.val yq34 a),(22,AV.val yq30 b),(23,AV.val yq34 c),(24,AV.val yq34 d)] [(1,Root.mk yq0 Mk.no e true)]
def q34 (a:Bool) (b:Int) (c:tq5):St:=stq 83 [(1,AV.addr 1 []),(2,AV.val Ty.bool a),(3,AV.val yq34 b)] [(1,Root.mk yq0 Mk.no c true)]
def q3q (a:Int) (b:tq5):St:=stq 83 [(1,AV.addr 1 []),(3,AV.val yq34 a)] [(1,Root.mk yq0 Mk.no b true)]
theorem qbi5 (D:DX)(n:Nat) (K:KT 83):∀ (m:Nat) (x0:Int) (x1:List tq17) (x2 x3:Int) (x4:tq5),LF D n 83 pq0 m (qv1 x0 x1 x2 x3 x4) K=qlm D n (fun a b=>K (Ex.exit 0) (qs7 a b)) m x0 x1 x2 x3 x4:=eL5 (fun F=>qwu D n F (fun a b=>K (Ex.exit 0) (qs7 a b))) (fun _ _ _ _ _ =>q7 ..) (fun _ _ _ _ _ _ =>by kernel_rfl) (fun _ _ _ _ _ _ =>rfl)
theorem qbid (D:DX)(n:Nat) (K:KT 83):∀ (m:Nat) (f:Int) (g:List Int) (h i:Int) (j:tq5),LF D n 83 pq1 m (qwy f g h i j) K=qla D n (fun a b c=>K (Ex.ret) (q34 a b c)) (fun d e=>K (Ex.exit 2) (q3q d e)) m f g h i j:=eL5 (fun F=>qxi D n F (fun a b c=>K (Ex.ret) (q34 a b c)) (fun d e=>K (Ex.exit 2) (q3q d e))) (fun _ _ _ _ _ =>q7 ..) (fun _ _ _ _ _ _ =>by kernel_rfl) (fun _ _ _ _ _ _ =>rfl)
theorem qbf6 (D:DX)(n:Nat) (a:Int) (b:List Int) (c d:Int) (e:tq5):LF D n 83 pq1 n (qwy a b c d e) (CF D n 83 [] pq1 (lF 83))=qub D n a b c d e :=by rw[qbid];kernel_rfl
theorem qbfz (D:DX)(n:Nat) (a:Int) (b:tq5):(CF D n 83 [] pq0 (lF 83)) (Ex.exit 0) (qs7 a b)=qsz D n (fun c d e f g=>LF D n 83 pq1 n (qwy c d e f g) (CF D n 83 [] pq1 (lF 83))) a b:=by kernel_rfl
theorem qbgk (D:DX)(n:Nat) (x0) (x1) (x2) (x3) (x4):LF D n 83 pq0 n (qv1 x0 x1 x2 x3 x4) (CF D n 83 [] pq0 (lF 83))=qud D n x0 x1 x2 x3 x4:=by
 rw[qbi5]
 simp only[qbfz,qbf6]
 rfl
theorem qbnn (D:DX)(n:Nat) (a0:tq5):rF D n 83 (a0,())=qyj D n a0:=by
 have h:rF D n 83 (a0,())=qz9 D n (fun x0 x1 x2 x3 x4=>LF D n 83 pq0 n (qv1 x0 x1 x2 x3 x4) (CF D n 83 [] pq0 (lF 83))) a0:=by kernel_rfl
 rw[h]
 simp only[qbgk]
 rfl

def qbaa (D:DX)(n:Nat) (a0:tq40):Option ((tq40×Unit)×Unit):=qd (qgc D a0.2.1) fun b↦some (((a0.1,b.1.1,()),()),())
def qz3 (D:DX)(n:Nat) (a0:tq40):Option ((tq40×Unit)×Unit):=qbaa D n a0
theorem qbmr (D:DX)(n:Nat) (a0:tq40):rF D n 85 (a0,())=qz3 D n a0:=by kernel_rfl

def qbmc (D:DX)(n:Nat):Option tq30:=some (((List.replicate (Int.toNat 4) 0,0,()),()),())
def qbas (D:DX)(n:Nat):Option tq30:=qbmc D n
theorem qbmk (D:DX)(n:Nat):rF D n 90 ()=qbas D n:=by kernel_rfl

def q1x (D:DX)(n:Nat) (go:Int→Int→tq39→Option tq42) (K0:Int→Option tq42) (K1:Option tq42) (x0 x1:Int) (x2:tq39):Option tq42:=br (decide (x1<(x2.1.length:Int))) (br (decide (0≤x1)&&decide (x1<(x2.1.length:Int))) (br (decide (List.getD x2.1 x1.toNat 0=x0)) (K0 x1) (go x0 (wrap .i64 (x1+1)) x2)) none) K1
def qoo (D:DX)(n:Nat) (K0:Int→Option tq42) (K1:Option tq42):Nat→Int→Int→tq39→Option tq42 | 0=>(fun x0 x1 x2=>none) | m+1=>(fun x0 x1 x2=>q1x D n (qoo D n K0 K1 m) K0 K1 x0 x1 x2)
def q7v (D:DX)(n:Nat) (a:Int):Option tq42:=some ((a,()),())
def q72 (D:DX)(n:Nat):Option tq42:=some ((-1,()),())
def qyu (D:DX)(n:Nat):(Int)→(Int)→tq39→Option tq42:=(fun x0 x1 x2=>qoo D n (fun a=>q7v D n a) (q72 D n) n x0 x1 x2)
def q5p (D:DX)(n:Nat) (lp0:Int→Int→tq39→Option tq42) (a0:tq39) (a1:Int):Option tq42:=lp0 a1 0 a0
def q49 (D:DX)(n:Nat) (a0:tq39) (a1:Int):Option tq42:=q5p D n (qyu D n) a0 a1
def q2f (x0 x1:Int) (x2:tq39):St:=stq 21 [(1,AV.val yq34 x0),(2,AV.addr 2 []),(5,AV.val yq34 x1)] [(2,Root.mk yq25 Mk.no x2 true)]
def q75 (a:Int):St:=stq 21 [(4,AV.val yq34 a)] []
def q78:St:=stq 21 [] []
theorem qbm1 (D:DX)(n:Nat) (K:KT 91):∀ (m:Nat) (x0 x1:Int) (x2:tq39),LF D n 91 pq2 m (q2f x0 x1 x2) K=qoo D n (fun a=>K (Ex.ret) (q75 a)) (K (Ex.exit 0) (q78)) m x0 x1 x2:=eL3 (fun F=>q1x D n F (fun a=>K (Ex.ret) (q75 a)) (K (Ex.exit 0) (q78))) (fun _ _ _ =>q7 ..) (fun _ _ _ _ =>by kernel_rfl) (fun _ _ _ _ =>rfl)
theorem qbjh (D:DX)(n:Nat) (x0) (x1) (x2):LF D n 91 pq2 n (q2f x0 x1 x2) (CF D n 91 [] pq2 (lF 91))=qyu D n x0 x1 x2 :=by rw[qbm1];kernel_rfl
theorem qbsi (D:DX)(n:Nat) (a0:tq39) (a1:Int):rF D n 91 (a0,(a1,()))=q49 D n a0 a1:=by
 have h:rF D n 91 (a0,(a1,()))=q5p D n (fun x0 x1 x2=>LF D n 91 pq2 n (q2f x0 x1 x2) (CF D n 91 [] pq2 (lF 91))) a0 a1:=by kernel_rfl
 rw[h]
 simp only[qbjh]
 rfl

def q5k (D:DX)(n:Nat) (a0:tq34) (a1:List Int):Option tq25:=qd (qce D a0 (a1.length:Int)) fun b↦br (decide (0≤b.1.1)&&decide (b.1.1<(a1.length:Int))) (some ((List.getD a1 b.1.1.toNat 0,()),b.2.1,())) none
def qvc (D:DX)(n:Nat) (a0:tq34) (a1:List Int):Option tq25:=q5k D n a0 a1
theorem qbi3 (D:DX)(n:Nat) (a0:tq34) (a1:List Int):rF D n 92 (a0,(a1,()))=qvc D n a0 a1:=by kernel_rfl

def q1o (D:DX)(n:Nat) (a0:tq34):Option ((tq37×Unit)×tq31):=qd (qnz D a0 (List.set (List.set (List.set (List.set (List.set (List.set (List.set (List.set (List.set (List.set (List.set (List.set (List.set (List.set (List.replicate 14 0) 0 1) 1 1) 2 1) 3 2) 4 2) 5 3) 6 4) 7 5) 8 6) 9 7) 10 8) 11 9) 12 9) 13 10)) fun b↦qd (qxx D b.1.1) fun b_1↦br b_1.1.1 (qd (qce D b.2.1 4) fun b_2↦br (decide (b.1.1=6)) (qd (qce D b_2.2.1 3) fun b_3↦qd (qhf D b.1.1) fun b_4↦br b_4.1.1 (qd (qce D b_3.2.1 4) fun b_5↦some (((b.1.1,b_3.1.1,wrap .i64 (1+b_5.1.1),()),()),b_5.2.1,())) (some (((b.1.1,b_3.1.1,0,()),()),b_3.2.1,()))) (qd (qhf D b.1.1) fun b_3↦br b_3.1.1 (qd (qce D b_2.2.1 4) fun b_4↦some (((b.1.1,b_2.1.1,wrap .i64 (1+b_4.1.1),()),()),b_4.2.1,())) (some (((b.1.1,b_2.1.1,0,()),()),b_2.2.1,())))) (br (decide (b.1.1=6)) (qd (qce D b.2.1 3) fun b_2↦qd (qhf D b.1.1) fun b_3↦br b_3.1.1 (qd (qce D b_2.2.1 4) fun b_4↦some (((b.1.1,b_2.1.1,wrap .i64 (1+b_4.1.1),()),()),b_4.2.1,())) (some (((b.1.1,b_2.1.1,0,()),()),b_2.2.1,()))) (qd (qhf D b.1.1) fun b_2↦br b_2.1.1 (qd (qce D b.2.1 4) fun b_3↦some (((b.1.1,0,wrap .i64 (1+b_3.1.1),()),()),b_3.2.1,())) (some (((b.1.1,0,0,()),()),b.2.1,()))))
def qrh (D:DX)(n:Nat) (a0:tq34):Option ((tq37×Unit)×tq31):=q1o D n a0
theorem qbc5 (D:DX)(n:Nat) (a0:tq34):rF D n 93 (a0,())=qrh D n a0:=by kernel_rfl

def qbb3 (D:DX)(n:Nat) (a0:tq34):Option tq25:=let y1:=wrap .i64 (a0.2.2.1 * 6364136223846793005)+1442695040888963407;let y0:=wrap .i64 (↑(BitVec.toNat (BitVec.xor (BitVec.ofInt (IntKind.bits IntKind.i64) (Int.fdiv (wrap .i64 y1) (Int.pow 2 (if Int.toNat 33≤IntKind.bits IntKind.i64 then Int.toNat 33 else IntKind.bits IntKind.i64)))) (BitVec.ofInt (IntKind.bits IntKind.i64) (Int.fdiv (wrap .i64 y1) (Int.pow 2 (if Int.toNat 45≤IntKind.bits IntKind.i64 then Int.toNat 45 else IntKind.bits IntKind.i64)))))):Int);br (decide (a0.2.1<(a0.1.length:Int))) (br (decide (0≤a0.2.1)&&decide (a0.2.1<(a0.1.length:Int))) (some ((wrap .i64 (↑(BitVec.toNat (BitVec.and (BitVec.ofInt (IntKind.bits IntKind.i64) (wrap .i64 (wrap .i64 (↑(BitVec.toNat (BitVec.and (BitVec.ofInt (IntKind.bits IntKind.i64) y0) (BitVec.ofInt (IntKind.bits IntKind.i64) 255))):Int)+wrap .i64 (List.getD a0.1 a0.2.1.toNat 0)))) (BitVec.ofInt (IntKind.bits IntKind.i64) 255))):Int),()),(a0.1,wrap .i64 (a0.2.1+1),wrap .i64 y1,a0.2.2.2),())) none) (some ((wrap .i64 (↑(BitVec.toNat (BitVec.and (BitVec.ofInt (IntKind.bits IntKind.i64) y0) (BitVec.ofInt (IntKind.bits IntKind.i64) 255))):Int),()),(a0.1,a0.2.1,wrap .i64 y1,a0.2.2.2),()))
def q2h (D:DX)(n:Nat) (a0:tq34):Option tq25:=qbb3 D n a0
theorem qbqd (D:DX)(n:Nat) (a0:tq34):rF D n 94 (a0,())=q2h D n a0:=by kernel_rfl

def qk7 (D:DX)(n:Nat) (a0:List tq37):Option tq28:=br (decide (Int.toNat (a0.length:Int)=0)) (both (some (([],()),())) (br (decide (0+a0.length≤qb8)) (some (([]++a0,()),())) none)) (br (decide (0+a0.length≤qb8)) (some (([]++a0,()),())) none)
def qhi (D:DX)(n:Nat) (a0:List tq37):Option tq28:=qk7 D n a0
theorem qwi (D:DX)(n:Nat) (a0:List tq37):rF D n 95 (a0,())=qhi D n a0:=by kernel_rfl

def qwj (D:DX)(n:Nat) (go:Int→tq39→List Int→Option tq36) (K0:tq39→List Int→Option tq36) (x0:Int) (x1:tq39) (x2:List Int):Option tq36:=let y0:=List.getD x1.1 x0.toNat 0;let y1:=wrap .i64 (x0+1);br (decide (x0<4)) (br (decide (0≤x0)&&decide (x0<(x1.1.length:Int))) (qd (q48 D x0) fun b↦br (decide (0≤b.1.1)&&decide (b.1.1<(x2.length:Int))) (br (decide (y0=0)) (go y1 x1 (List.set x2 b.1.1.toNat y0)) (qd (q0n D y0) fun b_1↦br (decide (0≤b_1.1.1)&&decide (b_1.1.1<((List.set x2 b.1.1.toNat y0).length:Int))) (br (decide (x0<wrap .i64 (x1.2.1 - 1))) (qd (q66 D y0) fun b_2↦let a:=List.set (List.set x2 b.1.1.toNat y0) b_1.1.1.toNat y1;br (decide (0≤b_2.1.1)&&decide (b_2.1.1<(a.length:Int))) (go y1 x1 (List.set a b_2.1.1.toNat y1)) none) (go y1 x1 (List.set (List.set x2 b.1.1.toNat y0) b_1.1.1.toNat y1))) none)) none) none) (K0 x1 x2)
def qlb (D:DX)(n:Nat) (K0:tq39→List Int→Option tq36):Nat→Int→tq39→(List Int)→Option tq36 | 0=>(fun x0 x1 x2=>none) | m+1=>(fun x0 x1 x2=>qwj D n (qlb D n K0 m) K0 x0 x1 x2)
def qwq (D:DX)(n:Nat) (go:Int→tq39→List Int→Option tq36) (K0:tq39→List Int→Option tq36) (a:Int) (c:tq39) (d:List Int):Option tq36:=br (decide (a<3)) (qd (qz7 D a) fun b↦qd (qz0 D c a) fun b_1↦br (decide (0≤b.1.1)&&decide (b.1.1<(d.length:Int))) (go (wrap .i64 (a+1)) c (List.set d b.1.1.toNat b_1.1.1)) none) (K0 c d)
def qk6 (D:DX)(n:Nat) (K0:tq39→List Int→Option tq36):Nat→Int→tq39→(List Int)→Option tq36 | 0=>(fun a b c=>none) | m+1=>(fun a b c=>qwq D n (qk6 D n K0 m) K0 a b c)
def qs6 (D:DX)(n:Nat) (c:tq39) (a:List Int):Option tq36:=qd (qr8 D) fun b↦br (decide (0≤b.1.1)&&decide (b.1.1<(a.length:Int))) (some ((List.set a b.1.1.toNat c.2.1,()),())) none
def qnr (D:DX)(n:Nat):(Int)→tq39→(List Int)→Option tq36:=(fun a d e=>qk6 D n (fun b c=>qs6 D n b c) n a d e)
def ql6 (D:DX)(n:Nat) (lp1:Int→tq39→List Int→Option tq36) (a:tq39) (b:List Int):Option tq36:=lp1 0 a b
def quv (D:DX)(n:Nat):(Int)→tq39→(List Int)→Option tq36:=(fun x0 x1 x2=>qlb D n (fun a b=>ql6 D n (qnr D n) a b) n x0 x1 x2)
def qyv (D:DX)(n:Nat) (lp0:Int→tq39→List Int→Option tq36) (a0:tq39):Option tq36:=qd (qt6 D a0) fun b↦br (!b.1.1) (some (([],()),())) (lp0 0 a0 (List.replicate (Int.toNat 20) 0))
def qyk (D:DX)(n:Nat) (a0:tq39):Option tq36:=qyv D n (quv D n) a0
def qwk (x0:Int) (x1:tq39) (x2:List Int):St:=stq 62 [(1,AV.addr 1 []),(3,AV.brw 3 [] 0),(4,AV.val yq34 x0)] [(1,Root.mk yq25 Mk.no x1 true),(3,Root.mk yq30 kq37 x2 false)]
def qsk (a:tq39) (b:List Int):St:=stq 62 [(1,AV.addr 1 []),(3,AV.brw 3 [] 0)] [(1,Root.mk yq25 Mk.no a true),(3,Root.mk yq30 kq37 b false)]
def qxp (a:Int) (b:tq39) (c:List Int):St:=stq 62 [(1,AV.addr 1 []),(3,AV.brw 3 [] 0),(6,AV.val yq34 a)] [(1,Root.mk yq25 Mk.no b true),(3,Root.mk yq30 kq37 c false)]
def q33 (a:tq39) (b:List Int):St:=stq 62 [(1,AV.addr 1 []),(3,AV.brw 3 [] 0)] [(1,Root.mk yq25 Mk.no a true),(3,Root.mk yq30 kq37 b false)]
theorem qbhl (D:DX)(n:Nat) (K:KT 96):∀ (m:Nat) (x0:Int) (x1:tq39) (x2:List Int),LF D n 96 pq1 m (qwk x0 x1 x2) K=qlb D n (fun a b=>K (Ex.exit 0) (qsk a b)) m x0 x1 x2:=eL3 (fun F=>qwj D n F (fun a b=>K (Ex.exit 0) (qsk a b))) (fun _ _ _ =>q7 ..) (fun _ _ _ _ =>by kernel_rfl) (fun _ _ _ _ =>rfl)
theorem qbi0 (D:DX)(n:Nat) (K:KT 96):∀ (m:Nat) (c:Int) (d:tq39) (e:List Int),LF D n 96 pq3 m (qxp c d e) K=qk6 D n (fun a b=>K (Ex.exit 2) (q33 a b)) m c d e:=eL3 (fun F=>qwq D n F (fun a b=>K (Ex.exit 2) (q33 a b))) (fun _ _ _ =>q7 ..) (fun _ _ _ _ =>by kernel_rfl) (fun _ _ _ _ =>rfl)
theorem qbgi (D:DX)(n:Nat) (a:Int) (b:tq39) (c:List Int):LF D n 96 pq3 n (qxp a b c) (CF D n 96 [] pq3 (lF 96))=qnr D n a b c :=by rw[qbi0];kernel_rfl
theorem qbgf (D:DX)(n:Nat) (a:tq39) (b:List Int):(CF D n 96 [] pq1 (lF 96)) (Ex.exit 0) (qsk a b)=ql6 D n (fun c d e=>LF D n 96 pq3 n (qxp c d e) (CF D n 96 [] pq3 (lF 96))) a b:=by kernel_rfl
theorem qbf2 (D:DX)(n:Nat) (x0) (x1) (x2):LF D n 96 pq1 n (qwk x0 x1 x2) (CF D n 96 [] pq1 (lF 96))=quv D n x0 x1 x2:=by
 rw[qbhl]
 simp only[qbgf,qbgi]
 rfl
theorem qbn4 (D:DX)(n:Nat) (a0:tq39):rF D n 96 (a0,())=qyk D n a0:=by
 have h:rF D n 96 (a0,())=qyv D n (fun x0 x1 x2=>LF D n 96 pq1 n (qwk x0 x1 x2) (CF D n 96 [] pq1 (lF 96))) a0:=by kernel_rfl
 rw[h]
 simp only[qbf2]
 rfl

def qbuq (D:DX)(n:Nat) (a0 a1 a2:Int):Option tq41:=some ((bif decide (a0≥a1) then decide (a0≤a2) else false,()),())
def qbhe (D:DX)(n:Nat) (a0 a1 a2:Int):Option tq41:=qbuq D n a0 a1 a2
theorem qbuw (D:DX)(n:Nat) (a0 a1 a2:Int):rF D n 97 (a0,(a1,(a2,())))=qbhe D n a0 a1 a2:=by kernel_rfl

def q12 (D:DX)(n:Nat) (go:Int→tq12→Option tq41) (K0:Bool→tq12→Option tq41) (K1:tq12→Option tq41) (x0:Int) (x1:tq12):Option tq41:=br (decide (x0<(x1.2.1.length:Int))) (br (decide (0≤x0)&&decide (x0<(x1.2.1.length:Int))) (qd (q2o D (List.getD x1.2.1 x0.toNat (0,0,[],(0,[],()),()))) fun b↦br (!b.1.1) (K0 false x1) (go (wrap .i64 (x0+1)) x1)) none) (K1 x1)
def qot (D:DX)(n:Nat) (K0:Bool→tq12→Option tq41) (K1:tq12→Option tq41):Nat→Int→tq12→Option tq41 | 0=>(fun x0 x1=>none) | m+1=>(fun x0 x1=>q12 D n (qot D n K0 K1 m) K0 K1 x0 x1)
def q7g (D:DX)(n:Nat) (a:Bool) (b:tq12):Option tq41:=some ((a,()),())
def q3e (D:DX)(n:Nat) (go:Int→tq12→Option tq41) (K0:Bool→Option tq41) (K1:Option tq41) (c:Int) (a:tq12):Option tq41:=let y0:=List.getD a.1 c.toNat (0,0,0,());let y1:=List.getD a.2.1 (Int.toNat (wrap .i64 (y0.2.1 - 1))) (0,0,[],(0,[],()),());br (decide (c<(a.1.length:Int))) (br (decide (0≤c)&&decide (c<(a.1.length:Int))) (qd (qbcd D y0 (a.2.1.length:Int)) fun b↦br (!b.1.1) (K0 false) (br (decide (y0.2.1>0)) (br (decide (0≤wrap .i64 (y0.2.1 - 1))&&decide (wrap .i64 (y0.2.1 - 1)<(a.2.1.length:Int))) (qd (qbm8 D y1 c) fun b↦br (!b.1.2.1) (K0 false) (br (decide (0≤wrap .i64 (y0.2.1 - 1))&&decide (wrap .i64 (y0.2.1 - 1)<(a.2.1.length:Int))) (br (y1.1 != y0.2.2.1) (K0 false) (go (wrap .i64 (c+1)) a)) none)) none) (go (wrap .i64 (c+1)) a))) none) K1
def qos (D:DX)(n:Nat) (K0:Bool→Option tq41) (K1:Option tq41):Nat→Int→tq12→Option tq41 | 0=>(fun a b=>none) | m+1=>(fun a b=>q3e D n (qos D n K0 K1 m) K0 K1 a b)
def qbja (D:DX)(n:Nat) (a:Bool):Option tq41:=some ((a,()),())
def qbk6 (D:DX)(n:Nat):Option tq41:=some ((true,()),())
def qyw (D:DX)(n:Nat):(Int)→tq12→Option tq41:=(fun a b=>qos D n (fun c=>qbja D n c) (qbk6 D n) n a b)
def qx2 (D:DX)(n:Nat) (lp1:Int→tq12→Option tq41) (a:tq12):Option tq41:=lp1 0 a
def q0o (D:DX)(n:Nat):(Int)→tq12→Option tq41:=(fun x0 x1=>qot D n (fun a b=>q7g D n a b) (fun c=>qx2 D n (qyw D n) c) n x0 x1)
def q5m (D:DX)(n:Nat) (lp0:Int→tq12→Option tq41) (a0:tq12):Option tq41:=br ((a0.1.length:Int) != 20) (some ((false,()),())) (qd (qbo D (a0.2.1.length:Int) 1 4) fun b↦br (!b.1.1) (some ((false,()),())) (lp0 0 a0))
def q5z (D:DX)(n:Nat) (a0:tq12):Option tq41:=q5m D n (q0o D n) a0
def q17 (x0:Int) (x1:tq12):St:=stq 81 [(1,AV.addr 1 []),(3,AV.val yq34 x0)] [(1,Root.mk yq3 Mk.no x1 true)]
def qw9 (a:Bool) (b:tq12):St:=stq 81 [(1,AV.addr 1 []),(2,AV.val Ty.bool a)] [(1,Root.mk yq3 Mk.no b true)]
def qxt (a:tq12):St:=stq 81 [(1,AV.addr 1 [])] [(1,Root.mk yq3 Mk.no a true)]
def q2r (a:Int) (b:tq12):St:=stq 81 [(1,AV.addr 1 []),(4,AV.val yq34 a)] [(1,Root.mk yq3 Mk.no b true)]
def q70 (a:Bool):St:=stq 81 [(2,AV.val Ty.bool a)] []
def q7n:St:=stq 81 [] []
theorem qbn9 (D:DX)(n:Nat) (K:KT 98):∀ (m:Nat) (x0:Int) (x1:tq12),LF D n 98 pq0 m (q17 x0 x1) K=qot D n (fun a b=>K (Ex.ret) (qw9 a b)) (fun c=>K (Ex.exit 0) (qxt c)) m x0 x1:=eL2 (fun F=>q12 D n F (fun a b=>K (Ex.ret) (qw9 a b)) (fun c=>K (Ex.exit 0) (qxt c))) (fun _ _ =>q7 ..) (fun _ _ _ =>by kernel_rfl) (fun _ _ _ =>rfl)
theorem qblq (D:DX)(n:Nat) (K:KT 98):∀ (m:Nat) (b:Int) (c:tq12),LF D n 98 pq1 m (q2r b c) K=qos D n (fun a=>K (Ex.ret) (q70 a)) (K (Ex.exit 2) (q7n)) m b c:=eL2 (fun F=>q3e D n F (fun a=>K (Ex.ret) (q70 a)) (K (Ex.exit 2) (q7n))) (fun _ _ =>q7 ..) (fun _ _ _ =>by kernel_rfl) (fun _ _ _ =>rfl)
theorem qbk8 (D:DX)(n:Nat) (a:Int) (b:tq12):LF D n 98 pq1 n (q2r a b) (CF D n 98 [] pq1 (lF 98))=qyw D n a b :=by rw[qblq];kernel_rfl
theorem qbkg (D:DX)(n:Nat) (a:Bool) (b:tq12):(CF D n 98 [] pq0 (lF 98)) (Ex.ret) (qw9 a b)=q7g D n a b:=by kernel_rfl
theorem qbli (D:DX)(n:Nat) (a:tq12):(CF D n 98 [] pq0 (lF 98)) (Ex.exit 0) (qxt a)=qx2 D n (fun b c=>LF D n 98 pq1 n (q2r b c) (CF D n 98 [] pq1 (lF 98))) a:=by kernel_rfl
theorem qbkv (D:DX)(n:Nat) (x0) (x1):LF D n 98 pq0 n (q17 x0 x1) (CF D n 98 [] pq0 (lF 98))=q0o D n x0 x1:=by
 rw[qbn9]
 simp only[qbkg,qbli,qbk8]
 rfl
theorem qbtl (D:DX)(n:Nat) (a0:tq12):rF D n 98 (a0,())=q5z D n a0:=by
 have h:rF D n 98 (a0,())=q5m D n (fun x0 x1=>LF D n 98 pq0 n (q17 x0 x1) (CF D n 98 [] pq0 (lF 98))) a0:=by kernel_rfl
 rw[h]
 simp only[qbkv]
 rfl

def q0i (D:DX)(n:Nat) (go:Int→tq39→Option tq41) (K0:Bool→tq39→Option tq41) (K1:tq39→Option tq41) (x0:Int) (x1:tq39):Option tq41:=br (decide (x0<(x1.1.length:Int))) (br (decide (0≤x0)&&decide (x0<(x1.1.length:Int))) (br (List.getD x1.1 x0.toNat 0 != 0) (br (decide (0≤x0)&&decide (x0<(x1.1.length:Int))) (qd (qjb D (List.getD x1.1 x0.toNat 0)) fun b↦br (!b.1.1) (K0 false x1) (br (decide (0≤x0)&&decide (x0<(x1.1.length:Int))) (qd (qw3 D x1 (List.getD x1.1 x0.toNat 0)) fun b↦br (b.1.1 != x0) (K0 false x1) (go (wrap .i64 (x0+1)) x1)) none)) none) (go (wrap .i64 (x0+1)) x1)) none) (K1 x1)
def qml (D:DX)(n:Nat) (K0:Bool→tq39→Option tq41) (K1:tq39→Option tq41):Nat→Int→tq39→Option tq41 | 0=>(fun x0 x1=>none) | m+1=>(fun x0 x1=>q0i D n (qml D n K0 K1 m) K0 K1 x0 x1)
def q5o (D:DX)(n:Nat) (a:Bool) (b:tq39):Option tq41:=some ((a,()),())
def qu3 (D:DX)(n:Nat) (a:tq39):Option tq41:=br (decide ((a.1.length:Int)=4)) (qd (qbo D a.2.1 0 5) fun b↦some ((b.1.1,()),())) (some ((false,()),()))
def qwm (D:DX)(n:Nat):(Int)→tq39→Option tq41:=(fun x0 x1=>qml D n (fun a b=>q5o D n a b) (fun c=>qu3 D n c) n x0 x1)
def q2w (D:DX)(n:Nat) (lp0:Int→tq39→Option tq41) (a0:tq39):Option tq41:=lp0 0 a0
def q2c (D:DX)(n:Nat) (a0:tq39):Option tq41:=q2w D n (qwm D n) a0
def qzp (x0:Int) (x1:tq39):St:=stq 46 [(1,AV.addr 1 []),(3,AV.val yq34 x0)] [(1,Root.mk yq25 Mk.no x1 true)]
def q5j (a:Bool) (b:tq39):St:=stq 46 [(1,AV.addr 1 []),(2,AV.val Ty.bool a)] [(1,Root.mk yq25 Mk.no b true)]
def q5t (a:tq39):St:=stq 46 [(1,AV.addr 1 [])] [(1,Root.mk yq25 Mk.no a true)]
theorem qbkw (D:DX)(n:Nat) (K:KT 99):∀ (m:Nat) (x0:Int) (x1:tq39),LF D n 99 pq2 m (qzp x0 x1) K=qml D n (fun a b=>K (Ex.ret) (q5j a b)) (fun c=>K (Ex.exit 0) (q5t c)) m x0 x1:=eL2 (fun F=>q0i D n F (fun a b=>K (Ex.ret) (q5j a b)) (fun c=>K (Ex.exit 0) (q5t c))) (fun _ _ =>q7 ..) (fun _ _ _ =>by kernel_rfl) (fun _ _ _ =>rfl)
theorem qbip (D:DX)(n:Nat) (x0) (x1):LF D n 99 pq2 n (qzp x0 x1) (CF D n 99 [] pq2 (lF 99))=qwm D n x0 x1 :=by rw[qbkw];kernel_rfl
theorem qbpn (D:DX)(n:Nat) (a0:tq39):rF D n 99 (a0,())=q2c D n a0:=by
 have h:rF D n 99 (a0,())=q2w D n (fun x0 x1=>LF D n 99 pq2 n (qzp x0 x1) (CF D n 99 [] pq2 (lF 99))) a0:=by kernel_rfl
 rw[h]
 simp only[qbip]
 rfl

def qwe (D:DX)(n:Nat) (go:Int→Int→tq5→Option tq41) (K0:Bool→Int→tq5→Option tq41) (K1:Int→tq5→Option tq41) (x0 x1:Int) (x2:tq5):Option tq41:=br (decide (x1<(x2.2.2.2.1.length:Int))) (br (decide (0≤x1)&&decide (x1<(x2.2.2.2.1.length:Int))) (qd (qbpw D x2 (List.getD x2.2.2.2.1 x1.toNat (0,(0,0,0,()),0,0,0,(0,[],()),()))) fun b↦br (!b.1.1) (K0 false x0 x2) (br (decide (0≤x1)&&decide (x1<(x2.2.2.2.1.length:Int))) (qd (qq0 D (decide ((List.getD x2.2.2.2.1 x1.toNat (0,(0,0,0,()),0,0,0,(0,[],()),())).2.2.2.1≥0))) fun b↦go (wrap .i64 (x0+b.1.1)) (wrap .i64 (x1+1)) x2) none)) none) (K1 x0 x2)
def qp4 (D:DX)(n:Nat) (K0:Bool→Int→tq5→Option tq41) (K1:Int→tq5→Option tq41):Nat→Int→Int→tq5→Option tq41 | 0=>(fun x0 x1 x2=>none) | m+1=>(fun x0 x1 x2=>qwe D n (qp4 D n K0 K1 m) K0 K1 x0 x1 x2)
def q3o (D:DX)(n:Nat) (a:Bool) (b:Int) (c:tq5):Option tq41:=some ((a,()),())
def q7z (D:DX)(n:Nat) (go:Int→Int→Int→Int→tq5→Option tq41) (K0:Bool→Int→Int→tq5→Option tq41) (K1:Int→Int→tq5→Option tq41) (d c e a:Int) (b:tq5):Option tq41:=br (decide (a<c)) (br (decide (0≤a)&&decide (a<(b.2.2.2.2.1.length:Int))) (br (decide (List.getD b.2.2.2.2.1 a.toNat 0=e)) (K0 false d c b) (go d c e (wrap .i64 (a+1)) b)) none) (K1 d c b)
def qxr (D:DX)(n:Nat) (K0:Bool→Int→Int→tq5→Option tq41) (K1:Int→Int→tq5→Option tq41):Nat→Int→Int→Int→Int→tq5→Option tq41 | 0=>(fun a b c d e=>none) | m+1=>(fun a b c d e=>q7z D n (qxr D n K0 K1 m) K0 K1 a b c d e)
def qbfr (D:DX)(n:Nat) (go:Int→Int→tq5→Option tq41) (K0:Bool→Int→tq5→Option tq41) (K1:Int→tq5→Option tq41) (a:Bool) (b d:Int) (c:tq5):Option tq41:=K0 a b c
def qbge (D:DX)(n:Nat) (go:Int→Int→tq5→Option tq41) (K0:Bool→Int→tq5→Option tq41) (K1:Int→tq5→Option tq41) (a b:Int) (c:tq5):Option tq41:=go a (wrap .i64 (b+1)) c
def q6z (D:DX)(n:Nat) (go:Int→Int→tq5→Option tq41) (K0:Bool→Int→tq5→Option tq41) (K1:Int→tq5→Option tq41):(Int)→(Int)→(Int)→(Int)→tq5→Option tq41:=(fun a b j k l=>qxr D n (fun c d e f=>qbfr D n go K0 K1 c d e f) (fun g h i=>qbge D n go K0 K1 g h i) n a b j k l)
def qwv (D:DX)(n:Nat) (go:Int→Int→tq5→Option tq41) (K0:Bool→Int→tq5→Option tq41) (K1:Int→tq5→Option tq41) (lp2:Int→Int→Int→Int→tq5→Option tq41) (d c:Int) (a:tq5):Option tq41:=let y0:=List.getD a.2.2.2.2.1 c.toNat 0;let y1:=List.getD a.2.2.2.1 (Int.toNat y0) (0,(0,0,0,()),0,0,0,(0,[],()),());let y2:=Int.toNat (wrap .i64 (c - 1));br (decide (c<(a.2.2.2.2.1.length:Int))) (br (decide (0≤c)&&decide (c<(a.2.2.2.2.1.length:Int))) (qd (qbo D y0 0 (wrap .i64 ((a.2.2.2.1.length:Int) - 1))) fun b↦br (!b.1.1) (K0 false d a) (br (decide (0≤y0)&&decide (y0<(a.2.2.2.1.length:Int))) (br (decide (y1.2.2.2.1<0)) (K0 false d a) (br (decide (c>0)) (br (decide (0≤wrap .i64 (c - 1))&&decide (wrap .i64 (c - 1)<(a.2.2.2.2.1.length:Int))) (br (decide (0≤List.getD a.2.2.2.2.1 y2 0)&&decide (List.getD a.2.2.2.2.1 y2 0<(a.2.2.2.1.length:Int))) (br (decide (0≤y0)&&decide (y0<(a.2.2.2.1.length:Int))) (br (decide ((List.getD a.2.2.2.1 (Int.toNat (List.getD a.2.2.2.2.1 y2 0)) (0,(0,0,0,()),0,0,0,(0,[],()),())).2.2.2.1>y1.2.2.2.1)) (K0 false d a) (lp2 d c y0 0 a)) none) none) none) (lp2 d c y0 0 a))) none)) none) (K1 d a)
def qje (D:DX)(n:Nat) (K0:Bool→Int→tq5→Option tq41) (K1:Int→tq5→Option tq41):Nat→Int→Int→tq5→Option tq41 | 0=>(fun a b c=>none) | m+1=>(fun a b c=>qwv D n (qje D n K0 K1 m) K0 K1 (q6z D n (qje D n K0 K1 m) K0 K1) a b c)
def qbf3 (D:DX)(n:Nat) (a:Bool) (b:Int) (c:tq5):Option tq41:=some ((a,()),())
def q3p (D:DX)(n:Nat) (b:Int) (a:tq5):Option tq41:=some ((bif decide ((a.2.2.2.1.length:Int)≤40) then decide (b=(a.2.2.2.2.1.length:Int)) else false,()),())
def qu4 (D:DX)(n:Nat):(Int)→(Int)→tq5→Option tq41:=(fun a b h=>qje D n (fun c d e=>qbf3 D n c d e) (fun f g=>q3p D n f g) n a b h)
def qsw (D:DX)(n:Nat) (lp1:Int→Int→tq5→Option tq41) (a:Int) (b:tq5):Option tq41:=lp1 a 0 b
def que (D:DX)(n:Nat):(Int)→(Int)→tq5→Option tq41:=(fun x0 x1 x2=>qp4 D n (fun a b c=>q3o D n a b c) (fun d e=>qsw D n (qu4 D n) d e) n x0 x1 x2)
def qz8 (D:DX)(n:Nat) (lp0:Int→Int→tq5→Option tq41) (a0:tq5):Option tq41:=lp0 0 0 a0
def qzq (D:DX)(n:Nat) (a0:tq5):Option tq41:=qz8 D n (que D n) a0
def qw8 (x0 x1:Int) (x2:tq5):St:=stq 108 [(1,AV.addr 1 []),(3,AV.val yq34 x0),(4,AV.val yq34 x1)] [(1,Root.mk yq0 Mk.no x2 true)]
def qsi (a:Bool) (b:Int) (c:tq5):St:=stq 108 [(1,AV.addr 1 []),(2,AV.val Ty.bool a),(3,AV.val yq34 b)] [(1,Root.mk yq0 Mk.no c true)]
def qtj (a:Int) (b:tq5):St:=stq 108 [(1,AV.addr 1 []),(3,AV.val yq34 a)] [(1,Root.mk yq0 Mk.no b true)]
def qhe (a b:Int) (c:tq5):St:=stq 108 [(1,AV.addr 1 []),(3,AV.val yq34 a),(5,AV.val yq34 b)] [(1,Root.mk yq0 Mk.no c true)]
def qmb (a:Bool) (b:Int) (c:tq5):St:=stq 108 [(1,AV.addr 1 []),(2,AV.val Ty.bool a),(3,AV.val yq34 b)] [(1,Root.mk yq0 Mk.no c true)]
def ql7 (a:Int) (b:tq5):St:=stq 108 [(1,AV.addr 1 []),(3,AV.val yq34 a)] [(1,Root.mk yq0 Mk.no b true)]
def qxv (a b c d:Int) (e:tq5):St:=stq 108 [(1,AV.addr 1 []),(3,AV.val yq34 a),(5,AV.val yq34 b),(6,AV.val yq34 c),(7,AV.val yq34 d)] [(1,Root.mk yq0 Mk.no e true)]
def q3z (a:Bool) (b c:Int) (d:tq5):St:=stq 108 [(1,AV.addr 1 []),(2,AV.val Ty.bool a),(3,AV.val yq34 b),(5,AV.val yq34 c)] [(1,Root.mk yq0 Mk.no d true)]
def q3v (a b:Int) (c:tq5):St:=stq 108 [(1,AV.addr 1 []),(3,AV.val yq34 a),(5,AV.val yq34 b)] [(1,Root.mk yq0 Mk.no c true)]
theorem qbhq (D:DX)(n:Nat) (K:KT 100):∀ (m:Nat) (x0 x1:Int) (x2:tq5),LF D n 100 pq0 m (qw8 x0 x1 x2) K=qp4 D n (fun a b c=>K (Ex.ret) (qsi a b c)) (fun d e=>K (Ex.exit 0) (qtj d e)) m x0 x1 x2:=eL3 (fun F=>qwe D n F (fun a b c=>K (Ex.ret) (qsi a b c)) (fun d e=>K (Ex.exit 0) (qtj d e))) (fun _ _ _ =>q7 ..) (fun _ _ _ _ =>by kernel_rfl) (fun _ _ _ _ =>rfl)
theorem qbis (D:DX)(n:Nat) (K:KT 100):∀ (m:Nat) (h i j k:Int) (l:tq5),LF D n 100 pq13 m (qxv h i j k l) K=qxr D n (fun a b c d=>K (Ex.ret) (q3z a b c d)) (fun e f g=>K (Ex.exit 4) (q3v e f g)) m h i j k l:=eL5 (fun F=>q7z D n F (fun a b c d=>K (Ex.ret) (q3z a b c d)) (fun e f g=>K (Ex.exit 4) (q3v e f g))) (fun _ _ _ _ _ =>q7 ..) (fun _ _ _ _ _ _ =>by kernel_rfl) (fun _ _ _ _ _ _ =>rfl)
theorem qbfq (D:DX)(n:Nat) (m:Nat) (K:KT 100) (a b c d:Int) (e:tq5):LF D n 100 pq13 n (qxv a b c d e) (CF D n 100 [.r,.r,.r,.l,.r,.l,.l] [.r,.l,.l,.r,.r,.r,.l] (KF D n 100 pq1 m K))=q6z D n (fun k o p=>LF D n 100 pq1 m (qhe k o p) K) (fun f g h=>K (Ex.ret) (qmb f g h)) (fun i j=>K (Ex.exit 2) (ql7 i j)) a b c d e :=by rw[qbis];kernel_rfl
theorem qbh0 (D:DX)(n:Nat) (m:Nat) (K:KT 100) (a b:Int) (c:tq5):LF D n 100 pq1 (m+1) (qhe a b c) K=qwv D n (fun a b c=>LF D n 100 pq1 m (qhe a b c) K) (fun d e f=>K (Ex.ret) (qmb d e f)) (fun g h=>K (Ex.exit 2) (ql7 g h)) (fun i j k o p=>LF D n 100 pq13 n (qxv i j k o p) (CF D n 100 [.r,.r,.r,.l,.r,.l,.l] [.r,.l,.l,.r,.r,.r,.l] (KF D n 100 pq1 m K))) a b c:=by kernel_rfl
theorem q5w (D:DX)(n:Nat) (K:KT 100):∀ (m:Nat) (a b:Int) (c:tq5),LF D n 100 pq1 m (qhe a b c) K=qje D n (fun d e f=>K (Ex.ret) (qmb d e f)) (fun g h=>K (Ex.exit 2) (ql7 g h)) m a b c
 | 0,a,b,c=>q7 ..
 | m+1,a,b,c=>by
  have ih:(fun a b c=>LF D n 100 pq1 m (qhe a b c) K)=qje D n (fun d e f=>K (Ex.ret) (qmb d e f)) (fun g h=>K (Ex.exit 2) (ql7 g h)) m:=by funext a b c;exact q5w D n K m a b c
  rw[qbh0]
  simp only[qbfq]
  rw[ih];rfl
theorem qbfk (D:DX)(n:Nat) (a b:Int) (c:tq5):LF D n 100 pq1 n (qhe a b c) (CF D n 100 [] pq1 (lF 100))=qu4 D n a b c :=by rw[q5w];kernel_rfl
theorem qbf1 (D:DX)(n:Nat) (a:Bool) (b:Int) (c:tq5):(CF D n 100 [] pq0 (lF 100)) (Ex.ret) (qsi a b c)=q3o D n a b c:=by kernel_rfl
theorem qbgp (D:DX)(n:Nat) (a:Int) (b:tq5):(CF D n 100 [] pq0 (lF 100)) (Ex.exit 0) (qtj a b)=qsw D n (fun c d e=>LF D n 100 pq1 n (qhe c d e) (CF D n 100 [] pq1 (lF 100))) a b:=by kernel_rfl
theorem qbfv (D:DX)(n:Nat) (x0) (x1) (x2):LF D n 100 pq0 n (qw8 x0 x1 x2) (CF D n 100 [] pq0 (lF 100))=que D n x0 x1 x2:=by
 rw[qbhq]
 simp only[qbf1,qbgp,qbfk]
 rfl
theorem qbmn (D:DX)(n:Nat) (a0:tq5):rF D n 100 (a0,())=qzq D n a0:=by
 have h:rF D n 100 (a0,())=qz8 D n (fun x0 x1 x2=>LF D n 100 pq0 n (qw8 x0 x1 x2) (CF D n 100 [] pq0 (lF 100))) a0:=by kernel_rfl
 rw[h]
 simp only[qbfv]
 rfl

def qvb (D:DX)(n:Nat) (go:Int→Int→tq13→Option tq41) (K0:Int→Bool→tq13→Option tq41) (K1:Int→tq13→Option tq41) (x0 x1:Int) (x2:tq13):Option tq41:=br (decide (x1<(x2.1.length:Int))) (br (decide (0≤x1)&&decide (x1<(x2.1.length:Int))) (qd (q0x D (List.getD x2.1 x1.toNat (0,0,0,()))) fun b↦br (!b.1.1) (K0 x0 false x2) (go x0 (wrap .i64 (x1+1)) x2)) none) (K1 x0 x2)
def qkn (D:DX)(n:Nat) (K0:Int→Bool→tq13→Option tq41) (K1:Int→tq13→Option tq41):Nat→Int→Int→tq13→Option tq41 | 0=>(fun x0 x1 x2=>none) | m+1=>(fun x0 x1 x2=>qvb D n (qkn D n K0 K1 m) K0 K1 x0 x1 x2)
def q1m (D:DX)(n:Nat) (b:Int) (a:Bool) (c:tq13):Option tq41:=some ((a,()),())
def qu2 (D:DX)(n:Nat) (go:Int→Int→tq13→Option tq41) (K0:Int→Bool→tq13→Option tq41) (K1:Int→tq13→Option tq41) (d c:Int) (a:tq13):Option tq41:=br (decide (c<(a.2.2.2.1.length:Int))) (br (decide (0≤c)&&decide (c<(a.2.2.2.1.length:Int))) (qd (qbo D (List.getD a.2.2.2.1 c.toNat (0,0,())).1 0 19) fun b↦br (!b.1.1) (K0 d false a) (br (decide (0≤c)&&decide (c<(a.2.2.2.1.length:Int))) (qd (qbo D (List.getD a.2.2.2.1 c.toNat (0,0,())).2.1 0 1000) fun b↦br (!b.1.1) (K0 d false a) (go d (wrap .i64 (c+1)) a)) none)) none) (K1 d a)
def qod (D:DX)(n:Nat) (K0:Int→Bool→tq13→Option tq41) (K1:Int→tq13→Option tq41):Nat→Int→Int→tq13→Option tq41 | 0=>(fun a b c=>none) | m+1=>(fun a b c=>qu2 D n (qod D n K0 K1 m) K0 K1 a b c)
def q1b (D:DX)(n:Nat) (b:Int) (a:Bool) (c:tq13):Option tq41:=some ((a,()),())
def qu1 (D:DX)(n:Nat) (go:Int→Int→tq13→Option tq41) (K0:Bool→Option tq41) (K1:Option tq41) (d a:Int) (c:tq13):Option tq41:=let y0:=List.getD c.2.2.2.2.1 a.toNat (0,0,0,0,());br (decide (a<(c.2.2.2.2.1.length:Int))) (br (decide (0≤a)&&decide (a<(c.2.2.2.2.1.length:Int))) (br (bif decide (y0.1<0) then true else decide (y0.1≥d)) (K0 false) (qd (qbo D y0.2.1 1 1000000) fun b↦br (!b.1.1) (K0 false) (qd (qbo D y0.2.2.1 0 20) fun b↦br (!b.1.1) (K0 false) (qd (qbo D y0.2.2.2.1 0 20) fun b↦br (!b.1.1) (K0 false) (go d (wrap .i64 (a+1)) c))))) none) K1
def qnv (D:DX)(n:Nat) (K0:Bool→Option tq41) (K1:Option tq41):Nat→Int→Int→tq13→Option tq41 | 0=>(fun a b c=>none) | m+1=>(fun a b c=>qu1 D n (qnv D n K0 K1 m) K0 K1 a b c)
def qbc6 (D:DX)(n:Nat) (a:Bool):Option tq41:=some ((a,()),())
def qbd8 (D:DX)(n:Nat):Option tq41:=some ((true,()),())
def qsh (D:DX)(n:Nat):(Int)→(Int)→tq13→Option tq41:=(fun a b d=>qnv D n (fun c=>qbc6 D n c) (qbd8 D n) n a b d)
def qqp (D:DX)(n:Nat) (lp2:Int→Int→tq13→Option tq41) (a:Int) (b:tq13):Option tq41:=lp2 a 0 b
def qtd (D:DX)(n:Nat):(Int)→(Int)→tq13→Option tq41:=(fun a b h=>qod D n (fun c d e=>q1b D n c d e) (fun f g=>qqp D n (qsh D n) f g) n a b h)
def qre (D:DX)(n:Nat) (lp1:Int→Int→tq13→Option tq41) (a:Int) (b:tq13):Option tq41:=lp1 a 0 b
def qs9 (D:DX)(n:Nat):(Int)→(Int)→tq13→Option tq41:=(fun x0 x1 x2=>qkn D n (fun a b c=>q1m D n a b c) (fun d e=>qre D n (qtd D n) d e) n x0 x1 x2)
def qxk (D:DX)(n:Nat) (lp0:Int→Int→tq13→Option tq41) (a0:tq13) (a1:Int):Option tq41:=br (decide ((a0.1.length:Int)>8)) (some ((false,()),())) (qd (qbo D a0.2.1 0 (a0.1.length:Int)) fun b↦br (bif !b.1.1 then true else bif a0.2.2.1 then decide (a0.2.1≥(a0.1.length:Int)) else false) (some ((false,()),())) (br (!a0.2.2.1) (br (bif bif decide (wrap .i64 ((a0.2.2.2.1.length:Int)+(a0.2.2.2.2.1.length:Int))>0) then true else decide ((a0.2.2.2.1.length:Int)>12) then true else decide ((a0.2.2.2.2.1.length:Int)>2)) (some ((false,()),())) (lp0 a1 0 a0)) (br (bif bif false then true else decide ((a0.2.2.2.1.length:Int)>12) then true else decide ((a0.2.2.2.2.1.length:Int)>2)) (some ((false,()),())) (lp0 a1 0 a0))))
def qwl (D:DX)(n:Nat) (a0:tq13) (a1:Int):Option tq41:=qxk D n (qs9 D n) a0 a1
def quz (x0 x1:Int) (x2:tq13):St:=stq 139 [(1,AV.val yq34 x0),(2,AV.addr 2 []),(5,AV.val yq34 x1)] [(2,Root.mk yq5 Mk.no x2 true)]
def qq2 (a:Int) (b:Bool) (c:tq13):St:=stq 139 [(1,AV.val yq34 a),(2,AV.addr 2 []),(4,AV.val Ty.bool b)] [(2,Root.mk yq5 Mk.no c true)]
def qrp (a:Int) (b:tq13):St:=stq 139 [(1,AV.val yq34 a),(2,AV.addr 2 [])] [(2,Root.mk yq5 Mk.no b true)]
def quw (a b:Int) (c:tq13):St:=stq 139 [(1,AV.val yq34 a),(2,AV.addr 2 []),(6,AV.val yq34 b)] [(2,Root.mk yq5 Mk.no c true)]
def qrm (a:Int) (b:Bool) (c:tq13):St:=stq 139 [(1,AV.val yq34 a),(2,AV.addr 2 []),(4,AV.val Ty.bool b)] [(2,Root.mk yq5 Mk.no c true)]
def qql (a:Int) (b:tq13):St:=stq 139 [(1,AV.val yq34 a),(2,AV.addr 2 [])] [(2,Root.mk yq5 Mk.no b true)]
def qu7 (a b:Int) (c:tq13):St:=stq 139 [(1,AV.val yq34 a),(2,AV.addr 2 []),(7,AV.val yq34 b)] [(2,Root.mk yq5 Mk.no c true)]
def q1r (a:Bool):St:=stq 139 [(4,AV.val Ty.bool a)] []
def q1d:St:=stq 139 [] []
theorem qbfn (D:DX)(n:Nat) (K:KT 101):∀ (m:Nat) (x0 x1:Int) (x2:tq13),LF D n 101 pq0 m (quz x0 x1 x2) K=qkn D n (fun a b c=>K (Ex.ret) (qq2 a b c)) (fun d e=>K (Ex.exit 0) (qrp d e)) m x0 x1 x2:=eL3 (fun F=>qvb D n F (fun a b c=>K (Ex.ret) (qq2 a b c)) (fun d e=>K (Ex.exit 0) (qrp d e))) (fun _ _ _ =>q7 ..) (fun _ _ _ _ =>by kernel_rfl) (fun _ _ _ _ =>rfl)
theorem qbgg (D:DX)(n:Nat) (K:KT 101):∀ (m:Nat) (f g:Int) (h:tq13),LF D n 101 pq1 m (quw f g h) K=qod D n (fun a b c=>K (Ex.ret) (qrm a b c)) (fun d e=>K (Ex.exit 2) (qql d e)) m f g h:=eL3 (fun F=>qu2 D n F (fun a b c=>K (Ex.ret) (qrm a b c)) (fun d e=>K (Ex.exit 2) (qql d e))) (fun _ _ _ =>q7 ..) (fun _ _ _ _ =>by kernel_rfl) (fun _ _ _ _ =>rfl)
theorem qbga (D:DX)(n:Nat) (K:KT 101):∀ (m:Nat) (b c:Int) (d:tq13),LF D n 101 pq3 m (qu7 b c d) K=qnv D n (fun a=>K (Ex.ret) (q1r a)) (K (Ex.exit 4) (q1d)) m b c d:=eL3 (fun F=>qu1 D n F (fun a=>K (Ex.ret) (q1r a)) (K (Ex.exit 4) (q1d))) (fun _ _ _ =>q7 ..) (fun _ _ _ _ =>by kernel_rfl) (fun _ _ _ _ =>rfl)
theorem qbd7 (D:DX)(n:Nat) (a b:Int) (c:tq13):LF D n 101 pq3 n (qu7 a b c) (CF D n 101 [] pq3 (lF 101))=qsh D n a b c :=by rw[qbga];kernel_rfl
theorem qbdd (D:DX)(n:Nat) (a:Int) (b:Bool) (c:tq13):(CF D n 101 [] pq1 (lF 101)) (Ex.ret) (qrm a b c)=q1b D n a b c:=by kernel_rfl
theorem qbdx (D:DX)(n:Nat) (a:Int) (b:tq13):(CF D n 101 [] pq1 (lF 101)) (Ex.exit 2) (qql a b)=qqp D n (fun c d e=>LF D n 101 pq3 n (qu7 c d e) (CF D n 101 [] pq3 (lF 101))) a b:=by kernel_rfl
theorem qbdz (D:DX)(n:Nat) (a b:Int) (c:tq13):LF D n 101 pq1 n (quw a b c) (CF D n 101 [] pq1 (lF 101))=qtd D n a b c:=by
 rw[qbgg]
 simp only[qbdd,qbdx,qbd7]
 rfl
theorem qbee (D:DX)(n:Nat) (a:Int) (b:Bool) (c:tq13):(CF D n 101 [] pq0 (lF 101)) (Ex.ret) (qq2 a b c)=q1m D n a b c:=by kernel_rfl
theorem qbd5 (D:DX)(n:Nat) (a:Int) (b:tq13):(CF D n 101 [] pq0 (lF 101)) (Ex.exit 0) (qrp a b)=qre D n (fun c d e=>LF D n 101 pq1 n (quw c d e) (CF D n 101 [] pq1 (lF 101))) a b:=by kernel_rfl
theorem qbc3 (D:DX)(n:Nat) (x0) (x1) (x2):LF D n 101 pq0 n (quz x0 x1 x2) (CF D n 101 [] pq0 (lF 101))=qs9 D n x0 x1 x2:=by
 rw[qbfn]
 simp only[qbee,qbd5,qbdz]
 rfl
theorem qbjw (D:DX)(n:Nat) (a0:tq13) (a1:Int):rF D n 101 (a0,(a1,()))=qwl D n a0 a1:=by
 have h:rF D n 101 (a0,(a1,()))=qxk D n (fun x0 x1 x2=>LF D n 101 pq0 n (quz x0 x1 x2) (CF D n 101 [] pq0 (lF 101))) a0 a1:=by kernel_rfl
 rw[h]
 simp only[qbc3]
 rfl

def quj (D:DX)(n:Nat) (go:Int→Int→Int→Int→tq5→tq13→Option tq41) (K0:Bool→Int→Int→tq5→tq13→Option tq41) (K1:Int→Int→tq5→tq13→Option tq41) (x0 x1 x2 x3:Int) (x4:tq5) (x5:tq13):Option tq41:=let y0:=List.getD x4.2.2.2.1 x3.toNat (0,(0,0,0,()),0,0,0,(0,[],()),());br (decide (x3<(x4.2.2.2.1.length:Int))) (br (decide (0≤x3)&&decide (x3<(x4.2.2.2.1.length:Int))) (br (y0.1 != x0) (go x0 x1 x2 (wrap .i64 (x3+1)) x4 x5) (br (decide (0≤x3)&&decide (x3<(x4.2.2.2.1.length:Int))) (br (decide (y0.2.2.2.2.1≥0)) (go x0 x1 (wrap .i64 (x2+1)) (wrap .i64 (x3+1)) x4 x5) (br (bif !x5.2.2.1 then true else x3 != x1) (K0 false x1 x2 x4 x5) (go x0 x1 x2 (wrap .i64 (x3+1)) x4 x5))) none)) none) (K1 x1 x2 x4 x5)
def qnu (D:DX)(n:Nat) (K0:Bool→Int→Int→tq5→tq13→Option tq41) (K1:Int→Int→tq5→tq13→Option tq41):Nat→Int→Int→Int→Int→tq5→tq13→Option tq41 | 0=>(fun x0 x1 x2 x3 x4 x5=>none) | m+1=>(fun x0 x1 x2 x3 x4 x5=>quj D n (qnu D n K0 K1 m) K0 K1 x0 x1 x2 x3 x4 x5)
def qbdh (D:DX)(n:Nat) (a:Bool) (b c:Int) (d:tq5) (e:tq13):Option tq41:=some ((a,()),())
def q1s (D:DX)(n:Nat) (b d:Int) (c:tq5) (a:tq13):Option tq41:=let y0:=List.getD c.2.2.2.1 b.toNat (0,(0,0,0,()),0,0,0,(0,[],()),());br (d != a.2.1) (some ((false,()),())) (br (!a.2.2.1) (some ((true,()),())) (br (decide (b≥0)) (br (decide (0≤b)&&decide (b<(c.2.2.2.1.length:Int))) (br (decide (y0.2.2.2.2.1 = -1)) (br (decide (0≤b)&&decide (b<(c.2.2.2.1.length:Int))) (br (decide (0≤a.2.1)&&decide (a.2.1<(a.1.length:Int))) (some ((qjw yq21 y0.2.1 (List.getD a.1 a.2.1.toNat (0,0,0,())),()),())) none) none) (some ((false,()),()))) none) (some ((false,()),()))))
def qs4 (D:DX)(n:Nat):(Int)→(Int)→(Int)→(Int)→tq5→tq13→Option tq41:=(fun x0 x1 x2 x3 x4 x5=>qnu D n (fun a b c d e=>qbdh D n a b c d e) (fun f g h i=>q1s D n f g h i) n x0 x1 x2 x3 x4 x5)
def qv7 (D:DX)(n:Nat) (lp0:Int→Int→Int→Int→tq5→tq13→Option tq41) (a0:tq5) (a1:Int):Option tq41:=br (decide (0≤a1)&&decide (a1<(a0.2.1.length:Int))) (qd (q15 D a0 a1) fun b↦lp0 a1 b.1.1 0 0 a0 (List.getD a0.2.1 a1.toNat ([],0,false,[],[],()))) none
def qwh (D:DX)(n:Nat) (a0:tq5) (a1:Int):Option tq41:=qv7 D n (qs4 D n) a0 a1
def quq (x0 x1 x2 x3:Int) (x4:tq5) (x5:tq13):St:=stq 84 [(1,AV.val yq34 x0),(2,AV.addr 2 []),(5,AV.addr 5 []),(6,AV.val yq34 x1),(7,AV.val yq34 x2),(8,AV.val yq34 x3)] [(2,Root.mk yq0 Mk.no x4 true),(5,Root.mk yq5 Mk.no x5 true)]
def q1g (a:Bool) (b c:Int) (d:tq5) (e:tq13):St:=stq 84 [(2,AV.addr 2 []),(4,AV.val Ty.bool a),(5,AV.addr 5 []),(6,AV.val yq34 b),(7,AV.val yq34 c)] [(2,Root.mk yq0 Mk.no d true),(5,Root.mk yq5 Mk.no e true)]
def q06 (a b:Int) (c:tq5) (d:tq13):St:=stq 84 [(2,AV.addr 2 []),(5,AV.addr 5 []),(6,AV.val yq34 a),(7,AV.val yq34 b)] [(2,Root.mk yq0 Mk.no c true),(5,Root.mk yq5 Mk.no d true)]
theorem qbgj (D:DX)(n:Nat) (K:KT 102):∀ (m:Nat) (x0 x1 x2 x3:Int) (x4:tq5) (x5:tq13),LF D n 102 pq3 m (quq x0 x1 x2 x3 x4 x5) K=qnu D n (fun a b c d e=>K (Ex.ret) (q1g a b c d e)) (fun f g h i=>K (Ex.exit 0) (q06 f g h i)) m x0 x1 x2 x3 x4 x5:=eL6 (fun F=>quj D n F (fun a b c d e=>K (Ex.ret) (q1g a b c d e)) (fun f g h i=>K (Ex.exit 0) (q06 f g h i))) (fun _ _ _ _ _ _ =>q7 ..) (fun _ _ _ _ _ _ _ =>by kernel_rfl) (fun _ _ _ _ _ _ _ =>rfl)
theorem qbdj (D:DX)(n:Nat) (x0) (x1) (x2) (x3) (x4) (x5):LF D n 102 pq3 n (quq x0 x1 x2 x3 x4 x5) (CF D n 102 [] pq3 (lF 102))=qs4 D n x0 x1 x2 x3 x4 x5 :=by rw[qbgj];kernel_rfl
theorem qblj (D:DX)(n:Nat) (a0:tq5) (a1:Int):rF D n 102 (a0,(a1,()))=qwh D n a0 a1:=by
 have h:rF D n 102 (a0,(a1,()))=qv7 D n (fun x0 x1 x2 x3 x4 x5=>LF D n 102 pq3 n (quq x0 x1 x2 x3 x4 x5) (CF D n 102 [] pq3 (lF 102))) a0 a1:=by kernel_rfl
 rw[h]
 simp only[qbdj]
 rfl

def qw7 (D:DX)(n:Nat) (go:List tq18→Int→Int→tq12→tq12→Option tq10) (K0:tq12→tq12→Option tq10) (x0:List tq18) (x1 x2:Int) (x3 x4:tq12):Option tq10:=br (decide (x2<x1)) (br (decide (0≤x2)&&decide (x2<(x0.length:Int))) (qd (qc7 D (List.getD x0 x2.toNat (0,0,[],(0,[],()),())).2.2.1) fun b↦qd (qif D (List.getD x0 x2.toNat (0,0,[],(0,[],()),())).2.2.2.1) fun b_1↦br (decide (x4.2.1.length+1≤qb8)) (go x0 x1 (wrap .i64 (x2+1)) x3 (x4.1,x4.2.1++[((List.getD x0 x2.toNat (0,0,[],(0,[],()),())).1,(List.getD x0 x2.toNat (0,0,[],(0,[],()),())).2.1,b.1.1,(b_1.1.1.1,b_1.1.1.2.1,()),())],x4.2.2)) none) none) (K0 x3 x4)
def qld (D:DX)(n:Nat) (K0:tq12→tq12→Option tq10):Nat→(List tq18)→Int→Int→tq12→tq12→Option tq10 | 0=>(fun x0 x1 x2 x3 x4=>none) | m+1=>(fun x0 x1 x2 x3 x4=>qw7 D n (qld D n K0 m) K0 x0 x1 x2 x3 x4)
def qbgm (D:DX)(n:Nat) (b a:tq12):Option tq10:=some (((a.1,a.2.1,()),()),())
def qu8 (D:DX)(n:Nat):(List tq18)→(Int)→(Int)→tq12→tq12→Option tq10:=(fun x0 x1 x2 x3 x4=>qld D n (fun a b=>qbgm D n a b) n x0 x1 x2 x3 x4)
def qyh (D:DX)(n:Nat) (lp0:List tq18→Int→Int→tq12→tq12→Option tq10) (a0:tq12):Option tq10:=qd (qfz D a0.1) fun b↦lp0 a0.2.1 (a0.2.1.length:Int) 0 ([],[],()) (b.1.1,[],())
def qzn (D:DX)(n:Nat) (a0:tq12):Option tq10:=qyh D n (qu8 D n) a0
def qwp (x0:List tq18) (x1 x2:Int) (x3 x4:tq12):St:=stq 33 [(2,AV.addr 2 []),(3,AV.addr 3 []),(11,AV.val yq8 x0),(12,AV.val yq34 x1),(13,AV.val yq34 x2)] [(2,Root.mk yq3 kq14 x3 true),(3,Root.mk yq3 kq14 x4 true)]
def q3h (a b:tq12):St:=stq 33 [(2,AV.addr 2 []),(3,AV.addr 3 [])] [(2,Root.mk yq3 kq14 a true),(3,Root.mk yq3 kq14 b true)]
theorem qbie (D:DX)(n:Nat) (K:KT 103):∀ (m:Nat) (x0:List tq18) (x1 x2:Int) (x3 x4:tq12),LF D n 103 pq0 m (qwp x0 x1 x2 x3 x4) K=qld D n (fun a b=>K (Ex.exit 0) (q3h a b)) m x0 x1 x2 x3 x4:=eL5 (fun F=>qw7 D n F (fun a b=>K (Ex.exit 0) (q3h a b))) (fun _ _ _ _ _ =>q7 ..) (fun _ _ _ _ _ _ =>by kernel_rfl) (fun _ _ _ _ _ _ =>rfl)
theorem qbgr (D:DX)(n:Nat) (x0) (x1) (x2) (x3) (x4):LF D n 103 pq0 n (qwp x0 x1 x2 x3 x4) (CF D n 103 [] pq0 (lF 103))=qu8 D n x0 x1 x2 x3 x4 :=by rw[qbie];kernel_rfl
theorem qbnc (D:DX)(n:Nat) (a0:tq12):rF D n 103 (a0,())=qzn D n a0:=by
 have h:rF D n 103 (a0,())=qyh D n (fun x0 x1 x2 x3 x4=>LF D n 103 pq0 n (qwp x0 x1 x2 x3 x4) (CF D n 103 [] pq0 (lF 103))) a0:=by kernel_rfl
 rw[h]
 simp only[qbgr]
 rfl

def q3k (D:DX)(n:Nat) (a0:tq13):Option tq11:=qd (qe3 D a0.1) fun b↦qd (qf6 D a0.2.2.2.1) fun b_1↦qd (qf7 D a0.2.2.2.2.1) fun b_2↦some (((b.1.1,a0.2.1,a0.2.2.1,b_1.1.1,b_2.1.1,()),()),())
def qst (D:DX)(n:Nat) (a0:tq13):Option tq11:=q3k D n a0
theorem qbf9 (D:DX)(n:Nat) (a0:tq13):rF D n 104 (a0,())=qst D n a0:=by kernel_rfl

def qvt (D:DX)(n:Nat) (a0:tq5) (a1:Int):Option tq4:=let y0:=List.getD a0.2.1 a1.toNat ([],0,false,[],[],());br (decide (0≤a1)&&decide (a1<(a0.2.1.length:Int))) (qd (qbbo D y0) fun b↦qd (q19 D (a0.1.1,a0.1.2.1,()) b.1.1) fun b_1↦br (decide (b_1.1.2.2.2.1=1)) (br (bif decide (b.1.1.1=a1) then decide ((y0.2.2.2.2.1.length:Int)=1) else false) (qd (qo0 D y0 b_1.1.2.2.1) fun b↦br (decide (0≤a1)&&decide (a1<(a0.2.1.length:Int))) (some ((),((b_1.1.1.1,b_1.1.1.2.1,()),List.set a0.2.1 a1.toNat (b.1.1.1,b.1.1.2.1,b.1.1.2.2.1,b.1.1.2.2.2.1,b.1.1.2.2.2.2.1,()),a0.2.2),())) none) (qd (qtv D y0 b_1.1.2.2.1) fun b↦br (decide (0≤a1)&&decide (a1<(a0.2.1.length:Int))) (some ((),((b_1.1.1.1,b_1.1.1.2.1,()),List.set a0.2.1 a1.toNat (b.1.1.1,b.1.1.2.1,b.1.1.2.2.1,b.1.1.2.2.2.1,b.1.1.2.2.2.2.1,()),a0.2.2),())) none)) (br (decide (b_1.1.2.2.2.1=2)) (qd (qbav D y0) fun b_2↦let c:=List.set a0.2.1 a1.toNat (b_2.1.1.1,b_2.1.1.2.1,b_2.1.1.2.2.1,b_2.1.1.2.2.2.1,b_2.1.1.2.2.2.2.1,());let a:=List.getD c a1.toNat ([],0,false,[],[],());let e:=List.set c a1.toNat (a.1,a.2.1,a.2.2.1,a.2.2.2.1,[],a.2.2.2.2.2);let d:=List.getD e a1.toNat ([],0,false,[],[],());let f:=List.getD b_1.1.1.2.1 a1.toNat (0,0,[],(0,[],()),());br (decide (0≤a1)&&decide (a1<(a0.2.1.length:Int))) (br (b.1.1.1 != a1) (some ((),((b_1.1.1.1,b_1.1.1.2.1,()),List.set a0.2.1 a1.toNat (b_2.1.1.1,b_2.1.1.2.1,b_2.1.1.2.2.1,b_2.1.1.2.2.2.1,b_2.1.1.2.2.2.2.1,()),a0.2.2),())) (br (decide (0≤a1)&&decide (a1<(c.length:Int))) (br (decide (0≤a1)&&decide (a1<(b_1.1.1.2.1.length:Int))) (br (decide (f.2.1=2)) (qd (qi4 D ((b_1.1.1.1,b_1.1.1.2.1,()),List.set c a1.toNat (a.1,a.2.1,a.2.2.1,a.2.2.2.1,[],a.2.2.2.2.2),a0.2.2) a1 f.2.2.2.1) fun b↦some ((),b.2.1,())) (br (decide (0≤a1)&&decide (a1<(e.length:Int))) (some ((),((b_1.1.1.1,b_1.1.1.2.1,()),List.set e a1.toNat (d.1,d.2.1,d.2.2.1,[],d.2.2.2.2),a0.2.2),())) none)) none) none)) none) (br (decide (b_1.1.2.2.2.1=3)) (br (decide (0≤b.1.1.1)&&decide (b.1.1.1<(b_1.1.1.2.1.length:Int))) (qd (qjm D ((b_1.1.1.1,b_1.1.1.2.1,()),a0.2) b.1.1.1 (List.getD b_1.1.1.2.1 b.1.1.1.toNat (0,0,[],(0,[],()),())).2.2.2.1) fun b↦qd (qtv D y0 b_1.1.2.1) fun b_2↦br (decide (0≤a1)&&decide (a1<(b.2.1.2.1.length:Int))) (some ((),(b.2.1.1,List.set b.2.1.2.1 a1.toNat (b_2.1.1.1,b_2.1.1.2.1,b_2.1.1.2.2.1,b_2.1.1.2.2.2.1,b_2.1.1.2.2.2.2.1,()),b.2.1.2.2),())) none) none) (qd (qtv D y0 b_1.1.2.1) fun b↦br (decide (0≤a1)&&decide (a1<(a0.2.1.length:Int))) (some ((),((b_1.1.1.1,b_1.1.1.2.1,()),List.set a0.2.1 a1.toNat (b.1.1.1,b.1.1.2.1,b.1.1.2.2.1,b.1.1.2.2.2.1,b.1.1.2.2.2.2.1,()),a0.2.2),())) none)))) none
def qmx (D:DX)(n:Nat) (a0:tq5) (a1:Int):Option tq4:=qvt D n a0 a1
theorem q88 (D:DX)(n:Nat) (a0:tq5) (a1:Int):rF D n 105 (a0,(a1,()))=qmx D n a0 a1:=by kernel_rfl

def qya (D:DX)(n:Nat) (a0:tq5) (a1:Int):Option tq1:=let y1:=List.getD a0.2.1 a1.toNat ([],0,false,[],[],());let y0:=List.set a0.2.1 a1.toNat (y1.1,y1.2.1,y1.2.2.1,y1.2.2.2.1,y1.2.2.2.2);let y2:=List.getD y0 a1.toNat ([],0,false,[],[],());let y3:=List.getD y1.1 (Int.toNat y1.2.1) (0,0,0,());br (decide (0≤a1)&&decide (a1<(a0.2.1.length:Int))) (br (decide (0≤y1.2.1)&&decide (y1.2.1<(y1.1.length:Int))) (qd (q8f D y3 y1.2.2.2.1) fun b↦br (decide (b.1.1≥0)) (br (decide (0≤b.1.1)&&decide (b.1.1<(a0.1.1.length:Int))) (br ((List.getD a0.1.1 b.1.1.toNat (0,0,0,())).2.1 != 0) (qd (qo0 D (y1.1,y1.2.1,y1.2.2.1,y1.2.2.2.1,y1.2.2.2.2) (wrap .i64 ((List.getD a0.1.1 b.1.1.toNat (0,0,0,())).2.1 - 1),(List.getD a0.1.1 b.1.1.toNat (0,0,0,())).2.2.1,0,0,())) fun b↦some ((true,()),(a0.1,List.set a0.2.1 a1.toNat (b.1.1.1,b.1.1.2.1,b.1.1.2.2.1,b.1.1.2.2.2.1,b.1.1.2.2.2.2.1,()),a0.2.2),())) (br (decide (y1.2.2.2.1.length+1≤qb8)) (qd (qt8 D y3 (List.getD (List.set y0 a1.toNat (y2.1,y2.2.1,y2.2.2.1,y1.2.2.2.1++[(b.1.1,(List.getD a0.1.1 b.1.1.toNat (0,0,0,())).1,())],y2.2.2.2.2)) a1.toNat ([],0,false,[],[],())).2.2.2.1) fun b_1↦br (!b_1.1.2.1) (some ((true,()),(a0.1,List.set y0 a1.toNat (y2.1,y2.2.1,y2.2.2.1,y1.2.2.2.1++[(b.1.1,(List.getD a0.1.1 b.1.1.toNat (0,0,0,())).1,())],y2.2.2.2.2),a0.2.2),())) (br b_1.1.1.1 (qd (qjm D (a0.1,List.set y0 a1.toNat (y2.1,y2.2.1,y2.2.2.1,y1.2.2.2.1++[(b.1.1,(List.getD a0.1.1 b.1.1.toNat (0,0,0,())).1,())],y2.2.2.2.2),a0.2.2) a1 (b_1.1.1.2.1.1,b_1.1.1.2.1.2.1,())) fun b↦qd (qi4 D b.2.1 a1 (b_1.1.1.2.1.1,b_1.1.1.2.1.2.1,())) fun b↦some ((true,()),b.2.1,())) (qd (qw0 D (a0.1.1,a0.1.2.1,()) a1 b_1.1.1.2.2.1 (b_1.1.1.2.1.1,b_1.1.1.2.1.2.1,())) fun b_2↦let a:=List.set y0 a1.toNat (y2.1,y2.2.1,y2.2.2.1,y1.2.2.2.1++[(b.1.1,(List.getD a0.1.1 b.1.1.toNat (0,0,0,())).1,())],y2.2.2.2.2);br b_2.1.2.2.1 (qd (qo0 D (List.getD a a1.toNat ([],0,false,[],[],())) b_2.1.2.1) fun b_3↦some ((b_2.1.2.2.1,()),((b_2.1.1.1,b_2.1.1.2.1,()),List.set a a1.toNat (b_3.1.1.1,b_3.1.1.2.1,b_3.1.1.2.2.1,b_3.1.1.2.2.2.1,b_3.1.1.2.2.2.2.1,()),a0.2.2),())) none))) none)) none) (qd (qt8 D y3 y1.2.2.2.1) fun b↦br (!b.1.2.1) (some ((true,()),a0,())) (br b.1.1.1 (qd (qjm D a0 a1 (b.1.1.2.1.1,b.1.1.2.1.2.1,())) fun b_1↦qd (qi4 D b_1.2.1 a1 (b.1.1.2.1.1,b.1.1.2.1.2.1,())) fun b↦some ((true,()),b.2.1,())) (qd (qw0 D (a0.1.1,a0.1.2.1,()) a1 b.1.1.2.2.1 (b.1.1.2.1.1,b.1.1.2.1.2.1,())) fun b↦br b.1.2.2.1 (qd (qo0 D (y1.1,y1.2.1,y1.2.2.1,y1.2.2.2.1,y1.2.2.2.2) b.1.2.1) fun b_1↦some ((b.1.2.2.1,()),((b.1.1.1,b.1.1.2.1,()),List.set a0.2.1 a1.toNat (b_1.1.1.1,b_1.1.1.2.1,b_1.1.1.2.2.1,b_1.1.1.2.2.2.1,b_1.1.1.2.2.2.2.1,()),a0.2.2),())) none)))) none) none
def qpp (D:DX)(n:Nat) (a0:tq5) (a1:Int):Option tq1:=qya D n a0 a1
theorem qbcm (D:DX)(n:Nat) (a0:tq5) (a1:Int):rF D n 106 (a0,(a1,()))=qpp D n a0 a1:=by kernel_rfl

def qxf (D:DX)(n:Nat) (go:Int→List tq37→Int→Int→tq37→Option tq26) (K0:Bool→tq37→Option tq26) (K1:tq37→Option tq26) (x0:Int) (x1:List tq37) (x2 x3:Int) (x4:tq37):Option tq26:=br (decide (x3<x2)) (br (decide (0≤x3)&&decide (x3<(x1.length:Int))) (br (decide ((List.getD x1 x3.toNat (0,0,0,())).1=x0)) (K0 true (List.getD x1 x3.toNat (0,0,0,()))) (go x0 x1 x2 (wrap .i64 (x3+1)) x4)) none) (K1 x4)
def qln (D:DX)(n:Nat) (K0:Bool→tq37→Option tq26) (K1:tq37→Option tq26):Nat→Int→(List tq37)→Int→Int→tq37→Option tq26 | 0=>(fun x0 x1 x2 x3 x4=>none) | m+1=>(fun x0 x1 x2 x3 x4=>qxf D n (qln D n K0 K1 m) K0 K1 x0 x1 x2 x3 x4)
def q39 (D:DX)(n:Nat) (a:Bool) (b:tq37):Option tq26:=some ((b,a,()),())
def q3l (D:DX)(n:Nat) (a:tq37):Option tq26:=some (((0,0,0,()),false,()),())
def qun (D:DX)(n:Nat):(Int)→(List tq37)→(Int)→(Int)→tq37→Option tq26:=(fun x0 x1 x2 x3 x4=>qln D n (fun a b=>q39 D n a b) (fun c=>q3l D n c) n x0 x1 x2 x3 x4)
def q0f (D:DX)(n:Nat) (lp0:Int→List tq37→Int→Int→tq37→Option tq26) (a0:tq18) (a1:Int):Option tq26:=lp0 a1 a0.2.2.1 (a0.2.2.1.length:Int) 0 (0,0,0,())
def qy9 (D:DX)(n:Nat) (a0:tq18) (a1:Int):Option tq26:=q0f D n (qun D n) a0 a1
def qxs (x0:Int) (x1:List tq37) (x2 x3:Int) (x4:tq37):St:=stq 22 [(1,AV.val yq34 x0),(4,AV.addr 4 []),(9,AV.val yq19 x1),(10,AV.val yq34 x2),(11,AV.val yq34 x3)] [(4,Root.mk yq21 Mk.no x4 true)]
def q3w (a:Bool) (b:tq37):St:=stq 22 [(4,AV.addr 4 []),(5,AV.val Ty.bool a)] [(4,Root.mk yq21 Mk.no b true)]
def q3s (a:tq37):St:=stq 22 [(4,AV.addr 4 [])] [(4,Root.mk yq21 Mk.no a true)]
theorem qbij (D:DX)(n:Nat) (K:KT 107):∀ (m:Nat) (x0:Int) (x1:List tq37) (x2 x3:Int) (x4:tq37),LF D n 107 pq2 m (qxs x0 x1 x2 x3 x4) K=qln D n (fun a b=>K (Ex.ret) (q3w a b)) (fun c=>K (Ex.exit 0) (q3s c)) m x0 x1 x2 x3 x4:=eL5 (fun F=>qxf D n F (fun a b=>K (Ex.ret) (q3w a b)) (fun c=>K (Ex.exit 0) (q3s c))) (fun _ _ _ _ _ =>q7 ..) (fun _ _ _ _ _ _ =>by kernel_rfl) (fun _ _ _ _ _ _ =>rfl)
theorem qbfw (D:DX)(n:Nat) (x0) (x1) (x2) (x3) (x4):LF D n 107 pq2 n (qxs x0 x1 x2 x3 x4) (CF D n 107 [] pq2 (lF 107))=qun D n x0 x1 x2 x3 x4 :=by rw[qbij];kernel_rfl
theorem qbnw (D:DX)(n:Nat) (a0:tq18) (a1:Int):rF D n 107 (a0,(a1,()))=qy9 D n a0 a1:=by
 have h:rF D n 107 (a0,(a1,()))=q0f D n (fun x0 x1 x2 x3 x4=>LF D n 107 pq2 n (qxs x0 x1 x2 x3 x4) (CF D n 107 [] pq2 (lF 107))) a0 a1:=by kernel_rfl
 rw[h]
 simp only[qbfw]
 rfl


def qg8 (D:DX)(n:Nat) (a1:Clo) (a0:List tq18):Option tq41:=qd (qh2 D a0 a1) fun b↦some ((decide (b.1.1≥0),()),())
def qdr (D:DX)(n:Nat) (a0:List tq18) (a1:Clo):Option tq41:=qg8 D n a1 a0
theorem qm8 (D:DX)(n:Nat) (a0:List tq18) (a1:Clo):rF D n 109 (a0,(a1,()))=qdr D n a0 a1:=by kernel_rfl

def q9h (D:DX)(n:Nat) (a0:tq18):Option tq41:=qd (q3c D a0) fun b↦some ((!b.1.1,()),())
def q0s (D:DX)(n:Nat) (a0:tq18):Option tq41:=q9h D n a0
theorem qbmj (D:DX)(n:Nat) (a0:tq18):rF D n 110 (a0,())=q0s D n a0:=by kernel_rfl

def q0b (D:DX)(n:Nat) (go:List tq37→Int→Int→tq18→Option tq41) (K0:Bool→tq18→Option tq41) (K1:tq18→Option tq41) (x0:List tq37) (x1 x2:Int) (x3:tq18):Option tq41:=let y0:=List.getD x0 x2.toNat (0,0,0,());br (decide (x2<x1)) (br (decide (0≤x2)&&decide (x2<(x0.length:Int))) (qd (qrx D y0.1) fun b↦br (!b.1.1) (K0 false x3) (qd (qij D y0.2.1) fun b↦br (!b.1.1) (K0 false x3) (qd (qij D y0.2.2.1) fun b↦br (!b.1.1) (K0 false x3) (br (decide (x2>0)) (br (decide (0≤wrap .i64 (x2 - 1))&&decide (wrap .i64 (x2 - 1)<(x3.2.2.1.length:Int))) (br (decide ((List.getD x3.2.2.1 (Int.toNat (wrap .i64 (x2 - 1))) (0,0,0,())).1≥y0.1)) (K0 false x3) (go x0 x1 (wrap .i64 (x2+1)) x3)) none) (go x0 x1 (wrap .i64 (x2+1)) x3))))) none) (K1 x3)
def qmp (D:DX)(n:Nat) (K0:Bool→tq18→Option tq41) (K1:tq18→Option tq41):Nat→(List tq37)→Int→Int→tq18→Option tq41 | 0=>(fun x0 x1 x2 x3=>none) | m+1=>(fun x0 x1 x2 x3=>q0b D n (qmp D n K0 K1 m) K0 K1 x0 x1 x2 x3)
def q6a (D:DX)(n:Nat) (a:Bool) (b:tq18):Option tq41:=some ((a,()),())
def qva (D:DX)(n:Nat) (a:tq18):Option tq41:=qd (qbp D a.1 1 1000000) fun b↦br b.1.1 (qd (qbp D a.2.1 1 3) fun b↦some ((bif b.1.1 then decide ((a.2.2.1.length:Int)≤20) else false,()),())) (some ((false,()),()))
def qv2 (D:DX)(n:Nat):(List tq37)→(Int)→(Int)→tq18→Option tq41:=(fun x0 x1 x2 x3=>qmp D n (fun a b=>q6a D n a b) (fun c=>qva D n c) n x0 x1 x2 x3)
def q21 (D:DX)(n:Nat) (lp0:List tq37→Int→Int→tq18→Option tq41) (a0:tq18):Option tq41:=br (decide (a0.1=0)) (some ((bif bif bif decide (a0.2.1=0) then decide ((a0.2.2.1.length:Int)=0) else false then decide (a0.2.2.2.1.1=0) else false then decide ((a0.2.2.2.1.2.1.length:Int)=0) else false,()),())) (lp0 a0.2.2.1 (a0.2.2.1.length:Int) 0 a0)
def q2n (D:DX)(n:Nat) (a0:tq18):Option tq41:=q21 D n (qv2 D n) a0
def q0k (x0:List tq37) (x1 x2:Int) (x3:tq18):St:=stq 85 [(1,AV.addr 1 []),(31,AV.val yq19 x0),(32,AV.val yq34 x1),(33,AV.val yq34 x2)] [(1,Root.mk yq9 Mk.no x3 true)]
def q6r (a:Bool) (b:tq18):St:=stq 85 [(1,AV.addr 1 []),(2,AV.val Ty.bool a)] [(1,Root.mk yq9 Mk.no b true)]
def q5d (a:tq18):St:=stq 85 [(1,AV.addr 1 [])] [(1,Root.mk yq9 Mk.no a true)]
theorem qbjg (D:DX)(n:Nat) (K:KT 111):∀ (m:Nat) (x0:List tq37) (x1 x2:Int) (x3:tq18),LF D n 111 pq0 m (q0k x0 x1 x2 x3) K=qmp D n (fun a b=>K (Ex.ret) (q6r a b)) (fun c=>K (Ex.exit 0) (q5d c)) m x0 x1 x2 x3:=eL4 (fun F=>q0b D n F (fun a b=>K (Ex.ret) (q6r a b)) (fun c=>K (Ex.exit 0) (q5d c))) (fun _ _ _ _ =>q7 ..) (fun _ _ _ _ _ =>by kernel_rfl) (fun _ _ _ _ _ =>rfl)
theorem qbhj (D:DX)(n:Nat) (x0) (x1) (x2) (x3):LF D n 111 pq0 n (q0k x0 x1 x2 x3) (CF D n 111 [] pq0 (lF 111))=qv2 D n x0 x1 x2 x3 :=by rw[qbjg];kernel_rfl
theorem qbpu (D:DX)(n:Nat) (a0:tq18):rF D n 111 (a0,())=q2n D n a0:=by
 have h:rF D n 111 (a0,())=q21 D n (fun x0 x1 x2 x3=>LF D n 111 pq0 n (q0k x0 x1 x2 x3) (CF D n 111 [] pq0 (lF 111))) a0:=by kernel_rfl
 rw[h]
 simp only[qbhj]
 rfl

def qbb7 (D:DX)(n:Nat) (a0:tq37) (a1:Int):Option tq41:=br (decide (a0.2.1=0)) (qd (qij D a0.1) fun b↦some ((bif b.1.1 then decide (a0.2.2.1=0) else false,()),())) (br (decide (a0.1=0)) (qd (qbp D a0.2.1 1 a1) fun b↦br b.1.1 (qd (qbp D a0.2.2.1 1 1000000) fun b↦some ((b.1.1,()),())) (some ((false,()),()))) (some ((false,()),())))
def q2p (D:DX)(n:Nat) (a0:tq37) (a1:Int):Option tq41:=qbb7 D n a0 a1
theorem qbp4 (D:DX)(n:Nat) (a0:tq37) (a1:Int):rF D n 112 (a0,(a1,()))=q2p D n a0 a1:=by kernel_rfl

def qek (D:DX)(n:Nat) (a1:Clo) (go:List tq37→Int→Int→Option tq42) (K0:Int→Option tq42) (K1:Option tq42) (x0:List tq37) (x1 x2:Int):Option tq42:=br (decide (x2<x1)) (br (decide (0≤x2)&&decide (x2<(x0.length:Int))) (qd (qbj ctx D a1 [CapV.val yq21 (List.getD x0 x2.toNat (0,0,0,()))] Ty.bool) fun b↦br b (K0 x2) (go x0 x1 (wrap .i64 (x2+1)))) none) K1
def qb1 (D:DX)(n:Nat) (a1:Clo) (K0:Int→Option tq42) (K1:Option tq42):Nat→(List tq37)→Int→Int→Option tq42 | 0=>(fun x0 x1 x2=>none) | m+1=>(fun x0 x1 x2=>qek D n a1 (qb1 D n a1 K0 K1 m) K0 K1 x0 x1 x2)
def qdq (D:DX)(n:Nat) (a1:Clo) (a:Int):Option tq42:=some ((a,()),())
def qdp (D:DX)(n:Nat) (a1:Clo):Option tq42:=some ((-1,()),())
def qea (D:DX)(n:Nat) (a1:Clo):(List tq37)→(Int)→(Int)→Option tq42:=(fun x0 x1 x2=>qb1 D n a1 (fun a=>qdq D n a1 a) (qdp D n a1) n x0 x1 x2)
def qex (D:DX)(n:Nat) (a1:Clo) (lp0:List tq37→Int→Int→Option tq42) (a0:List tq37):Option tq42:=lp0 a0 (a0.length:Int) 0
def qew (D:DX)(n:Nat) (a0:List tq37) (a1:Clo):Option tq42:=qex D n a1 (qea D n a1) a0
def qeh (a1:Clo) (x0:List tq37) (x1 x2:Int):St:=stq 19 [(0,AV.val yq19 x0),(1,AV.cloV a1),(7,AV.val yq34 x1),(8,AV.val yq34 x2)] []
def qg4 (a1:Clo) (a:Int):St:=stq 19 [(4,AV.val yq34 a)] []
def qg1 (a1:Clo):St:=stq 19 [] []
theorem qns (D:DX)(n:Nat) (a1:Clo) (K:KT 113):∀ (m:Nat) (x0:List tq37) (x1 x2:Int),LF D n 113 pq2 m (qeh a1 x0 x1 x2) K=qb1 D n a1 (fun a=>K (Ex.ret) (qg4 a1 a)) (K (Ex.exit 0) (qg1 a1)) m x0 x1 x2:=eL3 (fun F=>qek D n a1 F (fun a=>K (Ex.ret) (qg4 a1 a)) (K (Ex.exit 0) (qg1 a1))) (fun _ _ _ =>q7 ..) (fun _ _ _ _ =>by kernel_rfl) (fun _ _ _ _ =>rfl)
theorem qnd (D:DX)(n:Nat) (a1:Clo) (x0) (x1) (x2):LF D n 113 pq2 n (qeh a1 x0 x1 x2) (CF D n 113 [] pq2 (lF 113))=qea D n a1 x0 x1 x2 :=by rw[qns];kernel_rfl
theorem qpy (D:DX)(n:Nat) (a0:List tq37) (a1:Clo):rF D n 113 (a0,(a1,()))=qew D n a0 a1:=by
 have h:rF D n 113 (a0,(a1,()))=qex D n a1 (fun x0 x1 x2=>LF D n 113 pq2 n (qeh a1 x0 x1 x2) (CF D n 113 [] pq2 (lF 113))) a0:=by kernel_rfl
 rw[h]
 simp only[qnd]
 rfl

def qp9 (D:DX)(n:Nat) (a0:List Int) (a1:Int):Option tq41:=qd (qlx D a0 a1) fun b↦some ((decide (b.1.1≥0),()),())
def qju (D:DX)(n:Nat) (a0:List Int) (a1:Int):Option tq41:=qp9 D n a0 a1
theorem q4o (D:DX)(n:Nat) (a0:List Int) (a1:Int):rF D n 114 (a0,(a1,()))=qju D n a0 a1:=by kernel_rfl

def q84 (D:DX)(n:Nat) (a0:Int):Option tq42:=qd (qry D a0) fun b↦qd (qk4 D b.1.1 (wrap .i64 (10+a0))) fun b↦some ((b.1.1,()),())
def qz4 (D:DX)(n:Nat) (a0:Int):Option tq42:=q84 D n a0
theorem qbn7 (D:DX)(n:Nat) (a0:Int):rF D n 115 (a0,())=qz4 D n a0:=by kernel_rfl



def qbei (D:DX)(n:Nat) (a0:Int):Option tq41:=qd (qbp D a0 0 3) fun b↦some ((b.1.1,()),())
def q5b (D:DX)(n:Nat) (a0:Int):Option tq41:=qbei D n a0
theorem qbrm (D:DX)(n:Nat) (a0:Int):rF D n 118 (a0,())=q5b D n a0:=by kernel_rfl

def qbaf (D:DX)(n:Nat) (a0:Int):Option tq41:=qd (qbp D a0 0 2) fun b↦some ((b.1.1,()),())
def qza (D:DX)(n:Nat) (a0:Int):Option tq41:=qbaf D n a0
theorem qbne (D:DX)(n:Nat) (a0:Int):rF D n 119 (a0,())=qza D n a0:=by kernel_rfl

def qin (D:DX)(n:Nat) (a1:Clo) (a0:List tq37):Option tq41:=qd (qjt D a0 a1) fun b↦some ((decide (b.1.1≥0),()),())
def qe9 (D:DX)(n:Nat) (a0:List tq37) (a1:Clo):Option tq41:=qin D n a1 a0
theorem qqg (D:DX)(n:Nat) (a0:List tq37) (a1:Clo):rF D n 120 (a0,(a1,()))=qe9 D n a0 a1:=by kernel_rfl

def q3y (D:DX)(n:Nat) (a0:tq37):Option tq41:=qd (qlv D a0) fun b↦some ((!b.1.1,()),())
def qsg (D:DX)(n:Nat) (a0:tq37):Option tq41:=q3y D n a0
theorem qbfp (D:DX)(n:Nat) (a0:tq37):rF D n 121 (a0,())=qsg D n a0:=by kernel_rfl

def qg6 (D:DX)(n:Nat) (a1:Clo) (a0:List tq43):Option tq41:=qd (qh3 D a0 a1) fun b↦some ((decide (b.1.1≥0),()),())
def qd1 (D:DX)(n:Nat) (a0:List tq43) (a1:Clo):Option tq41:=qg6 D n a1 a0
theorem qnb (D:DX)(n:Nat) (a0:List tq43) (a1:Clo):rF D n 122 (a0,(a1,()))=qd1 D n a0 a1:=by kernel_rfl

def q3m (D:DX)(n:Nat) (a0:tq43):Option tq41:=qd (qrx D a0.1) fun b↦br (!b.1.1) (some ((true,()),())) (qd (qij D a0.2.1) fun b↦some ((!b.1.1,()),()))
def qsx (D:DX)(n:Nat) (a0:tq43):Option tq41:=q3m D n a0
theorem qbf0 (D:DX)(n:Nat) (a0:tq43):rF D n 123 (a0,())=qsx D n a0:=by kernel_rfl

def qbae (D:DX)(n:Nat) (a0:Int):Option tq41:=qd (qbp D a0 0 19) fun b↦some ((b.1.1,()),())
def qym (D:DX)(n:Nat) (a0:Int):Option tq41:=qbae D n a0
theorem qbl5 (D:DX)(n:Nat) (a0:Int):rF D n 124 (a0,())=qym D n a0:=by kernel_rfl

def q6m (D:DX)(n:Nat) (a0:Int):Option tq41:=qd (qbp D a0 0 1000) fun b↦some ((b.1.1,()),())
def qum (D:DX)(n:Nat) (a0:Int):Option tq41:=q6m D n a0
theorem qbho (D:DX)(n:Nat) (a0:Int):rF D n 125 (a0,())=qum D n a0:=by kernel_rfl

def qgz (D:DX)(n:Nat) (a1:Clo) (a0:List tq33):Option tq41:=qd (qh5 D a0 a1) fun b↦some ((decide (b.1.1≥0),()),())
def qd0 (D:DX)(n:Nat) (a0:List tq33) (a1:Clo):Option tq41:=qgz D n a1 a0
theorem qne (D:DX)(n:Nat) (a0:List tq33) (a1:Clo):rF D n 126 (a0,(a1,()))=qd0 D n a0 a1:=by kernel_rfl

def q3r (D:DX)(n:Nat) (a0:tq33) (a1:Int):Option tq41:=qd (qbp D a0.1 0 (wrap .i64 (a1 - 1))) fun b↦br (!b.1.1) (some ((true,()),())) (qd (qbp D a0.2.1 1 1000000) fun b↦br (!b.1.1) (some ((true,()),())) (qd (qbp D a0.2.2.1 0 20) fun b↦br (!b.1.1) (some ((true,()),())) (qd (qbp D a0.2.2.2.1 0 20) fun b↦some ((!b.1.1,()),()))))
def qs3 (D:DX)(n:Nat) (a0:tq33) (a1:Int):Option tq41:=q3r D n a0 a1
theorem qbgl (D:DX)(n:Nat) (a0:tq33) (a1:Int):rF D n 127 (a0,(a1,()))=qs3 D n a0 a1:=by kernel_rfl



def qbd9 (D:DX)(n:Nat) (a0:Int):Option tq41:=qd (qbo D a0 1 4) fun b↦some ((b.1.1,()),())
def q5f (D:DX)(n:Nat) (a0:Int):Option tq41:=qbd9 D n a0
theorem qbsu (D:DX)(n:Nat) (a0:Int):rF D n 132 (a0,())=q5f D n a0:=by kernel_rfl

def qbsm (D:DX)(n:Nat) (a0:Int):Option tq41:=some ((bif bif bif decide (a0=1) then true else decide (a0=2) then true else decide (a0=5) then true else decide (a0=10),()),())
def qbc0 (D:DX)(n:Nat) (a0:Int):Option tq41:=qbsm D n a0
theorem qbtx (D:DX)(n:Nat) (a0:Int):rF D n 133 (a0,())=qbc0 D n a0:=by kernel_rfl

def qbdp (D:DX)(n:Nat) (a0:Int):Option tq42:=qd (qv5 D a0) fun b↦br (!b.1.1) (some ((-1,()),())) (some ((a0,()),()))
def q6l (D:DX)(n:Nat) (a0:Int):Option tq42:=qbdp D n a0
theorem qbr0 (D:DX)(n:Nat) (a0:Int):rF D n 134 (a0,())=q6l D n a0:=by kernel_rfl

def qbat (D:DX)(n:Nat) (a0:Int):Option tq42:=qd (qjb D a0) fun b↦br (!b.1.1) (some ((-1,()),())) (some ((wrap .i64 (3+a0),()),()))
def q0r (D:DX)(n:Nat) (a0:Int):Option tq42:=qbat D n a0
theorem qbn0 (D:DX)(n:Nat) (a0:Int):rF D n 135 (a0,())=q0r D n a0:=by kernel_rfl

def qbd4 (D:DX)(n:Nat) (a0:Int):Option tq42:=qd (qjb D a0) fun b↦br (!b.1.1) (some ((-1,()),())) (qd (qr8 D) fun b↦some ((wrap .i64 (b.1.1+a0),()),()))
def q54 (D:DX)(n:Nat) (a0:Int):Option tq42:=qbd4 D n a0
theorem qbtt (D:DX)(n:Nat) (a0:Int):rF D n 136 (a0,())=q54 D n a0:=by kernel_rfl

def qwt (D:DX)(n:Nat) (go:Int→Int→Int→tq39→Option tq42) (K0:Int→Option tq42) (x0 x1 x2:Int) (x3:tq39):Option tq42:=br (decide (x2<(x3.1.length:Int))) (br (decide (0≤x2)&&decide (x2<(x3.1.length:Int))) (qd (qjb D (List.getD x3.1 x2.toNat 0)) fun b↦br b.1.1 (br (decide (0≤x2)&&decide (x2<(x3.1.length:Int))) (qd (q0a D (List.getD x3.1 x2.toNat 0)) fun b↦qd (qq0 D (decide (b.1.1=x0))) fun b↦go x0 (wrap .i64 (x1+b.1.1)) (wrap .i64 (x2+1)) x3) none) (qd (qq0 D false) fun b↦go x0 (wrap .i64 (x1+b.1.1)) (wrap .i64 (x2+1)) x3)) none) (K0 x1)
def qk9 (D:DX)(n:Nat) (K0:Int→Option tq42):Nat→Int→Int→Int→tq39→Option tq42 | 0=>(fun x0 x1 x2 x3=>none) | m+1=>(fun x0 x1 x2 x3=>qwt D n (qk9 D n K0 m) K0 x0 x1 x2 x3)
def q3u (D:DX)(n:Nat) (a:Int):Option tq42:=some ((a,()),())
def qus (D:DX)(n:Nat):(Int)→(Int)→(Int)→tq39→Option tq42:=(fun x0 x1 x2 x3=>qk9 D n (fun a=>q3u D n a) n x0 x1 x2 x3)
def qz6 (D:DX)(n:Nat) (lp0:Int→Int→Int→tq39→Option tq42) (a0:tq39) (a1:Int):Option tq42:=lp0 a1 0 0 a0
def qzc (D:DX)(n:Nat) (a0:tq39) (a1:Int):Option tq42:=qz6 D n (qus D n) a0 a1
def qv3 (x0 x1 x2:Int) (x3:tq39):St:=stq 34 [(1,AV.val yq34 x0),(2,AV.addr 2 []),(5,AV.val yq34 x1),(6,AV.val yq34 x2)] [(2,Root.mk yq25 Mk.no x3 true)]
def q37 (a:Int):St:=stq 34 [(5,AV.val yq34 a)] []
theorem qbic (D:DX)(n:Nat) (K:KT 137):∀ (m:Nat) (x0 x1 x2:Int) (x3:tq39),LF D n 137 pq0 m (qv3 x0 x1 x2 x3) K=qk9 D n (fun a=>K (Ex.exit 0) (q37 a)) m x0 x1 x2 x3:=eL4 (fun F=>qwt D n F (fun a=>K (Ex.exit 0) (q37 a))) (fun _ _ _ _ =>q7 ..) (fun _ _ _ _ _ =>by kernel_rfl) (fun _ _ _ _ _ =>rfl)
theorem qbfx (D:DX)(n:Nat) (x0) (x1) (x2) (x3):LF D n 137 pq0 n (qv3 x0 x1 x2 x3) (CF D n 137 [] pq0 (lF 137))=qus D n x0 x1 x2 x3 :=by rw[qbic];kernel_rfl
theorem qbm9 (D:DX)(n:Nat) (a0:tq39) (a1:Int):rF D n 137 (a0,(a1,()))=qzc D n a0 a1:=by
 have h:rF D n 137 (a0,(a1,()))=qz6 D n (fun x0 x1 x2 x3=>LF D n 137 pq0 n (qv3 x0 x1 x2 x3) (CF D n 137 [] pq0 (lF 137))) a0 a1:=by kernel_rfl
 rw[h]
 simp only[qbfx]
 rfl

def qbad (D:DX)(n:Nat) (a0:Int):Option tq42:=qd (qbo D a0 0 2) fun b↦br (!b.1.1) (some ((-1,()),())) (some ((wrap .i64 (10+a0),()),()))
def qy8 (D:DX)(n:Nat) (a0:Int):Option tq42:=qbad D n a0
theorem qbmq (D:DX)(n:Nat) (a0:Int):rF D n 138 (a0,())=qy8 D n a0:=by kernel_rfl

def qbmd (D:DX)(n:Nat):Option tq42:=some ((13,()),())
def q92 (D:DX)(n:Nat):Option tq42:=qbmd D n
theorem qbn5 (D:DX)(n:Nat):rF D n 139 ()=q92 D n:=by kernel_rfl

def qbab (D:DX)(n:Nat) (go:Int→tq18→Option tq41) (K0:Bool→Option tq41) (K1:Option tq41) (x0:Int) (x1:tq18):Option tq41:=let y0:=List.getD x1.2.2.1 x0.toNat (0,0,0,());br (decide (x0<(x1.2.2.1.length:Int))) (br (decide (0≤x0)&&decide (x0<(x1.2.2.1.length:Int))) (qd (qbo D y0.1 0 19) fun b↦br (!b.1.1) (K0 false) (qd (qbo D y0.2.1 0 1000) fun b↦br (!b.1.1) (K0 false) (qd (qbo D y0.2.2.1 0 1000) fun b↦br (!b.1.1) (K0 false) (br (decide (x0>0)) (br (decide (0≤wrap .i64 (x0 - 1))&&decide (wrap .i64 (x0 - 1)<(x1.2.2.1.length:Int))) (br (decide ((List.getD x1.2.2.1 (Int.toNat (wrap .i64 (x0 - 1))) (0,0,0,())).1≥y0.1)) (K0 false) (go (wrap .i64 (x0+1)) x1)) none) (go (wrap .i64 (x0+1)) x1))))) none) K1
def qzb (D:DX)(n:Nat) (K0:Bool→Option tq41) (K1:Option tq41):Nat→Int→tq18→Option tq41 | 0=>(fun x0 x1=>none) | m+1=>(fun x0 x1=>qbab D n (qzb D n K0 K1 m) K0 K1 x0 x1)
def qbh5 (D:DX)(n:Nat) (a:Bool):Option tq41:=some ((a,()),())
def qbht (D:DX)(n:Nat):Option tq41:=some ((true,()),())
def q8a (D:DX)(n:Nat):(Int)→tq18→Option tq41:=(fun x0 x1=>qzb D n (fun a=>qbh5 D n a) (qbht D n) n x0 x1)
def q2b (D:DX)(n:Nat) (lp0:Int→tq18→Option tq41) (a0:tq18):Option tq41:=br (decide (a0.1=0)) (some ((bif bif bif decide (a0.2.1=0) then decide ((a0.2.2.1.length:Int)=0) else false then decide (a0.2.2.2.1.1=0) else false then decide ((a0.2.2.2.1.2.1.length:Int)=0) else false,()),())) (qd (qbo D a0.1 1 1000000) fun b↦br (!b.1.1) (some ((false,()),())) (qd (qbo D a0.2.1 1 3) fun b↦br (bif !b.1.1 then true else decide ((a0.2.2.1.length:Int)>20)) (some ((false,()),())) (lp0 0 a0)))
def q16 (D:DX)(n:Nat) (a0:tq18):Option tq41:=q2b D n (q8a D n) a0
def q0j (x0:Int) (x1:tq18):St:=stq 90 [(1,AV.addr 1 []),(3,AV.val yq34 x0)] [(1,Root.mk yq9 Mk.no x1 true)]
def q6o (a:Bool):St:=stq 90 [(2,AV.val Ty.bool a)] []
def q56:St:=stq 90 [] []
theorem qbjr (D:DX)(n:Nat) (K:KT 140):∀ (m:Nat) (x0:Int) (x1:tq18),LF D n 140 pq1 m (q0j x0 x1) K=qzb D n (fun a=>K (Ex.ret) (q6o a)) (K (Ex.exit 0) (q56)) m x0 x1:=eL2 (fun F=>qbab D n F (fun a=>K (Ex.ret) (q6o a)) (K (Ex.exit 0) (q56))) (fun _ _ =>q7 ..) (fun _ _ _ =>by kernel_rfl) (fun _ _ _ =>rfl)
theorem qbi8 (D:DX)(n:Nat) (x0) (x1):LF D n 140 pq1 n (q0j x0 x1) (CF D n 140 [] pq1 (lF 140))=q8a D n x0 x1 :=by rw[qbjr];kernel_rfl
theorem qbqs (D:DX)(n:Nat) (a0:tq18):rF D n 140 (a0,())=q16 D n a0:=by
 have h:rF D n 140 (a0,())=q2b D n (fun x0 x1=>LF D n 140 pq1 n (q0j x0 x1) (CF D n 140 [] pq1 (lF 140))) a0:=by kernel_rfl
 rw[h]
 simp only[qbi8]
 rfl

def qbb5 (D:DX)(n:Nat) (a0:tq37) (a1:Int):Option tq41:=br (decide (a0.2.1=0)) (br (decide (a0.2.2.1=0)) (qd (qbo D a0.1 0 1000) fun b↦some ((b.1.1,()),())) (some ((false,()),()))) (br (decide (a0.1=0)) (qd (qbo D a0.2.1 1 a1) fun b↦br b.1.1 (qd (qbo D a0.2.2.1 1 1000000) fun b↦some ((b.1.1,()),())) (some ((false,()),()))) (some ((false,()),())))
def q10 (D:DX)(n:Nat) (a0:tq37) (a1:Int):Option tq41:=qbb5 D n a0 a1
theorem qbqe (D:DX)(n:Nat) (a0:tq37) (a1:Int):rF D n 141 (a0,(a1,()))=q10 D n a0 a1:=by kernel_rfl


def qbde (D:DX)(n:Nat) (a0:Int):Option tq41:=qd (qbo D a0 1 6) fun b↦some ((b.1.1,()),())
def q65 (D:DX)(n:Nat) (a0:Int):Option tq41:=qbde D n a0
theorem qbq9 (D:DX)(n:Nat) (a0:Int):rF D n 143 (a0,())=q65 D n a0:=by kernel_rfl


def qbsv (D:DX)(n:Nat) (a0:Bool):Option tq42:=br a0 (some ((1,()),())) (some ((0,()),()))
def qbd6 (D:DX)(n:Nat) (a0:Bool):Option tq42:=qbsv D n a0
theorem qbt3 (D:DX)(n:Nat) (a0:Bool):rF D n 145 (a0,())=qbd6 D n a0:=by kernel_rfl

def qbg5 (D:DX)(n:Nat) (a0:tq37):Option tq41:=let y1:Option tq41:=qd (qjb D a0.2.2.1) fun b↦some ((b.1.1,()),());let y0:Option tq41:=qd (qbo D a0.2.1 0 2) fun b↦qd (qhf D a0.1) fun b_1↦br b_1.1.1 (br b.1.1 y1 (some ((false,()),()))) (some ((bif b.1.1 then decide (a0.2.2.1=0) else false,()),()));qd (qbo D a0.1 1 10) fun b↦br (!b.1.1) (some ((false,()),())) (qd (qxx D a0.1) fun b↦br b.1.1 (qd (qv5 D a0.2.1) fun b↦br (decide (a0.1=6)) y0 (qd (qhf D a0.1) fun b_1↦br b_1.1.1 (br b.1.1 y1 (some ((false,()),()))) (some ((bif b.1.1 then decide (a0.2.2.1=0) else false,()),())))) (br (decide (a0.1=6)) y0 (qd (qhf D a0.1) fun b↦br b.1.1 (br (decide (a0.2.1=0)) y1 (some ((false,()),()))) (some ((bif decide (a0.2.1=0) then decide (a0.2.2.1=0) else false,()),())))))
def q8i (D:DX)(n:Nat) (a0:tq37):Option tq41:=qbg5 D n a0
theorem qbuo (D:DX)(n:Nat) (a0:tq37):rF D n 146 (a0,())=q8i D n a0:=by kernel_rfl

def q0v (D:DX)(n:Nat) (go:Int→Int→tq5→Option tq42) (K0:Int→Option tq42) (K1:Option tq42) (x0 x1:Int) (x2:tq5):Option tq42:=br (decide (x1≥0)) (br (decide (0≤x1)&&decide (x1<(x2.2.2.2.1.length:Int))) (br (decide ((List.getD x2.2.2.2.1 x1.toNat (0,(0,0,0,()),0,0,0,(0,[],()),())).1=x0)) (K0 x1) (go x0 (wrap .i64 (x1 - 1)) x2)) none) K1
def qr6 (D:DX)(n:Nat) (K0:Int→Option tq42) (K1:Option tq42):Nat→Int→Int→tq5→Option tq42 | 0=>(fun x0 x1 x2=>none) | m+1=>(fun x0 x1 x2=>q0v D n (qr6 D n K0 K1 m) K0 K1 x0 x1 x2)
def qbiz (D:DX)(n:Nat) (a:Int):Option tq42:=some ((a,()),())
def qbiw (D:DX)(n:Nat):Option tq42:=some ((-1,()),())
def qxc (D:DX)(n:Nat):(Int)→(Int)→tq5→Option tq42:=(fun x0 x1 x2=>qr6 D n (fun a=>qbiz D n a) (qbiw D n) n x0 x1 x2)
def q28 (D:DX)(n:Nat) (lp0:Int→Int→tq5→Option tq42) (a0:tq5) (a1:Int):Option tq42:=lp0 a1 (wrap .i64 ((a0.2.2.2.1.length:Int) - 1)) a0
def q2d (D:DX)(n:Nat) (a0:tq5) (a1:Int):Option tq42:=q28 D n (qxc D n) a0 a1
def qyn (x0 x1:Int) (x2:tq5):St:=stq 23 [(1,AV.val yq34 x0),(2,AV.addr 2 []),(5,AV.val yq34 x1)] [(2,Root.mk yq0 Mk.no x2 true)]
def q53 (a:Int):St:=stq 23 [(4,AV.val yq34 a)] []
def q5g:St:=stq 23 [] []
theorem qble (D:DX)(n:Nat) (K:KT 147):∀ (m:Nat) (x0 x1:Int) (x2:tq5),LF D n 147 pq2 m (qyn x0 x1 x2) K=qr6 D n (fun a=>K (Ex.ret) (q53 a)) (K (Ex.exit 0) (q5g)) m x0 x1 x2:=eL3 (fun F=>q0v D n F (fun a=>K (Ex.ret) (q53 a)) (K (Ex.exit 0) (q5g))) (fun _ _ _ =>q7 ..) (fun _ _ _ _ =>by kernel_rfl) (fun _ _ _ _ =>rfl)
theorem qbhx (D:DX)(n:Nat) (x0) (x1) (x2):LF D n 147 pq2 n (qyn x0 x1 x2) (CF D n 147 [] pq2 (lF 147))=qxc D n x0 x1 x2 :=by rw[qble];kernel_rfl
theorem qbql (D:DX)(n:Nat) (a0:tq5) (a1:Int):rF D n 147 (a0,(a1,()))=q2d D n a0 a1:=by
 have h:rF D n 147 (a0,(a1,()))=q28 D n (fun x0 x1 x2=>LF D n 147 pq2 n (qyn x0 x1 x2) (CF D n 147 [] pq2 (lF 147))) a0 a1:=by kernel_rfl
 rw[h]
 simp only[qbhx]
 rfl

def qjo (D:DX)(n:Nat) (a0:List tq37):Option tq28:=br (decide (Int.toNat (a0.length:Int)=0)) (both (some (([],()),())) (br (decide (0+a0.length≤qb8)) (some (([]++a0,()),())) none)) (br (decide (0+a0.length≤qb8)) (some (([]++a0,()),())) none)
def qfy (D:DX)(n:Nat) (a0:List tq37):Option tq28:=qjo D n a0
theorem qsp (D:DX)(n:Nat) (a0:List tq37):rF D n 148 (a0,())=qfy D n a0:=by kernel_rfl

def qix (D:DX)(n:Nat) (a0:List tq37):Option tq28:=br (decide (Int.toNat (a0.length:Int)=0)) (both (some (([],()),())) (br (decide (0+a0.length≤qb8)) (some (([]++a0,()),())) none)) (br (decide (0+a0.length≤qb8)) (some (([]++a0,()),())) none)
def qfi (D:DX)(n:Nat) (a0:List tq37):Option tq28:=qix D n a0
theorem qqw (D:DX)(n:Nat) (a0:List tq37):rF D n 149 (a0,())=qfi D n a0:=by kernel_rfl

def qjq (D:DX)(n:Nat) (a0:List tq43):Option ((List tq43×Unit)×Unit):=br (decide (Int.toNat (a0.length:Int)=0)) (both (some (([],()),())) (br (decide (0+a0.length≤qb8)) (some (([]++a0,()),())) none)) (br (decide (0+a0.length≤qb8)) (some (([]++a0,()),())) none)
def qf5 (D:DX)(n:Nat) (a0:List tq43):Option ((List tq43×Unit)×Unit):=qjq D n a0
theorem qss (D:DX)(n:Nat) (a0:List tq43):rF D n 150 (a0,())=qf5 D n a0:=by kernel_rfl

def qjp (D:DX)(n:Nat) (a0:List tq33):Option ((List tq33×Unit)×Unit):=br (decide (Int.toNat (a0.length:Int)=0)) (both (some (([],()),())) (br (decide (0+a0.length≤qb8)) (some (([]++a0,()),())) none)) (br (decide (0+a0.length≤qb8)) (some (([]++a0,()),())) none)
def qfx (D:DX)(n:Nat) (a0:List tq33):Option ((List tq33×Unit)×Unit):=qjp D n a0
theorem qsq (D:DX)(n:Nat) (a0:List tq33):rF D n 151 (a0,())=qfx D n a0:=by kernel_rfl

def qbj2 (D:DX)(n:Nat) (a0:tq13):Option ((tq33×tq44)×Unit):=br (decide ((a0.2.2.2.2.1.length:Int)=0)) (some (((0,0,0,0,()),false,()),())) (br (decide (0≤wrap .i64 ((a0.2.2.2.2.1.length:Int) - 1))&&decide (wrap .i64 ((a0.2.2.2.2.1.length:Int) - 1)<(a0.2.2.2.2.1.length:Int))) (some ((List.getD a0.2.2.2.2.1 (Int.toNat (wrap .i64 ((a0.2.2.2.2.1.length:Int) - 1))) (0,0,0,0,()),true,()),())) none)
def qba8 (D:DX)(n:Nat) (a0:tq13):Option ((tq33×tq44)×Unit):=qbj2 D n a0
theorem qbw0 (D:DX)(n:Nat) (a0:tq13):rF D n 152 (a0,())=qba8 D n a0:=by kernel_rfl

def qbb8 (D:DX)(n:Nat) (a0:tq12) (a1:tq33):Option tq6:=let y0:=Int.toNat (if 0>a1.2.2.2.1 then 0 else a1.2.2.2.1);qd (qj9 D a0) fun b↦qd (qkd D (b.1.1.1,b.1.1.2.1,())) fun b_1↦br (!b_1.1.1) (some (((b.1.1.1,b.1.1.2.1,()),a1,(0,0,0,0,()),2,()),())) (qd (qbp D a1.1 0 (wrap .i64 ((b.1.1.2.1.length:Int) - 1))) fun b_2↦br (bif !b_2.1.1 then true else decide (a1.2.1<1)) (some (((b.1.1.1,b.1.1.2.1,()),a1,(0,0,0,0,()),2,()),())) (br (decide (0≤a1.1)&&decide (a1.1<(b.1.1.2.1.length:Int))) (br ((List.getD b.1.1.2.1 a1.1.toNat (0,0,[],(0,[],()),())).1 != a1.2.1) (some (((b.1.1.1,b.1.1.2.1,()),a1,(0,0,0,0,()),2,()),())) (br (decide (0≤a1.1)&&decide (a1.1<(b.1.1.2.1.length:Int))) (br (bif (List.getD b.1.1.2.1 a1.1.toNat (0,0,[],(0,[],()),())).2.1 != 0 then bif decide ((List.getD b.1.1.2.1 a1.1.toNat (0,0,[],(0,[],()),())).2.1=1) then true else decide (a1.2.2.2.1<((List.getD b.1.1.2.1 a1.1.toNat (0,0,[],(0,[],()),())).2.2.1.length:Int)) else false) (br (decide ((List.getD b.1.1.2.1 a1.1.toNat (0,0,[],(0,[],()),())).2.1=1)) (qd (q4e D (b.1.1.1,b.1.1.2.1,()) (a1.1,a1.2.1,if 0>a1.2.2.1 then 0 else a1.2.2.1,if 0>a1.2.2.2.1 then 0 else a1.2.2.2.1,a1.2.2.2.2)) fun b↦some (((b.2.1.1,b.2.1.2.1,()),b.1.1,b.1.2.1,b.1.2.2.1,()),())) (br (bif decide ((List.getD b.1.1.2.1 a1.1.toNat (0,0,[],(0,[],()),())).2.1=0) then true else decide ((if 0>a1.2.2.2.1 then 0 else a1.2.2.2.1)≥((List.getD b.1.1.2.1 a1.1.toNat (0,0,[],(0,[],()),())).2.2.1.length:Int))) (some (((b.1.1.1,b.1.1.2.1,()),(a1.1,a1.2.1,if 0>a1.2.2.1 then 0 else a1.2.2.1,if 0>a1.2.2.2.1 then 0 else a1.2.2.2.1,a1.2.2.2.2),(0,0,0,0,()),2,()),())) (br (decide (0≤if 0>a1.2.2.2.1 then 0 else a1.2.2.2.1)&&decide ((if 0>a1.2.2.2.1 then 0 else a1.2.2.2.1)<((List.getD b.1.1.2.1 a1.1.toNat (0,0,[],(0,[],()),())).2.2.1.length:Int))) (br (decide (0≤(List.getD (List.getD b.1.1.2.1 a1.1.toNat (0,0,[],(0,[],()),())).2.2.1 y0 (0,0,0,())).1)&&decide ((List.getD (List.getD b.1.1.2.1 a1.1.toNat (0,0,[],(0,[],()),())).2.2.1 y0 (0,0,0,())).1<(b.1.1.1.length:Int))) (br (qjw yq21 (List.getD b.1.1.1 (Int.toNat (List.getD (List.getD b.1.1.2.1 a1.1.toNat (0,0,[],(0,[],()),())).2.2.1 y0 (0,0,0,())).1) (0,0,0,())) (0,wrap .i64 (a1.1+1),a1.2.1,())) (br (decide ((List.getD b.1.1.2.1 a1.1.toNat (0,0,[],(0,[],()),())).2.1=2)) (some (((List.set (List.set b.1.1.1 (Int.toNat (List.getD (List.getD b.1.1.2.1 a1.1.toNat (0,0,[],(0,[],()),())).2.2.1 y0 (0,0,0,())).1) ((List.getD (List.getD b.1.1.2.1 a1.1.toNat (0,0,[],(0,[],()),())).2.2.1 y0 (0,0,0,())).2.1,0,0,())) (Int.toNat (List.getD (List.getD b.1.1.2.1 a1.1.toNat (0,0,[],(0,[],()),())).2.2.1 y0 (0,0,0,())).1) ((List.getD (List.getD b.1.1.2.1 a1.1.toNat (0,0,[],(0,[],()),())).2.2.1 y0 (0,0,0,())).2.2.1,(List.getD (List.set b.1.1.1 (Int.toNat (List.getD (List.getD b.1.1.2.1 a1.1.toNat (0,0,[],(0,[],()),())).2.2.1 y0 (0,0,0,())).1) ((List.getD (List.getD b.1.1.2.1 a1.1.toNat (0,0,[],(0,[],()),())).2.2.1 y0 (0,0,0,())).2.1,0,0,())) (Int.toNat (List.getD (List.getD b.1.1.2.1 a1.1.toNat (0,0,[],(0,[],()),())).2.2.1 y0 (0,0,0,())).1) (0,0,0,())).2),b.1.1.2.1,()),(a1.1,a1.2.1,if 0>a1.2.2.1 then 0 else a1.2.2.1,wrap .i64 ((if 0>a1.2.2.2.1 then 0 else a1.2.2.2.1)+1),a1.2.2.2.2),(0,0,0,0,()),0,()),())) (some (((List.set b.1.1.1 (Int.toNat (List.getD (List.getD b.1.1.2.1 a1.1.toNat (0,0,[],(0,[],()),())).2.2.1 y0 (0,0,0,())).1) ((List.getD (List.getD b.1.1.2.1 a1.1.toNat (0,0,[],(0,[],()),())).2.2.1 y0 (0,0,0,())).2.1,0,0,()),b.1.1.2.1,()),(a1.1,a1.2.1,if 0>a1.2.2.1 then 0 else a1.2.2.1,wrap .i64 ((if 0>a1.2.2.2.1 then 0 else a1.2.2.2.1)+1),a1.2.2.2.2),(0,0,0,0,()),0,()),()))) (some (((b.1.1.1,b.1.1.2.1,()),(a1.1,a1.2.1,if 0>a1.2.2.1 then 0 else a1.2.2.1,wrap .i64 ((if 0>a1.2.2.2.1 then 0 else a1.2.2.2.1)+1),a1.2.2.2.2),(0,0,0,0,()),0,()),()))) none) none))) (br (decide ((List.getD b.1.1.2.1 a1.1.toNat (0,0,[],(0,[],()),())).2.1=1)) (qd (q4e D (b.1.1.1,b.1.1.2.1,()) a1) fun b↦some (((b.2.1.1,b.2.1.2.1,()),b.1.1,b.1.2.1,b.1.2.2.1,()),())) (br (bif decide ((List.getD b.1.1.2.1 a1.1.toNat (0,0,[],(0,[],()),())).2.1=0) then true else decide (a1.2.2.2.1≥((List.getD b.1.1.2.1 a1.1.toNat (0,0,[],(0,[],()),())).2.2.1.length:Int))) (some (((b.1.1.1,b.1.1.2.1,()),a1,(0,0,0,0,()),2,()),())) (br (decide (0≤a1.2.2.2.1)&&decide (a1.2.2.2.1<((List.getD b.1.1.2.1 a1.1.toNat (0,0,[],(0,[],()),())).2.2.1.length:Int))) (br (decide (0≤(List.getD (List.getD b.1.1.2.1 a1.1.toNat (0,0,[],(0,[],()),())).2.2.1 a1.2.2.2.1.toNat (0,0,0,())).1)&&decide ((List.getD (List.getD b.1.1.2.1 a1.1.toNat (0,0,[],(0,[],()),())).2.2.1 a1.2.2.2.1.toNat (0,0,0,())).1<(b.1.1.1.length:Int))) (br (qjw yq21 (List.getD b.1.1.1 (Int.toNat (List.getD (List.getD b.1.1.2.1 a1.1.toNat (0,0,[],(0,[],()),())).2.2.1 a1.2.2.2.1.toNat (0,0,0,())).1) (0,0,0,())) (0,wrap .i64 (a1.1+1),a1.2.1,())) (br (decide ((List.getD b.1.1.2.1 a1.1.toNat (0,0,[],(0,[],()),())).2.1=2)) (some (((List.set (List.set b.1.1.1 (Int.toNat (List.getD (List.getD b.1.1.2.1 a1.1.toNat (0,0,[],(0,[],()),())).2.2.1 a1.2.2.2.1.toNat (0,0,0,())).1) ((List.getD (List.getD b.1.1.2.1 a1.1.toNat (0,0,[],(0,[],()),())).2.2.1 a1.2.2.2.1.toNat (0,0,0,())).2.1,0,0,())) (Int.toNat (List.getD (List.getD b.1.1.2.1 a1.1.toNat (0,0,[],(0,[],()),())).2.2.1 a1.2.2.2.1.toNat (0,0,0,())).1) ((List.getD (List.getD b.1.1.2.1 a1.1.toNat (0,0,[],(0,[],()),())).2.2.1 a1.2.2.2.1.toNat (0,0,0,())).2.2.1,(List.getD (List.set b.1.1.1 (Int.toNat (List.getD (List.getD b.1.1.2.1 a1.1.toNat (0,0,[],(0,[],()),())).2.2.1 a1.2.2.2.1.toNat (0,0,0,())).1) ((List.getD (List.getD b.1.1.2.1 a1.1.toNat (0,0,[],(0,[],()),())).2.2.1 a1.2.2.2.1.toNat (0,0,0,())).2.1,0,0,())) (Int.toNat (List.getD (List.getD b.1.1.2.1 a1.1.toNat (0,0,[],(0,[],()),())).2.2.1 a1.2.2.2.1.toNat (0,0,0,())).1) (0,0,0,())).2),b.1.1.2.1,()),(a1.1,a1.2.1,a1.2.2.1,wrap .i64 (a1.2.2.2.1+1),a1.2.2.2.2),(0,0,0,0,()),0,()),())) (some (((List.set b.1.1.1 (Int.toNat (List.getD (List.getD b.1.1.2.1 a1.1.toNat (0,0,[],(0,[],()),())).2.2.1 a1.2.2.2.1.toNat (0,0,0,())).1) ((List.getD (List.getD b.1.1.2.1 a1.1.toNat (0,0,[],(0,[],()),())).2.2.1 a1.2.2.2.1.toNat (0,0,0,())).2.1,0,0,()),b.1.1.2.1,()),(a1.1,a1.2.1,a1.2.2.1,wrap .i64 (a1.2.2.2.1+1),a1.2.2.2.2),(0,0,0,0,()),0,()),()))) (some (((b.1.1.1,b.1.1.2.1,()),(a1.1,a1.2.1,a1.2.2.1,wrap .i64 (a1.2.2.2.1+1),a1.2.2.2.2),(0,0,0,0,()),0,()),()))) none) none)))) none)) none))
def q2g (D:DX)(n:Nat) (a0:tq12) (a1:tq33):Option tq6:=qbb8 D n a0 a1
theorem qbpv (D:DX)(n:Nat) (a0:tq12) (a1:tq33):rF D n 153 (a0,(a1,()))=q2g D n a0 a1:=by kernel_rfl

def qbgw (D:DX)(n:Nat) (a0:tq13) (a1:tq33):Option tq11:=qd (qhp D a0) fun b↦br (decide (b.1.1.2.2.2.2.1.length+1≤qb8)) (some (((b.1.1.1,b.1.1.2.1,b.1.1.2.2.1,b.1.1.2.2.2.1,b.1.1.2.2.2.2.1++[a1],()),()),())) none
def q8u (D:DX)(n:Nat) (a0:tq13) (a1:tq33):Option tq11:=qbgw D n a0 a1
theorem qbun (D:DX)(n:Nat) (a0:tq13) (a1:tq33):rF D n 154 (a0,(a1,()))=q8u D n a0 a1:=by kernel_rfl

def qbhd (D:DX)(n:Nat) (a0:tq13) (a1:tq33):Option tq11:=qd (qhp D a0) fun b↦br (decide ((b.1.1.2.2.2.2.1.length:Int)>0)) (br (decide (0≤wrap .i64 ((b.1.1.2.2.2.2.1.length:Int) - 1))&&decide (wrap .i64 ((b.1.1.2.2.2.2.1.length:Int) - 1)<(b.1.1.2.2.2.2.1.length:Int))) (some (((b.1.1.1,b.1.1.2.1,b.1.1.2.2.1,b.1.1.2.2.2.1,List.set b.1.1.2.2.2.2.1 (Int.toNat (wrap .i64 ((b.1.1.2.2.2.2.1.length:Int) - 1))) a1,()),()),())) none) (some (((b.1.1.1,b.1.1.2.1,b.1.1.2.2.1,b.1.1.2.2.2.1,b.1.1.2.2.2.2.1,()),()),()))
def q8j (D:DX)(n:Nat) (a0:tq13) (a1:tq33):Option tq11:=qbhd D n a0 a1
theorem qbu7 (D:DX)(n:Nat) (a0:tq13) (a1:tq33):rF D n 155 (a0,(a1,()))=q8j D n a0 a1:=by kernel_rfl

def qbk5 (D:DX)(n:Nat) (a0:tq13):Option tq11:=qd (qhp D a0) fun b↦br (decide ((b.1.1.2.2.2.2.1.length:Int)>0)) (br (decide (0≤wrap .i64 ((b.1.1.2.2.2.2.1.length:Int) - 1))&&decide (wrap .i64 ((b.1.1.2.2.2.2.1.length:Int) - 1)≤(b.1.1.2.2.2.2.1.length:Int))) (some (((b.1.1.1,b.1.1.2.1,b.1.1.2.2.1,b.1.1.2.2.2.1,List.take (Int.toNat (wrap .i64 ((b.1.1.2.2.2.2.1.length:Int) - 1))) b.1.1.2.2.2.2.1,()),()),())) none) (some (((b.1.1.1,b.1.1.2.1,b.1.1.2.2.1,b.1.1.2.2.2.1,b.1.1.2.2.2.2.1,()),()),()))
def qbbw (D:DX)(n:Nat) (a0:tq13):Option tq11:=qbk5 D n a0
theorem qbwq (D:DX)(n:Nat) (a0:tq13):rF D n 156 (a0,())=qbbw D n a0:=by kernel_rfl

def qx4 (D:DX)(n:Nat) (z0:Int) (z1:tq5):Option tq4:=let y5:=List.getD z1.2.1 z0.toNat ([],0,false,[],[],());let y2:=List.set z1.2.1 z0.toNat (y5.1,wrap .i64 (y5.2.1+1),y5.2.2);let y6:=List.getD y2 z0.toNat ([],0,false,[],[],());let y0:=List.set y2 z0.toNat (y6.1,y6.2.1,false,y6.2.2.2);let y4:=List.getD y0 z0.toNat ([],0,false,[],[],());let y1:=List.set y0 z0.toNat (y4.1,y4.2.1,y4.2.2.1,[],y4.2.2.2.2);let y3:=List.getD y1 z0.toNat ([],0,false,[],[],());br (decide (0≤z0)&&decide (z0<(z1.2.1.length:Int))) (some ((),(z1.1,List.set y1 z0.toNat (y3.1,y3.2.1,y3.2.2.1,y3.2.2.2.1,[],y3.2.2.2.2.2),z1.2.2),())) none
def qo9 (D:DX)(n:Nat) (z0:Int) (z1:tq5):Option tq4:=qx4 D n z0 z1
def qrr (D:DX)(n:Nat) (j0:Int→tq5→Option tq4) (a0:tq5) (a1:Int) (a2:tq40):Option tq4:=qd (qhw D a0 a1) fun b↦br (decide (b.1.1≥0)) (br (decide (0≤b.1.1)&&decide (b.1.1<(b.2.1.2.2.2.1.length:Int))) (qd (qif D a2) fun b_1↦let c:=List.getD b.2.1.2.2.2.1 b.1.1.toNat (0,(0,0,0,()),0,0,0,(0,[],()),());let d:=List.set b.2.1.2.2.2.1 b.1.1.toNat (c.1,c.2.1,c.2.2.1,c.2.2.2.1,b.2.1.2.2.1,c.2.2.2.2.2);let a:=List.getD d b.1.1.toNat (0,(0,0,0,()),0,0,0,(0,[],()),());br (decide (0≤b.1.1)&&decide (b.1.1<(d.length:Int))) (j0 a1 (b.2.1.1,b.2.1.2.1,b.2.1.2.2.1,List.set d b.1.1.toNat (a.1,a.2.1,a.2.2.1,a.2.2.2.1,a.2.2.2.2.1,(b_1.1.1.1,b_1.1.1.2.1,()),a.2.2.2.2.2.2),b.2.1.2.2.2.2)) none) none) (j0 a1 b.2.1)
def qq4 (D:DX)(n:Nat) (a0:tq5) (a1:Int) (a2:tq40):Option tq4:=qrr D n (fun z0 z1=>qo9 D n z0 z1) a0 a1 a2
def qx1 (z0:Int) (z1:tq5):St:=stq 55 [(0,AV.addr 0 []),(1,AV.val yq34 z0)] [(0,Root.mk yq0 kq15 z1 true)]
theorem q9p (D:DX)(n:Nat) (z0) (z1):qgy ctx D (ctx.hints 157) n (qk8 (bF 157) [.r,.r]) (qx1 z0 z1) (lF 157)=qo9 D n z0 z1:=by kernel_rfl
theorem qbcn (D:DX)(n:Nat) (K:St→Option (Out ctx 157)) (a0:tq5) (a1:Int) (a2:tq40):qbak ctx D (ctx.hints 157) n 2 (bF 157) (qbno (C:=ctx) qk0 157 (a0,(a1,(a2,())))) K (lF 157)=qrr D n (fun z0 z1=>K (qx1 z0 z1)) a0 a1 a2:=by kernel_rfl
theorem qbew (D:DX)(n:Nat) (a0:tq5) (a1:Int) (a2:tq40):rF D n 157 (a0,(a1,(a2,())))=qq4 D n a0 a1 a2:=
 (qb0q qk0 D n 157 _ (by kernel_rfl)).trans ((qb1m ctx D (ctx.hints 157) n 2 (lF 157) (bF 157) [.r,.r] _ rfl (by kernel_rfl)).symm.trans ((qbcn D n (fun S=>qgy ctx D (ctx.hints 157) n (qk8 (bF 157) [.r,.r]) S (lF 157)) a0 a1 a2).trans (by simp only[q9p];rfl)))

def q3j (D:DX)(n:Nat) (a0:tq5) (a1:Int) (a2:tq40):Option tq4:=qd (qhw D a0 a1) fun b↦br (decide (b.1.1<0)) (some ((),b.2.1,())) (br (decide (0≤b.1.1)&&decide (b.1.1<(b.2.1.2.2.2.1.length:Int))) (qd (qif D a2) fun b_1↦let c:=List.getD b.2.1.2.2.2.1 b.1.1.toNat (0,(0,0,0,()),0,0,0,(0,[],()),());let d:=List.set b.2.1.2.2.2.1 b.1.1.toNat (c.1,c.2.1,c.2.2.1,b.2.1.2.2.1,c.2.2.2.2);let a:=List.getD d b.1.1.toNat (0,(0,0,0,()),0,0,0,(0,[],()),());br (decide (0≤b.1.1)&&decide (b.1.1<(d.length:Int))) (br (decide (b.2.1.2.2.2.2.1.length+1≤qb8)) (some ((),(b.2.1.1,b.2.1.2.1,b.2.1.2.2.1,List.set d b.1.1.toNat (a.1,a.2.1,a.2.2.1,a.2.2.2.1,a.2.2.2.2.1,(b_1.1.1.1,b_1.1.1.2.1,()),a.2.2.2.2.2.2),b.2.1.2.2.2.2.1++[b.1.1],b.2.1.2.2.2.2.2),())) none) none) none)
def qs8 (D:DX)(n:Nat) (a0:tq5) (a1:Int) (a2:tq40):Option tq4:=q3j D n a0 a1 a2
theorem qbf8 (D:DX)(n:Nat) (a0:tq5) (a1:Int) (a2:tq40):rF D n 158 (a0,(a1,(a2,())))=qs8 D n a0 a1 a2:=by kernel_rfl

def qbg1 (D:DX)(n:Nat) (a0:tq37) (a1:List tq43):Option tq42:=qd (qlv D a0) fun b↦br (!b.1.1) (some ((-1,()),())) (qd (qw5 D a0 a1) fun b↦some ((b.1.1.2.2.1,()),()))
def q8g (D:DX)(n:Nat) (a0:tq37) (a1:List tq43):Option tq42:=qbg1 D n a0 a1
theorem qbuf (D:DX)(n:Nat) (a0:tq37) (a1:List tq43):rF D n 159 (a0,(a1,()))=q8g D n a0 a1:=by kernel_rfl

def qyp (D:DX)(n:Nat) (go:List tq43→Int→Int→Int→Int→tq37→tq22→tq22→tq24→Option tq14) (K0:List tq43→tq37→tq22→tq22→Option tq14) (x0:List tq43) (x1 x2 x3 x4:Int) (x5:tq37) (x6 x7:tq22) (x8:tq24):Option tq14:=br (decide (x4<x3)) (br (decide (0≤x4)&&decide (x4<(x8.2.1.length:Int))) (qd (qer D x0 (List.getD x8.2.1 x4.toNat 0)) fun b↦qd (q3g D x5 (List.getD x8.2.1 x4.toNat 0) b.1.1 x2 x1) fun b_1↦br (decide (x7.2.2.1.length+1≤qb8)) (br (decide (x5.1=7)) (br (decide (x7.2.1.2.1.length+1≤qb8)) (go x0 x1 x2 x3 (wrap .i64 (x4+1)) x5 x6 (x7.1,(x7.2.1.1,x7.2.1.2.1++[b.1.1],x7.2.1.2.2),x7.2.2.1++[(List.getD x8.2.1 x4.toNat 0,b.1.1,b_1.1.1,())],x7.2.2.2) x8) none) (go x0 x1 x2 x3 (wrap .i64 (x4+1)) x5 x6 (x7.1,x7.2.1,x7.2.2.1++[(List.getD x8.2.1 x4.toNat 0,b.1.1,b_1.1.1,())],x7.2.2.2) x8)) none) none) (K0 x0 x5 x6 x7)
def qka (D:DX)(n:Nat) (K0:List tq43→tq37→tq22→tq22→Option tq14):Nat→(List tq43)→Int→Int→Int→Int→tq37→tq22→tq22→tq24→Option tq14 | 0=>(fun x0 x1 x2 x3 x4 x5 x6 x7 x8=>none) | m+1=>(fun x0 x1 x2 x3 x4 x5 x6 x7 x8=>qyp D n (qka D n K0 m) K0 x0 x1 x2 x3 x4 x5 x6 x7 x8)
def qkm (D:DX)(n:Nat) (d:List tq43) (c:tq37) (e a:tq22):Option tq14:=br (decide (c.1=10)) (qd (qej D c.2.2.1) fun b↦qd (qer D d b.1.1) fun b↦br (b.1.1 != 0) (some (((a.1,(0,[wrap .i64 (b.1.1 - 1)],()),a.2.2.1,()),true,()),())) (some (((a.1,(3,a.2.1.2.1,()),a.2.2.1,()),true,()),()))) (some (((a.1,(a.2.1.1,a.2.1.2.1,()),a.2.2.1,()),true,()),()))
def qv4 (D:DX)(n:Nat):(List tq43)→(Int)→(Int)→(Int)→(Int)→tq37→tq22→tq22→tq24→Option tq14:=(fun x0 x1 x2 x3 x4 x5 x6 x7 x8=>qka D n (fun a b c d=>qkm D n a b c d) n x0 x1 x2 x3 x4 x5 x6 x7 x8)
def q2t (D:DX)(n:Nat) (lp0:List tq43→Int→Int→Int→Int→tq37→tq22→tq22→tq24→Option tq14) (a0:tq37) (a1:List tq43):Option tq14:=qd (qlv D a0) fun b↦br (!b.1.1) (some (((false,(0,[],()),[],()),false,()),())) (qd (qw5 D a0 a1) fun b↦br (decide (b.1.1.2.2.1≥0)) (some (((false,(0,[],()),[],()),false,()),())) (qd (q3b D a0 a1) fun b_1↦br b_1.1.2.1 (some (((true,(b_1.1.1.1,b_1.1.1.2.1,()),[],()),true,()),())) (qd (qcp D) fun b_2↦qd (qer D a1 b_2.1.1) fun b_3↦qd (qfd D a0.2.1) fun b_4↦qd (qer D a1 b_4.1.1) fun b_5↦br (decide (a0.1=9)) (qd (qfd D (wrap .i64 (b_3.1.1 - 1))) fun b_6↦qd (qer D a1 b_6.1.1) fun b_7↦br (bif bif decide (a0.1=1) then true else decide (a0.1=2) then true else decide (a0.1=3)) (qd (qr2 D a0 a1 b_7.1.1 b_3.1.1) fun b↦some (((false,(0,[],()),b.1.1,()),true,()),())) (qd (qjc D b.1.1.2.1) fun b_8↦lp0 a1 b_3.1.1 b_7.1.1 (b_8.2.1.length:Int) 0 a0 (false,(0,[],()),[],()) (false,(0,[],()),[],()) (b.1.1.1,b_8.2.1,b.1.1.2.2))) (br (bif bif decide (a0.1=1) then true else decide (a0.1=2) then true else decide (a0.1=3)) (qd (qr2 D a0 a1 b_5.1.1 b_3.1.1) fun b↦some (((false,(0,[],()),b.1.1,()),true,()),())) (qd (qjc D b.1.1.2.1) fun b_6↦lp0 a1 b_3.1.1 b_5.1.1 (b_6.2.1.length:Int) 0 a0 (false,(0,[],()),[],()) (false,(0,[],()),[],()) (b.1.1.1,b_6.2.1,b.1.1.2.2))))))
def q3f (D:DX)(n:Nat) (a0:tq37) (a1:List tq43):Option tq14:=q2t D n (qv4 D n) a0 a1
def qyo (x0:List tq43) (x1 x2 x3 x4:Int) (x5:tq37) (x6 x7:tq22) (x8:tq24):St:=stq 154 [(1,AV.val yq24 x0),(2,AV.addr 2 []),(4,AV.addr 4 []),(9,AV.val yq34 x1),(11,AV.val yq34 x2),(13,AV.addr 13 []),(95,AV.brw 26 [Stp.snd,Stp.fst] 0),(96,AV.val yq34 x3),(97,AV.val yq34 x4)] [(2,Root.mk yq21 Mk.no x5 true),(4,Root.mk yq11 kq22 x6 true),(13,Root.mk yq11 kq22 x7 true),(26,Root.mk yq12 kq28 x8 true)]
def q63 (a:List tq43) (b:tq37) (c d:tq22):St:=stq 154 [(1,AV.val yq24 a),(2,AV.addr 2 []),(4,AV.addr 4 []),(13,AV.addr 13 [])] [(2,Root.mk yq21 Mk.no b true),(4,Root.mk yq11 kq22 c true),(13,Root.mk yq11 kq22 d true)]
theorem qbkz (D:DX)(n:Nat) (K:KT 160):∀ (m:Nat) (x0:List tq43) (x1 x2 x3 x4:Int) (x5:tq37) (x6 x7:tq22) (x8:tq24),LF D n 160 pq4 m (qyo x0 x1 x2 x3 x4 x5 x6 x7 x8) K=qka D n (fun a b c d=>K (Ex.exit 0) (q63 a b c d)) m x0 x1 x2 x3 x4 x5 x6 x7 x8:=eL9 (fun F=>qyp D n F (fun a b c d=>K (Ex.exit 0) (q63 a b c d))) (fun _ _ _ _ _ _ _ _ _ =>q7 ..) (fun _ _ _ _ _ _ _ _ _ _ =>by kernel_rfl) (fun _ _ _ _ _ _ _ _ _ _ =>rfl)
theorem qbh2 (D:DX)(n:Nat) (x0) (x1) (x2) (x3) (x4) (x5) (x6) (x7) (x8):LF D n 160 pq4 n (qyo x0 x1 x2 x3 x4 x5 x6 x7 x8) (CF D n 160 [] pq4 (lF 160))=qv4 D n x0 x1 x2 x3 x4 x5 x6 x7 x8 :=by rw[qbkz];kernel_rfl
theorem qbqp (D:DX)(n:Nat) (a0:tq37) (a1:List tq43):rF D n 160 (a0,(a1,()))=q3f D n a0 a1:=by
 have h:rF D n 160 (a0,(a1,()))=q2t D n (fun x0 x1 x2 x3 x4 x5 x6 x7 x8=>LF D n 160 pq4 n (qyo x0 x1 x2 x3 x4 x5 x6 x7 x8) (CF D n 160 [] pq4 (lF 160))) a0 a1:=by kernel_rfl
 rw[h]
 simp only[qbh2]
 rfl

def qbeg (D:DX)(n:Nat) (a0:tq12) (a1:Int) (a2:List tq37) (a3:tq40):Option tq8:=let y0:=List.getD a0.2.1 a1.toNat (0,0,[],(0,[],()),());qd (qj9 D a0) fun b↦qd (qkd D a0) fun b_1↦br (!b_1.1.1) (some (((b.1.1.1,b.1.1.2.1,()),(0,0,0,0,()),false,()),())) (qd (qbp D a1 0 (wrap .i64 ((a0.2.1.length:Int) - 1))) fun b_2↦br (!b_2.1.1) (some (((b.1.1.1,b.1.1.2.1,()),(0,0,0,0,()),false,()),())) (qd (qdu D a0.1 (Clo.mk 177 [CapV.rptr yq34 a1])) fun b_3↦br b_3.1.1 (some (((b.1.1.1,b.1.1.2.1,()),(0,0,0,0,()),false,()),())) (br (decide (0≤a1)&&decide (a1<(a0.2.1.length:Int))) (qd (qj9 D a0) fun b_4↦qd (qc7 D a2) fun b_5↦qd (qif D a3) fun b_6↦br (decide (0≤a1)&&decide (a1<(b_4.1.1.2.1.length:Int))) (qd (qkd D (b_4.1.1.1,List.set b_4.1.1.2.1 a1.toNat (wrap .i64 (y0.1+1),1,b_5.1.1,(b_6.1.1.1,b_6.1.1.2.1,()),()),())) fun b_7↦br (!b_7.1.1) (some (((b.1.1.1,b.1.1.2.1,()),(0,0,0,0,()),false,()),())) (some (((b_4.1.1.1,List.set b_4.1.1.2.1 a1.toNat (wrap .i64 (y0.1+1),1,b_5.1.1,(b_6.1.1.1,b_6.1.1.2.1,()),()),()),(a1,wrap .i64 (y0.1+1),0,0,()),true,()),()))) none) none)))
def q5s (D:DX)(n:Nat) (a0:tq12) (a1:Int) (a2:List tq37) (a3:tq40):Option tq8:=qbeg D n a0 a1 a2 a3
theorem qbr2 (D:DX)(n:Nat) (a0:tq12) (a1:Int) (a2:List tq37) (a3:tq40):rF D n 161 (a0,(a1,(a2,(a3,()))))=q5s D n a0 a1 a2 a3:=by kernel_rfl
end
end Go.G


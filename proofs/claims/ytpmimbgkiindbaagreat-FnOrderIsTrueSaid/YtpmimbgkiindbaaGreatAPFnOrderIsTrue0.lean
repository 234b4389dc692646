import Derived.Test.YtpmimbgkiindbaaGreatAV3
set_option linter.unusedVariables false
set_option linter.unusedSimpArgs false
set_option linter.unusedSectionVars false
open Go.IntKind (wrap)
namespace Go.G
open Go Go.V
abbrev DX:=Den ctx
abbrev KT (k:Nat):=Ex→St→Option (Out ctx k)
noncomputable abbrev LF (D:DX)(n:Nat)(k:Nat):=LQ (C:=ctx) qk1 D n k
noncomputable abbrev CF (D:DX)(n:Nat)(k:Nat):=CQ (C:=ctx) qk1 D n k
noncomputable abbrev KF (D:DX)(n:Nat)(k:Nat):=LK (C:=ctx) qk1 D n k
noncomputable abbrev lF (k:Nat):=qbqs (C:=ctx) qk1 k
noncomputable abbrev rF (D:DX)(n:Nat)(k:Nat):=rfC (C:=ctx) qk1 D n k
noncomputable abbrev bF (k:Nat):=qv8 qk1 k
theorem eL2 {t0 t1 R:Type}{A B:Nat→t0→t1→R}(b:(t0→t1→R)→t0→t1→R)(h0:∀ x0 x1,A 0 x0 x1=B 0 x0 x1)(ha:∀ m x0 x1,A (m+1) x0 x1=b (A m) x0 x1)(hb:∀ m x0 x1,B (m+1) x0 x1=b (B m) x0 x1):∀ m x0 x1,A m x0 x1=B m x0 x1
| 0=>h0
| m+1=>fun x0 x1=>by rw[ha,hb,show A m=B m from funext fun x0=>funext fun x1=>eL2 b h0 ha hb m x0 x1]
theorem eL3 {t0 t1 t2 R:Type}{A B:Nat→t0→t1→t2→R}(b:(t0→t1→t2→R)→t0→t1→t2→R)(h0:∀ x0 x1 x2,A 0 x0 x1 x2=B 0 x0 x1 x2)(ha:∀ m x0 x1 x2,A (m+1) x0 x1 x2=b (A m) x0 x1 x2)(hb:∀ m x0 x1 x2,B (m+1) x0 x1 x2=b (B m) x0 x1 x2):∀ m x0 x1 x2,A m x0 x1 x2=B m x0 x1 x2
| 0=>h0
| m+1=>fun x0 x1 x2=>by rw[ha,hb,show A m=B m from funext fun x0=>funext fun x1=>funext fun x2=>eL3 b h0 ha hb m x0 x1 x2]
theorem eL4 {t0 t1 t2 t3 R:Type}{A B:Nat→t0→t1→t2→t3→R}(b:(t0→t1→t2→t3→R)→t0→t1→t2→t3→R)(h0:∀ x0 x1 x2 x3,A 0 x0 x1 x2 x3=B 0 x0 x1 x2 x3)(ha:∀ m x0 x1 x2 x3,A (m+1) x0 x1 x2 x3=b (A m) x0 x1 x2 x3)(hb:∀ m x0 x1 x2 x3,B (m+1) x0 x1 x2 x3=b (B m) x0 x1 x2 x3):∀ m x0 x1 x2 x3,A m x0 x1 x2 x3=B m x0 x1 x2 x3
| 0=>h0
| m+1=>fun x0 x1 x2 x3=>by rw[ha,hb,show A m=B m from funext fun x0=>funext fun x1=>funext fun x2=>funext fun x3=>eL4 b h0 ha hb m x0 x1 x2 x3]
theorem eL5 {t0 t1 t2 t3 t4 R:Type}{A B:Nat→t0→t1→t2→t3→t4→R}(b:(t0→t1→t2→t3→t4→R)→t0→t1→t2→t3→t4→R)(h0:∀ x0 x1 x2 x3 x4,A 0 x0 x1 x2 x3 x4=B 0 x0 x1 x2 x3 x4)(ha:∀ m x0 x1 x2 x3 x4,A (m+1) x0 x1 x2 x3 x4=b (A m) x0 x1 x2 x3 x4)(hb:∀ m x0 x1 x2 x3 x4,B (m+1) x0 x1 x2 x3 x4=b (B m) x0 x1 x2 x3 x4):∀ m x0 x1 x2 x3 x4,A m x0 x1 x2 x3 x4=B m x0 x1 x2 x3 x4
| 0=>h0
| m+1=>fun x0 x1 x2 x3 x4=>by rw[ha,hb,show A m=B m from funext fun x0=>funext fun x1=>funext fun x2=>funext fun x3=>funext fun x4=>eL5 b h0 ha hb m x0 x1 x2 x3 x4]
theorem eL6 {t0 t1 t2 t3 t4 t5 R:Type}{A B:Nat→t0→t1→t2→t3→t4→t5→R}(b:(t0→t1→t2→t3→t4→t5→R)→t0→t1→t2→t3→t4→t5→R)(h0:∀ x0 x1 x2 x3 x4 x5,A 0 x0 x1 x2 x3 x4 x5=B 0 x0 x1 x2 x3 x4 x5)(ha:∀ m x0 x1 x2 x3 x4 x5,A (m+1) x0 x1 x2 x3 x4 x5=b (A m) x0 x1 x2 x3 x4 x5)(hb:∀ m x0 x1 x2 x3 x4 x5,B (m+1) x0 x1 x2 x3 x4 x5=b (B m) x0 x1 x2 x3 x4 x5):∀ m x0 x1 x2 x3 x4 x5,A m x0 x1 x2 x3 x4 x5=B m x0 x1 x2 x3 x4 x5
| 0=>h0
| m+1=>fun x0 x1 x2 x3 x4 x5=>by rw[ha,hb,show A m=B m from funext fun x0=>funext fun x1=>funext fun x2=>funext fun x3=>funext fun x4=>funext fun x5=>eL6 b h0 ha hb m x0 x1 x2 x3 x4 x5]
theorem eL8 {t0 t1 t2 t3 t4 t5 t6 t7 R:Type}{A B:Nat→t0→t1→t2→t3→t4→t5→t6→t7→R}(b:(t0→t1→t2→t3→t4→t5→t6→t7→R)→t0→t1→t2→t3→t4→t5→t6→t7→R)(h0:∀ x0 x1 x2 x3 x4 x5 x6 x7,A 0 x0 x1 x2 x3 x4 x5 x6 x7=B 0 x0 x1 x2 x3 x4 x5 x6 x7)(ha:∀ m x0 x1 x2 x3 x4 x5 x6 x7,A (m+1) x0 x1 x2 x3 x4 x5 x6 x7=b (A m) x0 x1 x2 x3 x4 x5 x6 x7)(hb:∀ m x0 x1 x2 x3 x4 x5 x6 x7,B (m+1) x0 x1 x2 x3 x4 x5 x6 x7=b (B m) x0 x1 x2 x3 x4 x5 x6 x7):∀ m x0 x1 x2 x3 x4 x5 x6 x7,A m x0 x1 x2 x3 x4 x5 x6 x7=B m x0 x1 x2 x3 x4 x5 x6 x7
| 0=>h0
| m+1=>fun x0 x1 x2 x3 x4 x5 x6 x7=>by rw[ha,hb,show A m=B m from funext fun x0=>funext fun x1=>funext fun x2=>funext fun x3=>funext fun x4=>funext fun x5=>funext fun x6=>funext fun x7=>eL8 b h0 ha hb m x0 x1 x2 x3 x4 x5 x6 x7]
theorem eL9 {t0 t1 t2 t3 t4 t5 t6 t7 t8 R:Type}{A B:Nat→t0→t1→t2→t3→t4→t5→t6→t7→t8→R}(b:(t0→t1→t2→t3→t4→t5→t6→t7→t8→R)→t0→t1→t2→t3→t4→t5→t6→t7→t8→R)(h0:∀ x0 x1 x2 x3 x4 x5 x6 x7 x8,A 0 x0 x1 x2 x3 x4 x5 x6 x7 x8=B 0 x0 x1 x2 x3 x4 x5 x6 x7 x8)(ha:∀ m x0 x1 x2 x3 x4 x5 x6 x7 x8,A (m+1) x0 x1 x2 x3 x4 x5 x6 x7 x8=b (A m) x0 x1 x2 x3 x4 x5 x6 x7 x8)(hb:∀ m x0 x1 x2 x3 x4 x5 x6 x7 x8,B (m+1) x0 x1 x2 x3 x4 x5 x6 x7 x8=b (B m) x0 x1 x2 x3 x4 x5 x6 x7 x8):∀ m x0 x1 x2 x3 x4 x5 x6 x7 x8,A m x0 x1 x2 x3 x4 x5 x6 x7 x8=B m x0 x1 x2 x3 x4 x5 x6 x7 x8
| 0=>h0
| m+1=>fun x0 x1 x2 x3 x4 x5 x6 x7 x8=>by rw[ha,hb,show A m=B m from funext fun x0=>funext fun x1=>funext fun x2=>funext fun x3=>funext fun x4=>funext fun x5=>funext fun x6=>funext fun x7=>funext fun x8=>eL9 b h0 ha hb m x0 x1 x2 x3 x4 x5 x6 x7 x8]
abbrev pq0:List Dir:=[.r,.r,.l,.r,.l]
abbrev pq1:List Dir:=[.r,.r,.r,.l,.r,.l]
abbrev pq2:List Dir:=[.r,.l,.r,.l]
abbrev pq3:List Dir:=[.r,.r,.r,.r,.l,.r,.l]
abbrev pq4:List Dir:=[.r,.r,.r,.r,.r,.r,.r,.l,.r,.l]
abbrev pq5:List Dir:=[.r,.r,.r,.r,.r,.r,.l,.r,.l]
abbrev pq6:List Dir:=[.r,.r,.l,.r,.l,.r,.r,.r,.r,.r,.r,.r,.r,.r,.l,.r,.l]
abbrev pq7:List Dir:=[.r,.r,.r,.r,.r,.l,.r,.l]
abbrev pq8:List Dir:=[.r,.r,.r,.r,.r,.r,.r,.r,.r,.r,.r,.l,.r,.l]
abbrev pq9:List Dir:=[.r,.r,.r,.r,.r,.r,.r,.l,.r,.l,.l,.r,.l,.l,.r,.l]
abbrev pq10:List Dir:=[.r,.r,.r,.r,.r,.r,.l,.r,.l,.l,.r,.l,.l,.r,.r,.l]
abbrev pq11:List Dir:=[.r,.l,.l,.r,.l,.l,.r,.l]
abbrev pq12:List Dir:=[.r,.l]
abbrev pq13:List Dir:=[.r,.r,.l,.r,.l,.l,.r,.r,.l,.l,.r,.r,.r,.l]
abbrev pq14:List Dir:=[.r,.r,.r,.l,.r,.l,.l,.r,.l,.l,.r,.r,.r,.l]
abbrev pq15:List Dir:=[.r,.r,.l,.r,.l,.l,.r,.l,.l,.r,.l,.r,.l]
abbrev pq16:List Dir:=[.r,.l,.l,.r,.l]
abbrev pq17:List Dir:=[.r,.r,.l]
abbrev pq18:List Dir:=[.r,.r,.l,.r,.l,.l]
abbrev tq44:=Bool×Unit
abbrev tq43:=Int×Int×Unit
abbrev tq42:=(Int×Unit)×Unit
abbrev tq41:=tq44×Unit
abbrev tq40:=Int×List Int×Unit
abbrev tq39:=List Int×Int×Unit
abbrev tq38:=Unit×List Int×Unit
abbrev tq37:=Int×tq43
abbrev tq36:=(List Int×Unit)×Unit
abbrev tq35:=(Int×tq44)×Unit
abbrev tq34:=List Int×tq43
abbrev tq33:=Int×tq37
abbrev tq32:=List tq37×Unit
abbrev tq31:=tq34×Unit
abbrev tq30:=(tq39×Unit)×Unit
abbrev tq29:=Unit×tq32
abbrev tq28:=tq32×Unit
abbrev tq27:=tq31×Unit
abbrev tq26:=(tq37×tq44)×Unit
abbrev tq25:=(Int×Unit)×tq31
abbrev tq24:=List tq43×List Int×Int×tq44
abbrev tq23:=tq24×Unit
abbrev tq22:=Bool×tq40×tq32
abbrev tq21:=Unit×tq23
abbrev tq20:=(tq39×Unit)×tq31
abbrev tq19:=tq23×Unit
abbrev tq18:=Int×Int×List tq37×tq40×Unit
abbrev tq17:=Int×tq37×Int×Int×Int×tq40×Unit
abbrev tq16:=(List (List tq37)×Unit)×tq31
abbrev tq15:=(tq39×List (List tq37)×List Int×Unit)×Unit
abbrev tq14:=(tq22×tq44)×Unit
abbrev tq13:=List tq37×Int×Bool×List tq43×List tq33×Unit
abbrev tq12:=List tq37×List tq18×Unit
abbrev tq11:=(tq13×Unit)×Unit
abbrev tq10:=(tq12×Unit)×Unit
abbrev tq9:=(tq12×tq44)×Unit
abbrev tq8:=(tq12×tq33×tq44)×Unit
abbrev tq7:=(tq33×tq33×Int×Unit)×tq12×Unit
abbrev tq6:=(tq12×tq33×tq33×Int×Unit)×Unit
abbrev tq5:=tq12×List tq13×Int×List tq17×List Int×tq39×Unit
abbrev tq4:=Unit×tq5×Unit
abbrev tq3:=(tq5×Unit)×Unit
abbrev tq2:=(Int×Unit)×tq5×Unit
abbrev tq1:=tq44×tq5×Unit
abbrev tq0:=(tq5×tq44)×Unit
end Go.G
namespace Go.G
open Go Go.V
noncomputable def qv3 (D:Den ctx) (a0:List Int):Option tq41:=D 7 (a0,())
noncomputable def qbbe (D:Den ctx) (a0:List Int):Option tq41:=D 12 (a0,())
noncomputable def qpl (D:Den ctx) (a0:List Int):Option tq15:=D 13 (a0,())
noncomputable def qss (D:Den ctx) (a0:tq39) (a1:List (List tq37)):Option tq0:=D 14 (a0,(a1,()))
noncomputable def qs6 (D:Den ctx) (a0:tq39) (a1:List (List tq37)):Option tq0:=D 15 (a0,(a1,()))
noncomputable def q8n (D:Den ctx) (a0:tq5) (a1:List Int):Option tq3:=D 16 (a0,(a1,()))
noncomputable def q32 (D:Den ctx) (a0:tq13):Option tq41:=D 17 (a0,())
noncomputable def q4y (D:Den ctx) (a0 a1:tq17):Option tq41:=D 29 (a0,(a1,()))
noncomputable def qta (D:Den ctx) (a0:tq5):Option tq41:=D 30 (a0,())
noncomputable def qek (D:Den ctx) (a0:Int):Option tq42:=D 35 (a0,())
noncomputable def qfm (D:Den ctx) (a0:tq5):Option tq41:=D 40 (a0,())
noncomputable def q6i (D:Den ctx) (a0:List Int):Option tq27:=D 44 (a0,())
noncomputable def qqc (D:Den ctx) (a0:tq34):Option tq20:=D 45 (a0,())
noncomputable def quf (D:Den ctx) (a0:tq34):Option tq16:=D 46 (a0,())
noncomputable def qce (D:Den ctx) (a0:tq34) (a1:Int):Option tq25:=D 47 (a0,(a1,()))
noncomputable def q14 (D:Den ctx) (a0:List Int) (a1 a2:Int):Option tq42:=D 48 (a0,(a1,(a2,())))
noncomputable def q2u (D:Den ctx) (a0:tq39) (a1:Int):Option tq9:=D 49 (a0,(a1,()))
noncomputable def qpx (D:Den ctx) (a0:tq39):Option tq30:=D 50 (a0,())
noncomputable def q55 (D:Den ctx) (a0:List tq37):Option tq11:=D 51 (a0,())
noncomputable def q2d (D:Den ctx) (a0:tq39) (a1:Int):Option tq9:=D 52 (a0,(a1,()))
noncomputable def q2w (D:Den ctx) (a0:tq39):Option tq30:=D 53 (a0,())
noncomputable def q5u (D:Den ctx) (a0:List tq37):Option tq11:=D 54 (a0,())
noncomputable def qvc (D:Den ctx) (a0:tq5):Option tq41:=D 55 (a0,())
noncomputable def qjd (D:Den ctx) (a0:tq5):Option tq3:=D 56 (a0,())
noncomputable def qtv (D:Den ctx) (a0:tq5) (a1:Int):Option tq0:=D 57 (a0,(a1,()))
noncomputable def qbp (D:Den ctx) (a0 a1 a2:Int):Option tq41:=D 58 (a0,(a1,(a2,())))
noncomputable def qkh (D:Den ctx) (a0:tq12):Option tq41:=D 63 (a0,())
noncomputable def qdv (D:Den ctx) (a0:List tq37) (a1:Clo):Option tq41:=D 64 (a0,(a1,()))
noncomputable def qt7 (D:Den ctx) (a0:tq39):Option tq41:=D 66 (a0,())
noncomputable def qrv (D:Den ctx) (a0:tq39):Option tq36:=D 68 (a0,())
noncomputable def qge (D:Den ctx) (a0:List Int):Option tq36:=D 69 (a0,())
noncomputable def qco (D:Den ctx):Option tq42:=D 70 ()
noncomputable def qdj (D:Den ctx) (a0:Int):Option tq42:=D 73 (a0,())
noncomputable def qlx (D:Den ctx) (a0:List Int) (a1:Int):Option tq42:=D 74 (a0,(a1,()))
noncomputable def qk5 (D:Den ctx) (a0:Bool) (a1:Int):Option tq42:=D 75 (a0,(a1,()))
noncomputable def qhr (D:Den ctx) (a0:Int):Option tq41:=D 76 (a0,())
noncomputable def qc2 (D:Den ctx) (a0:Int):Option tq42:=D 77 (a0,())
noncomputable def qlj (D:Den ctx) (a0:tq17) (a1:Int) (a2:tq5):Option tq41:=D 79 (a0,(a1,(a2,())))
noncomputable def qlw (D:Den ctx) (a0:tq37):Option tq41:=D 80 (a0,())
noncomputable def qxa (D:Den ctx) (a0:tq13) (a1:Int):Option tq41:=D 81 (a0,(a1,()))
noncomputable def q0h (D:Den ctx) (a0:tq5) (a1:Int):Option tq41:=D 82 (a0,(a1,()))
noncomputable def qzt (D:Den ctx) (a0:tq5):Option tq41:=D 83 (a0,())
noncomputable def qih (D:Den ctx) (a0:tq40):Option ((tq40×Unit)×Unit):=D 85 (a0,())
noncomputable def qy1 (D:Den ctx):Option tq30:=D 90 ()
noncomputable def qw0 (D:Den ctx) (a0:tq39) (a1:Int):Option tq42:=D 91 (a0,(a1,()))
noncomputable def qnv (D:Den ctx) (a0:tq34) (a1:List Int):Option tq25:=D 92 (a0,(a1,()))
noncomputable def qqg (D:Den ctx) (a0:tq34):Option ((tq37×Unit)×tq31):=D 93 (a0,())
noncomputable def qjk (D:Den ctx) (a0:tq34):Option tq25:=D 94 (a0,())
noncomputable def qe3 (D:Den ctx) (a0:List tq37):Option tq28:=D 95 (a0,())
noncomputable def qys (D:Den ctx) (a0:tq39):Option tq36:=D 96 (a0,())
noncomputable def qbo (D:Den ctx) (a0 a1 a2:Int):Option tq41:=D 97 (a0,(a1,(a2,())))
noncomputable def qqa (D:Den ctx) (a0:tq12):Option tq41:=D 98 (a0,())
noncomputable def qt4 (D:Den ctx) (a0:tq39):Option tq41:=D 99 (a0,())
noncomputable def q0d (D:Den ctx) (a0:tq5):Option tq41:=D 100 (a0,())
noncomputable def qwt (D:Den ctx) (a0:tq13) (a1:Int):Option tq41:=D 101 (a0,(a1,()))
noncomputable def qwy (D:Den ctx) (a0:tq5) (a1:Int):Option tq41:=D 102 (a0,(a1,()))
noncomputable def qkd (D:Den ctx) (a0:tq12):Option tq10:=D 103 (a0,())
noncomputable def qht (D:Den ctx) (a0:tq13):Option tq11:=D 104 (a0,())
noncomputable def qmz (D:Den ctx) (a0:tq5) (a1:Int):Option tq4:=D 105 (a0,(a1,()))
noncomputable def qph (D:Den ctx) (a0:tq5) (a1:Int):Option tq1:=D 106 (a0,(a1,()))
noncomputable def qzw (D:Den ctx) (a0:tq18) (a1:Int):Option tq26:=D 107 (a0,(a1,()))
noncomputable def qdt (D:Den ctx) (a0:List tq18) (a1:Clo):Option tq41:=D 109 (a0,(a1,()))
noncomputable def qbaa (D:Den ctx) (a0:tq18):Option tq41:=D 110 (a0,())
noncomputable def q26 (D:Den ctx) (a0:tq18):Option tq41:=D 111 (a0,())
noncomputable def q1s (D:Den ctx) (a0:tq37) (a1:Int):Option tq41:=D 112 (a0,(a1,()))
noncomputable def qia (D:Den ctx) (a0:List tq37) (a1:Clo):Option tq42:=D 113 (a0,(a1,()))
noncomputable def qg0 (D:Den ctx) (a0:List Int) (a1:Int):Option tq41:=D 114 (a0,(a1,()))
noncomputable def qdi (D:Den ctx) (a0:Int):Option tq42:=D 115 (a0,())
noncomputable def qqm (D:Den ctx) (a0:Int):Option tq41:=D 118 (a0,())
noncomputable def qro (D:Den ctx) (a0:Int):Option tq41:=D 119 (a0,())
noncomputable def qe7 (D:Den ctx) (a0:List tq37) (a1:Clo):Option tq41:=D 120 (a0,(a1,()))
noncomputable def q3z (D:Den ctx) (a0:tq37):Option tq41:=D 121 (a0,())
noncomputable def qcx (D:Den ctx) (a0:List tq43) (a1:Clo):Option tq41:=D 122 (a0,(a1,()))
noncomputable def q30 (D:Den ctx) (a0:tq43):Option tq41:=D 123 (a0,())
noncomputable def qrn (D:Den ctx) (a0:Int):Option tq41:=D 124 (a0,())
noncomputable def qik (D:Den ctx) (a0:Int):Option tq41:=D 125 (a0,())
noncomputable def qcw (D:Den ctx) (a0:List tq33) (a1:Clo):Option tq41:=D 126 (a0,(a1,()))
noncomputable def q3v (D:Den ctx) (a0:tq33) (a1:Int):Option tq41:=D 127 (a0,(a1,()))
noncomputable def qxv (D:Den ctx) (a0:Int):Option tq41:=D 132 (a0,())
noncomputable def qhi (D:Den ctx) (a0:Int):Option tq41:=D 133 (a0,())
noncomputable def q42 (D:Den ctx) (a0:Int):Option tq42:=D 134 (a0,())
noncomputable def q0j (D:Den ctx) (a0:Int):Option tq42:=D 135 (a0,())
noncomputable def q60 (D:Den ctx) (a0:Int):Option tq42:=D 136 (a0,())
noncomputable def qzx (D:Den ctx) (a0:tq39) (a1:Int):Option tq42:=D 137 (a0,(a1,()))
noncomputable def qz3 (D:Den ctx) (a0:Int):Option tq42:=D 138 (a0,())
noncomputable def qry (D:Den ctx):Option tq42:=D 139 ()
noncomputable def q2h (D:Den ctx) (a0:tq18):Option tq41:=D 140 (a0,())
noncomputable def qbb7 (D:Den ctx) (a0:tq37) (a1:Int):Option tq41:=D 141 (a0,(a1,()))
noncomputable def qbm2 (D:Den ctx) (a0:tq18) (a1:Int):Option tq26:=D 142 (a0,(a1,()))
noncomputable def qjf (D:Den ctx) (a0:Int):Option tq41:=D 143 (a0,())
noncomputable def qbpo (D:Den ctx) (a0:tq5) (a1:tq17):Option tq41:=D 144 (a0,(a1,()))
noncomputable def qqp (D:Den ctx) (a0:Bool):Option tq42:=D 145 (a0,())
noncomputable def q0u (D:Den ctx) (a0:tq37):Option tq41:=D 146 (a0,())
noncomputable def q1z (D:Den ctx) (a0:tq5) (a1:Int):Option tq42:=D 147 (a0,(a1,()))
noncomputable def qf1 (D:Den ctx) (a0:List tq37):Option tq28:=D 148 (a0,())
noncomputable def qc6 (D:Den ctx) (a0:List tq37):Option tq28:=D 149 (a0,())
noncomputable def qf8 (D:Den ctx) (a0:List tq43):Option ((List tq43×Unit)×Unit):=D 150 (a0,())
noncomputable def qf9 (D:Den ctx) (a0:List tq33):Option ((List tq33×Unit)×Unit):=D 151 (a0,())
noncomputable def qbbg (D:Den ctx) (a0:tq13):Option ((tq33×tq44)×Unit):=D 152 (a0,())
noncomputable def q13 (D:Den ctx) (a0:tq12) (a1:tq33):Option tq6:=D 153 (a0,(a1,()))
noncomputable def qow (D:Den ctx) (a0:tq13) (a1:tq33):Option tq11:=D 154 (a0,(a1,()))
noncomputable def qts (D:Den ctx) (a0:tq13) (a1:tq33):Option tq11:=D 155 (a0,(a1,()))
noncomputable def qbak (D:Den ctx) (a0:tq13):Option tq11:=D 156 (a0,())
noncomputable def qi6 (D:Den ctx) (a0:tq5) (a1:Int) (a2:tq40):Option tq4:=D 157 (a0,(a1,(a2,())))
noncomputable def qjp (D:Den ctx) (a0:tq5) (a1:Int) (a2:tq40):Option tq4:=D 158 (a0,(a1,(a2,())))
noncomputable def q8d (D:Den ctx) (a0:tq37) (a1:List tq43):Option tq42:=D 159 (a0,(a1,()))
noncomputable def qt6 (D:Den ctx) (a0:tq37) (a1:List tq43):Option tq14:=D 160 (a0,(a1,()))
noncomputable def qwx (D:Den ctx) (a0:tq12) (a1:Int) (a2:List tq37) (a3:tq40):Option tq8:=D 161 (a0,(a1,(a2,(a3,()))))
noncomputable def qh5 (D:Den ctx) (a0:List tq18) (a1:Clo):Option tq42:=D 162 (a0,(a1,()))
noncomputable def qjw (D:Den ctx) (a0:List tq37) (a1:Clo):Option tq42:=D 163 (a0,(a1,()))
noncomputable def qh6 (D:Den ctx) (a0:List tq43) (a1:Clo):Option tq42:=D 164 (a0,(a1,()))
noncomputable def qh7 (D:Den ctx) (a0:List tq33) (a1:Clo):Option tq42:=D 165 (a0,(a1,()))
noncomputable def qvz (D:Den ctx) (a0:Int):Option tq41:=D 166 (a0,())
noncomputable def qz6 (D:Den ctx) (a0:Int):Option tq42:=D 167 (a0,())
noncomputable def q39 (D:Den ctx) (a0:tq12) (a1:tq33):Option tq7:=D 168 (a0,(a1,()))
noncomputable def qh0 (D:Den ctx) (a0:tq5) (a1:Int):Option tq2:=D 169 (a0,(a1,()))
noncomputable def qw2 (D:Den ctx) (a0:tq37) (a1:List tq43):Option tq19:=D 170 (a0,(a1,()))
noncomputable def q25 (D:Den ctx) (a0:tq37) (a1:List tq43):Option ((tq40×tq44)×Unit):=D 171 (a0,(a1,()))
noncomputable def qer (D:Den ctx) (a0:List tq43) (a1:Int):Option tq35:=D 172 (a0,(a1,()))
noncomputable def qfe (D:Den ctx) (a0:Int):Option tq42:=D 173 (a0,())
noncomputable def qrs (D:Den ctx) (a0:tq37) (a1:List tq43) (a2 a3:Int):Option tq28:=D 174 (a0,(a1,(a2,(a3,()))))
noncomputable def qjg (D:Den ctx) (a0:List Int):Option tq38:=D 175 (a0,())
noncomputable def q3a (D:Den ctx) (a0:tq37) (a1 a2 a3 a4:Int):Option tq42:=D 176 (a0,(a1,(a2,(a3,(a4,())))))
noncomputable def q88 (D:Den ctx) (a0:tq37) (a1:Int):Option tq41:=D 177 (a0,(a1,()))
noncomputable def qh2 (D:Den ctx) (a0:tq24) (a1:tq37):Option tq21:=D 178 (a0,(a1,()))
noncomputable def qs (D:Den ctx) (a0:tq24) (a1:Int):Option ((Int×Unit)×tq23):=D 179 (a0,(a1,()))
noncomputable def qb8 (D:Den ctx) (a0:tq24) (a1:Bool):Option tq21:=D 180 (a0,(a1,()))
noncomputable def qct (D:Den ctx) (a0 a1 a2:Int) (a3:List tq43) (a4:List tq37):Option tq29:=D 181 (a0,(a1,(a2,(a3,(a4,())))))
noncomputable def qc3 (D:Den ctx) (a0:List tq37) (a1:Clo):Option tq29:=D 182 (a0,(a1,()))
noncomputable def q58 (D:Den ctx) (a0 a1:tq37):Option tq42:=D 183 (a0,(a1,()))
noncomputable def qj (D:Den ctx) (a0:List Int) (a1 a2 a3:Int):Option tq38:=D 184 (a0,(a1,(a2,(a3,()))))
noncomputable def qp0 (D:Den ctx) (a0:Int):Option tq42:=D 185 (a0,())
noncomputable def qgo (D:Den ctx) (a0:tq24) (a1:Int) (a2:List Int):Option tq21:=D 186 (a0,(a1,(a2,())))
noncomputable def qf (D:Den ctx) (a0:List tq37) (a1 a2 a3:Int) (a4:Clo):Option tq29:=D 187 (a0,(a1,(a2,(a3,(a4,())))))
noncomputable def qj2 (D:Den ctx) (a0:List Int) (a1 a2:Int):Option tq38:=D 188 (a0,(a1,(a2,())))
noncomputable def q0m (D:Den ctx) (a0:List Int) (a1 a2:Int):Option tq38:=D 189 (a0,(a1,(a2,())))
noncomputable def qtp (D:Den ctx) (a0:List Int) (a1 a2:Int):Option tq38:=D 190 (a0,(a1,(a2,())))
noncomputable def qkv (D:Den ctx) (a0:List Int) (a1 a2:Int):Option (tq43×Unit):=D 191 (a0,(a1,(a2,())))
noncomputable def qki (D:Den ctx) (a0:List Int) (a1 a2:Int):Option tq38:=D 192 (a0,(a1,(a2,())))
noncomputable def qc1 (D:Den ctx) (a0:List Int) (a1 a2:Int):Option (tq44×List Int×Unit):=D 193 (a0,(a1,(a2,())))
noncomputable def qdn (D:Den ctx) (a0 a1:Int):Option tq41:=D 194 (a0,(a1,()))
noncomputable def qbr (D:Den ctx) (a0:List Int) (a1 a2 a3:Int):Option ((Int×Unit)×List Int×Unit):=D 195 (a0,(a1,(a2,(a3,()))))
noncomputable def qw (D:Den ctx) (a0:List Int) (a1 a2 a3:Int):Option ((Int×tq44)×List Int×Unit):=D 196 (a0,(a1,(a2,(a3,()))))
noncomputable def q3w (D:Den ctx) (a0:Int):Option tq42:=D 198 (a0,())
noncomputable def qho (D:Den ctx) (a0:List tq37) (a1 a2:Int) (a3:Clo):Option tq29:=D 199 (a0,(a1,(a2,(a3,()))))
noncomputable def qr2 (D:Den ctx) (a0:List tq37) (a1 a2:Int) (a3:Clo):Option tq29:=D 200 (a0,(a1,(a2,(a3,()))))
noncomputable def qnw (D:Den ctx) (a0:List tq37) (a1 a2:Int) (a3:Clo):Option tq29:=D 201 (a0,(a1,(a2,(a3,()))))
noncomputable def qid (D:Den ctx) (a0:List tq37) (a1 a2:Int) (a3:Clo):Option (tq43×Unit):=D 202 (a0,(a1,(a2,(a3,()))))
noncomputable def qhw (D:Den ctx) (a0:List tq37) (a1 a2:Int) (a3:Clo):Option tq29:=D 203 (a0,(a1,(a2,(a3,()))))
noncomputable def qcf (D:Den ctx) (a0:List tq37) (a1 a2:Int) (a3:Clo):Option (tq44×tq32):=D 204 (a0,(a1,(a2,(a3,()))))
noncomputable def qbc (D:Den ctx) (a0:List tq37) (a1 a2 a3:Int) (a4:Clo):Option ((Int×Unit)×tq32):=D 205 (a0,(a1,(a2,(a3,(a4,())))))
noncomputable def qm (D:Den ctx) (a0:List tq37) (a1 a2 a3:Int) (a4:Clo):Option ((Int×tq44)×tq32):=D 206 (a0,(a1,(a2,(a3,(a4,())))))
noncomputable def qw7 (D:Den ctx) (a0:Int):Option tq41:=D 212 (a0,())
end Go.G

namespace Go.G
set_option maxRecDepth 100000
set_option maxHeartbeats 0
open Go Go.V
noncomputable section
def qmc (D:DX)(n:Nat) (go:Int→Int→tq5→Option tq41) (K0:Bool→Int→tq5→Option tq41) (K1:Int→tq5→Option tq41) (c d:Int) (a:tq5):Option tq41:=let y0:=List.getD a.2.2.2.1 (Int.toNat (List.getD a.2.2.2.2.1 c.toNat 0)) (0,(0,0,0,()),0,0,0,(0,[],()),());let y1:=List.getD a.2.2.2.1 (Int.toNat (List.getD a.2.2.2.2.1 d.toNat 0)) (0,(0,0,0,()),0,0,0,(0,[],()),());br (decide (d<c)) (br (decide (0≤d)&&decide (d<(a.2.2.2.2.1.length:Int))) (br (decide (0≤List.getD a.2.2.2.2.1 d.toNat 0)&&decide (List.getD a.2.2.2.2.1 d.toNat 0<(a.2.2.2.1.length:Int))) (br (decide (0≤c)&&decide (c<(a.2.2.2.2.1.length:Int))) (br (decide (0≤List.getD a.2.2.2.2.1 c.toNat 0)&&decide (List.getD a.2.2.2.2.1 c.toNat 0<(a.2.2.2.1.length:Int))) (qd (q4y D y0 y1) fun b↦br (bif b.1.1 then true else bif decide (y1.1=y0.1) then decide (y1.2.2.1>y0.2.2.1) else false) (K0 false c a) (go c (wrap .i64 (d+1)) a)) none) none) none) none) (K1 c a)
def qgs (D:DX)(n:Nat) (K0:Bool→Int→tq5→Option tq41) (K1:Int→tq5→Option tq41):Nat→Int→Int→tq5→Option tq41 | 0=>(fun a b c=>none) | m+1=>(fun a b c=>qmc D n (qgs D n K0 K1 m) K0 K1 a b c)
def q63 (D:DX)(n:Nat) (go:Int→tq5→Option tq41) (K0:tq5→Option tq41) (K1:Bool→tq5→Option tq41) (a:Bool) (c:Int) (b:tq5):Option tq41:=K1 a b
def qr6 (D:DX)(n:Nat) (go:Int→tq5→Option tq41) (K0:tq5→Option tq41) (K1:Bool→tq5→Option tq41) (a:Int) (b:tq5):Option tq41:=go (wrap .i64 (a+1)) b
def qlv (D:DX)(n:Nat) (go:Int→tq5→Option tq41) (K0:tq5→Option tq41) (K1:Bool→tq5→Option tq41):(Int)→(Int)→tq5→Option tq41:=(fun a b h=>qgs D n (fun c d e=>q63 D n go K0 K1 c d e) (fun f g=>qr6 D n go K0 K1 f g) n a b h)
def qmy (D:DX)(n:Nat) (go:Int→tq5→Option tq41) (K0:tq5→Option tq41) (K1:Bool→tq5→Option tq41) (lp1:Int→Int→tq5→Option tq41) (x0:Int) (x1:tq5):Option tq41:=br (decide (x0<(x1.2.2.2.2.1.length:Int))) (lp1 x0 0 x1) (K0 x1)
def qde (D:DX)(n:Nat) (K0:tq5→Option tq41) (K1:Bool→tq5→Option tq41):Nat→Int→tq5→Option tq41 | 0=>(fun x0 x1=>none) | m+1=>(fun x0 x1=>qmy D n (qde D n K0 K1 m) K0 K1 (qlv D n (qde D n K0 K1 m) K0 K1) x0 x1)
def qr8 (D:DX)(n:Nat) (a:tq5):Option tq41:=qd (qta D a) fun b↦some ((b.1.1,()),())
def q65 (D:DX)(n:Nat) (a:Bool) (b:tq5):Option tq41:=some ((a,()),())
def ql0 (D:DX)(n:Nat):(Int)→tq5→Option tq41:=(fun x0 x1=>qde D n (fun a=>qr8 D n a) (fun b c=>q65 D n b c) n x0 x1)
def qn4 (D:DX)(n:Nat) (lp0:Int→tq5→Option tq41) (a0:List Int):Option tq41:=qd (qbbe D a0) fun b↦br b.1.1 (some ((true,()),())) (qd (qpl D a0) fun b↦qd (qss D b.1.1 b.1.2.1) fun b_1↦qd (qs6 D b.1.1 b.1.2.1) fun b_2↦br (bif !decide (b_1.1.2.1=b_2.1.2.1) then true else !b_1.1.2.1) (some ((false,()),())) (qd (q8n D b_1.1.1 b.1.2.2.1) fun b↦lp0 0 b.1.1))
def qn9 (D:DX)(n:Nat) (a0:List Int):Option tq41:=qn4 D n (ql0 D n) a0
def qdl (x0:Int) (x1:tq5):St:=stq 94 [(10,AV.addr 10 []),(11,AV.val yq34 x0)] [(10,Root.mk yq0 Mk.no x1 true)]
def qhz (a:tq5):St:=stq 94 [(10,AV.addr 10 [])] [(10,Root.mk yq0 Mk.no a true)]
def qh1 (a:Bool) (b:tq5):St:=stq 94 [(2,AV.val Ty.bool a),(10,AV.addr 10 [])] [(10,Root.mk yq0 Mk.no b true)]
def qmv (a b:Int) (c:tq5):St:=stq 94 [(10,AV.addr 10 []),(11,AV.val yq34 a),(12,AV.val yq34 b)] [(10,Root.mk yq0 Mk.no c true)]
def qr7 (a:Bool) (b:Int) (c:tq5):St:=stq 94 [(2,AV.val Ty.bool a),(10,AV.addr 10 []),(11,AV.val yq34 b)] [(10,Root.mk yq0 Mk.no c true)]
def qr9 (a:Int) (b:tq5):St:=stq 94 [(10,AV.addr 10 []),(11,AV.val yq34 a)] [(10,Root.mk yq0 Mk.no b true)]
theorem q8x (D:DX)(n:Nat) (K:KT 7):∀ (m:Nat) (f g:Int) (h:tq5),LF D n 7 pq9 m (qmv f g h) K=qgs D n (fun a b c=>K (Ex.ret) (qr7 a b c)) (fun d e=>K (Ex.exit 2) (qr9 d e)) m f g h:=eL3 (fun F=>qmc D n F (fun a b c=>K (Ex.ret) (qr7 a b c)) (fun d e=>K (Ex.exit 2) (qr9 d e))) (fun _ _ _ =>q7 ..) (fun _ _ _ _ =>by kernel_rfl) (fun _ _ _ _ =>rfl)
theorem q62 (D:DX)(n:Nat) (m:Nat) (K:KT 7) (a b:Int) (c:tq5):LF D n 7 pq9 n (qmv a b c) (CF D n 7 [.r,.r,.r,.r,.r,.r,.r,.l,.r,.l,.l] pq16 (KF D n 7 pq4 m K))=qlv D n (fun x0 x1=>LF D n 7 pq4 m (qdl x0 x1) K) (fun d=>K (Ex.exit 0) (qhz d)) (fun e f=>K (Ex.ret) (qh1 e f)) a b c :=by rw[q8x];kernel_rfl
theorem q8m (D:DX)(n:Nat) (m:Nat) (K:KT 7) (x0) (x1):LF D n 7 pq4 (m+1) (qdl x0 x1) K=qmy D n (fun x0 x1=>LF D n 7 pq4 m (qdl x0 x1) K) (fun a=>K (Ex.exit 0) (qhz a)) (fun b c=>K (Ex.ret) (qh1 b c)) (fun d e f=>LF D n 7 pq9 n (qmv d e f) (CF D n 7 [.r,.r,.r,.r,.r,.r,.r,.l,.r,.l,.l] pq16 (KF D n 7 pq4 m K))) x0 x1:=by kernel_rfl
theorem qtx (D:DX)(n:Nat) (K:KT 7):∀ (m:Nat) (x0:Int) (x1:tq5),LF D n 7 pq4 m (qdl x0 x1) K=qde D n (fun a=>K (Ex.exit 0) (qhz a)) (fun b c=>K (Ex.ret) (qh1 b c)) m x0 x1
 | 0,x0,x1=>q7 ..
 | m+1,x0,x1=>by
  have ih:(fun x0 x1=>LF D n 7 pq4 m (qdl x0 x1) K)=qde D n (fun a=>K (Ex.exit 0) (qhz a)) (fun b c=>K (Ex.ret) (qh1 b c)) m:=by funext x0 x1;exact qtx D n K m x0 x1
  rw[q8m]
  simp only[q62]
  rw[ih];rfl
theorem q64 (D:DX)(n:Nat) (x0) (x1):LF D n 7 pq4 n (qdl x0 x1) (CF D n 7 [] pq4 (lF 7))=ql0 D n x0 x1 :=by rw[qtx];kernel_rfl
theorem qbau (D:DX)(n:Nat) (a0:List Int):rF D n 7 (a0,())=qn9 D n a0:=by
 have h:rF D n 7 (a0,())=qn4 D n (fun x0 x1=>LF D n 7 pq4 n (qdl x0 x1) (CF D n 7 [] pq4 (lF 7))) a0:=by kernel_rfl
 rw[h]
 simp only[q64]
 rfl

def qbwi (D:DX)(n:Nat) (a0:List Int):Option tq41:=some ((decide ((a0.length:Int)>1048576),()),())
def qblh (D:DX)(n:Nat) (a0:List Int):Option tq41:=qbwi D n a0
theorem qbwb (D:DX)(n:Nat) (a0:List Int):rF D n 12 (a0,())=qblh D n a0:=by kernel_rfl

def qn0 (D:DX)(n:Nat) (go:Int→Int→Int→Int→tq39→tq39→List (List tq37)→List Int→tq34→Option tq15) (K0:Int→Int→tq39→tq39→List (List tq37)→List Int→tq34→Option tq15) (c d e f:Int) (g h:tq39) (i:List (List tq37)) (a:List Int) (j:tq34):Option tq15:=qd (qce D j 6) fun b↦br (decide (f<wrap .i64 (1+b.1.1))) (br (decide (a.length+1≤qb7)) (go c d e (wrap .i64 (f+1)) g h i (a++[e]) b.2.1) none) (K0 c d g h i a b.2.1)
def qhn (D:DX)(n:Nat) (K0:Int→Int→tq39→tq39→List (List tq37)→List Int→tq34→Option tq15):Nat→Int→Int→Int→Int→tq39→tq39→(List (List tq37))→(List Int)→tq34→Option tq15 | 0=>(fun a b c d e f g h i=>none) | m+1=>(fun a b c d e f g h i=>qn0 D n (qhn D n K0 m) K0 a b c d e f g h i)
def qlz (D:DX)(n:Nat) (go:Int→Int→tq39→tq39→List (List tq37)→List Int→tq34→Option tq15) (K0:tq39→tq39→List (List tq37)→List Int→Option tq15) (a b:Int) (c d:tq39) (e:List (List tq37)) (f:List Int) (g:tq34):Option tq15:=go a (wrap .i64 (b+1)) c d e f g
def qmb (D:DX)(n:Nat) (go:Int→Int→tq39→tq39→List (List tq37)→List Int→tq34→Option tq15) (K0:tq39→tq39→List (List tq37)→List Int→Option tq15):(Int)→(Int)→(Int)→(Int)→tq39→tq39→(List (List tq37))→(List Int)→tq34→Option tq15:=(fun a i j k l m o p q=>qhn D n (fun b c d e f g h=>qlz D n go K0 b c d e f g h) n a i j k l m o p q)
def qni (D:DX)(n:Nat) (go:Int→Int→tq39→tq39→List (List tq37)→List Int→tq34→Option tq15) (K0:tq39→tq39→List (List tq37)→List Int→Option tq15) (lp1:Int→Int→Int→Int→tq39→tq39→List (List tq37)→List Int→tq34→Option tq15) (x0 x1:Int) (x2 x3:tq39) (x4:List (List tq37)) (x5:List Int) (x6:tq34):Option tq15:=br (decide (x1<x0)) (qd (qce D x6 (x4.length:Int)) fun b↦lp1 x0 x1 b.1.1 0 x2 x3 x4 x5 b.2.1) (K0 x2 x3 x4 x5)
def qc8 (D:DX)(n:Nat) (K0:tq39→tq39→List (List tq37)→List Int→Option tq15):Nat→Int→Int→tq39→tq39→(List (List tq37))→(List Int)→tq34→Option tq15 | 0=>(fun x0 x1 x2 x3 x4 x5 x6=>none) | m+1=>(fun x0 x1 x2 x3 x4 x5 x6=>qni D n (qc8 D n K0 m) K0 (qmb D n (qc8 D n K0 m) K0) x0 x1 x2 x3 x4 x5 x6)
def qtw (D:DX)(n:Nat) (d a:tq39) (b:List (List tq37)) (c:List Int):Option tq15:=some (((a.1,a.2),b,c,()),())
def qmw (D:DX)(n:Nat):(Int)→(Int)→tq39→tq39→(List (List tq37))→(List Int)→tq34→Option tq15:=(fun x0 x1 x2 x3 x4 x5 x6=>qc8 D n (fun a b c d=>qtw D n a b c d) n x0 x1 x2 x3 x4 x5 x6)
def qpq (D:DX)(n:Nat) (lp0:Int→Int→tq39→tq39→List (List tq37)→List Int→tq34→Option tq15) (a0:List Int):Option tq15:=qd (q6i D a0) fun b↦qd (qqc D b.1.1) fun b↦qd (quf D b.2.1) fun b_1↦qd (q14 D a0 60 120) fun b_2↦qd (qce D b_1.2.1 b_2.1.1) fun b_3↦lp0 b_3.1.1 0 ([],0,()) (b.1.1.1,b.1.1.2) b_1.1.1 [] b_3.2.1
def qpi (D:DX)(n:Nat) (a0:List Int):Option tq15:=qpq D n (qmw D n) a0
def qea (x0 x1:Int) (x2 x3:tq39) (x4:List (List tq37)) (x5:List Int) (x6:tq34):St:=stq 47 [(2,AV.addr 2 []),(5,AV.addr 14 []),(6,AV.addr 6 []),(7,AV.brw 7 [] 0),(8,AV.brw 8 [] 0),(9,AV.val yq34 x0),(10,AV.val yq34 x1)] [(2,Root.mk yq25 kq29 x2 true),(6,Root.mk yq25 kq29 x3 true),(7,Root.mk yq18 kq31 x4 false),(8,Root.mk yq30 kq37 x5 false),(14,Root.mk yq20 Mk.no x6 true)]
def qiv (a b:tq39) (c:List (List tq37)) (d:List Int):St:=stq 47 [(2,AV.addr 2 []),(6,AV.addr 6 []),(7,AV.brw 7 [] 0),(8,AV.brw 8 [] 0)] [(2,Root.mk yq25 kq29 a true),(6,Root.mk yq25 kq29 b true),(7,Root.mk yq18 kq31 c false),(8,Root.mk yq30 kq37 d false)]
def qnh (a b c d:Int) (e f:tq39) (g:List (List tq37)) (h:List Int) (i:tq34):St:=stq 47 [(2,AV.addr 2 []),(5,AV.addr 14 []),(6,AV.addr 6 []),(7,AV.brw 7 [] 0),(8,AV.brw 8 [] 0),(9,AV.val yq34 a),(10,AV.val yq34 b),(11,AV.val yq34 c),(12,AV.val yq34 d)] [(2,Root.mk yq25 kq29 e true),(6,Root.mk yq25 kq29 f true),(7,Root.mk yq18 kq31 g false),(8,Root.mk yq30 kq37 h false),(14,Root.mk yq20 Mk.no i true)]
def qtu (a b:Int) (c d:tq39) (e:List (List tq37)) (f:List Int) (g:tq34):St:=stq 47 [(2,AV.addr 2 []),(5,AV.addr 14 []),(6,AV.addr 6 []),(7,AV.brw 7 [] 0),(8,AV.brw 8 [] 0),(9,AV.val yq34 a),(10,AV.val yq34 b)] [(2,Root.mk yq25 kq29 c true),(6,Root.mk yq25 kq29 d true),(7,Root.mk yq18 kq31 e false),(8,Root.mk yq30 kq37 f false),(14,Root.mk yq20 Mk.no g true)]
theorem q9c (D:DX)(n:Nat) (K:KT 13):∀ (m:Nat) (h i j k:Int) (l o:tq39) (p:List (List tq37)) (q:List Int) (r:tq34),LF D n 13 pq10 m (qnh h i j k l o p q r) K=qhn D n (fun a b c d e f g=>K (Ex.exit 2) (qtu a b c d e f g)) m h i j k l o p q r:=eL9 (fun F=>qn0 D n F (fun a b c d e f g=>K (Ex.exit 2) (qtu a b c d e f g))) (fun _ _ _ _ _ _ _ _ _ =>q7 ..) (fun _ _ _ _ _ _ _ _ _ _ =>by kernel_rfl) (fun _ _ _ _ _ _ _ _ _ _ =>rfl)
theorem q8c (D:DX)(n:Nat) (m:Nat) (K:KT 13) (a b c d:Int) (e f:tq39) (g:List (List tq37)) (h:List Int) (i:tq34):LF D n 13 pq10 n (qnh a b c d e f g h i) (CF D n 13 [.r,.r,.r,.r,.r,.r,.l,.r,.l,.l] [.r,.l,.l,.r,.r,.l] (KF D n 13 pq5 m K))=qmb D n (fun x0 x1 x2 x3 x4 x5 x6=>LF D n 13 pq5 m (qea x0 x1 x2 x3 x4 x5 x6) K) (fun j k o p=>K (Ex.exit 0) (qiv j k o p)) a b c d e f g h i :=by rw[q9c];kernel_rfl
theorem q9e (D:DX)(n:Nat) (m:Nat) (K:KT 13) (x0) (x1) (x2) (x3) (x4:List (List tq37)) (x5) (x6):LF D n 13 pq5 (m+1) (qea x0 x1 x2 x3 x4 x5 x6) K=qni D n (fun x0 x1 x2 x3 x4 x5 x6=>LF D n 13 pq5 m (qea x0 x1 x2 x3 x4 x5 x6) K) (fun a b c d=>K (Ex.exit 0) (qiv a b c d)) (fun e f g h i j k o p=>LF D n 13 pq10 n (qnh e f g h i j k o p) (CF D n 13 [.r,.r,.r,.r,.r,.r,.l,.r,.l,.l] [.r,.l,.l,.r,.r,.l] (KF D n 13 pq5 m K))) x0 x1 x2 x3 x4 x5 x6:=by kernel_rfl
theorem qvl (D:DX)(n:Nat) (K:KT 13):∀ (m:Nat) (x0 x1:Int) (x2 x3:tq39) (x4:List (List tq37)) (x5:List Int) (x6:tq34),LF D n 13 pq5 m (qea x0 x1 x2 x3 x4 x5 x6) K=qc8 D n (fun a b c d=>K (Ex.exit 0) (qiv a b c d)) m x0 x1 x2 x3 x4 x5 x6
 | 0,x0,x1,x2,x3,x4,x5,x6=>q7 ..
 | m+1,x0,x1,x2,x3,x4,x5,x6=>by
  have ih:(fun x0 x1 x2 x3 x4 x5 x6=>LF D n 13 pq5 m (qea x0 x1 x2 x3 x4 x5 x6) K)=qc8 D n (fun a b c d=>K (Ex.exit 0) (qiv a b c d)) m:=by funext x0 x1 x2 x3 x4 x5 x6;exact qvl D n K m x0 x1 x2 x3 x4 x5 x6
  rw[q9e]
  simp only[q8c]
  rw[ih];rfl
theorem q8u (D:DX)(n:Nat) (x0) (x1) (x2) (x3) (x4:List (List tq37)) (x5) (x6):LF D n 13 pq5 n (qea x0 x1 x2 x3 x4 x5 x6) (CF D n 13 [] pq5 (lF 13))=qmw D n x0 x1 x2 x3 x4 x5 x6 :=by rw[qvl];kernel_rfl
theorem qbcp (D:DX)(n:Nat) (a0:List Int):rF D n 13 (a0,())=qpi D n a0:=by
 have h:rF D n 13 (a0,())=qpq D n (fun x0 x1 x2 x3 x4 x5 x6=>LF D n 13 pq5 n (qea x0 x1 x2 x3 x4 x5 x6) (CF D n 13 [] pq5 (lF 13))) a0:=by kernel_rfl
 rw[h]
 simp only[q8u]
 rfl

def qqu (D:DX)(n:Nat) (go:Bool→List (List tq37)→Int→Int→tq5→tq5→Option tq0) (K0:Bool→tq5→tq5→Option tq0) (x0:Bool) (x1:List (List tq37)) (x2 x3:Int) (x4 x5:tq5):Option tq0:=br (decide (x3<x2)) (br (decide (0≤x3)&&decide (x3<(x1.length:Int))) (qd (q55 D (List.getD x1 x3.toNat [])) fun b↦br (decide (x5.2.1.length+1≤qb7)) (go x0 x1 x2 (wrap .i64 (x3+1)) x4 (x5.1,x5.2.1++[(b.1.1.1,b.1.1.2.1,b.1.1.2.2.1,b.1.1.2.2.2.1,b.1.1.2.2.2.2.1,())],x5.2.2)) none) none) (K0 x0 x4 x5)
def qi0 (D:DX)(n:Nat) (K0:Bool→tq5→tq5→Option tq0):Nat→Bool→(List (List tq37))→Int→Int→tq5→tq5→Option tq0 | 0=>(fun x0 x1 x2 x3 x4 x5=>none) | m+1=>(fun x0 x1 x2 x3 x4 x5=>qqu D n (qi0 D n K0 m) K0 x0 x1 x2 x3 x4 x5)
def qxu (D:DX)(n:Nat) (c:Bool) (d a:tq5):Option tq0:=br (!c) (some (((([],[],()),[],0,[],[],([],0,()),()),false,()),())) (qd (qfm D ((a.1.1,a.1.2.1,()),a.2.1,a.2.2.1,a.2.2.2.1,a.2.2.2.2.1,(a.2.2.2.2.2.1.1,a.2.2.2.2.2.1.2),())) fun b↦br (!b.1.1) (some (((([],[],()),[],0,[],[],([],0,()),()),false,()),())) (some ((((a.1.1,a.1.2.1,()),a.2.1,a.2.2.1,a.2.2.2.1,a.2.2.2.2.1,(a.2.2.2.2.2.1.1,a.2.2.2.2.2.1.2),()),true,()),())))
def qo6 (D:DX)(n:Nat):(Bool)→(List (List tq37))→(Int)→(Int)→tq5→tq5→Option tq0:=(fun x0 x1 x2 x3 x4 x5=>qi0 D n (fun a b c=>qxu D n a b c) n x0 x1 x2 x3 x4 x5)
def qte (D:DX)(n:Nat) (lp0:Bool→List (List tq37)→Int→Int→tq5→tq5→Option tq0) (a0:tq39) (a1:List (List tq37)):Option tq0:=qd (q2u D a0 (a1.length:Int)) fun b↦qd (qpx D a0) fun b_1↦lp0 b.1.2.1 a1 (a1.length:Int) 0 (([],[],()),[],0,[],[],([],0,()),()) ((b.1.1.1,b.1.1.2.1,()),[],0,[],[],(b_1.1.1.1,b_1.1.1.2),())
def qtb (D:DX)(n:Nat) (a0:tq39) (a1:List (List tq37)):Option tq0:=qte D n (qo6 D n) a0 a1
def qq0 (x0:Bool) (x1:List (List tq37)) (x2 x3:Int) (x4 x5:tq5):St:=stq 45 [(4,AV.addr 4 []),(7,AV.val Ty.bool x0),(8,AV.addr 8 []),(22,AV.val yq18 x1),(23,AV.val yq34 x2),(24,AV.val yq34 x3)] [(4,Root.mk yq0 kq1 x4 true),(8,Root.mk yq0 kq2 x5 true)]
def qwz (a:Bool) (b c:tq5):St:=stq 45 [(4,AV.addr 4 []),(7,AV.val Ty.bool a),(8,AV.addr 8 [])] [(4,Root.mk yq0 kq1 b true),(8,Root.mk yq0 kq2 c true)]
theorem qbco (D:DX)(n:Nat) (K:KT 14):∀ (m:Nat) (x0:Bool) (x1:List (List tq37)) (x2 x3:Int) (x4 x5:tq5),LF D n 14 pq1 m (qq0 x0 x1 x2 x3 x4 x5) K=qi0 D n (fun a b c=>K (Ex.exit 0) (qwz a b c)) m x0 x1 x2 x3 x4 x5:=eL6 (fun F=>qqu D n F (fun a b c=>K (Ex.exit 0) (qwz a b c))) (fun _ _ _ _ _ _ =>q7 ..) (fun _ _ _ _ _ _ _ =>by kernel_rfl) (fun _ _ _ _ _ _ _ =>rfl)
theorem qba1 (D:DX)(n:Nat) (x0) (x1:List (List tq37)) (x2) (x3) (x4) (x5):LF D n 14 pq1 n (qq0 x0 x1 x2 x3 x4 x5) (CF D n 14 [] pq1 (lF 14))=qo6 D n x0 x1 x2 x3 x4 x5 :=by rw[qbco];kernel_rfl
theorem qbfp (D:DX)(n:Nat) (a0:tq39) (a1:List (List tq37)):rF D n 14 (a0,(a1,()))=qtb D n a0 a1:=by
 have h:rF D n 14 (a0,(a1,()))=qte D n (fun x0 x1 x2 x3 x4 x5=>LF D n 14 pq1 n (qq0 x0 x1 x2 x3 x4 x5) (CF D n 14 [] pq1 (lF 14))) a0 a1:=by kernel_rfl
 rw[h]
 simp only[qba1]
 rfl

def qq9 (D:DX)(n:Nat) (go:List (List tq37)→Bool→Int→tq5→tq5→Option tq0) (K0:Bool→tq5→tq5→Option tq0) (x0:List (List tq37)) (x1:Bool) (x2:Int) (x3 x4:tq5):Option tq0:=br (decide (x2<(x0.length:Int))) (br (decide (0≤x2)&&decide (x2<(x0.length:Int))) (qd (q5u D (List.getD x0 x2.toNat [])) fun b↦br (decide (x4.2.1.length+1≤qb7)) (go x0 x1 (wrap .i64 (x2+1)) x3 (x4.1,x4.2.1++[(b.1.1.1,b.1.1.2.1,b.1.1.2.2.1,b.1.1.2.2.2.1,b.1.1.2.2.2.2.1,())],x4.2.2)) none) none) (K0 x1 x3 x4)
def qi1 (D:DX)(n:Nat) (K0:Bool→tq5→tq5→Option tq0):Nat→(List (List tq37))→Bool→Int→tq5→tq5→Option tq0 | 0=>(fun x0 x1 x2 x3 x4=>none) | m+1=>(fun x0 x1 x2 x3 x4=>qq9 D n (qi1 D n K0 m) K0 x0 x1 x2 x3 x4)
def qwc (D:DX)(n:Nat) (c:Bool) (d a:tq5):Option tq0:=br (!c) (some (((([],[],()),[],0,[],[],([],0,()),()),false,()),())) (qd (qvc D ((a.1.1,a.1.2.1,()),a.2.1,a.2.2.1,a.2.2.2.1,a.2.2.2.2.1,(a.2.2.2.2.2.1.1,a.2.2.2.2.2.1.2),())) fun b↦br (!b.1.1) (some (((([],[],()),[],0,[],[],([],0,()),()),false,()),())) (some ((((a.1.1,a.1.2.1,()),a.2.1,a.2.2.1,a.2.2.2.1,a.2.2.2.2.1,(a.2.2.2.2.2.1.1,a.2.2.2.2.2.1.2),()),true,()),())))
def qpa (D:DX)(n:Nat):(List (List tq37))→(Bool)→(Int)→tq5→tq5→Option tq0:=(fun x0 x1 x2 x3 x4=>qi1 D n (fun a b c=>qwc D n a b c) n x0 x1 x2 x3 x4)
def qs5 (D:DX)(n:Nat) (lp0:List (List tq37)→Bool→Int→tq5→tq5→Option tq0) (a0:tq39) (a1:List (List tq37)):Option tq0:=qd (q2d D a0 (a1.length:Int)) fun b↦qd (q2w D a0) fun b_1↦lp0 a1 b.1.2.1 0 (([],[],()),[],0,[],[],([],0,()),()) ((b.1.1.1,b.1.1.2.1,()),[],0,[],[],(b_1.1.1.1,b_1.1.1.2),())
def qsi (D:DX)(n:Nat) (a0:tq39) (a1:List (List tq37)):Option tq0:=qs5 D n (qpa D n) a0 a1
def qq1 (x0:List (List tq37)) (x1:Bool) (x2:Int) (x3 x4:tq5):St:=stq 46 [(1,AV.val yq18 x0),(4,AV.addr 4 []),(7,AV.val Ty.bool x1),(8,AV.addr 8 []),(9,AV.val yq34 x2)] [(4,Root.mk yq0 kq1 x3 true),(8,Root.mk yq0 kq1 x4 true)]
def qxk (a:Bool) (b c:tq5):St:=stq 46 [(4,AV.addr 4 []),(7,AV.val Ty.bool a),(8,AV.addr 8 [])] [(4,Root.mk yq0 kq1 b true),(8,Root.mk yq0 kq1 c true)]
theorem qbcd (D:DX)(n:Nat) (K:KT 15):∀ (m:Nat) (x0:List (List tq37)) (x1:Bool) (x2:Int) (x3 x4:tq5),LF D n 15 pq1 m (qq1 x0 x1 x2 x3 x4) K=qi1 D n (fun a b c=>K (Ex.exit 0) (qxk a b c)) m x0 x1 x2 x3 x4:=eL5 (fun F=>qq9 D n F (fun a b c=>K (Ex.exit 0) (qxk a b c))) (fun _ _ _ _ _ =>q7 ..) (fun _ _ _ _ _ _ =>by kernel_rfl) (fun _ _ _ _ _ _ =>rfl)
theorem qbap (D:DX)(n:Nat) (x0:List (List tq37)) (x1) (x2) (x3) (x4):LF D n 15 pq1 n (qq1 x0 x1 x2 x3 x4) (CF D n 15 [] pq1 (lF 15))=qpa D n x0 x1 x2 x3 x4 :=by rw[qbcd];kernel_rfl
theorem qbgn (D:DX)(n:Nat) (a0:tq39) (a1:List (List tq37)):rF D n 15 (a0,(a1,()))=qsi D n a0 a1:=by
 have h:rF D n 15 (a0,(a1,()))=qs5 D n (fun x0 x1 x2 x3 x4=>LF D n 15 pq1 n (qq1 x0 x1 x2 x3 x4) (CF D n 15 [] pq1 (lF 15))) a0 a1:=by kernel_rfl
 rw[h]
 simp only[qbap]
 rfl

def q6c (D:DX)(n:Nat) (go:List Int→Int→Int→tq5→tq5→Option tq3) (K0:tq5→tq5→Option tq3) (x0:List Int) (x1 x2:Int) (x3 x4:tq5):Option tq3:=br (decide (x2<x1)) (br (decide (0≤x2)&&decide (x2<(x0.length:Int))) (qd (qtv D x3 (List.getD x0 x2.toNat 0)) fun b↦go x0 x1 (wrap .i64 (x2+1)) b.1.1 x4) none) (K0 x3 x4)
def qq8 (D:DX)(n:Nat) (K0:tq5→tq5→Option tq3):Nat→(List Int)→Int→Int→tq5→tq5→Option tq3 | 0=>(fun x0 x1 x2 x3 x4=>none) | m+1=>(fun x0 x1 x2 x3 x4=>q6c D n (qq8 D n K0 m) K0 x0 x1 x2 x3 x4)
def qbmo (D:DX)(n:Nat) (a b:tq5):Option tq3:=some ((a,()),())
def q2c (D:DX)(n:Nat):(List Int)→(Int)→(Int)→tq5→tq5→Option tq3:=(fun x0 x1 x2 x3 x4=>qq8 D n (fun a b=>qbmo D n a b) n x0 x1 x2 x3 x4)
def q8q (D:DX)(n:Nat) (lp0:List Int→Int→Int→tq5→tq5→Option tq3) (a0:tq5) (a1:List Int):Option tq3:=qd (qjd D a0) fun b↦br (decide ((a1.length:Int)>2000)) (some ((((b.1.1.1.1,b.1.1.1.2.1,()),b.1.1.2.1,b.1.1.2.2.1,b.1.1.2.2.2.1,b.1.1.2.2.2.2.1,b.1.1.2.2.2.2.2),()),())) (lp0 a1 (a1.length:Int) 0 ((b.1.1.1.1,b.1.1.1.2.1,()),b.1.1.2.1,b.1.1.2.2.1,b.1.1.2.2.2.1,b.1.1.2.2.2.2.1,b.1.1.2.2.2.2.2) (([],[],()),[],0,[],[],([],0,()),()))
def q8i (D:DX)(n:Nat) (a0:tq5) (a1:List Int):Option tq3:=q8q D n (q2c D n) a0 a1
def q5r (x0:List Int) (x1 x2:Int) (x3 x4:tq5):St:=stq 27 [(2,AV.addr 2 []),(4,AV.addr 4 []),(13,AV.val yq30 x0),(14,AV.val yq34 x1),(15,AV.val yq34 x2)] [(2,Root.mk yq0 Mk.no x3 true),(4,Root.mk yq0 kq1 x4 true)]
def q9y (a b:tq5):St:=stq 27 [(2,AV.addr 2 []),(4,AV.addr 4 [])] [(2,Root.mk yq0 Mk.no a true),(4,Root.mk yq0 kq1 b true)]
theorem qbp0 (D:DX)(n:Nat) (K:KT 16):∀ (m:Nat) (x0:List Int) (x1 x2:Int) (x3 x4:tq5),LF D n 16 pq1 m (q5r x0 x1 x2 x3 x4) K=qq8 D n (fun a b=>K (Ex.exit 0) (q9y a b)) m x0 x1 x2 x3 x4:=eL5 (fun F=>q6c D n F (fun a b=>K (Ex.exit 0) (q9y a b))) (fun _ _ _ _ _ =>q7 ..) (fun _ _ _ _ _ _ =>by kernel_rfl) (fun _ _ _ _ _ _ =>rfl)
theorem qbmn (D:DX)(n:Nat) (x0) (x1) (x2) (x3) (x4):LF D n 16 pq1 n (q5r x0 x1 x2 x3 x4) (CF D n 16 [] pq1 (lF 16))=q2c D n x0 x1 x2 x3 x4 :=by rw[qbp0];kernel_rfl
theorem qbum (D:DX)(n:Nat) (a0:tq5) (a1:List Int):rF D n 16 (a0,(a1,()))=q8i D n a0 a1:=by
 have h:rF D n 16 (a0,(a1,()))=q8q D n (fun x0 x1 x2 x3 x4=>LF D n 16 pq1 n (q5r x0 x1 x2 x3 x4) (CF D n 16 [] pq1 (lF 16))) a0 a1:=by kernel_rfl
 rw[h]
 simp only[qbmn]
 rfl

def qtk (D:DX)(n:Nat) (a0:tq13):Option tq41:=some ((decide (a0.2.1=(a0.1.length:Int)),()),())
def ql7 (D:DX)(n:Nat) (a0:tq13):Option tq41:=qtk D n a0
theorem qbfo (D:DX)(n:Nat) (a0:tq13):rF D n 17 (a0,())=ql7 D n a0:=by kernel_rfl



def q5h (D:DX)(n:Nat) (a0 a1:tq17):Option tq41:=some ((bif decide (a0.2.2.2.2.1≥0) then decide (a0.2.2.2.2.1<a1.2.2.1) else false,()),())
def qwn (D:DX)(n:Nat) (a0 a1:tq17):Option tq41:=q5h D n a0 a1
theorem qbq6 (D:DX)(n:Nat) (a0 a1:tq17):rF D n 29 (a0,(a1,()))=qwn D n a0 a1:=by kernel_rfl

def qp8 (D:DX)(n:Nat) (go:List tq17→Int→Int→List tq17→Int→Int→tq5→tq17→Option tq41) (K0:Bool→List tq17→Int→Int→tq5→Option tq41) (K1:List tq17→Int→Int→tq5→Option tq41) (d:List tq17) (e f:Int) (c:List tq17) (i a:Int) (g:tq5) (h:tq17):Option tq41:=br (decide (a<i)) (br (decide (0≤a)&&decide (a<(c.length:Int))) (br (decide ((List.getD c a.toNat (0,(0,0,0,()),0,0,0,(0,[],()),())).1=h.1)) (qd (q4y D (List.getD c a.toNat (0,(0,0,0,()),0,0,0,(0,[],()),())) h) fun b↦br (!b.1.1) (K0 false d e f g) (go d e f c i (wrap .i64 (a+1)) g h)) (go d e f c i (wrap .i64 (a+1)) g h)) none) (K1 d e f g)
def qi8 (D:DX)(n:Nat) (K0:Bool→List tq17→Int→Int→tq5→Option tq41) (K1:List tq17→Int→Int→tq5→Option tq41):Nat→(List tq17)→Int→Int→(List tq17)→Int→Int→tq5→tq17→Option tq41 | 0=>(fun a b c d e f g h=>none) | m+1=>(fun a b c d e f g h=>qp8 D n (qi8 D n K0 K1 m) K0 K1 a b c d e f g h)
def qbaq (D:DX)(n:Nat) (go:List tq17→Int→Int→tq5→Option tq41) (K0:Bool→Option tq41) (K1:Option tq41) (a:Bool) (b:List tq17) (c d:Int) (e:tq5):Option tq41:=K0 a
def qv4 (D:DX)(n:Nat) (go:List tq17→Int→Int→tq5→Option tq41) (K0:Bool→Option tq41) (K1:Option tq41) (a:List tq17) (b c:Int) (d:tq5):Option tq41:=go a b (wrap .i64 (c+1)) d
def qpo (D:DX)(n:Nat) (go:List tq17→Int→Int→tq5→Option tq41) (K0:Bool→Option tq41) (K1:Option tq41):(List tq17)→(Int)→(Int)→(List tq17)→(Int)→(Int)→tq5→tq17→Option tq41:=(fun a b l m o p q r=>qi8 D n (fun c d e f g=>qbaq D n go K0 K1 c d e f g) (fun h i j k=>qv4 D n go K0 K1 h i j k) n a b l m o p q r)
def qrd (D:DX)(n:Nat) (go:List tq17→Int→Int→tq5→Option tq41) (K0:Bool→Option tq41) (K1:Option tq41) (lp1:List tq17→Int→Int→List tq17→Int→Int→tq5→tq17→Option tq41) (x0:List tq17) (x1 x2:Int) (x3:tq5):Option tq41:=let y0:=List.getD x0 x2.toNat (0,(0,0,0,()),0,0,0,(0,[],()),());let y1:=List.drop (Int.toNat 0) (List.take x2.toNat x3.2.2.2.1);br (decide (x2<x1)) (br (decide (0≤x2)&&decide (x2<(x0.length:Int))) (br (bif decide (y0.2.2.2.2.1≥0) then bif decide (y0.2.2.2.1<0) then true else decide (y0.2.2.2.1>y0.2.2.2.2.1) else false) (K0 false) (br (decide (0≤0)&&decide (0≤x2)&&decide (x2≤(x3.2.2.2.1.length:Int))) (lp1 x0 x1 x2 y1 (y1.length:Int) 0 x3 y0) none)) none) K1
def qfl (D:DX)(n:Nat) (K0:Bool→Option tq41) (K1:Option tq41):Nat→(List tq17)→Int→Int→tq5→Option tq41 | 0=>(fun x0 x1 x2 x3=>none) | m+1=>(fun x0 x1 x2 x3=>qrd D n (qfl D n K0 K1 m) K0 K1 (qpo D n (qfl D n K0 K1 m) K0 K1) x0 x1 x2 x3)
def qba8 (D:DX)(n:Nat) (a:Bool):Option tq41:=some ((a,()),())
def qbax (D:DX)(n:Nat):Option tq41:=some ((true,()),())
def qo9 (D:DX)(n:Nat):(List tq17)→(Int)→(Int)→tq5→Option tq41:=(fun x0 x1 x2 x3=>qfl D n (fun a=>qba8 D n a) (qbax D n) n x0 x1 x2 x3)
def qti (D:DX)(n:Nat) (lp0:List tq17→Int→Int→tq5→Option tq41) (a0:tq5):Option tq41:=qd (qfm D a0) fun b↦br (!b.1.1) (some ((false,()),())) (lp0 a0.2.2.2.1 (a0.2.2.2.1.length:Int) 0 a0)
def qsy (D:DX)(n:Nat) (a0:tq5):Option tq41:=qti D n (qo9 D n) a0
def qfk (x0:List tq17) (x1 x2:Int) (x3:tq5):St:=stq 55 [(1,AV.addr 1 []),(11,AV.val yq6 x0),(12,AV.val yq34 x1),(13,AV.val yq34 x2)] [(1,Root.mk yq0 Mk.no x3 true)]
def qj0 (a:Bool):St:=stq 55 [(2,AV.val Ty.bool a)] []
def qjy:St:=stq 55 [] []
def qrg (a:List tq17) (b c:Int) (d:List tq17) (e f:Int) (g:tq5) (h:tq17):St:=stq 55 [(1,AV.addr 1 []),(4,AV.addr 4 []),(11,AV.val yq6 a),(12,AV.val yq34 b),(13,AV.val yq34 c),(36,AV.val yq6 d),(37,AV.val yq34 e),(38,AV.val yq34 f)] [(1,Root.mk yq0 Mk.no g true),(4,Root.mk yq7 Mk.no h true)]
def qxz (a:Bool) (b:List tq17) (c d:Int) (e:tq5):St:=stq 55 [(1,AV.addr 1 []),(2,AV.val Ty.bool a),(11,AV.val yq6 b),(12,AV.val yq34 c),(13,AV.val yq34 d)] [(1,Root.mk yq0 Mk.no e true)]
def qxf (a:List tq17) (b c:Int) (d:tq5):St:=stq 55 [(1,AV.addr 1 []),(11,AV.val yq6 a),(12,AV.val yq34 b),(13,AV.val yq34 c)] [(1,Root.mk yq0 Mk.no d true)]
theorem qbca (D:DX)(n:Nat) (K:KT 30):∀ (m:Nat) (j:List tq17) (k l:Int) (o:List tq17) (p q:Int) (r:tq5) (s:tq17),LF D n 30 pq13 m (qrg j k l o p q r s) K=qi8 D n (fun a b c d e=>K (Ex.ret) (qxz a b c d e)) (fun f g h i=>K (Ex.exit 2) (qxf f g h i)) m j k l o p q r s:=eL8 (fun F=>qp8 D n F (fun a b c d e=>K (Ex.ret) (qxz a b c d e)) (fun f g h i=>K (Ex.exit 2) (qxf f g h i))) (fun _ _ _ _ _ _ _ _ =>q7 ..) (fun _ _ _ _ _ _ _ _ _ =>by kernel_rfl) (fun _ _ _ _ _ _ _ _ _ =>rfl)
theorem qbbn (D:DX)(n:Nat) (m:Nat) (K:KT 30) (a:List tq17) (b c:Int) (d:List tq17) (e f:Int) (g:tq5) (h:tq17):LF D n 30 pq13 n (qrg a b c d e f g h) (CF D n 30 pq18 [.r,.r,.l,.l,.r,.r,.r,.l] (KF D n 30 pq0 m K))=qpo D n (fun x0 x1 x2 x3=>LF D n 30 pq0 m (qfk x0 x1 x2 x3) K) (fun i=>K (Ex.ret) (qj0 i)) (K (Ex.exit 0) (qjy)) a b c d e f g h :=by rw[qbca];kernel_rfl
theorem qbcl (D:DX)(n:Nat) (m:Nat) (K:KT 30) (x0) (x1) (x2) (x3):LF D n 30 pq0 (m+1) (qfk x0 x1 x2 x3) K=qrd D n (fun x0 x1 x2 x3=>LF D n 30 pq0 m (qfk x0 x1 x2 x3) K) (fun a=>K (Ex.ret) (qj0 a)) (K (Ex.exit 0) (qjy)) (fun b c d e f g h i=>LF D n 30 pq13 n (qrg b c d e f g h i) (CF D n 30 pq18 [.r,.r,.l,.l,.r,.r,.r,.l] (KF D n 30 pq0 m K))) x0 x1 x2 x3:=by kernel_rfl
theorem qye (D:DX)(n:Nat) (K:KT 30):∀ (m:Nat) (x0:List tq17) (x1 x2:Int) (x3:tq5),LF D n 30 pq0 m (qfk x0 x1 x2 x3) K=qfl D n (fun a=>K (Ex.ret) (qj0 a)) (K (Ex.exit 0) (qjy)) m x0 x1 x2 x3
 | 0,x0,x1,x2,x3=>q7 ..
 | m+1,x0,x1,x2,x3=>by
  have ih:(fun x0 x1 x2 x3=>LF D n 30 pq0 m (qfk x0 x1 x2 x3) K)=qfl D n (fun a=>K (Ex.ret) (qj0 a)) (K (Ex.exit 0) (qjy)) m:=by funext x0 x1 x2 x3;exact qye D n K m x0 x1 x2 x3
  rw[qbcl]
  simp only[qbbn]
  rw[ih];rfl
theorem qbbl (D:DX)(n:Nat) (x0) (x1) (x2) (x3):LF D n 30 pq0 n (qfk x0 x1 x2 x3) (CF D n 30 [] pq0 (lF 30))=qo9 D n x0 x1 x2 x3 :=by rw[qye];kernel_rfl
theorem qbff (D:DX)(n:Nat) (a0:tq5):rF D n 30 (a0,())=qsy D n a0:=by
 have h:rF D n 30 (a0,())=qti D n (fun x0 x1 x2 x3=>LF D n 30 pq0 n (qfk x0 x1 x2 x3) (CF D n 30 [] pq0 (lF 30))) a0:=by kernel_rfl
 rw[h]
 simp only[qbbl]
 rfl


def qbei (D:DX)(n:Nat) (a0:Int):Option tq42:=qd (qhr D a0) fun b↦qd (qco D) fun b_1↦qd (qk5 D b.1.1 (wrap .i64 (b_1.1.1+a0))) fun b↦some ((b.1.1,()),())
def q59 (D:DX)(n:Nat) (a0:Int):Option tq42:=qbei D n a0
theorem qbsa (D:DX)(n:Nat) (a0:Int):rF D n 35 (a0,())=q59 D n a0:=by kernel_rfl





def qsp (D:DX)(n:Nat) (go:Int→List tq17→Int→Int→tq5→Option tq41) (K0:Bool→Int→tq5→Option tq41) (K1:Int→tq5→Option tq41) (x0:Int) (x1:List tq17) (x2 x3:Int) (x4:tq5):Option tq41:=let y0:=List.getD x1 x3.toNat (0,(0,0,0,()),0,0,0,(0,[],()),());br (decide (x3<x2)) (br (decide (0≤x3)&&decide (x3<(x1.length:Int))) (qd (qbp D y0.1 0 (wrap .i64 (x0 - 1))) fun b↦br (!b.1.1) (K0 false x0 x4) (qd (qlw D y0.2.1) fun b↦br (!b.1.1) (K0 false x0 x4) (qd (qbp D y0.2.2.1 0 x4.2.2.1) fun b↦br (!b.1.1) (K0 false x0 x4) (qd (qlj D y0 y0.2.2.2.1 x4) fun b↦br (!b.1.1) (K0 false x0 x4) (qd (qlj D y0 y0.2.2.2.2.1 x4) fun b↦br (!b.1.1) (K0 false x0 x4) (go x0 x1 x2 (wrap .i64 (x3+1)) x4)))))) none) (K1 x0 x4)
def qju (D:DX)(n:Nat) (K0:Bool→Int→tq5→Option tq41) (K1:Int→tq5→Option tq41):Nat→Int→(List tq17)→Int→Int→tq5→Option tq41 | 0=>(fun x0 x1 x2 x3 x4=>none) | m+1=>(fun x0 x1 x2 x3 x4=>qsp D n (qju D n K0 K1 m) K0 K1 x0 x1 x2 x3 x4)
def qyc (D:DX)(n:Nat) (a:Bool) (b:Int) (c:tq5):Option tq41:=some ((a,()),())
def qsl (D:DX)(n:Nat) (go:Int→List tq13→Int→Int→tq5→Option tq41) (K0:Bool→tq5→Option tq41) (K1:tq5→Option tq41) (e:Int) (d:List tq13) (f a:Int) (c:tq5):Option tq41:=br (decide (a<f)) (br (decide (0≤a)&&decide (a<(d.length:Int))) (qd (qxa D (List.getD d a.toNat ([],0,false,[],[],())) e) fun b↦br (!b.1.1) (K0 false c) (qd (q0h D c a) fun b↦br (!b.1.1) (K0 false c) (go e d f (wrap .i64 (a+1)) c))) none) (K1 c)
def qjv (D:DX)(n:Nat) (K0:Bool→tq5→Option tq41) (K1:tq5→Option tq41):Nat→Int→(List tq13)→Int→Int→tq5→Option tq41 | 0=>(fun a b c d e=>none) | m+1=>(fun a b c d e=>qsl D n (qjv D n K0 K1 m) K0 K1 a b c d e)
def qbcj (D:DX)(n:Nat) (a:Bool) (b:tq5):Option tq41:=some ((a,()),())
def qx8 (D:DX)(n:Nat) (a:tq5):Option tq41:=qd (qzt D a) fun b↦some ((b.1.1,()),())
def qqd (D:DX)(n:Nat):(Int)→(List tq13)→(Int)→(Int)→tq5→Option tq41:=(fun a b f g h=>qjv D n (fun c d=>qbcj D n c d) (fun e=>qx8 D n e) n a b f g h)
def qpn (D:DX)(n:Nat) (lp1:Int→List tq13→Int→Int→tq5→Option tq41) (b:Int) (a:tq5):Option tq41:=lp1 b a.2.1 (a.2.1.length:Int) 0 a
def qrl (D:DX)(n:Nat):(Int)→(List tq17)→(Int)→(Int)→tq5→Option tq41:=(fun x0 x1 x2 x3 x4=>qju D n (fun a b c=>qyc D n a b c) (fun d e=>qpn D n (qqd D n) d e) n x0 x1 x2 x3 x4)
def qun (D:DX)(n:Nat) (lp0:Int→List tq17→Int→Int→tq5→Option tq41) (a0:tq5):Option tq41:=qd (qkh D a0.1) fun b↦br (bif !b.1.1 then true else (a0.1.2.1.length:Int) != (a0.2.1.length:Int)) (some ((false,()),())) (qd (qbp D a0.2.2.1 0 100000) fun b↦br (bif !b.1.1 then true else decide ((a0.2.2.2.1.length:Int)>40)) (some ((false,()),())) (qd (qt7 D a0.2.2.2.2.2.1) fun b↦br (!b.1.1) (some ((false,()),())) (lp0 (a0.2.1.length:Int) a0.2.2.2.1 (a0.2.2.2.1.length:Int) 0 a0)))
def qus (D:DX)(n:Nat) (a0:tq5):Option tq41:=qun D n (qrl D n) a0
def qtd (x0:Int) (x1:List tq17) (x2 x3:Int) (x4:tq5):St:=stq 108 [(1,AV.addr 1 []),(3,AV.val yq34 x0),(4,AV.clo 79 (AV.pair (AV.addr 1 []) AV.unit)),(44,AV.val yq6 x1),(45,AV.val yq34 x2),(46,AV.val yq34 x3)] [(1,Root.mk yq0 Mk.no x4 true)]
def qpk (a:Bool) (b:Int) (c:tq5):St:=stq 108 [(1,AV.addr 1 []),(2,AV.val Ty.bool a),(3,AV.val yq34 b)] [(1,Root.mk yq0 Mk.no c true)]
def qpb (a:Int) (b:tq5):St:=stq 108 [(1,AV.addr 1 []),(3,AV.val yq34 a)] [(1,Root.mk yq0 Mk.no b true)]
def qth (a:Int) (b:List tq13) (c d:Int) (e:tq5):St:=stq 108 [(1,AV.addr 1 []),(3,AV.val yq34 a),(88,AV.val yq4 b),(89,AV.val yq34 c),(90,AV.val yq34 d)] [(1,Root.mk yq0 Mk.no e true)]
def qx5 (a:Bool) (b:tq5):St:=stq 108 [(1,AV.addr 1 []),(2,AV.val Ty.bool a)] [(1,Root.mk yq0 Mk.no b true)]
def qyb (a:tq5):St:=stq 108 [(1,AV.addr 1 [])] [(1,Root.mk yq0 Mk.no a true)]
theorem qbem (D:DX)(n:Nat) (K:KT 40):∀ (m:Nat) (x0:Int) (x1:List tq17) (x2 x3:Int) (x4:tq5),LF D n 40 pq3 m (qtd x0 x1 x2 x3 x4) K=qju D n (fun a b c=>K (Ex.ret) (qpk a b c)) (fun d e=>K (Ex.exit 0) (qpb d e)) m x0 x1 x2 x3 x4:=eL5 (fun F=>qsp D n F (fun a b c=>K (Ex.ret) (qpk a b c)) (fun d e=>K (Ex.exit 0) (qpb d e))) (fun _ _ _ _ _ =>q7 ..) (fun _ _ _ _ _ _ =>by kernel_rfl) (fun _ _ _ _ _ _ =>rfl)
theorem qbeg (D:DX)(n:Nat) (K:KT 40):∀ (m:Nat) (d:Int) (e:List tq13) (f g:Int) (h:tq5),LF D n 40 pq7 m (qth d e f g h) K=qjv D n (fun a b=>K (Ex.ret) (qx5 a b)) (fun c=>K (Ex.exit 2) (qyb c)) m d e f g h:=eL5 (fun F=>qsl D n F (fun a b=>K (Ex.ret) (qx5 a b)) (fun c=>K (Ex.exit 2) (qyb c))) (fun _ _ _ _ _ =>q7 ..) (fun _ _ _ _ _ _ =>by kernel_rfl) (fun _ _ _ _ _ _ =>rfl)
theorem qbct (D:DX)(n:Nat) (a:Int) (b:List tq13) (c d:Int) (e:tq5):LF D n 40 pq7 n (qth a b c d e) (CF D n 40 [] pq7 (lF 40))=qqd D n a b c d e :=by rw[qbeg];kernel_rfl
theorem qbcf (D:DX)(n:Nat) (a:Bool) (b:Int) (c:tq5):(CF D n 40 [] pq3 (lF 40)) (Ex.ret) (qpk a b c)=qyc D n a b c:=by kernel_rfl
theorem qbce (D:DX)(n:Nat) (a:Int) (b:tq5):(CF D n 40 [] pq3 (lF 40)) (Ex.exit 0) (qpb a b)=qpn D n (fun c d e f g=>LF D n 40 pq7 n (qth c d e f g) (CF D n 40 [] pq7 (lF 40))) a b:=by kernel_rfl
theorem qbcu (D:DX)(n:Nat) (x0) (x1) (x2) (x3) (x4):LF D n 40 pq3 n (qtd x0 x1 x2 x3 x4) (CF D n 40 [] pq3 (lF 40))=qrl D n x0 x1 x2 x3 x4:=by
 rw[qbem]
 simp only[qbcf,qbce,qbct]
 rfl
theorem qbhr (D:DX)(n:Nat) (a0:tq5):rF D n 40 (a0,())=qus D n a0:=by
 have h:rF D n 40 (a0,())=qun D n (fun x0 x1 x2 x3 x4=>LF D n 40 pq3 n (qtd x0 x1 x2 x3 x4) (CF D n 40 [] pq3 (lF 40))) a0:=by kernel_rfl
 rw[h]
 simp only[qbcu]
 rfl


def q1t (D:DX)(n:Nat) (go:List Int→Int→Int→Option tq27) (K0:List Int→Int→Option tq27) (x0:List Int) (x1 x2:Int):Option tq27:=br (bif decide (x2<(x0.length:Int)) then decide (x2<4000) else false) (br (decide (0≤x2)&&decide (x2<(x0.length:Int))) (go x0 (wrap .i64 (↑(BitVec.toNat (BitVec.and (BitVec.ofInt (IntKind.bits IntKind.i64) (wrap .i64 (wrap .i64 (wrap .i64 (x1 * 131)+wrap .i64 (List.getD x0 x2.toNat 0))+7))) (BitVec.ofInt (IntKind.bits IntKind.i64) 1073741823))):Int)) (wrap .i64 (x2+1))) none) (K0 x0 x1)
def qog (D:DX)(n:Nat) (K0:List Int→Int→Option tq27):Nat→(List Int)→Int→Int→Option tq27 | 0=>(fun x0 x1 x2=>none) | m+1=>(fun x0 x1 x2=>q1t D n (qog D n K0 m) K0 x0 x1 x2)
def q7h (D:DX)(n:Nat) (a:List Int) (b:Int):Option tq27:=some (((a,0,b,()),()),())
def qzq (D:DX)(n:Nat):(List Int)→(Int)→(Int)→Option tq27:=(fun x0 x1 x2=>qog D n (fun a b=>q7h D n a b) n x0 x1 x2)
def q4v (D:DX)(n:Nat) (lp0:List Int→Int→Int→Option tq27) (a0:List Int):Option tq27:=lp0 a0 (wrap .i64 (27323+(a0.length:Int))) 0
def q5w (D:DX)(n:Nat) (a0:List Int):Option tq27:=q4v D n (qzq D n) a0
def q1x (x0:List Int) (x1 x2:Int):St:=stq 32 [(0,AV.val yq32 x0),(3,AV.val yq34 x1),(4,AV.val yq34 x2)] []
def q7m (a:List Int) (b:Int):St:=stq 32 [(0,AV.val yq32 a),(3,AV.val yq34 b)] []
theorem qbmy (D:DX)(n:Nat) (K:KT 44):∀ (m:Nat) (x0:List Int) (x1 x2:Int),LF D n 44 pq0 m (q1x x0 x1 x2) K=qog D n (fun a b=>K (Ex.exit 0) (q7m a b)) m x0 x1 x2:=eL3 (fun F=>q1t D n F (fun a b=>K (Ex.exit 0) (q7m a b))) (fun _ _ _ =>q7 ..) (fun _ _ _ _ =>by kernel_rfl) (fun _ _ _ _ =>rfl)
theorem qbj2 (D:DX)(n:Nat) (x0) (x1) (x2):LF D n 44 pq0 n (q1x x0 x1 x2) (CF D n 44 [] pq0 (lF 44))=qzq D n x0 x1 x2 :=by rw[qbmy];kernel_rfl
theorem qbrh (D:DX)(n:Nat) (a0:List Int):rF D n 44 (a0,())=q5w D n a0:=by
 have h:rF D n 44 (a0,())=q4v D n (fun x0 x1 x2=>LF D n 44 pq0 n (q1x x0 x1 x2) (CF D n 44 [] pq0 (lF 44))) a0:=by kernel_rfl
 rw[h]
 simp only[qbj2]
 rfl

def qpe (D:DX)(n:Nat) (go:Int→tq34→tq39→tq39→Option tq20) (K0:tq34→tq39→tq39→Option tq20) (x0:Int) (x1:tq34) (x2 x3:tq39):Option tq20:=br (decide (x0<4)) (qd (qce D x1 7) fun b↦qd (qw0 D (x3.1,x3.2) b.1.1) fun b_1↦br (decide (b_1.1.1<0)) (br (decide (0≤x0)&&decide (x0<(x3.1.length:Int))) (go (wrap .i64 (x0+1)) b.2.1 x2 (List.set x3.1 x0.toNat b.1.1,x3.2)) none) (go (wrap .i64 (x0+1)) b.2.1 x2 x3)) (K0 x1 x2 x3)
def qic (D:DX)(n:Nat) (K0:tq34→tq39→tq39→Option tq20):Nat→Int→tq34→tq39→tq39→Option tq20 | 0=>(fun x0 x1 x2 x3=>none) | m+1=>(fun x0 x1 x2 x3=>qpe D n (qic D n K0 m) K0 x0 x1 x2 x3)
def qmq (D:DX)(n:Nat) (c:tq34) (d a:tq39):Option tq20:=qd (qnv D c [0,0,1,3,5]) fun b↦some (((a.1,b.1.1,a.2.2),()),b.2.1,())
def qn6 (D:DX)(n:Nat):(Int)→tq34→tq39→tq39→Option tq20:=(fun x0 x1 x2 x3=>qic D n (fun a b c=>qmq D n a b c) n x0 x1 x2 x3)
def qqs (D:DX)(n:Nat) (lp0:Int→tq34→tq39→tq39→Option tq20) (a0:tq34):Option tq20:=qd (qy1 D) fun b↦lp0 0 a0 ([],0,()) (b.1.1.1,b.1.1.2)
def qq5 (D:DX)(n:Nat) (a0:tq34):Option tq20:=qqs D n (qn6 D n) a0
def qpd (x0:Int) (x1:tq34) (x2 x3:tq39):St:=stq 27 [(0,AV.addr 0 []),(2,AV.addr 2 []),(3,AV.addr 3 []),(4,AV.val yq34 x0)] [(0,Root.mk yq20 Mk.no x1 true),(2,Root.mk yq25 kq29 x2 true),(3,Root.mk yq25 kq29 x3 true)]
def qvm (a:tq34) (b c:tq39):St:=stq 27 [(0,AV.addr 0 []),(2,AV.addr 2 []),(3,AV.addr 3 [])] [(0,Root.mk yq20 Mk.no a true),(2,Root.mk yq25 kq29 b true),(3,Root.mk yq25 kq29 c true)]
theorem qba7 (D:DX)(n:Nat) (K:KT 45):∀ (m:Nat) (x0:Int) (x1:tq34) (x2 x3:tq39),LF D n 45 pq0 m (qpd x0 x1 x2 x3) K=qic D n (fun a b c=>K (Ex.exit 0) (qvm a b c)) m x0 x1 x2 x3:=eL4 (fun F=>qpe D n F (fun a b c=>K (Ex.exit 0) (qvm a b c))) (fun _ _ _ _ =>q7 ..) (fun _ _ _ _ _ =>by kernel_rfl) (fun _ _ _ _ _ =>rfl)
theorem q8z (D:DX)(n:Nat) (x0) (x1) (x2) (x3):LF D n 45 pq0 n (qpd x0 x1 x2 x3) (CF D n 45 [] pq0 (lF 45))=qn6 D n x0 x1 x2 x3 :=by rw[qba7];kernel_rfl
theorem qbdx (D:DX)(n:Nat) (a0:tq34):rF D n 45 (a0,())=qq5 D n a0:=by
 have h:rF D n 45 (a0,())=qqs D n (fun x0 x1 x2 x3=>LF D n 45 pq0 n (qpd x0 x1 x2 x3) (CF D n 45 [] pq0 (lF 45))) a0:=by kernel_rfl
 rw[h]
 simp only[q8z]
 rfl

def qtg (D:DX)(n:Nat) (go:Int→Int→tq34→List (List tq37)→List tq37→Option tq16) (K0:Int→tq34→List (List tq37)→List tq37→Option tq16) (c d:Int) (f:tq34) (e:List (List tq37)) (a:List tq37):Option tq16:=qd (qce D f 4) fun b↦br (decide (d<wrap .i64 (1+b.1.1))) (qd (qqg D b.2.1) fun b↦br (decide (a.length+1≤qb7)) (go c (wrap .i64 (d+1)) b.2.1 e (a++[b.1.1])) none) (K0 c b.2.1 e a)
def qjq (D:DX)(n:Nat) (K0:Int→tq34→List (List tq37)→List tq37→Option tq16):Nat→Int→Int→tq34→(List (List tq37))→(List tq37)→Option tq16 | 0=>(fun a b c d e=>none) | m+1=>(fun a b c d e=>qtg D n (qjq D n K0 m) K0 a b c d e)
def qo0 (D:DX)(n:Nat) (go:Int→tq34→List (List tq37)→Option tq16) (K0:tq34→List (List tq37)→Option tq16) (b:Int) (c:tq34) (a:List (List tq37)) (d:List tq37):Option tq16:=br (decide (a.length+1≤qb7)) (go (wrap .i64 (b+1)) c (a++[d])) none
def qqy (D:DX)(n:Nat) (go:Int→tq34→List (List tq37)→Option tq16) (K0:tq34→List (List tq37)→Option tq16):(Int)→(Int)→tq34→(List (List tq37))→(List tq37)→Option tq16:=(fun a f g h i=>qjq D n (fun b c d e=>qo0 D n go K0 b c d e) n a f g h i)
def qsg (D:DX)(n:Nat) (go:Int→tq34→List (List tq37)→Option tq16) (K0:tq34→List (List tq37)→Option tq16) (lp1:Int→Int→tq34→List (List tq37)→List tq37→Option tq16) (x0:Int) (x1:tq34) (x2:List (List tq37)):Option tq16:=qd (qce D x1 3) fun b↦br (decide (x0<wrap .i64 (1+b.1.1))) (lp1 x0 0 b.2.1 x2 []) (K0 b.2.1 x2)
def qes (D:DX)(n:Nat) (K0:tq34→List (List tq37)→Option tq16):Nat→Int→tq34→(List (List tq37))→Option tq16 | 0=>(fun x0 x1 x2=>none) | m+1=>(fun x0 x1 x2=>qsg D n (qes D n K0 m) K0 (qqy D n (qes D n K0 m) K0) x0 x1 x2)
def qx7 (D:DX)(n:Nat) (a:tq34) (b:List (List tq37)):Option tq16:=some ((b,()),a,())
def qqv (D:DX)(n:Nat):(Int)→tq34→(List (List tq37))→Option tq16:=(fun x0 x1 x2=>qes D n (fun a b=>qx7 D n a b) n x0 x1 x2)
def quh (D:DX)(n:Nat) (lp0:Int→tq34→List (List tq37)→Option tq16) (a0:tq34):Option tq16:=lp0 0 a0 []
def qu5 (D:DX)(n:Nat) (a0:tq34):Option tq16:=quh D n (qqv D n) a0
def qfx (x0:Int) (x1:tq34) (x2:List (List tq37)):St:=stq 33 [(0,AV.addr 0 []),(3,AV.brw 3 [] 0),(4,AV.val yq34 x0)] [(0,Root.mk yq20 Mk.no x1 true),(3,Root.mk yq18 kq31 x2 false)]
def qkt (a:tq34) (b:List (List tq37)):St:=stq 33 [(0,AV.addr 0 []),(3,AV.brw 3 [] 0)] [(0,Root.mk yq20 Mk.no a true),(3,Root.mk yq18 kq31 b false)]
def qtj (a b:Int) (c:tq34) (d:List (List tq37)) (e:List tq37):St:=stq 33 [(0,AV.addr 0 []),(3,AV.brw 3 [] 0),(4,AV.val yq34 a),(5,AV.brw 5 [] 0),(6,AV.val yq34 b)] [(0,Root.mk yq20 Mk.no c true),(3,Root.mk yq18 kq31 d false),(5,Root.mk yq19 kq37 e false)]
def qya (a:Int) (b:tq34) (c:List (List tq37)) (d:List tq37):St:=stq 33 [(0,AV.addr 0 []),(3,AV.brw 3 [] 0),(4,AV.val yq34 a),(5,AV.brw 5 [] 0)] [(0,Root.mk yq20 Mk.no b true),(3,Root.mk yq18 kq31 c false),(5,Root.mk yq19 kq37 d false)]
theorem qbdj (D:DX)(n:Nat) (K:KT 46):∀ (m:Nat) (e f:Int) (g:tq34) (h:List (List tq37)) (i:List tq37),LF D n 46 pq15 m (qtj e f g h i) K=qjq D n (fun a b c d=>K (Ex.exit 2) (qya a b c d)) m e f g h i:=eL5 (fun F=>qtg D n F (fun a b c d=>K (Ex.exit 2) (qya a b c d))) (fun _ _ _ _ _ =>q7 ..) (fun _ _ _ _ _ _ =>by kernel_rfl) (fun _ _ _ _ _ _ =>rfl)
theorem qbcc (D:DX)(n:Nat) (m:Nat) (K:KT 46) (a b:Int) (c:tq34) (d:List (List tq37)) (e:List tq37):LF D n 46 pq15 n (qtj a b c d e) (CF D n 46 pq18 [.r,.l,.l,.r,.l,.r,.l] (KF D n 46 pq0 m K))=qqy D n (fun x0 x1 x2=>LF D n 46 pq0 m (qfx x0 x1 x2) K) (fun f g=>K (Ex.exit 0) (qkt f g)) a b c d e :=by rw[qbdj];kernel_rfl
theorem qbdh (D:DX)(n:Nat) (m:Nat) (K:KT 46) (x0) (x1) (x2:List (List tq37)):LF D n 46 pq0 (m+1) (qfx x0 x1 x2) K=qsg D n (fun x0 x1 x2=>LF D n 46 pq0 m (qfx x0 x1 x2) K) (fun a b=>K (Ex.exit 0) (qkt a b)) (fun c d e f g=>LF D n 46 pq15 n (qtj c d e f g) (CF D n 46 pq18 [.r,.l,.l,.r,.l,.r,.l] (KF D n 46 pq0 m K))) x0 x1 x2:=by kernel_rfl
theorem q1c (D:DX)(n:Nat) (K:KT 46):∀ (m:Nat) (x0:Int) (x1:tq34) (x2:List (List tq37)),LF D n 46 pq0 m (qfx x0 x1 x2) K=qes D n (fun a b=>K (Ex.exit 0) (qkt a b)) m x0 x1 x2
 | 0,x0,x1,x2=>q7 ..
 | m+1,x0,x1,x2=>by
  have ih:(fun x0 x1 x2=>LF D n 46 pq0 m (qfx x0 x1 x2) K)=qes D n (fun a b=>K (Ex.exit 0) (qkt a b)) m:=by funext x0 x1 x2;exact q1c D n K m x0 x1 x2
  rw[qbdh]
  simp only[qbcc]
  rw[ih];rfl
theorem qbcm (D:DX)(n:Nat) (x0) (x1) (x2:List (List tq37)):LF D n 46 pq0 n (qfx x0 x1 x2) (CF D n 46 [] pq0 (lF 46))=qqv D n x0 x1 x2 :=by rw[q1c];kernel_rfl
theorem qbh4 (D:DX)(n:Nat) (a0:tq34):rF D n 46 (a0,())=qu5 D n a0:=by
 have h:rF D n 46 (a0,())=quh D n (fun x0 x1 x2=>LF D n 46 pq0 n (qfx x0 x1 x2) (CF D n 46 [] pq0 (lF 46))) a0:=by kernel_rfl
 rw[h]
 simp only[qbcm]
 rfl

def q99 (D:DX)(n:Nat) (a0:tq34) (a1:Int):Option tq25:=br (decide (a1≤0)) (some ((0,()),a0,())) (br (decide (a1≤256)) (qd (qjk D a0) fun b↦br (decide (a1=0)) none (some ((Int.tmod b.1.1 a1,()),b.2.1,()))) (qd (qjk D a0) fun b↦qd (qjk D b.2.1) fun b_1↦qd (qjk D b_1.2.1) fun b_2↦qd (qjk D b_2.2.1) fun b_3↦br (decide (a1=0)) none (some ((Int.tmod (wrap .i64 (wrap .i64 (wrap .i64 (wrap .i64 (b.1.1 * 16777216)+wrap .i64 (b_1.1.1 * 65536))+wrap .i64 (b_2.1.1 * 256))+b_3.1.1)) a1,()),b_3.2.1,()))))
def qzo (D:DX)(n:Nat) (a0:tq34) (a1:Int):Option tq25:=q99 D n a0 a1
theorem qblp (D:DX)(n:Nat) (a0:tq34) (a1:Int):rF D n 47 (a0,(a1,()))=qzo D n a0 a1:=by kernel_rfl

def qbb9 (D:DX)(n:Nat) (a0:List Int) (a1 a2:Int):Option tq42:=br (decide (wrap .i64 (a1+wrap .i64 (Int.tdiv (a0.length:Int) 4))>a2)) (some ((a2,()),())) (some ((wrap .i64 (a1+wrap .i64 (Int.tdiv (a0.length:Int) 4)),()),()))
def q2z (D:DX)(n:Nat) (a0:List Int) (a1 a2:Int):Option tq42:=qbb9 D n a0 a1 a2
theorem qbpy (D:DX)(n:Nat) (a0:List Int) (a1 a2:Int):rF D n 48 (a0,(a1,(a2,())))=q2z D n a0 a1 a2:=by kernel_rfl

def qy2 (D:DX)(n:Nat) (go:Int→Int→tq12→tq12→List Int→Option tq9) (K0:tq12→tq12→Option tq9) (x0 x1:Int) (x2 x3:tq12) (x4:List Int):Option tq9:=br (decide (x1<x0)) (br (decide (0≤x1)&&decide (x1<(x4.length:Int))) (br (decide (x3.1.length+1≤qb7)) (go x0 (wrap .i64 (x1+1)) x2 (x3.1++[(List.getD x4 x1.toNat 0,0,0,())],x3.2) x4) none) none) (K0 x2 x3)
def qmd (D:DX)(n:Nat) (K0:tq12→tq12→Option tq9):Nat→Int→Int→tq12→tq12→(List Int)→Option tq9 | 0=>(fun x0 x1 x2 x3 x4=>none) | m+1=>(fun x0 x1 x2 x3 x4=>qy2 D n (qmd D n K0 m) K0 x0 x1 x2 x3 x4)
def q6n (D:DX)(n:Nat) (c a:tq12):Option tq9:=qd (qkh D (a.1,a.2.1,())) fun b↦br (!b.1.1) (some ((([],[],()),false,()),())) (some (((a.1,a.2.1,()),true,()),()))
def qxx (D:DX)(n:Nat):(Int)→(Int)→tq12→tq12→(List Int)→Option tq9:=(fun x0 x1 x2 x3 x4=>qmd D n (fun a b=>q6n D n a b) n x0 x1 x2 x3 x4)
def q20 (D:DX)(n:Nat) (lp0:Int→Int→tq12→tq12→List Int→Option tq9) (a0:tq39) (a1:Int):Option tq9:=qd (qbp D a1 1 4) fun b↦br (!b.1.1) (some ((([],[],()),false,()),())) (br (decide (0≤a1)&&decide (a1≤a1)&&decide (a1≤(↑qb7:Int))) (qd (qrv D a0) fun b↦lp0 (b.1.1.length:Int) 0 ([],[],()) ([],List.replicate a1.toNat (0,0,[],(0,[],()),()),()) b.1.1) none)
def q23 (D:DX)(n:Nat) (a0:tq39) (a1:Int):Option tq9:=q20 D n (qxx D n) a0 a1
def qzp (x0 x1:Int) (x2 x3:tq12) (x4:List Int):St:=stq 36 [(4,AV.addr 4 []),(6,AV.addr 6 []),(17,AV.brw 17 [] 0),(18,AV.val yq34 x0),(19,AV.val yq34 x1)] [(4,Root.mk yq3 kq14 x2 true),(6,Root.mk yq3 kq14 x3 true),(17,Root.mk yq30 kq37 x4 false)]
def q4u (a b:tq12):St:=stq 36 [(4,AV.addr 4 []),(6,AV.addr 6 [])] [(4,Root.mk yq3 kq14 a true),(6,Root.mk yq3 kq14 b true)]
theorem qblc (D:DX)(n:Nat) (K:KT 49):∀ (m:Nat) (x0 x1:Int) (x2 x3:tq12) (x4:List Int),LF D n 49 pq1 m (qzp x0 x1 x2 x3 x4) K=qmd D n (fun a b=>K (Ex.exit 0) (q4u a b)) m x0 x1 x2 x3 x4:=eL5 (fun F=>qy2 D n F (fun a b=>K (Ex.exit 0) (q4u a b))) (fun _ _ _ _ _ =>q7 ..) (fun _ _ _ _ _ _ =>by kernel_rfl) (fun _ _ _ _ _ _ =>rfl)
theorem qbhm (D:DX)(n:Nat) (x0) (x1) (x2) (x3) (x4):LF D n 49 pq1 n (qzp x0 x1 x2 x3 x4) (CF D n 49 [] pq1 (lF 49))=qxx D n x0 x1 x2 x3 x4 :=by rw[qblc];kernel_rfl
theorem qbql (D:DX)(n:Nat) (a0:tq39) (a1:Int):rF D n 49 (a0,(a1,()))=q23 D n a0 a1:=by
 have h:rF D n 49 (a0,(a1,()))=q20 D n (fun x0 x1 x2 x3 x4=>LF D n 49 pq1 n (qzp x0 x1 x2 x3 x4) (CF D n 49 [] pq1 (lF 49))) a0 a1:=by kernel_rfl
 rw[h]
 simp only[qbhm]
 rfl

def q7p (D:DX)(n:Nat) (a0:tq39):Option tq30:=qd (qge D a0.1) fun b↦some (((b.1.1,a0.2.1,()),()),())
def qxh (D:DX)(n:Nat) (a0:tq39):Option tq30:=q7p D n a0
theorem qbjd (D:DX)(n:Nat) (a0:tq39):rF D n 50 (a0,())=qxh D n a0:=by kernel_rfl

def q44 (D:DX)(n:Nat) (a0:List tq37):Option tq11:=qd (qe3 D a0) fun b↦some (((b.1.1,0,false,[],[],()),()),())
def qu4 (D:DX)(n:Nat) (a0:List tq37):Option tq11:=q44 D n a0
theorem qbif (D:DX)(n:Nat) (a0:List tq37):rF D n 51 (a0,())=qu4 D n a0:=by kernel_rfl

def qzj (D:DX)(n:Nat) (go:Int→Int→tq12→tq12→List Int→Option tq9) (K0:Int→tq12→tq12→Option tq9) (x0 x1:Int) (x2 x3:tq12) (x4:List Int):Option tq9:=br (decide (x1<(x4.length:Int))) (br (decide (0≤x1)&&decide (x1<(x4.length:Int))) (br (decide (x3.1.length+1≤qb7)) (go x0 (wrap .i64 (x1+1)) x2 (x3.1++[(List.getD x4 x1.toNat 0,0,0,())],x3.2) x4) none) none) (K0 x0 x2 x3)
def qmp (D:DX)(n:Nat) (K0:Int→tq12→tq12→Option tq9):Nat→Int→Int→tq12→tq12→(List Int)→Option tq9 | 0=>(fun x0 x1 x2 x3 x4=>none) | m+1=>(fun x0 x1 x2 x3 x4=>qzj D n (qmp D n K0 m) K0 x0 x1 x2 x3 x4)
def q46 (D:DX)(n:Nat) (a:Int) (d c:tq12):Option tq9:=qd (qbo D a 1 4) fun b↦br b.1.1 (br (decide (0≤a)&&decide (a≤a)&&decide (a≤(↑qb7:Int))) (qd (qqa D (c.1,List.replicate a.toNat (0,0,[],(0,[],()),()),())) fun b↦br (!b.1.1) (some ((([],[],()),false,()),())) (some (((c.1,List.replicate a.toNat (0,0,[],(0,[],()),()),()),true,()),()))) none) (qd (qqa D (c.1,c.2.1,())) fun b↦br (!b.1.1) (some ((([],[],()),false,()),())) (some (((c.1,c.2.1,()),true,()),())))
def qvu (D:DX)(n:Nat):(Int)→(Int)→tq12→tq12→(List Int)→Option tq9:=(fun x0 x1 x2 x3 x4=>qmp D n (fun a b c=>q46 D n a b c) n x0 x1 x2 x3 x4)
def q1v (D:DX)(n:Nat) (lp0:Int→Int→tq12→tq12→List Int→Option tq9) (a0:tq39) (a1:Int):Option tq9:=qd (qys D a0) fun b↦lp0 a1 0 ([],[],()) ([],[],()) b.1.1
def q27 (D:DX)(n:Nat) (a0:tq39) (a1:Int):Option tq9:=q1v D n (qvu D n) a0 a1
def qyq (x0 x1:Int) (x2 x3:tq12) (x4:List Int):St:=stq 38 [(1,AV.val yq34 x0),(4,AV.addr 4 []),(6,AV.addr 6 []),(7,AV.brw 7 [] 0),(8,AV.val yq34 x1)] [(4,Root.mk yq3 kq14 x2 true),(6,Root.mk yq3 kq14 x3 true),(7,Root.mk yq30 kq37 x4 false)]
def q4r (a:Int) (b c:tq12):St:=stq 38 [(1,AV.val yq34 a),(4,AV.addr 4 []),(6,AV.addr 6 [])] [(4,Root.mk yq3 kq14 b true),(6,Root.mk yq3 kq14 c true)]
theorem qbjh (D:DX)(n:Nat) (K:KT 52):∀ (m:Nat) (x0 x1:Int) (x2 x3:tq12) (x4:List Int),LF D n 52 pq1 m (qyq x0 x1 x2 x3 x4) K=qmp D n (fun a b c=>K (Ex.exit 0) (q4r a b c)) m x0 x1 x2 x3 x4:=eL5 (fun F=>qzj D n F (fun a b c=>K (Ex.exit 0) (q4r a b c))) (fun _ _ _ _ _ =>q7 ..) (fun _ _ _ _ _ _ =>by kernel_rfl) (fun _ _ _ _ _ _ =>rfl)
theorem qbiv (D:DX)(n:Nat) (x0) (x1) (x2) (x3) (x4):LF D n 52 pq1 n (qyq x0 x1 x2 x3 x4) (CF D n 52 [] pq1 (lF 52))=qvu D n x0 x1 x2 x3 x4 :=by rw[qbjh];kernel_rfl
theorem qbqc (D:DX)(n:Nat) (a0:tq39) (a1:Int):rF D n 52 (a0,(a1,()))=q27 D n a0 a1:=by
 have h:rF D n 52 (a0,(a1,()))=q1v D n (fun x0 x1 x2 x3 x4=>LF D n 52 pq1 n (qyq x0 x1 x2 x3 x4) (CF D n 52 [] pq1 (lF 52))) a0 a1:=by kernel_rfl
 rw[h]
 simp only[qbiv]
 rfl

def qbb5 (D:DX)(n:Nat) (a0:tq39):Option tq30:=br (decide (0+a0.1.length≤qb7)) (some ((([]++a0.1,a0.2.1,()),()),())) none
def q12 (D:DX)(n:Nat) (a0:tq39):Option tq30:=qbb5 D n a0
theorem qbqi (D:DX)(n:Nat) (a0:tq39):rF D n 53 (a0,())=q12 D n a0:=by kernel_rfl

def q6k (D:DX)(n:Nat) (a0:List tq37):Option tq11:=br (decide (0+a0.length≤qb7)) (some ((([]++a0,0,false,[],[],()),()),())) none
def que (D:DX)(n:Nat) (a0:List tq37):Option tq11:=q6k D n a0
theorem qbiw (D:DX)(n:Nat) (a0:List tq37):rF D n 54 (a0,())=que D n a0:=by kernel_rfl

def qtl (D:DX)(n:Nat) (go:Int→tq5→Option tq41) (K0:Bool→Option tq41) (K1:Option tq41) (x0:Int) (x1:tq5):Option tq41:=br (decide (x0<(x1.2.1.length:Int))) (br (decide (0≤x0)&&decide (x0<(x1.2.1.length:Int))) (qd (qwt D (List.getD x1.2.1 x0.toNat ([],0,false,[],[],())) (x1.2.1.length:Int)) fun b↦br (!b.1.1) (K0 false) (qd (qwy D x1 x0) fun b↦br (!b.1.1) (K0 false) (go (wrap .i64 (x0+1)) x1))) none) K1
def qjo (D:DX)(n:Nat) (K0:Bool→Option tq41) (K1:Option tq41):Nat→Int→tq5→Option tq41 | 0=>(fun x0 x1=>none) | m+1=>(fun x0 x1=>qtl D n (qjo D n K0 K1 m) K0 K1 x0 x1)
def qbcg (D:DX)(n:Nat) (a:Bool):Option tq41:=some ((a,()),())
def qbcq (D:DX)(n:Nat):Option tq41:=some ((true,()),())
def qqk (D:DX)(n:Nat):(Int)→tq5→Option tq41:=(fun x0 x1=>qjo D n (fun a=>qbcg D n a) (qbcq D n) n x0 x1)
def quw (D:DX)(n:Nat) (lp0:Int→tq5→Option tq41) (a0:tq5):Option tq41:=qd (qqa D a0.1) fun b↦br (bif !b.1.1 then true else (a0.1.2.1.length:Int) != (a0.2.1.length:Int)) (some ((false,()),())) (qd (qbo D a0.2.2.1 0 100000) fun b↦br (!b.1.1) (some ((false,()),())) (qd (qt4 D a0.2.2.2.2.2.1) fun b↦br (!b.1.1) (some ((false,()),())) (qd (q0d D a0) fun b↦br (!b.1.1) (some ((false,()),())) (lp0 0 a0))))
def quq (D:DX)(n:Nat) (a0:tq5):Option tq41:=quw D n (qqk D n) a0
def qs0 (x0:Int) (x1:tq5):St:=stq 58 [(1,AV.addr 1 []),(3,AV.val yq34 x0)] [(1,Root.mk yq0 Mk.no x1 true)]
def qyd (a:Bool):St:=stq 58 [(2,AV.val Ty.bool a)] []
def qx6:St:=stq 58 [] []
theorem qben (D:DX)(n:Nat) (K:KT 55):∀ (m:Nat) (x0:Int) (x1:tq5),LF D n 55 pq0 m (qs0 x0 x1) K=qjo D n (fun a=>K (Ex.ret) (qyd a)) (K (Ex.exit 0) (qx6)) m x0 x1:=eL2 (fun F=>qtl D n F (fun a=>K (Ex.ret) (qyd a)) (K (Ex.exit 0) (qx6))) (fun _ _ =>q7 ..) (fun _ _ _ =>by kernel_rfl) (fun _ _ _ =>rfl)
theorem qbcr (D:DX)(n:Nat) (x0) (x1):LF D n 55 pq0 n (qs0 x0 x1) (CF D n 55 [] pq0 (lF 55))=qqk D n x0 x1 :=by rw[qben];kernel_rfl
theorem qbh7 (D:DX)(n:Nat) (a0:tq5):rF D n 55 (a0,())=quq D n a0:=by
 have h:rF D n 55 (a0,())=quw D n (fun x0 x1=>LF D n 55 pq0 n (qs0 x0 x1) (CF D n 55 [] pq0 (lF 55))) a0:=by kernel_rfl
 rw[h]
 simp only[qbcr]
 rfl

def qo7 (D:DX)(n:Nat) (go:List tq13→Int→Int→tq5→tq5→tq5→Option tq3) (K0:tq5→tq5→tq5→Option tq3) (x0:List tq13) (x1 x2:Int) (x3 x4 x5:tq5):Option tq3:=br (decide (x2<x1)) (br (decide (0≤x2)&&decide (x2<(x0.length:Int))) (qd (qht D (List.getD x0 x2.toNat ([],0,false,[],[],()))) fun b↦br (decide (x5.2.1.length+1≤qb7)) (go x0 x1 (wrap .i64 (x2+1)) x3 x4 (x5.1,x5.2.1++[(b.1.1.1,b.1.1.2.1,b.1.1.2.2.1,b.1.1.2.2.2.1,b.1.1.2.2.2.2.1,())],x5.2.2)) none) none) (K0 x3 x4 x5)
def qh3 (D:DX)(n:Nat) (K0:tq5→tq5→tq5→Option tq3):Nat→(List tq13)→Int→Int→tq5→tq5→tq5→Option tq3 | 0=>(fun x0 x1 x2 x3 x4 x5=>none) | m+1=>(fun x0 x1 x2 x3 x4 x5=>qo7 D n (qh3 D n K0 m) K0 x0 x1 x2 x3 x4 x5)
def qo2 (D:DX)(n:Nat) (go:List tq17→Int→Int→tq5→tq5→Option tq3) (K0:tq5→tq5→Option tq3) (d:List tq17) (e c:Int) (f a:tq5):Option tq3:=let y0:=List.getD d c.toNat (0,(0,0,0,()),0,0,0,(0,[],()),());br (decide (c<e)) (br (decide (0≤c)&&decide (c<(d.length:Int))) (qd (qih D y0.2.2.2.2.2.1) fun b↦br (decide (a.2.2.2.1.length+1≤qb7)) (go d e (wrap .i64 (c+1)) f (a.1,a.2.1,a.2.2.1,a.2.2.2.1++[(y0.1,y0.2.1,y0.2.2.1,y0.2.2.2.1,y0.2.2.2.2.1,(b.1.1.1,b.1.1.2.1,()),())],a.2.2.2.2)) none) none) (K0 f a)
def qh9 (D:DX)(n:Nat) (K0:tq5→tq5→Option tq3):Nat→(List tq17)→Int→Int→tq5→tq5→Option tq3 | 0=>(fun a b c d e=>none) | m+1=>(fun a b c d e=>qo2 D n (qh9 D n K0 m) K0 a b c d e)
def q9x (D:DX)(n:Nat) (b a:tq5):Option tq3:=some ((((a.1.1,a.1.2.1,()),a.2.1,a.2.2.1,a.2.2.2.1,a.2.2.2.2.1,(a.2.2.2.2.2.1.1,a.2.2.2.2.2.1.2),()),()),())
def qn7 (D:DX)(n:Nat):(List tq17)→(Int)→(Int)→tq5→tq5→Option tq3:=(fun a d e f g=>qh9 D n (fun b c=>q9x D n b c) n a d e f g)
def qmr (D:DX)(n:Nat) (lp1:List tq17→Int→Int→tq5→tq5→Option tq3) (a b c:tq5):Option tq3:=lp1 a.2.2.2.1 (a.2.2.2.1.length:Int) 0 b c
def qnp (D:DX)(n:Nat):(List tq13)→(Int)→(Int)→tq5→tq5→tq5→Option tq3:=(fun x0 x1 x2 x3 x4 x5=>qh3 D n (fun a b c=>qmr D n (qn7 D n) a b c) n x0 x1 x2 x3 x4 x5)
def qqi (D:DX)(n:Nat) (lp0:List tq13→Int→Int→tq5→tq5→tq5→Option tq3) (a0:tq5):Option tq3:=qd (qkd D a0.1) fun b↦qd (qge D a0.2.2.2.2.1) fun b_1↦qd (qpx D a0.2.2.2.2.2.1) fun b_2↦lp0 a0.2.1 (a0.2.1.length:Int) 0 a0 (([],[],()),[],0,[],[],([],0,()),()) ((b.1.1.1,b.1.1.2.1,()),[],a0.2.2.1,[],b_1.1.1,(b_2.1.1.1,b_2.1.1.2),())
def qq2 (D:DX)(n:Nat) (a0:tq5):Option tq3:=qqi D n (qnp D n) a0
def qo1 (x0:List tq13) (x1 x2:Int) (x3 x4 x5:tq5):St:=stq 54 [(1,AV.addr 1 []),(2,AV.addr 2 []),(3,AV.addr 3 []),(21,AV.val yq4 x0),(22,AV.val yq34 x1),(23,AV.val yq34 x2)] [(1,Root.mk yq0 Mk.no x3 true),(2,Root.mk yq0 kq1 x4 true),(3,Root.mk yq0 kq2 x5 true)]
def qmm (a b c:tq5):St:=stq 54 [(1,AV.addr 1 []),(2,AV.addr 2 []),(3,AV.addr 3 [])] [(1,Root.mk yq0 Mk.no a true),(2,Root.mk yq0 kq1 b true),(3,Root.mk yq0 kq2 c true)]
def qoz (a:List tq17) (b c:Int) (d e:tq5):St:=stq 54 [(2,AV.addr 2 []),(3,AV.addr 3 []),(36,AV.val yq6 a),(37,AV.val yq34 b),(38,AV.val yq34 c)] [(2,Root.mk yq0 kq1 d true),(3,Root.mk yq0 kq2 e true)]
def qvs (a b:tq5):St:=stq 54 [(2,AV.addr 2 []),(3,AV.addr 3 [])] [(2,Root.mk yq0 kq1 a true),(3,Root.mk yq0 kq2 b true)]
theorem qba2 (D:DX)(n:Nat) (K:KT 56):∀ (m:Nat) (x0:List tq13) (x1 x2:Int) (x3 x4 x5:tq5),LF D n 56 pq0 m (qo1 x0 x1 x2 x3 x4 x5) K=qh3 D n (fun a b c=>K (Ex.exit 0) (qmm a b c)) m x0 x1 x2 x3 x4 x5:=eL6 (fun F=>qo7 D n F (fun a b c=>K (Ex.exit 0) (qmm a b c))) (fun _ _ _ _ _ _ =>q7 ..) (fun _ _ _ _ _ _ _ =>by kernel_rfl) (fun _ _ _ _ _ _ _ =>rfl)
theorem qbbi (D:DX)(n:Nat) (K:KT 56):∀ (m:Nat) (c:List tq17) (d e:Int) (f g:tq5),LF D n 56 pq1 m (qoz c d e f g) K=qh9 D n (fun a b=>K (Ex.exit 2) (qvs a b)) m c d e f g:=eL5 (fun F=>qo2 D n F (fun a b=>K (Ex.exit 2) (qvs a b))) (fun _ _ _ _ _ =>q7 ..) (fun _ _ _ _ _ _ =>by kernel_rfl) (fun _ _ _ _ _ _ =>rfl)
theorem q9b (D:DX)(n:Nat) (a:List tq17) (b c:Int) (d e:tq5):LF D n 56 pq1 n (qoz a b c d e) (CF D n 56 [] pq1 (lF 56))=qn7 D n a b c d e :=by rw[qbbi];kernel_rfl
theorem q82 (D:DX)(n:Nat) (a b c:tq5):(CF D n 56 [] pq0 (lF 56)) (Ex.exit 0) (qmm a b c)=qmr D n (fun d e f g h=>LF D n 56 pq1 n (qoz d e f g h) (CF D n 56 [] pq1 (lF 56))) a b c:=by kernel_rfl
theorem q9k (D:DX)(n:Nat) (x0) (x1) (x2) (x3) (x4) (x5):LF D n 56 pq0 n (qo1 x0 x1 x2 x3 x4 x5) (CF D n 56 [] pq0 (lF 56))=qnp D n x0 x1 x2 x3 x4 x5:=by
 rw[qba2]
 simp only[q82,q9b]
 rfl
theorem qbdo (D:DX)(n:Nat) (a0:tq5):rF D n 56 (a0,())=qq2 D n a0:=by
 have h:rF D n 56 (a0,())=qqi D n (fun x0 x1 x2 x3 x4 x5=>LF D n 56 pq0 n (qo1 x0 x1 x2 x3 x4 x5) (CF D n 56 [] pq0 (lF 56))) a0:=by kernel_rfl
 rw[h]
 simp only[q9k]
 rfl

def q8s (D:DX)(n:Nat) (a0:tq5) (a1:Int):Option tq0:=let y0:Option tq0:=qd (qjd D a0) fun b↦some ((((b.1.1.1.1,b.1.1.1.2.1,()),b.1.1.2.1,b.1.1.2.2.1,b.1.1.2.2.2.1,b.1.1.2.2.2.2.1,b.1.1.2.2.2.2.2),false,()),());qd (qfm D a0) fun b↦br (!b.1.1) y0 (qd (qbp D a1 0 (wrap .i64 ((a0.2.1.length:Int) - 1))) fun b↦br (!b.1.1) y0 (br (decide (0≤a1)&&decide (a1<(a0.2.1.length:Int))) (qd (q32 D (List.getD a0.2.1 a1.toNat ([],0,false,[],[],()))) fun b↦br (bif b.1.1 then true else decide (a0.2.2.1=100000)) y0 (qd (qjd D a0) fun b↦br (decide (0≤a1)&&decide (a1<(b.1.1.2.1.length:Int))) (br (!(List.getD b.1.1.2.1 a1.toNat ([],0,false,[],[],())).2.2.1) (br (decide (0≤(List.getD b.1.1.2.1 a1.toNat ([],0,false,[],[],())).2.1)&&decide ((List.getD b.1.1.2.1 a1.toNat ([],0,false,[],[],())).2.1<((List.getD b.1.1.2.1 a1.toNat ([],0,false,[],[],())).1.length:Int))) (br (decide (b.1.1.2.2.2.1.length+1≤qb7)) (qd (qfm D ((b.1.1.1.1,b.1.1.1.2.1,()),List.set b.1.1.2.1 a1.toNat ((List.getD b.1.1.2.1 a1.toNat ([],0,false,[],[],())).1,(List.getD b.1.1.2.1 a1.toNat ([],0,false,[],[],())).2.1,true,(List.getD b.1.1.2.1 a1.toNat ([],0,false,[],[],())).2.2.2),wrap .i64 (b.1.1.2.2.1+1),b.1.1.2.2.2.1++[(a1,List.getD (List.getD b.1.1.2.1 a1.toNat ([],0,false,[],[],())).1 (Int.toNat (List.getD b.1.1.2.1 a1.toNat ([],0,false,[],[],())).2.1) (0,0,0,()),wrap .i64 (b.1.1.2.2.1+1),-1,-1,(0,[],()),())],b.1.1.2.2.2.2.1,b.1.1.2.2.2.2.2)) fun b_1↦let a:=List.getD b.1.1.2.1 a1.toNat ([],0,false,[],[],());br (!b_1.1.1) y0 (some ((((b.1.1.1.1,b.1.1.1.2.1,()),List.set b.1.1.2.1 a1.toNat (a.1,a.2.1,true,a.2.2.2),wrap .i64 (b.1.1.2.2.1+1),b.1.1.2.2.2.1++[(a1,List.getD a.1 (Int.toNat a.2.1) (0,0,0,()),wrap .i64 (b.1.1.2.2.1+1),-1,-1,(0,[],()),())],b.1.1.2.2.2.2.1,b.1.1.2.2.2.2.2),true,()),()))) none) none) (br (decide (((List.getD b.1.1.2.1 a1.toNat ([],0,false,[],[],())).2.2.2.2.1.length:Int)>0)) (qd (qmz D ((b.1.1.1.1,b.1.1.1.2.1,()),b.1.1.2.1,wrap .i64 (b.1.1.2.2.1+1),b.1.1.2.2.2.1,b.1.1.2.2.2.2.1,b.1.1.2.2.2.2.2) a1) fun b↦qd (qfm D ((b.2.1.1.1,b.2.1.1.2.1,()),b.2.1.2.1,b.2.1.2.2.1,b.2.1.2.2.2.1,b.2.1.2.2.2.2.1,b.2.1.2.2.2.2.2)) fun b_1↦br (!b_1.1.1) y0 (some ((((b.2.1.1.1,b.2.1.1.2.1,()),b.2.1.2.1,b.2.1.2.2.1,b.2.1.2.2.2.1,b.2.1.2.2.2.2.1,b.2.1.2.2.2.2.2),true,()),()))) (qd (qph D ((b.1.1.1.1,b.1.1.1.2.1,()),b.1.1.2.1,wrap .i64 (b.1.1.2.2.1+1),b.1.1.2.2.2.1,b.1.1.2.2.2.2.1,b.1.1.2.2.2.2.2) a1) fun b↦br (!b.1.1) y0 (qd (qfm D ((b.2.1.1.1,b.2.1.1.2.1,()),b.2.1.2.1,b.2.1.2.2.1,b.2.1.2.2.2.1,b.2.1.2.2.2.2.1,b.2.1.2.2.2.2.2)) fun b_1↦br (!b_1.1.1) y0 (some ((((b.2.1.1.1,b.2.1.1.2.1,()),b.2.1.2.1,b.2.1.2.2.1,b.2.1.2.2.2.1,b.2.1.2.2.2.2.1,b.2.1.2.2.2.2.2),true,()),())))))) none)) none))
def q0w (D:DX)(n:Nat) (a0:tq5) (a1:Int):Option tq0:=q8s D n a0 a1
theorem qbt9 (D:DX)(n:Nat) (a0:tq5) (a1:Int):rF D n 57 (a0,(a1,()))=q0w D n a0 a1:=by kernel_rfl

def qbul (D:DX)(n:Nat) (a0 a1 a2:Int):Option tq41:=some ((bif decide (a0≥a1) then decide (a0≤a2) else false,()),())
def qbg7 (D:DX)(n:Nat) (a0 a1 a2:Int):Option tq41:=qbul D n a0 a1 a2
theorem qbun (D:DX)(n:Nat) (a0 a1 a2:Int):rF D n 58 (a0,(a1,(a2,())))=qbg7 D n a0 a1 a2:=by kernel_rfl




def q2m (D:DX)(n:Nat) (go:List tq37→Int→Int→tq12→Option tq41) (K0:Bool→Option tq41) (K1:Option tq41) (x0:List tq37) (x1 x2:Int) (x3:tq12):Option tq41:=let y0:=List.getD x0 x2.toNat (0,0,0,());let y1:=List.getD x3.2.1 (Int.toNat (wrap .i64 (y0.2.1 - 1))) (0,0,[],(0,[],()),());br (decide (x2<x1)) (br (decide (0≤x2)&&decide (x2<(x0.length:Int))) (qd (q1s D y0 (x3.2.1.length:Int)) fun b↦br (!b.1.1) (K0 false) (br (decide (y0.2.1=0)) (go x0 x1 (wrap .i64 (x2+1)) x3) (br (decide (0≤wrap .i64 (y0.2.1 - 1))&&decide (wrap .i64 (y0.2.1 - 1)<(x3.2.1.length:Int))) (qd (qzw D y1 x2) fun b↦br (bif !b.1.2.1 then true else y1.1 != y0.2.2.1) (K0 false) (go x0 x1 (wrap .i64 (x2+1)) x3)) none))) none) K1
def qoi (D:DX)(n:Nat) (K0:Bool→Option tq41) (K1:Option tq41):Nat→(List tq37)→Int→Int→tq12→Option tq41 | 0=>(fun x0 x1 x2 x3=>none) | m+1=>(fun x0 x1 x2 x3=>q2m D n (qoi D n K0 K1 m) K0 K1 x0 x1 x2 x3)
def q7v (D:DX)(n:Nat) (a:Bool):Option tq41:=some ((a,()),())
def q7k (D:DX)(n:Nat):Option tq41:=some ((true,()),())
def qzf (D:DX)(n:Nat):(List tq37)→(Int)→(Int)→tq12→Option tq41:=(fun x0 x1 x2 x3=>qoi D n (fun a=>q7v D n a) (q7k D n) n x0 x1 x2 x3)
def q41 (D:DX)(n:Nat) (lp0:List tq37→Int→Int→tq12→Option tq41) (a0:tq12):Option tq41:=br ((a0.1.length:Int) != 20) (some ((false,()),())) (qd (qbp D (a0.2.1.length:Int) 1 4) fun b↦br (!b.1.1) (some ((false,()),())) (qd (qdt D a0.2.1 (Clo.mk 110 [])) fun b↦br b.1.1 (some ((false,()),())) (lp0 a0.1 (a0.1.length:Int) 0 a0)))
def q6e (D:DX)(n:Nat) (a0:tq12):Option tq41:=q41 D n (qzf D n) a0
def q2s (x0:List tq37) (x1 x2:Int) (x3:tq12):St:=stq 64 [(1,AV.addr 1 []),(25,AV.val yq19 x0),(26,AV.val yq34 x1),(27,AV.val yq34 x2)] [(1,Root.mk yq3 Mk.no x3 true)]
def q7u (a:Bool):St:=stq 64 [(2,AV.val Ty.bool a)] []
def q68:St:=stq 64 [] []
theorem qbma (D:DX)(n:Nat) (K:KT 63):∀ (m:Nat) (x0:List tq37) (x1 x2:Int) (x3:tq12),LF D n 63 pq0 m (q2s x0 x1 x2 x3) K=qoi D n (fun a=>K (Ex.ret) (q7u a)) (K (Ex.exit 0) (q68)) m x0 x1 x2 x3:=eL4 (fun F=>q2m D n F (fun a=>K (Ex.ret) (q7u a)) (K (Ex.exit 0) (q68))) (fun _ _ _ _ =>q7 ..) (fun _ _ _ _ _ =>by kernel_rfl) (fun _ _ _ _ _ =>rfl)
theorem qbji (D:DX)(n:Nat) (x0) (x1) (x2) (x3):LF D n 63 pq0 n (q2s x0 x1 x2 x3) (CF D n 63 [] pq0 (lF 63))=qzf D n x0 x1 x2 x3 :=by rw[qbma];kernel_rfl
theorem qbsh (D:DX)(n:Nat) (a0:tq12):rF D n 63 (a0,())=q6e D n a0:=by
 have h:rF D n 63 (a0,())=q41 D n (fun x0 x1 x2 x3=>LF D n 63 pq0 n (q2s x0 x1 x2 x3) (CF D n 63 [] pq0 (lF 63))) a0:=by kernel_rfl
 rw[h]
 simp only[qbji]
 rfl

def qg5 (D:DX)(n:Nat) (a1:Clo) (a0:List tq37):Option tq41:=qd (qia D a0 a1) fun b↦some ((decide (b.1.1≥0),()),())
def qd0 (D:DX)(n:Nat) (a0:List tq37) (a1:Clo):Option tq41:=qg5 D n a1 a0
theorem qm5 (D:DX)(n:Nat) (a0:List tq37) (a1:Clo):rF D n 64 (a0,(a1,()))=qd0 D n a0 a1:=by kernel_rfl

def q0a (D:DX)(n:Nat) (go:List Int→Int→Int→tq39→Option tq41) (K0:Bool→tq39→Option tq41) (K1:tq39→Option tq41) (x0:List Int) (x1 x2:Int) (x3:tq39):Option tq41:=br (decide (x2<x1)) (br (decide (0≤x2)&&decide (x2<(x0.length:Int))) (br (List.getD x0 x2.toNat 0 != 0) (qd (qhr D (List.getD x0 x2.toNat 0)) fun b↦br (!b.1.1) (K0 false x3) (br (decide (0≤0)&&decide (0≤x2)&&decide (x2≤(x3.1.length:Int))) (qd (qg0 D (List.drop (Int.toNat 0) (List.take x2.toNat x3.1)) (List.getD x0 x2.toNat 0)) fun b↦br b.1.1 (K0 false x3) (go x0 x1 (wrap .i64 (x2+1)) x3)) none)) (go x0 x1 (wrap .i64 (x2+1)) x3)) none) (K1 x3)
def qmx (D:DX)(n:Nat) (K0:Bool→tq39→Option tq41) (K1:tq39→Option tq41):Nat→(List Int)→Int→Int→tq39→Option tq41 | 0=>(fun x0 x1 x2 x3=>none) | m+1=>(fun x0 x1 x2 x3=>q0a D n (qmx D n K0 K1 m) K0 K1 x0 x1 x2 x3)
def q4w (D:DX)(n:Nat) (a:Bool) (b:tq39):Option tq41:=some ((a,()),())
def qug (D:DX)(n:Nat) (a:tq39):Option tq41:=br (decide ((a.1.length:Int)=4)) (qd (qbp D a.2.1 0 5) fun b↦some ((b.1.1,()),())) (some ((false,()),()))
def qv7 (D:DX)(n:Nat):(List Int)→(Int)→(Int)→tq39→Option tq41:=(fun x0 x1 x2 x3=>qmx D n (fun a b=>q4w D n a b) (fun c=>qug D n c) n x0 x1 x2 x3)
def q2y (D:DX)(n:Nat) (lp0:List Int→Int→Int→tq39→Option tq41) (a0:tq39):Option tq41:=lp0 a0.1 (a0.1.length:Int) 0 a0
def q1y (D:DX)(n:Nat) (a0:tq39):Option tq41:=q2y D n (qv7 D n) a0
def qzr (x0:List Int) (x1 x2:Int) (x3:tq39):St:=stq 38 [(1,AV.addr 1 []),(6,AV.val yq30 x0),(7,AV.val yq34 x1),(8,AV.val yq34 x2)] [(1,Root.mk yq25 Mk.no x3 true)]
def q6w (a:Bool) (b:tq39):St:=stq 38 [(1,AV.addr 1 []),(2,AV.val Ty.bool a)] [(1,Root.mk yq25 Mk.no b true)]
def q48 (a:tq39):St:=stq 38 [(1,AV.addr 1 [])] [(1,Root.mk yq25 Mk.no a true)]
theorem qbko (D:DX)(n:Nat) (K:KT 66):∀ (m:Nat) (x0:List Int) (x1 x2:Int) (x3:tq39),LF D n 66 pq2 m (qzr x0 x1 x2 x3) K=qmx D n (fun a b=>K (Ex.ret) (q6w a b)) (fun c=>K (Ex.exit 0) (q48 c)) m x0 x1 x2 x3:=eL4 (fun F=>q0a D n F (fun a b=>K (Ex.ret) (q6w a b)) (fun c=>K (Ex.exit 0) (q48 c))) (fun _ _ _ _ =>q7 ..) (fun _ _ _ _ _ =>by kernel_rfl) (fun _ _ _ _ _ =>rfl)
theorem qbim (D:DX)(n:Nat) (x0) (x1) (x2) (x3):LF D n 66 pq2 n (qzr x0 x1 x2 x3) (CF D n 66 [] pq2 (lF 66))=qv7 D n x0 x1 x2 x3 :=by rw[qbko];kernel_rfl
theorem qbpe (D:DX)(n:Nat) (a0:tq39):rF D n 66 (a0,())=q1y D n a0:=by
 have h:rF D n 66 (a0,())=q2y D n (fun x0 x1 x2 x3=>LF D n 66 pq2 n (qzr x0 x1 x2 x3) (CF D n 66 [] pq2 (lF 66))) a0:=by kernel_rfl
 rw[h]
 simp only[qbim]
 rfl


def qxb (D:DX)(n:Nat) (go:List Int→Int→Int→tq39→List Int→Option tq36) (K0:tq39→List Int→Option tq36) (x0:List Int) (x1 x2:Int) (x3:tq39) (x4:List Int):Option tq36:=let y0:=wrap .i64 (x2+1);let y1:=List.getD x0 x2.toNat 0;br (decide (x2<x1)) (br (decide (0≤x2)&&decide (x2<(x0.length:Int))) (br (decide (y1=0)) (go x0 x1 y0 x3 x4) (qd (qdj D y1) fun b↦br (decide (0≤b.1.1)&&decide (b.1.1<(x4.length:Int))) (qd (qc2 D y1) fun b_1↦qd (qdi D b_1.1.1) fun b_2↦br (decide (0≤b_2.1.1)&&decide (b_2.1.1<((List.set x4 b.1.1.toNat y0).length:Int))) (br (decide (0≤b_2.1.1)&&decide (b_2.1.1<((List.set x4 b.1.1.toNat y0).length:Int))) (br (decide (x2<wrap .i64 (x3.2.1 - 1))) (qd (qek D y1) fun b_3↦let a:=List.set (List.set x4 b.1.1.toNat y0) b_2.1.1.toNat (wrap .i64 (List.getD (List.set x4 b.1.1.toNat y0) b_2.1.1.toNat 0+1));br (decide (0≤b_3.1.1)&&decide (b_3.1.1<(a.length:Int))) (go x0 x1 y0 x3 (List.set a b_3.1.1.toNat y0)) none) (go x0 x1 y0 x3 (List.set (List.set x4 b.1.1.toNat y0) b_2.1.1.toNat (wrap .i64 (List.getD (List.set x4 b.1.1.toNat y0) b_2.1.1.toNat 0+1))))) none) none) none)) none) (K0 x3 x4)
def qlg (D:DX)(n:Nat) (K0:tq39→List Int→Option tq36):Nat→(List Int)→Int→Int→tq39→(List Int)→Option tq36 | 0=>(fun x0 x1 x2 x3 x4=>none) | m+1=>(fun x0 x1 x2 x3 x4=>qxb D n (qlg D n K0 m) K0 x0 x1 x2 x3 x4)
def qsd (D:DX)(n:Nat) (c:tq39) (a:List Int):Option tq36:=qd (qco D) fun b↦br (decide (0≤b.1.1)&&decide (b.1.1<(a.length:Int))) (some ((List.set a b.1.1.toNat c.2.1,()),())) none
def qu8 (D:DX)(n:Nat):(List Int)→(Int)→(Int)→tq39→(List Int)→Option tq36:=(fun x0 x1 x2 x3 x4=>qlg D n (fun a b=>qsd D n a b) n x0 x1 x2 x3 x4)
def qyz (D:DX)(n:Nat) (lp0:List Int→Int→Int→tq39→List Int→Option tq36) (a0:tq39):Option tq36:=qd (qt7 D a0) fun b↦br (!b.1.1) (some (([],()),())) (br (decide (0<a0.1.length)&&decide (0<(List.replicate (Int.toNat 20) 0).length)) (lp0 a0.1 (a0.1.length:Int) 0 a0 (qom yq34 (List.replicate (Int.toNat 20) 0) a0.1)) (lp0 a0.1 (a0.1.length:Int) 0 a0 (List.replicate (Int.toNat 20) 0)))
def qyf (D:DX)(n:Nat) (a0:tq39):Option tq36:=qyz D n (qu8 D n) a0
def qv9 (x0:List Int) (x1 x2:Int) (x3:tq39) (x4:List Int):St:=stq 56 [(1,AV.addr 1 []),(3,AV.brw 3 [] 0),(15,AV.val yq30 x0),(16,AV.val yq34 x1),(17,AV.val yq34 x2)] [(1,Root.mk yq25 Mk.no x3 true),(3,Root.mk yq30 kq37 x4 false)]
def q3n (a:tq39) (b:List Int):St:=stq 56 [(1,AV.addr 1 []),(3,AV.brw 3 [] 0)] [(1,Root.mk yq25 Mk.no a true),(3,Root.mk yq30 kq37 b false)]
theorem qbio (D:DX)(n:Nat) (K:KT 68):∀ (m:Nat) (x0:List Int) (x1 x2:Int) (x3:tq39) (x4:List Int),LF D n 68 pq3 m (qv9 x0 x1 x2 x3 x4) K=qlg D n (fun a b=>K (Ex.exit 0) (q3n a b)) m x0 x1 x2 x3 x4:=eL5 (fun F=>qxb D n F (fun a b=>K (Ex.exit 0) (q3n a b))) (fun _ _ _ _ _ =>q7 ..) (fun _ _ _ _ _ _ =>by kernel_rfl) (fun _ _ _ _ _ _ =>rfl)
theorem qbge (D:DX)(n:Nat) (x0) (x1) (x2) (x3) (x4):LF D n 68 pq3 n (qv9 x0 x1 x2 x3 x4) (CF D n 68 [] pq3 (lF 68))=qu8 D n x0 x1 x2 x3 x4 :=by rw[qbio];kernel_rfl
theorem qbll (D:DX)(n:Nat) (a0:tq39):rF D n 68 (a0,())=qyf D n a0:=by
 have h:rF D n 68 (a0,())=qyz D n (fun x0 x1 x2 x3 x4=>LF D n 68 pq3 n (qv9 x0 x1 x2 x3 x4) (CF D n 68 [] pq3 (lF 68))) a0:=by kernel_rfl
 rw[h]
 simp only[qbge]
 rfl

def qlu (D:DX)(n:Nat) (a0:List Int):Option tq36:=br (decide (Int.toNat (a0.length:Int)=0)) (both (some (([],()),())) (br (decide (0+a0.length≤qb7)) (some (([]++a0,()),())) none)) (br (decide (0+a0.length≤qb7)) (some (([]++a0,()),())) none)
def qiq (D:DX)(n:Nat) (a0:List Int):Option tq36:=qlu D n a0
theorem q8f (D:DX)(n:Nat) (a0:List Int):rF D n 69 (a0,())=qiq D n a0:=by kernel_rfl

def qblq (D:DX)(n:Nat):Option tq42:=some ((13,()),())
def q80 (D:DX)(n:Nat):Option tq42:=qblq D n
theorem qbl2 (D:DX)(n:Nat):rF D n 70 ()=q80 D n:=by kernel_rfl


def q9z (D:DX)(n:Nat) (a0:Int):Option tq42:=qd (qhr D a0) fun b↦qd (qk5 D b.1.1 (wrap .i64 (3+a0))) fun b↦some ((b.1.1,()),())
def qzl (D:DX)(n:Nat) (a0:Int):Option tq42:=q9z D n a0
theorem qbnk (D:DX)(n:Nat) (a0:Int):rF D n 73 (a0,())=qzl D n a0:=by kernel_rfl

def qkx (D:DX)(n:Nat) (go:List Int→Int→Int→Int→Option tq42) (K0:Int→Option tq42) (K1:Option tq42) (x0:List Int) (x1 x2 x3:Int):Option tq42:=br (decide (x3<x2)) (br (decide (0≤x3)&&decide (x3<(x0.length:Int))) (br (decide (x1=List.getD x0 x3.toNat 0)) (K0 x3) (go x0 x1 x2 (wrap .i64 (x3+1)))) none) K1
def qfv (D:DX)(n:Nat) (K0:Int→Option tq42) (K1:Option tq42):Nat→(List Int)→Int→Int→Int→Option tq42 | 0=>(fun x0 x1 x2 x3=>none) | m+1=>(fun x0 x1 x2 x3=>qkx D n (qfv D n K0 K1 m) K0 K1 x0 x1 x2 x3)
def qpw (D:DX)(n:Nat) (a:Int):Option tq42:=some ((a,()),())
def qpz (D:DX)(n:Nat):Option tq42:=some ((-1,()),())
def qkn (D:DX)(n:Nat):(List Int)→(Int)→(Int)→(Int)→Option tq42:=(fun x0 x1 x2 x3=>qfv D n (fun a=>qpw D n a) (qpz D n) n x0 x1 x2 x3)
def qly (D:DX)(n:Nat) (lp0:List Int→Int→Int→Int→Option tq42) (a0:List Int) (a1:Int):Option tq42:=lp0 a0 a1 (a0.length:Int) 0
def qlt (D:DX)(n:Nat) (a0:List Int) (a1:Int):Option tq42:=qly D n (qkn D n) a0 a1
def qky (x0:List Int) (x1 x2 x3:Int):St:=stq 19 [(0,AV.val yq30 x0),(1,AV.val yq34 x1),(7,AV.val yq34 x2),(8,AV.val yq34 x3)] []
def qpv (a:Int):St:=stq 19 [(4,AV.val yq34 a)] []
def qpt:St:=stq 19 [] []
theorem q5n (D:DX)(n:Nat) (K:KT 74):∀ (m:Nat) (x0:List Int) (x1 x2 x3:Int),LF D n 74 pq2 m (qky x0 x1 x2 x3) K=qfv D n (fun a=>K (Ex.ret) (qpv a)) (K (Ex.exit 0) (qpt)) m x0 x1 x2 x3:=eL4 (fun F=>qkx D n F (fun a=>K (Ex.ret) (qpv a)) (K (Ex.exit 0) (qpt))) (fun _ _ _ _ =>q7 ..) (fun _ _ _ _ _ =>by kernel_rfl) (fun _ _ _ _ _ =>rfl)
theorem q38 (D:DX)(n:Nat) (x0) (x1) (x2) (x3):LF D n 74 pq2 n (qky x0 x1 x2 x3) (CF D n 74 [] pq2 (lF 74))=qkn D n x0 x1 x2 x3 :=by rw[q5n];kernel_rfl
theorem q8b (D:DX)(n:Nat) (a0:List Int) (a1:Int):rF D n 74 (a0,(a1,()))=qlt D n a0 a1:=by
 have h:rF D n 74 (a0,(a1,()))=qly D n (fun x0 x1 x2 x3=>LF D n 74 pq2 n (qky x0 x1 x2 x3) (CF D n 74 [] pq2 (lF 74))) a0 a1:=by kernel_rfl
 rw[h]
 simp only[q38]
 rfl

def qbqj (D:DX)(n:Nat) (a0:Bool) (a1:Int):Option tq42:=br (!a0) (some ((-1,()),())) (some ((a1,()),()))
def qbby (D:DX)(n:Nat) (a0:Bool) (a1:Int):Option tq42:=qbqj D n a0 a1
theorem qbpi (D:DX)(n:Nat) (a0:Bool) (a1:Int):rF D n 75 (a0,(a1,()))=qbby D n a0 a1:=by kernel_rfl

def qbek (D:DX)(n:Nat) (a0:Int):Option tq41:=qd (qbp D a0 1 6) fun b↦some ((b.1.1,()),())
def q5g (D:DX)(n:Nat) (a0:Int):Option tq41:=qbek D n a0
theorem qbs0 (D:DX)(n:Nat) (a0:Int):rF D n 76 (a0,())=q5g D n a0:=by kernel_rfl

def q9t (D:DX)(n:Nat) (a0:Int):Option tq42:=qd (qhr D a0) fun b↦br (!b.1.1) (some ((-1,()),())) (some ((Int.tmod a0 3,()),()))
def qz8 (D:DX)(n:Nat) (a0:Int):Option tq42:=q9t D n a0
theorem qbmz (D:DX)(n:Nat) (a0:Int):rF D n 77 (a0,())=qz8 D n a0:=by kernel_rfl


def q04 (D:DX)(n:Nat) (a0:tq17) (a1:Int) (a2:tq5):Option tq41:=br (decide (a1 = -1)) (some ((true,()),())) (qd (qbp D a1 a0.2.2.1 a2.2.2.1) fun b↦some ((b.1.1,()),()))
def qri (D:DX)(n:Nat) (a0:tq17) (a1:Int) (a2:tq5):Option tq41:=q04 D n a0 a1 a2
theorem qbdf (D:DX)(n:Nat) (a0:tq17) (a1:Int) (a2:tq5):rF D n 79 (a0,(a1,(a2,())))=qri D n a0 a1 a2:=by kernel_rfl

def qbhe (D:DX)(n:Nat) (a0:tq37):Option tq41:=let y3:Option tq41:=qd (qhr D a0.2.2.1) fun b↦some ((b.1.1,()),());let y6:Option tq41:=br (decide (a0.2.1=0)) y3 (some ((false,()),()));let y1:Option tq41:=br (decide (a0.1=6)) (qd (qro D a0.2.1) fun b↦some ((bif b.1.1 then decide (a0.2.2.1=0) else false,()),())) (br (decide (a0.1=7)) (br (decide (a0.1=7)) (some ((bif decide (a0.2.1=0) then decide (a0.2.2.1=0) else false,()),())) (some ((false,()),()))) (br (decide (a0.1=8)) (br (decide (a0.1=8)) (some ((bif decide (a0.2.1=0) then decide (a0.2.2.1=0) else false,()),())) (some ((false,()),()))) (br (decide (a0.1=9)) (some ((bif decide (a0.2.1=0) then decide (a0.2.2.1=0) else false,()),())) (some ((false,()),())))));let y0:Option tq41:=br (decide (a0.1=5)) (br (decide (a0.1=5)) y6 y1) (br (decide (a0.1=10)) y6 y1);let y2:Option tq41:=qd (qqm D a0.2.1) fun b↦some ((bif b.1.1 then decide (a0.2.2.1=0) else false,()),());let y4:Option tq41:=br (decide (a0.1=3)) (br (decide (a0.1=3)) y2 y0) (br (decide (a0.1=4)) y2 y0);let y5:Option tq41:=qd (qqm D a0.2.1) fun b↦br b.1.1 y3 (some ((false,()),()));br (decide (a0.1=1)) (br (decide (a0.1=1)) y5 y4) (br (decide (a0.1=2)) y5 y4)
def q8p (D:DX)(n:Nat) (a0:tq37):Option tq41:=qbhe D n a0
theorem qbud (D:DX)(n:Nat) (a0:tq37):rF D n 80 (a0,())=q8p D n a0:=by kernel_rfl

def q7o (D:DX)(n:Nat) (a0:tq13) (a1:Int):Option tq41:=let y0:Option tq41:=qd (qcx D a0.2.2.2.1 (Clo.mk 123 [])) fun b↦br b.1.1 (some ((false,()),())) (qd (qcw D a0.2.2.2.2.1 (Clo.mk 127 [CapV.rptr yq34 a1])) fun b↦some ((!b.1.1,()),()));br (decide ((a0.1.length:Int)>8)) (some ((false,()),())) (qd (qe7 D a0.1 (Clo.mk 121 [])) fun b↦br b.1.1 (some ((false,()),())) (qd (qbp D a0.2.1 0 (a0.1.length:Int)) fun b↦br (bif bif bif !b.1.1 then true else bif a0.2.2.1 then decide (a0.2.1=(a0.1.length:Int)) else false then true else decide ((a0.2.2.2.1.length:Int)>12) then true else decide ((a0.2.2.2.2.1.length:Int)>2)) (some ((false,()),())) (br (!a0.2.2.1) (br (decide (wrap .i64 ((a0.2.2.2.1.length:Int)+(a0.2.2.2.2.1.length:Int))>0)) (some ((false,()),())) y0) y0)))
def qxe (D:DX)(n:Nat) (a0:tq13) (a1:Int):Option tq41:=q7o D n a0 a1
theorem qbkb (D:DX)(n:Nat) (a0:tq13) (a1:Int):rF D n 81 (a0,(a1,()))=qxe D n a0 a1:=by kernel_rfl

def qwp (D:DX)(n:Nat) (go:Int→Int→Int→Int→List tq17→Int→Int→tq5→tq13→Option tq41) (K0:Int→Int→Int→tq5→tq13→Option tq41) (x0 x1 x2 x3:Int) (x4:List tq17) (x5 x6:Int) (x7:tq5) (x8:tq13):Option tq41:=br (decide (x6<x5)) (br (decide (0≤x6)&&decide (x6<(x4.length:Int))) (br ((List.getD x4 x6.toNat (0,(0,0,0,()),0,0,0,(0,[],()),())).1 != x0) (go x0 x1 x2 x3 x4 x5 (wrap .i64 (x6+1)) x7 x8) (br (decide ((List.getD x4 x6.toNat (0,(0,0,0,()),0,0,0,(0,[],()),())).2.2.2.2.1≥0)) (go x0 x6 (wrap .i64 (x2+1)) x3 x4 x5 (wrap .i64 (x6+1)) x7 x8) (go x0 x6 x2 (wrap .i64 (x3+1)) x4 x5 (wrap .i64 (x6+1)) x7 x8))) none) (K0 x1 x2 x3 x7 x8)
def qlm (D:DX)(n:Nat) (K0:Int→Int→Int→tq5→tq13→Option tq41):Nat→Int→Int→Int→Int→(List tq17)→Int→Int→tq5→tq13→Option tq41 | 0=>(fun x0 x1 x2 x3 x4 x5 x6 x7 x8=>none) | m+1=>(fun x0 x1 x2 x3 x4 x5 x6 x7 x8=>qwp D n (qlm D n K0 m) K0 x0 x1 x2 x3 x4 x5 x6 x7 x8)
def qsh (D:DX)(n:Nat) (b e d:Int) (c:tq5) (a:tq13):Option tq41:=let y0:=List.getD c.2.2.2.1 b.toNat (0,(0,0,0,()),0,0,0,(0,[],()),());br (e != a.2.1) (some ((false,()),())) (br (!a.2.2.1) (some ((decide (d=0),()),())) (br (bif decide (b≥0) then decide (d=1) else false) (br (decide (0≤b)&&decide (b<(c.2.2.2.1.length:Int))) (br (decide (y0.2.2.2.2.1 = -1)) (br (decide (0≤b)&&decide (b<(c.2.2.2.1.length:Int))) (br (decide (0≤a.2.1)&&decide (a.2.1<(a.1.length:Int))) (some ((qkr yq21 y0.2.1 (List.getD a.1 a.2.1.toNat (0,0,0,())),()),())) none) none) (some ((false,()),()))) none) (some ((false,()),()))))
def quj (D:DX)(n:Nat):(Int)→(Int)→(Int)→(Int)→(List tq17)→(Int)→(Int)→tq5→tq13→Option tq41:=(fun x0 x1 x2 x3 x4 x5 x6 x7 x8=>qlm D n (fun a b c d e=>qsh D n a b c d e) n x0 x1 x2 x3 x4 x5 x6 x7 x8)
def qzg (D:DX)(n:Nat) (lp0:Int→Int→Int→Int→List tq17→Int→Int→tq5→tq13→Option tq41) (a0:tq5) (a1:Int):Option tq41:=br (decide (0≤a1)&&decide (a1<(a0.2.1.length:Int))) (lp0 a1 (-1) 0 0 a0.2.2.2.1 (a0.2.2.2.1.length:Int) 0 a0 (List.getD a0.2.1 a1.toNat ([],0,false,[],[],()))) none
def qy4 (D:DX)(n:Nat) (a0:tq5) (a1:Int):Option tq41:=qzg D n (quj D n) a0 a1
def qwu (x0 x1 x2 x3:Int) (x4:List tq17) (x5 x6:Int) (x7:tq5) (x8:tq13):St:=stq 76 [(1,AV.val yq34 x0),(2,AV.addr 2 []),(5,AV.addr 5 []),(6,AV.val yq34 x1),(7,AV.val yq34 x2),(8,AV.val yq34 x3),(17,AV.val yq6 x4),(18,AV.val yq34 x5),(19,AV.val yq34 x6)] [(2,Root.mk yq0 Mk.no x7 true),(5,Root.mk yq5 Mk.no x8 true)]
def q3h (a b c:Int) (d:tq5) (e:tq13):St:=stq 76 [(2,AV.addr 2 []),(5,AV.addr 5 []),(6,AV.val yq34 a),(7,AV.val yq34 b),(8,AV.val yq34 c)] [(2,Root.mk yq0 Mk.no d true),(5,Root.mk yq5 Mk.no e true)]
theorem qbil (D:DX)(n:Nat) (K:KT 82):∀ (m:Nat) (x0 x1 x2 x3:Int) (x4:List tq17) (x5 x6:Int) (x7:tq5) (x8:tq13),LF D n 82 pq7 m (qwu x0 x1 x2 x3 x4 x5 x6 x7 x8) K=qlm D n (fun a b c d e=>K (Ex.exit 0) (q3h a b c d e)) m x0 x1 x2 x3 x4 x5 x6 x7 x8:=eL9 (fun F=>qwp D n F (fun a b c d e=>K (Ex.exit 0) (q3h a b c d e))) (fun _ _ _ _ _ _ _ _ _ =>q7 ..) (fun _ _ _ _ _ _ _ _ _ _ =>by kernel_rfl) (fun _ _ _ _ _ _ _ _ _ _ =>rfl)
theorem qbf8 (D:DX)(n:Nat) (x0) (x1) (x2) (x3) (x4) (x5) (x6) (x7) (x8):LF D n 82 pq7 n (qwu x0 x1 x2 x3 x4 x5 x6 x7 x8) (CF D n 82 [] pq7 (lF 82))=quj D n x0 x1 x2 x3 x4 x5 x6 x7 x8 :=by rw[qbil];kernel_rfl
theorem qblu (D:DX)(n:Nat) (a0:tq5) (a1:Int):rF D n 82 (a0,(a1,()))=qy4 D n a0 a1:=by
 have h:rF D n 82 (a0,(a1,()))=qzg D n (fun x0 x1 x2 x3 x4 x5 x6 x7 x8=>LF D n 82 pq7 n (qwu x0 x1 x2 x3 x4 x5 x6 x7 x8) (CF D n 82 [] pq7 (lF 82))) a0 a1:=by kernel_rfl
 rw[h]
 simp only[qbf8]
 rfl

def qwr (D:DX)(n:Nat) (go:Int→List tq17→Int→Int→tq5→Option tq41) (K0:Int→tq5→Option tq41) (x0:Int) (x1:List tq17) (x2 x3:Int) (x4:tq5):Option tq41:=br (decide (x3<x2)) (br (decide (0≤x3)&&decide (x3<(x1.length:Int))) (br (decide ((List.getD x1 x3.toNat (0,(0,0,0,()),0,0,0,(0,[],()),())).2.2.2.1≥0)) (go (wrap .i64 (x0+1)) x1 x2 (wrap .i64 (x3+1)) x4) (go x0 x1 x2 (wrap .i64 (x3+1)) x4)) none) (K0 x0 x4)
def qln (D:DX)(n:Nat) (K0:Int→tq5→Option tq41):Nat→Int→(List tq17)→Int→Int→tq5→Option tq41 | 0=>(fun x0 x1 x2 x3 x4=>none) | m+1=>(fun x0 x1 x2 x3 x4=>qwr D n (qln D n K0 m) K0 x0 x1 x2 x3 x4)
def qxg (D:DX)(n:Nat) (go:Int→List Int→Int→Int→tq5→Option tq41) (K0:Bool→Int→tq5→Option tq41) (K1:Int→tq5→Option tq41) (d:Int) (e:List Int) (f c:Int) (a:tq5):Option tq41:=let y2:=List.getD e c.toNat 0;let y0:=List.getD a.2.2.2.1 (Int.toNat y2) (0,(0,0,0,()),0,0,0,(0,[],()),());let y1:=Int.toNat (wrap .i64 (c - 1));br (decide (c<f)) (br (decide (0≤c)&&decide (c<(e.length:Int))) (qd (qbp D y2 0 (wrap .i64 ((a.2.2.2.1.length:Int) - 1))) fun b↦br (!b.1.1) (K0 false d a) (br (decide (0≤y2)&&decide (y2<(a.2.2.2.1.length:Int))) (br (decide (y0.2.2.2.1<0)) (K0 false d a) (br (decide (0≤0)&&decide (0≤c)&&decide (c≤(a.2.2.2.2.1.length:Int))) (qd (qg0 D (List.drop (Int.toNat 0) (List.take c.toNat a.2.2.2.2.1)) y2) fun b↦br b.1.1 (K0 false d a) (br (decide (c>0)) (br (decide (0≤wrap .i64 (c - 1))&&decide (wrap .i64 (c - 1)<(a.2.2.2.2.1.length:Int))) (br (decide (0≤List.getD a.2.2.2.2.1 y1 0)&&decide (List.getD a.2.2.2.2.1 y1 0<(a.2.2.2.1.length:Int))) (br (decide (0≤y2)&&decide (y2<(a.2.2.2.1.length:Int))) (br (decide ((List.getD a.2.2.2.1 (Int.toNat (List.getD a.2.2.2.2.1 y1 0)) (0,(0,0,0,()),0,0,0,(0,[],()),())).2.2.2.1>y0.2.2.2.1)) (K0 false d a) (go d e f (wrap .i64 (c+1)) a)) none) none) none) (go d e f (wrap .i64 (c+1)) a))) none)) none)) none) (K1 d a)
def qlb (D:DX)(n:Nat) (K0:Bool→Int→tq5→Option tq41) (K1:Int→tq5→Option tq41):Nat→Int→(List Int)→Int→Int→tq5→Option tq41 | 0=>(fun a b c d e=>none) | m+1=>(fun a b c d e=>qxg D n (qlb D n K0 K1 m) K0 K1 a b c d e)
def qbga (D:DX)(n:Nat) (a:Bool) (b:Int) (c:tq5):Option tq41:=some ((a,()),())
def q3u (D:DX)(n:Nat) (a:Int) (b:tq5):Option tq41:=some ((decide (a=(b.2.2.2.2.1.length:Int)),()),())
def qua (D:DX)(n:Nat):(Int)→(List Int)→(Int)→(Int)→tq5→Option tq41:=(fun a b h i j=>qlb D n (fun c d e=>qbga D n c d e) (fun f g=>q3u D n f g) n a b h i j)
def qst (D:DX)(n:Nat) (lp1:Int→List Int→Int→Int→tq5→Option tq41) (b:Int) (a:tq5):Option tq41:=lp1 b a.2.2.2.2.1 (a.2.2.2.2.1.length:Int) 0 a
def quc (D:DX)(n:Nat):(Int)→(List tq17)→(Int)→(Int)→tq5→Option tq41:=(fun x0 x1 x2 x3 x4=>qln D n (fun a b=>qst D n (qua D n) a b) n x0 x1 x2 x3 x4)
def qz5 (D:DX)(n:Nat) (lp0:Int→List tq17→Int→Int→tq5→Option tq41) (a0:tq5):Option tq41:=lp0 0 a0.2.2.2.1 (a0.2.2.2.1.length:Int) 0 a0
def qyi (D:DX)(n:Nat) (a0:tq5):Option tq41:=qz5 D n (quc D n) a0
def qvv (x0:Int) (x1:List tq17) (x2 x3:Int) (x4:tq5):St:=stq 83 [(1,AV.addr 1 []),(3,AV.val yq34 x0),(9,AV.val yq6 x1),(10,AV.val yq34 x2),(11,AV.val yq34 x3)] [(1,Root.mk yq0 Mk.no x4 true)]
def qs2 (a:Int) (b:tq5):St:=stq 83 [(1,AV.addr 1 []),(3,AV.val yq34 a)] [(1,Root.mk yq0 Mk.no b true)]
def qwv (a:Int) (b:List Int) (c d:Int) (e:tq5):St:=stq 83 [(1,AV.addr 1 []),(3,AV.val yq34 a),(22,AV.val yq30 b),(23,AV.val yq34 c),(24,AV.val yq34 d)] [(1,Root.mk yq0 Mk.no e true)]
def q3y (a:Bool) (b:Int) (c:tq5):St:=stq 83 [(1,AV.addr 1 []),(2,AV.val Ty.bool a),(3,AV.val yq34 b)] [(1,Root.mk yq0 Mk.no c true)]
def q3k (a:Int) (b:tq5):St:=stq 83 [(1,AV.addr 1 []),(3,AV.val yq34 a)] [(1,Root.mk yq0 Mk.no b true)]
theorem qbi3 (D:DX)(n:Nat) (K:KT 83):∀ (m:Nat) (x0:Int) (x1:List tq17) (x2 x3:Int) (x4:tq5),LF D n 83 pq0 m (qvv x0 x1 x2 x3 x4) K=qln D n (fun a b=>K (Ex.exit 0) (qs2 a b)) m x0 x1 x2 x3 x4:=eL5 (fun F=>qwr D n F (fun a b=>K (Ex.exit 0) (qs2 a b))) (fun _ _ _ _ _ =>q7 ..) (fun _ _ _ _ _ _ =>by kernel_rfl) (fun _ _ _ _ _ _ =>rfl)
theorem qbia (D:DX)(n:Nat) (K:KT 83):∀ (m:Nat) (f:Int) (g:List Int) (h i:Int) (j:tq5),LF D n 83 pq1 m (qwv f g h i j) K=qlb D n (fun a b c=>K (Ex.ret) (q3y a b c)) (fun d e=>K (Ex.exit 2) (q3k d e)) m f g h i j:=eL5 (fun F=>qxg D n F (fun a b c=>K (Ex.ret) (q3y a b c)) (fun d e=>K (Ex.exit 2) (q3k d e))) (fun _ _ _ _ _ =>q7 ..) (fun _ _ _ _ _ _ =>by kernel_rfl) (fun _ _ _ _ _ _ =>rfl)
theorem qbf3 (D:DX)(n:Nat) (a:Int) (b:List Int) (c d:Int) (e:tq5):LF D n 83 pq1 n (qwv a b c d e) (CF D n 83 [] pq1 (lF 83))=qua D n a b c d e :=by rw[qbia];kernel_rfl
theorem qbfv (D:DX)(n:Nat) (a:Int) (b:tq5):(CF D n 83 [] pq0 (lF 83)) (Ex.exit 0) (qs2 a b)=qst D n (fun c d e f g=>LF D n 83 pq1 n (qwv c d e f g) (CF D n 83 [] pq1 (lF 83))) a b:=by kernel_rfl
theorem qbgh (D:DX)(n:Nat) (x0) (x1) (x2) (x3) (x4):LF D n 83 pq0 n (qvv x0 x1 x2 x3 x4) (CF D n 83 [] pq0 (lF 83))=quc D n x0 x1 x2 x3 x4:=by
 rw[qbi3]
 simp only[qbfv,qbf3]
 rfl
theorem qbng (D:DX)(n:Nat) (a0:tq5):rF D n 83 (a0,())=qyi D n a0:=by
 have h:rF D n 83 (a0,())=qz5 D n (fun x0 x1 x2 x3 x4=>LF D n 83 pq0 n (qvv x0 x1 x2 x3 x4) (CF D n 83 [] pq0 (lF 83))) a0:=by kernel_rfl
 rw[h]
 simp only[qbgh]
 rfl

def q91 (D:DX)(n:Nat) (a0:tq40):Option ((tq40×Unit)×Unit):=qd (qge D a0.2.1) fun b↦some (((a0.1,b.1.1,()),()),())
def qzz (D:DX)(n:Nat) (a0:tq40):Option ((tq40×Unit)×Unit):=q91 D n a0
theorem qbml (D:DX)(n:Nat) (a0:tq40):rF D n 85 (a0,())=qzz D n a0:=by kernel_rfl

def qbl8 (D:DX)(n:Nat):Option tq30:=some (((List.replicate (Int.toNat 4) 0,0,()),()),())
def qbah (D:DX)(n:Nat):Option tq30:=qbl8 D n
theorem qbmf (D:DX)(n:Nat):rF D n 90 ()=qbah D n:=by kernel_rfl

def q1r (D:DX)(n:Nat) (go:Int→Int→tq39→Option tq42) (K0:Int→Option tq42) (K1:Option tq42) (x0 x1:Int) (x2:tq39):Option tq42:=br (decide (x1<(x2.1.length:Int))) (br (decide (0≤x1)&&decide (x1<(x2.1.length:Int))) (br (decide (List.getD x2.1 x1.toNat 0=x0)) (K0 x1) (go x0 (wrap .i64 (x1+1)) x2)) none) K1
def qok (D:DX)(n:Nat) (K0:Int→Option tq42) (K1:Option tq42):Nat→Int→Int→tq39→Option tq42 | 0=>(fun x0 x1 x2=>none) | m+1=>(fun x0 x1 x2=>q1r D n (qok D n K0 K1 m) K0 K1 x0 x1 x2)
def q7t (D:DX)(n:Nat) (a:Int):Option tq42:=some ((a,()),())
def q70 (D:DX)(n:Nat):Option tq42:=some ((-1,()),())
def qyt (D:DX)(n:Nat):(Int)→(Int)→tq39→Option tq42:=(fun x0 x1 x2=>qok D n (fun a=>q7t D n a) (q70 D n) n x0 x1 x2)
def q5l (D:DX)(n:Nat) (lp0:Int→Int→tq39→Option tq42) (a0:tq39) (a1:Int):Option tq42:=lp0 a1 0 a0
def q43 (D:DX)(n:Nat) (a0:tq39) (a1:Int):Option tq42:=q5l D n (qyt D n) a0 a1
def q19 (x0 x1:Int) (x2:tq39):St:=stq 21 [(1,AV.val yq34 x0),(2,AV.addr 2 []),(5,AV.val yq34 x1)] [(2,Root.mk yq25 Mk.no x2 true)]
def q73 (a:Int):St:=stq 21 [(4,AV.val yq34 a)] []
def q76:St:=stq 21 [] []
theorem qbmv (D:DX)(n:Nat) (K:KT 91):∀ (m:Nat) (x0 x1:Int) (x2:tq39),LF D n 91 pq2 m (q19 x0 x1 x2) K=qok D n (fun a=>K (Ex.ret) (q73 a)) (K (Ex.exit 0) (q76)) m x0 x1 x2:=eL3 (fun F=>q1r D n F (fun a=>K (Ex.ret) (q73 a)) (K (Ex.exit 0) (q76))) (fun _ _ _ =>q7 ..) (fun _ _ _ _ =>by kernel_rfl) (fun _ _ _ _ =>rfl)
theorem qbjf (D:DX)(n:Nat) (x0) (x1) (x2):LF D n 91 pq2 n (q19 x0 x1 x2) (CF D n 91 [] pq2 (lF 91))=qyt D n x0 x1 x2 :=by rw[qbmv];kernel_rfl
theorem qbsd (D:DX)(n:Nat) (a0:tq39) (a1:Int):rF D n 91 (a0,(a1,()))=q43 D n a0 a1:=by
 have h:rF D n 91 (a0,(a1,()))=q5l D n (fun x0 x1 x2=>LF D n 91 pq2 n (q19 x0 x1 x2) (CF D n 91 [] pq2 (lF 91))) a0 a1:=by kernel_rfl
 rw[h]
 simp only[qbjf]
 rfl

def q5f (D:DX)(n:Nat) (a0:tq34) (a1:List Int):Option tq25:=qd (qce D a0 (a1.length:Int)) fun b↦br (decide (0≤b.1.1)&&decide (b.1.1<(a1.length:Int))) (some ((List.getD a1 b.1.1.toNat 0,()),b.2.1,())) none
def qvb (D:DX)(n:Nat) (a0:tq34) (a1:List Int):Option tq25:=q5f D n a0 a1
theorem qbi1 (D:DX)(n:Nat) (a0:tq34) (a1:List Int):rF D n 92 (a0,(a1,()))=qvb D n a0 a1:=by kernel_rfl

def q1j (D:DX)(n:Nat) (a0:tq34):Option ((tq37×Unit)×tq31):=qd (qnv D a0 (List.set (List.set (List.set (List.set (List.set (List.set (List.set (List.set (List.set (List.set (List.set (List.set (List.set (List.set (List.replicate 14 0) 0 1) 1 1) 2 1) 3 2) 4 2) 5 3) 6 4) 7 5) 8 6) 9 7) 10 8) 11 9) 12 9) 13 10)) fun b↦qd (qxv D b.1.1) fun b_1↦br b_1.1.1 (qd (qce D b.2.1 4) fun b_2↦br (decide (b.1.1=6)) (qd (qce D b_2.2.1 3) fun b_3↦qd (qhi D b.1.1) fun b_4↦br b_4.1.1 (qd (qce D b_3.2.1 4) fun b_5↦some (((b.1.1,b_3.1.1,wrap .i64 (1+b_5.1.1),()),()),b_5.2.1,())) (some (((b.1.1,b_3.1.1,0,()),()),b_3.2.1,()))) (qd (qhi D b.1.1) fun b_3↦br b_3.1.1 (qd (qce D b_2.2.1 4) fun b_4↦some (((b.1.1,b_2.1.1,wrap .i64 (1+b_4.1.1),()),()),b_4.2.1,())) (some (((b.1.1,b_2.1.1,0,()),()),b_2.2.1,())))) (br (decide (b.1.1=6)) (qd (qce D b.2.1 3) fun b_2↦qd (qhi D b.1.1) fun b_3↦br b_3.1.1 (qd (qce D b_2.2.1 4) fun b_4↦some (((b.1.1,b_2.1.1,wrap .i64 (1+b_4.1.1),()),()),b_4.2.1,())) (some (((b.1.1,b_2.1.1,0,()),()),b_2.2.1,()))) (qd (qhi D b.1.1) fun b_2↦br b_2.1.1 (qd (qce D b.2.1 4) fun b_3↦some (((b.1.1,0,wrap .i64 (1+b_3.1.1),()),()),b_3.2.1,())) (some (((b.1.1,0,0,()),()),b.2.1,()))))
def qq6 (D:DX)(n:Nat) (a0:tq34):Option ((tq37×Unit)×tq31):=q1j D n a0
theorem qbc1 (D:DX)(n:Nat) (a0:tq34):rF D n 93 (a0,())=qq6 D n a0:=by kernel_rfl

def qbbx (D:DX)(n:Nat) (a0:tq34):Option tq25:=let y1:=wrap .i64 (a0.2.2.1 * 6364136223846793005)+1442695040888963407;let y0:=wrap .i64 (↑(BitVec.toNat (BitVec.xor (BitVec.ofInt (IntKind.bits IntKind.i64) (Int.fdiv (wrap .i64 y1) (Int.pow 2 (if Int.toNat 33≤IntKind.bits IntKind.i64 then Int.toNat 33 else IntKind.bits IntKind.i64)))) (BitVec.ofInt (IntKind.bits IntKind.i64) (Int.fdiv (wrap .i64 y1) (Int.pow 2 (if Int.toNat 45≤IntKind.bits IntKind.i64 then Int.toNat 45 else IntKind.bits IntKind.i64)))))):Int);br (decide (a0.2.1<(a0.1.length:Int))) (br (decide (0≤a0.2.1)&&decide (a0.2.1<(a0.1.length:Int))) (some ((wrap .i64 (↑(BitVec.toNat (BitVec.and (BitVec.ofInt (IntKind.bits IntKind.i64) (wrap .i64 (wrap .i64 (↑(BitVec.toNat (BitVec.and (BitVec.ofInt (IntKind.bits IntKind.i64) y0) (BitVec.ofInt (IntKind.bits IntKind.i64) 255))):Int)+wrap .i64 (List.getD a0.1 a0.2.1.toNat 0)))) (BitVec.ofInt (IntKind.bits IntKind.i64) 255))):Int),()),(a0.1,wrap .i64 (a0.2.1+1),wrap .i64 y1,a0.2.2.2),())) none) (some ((wrap .i64 (↑(BitVec.toNat (BitVec.and (BitVec.ofInt (IntKind.bits IntKind.i64) y0) (BitVec.ofInt (IntKind.bits IntKind.i64) 255))):Int),()),(a0.1,a0.2.1,wrap .i64 y1,a0.2.2.2),()))
def q2b (D:DX)(n:Nat) (a0:tq34):Option tq25:=qbbx D n a0
theorem qbp5 (D:DX)(n:Nat) (a0:tq34):rF D n 94 (a0,())=q2b D n a0:=by kernel_rfl

def qk8 (D:DX)(n:Nat) (a0:List tq37):Option tq28:=br (decide (Int.toNat (a0.length:Int)=0)) (both (some (([],()),())) (br (decide (0+a0.length≤qb7)) (some (([]++a0,()),())) none)) (br (decide (0+a0.length≤qb7)) (some (([]++a0,()),())) none)
def qhm (D:DX)(n:Nat) (a0:List tq37):Option tq28:=qk8 D n a0
theorem qwe (D:DX)(n:Nat) (a0:List tq37):rF D n 95 (a0,())=qhm D n a0:=by kernel_rfl

def qwf (D:DX)(n:Nat) (go:Int→tq39→List Int→Option tq36) (K0:tq39→List Int→Option tq36) (x0:Int) (x1:tq39) (x2:List Int):Option tq36:=let y0:=List.getD x1.1 x0.toNat 0;let y1:=wrap .i64 (x0+1);br (decide (x0<4)) (br (decide (0≤x0)&&decide (x0<(x1.1.length:Int))) (qd (q42 D x0) fun b↦br (decide (0≤b.1.1)&&decide (b.1.1<(x2.length:Int))) (br (decide (y0=0)) (go y1 x1 (List.set x2 b.1.1.toNat y0)) (qd (q0j D y0) fun b_1↦br (decide (0≤b_1.1.1)&&decide (b_1.1.1<((List.set x2 b.1.1.toNat y0).length:Int))) (br (decide (x0<wrap .i64 (x1.2.1 - 1))) (qd (q60 D y0) fun b_2↦let a:=List.set (List.set x2 b.1.1.toNat y0) b_1.1.1.toNat y1;br (decide (0≤b_2.1.1)&&decide (b_2.1.1<(a.length:Int))) (go y1 x1 (List.set a b_2.1.1.toNat y1)) none) (go y1 x1 (List.set (List.set x2 b.1.1.toNat y0) b_1.1.1.toNat y1))) none)) none) none) (K0 x1 x2)
def qlc (D:DX)(n:Nat) (K0:tq39→List Int→Option tq36):Nat→Int→tq39→(List Int)→Option tq36 | 0=>(fun x0 x1 x2=>none) | m+1=>(fun x0 x1 x2=>qwf D n (qlc D n K0 m) K0 x0 x1 x2)
def qwm (D:DX)(n:Nat) (go:Int→tq39→List Int→Option tq36) (K0:tq39→List Int→Option tq36) (a:Int) (c:tq39) (d:List Int):Option tq36:=br (decide (a<3)) (qd (qz3 D a) fun b↦qd (qzx D c a) fun b_1↦br (decide (0≤b.1.1)&&decide (b.1.1<(d.length:Int))) (go (wrap .i64 (a+1)) c (List.set d b.1.1.toNat b_1.1.1)) none) (K0 c d)
def qk7 (D:DX)(n:Nat) (K0:tq39→List Int→Option tq36):Nat→Int→tq39→(List Int)→Option tq36 | 0=>(fun a b c=>none) | m+1=>(fun a b c=>qwm D n (qk7 D n K0 m) K0 a b c)
def qs1 (D:DX)(n:Nat) (c:tq39) (a:List Int):Option tq36:=qd (qry D) fun b↦br (decide (0≤b.1.1)&&decide (b.1.1<(a.length:Int))) (some ((List.set a b.1.1.toNat c.2.1,()),())) none
def qnn (D:DX)(n:Nat):(Int)→tq39→(List Int)→Option tq36:=(fun a d e=>qk7 D n (fun b c=>qs1 D n b c) n a d e)
def ql5 (D:DX)(n:Nat) (lp1:Int→tq39→List Int→Option tq36) (a:tq39) (b:List Int):Option tq36:=lp1 0 a b
def quu (D:DX)(n:Nat):(Int)→tq39→(List Int)→Option tq36:=(fun x0 x1 x2=>qlc D n (fun a b=>ql5 D n (qnn D n) a b) n x0 x1 x2)
def qyu (D:DX)(n:Nat) (lp0:Int→tq39→List Int→Option tq36) (a0:tq39):Option tq36:=qd (qt4 D a0) fun b↦br (!b.1.1) (some (([],()),())) (lp0 0 a0 (List.replicate (Int.toNat 20) 0))
def qyj (D:DX)(n:Nat) (a0:tq39):Option tq36:=qyu D n (quu D n) a0
def qwg (x0:Int) (x1:tq39) (x2:List Int):St:=stq 62 [(1,AV.addr 1 []),(3,AV.brw 3 [] 0),(4,AV.val yq34 x0)] [(1,Root.mk yq25 Mk.no x1 true),(3,Root.mk yq30 kq37 x2 false)]
def qse (a:tq39) (b:List Int):St:=stq 62 [(1,AV.addr 1 []),(3,AV.brw 3 [] 0)] [(1,Root.mk yq25 Mk.no a true),(3,Root.mk yq30 kq37 b false)]
def qxn (a:Int) (b:tq39) (c:List Int):St:=stq 62 [(1,AV.addr 1 []),(3,AV.brw 3 [] 0),(6,AV.val yq34 a)] [(1,Root.mk yq25 Mk.no b true),(3,Root.mk yq30 kq37 c false)]
def q3x (a:tq39) (b:List Int):St:=stq 62 [(1,AV.addr 1 []),(3,AV.brw 3 [] 0)] [(1,Root.mk yq25 Mk.no a true),(3,Root.mk yq30 kq37 b false)]
theorem qbhi (D:DX)(n:Nat) (K:KT 96):∀ (m:Nat) (x0:Int) (x1:tq39) (x2:List Int),LF D n 96 pq1 m (qwg x0 x1 x2) K=qlc D n (fun a b=>K (Ex.exit 0) (qse a b)) m x0 x1 x2:=eL3 (fun F=>qwf D n F (fun a b=>K (Ex.exit 0) (qse a b))) (fun _ _ _ =>q7 ..) (fun _ _ _ _ =>by kernel_rfl) (fun _ _ _ _ =>rfl)
theorem qbiy (D:DX)(n:Nat) (K:KT 96):∀ (m:Nat) (c:Int) (d:tq39) (e:List Int),LF D n 96 pq3 m (qxn c d e) K=qk7 D n (fun a b=>K (Ex.exit 2) (q3x a b)) m c d e:=eL3 (fun F=>qwm D n F (fun a b=>K (Ex.exit 2) (q3x a b))) (fun _ _ _ =>q7 ..) (fun _ _ _ _ =>by kernel_rfl) (fun _ _ _ _ =>rfl)
theorem qbgf (D:DX)(n:Nat) (a:Int) (b:tq39) (c:List Int):LF D n 96 pq3 n (qxn a b c) (CF D n 96 [] pq3 (lF 96))=qnn D n a b c :=by rw[qbiy];kernel_rfl
theorem qbgc (D:DX)(n:Nat) (a:tq39) (b:List Int):(CF D n 96 [] pq1 (lF 96)) (Ex.exit 0) (qse a b)=ql5 D n (fun c d e=>LF D n 96 pq3 n (qxn c d e) (CF D n 96 [] pq3 (lF 96))) a b:=by kernel_rfl
theorem qbfy (D:DX)(n:Nat) (x0) (x1) (x2):LF D n 96 pq1 n (qwg x0 x1 x2) (CF D n 96 [] pq1 (lF 96))=quu D n x0 x1 x2:=by
 rw[qbhi]
 simp only[qbgc,qbgf]
 rfl
theorem qbnx (D:DX)(n:Nat) (a0:tq39):rF D n 96 (a0,())=qyj D n a0:=by
 have h:rF D n 96 (a0,())=qyu D n (fun x0 x1 x2=>LF D n 96 pq1 n (qwg x0 x1 x2) (CF D n 96 [] pq1 (lF 96))) a0:=by kernel_rfl
 rw[h]
 simp only[qbfy]
 rfl

def qbuj (D:DX)(n:Nat) (a0 a1 a2:Int):Option tq41:=some ((bif decide (a0≥a1) then decide (a0≤a2) else false,()),())
def qbhb (D:DX)(n:Nat) (a0 a1 a2:Int):Option tq41:=qbuj D n a0 a1 a2
theorem qbup (D:DX)(n:Nat) (a0 a1 a2:Int):rF D n 97 (a0,(a1,(a2,())))=qbhb D n a0 a1 a2:=by kernel_rfl

def q1w (D:DX)(n:Nat) (go:Int→tq12→Option tq41) (K0:Bool→tq12→Option tq41) (K1:tq12→Option tq41) (x0:Int) (x1:tq12):Option tq41:=br (decide (x0<(x1.2.1.length:Int))) (br (decide (0≤x0)&&decide (x0<(x1.2.1.length:Int))) (qd (q2h D (List.getD x1.2.1 x0.toNat (0,0,[],(0,[],()),()))) fun b↦br (!b.1.1) (K0 false x1) (go (wrap .i64 (x0+1)) x1)) none) (K1 x1)
def qop (D:DX)(n:Nat) (K0:Bool→tq12→Option tq41) (K1:tq12→Option tq41):Nat→Int→tq12→Option tq41 | 0=>(fun x0 x1=>none) | m+1=>(fun x0 x1=>q1w D n (qop D n K0 K1 m) K0 K1 x0 x1)
def q7e (D:DX)(n:Nat) (a:Bool) (b:tq12):Option tq41:=some ((a,()),())
def q28 (D:DX)(n:Nat) (go:Int→tq12→Option tq41) (K0:Bool→Option tq41) (K1:Option tq41) (c:Int) (a:tq12):Option tq41:=let y0:=List.getD a.1 c.toNat (0,0,0,());let y1:=List.getD a.2.1 (Int.toNat (wrap .i64 (y0.2.1 - 1))) (0,0,[],(0,[],()),());br (decide (c<(a.1.length:Int))) (br (decide (0≤c)&&decide (c<(a.1.length:Int))) (qd (qbb7 D y0 (a.2.1.length:Int)) fun b↦br (!b.1.1) (K0 false) (br (decide (y0.2.1>0)) (br (decide (0≤wrap .i64 (y0.2.1 - 1))&&decide (wrap .i64 (y0.2.1 - 1)<(a.2.1.length:Int))) (qd (qbm2 D y1 c) fun b↦br (!b.1.2.1) (K0 false) (br (decide (0≤wrap .i64 (y0.2.1 - 1))&&decide (wrap .i64 (y0.2.1 - 1)<(a.2.1.length:Int))) (br (y1.1 != y0.2.2.1) (K0 false) (go (wrap .i64 (c+1)) a)) none)) none) (go (wrap .i64 (c+1)) a))) none) K1
def qoo (D:DX)(n:Nat) (K0:Bool→Option tq41) (K1:Option tq41):Nat→Int→tq12→Option tq41 | 0=>(fun a b=>none) | m+1=>(fun a b=>q28 D n (qoo D n K0 K1 m) K0 K1 a b)
def qbi8 (D:DX)(n:Nat) (a:Bool):Option tq41:=some ((a,()),())
def qbk2 (D:DX)(n:Nat):Option tq41:=some ((true,()),())
def qyv (D:DX)(n:Nat):(Int)→tq12→Option tq41:=(fun a b=>qoo D n (fun c=>qbi8 D n c) (qbk2 D n) n a b)
def qx1 (D:DX)(n:Nat) (lp1:Int→tq12→Option tq41) (a:tq12):Option tq41:=lp1 0 a
def q0l (D:DX)(n:Nat):(Int)→tq12→Option tq41:=(fun x0 x1=>qop D n (fun a b=>q7e D n a b) (fun c=>qx1 D n (qyv D n) c) n x0 x1)
def q5i (D:DX)(n:Nat) (lp0:Int→tq12→Option tq41) (a0:tq12):Option tq41:=br ((a0.1.length:Int) != 20) (some ((false,()),())) (qd (qbo D (a0.2.1.length:Int) 1 4) fun b↦br (!b.1.1) (some ((false,()),())) (lp0 0 a0))
def q5v (D:DX)(n:Nat) (a0:tq12):Option tq41:=q5i D n (q0l D n) a0
def q11 (x0:Int) (x1:tq12):St:=stq 81 [(1,AV.addr 1 []),(3,AV.val yq34 x0)] [(1,Root.mk yq3 Mk.no x1 true)]
def qw6 (a:Bool) (b:tq12):St:=stq 81 [(1,AV.addr 1 []),(2,AV.val Ty.bool a)] [(1,Root.mk yq3 Mk.no b true)]
def qxr (a:tq12):St:=stq 81 [(1,AV.addr 1 [])] [(1,Root.mk yq3 Mk.no a true)]
def q2k (a:Int) (b:tq12):St:=stq 81 [(1,AV.addr 1 []),(4,AV.val yq34 a)] [(1,Root.mk yq3 Mk.no b true)]
def q7y (a:Bool):St:=stq 81 [(2,AV.val Ty.bool a)] []
def q7l:St:=stq 81 [] []
theorem qbn2 (D:DX)(n:Nat) (K:KT 98):∀ (m:Nat) (x0:Int) (x1:tq12),LF D n 98 pq0 m (q11 x0 x1) K=qop D n (fun a b=>K (Ex.ret) (qw6 a b)) (fun c=>K (Ex.exit 0) (qxr c)) m x0 x1:=eL2 (fun F=>q1w D n F (fun a b=>K (Ex.ret) (qw6 a b)) (fun c=>K (Ex.exit 0) (qxr c))) (fun _ _ =>q7 ..) (fun _ _ _ =>by kernel_rfl) (fun _ _ _ =>rfl)
theorem qblm (D:DX)(n:Nat) (K:KT 98):∀ (m:Nat) (b:Int) (c:tq12),LF D n 98 pq1 m (q2k b c) K=qoo D n (fun a=>K (Ex.ret) (q7y a)) (K (Ex.exit 2) (q7l)) m b c:=eL2 (fun F=>q28 D n F (fun a=>K (Ex.ret) (q7y a)) (K (Ex.exit 2) (q7l))) (fun _ _ =>q7 ..) (fun _ _ _ =>by kernel_rfl) (fun _ _ _ =>rfl)
theorem qbk4 (D:DX)(n:Nat) (a:Int) (b:tq12):LF D n 98 pq1 n (q2k a b) (CF D n 98 [] pq1 (lF 98))=qyv D n a b :=by rw[qblm];kernel_rfl
theorem qbkd (D:DX)(n:Nat) (a:Bool) (b:tq12):(CF D n 98 [] pq0 (lF 98)) (Ex.ret) (qw6 a b)=q7e D n a b:=by kernel_rfl
theorem qble (D:DX)(n:Nat) (a:tq12):(CF D n 98 [] pq0 (lF 98)) (Ex.exit 0) (qxr a)=qx1 D n (fun b c=>LF D n 98 pq1 n (q2k b c) (CF D n 98 [] pq1 (lF 98))) a:=by kernel_rfl
theorem qbks (D:DX)(n:Nat) (x0) (x1):LF D n 98 pq0 n (q11 x0 x1) (CF D n 98 [] pq0 (lF 98))=q0l D n x0 x1:=by
 rw[qbn2]
 simp only[qbkd,qble,qbk4]
 rfl
theorem qbtf (D:DX)(n:Nat) (a0:tq12):rF D n 98 (a0,())=q5v D n a0:=by
 have h:rF D n 98 (a0,())=q5i D n (fun x0 x1=>LF D n 98 pq0 n (q11 x0 x1) (CF D n 98 [] pq0 (lF 98))) a0:=by kernel_rfl
 rw[h]
 simp only[qbks]
 rfl

def q0e (D:DX)(n:Nat) (go:Int→tq39→Option tq41) (K0:Bool→tq39→Option tq41) (K1:tq39→Option tq41) (x0:Int) (x1:tq39):Option tq41:=br (decide (x0<(x1.1.length:Int))) (br (decide (0≤x0)&&decide (x0<(x1.1.length:Int))) (br (List.getD x1.1 x0.toNat 0 != 0) (br (decide (0≤x0)&&decide (x0<(x1.1.length:Int))) (qd (qjf D (List.getD x1.1 x0.toNat 0)) fun b↦br (!b.1.1) (K0 false x1) (br (decide (0≤x0)&&decide (x0<(x1.1.length:Int))) (qd (qw0 D x1 (List.getD x1.1 x0.toNat 0)) fun b↦br (b.1.1 != x0) (K0 false x1) (go (wrap .i64 (x0+1)) x1)) none)) none) (go (wrap .i64 (x0+1)) x1)) none) (K1 x1)
def qmj (D:DX)(n:Nat) (K0:Bool→tq39→Option tq41) (K1:tq39→Option tq41):Nat→Int→tq39→Option tq41 | 0=>(fun x0 x1=>none) | m+1=>(fun x0 x1=>q0e D n (qmj D n K0 K1 m) K0 K1 x0 x1)
def q5k (D:DX)(n:Nat) (a:Bool) (b:tq39):Option tq41:=some ((a,()),())
def qu2 (D:DX)(n:Nat) (a:tq39):Option tq41:=br (decide ((a.1.length:Int)=4)) (qd (qbo D a.2.1 0 5) fun b↦some ((b.1.1,()),())) (some ((false,()),()))
def qwi (D:DX)(n:Nat):(Int)→tq39→Option tq41:=(fun x0 x1=>qmj D n (fun a b=>q5k D n a b) (fun c=>qu2 D n c) n x0 x1)
def q2q (D:DX)(n:Nat) (lp0:Int→tq39→Option tq41) (a0:tq39):Option tq41:=lp0 0 a0
def q16 (D:DX)(n:Nat) (a0:tq39):Option tq41:=q2q D n (qwi D n) a0
def qzm (x0:Int) (x1:tq39):St:=stq 46 [(1,AV.addr 1 []),(3,AV.val yq34 x0)] [(1,Root.mk yq25 Mk.no x1 true)]
def q5e (a:Bool) (b:tq39):St:=stq 46 [(1,AV.addr 1 []),(2,AV.val Ty.bool a)] [(1,Root.mk yq25 Mk.no b true)]
def q5p (a:tq39):St:=stq 46 [(1,AV.addr 1 [])] [(1,Root.mk yq25 Mk.no a true)]
theorem qbkt (D:DX)(n:Nat) (K:KT 99):∀ (m:Nat) (x0:Int) (x1:tq39),LF D n 99 pq2 m (qzm x0 x1) K=qmj D n (fun a b=>K (Ex.ret) (q5e a b)) (fun c=>K (Ex.exit 0) (q5p c)) m x0 x1:=eL2 (fun F=>q0e D n F (fun a b=>K (Ex.ret) (q5e a b)) (fun c=>K (Ex.exit 0) (q5p c))) (fun _ _ =>q7 ..) (fun _ _ _ =>by kernel_rfl) (fun _ _ _ =>rfl)
theorem qbin (D:DX)(n:Nat) (x0) (x1):LF D n 99 pq2 n (qzm x0 x1) (CF D n 99 [] pq2 (lF 99))=qwi D n x0 x1 :=by rw[qbkt];kernel_rfl
theorem qbpf (D:DX)(n:Nat) (a0:tq39):rF D n 99 (a0,())=q16 D n a0:=by
 have h:rF D n 99 (a0,())=q2q D n (fun x0 x1=>LF D n 99 pq2 n (qzm x0 x1) (CF D n 99 [] pq2 (lF 99))) a0:=by kernel_rfl
 rw[h]
 simp only[qbin]
 rfl

def qwa (D:DX)(n:Nat) (go:Int→Int→tq5→Option tq41) (K0:Bool→Int→tq5→Option tq41) (K1:Int→tq5→Option tq41) (x0 x1:Int) (x2:tq5):Option tq41:=br (decide (x1<(x2.2.2.2.1.length:Int))) (br (decide (0≤x1)&&decide (x1<(x2.2.2.2.1.length:Int))) (qd (qbpo D x2 (List.getD x2.2.2.2.1 x1.toNat (0,(0,0,0,()),0,0,0,(0,[],()),()))) fun b↦br (!b.1.1) (K0 false x0 x2) (br (decide (0≤x1)&&decide (x1<(x2.2.2.2.1.length:Int))) (qd (qqp D (decide ((List.getD x2.2.2.2.1 x1.toNat (0,(0,0,0,()),0,0,0,(0,[],()),())).2.2.2.1≥0))) fun b↦go (wrap .i64 (x0+b.1.1)) (wrap .i64 (x1+1)) x2) none)) none) (K1 x0 x2)
def qpu (D:DX)(n:Nat) (K0:Bool→Int→tq5→Option tq41) (K1:Int→tq5→Option tq41):Nat→Int→Int→tq5→Option tq41 | 0=>(fun x0 x1 x2=>none) | m+1=>(fun x0 x1 x2=>qwa D n (qpu D n K0 K1 m) K0 K1 x0 x1 x2)
def q3i (D:DX)(n:Nat) (a:Bool) (b:Int) (c:tq5):Option tq41:=some ((a,()),())
def q7x (D:DX)(n:Nat) (go:Int→Int→Int→Int→tq5→Option tq41) (K0:Bool→Int→Int→tq5→Option tq41) (K1:Int→Int→tq5→Option tq41) (d c e a:Int) (b:tq5):Option tq41:=br (decide (a<c)) (br (decide (0≤a)&&decide (a<(b.2.2.2.2.1.length:Int))) (br (decide (List.getD b.2.2.2.2.1 a.toNat 0=e)) (K0 false d c b) (go d c e (wrap .i64 (a+1)) b)) none) (K1 d c b)
def qxp (D:DX)(n:Nat) (K0:Bool→Int→Int→tq5→Option tq41) (K1:Int→Int→tq5→Option tq41):Nat→Int→Int→Int→Int→tq5→Option tq41 | 0=>(fun a b c d e=>none) | m+1=>(fun a b c d e=>q7x D n (qxp D n K0 K1 m) K0 K1 a b c d e)
def qbfm (D:DX)(n:Nat) (go:Int→Int→tq5→Option tq41) (K0:Bool→Int→tq5→Option tq41) (K1:Int→tq5→Option tq41) (a:Bool) (b d:Int) (c:tq5):Option tq41:=K0 a b c
def qbgb (D:DX)(n:Nat) (go:Int→Int→tq5→Option tq41) (K0:Bool→Int→tq5→Option tq41) (K1:Int→tq5→Option tq41) (a b:Int) (c:tq5):Option tq41:=go a (wrap .i64 (b+1)) c
def q6t (D:DX)(n:Nat) (go:Int→Int→tq5→Option tq41) (K0:Bool→Int→tq5→Option tq41) (K1:Int→tq5→Option tq41):(Int)→(Int)→(Int)→(Int)→tq5→Option tq41:=(fun a b j k l=>qxp D n (fun c d e f=>qbfm D n go K0 K1 c d e f) (fun g h i=>qbgb D n go K0 K1 g h i) n a b j k l)
def qws (D:DX)(n:Nat) (go:Int→Int→tq5→Option tq41) (K0:Bool→Int→tq5→Option tq41) (K1:Int→tq5→Option tq41) (lp2:Int→Int→Int→Int→tq5→Option tq41) (d c:Int) (a:tq5):Option tq41:=let y0:=List.getD a.2.2.2.2.1 c.toNat 0;let y1:=List.getD a.2.2.2.1 (Int.toNat y0) (0,(0,0,0,()),0,0,0,(0,[],()),());let y2:=Int.toNat (wrap .i64 (c - 1));br (decide (c<(a.2.2.2.2.1.length:Int))) (br (decide (0≤c)&&decide (c<(a.2.2.2.2.1.length:Int))) (qd (qbo D y0 0 (wrap .i64 ((a.2.2.2.1.length:Int) - 1))) fun b↦br (!b.1.1) (K0 false d a) (br (decide (0≤y0)&&decide (y0<(a.2.2.2.1.length:Int))) (br (decide (y1.2.2.2.1<0)) (K0 false d a) (br (decide (c>0)) (br (decide (0≤wrap .i64 (c - 1))&&decide (wrap .i64 (c - 1)<(a.2.2.2.2.1.length:Int))) (br (decide (0≤List.getD a.2.2.2.2.1 y2 0)&&decide (List.getD a.2.2.2.2.1 y2 0<(a.2.2.2.1.length:Int))) (br (decide (0≤y0)&&decide (y0<(a.2.2.2.1.length:Int))) (br (decide ((List.getD a.2.2.2.1 (Int.toNat (List.getD a.2.2.2.2.1 y2 0)) (0,(0,0,0,()),0,0,0,(0,[],()),())).2.2.2.1>y1.2.2.2.1)) (K0 false d a) (lp2 d c y0 0 a)) none) none) none) (lp2 d c y0 0 a))) none)) none) (K1 d a)
def qji (D:DX)(n:Nat) (K0:Bool→Int→tq5→Option tq41) (K1:Int→tq5→Option tq41):Nat→Int→Int→tq5→Option tq41 | 0=>(fun a b c=>none) | m+1=>(fun a b c=>qws D n (qji D n K0 K1 m) K0 K1 (q6t D n (qji D n K0 K1 m) K0 K1) a b c)
def qbfz (D:DX)(n:Nat) (a:Bool) (b:Int) (c:tq5):Option tq41:=some ((a,()),())
def q3j (D:DX)(n:Nat) (b:Int) (a:tq5):Option tq41:=some ((bif decide ((a.2.2.2.1.length:Int)≤40) then decide (b=(a.2.2.2.2.1.length:Int)) else false,()),())
def qu3 (D:DX)(n:Nat):(Int)→(Int)→tq5→Option tq41:=(fun a b h=>qji D n (fun c d e=>qbfz D n c d e) (fun f g=>q3j D n f g) n a b h)
def qsq (D:DX)(n:Nat) (lp1:Int→Int→tq5→Option tq41) (a:Int) (b:tq5):Option tq41:=lp1 a 0 b
def qud (D:DX)(n:Nat):(Int)→(Int)→tq5→Option tq41:=(fun x0 x1 x2=>qpu D n (fun a b c=>q3i D n a b c) (fun d e=>qsq D n (qu3 D n) d e) n x0 x1 x2)
def qz4 (D:DX)(n:Nat) (lp0:Int→Int→tq5→Option tq41) (a0:tq5):Option tq41:=lp0 0 0 a0
def qzn (D:DX)(n:Nat) (a0:tq5):Option tq41:=qz4 D n (qud D n) a0
def qw5 (x0 x1:Int) (x2:tq5):St:=stq 108 [(1,AV.addr 1 []),(3,AV.val yq34 x0),(4,AV.val yq34 x1)] [(1,Root.mk yq0 Mk.no x2 true)]
def qsc (a:Bool) (b:Int) (c:tq5):St:=stq 108 [(1,AV.addr 1 []),(2,AV.val Ty.bool a),(3,AV.val yq34 b)] [(1,Root.mk yq0 Mk.no c true)]
def qtf (a:Int) (b:tq5):St:=stq 108 [(1,AV.addr 1 []),(3,AV.val yq34 a)] [(1,Root.mk yq0 Mk.no b true)]
def qhh (a b:Int) (c:tq5):St:=stq 108 [(1,AV.addr 1 []),(3,AV.val yq34 a),(5,AV.val yq34 b)] [(1,Root.mk yq0 Mk.no c true)]
def qma (a:Bool) (b:Int) (c:tq5):St:=stq 108 [(1,AV.addr 1 []),(2,AV.val Ty.bool a),(3,AV.val yq34 b)] [(1,Root.mk yq0 Mk.no c true)]
def ql6 (a:Int) (b:tq5):St:=stq 108 [(1,AV.addr 1 []),(3,AV.val yq34 a)] [(1,Root.mk yq0 Mk.no b true)]
def qxt (a b c d:Int) (e:tq5):St:=stq 108 [(1,AV.addr 1 []),(3,AV.val yq34 a),(5,AV.val yq34 b),(6,AV.val yq34 c),(7,AV.val yq34 d)] [(1,Root.mk yq0 Mk.no e true)]
def q3t (a:Bool) (b c:Int) (d:tq5):St:=stq 108 [(1,AV.addr 1 []),(2,AV.val Ty.bool a),(3,AV.val yq34 b),(5,AV.val yq34 c)] [(1,Root.mk yq0 Mk.no d true)]
def q3p (a b:Int) (c:tq5):St:=stq 108 [(1,AV.addr 1 []),(3,AV.val yq34 a),(5,AV.val yq34 b)] [(1,Root.mk yq0 Mk.no c true)]
theorem qbhn (D:DX)(n:Nat) (K:KT 100):∀ (m:Nat) (x0 x1:Int) (x2:tq5),LF D n 100 pq0 m (qw5 x0 x1 x2) K=qpu D n (fun a b c=>K (Ex.ret) (qsc a b c)) (fun d e=>K (Ex.exit 0) (qtf d e)) m x0 x1 x2:=eL3 (fun F=>qwa D n F (fun a b c=>K (Ex.ret) (qsc a b c)) (fun d e=>K (Ex.exit 0) (qtf d e))) (fun _ _ _ =>q7 ..) (fun _ _ _ _ =>by kernel_rfl) (fun _ _ _ _ =>rfl)
theorem qbiq (D:DX)(n:Nat) (K:KT 100):∀ (m:Nat) (h i j k:Int) (l:tq5),LF D n 100 pq14 m (qxt h i j k l) K=qxp D n (fun a b c d=>K (Ex.ret) (q3t a b c d)) (fun e f g=>K (Ex.exit 4) (q3p e f g)) m h i j k l:=eL5 (fun F=>q7x D n F (fun a b c d=>K (Ex.ret) (q3t a b c d)) (fun e f g=>K (Ex.exit 4) (q3p e f g))) (fun _ _ _ _ _ =>q7 ..) (fun _ _ _ _ _ _ =>by kernel_rfl) (fun _ _ _ _ _ _ =>rfl)
theorem qbfl (D:DX)(n:Nat) (m:Nat) (K:KT 100) (a b c d:Int) (e:tq5):LF D n 100 pq14 n (qxt a b c d e) (CF D n 100 [.r,.r,.r,.l,.r,.l,.l] [.r,.l,.l,.r,.r,.r,.l] (KF D n 100 pq1 m K))=q6t D n (fun k o p=>LF D n 100 pq1 m (qhh k o p) K) (fun f g h=>K (Ex.ret) (qma f g h)) (fun i j=>K (Ex.exit 2) (ql6 i j)) a b c d e :=by rw[qbiq];kernel_rfl
theorem qbhx (D:DX)(n:Nat) (m:Nat) (K:KT 100) (a b:Int) (c:tq5):LF D n 100 pq1 (m+1) (qhh a b c) K=qws D n (fun a b c=>LF D n 100 pq1 m (qhh a b c) K) (fun d e f=>K (Ex.ret) (qma d e f)) (fun g h=>K (Ex.exit 2) (ql6 g h)) (fun i j k o p=>LF D n 100 pq14 n (qxt i j k o p) (CF D n 100 [.r,.r,.r,.l,.r,.l,.l] [.r,.l,.l,.r,.r,.r,.l] (KF D n 100 pq1 m K))) a b c:=by kernel_rfl
theorem q5s (D:DX)(n:Nat) (K:KT 100):∀ (m:Nat) (a b:Int) (c:tq5),LF D n 100 pq1 m (qhh a b c) K=qji D n (fun d e f=>K (Ex.ret) (qma d e f)) (fun g h=>K (Ex.exit 2) (ql6 g h)) m a b c
 | 0,a,b,c=>q7 ..
 | m+1,a,b,c=>by
  have ih:(fun a b c=>LF D n 100 pq1 m (qhh a b c) K)=qji D n (fun d e f=>K (Ex.ret) (qma d e f)) (fun g h=>K (Ex.exit 2) (ql6 g h)) m:=by funext a b c;exact q5s D n K m a b c
  rw[qbhx]
  simp only[qbfl]
  rw[ih];rfl
theorem qbfe (D:DX)(n:Nat) (a b:Int) (c:tq5):LF D n 100 pq1 n (qhh a b c) (CF D n 100 [] pq1 (lF 100))=qu3 D n a b c :=by rw[q5s];kernel_rfl
theorem qbfx (D:DX)(n:Nat) (a:Bool) (b:Int) (c:tq5):(CF D n 100 [] pq0 (lF 100)) (Ex.ret) (qsc a b c)=q3i D n a b c:=by kernel_rfl
theorem qbgm (D:DX)(n:Nat) (a:Int) (b:tq5):(CF D n 100 [] pq0 (lF 100)) (Ex.exit 0) (qtf a b)=qsq D n (fun c d e=>LF D n 100 pq1 n (qhh c d e) (CF D n 100 [] pq1 (lF 100))) a b:=by kernel_rfl
theorem qbfr (D:DX)(n:Nat) (x0) (x1) (x2):LF D n 100 pq0 n (qw5 x0 x1 x2) (CF D n 100 [] pq0 (lF 100))=qud D n x0 x1 x2:=by
 rw[qbhn]
 simp only[qbfx,qbgm,qbfe]
 rfl
theorem qbmh (D:DX)(n:Nat) (a0:tq5):rF D n 100 (a0,())=qzn D n a0:=by
 have h:rF D n 100 (a0,())=qz4 D n (fun x0 x1 x2=>LF D n 100 pq0 n (qw5 x0 x1 x2) (CF D n 100 [] pq0 (lF 100))) a0:=by kernel_rfl
 rw[h]
 simp only[qbfr]
 rfl

def qva (D:DX)(n:Nat) (go:Int→Int→tq13→Option tq41) (K0:Int→Bool→tq13→Option tq41) (K1:Int→tq13→Option tq41) (x0 x1:Int) (x2:tq13):Option tq41:=br (decide (x1<(x2.1.length:Int))) (br (decide (0≤x1)&&decide (x1<(x2.1.length:Int))) (qd (q0u D (List.getD x2.1 x1.toNat (0,0,0,()))) fun b↦br (!b.1.1) (K0 x0 false x2) (go x0 (wrap .i64 (x1+1)) x2)) none) (K1 x0 x2)
def qkp (D:DX)(n:Nat) (K0:Int→Bool→tq13→Option tq41) (K1:Int→tq13→Option tq41):Nat→Int→Int→tq13→Option tq41 | 0=>(fun x0 x1 x2=>none) | m+1=>(fun x0 x1 x2=>qva D n (qkp D n K0 K1 m) K0 K1 x0 x1 x2)
def q1h (D:DX)(n:Nat) (b:Int) (a:Bool) (c:tq13):Option tq41:=some ((a,()),())
def qu1 (D:DX)(n:Nat) (go:Int→Int→tq13→Option tq41) (K0:Int→Bool→tq13→Option tq41) (K1:Int→tq13→Option tq41) (d c:Int) (a:tq13):Option tq41:=br (decide (c<(a.2.2.2.1.length:Int))) (br (decide (0≤c)&&decide (c<(a.2.2.2.1.length:Int))) (qd (qbo D (List.getD a.2.2.2.1 c.toNat (0,0,())).1 0 19) fun b↦br (!b.1.1) (K0 d false a) (br (decide (0≤c)&&decide (c<(a.2.2.2.1.length:Int))) (qd (qbo D (List.getD a.2.2.2.1 c.toNat (0,0,())).2.1 0 1000) fun b↦br (!b.1.1) (K0 d false a) (go d (wrap .i64 (c+1)) a)) none)) none) (K1 d a)
def qn8 (D:DX)(n:Nat) (K0:Int→Bool→tq13→Option tq41) (K1:Int→tq13→Option tq41):Nat→Int→Int→tq13→Option tq41 | 0=>(fun a b c=>none) | m+1=>(fun a b c=>qu1 D n (qn8 D n K0 K1 m) K0 K1 a b c)
def q06 (D:DX)(n:Nat) (b:Int) (a:Bool) (c:tq13):Option tq41:=some ((a,()),())
def qu0 (D:DX)(n:Nat) (go:Int→Int→tq13→Option tq41) (K0:Bool→Option tq41) (K1:Option tq41) (d a:Int) (c:tq13):Option tq41:=let y0:=List.getD c.2.2.2.2.1 a.toNat (0,0,0,0,());br (decide (a<(c.2.2.2.2.1.length:Int))) (br (decide (0≤a)&&decide (a<(c.2.2.2.2.1.length:Int))) (br (bif decide (y0.1<0) then true else decide (y0.1≥d)) (K0 false) (qd (qbo D y0.2.1 1 1000000) fun b↦br (!b.1.1) (K0 false) (qd (qbo D y0.2.2.1 0 20) fun b↦br (!b.1.1) (K0 false) (qd (qbo D y0.2.2.2.1 0 20) fun b↦br (!b.1.1) (K0 false) (go d (wrap .i64 (a+1)) c))))) none) K1
def qnr (D:DX)(n:Nat) (K0:Bool→Option tq41) (K1:Option tq41):Nat→Int→Int→tq13→Option tq41 | 0=>(fun a b c=>none) | m+1=>(fun a b c=>qu0 D n (qnr D n K0 K1 m) K0 K1 a b c)
def qbc2 (D:DX)(n:Nat) (a:Bool):Option tq41:=some ((a,()),())
def qbd3 (D:DX)(n:Nat):Option tq41:=some ((true,()),())
def qsb (D:DX)(n:Nat):(Int)→(Int)→tq13→Option tq41:=(fun a b d=>qnr D n (fun c=>qbc2 D n c) (qbd3 D n) n a b d)
def qqf (D:DX)(n:Nat) (lp2:Int→Int→tq13→Option tq41) (a:Int) (b:tq13):Option tq41:=lp2 a 0 b
def qs8 (D:DX)(n:Nat):(Int)→(Int)→tq13→Option tq41:=(fun a b h=>qn8 D n (fun c d e=>q06 D n c d e) (fun f g=>qqf D n (qsb D n) f g) n a b h)
def qq3 (D:DX)(n:Nat) (lp1:Int→Int→tq13→Option tq41) (a:Int) (b:tq13):Option tq41:=lp1 a 0 b
def qs4 (D:DX)(n:Nat):(Int)→(Int)→tq13→Option tq41:=(fun x0 x1 x2=>qkp D n (fun a b c=>q1h D n a b c) (fun d e=>qq3 D n (qs8 D n) d e) n x0 x1 x2)
def qxi (D:DX)(n:Nat) (lp0:Int→Int→tq13→Option tq41) (a0:tq13) (a1:Int):Option tq41:=br (decide ((a0.1.length:Int)>8)) (some ((false,()),())) (qd (qbo D a0.2.1 0 (a0.1.length:Int)) fun b↦br (bif !b.1.1 then true else bif a0.2.2.1 then decide (a0.2.1≥(a0.1.length:Int)) else false) (some ((false,()),())) (br (!a0.2.2.1) (br (bif bif decide (wrap .i64 ((a0.2.2.2.1.length:Int)+(a0.2.2.2.2.1.length:Int))>0) then true else decide ((a0.2.2.2.1.length:Int)>12) then true else decide ((a0.2.2.2.2.1.length:Int)>2)) (some ((false,()),())) (lp0 a1 0 a0)) (br (bif bif false then true else decide ((a0.2.2.2.1.length:Int)>12) then true else decide ((a0.2.2.2.2.1.length:Int)>2)) (some ((false,()),())) (lp0 a1 0 a0))))
def qwh (D:DX)(n:Nat) (a0:tq13) (a1:Int):Option tq41:=qxi D n (qs4 D n) a0 a1
def quy (x0 x1:Int) (x2:tq13):St:=stq 139 [(1,AV.val yq34 x0),(2,AV.addr 2 []),(5,AV.val yq34 x1)] [(2,Root.mk yq5 Mk.no x2 true)]
def qqr (a:Int) (b:Bool) (c:tq13):St:=stq 139 [(1,AV.val yq34 a),(2,AV.addr 2 []),(4,AV.val Ty.bool b)] [(2,Root.mk yq5 Mk.no c true)]
def qrf (a:Int) (b:tq13):St:=stq 139 [(1,AV.val yq34 a),(2,AV.addr 2 [])] [(2,Root.mk yq5 Mk.no b true)]
def quv (a b:Int) (c:tq13):St:=stq 139 [(1,AV.val yq34 a),(2,AV.addr 2 []),(6,AV.val yq34 b)] [(2,Root.mk yq5 Mk.no c true)]
def qrb (a:Int) (b:Bool) (c:tq13):St:=stq 139 [(1,AV.val yq34 a),(2,AV.addr 2 []),(4,AV.val Ty.bool b)] [(2,Root.mk yq5 Mk.no c true)]
def qqb (a:Int) (b:tq13):St:=stq 139 [(1,AV.val yq34 a),(2,AV.addr 2 [])] [(2,Root.mk yq5 Mk.no b true)]
def qu6 (a b:Int) (c:tq13):St:=stq 139 [(1,AV.val yq34 a),(2,AV.addr 2 []),(7,AV.val yq34 b)] [(2,Root.mk yq5 Mk.no c true)]
def q1l (a:Bool):St:=stq 139 [(4,AV.val Ty.bool a)] []
def q08:St:=stq 139 [] []
theorem qbfi (D:DX)(n:Nat) (K:KT 101):∀ (m:Nat) (x0 x1:Int) (x2:tq13),LF D n 101 pq0 m (quy x0 x1 x2) K=qkp D n (fun a b c=>K (Ex.ret) (qqr a b c)) (fun d e=>K (Ex.exit 0) (qrf d e)) m x0 x1 x2:=eL3 (fun F=>qva D n F (fun a b c=>K (Ex.ret) (qqr a b c)) (fun d e=>K (Ex.exit 0) (qrf d e))) (fun _ _ _ =>q7 ..) (fun _ _ _ _ =>by kernel_rfl) (fun _ _ _ _ =>rfl)
theorem qbgd (D:DX)(n:Nat) (K:KT 101):∀ (m:Nat) (f g:Int) (h:tq13),LF D n 101 pq1 m (quv f g h) K=qn8 D n (fun a b c=>K (Ex.ret) (qrb a b c)) (fun d e=>K (Ex.exit 2) (qqb d e)) m f g h:=eL3 (fun F=>qu1 D n F (fun a b c=>K (Ex.ret) (qrb a b c)) (fun d e=>K (Ex.exit 2) (qqb d e))) (fun _ _ _ =>q7 ..) (fun _ _ _ _ =>by kernel_rfl) (fun _ _ _ _ =>rfl)
theorem qbf7 (D:DX)(n:Nat) (K:KT 101):∀ (m:Nat) (b c:Int) (d:tq13),LF D n 101 pq3 m (qu6 b c d) K=qnr D n (fun a=>K (Ex.ret) (q1l a)) (K (Ex.exit 4) (q08)) m b c d:=eL3 (fun F=>qu0 D n F (fun a=>K (Ex.ret) (q1l a)) (K (Ex.exit 4) (q08))) (fun _ _ _ =>q7 ..) (fun _ _ _ _ =>by kernel_rfl) (fun _ _ _ _ =>rfl)
theorem qbd2 (D:DX)(n:Nat) (a b:Int) (c:tq13):LF D n 101 pq3 n (qu6 a b c) (CF D n 101 [] pq3 (lF 101))=qsb D n a b c :=by rw[qbf7];kernel_rfl
theorem qbc8 (D:DX)(n:Nat) (a:Int) (b:Bool) (c:tq13):(CF D n 101 [] pq1 (lF 101)) (Ex.ret) (qrb a b c)=q06 D n a b c:=by kernel_rfl
theorem qbdr (D:DX)(n:Nat) (a:Int) (b:tq13):(CF D n 101 [] pq1 (lF 101)) (Ex.exit 2) (qqb a b)=qqf D n (fun c d e=>LF D n 101 pq3 n (qu6 c d e) (CF D n 101 [] pq3 (lF 101))) a b:=by kernel_rfl
theorem qbdt (D:DX)(n:Nat) (a b:Int) (c:tq13):LF D n 101 pq1 n (quv a b c) (CF D n 101 [] pq1 (lF 101))=qs8 D n a b c:=by
 rw[qbgd]
 simp only[qbc8,qbdr,qbd2]
 rfl
theorem qbd9 (D:DX)(n:Nat) (a:Int) (b:Bool) (c:tq13):(CF D n 101 [] pq0 (lF 101)) (Ex.ret) (qqr a b c)=q1h D n a b c:=by kernel_rfl
theorem qbd0 (D:DX)(n:Nat) (a:Int) (b:tq13):(CF D n 101 [] pq0 (lF 101)) (Ex.exit 0) (qrf a b)=qq3 D n (fun c d e=>LF D n 101 pq1 n (quv c d e) (CF D n 101 [] pq1 (lF 101))) a b:=by kernel_rfl
theorem qbcz (D:DX)(n:Nat) (x0) (x1) (x2):LF D n 101 pq0 n (quy x0 x1 x2) (CF D n 101 [] pq0 (lF 101))=qs4 D n x0 x1 x2:=by
 rw[qbfi]
 simp only[qbd9,qbd0,qbdt]
 rfl
theorem qbju (D:DX)(n:Nat) (a0:tq13) (a1:Int):rF D n 101 (a0,(a1,()))=qwh D n a0 a1:=by
 have h:rF D n 101 (a0,(a1,()))=qxi D n (fun x0 x1 x2=>LF D n 101 pq0 n (quy x0 x1 x2) (CF D n 101 [] pq0 (lF 101))) a0 a1:=by kernel_rfl
 rw[h]
 simp only[qbcz]
 rfl

def qui (D:DX)(n:Nat) (go:Int→Int→Int→Int→tq5→tq13→Option tq41) (K0:Bool→Int→Int→tq5→tq13→Option tq41) (K1:Int→Int→tq5→tq13→Option tq41) (x0 x1 x2 x3:Int) (x4:tq5) (x5:tq13):Option tq41:=let y0:=List.getD x4.2.2.2.1 x3.toNat (0,(0,0,0,()),0,0,0,(0,[],()),());br (decide (x3<(x4.2.2.2.1.length:Int))) (br (decide (0≤x3)&&decide (x3<(x4.2.2.2.1.length:Int))) (br (y0.1 != x0) (go x0 x1 x2 (wrap .i64 (x3+1)) x4 x5) (br (decide (0≤x3)&&decide (x3<(x4.2.2.2.1.length:Int))) (br (decide (y0.2.2.2.2.1≥0)) (go x0 x1 (wrap .i64 (x2+1)) (wrap .i64 (x3+1)) x4 x5) (br (bif !x5.2.2.1 then true else x3 != x1) (K0 false x1 x2 x4 x5) (go x0 x1 x2 (wrap .i64 (x3+1)) x4 x5))) none)) none) (K1 x1 x2 x4 x5)
def qnq (D:DX)(n:Nat) (K0:Bool→Int→Int→tq5→tq13→Option tq41) (K1:Int→Int→tq5→tq13→Option tq41):Nat→Int→Int→Int→Int→tq5→tq13→Option tq41 | 0=>(fun x0 x1 x2 x3 x4 x5=>none) | m+1=>(fun x0 x1 x2 x3 x4 x5=>qui D n (qnq D n K0 K1 m) K0 K1 x0 x1 x2 x3 x4 x5)
def qbdc (D:DX)(n:Nat) (a:Bool) (b c:Int) (d:tq5) (e:tq13):Option tq41:=some ((a,()),())
def q1m (D:DX)(n:Nat) (b d:Int) (c:tq5) (a:tq13):Option tq41:=let y0:=List.getD c.2.2.2.1 b.toNat (0,(0,0,0,()),0,0,0,(0,[],()),());br (d != a.2.1) (some ((false,()),())) (br (!a.2.2.1) (some ((true,()),())) (br (decide (b≥0)) (br (decide (0≤b)&&decide (b<(c.2.2.2.1.length:Int))) (br (decide (y0.2.2.2.2.1 = -1)) (br (decide (0≤b)&&decide (b<(c.2.2.2.1.length:Int))) (br (decide (0≤a.2.1)&&decide (a.2.1<(a.1.length:Int))) (some ((qkr yq21 y0.2.1 (List.getD a.1 a.2.1.toNat (0,0,0,())),()),())) none) none) (some ((false,()),()))) none) (some ((false,()),()))))
def qsz (D:DX)(n:Nat):(Int)→(Int)→(Int)→(Int)→tq5→tq13→Option tq41:=(fun x0 x1 x2 x3 x4 x5=>qnq D n (fun a b c d e=>qbdc D n a b c d e) (fun f g h i=>q1m D n f g h i) n x0 x1 x2 x3 x4 x5)
def qv1 (D:DX)(n:Nat) (lp0:Int→Int→Int→Int→tq5→tq13→Option tq41) (a0:tq5) (a1:Int):Option tq41:=br (decide (0≤a1)&&decide (a1<(a0.2.1.length:Int))) (qd (q1z D a0 a1) fun b↦lp0 a1 b.1.1 0 0 a0 (List.getD a0.2.1 a1.toNat ([],0,false,[],[],()))) none
def qwd (D:DX)(n:Nat) (a0:tq5) (a1:Int):Option tq41:=qv1 D n (qsz D n) a0 a1
def qup (x0 x1 x2 x3:Int) (x4:tq5) (x5:tq13):St:=stq 84 [(1,AV.val yq34 x0),(2,AV.addr 2 []),(5,AV.addr 5 []),(6,AV.val yq34 x1),(7,AV.val yq34 x2),(8,AV.val yq34 x3)] [(2,Root.mk yq0 Mk.no x4 true),(5,Root.mk yq5 Mk.no x5 true)]
def q1b (a:Bool) (b c:Int) (d:tq5) (e:tq13):St:=stq 84 [(2,AV.addr 2 []),(4,AV.val Ty.bool a),(5,AV.addr 5 []),(6,AV.val yq34 b),(7,AV.val yq34 c)] [(2,Root.mk yq0 Mk.no d true),(5,Root.mk yq5 Mk.no e true)]
def q01 (a b:Int) (c:tq5) (d:tq13):St:=stq 84 [(2,AV.addr 2 []),(5,AV.addr 5 []),(6,AV.val yq34 a),(7,AV.val yq34 b)] [(2,Root.mk yq0 Mk.no c true),(5,Root.mk yq5 Mk.no d true)]
theorem qbgg (D:DX)(n:Nat) (K:KT 102):∀ (m:Nat) (x0 x1 x2 x3:Int) (x4:tq5) (x5:tq13),LF D n 102 pq3 m (qup x0 x1 x2 x3 x4 x5) K=qnq D n (fun a b c d e=>K (Ex.ret) (q1b a b c d e)) (fun f g h i=>K (Ex.exit 0) (q01 f g h i)) m x0 x1 x2 x3 x4 x5:=eL6 (fun F=>qui D n F (fun a b c d e=>K (Ex.ret) (q1b a b c d e)) (fun f g h i=>K (Ex.exit 0) (q01 f g h i))) (fun _ _ _ _ _ _ =>q7 ..) (fun _ _ _ _ _ _ _ =>by kernel_rfl) (fun _ _ _ _ _ _ _ =>rfl)
theorem qbde (D:DX)(n:Nat) (x0) (x1) (x2) (x3) (x4) (x5):LF D n 102 pq3 n (qup x0 x1 x2 x3 x4 x5) (CF D n 102 [] pq3 (lF 102))=qsz D n x0 x1 x2 x3 x4 x5 :=by rw[qbgg];kernel_rfl
theorem qblf (D:DX)(n:Nat) (a0:tq5) (a1:Int):rF D n 102 (a0,(a1,()))=qwd D n a0 a1:=by
 have h:rF D n 102 (a0,(a1,()))=qv1 D n (fun x0 x1 x2 x3 x4 x5=>LF D n 102 pq3 n (qup x0 x1 x2 x3 x4 x5) (CF D n 102 [] pq3 (lF 102))) a0 a1:=by kernel_rfl
 rw[h]
 simp only[qbde]
 rfl

def qw4 (D:DX)(n:Nat) (go:List tq18→Int→Int→tq12→tq12→Option tq10) (K0:tq12→tq12→Option tq10) (x0:List tq18) (x1 x2:Int) (x3 x4:tq12):Option tq10:=br (decide (x2<x1)) (br (decide (0≤x2)&&decide (x2<(x0.length:Int))) (qd (qc6 D (List.getD x0 x2.toNat (0,0,[],(0,[],()),())).2.2.1) fun b↦qd (qih D (List.getD x0 x2.toNat (0,0,[],(0,[],()),())).2.2.2.1) fun b_1↦br (decide (x4.2.1.length+1≤qb7)) (go x0 x1 (wrap .i64 (x2+1)) x3 (x4.1,x4.2.1++[((List.getD x0 x2.toNat (0,0,[],(0,[],()),())).1,(List.getD x0 x2.toNat (0,0,[],(0,[],()),())).2.1,b.1.1,(b_1.1.1.1,b_1.1.1.2.1,()),())],x4.2.2)) none) none) (K0 x3 x4)
def qle (D:DX)(n:Nat) (K0:tq12→tq12→Option tq10):Nat→(List tq18)→Int→Int→tq12→tq12→Option tq10 | 0=>(fun x0 x1 x2 x3 x4=>none) | m+1=>(fun x0 x1 x2 x3 x4=>qw4 D n (qle D n K0 m) K0 x0 x1 x2 x3 x4)
def qbgj (D:DX)(n:Nat) (b a:tq12):Option tq10:=some (((a.1,a.2.1,()),()),())
def qu7 (D:DX)(n:Nat):(List tq18)→(Int)→(Int)→tq12→tq12→Option tq10:=(fun x0 x1 x2 x3 x4=>qle D n (fun a b=>qbgj D n a b) n x0 x1 x2 x3 x4)
def qyg (D:DX)(n:Nat) (lp0:List tq18→Int→Int→tq12→tq12→Option tq10) (a0:tq12):Option tq10:=qd (qf1 D a0.1) fun b↦lp0 a0.2.1 (a0.2.1.length:Int) 0 ([],[],()) (b.1.1,[],())
def qzk (D:DX)(n:Nat) (a0:tq12):Option tq10:=qyg D n (qu7 D n) a0
def qwl (x0:List tq18) (x1 x2:Int) (x3 x4:tq12):St:=stq 33 [(2,AV.addr 2 []),(3,AV.addr 3 []),(11,AV.val yq8 x0),(12,AV.val yq34 x1),(13,AV.val yq34 x2)] [(2,Root.mk yq3 kq14 x3 true),(3,Root.mk yq3 kq14 x4 true)]
def q3b (a b:tq12):St:=stq 33 [(2,AV.addr 2 []),(3,AV.addr 3 [])] [(2,Root.mk yq3 kq14 a true),(3,Root.mk yq3 kq14 b true)]
theorem qbic (D:DX)(n:Nat) (K:KT 103):∀ (m:Nat) (x0:List tq18) (x1 x2:Int) (x3 x4:tq12),LF D n 103 pq0 m (qwl x0 x1 x2 x3 x4) K=qle D n (fun a b=>K (Ex.exit 0) (q3b a b)) m x0 x1 x2 x3 x4:=eL5 (fun F=>qw4 D n F (fun a b=>K (Ex.exit 0) (q3b a b))) (fun _ _ _ _ _ =>q7 ..) (fun _ _ _ _ _ _ =>by kernel_rfl) (fun _ _ _ _ _ _ =>rfl)
theorem qbgo (D:DX)(n:Nat) (x0) (x1) (x2) (x3) (x4):LF D n 103 pq0 n (qwl x0 x1 x2 x3 x4) (CF D n 103 [] pq0 (lF 103))=qu7 D n x0 x1 x2 x3 x4 :=by rw[qbic];kernel_rfl
theorem qbm6 (D:DX)(n:Nat) (a0:tq12):rF D n 103 (a0,())=qzk D n a0:=by
 have h:rF D n 103 (a0,())=qyg D n (fun x0 x1 x2 x3 x4=>LF D n 103 pq0 n (qwl x0 x1 x2 x3 x4) (CF D n 103 [] pq0 (lF 103))) a0:=by kernel_rfl
 rw[h]
 simp only[qbgo]
 rfl

def q3e (D:DX)(n:Nat) (a0:tq13):Option tq11:=qd (qe3 D a0.1) fun b↦qd (qf8 D a0.2.2.2.1) fun b_1↦qd (qf9 D a0.2.2.2.2.1) fun b_2↦some (((b.1.1,a0.2.1,a0.2.2.1,b_1.1.1,b_2.1.1,()),()),())
def qsn (D:DX)(n:Nat) (a0:tq13):Option tq11:=q3e D n a0
theorem qbf6 (D:DX)(n:Nat) (a0:tq13):rF D n 104 (a0,())=qsn D n a0:=by kernel_rfl

def qvp (D:DX)(n:Nat) (a0:tq5) (a1:Int):Option tq4:=let y0:=List.getD a0.2.1 a1.toNat ([],0,false,[],[],());br (decide (0≤a1)&&decide (a1<(a0.2.1.length:Int))) (qd (qbbg D y0) fun b↦qd (q13 D (a0.1.1,a0.1.2.1,()) b.1.1) fun b_1↦br (decide (b_1.1.2.2.2.1=1)) (br (bif decide (b.1.1.1=a1) then decide ((y0.2.2.2.2.1.length:Int)=1) else false) (qd (qow D y0 b_1.1.2.2.1) fun b↦br (decide (0≤a1)&&decide (a1<(a0.2.1.length:Int))) (some ((),((b_1.1.1.1,b_1.1.1.2.1,()),List.set a0.2.1 a1.toNat (b.1.1.1,b.1.1.2.1,b.1.1.2.2.1,b.1.1.2.2.2.1,b.1.1.2.2.2.2.1,()),a0.2.2),())) none) (qd (qts D y0 b_1.1.2.2.1) fun b↦br (decide (0≤a1)&&decide (a1<(a0.2.1.length:Int))) (some ((),((b_1.1.1.1,b_1.1.1.2.1,()),List.set a0.2.1 a1.toNat (b.1.1.1,b.1.1.2.1,b.1.1.2.2.1,b.1.1.2.2.2.1,b.1.1.2.2.2.2.1,()),a0.2.2),())) none)) (br (decide (b_1.1.2.2.2.1=2)) (qd (qbak D y0) fun b_2↦let c:=List.set a0.2.1 a1.toNat (b_2.1.1.1,b_2.1.1.2.1,b_2.1.1.2.2.1,b_2.1.1.2.2.2.1,b_2.1.1.2.2.2.2.1,());let a:=List.getD c a1.toNat ([],0,false,[],[],());let e:=List.set c a1.toNat (a.1,a.2.1,a.2.2.1,a.2.2.2.1,[],a.2.2.2.2.2);let d:=List.getD e a1.toNat ([],0,false,[],[],());let f:=List.getD b_1.1.1.2.1 a1.toNat (0,0,[],(0,[],()),());br (decide (0≤a1)&&decide (a1<(a0.2.1.length:Int))) (br (b.1.1.1 != a1) (some ((),((b_1.1.1.1,b_1.1.1.2.1,()),List.set a0.2.1 a1.toNat (b_2.1.1.1,b_2.1.1.2.1,b_2.1.1.2.2.1,b_2.1.1.2.2.2.1,b_2.1.1.2.2.2.2.1,()),a0.2.2),())) (br (decide (0≤a1)&&decide (a1<(c.length:Int))) (br (decide (0≤a1)&&decide (a1<(b_1.1.1.2.1.length:Int))) (br (decide (f.2.1=2)) (qd (qi6 D ((b_1.1.1.1,b_1.1.1.2.1,()),List.set c a1.toNat (a.1,a.2.1,a.2.2.1,a.2.2.2.1,[],a.2.2.2.2.2),a0.2.2) a1 f.2.2.2.1) fun b↦some ((),b.2.1,())) (br (decide (0≤a1)&&decide (a1<(e.length:Int))) (some ((),((b_1.1.1.1,b_1.1.1.2.1,()),List.set e a1.toNat (d.1,d.2.1,d.2.2.1,[],d.2.2.2.2),a0.2.2),())) none)) none) none)) none) (br (decide (b_1.1.2.2.2.1=3)) (br (decide (0≤b.1.1.1)&&decide (b.1.1.1<(b_1.1.1.2.1.length:Int))) (qd (qjp D ((b_1.1.1.1,b_1.1.1.2.1,()),a0.2) b.1.1.1 (List.getD b_1.1.1.2.1 b.1.1.1.toNat (0,0,[],(0,[],()),())).2.2.2.1) fun b↦qd (qts D y0 b_1.1.2.1) fun b_2↦br (decide (0≤a1)&&decide (a1<(b.2.1.2.1.length:Int))) (some ((),(b.2.1.1,List.set b.2.1.2.1 a1.toNat (b_2.1.1.1,b_2.1.1.2.1,b_2.1.1.2.2.1,b_2.1.1.2.2.2.1,b_2.1.1.2.2.2.2.1,()),b.2.1.2.2),())) none) none) (qd (qts D y0 b_1.1.2.1) fun b↦br (decide (0≤a1)&&decide (a1<(a0.2.1.length:Int))) (some ((),((b_1.1.1.1,b_1.1.1.2.1,()),List.set a0.2.1 a1.toNat (b.1.1.1,b.1.1.2.1,b.1.1.2.2.1,b.1.1.2.2.2.1,b.1.1.2.2.2.2.1,()),a0.2.2),())) none)))) none
def qmu (D:DX)(n:Nat) (a0:tq5) (a1:Int):Option tq4:=qvp D n a0 a1
theorem q86 (D:DX)(n:Nat) (a0:tq5) (a1:Int):rF D n 105 (a0,(a1,()))=qmu D n a0 a1:=by kernel_rfl

def qx9 (D:DX)(n:Nat) (a0:tq5) (a1:Int):Option tq1:=let y1:=List.getD a0.2.1 a1.toNat ([],0,false,[],[],());let y0:=List.set a0.2.1 a1.toNat (y1.1,y1.2.1,y1.2.2.1,y1.2.2.2.1,y1.2.2.2.2);let y2:=List.getD y0 a1.toNat ([],0,false,[],[],());let y3:=List.getD y1.1 (Int.toNat y1.2.1) (0,0,0,());br (decide (0≤a1)&&decide (a1<(a0.2.1.length:Int))) (br (decide (0≤y1.2.1)&&decide (y1.2.1<(y1.1.length:Int))) (qd (q8d D y3 y1.2.2.2.1) fun b↦br (decide (b.1.1≥0)) (br (decide (0≤b.1.1)&&decide (b.1.1<(a0.1.1.length:Int))) (br ((List.getD a0.1.1 b.1.1.toNat (0,0,0,())).2.1 != 0) (qd (qow D (y1.1,y1.2.1,y1.2.2.1,y1.2.2.2.1,y1.2.2.2.2) (wrap .i64 ((List.getD a0.1.1 b.1.1.toNat (0,0,0,())).2.1 - 1),(List.getD a0.1.1 b.1.1.toNat (0,0,0,())).2.2.1,0,0,())) fun b↦some ((true,()),(a0.1,List.set a0.2.1 a1.toNat (b.1.1.1,b.1.1.2.1,b.1.1.2.2.1,b.1.1.2.2.2.1,b.1.1.2.2.2.2.1,()),a0.2.2),())) (br (decide (y1.2.2.2.1.length+1≤qb7)) (qd (qt6 D y3 (List.getD (List.set y0 a1.toNat (y2.1,y2.2.1,y2.2.2.1,y1.2.2.2.1++[(b.1.1,(List.getD a0.1.1 b.1.1.toNat (0,0,0,())).1,())],y2.2.2.2.2)) a1.toNat ([],0,false,[],[],())).2.2.2.1) fun b_1↦br (!b_1.1.2.1) (some ((true,()),(a0.1,List.set y0 a1.toNat (y2.1,y2.2.1,y2.2.2.1,y1.2.2.2.1++[(b.1.1,(List.getD a0.1.1 b.1.1.toNat (0,0,0,())).1,())],y2.2.2.2.2),a0.2.2),())) (br b_1.1.1.1 (qd (qjp D (a0.1,List.set y0 a1.toNat (y2.1,y2.2.1,y2.2.2.1,y1.2.2.2.1++[(b.1.1,(List.getD a0.1.1 b.1.1.toNat (0,0,0,())).1,())],y2.2.2.2.2),a0.2.2) a1 (b_1.1.1.2.1.1,b_1.1.1.2.1.2.1,())) fun b↦qd (qi6 D b.2.1 a1 (b_1.1.1.2.1.1,b_1.1.1.2.1.2.1,())) fun b↦some ((true,()),b.2.1,())) (qd (qwx D (a0.1.1,a0.1.2.1,()) a1 b_1.1.1.2.2.1 (b_1.1.1.2.1.1,b_1.1.1.2.1.2.1,())) fun b_2↦let a:=List.set y0 a1.toNat (y2.1,y2.2.1,y2.2.2.1,y1.2.2.2.1++[(b.1.1,(List.getD a0.1.1 b.1.1.toNat (0,0,0,())).1,())],y2.2.2.2.2);br b_2.1.2.2.1 (qd (qow D (List.getD a a1.toNat ([],0,false,[],[],())) b_2.1.2.1) fun b_3↦some ((b_2.1.2.2.1,()),((b_2.1.1.1,b_2.1.1.2.1,()),List.set a a1.toNat (b_3.1.1.1,b_3.1.1.2.1,b_3.1.1.2.2.1,b_3.1.1.2.2.2.1,b_3.1.1.2.2.2.2.1,()),a0.2.2),())) none))) none)) none) (qd (qt6 D y3 y1.2.2.2.1) fun b↦br (!b.1.2.1) (some ((true,()),a0,())) (br b.1.1.1 (qd (qjp D a0 a1 (b.1.1.2.1.1,b.1.1.2.1.2.1,())) fun b_1↦qd (qi6 D b_1.2.1 a1 (b.1.1.2.1.1,b.1.1.2.1.2.1,())) fun b↦some ((true,()),b.2.1,())) (qd (qwx D (a0.1.1,a0.1.2.1,()) a1 b.1.1.2.2.1 (b.1.1.2.1.1,b.1.1.2.1.2.1,())) fun b↦br b.1.2.2.1 (qd (qow D (y1.1,y1.2.1,y1.2.2.1,y1.2.2.2.1,y1.2.2.2.2) b.1.2.1) fun b_1↦some ((b.1.2.2.1,()),((b.1.1.1,b.1.1.2.1,()),List.set a0.2.1 a1.toNat (b_1.1.1.1,b_1.1.1.2.1,b_1.1.1.2.2.1,b_1.1.1.2.2.2.1,b_1.1.1.2.2.2.2.1,()),a0.2.2),())) none)))) none) none
def qpj (D:DX)(n:Nat) (a0:tq5) (a1:Int):Option tq1:=qx9 D n a0 a1
theorem qbch (D:DX)(n:Nat) (a0:tq5) (a1:Int):rF D n 106 (a0,(a1,()))=qpj D n a0 a1:=by kernel_rfl

def qxc (D:DX)(n:Nat) (go:Int→List tq37→Int→Int→tq37→Option tq26) (K0:Bool→tq37→Option tq26) (K1:tq37→Option tq26) (x0:Int) (x1:List tq37) (x2 x3:Int) (x4:tq37):Option tq26:=br (decide (x3<x2)) (br (decide (0≤x3)&&decide (x3<(x1.length:Int))) (br (decide ((List.getD x1 x3.toNat (0,0,0,())).1=x0)) (K0 true (List.getD x1 x3.toNat (0,0,0,()))) (go x0 x1 x2 (wrap .i64 (x3+1)) x4)) none) (K1 x4)
def qlo (D:DX)(n:Nat) (K0:Bool→tq37→Option tq26) (K1:tq37→Option tq26):Nat→Int→(List tq37)→Int→Int→tq37→Option tq26 | 0=>(fun x0 x1 x2 x3 x4=>none) | m+1=>(fun x0 x1 x2 x3 x4=>qxc D n (qlo D n K0 K1 m) K0 K1 x0 x1 x2 x3 x4)
def q33 (D:DX)(n:Nat) (a:Bool) (b:tq37):Option tq26:=some ((b,a,()),())
def q3f (D:DX)(n:Nat) (a:tq37):Option tq26:=some (((0,0,0,()),false,()),())
def qum (D:DX)(n:Nat):(Int)→(List tq37)→(Int)→(Int)→tq37→Option tq26:=(fun x0 x1 x2 x3 x4=>qlo D n (fun a b=>q33 D n a b) (fun c=>q3f D n c) n x0 x1 x2 x3 x4)
def q0b (D:DX)(n:Nat) (lp0:Int→List tq37→Int→Int→tq37→Option tq26) (a0:tq18) (a1:Int):Option tq26:=lp0 a1 a0.2.2.1 (a0.2.2.1.length:Int) 0 (0,0,0,())
def qy7 (D:DX)(n:Nat) (a0:tq18) (a1:Int):Option tq26:=q0b D n (qum D n) a0 a1
def qxq (x0:Int) (x1:List tq37) (x2 x3:Int) (x4:tq37):St:=stq 22 [(1,AV.val yq34 x0),(4,AV.addr 4 []),(9,AV.val yq19 x1),(10,AV.val yq34 x2),(11,AV.val yq34 x3)] [(4,Root.mk yq21 Mk.no x4 true)]
def q3q (a:Bool) (b:tq37):St:=stq 22 [(4,AV.addr 4 []),(5,AV.val Ty.bool a)] [(4,Root.mk yq21 Mk.no b true)]
def q3m (a:tq37):St:=stq 22 [(4,AV.addr 4 [])] [(4,Root.mk yq21 Mk.no a true)]
theorem qbih (D:DX)(n:Nat) (K:KT 107):∀ (m:Nat) (x0:Int) (x1:List tq37) (x2 x3:Int) (x4:tq37),LF D n 107 pq2 m (qxq x0 x1 x2 x3 x4) K=qlo D n (fun a b=>K (Ex.ret) (q3q a b)) (fun c=>K (Ex.exit 0) (q3m c)) m x0 x1 x2 x3 x4:=eL5 (fun F=>qxc D n F (fun a b=>K (Ex.ret) (q3q a b)) (fun c=>K (Ex.exit 0) (q3m c))) (fun _ _ _ _ _ =>q7 ..) (fun _ _ _ _ _ _ =>by kernel_rfl) (fun _ _ _ _ _ _ =>rfl)
theorem qbfs (D:DX)(n:Nat) (x0) (x1) (x2) (x3) (x4):LF D n 107 pq2 n (qxq x0 x1 x2 x3 x4) (CF D n 107 [] pq2 (lF 107))=qum D n x0 x1 x2 x3 x4 :=by rw[qbih];kernel_rfl
theorem qbnp (D:DX)(n:Nat) (a0:tq18) (a1:Int):rF D n 107 (a0,(a1,()))=qy7 D n a0 a1:=by
 have h:rF D n 107 (a0,(a1,()))=q0b D n (fun x0 x1 x2 x3 x4=>LF D n 107 pq2 n (qxq x0 x1 x2 x3 x4) (CF D n 107 [] pq2 (lF 107))) a0 a1:=by kernel_rfl
 rw[h]
 simp only[qbfs]
 rfl


def qhb (D:DX)(n:Nat) (a1:Clo) (a0:List tq18):Option tq41:=qd (qh5 D a0 a1) fun b↦some ((decide (b.1.1≥0),()),())
def qds (D:DX)(n:Nat) (a0:List tq18) (a1:Clo):Option tq41:=qhb D n a1 a0
theorem qm4 (D:DX)(n:Nat) (a0:List tq18) (a1:Clo):rF D n 109 (a0,(a1,()))=qds D n a0 a1:=by kernel_rfl

def q9d (D:DX)(n:Nat) (a0:tq18):Option tq41:=qd (q26 D a0) fun b↦some ((!b.1.1,()),())
def q0p (D:DX)(n:Nat) (a0:tq18):Option tq41:=q9d D n a0
theorem qbme (D:DX)(n:Nat) (a0:tq18):rF D n 110 (a0,())=q0p D n a0:=by kernel_rfl

def qz7 (D:DX)(n:Nat) (go:List tq37→Int→Int→tq18→Option tq41) (K0:Bool→tq18→Option tq41) (K1:tq18→Option tq41) (x0:List tq37) (x1 x2:Int) (x3:tq18):Option tq41:=let y0:=List.getD x0 x2.toNat (0,0,0,());br (decide (x2<x1)) (br (decide (0≤x2)&&decide (x2<(x0.length:Int))) (qd (qrn D y0.1) fun b↦br (!b.1.1) (K0 false x3) (qd (qik D y0.2.1) fun b↦br (!b.1.1) (K0 false x3) (qd (qik D y0.2.2.1) fun b↦br (!b.1.1) (K0 false x3) (br (decide (x2>0)) (br (decide (0≤wrap .i64 (x2 - 1))&&decide (wrap .i64 (x2 - 1)<(x3.2.2.1.length:Int))) (br (decide ((List.getD x3.2.2.1 (Int.toNat (wrap .i64 (x2 - 1))) (0,0,0,())).1≥y0.1)) (K0 false x3) (go x0 x1 (wrap .i64 (x2+1)) x3)) none) (go x0 x1 (wrap .i64 (x2+1)) x3))))) none) (K1 x3)
def qmn (D:DX)(n:Nat) (K0:Bool→tq18→Option tq41) (K1:tq18→Option tq41):Nat→(List tq37)→Int→Int→tq18→Option tq41 | 0=>(fun x0 x1 x2 x3=>none) | m+1=>(fun x0 x1 x2 x3=>qz7 D n (qmn D n K0 K1 m) K0 K1 x0 x1 x2 x3)
def q56 (D:DX)(n:Nat) (a:Bool) (b:tq18):Option tq41:=some ((a,()),())
def qu9 (D:DX)(n:Nat) (a:tq18):Option tq41:=qd (qbp D a.1 1 1000000) fun b↦br b.1.1 (qd (qbp D a.2.1 1 3) fun b↦some ((bif b.1.1 then decide ((a.2.2.1.length:Int)≤20) else false,()),())) (some ((false,()),()))
def qvw (D:DX)(n:Nat):(List tq37)→(Int)→(Int)→tq18→Option tq41:=(fun x0 x1 x2 x3=>qmn D n (fun a b=>q56 D n a b) (fun c=>qu9 D n c) n x0 x1 x2 x3)
def q2v (D:DX)(n:Nat) (lp0:List tq37→Int→Int→tq18→Option tq41) (a0:tq18):Option tq41:=br (decide (a0.1=0)) (some ((bif bif bif decide (a0.2.1=0) then decide ((a0.2.2.1.length:Int)=0) else false then decide (a0.2.2.2.1.1=0) else false then decide ((a0.2.2.2.1.2.1.length:Int)=0) else false,()),())) (lp0 a0.2.2.1 (a0.2.2.1.length:Int) 0 a0)
def q2g (D:DX)(n:Nat) (a0:tq18):Option tq41:=q2v D n (qvw D n) a0
def q0g (x0:List tq37) (x1 x2:Int) (x3:tq18):St:=stq 85 [(1,AV.addr 1 []),(31,AV.val yq19 x0),(32,AV.val yq34 x1),(33,AV.val yq34 x2)] [(1,Root.mk yq9 Mk.no x3 true)]
def q6m (a:Bool) (b:tq18):St:=stq 85 [(1,AV.addr 1 []),(2,AV.val Ty.bool a)] [(1,Root.mk yq9 Mk.no b true)]
def q47 (a:tq18):St:=stq 85 [(1,AV.addr 1 [])] [(1,Root.mk yq9 Mk.no a true)]
theorem qbje (D:DX)(n:Nat) (K:KT 111):∀ (m:Nat) (x0:List tq37) (x1 x2:Int) (x3:tq18),LF D n 111 pq0 m (q0g x0 x1 x2 x3) K=qmn D n (fun a b=>K (Ex.ret) (q6m a b)) (fun c=>K (Ex.exit 0) (q47 c)) m x0 x1 x2 x3:=eL4 (fun F=>qz7 D n F (fun a b=>K (Ex.ret) (q6m a b)) (fun c=>K (Ex.exit 0) (q47 c))) (fun _ _ _ _ =>q7 ..) (fun _ _ _ _ _ =>by kernel_rfl) (fun _ _ _ _ _ =>rfl)
theorem qbhg (D:DX)(n:Nat) (x0) (x1) (x2) (x3):LF D n 111 pq0 n (q0g x0 x1 x2 x3) (CF D n 111 [] pq0 (lF 111))=qvw D n x0 x1 x2 x3 :=by rw[qbje];kernel_rfl
theorem qbpm (D:DX)(n:Nat) (a0:tq18):rF D n 111 (a0,())=q2g D n a0:=by
 have h:rF D n 111 (a0,())=q2v D n (fun x0 x1 x2 x3=>LF D n 111 pq0 n (q0g x0 x1 x2 x3) (CF D n 111 [] pq0 (lF 111))) a0:=by kernel_rfl
 rw[h]
 simp only[qbhg]
 rfl

def qbb1 (D:DX)(n:Nat) (a0:tq37) (a1:Int):Option tq41:=br (decide (a0.2.1=0)) (qd (qik D a0.1) fun b↦some ((bif b.1.1 then decide (a0.2.2.1=0) else false,()),())) (br (decide (a0.1=0)) (qd (qbp D a0.2.1 1 a1) fun b↦br b.1.1 (qd (qbp D a0.2.2.1 1 1000000) fun b↦some ((b.1.1,()),())) (some ((false,()),()))) (some ((false,()),())))
def q2i (D:DX)(n:Nat) (a0:tq37) (a1:Int):Option tq41:=qbb1 D n a0 a1
theorem qbpw (D:DX)(n:Nat) (a0:tq37) (a1:Int):rF D n 112 (a0,(a1,()))=q2i D n a0 a1:=by kernel_rfl

def qel (D:DX)(n:Nat) (a1:Clo) (go:List tq37→Int→Int→Option tq42) (K0:Int→Option tq42) (K1:Option tq42) (x0:List tq37) (x1 x2:Int):Option tq42:=br (decide (x2<x1)) (br (decide (0≤x2)&&decide (x2<(x0.length:Int))) (qd (qbk ctx D a1 [CapV.val yq21 (List.getD x0 x2.toNat (0,0,0,()))] Ty.bool) fun b↦br b (K0 x2) (go x0 x1 (wrap .i64 (x2+1)))) none) K1
def qbz (D:DX)(n:Nat) (a1:Clo) (K0:Int→Option tq42) (K1:Option tq42):Nat→(List tq37)→Int→Int→Option tq42 | 0=>(fun x0 x1 x2=>none) | m+1=>(fun x0 x1 x2=>qel D n a1 (qbz D n a1 K0 K1 m) K0 K1 x0 x1 x2)
def qdr (D:DX)(n:Nat) (a1:Clo) (a:Int):Option tq42:=some ((a,()),())
def qdq (D:DX)(n:Nat) (a1:Clo):Option tq42:=some ((-1,()),())
def qeb (D:DX)(n:Nat) (a1:Clo):(List tq37)→(Int)→(Int)→Option tq42:=(fun x0 x1 x2=>qbz D n a1 (fun a=>qdr D n a1 a) (qdq D n a1) n x0 x1 x2)
def qex (D:DX)(n:Nat) (a1:Clo) (lp0:List tq37→Int→Int→Option tq42) (a0:List tq37):Option tq42:=lp0 a0 (a0.length:Int) 0
def qew (D:DX)(n:Nat) (a0:List tq37) (a1:Clo):Option tq42:=qex D n a1 (qeb D n a1) a0
def qei (a1:Clo) (x0:List tq37) (x1 x2:Int):St:=stq 19 [(0,AV.val yq19 x0),(1,AV.cloV a1),(7,AV.val yq34 x1),(8,AV.val yq34 x2)] []
def qg7 (a1:Clo) (a:Int):St:=stq 19 [(4,AV.val yq34 a)] []
def qg4 (a1:Clo):St:=stq 19 [] []
theorem qno (D:DX)(n:Nat) (a1:Clo) (K:KT 113):∀ (m:Nat) (x0:List tq37) (x1 x2:Int),LF D n 113 pq2 m (qei a1 x0 x1 x2) K=qbz D n a1 (fun a=>K (Ex.ret) (qg7 a1 a)) (K (Ex.exit 0) (qg4 a1)) m x0 x1 x2:=eL3 (fun F=>qel D n a1 F (fun a=>K (Ex.ret) (qg7 a1 a)) (K (Ex.exit 0) (qg4 a1))) (fun _ _ _ =>q7 ..) (fun _ _ _ _ =>by kernel_rfl) (fun _ _ _ _ =>rfl)
theorem qm9 (D:DX)(n:Nat) (a1:Clo) (x0) (x1) (x2):LF D n 113 pq2 n (qei a1 x0 x1 x2) (CF D n 113 [] pq2 (lF 113))=qeb D n a1 x0 x1 x2 :=by rw[qno];kernel_rfl
theorem qpr (D:DX)(n:Nat) (a0:List tq37) (a1:Clo):rF D n 113 (a0,(a1,()))=qew D n a0 a1:=by
 have h:rF D n 113 (a0,(a1,()))=qex D n a1 (fun x0 x1 x2=>LF D n 113 pq2 n (qei a1 x0 x1 x2) (CF D n 113 [] pq2 (lF 113))) a0:=by kernel_rfl
 rw[h]
 simp only[qm9]
 rfl

def qpy (D:DX)(n:Nat) (a0:List Int) (a1:Int):Option tq41:=qd (qlx D a0 a1) fun b↦some ((decide (b.1.1≥0),()),())
def qjx (D:DX)(n:Nat) (a0:List Int) (a1:Int):Option tq41:=qpy D n a0 a1
theorem q4h (D:DX)(n:Nat) (a0:List Int) (a1:Int):rF D n 114 (a0,(a1,()))=qjx D n a0 a1:=by kernel_rfl

def q83 (D:DX)(n:Nat) (a0:Int):Option tq42:=qd (qro D a0) fun b↦qd (qk5 D b.1.1 (wrap .i64 (10+a0))) fun b↦some ((b.1.1,()),())
def qz0 (D:DX)(n:Nat) (a0:Int):Option tq42:=q83 D n a0
theorem qbn0 (D:DX)(n:Nat) (a0:Int):rF D n 115 (a0,())=qz0 D n a0:=by kernel_rfl



def qbed (D:DX)(n:Nat) (a0:Int):Option tq41:=qd (qbp D a0 0 3) fun b↦some ((b.1.1,()),())
def q45 (D:DX)(n:Nat) (a0:Int):Option tq41:=qbed D n a0
theorem qbrf (D:DX)(n:Nat) (a0:Int):rF D n 118 (a0,())=q45 D n a0:=by kernel_rfl

def q96 (D:DX)(n:Nat) (a0:Int):Option tq41:=qd (qbp D a0 0 2) fun b↦some ((b.1.1,()),())
def qy8 (D:DX)(n:Nat) (a0:Int):Option tq41:=q96 D n a0
theorem qbm8 (D:DX)(n:Nat) (a0:Int):rF D n 119 (a0,())=qy8 D n a0:=by kernel_rfl

def qio (D:DX)(n:Nat) (a1:Clo) (a0:List tq37):Option tq41:=qd (qjw D a0 a1) fun b↦some ((decide (b.1.1≥0),()),())
def qe9 (D:DX)(n:Nat) (a0:List tq37) (a1:Clo):Option tq41:=qio D n a1 a0
theorem qp5 (D:DX)(n:Nat) (a0:List tq37) (a1:Clo):rF D n 120 (a0,(a1,()))=qe9 D n a0 a1:=by kernel_rfl

def q3s (D:DX)(n:Nat) (a0:tq37):Option tq41:=qd (qlw D a0) fun b↦some ((!b.1.1,()),())
def qsa (D:DX)(n:Nat) (a0:tq37):Option tq41:=q3s D n a0
theorem qbfk (D:DX)(n:Nat) (a0:tq37):rF D n 121 (a0,())=qsa D n a0:=by kernel_rfl

def qg9 (D:DX)(n:Nat) (a1:Clo) (a0:List tq43):Option tq41:=qd (qh6 D a0 a1) fun b↦some ((decide (b.1.1≥0),()),())
def qd2 (D:DX)(n:Nat) (a0:List tq43) (a1:Clo):Option tq41:=qg9 D n a1 a0
theorem qm7 (D:DX)(n:Nat) (a0:List tq43) (a1:Clo):rF D n 122 (a0,(a1,()))=qd2 D n a0 a1:=by kernel_rfl

def q3g (D:DX)(n:Nat) (a0:tq43):Option tq41:=qd (qrn D a0.1) fun b↦br (!b.1.1) (some ((true,()),())) (qd (qik D a0.2.1) fun b↦some ((!b.1.1,()),()))
def qsr (D:DX)(n:Nat) (a0:tq43):Option tq41:=q3g D n a0
theorem qbfw (D:DX)(n:Nat) (a0:tq43):rF D n 123 (a0,())=qsr D n a0:=by kernel_rfl

def q95 (D:DX)(n:Nat) (a0:Int):Option tq41:=qd (qbp D a0 0 19) fun b↦some ((b.1.1,()),())
def qyl (D:DX)(n:Nat) (a0:Int):Option tq41:=q95 D n a0
theorem qbl1 (D:DX)(n:Nat) (a0:Int):rF D n 124 (a0,())=qyl D n a0:=by kernel_rfl

def q6h (D:DX)(n:Nat) (a0:Int):Option tq41:=qd (qbp D a0 0 1000) fun b↦some ((b.1.1,()),())
def qul (D:DX)(n:Nat) (a0:Int):Option tq41:=q6h D n a0
theorem qbhl (D:DX)(n:Nat) (a0:Int):rF D n 125 (a0,())=qul D n a0:=by kernel_rfl

def qg2 (D:DX)(n:Nat) (a1:Clo) (a0:List tq33):Option tq41:=qd (qh7 D a0 a1) fun b↦some ((decide (b.1.1≥0),()),())
def qd1 (D:DX)(n:Nat) (a0:List tq33) (a1:Clo):Option tq41:=qg2 D n a1 a0
theorem qna (D:DX)(n:Nat) (a0:List tq33) (a1:Clo):rF D n 126 (a0,(a1,()))=qd1 D n a0 a1:=by kernel_rfl

def q3l (D:DX)(n:Nat) (a0:tq33) (a1:Int):Option tq41:=qd (qbp D a0.1 0 (wrap .i64 (a1 - 1))) fun b↦br (!b.1.1) (some ((true,()),())) (qd (qbp D a0.2.1 1 1000000) fun b↦br (!b.1.1) (some ((true,()),())) (qd (qbp D a0.2.2.1 0 20) fun b↦br (!b.1.1) (some ((true,()),())) (qd (qbp D a0.2.2.2.1 0 20) fun b↦some ((!b.1.1,()),()))))
def qsx (D:DX)(n:Nat) (a0:tq33) (a1:Int):Option tq41:=q3l D n a0 a1
theorem qbgi (D:DX)(n:Nat) (a0:tq33) (a1:Int):rF D n 127 (a0,(a1,()))=qsx D n a0 a1:=by kernel_rfl



def qbd4 (D:DX)(n:Nat) (a0:Int):Option tq41:=qd (qbo D a0 1 4) fun b↦some ((b.1.1,()),())
def q5a (D:DX)(n:Nat) (a0:Int):Option tq41:=qbd4 D n a0
theorem qbso (D:DX)(n:Nat) (a0:Int):rF D n 132 (a0,())=q5a D n a0:=by kernel_rfl

def qbsg (D:DX)(n:Nat) (a0:Int):Option tq41:=some ((bif bif bif decide (a0=1) then true else decide (a0=2) then true else decide (a0=5) then true else decide (a0=10),()),())
def qbcw (D:DX)(n:Nat) (a0:Int):Option tq41:=qbsg D n a0
theorem qbtr (D:DX)(n:Nat) (a0:Int):rF D n 133 (a0,())=qbcw D n a0:=by kernel_rfl

def qbdk (D:DX)(n:Nat) (a0:Int):Option tq42:=qd (qvz D a0) fun b↦br (!b.1.1) (some ((-1,()),())) (some ((a0,()),()))
def q6g (D:DX)(n:Nat) (a0:Int):Option tq42:=qbdk D n a0
theorem qbrv (D:DX)(n:Nat) (a0:Int):rF D n 134 (a0,())=q6g D n a0:=by kernel_rfl

def qbai (D:DX)(n:Nat) (a0:Int):Option tq42:=qd (qjf D a0) fun b↦br (!b.1.1) (some ((-1,()),())) (some ((wrap .i64 (3+a0),()),()))
def q0o (D:DX)(n:Nat) (a0:Int):Option tq42:=qbai D n a0
theorem qbnt (D:DX)(n:Nat) (a0:Int):rF D n 135 (a0,())=q0o D n a0:=by kernel_rfl

def qbdy (D:DX)(n:Nat) (a0:Int):Option tq42:=qd (qjf D a0) fun b↦br (!b.1.1) (some ((-1,()),())) (qd (qry D) fun b↦some ((wrap .i64 (b.1.1+a0),()),()))
def q50 (D:DX)(n:Nat) (a0:Int):Option tq42:=qbdy D n a0
theorem qbtn (D:DX)(n:Nat) (a0:Int):rF D n 136 (a0,())=q50 D n a0:=by kernel_rfl

def qwq (D:DX)(n:Nat) (go:Int→Int→Int→tq39→Option tq42) (K0:Int→Option tq42) (x0 x1 x2:Int) (x3:tq39):Option tq42:=br (decide (x2<(x3.1.length:Int))) (br (decide (0≤x2)&&decide (x2<(x3.1.length:Int))) (qd (qjf D (List.getD x3.1 x2.toNat 0)) fun b↦br b.1.1 (br (decide (0≤x2)&&decide (x2<(x3.1.length:Int))) (qd (qz6 D (List.getD x3.1 x2.toNat 0)) fun b↦qd (qqp D (decide (b.1.1=x0))) fun b↦go x0 (wrap .i64 (x1+b.1.1)) (wrap .i64 (x2+1)) x3) none) (qd (qqp D false) fun b↦go x0 (wrap .i64 (x1+b.1.1)) (wrap .i64 (x2+1)) x3)) none) (K0 x1)
def qla (D:DX)(n:Nat) (K0:Int→Option tq42):Nat→Int→Int→Int→tq39→Option tq42 | 0=>(fun x0 x1 x2 x3=>none) | m+1=>(fun x0 x1 x2 x3=>qwq D n (qla D n K0 m) K0 x0 x1 x2 x3)
def q3o (D:DX)(n:Nat) (a:Int):Option tq42:=some ((a,()),())
def qur (D:DX)(n:Nat):(Int)→(Int)→(Int)→tq39→Option tq42:=(fun x0 x1 x2 x3=>qla D n (fun a=>q3o D n a) n x0 x1 x2 x3)
def qz2 (D:DX)(n:Nat) (lp0:Int→Int→Int→tq39→Option tq42) (a0:tq39) (a1:Int):Option tq42:=lp0 a1 0 0 a0
def qza (D:DX)(n:Nat) (a0:tq39) (a1:Int):Option tq42:=qz2 D n (qur D n) a0 a1
def qvx (x0 x1 x2:Int) (x3:tq39):St:=stq 34 [(1,AV.val yq34 x0),(2,AV.addr 2 []),(5,AV.val yq34 x1),(6,AV.val yq34 x2)] [(2,Root.mk yq25 Mk.no x3 true)]
def q31 (a:Int):St:=stq 34 [(5,AV.val yq34 a)] []
theorem qbh9 (D:DX)(n:Nat) (K:KT 137):∀ (m:Nat) (x0 x1 x2:Int) (x3:tq39),LF D n 137 pq0 m (qvx x0 x1 x2 x3) K=qla D n (fun a=>K (Ex.exit 0) (q31 a)) m x0 x1 x2 x3:=eL4 (fun F=>qwq D n F (fun a=>K (Ex.exit 0) (q31 a))) (fun _ _ _ _ =>q7 ..) (fun _ _ _ _ _ =>by kernel_rfl) (fun _ _ _ _ _ =>rfl)
theorem qbft (D:DX)(n:Nat) (x0) (x1) (x2) (x3):LF D n 137 pq0 n (qvx x0 x1 x2 x3) (CF D n 137 [] pq0 (lF 137))=qur D n x0 x1 x2 x3 :=by rw[qbh9];kernel_rfl
theorem qbm3 (D:DX)(n:Nat) (a0:tq39) (a1:Int):rF D n 137 (a0,(a1,()))=qza D n a0 a1:=by
 have h:rF D n 137 (a0,(a1,()))=qz2 D n (fun x0 x1 x2 x3=>LF D n 137 pq0 n (qvx x0 x1 x2 x3) (CF D n 137 [] pq0 (lF 137))) a0 a1:=by kernel_rfl
 rw[h]
 simp only[qbft]
 rfl

def q94 (D:DX)(n:Nat) (a0:Int):Option tq42:=qd (qbo D a0 0 2) fun b↦br (!b.1.1) (some ((-1,()),())) (some ((wrap .i64 (10+a0),()),()))
def qy6 (D:DX)(n:Nat) (a0:Int):Option tq42:=q94 D n a0
theorem qbmk (D:DX)(n:Nat) (a0:Int):rF D n 138 (a0,())=qy6 D n a0:=by kernel_rfl

def qbl9 (D:DX)(n:Nat):Option tq42:=some ((13,()),())
def q9v (D:DX)(n:Nat):Option tq42:=qbl9 D n
theorem qbny (D:DX)(n:Nat):rF D n 139 ()=q9v D n:=by kernel_rfl

def q92 (D:DX)(n:Nat) (go:Int→tq18→Option tq41) (K0:Bool→Option tq41) (K1:Option tq41) (x0:Int) (x1:tq18):Option tq41:=let y0:=List.getD x1.2.2.1 x0.toNat (0,0,0,());br (decide (x0<(x1.2.2.1.length:Int))) (br (decide (0≤x0)&&decide (x0<(x1.2.2.1.length:Int))) (qd (qbo D y0.1 0 19) fun b↦br (!b.1.1) (K0 false) (qd (qbo D y0.2.1 0 1000) fun b↦br (!b.1.1) (K0 false) (qd (qbo D y0.2.2.1 0 1000) fun b↦br (!b.1.1) (K0 false) (br (decide (x0>0)) (br (decide (0≤wrap .i64 (x0 - 1))&&decide (wrap .i64 (x0 - 1)<(x1.2.2.1.length:Int))) (br (decide ((List.getD x1.2.2.1 (Int.toNat (wrap .i64 (x0 - 1))) (0,0,0,())).1≥y0.1)) (K0 false) (go (wrap .i64 (x0+1)) x1)) none) (go (wrap .i64 (x0+1)) x1))))) none) K1
def qy9 (D:DX)(n:Nat) (K0:Bool→Option tq41) (K1:Option tq41):Nat→Int→tq18→Option tq41 | 0=>(fun x0 x1=>none) | m+1=>(fun x0 x1=>q92 D n (qy9 D n K0 K1 m) K0 K1 x0 x1)
def qbh2 (D:DX)(n:Nat) (a:Bool):Option tq41:=some ((a,()),())
def qbhq (D:DX)(n:Nat):Option tq41:=some ((true,()),())
def q78 (D:DX)(n:Nat):(Int)→tq18→Option tq41:=(fun x0 x1=>qy9 D n (fun a=>qbh2 D n a) (qbhq D n) n x0 x1)
def q15 (D:DX)(n:Nat) (lp0:Int→tq18→Option tq41) (a0:tq18):Option tq41:=br (decide (a0.1=0)) (some ((bif bif bif decide (a0.2.1=0) then decide ((a0.2.2.1.length:Int)=0) else false then decide (a0.2.2.2.1.1=0) else false then decide ((a0.2.2.2.1.2.1.length:Int)=0) else false,()),())) (qd (qbo D a0.1 1 1000000) fun b↦br (!b.1.1) (some ((false,()),())) (qd (qbo D a0.2.1 1 3) fun b↦br (bif !b.1.1 then true else decide ((a0.2.2.1.length:Int)>20)) (some ((false,()),())) (lp0 0 a0)))
def q10 (D:DX)(n:Nat) (a0:tq18):Option tq41:=q15 D n (q78 D n) a0
def q0f (x0:Int) (x1:tq18):St:=stq 90 [(1,AV.addr 1 []),(3,AV.val yq34 x0)] [(1,Root.mk yq9 Mk.no x1 true)]
def q6j (a:Bool):St:=stq 90 [(2,AV.val Ty.bool a)] []
def q52:St:=stq 90 [] []
theorem qbjp (D:DX)(n:Nat) (K:KT 140):∀ (m:Nat) (x0:Int) (x1:tq18),LF D n 140 pq1 m (q0f x0 x1) K=qy9 D n (fun a=>K (Ex.ret) (q6j a)) (K (Ex.exit 0) (q52)) m x0 x1:=eL2 (fun F=>q92 D n F (fun a=>K (Ex.ret) (q6j a)) (K (Ex.exit 0) (q52))) (fun _ _ =>q7 ..) (fun _ _ _ =>by kernel_rfl) (fun _ _ _ =>rfl)
theorem qbi6 (D:DX)(n:Nat) (x0) (x1):LF D n 140 pq1 n (q0f x0 x1) (CF D n 140 [] pq1 (lF 140))=q78 D n x0 x1 :=by rw[qbjp];kernel_rfl
theorem qbqk (D:DX)(n:Nat) (a0:tq18):rF D n 140 (a0,())=q10 D n a0:=by
 have h:rF D n 140 (a0,())=q15 D n (fun x0 x1=>LF D n 140 pq1 n (q0f x0 x1) (CF D n 140 [] pq1 (lF 140))) a0:=by kernel_rfl
 rw[h]
 simp only[qbi6]
 rfl

def qbbz (D:DX)(n:Nat) (a0:tq37) (a1:Int):Option tq41:=br (decide (a0.2.1=0)) (br (decide (a0.2.2.1=0)) (qd (qbo D a0.1 0 1000) fun b↦some ((b.1.1,()),())) (some ((false,()),()))) (br (decide (a0.1=0)) (qd (qbo D a0.2.1 1 a1) fun b↦br b.1.1 (qd (qbo D a0.2.2.1 1 1000000) fun b↦some ((b.1.1,()),())) (some ((false,()),()))) (some ((false,()),())))
def q1u (D:DX)(n:Nat) (a0:tq37) (a1:Int):Option tq41:=qbbz D n a0 a1
theorem qbp6 (D:DX)(n:Nat) (a0:tq37) (a1:Int):rF D n 141 (a0,(a1,()))=q1u D n a0 a1:=by kernel_rfl


def qbc9 (D:DX)(n:Nat) (a0:Int):Option tq41:=qd (qbo D a0 1 6) fun b↦some ((b.1.1,()),())
def q6z (D:DX)(n:Nat) (a0:Int):Option tq41:=qbc9 D n a0
theorem qbq1 (D:DX)(n:Nat) (a0:Int):rF D n 143 (a0,())=q6z D n a0:=by kernel_rfl


def qbsp (D:DX)(n:Nat) (a0:Bool):Option tq42:=br a0 (some ((1,()),())) (some ((0,()),()))
def qbd1 (D:DX)(n:Nat) (a0:Bool):Option tq42:=qbsp D n a0
theorem qbtw (D:DX)(n:Nat) (a0:Bool):rF D n 145 (a0,())=qbd1 D n a0:=by kernel_rfl

def qbg2 (D:DX)(n:Nat) (a0:tq37):Option tq41:=let y1:Option tq41:=qd (qjf D a0.2.2.1) fun b↦some ((b.1.1,()),());let y0:Option tq41:=qd (qbo D a0.2.1 0 2) fun b↦qd (qhi D a0.1) fun b_1↦br b_1.1.1 (br b.1.1 y1 (some ((false,()),()))) (some ((bif b.1.1 then decide (a0.2.2.1=0) else false,()),()));qd (qbo D a0.1 1 10) fun b↦br (!b.1.1) (some ((false,()),())) (qd (qxv D a0.1) fun b↦br b.1.1 (qd (qvz D a0.2.1) fun b↦br (decide (a0.1=6)) y0 (qd (qhi D a0.1) fun b_1↦br b_1.1.1 (br b.1.1 y1 (some ((false,()),()))) (some ((bif b.1.1 then decide (a0.2.2.1=0) else false,()),())))) (br (decide (a0.1=6)) y0 (qd (qhi D a0.1) fun b↦br b.1.1 (br (decide (a0.2.1=0)) y1 (some ((false,()),()))) (some ((bif decide (a0.2.1=0) then decide (a0.2.2.1=0) else false,()),())))))
def q8g (D:DX)(n:Nat) (a0:tq37):Option tq41:=qbg2 D n a0
theorem qbuh (D:DX)(n:Nat) (a0:tq37):rF D n 146 (a0,())=q8g D n a0:=by kernel_rfl

def q0s (D:DX)(n:Nat) (go:Int→Int→tq5→Option tq42) (K0:Int→Option tq42) (K1:Option tq42) (x0 x1:Int) (x2:tq5):Option tq42:=br (decide (x1≥0)) (br (decide (0≤x1)&&decide (x1<(x2.2.2.2.1.length:Int))) (br (decide ((List.getD x2.2.2.2.1 x1.toNat (0,(0,0,0,()),0,0,0,(0,[],()),())).1=x0)) (K0 x1) (go x0 (wrap .i64 (x1 - 1)) x2)) none) K1
def qrw (D:DX)(n:Nat) (K0:Int→Option tq42) (K1:Option tq42):Nat→Int→Int→tq5→Option tq42 | 0=>(fun x0 x1 x2=>none) | m+1=>(fun x0 x1 x2=>q0s D n (qrw D n K0 K1 m) K0 K1 x0 x1 x2)
def qbix (D:DX)(n:Nat) (a:Int):Option tq42:=some ((a,()),())
def qbiu (D:DX)(n:Nat):Option tq42:=some ((-1,()),())
def qw9 (D:DX)(n:Nat):(Int)→(Int)→tq5→Option tq42:=(fun x0 x1 x2=>qrw D n (fun a=>qbix D n a) (qbiu D n) n x0 x1 x2)
def q22 (D:DX)(n:Nat) (lp0:Int→Int→tq5→Option tq42) (a0:tq5) (a1:Int):Option tq42:=lp0 a1 (wrap .i64 ((a0.2.2.2.1.length:Int) - 1)) a0
def q17 (D:DX)(n:Nat) (a0:tq5) (a1:Int):Option tq42:=q22 D n (qw9 D n) a0 a1
def qym (x0 x1:Int) (x2:tq5):St:=stq 23 [(1,AV.val yq34 x0),(2,AV.addr 2 []),(5,AV.val yq34 x1)] [(2,Root.mk yq0 Mk.no x2 true)]
def q5z (a:Int):St:=stq 23 [(4,AV.val yq34 a)] []
def q5b:St:=stq 23 [] []
theorem qbla (D:DX)(n:Nat) (K:KT 147):∀ (m:Nat) (x0 x1:Int) (x2:tq5),LF D n 147 pq2 m (qym x0 x1 x2) K=qrw D n (fun a=>K (Ex.ret) (q5z a)) (K (Ex.exit 0) (q5b)) m x0 x1 x2:=eL3 (fun F=>q0s D n F (fun a=>K (Ex.ret) (q5z a)) (K (Ex.exit 0) (q5b))) (fun _ _ _ =>q7 ..) (fun _ _ _ _ =>by kernel_rfl) (fun _ _ _ _ =>rfl)
theorem qbhu (D:DX)(n:Nat) (x0) (x1) (x2):LF D n 147 pq2 n (qym x0 x1 x2) (CF D n 147 [] pq2 (lF 147))=qw9 D n x0 x1 x2 :=by rw[qbla];kernel_rfl
theorem qbqd (D:DX)(n:Nat) (a0:tq5) (a1:Int):rF D n 147 (a0,(a1,()))=q17 D n a0 a1:=by
 have h:rF D n 147 (a0,(a1,()))=q22 D n (fun x0 x1 x2=>LF D n 147 pq2 n (qym x0 x1 x2) (CF D n 147 [] pq2 (lF 147))) a0 a1:=by kernel_rfl
 rw[h]
 simp only[qbhu]
 rfl

def qjr (D:DX)(n:Nat) (a0:List tq37):Option tq28:=br (decide (Int.toNat (a0.length:Int)=0)) (both (some (([],()),())) (br (decide (0+a0.length≤qb7)) (some (([]++a0,()),())) none)) (br (decide (0+a0.length≤qb7)) (some (([]++a0,()),())) none)
def qf0 (D:DX)(n:Nat) (a0:List tq37):Option tq28:=qjr D n a0
theorem qsj (D:DX)(n:Nat) (a0:List tq37):rF D n 148 (a0,())=qf0 D n a0:=by kernel_rfl

def qiz (D:DX)(n:Nat) (a0:List tq37):Option tq28:=br (decide (Int.toNat (a0.length:Int)=0)) (both (some (([],()),())) (br (decide (0+a0.length≤qb7)) (some (([]++a0,()),())) none)) (br (decide (0+a0.length≤qb7)) (some (([]++a0,()),())) none)
def qfj (D:DX)(n:Nat) (a0:List tq37):Option tq28:=qiz D n a0
theorem qql (D:DX)(n:Nat) (a0:List tq37):rF D n 149 (a0,())=qfj D n a0:=by kernel_rfl

def qjt (D:DX)(n:Nat) (a0:List tq43):Option ((List tq43×Unit)×Unit):=br (decide (Int.toNat (a0.length:Int)=0)) (both (some (([],()),())) (br (decide (0+a0.length≤qb7)) (some (([]++a0,()),())) none)) (br (decide (0+a0.length≤qb7)) (some (([]++a0,()),())) none)
def qf7 (D:DX)(n:Nat) (a0:List tq43):Option ((List tq43×Unit)×Unit):=qjt D n a0
theorem qsm (D:DX)(n:Nat) (a0:List tq43):rF D n 150 (a0,())=qf7 D n a0:=by kernel_rfl

def qjs (D:DX)(n:Nat) (a0:List tq33):Option ((List tq33×Unit)×Unit):=br (decide (Int.toNat (a0.length:Int)=0)) (both (some (([],()),())) (br (decide (0+a0.length≤qb7)) (some (([]++a0,()),())) none)) (br (decide (0+a0.length≤qb7)) (some (([]++a0,()),())) none)
def qfz (D:DX)(n:Nat) (a0:List tq33):Option ((List tq33×Unit)×Unit):=qjs D n a0
theorem qsk (D:DX)(n:Nat) (a0:List tq33):rF D n 151 (a0,())=qfz D n a0:=by kernel_rfl

def qbj0 (D:DX)(n:Nat) (a0:tq13):Option ((tq33×tq44)×Unit):=br (decide ((a0.2.2.2.2.1.length:Int)=0)) (some (((0,0,0,0,()),false,()),())) (br (decide (0≤wrap .i64 ((a0.2.2.2.2.1.length:Int) - 1))&&decide (wrap .i64 ((a0.2.2.2.2.1.length:Int) - 1)<(a0.2.2.2.2.1.length:Int))) (some ((List.getD a0.2.2.2.2.1 (Int.toNat (wrap .i64 ((a0.2.2.2.2.1.length:Int) - 1))) (0,0,0,0,()),true,()),())) none)
def qbaz (D:DX)(n:Nat) (a0:tq13):Option ((tq33×tq44)×Unit):=qbj0 D n a0
theorem qbwp (D:DX)(n:Nat) (a0:tq13):rF D n 152 (a0,())=qbaz D n a0:=by kernel_rfl

def qbb2 (D:DX)(n:Nat) (a0:tq12) (a1:tq33):Option tq6:=let y0:=Int.toNat (if 0>a1.2.2.2.1 then 0 else a1.2.2.2.1);qd (qkd D a0) fun b↦qd (qkh D (b.1.1.1,b.1.1.2.1,())) fun b_1↦br (!b_1.1.1) (some (((b.1.1.1,b.1.1.2.1,()),a1,(0,0,0,0,()),2,()),())) (qd (qbp D a1.1 0 (wrap .i64 ((b.1.1.2.1.length:Int) - 1))) fun b_2↦br (bif !b_2.1.1 then true else decide (a1.2.1<1)) (some (((b.1.1.1,b.1.1.2.1,()),a1,(0,0,0,0,()),2,()),())) (br (decide (0≤a1.1)&&decide (a1.1<(b.1.1.2.1.length:Int))) (br ((List.getD b.1.1.2.1 a1.1.toNat (0,0,[],(0,[],()),())).1 != a1.2.1) (some (((b.1.1.1,b.1.1.2.1,()),a1,(0,0,0,0,()),2,()),())) (br (decide (0≤a1.1)&&decide (a1.1<(b.1.1.2.1.length:Int))) (br (bif (List.getD b.1.1.2.1 a1.1.toNat (0,0,[],(0,[],()),())).2.1 != 0 then bif decide ((List.getD b.1.1.2.1 a1.1.toNat (0,0,[],(0,[],()),())).2.1=1) then true else decide (a1.2.2.2.1<((List.getD b.1.1.2.1 a1.1.toNat (0,0,[],(0,[],()),())).2.2.1.length:Int)) else false) (br (decide ((List.getD b.1.1.2.1 a1.1.toNat (0,0,[],(0,[],()),())).2.1=1)) (qd (q39 D (b.1.1.1,b.1.1.2.1,()) (a1.1,a1.2.1,if 0>a1.2.2.1 then 0 else a1.2.2.1,if 0>a1.2.2.2.1 then 0 else a1.2.2.2.1,a1.2.2.2.2)) fun b↦some (((b.2.1.1,b.2.1.2.1,()),b.1.1,b.1.2.1,b.1.2.2.1,()),())) (br (bif decide ((List.getD b.1.1.2.1 a1.1.toNat (0,0,[],(0,[],()),())).2.1=0) then true else decide ((if 0>a1.2.2.2.1 then 0 else a1.2.2.2.1)≥((List.getD b.1.1.2.1 a1.1.toNat (0,0,[],(0,[],()),())).2.2.1.length:Int))) (some (((b.1.1.1,b.1.1.2.1,()),(a1.1,a1.2.1,if 0>a1.2.2.1 then 0 else a1.2.2.1,if 0>a1.2.2.2.1 then 0 else a1.2.2.2.1,a1.2.2.2.2),(0,0,0,0,()),2,()),())) (br (decide (0≤if 0>a1.2.2.2.1 then 0 else a1.2.2.2.1)&&decide ((if 0>a1.2.2.2.1 then 0 else a1.2.2.2.1)<((List.getD b.1.1.2.1 a1.1.toNat (0,0,[],(0,[],()),())).2.2.1.length:Int))) (br (decide (0≤(List.getD (List.getD b.1.1.2.1 a1.1.toNat (0,0,[],(0,[],()),())).2.2.1 y0 (0,0,0,())).1)&&decide ((List.getD (List.getD b.1.1.2.1 a1.1.toNat (0,0,[],(0,[],()),())).2.2.1 y0 (0,0,0,())).1<(b.1.1.1.length:Int))) (br (qkr yq21 (List.getD b.1.1.1 (Int.toNat (List.getD (List.getD b.1.1.2.1 a1.1.toNat (0,0,[],(0,[],()),())).2.2.1 y0 (0,0,0,())).1) (0,0,0,())) (0,wrap .i64 (a1.1+1),a1.2.1,())) (br (decide ((List.getD b.1.1.2.1 a1.1.toNat (0,0,[],(0,[],()),())).2.1=2)) (some (((List.set (List.set b.1.1.1 (Int.toNat (List.getD (List.getD b.1.1.2.1 a1.1.toNat (0,0,[],(0,[],()),())).2.2.1 y0 (0,0,0,())).1) ((List.getD (List.getD b.1.1.2.1 a1.1.toNat (0,0,[],(0,[],()),())).2.2.1 y0 (0,0,0,())).2.1,0,0,())) (Int.toNat (List.getD (List.getD b.1.1.2.1 a1.1.toNat (0,0,[],(0,[],()),())).2.2.1 y0 (0,0,0,())).1) ((List.getD (List.getD b.1.1.2.1 a1.1.toNat (0,0,[],(0,[],()),())).2.2.1 y0 (0,0,0,())).2.2.1,(List.getD (List.set b.1.1.1 (Int.toNat (List.getD (List.getD b.1.1.2.1 a1.1.toNat (0,0,[],(0,[],()),())).2.2.1 y0 (0,0,0,())).1) ((List.getD (List.getD b.1.1.2.1 a1.1.toNat (0,0,[],(0,[],()),())).2.2.1 y0 (0,0,0,())).2.1,0,0,())) (Int.toNat (List.getD (List.getD b.1.1.2.1 a1.1.toNat (0,0,[],(0,[],()),())).2.2.1 y0 (0,0,0,())).1) (0,0,0,())).2),b.1.1.2.1,()),(a1.1,a1.2.1,if 0>a1.2.2.1 then 0 else a1.2.2.1,wrap .i64 ((if 0>a1.2.2.2.1 then 0 else a1.2.2.2.1)+1),a1.2.2.2.2),(0,0,0,0,()),0,()),())) (some (((List.set b.1.1.1 (Int.toNat (List.getD (List.getD b.1.1.2.1 a1.1.toNat (0,0,[],(0,[],()),())).2.2.1 y0 (0,0,0,())).1) ((List.getD (List.getD b.1.1.2.1 a1.1.toNat (0,0,[],(0,[],()),())).2.2.1 y0 (0,0,0,())).2.1,0,0,()),b.1.1.2.1,()),(a1.1,a1.2.1,if 0>a1.2.2.1 then 0 else a1.2.2.1,wrap .i64 ((if 0>a1.2.2.2.1 then 0 else a1.2.2.2.1)+1),a1.2.2.2.2),(0,0,0,0,()),0,()),()))) (some (((b.1.1.1,b.1.1.2.1,()),(a1.1,a1.2.1,if 0>a1.2.2.1 then 0 else a1.2.2.1,wrap .i64 ((if 0>a1.2.2.2.1 then 0 else a1.2.2.2.1)+1),a1.2.2.2.2),(0,0,0,0,()),0,()),()))) none) none))) (br (decide ((List.getD b.1.1.2.1 a1.1.toNat (0,0,[],(0,[],()),())).2.1=1)) (qd (q39 D (b.1.1.1,b.1.1.2.1,()) a1) fun b↦some (((b.2.1.1,b.2.1.2.1,()),b.1.1,b.1.2.1,b.1.2.2.1,()),())) (br (bif decide ((List.getD b.1.1.2.1 a1.1.toNat (0,0,[],(0,[],()),())).2.1=0) then true else decide (a1.2.2.2.1≥((List.getD b.1.1.2.1 a1.1.toNat (0,0,[],(0,[],()),())).2.2.1.length:Int))) (some (((b.1.1.1,b.1.1.2.1,()),a1,(0,0,0,0,()),2,()),())) (br (decide (0≤a1.2.2.2.1)&&decide (a1.2.2.2.1<((List.getD b.1.1.2.1 a1.1.toNat (0,0,[],(0,[],()),())).2.2.1.length:Int))) (br (decide (0≤(List.getD (List.getD b.1.1.2.1 a1.1.toNat (0,0,[],(0,[],()),())).2.2.1 a1.2.2.2.1.toNat (0,0,0,())).1)&&decide ((List.getD (List.getD b.1.1.2.1 a1.1.toNat (0,0,[],(0,[],()),())).2.2.1 a1.2.2.2.1.toNat (0,0,0,())).1<(b.1.1.1.length:Int))) (br (qkr yq21 (List.getD b.1.1.1 (Int.toNat (List.getD (List.getD b.1.1.2.1 a1.1.toNat (0,0,[],(0,[],()),())).2.2.1 a1.2.2.2.1.toNat (0,0,0,())).1) (0,0,0,())) (0,wrap .i64 (a1.1+1),a1.2.1,())) (br (decide ((List.getD b.1.1.2.1 a1.1.toNat (0,0,[],(0,[],()),())).2.1=2)) (some (((List.set (List.set b.1.1.1 (Int.toNat (List.getD (List.getD b.1.1.2.1 a1.1.toNat (0,0,[],(0,[],()),())).2.2.1 a1.2.2.2.1.toNat (0,0,0,())).1) ((List.getD (List.getD b.1.1.2.1 a1.1.toNat (0,0,[],(0,[],()),())).2.2.1 a1.2.2.2.1.toNat (0,0,0,())).2.1,0,0,())) (Int.toNat (List.getD (List.getD b.1.1.2.1 a1.1.toNat (0,0,[],(0,[],()),())).2.2.1 a1.2.2.2.1.toNat (0,0,0,())).1) ((List.getD (List.getD b.1.1.2.1 a1.1.toNat (0,0,[],(0,[],()),())).2.2.1 a1.2.2.2.1.toNat (0,0,0,())).2.2.1,(List.getD (List.set b.1.1.1 (Int.toNat (List.getD (List.getD b.1.1.2.1 a1.1.toNat (0,0,[],(0,[],()),())).2.2.1 a1.2.2.2.1.toNat (0,0,0,())).1) ((List.getD (List.getD b.1.1.2.1 a1.1.toNat (0,0,[],(0,[],()),())).2.2.1 a1.2.2.2.1.toNat (0,0,0,())).2.1,0,0,())) (Int.toNat (List.getD (List.getD b.1.1.2.1 a1.1.toNat (0,0,[],(0,[],()),())).2.2.1 a1.2.2.2.1.toNat (0,0,0,())).1) (0,0,0,())).2),b.1.1.2.1,()),(a1.1,a1.2.1,a1.2.2.1,wrap .i64 (a1.2.2.2.1+1),a1.2.2.2.2),(0,0,0,0,()),0,()),())) (some (((List.set b.1.1.1 (Int.toNat (List.getD (List.getD b.1.1.2.1 a1.1.toNat (0,0,[],(0,[],()),())).2.2.1 a1.2.2.2.1.toNat (0,0,0,())).1) ((List.getD (List.getD b.1.1.2.1 a1.1.toNat (0,0,[],(0,[],()),())).2.2.1 a1.2.2.2.1.toNat (0,0,0,())).2.1,0,0,()),b.1.1.2.1,()),(a1.1,a1.2.1,a1.2.2.1,wrap .i64 (a1.2.2.2.1+1),a1.2.2.2.2),(0,0,0,0,()),0,()),()))) (some (((b.1.1.1,b.1.1.2.1,()),(a1.1,a1.2.1,a1.2.2.1,wrap .i64 (a1.2.2.2.1+1),a1.2.2.2.2),(0,0,0,0,()),0,()),()))) none) none)))) none)) none))
def q2a (D:DX)(n:Nat) (a0:tq12) (a1:tq33):Option tq6:=qbb2 D n a0 a1
theorem qbpn (D:DX)(n:Nat) (a0:tq12) (a1:tq33):rF D n 153 (a0,(a1,()))=q2a D n a0 a1:=by kernel_rfl

def qbgt (D:DX)(n:Nat) (a0:tq13) (a1:tq33):Option tq11:=qd (qht D a0) fun b↦br (decide (b.1.1.2.2.2.2.1.length+1≤qb7)) (some (((b.1.1.1,b.1.1.2.1,b.1.1.2.2.1,b.1.1.2.2.2.1,b.1.1.2.2.2.2.1++[a1],()),()),())) none
def q8t (D:DX)(n:Nat) (a0:tq13) (a1:tq33):Option tq11:=qbgt D n a0 a1
theorem qbug (D:DX)(n:Nat) (a0:tq13) (a1:tq33):rF D n 154 (a0,(a1,()))=q8t D n a0 a1:=by kernel_rfl

def qbha (D:DX)(n:Nat) (a0:tq13) (a1:tq33):Option tq11:=qd (qht D a0) fun b↦br (decide ((b.1.1.2.2.2.2.1.length:Int)>0)) (br (decide (0≤wrap .i64 ((b.1.1.2.2.2.2.1.length:Int) - 1))&&decide (wrap .i64 ((b.1.1.2.2.2.2.1.length:Int) - 1)<(b.1.1.2.2.2.2.1.length:Int))) (some (((b.1.1.1,b.1.1.2.1,b.1.1.2.2.1,b.1.1.2.2.2.1,List.set b.1.1.2.2.2.2.1 (Int.toNat (wrap .i64 ((b.1.1.2.2.2.2.1.length:Int) - 1))) a1,()),()),())) none) (some (((b.1.1.1,b.1.1.2.1,b.1.1.2.2.1,b.1.1.2.2.2.1,b.1.1.2.2.2.2.1,()),()),()))
def q8h (D:DX)(n:Nat) (a0:tq13) (a1:tq33):Option tq11:=qbha D n a0 a1
theorem qbu0 (D:DX)(n:Nat) (a0:tq13) (a1:tq33):rF D n 155 (a0,(a1,()))=q8h D n a0 a1:=by kernel_rfl

def qbk1 (D:DX)(n:Nat) (a0:tq13):Option tq11:=qd (qht D a0) fun b↦br (decide ((b.1.1.2.2.2.2.1.length:Int)>0)) (br (decide (0≤wrap .i64 ((b.1.1.2.2.2.2.1.length:Int) - 1))&&decide (wrap .i64 ((b.1.1.2.2.2.2.1.length:Int) - 1)≤(b.1.1.2.2.2.2.1.length:Int))) (some (((b.1.1.1,b.1.1.2.1,b.1.1.2.2.1,b.1.1.2.2.2.1,List.take (Int.toNat (wrap .i64 ((b.1.1.2.2.2.2.1.length:Int) - 1))) b.1.1.2.2.2.2.1,()),()),())) none) (some (((b.1.1.1,b.1.1.2.1,b.1.1.2.2.1,b.1.1.2.2.2.1,b.1.1.2.2.2.2.1,()),()),()))
def qbbp (D:DX)(n:Nat) (a0:tq13):Option tq11:=qbk1 D n a0
theorem qbwf (D:DX)(n:Nat) (a0:tq13):rF D n 156 (a0,())=qbbp D n a0:=by kernel_rfl

def qx3 (D:DX)(n:Nat) (z0:Int) (z1:tq5):Option tq4:=let y5:=List.getD z1.2.1 z0.toNat ([],0,false,[],[],());let y2:=List.set z1.2.1 z0.toNat (y5.1,wrap .i64 (y5.2.1+1),y5.2.2);let y6:=List.getD y2 z0.toNat ([],0,false,[],[],());let y0:=List.set y2 z0.toNat (y6.1,y6.2.1,false,y6.2.2.2);let y4:=List.getD y0 z0.toNat ([],0,false,[],[],());let y1:=List.set y0 z0.toNat (y4.1,y4.2.1,y4.2.2.1,[],y4.2.2.2.2);let y3:=List.getD y1 z0.toNat ([],0,false,[],[],());br (decide (0≤z0)&&decide (z0<(z1.2.1.length:Int))) (some ((),(z1.1,List.set y1 z0.toNat (y3.1,y3.2.1,y3.2.2.1,y3.2.2.2.1,[],y3.2.2.2.2.2),z1.2.2),())) none
def qo4 (D:DX)(n:Nat) (z0:Int) (z1:tq5):Option tq4:=qx3 D n z0 z1
def qrh (D:DX)(n:Nat) (j0:Int→tq5→Option tq4) (a0:tq5) (a1:Int) (a2:tq40):Option tq4:=qd (qh0 D a0 a1) fun b↦br (decide (b.1.1≥0)) (br (decide (0≤b.1.1)&&decide (b.1.1<(b.2.1.2.2.2.1.length:Int))) (qd (qih D a2) fun b_1↦let c:=List.getD b.2.1.2.2.2.1 b.1.1.toNat (0,(0,0,0,()),0,0,0,(0,[],()),());let d:=List.set b.2.1.2.2.2.1 b.1.1.toNat (c.1,c.2.1,c.2.2.1,c.2.2.2.1,b.2.1.2.2.1,c.2.2.2.2.2);let a:=List.getD d b.1.1.toNat (0,(0,0,0,()),0,0,0,(0,[],()),());br (decide (0≤b.1.1)&&decide (b.1.1<(d.length:Int))) (j0 a1 (b.2.1.1,b.2.1.2.1,b.2.1.2.2.1,List.set d b.1.1.toNat (a.1,a.2.1,a.2.2.1,a.2.2.2.1,a.2.2.2.2.1,(b_1.1.1.1,b_1.1.1.2.1,()),a.2.2.2.2.2.2),b.2.1.2.2.2.2)) none) none) (j0 a1 b.2.1)
def qqt (D:DX)(n:Nat) (a0:tq5) (a1:Int) (a2:tq40):Option tq4:=qrh D n (fun z0 z1=>qo4 D n z0 z1) a0 a1 a2
def qx0 (z0:Int) (z1:tq5):St:=stq 55 [(0,AV.addr 0 []),(1,AV.val yq34 z0)] [(0,Root.mk yq0 kq15 z1 true)]
theorem q9j (D:DX)(n:Nat) (z0) (z1):qg1 ctx D (ctx.hints 157) n (qk9 (bF 157) [.r,.r]) (qx0 z0 z1) (lF 157)=qo4 D n z0 z1:=by kernel_rfl
theorem qbci (D:DX)(n:Nat) (K:St→Option (Out ctx 157)) (a0:tq5) (a1:Int) (a2:tq40):qbab ctx D (ctx.hints 157) n 2 (bF 157) (qbnh (C:=ctx) qk1 157 (a0,(a1,(a2,())))) K (lF 157)=qrh D n (fun z0 z1=>K (qx0 z0 z1)) a0 a1 a2:=by kernel_rfl
theorem qber (D:DX)(n:Nat) (a0:tq5) (a1:Int) (a2:tq40):rF D n 157 (a0,(a1,(a2,())))=qqt D n a0 a1 a2:=
 (qb0a qk1 D n 157 _ (by kernel_rfl)).trans ((qb07 ctx D (ctx.hints 157) n 2 (lF 157) (bF 157) [.r,.r] _ rfl (by kernel_rfl)).symm.trans ((qbci D n (fun S=>qg1 ctx D (ctx.hints 157) n (qk9 (bF 157) [.r,.r]) S (lF 157)) a0 a1 a2).trans (by simp only[q9j];rfl)))

def q3d (D:DX)(n:Nat) (a0:tq5) (a1:Int) (a2:tq40):Option tq4:=qd (qh0 D a0 a1) fun b↦br (decide (b.1.1<0)) (some ((),b.2.1,())) (br (decide (0≤b.1.1)&&decide (b.1.1<(b.2.1.2.2.2.1.length:Int))) (qd (qih D a2) fun b_1↦let c:=List.getD b.2.1.2.2.2.1 b.1.1.toNat (0,(0,0,0,()),0,0,0,(0,[],()),());let d:=List.set b.2.1.2.2.2.1 b.1.1.toNat (c.1,c.2.1,c.2.2.1,b.2.1.2.2.1,c.2.2.2.2);let a:=List.getD d b.1.1.toNat (0,(0,0,0,()),0,0,0,(0,[],()),());br (decide (0≤b.1.1)&&decide (b.1.1<(d.length:Int))) (br (decide (b.2.1.2.2.2.2.1.length+1≤qb7)) (some ((),(b.2.1.1,b.2.1.2.1,b.2.1.2.2.1,List.set d b.1.1.toNat (a.1,a.2.1,a.2.2.1,a.2.2.2.1,a.2.2.2.2.1,(b_1.1.1.1,b_1.1.1.2.1,()),a.2.2.2.2.2.2),b.2.1.2.2.2.2.1++[b.1.1],b.2.1.2.2.2.2.2),())) none) none) none)
def qs3 (D:DX)(n:Nat) (a0:tq5) (a1:Int) (a2:tq40):Option tq4:=q3d D n a0 a1 a2
theorem qbf5 (D:DX)(n:Nat) (a0:tq5) (a1:Int) (a2:tq40):rF D n 158 (a0,(a1,(a2,())))=qs3 D n a0 a1 a2:=by kernel_rfl

def qbgy (D:DX)(n:Nat) (a0:tq37) (a1:List tq43):Option tq42:=qd (qlw D a0) fun b↦br (!b.1.1) (some ((-1,()),())) (qd (qw2 D a0 a1) fun b↦some ((b.1.1.2.2.1,()),()))
def q8e (D:DX)(n:Nat) (a0:tq37) (a1:List tq43):Option tq42:=qbgy D n a0 a1
theorem qbt8 (D:DX)(n:Nat) (a0:tq37) (a1:List tq43):rF D n 159 (a0,(a1,()))=q8e D n a0 a1:=by kernel_rfl

def qyo (D:DX)(n:Nat) (go:List tq43→Int→Int→Int→Int→tq37→tq22→tq22→tq24→Option tq14) (K0:List tq43→tq37→tq22→tq22→Option tq14) (x0:List tq43) (x1 x2 x3 x4:Int) (x5:tq37) (x6 x7:tq22) (x8:tq24):Option tq14:=br (decide (x4<x3)) (br (decide (0≤x4)&&decide (x4<(x8.2.1.length:Int))) (qd (qer D x0 (List.getD x8.2.1 x4.toNat 0)) fun b↦qd (q3a D x5 (List.getD x8.2.1 x4.toNat 0) b.1.1 x2 x1) fun b_1↦br (decide (x7.2.2.1.length+1≤qb7)) (br (decide (x5.1=7)) (br (decide (x7.2.1.2.1.length+1≤qb7)) (go x0 x1 x2 x3 (wrap .i64 (x4+1)) x5 x6 (x7.1,(x7.2.1.1,x7.2.1.2.1++[b.1.1],x7.2.1.2.2),x7.2.2.1++[(List.getD x8.2.1 x4.toNat 0,b.1.1,b_1.1.1,())],x7.2.2.2) x8) none) (go x0 x1 x2 x3 (wrap .i64 (x4+1)) x5 x6 (x7.1,x7.2.1,x7.2.2.1++[(List.getD x8.2.1 x4.toNat 0,b.1.1,b_1.1.1,())],x7.2.2.2) x8)) none) none) (K0 x0 x5 x6 x7)
def qke (D:DX)(n:Nat) (K0:List tq43→tq37→tq22→tq22→Option tq14):Nat→(List tq43)→Int→Int→Int→Int→tq37→tq22→tq22→tq24→Option tq14 | 0=>(fun x0 x1 x2 x3 x4 x5 x6 x7 x8=>none) | m+1=>(fun x0 x1 x2 x3 x4 x5 x6 x7 x8=>qyo D n (qke D n K0 m) K0 x0 x1 x2 x3 x4 x5 x6 x7 x8)
def qko (D:DX)(n:Nat) (d:List tq43) (c:tq37) (e a:tq22):Option tq14:=br (decide (c.1=10)) (qd (qek D c.2.2.1) fun b↦qd (qer D d b.1.1) fun b↦br (b.1.1 != 0) (some (((a.1,(0,[wrap .i64 (b.1.1 - 1)],()),a.2.2.1,()),true,()),())) (some (((a.1,(3,a.2.1.2.1,()),a.2.2.1,()),true,()),()))) (some (((a.1,(a.2.1.1,a.2.1.2.1,()),a.2.2.1,()),true,()),()))
def qvy (D:DX)(n:Nat):(List tq43)→(Int)→(Int)→(Int)→(Int)→tq37→tq22→tq22→tq24→Option tq14:=(fun x0 x1 x2 x3 x4 x5 x6 x7 x8=>qke D n (fun a b c d=>qko D n a b c d) n x0 x1 x2 x3 x4 x5 x6 x7 x8)
def q2n (D:DX)(n:Nat) (lp0:List tq43→Int→Int→Int→Int→tq37→tq22→tq22→tq24→Option tq14) (a0:tq37) (a1:List tq43):Option tq14:=qd (qlw D a0) fun b↦br (!b.1.1) (some (((false,(0,[],()),[],()),false,()),())) (qd (qw2 D a0 a1) fun b↦br (decide (b.1.1.2.2.1≥0)) (some (((false,(0,[],()),[],()),false,()),())) (qd (q25 D a0 a1) fun b_1↦br b_1.1.2.1 (some (((true,(b_1.1.1.1,b_1.1.1.2.1,()),[],()),true,()),())) (qd (qco D) fun b_2↦qd (qer D a1 b_2.1.1) fun b_3↦qd (qfe D a0.2.1) fun b_4↦qd (qer D a1 b_4.1.1) fun b_5↦br (decide (a0.1=9)) (qd (qfe D (wrap .i64 (b_3.1.1 - 1))) fun b_6↦qd (qer D a1 b_6.1.1) fun b_7↦br (bif bif decide (a0.1=1) then true else decide (a0.1=2) then true else decide (a0.1=3)) (qd (qrs D a0 a1 b_7.1.1 b_3.1.1) fun b↦some (((false,(0,[],()),b.1.1,()),true,()),())) (qd (qjg D b.1.1.2.1) fun b_8↦lp0 a1 b_3.1.1 b_7.1.1 (b_8.2.1.length:Int) 0 a0 (false,(0,[],()),[],()) (false,(0,[],()),[],()) (b.1.1.1,b_8.2.1,b.1.1.2.2))) (br (bif bif decide (a0.1=1) then true else decide (a0.1=2) then true else decide (a0.1=3)) (qd (qrs D a0 a1 b_5.1.1 b_3.1.1) fun b↦some (((false,(0,[],()),b.1.1,()),true,()),())) (qd (qjg D b.1.1.2.1) fun b_6↦lp0 a1 b_3.1.1 b_5.1.1 (b_6.2.1.length:Int) 0 a0 (false,(0,[],()),[],()) (false,(0,[],()),[],()) (b.1.1.1,b_6.2.1,b.1.1.2.2))))))
def q29 (D:DX)(n:Nat) (a0:tq37) (a1:List tq43):Option tq14:=q2n D n (qvy D n) a0 a1
def qyn (x0:List tq43) (x1 x2 x3 x4:Int) (x5:tq37) (x6 x7:tq22) (x8:tq24):St:=stq 154 [(1,AV.val yq24 x0),(2,AV.addr 2 []),(4,AV.addr 4 []),(9,AV.val yq34 x1),(11,AV.val yq34 x2),(13,AV.addr 13 []),(95,AV.brw 26 [Stp.snd,Stp.fst] 0),(96,AV.val yq34 x3),(97,AV.val yq34 x4)] [(2,Root.mk yq21 Mk.no x5 true),(4,Root.mk yq11 kq22 x6 true),(13,Root.mk yq11 kq22 x7 true),(26,Root.mk yq12 kq28 x8 true)]
def q6x (a:List tq43) (b:tq37) (c d:tq22):St:=stq 154 [(1,AV.val yq24 a),(2,AV.addr 2 []),(4,AV.addr 4 []),(13,AV.addr 13 [])] [(2,Root.mk yq21 Mk.no b true),(4,Root.mk yq11 kq22 c true),(13,Root.mk yq11 kq22 d true)]
theorem qbkw (D:DX)(n:Nat) (K:KT 160):∀ (m:Nat) (x0:List tq43) (x1 x2 x3 x4:Int) (x5:tq37) (x6 x7:tq22) (x8:tq24),LF D n 160 pq8 m (qyn x0 x1 x2 x3 x4 x5 x6 x7 x8) K=qke D n (fun a b c d=>K (Ex.exit 0) (q6x a b c d)) m x0 x1 x2 x3 x4 x5 x6 x7 x8:=eL9 (fun F=>qyo D n F (fun a b c d=>K (Ex.exit 0) (q6x a b c d))) (fun _ _ _ _ _ _ _ _ _ =>q7 ..) (fun _ _ _ _ _ _ _ _ _ _ =>by kernel_rfl) (fun _ _ _ _ _ _ _ _ _ _ =>rfl)
theorem qbhz (D:DX)(n:Nat) (x0) (x1) (x2) (x3) (x4) (x5) (x6) (x7) (x8):LF D n 160 pq8 n (qyn x0 x1 x2 x3 x4 x5 x6 x7 x8) (CF D n 160 [] pq8 (lF 160))=qvy D n x0 x1 x2 x3 x4 x5 x6 x7 x8 :=by rw[qbkw];kernel_rfl
theorem qbqh (D:DX)(n:Nat) (a0:tq37) (a1:List tq43):rF D n 160 (a0,(a1,()))=q29 D n a0 a1:=by
 have h:rF D n 160 (a0,(a1,()))=q2n D n (fun x0 x1 x2 x3 x4 x5 x6 x7 x8=>LF D n 160 pq8 n (qyn x0 x1 x2 x3 x4 x5 x6 x7 x8) (CF D n 160 [] pq8 (lF 160))) a0 a1:=by kernel_rfl
 rw[h]
 simp only[qbhz]
 rfl
end
end Go.G


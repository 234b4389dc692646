import Derived.Test.YtpmimbgkiindbaaGreatAV3
set_option linter.unusedVariables false
set_option linter.unusedSimpArgs false
set_option linter.unusedSectionVars false
open Go.IntKind (wrap)
namespace Go.G
open Go Go.V
abbrev DX:=Den ctx
abbrev KT (k:Nat):=Ex→St→Option (Out ctx k)
noncomputable abbrev LF (D:DX)(n:Nat)(k:Nat):=LQ (C:=ctx) qk7 D n k
noncomputable abbrev CF (D:DX)(n:Nat)(k:Nat):=CQ (C:=ctx) qk7 D n k
noncomputable abbrev KF (D:DX)(n:Nat)(k:Nat):=LK (C:=ctx) qk7 D n k
noncomputable abbrev lF (k:Nat):=qbry (C:=ctx) qk7 k
noncomputable abbrev rF (D:DX)(n:Nat)(k:Nat):=rfC (C:=ctx) qk7 D n k
noncomputable abbrev bF (k:Nat):=qv9 qk7 k
theorem eL2 {t0 t1 R:Type}{A B:Nat→t0→t1→R}(b:(t0→t1→R)→t0→t1→R)(h0:∀ x0 x1,A 0 x0 x1=B 0 x0 x1)(ha:∀ m x0 x1,A (m+1) x0 x1=b (A m) x0 x1)(hb:∀ m x0 x1,B (m+1) x0 x1=b (B m) x0 x1):∀ m x0 x1,A m x0 x1=B m x0 x1
| 0=>h0
| m+1=>fun x0 x1=>by rw[ha,hb,show A m=B m from funext fun x0=>funext fun x1=>eL2 b h0 ha hb m x0 x1]
theorem eL3 {t0 t1 t2 R:Type}{A B:Nat→t0→t1→t2→R}(b:(t0→t1→t2→R)→t0→t1→t2→R)(h0:∀ x0 x1 x2,A 0 x0 x1 x2=B 0 x0 x1 x2)(ha:∀ m x0 x1 x2,A (m+1) x0 x1 x2=b (A m) x0 x1 x2)(hb:∀ m x0 x1 x2,B (m+1) x0 x1 x2=b (B m) x0 x1 x2):∀ m x0 x1 x2,A m x0 x1 x2=B m x0 x1 x2
| 0=>h0
| m+1=>fun x0 x1 x2=>by rw[ha,hb,show A m=B m from funext fun x0=>funext fun x1=>funext fun x2=>eL3 b h0 ha hb m x0 x1 x2]
theorem eL4 {t0 t1 t2 t3 R:Type}{A B:Nat→t0→t1→t2→t3→R}(b:(t0→t1→t2→t3→R)→t0→t1→t2→t3→R)(h0:∀ x0 x1 x2 x3,A 0 x0 x1 x2 x3=B 0 x0 x1 x2 x3)(ha:∀ m x0 x1 x2 x3,A (m+1) x0 x1 x2 x3=b (A m) x0 x1 x2 x3)(hb:∀ m x0 x1 x2 x3,B (m+1) x0 x1 x2 x3=b (B m) x0 x1 x2 x3):∀ m x0 x1 x2 x3,A m x0 x1 x2 x3=B m x0 x1 x2 x3
| 0=>h0
| m+1=>fun x0 x1 x2 x3=>by rw[ha,hb,show A m=B m from funext fun x0=>funext fun x1=>funext fun x2=>funext fun x3=>eL4 b h0 ha hb m x0 x1 x2 x3]
theorem eL5 {t0 t1 t2 t3 t4 R:Type}{A B:Nat→t0→t1→t2→t3→t4→R}(b:(t0→t1→t2→t3→t4→R)→t0→t1→t2→t3→t4→R)(h0:∀ x0 x1 x2 x3 x4,A 0 x0 x1 x2 x3 x4=B 0 x0 x1 x2 x3 x4)(ha:∀ m x0 x1 x2 x3 x4,A (m+1) x0 x1 x2 x3 x4=b (A m) x0 x1 x2 x3 x4)(hb:∀ m x0 x1 x2 x3 x4,B (m+1) x0 x1 x2 x3 x4=b (B m) x0 x1 x2 x3 x4):∀ m x0 x1 x2 x3 x4,A m x0 x1 x2 x3 x4=B m x0 x1 x2 x3 x4
| 0=>h0
| m+1=>fun x0 x1 x2 x3 x4=>by rw[ha,hb,show A m=B m from funext fun x0=>funext fun x1=>funext fun x2=>funext fun x3=>funext fun x4=>eL5 b h0 ha hb m x0 x1 x2 x3 x4]
theorem eL6 {t0 t1 t2 t3 t4 t5 R:Type}{A B:Nat→t0→t1→t2→t3→t4→t5→R}(b:(t0→t1→t2→t3→t4→t5→R)→t0→t1→t2→t3→t4→t5→R)(h0:∀ x0 x1 x2 x3 x4 x5,A 0 x0 x1 x2 x3 x4 x5=B 0 x0 x1 x2 x3 x4 x5)(ha:∀ m x0 x1 x2 x3 x4 x5,A (m+1) x0 x1 x2 x3 x4 x5=b (A m) x0 x1 x2 x3 x4 x5)(hb:∀ m x0 x1 x2 x3 x4 x5,B (m+1) x0 x1 x2 x3 x4 x5=b (B m) x0 x1 x2 x3 x4 x5):∀ m x0 x1 x2 x3 x4 x5,A m x0 x1 x2 x3 x4 x5=B m x0 x1 x2 x3 x4 x5
| 0=>h0
| m+1=>fun x0 x1 x2 x3 x4 x5=>by rw[ha,hb,show A m=B m from funext fun x0=>funext fun x1=>funext fun x2=>funext fun x3=>funext fun x4=>funext fun x5=>eL6 b h0 ha hb m x0 x1 x2 x3 x4 x5]
theorem eL7 {t0 t1 t2 t3 t4 t5 t6 R:Type}{A B:Nat→t0→t1→t2→t3→t4→t5→t6→R}(b:(t0→t1→t2→t3→t4→t5→t6→R)→t0→t1→t2→t3→t4→t5→t6→R)(h0:∀ x0 x1 x2 x3 x4 x5 x6,A 0 x0 x1 x2 x3 x4 x5 x6=B 0 x0 x1 x2 x3 x4 x5 x6)(ha:∀ m x0 x1 x2 x3 x4 x5 x6,A (m+1) x0 x1 x2 x3 x4 x5 x6=b (A m) x0 x1 x2 x3 x4 x5 x6)(hb:∀ m x0 x1 x2 x3 x4 x5 x6,B (m+1) x0 x1 x2 x3 x4 x5 x6=b (B m) x0 x1 x2 x3 x4 x5 x6):∀ m x0 x1 x2 x3 x4 x5 x6,A m x0 x1 x2 x3 x4 x5 x6=B m x0 x1 x2 x3 x4 x5 x6
| 0=>h0
| m+1=>fun x0 x1 x2 x3 x4 x5 x6=>by rw[ha,hb,show A m=B m from funext fun x0=>funext fun x1=>funext fun x2=>funext fun x3=>funext fun x4=>funext fun x5=>funext fun x6=>eL7 b h0 ha hb m x0 x1 x2 x3 x4 x5 x6]
theorem eL9 {t0 t1 t2 t3 t4 t5 t6 t7 t8 R:Type}{A B:Nat→t0→t1→t2→t3→t4→t5→t6→t7→t8→R}(b:(t0→t1→t2→t3→t4→t5→t6→t7→t8→R)→t0→t1→t2→t3→t4→t5→t6→t7→t8→R)(h0:∀ x0 x1 x2 x3 x4 x5 x6 x7 x8,A 0 x0 x1 x2 x3 x4 x5 x6 x7 x8=B 0 x0 x1 x2 x3 x4 x5 x6 x7 x8)(ha:∀ m x0 x1 x2 x3 x4 x5 x6 x7 x8,A (m+1) x0 x1 x2 x3 x4 x5 x6 x7 x8=b (A m) x0 x1 x2 x3 x4 x5 x6 x7 x8)(hb:∀ m x0 x1 x2 x3 x4 x5 x6 x7 x8,B (m+1) x0 x1 x2 x3 x4 x5 x6 x7 x8=b (B m) x0 x1 x2 x3 x4 x5 x6 x7 x8):∀ m x0 x1 x2 x3 x4 x5 x6 x7 x8,A m x0 x1 x2 x3 x4 x5 x6 x7 x8=B m x0 x1 x2 x3 x4 x5 x6 x7 x8
| 0=>h0
| m+1=>fun x0 x1 x2 x3 x4 x5 x6 x7 x8=>by rw[ha,hb,show A m=B m from funext fun x0=>funext fun x1=>funext fun x2=>funext fun x3=>funext fun x4=>funext fun x5=>funext fun x6=>funext fun x7=>funext fun x8=>eL9 b h0 ha hb m x0 x1 x2 x3 x4 x5 x6 x7 x8]
abbrev pq0:List Dir:=[.r,.r,.l,.r,.l]
abbrev pq1:List Dir:=[.r,.r,.r,.l,.r,.l]
abbrev pq2:List Dir:=[.r,.l,.r,.l]
abbrev pq3:List Dir:=[.r,.r,.r,.r,.l,.r,.l]
abbrev pq4:List Dir:=[.r,.r,.r,.r,.r,.r,.l,.r,.l]
abbrev pq5:List Dir:=[.r,.r,.l,.r,.l,.r,.r,.r,.r,.r,.r,.r,.r,.r,.l,.r,.l]
abbrev pq6:List Dir:=[.r,.r,.r,.r,.r,.l,.r,.l]
abbrev pq7:List Dir:=[.r,.r,.r,.r,.r,.r,.r,.r,.r,.r,.r,.l,.r,.l]
abbrev pq8:List Dir:=[.r,.r,.r,.r,.r,.r,.r,.r,.l,.r,.l]
abbrev pq9:List Dir:=[.r,.r,.r,.r,.r,.r,.l,.r,.l,.l,.r,.l,.l,.r,.r,.l]
abbrev pq10:List Dir:=[.r,.l,.l,.r,.l,.l,.r,.l]
abbrev pq11:List Dir:=[.r,.l]
abbrev pq12:List Dir:=[.r,.r,.r,.l,.r,.l,.l,.r,.l,.l,.r,.r,.r,.l]
abbrev pq13:List Dir:=[.r,.r,.l,.r,.l,.l,.r,.l,.l,.r,.l,.r,.l]
abbrev pq14:List Dir:=[.r,.r,.l]
abbrev tq45:=Bool×Unit
abbrev tq44:=Int×Int×Unit
abbrev tq43:=(Int×Unit)×Unit
abbrev tq42:=tq45×Unit
abbrev tq41:=Int×List Int×Unit
abbrev tq40:=List Int×Int×Unit
abbrev tq39:=Unit×List Int×Unit
abbrev tq38:=Int×tq44
abbrev tq37:=(List Int×Unit)×Unit
abbrev tq36:=(Int×tq45)×Unit
abbrev tq35:=List Int×tq44
abbrev tq34:=Int×tq38
abbrev tq33:=List tq38×Unit
abbrev tq32:=tq35×Unit
abbrev tq31:=(tq40×Unit)×Unit
abbrev tq30:=Unit×tq33
abbrev tq29:=tq33×Unit
abbrev tq28:=tq32×Unit
abbrev tq27:=(tq40×tq45)×Unit
abbrev tq26:=(tq38×tq45)×Unit
abbrev tq25:=(Int×Unit)×tq32
abbrev tq24:=List tq44×List Int×Int×tq45
abbrev tq23:=tq24×Unit
abbrev tq22:=Bool×tq41×tq33
abbrev tq21:=Unit×tq23
abbrev tq20:=(tq40×Unit)×tq32
abbrev tq19:=tq23×Unit
abbrev tq18:=Int×Int×List tq38×tq41×Unit
abbrev tq17:=Int×tq38×Int×Int×Int×tq41×Unit
abbrev tq16:=(List (List tq38)×Unit)×tq32
abbrev tq15:=(tq40×List (List tq38)×List Int×Unit)×Unit
abbrev tq14:=(tq22×tq45)×Unit
abbrev tq13:=List tq38×Int×Bool×List tq44×List tq34×Unit
abbrev tq12:=List tq38×List tq18×Unit
abbrev tq11:=(tq13×Unit)×Unit
abbrev tq10:=(tq12×Unit)×Unit
abbrev tq9:=(tq12×tq45)×Unit
abbrev tq8:=(tq12×tq34×tq45)×Unit
abbrev tq7:=(tq34×tq34×Int×Unit)×tq12×Unit
abbrev tq6:=(tq12×tq34×tq34×Int×Unit)×Unit
abbrev tq5:=tq12×List tq13×Int×List tq17×List Int×tq40×Unit
abbrev tq4:=Unit×tq5×Unit
abbrev tq3:=(tq5×Unit)×Unit
abbrev tq2:=(Int×Unit)×tq5×Unit
abbrev tq1:=tq45×tq5×Unit
abbrev tq0:=(tq5×tq45)×Unit
end Go.G
namespace Go.G
open Go Go.V
noncomputable def qba6 (D:Den ctx) (a0:List Int):Option tq42:=D 9 (a0,())
noncomputable def qbb2 (D:Den ctx) (a0:List Int):Option tq42:=D 12 (a0,())
noncomputable def qpo (D:Den ctx) (a0:List Int):Option tq15:=D 13 (a0,())
noncomputable def qsu (D:Den ctx) (a0:tq40) (a1:List (List tq38)):Option tq0:=D 14 (a0,(a1,()))
noncomputable def qs8 (D:Den ctx) (a0:tq40) (a1:List (List tq38)):Option tq0:=D 15 (a0,(a1,()))
noncomputable def q9b (D:Den ctx) (a0:tq5) (a1:List Int):Option tq3:=D 16 (a0,(a1,()))
noncomputable def q4p (D:Den ctx) (a0:tq13):Option tq42:=D 17 (a0,())
noncomputable def qwg (D:Den ctx) (a0:tq40) (a1:Int):Option tq43:=D 34 (a0,(a1,()))
noncomputable def qeo (D:Den ctx) (a0:Int):Option tq43:=D 35 (a0,())
noncomputable def qpw (D:Den ctx) (a0 a1:List Int):Option tq42:=D 36 (a0,(a1,()))
noncomputable def qr0 (D:Den ctx) (a0:tq40) (a1:Int):Option tq43:=D 37 (a0,(a1,()))
noncomputable def qkn (D:Den ctx) (a0:tq40) (a1:tq38) (a2:tq41):Option tq31:=D 38 (a0,(a1,(a2,())))
noncomputable def q3n (D:Den ctx) (a0:tq5):Option tq27:=D 39 (a0,())
noncomputable def qfo (D:Den ctx) (a0:tq5):Option tq42:=D 40 (a0,())
noncomputable def q68 (D:Den ctx) (a0:List Int):Option tq28:=D 44 (a0,())
noncomputable def qqh (D:Den ctx) (a0:tq35):Option tq20:=D 45 (a0,())
noncomputable def qud (D:Den ctx) (a0:tq35):Option tq16:=D 46 (a0,())
noncomputable def qcd (D:Den ctx) (a0:tq35) (a1:Int):Option tq25:=D 47 (a0,(a1,()))
noncomputable def q2m (D:Den ctx) (a0:List Int) (a1 a2:Int):Option tq43:=D 48 (a0,(a1,(a2,())))
noncomputable def q3b (D:Den ctx) (a0:tq40) (a1:Int):Option tq9:=D 49 (a0,(a1,()))
noncomputable def qji (D:Den ctx) (a0:tq40):Option tq31:=D 50 (a0,())
noncomputable def q6u (D:Den ctx) (a0:List tq38):Option tq11:=D 51 (a0,())
noncomputable def q2v (D:Den ctx) (a0:tq40) (a1:Int):Option tq9:=D 52 (a0,(a1,()))
noncomputable def q3d (D:Den ctx) (a0:tq40):Option tq31:=D 53 (a0,())
noncomputable def q6j (D:Den ctx) (a0:List tq38):Option tq11:=D 54 (a0,())
noncomputable def qve (D:Den ctx) (a0:tq5):Option tq42:=D 55 (a0,())
noncomputable def qjd (D:Den ctx) (a0:tq5):Option tq3:=D 56 (a0,())
noncomputable def qtv (D:Den ctx) (a0:tq5) (a1:Int):Option tq0:=D 57 (a0,(a1,()))
noncomputable def qbp (D:Den ctx) (a0 a1 a2:Int):Option tq42:=D 58 (a0,(a1,(a2,())))
noncomputable def qki (D:Den ctx) (a0:tq12):Option tq42:=D 63 (a0,())
noncomputable def qdz (D:Den ctx) (a0:List tq38) (a1:Clo):Option tq42:=D 64 (a0,(a1,()))
noncomputable def qor (D:Den ctx) (a0:tq40):Option tq42:=D 66 (a0,())
noncomputable def ql2 (D:Den ctx) (a0 a1:List Int):Option tq42:=D 67 (a0,(a1,()))
noncomputable def qr1 (D:Den ctx) (a0:tq40):Option tq37:=D 68 (a0,())
noncomputable def qgh (D:Den ctx) (a0:List Int):Option tq37:=D 69 (a0,())
noncomputable def qcp (D:Den ctx):Option tq43:=D 70 ()
noncomputable def qo1 (D:Den ctx) (a0:tq40):Option tq42:=D 71 (a0,())
noncomputable def qdo (D:Den ctx) (a0:Int):Option tq43:=D 73 (a0,())
noncomputable def qiv (D:Den ctx) (a0:List Int) (a1:Int):Option tq43:=D 74 (a0,(a1,()))
noncomputable def qlb (D:Den ctx) (a0:Bool) (a1:Int):Option tq43:=D 75 (a0,(a1,()))
noncomputable def qgj (D:Den ctx) (a0:Int):Option tq42:=D 76 (a0,())
noncomputable def qcq (D:Den ctx) (a0:Int):Option tq43:=D 77 (a0,())
noncomputable def qru (D:Den ctx) (a0:tq40) (a1:tq38) (a2:tq41):Option tq42:=D 78 (a0,(a1,(a2,())))
noncomputable def qlp (D:Den ctx) (a0:tq17) (a1:Int) (a2:tq5):Option tq42:=D 79 (a0,(a1,(a2,())))
noncomputable def qj3 (D:Den ctx) (a0:tq38):Option tq42:=D 80 (a0,())
noncomputable def qxd (D:Den ctx) (a0:tq13) (a1:Int):Option tq42:=D 81 (a0,(a1,()))
noncomputable def q0q (D:Den ctx) (a0:tq5) (a1:Int):Option tq42:=D 82 (a0,(a1,()))
noncomputable def qz1 (D:Den ctx) (a0:tq5):Option tq42:=D 83 (a0,())
noncomputable def qig (D:Den ctx) (a0:tq41):Option ((tq41×Unit)×Unit):=D 85 (a0,())
noncomputable def qy6 (D:Den ctx):Option tq31:=D 90 ()
noncomputable def qw3 (D:Den ctx) (a0:tq40) (a1:Int):Option tq43:=D 91 (a0,(a1,()))
noncomputable def qn1 (D:Den ctx) (a0:tq35) (a1:List Int):Option tq25:=D 92 (a0,(a1,()))
noncomputable def qql (D:Den ctx) (a0:tq35):Option ((tq38×Unit)×tq32):=D 93 (a0,())
noncomputable def qjm (D:Den ctx) (a0:tq35):Option tq25:=D 94 (a0,())
noncomputable def qe7 (D:Den ctx) (a0:List tq38):Option tq29:=D 95 (a0,())
noncomputable def qyx (D:Den ctx) (a0:tq40):Option tq37:=D 96 (a0,())
noncomputable def qbo (D:Den ctx) (a0 a1 a2:Int):Option tq42:=D 97 (a0,(a1,(a2,())))
noncomputable def qqf (D:Den ctx) (a0:tq12):Option tq42:=D 98 (a0,())
noncomputable def qt4 (D:Den ctx) (a0:tq40):Option tq42:=D 99 (a0,())
noncomputable def q0l (D:Den ctx) (a0:tq5):Option tq42:=D 100 (a0,())
noncomputable def qww (D:Den ctx) (a0:tq13) (a1:Int):Option tq42:=D 101 (a0,(a1,()))
noncomputable def qw1 (D:Den ctx) (a0:tq5) (a1:Int):Option tq42:=D 102 (a0,(a1,()))
noncomputable def qke (D:Den ctx) (a0:tq12):Option tq10:=D 103 (a0,())
noncomputable def qhv (D:Den ctx) (a0:tq13):Option tq11:=D 104 (a0,())
noncomputable def qm4 (D:Den ctx) (a0:tq5) (a1:Int):Option tq4:=D 105 (a0,(a1,()))
noncomputable def qpk (D:Den ctx) (a0:tq5) (a1:Int):Option tq1:=D 106 (a0,(a1,()))
noncomputable def qz4 (D:Den ctx) (a0:tq18) (a1:Int):Option tq26:=D 107 (a0,(a1,()))
noncomputable def qdx (D:Den ctx) (a0:List tq18) (a1:Clo):Option tq42:=D 109 (a0,(a1,()))
noncomputable def qba0 (D:Den ctx) (a0:tq18):Option tq42:=D 110 (a0,())
noncomputable def q3p (D:Den ctx) (a0:tq18):Option tq42:=D 111 (a0,())
noncomputable def q18 (D:Den ctx) (a0:tq38) (a1:Int):Option tq42:=D 112 (a0,(a1,()))
noncomputable def qh9 (D:Den ctx) (a0:List tq38) (a1:Clo):Option tq43:=D 113 (a0,(a1,()))
noncomputable def qg4 (D:Den ctx) (a0:List Int) (a1:Int):Option tq42:=D 114 (a0,(a1,()))
noncomputable def qdn (D:Den ctx) (a0:Int):Option tq43:=D 115 (a0,())
noncomputable def qba3 (D:Den ctx) (a0:tq40) (a1:tq38) (a2:Int):Option tq42:=D 116 (a0,(a1,(a2,())))
noncomputable def q91 (D:Den ctx) (a0:tq40) (a1:tq38):Option ((List Int×tq45)×Unit):=D 117 (a0,(a1,()))
noncomputable def qqr (D:Den ctx) (a0:Int):Option tq42:=D 118 (a0,())
noncomputable def qrs (D:Den ctx) (a0:Int):Option tq42:=D 119 (a0,())
noncomputable def qfb (D:Den ctx) (a0:List tq38) (a1:Clo):Option tq42:=D 120 (a0,(a1,()))
noncomputable def q4m (D:Den ctx) (a0:tq38):Option tq42:=D 121 (a0,())
noncomputable def qcz (D:Den ctx) (a0:List tq44) (a1:Clo):Option tq42:=D 122 (a0,(a1,()))
noncomputable def q4n (D:Den ctx) (a0:tq44):Option tq42:=D 123 (a0,())
noncomputable def qrr (D:Den ctx) (a0:Int):Option tq42:=D 124 (a0,())
noncomputable def qik (D:Den ctx) (a0:Int):Option tq42:=D 125 (a0,())
noncomputable def qcy (D:Den ctx) (a0:List tq34) (a1:Clo):Option tq42:=D 126 (a0,(a1,()))
noncomputable def q4i (D:Den ctx) (a0:tq34) (a1:Int):Option tq42:=D 127 (a0,(a1,()))
noncomputable def qx0 (D:Den ctx) (a0:Int):Option tq42:=D 132 (a0,())
noncomputable def qhm (D:Den ctx) (a0:Int):Option tq42:=D 133 (a0,())
noncomputable def q5q (D:Den ctx) (a0:Int):Option tq43:=D 134 (a0,())
noncomputable def q0s (D:Den ctx) (a0:Int):Option tq43:=D 135 (a0,())
noncomputable def q7s (D:Den ctx) (a0:Int):Option tq43:=D 136 (a0,())
noncomputable def qz5 (D:Den ctx) (a0:tq40) (a1:Int):Option tq43:=D 137 (a0,(a1,()))
noncomputable def q0b (D:Den ctx) (a0:Int):Option tq43:=D 138 (a0,())
noncomputable def qr4 (D:Den ctx):Option tq43:=D 139 ()
noncomputable def q2z (D:Den ctx) (a0:tq18):Option tq42:=D 140 (a0,())
noncomputable def qbct (D:Den ctx) (a0:tq38) (a1:Int):Option tq42:=D 141 (a0,(a1,()))
noncomputable def qbn0 (D:Den ctx) (a0:tq18) (a1:Int):Option tq26:=D 142 (a0,(a1,()))
noncomputable def qjf (D:Den ctx) (a0:Int):Option tq42:=D 143 (a0,())
noncomputable def qbqt (D:Den ctx) (a0:tq5) (a1:tq17):Option tq42:=D 144 (a0,(a1,()))
noncomputable def qqu (D:Den ctx) (a0:Bool):Option tq43:=D 145 (a0,())
noncomputable def q06 (D:Den ctx) (a0:tq38):Option tq42:=D 146 (a0,())
noncomputable def q2g (D:Den ctx) (a0:tq5) (a1:Int):Option tq43:=D 147 (a0,(a1,()))
noncomputable def qf4 (D:Den ctx) (a0:List tq38):Option tq29:=D 148 (a0,())
noncomputable def qda (D:Den ctx) (a0:List tq38):Option tq29:=D 149 (a0,())
noncomputable def qgb (D:Den ctx) (a0:List tq44):Option ((List tq44×Unit)×Unit):=D 150 (a0,())
noncomputable def qgc (D:Den ctx) (a0:List tq34):Option ((List tq34×Unit)×Unit):=D 151 (a0,())
noncomputable def qbb4 (D:Den ctx) (a0:tq13):Option ((tq34×tq45)×Unit):=D 152 (a0,())
noncomputable def q2k (D:Den ctx) (a0:tq12) (a1:tq34):Option tq6:=D 153 (a0,(a1,()))
noncomputable def qo0 (D:Den ctx) (a0:tq13) (a1:tq34):Option tq11:=D 154 (a0,(a1,()))
noncomputable def qts (D:Den ctx) (a0:tq13) (a1:tq34):Option tq11:=D 155 (a0,(a1,()))
noncomputable def qbbc (D:Den ctx) (a0:tq13):Option tq11:=D 156 (a0,())
noncomputable def qi7 (D:Den ctx) (a0:tq5) (a1:Int) (a2:tq41):Option tq4:=D 157 (a0,(a1,(a2,())))
noncomputable def qjr (D:Den ctx) (a0:tq5) (a1:Int) (a2:tq41):Option tq4:=D 158 (a0,(a1,(a2,())))
noncomputable def q81 (D:Den ctx) (a0:tq38) (a1:List tq44):Option tq43:=D 159 (a0,(a1,()))
noncomputable def qt5 (D:Den ctx) (a0:tq38) (a1:List tq44):Option tq14:=D 160 (a0,(a1,()))
noncomputable def qw0 (D:Den ctx) (a0:tq12) (a1:Int) (a2:List tq38) (a3:tq41):Option tq8:=D 161 (a0,(a1,(a2,(a3,()))))
noncomputable def qh4 (D:Den ctx) (a0:List tq18) (a1:Clo):Option tq43:=D 162 (a0,(a1,()))
noncomputable def qjy (D:Den ctx) (a0:List tq38) (a1:Clo):Option tq43:=D 163 (a0,(a1,()))
noncomputable def qh5 (D:Den ctx) (a0:List tq44) (a1:Clo):Option tq43:=D 164 (a0,(a1,()))
noncomputable def qh6 (D:Den ctx) (a0:List tq34) (a1:Clo):Option tq43:=D 165 (a0,(a1,()))
noncomputable def qv2 (D:Den ctx) (a0:Int):Option tq42:=D 166 (a0,())
noncomputable def q0e (D:Den ctx) (a0:Int):Option tq43:=D 167 (a0,())
noncomputable def q4z (D:Den ctx) (a0:tq12) (a1:tq34):Option tq7:=D 168 (a0,(a1,()))
noncomputable def qh0 (D:Den ctx) (a0:tq5) (a1:Int):Option tq2:=D 169 (a0,(a1,()))
noncomputable def qw5 (D:Den ctx) (a0:tq38) (a1:List tq44):Option tq19:=D 170 (a0,(a1,()))
noncomputable def q3m (D:Den ctx) (a0:tq38) (a1:List tq44):Option ((tq41×tq45)×Unit):=D 171 (a0,(a1,()))
noncomputable def qev (D:Den ctx) (a0:List tq44) (a1:Int):Option tq36:=D 172 (a0,(a1,()))
noncomputable def qfi (D:Den ctx) (a0:Int):Option tq43:=D 173 (a0,())
noncomputable def qrx (D:Den ctx) (a0:tq38) (a1:List tq44) (a2 a3:Int):Option tq29:=D 174 (a0,(a1,(a2,(a3,()))))
noncomputable def qjg (D:Den ctx) (a0:List Int):Option tq39:=D 175 (a0,())
noncomputable def q3t (D:Den ctx) (a0:tq38) (a1 a2 a3 a4:Int):Option tq43:=D 176 (a0,(a1,(a2,(a3,(a4,())))))
noncomputable def q9x (D:Den ctx) (a0:tq38) (a1:Int):Option tq42:=D 177 (a0,(a1,()))
noncomputable def qh1 (D:Den ctx) (a0:tq24) (a1:tq38):Option tq21:=D 178 (a0,(a1,()))
noncomputable def qu (D:Den ctx) (a0:tq24) (a1:Int):Option ((Int×Unit)×tq23):=D 179 (a0,(a1,()))
noncomputable def qb8 (D:Den ctx) (a0:tq24) (a1:Bool):Option tq21:=D 180 (a0,(a1,()))
noncomputable def qcv (D:Den ctx) (a0 a1 a2:Int) (a3:List tq44) (a4:List tq38):Option tq30:=D 181 (a0,(a1,(a2,(a3,(a4,())))))
noncomputable def qc5 (D:Den ctx) (a0:List tq38) (a1:Clo):Option tq30:=D 182 (a0,(a1,()))
noncomputable def q6x (D:Den ctx) (a0 a1:tq38):Option tq43:=D 183 (a0,(a1,()))
noncomputable def qj (D:Den ctx) (a0:List Int) (a1 a2 a3:Int):Option tq39:=D 184 (a0,(a1,(a2,(a3,()))))
noncomputable def qp6 (D:Den ctx) (a0:Int):Option tq43:=D 185 (a0,())
noncomputable def qgs (D:Den ctx) (a0:tq24) (a1:Int) (a2:List Int):Option tq21:=D 186 (a0,(a1,(a2,())))
noncomputable def qf (D:Den ctx) (a0:List tq38) (a1 a2 a3:Int) (a4:Clo):Option tq30:=D 187 (a0,(a1,(a2,(a3,(a4,())))))
noncomputable def qj2 (D:Den ctx) (a0:List Int) (a1 a2:Int):Option tq39:=D 188 (a0,(a1,(a2,())))
noncomputable def q0w (D:Den ctx) (a0:List Int) (a1 a2:Int):Option tq39:=D 189 (a0,(a1,(a2,())))
noncomputable def qtp (D:Den ctx) (a0:List Int) (a1 a2:Int):Option tq39:=D 190 (a0,(a1,(a2,())))
noncomputable def qkz (D:Den ctx) (a0:List Int) (a1 a2:Int):Option (tq44×Unit):=D 191 (a0,(a1,(a2,())))
noncomputable def qkj (D:Den ctx) (a0:List Int) (a1 a2:Int):Option tq39:=D 192 (a0,(a1,(a2,())))
noncomputable def qc2 (D:Den ctx) (a0:List Int) (a1 a2:Int):Option (tq45×List Int×Unit):=D 193 (a0,(a1,(a2,())))
noncomputable def qdr (D:Den ctx) (a0 a1:Int):Option tq42:=D 194 (a0,(a1,()))
noncomputable def qbr (D:Den ctx) (a0:List Int) (a1 a2 a3:Int):Option ((Int×Unit)×List Int×Unit):=D 195 (a0,(a1,(a2,(a3,()))))
noncomputable def qw (D:Den ctx) (a0:List Int) (a1 a2 a3:Int):Option ((Int×tq45)×List Int×Unit):=D 196 (a0,(a1,(a2,(a3,()))))
noncomputable def q4j (D:Den ctx) (a0:Int):Option tq43:=D 198 (a0,())
noncomputable def qhr (D:Den ctx) (a0:List tq38) (a1 a2:Int) (a3:Clo):Option tq30:=D 199 (a0,(a1,(a2,(a3,()))))
noncomputable def qr8 (D:Den ctx) (a0:List tq38) (a1 a2:Int) (a3:Clo):Option tq30:=D 200 (a0,(a1,(a2,(a3,()))))
noncomputable def qn2 (D:Den ctx) (a0:List tq38) (a1 a2:Int) (a3:Clo):Option tq30:=D 201 (a0,(a1,(a2,(a3,()))))
noncomputable def qic (D:Den ctx) (a0:List tq38) (a1 a2:Int) (a3:Clo):Option (tq44×Unit):=D 202 (a0,(a1,(a2,(a3,()))))
noncomputable def qhx (D:Den ctx) (a0:List tq38) (a1 a2:Int) (a3:Clo):Option tq30:=D 203 (a0,(a1,(a2,(a3,()))))
noncomputable def qce (D:Den ctx) (a0:List tq38) (a1 a2:Int) (a3:Clo):Option (tq45×tq33):=D 204 (a0,(a1,(a2,(a3,()))))
noncomputable def qbb (D:Den ctx) (a0:List tq38) (a1 a2 a3:Int) (a4:Clo):Option ((Int×Unit)×tq33):=D 205 (a0,(a1,(a2,(a3,(a4,())))))
noncomputable def qn (D:Den ctx) (a0:List tq38) (a1 a2 a3:Int) (a4:Clo):Option ((Int×tq45)×tq33):=D 206 (a0,(a1,(a2,(a3,(a4,())))))
noncomputable def qxa (D:Den ctx) (a0:Int):Option tq42:=D 212 (a0,())
end Go.G

namespace Go.G
set_option maxRecDepth 100000
set_option maxHeartbeats 0
open Go Go.V
noncomputable section
def qwr (D:DX)(n:Nat) (go:Int→tq5→tq40→Option tq42) (K0:Bool→tq5→tq40→Option tq42) (K1:tq5→tq40→Option tq42) (x0:Int) (x1:tq5) (x2:tq40):Option tq42:=let y0:=List.getD x1.2.2.2.1 (Int.toNat (List.getD x1.2.2.2.2.1 x0.toNat 0)) (0,(0,0,0,()),0,0,0,(0,[],()),());let y2:Option tq42:=qd (qkn D x2 y0.2.1 y0.2.2.2.2.2.1) fun b↦go (wrap .i64 (x0+1)) x1 (b.1.1.1,b.1.1.2);let y1:Option tq42:=br (decide (y0.2.1.1=6)) (br ((y0.2.2.2.2.2.1.2.1.length:Int) != 1) (K0 false x1 x2) (br (decide (0≤0)&&decide (0<(y0.2.2.2.2.2.1.2.1.length:Int))) (qd (qr0 D x2 y0.2.1.2.1) fun b↦br (List.getD y0.2.2.2.2.2.1.2.1 (Int.toNat 0) 0 != b.1.1) (K0 false x1 x2) y2) none)) y2;br (decide (x0<(x1.2.2.2.2.1.length:Int))) (br (decide (0≤x0)&&decide (x0<(x1.2.2.2.2.1.length:Int))) (br (decide (0≤List.getD x1.2.2.2.2.1 x0.toNat 0)&&decide (List.getD x1.2.2.2.2.1 x0.toNat 0<(x1.2.2.2.1.length:Int))) (br (decide (y0.2.1.1=7)) (br (y0.2.2.2.2.2.1.1 != 0) (K0 false x1 x2) (qd (qpw D y0.2.2.2.2.2.1.2.1 x2.1) fun b↦br (!b.1.1) (K0 false x1 x2) y1)) y1) none) none) (K1 x1 x2)
def qjk (D:DX)(n:Nat) (K0:Bool→tq5→tq40→Option tq42) (K1:tq5→tq40→Option tq42):Nat→Int→tq5→tq40→Option tq42 | 0=>(fun x0 x1 x2=>none) | m+1=>(fun x0 x1 x2=>qwr D n (qjk D n K0 K1 m) K0 K1 x0 x1 x2)
def qbf7 (D:DX)(n:Nat) (a:Bool) (b:tq5) (c:tq40):Option tq42:=some ((a,()),())
def q4q (D:DX)(n:Nat) (c:tq5) (a:tq40):Option tq42:=qd (q3n D c) fun b↦br b.1.2.1 (qd (qpw D a.1 b.1.1.1) fun b_1↦some ((bif b_1.1.1 then decide (a.2.1=b.1.1.2.1) else false,()),())) (some ((false,()),()))
def quw (D:DX)(n:Nat):(Int)→tq5→tq40→Option tq42:=(fun x0 x1 x2=>qjk D n (fun a b c=>qbf7 D n a b c) (fun d e=>q4q D n d e) n x0 x1 x2)
def qzl (D:DX)(n:Nat) (lp0:Int→tq5→tq40→Option tq42) (a0:List Int):Option tq42:=qd (qbb2 D a0) fun b↦br b.1.1 (some ((true,()),())) (qd (qpo D a0) fun b↦qd (qsu D b.1.1 b.1.2.1) fun b_1↦qd (qs8 D b.1.1 b.1.2.1) fun b_2↦br (bif !decide (b_1.1.2.1=b_2.1.2.1) then true else !b_1.1.2.1) (some ((false,()),())) (qd (q9b D b_1.1.1 b.1.2.2.1) fun b↦lp0 0 b.1.1 b.1.1.2.2.2.2.2.1))
def qzu (D:DX)(n:Nat) (a0:List Int):Option tq42:=qzl D n (quw D n) a0
def qwb (x0:Int) (x1:tq5) (x2:tq40):St:=stq 132 [(10,AV.addr 10 []),(11,AV.addr 11 []),(12,AV.val yq34 x0)] [(10,Root.mk yq0 Mk.no x1 true),(11,Root.mk yq25 Mk.no x2 true)]
def q39 (a:Bool) (b:tq5) (c:tq40):St:=stq 132 [(2,AV.val Ty.bool a),(10,AV.addr 10 []),(11,AV.addr 11 [])] [(10,Root.mk yq0 Mk.no b true),(11,Root.mk yq25 Mk.no c true)]
def q34 (a:tq5) (b:tq40):St:=stq 132 [(10,AV.addr 10 []),(11,AV.addr 11 [])] [(10,Root.mk yq0 Mk.no a true),(11,Root.mk yq25 Mk.no b true)]
theorem qbjs (D:DX)(n:Nat) (K:KT 9):∀ (m:Nat) (x0:Int) (x1:tq5) (x2:tq40),LF D n 9 pq8 m (qwb x0 x1 x2) K=qjk D n (fun a b c=>K (Ex.ret) (q39 a b c)) (fun d e=>K (Ex.exit 0) (q34 d e)) m x0 x1 x2:=eL3 (fun F=>qwr D n F (fun a b c=>K (Ex.ret) (q39 a b c)) (fun d e=>K (Ex.exit 0) (q34 d e))) (fun _ _ _ =>q7 ..) (fun _ _ _ _ =>by kernel_rfl) (fun _ _ _ _ =>rfl)
theorem qbhb (D:DX)(n:Nat) (x0) (x1) (x2):LF D n 9 pq8 n (qwb x0 x1 x2) (CF D n 9 [] pq8 (lF 9))=quw D n x0 x1 x2 :=by rw[qbjs];kernel_rfl
theorem qbow (D:DX)(n:Nat) (a0:List Int):rF D n 9 (a0,())=qzu D n a0:=by
 have h:rF D n 9 (a0,())=qzl D n (fun x0 x1 x2=>LF D n 9 pq8 n (qwb x0 x1 x2) (CF D n 9 [] pq8 (lF 9))) a0:=by kernel_rfl
 rw[h]
 simp only[qbhb]
 rfl

def qbxz (D:DX)(n:Nat) (a0:List Int):Option tq42:=some ((decide ((a0.length:Int)>1048576),()),())
def qbmc (D:DX)(n:Nat) (a0:List Int):Option tq42:=qbxz D n a0
theorem qbxs (D:DX)(n:Nat) (a0:List Int):rF D n 12 (a0,())=qbmc D n a0:=by kernel_rfl

def qn6 (D:DX)(n:Nat) (go:Int→Int→Int→Int→tq40→tq40→List (List tq38)→List Int→tq35→Option tq15) (K0:Int→Int→tq40→tq40→List (List tq38)→List Int→tq35→Option tq15) (c d e f:Int) (g h:tq40) (i:List (List tq38)) (a:List Int) (j:tq35):Option tq15:=qd (qcd D j 6) fun b↦br (decide (f<wrap .i64 (1+b.1.1))) (br (decide (a.length+1≤qb7)) (go c d e (wrap .i64 (f+1)) g h i (a++[e]) b.2.1) none) (K0 c d g h i a b.2.1)
def qhq (D:DX)(n:Nat) (K0:Int→Int→tq40→tq40→List (List tq38)→List Int→tq35→Option tq15):Nat→Int→Int→Int→Int→tq40→tq40→(List (List tq38))→(List Int)→tq35→Option tq15 | 0=>(fun a b c d e f g h i=>none) | m+1=>(fun a b c d e f g h i=>qn6 D n (qhq D n K0 m) K0 a b c d e f g h i)
def ql6 (D:DX)(n:Nat) (go:Int→Int→tq40→tq40→List (List tq38)→List Int→tq35→Option tq15) (K0:tq40→tq40→List (List tq38)→List Int→Option tq15) (a b:Int) (c d:tq40) (e:List (List tq38)) (f:List Int) (g:tq35):Option tq15:=go a (wrap .i64 (b+1)) c d e f g
def qmi (D:DX)(n:Nat) (go:Int→Int→tq40→tq40→List (List tq38)→List Int→tq35→Option tq15) (K0:tq40→tq40→List (List tq38)→List Int→Option tq15):(Int)→(Int)→(Int)→(Int)→tq40→tq40→(List (List tq38))→(List Int)→tq35→Option tq15:=(fun a i j k l m o p q=>qhq D n (fun b c d e f g h=>ql6 D n go K0 b c d e f g h) n a i j k l m o p q)
def qno (D:DX)(n:Nat) (go:Int→Int→tq40→tq40→List (List tq38)→List Int→tq35→Option tq15) (K0:tq40→tq40→List (List tq38)→List Int→Option tq15) (lp1:Int→Int→Int→Int→tq40→tq40→List (List tq38)→List Int→tq35→Option tq15) (x0 x1:Int) (x2 x3:tq40) (x4:List (List tq38)) (x5:List Int) (x6:tq35):Option tq15:=br (decide (x1<x0)) (qd (qcd D x6 (x4.length:Int)) fun b↦lp1 x0 x1 b.1.1 0 x2 x3 x4 x5 b.2.1) (K0 x2 x3 x4 x5)
def qdc (D:DX)(n:Nat) (K0:tq40→tq40→List (List tq38)→List Int→Option tq15):Nat→Int→Int→tq40→tq40→(List (List tq38))→(List Int)→tq35→Option tq15 | 0=>(fun x0 x1 x2 x3 x4 x5 x6=>none) | m+1=>(fun x0 x1 x2 x3 x4 x5 x6=>qno D n (qdc D n K0 m) K0 (qmi D n (qdc D n K0 m) K0) x0 x1 x2 x3 x4 x5 x6)
def qtw (D:DX)(n:Nat) (d a:tq40) (b:List (List tq38)) (c:List Int):Option tq15:=some (((a.1,a.2),b,c,()),())
def qm2 (D:DX)(n:Nat):(Int)→(Int)→tq40→tq40→(List (List tq38))→(List Int)→tq35→Option tq15:=(fun x0 x1 x2 x3 x4 x5 x6=>qdc D n (fun a b c d=>qtw D n a b c d) n x0 x1 x2 x3 x4 x5 x6)
def qps (D:DX)(n:Nat) (lp0:Int→Int→tq40→tq40→List (List tq38)→List Int→tq35→Option tq15) (a0:List Int):Option tq15:=qd (q68 D a0) fun b↦qd (qqh D b.1.1) fun b↦qd (qud D b.2.1) fun b_1↦qd (q2m D a0 60 120) fun b_2↦qd (qcd D b_1.2.1 b_2.1.1) fun b_3↦lp0 b_3.1.1 0 ([],0,()) (b.1.1.1,b.1.1.2) b_1.1.1 [] b_3.2.1
def qpl (D:DX)(n:Nat) (a0:List Int):Option tq15:=qps D n (qm2 D n) a0
def qee (x0 x1:Int) (x2 x3:tq40) (x4:List (List tq38)) (x5:List Int) (x6:tq35):St:=stq 47 [(2,AV.addr 2 []),(5,AV.addr 14 []),(6,AV.addr 6 []),(7,AV.brw 7 [] 0),(8,AV.brw 8 [] 0),(9,AV.val yq34 x0),(10,AV.val yq34 x1)] [(2,Root.mk yq25 kq29 x2 true),(6,Root.mk yq25 kq29 x3 true),(7,Root.mk yq18 kq31 x4 false),(8,Root.mk yq30 kq37 x5 false),(14,Root.mk yq20 Mk.no x6 true)]
def qiw (a b:tq40) (c:List (List tq38)) (d:List Int):St:=stq 47 [(2,AV.addr 2 []),(6,AV.addr 6 []),(7,AV.brw 7 [] 0),(8,AV.brw 8 [] 0)] [(2,Root.mk yq25 kq29 a true),(6,Root.mk yq25 kq29 b true),(7,Root.mk yq18 kq31 c false),(8,Root.mk yq30 kq37 d false)]
def qnn (a b c d:Int) (e f:tq40) (g:List (List tq38)) (h:List Int) (i:tq35):St:=stq 47 [(2,AV.addr 2 []),(5,AV.addr 14 []),(6,AV.addr 6 []),(7,AV.brw 7 [] 0),(8,AV.brw 8 [] 0),(9,AV.val yq34 a),(10,AV.val yq34 b),(11,AV.val yq34 c),(12,AV.val yq34 d)] [(2,Root.mk yq25 kq29 e true),(6,Root.mk yq25 kq29 f true),(7,Root.mk yq18 kq31 g false),(8,Root.mk yq30 kq37 h false),(14,Root.mk yq20 Mk.no i true)]
def qtu (a b:Int) (c d:tq40) (e:List (List tq38)) (f:List Int) (g:tq35):St:=stq 47 [(2,AV.addr 2 []),(5,AV.addr 14 []),(6,AV.addr 6 []),(7,AV.brw 7 [] 0),(8,AV.brw 8 [] 0),(9,AV.val yq34 a),(10,AV.val yq34 b)] [(2,Root.mk yq25 kq29 c true),(6,Root.mk yq25 kq29 d true),(7,Root.mk yq18 kq31 e false),(8,Root.mk yq30 kq37 f false),(14,Root.mk yq20 Mk.no g true)]
theorem q92 (D:DX)(n:Nat) (K:KT 13):∀ (m:Nat) (h i j k:Int) (l o:tq40) (p:List (List tq38)) (q:List Int) (r:tq35),LF D n 13 pq9 m (qnn h i j k l o p q r) K=qhq D n (fun a b c d e f g=>K (Ex.exit 2) (qtu a b c d e f g)) m h i j k l o p q r:=eL9 (fun F=>qn6 D n F (fun a b c d e f g=>K (Ex.exit 2) (qtu a b c d e f g))) (fun _ _ _ _ _ _ _ _ _ =>q7 ..) (fun _ _ _ _ _ _ _ _ _ _ =>by kernel_rfl) (fun _ _ _ _ _ _ _ _ _ _ =>rfl)
theorem q80 (D:DX)(n:Nat) (m:Nat) (K:KT 13) (a b c d:Int) (e f:tq40) (g:List (List tq38)) (h:List Int) (i:tq35):LF D n 13 pq9 n (qnn a b c d e f g h i) (CF D n 13 [.r,.r,.r,.r,.r,.r,.l,.r,.l,.l] [.r,.l,.l,.r,.r,.l] (KF D n 13 pq4 m K))=qmi D n (fun x0 x1 x2 x3 x4 x5 x6=>LF D n 13 pq4 m (qee x0 x1 x2 x3 x4 x5 x6) K) (fun j k o p=>K (Ex.exit 0) (qiw j k o p)) a b c d e f g h i :=by rw[q92];kernel_rfl
theorem q94 (D:DX)(n:Nat) (m:Nat) (K:KT 13) (x0) (x1) (x2) (x3) (x4:List (List tq38)) (x5) (x6):LF D n 13 pq4 (m+1) (qee x0 x1 x2 x3 x4 x5 x6) K=qno D n (fun x0 x1 x2 x3 x4 x5 x6=>LF D n 13 pq4 m (qee x0 x1 x2 x3 x4 x5 x6) K) (fun a b c d=>K (Ex.exit 0) (qiw a b c d)) (fun e f g h i j k o p=>LF D n 13 pq9 n (qnn e f g h i j k o p) (CF D n 13 [.r,.r,.r,.r,.r,.r,.l,.r,.l,.l] [.r,.l,.l,.r,.r,.l] (KF D n 13 pq4 m K))) x0 x1 x2 x3 x4 x5 x6:=by kernel_rfl
theorem qvm (D:DX)(n:Nat) (K:KT 13):∀ (m:Nat) (x0 x1:Int) (x2 x3:tq40) (x4:List (List tq38)) (x5:List Int) (x6:tq35),LF D n 13 pq4 m (qee x0 x1 x2 x3 x4 x5 x6) K=qdc D n (fun a b c d=>K (Ex.exit 0) (qiw a b c d)) m x0 x1 x2 x3 x4 x5 x6
 | 0,x0,x1,x2,x3,x4,x5,x6=>q7 ..
 | m+1,x0,x1,x2,x3,x4,x5,x6=>by
  have ih:(fun x0 x1 x2 x3 x4 x5 x6=>LF D n 13 pq4 m (qee x0 x1 x2 x3 x4 x5 x6) K)=qdc D n (fun a b c d=>K (Ex.exit 0) (qiw a b c d)) m:=by funext x0 x1 x2 x3 x4 x5 x6;exact qvm D n K m x0 x1 x2 x3 x4 x5 x6
  rw[q94]
  simp only[q80]
  rw[ih];rfl
theorem q9i (D:DX)(n:Nat) (x0) (x1) (x2) (x3) (x4:List (List tq38)) (x5) (x6):LF D n 13 pq4 n (qee x0 x1 x2 x3 x4 x5 x6) (CF D n 13 [] pq4 (lF 13))=qm2 D n x0 x1 x2 x3 x4 x5 x6 :=by rw[qvm];kernel_rfl
theorem qbc9 (D:DX)(n:Nat) (a0:List Int):rF D n 13 (a0,())=qpl D n a0:=by
 have h:rF D n 13 (a0,())=qps D n (fun x0 x1 x2 x3 x4 x5 x6=>LF D n 13 pq4 n (qee x0 x1 x2 x3 x4 x5 x6) (CF D n 13 [] pq4 (lF 13))) a0:=by kernel_rfl
 rw[h]
 simp only[q9i]
 rfl

def qq0 (D:DX)(n:Nat) (go:Bool→List (List tq38)→Int→Int→tq5→tq5→Option tq0) (K0:Bool→tq5→tq5→Option tq0) (x0:Bool) (x1:List (List tq38)) (x2 x3:Int) (x4 x5:tq5):Option tq0:=br (decide (x3<x2)) (br (decide (0≤x3)&&decide (x3<(x1.length:Int))) (qd (q6u D (List.getD x1 x3.toNat [])) fun b↦br (decide (x5.2.1.length+1≤qb7)) (go x0 x1 x2 (wrap .i64 (x3+1)) x4 (x5.1,x5.2.1++[(b.1.1.1,b.1.1.2.1,b.1.1.2.2.1,b.1.1.2.2.2.1,b.1.1.2.2.2.2.1,())],x5.2.2)) none) none) (K0 x0 x4 x5)
def qi1 (D:DX)(n:Nat) (K0:Bool→tq5→tq5→Option tq0):Nat→Bool→(List (List tq38))→Int→Int→tq5→tq5→Option tq0 | 0=>(fun x0 x1 x2 x3 x4 x5=>none) | m+1=>(fun x0 x1 x2 x3 x4 x5=>qq0 D n (qi1 D n K0 m) K0 x0 x1 x2 x3 x4 x5)
def qxz (D:DX)(n:Nat) (c:Bool) (d a:tq5):Option tq0:=br (!c) (some (((([],[],()),[],0,[],[],([],0,()),()),false,()),())) (qd (qfo D ((a.1.1,a.1.2.1,()),a.2.1,a.2.2.1,a.2.2.2.1,a.2.2.2.2.1,(a.2.2.2.2.2.1.1,a.2.2.2.2.2.1.2),())) fun b↦br (!b.1.1) (some (((([],[],()),[],0,[],[],([],0,()),()),false,()),())) (some ((((a.1.1,a.1.2.1,()),a.2.1,a.2.2.1,a.2.2.2.1,a.2.2.2.2.1,(a.2.2.2.2.2.1.1,a.2.2.2.2.2.1.2),()),true,()),())))
def qpa (D:DX)(n:Nat):(Bool)→(List (List tq38))→(Int)→(Int)→tq5→tq5→Option tq0:=(fun x0 x1 x2 x3 x4 x5=>qi1 D n (fun a b c=>qxz D n a b c) n x0 x1 x2 x3 x4 x5)
def qtf (D:DX)(n:Nat) (lp0:Bool→List (List tq38)→Int→Int→tq5→tq5→Option tq0) (a0:tq40) (a1:List (List tq38)):Option tq0:=qd (q3b D a0 (a1.length:Int)) fun b↦qd (qji D a0) fun b_1↦lp0 b.1.2.1 a1 (a1.length:Int) 0 (([],[],()),[],0,[],[],([],0,()),()) ((b.1.1.1,b.1.1.2.1,()),[],0,[],[],(b_1.1.1.1,b_1.1.1.2),())
def qtc (D:DX)(n:Nat) (a0:tq40) (a1:List (List tq38)):Option tq0:=qtf D n (qpa D n) a0 a1
def qq6 (x0:Bool) (x1:List (List tq38)) (x2 x3:Int) (x4 x5:tq5):St:=stq 45 [(4,AV.addr 4 []),(7,AV.val Ty.bool x0),(8,AV.addr 8 []),(22,AV.val yq18 x1),(23,AV.val yq34 x2),(24,AV.val yq34 x3)] [(4,Root.mk yq0 kq1 x4 true),(8,Root.mk yq0 kq2 x5 true)]
def qw2 (a:Bool) (b c:tq5):St:=stq 45 [(4,AV.addr 4 []),(7,AV.val Ty.bool a),(8,AV.addr 8 [])] [(4,Root.mk yq0 kq1 b true),(8,Root.mk yq0 kq2 c true)]
theorem qbc8 (D:DX)(n:Nat) (K:KT 14):∀ (m:Nat) (x0:Bool) (x1:List (List tq38)) (x2 x3:Int) (x4 x5:tq5),LF D n 14 pq1 m (qq6 x0 x1 x2 x3 x4 x5) K=qi1 D n (fun a b c=>K (Ex.exit 0) (qw2 a b c)) m x0 x1 x2 x3 x4 x5:=eL6 (fun F=>qq0 D n F (fun a b c=>K (Ex.exit 0) (qw2 a b c))) (fun _ _ _ _ _ _ =>q7 ..) (fun _ _ _ _ _ _ _ =>by kernel_rfl) (fun _ _ _ _ _ _ _ =>rfl)
theorem qbbq (D:DX)(n:Nat) (x0) (x1:List (List tq38)) (x2) (x3) (x4) (x5):LF D n 14 pq1 n (qq6 x0 x1 x2 x3 x4 x5) (CF D n 14 [] pq1 (lF 14))=qpa D n x0 x1 x2 x3 x4 x5 :=by rw[qbc8];kernel_rfl
theorem qbgc (D:DX)(n:Nat) (a0:tq40) (a1:List (List tq38)):rF D n 14 (a0,(a1,()))=qtc D n a0 a1:=by
 have h:rF D n 14 (a0,(a1,()))=qtf D n (fun x0 x1 x2 x3 x4 x5=>LF D n 14 pq1 n (qq6 x0 x1 x2 x3 x4 x5) (CF D n 14 [] pq1 (lF 14))) a0 a1:=by kernel_rfl
 rw[h]
 simp only[qbbq]
 rfl

def qrf (D:DX)(n:Nat) (go:List (List tq38)→Bool→Int→tq5→tq5→Option tq0) (K0:Bool→tq5→tq5→Option tq0) (x0:List (List tq38)) (x1:Bool) (x2:Int) (x3 x4:tq5):Option tq0:=br (decide (x2<(x0.length:Int))) (br (decide (0≤x2)&&decide (x2<(x0.length:Int))) (qd (q6j D (List.getD x0 x2.toNat [])) fun b↦br (decide (x4.2.1.length+1≤qb7)) (go x0 x1 (wrap .i64 (x2+1)) x3 (x4.1,x4.2.1++[(b.1.1.1,b.1.1.2.1,b.1.1.2.2.1,b.1.1.2.2.2.1,b.1.1.2.2.2.2.1,())],x4.2.2)) none) none) (K0 x1 x3 x4)
def qi2 (D:DX)(n:Nat) (K0:Bool→tq5→tq5→Option tq0):Nat→(List (List tq38))→Bool→Int→tq5→tq5→Option tq0 | 0=>(fun x0 x1 x2 x3 x4=>none) | m+1=>(fun x0 x1 x2 x3 x4=>qrf D n (qi2 D n K0 m) K0 x0 x1 x2 x3 x4)
def qwe (D:DX)(n:Nat) (c:Bool) (d a:tq5):Option tq0:=br (!c) (some (((([],[],()),[],0,[],[],([],0,()),()),false,()),())) (qd (qve D ((a.1.1,a.1.2.1,()),a.2.1,a.2.2.1,a.2.2.2.1,a.2.2.2.2.1,(a.2.2.2.2.2.1.1,a.2.2.2.2.2.1.2),())) fun b↦br (!b.1.1) (some (((([],[],()),[],0,[],[],([],0,()),()),false,()),())) (some ((((a.1.1,a.1.2.1,()),a.2.1,a.2.2.1,a.2.2.2.1,a.2.2.2.2.1,(a.2.2.2.2.2.1.1,a.2.2.2.2.2.1.2),()),true,()),())))
def qpd (D:DX)(n:Nat):(List (List tq38))→(Bool)→(Int)→tq5→tq5→Option tq0:=(fun x0 x1 x2 x3 x4=>qi2 D n (fun a b c=>qwe D n a b c) n x0 x1 x2 x3 x4)
def qs7 (D:DX)(n:Nat) (lp0:List (List tq38)→Bool→Int→tq5→tq5→Option tq0) (a0:tq40) (a1:List (List tq38)):Option tq0:=qd (q2v D a0 (a1.length:Int)) fun b↦qd (q3d D a0) fun b_1↦lp0 a1 b.1.2.1 0 (([],[],()),[],0,[],[],([],0,()),()) ((b.1.1.1,b.1.1.2.1,()),[],0,[],[],(b_1.1.1.1,b_1.1.1.2),())
def qsk (D:DX)(n:Nat) (a0:tq40) (a1:List (List tq38)):Option tq0:=qs7 D n (qpd D n) a0 a1
def qq7 (x0:List (List tq38)) (x1:Bool) (x2:Int) (x3 x4:tq5):St:=stq 46 [(1,AV.val yq18 x0),(4,AV.addr 4 []),(7,AV.val Ty.bool x1),(8,AV.addr 8 []),(9,AV.val yq34 x2)] [(4,Root.mk yq0 kq1 x3 true),(8,Root.mk yq0 kq1 x4 true)]
def qxo (a:Bool) (b c:tq5):St:=stq 46 [(4,AV.addr 4 []),(7,AV.val Ty.bool a),(8,AV.addr 8 [])] [(4,Root.mk yq0 kq1 b true),(8,Root.mk yq0 kq1 c true)]
theorem qbcy (D:DX)(n:Nat) (K:KT 15):∀ (m:Nat) (x0:List (List tq38)) (x1:Bool) (x2:Int) (x3 x4:tq5),LF D n 15 pq1 m (qq7 x0 x1 x2 x3 x4) K=qi2 D n (fun a b c=>K (Ex.exit 0) (qxo a b c)) m x0 x1 x2 x3 x4:=eL5 (fun F=>qrf D n F (fun a b c=>K (Ex.exit 0) (qxo a b c))) (fun _ _ _ _ _ =>q7 ..) (fun _ _ _ _ _ _ =>by kernel_rfl) (fun _ _ _ _ _ _ =>rfl)
theorem qbbh (D:DX)(n:Nat) (x0:List (List tq38)) (x1) (x2) (x3) (x4):LF D n 15 pq1 n (qq7 x0 x1 x2 x3 x4) (CF D n 15 [] pq1 (lF 15))=qpd D n x0 x1 x2 x3 x4 :=by rw[qbcy];kernel_rfl
theorem qbg9 (D:DX)(n:Nat) (a0:tq40) (a1:List (List tq38)):rF D n 15 (a0,(a1,()))=qsk D n a0 a1:=by
 have h:rF D n 15 (a0,(a1,()))=qs7 D n (fun x0 x1 x2 x3 x4=>LF D n 15 pq1 n (qq7 x0 x1 x2 x3 x4) (CF D n 15 [] pq1 (lF 15))) a0 a1:=by kernel_rfl
 rw[h]
 simp only[qbbh]
 rfl

def q62 (D:DX)(n:Nat) (go:List Int→Int→Int→tq5→tq5→Option tq3) (K0:tq5→tq5→Option tq3) (x0:List Int) (x1 x2:Int) (x3 x4:tq5):Option tq3:=br (decide (x2<x1)) (br (decide (0≤x2)&&decide (x2<(x0.length:Int))) (qd (qtv D x3 (List.getD x0 x2.toNat 0)) fun b↦go x0 x1 (wrap .i64 (x2+1)) b.1.1 x4) none) (K0 x3 x4)
def qre (D:DX)(n:Nat) (K0:tq5→tq5→Option tq3):Nat→(List Int)→Int→Int→tq5→tq5→Option tq3 | 0=>(fun x0 x1 x2 x3 x4=>none) | m+1=>(fun x0 x1 x2 x3 x4=>q62 D n (qre D n K0 m) K0 x0 x1 x2 x3 x4)
def qbnl (D:DX)(n:Nat) (a b:tq5):Option tq3:=some ((a,()),())
def q2u (D:DX)(n:Nat):(List Int)→(Int)→(Int)→tq5→tq5→Option tq3:=(fun x0 x1 x2 x3 x4=>qre D n (fun a b=>qbnl D n a b) n x0 x1 x2 x3 x4)
def q9e (D:DX)(n:Nat) (lp0:List Int→Int→Int→tq5→tq5→Option tq3) (a0:tq5) (a1:List Int):Option tq3:=qd (qjd D a0) fun b↦br (decide ((a1.length:Int)>2000)) (some ((((b.1.1.1.1,b.1.1.1.2.1,()),b.1.1.2.1,b.1.1.2.2.1,b.1.1.2.2.2.1,b.1.1.2.2.2.2.1,b.1.1.2.2.2.2.2),()),())) (lp0 a1 (a1.length:Int) 0 ((b.1.1.1.1,b.1.1.1.2.1,()),b.1.1.2.1,b.1.1.2.2.1,b.1.1.2.2.2.1,b.1.1.2.2.2.2.1,b.1.1.2.2.2.2.2) (([],[],()),[],0,[],[],([],0,()),()))
def q86 (D:DX)(n:Nat) (a0:tq5) (a1:List Int):Option tq3:=q9e D n (q2u D n) a0 a1
def q6g (x0:List Int) (x1 x2:Int) (x3 x4:tq5):St:=stq 27 [(2,AV.addr 2 []),(4,AV.addr 4 []),(13,AV.val yq30 x0),(14,AV.val yq34 x1),(15,AV.val yq34 x2)] [(2,Root.mk yq0 Mk.no x3 true),(4,Root.mk yq0 kq1 x4 true)]
def qbao (a b:tq5):St:=stq 27 [(2,AV.addr 2 []),(4,AV.addr 4 [])] [(2,Root.mk yq0 Mk.no a true),(4,Root.mk yq0 kq1 b true)]
theorem qbq5 (D:DX)(n:Nat) (K:KT 16):∀ (m:Nat) (x0:List Int) (x1 x2:Int) (x3 x4:tq5),LF D n 16 pq1 m (q6g x0 x1 x2 x3 x4) K=qre D n (fun a b=>K (Ex.exit 0) (qbao a b)) m x0 x1 x2 x3 x4:=eL5 (fun F=>q62 D n F (fun a b=>K (Ex.exit 0) (qbao a b))) (fun _ _ _ _ _ =>q7 ..) (fun _ _ _ _ _ _ =>by kernel_rfl) (fun _ _ _ _ _ _ =>rfl)
theorem qbnk (D:DX)(n:Nat) (x0) (x1) (x2) (x3) (x4):LF D n 16 pq1 n (q6g x0 x1 x2 x3 x4) (CF D n 16 [] pq1 (lF 16))=q2u D n x0 x1 x2 x3 x4 :=by rw[qbq5];kernel_rfl
theorem qbvv (D:DX)(n:Nat) (a0:tq5) (a1:List Int):rF D n 16 (a0,(a1,()))=q86 D n a0 a1:=by
 have h:rF D n 16 (a0,(a1,()))=q9e D n (fun x0 x1 x2 x3 x4=>LF D n 16 pq1 n (q6g x0 x1 x2 x3 x4) (CF D n 16 [] pq1 (lF 16))) a0 a1:=by kernel_rfl
 rw[h]
 simp only[qbnk]
 rfl

def qtk (D:DX)(n:Nat) (a0:tq13):Option tq42:=some ((decide (a0.2.1=(a0.1.length:Int)),()),())
def qme (D:DX)(n:Nat) (a0:tq13):Option tq42:=qtk D n a0
theorem qbgb (D:DX)(n:Nat) (a0:tq13):rF D n 17 (a0,())=qme D n a0:=by kernel_rfl





def qbex (D:DX)(n:Nat) (a0:tq40) (a1:Int):Option tq43:=qd (qiv D a0.1 a1) fun b↦some ((b.1.1,()),())
def q6z (D:DX)(n:Nat) (a0:tq40) (a1:Int):Option tq43:=qbex D n a0 a1
theorem qbuo (D:DX)(n:Nat) (a0:tq40) (a1:Int):rF D n 34 (a0,(a1,()))=q6z D n a0 a1:=by kernel_rfl

def qbe4 (D:DX)(n:Nat) (a0:Int):Option tq43:=qd (qgj D a0) fun b↦qd (qcp D) fun b_1↦qd (qlb D b.1.1 (wrap .i64 (b_1.1.1+a0))) fun b↦some ((b.1.1,()),())
def q6y (D:DX)(n:Nat) (a0:Int):Option tq43:=qbe4 D n a0
theorem qbtd (D:DX)(n:Nat) (a0:Int):rF D n 35 (a0,())=q6y D n a0:=by kernel_rfl

def qu2 (D:DX)(n:Nat) (go:List Int→List Int→Int→Option tq42) (K0:Bool→Option tq42) (K1:Option tq42) (x0 x1:List Int) (x2:Int):Option tq42:=br (decide (x2<(x0.length:Int))) (br (decide (0≤x2)&&decide (x2<(x0.length:Int))) (br (decide (0≤x2)&&decide (x2<(x1.length:Int))) (br (List.getD x0 x2.toNat 0 != List.getD x1 x2.toNat 0) (K0 false) (go x0 x1 (wrap .i64 (x2+1)))) none) none) K1
def qkr (D:DX)(n:Nat) (K0:Bool→Option tq42) (K1:Option tq42):Nat→(List Int)→(List Int)→Int→Option tq42 | 0=>(fun x0 x1 x2=>none) | m+1=>(fun x0 x1 x2=>qu2 D n (qkr D n K0 K1 m) K0 K1 x0 x1 x2)
def q1q (D:DX)(n:Nat) (a:Bool):Option tq42:=some ((a,()),())
def q13 (D:DX)(n:Nat):Option tq42:=some ((true,()),())
def qs0 (D:DX)(n:Nat):(List Int)→(List Int)→(Int)→Option tq42:=(fun x0 x1 x2=>qkr D n (fun a=>q1q D n a) (q13 D n) n x0 x1 x2)
def qxk (D:DX)(n:Nat) (lp0:List Int→List Int→Int→Option tq42) (a0 a1:List Int):Option tq42:=br ((a0.length:Int) != (a1.length:Int)) (some ((false,()),())) (lp0 a0 a1 0)
def qv0 (D:DX)(n:Nat) (a0 a1:List Int):Option tq42:=qxk D n (qs0 D n) a0 a1
def qu7 (x0 x1:List Int) (x2:Int):St:=stq 26 [(0,AV.val yq30 x0),(1,AV.val yq30 x1),(5,AV.val yq34 x2)] []
def q1x (a:Bool):St:=stq 26 [(4,AV.val Ty.bool a)] []
def q1l:St:=stq 26 [] []
theorem qbf8 (D:DX)(n:Nat) (K:KT 36):∀ (m:Nat) (x0 x1:List Int) (x2:Int),LF D n 36 pq0 m (qu7 x0 x1 x2) K=qkr D n (fun a=>K (Ex.ret) (q1x a)) (K (Ex.exit 0) (q1l)) m x0 x1 x2:=eL3 (fun F=>qu2 D n F (fun a=>K (Ex.ret) (q1x a)) (K (Ex.exit 0) (q1l))) (fun _ _ _ =>q7 ..) (fun _ _ _ _ =>by kernel_rfl) (fun _ _ _ _ =>rfl)
theorem qbdn (D:DX)(n:Nat) (x0) (x1) (x2):LF D n 36 pq0 n (qu7 x0 x1 x2) (CF D n 36 [] pq0 (lF 36))=qs0 D n x0 x1 x2 :=by rw[qbf8];kernel_rfl
theorem qblt (D:DX)(n:Nat) (a0 a1:List Int):rF D n 36 (a0,(a1,()))=qv0 D n a0 a1:=by
 have h:rF D n 36 (a0,(a1,()))=qxk D n (fun x0 x1 x2=>LF D n 36 pq0 n (qu7 x0 x1 x2) (CF D n 36 [] pq0 (lF 36))) a0 a1:=by kernel_rfl
 rw[h]
 simp only[qbdn]
 rfl

def qvw (D:DX)(n:Nat) (go:Int→Int→List Int→Int→Int→Option tq43) (K0:Int→Option tq43) (x0 x1:Int) (x2:List Int) (x3 x4:Int):Option tq43:=br (decide (x4<x3)) (br (decide (0≤x4)&&decide (x4<(x2.length:Int))) (qd (qgj D (List.getD x2 x4.toNat 0)) fun b↦br b.1.1 (qd (qcq D (List.getD x2 x4.toNat 0)) fun b↦br (decide (b.1.1=x0)) (go x0 (wrap .i64 (x1+1)) x2 x3 (wrap .i64 (x4+1))) (go x0 x1 x2 x3 (wrap .i64 (x4+1)))) (go x0 x1 x2 x3 (wrap .i64 (x4+1)))) none) (K0 x1)
def qlz (D:DX)(n:Nat) (K0:Int→Option tq43):Nat→Int→Int→(List Int)→Int→Int→Option tq43 | 0=>(fun x0 x1 x2 x3 x4=>none) | m+1=>(fun x0 x1 x2 x3 x4=>qvw D n (qlz D n K0 m) K0 x0 x1 x2 x3 x4)
def q30 (D:DX)(n:Nat) (a:Int):Option tq43:=some ((a,()),())
def qut (D:DX)(n:Nat):(Int)→(Int)→(List Int)→(Int)→(Int)→Option tq43:=(fun x0 x1 x2 x3 x4=>qlz D n (fun a=>q30 D n a) n x0 x1 x2 x3 x4)
def qy8 (D:DX)(n:Nat) (lp0:Int→Int→List Int→Int→Int→Option tq43) (a0:tq40) (a1:Int):Option tq43:=lp0 a1 0 a0.1 (a0.1.length:Int) 0
def q00 (D:DX)(n:Nat) (a0:tq40) (a1:Int):Option tq43:=qy8 D n (qut D n) a0 a1
def qxy (x0 x1:Int) (x2:List Int) (x3 x4:Int):St:=stq 27 [(1,AV.val yq34 x0),(5,AV.val yq34 x1),(9,AV.val yq30 x2),(10,AV.val yq34 x3),(11,AV.val yq34 x4)] []
def q31 (a:Int):St:=stq 27 [(5,AV.val yq34 a)] []
theorem qbi4 (D:DX)(n:Nat) (K:KT 37):∀ (m:Nat) (x0 x1:Int) (x2:List Int) (x3 x4:Int),LF D n 37 pq0 m (qxy x0 x1 x2 x3 x4) K=qlz D n (fun a=>K (Ex.exit 0) (q31 a)) m x0 x1 x2 x3 x4:=eL5 (fun F=>qvw D n F (fun a=>K (Ex.exit 0) (q31 a))) (fun _ _ _ _ _ =>q7 ..) (fun _ _ _ _ _ _ =>by kernel_rfl) (fun _ _ _ _ _ _ =>rfl)
theorem qbgt (D:DX)(n:Nat) (x0) (x1) (x2) (x3) (x4):LF D n 37 pq0 n (qxy x0 x1 x2 x3 x4) (CF D n 37 [] pq0 (lF 37))=qut D n x0 x1 x2 x3 x4 :=by rw[qbi4];kernel_rfl
theorem qbog (D:DX)(n:Nat) (a0:tq40) (a1:Int):rF D n 37 (a0,(a1,()))=q00 D n a0 a1:=by
 have h:rF D n 37 (a0,(a1,()))=qy8 D n (fun x0 x1 x2 x3 x4=>LF D n 37 pq0 n (qxy x0 x1 x2 x3 x4) (CF D n 37 [] pq0 (lF 37))) a0 a1:=by kernel_rfl
 rw[h]
 simp only[qbgt]
 rfl

def qbef (D:DX)(n:Nat) (a0:tq40) (a1:tq38) (a2:tq41):Option tq31:=qd (qji D a0) fun b↦let a:Option tq31:=br (decide (a1.1=3)) (br (decide (0≤a1.2.1)&&decide (a1.2.1<(b.1.1.1.length:Int))) (some (((List.set b.1.1.1 a1.2.1.toNat 0,b.1.1.2),()),())) none) (br (decide (a1.1=8)) (br (decide (a1.1=8)) (some (((b.1.1.1,wrap .i64 (b.1.1.2.1+1),b.1.1.2.2),()),())) (some (((b.1.1.1,b.1.1.2),()),()))) (br (decide (a1.1=9)) (some (((b.1.1.1,wrap .i64 (b.1.1.2.1+1),b.1.1.2.2),()),())) (some (((b.1.1.1,b.1.1.2),()),()))));let c:Option tq31:=br (decide (0≤a1.2.1)&&decide (a1.2.1<(b.1.1.1.length:Int))) (some (((List.set b.1.1.1 a1.2.1.toNat a1.2.2.1,b.1.1.2),()),())) none;qd (qru D a0 a1 a2) fun b_1↦br (bif !b_1.1.1 then true else a2.1 != 0) (some (((b.1.1.1,b.1.1.2),()),())) (br (decide (a1.1=1)) (br (decide (a1.1=1)) c a) (br (decide (a1.1=2)) c a))
def q6e (D:DX)(n:Nat) (a0:tq40) (a1:tq38) (a2:tq41):Option tq31:=qbef D n a0 a1 a2
theorem qbu8 (D:DX)(n:Nat) (a0:tq40) (a1:tq38) (a2:tq41):rF D n 38 (a0,(a1,(a2,())))=q6e D n a0 a1 a2:=by kernel_rfl

def q0u (D:DX)(n:Nat) (go:Bool→List Int→Int→Int→tq5→tq40→tq40→Option tq27) (K0:Bool→tq40→tq40→Option tq27) (x0:Bool) (x1:List Int) (x2 x3:Int) (x4:tq5) (x5 x6:tq40):Option tq27:=let y0:=List.getD x4.2.2.2.1 (Int.toNat (List.getD x1 x3.toNat 0)) (0,(0,0,0,()),0,0,0,(0,[],()),());br (decide (x3<x2)) (br (decide (0≤x3)&&decide (x3<(x1.length:Int))) (br (decide (0≤List.getD x1 x3.toNat 0)&&decide (List.getD x1 x3.toNat 0<(x4.2.2.2.1.length:Int))) (br x0 (qd (qru D (x6.1,x6.2) y0.2.1 y0.2.2.2.2.2.1) fun b↦qd (qkn D (x6.1,x6.2) y0.2.1 y0.2.2.2.2.2.1) fun b_1↦go b.1.1 x1 x2 (wrap .i64 (x3+1)) x4 x5 (b_1.1.1.1,b_1.1.1.2)) (qd (qkn D (x6.1,x6.2) y0.2.1 y0.2.2.2.2.2.1) fun b↦go false x1 x2 (wrap .i64 (x3+1)) x4 x5 (b.1.1.1,b.1.1.2))) none) none) (K0 x0 x5 x6)
def qml (D:DX)(n:Nat) (K0:Bool→tq40→tq40→Option tq27):Nat→Bool→(List Int)→Int→Int→tq5→tq40→tq40→Option tq27 | 0=>(fun x0 x1 x2 x3 x4 x5 x6=>none) | m+1=>(fun x0 x1 x2 x3 x4 x5 x6=>q0u D n (qml D n K0 m) K0 x0 x1 x2 x3 x4 x5 x6)
def qbip (D:DX)(n:Nat) (b:Bool) (c a:tq40):Option tq27:=some (((a.1,a.2),b,()),())
def qx1 (D:DX)(n:Nat):(Bool)→(List Int)→(Int)→(Int)→tq5→tq40→tq40→Option tq27:=(fun x0 x1 x2 x3 x4 x5 x6=>qml D n (fun a b c=>qbip D n a b c) n x0 x1 x2 x3 x4 x5 x6)
def q19 (D:DX)(n:Nat) (lp0:Bool→List Int→Int→Int→tq5→tq40→tq40→Option tq27) (a0:tq5):Option tq27:=qd (qfo D a0) fun b↦br (!b.1.1) (some ((([],0,()),false,()),())) (qd (qji D a0.2.2.2.2.2.1) fun b↦lp0 true a0.2.2.2.2.1 (a0.2.2.2.2.1.length:Int) 0 a0 ([],0,()) (b.1.1.1,b.1.1.2))
def q3o (D:DX)(n:Nat) (a0:tq5):Option tq27:=q19 D n (qx1 D n) a0
def qyw (x0:Bool) (x1:List Int) (x2 x3:Int) (x4:tq5) (x5 x6:tq40):St:=stq 46 [(1,AV.addr 1 []),(2,AV.addr 2 []),(4,AV.addr 4 []),(5,AV.val Ty.bool x0),(17,AV.val yq30 x1),(18,AV.val yq34 x2),(19,AV.val yq34 x3)] [(1,Root.mk yq0 Mk.no x4 true),(2,Root.mk yq25 kq29 x5 true),(4,Root.mk yq25 kq29 x6 true)]
def q7f (a:Bool) (b c:tq40):St:=stq 46 [(2,AV.addr 2 []),(4,AV.addr 4 []),(5,AV.val Ty.bool a)] [(2,Root.mk yq25 kq29 b true),(4,Root.mk yq25 kq29 c true)]
theorem qbkw (D:DX)(n:Nat) (K:KT 39):∀ (m:Nat) (x0:Bool) (x1:List Int) (x2 x3:Int) (x4:tq5) (x5 x6:tq40),LF D n 39 pq3 m (qyw x0 x1 x2 x3 x4 x5 x6) K=qml D n (fun a b c=>K (Ex.exit 0) (q7f a b c)) m x0 x1 x2 x3 x4 x5 x6:=eL7 (fun F=>q0u D n F (fun a b c=>K (Ex.exit 0) (q7f a b c))) (fun _ _ _ _ _ _ _ =>q7 ..) (fun _ _ _ _ _ _ _ _ =>by kernel_rfl) (fun _ _ _ _ _ _ _ _ =>rfl)
theorem qbih (D:DX)(n:Nat) (x0) (x1) (x2) (x3) (x4) (x5) (x6):LF D n 39 pq3 n (qyw x0 x1 x2 x3 x4 x5 x6) (CF D n 39 [] pq3 (lF 39))=qx1 D n x0 x1 x2 x3 x4 x5 x6 :=by rw[qbkw];kernel_rfl
theorem qbq8 (D:DX)(n:Nat) (a0:tq5):rF D n 39 (a0,())=q3o D n a0:=by
 have h:rF D n 39 (a0,())=q19 D n (fun x0 x1 x2 x3 x4 x5 x6=>LF D n 39 pq3 n (qyw x0 x1 x2 x3 x4 x5 x6) (CF D n 39 [] pq3 (lF 39))) a0:=by kernel_rfl
 rw[h]
 simp only[qbih]
 rfl

def qsr (D:DX)(n:Nat) (go:Int→List tq17→Int→Int→tq5→Option tq42) (K0:Bool→Int→tq5→Option tq42) (K1:Int→tq5→Option tq42) (x0:Int) (x1:List tq17) (x2 x3:Int) (x4:tq5):Option tq42:=let y0:=List.getD x1 x3.toNat (0,(0,0,0,()),0,0,0,(0,[],()),());br (decide (x3<x2)) (br (decide (0≤x3)&&decide (x3<(x1.length:Int))) (qd (qbp D y0.1 0 (wrap .i64 (x0 - 1))) fun b↦br (!b.1.1) (K0 false x0 x4) (qd (qj3 D y0.2.1) fun b↦br (!b.1.1) (K0 false x0 x4) (qd (qbp D y0.2.2.1 0 x4.2.2.1) fun b↦br (!b.1.1) (K0 false x0 x4) (qd (qlp D y0 y0.2.2.2.1 x4) fun b↦br (!b.1.1) (K0 false x0 x4) (qd (qlp D y0 y0.2.2.2.2.1 x4) fun b↦br (!b.1.1) (K0 false x0 x4) (go x0 x1 x2 (wrap .i64 (x3+1)) x4)))))) none) (K1 x0 x4)
def qjw (D:DX)(n:Nat) (K0:Bool→Int→tq5→Option tq42) (K1:Int→tq5→Option tq42):Nat→Int→(List tq17)→Int→Int→tq5→Option tq42 | 0=>(fun x0 x1 x2 x3 x4=>none) | m+1=>(fun x0 x1 x2 x3 x4=>qsr D n (qjw D n K0 K1 m) K0 K1 x0 x1 x2 x3 x4)
def qyh (D:DX)(n:Nat) (a:Bool) (b:Int) (c:tq5):Option tq42:=some ((a,()),())
def qsn (D:DX)(n:Nat) (go:Int→List tq13→Int→Int→tq5→Option tq42) (K0:Bool→tq5→Option tq42) (K1:tq5→Option tq42) (e:Int) (d:List tq13) (f a:Int) (c:tq5):Option tq42:=br (decide (a<f)) (br (decide (0≤a)&&decide (a<(d.length:Int))) (qd (qxd D (List.getD d a.toNat ([],0,false,[],[],())) e) fun b↦br (!b.1.1) (K0 false c) (qd (q0q D c a) fun b↦br (!b.1.1) (K0 false c) (go e d f (wrap .i64 (a+1)) c))) none) (K1 c)
def qjx (D:DX)(n:Nat) (K0:Bool→tq5→Option tq42) (K1:tq5→Option tq42):Nat→Int→(List tq13)→Int→Int→tq5→Option tq42 | 0=>(fun a b c d e=>none) | m+1=>(fun a b c d e=>qsn D n (qjx D n K0 K1 m) K0 K1 a b c d e)
def qbc4 (D:DX)(n:Nat) (a:Bool) (b:tq5):Option tq42:=some ((a,()),())
def qyd (D:DX)(n:Nat) (a:tq5):Option tq42:=qd (qz1 D a) fun b↦some ((b.1.1,()),())
def qqi (D:DX)(n:Nat):(Int)→(List tq13)→(Int)→(Int)→tq5→Option tq42:=(fun a b f g h=>qjx D n (fun c d=>qbc4 D n c d) (fun e=>qyd D n e) n a b f g h)
def qpq (D:DX)(n:Nat) (lp1:Int→List tq13→Int→Int→tq5→Option tq42) (b:Int) (a:tq5):Option tq42:=lp1 b a.2.1 (a.2.1.length:Int) 0 a
def qrp (D:DX)(n:Nat):(Int)→(List tq17)→(Int)→(Int)→tq5→Option tq42:=(fun x0 x1 x2 x3 x4=>qjw D n (fun a b c=>qyh D n a b c) (fun d e=>qpq D n (qqi D n) d e) n x0 x1 x2 x3 x4)
def qul (D:DX)(n:Nat) (lp0:Int→List tq17→Int→Int→tq5→Option tq42) (a0:tq5):Option tq42:=qd (qki D a0.1) fun b↦br (bif !b.1.1 then true else (a0.1.2.1.length:Int) != (a0.2.1.length:Int)) (some ((false,()),())) (qd (qbp D a0.2.2.1 0 100000) fun b↦br (bif !b.1.1 then true else decide ((a0.2.2.2.1.length:Int)>40)) (some ((false,()),())) (qd (qor D a0.2.2.2.2.2.1) fun b↦br (!b.1.1) (some ((false,()),())) (lp0 (a0.2.1.length:Int) a0.2.2.2.1 (a0.2.2.2.1.length:Int) 0 a0)))
def quq (D:DX)(n:Nat) (a0:tq5):Option tq42:=qul D n (qrp D n) a0
def qte (x0:Int) (x1:List tq17) (x2 x3:Int) (x4:tq5):St:=stq 108 [(1,AV.addr 1 []),(3,AV.val yq34 x0),(4,AV.clo 79 (AV.pair (AV.addr 1 []) AV.unit)),(44,AV.val yq6 x1),(45,AV.val yq34 x2),(46,AV.val yq34 x3)] [(1,Root.mk yq0 Mk.no x4 true)]
def qpn (a:Bool) (b:Int) (c:tq5):St:=stq 108 [(1,AV.addr 1 []),(2,AV.val Ty.bool a),(3,AV.val yq34 b)] [(1,Root.mk yq0 Mk.no c true)]
def qpe (a:Int) (b:tq5):St:=stq 108 [(1,AV.addr 1 []),(3,AV.val yq34 a)] [(1,Root.mk yq0 Mk.no b true)]
def qti (a:Int) (b:List tq13) (c d:Int) (e:tq5):St:=stq 108 [(1,AV.addr 1 []),(3,AV.val yq34 a),(88,AV.val yq4 b),(89,AV.val yq34 c),(90,AV.val yq34 d)] [(1,Root.mk yq0 Mk.no e true)]
def qya (a:Bool) (b:tq5):St:=stq 108 [(1,AV.addr 1 []),(2,AV.val Ty.bool a)] [(1,Root.mk yq0 Mk.no b true)]
def qyg (a:tq5):St:=stq 108 [(1,AV.addr 1 [])] [(1,Root.mk yq0 Mk.no a true)]
theorem qbe8 (D:DX)(n:Nat) (K:KT 40):∀ (m:Nat) (x0:Int) (x1:List tq17) (x2 x3:Int) (x4:tq5),LF D n 40 pq3 m (qte x0 x1 x2 x3 x4) K=qjw D n (fun a b c=>K (Ex.ret) (qpn a b c)) (fun d e=>K (Ex.exit 0) (qpe d e)) m x0 x1 x2 x3 x4:=eL5 (fun F=>qsr D n F (fun a b c=>K (Ex.ret) (qpn a b c)) (fun d e=>K (Ex.exit 0) (qpe d e))) (fun _ _ _ _ _ =>q7 ..) (fun _ _ _ _ _ _ =>by kernel_rfl) (fun _ _ _ _ _ _ =>rfl)
theorem qbe2 (D:DX)(n:Nat) (K:KT 40):∀ (m:Nat) (d:Int) (e:List tq13) (f g:Int) (h:tq5),LF D n 40 pq6 m (qti d e f g h) K=qjx D n (fun a b=>K (Ex.ret) (qya a b)) (fun c=>K (Ex.exit 2) (qyg c)) m d e f g h:=eL5 (fun F=>qsn D n F (fun a b=>K (Ex.ret) (qya a b)) (fun c=>K (Ex.exit 2) (qyg c))) (fun _ _ _ _ _ =>q7 ..) (fun _ _ _ _ _ _ =>by kernel_rfl) (fun _ _ _ _ _ _ =>rfl)
theorem qbdd (D:DX)(n:Nat) (a:Int) (b:List tq13) (c d:Int) (e:tq5):LF D n 40 pq6 n (qti a b c d e) (CF D n 40 [] pq6 (lF 40))=qqi D n a b c d e :=by rw[qbe2];kernel_rfl
theorem qbc0 (D:DX)(n:Nat) (a:Bool) (b:Int) (c:tq5):(CF D n 40 [] pq3 (lF 40)) (Ex.ret) (qpn a b c)=qyh D n a b c:=by kernel_rfl
theorem qbcz (D:DX)(n:Nat) (a:Int) (b:tq5):(CF D n 40 [] pq3 (lF 40)) (Ex.exit 0) (qpe a b)=qpq D n (fun c d e f g=>LF D n 40 pq6 n (qti c d e f g) (CF D n 40 [] pq6 (lF 40))) a b:=by kernel_rfl
theorem qbde (D:DX)(n:Nat) (x0) (x1) (x2) (x3) (x4):LF D n 40 pq3 n (qte x0 x1 x2 x3 x4) (CF D n 40 [] pq3 (lF 40))=qrp D n x0 x1 x2 x3 x4:=by
 rw[qbe8]
 simp only[qbc0,qbcz,qbdd]
 rfl
theorem qbif (D:DX)(n:Nat) (a0:tq5):rF D n 40 (a0,())=quq D n a0:=by
 have h:rF D n 40 (a0,())=qul D n (fun x0 x1 x2 x3 x4=>LF D n 40 pq3 n (qte x0 x1 x2 x3 x4) (CF D n 40 [] pq3 (lF 40))) a0:=by kernel_rfl
 rw[h]
 simp only[qbde]
 rfl


def q2a (D:DX)(n:Nat) (go:List Int→Int→Int→Option tq28) (K0:List Int→Int→Option tq28) (x0:List Int) (x1 x2:Int):Option tq28:=br (bif decide (x2<(x0.length:Int)) then decide (x2<4000) else false) (br (decide (0≤x2)&&decide (x2<(x0.length:Int))) (go x0 (wrap .i64 (↑(BitVec.toNat (BitVec.and (BitVec.ofInt (IntKind.bits IntKind.i64) (wrap .i64 (wrap .i64 (wrap .i64 (x1 * 131)+wrap .i64 (List.getD x0 x2.toNat 0))+7))) (BitVec.ofInt (IntKind.bits IntKind.i64) 1073741823))):Int)) (wrap .i64 (x2+1))) none) (K0 x0 x1)
def qok (D:DX)(n:Nat) (K0:List Int→Int→Option tq28):Nat→(List Int)→Int→Int→Option tq28 | 0=>(fun x0 x1 x2=>none) | m+1=>(fun x0 x1 x2=>q2a D n (qok D n K0 m) K0 x0 x1 x2)
def q75 (D:DX)(n:Nat) (a:List Int) (b:Int):Option tq28:=some (((a,0,b,()),()),())
def qzy (D:DX)(n:Nat):(List Int)→(Int)→(Int)→Option tq28:=(fun x0 x1 x2=>qok D n (fun a b=>q75 D n a b) n x0 x1 x2)
def q5k (D:DX)(n:Nat) (lp0:List Int→Int→Int→Option tq28) (a0:List Int):Option tq28:=lp0 a0 (wrap .i64 (27323+(a0.length:Int))) 0
def q6l (D:DX)(n:Nat) (a0:List Int):Option tq28:=q5k D n (qzy D n) a0
def q2e (x0:List Int) (x1 x2:Int):St:=stq 32 [(0,AV.val yq32 x0),(3,AV.val yq34 x1),(4,AV.val yq34 x2)] []
def q8a (a:List Int) (b:Int):St:=stq 32 [(0,AV.val yq32 a),(3,AV.val yq34 b)] []
theorem qbnw (D:DX)(n:Nat) (K:KT 44):∀ (m:Nat) (x0:List Int) (x1 x2:Int),LF D n 44 pq0 m (q2e x0 x1 x2) K=qok D n (fun a b=>K (Ex.exit 0) (q8a a b)) m x0 x1 x2:=eL3 (fun F=>q2a D n F (fun a b=>K (Ex.exit 0) (q8a a b))) (fun _ _ _ =>q7 ..) (fun _ _ _ _ =>by kernel_rfl) (fun _ _ _ _ =>rfl)
theorem qbku (D:DX)(n:Nat) (x0) (x1) (x2):LF D n 44 pq0 n (q2e x0 x1 x2) (CF D n 44 [] pq0 (lF 44))=qzy D n x0 x1 x2 :=by rw[qbnw];kernel_rfl
theorem qbsm (D:DX)(n:Nat) (a0:List Int):rF D n 44 (a0,())=q6l D n a0:=by
 have h:rF D n 44 (a0,())=q5k D n (fun x0 x1 x2=>LF D n 44 pq0 n (q2e x0 x1 x2) (CF D n 44 [] pq0 (lF 44))) a0:=by kernel_rfl
 rw[h]
 simp only[qbku]
 rfl

def qph (D:DX)(n:Nat) (go:Int→tq35→tq40→tq40→Option tq20) (K0:tq35→tq40→tq40→Option tq20) (x0:Int) (x1:tq35) (x2 x3:tq40):Option tq20:=br (decide (x0<4)) (qd (qcd D x1 7) fun b↦qd (qw3 D (x3.1,x3.2) b.1.1) fun b_1↦br (decide (b_1.1.1<0)) (br (decide (0≤x0)&&decide (x0<(x3.1.length:Int))) (go (wrap .i64 (x0+1)) b.2.1 x2 (List.set x3.1 x0.toNat b.1.1,x3.2)) none) (go (wrap .i64 (x0+1)) b.2.1 x2 x3)) (K0 x1 x2 x3)
def qib (D:DX)(n:Nat) (K0:tq35→tq40→tq40→Option tq20):Nat→Int→tq35→tq40→tq40→Option tq20 | 0=>(fun x0 x1 x2 x3=>none) | m+1=>(fun x0 x1 x2 x3=>qph D n (qib D n K0 m) K0 x0 x1 x2 x3)
def qmx (D:DX)(n:Nat) (c:tq35) (d a:tq40):Option tq20:=qd (qn1 D c [0,0,1,3,5]) fun b↦some (((a.1,b.1.1,a.2.2),()),b.2.1,())
def qob (D:DX)(n:Nat):(Int)→tq35→tq40→tq40→Option tq20:=(fun x0 x1 x2 x3=>qib D n (fun a b c=>qmx D n a b c) n x0 x1 x2 x3)
def qqx (D:DX)(n:Nat) (lp0:Int→tq35→tq40→tq40→Option tq20) (a0:tq35):Option tq20:=qd (qy6 D) fun b↦lp0 0 a0 ([],0,()) (b.1.1.1,b.1.1.2)
def qrb (D:DX)(n:Nat) (a0:tq35):Option tq20:=qqx D n (qob D n) a0
def qpg (x0:Int) (x1:tq35) (x2 x3:tq40):St:=stq 27 [(0,AV.addr 0 []),(2,AV.addr 2 []),(3,AV.addr 3 []),(4,AV.val yq34 x0)] [(0,Root.mk yq20 Mk.no x1 true),(2,Root.mk yq25 kq29 x2 true),(3,Root.mk yq25 kq29 x3 true)]
def qvn (a:tq35) (b c:tq40):St:=stq 27 [(0,AV.addr 0 []),(2,AV.addr 2 []),(3,AV.addr 3 [])] [(0,Root.mk yq20 Mk.no a true),(2,Root.mk yq25 kq29 b true),(3,Root.mk yq25 kq29 c true)]
theorem qbbw (D:DX)(n:Nat) (K:KT 45):∀ (m:Nat) (x0:Int) (x1:tq35) (x2 x3:tq40),LF D n 45 pq0 m (qpg x0 x1 x2 x3) K=qib D n (fun a b c=>K (Ex.exit 0) (qvn a b c)) m x0 x1 x2 x3:=eL4 (fun F=>qph D n F (fun a b c=>K (Ex.exit 0) (qvn a b c))) (fun _ _ _ _ =>q7 ..) (fun _ _ _ _ _ =>by kernel_rfl) (fun _ _ _ _ _ =>rfl)
theorem q9n (D:DX)(n:Nat) (x0) (x1) (x2) (x3):LF D n 45 pq0 n (qpg x0 x1 x2 x3) (CF D n 45 [] pq0 (lF 45))=qob D n x0 x1 x2 x3 :=by rw[qbbw];kernel_rfl
theorem qbej (D:DX)(n:Nat) (a0:tq35):rF D n 45 (a0,())=qrb D n a0:=by
 have h:rF D n 45 (a0,())=qqx D n (fun x0 x1 x2 x3=>LF D n 45 pq0 n (qpg x0 x1 x2 x3) (CF D n 45 [] pq0 (lF 45))) a0:=by kernel_rfl
 rw[h]
 simp only[q9n]
 rfl

def qth (D:DX)(n:Nat) (go:Int→Int→tq35→List (List tq38)→List tq38→Option tq16) (K0:Int→tq35→List (List tq38)→List tq38→Option tq16) (c d:Int) (f:tq35) (e:List (List tq38)) (a:List tq38):Option tq16:=qd (qcd D f 4) fun b↦br (decide (d<wrap .i64 (1+b.1.1))) (qd (qql D b.2.1) fun b↦br (decide (a.length+1≤qb7)) (go c (wrap .i64 (d+1)) b.2.1 e (a++[b.1.1])) none) (K0 c b.2.1 e a)
def qjs (D:DX)(n:Nat) (K0:Int→tq35→List (List tq38)→List tq38→Option tq16):Nat→Int→Int→tq35→(List (List tq38))→(List tq38)→Option tq16 | 0=>(fun a b c d e=>none) | m+1=>(fun a b c d e=>qth D n (qjs D n K0 m) K0 a b c d e)
def qo4 (D:DX)(n:Nat) (go:Int→tq35→List (List tq38)→Option tq16) (K0:tq35→List (List tq38)→Option tq16) (b:Int) (c:tq35) (a:List (List tq38)) (d:List tq38):Option tq16:=br (decide (a.length+1≤qb7)) (go (wrap .i64 (b+1)) c (a++[d])) none
def qq4 (D:DX)(n:Nat) (go:Int→tq35→List (List tq38)→Option tq16) (K0:tq35→List (List tq38)→Option tq16):(Int)→(Int)→tq35→(List (List tq38))→(List tq38)→Option tq16:=(fun a f g h i=>qjs D n (fun b c d e=>qo4 D n go K0 b c d e) n a f g h i)
def qsi (D:DX)(n:Nat) (go:Int→tq35→List (List tq38)→Option tq16) (K0:tq35→List (List tq38)→Option tq16) (lp1:Int→Int→tq35→List (List tq38)→List tq38→Option tq16) (x0:Int) (x1:tq35) (x2:List (List tq38)):Option tq16:=qd (qcd D x1 3) fun b↦br (decide (x0<wrap .i64 (1+b.1.1))) (lp1 x0 0 b.2.1 x2 []) (K0 b.2.1 x2)
def qew (D:DX)(n:Nat) (K0:tq35→List (List tq38)→Option tq16):Nat→Int→tq35→(List (List tq38))→Option tq16 | 0=>(fun x0 x1 x2=>none) | m+1=>(fun x0 x1 x2=>qsi D n (qew D n K0 m) K0 (qq4 D n (qew D n K0 m) K0) x0 x1 x2)
def qyc (D:DX)(n:Nat) (a:tq35) (b:List (List tq38)):Option tq16:=some ((b,()),a,())
def qq1 (D:DX)(n:Nat):(Int)→tq35→(List (List tq38))→Option tq16:=(fun x0 x1 x2=>qew D n (fun a b=>qyc D n a b) n x0 x1 x2)
def quf (D:DX)(n:Nat) (lp0:Int→tq35→List (List tq38)→Option tq16) (a0:tq35):Option tq16:=lp0 0 a0 []
def qu6 (D:DX)(n:Nat) (a0:tq35):Option tq16:=quf D n (qq1 D n) a0
def qf0 (x0:Int) (x1:tq35) (x2:List (List tq38)):St:=stq 33 [(0,AV.addr 0 []),(3,AV.brw 3 [] 0),(4,AV.val yq34 x0)] [(0,Root.mk yq20 Mk.no x1 true),(3,Root.mk yq18 kq31 x2 false)]
def qkx (a:tq35) (b:List (List tq38)):St:=stq 33 [(0,AV.addr 0 []),(3,AV.brw 3 [] 0)] [(0,Root.mk yq20 Mk.no a true),(3,Root.mk yq18 kq31 b false)]
def qtj (a b:Int) (c:tq35) (d:List (List tq38)) (e:List tq38):St:=stq 33 [(0,AV.addr 0 []),(3,AV.brw 3 [] 0),(4,AV.val yq34 a),(5,AV.brw 5 [] 0),(6,AV.val yq34 b)] [(0,Root.mk yq20 Mk.no c true),(3,Root.mk yq18 kq31 d false),(5,Root.mk yq19 kq37 e false)]
def qyf (a:Int) (b:tq35) (c:List (List tq38)) (d:List tq38):St:=stq 33 [(0,AV.addr 0 []),(3,AV.brw 3 [] 0),(4,AV.val yq34 a),(5,AV.brw 5 [] 0)] [(0,Root.mk yq20 Mk.no b true),(3,Root.mk yq18 kq31 c false),(5,Root.mk yq19 kq37 d false)]
theorem qbd3 (D:DX)(n:Nat) (K:KT 46):∀ (m:Nat) (e f:Int) (g:tq35) (h:List (List tq38)) (i:List tq38),LF D n 46 pq13 m (qtj e f g h i) K=qjs D n (fun a b c d=>K (Ex.exit 2) (qyf a b c d)) m e f g h i:=eL5 (fun F=>qth D n F (fun a b c d=>K (Ex.exit 2) (qyf a b c d))) (fun _ _ _ _ _ =>q7 ..) (fun _ _ _ _ _ _ =>by kernel_rfl) (fun _ _ _ _ _ _ =>rfl)
theorem qbcx (D:DX)(n:Nat) (m:Nat) (K:KT 46) (a b:Int) (c:tq35) (d:List (List tq38)) (e:List tq38):LF D n 46 pq13 n (qtj a b c d e) (CF D n 46 [.r,.r,.l,.r,.l,.l] [.r,.l,.l,.r,.l,.r,.l] (KF D n 46 pq0 m K))=qq4 D n (fun x0 x1 x2=>LF D n 46 pq0 m (qf0 x0 x1 x2) K) (fun f g=>K (Ex.exit 0) (qkx f g)) a b c d e :=by rw[qbd3];kernel_rfl
theorem qbd1 (D:DX)(n:Nat) (m:Nat) (K:KT 46) (x0) (x1) (x2:List (List tq38)):LF D n 46 pq0 (m+1) (qf0 x0 x1 x2) K=qsi D n (fun x0 x1 x2=>LF D n 46 pq0 m (qf0 x0 x1 x2) K) (fun a b=>K (Ex.exit 0) (qkx a b)) (fun c d e f g=>LF D n 46 pq13 n (qtj c d e f g) (CF D n 46 [.r,.r,.l,.r,.l,.l] [.r,.l,.l,.r,.l,.r,.l] (KF D n 46 pq0 m K))) x0 x1 x2:=by kernel_rfl
theorem q1p (D:DX)(n:Nat) (K:KT 46):∀ (m:Nat) (x0:Int) (x1:tq35) (x2:List (List tq38)),LF D n 46 pq0 m (qf0 x0 x1 x2) K=qew D n (fun a b=>K (Ex.exit 0) (qkx a b)) m x0 x1 x2
 | 0,x0,x1,x2=>q7 ..
 | m+1,x0,x1,x2=>by
  have ih:(fun x0 x1 x2=>LF D n 46 pq0 m (qf0 x0 x1 x2) K)=qew D n (fun a b=>K (Ex.exit 0) (qkx a b)) m:=by funext x0 x1 x2;exact q1p D n K m x0 x1 x2
  rw[qbd1]
  simp only[qbcx]
  rw[ih];rfl
theorem qbc6 (D:DX)(n:Nat) (x0) (x1) (x2:List (List tq38)):LF D n 46 pq0 n (qf0 x0 x1 x2) (CF D n 46 [] pq0 (lF 46))=qq1 D n x0 x1 x2 :=by rw[q1p];kernel_rfl
theorem qbiu (D:DX)(n:Nat) (a0:tq35):rF D n 46 (a0,())=qu6 D n a0:=by
 have h:rF D n 46 (a0,())=quf D n (fun x0 x1 x2=>LF D n 46 pq0 n (qf0 x0 x1 x2) (CF D n 46 [] pq0 (lF 46))) a0:=by kernel_rfl
 rw[h]
 simp only[qbc6]
 rfl

def qbaz (D:DX)(n:Nat) (a0:tq35) (a1:Int):Option tq25:=br (decide (a1≤0)) (some ((0,()),a0,())) (br (decide (a1≤256)) (qd (qjm D a0) fun b↦br (decide (a1=0)) none (some ((Int.tmod b.1.1 a1,()),b.2.1,()))) (qd (qjm D a0) fun b↦qd (qjm D b.2.1) fun b_1↦qd (qjm D b_1.2.1) fun b_2↦qd (qjm D b_2.2.1) fun b_3↦br (decide (a1=0)) none (some ((Int.tmod (wrap .i64 (wrap .i64 (wrap .i64 (wrap .i64 (b.1.1 * 16777216)+wrap .i64 (b_1.1.1 * 65536))+wrap .i64 (b_2.1.1 * 256))+b_3.1.1)) a1,()),b_3.2.1,()))))
def qzw (D:DX)(n:Nat) (a0:tq35) (a1:Int):Option tq25:=qbaz D n a0 a1
theorem qbmk (D:DX)(n:Nat) (a0:tq35) (a1:Int):rF D n 47 (a0,(a1,()))=qzw D n a0 a1:=by kernel_rfl

def qbcv (D:DX)(n:Nat) (a0:List Int) (a1 a2:Int):Option tq43:=br (decide (wrap .i64 (a1+wrap .i64 (Int.tdiv (a0.length:Int) 4))>a2)) (some ((a2,()),())) (some ((wrap .i64 (a1+wrap .i64 (Int.tdiv (a0.length:Int) 4)),()),()))
def q3g (D:DX)(n:Nat) (a0:List Int) (a1 a2:Int):Option tq43:=qbcv D n a0 a1 a2
theorem qbq3 (D:DX)(n:Nat) (a0:List Int) (a1 a2:Int):rF D n 48 (a0,(a1,(a2,())))=q3g D n a0 a1 a2:=by kernel_rfl

def qy7 (D:DX)(n:Nat) (go:Int→Int→tq12→tq12→List Int→Option tq9) (K0:tq12→tq12→Option tq9) (x0 x1:Int) (x2 x3:tq12) (x4:List Int):Option tq9:=br (decide (x1<x0)) (br (decide (0≤x1)&&decide (x1<(x4.length:Int))) (br (decide (x3.1.length+1≤qb7)) (go x0 (wrap .i64 (x1+1)) x2 (x3.1++[(List.getD x4 x1.toNat 0,0,0,())],x3.2) x4) none) none) (K0 x2 x3)
def qmj (D:DX)(n:Nat) (K0:tq12→tq12→Option tq9):Nat→Int→Int→tq12→tq12→(List Int)→Option tq9 | 0=>(fun x0 x1 x2 x3 x4=>none) | m+1=>(fun x0 x1 x2 x3 x4=>qy7 D n (qmj D n K0 m) K0 x0 x1 x2 x3 x4)
def q7d (D:DX)(n:Nat) (c a:tq12):Option tq9:=qd (qki D (a.1,a.2.1,())) fun b↦br (!b.1.1) (some ((([],[],()),false,()),())) (some (((a.1,a.2.1,()),true,()),()))
def qx3 (D:DX)(n:Nat):(Int)→(Int)→tq12→tq12→(List Int)→Option tq9:=(fun x0 x1 x2 x3 x4=>qmj D n (fun a b=>q7d D n a b) n x0 x1 x2 x3 x4)
def q3h (D:DX)(n:Nat) (lp0:Int→Int→tq12→tq12→List Int→Option tq9) (a0:tq40) (a1:Int):Option tq9:=qd (qbp D a1 1 4) fun b↦br (!b.1.1) (some ((([],[],()),false,()),())) (br (decide (0≤a1)&&decide (a1≤a1)&&decide (a1≤(↑qb7:Int))) (qd (qr1 D a0) fun b↦lp0 (b.1.1.length:Int) 0 ([],[],()) ([],List.replicate a1.toNat (0,0,[],(0,[],()),()),()) b.1.1) none)
def q3k (D:DX)(n:Nat) (a0:tq40) (a1:Int):Option tq9:=q3h D n (qx3 D n) a0 a1
def qzx (x0 x1:Int) (x2 x3:tq12) (x4:List Int):St:=stq 36 [(4,AV.addr 4 []),(6,AV.addr 6 []),(17,AV.brw 17 [] 0),(18,AV.val yq34 x0),(19,AV.val yq34 x1)] [(4,Root.mk yq3 kq14 x2 true),(6,Root.mk yq3 kq14 x3 true),(17,Root.mk yq30 kq37 x4 false)]
def q5j (a b:tq12):St:=stq 36 [(4,AV.addr 4 []),(6,AV.addr 6 [])] [(4,Root.mk yq3 kq14 a true),(6,Root.mk yq3 kq14 b true)]
theorem qbl7 (D:DX)(n:Nat) (K:KT 49):∀ (m:Nat) (x0 x1:Int) (x2 x3:tq12) (x4:List Int),LF D n 49 pq1 m (qzx x0 x1 x2 x3 x4) K=qmj D n (fun a b=>K (Ex.exit 0) (q5j a b)) m x0 x1 x2 x3 x4:=eL5 (fun F=>qy7 D n F (fun a b=>K (Ex.exit 0) (q5j a b))) (fun _ _ _ _ _ =>q7 ..) (fun _ _ _ _ _ _ =>by kernel_rfl) (fun _ _ _ _ _ _ =>rfl)
theorem qbia (D:DX)(n:Nat) (x0) (x1) (x2) (x3) (x4):LF D n 49 pq1 n (qzx x0 x1 x2 x3 x4) (CF D n 49 [] pq1 (lF 49))=qx3 D n x0 x1 x2 x3 x4 :=by rw[qbl7];kernel_rfl
theorem qbrr (D:DX)(n:Nat) (a0:tq40) (a1:Int):rF D n 49 (a0,(a1,()))=q3k D n a0 a1:=by
 have h:rF D n 49 (a0,(a1,()))=q3h D n (fun x0 x1 x2 x3 x4=>LF D n 49 pq1 n (qzx x0 x1 x2 x3 x4) (CF D n 49 [] pq1 (lF 49))) a0 a1:=by kernel_rfl
 rw[h]
 simp only[qbia]
 rfl

def q8d (D:DX)(n:Nat) (a0:tq40):Option tq31:=qd (qgh D a0.1) fun b↦some (((b.1.1,a0.2.1,()),()),())
def qxl (D:DX)(n:Nat) (a0:tq40):Option tq31:=q8d D n a0
theorem qbj5 (D:DX)(n:Nat) (a0:tq40):rF D n 50 (a0,())=qxl D n a0:=by kernel_rfl

def q5s (D:DX)(n:Nat) (a0:List tq38):Option tq11:=qd (qe7 D a0) fun b↦some (((b.1.1,0,false,[],[],()),()),())
def qu5 (D:DX)(n:Nat) (a0:List tq38):Option tq11:=q5s D n a0
theorem qbi6 (D:DX)(n:Nat) (a0:List tq38):rF D n 51 (a0,())=qu5 D n a0:=by kernel_rfl

def qzq (D:DX)(n:Nat) (go:Int→Int→tq12→tq12→List Int→Option tq9) (K0:Int→tq12→tq12→Option tq9) (x0 x1:Int) (x2 x3:tq12) (x4:List Int):Option tq9:=br (decide (x1<(x4.length:Int))) (br (decide (0≤x1)&&decide (x1<(x4.length:Int))) (br (decide (x3.1.length+1≤qb7)) (go x0 (wrap .i64 (x1+1)) x2 (x3.1++[(List.getD x4 x1.toNat 0,0,0,())],x3.2) x4) none) none) (K0 x0 x2 x3)
def qmw (D:DX)(n:Nat) (K0:Int→tq12→tq12→Option tq9):Nat→Int→Int→tq12→tq12→(List Int)→Option tq9 | 0=>(fun x0 x1 x2 x3 x4=>none) | m+1=>(fun x0 x1 x2 x3 x4=>qzq D n (qmw D n K0 m) K0 x0 x1 x2 x3 x4)
def q5u (D:DX)(n:Nat) (a:Int) (d c:tq12):Option tq9:=qd (qbo D a 1 4) fun b↦br b.1.1 (br (decide (0≤a)&&decide (a≤a)&&decide (a≤(↑qb7:Int))) (qd (qqf D (c.1,List.replicate a.toNat (0,0,[],(0,[],()),()),())) fun b↦br (!b.1.1) (some ((([],[],()),false,()),())) (some (((c.1,List.replicate a.toNat (0,0,[],(0,[],()),()),()),true,()),()))) none) (qd (qqf D (c.1,c.2.1,())) fun b↦br (!b.1.1) (some ((([],[],()),false,()),())) (some (((c.1,c.2.1,()),true,()),())))
def qvv (D:DX)(n:Nat):(Int)→(Int)→tq12→tq12→(List Int)→Option tq9:=(fun x0 x1 x2 x3 x4=>qmw D n (fun a b c=>q5u D n a b c) n x0 x1 x2 x3 x4)
def q2c (D:DX)(n:Nat) (lp0:Int→Int→tq12→tq12→List Int→Option tq9) (a0:tq40) (a1:Int):Option tq9:=qd (qyx D a0) fun b↦lp0 a1 0 ([],[],()) ([],[],()) b.1.1
def q3q (D:DX)(n:Nat) (a0:tq40) (a1:Int):Option tq9:=q2c D n (qvv D n) a0 a1
def qyu (x0 x1:Int) (x2 x3:tq12) (x4:List Int):St:=stq 38 [(1,AV.val yq34 x0),(4,AV.addr 4 []),(6,AV.addr 6 []),(7,AV.brw 7 [] 0),(8,AV.val yq34 x1)] [(4,Root.mk yq3 kq14 x2 true),(6,Root.mk yq3 kq14 x3 true),(7,Root.mk yq30 kq37 x4 false)]
def q5g (a:Int) (b c:tq12):St:=stq 38 [(1,AV.val yq34 a),(4,AV.addr 4 []),(6,AV.addr 6 [])] [(4,Root.mk yq3 kq14 b true),(6,Root.mk yq3 kq14 c true)]
theorem qbka (D:DX)(n:Nat) (K:KT 52):∀ (m:Nat) (x0 x1:Int) (x2 x3:tq12) (x4:List Int),LF D n 52 pq1 m (qyu x0 x1 x2 x3 x4) K=qmw D n (fun a b c=>K (Ex.exit 0) (q5g a b c)) m x0 x1 x2 x3 x4:=eL5 (fun F=>qzq D n F (fun a b c=>K (Ex.exit 0) (q5g a b c))) (fun _ _ _ _ _ =>q7 ..) (fun _ _ _ _ _ _ =>by kernel_rfl) (fun _ _ _ _ _ _ =>rfl)
theorem qbjm (D:DX)(n:Nat) (x0) (x1) (x2) (x3) (x4):LF D n 52 pq1 n (qyu x0 x1 x2 x3 x4) (CF D n 52 [] pq1 (lF 52))=qvv D n x0 x1 x2 x3 x4 :=by rw[qbka];kernel_rfl
theorem qbri (D:DX)(n:Nat) (a0:tq40) (a1:Int):rF D n 52 (a0,(a1,()))=q3q D n a0 a1:=by
 have h:rF D n 52 (a0,(a1,()))=q2c D n (fun x0 x1 x2 x3 x4=>LF D n 52 pq1 n (qyu x0 x1 x2 x3 x4) (CF D n 52 [] pq1 (lF 52))) a0 a1:=by kernel_rfl
 rw[h]
 simp only[qbjm]
 rfl

def qbcq (D:DX)(n:Nat) (a0:tq40):Option tq31:=br (decide (0+a0.1.length≤qb7)) (some ((([]++a0.1,a0.2.1,()),()),())) none
def q2j (D:DX)(n:Nat) (a0:tq40):Option tq31:=qbcq D n a0
theorem qbro (D:DX)(n:Nat) (a0:tq40):rF D n 53 (a0,())=q2j D n a0:=by kernel_rfl

def q7a (D:DX)(n:Nat) (a0:List tq38):Option tq11:=br (decide (0+a0.length≤qb7)) (some ((([]++a0,0,false,[],[],()),()),())) none
def quc (D:DX)(n:Nat) (a0:List tq38):Option tq11:=q7a D n a0
theorem qbjn (D:DX)(n:Nat) (a0:List tq38):rF D n 54 (a0,())=quc D n a0:=by kernel_rfl

def qtl (D:DX)(n:Nat) (go:Int→tq5→Option tq42) (K0:Bool→Option tq42) (K1:Option tq42) (x0:Int) (x1:tq5):Option tq42:=br (decide (x0<(x1.2.1.length:Int))) (br (decide (0≤x0)&&decide (x0<(x1.2.1.length:Int))) (qd (qww D (List.getD x1.2.1 x0.toNat ([],0,false,[],[],())) (x1.2.1.length:Int)) fun b↦br (!b.1.1) (K0 false) (qd (qw1 D x1 x0) fun b↦br (!b.1.1) (K0 false) (go (wrap .i64 (x0+1)) x1))) none) K1
def qjq (D:DX)(n:Nat) (K0:Bool→Option tq42) (K1:Option tq42):Nat→Int→tq5→Option tq42 | 0=>(fun x0 x1=>none) | m+1=>(fun x0 x1=>qtl D n (qjq D n K0 K1 m) K0 K1 x0 x1)
def qbc1 (D:DX)(n:Nat) (a:Bool):Option tq42:=some ((a,()),())
def qbda (D:DX)(n:Nat):Option tq42:=some ((true,()),())
def qqp (D:DX)(n:Nat):(Int)→tq5→Option tq42:=(fun x0 x1=>qjq D n (fun a=>qbc1 D n a) (qbda D n) n x0 x1)
def quv (D:DX)(n:Nat) (lp0:Int→tq5→Option tq42) (a0:tq5):Option tq42:=qd (qqf D a0.1) fun b↦br (bif !b.1.1 then true else (a0.1.2.1.length:Int) != (a0.2.1.length:Int)) (some ((false,()),())) (qd (qbo D a0.2.2.1 0 100000) fun b↦br (!b.1.1) (some ((false,()),())) (qd (qt4 D a0.2.2.2.2.2.1) fun b↦br (!b.1.1) (some ((false,()),())) (qd (q0l D a0) fun b↦br (!b.1.1) (some ((false,()),())) (lp0 0 a0))))
def qun (D:DX)(n:Nat) (a0:tq5):Option tq42:=quv D n (qqp D n) a0
def qs2 (x0:Int) (x1:tq5):St:=stq 58 [(1,AV.addr 1 []),(3,AV.val yq34 x0)] [(1,Root.mk yq0 Mk.no x1 true)]
def qyi (a:Bool):St:=stq 58 [(2,AV.val Ty.bool a)] []
def qyb:St:=stq 58 [] []
theorem qbe9 (D:DX)(n:Nat) (K:KT 55):∀ (m:Nat) (x0:Int) (x1:tq5),LF D n 55 pq0 m (qs2 x0 x1) K=qjq D n (fun a=>K (Ex.ret) (qyi a)) (K (Ex.exit 0) (qyb)) m x0 x1:=eL2 (fun F=>qtl D n F (fun a=>K (Ex.ret) (qyi a)) (K (Ex.exit 0) (qyb))) (fun _ _ =>q7 ..) (fun _ _ _ =>by kernel_rfl) (fun _ _ _ =>rfl)
theorem qbdb (D:DX)(n:Nat) (x0) (x1):LF D n 55 pq0 n (qs2 x0 x1) (CF D n 55 [] pq0 (lF 55))=qqp D n x0 x1 :=by rw[qbe9];kernel_rfl
theorem qbix (D:DX)(n:Nat) (a0:tq5):rF D n 55 (a0,())=qun D n a0:=by
 have h:rF D n 55 (a0,())=quv D n (fun x0 x1=>LF D n 55 pq0 n (qs2 x0 x1) (CF D n 55 [] pq0 (lF 55))) a0:=by kernel_rfl
 rw[h]
 simp only[qbdb]
 rfl

def qpb (D:DX)(n:Nat) (go:List tq13→Int→Int→tq5→tq5→tq5→Option tq3) (K0:tq5→tq5→tq5→Option tq3) (x0:List tq13) (x1 x2:Int) (x3 x4 x5:tq5):Option tq3:=br (decide (x2<x1)) (br (decide (0≤x2)&&decide (x2<(x0.length:Int))) (qd (qhv D (List.getD x0 x2.toNat ([],0,false,[],[],()))) fun b↦br (decide (x5.2.1.length+1≤qb7)) (go x0 x1 (wrap .i64 (x2+1)) x3 x4 (x5.1,x5.2.1++[(b.1.1.1,b.1.1.2.1,b.1.1.2.2.1,b.1.1.2.2.2.1,b.1.1.2.2.2.2.1,())],x5.2.2)) none) none) (K0 x3 x4 x5)
def qh2 (D:DX)(n:Nat) (K0:tq5→tq5→tq5→Option tq3):Nat→(List tq13)→Int→Int→tq5→tq5→tq5→Option tq3 | 0=>(fun x0 x1 x2 x3 x4 x5=>none) | m+1=>(fun x0 x1 x2 x3 x4 x5=>qpb D n (qh2 D n K0 m) K0 x0 x1 x2 x3 x4 x5)
def qo6 (D:DX)(n:Nat) (go:List tq17→Int→Int→tq5→tq5→Option tq3) (K0:tq5→tq5→Option tq3) (d:List tq17) (e c:Int) (f a:tq5):Option tq3:=let y0:=List.getD d c.toNat (0,(0,0,0,()),0,0,0,(0,[],()),());br (decide (c<e)) (br (decide (0≤c)&&decide (c<(d.length:Int))) (qd (qig D y0.2.2.2.2.2.1) fun b↦br (decide (a.2.2.2.1.length+1≤qb7)) (go d e (wrap .i64 (c+1)) f (a.1,a.2.1,a.2.2.1,a.2.2.2.1++[(y0.1,y0.2.1,y0.2.2.1,y0.2.2.2.1,y0.2.2.2.2.1,(b.1.1.1,b.1.1.2.1,()),())],a.2.2.2.2)) none) none) (K0 f a)
def qh8 (D:DX)(n:Nat) (K0:tq5→tq5→Option tq3):Nat→(List tq17)→Int→Int→tq5→tq5→Option tq3 | 0=>(fun a b c d e=>none) | m+1=>(fun a b c d e=>qo6 D n (qh8 D n K0 m) K0 a b c d e)
def qban (D:DX)(n:Nat) (b a:tq5):Option tq3:=some ((((a.1.1,a.1.2.1,()),a.2.1,a.2.2.1,a.2.2.2.1,a.2.2.2.2.1,(a.2.2.2.2.2.1.1,a.2.2.2.2.2.1.2),()),()),())
def qoc (D:DX)(n:Nat):(List tq17)→(Int)→(Int)→tq5→tq5→Option tq3:=(fun a d e f g=>qh8 D n (fun b c=>qban D n b c) n a d e f g)
def qmy (D:DX)(n:Nat) (lp1:List tq17→Int→Int→tq5→tq5→Option tq3) (a b c:tq5):Option tq3:=lp1 a.2.2.2.1 (a.2.2.2.1.length:Int) 0 b c
def qnv (D:DX)(n:Nat):(List tq13)→(Int)→(Int)→tq5→tq5→tq5→Option tq3:=(fun x0 x1 x2 x3 x4 x5=>qh2 D n (fun a b c=>qmy D n (qoc D n) a b c) n x0 x1 x2 x3 x4 x5)
def qqn (D:DX)(n:Nat) (lp0:List tq13→Int→Int→tq5→tq5→tq5→Option tq3) (a0:tq5):Option tq3:=qd (qke D a0.1) fun b↦qd (qgh D a0.2.2.2.2.1) fun b_1↦qd (qji D a0.2.2.2.2.2.1) fun b_2↦lp0 a0.2.1 (a0.2.1.length:Int) 0 a0 (([],[],()),[],0,[],[],([],0,()),()) ((b.1.1.1,b.1.1.2.1,()),[],a0.2.2.1,[],b_1.1.1,(b_2.1.1.1,b_2.1.1.2),())
def qq8 (D:DX)(n:Nat) (a0:tq5):Option tq3:=qqn D n (qnv D n) a0
def qo5 (x0:List tq13) (x1 x2:Int) (x3 x4 x5:tq5):St:=stq 54 [(1,AV.addr 1 []),(2,AV.addr 2 []),(3,AV.addr 3 []),(21,AV.val yq4 x0),(22,AV.val yq34 x1),(23,AV.val yq34 x2)] [(1,Root.mk yq0 Mk.no x3 true),(2,Root.mk yq0 kq1 x4 true),(3,Root.mk yq0 kq2 x5 true)]
def qmt (a b c:tq5):St:=stq 54 [(1,AV.addr 1 []),(2,AV.addr 2 []),(3,AV.addr 3 [])] [(1,Root.mk yq0 Mk.no a true),(2,Root.mk yq0 kq1 b true),(3,Root.mk yq0 kq2 c true)]
def qo3 (a:List tq17) (b c:Int) (d e:tq5):St:=stq 54 [(2,AV.addr 2 []),(3,AV.addr 3 []),(36,AV.val yq6 a),(37,AV.val yq34 b),(38,AV.val yq34 c)] [(2,Root.mk yq0 kq1 d true),(3,Root.mk yq0 kq2 e true)]
def qvs (a b:tq5):St:=stq 54 [(2,AV.addr 2 []),(3,AV.addr 3 [])] [(2,Root.mk yq0 kq1 a true),(3,Root.mk yq0 kq2 b true)]
theorem qbbr (D:DX)(n:Nat) (K:KT 56):∀ (m:Nat) (x0:List tq13) (x1 x2:Int) (x3 x4 x5:tq5),LF D n 56 pq0 m (qo5 x0 x1 x2 x3 x4 x5) K=qh2 D n (fun a b c=>K (Ex.exit 0) (qmt a b c)) m x0 x1 x2 x3 x4 x5:=eL6 (fun F=>qpb D n F (fun a b c=>K (Ex.exit 0) (qmt a b c))) (fun _ _ _ _ _ _ =>q7 ..) (fun _ _ _ _ _ _ _ =>by kernel_rfl) (fun _ _ _ _ _ _ _ =>rfl)
theorem qbb6 (D:DX)(n:Nat) (K:KT 56):∀ (m:Nat) (c:List tq17) (d e:Int) (f g:tq5),LF D n 56 pq1 m (qo3 c d e f g) K=qh8 D n (fun a b=>K (Ex.exit 2) (qvs a b)) m c d e f g:=eL5 (fun F=>qo6 D n F (fun a b=>K (Ex.exit 2) (qvs a b))) (fun _ _ _ _ _ =>q7 ..) (fun _ _ _ _ _ _ =>by kernel_rfl) (fun _ _ _ _ _ _ =>rfl)
theorem q90 (D:DX)(n:Nat) (a:List tq17) (b c:Int) (d e:tq5):LF D n 56 pq1 n (qo3 a b c d e) (CF D n 56 [] pq1 (lF 56))=qoc D n a b c d e :=by rw[qbb6];kernel_rfl
theorem q9q (D:DX)(n:Nat) (a b c:tq5):(CF D n 56 [] pq0 (lF 56)) (Ex.exit 0) (qmt a b c)=qmy D n (fun d e f g h=>LF D n 56 pq1 n (qo3 d e f g h) (CF D n 56 [] pq1 (lF 56))) a b c:=by kernel_rfl
theorem qbaa (D:DX)(n:Nat) (x0) (x1) (x2) (x3) (x4) (x5):LF D n 56 pq0 n (qo5 x0 x1 x2 x3 x4 x5) (CF D n 56 [] pq0 (lF 56))=qnv D n x0 x1 x2 x3 x4 x5:=by
 rw[qbbr]
 simp only[q9q,q90]
 rfl
theorem qbd8 (D:DX)(n:Nat) (a0:tq5):rF D n 56 (a0,())=qq8 D n a0:=by
 have h:rF D n 56 (a0,())=qqn D n (fun x0 x1 x2 x3 x4 x5=>LF D n 56 pq0 n (qo5 x0 x1 x2 x3 x4 x5) (CF D n 56 [] pq0 (lF 56))) a0:=by kernel_rfl
 rw[h]
 simp only[qbaa]
 rfl

def q9g (D:DX)(n:Nat) (a0:tq5) (a1:Int):Option tq0:=let y0:Option tq0:=qd (qjd D a0) fun b↦some ((((b.1.1.1.1,b.1.1.1.2.1,()),b.1.1.2.1,b.1.1.2.2.1,b.1.1.2.2.2.1,b.1.1.2.2.2.2.1,b.1.1.2.2.2.2.2),false,()),());qd (qfo D a0) fun b↦br (!b.1.1) y0 (qd (qbp D a1 0 (wrap .i64 ((a0.2.1.length:Int) - 1))) fun b↦br (!b.1.1) y0 (br (decide (0≤a1)&&decide (a1<(a0.2.1.length:Int))) (qd (q4p D (List.getD a0.2.1 a1.toNat ([],0,false,[],[],()))) fun b↦br (bif b.1.1 then true else decide (a0.2.2.1=100000)) y0 (qd (qjd D a0) fun b↦br (decide (0≤a1)&&decide (a1<(b.1.1.2.1.length:Int))) (br (!(List.getD b.1.1.2.1 a1.toNat ([],0,false,[],[],())).2.2.1) (br (decide (0≤(List.getD b.1.1.2.1 a1.toNat ([],0,false,[],[],())).2.1)&&decide ((List.getD b.1.1.2.1 a1.toNat ([],0,false,[],[],())).2.1<((List.getD b.1.1.2.1 a1.toNat ([],0,false,[],[],())).1.length:Int))) (br (decide (b.1.1.2.2.2.1.length+1≤qb7)) (qd (qfo D ((b.1.1.1.1,b.1.1.1.2.1,()),List.set b.1.1.2.1 a1.toNat ((List.getD b.1.1.2.1 a1.toNat ([],0,false,[],[],())).1,(List.getD b.1.1.2.1 a1.toNat ([],0,false,[],[],())).2.1,true,(List.getD b.1.1.2.1 a1.toNat ([],0,false,[],[],())).2.2.2),wrap .i64 (b.1.1.2.2.1+1),b.1.1.2.2.2.1++[(a1,List.getD (List.getD b.1.1.2.1 a1.toNat ([],0,false,[],[],())).1 (Int.toNat (List.getD b.1.1.2.1 a1.toNat ([],0,false,[],[],())).2.1) (0,0,0,()),wrap .i64 (b.1.1.2.2.1+1),-1,-1,(0,[],()),())],b.1.1.2.2.2.2.1,b.1.1.2.2.2.2.2)) fun b_1↦let a:=List.getD b.1.1.2.1 a1.toNat ([],0,false,[],[],());br (!b_1.1.1) y0 (some ((((b.1.1.1.1,b.1.1.1.2.1,()),List.set b.1.1.2.1 a1.toNat (a.1,a.2.1,true,a.2.2.2),wrap .i64 (b.1.1.2.2.1+1),b.1.1.2.2.2.1++[(a1,List.getD a.1 (Int.toNat a.2.1) (0,0,0,()),wrap .i64 (b.1.1.2.2.1+1),-1,-1,(0,[],()),())],b.1.1.2.2.2.2.1,b.1.1.2.2.2.2.2),true,()),()))) none) none) (br (decide (((List.getD b.1.1.2.1 a1.toNat ([],0,false,[],[],())).2.2.2.2.1.length:Int)>0)) (qd (qm4 D ((b.1.1.1.1,b.1.1.1.2.1,()),b.1.1.2.1,wrap .i64 (b.1.1.2.2.1+1),b.1.1.2.2.2.1,b.1.1.2.2.2.2.1,b.1.1.2.2.2.2.2) a1) fun b↦qd (qfo D ((b.2.1.1.1,b.2.1.1.2.1,()),b.2.1.2.1,b.2.1.2.2.1,b.2.1.2.2.2.1,b.2.1.2.2.2.2.1,b.2.1.2.2.2.2.2)) fun b_1↦br (!b_1.1.1) y0 (some ((((b.2.1.1.1,b.2.1.1.2.1,()),b.2.1.2.1,b.2.1.2.2.1,b.2.1.2.2.2.1,b.2.1.2.2.2.2.1,b.2.1.2.2.2.2.2),true,()),()))) (qd (qpk D ((b.1.1.1.1,b.1.1.1.2.1,()),b.1.1.2.1,wrap .i64 (b.1.1.2.2.1+1),b.1.1.2.2.2.1,b.1.1.2.2.2.2.1,b.1.1.2.2.2.2.2) a1) fun b↦br (!b.1.1) y0 (qd (qfo D ((b.2.1.1.1,b.2.1.1.2.1,()),b.2.1.2.1,b.2.1.2.2.1,b.2.1.2.2.2.1,b.2.1.2.2.2.2.1,b.2.1.2.2.2.2.2)) fun b_1↦br (!b_1.1.1) y0 (some ((((b.2.1.1.1,b.2.1.1.2.1,()),b.2.1.2.1,b.2.1.2.2.1,b.2.1.2.2.2.1,b.2.1.2.2.2.2.1,b.2.1.2.2.2.2.2),true,()),())))))) none)) none))
def q08 (D:DX)(n:Nat) (a0:tq5) (a1:Int):Option tq0:=q9g D n a0 a1
theorem qbvh (D:DX)(n:Nat) (a0:tq5) (a1:Int):rF D n 57 (a0,(a1,()))=q08 D n a0 a1:=by kernel_rfl

def qbvu (D:DX)(n:Nat) (a0 a1 a2:Int):Option tq42:=some ((bif decide (a0≥a1) then decide (a0≤a2) else false,()),())
def qbhv (D:DX)(n:Nat) (a0 a1 a2:Int):Option tq42:=qbvu D n a0 a1 a2
theorem qbvw (D:DX)(n:Nat) (a0 a1 a2:Int):rF D n 58 (a0,(a1,(a2,())))=qbhv D n a0 a1 a2:=by kernel_rfl




def q23 (D:DX)(n:Nat) (go:List tq38→Int→Int→tq12→Option tq42) (K0:Bool→Option tq42) (K1:Option tq42) (x0:List tq38) (x1 x2:Int) (x3:tq12):Option tq42:=let y0:=List.getD x0 x2.toNat (0,0,0,());let y1:=List.getD x3.2.1 (Int.toNat (wrap .i64 (y0.2.1 - 1))) (0,0,[],(0,[],()),());br (decide (x2<x1)) (br (decide (0≤x2)&&decide (x2<(x0.length:Int))) (qd (q18 D y0 (x3.2.1.length:Int)) fun b↦br (!b.1.1) (K0 false) (br (decide (y0.2.1=0)) (go x0 x1 (wrap .i64 (x2+1)) x3) (br (decide (0≤wrap .i64 (y0.2.1 - 1))&&decide (wrap .i64 (y0.2.1 - 1)<(x3.2.1.length:Int))) (qd (qz4 D y1 x2) fun b↦br (bif !b.1.2.1 then true else y1.1 != y0.2.2.1) (K0 false) (go x0 x1 (wrap .i64 (x2+1)) x3)) none))) none) K1
def qom (D:DX)(n:Nat) (K0:Bool→Option tq42) (K1:Option tq42):Nat→(List tq38)→Int→Int→tq12→Option tq42 | 0=>(fun x0 x1 x2 x3=>none) | m+1=>(fun x0 x1 x2 x3=>q23 D n (qom D n K0 K1 m) K0 K1 x0 x1 x2 x3)
def q8j (D:DX)(n:Nat) (a:Bool):Option tq42:=some ((a,()),())
def q78 (D:DX)(n:Nat):Option tq42:=some ((true,()),())
def qzm (D:DX)(n:Nat):(List tq38)→(Int)→(Int)→tq12→Option tq42:=(fun x0 x1 x2 x3=>qom D n (fun a=>q8j D n a) (q78 D n) n x0 x1 x2 x3)
def q5p (D:DX)(n:Nat) (lp0:List tq38→Int→Int→tq12→Option tq42) (a0:tq12):Option tq42:=br ((a0.1.length:Int) != 20) (some ((false,()),())) (qd (qbp D (a0.2.1.length:Int) 1 4) fun b↦br (!b.1.1) (some ((false,()),())) (qd (qdx D a0.2.1 (Clo.mk 110 [])) fun b↦br b.1.1 (some ((false,()),())) (lp0 a0.1 (a0.1.length:Int) 0 a0)))
def q64 (D:DX)(n:Nat) (a0:tq12):Option tq42:=q5p D n (qzm D n) a0
def q29 (x0:List tq38) (x1 x2:Int) (x3:tq12):St:=stq 64 [(1,AV.addr 1 []),(25,AV.val yq19 x0),(26,AV.val yq34 x1),(27,AV.val yq34 x2)] [(1,Root.mk yq3 Mk.no x3 true)]
def q8i (a:Bool):St:=stq 64 [(2,AV.val Ty.bool a)] []
def q7w:St:=stq 64 [] []
theorem qbm7 (D:DX)(n:Nat) (K:KT 63):∀ (m:Nat) (x0:List tq38) (x1 x2:Int) (x3:tq12),LF D n 63 pq0 m (q29 x0 x1 x2 x3) K=qom D n (fun a=>K (Ex.ret) (q8i a)) (K (Ex.exit 0) (q7w)) m x0 x1 x2 x3:=eL4 (fun F=>q23 D n F (fun a=>K (Ex.ret) (q8i a)) (K (Ex.exit 0) (q7w))) (fun _ _ _ _ =>q7 ..) (fun _ _ _ _ _ =>by kernel_rfl) (fun _ _ _ _ _ =>rfl)
theorem qbkb (D:DX)(n:Nat) (x0) (x1) (x2) (x3):LF D n 63 pq0 n (q29 x0 x1 x2 x3) (CF D n 63 [] pq0 (lF 63))=qzm D n x0 x1 x2 x3 :=by rw[qbm7];kernel_rfl
theorem qbtk (D:DX)(n:Nat) (a0:tq12):rF D n 63 (a0,())=q64 D n a0:=by
 have h:rF D n 63 (a0,())=q5p D n (fun x0 x1 x2 x3=>LF D n 63 pq0 n (q29 x0 x1 x2 x3) (CF D n 63 [] pq0 (lF 63))) a0:=by kernel_rfl
 rw[h]
 simp only[qbkb]
 rfl

def qg9 (D:DX)(n:Nat) (a1:Clo) (a0:List tq38):Option tq42:=qd (qh9 D a0 a1) fun b↦some ((decide (b.1.1≥0),()),())
def qd4 (D:DX)(n:Nat) (a0:List tq38) (a1:Clo):Option tq42:=qg9 D n a1 a0
theorem qnb (D:DX)(n:Nat) (a0:List tq38) (a1:Clo):rF D n 64 (a0,(a1,()))=qd4 D n a0 a1:=by kernel_rfl

def q0i (D:DX)(n:Nat) (go:List Int→Int→Int→tq40→Option tq42) (K0:Bool→tq40→Option tq42) (K1:tq40→Option tq42) (x0:List Int) (x1 x2:Int) (x3:tq40):Option tq42:=br (decide (x2<x1)) (br (decide (0≤x2)&&decide (x2<(x0.length:Int))) (br (List.getD x0 x2.toNat 0 != 0) (qd (qgj D (List.getD x0 x2.toNat 0)) fun b↦br (!b.1.1) (K0 false x3) (br (decide (0≤0)&&decide (0≤x2)&&decide (x2≤(x3.1.length:Int))) (qd (qg4 D (List.drop (Int.toNat 0) (List.take x2.toNat x3.1)) (List.getD x0 x2.toNat 0)) fun b↦br b.1.1 (K0 false x3) (go x0 x1 (wrap .i64 (x2+1)) x3)) none)) (go x0 x1 (wrap .i64 (x2+1)) x3)) none) (K1 x3)
def qm3 (D:DX)(n:Nat) (K0:Bool→tq40→Option tq42) (K1:tq40→Option tq42):Nat→(List Int)→Int→Int→tq40→Option tq42 | 0=>(fun x0 x1 x2 x3=>none) | m+1=>(fun x0 x1 x2 x3=>q0i D n (qm3 D n K0 K1 m) K0 K1 x0 x1 x2 x3)
def q5l (D:DX)(n:Nat) (a:Bool) (b:tq40):Option tq42:=some ((a,()),())
def que (D:DX)(n:Nat) (a:tq40):Option tq42:=br (decide ((a.1.length:Int)=4)) (qd (qbp D a.2.1 0 5) fun b↦some ((b.1.1,()),())) (some ((false,()),()))
def qv8 (D:DX)(n:Nat):(List Int)→(Int)→(Int)→tq40→Option tq42:=(fun x0 x1 x2 x3=>qm3 D n (fun a b=>q5l D n a b) (fun c=>que D n c) n x0 x1 x2 x3)
def q3f (D:DX)(n:Nat) (lp0:List Int→Int→Int→tq40→Option tq42) (a0:tq40):Option tq42:=lp0 a0.1 (a0.1.length:Int) 0 a0
def q2f (D:DX)(n:Nat) (a0:tq40):Option tq42:=q3f D n (qv8 D n) a0
def qzz (x0:List Int) (x1 x2:Int) (x3:tq40):St:=stq 38 [(1,AV.addr 1 []),(6,AV.val yq30 x0),(7,AV.val yq34 x1),(8,AV.val yq34 x2)] [(1,Root.mk yq25 Mk.no x3 true)]
def q7o (a:Bool) (b:tq40):St:=stq 38 [(1,AV.addr 1 []),(2,AV.val Ty.bool a)] [(1,Root.mk yq25 Mk.no b true)]
def q5w (a:tq40):St:=stq 38 [(1,AV.addr 1 [])] [(1,Root.mk yq25 Mk.no a true)]
theorem qbli (D:DX)(n:Nat) (K:KT 66):∀ (m:Nat) (x0:List Int) (x1 x2:Int) (x3:tq40),LF D n 66 pq2 m (qzz x0 x1 x2 x3) K=qm3 D n (fun a b=>K (Ex.ret) (q7o a b)) (fun c=>K (Ex.exit 0) (q5w c)) m x0 x1 x2 x3:=eL4 (fun F=>q0i D n F (fun a b=>K (Ex.ret) (q7o a b)) (fun c=>K (Ex.exit 0) (q5w c))) (fun _ _ _ _ =>q7 ..) (fun _ _ _ _ _ =>by kernel_rfl) (fun _ _ _ _ _ =>rfl)
theorem qbjd (D:DX)(n:Nat) (x0) (x1) (x2) (x3):LF D n 66 pq2 n (qzz x0 x1 x2 x3) (CF D n 66 [] pq2 (lF 66))=qv8 D n x0 x1 x2 x3 :=by rw[qbli];kernel_rfl
theorem qbqi (D:DX)(n:Nat) (a0:tq40):rF D n 66 (a0,())=q2f D n a0:=by
 have h:rF D n 66 (a0,())=q3f D n (fun x0 x1 x2 x3=>LF D n 66 pq2 n (qzz x0 x1 x2 x3) (CF D n 66 [] pq2 (lF 66))) a0:=by kernel_rfl
 rw[h]
 simp only[qbjd]
 rfl

def qk5 (D:DX)(n:Nat) (go:List Int→List Int→Int→Int→Option tq42) (K0:Bool→Option tq42) (K1:Option tq42) (x0 x1:List Int) (x2 x3:Int):Option tq42:=br (decide (x3<x2)) (br (decide (0≤x3)&&decide (x3<(x0.length:Int))) (br (decide (0≤x3)&&decide (x3<(x1.length:Int))) (br (List.getD x0 x3.toNat 0 != List.getD x1 x3.toNat 0) (K0 false) (go x0 x1 x2 (wrap .i64 (x3+1)))) none) none) K1
def qfy (D:DX)(n:Nat) (K0:Bool→Option tq42) (K1:Option tq42):Nat→(List Int)→(List Int)→Int→Int→Option tq42 | 0=>(fun x0 x1 x2 x3=>none) | m+1=>(fun x0 x1 x2 x3=>qk5 D n (qfy D n K0 K1 m) K0 K1 x0 x1 x2 x3)
def qpu (D:DX)(n:Nat) (a:Bool):Option tq42:=some ((a,()),())
def qpx (D:DX)(n:Nat):Option tq42:=some ((true,()),())
def qko (D:DX)(n:Nat):(List Int)→(List Int)→(Int)→(Int)→Option tq42:=(fun x0 x1 x2 x3=>qfy D n (fun a=>qpu D n a) (qpx D n) n x0 x1 x2 x3)
def ql8 (D:DX)(n:Nat) (lp0:List Int→List Int→Int→Int→Option tq42) (a0 a1:List Int):Option tq42:=br ((a0.length:Int) != (a1.length:Int)) (some ((false,()),())) (lp0 a0 a1 (a0.length:Int) 0)
def ql5 (D:DX)(n:Nat) (a0 a1:List Int):Option tq42:=ql8 D n (qko D n) a0 a1
def qk0 (x0 x1:List Int) (x2 x3:Int):St:=stq 26 [(0,AV.val yq30 x0),(1,AV.val yq30 x1),(12,AV.val yq34 x2),(13,AV.val yq34 x3)] []
def qpy (a:Bool):St:=stq 26 [(4,AV.val Ty.bool a)] []
def qp3:St:=stq 26 [] []
theorem q7i (D:DX)(n:Nat) (K:KT 67):∀ (m:Nat) (x0 x1:List Int) (x2 x3:Int),LF D n 67 pq0 m (qk0 x0 x1 x2 x3) K=qfy D n (fun a=>K (Ex.ret) (qpy a)) (K (Ex.exit 0) (qp3)) m x0 x1 x2 x3:=eL4 (fun F=>qk5 D n F (fun a=>K (Ex.ret) (qpy a)) (K (Ex.exit 0) (qp3))) (fun _ _ _ _ =>q7 ..) (fun _ _ _ _ _ =>by kernel_rfl) (fun _ _ _ _ _ =>rfl)
theorem q42 (D:DX)(n:Nat) (x0) (x1) (x2) (x3):LF D n 67 pq0 n (qk0 x0 x1 x2 x3) (CF D n 67 [] pq0 (lF 67))=qko D n x0 x1 x2 x3 :=by rw[q7i];kernel_rfl
theorem q88 (D:DX)(n:Nat) (a0 a1:List Int):rF D n 67 (a0,(a1,()))=ql5 D n a0 a1:=by
 have h:rF D n 67 (a0,(a1,()))=ql8 D n (fun x0 x1 x2 x3=>LF D n 67 pq0 n (qk0 x0 x1 x2 x3) (CF D n 67 [] pq0 (lF 67))) a0 a1:=by kernel_rfl
 rw[h]
 simp only[q42]
 rfl

def qxe (D:DX)(n:Nat) (go:List Int→Int→Int→tq40→List Int→Option tq37) (K0:tq40→List Int→Option tq37) (x0:List Int) (x1 x2:Int) (x3:tq40) (x4:List Int):Option tq37:=let y0:=wrap .i64 (x2+1);let y1:=List.getD x0 x2.toNat 0;br (decide (x2<x1)) (br (decide (0≤x2)&&decide (x2<(x0.length:Int))) (br (decide (y1=0)) (go x0 x1 y0 x3 x4) (qd (qdo D y1) fun b↦br (decide (0≤b.1.1)&&decide (b.1.1<(x4.length:Int))) (qd (qcq D y1) fun b_1↦qd (qdn D b_1.1.1) fun b_2↦br (decide (0≤b_2.1.1)&&decide (b_2.1.1<((List.set x4 b.1.1.toNat y0).length:Int))) (br (decide (0≤b_2.1.1)&&decide (b_2.1.1<((List.set x4 b.1.1.toNat y0).length:Int))) (br (decide (x2<wrap .i64 (x3.2.1 - 1))) (qd (qeo D y1) fun b_3↦let a:=List.set (List.set x4 b.1.1.toNat y0) b_2.1.1.toNat (wrap .i64 (List.getD (List.set x4 b.1.1.toNat y0) b_2.1.1.toNat 0+1));br (decide (0≤b_3.1.1)&&decide (b_3.1.1<(a.length:Int))) (go x0 x1 y0 x3 (List.set a b_3.1.1.toNat y0)) none) (go x0 x1 y0 x3 (List.set (List.set x4 b.1.1.toNat y0) b_2.1.1.toNat (wrap .i64 (List.getD (List.set x4 b.1.1.toNat y0) b_2.1.1.toNat 0+1))))) none) none) none)) none) (K0 x3 x4)
def qlm (D:DX)(n:Nat) (K0:tq40→List Int→Option tq37):Nat→(List Int)→Int→Int→tq40→(List Int)→Option tq37 | 0=>(fun x0 x1 x2 x3 x4=>none) | m+1=>(fun x0 x1 x2 x3 x4=>qxe D n (qlm D n K0 m) K0 x0 x1 x2 x3 x4)
def qsf (D:DX)(n:Nat) (c:tq40) (a:List Int):Option tq37:=qd (qcp D) fun b↦br (decide (0≤b.1.1)&&decide (b.1.1<(a.length:Int))) (some ((List.set a b.1.1.toNat c.2.1,()),())) none
def qva (D:DX)(n:Nat):(List Int)→(Int)→(Int)→tq40→(List Int)→Option tq37:=(fun x0 x1 x2 x3 x4=>qlm D n (fun a b=>qsf D n a b) n x0 x1 x2 x3 x4)
def qy4 (D:DX)(n:Nat) (lp0:List Int→Int→Int→tq40→List Int→Option tq37) (a0:tq40):Option tq37:=qd (qor D a0) fun b↦br (!b.1.1) (some (([],()),())) (br (decide (0<a0.1.length)&&decide (0<(List.replicate (Int.toNat 20) 0).length)) (lp0 a0.1 (a0.1.length:Int) 0 a0 (qoq yq34 (List.replicate (Int.toNat 20) 0) a0.1)) (lp0 a0.1 (a0.1.length:Int) 0 a0 (List.replicate (Int.toNat 20) 0)))
def qyj (D:DX)(n:Nat) (a0:tq40):Option tq37:=qy4 D n (qva D n) a0
def qwa (x0:List Int) (x1 x2:Int) (x3:tq40) (x4:List Int):St:=stq 56 [(1,AV.addr 1 []),(3,AV.brw 3 [] 0),(15,AV.val yq30 x0),(16,AV.val yq34 x1),(17,AV.val yq34 x2)] [(1,Root.mk yq25 Mk.no x3 true),(3,Root.mk yq30 kq37 x4 false)]
def q4a (a:tq40) (b:List Int):St:=stq 56 [(1,AV.addr 1 []),(3,AV.brw 3 [] 0)] [(1,Root.mk yq25 Mk.no a true),(3,Root.mk yq30 kq37 b false)]
theorem qbjf (D:DX)(n:Nat) (K:KT 68):∀ (m:Nat) (x0:List Int) (x1 x2:Int) (x3:tq40) (x4:List Int),LF D n 68 pq3 m (qwa x0 x1 x2 x3 x4) K=qlm D n (fun a b=>K (Ex.exit 0) (q4a a b)) m x0 x1 x2 x3 x4:=eL5 (fun F=>qxe D n F (fun a b=>K (Ex.exit 0) (q4a a b))) (fun _ _ _ _ _ =>q7 ..) (fun _ _ _ _ _ _ =>by kernel_rfl) (fun _ _ _ _ _ _ =>rfl)
theorem qbg0 (D:DX)(n:Nat) (x0) (x1) (x2) (x3) (x4):LF D n 68 pq3 n (qwa x0 x1 x2 x3 x4) (CF D n 68 [] pq3 (lF 68))=qva D n x0 x1 x2 x3 x4 :=by rw[qbjf];kernel_rfl
theorem qbmg (D:DX)(n:Nat) (a0:tq40):rF D n 68 (a0,())=qyj D n a0:=by
 have h:rF D n 68 (a0,())=qy4 D n (fun x0 x1 x2 x3 x4=>LF D n 68 pq3 n (qwa x0 x1 x2 x3 x4) (CF D n 68 [] pq3 (lF 68))) a0:=by kernel_rfl
 rw[h]
 simp only[qbg0]
 rfl

def ql1 (D:DX)(n:Nat) (a0:List Int):Option tq37:=br (decide (Int.toNat (a0.length:Int)=0)) (both (some (([],()),())) (br (decide (0+a0.length≤qb7)) (some (([]++a0,()),())) none)) (br (decide (0+a0.length≤qb7)) (some (([]++a0,()),())) none)
def qiq (D:DX)(n:Nat) (a0:List Int):Option tq37:=ql1 D n a0
theorem q83 (D:DX)(n:Nat) (a0:List Int):rF D n 69 (a0,())=qiq D n a0:=by kernel_rfl

def qbml (D:DX)(n:Nat):Option tq43:=some ((13,()),())
def q9o (D:DX)(n:Nat):Option tq43:=qbml D n
theorem qbmz (D:DX)(n:Nat):rF D n 70 ()=q9o D n:=by kernel_rfl

def qbwc (D:DX)(n:Nat) (a0:tq40):Option tq42:=some ((decide (a0.2.1=5),()),())
def qbhu (D:DX)(n:Nat) (a0:tq40):Option tq42:=qbwc D n a0
theorem qbvx (D:DX)(n:Nat) (a0:tq40):rF D n 71 (a0,())=qbhu D n a0:=by kernel_rfl

def qbap (D:DX)(n:Nat) (a0:Int):Option tq43:=qd (qgj D a0) fun b↦qd (qlb D b.1.1 (wrap .i64 (3+a0))) fun b↦some ((b.1.1,()),())
def qzs (D:DX)(n:Nat) (a0:Int):Option tq43:=qbap D n a0
theorem qbol (D:DX)(n:Nat) (a0:Int):rF D n 73 (a0,())=qzs D n a0:=by kernel_rfl

def qk2 (D:DX)(n:Nat) (go:List Int→Int→Int→Int→Option tq43) (K0:Int→Option tq43) (K1:Option tq43) (x0:List Int) (x1 x2 x3:Int):Option tq43:=br (decide (x3<x2)) (br (decide (0≤x3)&&decide (x3<(x0.length:Int))) (br (decide (x1=List.getD x0 x3.toNat 0)) (K0 x3) (go x0 x1 x2 (wrap .i64 (x3+1)))) none) K1
def qfx (D:DX)(n:Nat) (K0:Int→Option tq43) (K1:Option tq43):Nat→(List Int)→Int→Int→Int→Option tq43 | 0=>(fun x0 x1 x2 x3=>none) | m+1=>(fun x0 x1 x2 x3=>qk2 D n (qfx D n K0 K1 m) K0 K1 x0 x1 x2 x3)
def qp1 (D:DX)(n:Nat) (a:Int):Option tq43:=some ((a,()),())
def qp5 (D:DX)(n:Nat):Option tq43:=some ((-1,()),())
def qkq (D:DX)(n:Nat):(List Int)→(Int)→(Int)→(Int)→Option tq43:=(fun x0 x1 x2 x3=>qfx D n (fun a=>qp1 D n a) (qp5 D n) n x0 x1 x2 x3)
def ql3 (D:DX)(n:Nat) (lp0:List Int→Int→Int→Int→Option tq43) (a0:List Int) (a1:Int):Option tq43:=lp0 a0 a1 (a0.length:Int) 0
def ql0 (D:DX)(n:Nat) (a0:List Int) (a1:Int):Option tq43:=ql3 D n (qkq D n) a0 a1
def qk3 (x0:List Int) (x1 x2 x3:Int):St:=stq 19 [(0,AV.val yq30 x0),(1,AV.val yq34 x1),(7,AV.val yq34 x2),(8,AV.val yq34 x3)] []
def qp0 (a:Int):St:=stq 19 [(4,AV.val yq34 a)] []
def qpv:St:=stq 19 [] []
theorem q6b (D:DX)(n:Nat) (K:KT 74):∀ (m:Nat) (x0:List Int) (x1 x2 x3:Int),LF D n 74 pq2 m (qk3 x0 x1 x2 x3) K=qfx D n (fun a=>K (Ex.ret) (qp0 a)) (K (Ex.exit 0) (qpv)) m x0 x1 x2 x3:=eL4 (fun F=>qk2 D n F (fun a=>K (Ex.ret) (qp0 a)) (K (Ex.exit 0) (qpv))) (fun _ _ _ _ =>q7 ..) (fun _ _ _ _ _ =>by kernel_rfl) (fun _ _ _ _ _ =>rfl)
theorem q4w (D:DX)(n:Nat) (x0) (x1) (x2) (x3):LF D n 74 pq2 n (qk3 x0 x1 x2 x3) (CF D n 74 [] pq2 (lF 74))=qkq D n x0 x1 x2 x3 :=by rw[q6b];kernel_rfl
theorem q8z (D:DX)(n:Nat) (a0:List Int) (a1:Int):rF D n 74 (a0,(a1,()))=ql0 D n a0 a1:=by
 have h:rF D n 74 (a0,(a1,()))=ql3 D n (fun x0 x1 x2 x3=>LF D n 74 pq2 n (qk3 x0 x1 x2 x3) (CF D n 74 [] pq2 (lF 74))) a0 a1:=by kernel_rfl
 rw[h]
 simp only[q4w]
 rfl

def qbrp (D:DX)(n:Nat) (a0:Bool) (a1:Int):Option tq43:=br (!a0) (some ((-1,()),())) (some ((a1,()),()))
def qbcj (D:DX)(n:Nat) (a0:Bool) (a1:Int):Option tq43:=qbrp D n a0 a1
theorem qbqn (D:DX)(n:Nat) (a0:Bool) (a1:Int):rF D n 75 (a0,(a1,()))=qbcj D n a0 a1:=by kernel_rfl

def qbe6 (D:DX)(n:Nat) (a0:Int):Option tq42:=qd (qbp D a0 1 6) fun b↦some ((b.1.1,()),())
def q55 (D:DX)(n:Nat) (a0:Int):Option tq42:=qbe6 D n a0
theorem qbt4 (D:DX)(n:Nat) (a0:Int):rF D n 76 (a0,())=q55 D n a0:=by kernel_rfl

def qbaj (D:DX)(n:Nat) (a0:Int):Option tq43:=qd (qgj D a0) fun b↦br (!b.1.1) (some ((-1,()),())) (some ((Int.tmod a0 3,()),()))
def q0g (D:DX)(n:Nat) (a0:Int):Option tq43:=qbaj D n a0
theorem qbnx (D:DX)(n:Nat) (a0:Int):rF D n 77 (a0,())=q0g D n a0:=by kernel_rfl

def q9r (D:DX)(n:Nat) (a0:tq40) (a1:tq38) (a2:tq41):Option tq42:=qd (qor D a0) fun b↦br (!b.1.1) (some ((false,()),())) (qd (qj3 D a1) fun b↦br (!b.1.1) (some ((false,()),())) (br (a2.1 != 0) (br (decide ((a2.2.1.length:Int)=0)) (qd (qba3 D a0 a1 a2.1) fun b↦some ((b.1.1,()),())) (some ((false,()),()))) (qd (q91 D a0 a1) fun b↦br b.1.2.1 (qd (ql2 D b.1.1 a2.2.1) fun b↦some ((b.1.1,()),())) (some ((false,()),())))))
def q0p (D:DX)(n:Nat) (a0:tq40) (a1:tq38) (a2:tq41):Option tq42:=q9r D n a0 a1 a2
theorem qbnm (D:DX)(n:Nat) (a0:tq40) (a1:tq38) (a2:tq41):rF D n 78 (a0,(a1,(a2,())))=q0p D n a0 a1 a2:=by kernel_rfl

def q1g (D:DX)(n:Nat) (a0:tq17) (a1:Int) (a2:tq5):Option tq42:=br (decide (a1 = -1)) (some ((true,()),())) (qd (qbp D a1 a0.2.2.1 a2.2.2.1) fun b↦some ((b.1.1,()),()))
def qrn (D:DX)(n:Nat) (a0:tq17) (a1:Int) (a2:tq5):Option tq42:=q1g D n a0 a1 a2
theorem qbdz (D:DX)(n:Nat) (a0:tq17) (a1:Int) (a2:tq5):rF D n 79 (a0,(a1,(a2,())))=qrn D n a0 a1 a2:=by kernel_rfl

def qbh2 (D:DX)(n:Nat) (a0:tq38):Option tq42:=let y3:Option tq42:=qd (qgj D a0.2.2.1) fun b↦some ((b.1.1,()),());let y6:Option tq42:=br (decide (a0.2.1=0)) y3 (some ((false,()),()));let y1:Option tq42:=br (decide (a0.1=6)) (qd (qrs D a0.2.1) fun b↦some ((bif b.1.1 then decide (a0.2.2.1=0) else false,()),())) (br (decide (a0.1=7)) (br (decide (a0.1=7)) (some ((bif decide (a0.2.1=0) then decide (a0.2.2.1=0) else false,()),())) (some ((false,()),()))) (br (decide (a0.1=8)) (br (decide (a0.1=8)) (some ((bif decide (a0.2.1=0) then decide (a0.2.2.1=0) else false,()),())) (some ((false,()),()))) (br (decide (a0.1=9)) (some ((bif decide (a0.2.1=0) then decide (a0.2.2.1=0) else false,()),())) (some ((false,()),())))));let y0:Option tq42:=br (decide (a0.1=5)) (br (decide (a0.1=5)) y6 y1) (br (decide (a0.1=10)) y6 y1);let y2:Option tq42:=qd (qqr D a0.2.1) fun b↦some ((bif b.1.1 then decide (a0.2.2.1=0) else false,()),());let y4:Option tq42:=br (decide (a0.1=3)) (br (decide (a0.1=3)) y2 y0) (br (decide (a0.1=4)) y2 y0);let y5:Option tq42:=qd (qqr D a0.2.1) fun b↦br b.1.1 y3 (some ((false,()),()));br (decide (a0.1=1)) (br (decide (a0.1=1)) y5 y4) (br (decide (a0.1=2)) y5 y4)
def q9d (D:DX)(n:Nat) (a0:tq38):Option tq42:=qbh2 D n a0
theorem qbvm (D:DX)(n:Nat) (a0:tq38):rF D n 80 (a0,())=q9d D n a0:=by kernel_rfl

def q8c (D:DX)(n:Nat) (a0:tq13) (a1:Int):Option tq42:=let y0:Option tq42:=qd (qcz D a0.2.2.2.1 (Clo.mk 123 [])) fun b↦br b.1.1 (some ((false,()),())) (qd (qcy D a0.2.2.2.2.1 (Clo.mk 127 [CapV.rptr yq34 a1])) fun b↦some ((!b.1.1,()),()));br (decide ((a0.1.length:Int)>8)) (some ((false,()),())) (qd (qfb D a0.1 (Clo.mk 121 [])) fun b↦br b.1.1 (some ((false,()),())) (qd (qbp D a0.2.1 0 (a0.1.length:Int)) fun b↦br (bif bif bif !b.1.1 then true else bif a0.2.2.1 then decide (a0.2.1=(a0.1.length:Int)) else false then true else decide ((a0.2.2.2.1.length:Int)>12) then true else decide ((a0.2.2.2.2.1.length:Int)>2)) (some ((false,()),())) (br (!a0.2.2.1) (br (decide (wrap .i64 ((a0.2.2.2.1.length:Int)+(a0.2.2.2.2.1.length:Int))>0)) (some ((false,()),())) y0) y0)))
def qxh (D:DX)(n:Nat) (a0:tq13) (a1:Int):Option tq42:=q8c D n a0 a1
theorem qbk4 (D:DX)(n:Nat) (a0:tq13) (a1:Int):rF D n 81 (a0,(a1,()))=qxh D n a0 a1:=by kernel_rfl

def qws (D:DX)(n:Nat) (go:Int→Int→Int→Int→List tq17→Int→Int→tq5→tq13→Option tq42) (K0:Int→Int→Int→tq5→tq13→Option tq42) (x0 x1 x2 x3:Int) (x4:List tq17) (x5 x6:Int) (x7:tq5) (x8:tq13):Option tq42:=br (decide (x6<x5)) (br (decide (0≤x6)&&decide (x6<(x4.length:Int))) (br ((List.getD x4 x6.toNat (0,(0,0,0,()),0,0,0,(0,[],()),())).1 != x0) (go x0 x1 x2 x3 x4 x5 (wrap .i64 (x6+1)) x7 x8) (br (decide ((List.getD x4 x6.toNat (0,(0,0,0,()),0,0,0,(0,[],()),())).2.2.2.2.1≥0)) (go x0 x6 (wrap .i64 (x2+1)) x3 x4 x5 (wrap .i64 (x6+1)) x7 x8) (go x0 x6 x2 (wrap .i64 (x3+1)) x4 x5 (wrap .i64 (x6+1)) x7 x8))) none) (K0 x1 x2 x3 x7 x8)
def qls (D:DX)(n:Nat) (K0:Int→Int→Int→tq5→tq13→Option tq42):Nat→Int→Int→Int→Int→(List tq17)→Int→Int→tq5→tq13→Option tq42 | 0=>(fun x0 x1 x2 x3 x4 x5 x6 x7 x8=>none) | m+1=>(fun x0 x1 x2 x3 x4 x5 x6 x7 x8=>qws D n (qls D n K0 m) K0 x0 x1 x2 x3 x4 x5 x6 x7 x8)
def qsj (D:DX)(n:Nat) (b e d:Int) (c:tq5) (a:tq13):Option tq42:=let y0:=List.getD c.2.2.2.1 b.toNat (0,(0,0,0,()),0,0,0,(0,[],()),());br (e != a.2.1) (some ((false,()),())) (br (!a.2.2.1) (some ((decide (d=0),()),())) (br (bif decide (b≥0) then decide (d=1) else false) (br (decide (0≤b)&&decide (b<(c.2.2.2.1.length:Int))) (br (decide (y0.2.2.2.2.1 = -1)) (br (decide (0≤b)&&decide (b<(c.2.2.2.1.length:Int))) (br (decide (0≤a.2.1)&&decide (a.2.1<(a.1.length:Int))) (some ((qkv yq21 y0.2.1 (List.getD a.1 a.2.1.toNat (0,0,0,())),()),())) none) none) (some ((false,()),()))) none) (some ((false,()),()))))
def quh (D:DX)(n:Nat):(Int)→(Int)→(Int)→(Int)→(List tq17)→(Int)→(Int)→tq5→tq13→Option tq42:=(fun x0 x1 x2 x3 x4 x5 x6 x7 x8=>qls D n (fun a b c d e=>qsj D n a b c d e) n x0 x1 x2 x3 x4 x5 x6 x7 x8)
def qzn (D:DX)(n:Nat) (lp0:Int→Int→Int→Int→List tq17→Int→Int→tq5→tq13→Option tq42) (a0:tq5) (a1:Int):Option tq42:=br (decide (0≤a1)&&decide (a1<(a0.2.1.length:Int))) (lp0 a1 (-1) 0 0 a0.2.2.2.1 (a0.2.2.2.1.length:Int) 0 a0 (List.getD a0.2.1 a1.toNat ([],0,false,[],[],()))) none
def qza (D:DX)(n:Nat) (a0:tq5) (a1:Int):Option tq42:=qzn D n (quh D n) a0 a1
def qwx (x0 x1 x2 x3:Int) (x4:List tq17) (x5 x6:Int) (x7:tq5) (x8:tq13):St:=stq 76 [(1,AV.val yq34 x0),(2,AV.addr 2 []),(5,AV.addr 5 []),(6,AV.val yq34 x1),(7,AV.val yq34 x2),(8,AV.val yq34 x3),(17,AV.val yq6 x4),(18,AV.val yq34 x5),(19,AV.val yq34 x6)] [(2,Root.mk yq0 Mk.no x7 true),(5,Root.mk yq5 Mk.no x8 true)]
def q32 (a b c:Int) (d:tq5) (e:tq13):St:=stq 76 [(2,AV.addr 2 []),(5,AV.addr 5 []),(6,AV.val yq34 a),(7,AV.val yq34 b),(8,AV.val yq34 c)] [(2,Root.mk yq0 Mk.no d true),(5,Root.mk yq5 Mk.no e true)]
theorem qbjc (D:DX)(n:Nat) (K:KT 82):∀ (m:Nat) (x0 x1 x2 x3:Int) (x4:List tq17) (x5 x6:Int) (x7:tq5) (x8:tq13),LF D n 82 pq6 m (qwx x0 x1 x2 x3 x4 x5 x6 x7 x8) K=qls D n (fun a b c d e=>K (Ex.exit 0) (q32 a b c d e)) m x0 x1 x2 x3 x4 x5 x6 x7 x8:=eL9 (fun F=>qws D n F (fun a b c d e=>K (Ex.exit 0) (q32 a b c d e))) (fun _ _ _ _ _ _ _ _ _ =>q7 ..) (fun _ _ _ _ _ _ _ _ _ _ =>by kernel_rfl) (fun _ _ _ _ _ _ _ _ _ _ =>rfl)
theorem qbgu (D:DX)(n:Nat) (x0) (x1) (x2) (x3) (x4) (x5) (x6) (x7) (x8):LF D n 82 pq6 n (qwx x0 x1 x2 x3 x4 x5 x6 x7 x8) (CF D n 82 [] pq6 (lF 82))=quh D n x0 x1 x2 x3 x4 x5 x6 x7 x8 :=by rw[qbjc];kernel_rfl
theorem qbmp (D:DX)(n:Nat) (a0:tq5) (a1:Int):rF D n 82 (a0,(a1,()))=qza D n a0 a1:=by
 have h:rF D n 82 (a0,(a1,()))=qzn D n (fun x0 x1 x2 x3 x4 x5 x6 x7 x8=>LF D n 82 pq6 n (qwx x0 x1 x2 x3 x4 x5 x6 x7 x8) (CF D n 82 [] pq6 (lF 82))) a0 a1:=by kernel_rfl
 rw[h]
 simp only[qbgu]
 rfl

def qwu (D:DX)(n:Nat) (go:Int→List tq17→Int→Int→tq5→Option tq42) (K0:Int→tq5→Option tq42) (x0:Int) (x1:List tq17) (x2 x3:Int) (x4:tq5):Option tq42:=br (decide (x3<x2)) (br (decide (0≤x3)&&decide (x3<(x1.length:Int))) (br (decide ((List.getD x1 x3.toNat (0,(0,0,0,()),0,0,0,(0,[],()),())).2.2.2.1≥0)) (go (wrap .i64 (x0+1)) x1 x2 (wrap .i64 (x3+1)) x4) (go x0 x1 x2 (wrap .i64 (x3+1)) x4)) none) (K0 x0 x4)
def qlt (D:DX)(n:Nat) (K0:Int→tq5→Option tq42):Nat→Int→(List tq17)→Int→Int→tq5→Option tq42 | 0=>(fun x0 x1 x2 x3 x4=>none) | m+1=>(fun x0 x1 x2 x3 x4=>qwu D n (qlt D n K0 m) K0 x0 x1 x2 x3 x4)
def qxj (D:DX)(n:Nat) (go:Int→List Int→Int→Int→tq5→Option tq42) (K0:Bool→Int→tq5→Option tq42) (K1:Int→tq5→Option tq42) (d:Int) (e:List Int) (f c:Int) (a:tq5):Option tq42:=let y2:=List.getD e c.toNat 0;let y0:=List.getD a.2.2.2.1 (Int.toNat y2) (0,(0,0,0,()),0,0,0,(0,[],()),());let y1:=Int.toNat (wrap .i64 (c - 1));br (decide (c<f)) (br (decide (0≤c)&&decide (c<(e.length:Int))) (qd (qbp D y2 0 (wrap .i64 ((a.2.2.2.1.length:Int) - 1))) fun b↦br (!b.1.1) (K0 false d a) (br (decide (0≤y2)&&decide (y2<(a.2.2.2.1.length:Int))) (br (decide (y0.2.2.2.1<0)) (K0 false d a) (br (decide (0≤0)&&decide (0≤c)&&decide (c≤(a.2.2.2.2.1.length:Int))) (qd (qg4 D (List.drop (Int.toNat 0) (List.take c.toNat a.2.2.2.2.1)) y2) fun b↦br b.1.1 (K0 false d a) (br (decide (c>0)) (br (decide (0≤wrap .i64 (c - 1))&&decide (wrap .i64 (c - 1)<(a.2.2.2.2.1.length:Int))) (br (decide (0≤List.getD a.2.2.2.2.1 y1 0)&&decide (List.getD a.2.2.2.2.1 y1 0<(a.2.2.2.1.length:Int))) (br (decide (0≤y2)&&decide (y2<(a.2.2.2.1.length:Int))) (br (decide ((List.getD a.2.2.2.1 (Int.toNat (List.getD a.2.2.2.2.1 y1 0)) (0,(0,0,0,()),0,0,0,(0,[],()),())).2.2.2.1>y0.2.2.2.1)) (K0 false d a) (go d e f (wrap .i64 (c+1)) a)) none) none) none) (go d e f (wrap .i64 (c+1)) a))) none)) none)) none) (K1 d a)
def qlh (D:DX)(n:Nat) (K0:Bool→Int→tq5→Option tq42) (K1:Int→tq5→Option tq42):Nat→Int→(List Int)→Int→Int→tq5→Option tq42 | 0=>(fun a b c d e=>none) | m+1=>(fun a b c d e=>qxj D n (qlh D n K0 K1 m) K0 K1 a b c d e)
def qbgw (D:DX)(n:Nat) (a:Bool) (b:Int) (c:tq5):Option tq42:=some ((a,()),())
def q4h (D:DX)(n:Nat) (a:Int) (b:tq5):Option tq42:=some ((decide (a=(b.2.2.2.2.1.length:Int)),()),())
def qt8 (D:DX)(n:Nat):(Int)→(List Int)→(Int)→(Int)→tq5→Option tq42:=(fun a b h i j=>qlh D n (fun c d e=>qbgw D n c d e) (fun f g=>q4h D n f g) n a b h i j)
def qsv (D:DX)(n:Nat) (lp1:Int→List Int→Int→Int→tq5→Option tq42) (b:Int) (a:tq5):Option tq42:=lp1 b a.2.2.2.2.1 (a.2.2.2.2.1.length:Int) 0 a
def qua (D:DX)(n:Nat):(Int)→(List tq17)→(Int)→(Int)→tq5→Option tq42:=(fun x0 x1 x2 x3 x4=>qlt D n (fun a b=>qsv D n (qt8 D n) a b) n x0 x1 x2 x3 x4)
def q0d (D:DX)(n:Nat) (lp0:Int→List tq17→Int→Int→tq5→Option tq42) (a0:tq5):Option tq42:=lp0 0 a0.2.2.2.1 (a0.2.2.2.1.length:Int) 0 a0
def qym (D:DX)(n:Nat) (a0:tq5):Option tq42:=q0d D n (qua D n) a0
def qvx (x0:Int) (x1:List tq17) (x2 x3:Int) (x4:tq5):St:=stq 83 [(1,AV.addr 1 []),(3,AV.val yq34 x0),(9,AV.val yq6 x1),(10,AV.val yq34 x2),(11,AV.val yq34 x3)] [(1,Root.mk yq0 Mk.no x4 true)]
def qs4 (a:Int) (b:tq5):St:=stq 83 [(1,AV.addr 1 []),(3,AV.val yq34 a)] [(1,Root.mk yq0 Mk.no b true)]
def qwy (a:Int) (b:List Int) (c d:Int) (e:tq5):St:=stq 83 [(1,AV.addr 1 []),(3,AV.val yq34 a),(22,AV.val yq30 b),(23,AV.val yq34 c),(24,AV.val yq34 d)] [(1,Root.mk yq0 Mk.no e true)]
def q4l (a:Bool) (b:Int) (c:tq5):St:=stq 83 [(1,AV.addr 1 []),(2,AV.val Ty.bool a),(3,AV.val yq34 b)] [(1,Root.mk yq0 Mk.no c true)]
def q36 (a:Int) (b:tq5):St:=stq 83 [(1,AV.addr 1 []),(3,AV.val yq34 a)] [(1,Root.mk yq0 Mk.no b true)]
theorem qbjv (D:DX)(n:Nat) (K:KT 83):∀ (m:Nat) (x0:Int) (x1:List tq17) (x2 x3:Int) (x4:tq5),LF D n 83 pq0 m (qvx x0 x1 x2 x3 x4) K=qlt D n (fun a b=>K (Ex.exit 0) (qs4 a b)) m x0 x1 x2 x3 x4:=eL5 (fun F=>qwu D n F (fun a b=>K (Ex.exit 0) (qs4 a b))) (fun _ _ _ _ _ =>q7 ..) (fun _ _ _ _ _ _ =>by kernel_rfl) (fun _ _ _ _ _ _ =>rfl)
theorem qbi0 (D:DX)(n:Nat) (K:KT 83):∀ (m:Nat) (f:Int) (g:List Int) (h i:Int) (j:tq5),LF D n 83 pq1 m (qwy f g h i j) K=qlh D n (fun a b c=>K (Ex.ret) (q4l a b c)) (fun d e=>K (Ex.exit 2) (q36 d e)) m f g h i j:=eL5 (fun F=>qxj D n F (fun a b c=>K (Ex.ret) (q4l a b c)) (fun d e=>K (Ex.exit 2) (q36 d e))) (fun _ _ _ _ _ =>q7 ..) (fun _ _ _ _ _ _ =>by kernel_rfl) (fun _ _ _ _ _ _ =>rfl)
theorem qbgo (D:DX)(n:Nat) (a:Int) (b:List Int) (c d:Int) (e:tq5):LF D n 83 pq1 n (qwy a b c d e) (CF D n 83 [] pq1 (lF 83))=qt8 D n a b c d e :=by rw[qbi0];kernel_rfl
theorem qbgh (D:DX)(n:Nat) (a:Int) (b:tq5):(CF D n 83 [] pq0 (lF 83)) (Ex.exit 0) (qs4 a b)=qsv D n (fun c d e f g=>LF D n 83 pq1 n (qwy c d e f g) (CF D n 83 [] pq1 (lF 83))) a b:=by kernel_rfl
theorem qbg3 (D:DX)(n:Nat) (x0) (x1) (x2) (x3) (x4):LF D n 83 pq0 n (qvx x0 x1 x2 x3 x4) (CF D n 83 [] pq0 (lF 83))=qua D n x0 x1 x2 x3 x4:=by
 rw[qbjv]
 simp only[qbgh,qbgo]
 rfl
theorem qboh (D:DX)(n:Nat) (a0:tq5):rF D n 83 (a0,())=qym D n a0:=by
 have h:rF D n 83 (a0,())=q0d D n (fun x0 x1 x2 x3 x4=>LF D n 83 pq0 n (qvx x0 x1 x2 x3 x4) (CF D n 83 [] pq0 (lF 83))) a0:=by kernel_rfl
 rw[h]
 simp only[qbg3]
 rfl

def qbar (D:DX)(n:Nat) (a0:tq41):Option ((tq41×Unit)×Unit):=qd (qgh D a0.2.1) fun b↦some (((a0.1,b.1.1,()),()),())
def qz7 (D:DX)(n:Nat) (a0:tq41):Option ((tq41×Unit)×Unit):=qbar D n a0
theorem qbni (D:DX)(n:Nat) (a0:tq41):rF D n 85 (a0,())=qz7 D n a0:=by kernel_rfl

def qbm5 (D:DX)(n:Nat):Option tq31:=some (((List.replicate (Int.toNat 4) 0,0,()),()),())
def qba9 (D:DX)(n:Nat):Option tq31:=qbm5 D n
theorem qbnc (D:DX)(n:Nat):rF D n 90 ()=qba9 D n:=by kernel_rfl

def q17 (D:DX)(n:Nat) (go:Int→Int→tq40→Option tq43) (K0:Int→Option tq43) (K1:Option tq43) (x0 x1:Int) (x2:tq40):Option tq43:=br (decide (x1<(x2.1.length:Int))) (br (decide (0≤x1)&&decide (x1<(x2.1.length:Int))) (br (decide (List.getD x2.1 x1.toNat 0=x0)) (K0 x1) (go x0 (wrap .i64 (x1+1)) x2)) none) K1
def qoo (D:DX)(n:Nat) (K0:Int→Option tq43) (K1:Option tq43):Nat→Int→Int→tq40→Option tq43 | 0=>(fun x0 x1 x2=>none) | m+1=>(fun x0 x1 x2=>q17 D n (qoo D n K0 K1 m) K0 K1 x0 x1 x2)
def q8h (D:DX)(n:Nat) (a:Int):Option tq43:=some ((a,()),())
def q8o (D:DX)(n:Nat):Option tq43:=some ((-1,()),())
def qyy (D:DX)(n:Nat):(Int)→(Int)→tq40→Option tq43:=(fun x0 x1 x2=>qoo D n (fun a=>q8h D n a) (q8o D n) n x0 x1 x2)
def q59 (D:DX)(n:Nat) (lp0:Int→Int→tq40→Option tq43) (a0:tq40) (a1:Int):Option tq43:=lp0 a1 0 a0
def q5r (D:DX)(n:Nat) (a0:tq40) (a1:Int):Option tq43:=q59 D n (qyy D n) a0 a1
def q2r (x0 x1:Int) (x2:tq40):St:=stq 21 [(1,AV.val yq34 x0),(2,AV.addr 2 []),(5,AV.val yq34 x1)] [(2,Root.mk yq25 Mk.no x2 true)]
def q8r (a:Int):St:=stq 21 [(4,AV.val yq34 a)] []
def q8u:St:=stq 21 [] []
theorem qbnt (D:DX)(n:Nat) (K:KT 91):∀ (m:Nat) (x0 x1:Int) (x2:tq40),LF D n 91 pq2 m (q2r x0 x1 x2) K=qoo D n (fun a=>K (Ex.ret) (q8r a)) (K (Ex.exit 0) (q8u)) m x0 x1 x2:=eL3 (fun F=>q17 D n F (fun a=>K (Ex.ret) (q8r a)) (K (Ex.exit 0) (q8u))) (fun _ _ _ =>q7 ..) (fun _ _ _ _ =>by kernel_rfl) (fun _ _ _ _ =>rfl)
theorem qbj7 (D:DX)(n:Nat) (x0) (x1) (x2):LF D n 91 pq2 n (q2r x0 x1 x2) (CF D n 91 [] pq2 (lF 91))=qyy D n x0 x1 x2 :=by rw[qbnt];kernel_rfl
theorem qbtg (D:DX)(n:Nat) (a0:tq40) (a1:Int):rF D n 91 (a0,(a1,()))=q5r D n a0 a1:=by
 have h:rF D n 91 (a0,(a1,()))=q59 D n (fun x0 x1 x2=>LF D n 91 pq2 n (q2r x0 x1 x2) (CF D n 91 [] pq2 (lF 91))) a0 a1:=by kernel_rfl
 rw[h]
 simp only[qbj7]
 rfl

def q54 (D:DX)(n:Nat) (a0:tq35) (a1:List Int):Option tq25:=qd (qcd D a0 (a1.length:Int)) fun b↦br (decide (0≤b.1.1)&&decide (b.1.1<(a1.length:Int))) (some ((List.getD a1 b.1.1.toNat 0,()),b.2.1,())) none
def qvd (D:DX)(n:Nat) (a0:tq35) (a1:List Int):Option tq25:=q54 D n a0 a1
theorem qbjt (D:DX)(n:Nat) (a0:tq35) (a1:List Int):rF D n 92 (a0,(a1,()))=qvd D n a0 a1:=by kernel_rfl

def q1y (D:DX)(n:Nat) (a0:tq35):Option ((tq38×Unit)×tq32):=qd (qn1 D a0 (List.set (List.set (List.set (List.set (List.set (List.set (List.set (List.set (List.set (List.set (List.set (List.set (List.set (List.set (List.replicate 14 0) 0 1) 1 1) 2 1) 3 2) 4 2) 5 3) 6 4) 7 5) 8 6) 9 7) 10 8) 11 9) 12 9) 13 10)) fun b↦qd (qx0 D b.1.1) fun b_1↦br b_1.1.1 (qd (qcd D b.2.1 4) fun b_2↦br (decide (b.1.1=6)) (qd (qcd D b_2.2.1 3) fun b_3↦qd (qhm D b.1.1) fun b_4↦br b_4.1.1 (qd (qcd D b_3.2.1 4) fun b_5↦some (((b.1.1,b_3.1.1,wrap .i64 (1+b_5.1.1),()),()),b_5.2.1,())) (some (((b.1.1,b_3.1.1,0,()),()),b_3.2.1,()))) (qd (qhm D b.1.1) fun b_3↦br b_3.1.1 (qd (qcd D b_2.2.1 4) fun b_4↦some (((b.1.1,b_2.1.1,wrap .i64 (1+b_4.1.1),()),()),b_4.2.1,())) (some (((b.1.1,b_2.1.1,0,()),()),b_2.2.1,())))) (br (decide (b.1.1=6)) (qd (qcd D b.2.1 3) fun b_2↦qd (qhm D b.1.1) fun b_3↦br b_3.1.1 (qd (qcd D b_2.2.1 4) fun b_4↦some (((b.1.1,b_2.1.1,wrap .i64 (1+b_4.1.1),()),()),b_4.2.1,())) (some (((b.1.1,b_2.1.1,0,()),()),b_2.2.1,()))) (qd (qhm D b.1.1) fun b_2↦br b_2.1.1 (qd (qcd D b.2.1 4) fun b_3↦some (((b.1.1,0,wrap .i64 (1+b_3.1.1),()),()),b_3.2.1,())) (some (((b.1.1,0,0,()),()),b.2.1,()))))
def qrc (D:DX)(n:Nat) (a0:tq35):Option ((tq38×Unit)×tq32):=q1y D n a0
theorem qbdl (D:DX)(n:Nat) (a0:tq35):rF D n 93 (a0,())=qrc D n a0:=by kernel_rfl

def qbci (D:DX)(n:Nat) (a0:tq35):Option tq25:=let y1:=wrap .i64 (a0.2.2.1 * 6364136223846793005)+1442695040888963407;let y0:=wrap .i64 (↑(BitVec.toNat (BitVec.xor (BitVec.ofInt (IntKind.bits IntKind.i64) (Int.fdiv (wrap .i64 y1) (Int.pow 2 (if Int.toNat 33≤IntKind.bits IntKind.i64 then Int.toNat 33 else IntKind.bits IntKind.i64)))) (BitVec.ofInt (IntKind.bits IntKind.i64) (Int.fdiv (wrap .i64 y1) (Int.pow 2 (if Int.toNat 45≤IntKind.bits IntKind.i64 then Int.toNat 45 else IntKind.bits IntKind.i64)))))):Int);br (decide (a0.2.1<(a0.1.length:Int))) (br (decide (0≤a0.2.1)&&decide (a0.2.1<(a0.1.length:Int))) (some ((wrap .i64 (↑(BitVec.toNat (BitVec.and (BitVec.ofInt (IntKind.bits IntKind.i64) (wrap .i64 (wrap .i64 (↑(BitVec.toNat (BitVec.and (BitVec.ofInt (IntKind.bits IntKind.i64) y0) (BitVec.ofInt (IntKind.bits IntKind.i64) 255))):Int)+wrap .i64 (List.getD a0.1 a0.2.1.toNat 0)))) (BitVec.ofInt (IntKind.bits IntKind.i64) 255))):Int),()),(a0.1,wrap .i64 (a0.2.1+1),wrap .i64 y1,a0.2.2.2),())) none) (some ((wrap .i64 (↑(BitVec.toNat (BitVec.and (BitVec.ofInt (IntKind.bits IntKind.i64) y0) (BitVec.ofInt (IntKind.bits IntKind.i64) 255))):Int),()),(a0.1,a0.2.1,wrap .i64 y1,a0.2.2.2),()))
def q2t (D:DX)(n:Nat) (a0:tq35):Option tq25:=qbci D n a0
theorem qbrb (D:DX)(n:Nat) (a0:tq35):rF D n 94 (a0,())=q2t D n a0:=by kernel_rfl

def qle (D:DX)(n:Nat) (a0:List tq38):Option tq29:=br (decide (Int.toNat (a0.length:Int)=0)) (both (some (([],()),())) (br (decide (0+a0.length≤qb7)) (some (([]++a0,()),())) none)) (br (decide (0+a0.length≤qb7)) (some (([]++a0,()),())) none)
def qhp (D:DX)(n:Nat) (a0:List tq38):Option tq29:=qle D n a0
theorem qwh (D:DX)(n:Nat) (a0:List tq38):rF D n 95 (a0,())=qhp D n a0:=by kernel_rfl

def qwi (D:DX)(n:Nat) (go:Int→tq40→List Int→Option tq37) (K0:tq40→List Int→Option tq37) (x0:Int) (x1:tq40) (x2:List Int):Option tq37:=let y0:=List.getD x1.1 x0.toNat 0;let y1:=wrap .i64 (x0+1);br (decide (x0<4)) (br (decide (0≤x0)&&decide (x0<(x1.1.length:Int))) (qd (q5q D x0) fun b↦br (decide (0≤b.1.1)&&decide (b.1.1<(x2.length:Int))) (br (decide (y0=0)) (go y1 x1 (List.set x2 b.1.1.toNat y0)) (qd (q0s D y0) fun b_1↦br (decide (0≤b_1.1.1)&&decide (b_1.1.1<((List.set x2 b.1.1.toNat y0).length:Int))) (br (decide (x0<wrap .i64 (x1.2.1 - 1))) (qd (q7s D y0) fun b_2↦let a:=List.set (List.set x2 b.1.1.toNat y0) b_1.1.1.toNat y1;br (decide (0≤b_2.1.1)&&decide (b_2.1.1<(a.length:Int))) (go y1 x1 (List.set a b_2.1.1.toNat y1)) none) (go y1 x1 (List.set (List.set x2 b.1.1.toNat y0) b_1.1.1.toNat y1))) none)) none) none) (K0 x1 x2)
def qli (D:DX)(n:Nat) (K0:tq40→List Int→Option tq37):Nat→Int→tq40→(List Int)→Option tq37 | 0=>(fun x0 x1 x2=>none) | m+1=>(fun x0 x1 x2=>qwi D n (qli D n K0 m) K0 x0 x1 x2)
def qwp (D:DX)(n:Nat) (go:Int→tq40→List Int→Option tq37) (K0:tq40→List Int→Option tq37) (a:Int) (c:tq40) (d:List Int):Option tq37:=br (decide (a<3)) (qd (q0b D a) fun b↦qd (qz5 D c a) fun b_1↦br (decide (0≤b.1.1)&&decide (b.1.1<(d.length:Int))) (go (wrap .i64 (a+1)) c (List.set d b.1.1.toNat b_1.1.1)) none) (K0 c d)
def qld (D:DX)(n:Nat) (K0:tq40→List Int→Option tq37):Nat→Int→tq40→(List Int)→Option tq37 | 0=>(fun a b c=>none) | m+1=>(fun a b c=>qwp D n (qld D n K0 m) K0 a b c)
def qs3 (D:DX)(n:Nat) (c:tq40) (a:List Int):Option tq37:=qd (qr4 D) fun b↦br (decide (0≤b.1.1)&&decide (b.1.1<(a.length:Int))) (some ((List.set a b.1.1.toNat c.2.1,()),())) none
def qnt (D:DX)(n:Nat):(Int)→tq40→(List Int)→Option tq37:=(fun a d e=>qld D n (fun b c=>qs3 D n b c) n a d e)
def qmc (D:DX)(n:Nat) (lp1:Int→tq40→List Int→Option tq37) (a:tq40) (b:List Int):Option tq37:=lp1 0 a b
def qus (D:DX)(n:Nat):(Int)→tq40→(List Int)→Option tq37:=(fun x0 x1 x2=>qli D n (fun a b=>qmc D n (qnt D n) a b) n x0 x1 x2)
def qyz (D:DX)(n:Nat) (lp0:Int→tq40→List Int→Option tq37) (a0:tq40):Option tq37:=qd (qt4 D a0) fun b↦br (!b.1.1) (some (([],()),())) (lp0 0 a0 (List.replicate (Int.toNat 20) 0))
def qyn (D:DX)(n:Nat) (a0:tq40):Option tq37:=qyz D n (qus D n) a0
def qwj (x0:Int) (x1:tq40) (x2:List Int):St:=stq 62 [(1,AV.addr 1 []),(3,AV.brw 3 [] 0),(4,AV.val yq34 x0)] [(1,Root.mk yq25 Mk.no x1 true),(3,Root.mk yq30 kq37 x2 false)]
def qsg (a:tq40) (b:List Int):St:=stq 62 [(1,AV.addr 1 []),(3,AV.brw 3 [] 0)] [(1,Root.mk yq25 Mk.no a true),(3,Root.mk yq30 kq37 b false)]
def qxr (a:Int) (b:tq40) (c:List Int):St:=stq 62 [(1,AV.addr 1 []),(3,AV.brw 3 [] 0),(6,AV.val yq34 a)] [(1,Root.mk yq25 Mk.no b true),(3,Root.mk yq30 kq37 c false)]
def q4k (a:tq40) (b:List Int):St:=stq 62 [(1,AV.addr 1 []),(3,AV.brw 3 [] 0)] [(1,Root.mk yq25 Mk.no a true),(3,Root.mk yq30 kq37 b false)]
theorem qbh6 (D:DX)(n:Nat) (K:KT 96):∀ (m:Nat) (x0:Int) (x1:tq40) (x2:List Int),LF D n 96 pq1 m (qwj x0 x1 x2) K=qli D n (fun a b=>K (Ex.exit 0) (qsg a b)) m x0 x1 x2:=eL3 (fun F=>qwi D n F (fun a b=>K (Ex.exit 0) (qsg a b))) (fun _ _ _ =>q7 ..) (fun _ _ _ _ =>by kernel_rfl) (fun _ _ _ _ =>rfl)
theorem qbjp (D:DX)(n:Nat) (K:KT 96):∀ (m:Nat) (c:Int) (d:tq40) (e:List Int),LF D n 96 pq3 m (qxr c d e) K=qld D n (fun a b=>K (Ex.exit 2) (q4k a b)) m c d e:=eL3 (fun F=>qwp D n F (fun a b=>K (Ex.exit 2) (q4k a b))) (fun _ _ _ =>q7 ..) (fun _ _ _ _ =>by kernel_rfl) (fun _ _ _ _ =>rfl)
theorem qbg1 (D:DX)(n:Nat) (a:Int) (b:tq40) (c:List Int):LF D n 96 pq3 n (qxr a b c) (CF D n 96 [] pq3 (lF 96))=qnt D n a b c :=by rw[qbjp];kernel_rfl
theorem qbgy (D:DX)(n:Nat) (a:tq40) (b:List Int):(CF D n 96 [] pq1 (lF 96)) (Ex.exit 0) (qsg a b)=qmc D n (fun c d e=>LF D n 96 pq3 n (qxr c d e) (CF D n 96 [] pq3 (lF 96))) a b:=by kernel_rfl
theorem qbgk (D:DX)(n:Nat) (x0) (x1) (x2):LF D n 96 pq1 n (qwj x0 x1 x2) (CF D n 96 [] pq1 (lF 96))=qus D n x0 x1 x2:=by
 rw[qbh6]
 simp only[qbgy,qbg1]
 rfl
theorem qbo0 (D:DX)(n:Nat) (a0:tq40):rF D n 96 (a0,())=qyn D n a0:=by
 have h:rF D n 96 (a0,())=qyz D n (fun x0 x1 x2=>LF D n 96 pq1 n (qwj x0 x1 x2) (CF D n 96 [] pq1 (lF 96))) a0:=by kernel_rfl
 rw[h]
 simp only[qbgk]
 rfl

def qbvs (D:DX)(n:Nat) (a0 a1 a2:Int):Option tq42:=some ((bif decide (a0≥a1) then decide (a0≤a2) else false,()),())
def qbhz (D:DX)(n:Nat) (a0 a1 a2:Int):Option tq42:=qbvs D n a0 a1 a2
theorem qbvz (D:DX)(n:Nat) (a0 a1 a2:Int):rF D n 97 (a0,(a1,(a2,())))=qbhz D n a0 a1 a2:=by kernel_rfl

def q2d (D:DX)(n:Nat) (go:Int→tq12→Option tq42) (K0:Bool→tq12→Option tq42) (K1:tq12→Option tq42) (x0:Int) (x1:tq12):Option tq42:=br (decide (x0<(x1.2.1.length:Int))) (br (decide (0≤x0)&&decide (x0<(x1.2.1.length:Int))) (qd (q2z D (List.getD x1.2.1 x0.toNat (0,0,[],(0,[],()),()))) fun b↦br (!b.1.1) (K0 false x1) (go (wrap .i64 (x0+1)) x1)) none) (K1 x1)
def qou (D:DX)(n:Nat) (K0:Bool→tq12→Option tq42) (K1:tq12→Option tq42):Nat→Int→tq12→Option tq42 | 0=>(fun x0 x1=>none) | m+1=>(fun x0 x1=>q2d D n (qou D n K0 K1 m) K0 K1 x0 x1)
def q72 (D:DX)(n:Nat) (a:Bool) (b:tq12):Option tq42:=some ((a,()),())
def q3r (D:DX)(n:Nat) (go:Int→tq12→Option tq42) (K0:Bool→Option tq42) (K1:Option tq42) (c:Int) (a:tq12):Option tq42:=let y0:=List.getD a.1 c.toNat (0,0,0,());let y1:=List.getD a.2.1 (Int.toNat (wrap .i64 (y0.2.1 - 1))) (0,0,[],(0,[],()),());br (decide (c<(a.1.length:Int))) (br (decide (0≤c)&&decide (c<(a.1.length:Int))) (qd (qbct D y0 (a.2.1.length:Int)) fun b↦br (!b.1.1) (K0 false) (br (decide (y0.2.1>0)) (br (decide (0≤wrap .i64 (y0.2.1 - 1))&&decide (wrap .i64 (y0.2.1 - 1)<(a.2.1.length:Int))) (qd (qbn0 D y1 c) fun b↦br (!b.1.2.1) (K0 false) (br (decide (0≤wrap .i64 (y0.2.1 - 1))&&decide (wrap .i64 (y0.2.1 - 1)<(a.2.1.length:Int))) (br (y1.1 != y0.2.2.1) (K0 false) (go (wrap .i64 (c+1)) a)) none)) none) (go (wrap .i64 (c+1)) a))) none) K1
def qot (D:DX)(n:Nat) (K0:Bool→Option tq42) (K1:Option tq42):Nat→Int→tq12→Option tq42 | 0=>(fun a b=>none) | m+1=>(fun a b=>q3r D n (qot D n K0 K1 m) K0 K1 a b)
def qbj0 (D:DX)(n:Nat) (a:Bool):Option tq42:=some ((a,()),())
def qblx (D:DX)(n:Nat):Option tq42:=some ((true,()),())
def qy0 (D:DX)(n:Nat):(Int)→tq12→Option tq42:=(fun a b=>qot D n (fun c=>qbj0 D n c) (qblx D n) n a b)
def qx6 (D:DX)(n:Nat) (lp1:Int→tq12→Option tq42) (a:tq12):Option tq42:=lp1 0 a
def q0v (D:DX)(n:Nat):(Int)→tq12→Option tq42:=(fun x0 x1=>qou D n (fun a b=>q72 D n a b) (fun c=>qx6 D n (qy0 D n) c) n x0 x1)
def q56 (D:DX)(n:Nat) (lp0:Int→tq12→Option tq42) (a0:tq12):Option tq42:=br ((a0.1.length:Int) != 20) (some ((false,()),())) (qd (qbo D (a0.2.1.length:Int) 1 4) fun b↦br (!b.1.1) (some ((false,()),())) (lp0 0 a0))
def q6k (D:DX)(n:Nat) (a0:tq12):Option tq42:=q56 D n (q0v D n) a0
def q2i (x0:Int) (x1:tq12):St:=stq 81 [(1,AV.addr 1 []),(3,AV.val yq34 x0)] [(1,Root.mk yq3 Mk.no x1 true)]
def qw9 (a:Bool) (b:tq12):St:=stq 81 [(1,AV.addr 1 []),(2,AV.val Ty.bool a)] [(1,Root.mk yq3 Mk.no b true)]
def qxv (a:tq12):St:=stq 81 [(1,AV.addr 1 [])] [(1,Root.mk yq3 Mk.no a true)]
def q22 (a:Int) (b:tq12):St:=stq 81 [(1,AV.addr 1 []),(4,AV.val yq34 a)] [(1,Root.mk yq3 Mk.no b true)]
def q8m (a:Bool):St:=stq 81 [(2,AV.val Ty.bool a)] []
def q79:St:=stq 81 [] []
theorem qbo5 (D:DX)(n:Nat) (K:KT 98):∀ (m:Nat) (x0:Int) (x1:tq12),LF D n 98 pq0 m (q2i x0 x1) K=qou D n (fun a b=>K (Ex.ret) (qw9 a b)) (fun c=>K (Ex.exit 0) (qxv c)) m x0 x1:=eL2 (fun F=>q2d D n F (fun a b=>K (Ex.ret) (qw9 a b)) (fun c=>K (Ex.exit 0) (qxv c))) (fun _ _ =>q7 ..) (fun _ _ _ =>by kernel_rfl) (fun _ _ _ =>rfl)
theorem qbmh (D:DX)(n:Nat) (K:KT 98):∀ (m:Nat) (b:Int) (c:tq12),LF D n 98 pq1 m (q22 b c) K=qot D n (fun a=>K (Ex.ret) (q8m a)) (K (Ex.exit 2) (q79)) m b c:=eL2 (fun F=>q3r D n F (fun a=>K (Ex.ret) (q8m a)) (K (Ex.exit 2) (q79))) (fun _ _ =>q7 ..) (fun _ _ _ =>by kernel_rfl) (fun _ _ _ =>rfl)
theorem qblz (D:DX)(n:Nat) (a:Int) (b:tq12):LF D n 98 pq1 n (q22 a b) (CF D n 98 [] pq1 (lF 98))=qy0 D n a b :=by rw[qbmh];kernel_rfl
theorem qbk6 (D:DX)(n:Nat) (a:Bool) (b:tq12):(CF D n 98 [] pq0 (lF 98)) (Ex.ret) (qw9 a b)=q72 D n a b:=by kernel_rfl
theorem qbl9 (D:DX)(n:Nat) (a:tq12):(CF D n 98 [] pq0 (lF 98)) (Ex.exit 0) (qxv a)=qx6 D n (fun b c=>LF D n 98 pq1 n (q22 b c) (CF D n 98 [] pq1 (lF 98))) a:=by kernel_rfl
theorem qblm (D:DX)(n:Nat) (x0) (x1):LF D n 98 pq0 n (q2i x0 x1) (CF D n 98 [] pq0 (lF 98))=q0v D n x0 x1:=by
 rw[qbo5]
 simp only[qbk6,qbl9,qblz]
 rfl
theorem qbuj (D:DX)(n:Nat) (a0:tq12):rF D n 98 (a0,())=q6k D n a0:=by
 have h:rF D n 98 (a0,())=q56 D n (fun x0 x1=>LF D n 98 pq0 n (q2i x0 x1) (CF D n 98 [] pq0 (lF 98))) a0:=by kernel_rfl
 rw[h]
 simp only[qblm]
 rfl

def q0m (D:DX)(n:Nat) (go:Int→tq40→Option tq42) (K0:Bool→tq40→Option tq42) (K1:tq40→Option tq42) (x0:Int) (x1:tq40):Option tq42:=br (decide (x0<(x1.1.length:Int))) (br (decide (0≤x0)&&decide (x0<(x1.1.length:Int))) (br (List.getD x1.1 x0.toNat 0 != 0) (br (decide (0≤x0)&&decide (x0<(x1.1.length:Int))) (qd (qjf D (List.getD x1.1 x0.toNat 0)) fun b↦br (!b.1.1) (K0 false x1) (br (decide (0≤x0)&&decide (x0<(x1.1.length:Int))) (qd (qw3 D x1 (List.getD x1.1 x0.toNat 0)) fun b↦br (b.1.1 != x0) (K0 false x1) (go (wrap .i64 (x0+1)) x1)) none)) none) (go (wrap .i64 (x0+1)) x1)) none) (K1 x1)
def qmq (D:DX)(n:Nat) (K0:Bool→tq40→Option tq42) (K1:tq40→Option tq42):Nat→Int→tq40→Option tq42 | 0=>(fun x0 x1=>none) | m+1=>(fun x0 x1=>q0m D n (qmq D n K0 K1 m) K0 K1 x0 x1)
def q58 (D:DX)(n:Nat) (a:Bool) (b:tq40):Option tq42:=some ((a,()),())
def qu3 (D:DX)(n:Nat) (a:tq40):Option tq42:=br (decide ((a.1.length:Int)=4)) (qd (qbo D a.2.1 0 5) fun b↦some ((b.1.1,()),())) (some ((false,()),()))
def qwl (D:DX)(n:Nat):(Int)→tq40→Option tq42:=(fun x0 x1=>qmq D n (fun a b=>q58 D n a b) (fun c=>qu3 D n c) n x0 x1)
def q27 (D:DX)(n:Nat) (lp0:Int→tq40→Option tq42) (a0:tq40):Option tq42:=lp0 0 a0
def q2o (D:DX)(n:Nat) (a0:tq40):Option tq42:=q27 D n (qwl D n) a0
def qzt (x0:Int) (x1:tq40):St:=stq 46 [(1,AV.addr 1 []),(3,AV.val yq34 x0)] [(1,Root.mk yq25 Mk.no x1 true)]
def q53 (a:Bool) (b:tq40):St:=stq 46 [(1,AV.addr 1 []),(2,AV.val Ty.bool a)] [(1,Root.mk yq25 Mk.no b true)]
def q6d (a:tq40):St:=stq 46 [(1,AV.addr 1 [])] [(1,Root.mk yq25 Mk.no a true)]
theorem qbln (D:DX)(n:Nat) (K:KT 99):∀ (m:Nat) (x0:Int) (x1:tq40),LF D n 99 pq2 m (qzt x0 x1) K=qmq D n (fun a b=>K (Ex.ret) (q53 a b)) (fun c=>K (Ex.exit 0) (q6d c)) m x0 x1:=eL2 (fun F=>q0m D n F (fun a b=>K (Ex.ret) (q53 a b)) (fun c=>K (Ex.exit 0) (q6d c))) (fun _ _ =>q7 ..) (fun _ _ _ =>by kernel_rfl) (fun _ _ _ =>rfl)
theorem qbje (D:DX)(n:Nat) (x0) (x1):LF D n 99 pq2 n (qzt x0 x1) (CF D n 99 [] pq2 (lF 99))=qwl D n x0 x1 :=by rw[qbln];kernel_rfl
theorem qbqj (D:DX)(n:Nat) (a0:tq40):rF D n 99 (a0,())=q2o D n a0:=by
 have h:rF D n 99 (a0,())=q27 D n (fun x0 x1=>LF D n 99 pq2 n (qzt x0 x1) (CF D n 99 [] pq2 (lF 99))) a0:=by kernel_rfl
 rw[h]
 simp only[qbje]
 rfl

def qwc (D:DX)(n:Nat) (go:Int→Int→tq5→Option tq42) (K0:Bool→Int→tq5→Option tq42) (K1:Int→tq5→Option tq42) (x0 x1:Int) (x2:tq5):Option tq42:=br (decide (x1<(x2.2.2.2.1.length:Int))) (br (decide (0≤x1)&&decide (x1<(x2.2.2.2.1.length:Int))) (qd (qbqt D x2 (List.getD x2.2.2.2.1 x1.toNat (0,(0,0,0,()),0,0,0,(0,[],()),()))) fun b↦br (!b.1.1) (K0 false x0 x2) (br (decide (0≤x1)&&decide (x1<(x2.2.2.2.1.length:Int))) (qd (qqu D (decide ((List.getD x2.2.2.2.1 x1.toNat (0,(0,0,0,()),0,0,0,(0,[],()),())).2.2.2.1≥0))) fun b↦go (wrap .i64 (x0+b.1.1)) (wrap .i64 (x1+1)) x2) none)) none) (K1 x0 x2)
def qpz (D:DX)(n:Nat) (K0:Bool→Int→tq5→Option tq42) (K1:Int→tq5→Option tq42):Nat→Int→Int→tq5→Option tq42 | 0=>(fun x0 x1 x2=>none) | m+1=>(fun x0 x1 x2=>qwc D n (qpz D n K0 K1 m) K0 K1 x0 x1 x2)
def q33 (D:DX)(n:Nat) (a:Bool) (b:Int) (c:tq5):Option tq42:=some ((a,()),())
def q8l (D:DX)(n:Nat) (go:Int→Int→Int→Int→tq5→Option tq42) (K0:Bool→Int→Int→tq5→Option tq42) (K1:Int→Int→tq5→Option tq42) (d c e a:Int) (b:tq5):Option tq42:=br (decide (a<c)) (br (decide (0≤a)&&decide (a<(b.2.2.2.2.1.length:Int))) (br (decide (List.getD b.2.2.2.2.1 a.toNat 0=e)) (K0 false d c b) (go d c e (wrap .i64 (a+1)) b)) none) (K1 d c b)
def qxt (D:DX)(n:Nat) (K0:Bool→Int→Int→tq5→Option tq42) (K1:Int→Int→tq5→Option tq42):Nat→Int→Int→Int→Int→tq5→Option tq42 | 0=>(fun a b c d e=>none) | m+1=>(fun a b c d e=>q8l D n (qxt D n K0 K1 m) K0 K1 a b c d e)
def qbf9 (D:DX)(n:Nat) (go:Int→Int→tq5→Option tq42) (K0:Bool→Int→tq5→Option tq42) (K1:Int→tq5→Option tq42) (a:Bool) (b d:Int) (c:tq5):Option tq42:=K0 a b c
def qbgx (D:DX)(n:Nat) (go:Int→Int→tq5→Option tq42) (K0:Bool→Int→tq5→Option tq42) (K1:Int→tq5→Option tq42) (a b:Int) (c:tq5):Option tq42:=go a (wrap .i64 (b+1)) c
def q7l (D:DX)(n:Nat) (go:Int→Int→tq5→Option tq42) (K0:Bool→Int→tq5→Option tq42) (K1:Int→tq5→Option tq42):(Int)→(Int)→(Int)→(Int)→tq5→Option tq42:=(fun a b j k l=>qxt D n (fun c d e f=>qbf9 D n go K0 K1 c d e f) (fun g h i=>qbgx D n go K0 K1 g h i) n a b j k l)
def qwv (D:DX)(n:Nat) (go:Int→Int→tq5→Option tq42) (K0:Bool→Int→tq5→Option tq42) (K1:Int→tq5→Option tq42) (lp2:Int→Int→Int→Int→tq5→Option tq42) (d c:Int) (a:tq5):Option tq42:=let y0:=List.getD a.2.2.2.2.1 c.toNat 0;let y1:=List.getD a.2.2.2.1 (Int.toNat y0) (0,(0,0,0,()),0,0,0,(0,[],()),());let y2:=Int.toNat (wrap .i64 (c - 1));br (decide (c<(a.2.2.2.2.1.length:Int))) (br (decide (0≤c)&&decide (c<(a.2.2.2.2.1.length:Int))) (qd (qbo D y0 0 (wrap .i64 ((a.2.2.2.1.length:Int) - 1))) fun b↦br (!b.1.1) (K0 false d a) (br (decide (0≤y0)&&decide (y0<(a.2.2.2.1.length:Int))) (br (decide (y1.2.2.2.1<0)) (K0 false d a) (br (decide (c>0)) (br (decide (0≤wrap .i64 (c - 1))&&decide (wrap .i64 (c - 1)<(a.2.2.2.2.1.length:Int))) (br (decide (0≤List.getD a.2.2.2.2.1 y2 0)&&decide (List.getD a.2.2.2.2.1 y2 0<(a.2.2.2.1.length:Int))) (br (decide (0≤y0)&&decide (y0<(a.2.2.2.1.length:Int))) (br (decide ((List.getD a.2.2.2.1 (Int.toNat (List.getD a.2.2.2.2.1 y2 0)) (0,(0,0,0,()),0,0,0,(0,[],()),())).2.2.2.1>y1.2.2.2.1)) (K0 false d a) (lp2 d c y0 0 a)) none) none) none) (lp2 d c y0 0 a))) none)) none) (K1 d a)
def qjj (D:DX)(n:Nat) (K0:Bool→Int→tq5→Option tq42) (K1:Int→tq5→Option tq42):Nat→Int→Int→tq5→Option tq42 | 0=>(fun a b c=>none) | m+1=>(fun a b c=>qwv D n (qjj D n K0 K1 m) K0 K1 (q7l D n (qjj D n K0 K1 m) K0 K1) a b c)
def qbgl (D:DX)(n:Nat) (a:Bool) (b:Int) (c:tq5):Option tq42:=some ((a,()),())
def q35 (D:DX)(n:Nat) (b:Int) (a:tq5):Option tq42:=some ((bif decide ((a.2.2.2.1.length:Int)≤40) then decide (b=(a.2.2.2.2.1.length:Int)) else false,()),())
def qu4 (D:DX)(n:Nat):(Int)→(Int)→tq5→Option tq42:=(fun a b h=>qjj D n (fun c d e=>qbgl D n c d e) (fun f g=>q35 D n f g) n a b h)
def qss (D:DX)(n:Nat) (lp1:Int→Int→tq5→Option tq42) (a:Int) (b:tq5):Option tq42:=lp1 a 0 b
def qub (D:DX)(n:Nat):(Int)→(Int)→tq5→Option tq42:=(fun x0 x1 x2=>qpz D n (fun a b c=>q33 D n a b c) (fun d e=>qss D n (qu4 D n) d e) n x0 x1 x2)
def q0c (D:DX)(n:Nat) (lp0:Int→Int→tq5→Option tq42) (a0:tq5):Option tq42:=lp0 0 0 a0
def qzv (D:DX)(n:Nat) (a0:tq5):Option tq42:=q0c D n (qub D n) a0
def qw8 (x0 x1:Int) (x2:tq5):St:=stq 108 [(1,AV.addr 1 []),(3,AV.val yq34 x0),(4,AV.val yq34 x1)] [(1,Root.mk yq0 Mk.no x2 true)]
def qse (a:Bool) (b:Int) (c:tq5):St:=stq 108 [(1,AV.addr 1 []),(2,AV.val Ty.bool a),(3,AV.val yq34 b)] [(1,Root.mk yq0 Mk.no c true)]
def qtg (a:Int) (b:tq5):St:=stq 108 [(1,AV.addr 1 []),(3,AV.val yq34 a)] [(1,Root.mk yq0 Mk.no b true)]
def qhl (a b:Int) (c:tq5):St:=stq 108 [(1,AV.addr 1 []),(3,AV.val yq34 a),(5,AV.val yq34 b)] [(1,Root.mk yq0 Mk.no c true)]
def qmh (a:Bool) (b:Int) (c:tq5):St:=stq 108 [(1,AV.addr 1 []),(2,AV.val Ty.bool a),(3,AV.val yq34 b)] [(1,Root.mk yq0 Mk.no c true)]
def qmd (a:Int) (b:tq5):St:=stq 108 [(1,AV.addr 1 []),(3,AV.val yq34 a)] [(1,Root.mk yq0 Mk.no b true)]
def qxx (a b c d:Int) (e:tq5):St:=stq 108 [(1,AV.addr 1 []),(3,AV.val yq34 a),(5,AV.val yq34 b),(6,AV.val yq34 c),(7,AV.val yq34 d)] [(1,Root.mk yq0 Mk.no e true)]
def q4g (a:Bool) (b c:Int) (d:tq5):St:=stq 108 [(1,AV.addr 1 []),(2,AV.val Ty.bool a),(3,AV.val yq34 b),(5,AV.val yq34 c)] [(1,Root.mk yq0 Mk.no d true)]
def q4c (a b:Int) (c:tq5):St:=stq 108 [(1,AV.addr 1 []),(3,AV.val yq34 a),(5,AV.val yq34 b)] [(1,Root.mk yq0 Mk.no c true)]
theorem qbib (D:DX)(n:Nat) (K:KT 100):∀ (m:Nat) (x0 x1:Int) (x2:tq5),LF D n 100 pq0 m (qw8 x0 x1 x2) K=qpz D n (fun a b c=>K (Ex.ret) (qse a b c)) (fun d e=>K (Ex.exit 0) (qtg d e)) m x0 x1 x2:=eL3 (fun F=>qwc D n F (fun a b c=>K (Ex.ret) (qse a b c)) (fun d e=>K (Ex.exit 0) (qtg d e))) (fun _ _ _ =>q7 ..) (fun _ _ _ _ =>by kernel_rfl) (fun _ _ _ _ =>rfl)
theorem qbjh (D:DX)(n:Nat) (K:KT 100):∀ (m:Nat) (h i j k:Int) (l:tq5),LF D n 100 pq12 m (qxx h i j k l) K=qxt D n (fun a b c d=>K (Ex.ret) (q4g a b c d)) (fun e f g=>K (Ex.exit 4) (q4c e f g)) m h i j k l:=eL5 (fun F=>q8l D n F (fun a b c d=>K (Ex.ret) (q4g a b c d)) (fun e f g=>K (Ex.exit 4) (q4c e f g))) (fun _ _ _ _ _ =>q7 ..) (fun _ _ _ _ _ _ =>by kernel_rfl) (fun _ _ _ _ _ _ =>rfl)
theorem qbf6 (D:DX)(n:Nat) (m:Nat) (K:KT 100) (a b c d:Int) (e:tq5):LF D n 100 pq12 n (qxx a b c d e) (CF D n 100 [.r,.r,.r,.l,.r,.l,.l] [.r,.l,.l,.r,.r,.r,.l] (KF D n 100 pq1 m K))=q7l D n (fun k o p=>LF D n 100 pq1 m (qhl k o p) K) (fun f g h=>K (Ex.ret) (qmh f g h)) (fun i j=>K (Ex.exit 2) (qmd i j)) a b c d e :=by rw[qbjh];kernel_rfl
theorem qbim (D:DX)(n:Nat) (m:Nat) (K:KT 100) (a b:Int) (c:tq5):LF D n 100 pq1 (m+1) (qhl a b c) K=qwv D n (fun a b c=>LF D n 100 pq1 m (qhl a b c) K) (fun d e f=>K (Ex.ret) (qmh d e f)) (fun g h=>K (Ex.exit 2) (qmd g h)) (fun i j k o p=>LF D n 100 pq12 n (qxx i j k o p) (CF D n 100 [.r,.r,.r,.l,.r,.l,.l] [.r,.l,.l,.r,.r,.r,.l] (KF D n 100 pq1 m K))) a b c:=by kernel_rfl
theorem q6h (D:DX)(n:Nat) (K:KT 100):∀ (m:Nat) (a b:Int) (c:tq5),LF D n 100 pq1 m (qhl a b c) K=qjj D n (fun d e f=>K (Ex.ret) (qmh d e f)) (fun g h=>K (Ex.exit 2) (qmd g h)) m a b c
 | 0,a,b,c=>q7 ..
 | m+1,a,b,c=>by
  have ih:(fun a b c=>LF D n 100 pq1 m (qhl a b c) K)=qjj D n (fun d e f=>K (Ex.ret) (qmh d e f)) (fun g h=>K (Ex.exit 2) (qmd g h)) m:=by funext a b c;exact q6h D n K m a b c
  rw[qbim]
  simp only[qbf6]
  rw[ih];rfl
theorem qbf0 (D:DX)(n:Nat) (a b:Int) (c:tq5):LF D n 100 pq1 n (qhl a b c) (CF D n 100 [] pq1 (lF 100))=qu4 D n a b c :=by rw[q6h];kernel_rfl
theorem qbgj (D:DX)(n:Nat) (a:Bool) (b:Int) (c:tq5):(CF D n 100 [] pq0 (lF 100)) (Ex.ret) (qse a b c)=q33 D n a b c:=by kernel_rfl
theorem qbg8 (D:DX)(n:Nat) (a:Int) (b:tq5):(CF D n 100 [] pq0 (lF 100)) (Ex.exit 0) (qtg a b)=qss D n (fun c d e=>LF D n 100 pq1 n (qhl c d e) (CF D n 100 [] pq1 (lF 100))) a b:=by kernel_rfl
theorem qbgd (D:DX)(n:Nat) (x0) (x1) (x2):LF D n 100 pq0 n (qw8 x0 x1 x2) (CF D n 100 [] pq0 (lF 100))=qub D n x0 x1 x2:=by
 rw[qbib]
 simp only[qbgj,qbg8,qbf0]
 rfl
theorem qbne (D:DX)(n:Nat) (a0:tq5):rF D n 100 (a0,())=qzv D n a0:=by
 have h:rF D n 100 (a0,())=q0c D n (fun x0 x1 x2=>LF D n 100 pq0 n (qw8 x0 x1 x2) (CF D n 100 [] pq0 (lF 100))) a0:=by kernel_rfl
 rw[h]
 simp only[qbgd]
 rfl

def qvc (D:DX)(n:Nat) (go:Int→Int→tq13→Option tq42) (K0:Int→Bool→tq13→Option tq42) (K1:Int→tq13→Option tq42) (x0 x1:Int) (x2:tq13):Option tq42:=br (decide (x1<(x2.1.length:Int))) (br (decide (0≤x1)&&decide (x1<(x2.1.length:Int))) (qd (q06 D (List.getD x2.1 x1.toNat (0,0,0,()))) fun b↦br (!b.1.1) (K0 x0 false x2) (go x0 (wrap .i64 (x1+1)) x2)) none) (K1 x0 x2)
def qkt (D:DX)(n:Nat) (K0:Int→Bool→tq13→Option tq42) (K1:Int→tq13→Option tq42):Nat→Int→Int→tq13→Option tq42 | 0=>(fun x0 x1 x2=>none) | m+1=>(fun x0 x1 x2=>qvc D n (qkt D n K0 K1 m) K0 K1 x0 x1 x2)
def q1v (D:DX)(n:Nat) (b:Int) (a:Bool) (c:tq13):Option tq42:=some ((a,()),())
def qu1 (D:DX)(n:Nat) (go:Int→Int→tq13→Option tq42) (K0:Int→Bool→tq13→Option tq42) (K1:Int→tq13→Option tq42) (d c:Int) (a:tq13):Option tq42:=br (decide (c<(a.2.2.2.1.length:Int))) (br (decide (0≤c)&&decide (c<(a.2.2.2.1.length:Int))) (qd (qbo D (List.getD a.2.2.2.1 c.toNat (0,0,())).1 0 19) fun b↦br (!b.1.1) (K0 d false a) (br (decide (0≤c)&&decide (c<(a.2.2.2.1.length:Int))) (qd (qbo D (List.getD a.2.2.2.1 c.toNat (0,0,())).2.1 0 1000) fun b↦br (!b.1.1) (K0 d false a) (go d (wrap .i64 (c+1)) a)) none)) none) (K1 d a)
def qod (D:DX)(n:Nat) (K0:Int→Bool→tq13→Option tq42) (K1:Int→tq13→Option tq42):Nat→Int→Int→tq13→Option tq42 | 0=>(fun a b c=>none) | m+1=>(fun a b c=>qu1 D n (qod D n K0 K1 m) K0 K1 a b c)
def q1i (D:DX)(n:Nat) (b:Int) (a:Bool) (c:tq13):Option tq42:=some ((a,()),())
def qu0 (D:DX)(n:Nat) (go:Int→Int→tq13→Option tq42) (K0:Bool→Option tq42) (K1:Option tq42) (d a:Int) (c:tq13):Option tq42:=let y0:=List.getD c.2.2.2.2.1 a.toNat (0,0,0,0,());br (decide (a<(c.2.2.2.2.1.length:Int))) (br (decide (0≤a)&&decide (a<(c.2.2.2.2.1.length:Int))) (br (bif decide (y0.1<0) then true else decide (y0.1≥d)) (K0 false) (qd (qbo D y0.2.1 1 1000000) fun b↦br (!b.1.1) (K0 false) (qd (qbo D y0.2.2.1 0 20) fun b↦br (!b.1.1) (K0 false) (qd (qbo D y0.2.2.2.1 0 20) fun b↦br (!b.1.1) (K0 false) (go d (wrap .i64 (a+1)) c))))) none) K1
def qnx (D:DX)(n:Nat) (K0:Bool→Option tq42) (K1:Option tq42):Nat→Int→Int→tq13→Option tq42 | 0=>(fun a b c=>none) | m+1=>(fun a b c=>qu0 D n (qnx D n K0 K1 m) K0 K1 a b c)
def qbdm (D:DX)(n:Nat) (a:Bool):Option tq42:=some ((a,()),())
def qbeo (D:DX)(n:Nat):Option tq42:=some ((true,()),())
def qsd (D:DX)(n:Nat):(Int)→(Int)→tq13→Option tq42:=(fun a b d=>qnx D n (fun c=>qbdm D n c) (qbeo D n) n a b d)
def qqk (D:DX)(n:Nat) (lp2:Int→Int→tq13→Option tq42) (a:Int) (b:tq13):Option tq42:=lp2 a 0 b
def qta (D:DX)(n:Nat):(Int)→(Int)→tq13→Option tq42:=(fun a b h=>qod D n (fun c d e=>q1i D n c d e) (fun f g=>qqk D n (qsd D n) f g) n a b h)
def qq9 (D:DX)(n:Nat) (lp1:Int→Int→tq13→Option tq42) (a:Int) (b:tq13):Option tq42:=lp1 a 0 b
def qs6 (D:DX)(n:Nat):(Int)→(Int)→tq13→Option tq42:=(fun x0 x1 x2=>qkt D n (fun a b c=>q1v D n a b c) (fun d e=>qq9 D n (qta D n) d e) n x0 x1 x2)
def qxm (D:DX)(n:Nat) (lp0:Int→Int→tq13→Option tq42) (a0:tq13) (a1:Int):Option tq42:=br (decide ((a0.1.length:Int)>8)) (some ((false,()),())) (qd (qbo D a0.2.1 0 (a0.1.length:Int)) fun b↦br (bif !b.1.1 then true else bif a0.2.2.1 then decide (a0.2.1≥(a0.1.length:Int)) else false) (some ((false,()),())) (br (!a0.2.2.1) (br (bif bif decide (wrap .i64 ((a0.2.2.2.1.length:Int)+(a0.2.2.2.2.1.length:Int))>0) then true else decide ((a0.2.2.2.1.length:Int)>12) then true else decide ((a0.2.2.2.2.1.length:Int)>2)) (some ((false,()),())) (lp0 a1 0 a0)) (br (bif bif false then true else decide ((a0.2.2.2.1.length:Int)>12) then true else decide ((a0.2.2.2.2.1.length:Int)>2)) (some ((false,()),())) (lp0 a1 0 a0))))
def qwk (D:DX)(n:Nat) (a0:tq13) (a1:Int):Option tq42:=qxm D n (qs6 D n) a0 a1
def quy (x0 x1:Int) (x2:tq13):St:=stq 139 [(1,AV.val yq34 x0),(2,AV.addr 2 []),(5,AV.val yq34 x1)] [(2,Root.mk yq5 Mk.no x2 true)]
def qqw (a:Int) (b:Bool) (c:tq13):St:=stq 139 [(1,AV.val yq34 a),(2,AV.addr 2 []),(4,AV.val Ty.bool b)] [(2,Root.mk yq5 Mk.no c true)]
def qrl (a:Int) (b:tq13):St:=stq 139 [(1,AV.val yq34 a),(2,AV.addr 2 [])] [(2,Root.mk yq5 Mk.no b true)]
def quu (a b:Int) (c:tq13):St:=stq 139 [(1,AV.val yq34 a),(2,AV.addr 2 []),(6,AV.val yq34 b)] [(2,Root.mk yq5 Mk.no c true)]
def qri (a:Int) (b:Bool) (c:tq13):St:=stq 139 [(1,AV.val yq34 a),(2,AV.addr 2 []),(4,AV.val Ty.bool b)] [(2,Root.mk yq5 Mk.no c true)]
def qqg (a:Int) (b:tq13):St:=stq 139 [(1,AV.val yq34 a),(2,AV.addr 2 [])] [(2,Root.mk yq5 Mk.no b true)]
def qu8 (a b:Int) (c:tq13):St:=stq 139 [(1,AV.val yq34 a),(2,AV.addr 2 []),(7,AV.val yq34 b)] [(2,Root.mk yq5 Mk.no c true)]
def q10 (a:Bool):St:=stq 139 [(4,AV.val Ty.bool a)] []
def q1k:St:=stq 139 [] []
theorem qbf3 (D:DX)(n:Nat) (K:KT 101):∀ (m:Nat) (x0 x1:Int) (x2:tq13),LF D n 101 pq0 m (quy x0 x1 x2) K=qkt D n (fun a b c=>K (Ex.ret) (qqw a b c)) (fun d e=>K (Ex.exit 0) (qrl d e)) m x0 x1 x2:=eL3 (fun F=>qvc D n F (fun a b c=>K (Ex.ret) (qqw a b c)) (fun d e=>K (Ex.exit 0) (qrl d e))) (fun _ _ _ =>q7 ..) (fun _ _ _ _ =>by kernel_rfl) (fun _ _ _ _ =>rfl)
theorem qbgz (D:DX)(n:Nat) (K:KT 101):∀ (m:Nat) (f g:Int) (h:tq13),LF D n 101 pq1 m (quu f g h) K=qod D n (fun a b c=>K (Ex.ret) (qri a b c)) (fun d e=>K (Ex.exit 2) (qqg d e)) m f g h:=eL3 (fun F=>qu1 D n F (fun a b c=>K (Ex.ret) (qri a b c)) (fun d e=>K (Ex.exit 2) (qqg d e))) (fun _ _ _ =>q7 ..) (fun _ _ _ _ =>by kernel_rfl) (fun _ _ _ _ =>rfl)
theorem qbgs (D:DX)(n:Nat) (K:KT 101):∀ (m:Nat) (b c:Int) (d:tq13),LF D n 101 pq3 m (qu8 b c d) K=qnx D n (fun a=>K (Ex.ret) (q10 a)) (K (Ex.exit 4) (q1k)) m b c d:=eL3 (fun F=>qu0 D n F (fun a=>K (Ex.ret) (q10 a)) (K (Ex.exit 4) (q1k))) (fun _ _ _ =>q7 ..) (fun _ _ _ _ =>by kernel_rfl) (fun _ _ _ _ =>rfl)
theorem qben (D:DX)(n:Nat) (a b:Int) (c:tq13):LF D n 101 pq3 n (qu8 a b c) (CF D n 101 [] pq3 (lF 101))=qsd D n a b c :=by rw[qbgs];kernel_rfl
theorem qbds (D:DX)(n:Nat) (a:Int) (b:Bool) (c:tq13):(CF D n 101 [] pq1 (lF 101)) (Ex.ret) (qri a b c)=q1i D n a b c:=by kernel_rfl
theorem qbec (D:DX)(n:Nat) (a:Int) (b:tq13):(CF D n 101 [] pq1 (lF 101)) (Ex.exit 2) (qqg a b)=qqk D n (fun c d e=>LF D n 101 pq3 n (qu8 c d e) (CF D n 101 [] pq3 (lF 101))) a b:=by kernel_rfl
theorem qbee (D:DX)(n:Nat) (a b:Int) (c:tq13):LF D n 101 pq1 n (quu a b c) (CF D n 101 [] pq1 (lF 101))=qta D n a b c:=by
 rw[qbgz]
 simp only[qbds,qbec,qben]
 rfl
theorem qbeu (D:DX)(n:Nat) (a:Int) (b:Bool) (c:tq13):(CF D n 101 [] pq0 (lF 101)) (Ex.ret) (qqw a b c)=q1v D n a b c:=by kernel_rfl
theorem qbel (D:DX)(n:Nat) (a:Int) (b:tq13):(CF D n 101 [] pq0 (lF 101)) (Ex.exit 0) (qrl a b)=qq9 D n (fun c d e=>LF D n 101 pq1 n (quu c d e) (CF D n 101 [] pq1 (lF 101))) a b:=by kernel_rfl
theorem qbdj (D:DX)(n:Nat) (x0) (x1) (x2):LF D n 101 pq0 n (quy x0 x1 x2) (CF D n 101 [] pq0 (lF 101))=qs6 D n x0 x1 x2:=by
 rw[qbf3]
 simp only[qbeu,qbel,qbee]
 rfl
theorem qbkn (D:DX)(n:Nat) (a0:tq13) (a1:Int):rF D n 101 (a0,(a1,()))=qwk D n a0 a1:=by
 have h:rF D n 101 (a0,(a1,()))=qxm D n (fun x0 x1 x2=>LF D n 101 pq0 n (quy x0 x1 x2) (CF D n 101 [] pq0 (lF 101))) a0 a1:=by kernel_rfl
 rw[h]
 simp only[qbdj]
 rfl

def qug (D:DX)(n:Nat) (go:Int→Int→Int→Int→tq5→tq13→Option tq42) (K0:Bool→Int→Int→tq5→tq13→Option tq42) (K1:Int→Int→tq5→tq13→Option tq42) (x0 x1 x2 x3:Int) (x4:tq5) (x5:tq13):Option tq42:=let y0:=List.getD x4.2.2.2.1 x3.toNat (0,(0,0,0,()),0,0,0,(0,[],()),());br (decide (x3<(x4.2.2.2.1.length:Int))) (br (decide (0≤x3)&&decide (x3<(x4.2.2.2.1.length:Int))) (br (y0.1 != x0) (go x0 x1 x2 (wrap .i64 (x3+1)) x4 x5) (br (decide (0≤x3)&&decide (x3<(x4.2.2.2.1.length:Int))) (br (decide (y0.2.2.2.2.1≥0)) (go x0 x1 (wrap .i64 (x2+1)) (wrap .i64 (x3+1)) x4 x5) (br (bif !x5.2.2.1 then true else x3 != x1) (K0 false x1 x2 x4 x5) (go x0 x1 x2 (wrap .i64 (x3+1)) x4 x5))) none)) none) (K1 x1 x2 x4 x5)
def qnw (D:DX)(n:Nat) (K0:Bool→Int→Int→tq5→tq13→Option tq42) (K1:Int→Int→tq5→tq13→Option tq42):Nat→Int→Int→Int→Int→tq5→tq13→Option tq42 | 0=>(fun x0 x1 x2 x3 x4 x5=>none) | m+1=>(fun x0 x1 x2 x3 x4 x5=>qug D n (qnw D n K0 K1 m) K0 K1 x0 x1 x2 x3 x4 x5)
def qbdw (D:DX)(n:Nat) (a:Bool) (b c:Int) (d:tq5) (e:tq13):Option tq42:=some ((a,()),())
def q11 (D:DX)(n:Nat) (b d:Int) (c:tq5) (a:tq13):Option tq42:=let y0:=List.getD c.2.2.2.1 b.toNat (0,(0,0,0,()),0,0,0,(0,[],()),());br (d != a.2.1) (some ((false,()),())) (br (!a.2.2.1) (some ((true,()),())) (br (decide (b≥0)) (br (decide (0≤b)&&decide (b<(c.2.2.2.1.length:Int))) (br (decide (y0.2.2.2.2.1 = -1)) (br (decide (0≤b)&&decide (b<(c.2.2.2.1.length:Int))) (br (decide (0≤a.2.1)&&decide (a.2.1<(a.1.length:Int))) (some ((qkv yq21 y0.2.1 (List.getD a.1 a.2.1.toNat (0,0,0,())),()),())) none) none) (some ((false,()),()))) none) (some ((false,()),()))))
def qs1 (D:DX)(n:Nat):(Int)→(Int)→(Int)→(Int)→tq5→tq13→Option tq42:=(fun x0 x1 x2 x3 x4 x5=>qnw D n (fun a b c d e=>qbdw D n a b c d e) (fun f g h i=>q11 D n f g h i) n x0 x1 x2 x3 x4 x5)
def qv4 (D:DX)(n:Nat) (lp0:Int→Int→Int→Int→tq5→tq13→Option tq42) (a0:tq5) (a1:Int):Option tq42:=br (decide (0≤a1)&&decide (a1<(a0.2.1.length:Int))) (qd (q2g D a0 a1) fun b↦lp0 a1 b.1.1 0 0 a0 (List.getD a0.2.1 a1.toNat ([],0,false,[],[],()))) none
def qwf (D:DX)(n:Nat) (a0:tq5) (a1:Int):Option tq42:=qv4 D n (qs1 D n) a0 a1
def qum (x0 x1 x2 x3:Int) (x4:tq5) (x5:tq13):St:=stq 84 [(1,AV.val yq34 x0),(2,AV.addr 2 []),(5,AV.addr 5 []),(6,AV.val yq34 x1),(7,AV.val yq34 x2),(8,AV.val yq34 x3)] [(2,Root.mk yq0 Mk.no x4 true),(5,Root.mk yq5 Mk.no x5 true)]
def q1o (a:Bool) (b c:Int) (d:tq5) (e:tq13):St:=stq 84 [(2,AV.addr 2 []),(4,AV.val Ty.bool a),(5,AV.addr 5 []),(6,AV.val yq34 b),(7,AV.val yq34 c)] [(2,Root.mk yq0 Mk.no d true),(5,Root.mk yq5 Mk.no e true)]
def q1d (a b:Int) (c:tq5) (d:tq13):St:=stq 84 [(2,AV.addr 2 []),(5,AV.addr 5 []),(6,AV.val yq34 a),(7,AV.val yq34 b)] [(2,Root.mk yq0 Mk.no c true),(5,Root.mk yq5 Mk.no d true)]
theorem qbg2 (D:DX)(n:Nat) (K:KT 102):∀ (m:Nat) (x0 x1 x2 x3:Int) (x4:tq5) (x5:tq13),LF D n 102 pq3 m (qum x0 x1 x2 x3 x4 x5) K=qnw D n (fun a b c d e=>K (Ex.ret) (q1o a b c d e)) (fun f g h i=>K (Ex.exit 0) (q1d f g h i)) m x0 x1 x2 x3 x4 x5:=eL6 (fun F=>qug D n F (fun a b c d e=>K (Ex.ret) (q1o a b c d e)) (fun f g h i=>K (Ex.exit 0) (q1d f g h i))) (fun _ _ _ _ _ _ =>q7 ..) (fun _ _ _ _ _ _ _ =>by kernel_rfl) (fun _ _ _ _ _ _ _ =>rfl)
theorem qbdy (D:DX)(n:Nat) (x0) (x1) (x2) (x3) (x4) (x5):LF D n 102 pq3 n (qum x0 x1 x2 x3 x4 x5) (CF D n 102 [] pq3 (lF 102))=qs1 D n x0 x1 x2 x3 x4 x5 :=by rw[qbg2];kernel_rfl
theorem qbma (D:DX)(n:Nat) (a0:tq5) (a1:Int):rF D n 102 (a0,(a1,()))=qwf D n a0 a1:=by
 have h:rF D n 102 (a0,(a1,()))=qv4 D n (fun x0 x1 x2 x3 x4 x5=>LF D n 102 pq3 n (qum x0 x1 x2 x3 x4 x5) (CF D n 102 [] pq3 (lF 102))) a0 a1:=by kernel_rfl
 rw[h]
 simp only[qbdy]
 rfl

def qw7 (D:DX)(n:Nat) (go:List tq18→Int→Int→tq12→tq12→Option tq10) (K0:tq12→tq12→Option tq10) (x0:List tq18) (x1 x2:Int) (x3 x4:tq12):Option tq10:=br (decide (x2<x1)) (br (decide (0≤x2)&&decide (x2<(x0.length:Int))) (qd (qda D (List.getD x0 x2.toNat (0,0,[],(0,[],()),())).2.2.1) fun b↦qd (qig D (List.getD x0 x2.toNat (0,0,[],(0,[],()),())).2.2.2.1) fun b_1↦br (decide (x4.2.1.length+1≤qb7)) (go x0 x1 (wrap .i64 (x2+1)) x3 (x4.1,x4.2.1++[((List.getD x0 x2.toNat (0,0,[],(0,[],()),())).1,(List.getD x0 x2.toNat (0,0,[],(0,[],()),())).2.1,b.1.1,(b_1.1.1.1,b_1.1.1.2.1,()),())],x4.2.2)) none) none) (K0 x3 x4)
def qlk (D:DX)(n:Nat) (K0:tq12→tq12→Option tq10):Nat→(List tq18)→Int→Int→tq12→tq12→Option tq10 | 0=>(fun x0 x1 x2 x3 x4=>none) | m+1=>(fun x0 x1 x2 x3 x4=>qw7 D n (qlk D n K0 m) K0 x0 x1 x2 x3 x4)
def qbg5 (D:DX)(n:Nat) (b a:tq12):Option tq10:=some (((a.1,a.2.1,()),()),())
def qu9 (D:DX)(n:Nat):(List tq18)→(Int)→(Int)→tq12→tq12→Option tq10:=(fun x0 x1 x2 x3 x4=>qlk D n (fun a b=>qbg5 D n a b) n x0 x1 x2 x3 x4)
def qyk (D:DX)(n:Nat) (lp0:List tq18→Int→Int→tq12→tq12→Option tq10) (a0:tq12):Option tq10:=qd (qf4 D a0.1) fun b↦lp0 a0.2.1 (a0.2.1.length:Int) 0 ([],[],()) (b.1.1,[],())
def qzr (D:DX)(n:Nat) (a0:tq12):Option tq10:=qyk D n (qu9 D n) a0
def qwo (x0:List tq18) (x1 x2:Int) (x3 x4:tq12):St:=stq 33 [(2,AV.addr 2 []),(3,AV.addr 3 []),(11,AV.val yq8 x0),(12,AV.val yq34 x1),(13,AV.val yq34 x2)] [(2,Root.mk yq3 kq14 x3 true),(3,Root.mk yq3 kq14 x4 true)]
def q3u (a b:tq12):St:=stq 33 [(2,AV.addr 2 []),(3,AV.addr 3 [])] [(2,Root.mk yq3 kq14 a true),(3,Root.mk yq3 kq14 b true)]
theorem qbi2 (D:DX)(n:Nat) (K:KT 103):∀ (m:Nat) (x0:List tq18) (x1 x2:Int) (x3 x4:tq12),LF D n 103 pq0 m (qwo x0 x1 x2 x3 x4) K=qlk D n (fun a b=>K (Ex.exit 0) (q3u a b)) m x0 x1 x2 x3 x4:=eL5 (fun F=>qw7 D n F (fun a b=>K (Ex.exit 0) (q3u a b))) (fun _ _ _ _ _ =>q7 ..) (fun _ _ _ _ _ _ =>by kernel_rfl) (fun _ _ _ _ _ _ =>rfl)
theorem qbha (D:DX)(n:Nat) (x0) (x1) (x2) (x3) (x4):LF D n 103 pq0 n (qwo x0 x1 x2 x3 x4) (CF D n 103 [] pq0 (lF 103))=qu9 D n x0 x1 x2 x3 x4 :=by rw[qbi2];kernel_rfl
theorem qbn5 (D:DX)(n:Nat) (a0:tq12):rF D n 103 (a0,())=qzr D n a0:=by
 have h:rF D n 103 (a0,())=qyk D n (fun x0 x1 x2 x3 x4=>LF D n 103 pq0 n (qwo x0 x1 x2 x3 x4) (CF D n 103 [] pq0 (lF 103))) a0:=by kernel_rfl
 rw[h]
 simp only[qbha]
 rfl

def q3x (D:DX)(n:Nat) (a0:tq13):Option tq11:=qd (qe7 D a0.1) fun b↦qd (qgb D a0.2.2.2.1) fun b_1↦qd (qgc D a0.2.2.2.2.1) fun b_2↦some (((b.1.1,a0.2.1,a0.2.2.1,b_1.1.1,b_2.1.1,()),()),())
def qsp (D:DX)(n:Nat) (a0:tq13):Option tq11:=q3x D n a0
theorem qbgr (D:DX)(n:Nat) (a0:tq13):rF D n 104 (a0,())=qsp D n a0:=by kernel_rfl

def qvq (D:DX)(n:Nat) (a0:tq5) (a1:Int):Option tq4:=let y0:=List.getD a0.2.1 a1.toNat ([],0,false,[],[],());br (decide (0≤a1)&&decide (a1<(a0.2.1.length:Int))) (qd (qbb4 D y0) fun b↦qd (q2k D (a0.1.1,a0.1.2.1,()) b.1.1) fun b_1↦br (decide (b_1.1.2.2.2.1=1)) (br (bif decide (b.1.1.1=a1) then decide ((y0.2.2.2.2.1.length:Int)=1) else false) (qd (qo0 D y0 b_1.1.2.2.1) fun b↦br (decide (0≤a1)&&decide (a1<(a0.2.1.length:Int))) (some ((),((b_1.1.1.1,b_1.1.1.2.1,()),List.set a0.2.1 a1.toNat (b.1.1.1,b.1.1.2.1,b.1.1.2.2.1,b.1.1.2.2.2.1,b.1.1.2.2.2.2.1,()),a0.2.2),())) none) (qd (qts D y0 b_1.1.2.2.1) fun b↦br (decide (0≤a1)&&decide (a1<(a0.2.1.length:Int))) (some ((),((b_1.1.1.1,b_1.1.1.2.1,()),List.set a0.2.1 a1.toNat (b.1.1.1,b.1.1.2.1,b.1.1.2.2.1,b.1.1.2.2.2.1,b.1.1.2.2.2.2.1,()),a0.2.2),())) none)) (br (decide (b_1.1.2.2.2.1=2)) (qd (qbbc D y0) fun b_2↦let c:=List.set a0.2.1 a1.toNat (b_2.1.1.1,b_2.1.1.2.1,b_2.1.1.2.2.1,b_2.1.1.2.2.2.1,b_2.1.1.2.2.2.2.1,());let a:=List.getD c a1.toNat ([],0,false,[],[],());let e:=List.set c a1.toNat (a.1,a.2.1,a.2.2.1,a.2.2.2.1,[],a.2.2.2.2.2);let d:=List.getD e a1.toNat ([],0,false,[],[],());let f:=List.getD b_1.1.1.2.1 a1.toNat (0,0,[],(0,[],()),());br (decide (0≤a1)&&decide (a1<(a0.2.1.length:Int))) (br (b.1.1.1 != a1) (some ((),((b_1.1.1.1,b_1.1.1.2.1,()),List.set a0.2.1 a1.toNat (b_2.1.1.1,b_2.1.1.2.1,b_2.1.1.2.2.1,b_2.1.1.2.2.2.1,b_2.1.1.2.2.2.2.1,()),a0.2.2),())) (br (decide (0≤a1)&&decide (a1<(c.length:Int))) (br (decide (0≤a1)&&decide (a1<(b_1.1.1.2.1.length:Int))) (br (decide (f.2.1=2)) (qd (qi7 D ((b_1.1.1.1,b_1.1.1.2.1,()),List.set c a1.toNat (a.1,a.2.1,a.2.2.1,a.2.2.2.1,[],a.2.2.2.2.2),a0.2.2) a1 f.2.2.2.1) fun b↦some ((),b.2.1,())) (br (decide (0≤a1)&&decide (a1<(e.length:Int))) (some ((),((b_1.1.1.1,b_1.1.1.2.1,()),List.set e a1.toNat (d.1,d.2.1,d.2.2.1,[],d.2.2.2.2),a0.2.2),())) none)) none) none)) none) (br (decide (b_1.1.2.2.2.1=3)) (br (decide (0≤b.1.1.1)&&decide (b.1.1.1<(b_1.1.1.2.1.length:Int))) (qd (qjr D ((b_1.1.1.1,b_1.1.1.2.1,()),a0.2) b.1.1.1 (List.getD b_1.1.1.2.1 b.1.1.1.toNat (0,0,[],(0,[],()),())).2.2.2.1) fun b↦qd (qts D y0 b_1.1.2.1) fun b_2↦br (decide (0≤a1)&&decide (a1<(b.2.1.2.1.length:Int))) (some ((),(b.2.1.1,List.set b.2.1.2.1 a1.toNat (b_2.1.1.1,b_2.1.1.2.1,b_2.1.1.2.2.1,b_2.1.1.2.2.2.1,b_2.1.1.2.2.2.2.1,()),b.2.1.2.2),())) none) none) (qd (qts D y0 b_1.1.2.1) fun b↦br (decide (0≤a1)&&decide (a1<(a0.2.1.length:Int))) (some ((),((b_1.1.1.1,b_1.1.1.2.1,()),List.set a0.2.1 a1.toNat (b.1.1.1,b.1.1.2.1,b.1.1.2.2.1,b.1.1.2.2.2.1,b.1.1.2.2.2.2.1,()),a0.2.2),())) none)))) none
def qm1 (D:DX)(n:Nat) (a0:tq5) (a1:Int):Option tq4:=qvq D n a0 a1
theorem q9v (D:DX)(n:Nat) (a0:tq5) (a1:Int):rF D n 105 (a0,(a1,()))=qm1 D n a0 a1:=by kernel_rfl

def qye (D:DX)(n:Nat) (a0:tq5) (a1:Int):Option tq1:=let y1:=List.getD a0.2.1 a1.toNat ([],0,false,[],[],());let y0:=List.set a0.2.1 a1.toNat (y1.1,y1.2.1,y1.2.2.1,y1.2.2.2.1,y1.2.2.2.2);let y2:=List.getD y0 a1.toNat ([],0,false,[],[],());let y3:=List.getD y1.1 (Int.toNat y1.2.1) (0,0,0,());br (decide (0≤a1)&&decide (a1<(a0.2.1.length:Int))) (br (decide (0≤y1.2.1)&&decide (y1.2.1<(y1.1.length:Int))) (qd (q81 D y3 y1.2.2.2.1) fun b↦br (decide (b.1.1≥0)) (br (decide (0≤b.1.1)&&decide (b.1.1<(a0.1.1.length:Int))) (br ((List.getD a0.1.1 b.1.1.toNat (0,0,0,())).2.1 != 0) (qd (qo0 D (y1.1,y1.2.1,y1.2.2.1,y1.2.2.2.1,y1.2.2.2.2) (wrap .i64 ((List.getD a0.1.1 b.1.1.toNat (0,0,0,())).2.1 - 1),(List.getD a0.1.1 b.1.1.toNat (0,0,0,())).2.2.1,0,0,())) fun b↦some ((true,()),(a0.1,List.set a0.2.1 a1.toNat (b.1.1.1,b.1.1.2.1,b.1.1.2.2.1,b.1.1.2.2.2.1,b.1.1.2.2.2.2.1,()),a0.2.2),())) (br (decide (y1.2.2.2.1.length+1≤qb7)) (qd (qt5 D y3 (List.getD (List.set y0 a1.toNat (y2.1,y2.2.1,y2.2.2.1,y1.2.2.2.1++[(b.1.1,(List.getD a0.1.1 b.1.1.toNat (0,0,0,())).1,())],y2.2.2.2.2)) a1.toNat ([],0,false,[],[],())).2.2.2.1) fun b_1↦br (!b_1.1.2.1) (some ((true,()),(a0.1,List.set y0 a1.toNat (y2.1,y2.2.1,y2.2.2.1,y1.2.2.2.1++[(b.1.1,(List.getD a0.1.1 b.1.1.toNat (0,0,0,())).1,())],y2.2.2.2.2),a0.2.2),())) (br b_1.1.1.1 (qd (qjr D (a0.1,List.set y0 a1.toNat (y2.1,y2.2.1,y2.2.2.1,y1.2.2.2.1++[(b.1.1,(List.getD a0.1.1 b.1.1.toNat (0,0,0,())).1,())],y2.2.2.2.2),a0.2.2) a1 (b_1.1.1.2.1.1,b_1.1.1.2.1.2.1,())) fun b↦qd (qi7 D b.2.1 a1 (b_1.1.1.2.1.1,b_1.1.1.2.1.2.1,())) fun b↦some ((true,()),b.2.1,())) (qd (qw0 D (a0.1.1,a0.1.2.1,()) a1 b_1.1.1.2.2.1 (b_1.1.1.2.1.1,b_1.1.1.2.1.2.1,())) fun b_2↦let a:=List.set y0 a1.toNat (y2.1,y2.2.1,y2.2.2.1,y1.2.2.2.1++[(b.1.1,(List.getD a0.1.1 b.1.1.toNat (0,0,0,())).1,())],y2.2.2.2.2);br b_2.1.2.2.1 (qd (qo0 D (List.getD a a1.toNat ([],0,false,[],[],())) b_2.1.2.1) fun b_3↦some ((b_2.1.2.2.1,()),((b_2.1.1.1,b_2.1.1.2.1,()),List.set a a1.toNat (b_3.1.1.1,b_3.1.1.2.1,b_3.1.1.2.2.1,b_3.1.1.2.2.2.1,b_3.1.1.2.2.2.2.1,()),a0.2.2),())) none))) none)) none) (qd (qt5 D y3 y1.2.2.2.1) fun b↦br (!b.1.2.1) (some ((true,()),a0,())) (br b.1.1.1 (qd (qjr D a0 a1 (b.1.1.2.1.1,b.1.1.2.1.2.1,())) fun b_1↦qd (qi7 D b_1.2.1 a1 (b.1.1.2.1.1,b.1.1.2.1.2.1,())) fun b↦some ((true,()),b.2.1,())) (qd (qw0 D (a0.1.1,a0.1.2.1,()) a1 b.1.1.2.2.1 (b.1.1.2.1.1,b.1.1.2.1.2.1,())) fun b↦br b.1.2.2.1 (qd (qo0 D (y1.1,y1.2.1,y1.2.2.1,y1.2.2.2.1,y1.2.2.2.2) b.1.2.1) fun b_1↦some ((b.1.2.2.1,()),((b.1.1.1,b.1.1.2.1,()),List.set a0.2.1 a1.toNat (b_1.1.1.1,b_1.1.1.2.1,b_1.1.1.2.2.1,b_1.1.1.2.2.2.1,b_1.1.1.2.2.2.2.1,()),a0.2.2),())) none)))) none) none
def qpm (D:DX)(n:Nat) (a0:tq5) (a1:Int):Option tq1:=qye D n a0 a1
theorem qbc2 (D:DX)(n:Nat) (a0:tq5) (a1:Int):rF D n 106 (a0,(a1,()))=qpm D n a0 a1:=by kernel_rfl

def qxf (D:DX)(n:Nat) (go:Int→List tq38→Int→Int→tq38→Option tq26) (K0:Bool→tq38→Option tq26) (K1:tq38→Option tq26) (x0:Int) (x1:List tq38) (x2 x3:Int) (x4:tq38):Option tq26:=br (decide (x3<x2)) (br (decide (0≤x3)&&decide (x3<(x1.length:Int))) (br (decide ((List.getD x1 x3.toNat (0,0,0,())).1=x0)) (K0 true (List.getD x1 x3.toNat (0,0,0,()))) (go x0 x1 x2 (wrap .i64 (x3+1)) x4)) none) (K1 x4)
def qlu (D:DX)(n:Nat) (K0:Bool→tq38→Option tq26) (K1:tq38→Option tq26):Nat→Int→(List tq38)→Int→Int→tq38→Option tq26 | 0=>(fun x0 x1 x2 x3 x4=>none) | m+1=>(fun x0 x1 x2 x3 x4=>qxf D n (qlu D n K0 K1 m) K0 K1 x0 x1 x2 x3 x4)
def q4r (D:DX)(n:Nat) (a:Bool) (b:tq38):Option tq26:=some ((b,a,()),())
def q3y (D:DX)(n:Nat) (a:tq38):Option tq26:=some (((0,0,0,()),false,()),())
def quk (D:DX)(n:Nat):(Int)→(List tq38)→(Int)→(Int)→tq38→Option tq26:=(fun x0 x1 x2 x3 x4=>qlu D n (fun a b=>q4r D n a b) (fun c=>q3y D n c) n x0 x1 x2 x3 x4)
def q0j (D:DX)(n:Nat) (lp0:Int→List tq38→Int→Int→tq38→Option tq26) (a0:tq18) (a1:Int):Option tq26:=lp0 a1 a0.2.2.1 (a0.2.2.1.length:Int) 0 (0,0,0,())
def qzd (D:DX)(n:Nat) (a0:tq18) (a1:Int):Option tq26:=q0j D n (quk D n) a0 a1
def qxu (x0:Int) (x1:List tq38) (x2 x3:Int) (x4:tq38):St:=stq 22 [(1,AV.val yq34 x0),(4,AV.addr 4 []),(9,AV.val yq19 x1),(10,AV.val yq34 x2),(11,AV.val yq34 x3)] [(4,Root.mk yq21 Mk.no x4 true)]
def q4d (a:Bool) (b:tq38):St:=stq 22 [(4,AV.addr 4 []),(5,AV.val Ty.bool a)] [(4,Root.mk yq21 Mk.no b true)]
def q38 (a:tq38):St:=stq 22 [(4,AV.addr 4 [])] [(4,Root.mk yq21 Mk.no a true)]
theorem qbi8 (D:DX)(n:Nat) (K:KT 107):∀ (m:Nat) (x0:Int) (x1:List tq38) (x2 x3:Int) (x4:tq38),LF D n 107 pq2 m (qxu x0 x1 x2 x3 x4) K=qlu D n (fun a b=>K (Ex.ret) (q4d a b)) (fun c=>K (Ex.exit 0) (q38 c)) m x0 x1 x2 x3 x4:=eL5 (fun F=>qxf D n F (fun a b=>K (Ex.ret) (q4d a b)) (fun c=>K (Ex.exit 0) (q38 c))) (fun _ _ _ _ _ =>q7 ..) (fun _ _ _ _ _ _ =>by kernel_rfl) (fun _ _ _ _ _ _ =>rfl)
theorem qbge (D:DX)(n:Nat) (x0) (x1) (x2) (x3) (x4):LF D n 107 pq2 n (qxu x0 x1 x2 x3 x4) (CF D n 107 [] pq2 (lF 107))=quk D n x0 x1 x2 x3 x4 :=by rw[qbi8];kernel_rfl
theorem qbor (D:DX)(n:Nat) (a0:tq18) (a1:Int):rF D n 107 (a0,(a1,()))=qzd D n a0 a1:=by
 have h:rF D n 107 (a0,(a1,()))=q0j D n (fun x0 x1 x2 x3 x4=>LF D n 107 pq2 n (qxu x0 x1 x2 x3 x4) (CF D n 107 [] pq2 (lF 107))) a0 a1:=by kernel_rfl
 rw[h]
 simp only[qbge]
 rfl


def qhf (D:DX)(n:Nat) (a1:Clo) (a0:List tq18):Option tq42:=qd (qh4 D a0 a1) fun b↦some ((decide (b.1.1≥0),()),())
def qdw (D:DX)(n:Nat) (a0:List tq18) (a1:Clo):Option tq42:=qhf D n a1 a0
theorem qna (D:DX)(n:Nat) (a0:List tq18) (a1:Clo):rF D n 109 (a0,(a1,()))=qdw D n a0 a1:=by kernel_rfl

def q93 (D:DX)(n:Nat) (a0:tq18):Option tq42:=qd (q3p D a0) fun b↦some ((!b.1.1,()),())
def q0z (D:DX)(n:Nat) (a0:tq18):Option tq42:=q93 D n a0
theorem qbnb (D:DX)(n:Nat) (a0:tq18):rF D n 110 (a0,())=q0z D n a0:=by kernel_rfl

def q0f (D:DX)(n:Nat) (go:List tq38→Int→Int→tq18→Option tq42) (K0:Bool→tq18→Option tq42) (K1:tq18→Option tq42) (x0:List tq38) (x1 x2:Int) (x3:tq18):Option tq42:=let y0:=List.getD x0 x2.toNat (0,0,0,());br (decide (x2<x1)) (br (decide (0≤x2)&&decide (x2<(x0.length:Int))) (qd (qrr D y0.1) fun b↦br (!b.1.1) (K0 false x3) (qd (qik D y0.2.1) fun b↦br (!b.1.1) (K0 false x3) (qd (qik D y0.2.2.1) fun b↦br (!b.1.1) (K0 false x3) (br (decide (x2>0)) (br (decide (0≤wrap .i64 (x2 - 1))&&decide (wrap .i64 (x2 - 1)<(x3.2.2.1.length:Int))) (br (decide ((List.getD x3.2.2.1 (Int.toNat (wrap .i64 (x2 - 1))) (0,0,0,())).1≥y0.1)) (K0 false x3) (go x0 x1 (wrap .i64 (x2+1)) x3)) none) (go x0 x1 (wrap .i64 (x2+1)) x3))))) none) (K1 x3)
def qmu (D:DX)(n:Nat) (K0:Bool→tq18→Option tq42) (K1:tq18→Option tq42):Nat→(List tq38)→Int→Int→tq18→Option tq42 | 0=>(fun x0 x1 x2 x3=>none) | m+1=>(fun x0 x1 x2 x3=>q0f D n (qmu D n K0 K1 m) K0 K1 x0 x1 x2 x3)
def q6v (D:DX)(n:Nat) (a:Bool) (b:tq18):Option tq42:=some ((a,()),())
def qvb (D:DX)(n:Nat) (a:tq18):Option tq42:=qd (qbp D a.1 1 1000000) fun b↦br b.1.1 (qd (qbp D a.2.1 1 3) fun b↦some ((bif b.1.1 then decide ((a.2.2.1.length:Int)≤20) else false,()),())) (some ((false,()),()))
def qvy (D:DX)(n:Nat):(List tq38)→(Int)→(Int)→tq18→Option tq42:=(fun x0 x1 x2 x3=>qmu D n (fun a b=>q6v D n a b) (fun c=>qvb D n c) n x0 x1 x2 x3)
def q3c (D:DX)(n:Nat) (lp0:List tq38→Int→Int→tq18→Option tq42) (a0:tq18):Option tq42:=br (decide (a0.1=0)) (some ((bif bif bif decide (a0.2.1=0) then decide ((a0.2.2.1.length:Int)=0) else false then decide (a0.2.2.2.1.1=0) else false then decide ((a0.2.2.2.1.2.1.length:Int)=0) else false,()),())) (lp0 a0.2.2.1 (a0.2.2.1.length:Int) 0 a0)
def q2y (D:DX)(n:Nat) (a0:tq18):Option tq42:=q3c D n (qvy D n) a0
def q0o (x0:List tq38) (x1 x2:Int) (x3:tq18):St:=stq 85 [(1,AV.addr 1 []),(31,AV.val yq19 x0),(32,AV.val yq34 x1),(33,AV.val yq34 x2)] [(1,Root.mk yq9 Mk.no x3 true)]
def q7c (a:Bool) (b:tq18):St:=stq 85 [(1,AV.addr 1 []),(2,AV.val Ty.bool a)] [(1,Root.mk yq9 Mk.no b true)]
def q5v (a:tq18):St:=stq 85 [(1,AV.addr 1 [])] [(1,Root.mk yq9 Mk.no a true)]
theorem qbj6 (D:DX)(n:Nat) (K:KT 111):∀ (m:Nat) (x0:List tq38) (x1 x2:Int) (x3:tq18),LF D n 111 pq0 m (q0o x0 x1 x2 x3) K=qmu D n (fun a b=>K (Ex.ret) (q7c a b)) (fun c=>K (Ex.exit 0) (q5v c)) m x0 x1 x2 x3:=eL4 (fun F=>q0f D n F (fun a b=>K (Ex.ret) (q7c a b)) (fun c=>K (Ex.exit 0) (q5v c))) (fun _ _ _ _ =>q7 ..) (fun _ _ _ _ _ =>by kernel_rfl) (fun _ _ _ _ _ =>rfl)
theorem qbh4 (D:DX)(n:Nat) (x0) (x1) (x2) (x3):LF D n 111 pq0 n (q0o x0 x1 x2 x3) (CF D n 111 [] pq0 (lF 111))=qvy D n x0 x1 x2 x3 :=by rw[qbj6];kernel_rfl
theorem qbqr (D:DX)(n:Nat) (a0:tq18):rF D n 111 (a0,())=q2y D n a0:=by
 have h:rF D n 111 (a0,())=q3c D n (fun x0 x1 x2 x3=>LF D n 111 pq0 n (q0o x0 x1 x2 x3) (CF D n 111 [] pq0 (lF 111))) a0:=by kernel_rfl
 rw[h]
 simp only[qbh4]
 rfl

def qbcm (D:DX)(n:Nat) (a0:tq38) (a1:Int):Option tq42:=br (decide (a0.2.1=0)) (qd (qik D a0.1) fun b↦some ((bif b.1.1 then decide (a0.2.2.1=0) else false,()),())) (br (decide (a0.1=0)) (qd (qbp D a0.2.1 1 a1) fun b↦br b.1.1 (qd (qbp D a0.2.2.1 1 1000000) fun b↦some ((b.1.1,()),())) (some ((false,()),()))) (some ((false,()),())))
def q20 (D:DX)(n:Nat) (a0:tq38) (a1:Int):Option tq42:=qbcm D n a0 a1
theorem qbq1 (D:DX)(n:Nat) (a0:tq38) (a1:Int):rF D n 112 (a0,(a1,()))=q20 D n a0 a1:=by kernel_rfl

def qep (D:DX)(n:Nat) (a1:Clo) (go:List tq38→Int→Int→Option tq43) (K0:Int→Option tq43) (K1:Option tq43) (x0:List tq38) (x1 x2:Int):Option tq43:=br (decide (x2<x1)) (br (decide (0≤x2)&&decide (x2<(x0.length:Int))) (qd (qbk ctx D a1 [CapV.val yq21 (List.getD x0 x2.toNat (0,0,0,()))] Ty.bool) fun b↦br b (K0 x2) (go x0 x1 (wrap .i64 (x2+1)))) none) K1
def qbz (D:DX)(n:Nat) (a1:Clo) (K0:Int→Option tq43) (K1:Option tq43):Nat→(List tq38)→Int→Int→Option tq43 | 0=>(fun x0 x1 x2=>none) | m+1=>(fun x0 x1 x2=>qep D n a1 (qbz D n a1 K0 K1 m) K0 K1 x0 x1 x2)
def qdv (D:DX)(n:Nat) (a1:Clo) (a:Int):Option tq43:=some ((a,()),())
def qdu (D:DX)(n:Nat) (a1:Clo):Option tq43:=some ((-1,()),())
def qef (D:DX)(n:Nat) (a1:Clo):(List tq38)→(Int)→(Int)→Option tq43:=(fun x0 x1 x2=>qbz D n a1 (fun a=>qdv D n a1 a) (qdu D n a1) n x0 x1 x2)
def qe1 (D:DX)(n:Nat) (a1:Clo) (lp0:List tq38→Int→Int→Option tq43) (a0:List tq38):Option tq43:=lp0 a0 (a0.length:Int) 0
def qe0 (D:DX)(n:Nat) (a0:List tq38) (a1:Clo):Option tq43:=qe1 D n a1 (qef D n a1) a0
def qem (a1:Clo) (x0:List tq38) (x1 x2:Int):St:=stq 19 [(0,AV.val yq19 x0),(1,AV.cloV a1),(7,AV.val yq34 x1),(8,AV.val yq34 x2)] []
def qhb (a1:Clo) (a:Int):St:=stq 19 [(4,AV.val yq34 a)] []
def qg8 (a1:Clo):St:=stq 19 [] []
theorem qnu (D:DX)(n:Nat) (a1:Clo) (K:KT 113):∀ (m:Nat) (x0:List tq38) (x1 x2:Int),LF D n 113 pq2 m (qem a1 x0 x1 x2) K=qbz D n a1 (fun a=>K (Ex.ret) (qhb a1 a)) (K (Ex.exit 0) (qg8 a1)) m x0 x1 x2:=eL3 (fun F=>qep D n a1 F (fun a=>K (Ex.ret) (qhb a1 a)) (K (Ex.exit 0) (qg8 a1))) (fun _ _ _ =>q7 ..) (fun _ _ _ _ =>by kernel_rfl) (fun _ _ _ _ =>rfl)
theorem qnf (D:DX)(n:Nat) (a1:Clo) (x0) (x1) (x2):LF D n 113 pq2 n (qem a1 x0 x1 x2) (CF D n 113 [] pq2 (lF 113))=qef D n a1 x0 x1 x2 :=by rw[qnu];kernel_rfl
theorem qpt (D:DX)(n:Nat) (a0:List tq38) (a1:Clo):rF D n 113 (a0,(a1,()))=qe0 D n a0 a1:=by
 have h:rF D n 113 (a0,(a1,()))=qe1 D n a1 (fun x0 x1 x2=>LF D n 113 pq2 n (qem a1 x0 x1 x2) (CF D n 113 [] pq2 (lF 113))) a0:=by kernel_rfl
 rw[h]
 simp only[qnf]
 rfl

def qp4 (D:DX)(n:Nat) (a0:List Int) (a1:Int):Option tq42:=qd (qiv D a0 a1) fun b↦some ((decide (b.1.1≥0),()),())
def qjz (D:DX)(n:Nat) (a0:List Int) (a1:Int):Option tq42:=qp4 D n a0 a1
theorem q47 (D:DX)(n:Nat) (a0:List Int) (a1:Int):rF D n 114 (a0,(a1,()))=qjz D n a0 a1:=by kernel_rfl

def q9s (D:DX)(n:Nat) (a0:Int):Option tq43:=qd (qrs D a0) fun b↦qd (qlb D b.1.1 (wrap .i64 (10+a0))) fun b↦some ((b.1.1,()),())
def qz8 (D:DX)(n:Nat) (a0:Int):Option tq43:=q9s D n a0
theorem qbo3 (D:DX)(n:Nat) (a0:Int):rF D n 115 (a0,())=qz8 D n a0:=by kernel_rfl

def qc8 (D:DX)(n:Nat) (a0:tq40) (a1:tq38) (a2:Int):Option tq42:=let y0:Option tq42:=qd (qo1 D a0) fun b↦some ((b.1.1,()),());qd (qwg D a0 a1.2.2.1) fun b↦br (decide (a2=1)) (br (decide (a1.1=1)) (br (decide (0≤a1.2.1)&&decide (a1.2.1<(a0.1.length:Int))) (some ((List.getD a0.1 a1.2.1.toNat 0 != 0,()),())) none) (some ((false,()),()))) (br (decide (a2=2)) (some ((bif bif decide (a1.1=1) then true else decide (a1.1=2) then decide (b.1.1≥0) else false,()),())) (br (bif decide (a2=3) then bif bif decide (a1.1=2) then true else decide (a1.1=3) then true else decide (a1.1=4) else false) (br (decide (0≤a1.2.1)&&decide (a1.2.1<(a0.1.length:Int))) (some ((decide (List.getD a0.1 a1.2.1.toNat 0=0),()),())) none) (br (decide (a2=3)) (br (decide (b.1.1<0)) (br (decide (a1.1=5)) (some ((true,()),())) (br (decide (a1.1=10)) y0 (some ((false,()),())))) (some ((false,()),()))) (br (bif decide (a2=4) then decide (a1.1=8) else false) (some ((a0.2.1 != 0,()),())) (br (bif decide (a2=4) then decide (a1.1=9) else false) (br (decide (a0.2.1=0)) (some ((true,()),())) y0) (br (bif decide (a2=4) then decide (a1.1=10) else false) (qd (qo1 D a0) fun b↦some ((!b.1.1,()),())) (some ((false,()),()))))))))
def qc3 (D:DX)(n:Nat) (a0:tq40) (a1:tq38) (a2:Int):Option tq42:=qc8 D n a0 a1 a2
theorem qbmq (D:DX)(n:Nat) (a0:tq40) (a1:tq38) (a2:Int):rF D n 116 (a0,(a1,(a2,())))=qc3 D n a0 a1 a2:=by kernel_rfl

def qc9 (D:DX)(n:Nat) (a0:tq40) (a1:tq38):Option ((List Int×tq45)×Unit):=qd (qwg D a0 a1.2.2.1) fun b↦br (decide (a1.1=1)) (br (decide (0≤a1.2.1)&&decide (a1.2.1<(a0.1.length:Int))) (some (([],bif decide (List.getD a0.1 a1.2.1.toNat 0=0) then decide (b.1.1<0) else false,()),())) none) (br (decide (a1.1=2)) (br (decide (0≤a1.2.1)&&decide (a1.2.1<(a0.1.length:Int))) (some (([],bif List.getD a0.1 a1.2.1.toNat 0 != 0 then bif decide (b.1.1<0) then true else decide (b.1.1=a1.2.1) else false,()),())) none) (br (decide (a1.1=3)) (br (decide (0≤a1.2.1)&&decide (a1.2.1<(a0.1.length:Int))) (some (([],List.getD a0.1 a1.2.1.toNat 0 != 0,()),())) none) (br (decide (a1.1=4)) (br (decide (0≤a1.2.1)&&decide (a1.2.1<(a0.1.length:Int))) (br (decide (0≤a1.2.1)&&decide (a1.2.1<(a0.1.length:Int))) (some (([List.getD a0.1 a1.2.1.toNat 0],List.getD a0.1 a1.2.1.toNat 0 != 0,()),())) none) none) (br (decide (a1.1=5)) (some (([b.1.1],decide (b.1.1≥0),()),())) (br (decide (a1.1=6)) (qd (qr0 D a0 a1.2.1) fun b↦some (([b.1.1],true,()),())) (br (decide (a1.1=7)) (some ((a0.1,true,()),())) (br (decide (a1.1=8)) (some (([],decide (a0.2.1=0),()),())) (br (decide (a1.1=9)) (br (a0.2.1 != 0) (qd (qo1 D a0) fun b↦some (([],!b.1.1,()),())) (some (([],false,()),()))) (br (decide (b.1.1≥0)) (qd (qo1 D a0) fun b_1↦some (([b.1.1],b_1.1.1,()),())) (some (([b.1.1],false,()),())))))))))))
def qc4 (D:DX)(n:Nat) (a0:tq40) (a1:tq38):Option ((List Int×tq45)×Unit):=qc9 D n a0 a1
theorem qbn2 (D:DX)(n:Nat) (a0:tq40) (a1:tq38):rF D n 117 (a0,(a1,()))=qc4 D n a0 a1:=by kernel_rfl

def qbez (D:DX)(n:Nat) (a0:Int):Option tq42:=qd (qbp D a0 0 3) fun b↦some ((b.1.1,()),())
def q5t (D:DX)(n:Nat) (a0:Int):Option tq42:=qbez D n a0
theorem qbsk (D:DX)(n:Nat) (a0:Int):rF D n 118 (a0,())=q5t D n a0:=by kernel_rfl

def qbaw (D:DX)(n:Nat) (a0:Int):Option tq42:=qd (qbp D a0 0 2) fun b↦some ((b.1.1,()),())
def qze (D:DX)(n:Nat) (a0:Int):Option tq42:=qbaw D n a0
theorem qbn7 (D:DX)(n:Nat) (a0:Int):rF D n 119 (a0,())=qze D n a0:=by kernel_rfl

def qio (D:DX)(n:Nat) (a1:Clo) (a0:List tq38):Option tq42:=qd (qjy D a0 a1) fun b↦some ((decide (b.1.1≥0),()),())
def qfd (D:DX)(n:Nat) (a0:List tq38) (a1:Clo):Option tq42:=qio D n a1 a0
theorem qqb (D:DX)(n:Nat) (a0:List tq38) (a1:Clo):rF D n 120 (a0,(a1,()))=qfd D n a0 a1:=by kernel_rfl

def q4f (D:DX)(n:Nat) (a0:tq38):Option tq42:=qd (qj3 D a0) fun b↦some ((!b.1.1,()),())
def qsc (D:DX)(n:Nat) (a0:tq38):Option tq42:=q4f D n a0
theorem qbf5 (D:DX)(n:Nat) (a0:tq38):rF D n 121 (a0,())=qsc D n a0:=by kernel_rfl

def qhd (D:DX)(n:Nat) (a1:Clo) (a0:List tq44):Option tq42:=qd (qh5 D a0 a1) fun b↦some ((decide (b.1.1≥0),()),())
def qd6 (D:DX)(n:Nat) (a0:List tq44) (a1:Clo):Option tq42:=qhd D n a1 a0
theorem qnd (D:DX)(n:Nat) (a0:List tq44) (a1:Clo):rF D n 122 (a0,(a1,()))=qd6 D n a0 a1:=by kernel_rfl

def q3z (D:DX)(n:Nat) (a0:tq44):Option tq42:=qd (qrr D a0.1) fun b↦br (!b.1.1) (some ((true,()),())) (qd (qik D a0.2.1) fun b↦some ((!b.1.1,()),()))
def qst (D:DX)(n:Nat) (a0:tq44):Option tq42:=q3z D n a0
theorem qbgi (D:DX)(n:Nat) (a0:tq44):rF D n 123 (a0,())=qst D n a0:=by kernel_rfl

def qbav (D:DX)(n:Nat) (a0:Int):Option tq42:=qd (qbp D a0 0 19) fun b↦some ((b.1.1,()),())
def qyp (D:DX)(n:Nat) (a0:Int):Option tq42:=qbav D n a0
theorem qbmy (D:DX)(n:Nat) (a0:Int):rF D n 124 (a0,())=qyp D n a0:=by kernel_rfl

def q67 (D:DX)(n:Nat) (a0:Int):Option tq42:=qd (qbp D a0 0 1000) fun b↦some ((b.1.1,()),())
def quj (D:DX)(n:Nat) (a0:Int):Option tq42:=q67 D n a0
theorem qbh9 (D:DX)(n:Nat) (a0:Int):rF D n 125 (a0,())=quj D n a0:=by kernel_rfl

def qg6 (D:DX)(n:Nat) (a1:Clo) (a0:List tq34):Option tq42:=qd (qh6 D a0 a1) fun b↦some ((decide (b.1.1≥0),()),())
def qd5 (D:DX)(n:Nat) (a0:List tq34) (a1:Clo):Option tq42:=qg6 D n a1 a0
theorem qng (D:DX)(n:Nat) (a0:List tq34) (a1:Clo):rF D n 126 (a0,(a1,()))=qd5 D n a0 a1:=by kernel_rfl

def q37 (D:DX)(n:Nat) (a0:tq34) (a1:Int):Option tq42:=qd (qbp D a0.1 0 (wrap .i64 (a1 - 1))) fun b↦br (!b.1.1) (some ((true,()),())) (qd (qbp D a0.2.1 1 1000000) fun b↦br (!b.1.1) (some ((true,()),())) (qd (qbp D a0.2.2.1 0 20) fun b↦br (!b.1.1) (some ((true,()),())) (qd (qbp D a0.2.2.2.1 0 20) fun b↦some ((!b.1.1,()),()))))
def qsz (D:DX)(n:Nat) (a0:tq34) (a1:Int):Option tq42:=q37 D n a0 a1
theorem qbg4 (D:DX)(n:Nat) (a0:tq34) (a1:Int):rF D n 127 (a0,(a1,()))=qsz D n a0 a1:=by kernel_rfl



def qbep (D:DX)(n:Nat) (a0:Int):Option tq42:=qd (qbo D a0 1 4) fun b↦some ((b.1.1,()),())
def q5y (D:DX)(n:Nat) (a0:Int):Option tq42:=qbep D n a0
theorem qbtr (D:DX)(n:Nat) (a0:Int):rF D n 132 (a0,())=q5y D n a0:=by kernel_rfl

def qbtj (D:DX)(n:Nat) (a0:Int):Option tq42:=some ((bif bif bif decide (a0=1) then true else decide (a0=2) then true else decide (a0=5) then true else decide (a0=10),()),())
def qbdg (D:DX)(n:Nat) (a0:Int):Option tq42:=qbtj D n a0
theorem qbuy (D:DX)(n:Nat) (a0:Int):rF D n 133 (a0,())=qbdg D n a0:=by kernel_rfl

def qbd4 (D:DX)(n:Nat) (a0:Int):Option tq43:=qd (qv2 D a0) fun b↦br (!b.1.1) (some ((-1,()),())) (some ((a0,()),()))
def q66 (D:DX)(n:Nat) (a0:Int):Option tq43:=qbd4 D n a0
theorem qbsy (D:DX)(n:Nat) (a0:Int):rF D n 134 (a0,())=q66 D n a0:=by kernel_rfl

def qbba (D:DX)(n:Nat) (a0:Int):Option tq43:=qd (qjf D a0) fun b↦br (!b.1.1) (some ((-1,()),())) (some ((wrap .i64 (3+a0),()),()))
def q0y (D:DX)(n:Nat) (a0:Int):Option tq43:=qbba D n a0
theorem qbov (D:DX)(n:Nat) (a0:Int):rF D n 135 (a0,())=q0y D n a0:=by kernel_rfl

def qbek (D:DX)(n:Nat) (a0:Int):Option tq43:=qd (qjf D a0) fun b↦br (!b.1.1) (some ((-1,()),())) (qd (qr4 D) fun b↦some ((wrap .i64 (b.1.1+a0),()),()))
def q6p (D:DX)(n:Nat) (a0:Int):Option tq43:=qbek D n a0
theorem qbus (D:DX)(n:Nat) (a0:Int):rF D n 136 (a0,())=q6p D n a0:=by kernel_rfl

def qwt (D:DX)(n:Nat) (go:Int→Int→Int→tq40→Option tq43) (K0:Int→Option tq43) (x0 x1 x2:Int) (x3:tq40):Option tq43:=br (decide (x2<(x3.1.length:Int))) (br (decide (0≤x2)&&decide (x2<(x3.1.length:Int))) (qd (qjf D (List.getD x3.1 x2.toNat 0)) fun b↦br b.1.1 (br (decide (0≤x2)&&decide (x2<(x3.1.length:Int))) (qd (q0e D (List.getD x3.1 x2.toNat 0)) fun b↦qd (qqu D (decide (b.1.1=x0))) fun b↦go x0 (wrap .i64 (x1+b.1.1)) (wrap .i64 (x2+1)) x3) none) (qd (qqu D false) fun b↦go x0 (wrap .i64 (x1+b.1.1)) (wrap .i64 (x2+1)) x3)) none) (K0 x1)
def qlg (D:DX)(n:Nat) (K0:Int→Option tq43):Nat→Int→Int→Int→tq40→Option tq43 | 0=>(fun x0 x1 x2 x3=>none) | m+1=>(fun x0 x1 x2 x3=>qwt D n (qlg D n K0 m) K0 x0 x1 x2 x3)
def q4b (D:DX)(n:Nat) (a:Int):Option tq43:=some ((a,()),())
def qup (D:DX)(n:Nat):(Int)→(Int)→(Int)→tq40→Option tq43:=(fun x0 x1 x2 x3=>qlg D n (fun a=>q4b D n a) n x0 x1 x2 x3)
def q0a (D:DX)(n:Nat) (lp0:Int→Int→Int→tq40→Option tq43) (a0:tq40) (a1:Int):Option tq43:=lp0 a1 0 0 a0
def qzg (D:DX)(n:Nat) (a0:tq40) (a1:Int):Option tq43:=q0a D n (qup D n) a0 a1
def qvz (x0 x1 x2:Int) (x3:tq40):St:=stq 34 [(1,AV.val yq34 x0),(2,AV.addr 2 []),(5,AV.val yq34 x1),(6,AV.val yq34 x2)] [(2,Root.mk yq25 Mk.no x3 true)]
def q4o (a:Int):St:=stq 34 [(5,AV.val yq34 a)] []
theorem qbiz (D:DX)(n:Nat) (K:KT 137):∀ (m:Nat) (x0 x1 x2:Int) (x3:tq40),LF D n 137 pq0 m (qvz x0 x1 x2 x3) K=qlg D n (fun a=>K (Ex.exit 0) (q4o a)) m x0 x1 x2 x3:=eL4 (fun F=>qwt D n F (fun a=>K (Ex.exit 0) (q4o a))) (fun _ _ _ _ =>q7 ..) (fun _ _ _ _ _ =>by kernel_rfl) (fun _ _ _ _ _ =>rfl)
theorem qbgf (D:DX)(n:Nat) (x0) (x1) (x2) (x3):LF D n 137 pq0 n (qvz x0 x1 x2 x3) (CF D n 137 [] pq0 (lF 137))=qup D n x0 x1 x2 x3 :=by rw[qbiz];kernel_rfl
theorem qbn1 (D:DX)(n:Nat) (a0:tq40) (a1:Int):rF D n 137 (a0,(a1,()))=qzg D n a0 a1:=by
 have h:rF D n 137 (a0,(a1,()))=q0a D n (fun x0 x1 x2 x3=>LF D n 137 pq0 n (qvz x0 x1 x2 x3) (CF D n 137 [] pq0 (lF 137))) a0 a1:=by kernel_rfl
 rw[h]
 simp only[qbgf]
 rfl

def qbau (D:DX)(n:Nat) (a0:Int):Option tq43:=qd (qbo D a0 0 2) fun b↦br (!b.1.1) (some ((-1,()),())) (some ((wrap .i64 (10+a0),()),()))
def qzc (D:DX)(n:Nat) (a0:Int):Option tq43:=qbau D n a0
theorem qbnh (D:DX)(n:Nat) (a0:Int):rF D n 138 (a0,())=qzc D n a0:=by kernel_rfl

def qbm6 (D:DX)(n:Nat):Option tq43:=some ((13,()),())
def qbal (D:DX)(n:Nat):Option tq43:=qbm6 D n
theorem qbo1 (D:DX)(n:Nat):rF D n 139 ()=qbal D n:=by kernel_rfl

def qbas (D:DX)(n:Nat) (go:Int→tq18→Option tq42) (K0:Bool→Option tq42) (K1:Option tq42) (x0:Int) (x1:tq18):Option tq42:=let y0:=List.getD x1.2.2.1 x0.toNat (0,0,0,());br (decide (x0<(x1.2.2.1.length:Int))) (br (decide (0≤x0)&&decide (x0<(x1.2.2.1.length:Int))) (qd (qbo D y0.1 0 19) fun b↦br (!b.1.1) (K0 false) (qd (qbo D y0.2.1 0 1000) fun b↦br (!b.1.1) (K0 false) (qd (qbo D y0.2.2.1 0 1000) fun b↦br (!b.1.1) (K0 false) (br (decide (x0>0)) (br (decide (0≤wrap .i64 (x0 - 1))&&decide (wrap .i64 (x0 - 1)<(x1.2.2.1.length:Int))) (br (decide ((List.getD x1.2.2.1 (Int.toNat (wrap .i64 (x0 - 1))) (0,0,0,())).1≥y0.1)) (K0 false) (go (wrap .i64 (x0+1)) x1)) none) (go (wrap .i64 (x0+1)) x1))))) none) K1
def qzf (D:DX)(n:Nat) (K0:Bool→Option tq42) (K1:Option tq42):Nat→Int→tq18→Option tq42 | 0=>(fun x0 x1=>none) | m+1=>(fun x0 x1=>qbas D n (qzf D n K0 K1 m) K0 K1 x0 x1)
def qbis (D:DX)(n:Nat) (a:Bool):Option tq42:=some ((a,()),())
def qbie (D:DX)(n:Nat):Option tq42:=some ((true,()),())
def q8w (D:DX)(n:Nat):(Int)→tq18→Option tq42:=(fun x0 x1=>qzf D n (fun a=>qbis D n a) (qbie D n) n x0 x1)
def q2n (D:DX)(n:Nat) (lp0:Int→tq18→Option tq42) (a0:tq18):Option tq42:=br (decide (a0.1=0)) (some ((bif bif bif decide (a0.2.1=0) then decide ((a0.2.2.1.length:Int)=0) else false then decide (a0.2.2.2.1.1=0) else false then decide ((a0.2.2.2.1.2.1.length:Int)=0) else false,()),())) (qd (qbo D a0.1 1 1000000) fun b↦br (!b.1.1) (some ((false,()),())) (qd (qbo D a0.2.1 1 3) fun b↦br (bif !b.1.1 then true else decide ((a0.2.2.1.length:Int)>20)) (some ((false,()),())) (lp0 0 a0)))
def q2h (D:DX)(n:Nat) (a0:tq18):Option tq42:=q2n D n (q8w D n) a0
def q0n (x0:Int) (x1:tq18):St:=stq 90 [(1,AV.addr 1 []),(3,AV.val yq34 x0)] [(1,Root.mk yq9 Mk.no x1 true)]
def q69 (a:Bool):St:=stq 90 [(2,AV.val Ty.bool a)] []
def q6r:St:=stq 90 [] []
theorem qbki (D:DX)(n:Nat) (K:KT 140):∀ (m:Nat) (x0:Int) (x1:tq18),LF D n 140 pq1 m (q0n x0 x1) K=qzf D n (fun a=>K (Ex.ret) (q69 a)) (K (Ex.exit 0) (q6r)) m x0 x1:=eL2 (fun F=>qbas D n F (fun a=>K (Ex.ret) (q69 a)) (K (Ex.exit 0) (q6r))) (fun _ _ =>q7 ..) (fun _ _ _ =>by kernel_rfl) (fun _ _ _ =>rfl)
theorem qbjy (D:DX)(n:Nat) (x0) (x1):LF D n 140 pq1 n (q0n x0 x1) (CF D n 140 [] pq1 (lF 140))=q8w D n x0 x1 :=by rw[qbki];kernel_rfl
theorem qbrq (D:DX)(n:Nat) (a0:tq18):rF D n 140 (a0,())=q2h D n a0:=by
 have h:rF D n 140 (a0,())=q2n D n (fun x0 x1=>LF D n 140 pq1 n (q0n x0 x1) (CF D n 140 [] pq1 (lF 140))) a0:=by kernel_rfl
 rw[h]
 simp only[qbjy]
 rfl

def qbck (D:DX)(n:Nat) (a0:tq38) (a1:Int):Option tq42:=br (decide (a0.2.1=0)) (br (decide (a0.2.2.1=0)) (qd (qbo D a0.1 0 1000) fun b↦some ((b.1.1,()),())) (some ((false,()),()))) (br (decide (a0.1=0)) (qd (qbo D a0.2.1 1 a1) fun b↦br b.1.1 (qd (qbo D a0.2.2.1 1 1000000) fun b↦some ((b.1.1,()),())) (some ((false,()),()))) (some ((false,()),())))
def q2b (D:DX)(n:Nat) (a0:tq38) (a1:Int):Option tq42:=qbck D n a0 a1
theorem qbrc (D:DX)(n:Nat) (a0:tq38) (a1:Int):rF D n 141 (a0,(a1,()))=q2b D n a0 a1:=by kernel_rfl


def qbdt (D:DX)(n:Nat) (a0:Int):Option tq42:=qd (qbo D a0 1 6) fun b↦some ((b.1.1,()),())
def q7r (D:DX)(n:Nat) (a0:Int):Option tq42:=qbdt D n a0
theorem qbr8 (D:DX)(n:Nat) (a0:Int):rF D n 143 (a0,())=q7r D n a0:=by kernel_rfl


def qbts (D:DX)(n:Nat) (a0:Bool):Option tq43:=br a0 (some ((1,()),())) (some ((0,()),()))
def qbem (D:DX)(n:Nat) (a0:Bool):Option tq43:=qbts D n a0
theorem qbu3 (D:DX)(n:Nat) (a0:Bool):rF D n 145 (a0,())=qbem D n a0:=by kernel_rfl

def qbhp (D:DX)(n:Nat) (a0:tq38):Option tq42:=let y1:Option tq42:=qd (qjf D a0.2.2.1) fun b↦some ((b.1.1,()),());let y0:Option tq42:=qd (qbo D a0.2.1 0 2) fun b↦qd (qhm D a0.1) fun b_1↦br b_1.1.1 (br b.1.1 y1 (some ((false,()),()))) (some ((bif b.1.1 then decide (a0.2.2.1=0) else false,()),()));qd (qbo D a0.1 1 10) fun b↦br (!b.1.1) (some ((false,()),())) (qd (qx0 D a0.1) fun b↦br b.1.1 (qd (qv2 D a0.2.1) fun b↦br (decide (a0.1=6)) y0 (qd (qhm D a0.1) fun b_1↦br b_1.1.1 (br b.1.1 y1 (some ((false,()),()))) (some ((bif b.1.1 then decide (a0.2.2.1=0) else false,()),())))) (br (decide (a0.1=6)) y0 (qd (qhm D a0.1) fun b↦br b.1.1 (br (decide (a0.2.1=0)) y1 (some ((false,()),()))) (some ((bif decide (a0.2.1=0) then decide (a0.2.2.1=0) else false,()),())))))
def q84 (D:DX)(n:Nat) (a0:tq38):Option tq42:=qbhp D n a0
theorem qbvq (D:DX)(n:Nat) (a0:tq38):rF D n 146 (a0,())=q84 D n a0:=by kernel_rfl

def q04 (D:DX)(n:Nat) (go:Int→Int→tq5→Option tq43) (K0:Int→Option tq43) (K1:Option tq43) (x0 x1:Int) (x2:tq5):Option tq43:=br (decide (x1≥0)) (br (decide (0≤x1)&&decide (x1<(x2.2.2.2.1.length:Int))) (br (decide ((List.getD x2.2.2.2.1 x1.toNat (0,(0,0,0,()),0,0,0,(0,[],()),())).1=x0)) (K0 x1) (go x0 (wrap .i64 (x1 - 1)) x2)) none) K1
def qr2 (D:DX)(n:Nat) (K0:Int→Option tq43) (K1:Option tq43):Nat→Int→Int→tq5→Option tq43 | 0=>(fun x0 x1 x2=>none) | m+1=>(fun x0 x1 x2=>q04 D n (qr2 D n K0 K1 m) K0 K1 x0 x1 x2)
def qbjo (D:DX)(n:Nat) (a:Int):Option tq43:=some ((a,()),())
def qbjl (D:DX)(n:Nat):Option tq43:=some ((-1,()),())
def qxc (D:DX)(n:Nat):(Int)→(Int)→tq5→Option tq43:=(fun x0 x1 x2=>qr2 D n (fun a=>qbjo D n a) (qbjl D n) n x0 x1 x2)
def q3j (D:DX)(n:Nat) (lp0:Int→Int→tq5→Option tq43) (a0:tq5) (a1:Int):Option tq43:=lp0 a1 (wrap .i64 ((a0.2.2.2.1.length:Int) - 1)) a0
def q2p (D:DX)(n:Nat) (a0:tq5) (a1:Int):Option tq43:=q3j D n (qxc D n) a0 a1
def qyq (x0 x1:Int) (x2:tq5):St:=stq 23 [(1,AV.val yq34 x0),(2,AV.addr 2 []),(5,AV.val yq34 x1)] [(2,Root.mk yq0 Mk.no x2 true)]
def q6o (a:Int):St:=stq 23 [(4,AV.val yq34 a)] []
def q50:St:=stq 23 [] []
theorem qbl5 (D:DX)(n:Nat) (K:KT 147):∀ (m:Nat) (x0 x1:Int) (x2:tq5),LF D n 147 pq2 m (qyq x0 x1 x2) K=qr2 D n (fun a=>K (Ex.ret) (q6o a)) (K (Ex.exit 0) (q50)) m x0 x1 x2:=eL3 (fun F=>q04 D n F (fun a=>K (Ex.ret) (q6o a)) (K (Ex.exit 0) (q50))) (fun _ _ _ =>q7 ..) (fun _ _ _ _ =>by kernel_rfl) (fun _ _ _ _ =>rfl)
theorem qbij (D:DX)(n:Nat) (x0) (x1) (x2):LF D n 147 pq2 n (qyq x0 x1 x2) (CF D n 147 [] pq2 (lF 147))=qxc D n x0 x1 x2 :=by rw[qbl5];kernel_rfl
theorem qbrj (D:DX)(n:Nat) (a0:tq5) (a1:Int):rF D n 147 (a0,(a1,()))=q2p D n a0 a1:=by
 have h:rF D n 147 (a0,(a1,()))=q3j D n (fun x0 x1 x2=>LF D n 147 pq2 n (qyq x0 x1 x2) (CF D n 147 [] pq2 (lF 147))) a0 a1:=by kernel_rfl
 rw[h]
 simp only[qbij]
 rfl

def qjt (D:DX)(n:Nat) (a0:List tq38):Option tq29:=br (decide (Int.toNat (a0.length:Int)=0)) (both (some (([],()),())) (br (decide (0+a0.length≤qb7)) (some (([]++a0,()),())) none)) (br (decide (0+a0.length≤qb7)) (some (([]++a0,()),())) none)
def qf3 (D:DX)(n:Nat) (a0:List tq38):Option tq29:=qjt D n a0
theorem qsl (D:DX)(n:Nat) (a0:List tq38):rF D n 148 (a0,())=qf3 D n a0:=by kernel_rfl

def qi0 (D:DX)(n:Nat) (a0:List tq38):Option tq29:=br (decide (Int.toNat (a0.length:Int)=0)) (both (some (([],()),())) (br (decide (0+a0.length≤qb7)) (some (([]++a0,()),())) none)) (br (decide (0+a0.length≤qb7)) (some (([]++a0,()),())) none)
def qfn (D:DX)(n:Nat) (a0:List tq38):Option tq29:=qi0 D n a0
theorem qqq (D:DX)(n:Nat) (a0:List tq38):rF D n 149 (a0,())=qfn D n a0:=by kernel_rfl

def qjv (D:DX)(n:Nat) (a0:List tq44):Option ((List tq44×Unit)×Unit):=br (decide (Int.toNat (a0.length:Int)=0)) (both (some (([],()),())) (br (decide (0+a0.length≤qb7)) (some (([]++a0,()),())) none)) (br (decide (0+a0.length≤qb7)) (some (([]++a0,()),())) none)
def qga (D:DX)(n:Nat) (a0:List tq44):Option ((List tq44×Unit)×Unit):=qjv D n a0
theorem qso (D:DX)(n:Nat) (a0:List tq44):rF D n 150 (a0,())=qga D n a0:=by kernel_rfl

def qju (D:DX)(n:Nat) (a0:List tq34):Option ((List tq34×Unit)×Unit):=br (decide (Int.toNat (a0.length:Int)=0)) (both (some (([],()),())) (br (decide (0+a0.length≤qb7)) (some (([]++a0,()),())) none)) (br (decide (0+a0.length≤qb7)) (some (([]++a0,()),())) none)
def qf2 (D:DX)(n:Nat) (a0:List tq34):Option ((List tq34×Unit)×Unit):=qju D n a0
theorem qsm (D:DX)(n:Nat) (a0:List tq34):rF D n 151 (a0,())=qf2 D n a0:=by kernel_rfl

def qbks (D:DX)(n:Nat) (a0:tq13):Option ((tq34×tq45)×Unit):=br (decide ((a0.2.2.2.2.1.length:Int)=0)) (some (((0,0,0,0,()),false,()),())) (br (decide (0≤wrap .i64 ((a0.2.2.2.2.1.length:Int) - 1))&&decide (wrap .i64 ((a0.2.2.2.2.1.length:Int) - 1)<(a0.2.2.2.2.1.length:Int))) (some ((List.getD a0.2.2.2.2.1 (Int.toNat (wrap .i64 ((a0.2.2.2.2.1.length:Int) - 1))) (0,0,0,0,()),true,()),())) none)
def qbbo (D:DX)(n:Nat) (a0:tq13):Option ((tq34×tq45)×Unit):=qbks D n a0
theorem qbx6 (D:DX)(n:Nat) (a0:tq13):rF D n 152 (a0,())=qbbo D n a0:=by kernel_rfl

def qbcn (D:DX)(n:Nat) (a0:tq12) (a1:tq34):Option tq6:=let y0:=Int.toNat (if 0>a1.2.2.2.1 then 0 else a1.2.2.2.1);qd (qke D a0) fun b↦qd (qki D (b.1.1.1,b.1.1.2.1,())) fun b_1↦br (!b_1.1.1) (some (((b.1.1.1,b.1.1.2.1,()),a1,(0,0,0,0,()),2,()),())) (qd (qbp D a1.1 0 (wrap .i64 ((b.1.1.2.1.length:Int) - 1))) fun b_2↦br (bif !b_2.1.1 then true else decide (a1.2.1<1)) (some (((b.1.1.1,b.1.1.2.1,()),a1,(0,0,0,0,()),2,()),())) (br (decide (0≤a1.1)&&decide (a1.1<(b.1.1.2.1.length:Int))) (br ((List.getD b.1.1.2.1 a1.1.toNat (0,0,[],(0,[],()),())).1 != a1.2.1) (some (((b.1.1.1,b.1.1.2.1,()),a1,(0,0,0,0,()),2,()),())) (br (decide (0≤a1.1)&&decide (a1.1<(b.1.1.2.1.length:Int))) (br (bif (List.getD b.1.1.2.1 a1.1.toNat (0,0,[],(0,[],()),())).2.1 != 0 then bif decide ((List.getD b.1.1.2.1 a1.1.toNat (0,0,[],(0,[],()),())).2.1=1) then true else decide (a1.2.2.2.1<((List.getD b.1.1.2.1 a1.1.toNat (0,0,[],(0,[],()),())).2.2.1.length:Int)) else false) (br (decide ((List.getD b.1.1.2.1 a1.1.toNat (0,0,[],(0,[],()),())).2.1=1)) (qd (q4z D (b.1.1.1,b.1.1.2.1,()) (a1.1,a1.2.1,if 0>a1.2.2.1 then 0 else a1.2.2.1,if 0>a1.2.2.2.1 then 0 else a1.2.2.2.1,a1.2.2.2.2)) fun b↦some (((b.2.1.1,b.2.1.2.1,()),b.1.1,b.1.2.1,b.1.2.2.1,()),())) (br (bif decide ((List.getD b.1.1.2.1 a1.1.toNat (0,0,[],(0,[],()),())).2.1=0) then true else decide ((if 0>a1.2.2.2.1 then 0 else a1.2.2.2.1)≥((List.getD b.1.1.2.1 a1.1.toNat (0,0,[],(0,[],()),())).2.2.1.length:Int))) (some (((b.1.1.1,b.1.1.2.1,()),(a1.1,a1.2.1,if 0>a1.2.2.1 then 0 else a1.2.2.1,if 0>a1.2.2.2.1 then 0 else a1.2.2.2.1,a1.2.2.2.2),(0,0,0,0,()),2,()),())) (br (decide (0≤if 0>a1.2.2.2.1 then 0 else a1.2.2.2.1)&&decide ((if 0>a1.2.2.2.1 then 0 else a1.2.2.2.1)<((List.getD b.1.1.2.1 a1.1.toNat (0,0,[],(0,[],()),())).2.2.1.length:Int))) (br (decide (0≤(List.getD (List.getD b.1.1.2.1 a1.1.toNat (0,0,[],(0,[],()),())).2.2.1 y0 (0,0,0,())).1)&&decide ((List.getD (List.getD b.1.1.2.1 a1.1.toNat (0,0,[],(0,[],()),())).2.2.1 y0 (0,0,0,())).1<(b.1.1.1.length:Int))) (br (qkv yq21 (List.getD b.1.1.1 (Int.toNat (List.getD (List.getD b.1.1.2.1 a1.1.toNat (0,0,[],(0,[],()),())).2.2.1 y0 (0,0,0,())).1) (0,0,0,())) (0,wrap .i64 (a1.1+1),a1.2.1,())) (br (decide ((List.getD b.1.1.2.1 a1.1.toNat (0,0,[],(0,[],()),())).2.1=2)) (some (((List.set (List.set b.1.1.1 (Int.toNat (List.getD (List.getD b.1.1.2.1 a1.1.toNat (0,0,[],(0,[],()),())).2.2.1 y0 (0,0,0,())).1) ((List.getD (List.getD b.1.1.2.1 a1.1.toNat (0,0,[],(0,[],()),())).2.2.1 y0 (0,0,0,())).2.1,0,0,())) (Int.toNat (List.getD (List.getD b.1.1.2.1 a1.1.toNat (0,0,[],(0,[],()),())).2.2.1 y0 (0,0,0,())).1) ((List.getD (List.getD b.1.1.2.1 a1.1.toNat (0,0,[],(0,[],()),())).2.2.1 y0 (0,0,0,())).2.2.1,(List.getD (List.set b.1.1.1 (Int.toNat (List.getD (List.getD b.1.1.2.1 a1.1.toNat (0,0,[],(0,[],()),())).2.2.1 y0 (0,0,0,())).1) ((List.getD (List.getD b.1.1.2.1 a1.1.toNat (0,0,[],(0,[],()),())).2.2.1 y0 (0,0,0,())).2.1,0,0,())) (Int.toNat (List.getD (List.getD b.1.1.2.1 a1.1.toNat (0,0,[],(0,[],()),())).2.2.1 y0 (0,0,0,())).1) (0,0,0,())).2),b.1.1.2.1,()),(a1.1,a1.2.1,if 0>a1.2.2.1 then 0 else a1.2.2.1,wrap .i64 ((if 0>a1.2.2.2.1 then 0 else a1.2.2.2.1)+1),a1.2.2.2.2),(0,0,0,0,()),0,()),())) (some (((List.set b.1.1.1 (Int.toNat (List.getD (List.getD b.1.1.2.1 a1.1.toNat (0,0,[],(0,[],()),())).2.2.1 y0 (0,0,0,())).1) ((List.getD (List.getD b.1.1.2.1 a1.1.toNat (0,0,[],(0,[],()),())).2.2.1 y0 (0,0,0,())).2.1,0,0,()),b.1.1.2.1,()),(a1.1,a1.2.1,if 0>a1.2.2.1 then 0 else a1.2.2.1,wrap .i64 ((if 0>a1.2.2.2.1 then 0 else a1.2.2.2.1)+1),a1.2.2.2.2),(0,0,0,0,()),0,()),()))) (some (((b.1.1.1,b.1.1.2.1,()),(a1.1,a1.2.1,if 0>a1.2.2.1 then 0 else a1.2.2.1,wrap .i64 ((if 0>a1.2.2.2.1 then 0 else a1.2.2.2.1)+1),a1.2.2.2.2),(0,0,0,0,()),0,()),()))) none) none))) (br (decide ((List.getD b.1.1.2.1 a1.1.toNat (0,0,[],(0,[],()),())).2.1=1)) (qd (q4z D (b.1.1.1,b.1.1.2.1,()) a1) fun b↦some (((b.2.1.1,b.2.1.2.1,()),b.1.1,b.1.2.1,b.1.2.2.1,()),())) (br (bif decide ((List.getD b.1.1.2.1 a1.1.toNat (0,0,[],(0,[],()),())).2.1=0) then true else decide (a1.2.2.2.1≥((List.getD b.1.1.2.1 a1.1.toNat (0,0,[],(0,[],()),())).2.2.1.length:Int))) (some (((b.1.1.1,b.1.1.2.1,()),a1,(0,0,0,0,()),2,()),())) (br (decide (0≤a1.2.2.2.1)&&decide (a1.2.2.2.1<((List.getD b.1.1.2.1 a1.1.toNat (0,0,[],(0,[],()),())).2.2.1.length:Int))) (br (decide (0≤(List.getD (List.getD b.1.1.2.1 a1.1.toNat (0,0,[],(0,[],()),())).2.2.1 a1.2.2.2.1.toNat (0,0,0,())).1)&&decide ((List.getD (List.getD b.1.1.2.1 a1.1.toNat (0,0,[],(0,[],()),())).2.2.1 a1.2.2.2.1.toNat (0,0,0,())).1<(b.1.1.1.length:Int))) (br (qkv yq21 (List.getD b.1.1.1 (Int.toNat (List.getD (List.getD b.1.1.2.1 a1.1.toNat (0,0,[],(0,[],()),())).2.2.1 a1.2.2.2.1.toNat (0,0,0,())).1) (0,0,0,())) (0,wrap .i64 (a1.1+1),a1.2.1,())) (br (decide ((List.getD b.1.1.2.1 a1.1.toNat (0,0,[],(0,[],()),())).2.1=2)) (some (((List.set (List.set b.1.1.1 (Int.toNat (List.getD (List.getD b.1.1.2.1 a1.1.toNat (0,0,[],(0,[],()),())).2.2.1 a1.2.2.2.1.toNat (0,0,0,())).1) ((List.getD (List.getD b.1.1.2.1 a1.1.toNat (0,0,[],(0,[],()),())).2.2.1 a1.2.2.2.1.toNat (0,0,0,())).2.1,0,0,())) (Int.toNat (List.getD (List.getD b.1.1.2.1 a1.1.toNat (0,0,[],(0,[],()),())).2.2.1 a1.2.2.2.1.toNat (0,0,0,())).1) ((List.getD (List.getD b.1.1.2.1 a1.1.toNat (0,0,[],(0,[],()),())).2.2.1 a1.2.2.2.1.toNat (0,0,0,())).2.2.1,(List.getD (List.set b.1.1.1 (Int.toNat (List.getD (List.getD b.1.1.2.1 a1.1.toNat (0,0,[],(0,[],()),())).2.2.1 a1.2.2.2.1.toNat (0,0,0,())).1) ((List.getD (List.getD b.1.1.2.1 a1.1.toNat (0,0,[],(0,[],()),())).2.2.1 a1.2.2.2.1.toNat (0,0,0,())).2.1,0,0,())) (Int.toNat (List.getD (List.getD b.1.1.2.1 a1.1.toNat (0,0,[],(0,[],()),())).2.2.1 a1.2.2.2.1.toNat (0,0,0,())).1) (0,0,0,())).2),b.1.1.2.1,()),(a1.1,a1.2.1,a1.2.2.1,wrap .i64 (a1.2.2.2.1+1),a1.2.2.2.2),(0,0,0,0,()),0,()),())) (some (((List.set b.1.1.1 (Int.toNat (List.getD (List.getD b.1.1.2.1 a1.1.toNat (0,0,[],(0,[],()),())).2.2.1 a1.2.2.2.1.toNat (0,0,0,())).1) ((List.getD (List.getD b.1.1.2.1 a1.1.toNat (0,0,[],(0,[],()),())).2.2.1 a1.2.2.2.1.toNat (0,0,0,())).2.1,0,0,()),b.1.1.2.1,()),(a1.1,a1.2.1,a1.2.2.1,wrap .i64 (a1.2.2.2.1+1),a1.2.2.2.2),(0,0,0,0,()),0,()),()))) (some (((b.1.1.1,b.1.1.2.1,()),(a1.1,a1.2.1,a1.2.2.1,wrap .i64 (a1.2.2.2.1+1),a1.2.2.2.2),(0,0,0,0,()),0,()),()))) none) none)))) none)) none))
def q2s (D:DX)(n:Nat) (a0:tq12) (a1:tq34):Option tq6:=qbcn D n a0 a1
theorem qbqs (D:DX)(n:Nat) (a0:tq12) (a1:tq34):rF D n 153 (a0,(a1,()))=q2s D n a0 a1:=by kernel_rfl

def qbhg (D:DX)(n:Nat) (a0:tq13) (a1:tq34):Option tq11:=qd (qhv D a0) fun b↦br (decide (b.1.1.2.2.2.2.1.length+1≤qb7)) (some (((b.1.1.1,b.1.1.2.1,b.1.1.2.2.1,b.1.1.2.2.2.1,b.1.1.2.2.2.2.1++[a1],()),()),())) none
def q9h (D:DX)(n:Nat) (a0:tq13) (a1:tq34):Option tq11:=qbhg D n a0 a1
theorem qbvp (D:DX)(n:Nat) (a0:tq13) (a1:tq34):rF D n 154 (a0,(a1,()))=q9h D n a0 a1:=by kernel_rfl

def qbhy (D:DX)(n:Nat) (a0:tq13) (a1:tq34):Option tq11:=qd (qhv D a0) fun b↦br (decide ((b.1.1.2.2.2.2.1.length:Int)>0)) (br (decide (0≤wrap .i64 ((b.1.1.2.2.2.2.1.length:Int) - 1))&&decide (wrap .i64 ((b.1.1.2.2.2.2.1.length:Int) - 1)<(b.1.1.2.2.2.2.1.length:Int))) (some (((b.1.1.1,b.1.1.2.1,b.1.1.2.2.1,b.1.1.2.2.2.1,List.set b.1.1.2.2.2.2.1 (Int.toNat (wrap .i64 ((b.1.1.2.2.2.2.1.length:Int) - 1))) a1,()),()),())) none) (some (((b.1.1.1,b.1.1.2.1,b.1.1.2.2.1,b.1.1.2.2.2.1,b.1.1.2.2.2.2.1,()),()),()))
def q85 (D:DX)(n:Nat) (a0:tq13) (a1:tq34):Option tq11:=qbhy D n a0 a1
theorem qbwd (D:DX)(n:Nat) (a0:tq13) (a1:tq34):rF D n 155 (a0,(a1,()))=q85 D n a0 a1:=by kernel_rfl

def qblw (D:DX)(n:Nat) (a0:tq13):Option tq11:=qd (qhv D a0) fun b↦br (decide ((b.1.1.2.2.2.2.1.length:Int)>0)) (br (decide (0≤wrap .i64 ((b.1.1.2.2.2.2.1.length:Int) - 1))&&decide (wrap .i64 ((b.1.1.2.2.2.2.1.length:Int) - 1)≤(b.1.1.2.2.2.2.1.length:Int))) (some (((b.1.1.1,b.1.1.2.1,b.1.1.2.2.1,b.1.1.2.2.2.1,List.take (Int.toNat (wrap .i64 ((b.1.1.2.2.2.2.1.length:Int) - 1))) b.1.1.2.2.2.2.1,()),()),())) none) (some (((b.1.1.1,b.1.1.2.1,b.1.1.2.2.1,b.1.1.2.2.2.1,b.1.1.2.2.2.2.1,()),()),()))
def qbcb (D:DX)(n:Nat) (a0:tq13):Option tq11:=qblw D n a0
theorem qbxw (D:DX)(n:Nat) (a0:tq13):rF D n 156 (a0,())=qbcb D n a0:=by kernel_rfl

def qx8 (D:DX)(n:Nat) (z0:Int) (z1:tq5):Option tq4:=let y5:=List.getD z1.2.1 z0.toNat ([],0,false,[],[],());let y2:=List.set z1.2.1 z0.toNat (y5.1,wrap .i64 (y5.2.1+1),y5.2.2);let y6:=List.getD y2 z0.toNat ([],0,false,[],[],());let y0:=List.set y2 z0.toNat (y6.1,y6.2.1,false,y6.2.2.2);let y4:=List.getD y0 z0.toNat ([],0,false,[],[],());let y1:=List.set y0 z0.toNat (y4.1,y4.2.1,y4.2.2.1,[],y4.2.2.2.2);let y3:=List.getD y1 z0.toNat ([],0,false,[],[],());br (decide (0≤z0)&&decide (z0<(z1.2.1.length:Int))) (some ((),(z1.1,List.set y1 z0.toNat (y3.1,y3.2.1,y3.2.2.1,y3.2.2.2.1,[],y3.2.2.2.2.2),z1.2.2),())) none
def qo8 (D:DX)(n:Nat) (z0:Int) (z1:tq5):Option tq4:=qx8 D n z0 z1
def qrm (D:DX)(n:Nat) (j0:Int→tq5→Option tq4) (a0:tq5) (a1:Int) (a2:tq41):Option tq4:=qd (qh0 D a0 a1) fun b↦br (decide (b.1.1≥0)) (br (decide (0≤b.1.1)&&decide (b.1.1<(b.2.1.2.2.2.1.length:Int))) (qd (qig D a2) fun b_1↦let c:=List.getD b.2.1.2.2.2.1 b.1.1.toNat (0,(0,0,0,()),0,0,0,(0,[],()),());let d:=List.set b.2.1.2.2.2.1 b.1.1.toNat (c.1,c.2.1,c.2.2.1,c.2.2.2.1,b.2.1.2.2.1,c.2.2.2.2.2);let a:=List.getD d b.1.1.toNat (0,(0,0,0,()),0,0,0,(0,[],()),());br (decide (0≤b.1.1)&&decide (b.1.1<(d.length:Int))) (j0 a1 (b.2.1.1,b.2.1.2.1,b.2.1.2.2.1,List.set d b.1.1.toNat (a.1,a.2.1,a.2.2.1,a.2.2.2.1,a.2.2.2.2.1,(b_1.1.1.1,b_1.1.1.2.1,()),a.2.2.2.2.2.2),b.2.1.2.2.2.2)) none) none) (j0 a1 b.2.1)
def qqy (D:DX)(n:Nat) (a0:tq5) (a1:Int) (a2:tq41):Option tq4:=qrm D n (fun z0 z1=>qo8 D n z0 z1) a0 a1 a2
def qx5 (z0:Int) (z1:tq5):St:=stq 55 [(0,AV.addr 0 []),(1,AV.val yq34 z0)] [(0,Root.mk yq0 kq15 z1 true)]
theorem q99 (D:DX)(n:Nat) (z0) (z1):qg5 ctx D (ctx.hints 157) n (qlf (bF 157) [.r,.r]) (qx5 z0 z1) (lF 157)=qo8 D n z0 z1:=by kernel_rfl
theorem qbc3 (D:DX)(n:Nat) (K:St→Option (Out ctx 157)) (a0:tq5) (a1:Int) (a2:tq41):qba1 ctx D (ctx.hints 157) n 2 (bF 157) (qboi (C:=ctx) qk7 157 (a0,(a1,(a2,())))) K (lF 157)=qrm D n (fun z0 z1=>K (qx5 z0 z1)) a0 a1 a2:=by kernel_rfl
theorem qbfd (D:DX)(n:Nat) (a0:tq5) (a1:Int) (a2:tq41):rF D n 157 (a0,(a1,(a2,())))=qqy D n a0 a1 a2:=
 (qb1t qk7 D n 157 _ (by kernel_rfl)).trans ((qb2r ctx D (ctx.hints 157) n 2 (lF 157) (bF 157) [.r,.r] _ rfl (by kernel_rfl)).symm.trans ((qbc3 D n (fun S=>qg5 ctx D (ctx.hints 157) n (qlf (bF 157) [.r,.r]) S (lF 157)) a0 a1 a2).trans (by simp only[q99];rfl)))
end
end Go.G


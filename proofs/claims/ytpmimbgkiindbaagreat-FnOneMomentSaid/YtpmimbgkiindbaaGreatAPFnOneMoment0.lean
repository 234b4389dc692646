import Derived.Test.YtpmimbgkiindbaaGreatAV3
set_option linter.unusedVariables false
set_option linter.unusedSimpArgs false
set_option linter.unusedSectionVars false
open Go.IntKind (wrap)
namespace Go.G
open Go Go.V
abbrev DX:=Den ctx
abbrev KT (k:Nat):=Ex→St→Option (Out ctx k)
noncomputable abbrev LF (D:DX)(n:Nat)(k:Nat):=LQ (C:=ctx) qlc D n k
noncomputable abbrev CF (D:DX)(n:Nat)(k:Nat):=CQ (C:=ctx) qlc D n k
noncomputable abbrev KF (D:DX)(n:Nat)(k:Nat):=LK (C:=ctx) qlc D n k
noncomputable abbrev lF (k:Nat):=qbs2 (C:=ctx) qlc k
noncomputable abbrev rF (D:DX)(n:Nat)(k:Nat):=rfC (C:=ctx) qlc D n k
noncomputable abbrev bF (k:Nat):=qwm qlc k
theorem eL2 {t0 t1 R:Type}{A B:Nat→t0→t1→R}(b:(t0→t1→R)→t0→t1→R)(h0:∀ x0 x1,A 0 x0 x1=B 0 x0 x1)(ha:∀ m x0 x1,A (m+1) x0 x1=b (A m) x0 x1)(hb:∀ m x0 x1,B (m+1) x0 x1=b (B m) x0 x1):∀ m x0 x1,A m x0 x1=B m x0 x1
| 0=>h0
| m+1=>fun x0 x1=>by rw[ha,hb,show A m=B m from funext fun x0=>funext fun x1=>eL2 b h0 ha hb m x0 x1]
theorem eL3 {t0 t1 t2 R:Type}{A B:Nat→t0→t1→t2→R}(b:(t0→t1→t2→R)→t0→t1→t2→R)(h0:∀ x0 x1 x2,A 0 x0 x1 x2=B 0 x0 x1 x2)(ha:∀ m x0 x1 x2,A (m+1) x0 x1 x2=b (A m) x0 x1 x2)(hb:∀ m x0 x1 x2,B (m+1) x0 x1 x2=b (B m) x0 x1 x2):∀ m x0 x1 x2,A m x0 x1 x2=B m x0 x1 x2
| 0=>h0
| m+1=>fun x0 x1 x2=>by rw[ha,hb,show A m=B m from funext fun x0=>funext fun x1=>funext fun x2=>eL3 b h0 ha hb m x0 x1 x2]
theorem eL4 {t0 t1 t2 t3 R:Type}{A B:Nat→t0→t1→t2→t3→R}(b:(t0→t1→t2→t3→R)→t0→t1→t2→t3→R)(h0:∀ x0 x1 x2 x3,A 0 x0 x1 x2 x3=B 0 x0 x1 x2 x3)(ha:∀ m x0 x1 x2 x3,A (m+1) x0 x1 x2 x3=b (A m) x0 x1 x2 x3)(hb:∀ m x0 x1 x2 x3,B (m+1) x0 x1 x2 x3=b (B m) x0 x1 x2 x3):∀ m x0 x1 x2 x3,A m x0 x1 x2 x3=B m x0 x1 x2 x3
| 0=>h0
| m+1=>fun x0 x1 x2 x3=>by rw[ha,hb,show A m=B m from funext fun x0=>funext fun x1=>funext fun x2=>funext fun x3=>eL4 b h0 ha hb m x0 x1 x2 x3]
theorem eL5 {t0 t1 t2 t3 t4 R:Type}{A B:Nat→t0→t1→t2→t3→t4→R}(b:(t0→t1→t2→t3→t4→R)→t0→t1→t2→t3→t4→R)(h0:∀ x0 x1 x2 x3 x4,A 0 x0 x1 x2 x3 x4=B 0 x0 x1 x2 x3 x4)(ha:∀ m x0 x1 x2 x3 x4,A (m+1) x0 x1 x2 x3 x4=b (A m) x0 x1 x2 x3 x4)(hb:∀ m x0 x1 x2 x3 x4,B (m+1) x0 x1 x2 x3 x4=b (B m) x0 x1 x2 x3 x4):∀ m x0 x1 x2 x3 x4,A m x0 x1 x2 x3 x4=B m x0 x1 x2 x3 x4
| 0=>h0
| m+1=>fun x0 x1 x2 x3 x4=>by rw[ha,hb,show A m=B m from funext fun x0=>funext fun x1=>funext fun x2=>funext fun x3=>funext fun x4=>eL5 b h0 ha hb m x0 x1 x2 x3 x4]
theorem eL6 {t0 t1 t2 t3 t4 t5 R:Type}{A B:Nat→t0→t1→t2→t3→t4→t5→R}(b:(t0→t1→t2→t3→t4→t5→R)→t0→t1→t2→t3→t4→t5→R)(h0:∀ x0 x1 x2 x3 x4 x5,A 0 x0 x1 x2 x3 x4 x5=B 0 x0 x1 x2 x3 x4 x5)(ha:∀ m x0 x1 x2 x3 x4 x5,A (m+1) x0 x1 x2 x3 x4 x5=b (A m) x0 x1 x2 x3 x4 x5)(hb:∀ m x0 x1 x2 x3 x4 x5,B (m+1) x0 x1 x2 x3 x4 x5=b (B m) x0 x1 x2 x3 x4 x5):∀ m x0 x1 x2 x3 x4 x5,A m x0 x1 x2 x3 x4 x5=B m x0 x1 x2 x3 x4 x5
| 0=>h0
| m+1=>fun x0 x1 x2 x3 x4 x5=>by rw[ha,hb,show A m=B m from funext fun x0=>funext fun x1=>funext fun x2=>funext fun x3=>funext fun x4=>funext fun x5=>eL6 b h0 ha hb m x0 x1 x2 x3 x4 x5]
theorem eL7 {t0 t1 t2 t3 t4 t5 t6 R:Type}{A B:Nat→t0→t1→t2→t3→t4→t5→t6→R}(b:(t0→t1→t2→t3→t4→t5→t6→R)→t0→t1→t2→t3→t4→t5→t6→R)(h0:∀ x0 x1 x2 x3 x4 x5 x6,A 0 x0 x1 x2 x3 x4 x5 x6=B 0 x0 x1 x2 x3 x4 x5 x6)(ha:∀ m x0 x1 x2 x3 x4 x5 x6,A (m+1) x0 x1 x2 x3 x4 x5 x6=b (A m) x0 x1 x2 x3 x4 x5 x6)(hb:∀ m x0 x1 x2 x3 x4 x5 x6,B (m+1) x0 x1 x2 x3 x4 x5 x6=b (B m) x0 x1 x2 x3 x4 x5 x6):∀ m x0 x1 x2 x3 x4 x5 x6,A m x0 x1 x2 x3 x4 x5 x6=B m x0 x1 x2 x3 x4 x5 x6
| 0=>h0
| m+1=>fun x0 x1 x2 x3 x4 x5 x6=>by rw[ha,hb,show A m=B m from funext fun x0=>funext fun x1=>funext fun x2=>funext fun x3=>funext fun x4=>funext fun x5=>funext fun x6=>eL7 b h0 ha hb m x0 x1 x2 x3 x4 x5 x6]
theorem eL8 {t0 t1 t2 t3 t4 t5 t6 t7 R:Type}{A B:Nat→t0→t1→t2→t3→t4→t5→t6→t7→R}(b:(t0→t1→t2→t3→t4→t5→t6→t7→R)→t0→t1→t2→t3→t4→t5→t6→t7→R)(h0:∀ x0 x1 x2 x3 x4 x5 x6 x7,A 0 x0 x1 x2 x3 x4 x5 x6 x7=B 0 x0 x1 x2 x3 x4 x5 x6 x7)(ha:∀ m x0 x1 x2 x3 x4 x5 x6 x7,A (m+1) x0 x1 x2 x3 x4 x5 x6 x7=b (A m) x0 x1 x2 x3 x4 x5 x6 x7)(hb:∀ m x0 x1 x2 x3 x4 x5 x6 x7,B (m+1) x0 x1 x2 x3 x4 x5 x6 x7=b (B m) x0 x1 x2 x3 x4 x5 x6 x7):∀ m x0 x1 x2 x3 x4 x5 x6 x7,A m x0 x1 x2 x3 x4 x5 x6 x7=B m x0 x1 x2 x3 x4 x5 x6 x7
| 0=>h0
| m+1=>fun x0 x1 x2 x3 x4 x5 x6 x7=>by rw[ha,hb,show A m=B m from funext fun x0=>funext fun x1=>funext fun x2=>funext fun x3=>funext fun x4=>funext fun x5=>funext fun x6=>funext fun x7=>eL8 b h0 ha hb m x0 x1 x2 x3 x4 x5 x6 x7]
theorem eL9 {t0 t1 t2 t3 t4 t5 t6 t7 t8 R:Type}{A B:Nat→t0→t1→t2→t3→t4→t5→t6→t7→t8→R}(b:(t0→t1→t2→t3→t4→t5→t6→t7→t8→R)→t0→t1→t2→t3→t4→t5→t6→t7→t8→R)(h0:∀ x0 x1 x2 x3 x4 x5 x6 x7 x8,A 0 x0 x1 x2 x3 x4 x5 x6 x7 x8=B 0 x0 x1 x2 x3 x4 x5 x6 x7 x8)(ha:∀ m x0 x1 x2 x3 x4 x5 x6 x7 x8,A (m+1) x0 x1 x2 x3 x4 x5 x6 x7 x8=b (A m) x0 x1 x2 x3 x4 x5 x6 x7 x8)(hb:∀ m x0 x1 x2 x3 x4 x5 x6 x7 x8,B (m+1) x0 x1 x2 x3 x4 x5 x6 x7 x8=b (B m) x0 x1 x2 x3 x4 x5 x6 x7 x8):∀ m x0 x1 x2 x3 x4 x5 x6 x7 x8,A m x0 x1 x2 x3 x4 x5 x6 x7 x8=B m x0 x1 x2 x3 x4 x5 x6 x7 x8
| 0=>h0
| m+1=>fun x0 x1 x2 x3 x4 x5 x6 x7 x8=>by rw[ha,hb,show A m=B m from funext fun x0=>funext fun x1=>funext fun x2=>funext fun x3=>funext fun x4=>funext fun x5=>funext fun x6=>funext fun x7=>funext fun x8=>eL9 b h0 ha hb m x0 x1 x2 x3 x4 x5 x6 x7 x8]
abbrev pq0:List Dir:=[.r,.r,.l,.r,.l]
abbrev pq1:List Dir:=[.r,.r,.r,.l,.r,.l]
abbrev pq2:List Dir:=[.r,.l,.r,.l]
abbrev pq3:List Dir:=[.r,.r,.r,.r,.l,.r,.l]
abbrev pq4:List Dir:=[.r,.r,.r,.r,.r,.r,.l,.r,.l]
abbrev pq5:List Dir:=[.r,.r,.l,.r,.l,.r,.r,.r,.r,.r,.r,.r,.r,.r,.l,.r,.l]
abbrev pq6:List Dir:=[.r,.r,.r,.r,.r,.l,.r,.l]
abbrev pq7:List Dir:=[.r,.r,.r,.r,.r,.r,.r,.r,.r,.r,.r,.l,.r,.l]
abbrev pq8:List Dir:=[.r,.r,.r,.r,.r,.r,.l,.r,.l,.l,.r,.l,.l,.r,.r,.l]
abbrev pq9:List Dir:=[.r,.l,.l,.r,.l,.l,.r,.l]
abbrev pq10:List Dir:=[.r,.l]
abbrev pq11:List Dir:=[.r,.r,.l,.r,.l,.l,.r,.r,.l,.l,.r,.r,.r,.l]
abbrev pq12:List Dir:=[.r,.r,.r,.l,.r,.l,.l,.r,.l,.l,.r,.r,.r,.l]
abbrev pq13:List Dir:=[.r,.r,.l,.r,.l,.l,.r,.l,.l,.r,.l,.r,.l]
abbrev pq14:List Dir:=[.r,.r,.l]
abbrev pq15:List Dir:=[.r,.r,.l,.r,.l,.l]
abbrev tq45:=Bool×Unit
abbrev tq44:=Int×Int×Unit
abbrev tq43:=(Int×Unit)×Unit
abbrev tq42:=tq45×Unit
abbrev tq41:=Int×List Int×Unit
abbrev tq40:=List Int×Int×Unit
abbrev tq39:=Unit×List Int×Unit
abbrev tq38:=Int×tq44
abbrev tq37:=(List Int×Unit)×Unit
abbrev tq36:=(Int×tq45)×Unit
abbrev tq35:=List Int×tq44
abbrev tq34:=Int×tq38
abbrev tq33:=List tq38×Unit
abbrev tq32:=tq35×Unit
abbrev tq31:=(tq40×Unit)×Unit
abbrev tq30:=Unit×tq33
abbrev tq29:=tq33×Unit
abbrev tq28:=tq32×Unit
abbrev tq27:=(tq40×tq45)×Unit
abbrev tq26:=(tq38×tq45)×Unit
abbrev tq25:=(Int×Unit)×tq32
abbrev tq24:=List tq44×List Int×Int×tq45
abbrev tq23:=tq24×Unit
abbrev tq22:=Bool×tq41×tq33
abbrev tq21:=Unit×tq23
abbrev tq20:=(tq40×Unit)×tq32
abbrev tq19:=tq23×Unit
abbrev tq18:=Int×Int×List tq38×tq41×Unit
abbrev tq17:=Int×tq38×Int×Int×Int×tq41×Unit
abbrev tq16:=(List (List tq38)×Unit)×tq32
abbrev tq15:=(tq40×List (List tq38)×List Int×Unit)×Unit
abbrev tq14:=(tq22×tq45)×Unit
abbrev tq13:=List tq38×Int×Bool×List tq44×List tq34×Unit
abbrev tq12:=List tq38×List tq18×Unit
abbrev tq11:=(tq13×Unit)×Unit
abbrev tq10:=(tq12×Unit)×Unit
abbrev tq9:=(tq12×tq45)×Unit
abbrev tq8:=(tq12×tq34×tq45)×Unit
abbrev tq7:=(tq34×tq34×Int×Unit)×tq12×Unit
abbrev tq6:=(tq12×tq34×tq34×Int×Unit)×Unit
abbrev tq5:=tq12×List tq13×Int×List tq17×List Int×tq40×Unit
abbrev tq4:=Unit×tq5×Unit
abbrev tq3:=(tq5×Unit)×Unit
abbrev tq2:=(Int×Unit)×tq5×Unit
abbrev tq1:=tq45×tq5×Unit
abbrev tq0:=(tq5×tq45)×Unit
end Go.G
namespace Go.G
open Go Go.V
noncomputable def q15 (D:Den ctx) (a0:List Int):Option tq42:=D 10 (a0,())
noncomputable def qbcq (D:Den ctx) (a0:List Int):Option tq42:=D 12 (a0,())
noncomputable def qpv (D:Den ctx) (a0:List Int):Option tq15:=D 13 (a0,())
noncomputable def qs5 (D:Den ctx) (a0:tq40) (a1:List (List tq38)):Option tq0:=D 14 (a0,(a1,()))
noncomputable def qtl (D:Den ctx) (a0:tq40) (a1:List (List tq38)):Option tq0:=D 15 (a0,(a1,()))
noncomputable def q9v (D:Den ctx) (a0:tq5) (a1:List Int):Option tq3:=D 16 (a0,(a1,()))
noncomputable def q47 (D:Den ctx) (a0:tq13):Option tq42:=D 17 (a0,())
noncomputable def qx4 (D:Den ctx) (a0:tq5):Option tq42:=D 20 (a0,())
noncomputable def q0f (D:Den ctx) (a0:List tq38) (a1:List tq18):Option tq37:=D 23 (a0,(a1,()))
noncomputable def qbeb (D:Den ctx) (a0 a1:tq17):Option tq42:=D 29 (a0,(a1,()))
noncomputable def qtp (D:Den ctx) (a0:tq5):Option tq42:=D 30 (a0,())
noncomputable def qws (D:Den ctx) (a0:tq40) (a1:Int):Option tq43:=D 34 (a0,(a1,()))
noncomputable def qep (D:Den ctx) (a0:Int):Option tq43:=D 35 (a0,())
noncomputable def q0u (D:Den ctx) (a0:tq40) (a1:Int):Option tq43:=D 37 (a0,(a1,()))
noncomputable def qwd (D:Den ctx) (a0:tq40) (a1:tq38) (a2:tq41):Option tq31:=D 38 (a0,(a1,(a2,())))
noncomputable def qul (D:Den ctx) (a0:tq5):Option tq27:=D 39 (a0,())
noncomputable def qc6 (D:Den ctx) (a0:tq5):Option tq42:=D 40 (a0,())
noncomputable def q0q (D:Den ctx) (a0:tq5):Option tq42:=D 42 (a0,())
noncomputable def q7q (D:Den ctx) (a0:List Int):Option tq28:=D 44 (a0,())
noncomputable def qqp (D:Den ctx) (a0:tq35):Option tq20:=D 45 (a0,())
noncomputable def qut (D:Den ctx) (a0:tq35):Option tq16:=D 46 (a0,())
noncomputable def qcf (D:Den ctx) (a0:tq35) (a1:Int):Option tq25:=D 47 (a0,(a1,()))
noncomputable def q25 (D:Den ctx) (a0:List Int) (a1 a2:Int):Option tq43:=D 48 (a0,(a1,(a2,())))
noncomputable def q3u (D:Den ctx) (a0:tq40) (a1:Int):Option tq9:=D 49 (a0,(a1,()))
noncomputable def qjn (D:Den ctx) (a0:tq40):Option tq31:=D 50 (a0,())
noncomputable def q7c (D:Den ctx) (a0:List tq38):Option tq11:=D 51 (a0,())
noncomputable def q3e (D:Den ctx) (a0:tq40) (a1:Int):Option tq9:=D 52 (a0,(a1,()))
noncomputable def q3w (D:Den ctx) (a0:tq40):Option tq31:=D 53 (a0,())
noncomputable def q61 (D:Den ctx) (a0:List tq38):Option tq11:=D 54 (a0,())
noncomputable def qvq (D:Den ctx) (a0:tq5):Option tq42:=D 55 (a0,())
noncomputable def qji (D:Den ctx) (a0:tq5):Option tq3:=D 56 (a0,())
noncomputable def qt9 (D:Den ctx) (a0:tq5) (a1:Int):Option tq0:=D 57 (a0,(a1,()))
noncomputable def qbl (D:Den ctx) (a0 a1 a2:Int):Option tq42:=D 58 (a0,(a1,(a2,())))
noncomputable def qs8 (D:Den ctx) (a0:tq5):Option tq42:=D 59 (a0,())
noncomputable def q1g (D:Den ctx) (a0:List tq38) (a1:List tq18) (a2:Int):Option tq43:=D 60 (a0,(a1,(a2,())))
noncomputable def qkp (D:Den ctx) (a0:tq12):Option tq42:=D 63 (a0,())
noncomputable def qd1 (D:Den ctx) (a0:List tq38) (a1:Clo):Option tq42:=D 64 (a0,(a1,()))
noncomputable def qox (D:Den ctx) (a0:tq40):Option tq42:=D 66 (a0,())
noncomputable def qix (D:Den ctx) (a0 a1:List Int):Option tq42:=D 67 (a0,(a1,()))
noncomputable def qm9 (D:Den ctx) (a0:tq40):Option tq37:=D 68 (a0,())
noncomputable def qgk (D:Den ctx) (a0:List Int):Option tq37:=D 69 (a0,())
noncomputable def qcp (D:Den ctx):Option tq43:=D 70 ()
noncomputable def qo7 (D:Den ctx) (a0:tq40):Option tq42:=D 71 (a0,())
noncomputable def qdq (D:Den ctx) (a0:Int):Option tq43:=D 73 (a0,())
noncomputable def qi0 (D:Den ctx) (a0:List Int) (a1:Int):Option tq43:=D 74 (a0,(a1,()))
noncomputable def qlg (D:Den ctx) (a0:Bool) (a1:Int):Option tq43:=D 75 (a0,(a1,()))
noncomputable def qgm (D:Den ctx) (a0:Int):Option tq42:=D 76 (a0,())
noncomputable def qcq (D:Den ctx) (a0:Int):Option tq43:=D 77 (a0,())
noncomputable def qr7 (D:Den ctx) (a0:tq40) (a1:tq38) (a2:tq41):Option tq42:=D 78 (a0,(a1,(a2,())))
noncomputable def qlu (D:Den ctx) (a0:tq17) (a1:Int) (a2:tq5):Option tq42:=D 79 (a0,(a1,(a2,())))
noncomputable def qj9 (D:Den ctx) (a0:tq38):Option tq42:=D 80 (a0,())
noncomputable def qxo (D:Den ctx) (a0:tq13) (a1:Int):Option tq42:=D 81 (a0,(a1,()))
noncomputable def q1a (D:Den ctx) (a0:tq5) (a1:Int):Option tq42:=D 82 (a0,(a1,()))
noncomputable def q0j (D:Den ctx) (a0:tq5):Option tq42:=D 83 (a0,())
noncomputable def qik (D:Den ctx) (a0:tq41):Option ((tq41×Unit)×Unit):=D 85 (a0,())
noncomputable def qzn (D:Den ctx):Option tq31:=D 90 ()
noncomputable def qxe (D:Den ctx) (a0:tq40) (a1:Int):Option tq43:=D 91 (a0,(a1,()))
noncomputable def qn7 (D:Den ctx) (a0:tq35) (a1:List Int):Option tq25:=D 92 (a0,(a1,()))
noncomputable def qqt (D:Den ctx) (a0:tq35):Option ((tq38×Unit)×tq32):=D 93 (a0,())
noncomputable def qjq (D:Den ctx) (a0:tq35):Option tq25:=D 94 (a0,())
noncomputable def qe8 (D:Den ctx) (a0:List tq38):Option tq29:=D 95 (a0,())
noncomputable def qze (D:Den ctx) (a0:tq40):Option tq37:=D 96 (a0,())
noncomputable def qbp (D:Den ctx) (a0 a1 a2:Int):Option tq42:=D 97 (a0,(a1,(a2,())))
noncomputable def qqn (D:Den ctx) (a0:tq12):Option tq42:=D 98 (a0,())
noncomputable def qui (D:Den ctx) (a0:tq40):Option tq42:=D 99 (a0,())
noncomputable def q05 (D:Den ctx) (a0:tq5):Option tq42:=D 100 (a0,())
noncomputable def qw7 (D:Den ctx) (a0:tq13) (a1:Int):Option tq42:=D 101 (a0,(a1,()))
noncomputable def qxc (D:Den ctx) (a0:tq5) (a1:Int):Option tq42:=D 102 (a0,(a1,()))
noncomputable def qkl (D:Den ctx) (a0:tq12):Option tq10:=D 103 (a0,())
noncomputable def qhz (D:Den ctx) (a0:tq13):Option tq11:=D 104 (a0,())
noncomputable def qna (D:Den ctx) (a0:tq5) (a1:Int):Option tq4:=D 105 (a0,(a1,()))
noncomputable def qpr (D:Den ctx) (a0:tq5) (a1:Int):Option tq1:=D 106 (a0,(a1,()))
noncomputable def qsd (D:Den ctx) (a0:tq18) (a1:Int):Option tq26:=D 107 (a0,(a1,()))
noncomputable def qdz (D:Den ctx) (a0:List tq18) (a1:Clo):Option tq42:=D 109 (a0,(a1,()))
noncomputable def qbbm (D:Den ctx) (a0:tq18):Option tq42:=D 110 (a0,())
noncomputable def q37 (D:Den ctx) (a0:tq18):Option tq42:=D 111 (a0,())
noncomputable def q2s (D:Den ctx) (a0:tq38) (a1:Int):Option tq42:=D 112 (a0,(a1,()))
noncomputable def qid (D:Den ctx) (a0:List tq38) (a1:Clo):Option tq43:=D 113 (a0,(a1,()))
noncomputable def qg8 (D:Den ctx) (a0:List Int) (a1:Int):Option tq42:=D 114 (a0,(a1,()))
noncomputable def qdp (D:Den ctx) (a0:Int):Option tq43:=D 115 (a0,())
noncomputable def qbbp (D:Den ctx) (a0:tq40) (a1:tq38) (a2:Int):Option tq42:=D 116 (a0,(a1,(a2,())))
noncomputable def qbal (D:Den ctx) (a0:tq40) (a1:tq38):Option ((List Int×tq45)×Unit):=D 117 (a0,(a1,()))
noncomputable def qq0 (D:Den ctx) (a0:Int):Option tq42:=D 118 (a0,())
noncomputable def qr5 (D:Den ctx) (a0:Int):Option tq42:=D 119 (a0,())
noncomputable def qfc (D:Den ctx) (a0:List tq38) (a1:Clo):Option tq42:=D 120 (a0,(a1,()))
noncomputable def q44 (D:Den ctx) (a0:tq38):Option tq42:=D 121 (a0,())
noncomputable def qcz (D:Den ctx) (a0:List tq44) (a1:Clo):Option tq42:=D 122 (a0,(a1,()))
noncomputable def q45 (D:Den ctx) (a0:tq44):Option tq42:=D 123 (a0,())
noncomputable def qr3 (D:Den ctx) (a0:Int):Option tq42:=D 124 (a0,())
noncomputable def qio (D:Den ctx) (a0:Int):Option tq42:=D 125 (a0,())
noncomputable def qcy (D:Den ctx) (a0:List tq34) (a1:Clo):Option tq42:=D 126 (a0,(a1,()))
noncomputable def q40 (D:Den ctx) (a0:tq34) (a1:Int):Option tq42:=D 127 (a0,(a1,()))
noncomputable def qye (D:Den ctx) (a0:Int):Option tq42:=D 132 (a0,())
noncomputable def qhp (D:Den ctx) (a0:Int):Option tq42:=D 133 (a0,())
noncomputable def q57 (D:Den ctx) (a0:Int):Option tq43:=D 134 (a0,())
noncomputable def q1c (D:Den ctx) (a0:Int):Option tq43:=D 135 (a0,())
noncomputable def q8a (D:Den ctx) (a0:Int):Option tq43:=D 136 (a0,())
noncomputable def q0m (D:Den ctx) (a0:tq40) (a1:Int):Option tq43:=D 137 (a0,(a1,()))
noncomputable def q0v (D:Den ctx) (a0:Int):Option tq43:=D 138 (a0,())
noncomputable def qsg (D:Den ctx):Option tq43:=D 139 ()
noncomputable def q3i (D:Den ctx) (a0:tq18):Option tq42:=D 140 (a0,())
noncomputable def qbdi (D:Den ctx) (a0:tq38) (a1:Int):Option tq42:=D 141 (a0,(a1,()))
noncomputable def qbox (D:Den ctx) (a0:tq18) (a1:Int):Option tq26:=D 142 (a0,(a1,()))
noncomputable def qjk (D:Den ctx) (a0:Int):Option tq42:=D 143 (a0,())
noncomputable def qbrw (D:Den ctx) (a0:tq5) (a1:tq17):Option tq42:=D 144 (a0,(a1,()))
noncomputable def qq3 (D:Den ctx) (a0:Bool):Option tq43:=D 145 (a0,())
noncomputable def q1r (D:Den ctx) (a0:tq38):Option tq42:=D 146 (a0,())
noncomputable def q20 (D:Den ctx) (a0:tq5) (a1:Int):Option tq43:=D 147 (a0,(a1,()))
noncomputable def qf6 (D:Den ctx) (a0:List tq38):Option tq29:=D 148 (a0,())
noncomputable def qdb (D:Den ctx) (a0:List tq38):Option tq29:=D 149 (a0,())
noncomputable def qgd (D:Den ctx) (a0:List tq44):Option ((List tq44×Unit)×Unit):=D 150 (a0,())
noncomputable def qge (D:Den ctx) (a0:List tq34):Option ((List tq34×Unit)×Unit):=D 151 (a0,())
noncomputable def qbcs (D:Den ctx) (a0:tq13):Option ((tq34×tq45)×Unit):=D 152 (a0,())
noncomputable def q24 (D:Den ctx) (a0:tq12) (a1:tq34):Option tq6:=D 153 (a0,(a1,()))
noncomputable def qo6 (D:Den ctx) (a0:tq13) (a1:tq34):Option tq11:=D 154 (a0,(a1,()))
noncomputable def qt7 (D:Den ctx) (a0:tq13) (a1:tq34):Option tq11:=D 155 (a0,(a1,()))
noncomputable def qbbx (D:Den ctx) (a0:tq13):Option tq11:=D 156 (a0,())
noncomputable def qjc (D:Den ctx) (a0:tq5) (a1:Int) (a2:tq41):Option tq4:=D 157 (a0,(a1,(a2,())))
noncomputable def qju (D:Den ctx) (a0:tq5) (a1:Int) (a2:tq41):Option tq4:=D 158 (a0,(a1,(a2,())))
noncomputable def q9l (D:Den ctx) (a0:tq38) (a1:List tq44):Option tq43:=D 159 (a0,(a1,()))
noncomputable def quj (D:Den ctx) (a0:tq38) (a1:List tq44):Option tq14:=D 160 (a0,(a1,()))
noncomputable def qxb (D:Den ctx) (a0:tq12) (a1:Int) (a2:List tq38) (a3:tq41):Option tq8:=D 161 (a0,(a1,(a2,(a3,()))))
noncomputable def qh8 (D:Den ctx) (a0:List tq18) (a1:Clo):Option tq43:=D 162 (a0,(a1,()))
noncomputable def qj1 (D:Den ctx) (a0:List tq38) (a1:Clo):Option tq43:=D 163 (a0,(a1,()))
noncomputable def qh9 (D:Den ctx) (a0:List tq44) (a1:Clo):Option tq43:=D 164 (a0,(a1,()))
noncomputable def qia (D:Den ctx) (a0:List tq34) (a1:Clo):Option tq43:=D 165 (a0,(a1,()))
noncomputable def qwc (D:Den ctx) (a0:Int):Option tq42:=D 166 (a0,())
noncomputable def q0y (D:Den ctx) (a0:Int):Option tq43:=D 167 (a0,())
noncomputable def q5g (D:Den ctx) (a0:tq12) (a1:tq34):Option tq7:=D 168 (a0,(a1,()))
noncomputable def qh4 (D:Den ctx) (a0:tq5) (a1:Int):Option tq2:=D 169 (a0,(a1,()))
noncomputable def qxg (D:Den ctx) (a0:tq38) (a1:List tq44):Option tq19:=D 170 (a0,(a1,()))
noncomputable def q35 (D:Den ctx) (a0:tq38) (a1:List tq44):Option ((tq41×tq45)×Unit):=D 171 (a0,(a1,()))
noncomputable def qew (D:Den ctx) (a0:List tq44) (a1:Int):Option tq36:=D 172 (a0,(a1,()))
noncomputable def qfj (D:Den ctx) (a0:Int):Option tq43:=D 173 (a0,())
noncomputable def qsa (D:Den ctx) (a0:tq38) (a1:List tq44) (a2 a3:Int):Option tq29:=D 174 (a0,(a1,(a2,(a3,()))))
noncomputable def qjl (D:Den ctx) (a0:List Int):Option tq39:=D 175 (a0,())
noncomputable def q4b (D:Den ctx) (a0:tq38) (a1 a2 a3 a4:Int):Option tq43:=D 176 (a0,(a1,(a2,(a3,(a4,())))))
noncomputable def qbah (D:Den ctx) (a0:tq38) (a1:Int):Option tq42:=D 177 (a0,(a1,()))
noncomputable def qh5 (D:Den ctx) (a0:tq24) (a1:tq38):Option tq21:=D 178 (a0,(a1,()))
noncomputable def qv (D:Den ctx) (a0:tq24) (a1:Int):Option ((Int×Unit)×tq23):=D 179 (a0,(a1,()))
noncomputable def qb9 (D:Den ctx) (a0:tq24) (a1:Bool):Option tq21:=D 180 (a0,(a1,()))
noncomputable def qcv (D:Den ctx) (a0 a1 a2:Int) (a3:List tq44) (a4:List tq38):Option tq30:=D 181 (a0,(a1,(a2,(a3,(a4,())))))
noncomputable def qc5 (D:Den ctx) (a0:List tq38) (a1:Clo):Option tq30:=D 182 (a0,(a1,()))
noncomputable def q7f (D:Den ctx) (a0 a1:tq38):Option tq43:=D 183 (a0,(a1,()))
noncomputable def qj (D:Den ctx) (a0:List Int) (a1 a2 a3:Int):Option tq39:=D 184 (a0,(a1,(a2,(a3,()))))
noncomputable def qqd (D:Den ctx) (a0:Int):Option tq43:=D 185 (a0,())
noncomputable def qgv (D:Den ctx) (a0:tq24) (a1:Int) (a2:List Int):Option tq21:=D 186 (a0,(a1,(a2,())))
noncomputable def qf (D:Den ctx) (a0:List tq38) (a1 a2 a3:Int) (a4:Clo):Option tq30:=D 187 (a0,(a1,(a2,(a3,(a4,())))))
noncomputable def qj8 (D:Den ctx) (a0:List Int) (a1 a2:Int):Option tq39:=D 188 (a0,(a1,(a2,())))
noncomputable def q1h (D:Den ctx) (a0:List Int) (a1 a2:Int):Option tq39:=D 189 (a0,(a1,(a2,())))
noncomputable def qt4 (D:Den ctx) (a0:List Int) (a1 a2:Int):Option tq39:=D 190 (a0,(a1,(a2,())))
noncomputable def qk4 (D:Den ctx) (a0:List Int) (a1 a2:Int):Option (tq44×Unit):=D 191 (a0,(a1,(a2,())))
noncomputable def qkq (D:Den ctx) (a0:List Int) (a1 a2:Int):Option tq39:=D 192 (a0,(a1,(a2,())))
noncomputable def qc2 (D:Den ctx) (a0:List Int) (a1 a2:Int):Option (tq45×List Int×Unit):=D 193 (a0,(a1,(a2,())))
noncomputable def qdt (D:Den ctx) (a0 a1:Int):Option tq42:=D 194 (a0,(a1,()))
noncomputable def qbr (D:Den ctx) (a0:List Int) (a1 a2 a3:Int):Option ((Int×Unit)×List Int×Unit):=D 195 (a0,(a1,(a2,(a3,()))))
noncomputable def qw (D:Den ctx) (a0:List Int) (a1 a2 a3:Int):Option ((Int×tq45)×List Int×Unit):=D 196 (a0,(a1,(a2,(a3,()))))
noncomputable def q41 (D:Den ctx) (a0:Int):Option tq43:=D 198 (a0,())
noncomputable def qhv (D:Den ctx) (a0:List tq38) (a1 a2:Int) (a3:Clo):Option tq30:=D 199 (a0,(a1,(a2,(a3,()))))
noncomputable def qsj (D:Den ctx) (a0:List tq38) (a1 a2:Int) (a3:Clo):Option tq30:=D 200 (a0,(a1,(a2,(a3,()))))
noncomputable def qn8 (D:Den ctx) (a0:List tq38) (a1 a2:Int) (a3:Clo):Option tq30:=D 201 (a0,(a1,(a2,(a3,()))))
noncomputable def qig (D:Den ctx) (a0:List tq38) (a1 a2:Int) (a3:Clo):Option (tq44×Unit):=D 202 (a0,(a1,(a2,(a3,()))))
noncomputable def qh1 (D:Den ctx) (a0:List tq38) (a1 a2:Int) (a3:Clo):Option tq30:=D 203 (a0,(a1,(a2,(a3,()))))
noncomputable def qcg (D:Den ctx) (a0:List tq38) (a1 a2:Int) (a3:Clo):Option (tq45×tq33):=D 204 (a0,(a1,(a2,(a3,()))))
noncomputable def qbc (D:Den ctx) (a0:List tq38) (a1 a2 a3:Int) (a4:Clo):Option ((Int×Unit)×tq33):=D 205 (a0,(a1,(a2,(a3,(a4,())))))
noncomputable def qn (D:Den ctx) (a0:List tq38) (a1 a2 a3:Int) (a4:Clo):Option ((Int×tq45)×tq33):=D 206 (a0,(a1,(a2,(a3,(a4,())))))
noncomputable def qxl (D:Den ctx) (a0:Int):Option tq42:=D 212 (a0,())
end Go.G

namespace Go.G
set_option maxRecDepth 100000
set_option maxHeartbeats 0
open Go Go.V
noncomputable section
def q2n (D:DX)(n:Nat) (a0:List Int):Option tq42:=qd (qbcq D a0) fun b↦br b.1.1 (some ((true,()),())) (qd (qpv D a0) fun b↦qd (qs5 D b.1.1 b.1.2.1) fun b_1↦qd (qtl D b.1.1 b.1.2.1) fun b_2↦br (bif !decide (b_1.1.2.1=b_2.1.2.1) then true else !b_1.1.2.1) (some ((false,()),())) (qd (q9v D b_1.1.1 b.1.2.2.1) fun b↦qd (qc6 D b.1.1) fun b_3↦br b_3.1.1 (qd (qx4 D b.1.1) fun b↦some ((b.1.1,()),())) (some ((false,()),()))))
def qq9 (D:DX)(n:Nat) (a0:List Int):Option tq42:=q2n D n a0
theorem qbex (D:DX)(n:Nat) (a0:List Int):rF D n 10 (a0,())=qq9 D n a0:=by kernel_rfl

def qby7 (D:DX)(n:Nat) (a0:List Int):Option tq42:=some ((decide ((a0.length:Int)>1048576),()),())
def qbm7 (D:DX)(n:Nat) (a0:List Int):Option tq42:=qby7 D n a0
theorem qby0 (D:DX)(n:Nat) (a0:List Int):rF D n 12 (a0,())=qbm7 D n a0:=by kernel_rfl

def qoc (D:DX)(n:Nat) (go:Int→Int→Int→Int→tq40→tq40→List (List tq38)→List Int→tq35→Option tq15) (K0:Int→Int→tq40→tq40→List (List tq38)→List Int→tq35→Option tq15) (c d e f:Int) (g h:tq40) (i:List (List tq38)) (a:List Int) (j:tq35):Option tq15:=qd (qcf D j 6) fun b↦br (decide (f<wrap .i64 (1+b.1.1))) (br (decide (a.length+1≤qb6)) (go c d e (wrap .i64 (f+1)) g h i (a++[e]) b.2.1) none) (K0 c d g h i a b.2.1)
def qhu (D:DX)(n:Nat) (K0:Int→Int→tq40→tq40→List (List tq38)→List Int→tq35→Option tq15):Nat→Int→Int→Int→Int→tq40→tq40→(List (List tq38))→(List Int)→tq35→Option tq15 | 0=>(fun a b c d e f g h i=>none) | m+1=>(fun a b c d e f g h i=>qoc D n (qhu D n K0 m) K0 a b c d e f g h i)
def qmb (D:DX)(n:Nat) (go:Int→Int→tq40→tq40→List (List tq38)→List Int→tq35→Option tq15) (K0:tq40→tq40→List (List tq38)→List Int→Option tq15) (a b:Int) (c d:tq40) (e:List (List tq38)) (f:List Int) (g:tq35):Option tq15:=go a (wrap .i64 (b+1)) c d e f g
def qmn (D:DX)(n:Nat) (go:Int→Int→tq40→tq40→List (List tq38)→List Int→tq35→Option tq15) (K0:tq40→tq40→List (List tq38)→List Int→Option tq15):(Int)→(Int)→(Int)→(Int)→tq40→tq40→(List (List tq38))→(List Int)→tq35→Option tq15:=(fun a i j k l m o p q=>qhu D n (fun b c d e f g h=>qmb D n go K0 b c d e f g h) n a i j k l m o p q)
def qnu (D:DX)(n:Nat) (go:Int→Int→tq40→tq40→List (List tq38)→List Int→tq35→Option tq15) (K0:tq40→tq40→List (List tq38)→List Int→Option tq15) (lp1:Int→Int→Int→Int→tq40→tq40→List (List tq38)→List Int→tq35→Option tq15) (x0 x1:Int) (x2 x3:tq40) (x4:List (List tq38)) (x5:List Int) (x6:tq35):Option tq15:=br (decide (x1<x0)) (qd (qcf D x6 (x4.length:Int)) fun b↦lp1 x0 x1 b.1.1 0 x2 x3 x4 x5 b.2.1) (K0 x2 x3 x4 x5)
def qdd (D:DX)(n:Nat) (K0:tq40→tq40→List (List tq38)→List Int→Option tq15):Nat→Int→Int→tq40→tq40→(List (List tq38))→(List Int)→tq35→Option tq15 | 0=>(fun x0 x1 x2 x3 x4 x5 x6=>none) | m+1=>(fun x0 x1 x2 x3 x4 x5 x6=>qnu D n (qdd D n K0 m) K0 (qmn D n (qdd D n K0 m) K0) x0 x1 x2 x3 x4 x5 x6)
def qua (D:DX)(n:Nat) (d a:tq40) (b:List (List tq38)) (c:List Int):Option tq15:=some (((a.1,a.2),b,c,()),())
def qm7 (D:DX)(n:Nat):(Int)→(Int)→tq40→tq40→(List (List tq38))→(List Int)→tq35→Option tq15:=(fun x0 x1 x2 x3 x4 x5 x6=>qdd D n (fun a b c d=>qua D n a b c d) n x0 x1 x2 x3 x4 x5 x6)
def qp0 (D:DX)(n:Nat) (lp0:Int→Int→tq40→tq40→List (List tq38)→List Int→tq35→Option tq15) (a0:List Int):Option tq15:=qd (q7q D a0) fun b↦qd (qqp D b.1.1) fun b↦qd (qut D b.2.1) fun b_1↦qd (q25 D a0 60 120) fun b_2↦qd (qcf D b_1.2.1 b_2.1.1) fun b_3↦lp0 b_3.1.1 0 ([],0,()) (b.1.1.1,b.1.1.2) b_1.1.1 [] b_3.2.1
def qps (D:DX)(n:Nat) (a0:List Int):Option tq15:=qp0 D n (qm7 D n) a0
def qef (x0 x1:Int) (x2 x3:tq40) (x4:List (List tq38)) (x5:List Int) (x6:tq35):St:=stq 47 [(2,AV.addr 2 []),(5,AV.addr 14 []),(6,AV.addr 6 []),(7,AV.brw 7 [] 0),(8,AV.brw 8 [] 0),(9,AV.val yq34 x0),(10,AV.val yq34 x1)] [(2,Root.mk yq23 kq29 x2 true),(6,Root.mk yq23 kq29 x3 true),(7,Root.mk yq18 kq31 x4 false),(8,Root.mk yq30 kq37 x5 false),(14,Root.mk yq20 Mk.no x6 true)]
def qi1 (a b:tq40) (c:List (List tq38)) (d:List Int):St:=stq 47 [(2,AV.addr 2 []),(6,AV.addr 6 []),(7,AV.brw 7 [] 0),(8,AV.brw 8 [] 0)] [(2,Root.mk yq23 kq29 a true),(6,Root.mk yq23 kq29 b true),(7,Root.mk yq18 kq31 c false),(8,Root.mk yq30 kq37 d false)]
def qnt (a b c d:Int) (e f:tq40) (g:List (List tq38)) (h:List Int) (i:tq35):St:=stq 47 [(2,AV.addr 2 []),(5,AV.addr 14 []),(6,AV.addr 6 []),(7,AV.brw 7 [] 0),(8,AV.brw 8 [] 0),(9,AV.val yq34 a),(10,AV.val yq34 b),(11,AV.val yq34 c),(12,AV.val yq34 d)] [(2,Root.mk yq23 kq29 e true),(6,Root.mk yq23 kq29 f true),(7,Root.mk yq18 kq31 g false),(8,Root.mk yq30 kq37 h false),(14,Root.mk yq20 Mk.no i true)]
def qt8 (a b:Int) (c d:tq40) (e:List (List tq38)) (f:List Int) (g:tq35):St:=stq 47 [(2,AV.addr 2 []),(5,AV.addr 14 []),(6,AV.addr 6 []),(7,AV.brw 7 [] 0),(8,AV.brw 8 [] 0),(9,AV.val yq34 a),(10,AV.val yq34 b)] [(2,Root.mk yq23 kq29 c true),(6,Root.mk yq23 kq29 d true),(7,Root.mk yq18 kq31 e false),(8,Root.mk yq30 kq37 f false),(14,Root.mk yq20 Mk.no g true)]
theorem qbam (D:DX)(n:Nat) (K:KT 13):∀ (m:Nat) (h i j k:Int) (l o:tq40) (p:List (List tq38)) (q:List Int) (r:tq35),LF D n 13 pq8 m (qnt h i j k l o p q r) K=qhu D n (fun a b c d e f g=>K (Ex.exit 2) (qt8 a b c d e f g)) m h i j k l o p q r:=eL9 (fun F=>qoc D n F (fun a b c d e f g=>K (Ex.exit 2) (qt8 a b c d e f g))) (fun _ _ _ _ _ _ _ _ _ =>qz ..) (fun _ _ _ _ _ _ _ _ _ _ =>by kernel_rfl) (fun _ _ _ _ _ _ _ _ _ _ =>rfl)
theorem q9k (D:DX)(n:Nat) (m:Nat) (K:KT 13) (a b c d:Int) (e f:tq40) (g:List (List tq38)) (h:List Int) (i:tq35):LF D n 13 pq8 n (qnt a b c d e f g h i) (CF D n 13 [.r,.r,.r,.r,.r,.r,.l,.r,.l,.l] [.r,.l,.l,.r,.r,.l] (KF D n 13 pq4 m K))=qmn D n (fun x0 x1 x2 x3 x4 x5 x6=>LF D n 13 pq4 m (qef x0 x1 x2 x3 x4 x5 x6) K) (fun j k o p=>K (Ex.exit 0) (qi1 j k o p)) a b c d e f g h i :=by rw[qbam];kernel_rfl
theorem qbao (D:DX)(n:Nat) (m:Nat) (K:KT 13) (x0) (x1) (x2) (x3) (x4:List (List tq38)) (x5) (x6):LF D n 13 pq4 (m+1) (qef x0 x1 x2 x3 x4 x5 x6) K=qnu D n (fun x0 x1 x2 x3 x4 x5 x6=>LF D n 13 pq4 m (qef x0 x1 x2 x3 x4 x5 x6) K) (fun a b c d=>K (Ex.exit 0) (qi1 a b c d)) (fun e f g h i j k o p=>LF D n 13 pq8 n (qnt e f g h i j k o p) (CF D n 13 [.r,.r,.r,.r,.r,.r,.l,.r,.l,.l] [.r,.l,.l,.r,.r,.l] (KF D n 13 pq4 m K))) x0 x1 x2 x3 x4 x5 x6:=by kernel_rfl
theorem qvx (D:DX)(n:Nat) (K:KT 13):∀ (m:Nat) (x0 x1:Int) (x2 x3:tq40) (x4:List (List tq38)) (x5:List Int) (x6:tq35),LF D n 13 pq4 m (qef x0 x1 x2 x3 x4 x5 x6) K=qdd D n (fun a b c d=>K (Ex.exit 0) (qi1 a b c d)) m x0 x1 x2 x3 x4 x5 x6
 | 0,x0,x1,x2,x3,x4,x5,x6=>qz ..
 | m+1,x0,x1,x2,x3,x4,x5,x6=>by
  have ih:(fun x0 x1 x2 x3 x4 x5 x6=>LF D n 13 pq4 m (qef x0 x1 x2 x3 x4 x5 x6) K)=qdd D n (fun a b c d=>K (Ex.exit 0) (qi1 a b c d)) m:=by funext x0 x1 x2 x3 x4 x5 x6;exact qvx D n K m x0 x1 x2 x3 x4 x5 x6
  rw[qbao]
  simp only[q9k]
  rw[ih];rfl
theorem q92 (D:DX)(n:Nat) (x0) (x1) (x2) (x3) (x4:List (List tq38)) (x5) (x6):LF D n 13 pq4 n (qef x0 x1 x2 x3 x4 x5 x6) (CF D n 13 [] pq4 (lF 13))=qm7 D n x0 x1 x2 x3 x4 x5 x6 :=by rw[qvx];kernel_rfl
theorem qbd0 (D:DX)(n:Nat) (a0:List Int):rF D n 13 (a0,())=qps D n a0:=by
 have h:rF D n 13 (a0,())=qp0 D n (fun x0 x1 x2 x3 x4 x5 x6=>LF D n 13 pq4 n (qef x0 x1 x2 x3 x4 x5 x6) (CF D n 13 [] pq4 (lF 13))) a0:=by kernel_rfl
 rw[h]
 simp only[q92]
 rfl

def qra (D:DX)(n:Nat) (go:Bool→List (List tq38)→Int→Int→tq5→tq5→Option tq0) (K0:Bool→tq5→tq5→Option tq0) (x0:Bool) (x1:List (List tq38)) (x2 x3:Int) (x4 x5:tq5):Option tq0:=br (decide (x3<x2)) (br (decide (0≤x3)&&decide (x3<(x1.length:Int))) (qd (q7c D (List.getD x1 x3.toNat [])) fun b↦br (decide (x5.2.1.length+1≤qb6)) (go x0 x1 x2 (wrap .i64 (x3+1)) x4 (x5.1,x5.2.1++[(b.1.1.1,b.1.1.2.1,b.1.1.2.2.1,b.1.1.2.2.2.1,b.1.1.2.2.2.2.1,())],x5.2.2)) none) none) (K0 x0 x4 x5)
def qi6 (D:DX)(n:Nat) (K0:Bool→tq5→tq5→Option tq0):Nat→Bool→(List (List tq38))→Int→Int→tq5→tq5→Option tq0 | 0=>(fun x0 x1 x2 x3 x4 x5=>none) | m+1=>(fun x0 x1 x2 x3 x4 x5=>qra D n (qi6 D n K0 m) K0 x0 x1 x2 x3 x4 x5)
def qyd (D:DX)(n:Nat) (c:Bool) (d a:tq5):Option tq0:=br (!c) (some (((([],[],()),[],0,[],[],([],0,()),()),false,()),())) (qd (qc6 D ((a.1.1,a.1.2.1,()),a.2.1,a.2.2.1,a.2.2.2.1,a.2.2.2.2.1,(a.2.2.2.2.2.1.1,a.2.2.2.2.2.1.2),())) fun b↦br (!b.1.1) (some (((([],[],()),[],0,[],[],([],0,()),()),false,()),())) (some ((((a.1.1,a.1.2.1,()),a.2.1,a.2.2.1,a.2.2.2.1,a.2.2.2.2.1,(a.2.2.2.2.2.1.1,a.2.2.2.2.2.1.2),()),true,()),())))
def qpg (D:DX)(n:Nat):(Bool)→(List (List tq38))→(Int)→(Int)→tq5→tq5→Option tq0:=(fun x0 x1 x2 x3 x4 x5=>qi6 D n (fun a b c=>qyd D n a b c) n x0 x1 x2 x3 x4 x5)
def qtt (D:DX)(n:Nat) (lp0:Bool→List (List tq38)→Int→Int→tq5→tq5→Option tq0) (a0:tq40) (a1:List (List tq38)):Option tq0:=qd (q3u D a0 (a1.length:Int)) fun b↦qd (qjn D a0) fun b_1↦lp0 b.1.2.1 a1 (a1.length:Int) 0 (([],[],()),[],0,[],[],([],0,()),()) ((b.1.1.1,b.1.1.2.1,()),[],0,[],[],(b_1.1.1.1,b_1.1.1.2),())
def qtq (D:DX)(n:Nat) (a0:tq40) (a1:List (List tq38)):Option tq0:=qtt D n (qpg D n) a0 a1
def qrg (x0:Bool) (x1:List (List tq38)) (x2 x3:Int) (x4 x5:tq5):St:=stq 45 [(4,AV.addr 4 []),(7,AV.val Ty.bool x0),(8,AV.addr 8 []),(22,AV.val yq18 x1),(23,AV.val yq34 x2),(24,AV.val yq34 x3)] [(4,Root.mk yq0 kq1 x4 true),(8,Root.mk yq0 kq2 x5 true)]
def qxd (a:Bool) (b c:tq5):St:=stq 45 [(4,AV.addr 4 []),(7,AV.val Ty.bool a),(8,AV.addr 8 [])] [(4,Root.mk yq0 kq1 b true),(8,Root.mk yq0 kq2 c true)]
theorem qbdz (D:DX)(n:Nat) (K:KT 14):∀ (m:Nat) (x0:Bool) (x1:List (List tq38)) (x2 x3:Int) (x4 x5:tq5),LF D n 14 pq1 m (qrg x0 x1 x2 x3 x4 x5) K=qi6 D n (fun a b c=>K (Ex.exit 0) (qxd a b c)) m x0 x1 x2 x3 x4 x5:=eL6 (fun F=>qra D n F (fun a b c=>K (Ex.exit 0) (qxd a b c))) (fun _ _ _ _ _ _ =>qz ..) (fun _ _ _ _ _ _ _ =>by kernel_rfl) (fun _ _ _ _ _ _ _ =>rfl)
theorem qbcd (D:DX)(n:Nat) (x0) (x1:List (List tq38)) (x2) (x3) (x4) (x5):LF D n 14 pq1 n (qrg x0 x1 x2 x3 x4 x5) (CF D n 14 [] pq1 (lF 14))=qpg D n x0 x1 x2 x3 x4 x5 :=by rw[qbdz];kernel_rfl
theorem qbg4 (D:DX)(n:Nat) (a0:tq40) (a1:List (List tq38)):rF D n 14 (a0,(a1,()))=qtq D n a0 a1:=by
 have h:rF D n 14 (a0,(a1,()))=qtt D n (fun x0 x1 x2 x3 x4 x5=>LF D n 14 pq1 n (qrg x0 x1 x2 x3 x4 x5) (CF D n 14 [] pq1 (lF 14))) a0 a1:=by kernel_rfl
 rw[h]
 simp only[qbcd]
 rfl

def qrp (D:DX)(n:Nat) (go:List (List tq38)→Bool→Int→tq5→tq5→Option tq0) (K0:Bool→tq5→tq5→Option tq0) (x0:List (List tq38)) (x1:Bool) (x2:Int) (x3 x4:tq5):Option tq0:=br (decide (x2<(x0.length:Int))) (br (decide (0≤x2)&&decide (x2<(x0.length:Int))) (qd (q61 D (List.getD x0 x2.toNat [])) fun b↦br (decide (x4.2.1.length+1≤qb6)) (go x0 x1 (wrap .i64 (x2+1)) x3 (x4.1,x4.2.1++[(b.1.1.1,b.1.1.2.1,b.1.1.2.2.1,b.1.1.2.2.2.1,b.1.1.2.2.2.2.1,())],x4.2.2)) none) none) (K0 x1 x3 x4)
def qi7 (D:DX)(n:Nat) (K0:Bool→tq5→tq5→Option tq0):Nat→(List (List tq38))→Bool→Int→tq5→tq5→Option tq0 | 0=>(fun x0 x1 x2 x3 x4=>none) | m+1=>(fun x0 x1 x2 x3 x4=>qrp D n (qi7 D n K0 m) K0 x0 x1 x2 x3 x4)
def qwq (D:DX)(n:Nat) (c:Bool) (d a:tq5):Option tq0:=br (!c) (some (((([],[],()),[],0,[],[],([],0,()),()),false,()),())) (qd (qvq D ((a.1.1,a.1.2.1,()),a.2.1,a.2.2.1,a.2.2.2.1,a.2.2.2.2.1,(a.2.2.2.2.2.1.1,a.2.2.2.2.2.1.2),())) fun b↦br (!b.1.1) (some (((([],[],()),[],0,[],[],([],0,()),()),false,()),())) (some ((((a.1.1,a.1.2.1,()),a.2.1,a.2.2.1,a.2.2.2.1,a.2.2.2.2.1,(a.2.2.2.2.2.1.1,a.2.2.2.2.2.1.2),()),true,()),())))
def qpk (D:DX)(n:Nat):(List (List tq38))→(Bool)→(Int)→tq5→tq5→Option tq0:=(fun x0 x1 x2 x3 x4=>qi7 D n (fun a b c=>qwq D n a b c) n x0 x1 x2 x3 x4)
def qtk (D:DX)(n:Nat) (lp0:List (List tq38)→Bool→Int→tq5→tq5→Option tq0) (a0:tq40) (a1:List (List tq38)):Option tq0:=qd (q3e D a0 (a1.length:Int)) fun b↦qd (q3w D a0) fun b_1↦lp0 a1 b.1.2.1 0 (([],[],()),[],0,[],[],([],0,()),()) ((b.1.1.1,b.1.1.2.1,()),[],0,[],[],(b_1.1.1.1,b_1.1.1.2),())
def qsv (D:DX)(n:Nat) (a0:tq40) (a1:List (List tq38)):Option tq0:=qtk D n (qpk D n) a0 a1
def qrh (x0:List (List tq38)) (x1:Bool) (x2:Int) (x3 x4:tq5):St:=stq 46 [(1,AV.val yq18 x0),(4,AV.addr 4 []),(7,AV.val Ty.bool x1),(8,AV.addr 8 []),(9,AV.val yq34 x2)] [(4,Root.mk yq0 kq1 x3 true),(8,Root.mk yq0 kq1 x4 true)]
def qx0 (a:Bool) (b c:tq5):St:=stq 46 [(4,AV.addr 4 []),(7,AV.val Ty.bool a),(8,AV.addr 8 [])] [(4,Root.mk yq0 kq1 b true),(8,Root.mk yq0 kq1 c true)]
theorem qbdo (D:DX)(n:Nat) (K:KT 15):∀ (m:Nat) (x0:List (List tq38)) (x1:Bool) (x2:Int) (x3 x4:tq5),LF D n 15 pq1 m (qrh x0 x1 x2 x3 x4) K=qi7 D n (fun a b c=>K (Ex.exit 0) (qx0 a b c)) m x0 x1 x2 x3 x4:=eL5 (fun F=>qrp D n F (fun a b c=>K (Ex.exit 0) (qx0 a b c))) (fun _ _ _ _ _ =>qz ..) (fun _ _ _ _ _ _ =>by kernel_rfl) (fun _ _ _ _ _ _ =>rfl)
theorem qbb2 (D:DX)(n:Nat) (x0:List (List tq38)) (x1) (x2) (x3) (x4):LF D n 15 pq1 n (qrh x0 x1 x2 x3 x4) (CF D n 15 [] pq1 (lF 15))=qpk D n x0 x1 x2 x3 x4 :=by rw[qbdo];kernel_rfl
theorem qbh5 (D:DX)(n:Nat) (a0:tq40) (a1:List (List tq38)):rF D n 15 (a0,(a1,()))=qsv D n a0 a1:=by
 have h:rF D n 15 (a0,(a1,()))=qtk D n (fun x0 x1 x2 x3 x4=>LF D n 15 pq1 n (qrh x0 x1 x2 x3 x4) (CF D n 15 [] pq1 (lF 15))) a0 a1:=by kernel_rfl
 rw[h]
 simp only[qbb2]
 rfl

def q7k (D:DX)(n:Nat) (go:List Int→Int→Int→tq5→tq5→Option tq3) (K0:tq5→tq5→Option tq3) (x0:List Int) (x1 x2:Int) (x3 x4:tq5):Option tq3:=br (decide (x2<x1)) (br (decide (0≤x2)&&decide (x2<(x0.length:Int))) (qd (qt9 D x3 (List.getD x0 x2.toNat 0)) fun b↦go x0 x1 (wrap .i64 (x2+1)) b.1.1 x4) none) (K0 x3 x4)
def qro (D:DX)(n:Nat) (K0:tq5→tq5→Option tq3):Nat→(List Int)→Int→Int→tq5→tq5→Option tq3 | 0=>(fun x0 x1 x2 x3 x4=>none) | m+1=>(fun x0 x1 x2 x3 x4=>q7k D n (qro D n K0 m) K0 x0 x1 x2 x3 x4)
def qboi (D:DX)(n:Nat) (a b:tq5):Option tq3:=some ((a,()),())
def q3d (D:DX)(n:Nat):(List Int)→(Int)→(Int)→tq5→tq5→Option tq3:=(fun x0 x1 x2 x3 x4=>qro D n (fun a b=>qboi D n a b) n x0 x1 x2 x3 x4)
def q9y (D:DX)(n:Nat) (lp0:List Int→Int→Int→tq5→tq5→Option tq3) (a0:tq5) (a1:List Int):Option tq3:=qd (qji D a0) fun b↦br (decide ((a1.length:Int)>2000)) (some ((((b.1.1.1.1,b.1.1.1.2.1,()),b.1.1.2.1,b.1.1.2.2.1,b.1.1.2.2.2.1,b.1.1.2.2.2.2.1,b.1.1.2.2.2.2.2),()),())) (lp0 a1 (a1.length:Int) 0 ((b.1.1.1.1,b.1.1.1.2.1,()),b.1.1.2.1,b.1.1.2.2.1,b.1.1.2.2.2.1,b.1.1.2.2.2.2.1,b.1.1.2.2.2.2.2) (([],[],()),[],0,[],[],([],0,()),()))
def q9q (D:DX)(n:Nat) (a0:tq5) (a1:List Int):Option tq3:=q9y D n (q3d D n) a0 a1
def q6y (x0:List Int) (x1 x2:Int) (x3 x4:tq5):St:=stq 27 [(2,AV.addr 2 []),(4,AV.addr 4 []),(13,AV.val yq30 x0),(14,AV.val yq34 x1),(15,AV.val yq34 x2)] [(2,Root.mk yq0 Mk.no x3 true),(4,Root.mk yq0 kq1 x4 true)]
def qba8 (a b:tq5):St:=stq 27 [(2,AV.addr 2 []),(4,AV.addr 4 [])] [(2,Root.mk yq0 Mk.no a true),(4,Root.mk yq0 kq1 b true)]
theorem qbr8 (D:DX)(n:Nat) (K:KT 16):∀ (m:Nat) (x0:List Int) (x1 x2:Int) (x3 x4:tq5),LF D n 16 pq1 m (q6y x0 x1 x2 x3 x4) K=qro D n (fun a b=>K (Ex.exit 0) (qba8 a b)) m x0 x1 x2 x3 x4:=eL5 (fun F=>q7k D n F (fun a b=>K (Ex.exit 0) (qba8 a b))) (fun _ _ _ _ _ =>qz ..) (fun _ _ _ _ _ _ =>by kernel_rfl) (fun _ _ _ _ _ _ =>rfl)
theorem qboh (D:DX)(n:Nat) (x0) (x1) (x2) (x3) (x4):LF D n 16 pq1 n (q6y x0 x1 x2 x3 x4) (CF D n 16 [] pq1 (lF 16))=q3d D n x0 x1 x2 x3 x4 :=by rw[qbr8];kernel_rfl
theorem qbw5 (D:DX)(n:Nat) (a0:tq5) (a1:List Int):rF D n 16 (a0,(a1,()))=q9q D n a0 a1:=by
 have h:rF D n 16 (a0,(a1,()))=q9y D n (fun x0 x1 x2 x3 x4=>LF D n 16 pq1 n (q6y x0 x1 x2 x3 x4) (CF D n 16 [] pq1 (lF 16))) a0 a1:=by kernel_rfl
 rw[h]
 simp only[qboh]
 rfl

def qtz (D:DX)(n:Nat) (a0:tq13):Option tq42:=some ((decide (a0.2.1=(a0.1.length:Int)),()),())
def qmj (D:DX)(n:Nat) (a0:tq13):Option tq42:=qtz D n a0
theorem qbg3 (D:DX)(n:Nat) (a0:tq13):rF D n 17 (a0,())=qmj D n a0:=by kernel_rfl

def q8u (D:DX)(n:Nat) (a0:tq5):Option tq42:=qd (q0q D a0) fun b↦br b.1.1 (qd (qs8 D a0) fun b↦br b.1.1 (qd (qtp D a0) fun b↦some ((b.1.1,()),())) (some ((false,()),()))) (some ((false,()),()))
def qyc (D:DX)(n:Nat) (a0:tq5):Option tq42:=q8u D n a0
theorem qbll (D:DX)(n:Nat) (a0:tq5):rF D n 20 (a0,())=qyc D n a0:=by kernel_rfl

def qwh (D:DX)(n:Nat) (go:List tq38→List tq18→Int→Int→List Int→Option tq37) (K0:List Int→Option tq37) (x0:List tq38) (x1:List tq18) (x2 x3:Int) (x4:List Int):Option tq37:=br (decide (x3<x2)) (qd (q1g D x0 x1 x3) fun b↦br (decide (x4.length+1≤qb6)) (go x0 x1 x2 (wrap .i64 (x3+1)) (x4++[b.1.1])) none) (K0 x4)
def ql2 (D:DX)(n:Nat) (K0:List Int→Option tq37):Nat→(List tq38)→(List tq18)→Int→Int→(List Int)→Option tq37 | 0=>(fun x0 x1 x2 x3 x4=>none) | m+1=>(fun x0 x1 x2 x3 x4=>qwh D n (ql2 D n K0 m) K0 x0 x1 x2 x3 x4)
def qbhi (D:DX)(n:Nat) (a:List Int):Option tq37:=some ((a,()),())
def quv (D:DX)(n:Nat):(List tq38)→(List tq18)→(Int)→(Int)→(List Int)→Option tq37:=(fun x0 x1 x2 x3 x4=>ql2 D n (fun a=>qbhi D n a) n x0 x1 x2 x3 x4)
def qzq (D:DX)(n:Nat) (lp0:List tq38→List tq18→Int→Int→List Int→Option tq37) (a0:List tq38) (a1:List tq18):Option tq37:=lp0 a0 a1 (a0.length:Int) 0 []
def qy9 (D:DX)(n:Nat) (a0:List tq38) (a1:List tq18):Option tq37:=qzq D n (quv D n) a0 a1
def qxq (x0:List tq38) (x1:List tq18) (x2 x3:Int) (x4:List Int):St:=stq 22 [(0,AV.val yq19 x0),(1,AV.val yq8 x1),(5,AV.brw 5 [] 0),(9,AV.val yq34 x2),(10,AV.val yq34 x3)] [(5,Root.mk yq30 kq37 x4 false)]
def q4e (a:List Int):St:=stq 22 [(5,AV.brw 5 [] 0)] [(5,Root.mk yq30 kq37 a false)]
theorem qbi2 (D:DX)(n:Nat) (K:KT 23):∀ (m:Nat) (x0:List tq38) (x1:List tq18) (x2 x3:Int) (x4:List Int),LF D n 23 pq0 m (qxq x0 x1 x2 x3 x4) K=ql2 D n (fun a=>K (Ex.exit 0) (q4e a)) m x0 x1 x2 x3 x4:=eL5 (fun F=>qwh D n F (fun a=>K (Ex.exit 0) (q4e a))) (fun _ _ _ _ _ =>qz ..) (fun _ _ _ _ _ _ =>by kernel_rfl) (fun _ _ _ _ _ _ =>rfl)
theorem qbhl (D:DX)(n:Nat) (x0) (x1) (x2) (x3) (x4):LF D n 23 pq0 n (qxq x0 x1 x2 x3 x4) (CF D n 23 [] pq0 (lF 23))=quv D n x0 x1 x2 x3 x4 :=by rw[qbi2];kernel_rfl
theorem qbnm (D:DX)(n:Nat) (a0:List tq38) (a1:List tq18):rF D n 23 (a0,(a1,()))=qy9 D n a0 a1:=by
 have h:rF D n 23 (a0,(a1,()))=qzq D n (fun x0 x1 x2 x3 x4=>LF D n 23 pq0 n (qxq x0 x1 x2 x3 x4) (CF D n 23 [] pq0 (lF 23))) a0 a1:=by kernel_rfl
 rw[h]
 simp only[qbhl]
 rfl

def qben (D:DX)(n:Nat) (a0 a1:tq17):Option tq42:=some ((bif decide (a0.2.2.2.2.1≥0) then decide (a0.2.2.2.2.1<a1.2.2.1) else false,()),())
def q6u (D:DX)(n:Nat) (a0 a1:tq17):Option tq42:=qben D n a0 a1
theorem qbti (D:DX)(n:Nat) (a0 a1:tq17):rF D n 29 (a0,(a1,()))=q6u D n a0 a1:=by kernel_rfl

def qql (D:DX)(n:Nat) (go:List tq17→Int→Int→List tq17→Int→Int→tq5→tq17→Option tq42) (K0:Bool→List tq17→Int→Int→tq5→Option tq42) (K1:List tq17→Int→Int→tq5→Option tq42) (d:List tq17) (e f:Int) (c:List tq17) (i a:Int) (g:tq5) (h:tq17):Option tq42:=br (decide (a<i)) (br (decide (0≤a)&&decide (a<(c.length:Int))) (br (decide ((List.getD c a.toNat (0,(0,0,0,()),0,0,0,(0,[],()),())).1=h.1)) (qd (qbeb D (List.getD c a.toNat (0,(0,0,0,()),0,0,0,(0,[],()),())) h) fun b↦br (!b.1.1) (K0 false d e f g) (go d e f c i (wrap .i64 (a+1)) g h)) (go d e f c i (wrap .i64 (a+1)) g h)) none) (K1 d e f g)
def qje (D:DX)(n:Nat) (K0:Bool→List tq17→Int→Int→tq5→Option tq42) (K1:List tq17→Int→Int→tq5→Option tq42):Nat→(List tq17)→Int→Int→(List tq17)→Int→Int→tq5→tq17→Option tq42 | 0=>(fun a b c d e f g h=>none) | m+1=>(fun a b c d e f g h=>qql D n (qje D n K0 K1 m) K0 K1 a b c d e f g h)
def qbb3 (D:DX)(n:Nat) (go:List tq17→Int→Int→tq5→Option tq42) (K0:Bool→Option tq42) (K1:Option tq42) (a:Bool) (b:List tq17) (c d:Int) (e:tq5):Option tq42:=K0 a
def qwi (D:DX)(n:Nat) (go:List tq17→Int→Int→tq5→Option tq42) (K0:Bool→Option tq42) (K1:Option tq42) (a:List tq17) (b c:Int) (d:tq5):Option tq42:=go a b (wrap .i64 (c+1)) d
def qpy (D:DX)(n:Nat) (go:List tq17→Int→Int→tq5→Option tq42) (K0:Bool→Option tq42) (K1:Option tq42):(List tq17)→(Int)→(Int)→(List tq17)→(Int)→(Int)→tq5→tq17→Option tq42:=(fun a b l m o p q r=>qje D n (fun c d e f g=>qbb3 D n go K0 K1 c d e f g) (fun h i j k=>qwi D n go K0 K1 h i j k) n a b l m o p q r)
def qrt (D:DX)(n:Nat) (go:List tq17→Int→Int→tq5→Option tq42) (K0:Bool→Option tq42) (K1:Option tq42) (lp1:List tq17→Int→Int→List tq17→Int→Int→tq5→tq17→Option tq42) (x0:List tq17) (x1 x2:Int) (x3:tq5):Option tq42:=let y0:=List.getD x0 x2.toNat (0,(0,0,0,()),0,0,0,(0,[],()),());let y1:=List.drop (Int.toNat 0) (List.take x2.toNat x3.2.2.2.1);br (decide (x2<x1)) (br (decide (0≤x2)&&decide (x2<(x0.length:Int))) (br (bif decide (y0.2.2.2.2.1≥0) then bif decide (y0.2.2.2.1<0) then true else decide (y0.2.2.2.1>y0.2.2.2.2.1) else false) (K0 false) (br (decide (0≤0)&&decide (0≤x2)&&decide (x2≤(x3.2.2.2.1.length:Int))) (lp1 x0 x1 x2 y1 (y1.length:Int) 0 x3 y0) none)) none) K1
def qfq (D:DX)(n:Nat) (K0:Bool→Option tq42) (K1:Option tq42):Nat→(List tq17)→Int→Int→tq5→Option tq42 | 0=>(fun x0 x1 x2 x3=>none) | m+1=>(fun x0 x1 x2 x3=>qrt D n (qfq D n K0 K1 m) K0 K1 (qpy D n (qfq D n K0 K1 m) K0 K1) x0 x1 x2 x3)
def qbck (D:DX)(n:Nat) (a:Bool):Option tq42:=some ((a,()),())
def qbb9 (D:DX)(n:Nat):Option tq42:=some ((true,()),())
def qpj (D:DX)(n:Nat):(List tq17)→(Int)→(Int)→tq5→Option tq42:=(fun x0 x1 x2 x3=>qfq D n (fun a=>qbck D n a) (qbb9 D n) n x0 x1 x2 x3)
def qtx (D:DX)(n:Nat) (lp0:List tq17→Int→Int→tq5→Option tq42) (a0:tq5):Option tq42:=qd (qc6 D a0) fun b↦br (!b.1.1) (some ((false,()),())) (lp0 a0.2.2.2.1 (a0.2.2.2.1.length:Int) 0 a0)
def qtd (D:DX)(n:Nat) (a0:tq5):Option tq42:=qtx D n (qpj D n) a0
def qfp (x0:List tq17) (x1 x2:Int) (x3:tq5):St:=stq 55 [(1,AV.addr 1 []),(11,AV.val yq6 x0),(12,AV.val yq34 x1),(13,AV.val yq34 x2)] [(1,Root.mk yq0 Mk.no x3 true)]
def qj5 (a:Bool):St:=stq 55 [(2,AV.val Ty.bool a)] []
def qj3:St:=stq 55 [] []
def qrw (a:List tq17) (b c:Int) (d:List tq17) (e f:Int) (g:tq5) (h:tq17):St:=stq 55 [(1,AV.addr 1 []),(4,AV.addr 4 []),(11,AV.val yq6 a),(12,AV.val yq34 b),(13,AV.val yq34 c),(36,AV.val yq6 d),(37,AV.val yq34 e),(38,AV.val yq34 f)] [(1,Root.mk yq0 Mk.no g true),(4,Root.mk yq7 Mk.no h true)]
def qyj (a:Bool) (b:List tq17) (c d:Int) (e:tq5):St:=stq 55 [(1,AV.addr 1 []),(2,AV.val Ty.bool a),(11,AV.val yq6 b),(12,AV.val yq34 c),(13,AV.val yq34 d)] [(1,Root.mk yq0 Mk.no e true)]
def qxv (a:List tq17) (b c:Int) (d:tq5):St:=stq 55 [(1,AV.addr 1 []),(11,AV.val yq6 a),(12,AV.val yq34 b),(13,AV.val yq34 c)] [(1,Root.mk yq0 Mk.no d true)]
theorem qbdl (D:DX)(n:Nat) (K:KT 30):∀ (m:Nat) (j:List tq17) (k l:Int) (o:List tq17) (p q:Int) (r:tq5) (s:tq17),LF D n 30 pq11 m (qrw j k l o p q r s) K=qje D n (fun a b c d e=>K (Ex.ret) (qyj a b c d e)) (fun f g h i=>K (Ex.exit 2) (qxv f g h i)) m j k l o p q r s:=eL8 (fun F=>qql D n F (fun a b c d e=>K (Ex.ret) (qyj a b c d e)) (fun f g h i=>K (Ex.exit 2) (qxv f g h i))) (fun _ _ _ _ _ _ _ _ =>qz ..) (fun _ _ _ _ _ _ _ _ _ =>by kernel_rfl) (fun _ _ _ _ _ _ _ _ _ =>rfl)
theorem qbcz (D:DX)(n:Nat) (m:Nat) (K:KT 30) (a:List tq17) (b c:Int) (d:List tq17) (e f:Int) (g:tq5) (h:tq17):LF D n 30 pq11 n (qrw a b c d e f g h) (CF D n 30 pq15 [.r,.r,.l,.l,.r,.r,.r,.l] (KF D n 30 pq0 m K))=qpy D n (fun x0 x1 x2 x3=>LF D n 30 pq0 m (qfp x0 x1 x2 x3) K) (fun i=>K (Ex.ret) (qj5 i)) (K (Ex.exit 0) (qj3)) a b c d e f g h :=by rw[qbdl];kernel_rfl
theorem qbdw (D:DX)(n:Nat) (m:Nat) (K:KT 30) (x0) (x1) (x2) (x3):LF D n 30 pq0 (m+1) (qfp x0 x1 x2 x3) K=qrt D n (fun x0 x1 x2 x3=>LF D n 30 pq0 m (qfp x0 x1 x2 x3) K) (fun a=>K (Ex.ret) (qj5 a)) (K (Ex.exit 0) (qj3)) (fun b c d e f g h i=>LF D n 30 pq11 n (qrw b c d e f g h i) (CF D n 30 pq15 [.r,.r,.l,.l,.r,.r,.r,.l] (KF D n 30 pq0 m K))) x0 x1 x2 x3:=by kernel_rfl
theorem qyy (D:DX)(n:Nat) (K:KT 30):∀ (m:Nat) (x0:List tq17) (x1 x2:Int) (x3:tq5),LF D n 30 pq0 m (qfp x0 x1 x2 x3) K=qfq D n (fun a=>K (Ex.ret) (qj5 a)) (K (Ex.exit 0) (qj3)) m x0 x1 x2 x3
 | 0,x0,x1,x2,x3=>qz ..
 | m+1,x0,x1,x2,x3=>by
  have ih:(fun x0 x1 x2 x3=>LF D n 30 pq0 m (qfp x0 x1 x2 x3) K)=qfq D n (fun a=>K (Ex.ret) (qj5 a)) (K (Ex.exit 0) (qj3)) m:=by funext x0 x1 x2 x3;exact qyy D n K m x0 x1 x2 x3
  rw[qbdw]
  simp only[qbcz]
  rw[ih];rfl
theorem qbcx (D:DX)(n:Nat) (x0) (x1) (x2) (x3):LF D n 30 pq0 n (qfp x0 x1 x2 x3) (CF D n 30 [] pq0 (lF 30))=qpj D n x0 x1 x2 x3 :=by rw[qyy];kernel_rfl
theorem qbgt (D:DX)(n:Nat) (a0:tq5):rF D n 30 (a0,())=qtd D n a0:=by
 have h:rF D n 30 (a0,())=qtx D n (fun x0 x1 x2 x3=>LF D n 30 pq0 n (qfp x0 x1 x2 x3) (CF D n 30 [] pq0 (lF 30))) a0:=by kernel_rfl
 rw[h]
 simp only[qbcx]
 rfl

def qbfp (D:DX)(n:Nat) (a0:tq40) (a1:Int):Option tq43:=qd (qi0 D a0.1 a1) fun b↦some ((b.1.1,()),())
def q7h (D:DX)(n:Nat) (a0:tq40) (a1:Int):Option tq43:=qbfp D n a0 a1
theorem qbvz (D:DX)(n:Nat) (a0:tq40) (a1:Int):rF D n 34 (a0,(a1,()))=q7h D n a0 a1:=by kernel_rfl

def qbfw (D:DX)(n:Nat) (a0:Int):Option tq43:=qd (qgm D a0) fun b↦qd (qcp D) fun b_1↦qd (qlg D b.1.1 (wrap .i64 (b_1.1.1+a0))) fun b↦some ((b.1.1,()),())
def q7g (D:DX)(n:Nat) (a0:Int):Option tq43:=qbfw D n a0
theorem qbum (D:DX)(n:Nat) (a0:Int):rF D n 35 (a0,())=q7g D n a0:=by kernel_rfl


def qv7 (D:DX)(n:Nat) (go:Int→Int→List Int→Int→Int→Option tq43) (K0:Int→Option tq43) (x0 x1:Int) (x2:List Int) (x3 x4:Int):Option tq43:=br (decide (x4<x3)) (br (decide (0≤x4)&&decide (x4<(x2.length:Int))) (qd (qgm D (List.getD x2 x4.toNat 0)) fun b↦br b.1.1 (qd (qcq D (List.getD x2 x4.toNat 0)) fun b↦br (decide (b.1.1=x0)) (go x0 (wrap .i64 (x1+1)) x2 x3 (wrap .i64 (x4+1))) (go x0 x1 x2 x3 (wrap .i64 (x4+1)))) (go x0 x1 x2 x3 (wrap .i64 (x4+1)))) none) (K0 x1)
def ql5 (D:DX)(n:Nat) (K0:Int→Option tq43):Nat→Int→Int→(List Int)→Int→Int→Option tq43 | 0=>(fun x0 x1 x2 x3 x4=>none) | m+1=>(fun x0 x1 x2 x3 x4=>qv7 D n (ql5 D n K0 m) K0 x0 x1 x2 x3 x4)
def q4j (D:DX)(n:Nat) (a:Int):Option tq43:=some ((a,()),())
def qu8 (D:DX)(n:Nat):(Int)→(Int)→(List Int)→(Int)→(Int)→Option tq43:=(fun x0 x1 x2 x3 x4=>ql5 D n (fun a=>q4j D n a) n x0 x1 x2 x3 x4)
def qzr (D:DX)(n:Nat) (lp0:Int→Int→List Int→Int→Int→Option tq43) (a0:tq40) (a1:Int):Option tq43:=lp0 a1 0 a0.1 (a0.1.length:Int) 0
def q1l (D:DX)(n:Nat) (a0:tq40) (a1:Int):Option tq43:=qzr D n (qu8 D n) a0 a1
def qyb (x0 x1:Int) (x2:List Int) (x3 x4:Int):St:=stq 27 [(1,AV.val yq34 x0),(5,AV.val yq34 x1),(9,AV.val yq30 x2),(10,AV.val yq34 x3),(11,AV.val yq34 x4)] []
def q4k (a:Int):St:=stq 27 [(5,AV.val yq34 a)] []
theorem qbj0 (D:DX)(n:Nat) (K:KT 37):∀ (m:Nat) (x0 x1:Int) (x2:List Int) (x3 x4:Int),LF D n 37 pq0 m (qyb x0 x1 x2 x3 x4) K=ql5 D n (fun a=>K (Ex.exit 0) (q4k a)) m x0 x1 x2 x3 x4:=eL5 (fun F=>qv7 D n F (fun a=>K (Ex.exit 0) (q4k a))) (fun _ _ _ _ _ =>qz ..) (fun _ _ _ _ _ _ =>by kernel_rfl) (fun _ _ _ _ _ _ =>rfl)
theorem qbho (D:DX)(n:Nat) (x0) (x1) (x2) (x3) (x4):LF D n 37 pq0 n (qyb x0 x1 x2 x3 x4) (CF D n 37 [] pq0 (lF 37))=qu8 D n x0 x1 x2 x3 x4 :=by rw[qbj0];kernel_rfl
theorem qbpf (D:DX)(n:Nat) (a0:tq40) (a1:Int):rF D n 37 (a0,(a1,()))=q1l D n a0 a1:=by
 have h:rF D n 37 (a0,(a1,()))=qzr D n (fun x0 x1 x2 x3 x4=>LF D n 37 pq0 n (qyb x0 x1 x2 x3 x4) (CF D n 37 [] pq0 (lF 37))) a0 a1:=by kernel_rfl
 rw[h]
 simp only[qbho]
 rfl

def qbe7 (D:DX)(n:Nat) (a0:tq40) (a1:tq38) (a2:tq41):Option tq31:=qd (qjn D a0) fun b↦let a:Option tq31:=br (decide (a1.1=3)) (br (decide (0≤a1.2.1)&&decide (a1.2.1<(b.1.1.1.length:Int))) (some (((List.set b.1.1.1 a1.2.1.toNat 0,b.1.1.2),()),())) none) (br (decide (a1.1=8)) (br (decide (a1.1=8)) (some (((b.1.1.1,wrap .i64 (b.1.1.2.1+1),b.1.1.2.2),()),())) (some (((b.1.1.1,b.1.1.2),()),()))) (br (decide (a1.1=9)) (some (((b.1.1.1,wrap .i64 (b.1.1.2.1+1),b.1.1.2.2),()),())) (some (((b.1.1.1,b.1.1.2),()),()))));let c:Option tq31:=br (decide (0≤a1.2.1)&&decide (a1.2.1<(b.1.1.1.length:Int))) (some (((List.set b.1.1.1 a1.2.1.toNat a1.2.2.1,b.1.1.2),()),())) none;qd (qr7 D a0 a1 a2) fun b_1↦br (bif !b_1.1.1 then true else a2.1 != 0) (some (((b.1.1.1,b.1.1.2),()),())) (br (decide (a1.1=1)) (br (decide (a1.1=1)) c a) (br (decide (a1.1=2)) c a))
def q6w (D:DX)(n:Nat) (a0:tq40) (a1:tq38) (a2:tq41):Option tq31:=qbe7 D n a0 a1 a2
theorem qbwi (D:DX)(n:Nat) (a0:tq40) (a1:tq38) (a2:tq41):rF D n 38 (a0,(a1,(a2,())))=q6w D n a0 a1 a2:=by kernel_rfl

def q1e (D:DX)(n:Nat) (go:Bool→List Int→Int→Int→tq5→tq40→tq40→Option tq27) (K0:Bool→tq40→tq40→Option tq27) (x0:Bool) (x1:List Int) (x2 x3:Int) (x4:tq5) (x5 x6:tq40):Option tq27:=let y0:=List.getD x4.2.2.2.1 (Int.toNat (List.getD x1 x3.toNat 0)) (0,(0,0,0,()),0,0,0,(0,[],()),());br (decide (x3<x2)) (br (decide (0≤x3)&&decide (x3<(x1.length:Int))) (br (decide (0≤List.getD x1 x3.toNat 0)&&decide (List.getD x1 x3.toNat 0<(x4.2.2.2.1.length:Int))) (br x0 (qd (qr7 D (x6.1,x6.2) y0.2.1 y0.2.2.2.2.2.1) fun b↦qd (qwd D (x6.1,x6.2) y0.2.1 y0.2.2.2.2.2.1) fun b_1↦go b.1.1 x1 x2 (wrap .i64 (x3+1)) x4 x5 (b_1.1.1.1,b_1.1.1.2)) (qd (qwd D (x6.1,x6.2) y0.2.1 y0.2.2.2.2.2.1) fun b↦go false x1 x2 (wrap .i64 (x3+1)) x4 x5 (b.1.1.1,b.1.1.2))) none) none) (K0 x0 x5 x6)
def qmq (D:DX)(n:Nat) (K0:Bool→tq40→tq40→Option tq27):Nat→Bool→(List Int)→Int→Int→tq5→tq40→tq40→Option tq27 | 0=>(fun x0 x1 x2 x3 x4 x5 x6=>none) | m+1=>(fun x0 x1 x2 x3 x4 x5 x6=>q1e D n (qmq D n K0 m) K0 x0 x1 x2 x3 x4 x5 x6)
def qbjl (D:DX)(n:Nat) (b:Bool) (c a:tq40):Option tq27:=some (((a.1,a.2),b,()),())
def qyf (D:DX)(n:Nat):(Bool)→(List Int)→(Int)→(Int)→tq5→tq40→tq40→Option tq27:=(fun x0 x1 x2 x3 x4 x5 x6=>qmq D n (fun a b c=>qbjl D n a b c) n x0 x1 x2 x3 x4 x5 x6)
def q2t (D:DX)(n:Nat) (lp0:Bool→List Int→Int→Int→tq5→tq40→tq40→Option tq27) (a0:tq5):Option tq27:=qd (qc6 D a0) fun b↦br (!b.1.1) (some ((([],0,()),false,()),())) (qd (qjn D a0.2.2.2.2.2.1) fun b↦lp0 true a0.2.2.2.2.1 (a0.2.2.2.2.1.length:Int) 0 a0 ([],0,()) (b.1.1.1,b.1.1.2))
def q36 (D:DX)(n:Nat) (a0:tq5):Option tq27:=q2t D n (qyf D n) a0
def qzd (x0:Bool) (x1:List Int) (x2 x3:Int) (x4:tq5) (x5 x6:tq40):St:=stq 46 [(1,AV.addr 1 []),(2,AV.addr 2 []),(4,AV.addr 4 []),(5,AV.val Ty.bool x0),(17,AV.val yq30 x1),(18,AV.val yq34 x2),(19,AV.val yq34 x3)] [(1,Root.mk yq0 Mk.no x4 true),(2,Root.mk yq23 kq29 x5 true),(4,Root.mk yq23 kq29 x6 true)]
def q7x (a:Bool) (b c:tq40):St:=stq 46 [(2,AV.addr 2 []),(4,AV.addr 4 []),(5,AV.val Ty.bool a)] [(2,Root.mk yq23 kq29 b true),(4,Root.mk yq23 kq29 c true)]
theorem qblr (D:DX)(n:Nat) (K:KT 39):∀ (m:Nat) (x0:Bool) (x1:List Int) (x2 x3:Int) (x4:tq5) (x5 x6:tq40),LF D n 39 pq3 m (qzd x0 x1 x2 x3 x4 x5 x6) K=qmq D n (fun a b c=>K (Ex.exit 0) (q7x a b c)) m x0 x1 x2 x3 x4 x5 x6:=eL7 (fun F=>q1e D n F (fun a b c=>K (Ex.exit 0) (q7x a b c))) (fun _ _ _ _ _ _ _ =>qz ..) (fun _ _ _ _ _ _ _ _ =>by kernel_rfl) (fun _ _ _ _ _ _ _ _ =>rfl)
theorem qbjd (D:DX)(n:Nat) (x0) (x1) (x2) (x3) (x4) (x5) (x6):LF D n 39 pq3 n (qzd x0 x1 x2 x3 x4 x5 x6) (CF D n 39 [] pq3 (lF 39))=qyf D n x0 x1 x2 x3 x4 x5 x6 :=by rw[qblr];kernel_rfl
theorem qbsb (D:DX)(n:Nat) (a0:tq5):rF D n 39 (a0,())=q36 D n a0:=by
 have h:rF D n 39 (a0,())=q2t D n (fun x0 x1 x2 x3 x4 x5 x6=>LF D n 39 pq3 n (qzd x0 x1 x2 x3 x4 x5 x6) (CF D n 39 [] pq3 (lF 39))) a0:=by kernel_rfl
 rw[h]
 simp only[qbjd]
 rfl

def qs2 (D:DX)(n:Nat) (go:Int→List tq17→Int→Int→tq5→Option tq42) (K0:Bool→Int→tq5→Option tq42) (K1:Int→tq5→Option tq42) (x0:Int) (x1:List tq17) (x2 x3:Int) (x4:tq5):Option tq42:=let y0:=List.getD x1 x3.toNat (0,(0,0,0,()),0,0,0,(0,[],()),());br (decide (x3<x2)) (br (decide (0≤x3)&&decide (x3<(x1.length:Int))) (qd (qbl D y0.1 0 (wrap .i64 (x0 - 1))) fun b↦br (!b.1.1) (K0 false x0 x4) (qd (qj9 D y0.2.1) fun b↦br (!b.1.1) (K0 false x0 x4) (qd (qbl D y0.2.2.1 0 x4.2.2.1) fun b↦br (!b.1.1) (K0 false x0 x4) (qd (qlu D y0 y0.2.2.2.1 x4) fun b↦br (!b.1.1) (K0 false x0 x4) (qd (qlu D y0 y0.2.2.2.2.1 x4) fun b↦br (!b.1.1) (K0 false x0 x4) (go x0 x1 x2 (wrap .i64 (x3+1)) x4)))))) none) (K1 x0 x4)
def qjz (D:DX)(n:Nat) (K0:Bool→Int→tq5→Option tq42) (K1:Int→tq5→Option tq42):Nat→Int→(List tq17)→Int→Int→tq5→Option tq42 | 0=>(fun x0 x1 x2 x3 x4=>none) | m+1=>(fun x0 x1 x2 x3 x4=>qs2 D n (qjz D n K0 K1 m) K0 K1 x0 x1 x2 x3 x4)
def qyw (D:DX)(n:Nat) (a:Bool) (b:Int) (c:tq5):Option tq42:=some ((a,()),())
def qsy (D:DX)(n:Nat) (go:Int→List tq13→Int→Int→tq5→Option tq42) (K0:Bool→tq5→Option tq42) (K1:tq5→Option tq42) (e:Int) (d:List tq13) (f a:Int) (c:tq5):Option tq42:=br (decide (a<f)) (br (decide (0≤a)&&decide (a<(d.length:Int))) (qd (qxo D (List.getD d a.toNat ([],0,false,[],[],())) e) fun b↦br (!b.1.1) (K0 false c) (qd (q1a D c a) fun b↦br (!b.1.1) (K0 false c) (go e d f (wrap .i64 (a+1)) c))) none) (K1 c)
def qj0 (D:DX)(n:Nat) (K0:Bool→tq5→Option tq42) (K1:tq5→Option tq42):Nat→Int→(List tq13)→Int→Int→tq5→Option tq42 | 0=>(fun a b c d e=>none) | m+1=>(fun a b c d e=>qsy D n (qj0 D n K0 K1 m) K0 K1 a b c d e)
def qbdu (D:DX)(n:Nat) (a:Bool) (b:tq5):Option tq42:=some ((a,()),())
def qys (D:DX)(n:Nat) (a:tq5):Option tq42:=qd (q0j D a) fun b↦some ((b.1.1,()),())
def qqq (D:DX)(n:Nat):(Int)→(List tq13)→(Int)→(Int)→tq5→Option tq42:=(fun a b f g h=>qj0 D n (fun c d=>qbdu D n c d) (fun e=>qys D n e) n a b f g h)
def qpx (D:DX)(n:Nat) (lp1:Int→List tq13→Int→Int→tq5→Option tq42) (b:Int) (a:tq5):Option tq42:=lp1 b a.2.1 (a.2.1.length:Int) 0 a
def qr1 (D:DX)(n:Nat):(Int)→(List tq17)→(Int)→(Int)→tq5→Option tq42:=(fun x0 x1 x2 x3 x4=>qjz D n (fun a b c=>qyw D n a b c) (fun d e=>qpx D n (qqq D n) d e) n x0 x1 x2 x3 x4)
def qu1 (D:DX)(n:Nat) (lp0:Int→List tq17→Int→Int→tq5→Option tq42) (a0:tq5):Option tq42:=qd (qkp D a0.1) fun b↦br (bif !b.1.1 then true else (a0.1.2.1.length:Int) != (a0.2.1.length:Int)) (some ((false,()),())) (qd (qbl D a0.2.2.1 0 100000) fun b↦br (bif !b.1.1 then true else decide ((a0.2.2.2.1.length:Int)>40)) (some ((false,()),())) (qd (qox D a0.2.2.2.2.2.1) fun b↦br (!b.1.1) (some ((false,()),())) (lp0 (a0.2.1.length:Int) a0.2.2.2.1 (a0.2.2.2.1.length:Int) 0 a0)))
def qu5 (D:DX)(n:Nat) (a0:tq5):Option tq42:=qu1 D n (qr1 D n) a0
def qts (x0:Int) (x1:List tq17) (x2 x3:Int) (x4:tq5):St:=stq 108 [(1,AV.addr 1 []),(3,AV.val yq34 x0),(4,AV.clo 79 (AV.pair (AV.addr 1 []) AV.unit)),(44,AV.val yq6 x1),(45,AV.val yq34 x2),(46,AV.val yq34 x3)] [(1,Root.mk yq0 Mk.no x4 true)]
def qpu (a:Bool) (b:Int) (c:tq5):St:=stq 108 [(1,AV.addr 1 []),(2,AV.val Ty.bool a),(3,AV.val yq34 b)] [(1,Root.mk yq0 Mk.no c true)]
def qpl (a:Int) (b:tq5):St:=stq 108 [(1,AV.addr 1 []),(3,AV.val yq34 a)] [(1,Root.mk yq0 Mk.no b true)]
def qtw (a:Int) (b:List tq13) (c d:Int) (e:tq5):St:=stq 108 [(1,AV.addr 1 []),(3,AV.val yq34 a),(88,AV.val yq4 b),(89,AV.val yq34 c),(90,AV.val yq34 d)] [(1,Root.mk yq0 Mk.no e true)]
def qyp (a:Bool) (b:tq5):St:=stq 108 [(1,AV.addr 1 []),(2,AV.val Ty.bool a)] [(1,Root.mk yq0 Mk.no b true)]
def qyv (a:tq5):St:=stq 108 [(1,AV.addr 1 [])] [(1,Root.mk yq0 Mk.no a true)]
theorem qbf0 (D:DX)(n:Nat) (K:KT 40):∀ (m:Nat) (x0:Int) (x1:List tq17) (x2 x3:Int) (x4:tq5),LF D n 40 pq3 m (qts x0 x1 x2 x3 x4) K=qjz D n (fun a b c=>K (Ex.ret) (qpu a b c)) (fun d e=>K (Ex.exit 0) (qpl d e)) m x0 x1 x2 x3 x4:=eL5 (fun F=>qs2 D n F (fun a b c=>K (Ex.ret) (qpu a b c)) (fun d e=>K (Ex.exit 0) (qpl d e))) (fun _ _ _ _ _ =>qz ..) (fun _ _ _ _ _ _ =>by kernel_rfl) (fun _ _ _ _ _ _ =>rfl)
theorem qbfu (D:DX)(n:Nat) (K:KT 40):∀ (m:Nat) (d:Int) (e:List tq13) (f g:Int) (h:tq5),LF D n 40 pq6 m (qtw d e f g h) K=qj0 D n (fun a b=>K (Ex.ret) (qyp a b)) (fun c=>K (Ex.exit 2) (qyv c)) m d e f g h:=eL5 (fun F=>qsy D n F (fun a b=>K (Ex.ret) (qyp a b)) (fun c=>K (Ex.exit 2) (qyv c))) (fun _ _ _ _ _ =>qz ..) (fun _ _ _ _ _ _ =>by kernel_rfl) (fun _ _ _ _ _ _ =>rfl)
theorem qbd4 (D:DX)(n:Nat) (a:Int) (b:List tq13) (c d:Int) (e:tq5):LF D n 40 pq6 n (qtw a b c d e) (CF D n 40 [] pq6 (lF 40))=qqq D n a b c d e :=by rw[qbfu];kernel_rfl
theorem qbdq (D:DX)(n:Nat) (a:Bool) (b:Int) (c:tq5):(CF D n 40 [] pq3 (lF 40)) (Ex.ret) (qpu a b c)=qyw D n a b c:=by kernel_rfl
theorem qbdp (D:DX)(n:Nat) (a:Int) (b:tq5):(CF D n 40 [] pq3 (lF 40)) (Ex.exit 0) (qpl a b)=qpx D n (fun c d e f g=>LF D n 40 pq6 n (qtw c d e f g) (CF D n 40 [] pq6 (lF 40))) a b:=by kernel_rfl
theorem qbd5 (D:DX)(n:Nat) (x0) (x1) (x2) (x3) (x4):LF D n 40 pq3 n (qts x0 x1 x2 x3 x4) (CF D n 40 [] pq3 (lF 40))=qr1 D n x0 x1 x2 x3 x4:=by
 rw[qbf0]
 simp only[qbdq,qbdp,qbd4]
 rfl
theorem qbjb (D:DX)(n:Nat) (a0:tq5):rF D n 40 (a0,())=qu5 D n a0:=by
 have h:rF D n 40 (a0,())=qu1 D n (fun x0 x1 x2 x3 x4=>LF D n 40 pq3 n (qts x0 x1 x2 x3 x4) (CF D n 40 [] pq3 (lF 40))) a0:=by kernel_rfl
 rw[h]
 simp only[qbd5]
 rfl

def qbbd (D:DX)(n:Nat) (a0:tq5):Option tq42:=qd (qul D a0) fun b↦some ((b.1.2.1,()),())
def qzo (D:DX)(n:Nat) (a0:tq5):Option tq42:=qbbd D n a0
theorem qbo0 (D:DX)(n:Nat) (a0:tq5):rF D n 42 (a0,())=qzo D n a0:=by kernel_rfl

def q2u (D:DX)(n:Nat) (go:List Int→Int→Int→Option tq28) (K0:List Int→Int→Option tq28) (x0:List Int) (x1 x2:Int):Option tq28:=br (bif decide (x2<(x0.length:Int)) then decide (x2<4000) else false) (br (decide (0≤x2)&&decide (x2<(x0.length:Int))) (go x0 (wrap .i64 (↑(BitVec.toNat (BitVec.and (BitVec.ofInt (IntKind.bits IntKind.i64) (wrap .i64 (wrap .i64 (wrap .i64 (x1 * 131)+wrap .i64 (List.getD x0 x2.toNat 0))+7))) (BitVec.ofInt (IntKind.bits IntKind.i64) 1073741823))):Int)) (wrap .i64 (x2+1))) none) (K0 x0 x1)
def qoq (D:DX)(n:Nat) (K0:List Int→Int→Option tq28):Nat→(List Int)→Int→Int→Option tq28 | 0=>(fun x0 x1 x2=>none) | m+1=>(fun x0 x1 x2=>q2u D n (qoq D n K0 m) K0 x0 x1 x2)
def q8n (D:DX)(n:Nat) (a:List Int) (b:Int):Option tq28:=some (((a,0,b,()),()),())
def q0g (D:DX)(n:Nat):(List Int)→(Int)→(Int)→Option tq28:=(fun x0 x1 x2=>qoq D n (fun a b=>q8n D n a b) n x0 x1 x2)
def q51 (D:DX)(n:Nat) (lp0:List Int→Int→Int→Option tq28) (a0:List Int):Option tq28:=lp0 a0 (wrap .i64 (27323+(a0.length:Int))) 0
def q63 (D:DX)(n:Nat) (a0:List Int):Option tq28:=q51 D n (q0g D n) a0
def q2y (x0:List Int) (x1 x2:Int):St:=stq 32 [(0,AV.val yq32 x0),(3,AV.val yq34 x1),(4,AV.val yq34 x2)] []
def q8s (a:List Int) (b:Int):St:=stq 32 [(0,AV.val yq32 a),(3,AV.val yq34 b)] []
theorem qbot (D:DX)(n:Nat) (K:KT 44):∀ (m:Nat) (x0:List Int) (x1 x2:Int),LF D n 44 pq0 m (q2y x0 x1 x2) K=qoq D n (fun a b=>K (Ex.exit 0) (q8s a b)) m x0 x1 x2:=eL3 (fun F=>q2u D n F (fun a b=>K (Ex.exit 0) (q8s a b))) (fun _ _ _ =>qz ..) (fun _ _ _ _ =>by kernel_rfl) (fun _ _ _ _ =>rfl)
theorem qblp (D:DX)(n:Nat) (x0) (x1) (x2):LF D n 44 pq0 n (q2y x0 x1 x2) (CF D n 44 [] pq0 (lF 44))=q0g D n x0 x1 x2 :=by rw[qbot];kernel_rfl
theorem qbtt (D:DX)(n:Nat) (a0:List Int):rF D n 44 (a0,())=q63 D n a0:=by
 have h:rF D n 44 (a0,())=q51 D n (fun x0 x1 x2=>LF D n 44 pq0 n (q2y x0 x1 x2) (CF D n 44 [] pq0 (lF 44))) a0:=by kernel_rfl
 rw[h]
 simp only[qblp]
 rfl

def qpo (D:DX)(n:Nat) (go:Int→tq35→tq40→tq40→Option tq20) (K0:tq35→tq40→tq40→Option tq20) (x0:Int) (x1:tq35) (x2 x3:tq40):Option tq20:=br (decide (x0<4)) (qd (qcf D x1 7) fun b↦qd (qxe D (x3.1,x3.2) b.1.1) fun b_1↦br (decide (b_1.1.1<0)) (br (decide (0≤x0)&&decide (x0<(x3.1.length:Int))) (go (wrap .i64 (x0+1)) b.2.1 x2 (List.set x3.1 x0.toNat b.1.1,x3.2)) none) (go (wrap .i64 (x0+1)) b.2.1 x2 x3)) (K0 x1 x2 x3)
def qif (D:DX)(n:Nat) (K0:tq35→tq40→tq40→Option tq20):Nat→Int→tq35→tq40→tq40→Option tq20 | 0=>(fun x0 x1 x2 x3=>none) | m+1=>(fun x0 x1 x2 x3=>qpo D n (qif D n K0 m) K0 x0 x1 x2 x3)
def qm2 (D:DX)(n:Nat) (c:tq35) (d a:tq40):Option tq20:=qd (qn7 D c [0,0,1,3,5]) fun b↦some (((a.1,b.1.1,a.2.2),()),b.2.1,())
def qoh (D:DX)(n:Nat):(Int)→tq35→tq40→tq40→Option tq20:=(fun x0 x1 x2 x3=>qif D n (fun a b c=>qm2 D n a b c) n x0 x1 x2 x3)
def qq6 (D:DX)(n:Nat) (lp0:Int→tq35→tq40→tq40→Option tq20) (a0:tq35):Option tq20:=qd (qzn D) fun b↦lp0 0 a0 ([],0,()) (b.1.1.1,b.1.1.2)
def qrl (D:DX)(n:Nat) (a0:tq35):Option tq20:=qq6 D n (qoh D n) a0
def qpn (x0:Int) (x1:tq35) (x2 x3:tq40):St:=stq 27 [(0,AV.addr 0 []),(2,AV.addr 2 []),(3,AV.addr 3 []),(4,AV.val yq34 x0)] [(0,Root.mk yq20 Mk.no x1 true),(2,Root.mk yq23 kq29 x2 true),(3,Root.mk yq23 kq29 x3 true)]
def qvy (a:tq35) (b c:tq40):St:=stq 27 [(0,AV.addr 0 []),(2,AV.addr 2 []),(3,AV.addr 3 [])] [(0,Root.mk yq20 Mk.no a true),(2,Root.mk yq23 kq29 b true),(3,Root.mk yq23 kq29 c true)]
theorem qbcj (D:DX)(n:Nat) (K:KT 45):∀ (m:Nat) (x0:Int) (x1:tq35) (x2 x3:tq40),LF D n 45 pq0 m (qpn x0 x1 x2 x3) K=qif D n (fun a b c=>K (Ex.exit 0) (qvy a b c)) m x0 x1 x2 x3:=eL4 (fun F=>qpo D n F (fun a b c=>K (Ex.exit 0) (qvy a b c))) (fun _ _ _ _ =>qz ..) (fun _ _ _ _ _ =>by kernel_rfl) (fun _ _ _ _ _ =>rfl)
theorem q97 (D:DX)(n:Nat) (x0) (x1) (x2) (x3):LF D n 45 pq0 n (qpn x0 x1 x2 x3) (CF D n 45 [] pq0 (lF 45))=qoh D n x0 x1 x2 x3 :=by rw[qbcj];kernel_rfl
theorem qbfb (D:DX)(n:Nat) (a0:tq35):rF D n 45 (a0,())=qrl D n a0:=by
 have h:rF D n 45 (a0,())=qq6 D n (fun x0 x1 x2 x3=>LF D n 45 pq0 n (qpn x0 x1 x2 x3) (CF D n 45 [] pq0 (lF 45))) a0:=by kernel_rfl
 rw[h]
 simp only[q97]
 rfl

def qtv (D:DX)(n:Nat) (go:Int→Int→tq35→List (List tq38)→List tq38→Option tq16) (K0:Int→tq35→List (List tq38)→List tq38→Option tq16) (c d:Int) (f:tq35) (e:List (List tq38)) (a:List tq38):Option tq16:=qd (qcf D f 4) fun b↦br (decide (d<wrap .i64 (1+b.1.1))) (qd (qqt D b.2.1) fun b↦br (decide (a.length+1≤qb6)) (go c (wrap .i64 (d+1)) b.2.1 e (a++[b.1.1])) none) (K0 c b.2.1 e a)
def qjv (D:DX)(n:Nat) (K0:Int→tq35→List (List tq38)→List tq38→Option tq16):Nat→Int→Int→tq35→(List (List tq38))→(List tq38)→Option tq16 | 0=>(fun a b c d e=>none) | m+1=>(fun a b c d e=>qtv D n (qjv D n K0 m) K0 a b c d e)
def qpa (D:DX)(n:Nat) (go:Int→tq35→List (List tq38)→Option tq16) (K0:tq35→List (List tq38)→Option tq16) (b:Int) (c:tq35) (a:List (List tq38)) (d:List tq38):Option tq16:=br (decide (a.length+1≤qb6)) (go (wrap .i64 (b+1)) c (a++[d])) none
def qre (D:DX)(n:Nat) (go:Int→tq35→List (List tq38)→Option tq16) (K0:tq35→List (List tq38)→Option tq16):(Int)→(Int)→tq35→(List (List tq38))→(List tq38)→Option tq16:=(fun a f g h i=>qjv D n (fun b c d e=>qpa D n go K0 b c d e) n a f g h i)
def qst (D:DX)(n:Nat) (go:Int→tq35→List (List tq38)→Option tq16) (K0:tq35→List (List tq38)→Option tq16) (lp1:Int→Int→tq35→List (List tq38)→List tq38→Option tq16) (x0:Int) (x1:tq35) (x2:List (List tq38)):Option tq16:=qd (qcf D x1 3) fun b↦br (decide (x0<wrap .i64 (1+b.1.1))) (lp1 x0 0 b.2.1 x2 []) (K0 b.2.1 x2)
def qex (D:DX)(n:Nat) (K0:tq35→List (List tq38)→Option tq16):Nat→Int→tq35→(List (List tq38))→Option tq16 | 0=>(fun x0 x1 x2=>none) | m+1=>(fun x0 x1 x2=>qst D n (qex D n K0 m) K0 (qre D n (qex D n K0 m) K0) x0 x1 x2)
def qyr (D:DX)(n:Nat) (a:tq35) (b:List (List tq38)):Option tq16:=some ((b,()),a,())
def qrb (D:DX)(n:Nat):(Int)→tq35→(List (List tq38))→Option tq16:=(fun x0 x1 x2=>qex D n (fun a b=>qyr D n a b) n x0 x1 x2)
def quw (D:DX)(n:Nat) (lp0:Int→tq35→List (List tq38)→Option tq16) (a0:tq35):Option tq16:=lp0 0 a0 []
def qvj (D:DX)(n:Nat) (a0:tq35):Option tq16:=quw D n (qrb D n) a0
def qf2 (x0:Int) (x1:tq35) (x2:List (List tq38)):St:=stq 33 [(0,AV.addr 0 []),(3,AV.brw 3 [] 0),(4,AV.val yq34 x0)] [(0,Root.mk yq20 Mk.no x1 true),(3,Root.mk yq18 kq31 x2 false)]
def qk2 (a:tq35) (b:List (List tq38)):St:=stq 33 [(0,AV.addr 0 []),(3,AV.brw 3 [] 0)] [(0,Root.mk yq20 Mk.no a true),(3,Root.mk yq18 kq31 b false)]
def qty (a b:Int) (c:tq35) (d:List (List tq38)) (e:List tq38):St:=stq 33 [(0,AV.addr 0 []),(3,AV.brw 3 [] 0),(4,AV.val yq34 a),(5,AV.brw 5 [] 0),(6,AV.val yq34 b)] [(0,Root.mk yq20 Mk.no c true),(3,Root.mk yq18 kq31 d false),(5,Root.mk yq19 kq37 e false)]
def qyu (a:Int) (b:tq35) (c:List (List tq38)) (d:List tq38):St:=stq 33 [(0,AV.addr 0 []),(3,AV.brw 3 [] 0),(4,AV.val yq34 a),(5,AV.brw 5 [] 0)] [(0,Root.mk yq20 Mk.no b true),(3,Root.mk yq18 kq31 c false),(5,Root.mk yq19 kq37 d false)]
theorem qbew (D:DX)(n:Nat) (K:KT 46):∀ (m:Nat) (e f:Int) (g:tq35) (h:List (List tq38)) (i:List tq38),LF D n 46 pq13 m (qty e f g h i) K=qjv D n (fun a b c d=>K (Ex.exit 2) (qyu a b c d)) m e f g h i:=eL5 (fun F=>qtv D n F (fun a b c d=>K (Ex.exit 2) (qyu a b c d))) (fun _ _ _ _ _ =>qz ..) (fun _ _ _ _ _ _ =>by kernel_rfl) (fun _ _ _ _ _ _ =>rfl)
theorem qbdn (D:DX)(n:Nat) (m:Nat) (K:KT 46) (a b:Int) (c:tq35) (d:List (List tq38)) (e:List tq38):LF D n 46 pq13 n (qty a b c d e) (CF D n 46 pq15 [.r,.l,.l,.r,.l,.r,.l] (KF D n 46 pq0 m K))=qre D n (fun x0 x1 x2=>LF D n 46 pq0 m (qf2 x0 x1 x2) K) (fun f g=>K (Ex.exit 0) (qk2 f g)) a b c d e :=by rw[qbew];kernel_rfl
theorem qbet (D:DX)(n:Nat) (m:Nat) (K:KT 46) (x0) (x1) (x2:List (List tq38)):LF D n 46 pq0 (m+1) (qf2 x0 x1 x2) K=qst D n (fun x0 x1 x2=>LF D n 46 pq0 m (qf2 x0 x1 x2) K) (fun a b=>K (Ex.exit 0) (qk2 a b)) (fun c d e f g=>LF D n 46 pq13 n (qty c d e f g) (CF D n 46 pq15 [.r,.l,.l,.r,.l,.r,.l] (KF D n 46 pq0 m K))) x0 x1 x2:=by kernel_rfl
theorem q2a (D:DX)(n:Nat) (K:KT 46):∀ (m:Nat) (x0:Int) (x1:tq35) (x2:List (List tq38)),LF D n 46 pq0 m (qf2 x0 x1 x2) K=qex D n (fun a b=>K (Ex.exit 0) (qk2 a b)) m x0 x1 x2
 | 0,x0,x1,x2=>qz ..
 | m+1,x0,x1,x2=>by
  have ih:(fun x0 x1 x2=>LF D n 46 pq0 m (qf2 x0 x1 x2) K)=qex D n (fun a b=>K (Ex.exit 0) (qk2 a b)) m:=by funext x0 x1 x2;exact q2a D n K m x0 x1 x2
  rw[qbet]
  simp only[qbdn]
  rw[ih];rfl
theorem qbdx (D:DX)(n:Nat) (x0) (x1) (x2:List (List tq38)):LF D n 46 pq0 n (qf2 x0 x1 x2) (CF D n 46 [] pq0 (lF 46))=qrb D n x0 x1 x2 :=by rw[q2a];kernel_rfl
theorem qbjq (D:DX)(n:Nat) (a0:tq35):rF D n 46 (a0,())=qvj D n a0:=by
 have h:rF D n 46 (a0,())=quw D n (fun x0 x1 x2=>LF D n 46 pq0 n (qf2 x0 x1 x2) (CF D n 46 [] pq0 (lF 46))) a0:=by kernel_rfl
 rw[h]
 simp only[qbdx]
 rfl

def qbbl (D:DX)(n:Nat) (a0:tq35) (a1:Int):Option tq25:=br (decide (a1≤0)) (some ((0,()),a0,())) (br (decide (a1≤256)) (qd (qjq D a0) fun b↦br (decide (a1=0)) none (some ((Int.tmod b.1.1 a1,()),b.2.1,()))) (qd (qjq D a0) fun b↦qd (qjq D b.2.1) fun b_1↦qd (qjq D b_1.2.1) fun b_2↦qd (qjq D b_2.2.1) fun b_3↦br (decide (a1=0)) none (some ((Int.tmod (wrap .i64 (wrap .i64 (wrap .i64 (wrap .i64 (b.1.1 * 16777216)+wrap .i64 (b_1.1.1 * 65536))+wrap .i64 (b_2.1.1 * 256))+b_3.1.1)) a1,()),b_3.2.1,()))))
def q0d (D:DX)(n:Nat) (a0:tq35) (a1:Int):Option tq25:=qbbl D n a0 a1
theorem qbnf (D:DX)(n:Nat) (a0:tq35) (a1:Int):rF D n 47 (a0,(a1,()))=q0d D n a0 a1:=by kernel_rfl

def qbdk (D:DX)(n:Nat) (a0:List Int) (a1 a2:Int):Option tq43:=br (decide (wrap .i64 (a1+wrap .i64 (Int.tdiv (a0.length:Int) 4))>a2)) (some ((a2,()),())) (some ((wrap .i64 (a1+wrap .i64 (Int.tdiv (a0.length:Int) 4)),()),()))
def q3z (D:DX)(n:Nat) (a0:List Int) (a1 a2:Int):Option tq43:=qbdk D n a0 a1 a2
theorem qbr6 (D:DX)(n:Nat) (a0:List Int) (a1 a2:Int):rF D n 48 (a0,(a1,(a2,())))=q3z D n a0 a1 a2:=by kernel_rfl

def qzp (D:DX)(n:Nat) (go:Int→Int→tq12→tq12→List Int→Option tq9) (K0:tq12→tq12→Option tq9) (x0 x1:Int) (x2 x3:tq12) (x4:List Int):Option tq9:=br (decide (x1<x0)) (br (decide (0≤x1)&&decide (x1<(x4.length:Int))) (br (decide (x3.1.length+1≤qb6)) (go x0 (wrap .i64 (x1+1)) x2 (x3.1++[(List.getD x4 x1.toNat 0,0,0,())],x3.2) x4) none) none) (K0 x2 x3)
def qmo (D:DX)(n:Nat) (K0:tq12→tq12→Option tq9):Nat→Int→Int→tq12→tq12→(List Int)→Option tq9 | 0=>(fun x0 x1 x2 x3 x4=>none) | m+1=>(fun x0 x1 x2 x3 x4=>qzp D n (qmo D n K0 m) K0 x0 x1 x2 x3 x4)
def q7v (D:DX)(n:Nat) (c a:tq12):Option tq9:=qd (qkp D (a.1,a.2.1,())) fun b↦br (!b.1.1) (some ((([],[],()),false,()),())) (some (((a.1,a.2.1,()),true,()),()))
def qyh (D:DX)(n:Nat):(Int)→(Int)→tq12→tq12→(List Int)→Option tq9:=(fun x0 x1 x2 x3 x4=>qmo D n (fun a b=>q7v D n a b) n x0 x1 x2 x3 x4)
def q30 (D:DX)(n:Nat) (lp0:Int→Int→tq12→tq12→List Int→Option tq9) (a0:tq40) (a1:Int):Option tq9:=qd (qbl D a1 1 4) fun b↦br (!b.1.1) (some ((([],[],()),false,()),())) (br (decide (0≤a1)&&decide (a1≤a1)&&decide (a1≤(↑qb6:Int))) (qd (qm9 D a0) fun b↦lp0 (b.1.1.length:Int) 0 ([],[],()) ([],List.replicate a1.toNat (0,0,[],(0,[],()),()),()) b.1.1) none)
def q33 (D:DX)(n:Nat) (a0:tq40) (a1:Int):Option tq9:=q30 D n (qyh D n) a0 a1
def q0e (x0 x1:Int) (x2 x3:tq12) (x4:List Int):St:=stq 36 [(4,AV.addr 4 []),(6,AV.addr 6 []),(17,AV.brw 17 [] 0),(18,AV.val yq34 x0),(19,AV.val yq34 x1)] [(4,Root.mk yq3 kq14 x2 true),(6,Root.mk yq3 kq14 x3 true),(17,Root.mk yq30 kq37 x4 false)]
def q50 (a b:tq12):St:=stq 36 [(4,AV.addr 4 []),(6,AV.addr 6 [])] [(4,Root.mk yq3 kq14 a true),(6,Root.mk yq3 kq14 b true)]
theorem qbm2 (D:DX)(n:Nat) (K:KT 49):∀ (m:Nat) (x0 x1:Int) (x2 x3:tq12) (x4:List Int),LF D n 49 pq1 m (q0e x0 x1 x2 x3 x4) K=qmo D n (fun a b=>K (Ex.exit 0) (q50 a b)) m x0 x1 x2 x3 x4:=eL5 (fun F=>qzp D n F (fun a b=>K (Ex.exit 0) (q50 a b))) (fun _ _ _ _ _ =>qz ..) (fun _ _ _ _ _ _ =>by kernel_rfl) (fun _ _ _ _ _ _ =>rfl)
theorem qbi6 (D:DX)(n:Nat) (x0) (x1) (x2) (x3) (x4):LF D n 49 pq1 n (q0e x0 x1 x2 x3 x4) (CF D n 49 [] pq1 (lF 49))=qyh D n x0 x1 x2 x3 x4 :=by rw[qbm2];kernel_rfl
theorem qbsv (D:DX)(n:Nat) (a0:tq40) (a1:Int):rF D n 49 (a0,(a1,()))=q33 D n a0 a1:=by
 have h:rF D n 49 (a0,(a1,()))=q30 D n (fun x0 x1 x2 x3 x4=>LF D n 49 pq1 n (q0e x0 x1 x2 x3 x4) (CF D n 49 [] pq1 (lF 49))) a0 a1:=by kernel_rfl
 rw[h]
 simp only[qbi6]
 rfl

def q8x (D:DX)(n:Nat) (a0:tq40):Option tq31:=qd (qgk D a0.1) fun b↦some (((b.1.1,a0.2.1,()),()),())
def qxx (D:DX)(n:Nat) (a0:tq40):Option tq31:=q8x D n a0
theorem qbk0 (D:DX)(n:Nat) (a0:tq40):rF D n 50 (a0,())=qxx D n a0:=by kernel_rfl

def q59 (D:DX)(n:Nat) (a0:List tq38):Option tq11:=qd (qe8 D a0) fun b↦some (((b.1.1,0,false,[],[],()),()),())
def qvi (D:DX)(n:Nat) (a0:List tq38):Option tq11:=q59 D n a0
theorem qbj2 (D:DX)(n:Nat) (a0:List tq38):rF D n 51 (a0,())=qvi D n a0:=by kernel_rfl

def qz8 (D:DX)(n:Nat) (go:Int→Int→tq12→tq12→List Int→Option tq9) (K0:Int→tq12→tq12→Option tq9) (x0 x1:Int) (x2 x3:tq12) (x4:List Int):Option tq9:=br (decide (x1<(x4.length:Int))) (br (decide (0≤x1)&&decide (x1<(x4.length:Int))) (br (decide (x3.1.length+1≤qb6)) (go x0 (wrap .i64 (x1+1)) x2 (x3.1++[(List.getD x4 x1.toNat 0,0,0,())],x3.2) x4) none) none) (K0 x0 x2 x3)
def qm1 (D:DX)(n:Nat) (K0:Int→tq12→tq12→Option tq9):Nat→Int→Int→tq12→tq12→(List Int)→Option tq9 | 0=>(fun x0 x1 x2 x3 x4=>none) | m+1=>(fun x0 x1 x2 x3 x4=>qz8 D n (qm1 D n K0 m) K0 x0 x1 x2 x3 x4)
def q6b (D:DX)(n:Nat) (a:Int) (d c:tq12):Option tq9:=qd (qbp D a 1 4) fun b↦br b.1.1 (br (decide (0≤a)&&decide (a≤a)&&decide (a≤(↑qb6:Int))) (qd (qqn D (c.1,List.replicate a.toNat (0,0,[],(0,[],()),()),())) fun b↦br (!b.1.1) (some ((([],[],()),false,()),())) (some (((c.1,List.replicate a.toNat (0,0,[],(0,[],()),()),()),true,()),()))) none) (qd (qqn D (c.1,c.2.1,())) fun b↦br (!b.1.1) (some ((([],[],()),false,()),())) (some (((c.1,c.2.1,()),true,()),())))
def qv6 (D:DX)(n:Nat):(Int)→(Int)→tq12→tq12→(List Int)→Option tq9:=(fun x0 x1 x2 x3 x4=>qm1 D n (fun a b c=>q6b D n a b c) n x0 x1 x2 x3 x4)
def q2w (D:DX)(n:Nat) (lp0:Int→Int→tq12→tq12→List Int→Option tq9) (a0:tq40) (a1:Int):Option tq9:=qd (qze D a0) fun b↦lp0 a1 0 ([],[],()) ([],[],()) b.1.1
def q38 (D:DX)(n:Nat) (a0:tq40) (a1:Int):Option tq9:=q2w D n (qv6 D n) a0 a1
def qzb (x0 x1:Int) (x2 x3:tq12) (x4:List Int):St:=stq 38 [(1,AV.val yq34 x0),(4,AV.addr 4 []),(6,AV.addr 6 []),(7,AV.brw 7 [] 0),(8,AV.val yq34 x1)] [(4,Root.mk yq3 kq14 x2 true),(6,Root.mk yq3 kq14 x3 true),(7,Root.mk yq30 kq37 x4 false)]
def q5x (a:Int) (b c:tq12):St:=stq 38 [(1,AV.val yq34 a),(4,AV.addr 4 []),(6,AV.addr 6 [])] [(4,Root.mk yq3 kq14 b true),(6,Root.mk yq3 kq14 c true)]
theorem qbk4 (D:DX)(n:Nat) (K:KT 52):∀ (m:Nat) (x0 x1:Int) (x2 x3:tq12) (x4:List Int),LF D n 52 pq1 m (qzb x0 x1 x2 x3 x4) K=qm1 D n (fun a b c=>K (Ex.exit 0) (q5x a b c)) m x0 x1 x2 x3 x4:=eL5 (fun F=>qz8 D n F (fun a b c=>K (Ex.exit 0) (q5x a b c))) (fun _ _ _ _ _ =>qz ..) (fun _ _ _ _ _ _ =>by kernel_rfl) (fun _ _ _ _ _ _ =>rfl)
theorem qbki (D:DX)(n:Nat) (x0) (x1) (x2) (x3) (x4):LF D n 52 pq1 n (qzb x0 x1 x2 x3 x4) (CF D n 52 [] pq1 (lF 52))=qv6 D n x0 x1 x2 x3 x4 :=by rw[qbk4];kernel_rfl
theorem qbsm (D:DX)(n:Nat) (a0:tq40) (a1:Int):rF D n 52 (a0,(a1,()))=q38 D n a0 a1:=by
 have h:rF D n 52 (a0,(a1,()))=q2w D n (fun x0 x1 x2 x3 x4=>LF D n 52 pq1 n (qzb x0 x1 x2 x3 x4) (CF D n 52 [] pq1 (lF 52))) a0 a1:=by kernel_rfl
 rw[h]
 simp only[qbki]
 rfl

def qbdg (D:DX)(n:Nat) (a0:tq40):Option tq31:=br (decide (0+a0.1.length≤qb6)) (some ((([]++a0.1,a0.2.1,()),()),())) none
def q23 (D:DX)(n:Nat) (a0:tq40):Option tq31:=qbdg D n a0
theorem qbss (D:DX)(n:Nat) (a0:tq40):rF D n 53 (a0,())=q23 D n a0:=by kernel_rfl

def q7s (D:DX)(n:Nat) (a0:List tq38):Option tq11:=br (decide (0+a0.length≤qb6)) (some ((([]++a0,0,false,[],[],()),()),())) none
def qus (D:DX)(n:Nat) (a0:List tq38):Option tq11:=q7s D n a0
theorem qbkj (D:DX)(n:Nat) (a0:List tq38):rF D n 54 (a0,())=qus D n a0:=by kernel_rfl

def qt0 (D:DX)(n:Nat) (go:Int→tq5→Option tq42) (K0:Bool→Option tq42) (K1:Option tq42) (x0:Int) (x1:tq5):Option tq42:=br (decide (x0<(x1.2.1.length:Int))) (br (decide (0≤x0)&&decide (x0<(x1.2.1.length:Int))) (qd (qw7 D (List.getD x1.2.1 x0.toNat ([],0,false,[],[],())) (x1.2.1.length:Int)) fun b↦br (!b.1.1) (K0 false) (qd (qxc D x1 x0) fun b↦br (!b.1.1) (K0 false) (go (wrap .i64 (x0+1)) x1))) none) K1
def qjt (D:DX)(n:Nat) (K0:Bool→Option tq42) (K1:Option tq42):Nat→Int→tq5→Option tq42 | 0=>(fun x0 x1=>none) | m+1=>(fun x0 x1=>qt0 D n (qjt D n K0 K1 m) K0 K1 x0 x1)
def qbdr (D:DX)(n:Nat) (a:Bool):Option tq42:=some ((a,()),())
def qbd1 (D:DX)(n:Nat):Option tq42:=some ((true,()),())
def qqy (D:DX)(n:Nat):(Int)→tq5→Option tq42:=(fun x0 x1=>qjt D n (fun a=>qbdr D n a) (qbd1 D n) n x0 x1)
def qva (D:DX)(n:Nat) (lp0:Int→tq5→Option tq42) (a0:tq5):Option tq42:=qd (qqn D a0.1) fun b↦br (bif !b.1.1 then true else (a0.1.2.1.length:Int) != (a0.2.1.length:Int)) (some ((false,()),())) (qd (qbp D a0.2.2.1 0 100000) fun b↦br (!b.1.1) (some ((false,()),())) (qd (qui D a0.2.2.2.2.2.1) fun b↦br (!b.1.1) (some ((false,()),())) (qd (q05 D a0) fun b↦br (!b.1.1) (some ((false,()),())) (lp0 0 a0))))
def qu3 (D:DX)(n:Nat) (a0:tq5):Option tq42:=qva D n (qqy D n) a0
def qtf (x0:Int) (x1:tq5):St:=stq 58 [(1,AV.addr 1 []),(3,AV.val yq34 x0)] [(1,Root.mk yq0 Mk.no x1 true)]
def qyx (a:Bool):St:=stq 58 [(2,AV.val Ty.bool a)] []
def qyq:St:=stq 58 [] []
theorem qbf1 (D:DX)(n:Nat) (K:KT 55):∀ (m:Nat) (x0:Int) (x1:tq5),LF D n 55 pq0 m (qtf x0 x1) K=qjt D n (fun a=>K (Ex.ret) (qyx a)) (K (Ex.exit 0) (qyq)) m x0 x1:=eL2 (fun F=>qt0 D n F (fun a=>K (Ex.ret) (qyx a)) (K (Ex.exit 0) (qyq))) (fun _ _ =>qz ..) (fun _ _ _ =>by kernel_rfl) (fun _ _ _ =>rfl)
theorem qbd2 (D:DX)(n:Nat) (x0) (x1):LF D n 55 pq0 n (qtf x0 x1) (CF D n 55 [] pq0 (lF 55))=qqy D n x0 x1 :=by rw[qbf1];kernel_rfl
theorem qbjt (D:DX)(n:Nat) (a0:tq5):rF D n 55 (a0,())=qu3 D n a0:=by
 have h:rF D n 55 (a0,())=qva D n (fun x0 x1=>LF D n 55 pq0 n (qtf x0 x1) (CF D n 55 [] pq0 (lF 55))) a0:=by kernel_rfl
 rw[h]
 simp only[qbd2]
 rfl

def qph (D:DX)(n:Nat) (go:List tq13→Int→Int→tq5→tq5→tq5→Option tq3) (K0:tq5→tq5→tq5→Option tq3) (x0:List tq13) (x1 x2:Int) (x3 x4 x5:tq5):Option tq3:=br (decide (x2<x1)) (br (decide (0≤x2)&&decide (x2<(x0.length:Int))) (qd (qhz D (List.getD x0 x2.toNat ([],0,false,[],[],()))) fun b↦br (decide (x5.2.1.length+1≤qb6)) (go x0 x1 (wrap .i64 (x2+1)) x3 x4 (x5.1,x5.2.1++[(b.1.1.1,b.1.1.2.1,b.1.1.2.2.1,b.1.1.2.2.2.1,b.1.1.2.2.2.2.1,())],x5.2.2)) none) none) (K0 x3 x4 x5)
def qh6 (D:DX)(n:Nat) (K0:tq5→tq5→tq5→Option tq3):Nat→(List tq13)→Int→Int→tq5→tq5→tq5→Option tq3 | 0=>(fun x0 x1 x2 x3 x4 x5=>none) | m+1=>(fun x0 x1 x2 x3 x4 x5=>qph D n (qh6 D n K0 m) K0 x0 x1 x2 x3 x4 x5)
def qpc (D:DX)(n:Nat) (go:List tq17→Int→Int→tq5→tq5→Option tq3) (K0:tq5→tq5→Option tq3) (d:List tq17) (e c:Int) (f a:tq5):Option tq3:=let y0:=List.getD d c.toNat (0,(0,0,0,()),0,0,0,(0,[],()),());br (decide (c<e)) (br (decide (0≤c)&&decide (c<(d.length:Int))) (qd (qik D y0.2.2.2.2.2.1) fun b↦br (decide (a.2.2.2.1.length+1≤qb6)) (go d e (wrap .i64 (c+1)) f (a.1,a.2.1,a.2.2.1,a.2.2.2.1++[(y0.1,y0.2.1,y0.2.2.1,y0.2.2.2.1,y0.2.2.2.2.1,(b.1.1.1,b.1.1.2.1,()),())],a.2.2.2.2)) none) none) (K0 f a)
def qic (D:DX)(n:Nat) (K0:tq5→tq5→Option tq3):Nat→(List tq17)→Int→Int→tq5→tq5→Option tq3 | 0=>(fun a b c d e=>none) | m+1=>(fun a b c d e=>qpc D n (qic D n K0 m) K0 a b c d e)
def qba7 (D:DX)(n:Nat) (b a:tq5):Option tq3:=some ((((a.1.1,a.1.2.1,()),a.2.1,a.2.2.1,a.2.2.2.1,a.2.2.2.2.1,(a.2.2.2.2.2.1.1,a.2.2.2.2.2.1.2),()),()),())
def qoi (D:DX)(n:Nat):(List tq17)→(Int)→(Int)→tq5→tq5→Option tq3:=(fun a d e f g=>qic D n (fun b c=>qba7 D n b c) n a d e f g)
def qm3 (D:DX)(n:Nat) (lp1:List tq17→Int→Int→tq5→tq5→Option tq3) (a b c:tq5):Option tq3:=lp1 a.2.2.2.1 (a.2.2.2.1.length:Int) 0 b c
def qn1 (D:DX)(n:Nat):(List tq13)→(Int)→(Int)→tq5→tq5→tq5→Option tq3:=(fun x0 x1 x2 x3 x4 x5=>qh6 D n (fun a b c=>qm3 D n (qoi D n) a b c) n x0 x1 x2 x3 x4 x5)
def qqv (D:DX)(n:Nat) (lp0:List tq13→Int→Int→tq5→tq5→tq5→Option tq3) (a0:tq5):Option tq3:=qd (qkl D a0.1) fun b↦qd (qgk D a0.2.2.2.2.1) fun b_1↦qd (qjn D a0.2.2.2.2.2.1) fun b_2↦lp0 a0.2.1 (a0.2.1.length:Int) 0 a0 (([],[],()),[],0,[],[],([],0,()),()) ((b.1.1.1,b.1.1.2.1,()),[],a0.2.2.1,[],b_1.1.1,(b_2.1.1.1,b_2.1.1.2),())
def qri (D:DX)(n:Nat) (a0:tq5):Option tq3:=qqv D n (qn1 D n) a0
def qpb (x0:List tq13) (x1 x2:Int) (x3 x4 x5:tq5):St:=stq 54 [(1,AV.addr 1 []),(2,AV.addr 2 []),(3,AV.addr 3 []),(21,AV.val yq4 x0),(22,AV.val yq34 x1),(23,AV.val yq34 x2)] [(1,Root.mk yq0 Mk.no x3 true),(2,Root.mk yq0 kq1 x4 true),(3,Root.mk yq0 kq2 x5 true)]
def qmy (a b c:tq5):St:=stq 54 [(1,AV.addr 1 []),(2,AV.addr 2 []),(3,AV.addr 3 [])] [(1,Root.mk yq0 Mk.no a true),(2,Root.mk yq0 kq1 b true),(3,Root.mk yq0 kq2 c true)]
def qo9 (a:List tq17) (b c:Int) (d e:tq5):St:=stq 54 [(2,AV.addr 2 []),(3,AV.addr 3 []),(36,AV.val yq6 a),(37,AV.val yq34 b),(38,AV.val yq34 c)] [(2,Root.mk yq0 kq1 d true),(3,Root.mk yq0 kq2 e true)]
def qv4 (a b:tq5):St:=stq 54 [(2,AV.addr 2 []),(3,AV.addr 3 [])] [(2,Root.mk yq0 kq1 a true),(3,Root.mk yq0 kq2 b true)]
theorem qbce (D:DX)(n:Nat) (K:KT 56):∀ (m:Nat) (x0:List tq13) (x1 x2:Int) (x3 x4 x5:tq5),LF D n 56 pq0 m (qpb x0 x1 x2 x3 x4 x5) K=qh6 D n (fun a b c=>K (Ex.exit 0) (qmy a b c)) m x0 x1 x2 x3 x4 x5:=eL6 (fun F=>qph D n F (fun a b c=>K (Ex.exit 0) (qmy a b c))) (fun _ _ _ _ _ _ =>qz ..) (fun _ _ _ _ _ _ _ =>by kernel_rfl) (fun _ _ _ _ _ _ _ =>rfl)
theorem qbcu (D:DX)(n:Nat) (K:KT 56):∀ (m:Nat) (c:List tq17) (d e:Int) (f g:tq5),LF D n 56 pq1 m (qo9 c d e f g) K=qic D n (fun a b=>K (Ex.exit 2) (qv4 a b)) m c d e f g:=eL5 (fun F=>qpc D n F (fun a b=>K (Ex.exit 2) (qv4 a b))) (fun _ _ _ _ _ =>qz ..) (fun _ _ _ _ _ _ =>by kernel_rfl) (fun _ _ _ _ _ _ =>rfl)
theorem qbak (D:DX)(n:Nat) (a:List tq17) (b c:Int) (d e:tq5):LF D n 56 pq1 n (qo9 a b c d e) (CF D n 56 [] pq1 (lF 56))=qoi D n a b c d e :=by rw[qbcu];kernel_rfl
theorem qbaa (D:DX)(n:Nat) (a b c:tq5):(CF D n 56 [] pq0 (lF 56)) (Ex.exit 0) (qmy a b c)=qm3 D n (fun d e f g h=>LF D n 56 pq1 n (qo9 d e f g h) (CF D n 56 [] pq1 (lF 56))) a b c:=by kernel_rfl
theorem qbau (D:DX)(n:Nat) (x0) (x1) (x2) (x3) (x4) (x5):LF D n 56 pq0 n (qpb x0 x1 x2 x3 x4 x5) (CF D n 56 [] pq0 (lF 56))=qn1 D n x0 x1 x2 x3 x4 x5:=by
 rw[qbce]
 simp only[qbaa,qbak]
 rfl
theorem qbe2 (D:DX)(n:Nat) (a0:tq5):rF D n 56 (a0,())=qri D n a0:=by
 have h:rF D n 56 (a0,())=qqv D n (fun x0 x1 x2 x3 x4 x5=>LF D n 56 pq0 n (qpb x0 x1 x2 x3 x4 x5) (CF D n 56 [] pq0 (lF 56))) a0:=by kernel_rfl
 rw[h]
 simp only[qbau]
 rfl

def q90 (D:DX)(n:Nat) (a0:tq5) (a1:Int):Option tq0:=let y0:Option tq0:=qd (qji D a0) fun b↦some ((((b.1.1.1.1,b.1.1.1.2.1,()),b.1.1.2.1,b.1.1.2.2.1,b.1.1.2.2.2.1,b.1.1.2.2.2.2.1,b.1.1.2.2.2.2.2),false,()),());qd (qc6 D a0) fun b↦br (!b.1.1) y0 (qd (qbl D a1 0 (wrap .i64 ((a0.2.1.length:Int) - 1))) fun b↦br (!b.1.1) y0 (br (decide (0≤a1)&&decide (a1<(a0.2.1.length:Int))) (qd (q47 D (List.getD a0.2.1 a1.toNat ([],0,false,[],[],()))) fun b↦br (bif b.1.1 then true else decide (a0.2.2.1=100000)) y0 (qd (qji D a0) fun b↦br (decide (0≤a1)&&decide (a1<(b.1.1.2.1.length:Int))) (br (!(List.getD b.1.1.2.1 a1.toNat ([],0,false,[],[],())).2.2.1) (br (decide (0≤(List.getD b.1.1.2.1 a1.toNat ([],0,false,[],[],())).2.1)&&decide ((List.getD b.1.1.2.1 a1.toNat ([],0,false,[],[],())).2.1<((List.getD b.1.1.2.1 a1.toNat ([],0,false,[],[],())).1.length:Int))) (br (decide (b.1.1.2.2.2.1.length+1≤qb6)) (qd (qc6 D ((b.1.1.1.1,b.1.1.1.2.1,()),List.set b.1.1.2.1 a1.toNat ((List.getD b.1.1.2.1 a1.toNat ([],0,false,[],[],())).1,(List.getD b.1.1.2.1 a1.toNat ([],0,false,[],[],())).2.1,true,(List.getD b.1.1.2.1 a1.toNat ([],0,false,[],[],())).2.2.2),wrap .i64 (b.1.1.2.2.1+1),b.1.1.2.2.2.1++[(a1,List.getD (List.getD b.1.1.2.1 a1.toNat ([],0,false,[],[],())).1 (Int.toNat (List.getD b.1.1.2.1 a1.toNat ([],0,false,[],[],())).2.1) (0,0,0,()),wrap .i64 (b.1.1.2.2.1+1),-1,-1,(0,[],()),())],b.1.1.2.2.2.2.1,b.1.1.2.2.2.2.2)) fun b_1↦let a:=List.getD b.1.1.2.1 a1.toNat ([],0,false,[],[],());br (!b_1.1.1) y0 (some ((((b.1.1.1.1,b.1.1.1.2.1,()),List.set b.1.1.2.1 a1.toNat (a.1,a.2.1,true,a.2.2.2),wrap .i64 (b.1.1.2.2.1+1),b.1.1.2.2.2.1++[(a1,List.getD a.1 (Int.toNat a.2.1) (0,0,0,()),wrap .i64 (b.1.1.2.2.1+1),-1,-1,(0,[],()),())],b.1.1.2.2.2.2.1,b.1.1.2.2.2.2.2),true,()),()))) none) none) (br (decide (((List.getD b.1.1.2.1 a1.toNat ([],0,false,[],[],())).2.2.2.2.1.length:Int)>0)) (qd (qna D ((b.1.1.1.1,b.1.1.1.2.1,()),b.1.1.2.1,wrap .i64 (b.1.1.2.2.1+1),b.1.1.2.2.2.1,b.1.1.2.2.2.2.1,b.1.1.2.2.2.2.2) a1) fun b↦qd (qc6 D ((b.2.1.1.1,b.2.1.1.2.1,()),b.2.1.2.1,b.2.1.2.2.1,b.2.1.2.2.2.1,b.2.1.2.2.2.2.1,b.2.1.2.2.2.2.2)) fun b_1↦br (!b_1.1.1) y0 (some ((((b.2.1.1.1,b.2.1.1.2.1,()),b.2.1.2.1,b.2.1.2.2.1,b.2.1.2.2.2.1,b.2.1.2.2.2.2.1,b.2.1.2.2.2.2.2),true,()),()))) (qd (qpr D ((b.1.1.1.1,b.1.1.1.2.1,()),b.1.1.2.1,wrap .i64 (b.1.1.2.2.1+1),b.1.1.2.2.2.1,b.1.1.2.2.2.2.1,b.1.1.2.2.2.2.2) a1) fun b↦br (!b.1.1) y0 (qd (qc6 D ((b.2.1.1.1,b.2.1.1.2.1,()),b.2.1.2.1,b.2.1.2.2.1,b.2.1.2.2.2.1,b.2.1.2.2.2.2.1,b.2.1.2.2.2.2.2)) fun b_1↦br (!b_1.1.1) y0 (some ((((b.2.1.1.1,b.2.1.1.2.1,()),b.2.1.2.1,b.2.1.2.2.1,b.2.1.2.2.2.1,b.2.1.2.2.2.2.1,b.2.1.2.2.2.2.2),true,()),())))))) none)) none))
def q1t (D:DX)(n:Nat) (a0:tq5) (a1:Int):Option tq0:=q90 D n a0 a1
theorem qbwr (D:DX)(n:Nat) (a0:tq5) (a1:Int):rF D n 57 (a0,(a1,()))=q1t D n a0 a1:=by kernel_rfl

def qbw4 (D:DX)(n:Nat) (a0 a1 a2:Int):Option tq42:=some ((bif decide (a0≥a1) then decide (a0≤a2) else false,()),())
def qbiq (D:DX)(n:Nat) (a0 a1 a2:Int):Option tq42:=qbw4 D n a0 a1 a2
theorem qbw6 (D:DX)(n:Nat) (a0 a1 a2:Int):rF D n 58 (a0,(a1,(a2,())))=qbiq D n a0 a1 a2:=by kernel_rfl

def q4r (D:DX)(n:Nat) (a0:tq5):Option tq42:=qd (qul D a0) fun b↦qd (qc6 D a0) fun b_1↦br b_1.1.1 (qd (q0f D a0.1.1 a0.1.2.1) fun b_2↦qd (qm9 D (b.1.1.1,b.1.1.2)) fun b↦qd (qix D b_2.1.1 b.1.1) fun b↦some ((b.1.1,()),())) (some ((false,()),()))
def qtb (D:DX)(n:Nat) (a0:tq5):Option tq42:=q4r D n a0
theorem qbhz (D:DX)(n:Nat) (a0:tq5):rF D n 59 (a0,())=qtb D n a0:=by kernel_rfl

def qbbg (D:DX)(n:Nat) (a0:List tq38) (a1:List tq18) (a2:Int):Option tq43:=let y0:=List.getD a0 a2.toNat (0,0,0,());let y1:=List.getD a1 (Int.toNat (wrap .i64 (y0.2.1 - 1))) (0,0,[],(0,[],()),());qd (qbl D a2 0 (wrap .i64 ((a0.length:Int) - 1))) fun b↦br (!b.1.1) (some ((0,()),())) (br (decide (0≤a2)&&decide (a2<(a0.length:Int))) (br (decide (y0.2.1=0)) (some ((y0.1,()),())) (qd (qbl D y0.2.1 1 (a1.length:Int)) fun b↦br (!b.1.1) (some ((0,()),())) (br (decide (0≤wrap .i64 (y0.2.1 - 1))&&decide (wrap .i64 (y0.2.1 - 1)<(a1.length:Int))) (qd (qsd D y1 a2) fun b↦br (bif decide (y1.1=y0.2.2.1) then decide (y1.2.1=2) else false) (some ((b.1.1.2.2.1,()),())) (some ((b.1.1.2.1,()),()))) none))) none)
def q0s (D:DX)(n:Nat) (a0:List tq38) (a1:List tq18) (a2:Int):Option tq43:=qbbg D n a0 a1 a2
theorem qbn3 (D:DX)(n:Nat) (a0:List tq38) (a1:List tq18) (a2:Int):rF D n 60 (a0,(a1,(a2,())))=q0s D n a0 a1 a2:=by kernel_rfl


def q3m (D:DX)(n:Nat) (go:List tq38→Int→Int→tq12→Option tq42) (K0:Bool→Option tq42) (K1:Option tq42) (x0:List tq38) (x1 x2:Int) (x3:tq12):Option tq42:=let y0:=List.getD x0 x2.toNat (0,0,0,());let y1:=List.getD x3.2.1 (Int.toNat (wrap .i64 (y0.2.1 - 1))) (0,0,[],(0,[],()),());br (decide (x2<x1)) (br (decide (0≤x2)&&decide (x2<(x0.length:Int))) (qd (q2s D y0 (x3.2.1.length:Int)) fun b↦br (!b.1.1) (K0 false) (br (decide (y0.2.1=0)) (go x0 x1 (wrap .i64 (x2+1)) x3) (br (decide (0≤wrap .i64 (y0.2.1 - 1))&&decide (wrap .i64 (y0.2.1 - 1)<(x3.2.1.length:Int))) (qd (qsd D y1 x2) fun b↦br (bif !b.1.2.1 then true else y1.1 != y0.2.2.1) (K0 false) (go x0 x1 (wrap .i64 (x2+1)) x3)) none))) none) K1
def qos (D:DX)(n:Nat) (K0:Bool→Option tq42) (K1:Option tq42):Nat→(List tq38)→Int→Int→tq12→Option tq42 | 0=>(fun x0 x1 x2 x3=>none) | m+1=>(fun x0 x1 x2 x3=>q3m D n (qos D n K0 K1 m) K0 K1 x0 x1 x2 x3)
def q83 (D:DX)(n:Nat) (a:Bool):Option tq42:=some ((a,()),())
def q8q (D:DX)(n:Nat):Option tq42:=some ((true,()),())
def qz4 (D:DX)(n:Nat):(List tq38)→(Int)→(Int)→tq12→Option tq42:=(fun x0 x1 x2 x3=>qos D n (fun a=>q83 D n a) (q8q D n) n x0 x1 x2 x3)
def q56 (D:DX)(n:Nat) (lp0:List tq38→Int→Int→tq12→Option tq42) (a0:tq12):Option tq42:=br ((a0.1.length:Int) != 20) (some ((false,()),())) (qd (qbl D (a0.2.1.length:Int) 1 4) fun b↦br (!b.1.1) (some ((false,()),())) (qd (qdz D a0.2.1 (Clo.mk 110 [])) fun b↦br b.1.1 (some ((false,()),())) (lp0 a0.1 (a0.1.length:Int) 0 a0)))
def q7m (D:DX)(n:Nat) (a0:tq12):Option tq42:=q56 D n (qz4 D n) a0
def q3s (x0:List tq38) (x1 x2:Int) (x3:tq12):St:=stq 64 [(1,AV.addr 1 []),(25,AV.val yq19 x0),(26,AV.val yq34 x1),(27,AV.val yq34 x2)] [(1,Root.mk yq3 Mk.no x3 true)]
def q82 (a:Bool):St:=stq 64 [(2,AV.val Ty.bool a)] []
def q8e:St:=stq 64 [] []
theorem qbn2 (D:DX)(n:Nat) (K:KT 63):∀ (m:Nat) (x0:List tq38) (x1 x2:Int) (x3:tq12),LF D n 63 pq0 m (q3s x0 x1 x2 x3) K=qos D n (fun a=>K (Ex.ret) (q82 a)) (K (Ex.exit 0) (q8e)) m x0 x1 x2 x3:=eL4 (fun F=>q3m D n F (fun a=>K (Ex.ret) (q82 a)) (K (Ex.exit 0) (q8e))) (fun _ _ _ _ =>qz ..) (fun _ _ _ _ _ =>by kernel_rfl) (fun _ _ _ _ _ =>rfl)
theorem qbk5 (D:DX)(n:Nat) (x0) (x1) (x2) (x3):LF D n 63 pq0 n (q3s x0 x1 x2 x3) (CF D n 63 [] pq0 (lF 63))=qz4 D n x0 x1 x2 x3 :=by rw[qbn2];kernel_rfl
theorem qbut (D:DX)(n:Nat) (a0:tq12):rF D n 63 (a0,())=q7m D n a0:=by
 have h:rF D n 63 (a0,())=q56 D n (fun x0 x1 x2 x3=>LF D n 63 pq0 n (q3s x0 x1 x2 x3) (CF D n 63 [] pq0 (lF 63))) a0:=by kernel_rfl
 rw[h]
 simp only[qbk5]
 rfl

def qhd (D:DX)(n:Nat) (a1:Clo) (a0:List tq38):Option tq42:=qd (qid D a0 a1) fun b↦some ((decide (b.1.1≥0),()),())
def qd6 (D:DX)(n:Nat) (a0:List tq38) (a1:Clo):Option tq42:=qhd D n a1 a0
theorem qnh (D:DX)(n:Nat) (a0:List tq38) (a1:Clo):rF D n 64 (a0,(a1,()))=qd6 D n a0 a1:=by kernel_rfl

def q02 (D:DX)(n:Nat) (go:List Int→Int→Int→tq40→Option tq42) (K0:Bool→tq40→Option tq42) (K1:tq40→Option tq42) (x0:List Int) (x1 x2:Int) (x3:tq40):Option tq42:=br (decide (x2<x1)) (br (decide (0≤x2)&&decide (x2<(x0.length:Int))) (br (List.getD x0 x2.toNat 0 != 0) (qd (qgm D (List.getD x0 x2.toNat 0)) fun b↦br (!b.1.1) (K0 false x3) (br (decide (0≤0)&&decide (0≤x2)&&decide (x2≤(x3.1.length:Int))) (qd (qg8 D (List.drop (Int.toNat 0) (List.take x2.toNat x3.1)) (List.getD x0 x2.toNat 0)) fun b↦br b.1.1 (K0 false x3) (go x0 x1 (wrap .i64 (x2+1)) x3)) none)) (go x0 x1 (wrap .i64 (x2+1)) x3)) none) (K1 x3)
def qm8 (D:DX)(n:Nat) (K0:Bool→tq40→Option tq42) (K1:tq40→Option tq42):Nat→(List Int)→Int→Int→tq40→Option tq42 | 0=>(fun x0 x1 x2 x3=>none) | m+1=>(fun x0 x1 x2 x3=>q02 D n (qm8 D n K0 K1 m) K0 K1 x0 x1 x2 x3)
def q52 (D:DX)(n:Nat) (a:Bool) (b:tq40):Option tq42:=some ((a,()),())
def quu (D:DX)(n:Nat) (a:tq40):Option tq42:=br (decide ((a.1.length:Int)=4)) (qd (qbl D a.2.1 0 5) fun b↦some ((b.1.1,()),())) (some ((false,()),()))
def qwl (D:DX)(n:Nat):(List Int)→(Int)→(Int)→tq40→Option tq42:=(fun x0 x1 x2 x3=>qm8 D n (fun a b=>q52 D n a b) (fun c=>quu D n c) n x0 x1 x2 x3)
def q3y (D:DX)(n:Nat) (lp0:List Int→Int→Int→tq40→Option tq42) (a0:tq40):Option tq42:=lp0 a0.1 (a0.1.length:Int) 0 a0
def q2z (D:DX)(n:Nat) (a0:tq40):Option tq42:=q3y D n (qwl D n) a0
def q0h (x0:List Int) (x1 x2:Int) (x3:tq40):St:=stq 38 [(1,AV.addr 1 []),(6,AV.val yq30 x0),(7,AV.val yq34 x1),(8,AV.val yq34 x2)] [(1,Root.mk yq23 Mk.no x3 true)]
def q76 (a:Bool) (b:tq40):St:=stq 38 [(1,AV.addr 1 []),(2,AV.val Ty.bool a)] [(1,Root.mk yq23 Mk.no b true)]
def q6d (a:tq40):St:=stq 38 [(1,AV.addr 1 [])] [(1,Root.mk yq23 Mk.no a true)]
theorem qbmd (D:DX)(n:Nat) (K:KT 66):∀ (m:Nat) (x0:List Int) (x1 x2:Int) (x3:tq40),LF D n 66 pq2 m (q0h x0 x1 x2 x3) K=qm8 D n (fun a b=>K (Ex.ret) (q76 a b)) (fun c=>K (Ex.exit 0) (q6d c)) m x0 x1 x2 x3:=eL4 (fun F=>q02 D n F (fun a b=>K (Ex.ret) (q76 a b)) (fun c=>K (Ex.exit 0) (q6d c))) (fun _ _ _ _ =>qz ..) (fun _ _ _ _ _ =>by kernel_rfl) (fun _ _ _ _ _ =>rfl)
theorem qbj9 (D:DX)(n:Nat) (x0) (x1) (x2) (x3):LF D n 66 pq2 n (q0h x0 x1 x2 x3) (CF D n 66 [] pq2 (lF 66))=qwl D n x0 x1 x2 x3 :=by rw[qbmd];kernel_rfl
theorem qbrl (D:DX)(n:Nat) (a0:tq40):rF D n 66 (a0,())=q2z D n a0:=by
 have h:rF D n 66 (a0,())=q3y D n (fun x0 x1 x2 x3=>LF D n 66 pq2 n (q0h x0 x1 x2 x3) (CF D n 66 [] pq2 (lF 66))) a0:=by kernel_rfl
 rw[h]
 simp only[qbj9]
 rfl

def qla (D:DX)(n:Nat) (go:List Int→List Int→Int→Int→Option tq42) (K0:Bool→Option tq42) (K1:Option tq42) (x0 x1:List Int) (x2 x3:Int):Option tq42:=br (decide (x3<x2)) (br (decide (0≤x3)&&decide (x3<(x0.length:Int))) (br (decide (0≤x3)&&decide (x3<(x1.length:Int))) (br (List.getD x0 x3.toNat 0 != List.getD x1 x3.toNat 0) (K0 false) (go x0 x1 x2 (wrap .i64 (x3+1)))) none) none) K1
def qf0 (D:DX)(n:Nat) (K0:Bool→Option tq42) (K1:Option tq42):Nat→(List Int)→(List Int)→Int→Int→Option tq42 | 0=>(fun x0 x1 x2 x3=>none) | m+1=>(fun x0 x1 x2 x3=>qla D n (qf0 D n K0 K1 m) K0 K1 x0 x1 x2 x3)
def qp2 (D:DX)(n:Nat) (a:Bool):Option tq42:=some ((a,()),())
def qp4 (D:DX)(n:Nat):Option tq42:=some ((true,()),())
def qku (D:DX)(n:Nat):(List Int)→(List Int)→(Int)→(Int)→Option tq42:=(fun x0 x1 x2 x3=>qf0 D n (fun a=>qp2 D n a) (qp4 D n) n x0 x1 x2 x3)
def qmd (D:DX)(n:Nat) (lp0:List Int→List Int→Int→Int→Option tq42) (a0 a1:List Int):Option tq42:=br ((a0.length:Int) != (a1.length:Int)) (some ((false,()),())) (lp0 a0 a1 (a0.length:Int) 0)
def qma (D:DX)(n:Nat) (a0 a1:List Int):Option tq42:=qmd D n (qku D n) a0 a1
def qk5 (x0 x1:List Int) (x2 x3:Int):St:=stq 26 [(0,AV.val yq30 x0),(1,AV.val yq30 x1),(12,AV.val yq34 x2),(13,AV.val yq34 x3)] []
def qp5 (a:Bool):St:=stq 26 [(4,AV.val Ty.bool a)] []
def qqa:St:=stq 26 [] []
theorem q70 (D:DX)(n:Nat) (K:KT 67):∀ (m:Nat) (x0 x1:List Int) (x2 x3:Int),LF D n 67 pq0 m (qk5 x0 x1 x2 x3) K=qf0 D n (fun a=>K (Ex.ret) (qp5 a)) (K (Ex.exit 0) (qqa)) m x0 x1 x2 x3:=eL4 (fun F=>qla D n F (fun a=>K (Ex.ret) (qp5 a)) (K (Ex.exit 0) (qqa))) (fun _ _ _ _ =>qz ..) (fun _ _ _ _ _ =>by kernel_rfl) (fun _ _ _ _ _ =>rfl)
theorem q5j (D:DX)(n:Nat) (x0) (x1) (x2) (x3):LF D n 67 pq0 n (qk5 x0 x1 x2 x3) (CF D n 67 [] pq0 (lF 67))=qku D n x0 x1 x2 x3 :=by rw[q70];kernel_rfl
theorem q9s (D:DX)(n:Nat) (a0 a1:List Int):rF D n 67 (a0,(a1,()))=qma D n a0 a1:=by
 have h:rF D n 67 (a0,(a1,()))=qmd D n (fun x0 x1 x2 x3=>LF D n 67 pq0 n (qk5 x0 x1 x2 x3) (CF D n 67 [] pq0 (lF 67))) a0 a1:=by kernel_rfl
 rw[h]
 simp only[q5j]
 rfl

def qxp (D:DX)(n:Nat) (go:List Int→Int→Int→tq40→List Int→Option tq37) (K0:tq40→List Int→Option tq37) (x0:List Int) (x1 x2:Int) (x3:tq40) (x4:List Int):Option tq37:=let y0:=wrap .i64 (x2+1);let y1:=List.getD x0 x2.toNat 0;br (decide (x2<x1)) (br (decide (0≤x2)&&decide (x2<(x0.length:Int))) (br (decide (y1=0)) (go x0 x1 y0 x3 x4) (qd (qdq D y1) fun b↦br (decide (0≤b.1.1)&&decide (b.1.1<(x4.length:Int))) (qd (qcq D y1) fun b_1↦qd (qdp D b_1.1.1) fun b_2↦br (decide (0≤b_2.1.1)&&decide (b_2.1.1<((List.set x4 b.1.1.toNat y0).length:Int))) (br (decide (0≤b_2.1.1)&&decide (b_2.1.1<((List.set x4 b.1.1.toNat y0).length:Int))) (br (decide (x2<wrap .i64 (x3.2.1 - 1))) (qd (qep D y1) fun b_3↦let a:=List.set (List.set x4 b.1.1.toNat y0) b_2.1.1.toNat (wrap .i64 (List.getD (List.set x4 b.1.1.toNat y0) b_2.1.1.toNat 0+1));br (decide (0≤b_3.1.1)&&decide (b_3.1.1<(a.length:Int))) (go x0 x1 y0 x3 (List.set a b_3.1.1.toNat y0)) none) (go x0 x1 y0 x3 (List.set (List.set x4 b.1.1.toNat y0) b_2.1.1.toNat (wrap .i64 (List.getD (List.set x4 b.1.1.toNat y0) b_2.1.1.toNat 0+1))))) none) none) none)) none) (K0 x3 x4)
def qlr (D:DX)(n:Nat) (K0:tq40→List Int→Option tq37):Nat→(List Int)→Int→Int→tq40→(List Int)→Option tq37 | 0=>(fun x0 x1 x2 x3 x4=>none) | m+1=>(fun x0 x1 x2 x3 x4=>qxp D n (qlr D n K0 m) K0 x0 x1 x2 x3 x4)
def qsq (D:DX)(n:Nat) (c:tq40) (a:List Int):Option tq37:=qd (qcp D) fun b↦br (decide (0≤b.1.1)&&decide (b.1.1<(a.length:Int))) (some ((List.set a b.1.1.toNat c.2.1,()),())) none
def qvm (D:DX)(n:Nat):(List Int)→(Int)→(Int)→tq40→(List Int)→Option tq37:=(fun x0 x1 x2 x3 x4=>qlr D n (fun a b=>qsq D n a b) n x0 x1 x2 x3 x4)
def qzl (D:DX)(n:Nat) (lp0:List Int→Int→Int→tq40→List Int→Option tq37) (a0:tq40):Option tq37:=qd (qox D a0) fun b↦br (!b.1.1) (some (([],()),())) (br (decide (0<a0.1.length)&&decide (0<(List.replicate (Int.toNat 20) 0).length)) (lp0 a0.1 (a0.1.length:Int) 0 a0 (qow yq34 (List.replicate (Int.toNat 20) 0) a0.1)) (lp0 a0.1 (a0.1.length:Int) 0 a0 (List.replicate (Int.toNat 20) 0)))
def qyz (D:DX)(n:Nat) (a0:tq40):Option tq37:=qzl D n (qvm D n) a0
def qwn (x0:List Int) (x1 x2:Int) (x3:tq40) (x4:List Int):St:=stq 56 [(1,AV.addr 1 []),(3,AV.brw 3 [] 0),(15,AV.val yq30 x0),(16,AV.val yq34 x1),(17,AV.val yq34 x2)] [(1,Root.mk yq23 Mk.no x3 true),(3,Root.mk yq30 kq37 x4 false)]
def q4s (a:tq40) (b:List Int):St:=stq 56 [(1,AV.addr 1 []),(3,AV.brw 3 [] 0)] [(1,Root.mk yq23 Mk.no a true),(3,Root.mk yq30 kq37 b false)]
theorem qbkb (D:DX)(n:Nat) (K:KT 68):∀ (m:Nat) (x0:List Int) (x1 x2:Int) (x3:tq40) (x4:List Int),LF D n 68 pq3 m (qwn x0 x1 x2 x3 x4) K=qlr D n (fun a b=>K (Ex.exit 0) (q4s a b)) m x0 x1 x2 x3 x4:=eL5 (fun F=>qxp D n F (fun a b=>K (Ex.exit 0) (q4s a b))) (fun _ _ _ _ _ =>qz ..) (fun _ _ _ _ _ _ =>by kernel_rfl) (fun _ _ _ _ _ _ =>rfl)
theorem qbhv (D:DX)(n:Nat) (x0) (x1) (x2) (x3) (x4):LF D n 68 pq3 n (qwn x0 x1 x2 x3 x4) (CF D n 68 [] pq3 (lF 68))=qvm D n x0 x1 x2 x3 x4 :=by rw[qbkb];kernel_rfl
theorem qbnb (D:DX)(n:Nat) (a0:tq40):rF D n 68 (a0,())=qyz D n a0:=by
 have h:rF D n 68 (a0,())=qzl D n (fun x0 x1 x2 x3 x4=>LF D n 68 pq3 n (qwn x0 x1 x2 x3 x4) (CF D n 68 [] pq3 (lF 68))) a0:=by kernel_rfl
 rw[h]
 simp only[qbhv]
 rfl

def ql7 (D:DX)(n:Nat) (a0:List Int):Option tq37:=br (decide (Int.toNat (a0.length:Int)=0)) (both (some (([],()),())) (br (decide (0+a0.length≤qb6)) (some (([]++a0,()),())) none)) (br (decide (0+a0.length≤qb6)) (some (([]++a0,()),())) none)
def qiu (D:DX)(n:Nat) (a0:List Int):Option tq37:=ql7 D n a0
theorem q9n (D:DX)(n:Nat) (a0:List Int):rF D n 69 (a0,())=qiu D n a0:=by kernel_rfl

def qbng (D:DX)(n:Nat):Option tq43:=some ((13,()),())
def q98 (D:DX)(n:Nat):Option tq43:=qbng D n
theorem qbnu (D:DX)(n:Nat):rF D n 70 ()=q98 D n:=by kernel_rfl

def qbxl (D:DX)(n:Nat) (a0:tq40):Option tq42:=some ((decide (a0.2.1=5),()),())
def qbip (D:DX)(n:Nat) (a0:tq40):Option tq42:=qbxl D n a0
theorem qbw7 (D:DX)(n:Nat) (a0:tq40):rF D n 71 (a0,())=qbip D n a0:=by kernel_rfl

def qba9 (D:DX)(n:Nat) (a0:Int):Option tq43:=qd (qgm D a0) fun b↦qd (qlg D b.1.1 (wrap .i64 (3+a0))) fun b↦some ((b.1.1,()),())
def q0a (D:DX)(n:Nat) (a0:Int):Option tq43:=qba9 D n a0
theorem qbpk (D:DX)(n:Nat) (a0:Int):rF D n 73 (a0,())=q0a D n a0:=by kernel_rfl

def qk7 (D:DX)(n:Nat) (go:List Int→Int→Int→Int→Option tq43) (K0:Int→Option tq43) (K1:Option tq43) (x0:List Int) (x1 x2 x3:Int):Option tq43:=br (decide (x3<x2)) (br (decide (0≤x3)&&decide (x3<(x0.length:Int))) (br (decide (x1=List.getD x0 x3.toNat 0)) (K0 x3) (go x0 x1 x2 (wrap .i64 (x3+1)))) none) K1
def qfz (D:DX)(n:Nat) (K0:Int→Option tq43) (K1:Option tq43):Nat→(List Int)→Int→Int→Int→Option tq43 | 0=>(fun x0 x1 x2 x3=>none) | m+1=>(fun x0 x1 x2 x3=>qk7 D n (qfz D n K0 K1 m) K0 K1 x0 x1 x2 x3)
def qp8 (D:DX)(n:Nat) (a:Int):Option tq43:=some ((a,()),())
def qqc (D:DX)(n:Nat):Option tq43:=some ((-1,()),())
def qkw (D:DX)(n:Nat):(List Int)→(Int)→(Int)→(Int)→Option tq43:=(fun x0 x1 x2 x3=>qfz D n (fun a=>qp8 D n a) (qqc D n) n x0 x1 x2 x3)
def ql8 (D:DX)(n:Nat) (lp0:List Int→Int→Int→Int→Option tq43) (a0:List Int) (a1:Int):Option tq43:=lp0 a0 a1 (a0.length:Int) 0
def ql6 (D:DX)(n:Nat) (a0:List Int) (a1:Int):Option tq43:=ql8 D n (qkw D n) a0 a1
def qk8 (x0:List Int) (x1 x2 x3:Int):St:=stq 19 [(0,AV.val yq30 x0),(1,AV.val yq34 x1),(7,AV.val yq34 x2),(8,AV.val yq34 x3)] []
def qp7 (a:Int):St:=stq 19 [(4,AV.val yq34 a)] []
def qp3:St:=stq 19 [] []
theorem q6s (D:DX)(n:Nat) (K:KT 74):∀ (m:Nat) (x0:List Int) (x1 x2 x3:Int),LF D n 74 pq2 m (qk8 x0 x1 x2 x3) K=qfz D n (fun a=>K (Ex.ret) (qp7 a)) (K (Ex.exit 0) (qp3)) m x0 x1 x2 x3:=eL4 (fun F=>qk7 D n F (fun a=>K (Ex.ret) (qp7 a)) (K (Ex.exit 0) (qp3))) (fun _ _ _ _ =>qz ..) (fun _ _ _ _ _ =>by kernel_rfl) (fun _ _ _ _ _ =>rfl)
theorem q5d (D:DX)(n:Nat) (x0) (x1) (x2) (x3):LF D n 74 pq2 n (qk8 x0 x1 x2 x3) (CF D n 74 [] pq2 (lF 74))=qkw D n x0 x1 x2 x3 :=by rw[q6s];kernel_rfl
theorem q9j (D:DX)(n:Nat) (a0:List Int) (a1:Int):rF D n 74 (a0,(a1,()))=ql6 D n a0 a1:=by
 have h:rF D n 74 (a0,(a1,()))=ql8 D n (fun x0 x1 x2 x3=>LF D n 74 pq2 n (qk8 x0 x1 x2 x3) (CF D n 74 [] pq2 (lF 74))) a0 a1:=by kernel_rfl
 rw[h]
 simp only[q5d]
 rfl

def qbst (D:DX)(n:Nat) (a0:Bool) (a1:Int):Option tq43:=br (!a0) (some ((-1,()),())) (some ((a1,()),()))
def qbc9 (D:DX)(n:Nat) (a0:Bool) (a1:Int):Option tq43:=qbst D n a0 a1
theorem qbrq (D:DX)(n:Nat) (a0:Bool) (a1:Int):rF D n 75 (a0,(a1,()))=qbc9 D n a0 a1:=by kernel_rfl

def qbfy (D:DX)(n:Nat) (a0:Int):Option tq42:=qd (qbl D a0 1 6) fun b↦some ((b.1.1,()),())
def q6m (D:DX)(n:Nat) (a0:Int):Option tq42:=qbfy D n a0
theorem qbve (D:DX)(n:Nat) (a0:Int):rF D n 76 (a0,())=q6m D n a0:=by kernel_rfl

def qba3 (D:DX)(n:Nat) (a0:Int):Option tq43:=qd (qgm D a0) fun b↦br (!b.1.1) (some ((-1,()),())) (some ((Int.tmod a0 3,()),()))
def q00 (D:DX)(n:Nat) (a0:Int):Option tq43:=qba3 D n a0
theorem qbou (D:DX)(n:Nat) (a0:Int):rF D n 77 (a0,())=q00 D n a0:=by kernel_rfl

def qbab (D:DX)(n:Nat) (a0:tq40) (a1:tq38) (a2:tq41):Option tq42:=qd (qox D a0) fun b↦br (!b.1.1) (some ((false,()),())) (qd (qj9 D a1) fun b↦br (!b.1.1) (some ((false,()),())) (br (a2.1 != 0) (br (decide ((a2.2.1.length:Int)=0)) (qd (qbbp D a0 a1 a2.1) fun b↦some ((b.1.1,()),())) (some ((false,()),()))) (qd (qbal D a0 a1) fun b↦br b.1.2.1 (qd (qix D b.1.1 a2.2.1) fun b↦some ((b.1.1,()),())) (some ((false,()),())))))
def q09 (D:DX)(n:Nat) (a0:tq40) (a1:tq38) (a2:tq41):Option tq42:=qbab D n a0 a1 a2
theorem qboj (D:DX)(n:Nat) (a0:tq40) (a1:tq38) (a2:tq41):rF D n 78 (a0,(a1,(a2,())))=q09 D n a0 a1 a2:=by kernel_rfl

def q11 (D:DX)(n:Nat) (a0:tq17) (a1:Int) (a2:tq5):Option tq42:=br (decide (a1 = -1)) (some ((true,()),())) (qd (qbl D a1 a0.2.2.1 a2.2.2.1) fun b↦some ((b.1.1,()),()))
def qry (D:DX)(n:Nat) (a0:tq17) (a1:Int) (a2:tq5):Option tq42:=q11 D n a0 a1 a2
theorem qber (D:DX)(n:Nat) (a0:tq17) (a1:Int) (a2:tq5):rF D n 79 (a0,(a1,(a2,())))=qry D n a0 a1 a2:=by kernel_rfl

def qbix (D:DX)(n:Nat) (a0:tq38):Option tq42:=let y3:Option tq42:=qd (qgm D a0.2.2.1) fun b↦some ((b.1.1,()),());let y6:Option tq42:=br (decide (a0.2.1=0)) y3 (some ((false,()),()));let y1:Option tq42:=br (decide (a0.1=6)) (qd (qr5 D a0.2.1) fun b↦some ((bif b.1.1 then decide (a0.2.2.1=0) else false,()),())) (br (decide (a0.1=7)) (br (decide (a0.1=7)) (some ((bif decide (a0.2.1=0) then decide (a0.2.2.1=0) else false,()),())) (some ((false,()),()))) (br (decide (a0.1=8)) (br (decide (a0.1=8)) (some ((bif decide (a0.2.1=0) then decide (a0.2.2.1=0) else false,()),())) (some ((false,()),()))) (br (decide (a0.1=9)) (some ((bif decide (a0.2.1=0) then decide (a0.2.2.1=0) else false,()),())) (some ((false,()),())))));let y0:Option tq42:=br (decide (a0.1=5)) (br (decide (a0.1=5)) y6 y1) (br (decide (a0.1=10)) y6 y1);let y2:Option tq42:=qd (qq0 D a0.2.1) fun b↦some ((bif b.1.1 then decide (a0.2.2.1=0) else false,()),());let y4:Option tq42:=br (decide (a0.1=3)) (br (decide (a0.1=3)) y2 y0) (br (decide (a0.1=4)) y2 y0);let y5:Option tq42:=qd (qq0 D a0.2.1) fun b↦br b.1.1 y3 (some ((false,()),()));br (decide (a0.1=1)) (br (decide (a0.1=1)) y5 y4) (br (decide (a0.1=2)) y5 y4)
def q9x (D:DX)(n:Nat) (a0:tq38):Option tq42:=qbix D n a0
theorem qbww (D:DX)(n:Nat) (a0:tq38):rF D n 80 (a0,())=q9x D n a0:=by kernel_rfl

def q8w (D:DX)(n:Nat) (a0:tq13) (a1:Int):Option tq42:=let y0:Option tq42:=qd (qcz D a0.2.2.2.1 (Clo.mk 123 [])) fun b↦br b.1.1 (some ((false,()),())) (qd (qcy D a0.2.2.2.2.1 (Clo.mk 127 [CapV.rptr yq34 a1])) fun b↦some ((!b.1.1,()),()));br (decide ((a0.1.length:Int)>8)) (some ((false,()),())) (qd (qfc D a0.1 (Clo.mk 121 [])) fun b↦br b.1.1 (some ((false,()),())) (qd (qbl D a0.2.1 0 (a0.1.length:Int)) fun b↦br (bif bif bif !b.1.1 then true else bif a0.2.2.1 then decide (a0.2.1=(a0.1.length:Int)) else false then true else decide ((a0.2.2.2.1.length:Int)>12) then true else decide ((a0.2.2.2.2.1.length:Int)>2)) (some ((false,()),())) (br (!a0.2.2.1) (br (decide (wrap .i64 ((a0.2.2.2.1.length:Int)+(a0.2.2.2.2.1.length:Int))>0)) (some ((false,()),())) y0) y0)))
def qxt (D:DX)(n:Nat) (a0:tq13) (a1:Int):Option tq42:=q8w D n a0 a1
theorem qbl0 (D:DX)(n:Nat) (a0:tq13) (a1:Int):rF D n 81 (a0,(a1,()))=qxt D n a0 a1:=by kernel_rfl

def qw3 (D:DX)(n:Nat) (go:Int→Int→Int→Int→List tq17→Int→Int→tq5→tq13→Option tq42) (K0:Int→Int→Int→tq5→tq13→Option tq42) (x0 x1 x2 x3:Int) (x4:List tq17) (x5 x6:Int) (x7:tq5) (x8:tq13):Option tq42:=br (decide (x6<x5)) (br (decide (0≤x6)&&decide (x6<(x4.length:Int))) (br ((List.getD x4 x6.toNat (0,(0,0,0,()),0,0,0,(0,[],()),())).1 != x0) (go x0 x1 x2 x3 x4 x5 (wrap .i64 (x6+1)) x7 x8) (br (decide ((List.getD x4 x6.toNat (0,(0,0,0,()),0,0,0,(0,[],()),())).2.2.2.2.1≥0)) (go x0 x6 (wrap .i64 (x2+1)) x3 x4 x5 (wrap .i64 (x6+1)) x7 x8) (go x0 x6 x2 (wrap .i64 (x3+1)) x4 x5 (wrap .i64 (x6+1)) x7 x8))) none) (K0 x1 x2 x3 x7 x8)
def qlx (D:DX)(n:Nat) (K0:Int→Int→Int→tq5→tq13→Option tq42):Nat→Int→Int→Int→Int→(List tq17)→Int→Int→tq5→tq13→Option tq42 | 0=>(fun x0 x1 x2 x3 x4 x5 x6 x7 x8=>none) | m+1=>(fun x0 x1 x2 x3 x4 x5 x6 x7 x8=>qw3 D n (qlx D n K0 m) K0 x0 x1 x2 x3 x4 x5 x6 x7 x8)
def qsu (D:DX)(n:Nat) (b e d:Int) (c:tq5) (a:tq13):Option tq42:=let y0:=List.getD c.2.2.2.1 b.toNat (0,(0,0,0,()),0,0,0,(0,[],()),());br (e != a.2.1) (some ((false,()),())) (br (!a.2.2.1) (some ((decide (d=0),()),())) (br (bif decide (b≥0) then decide (d=1) else false) (br (decide (0≤b)&&decide (b<(c.2.2.2.1.length:Int))) (br (decide (y0.2.2.2.2.1 = -1)) (br (decide (0≤b)&&decide (b<(c.2.2.2.1.length:Int))) (br (decide (0≤a.2.1)&&decide (a.2.1<(a.1.length:Int))) (some ((qk0 yq21 y0.2.1 (List.getD a.1 a.2.1.toNat (0,0,0,())),()),())) none) none) (some ((false,()),()))) none) (some ((false,()),()))))
def quy (D:DX)(n:Nat):(Int)→(Int)→(Int)→(Int)→(List tq17)→(Int)→(Int)→tq5→tq13→Option tq42:=(fun x0 x1 x2 x3 x4 x5 x6 x7 x8=>qlx D n (fun a b c d e=>qsu D n a b c d e) n x0 x1 x2 x3 x4 x5 x6 x7 x8)
def qz5 (D:DX)(n:Nat) (lp0:Int→Int→Int→Int→List tq17→Int→Int→tq5→tq13→Option tq42) (a0:tq5) (a1:Int):Option tq42:=br (decide (0≤a1)&&decide (a1<(a0.2.1.length:Int))) (lp0 a1 (-1) 0 0 a0.2.2.2.1 (a0.2.2.2.1.length:Int) 0 a0 (List.getD a0.2.1 a1.toNat ([],0,false,[],[],()))) none
def qzt (D:DX)(n:Nat) (a0:tq5) (a1:Int):Option tq42:=qz5 D n (quy D n) a0 a1
def qw8 (x0 x1 x2 x3:Int) (x4:List tq17) (x5 x6:Int) (x7:tq5) (x8:tq13):St:=stq 76 [(1,AV.val yq34 x0),(2,AV.addr 2 []),(5,AV.addr 5 []),(6,AV.val yq34 x1),(7,AV.val yq34 x2),(8,AV.val yq34 x3),(17,AV.val yq6 x4),(18,AV.val yq34 x5),(19,AV.val yq34 x6)] [(2,Root.mk yq0 Mk.no x7 true),(5,Root.mk yq5 Mk.no x8 true)]
def q4l (a b c:Int) (d:tq5) (e:tq13):St:=stq 76 [(2,AV.addr 2 []),(5,AV.addr 5 []),(6,AV.val yq34 a),(7,AV.val yq34 b),(8,AV.val yq34 c)] [(2,Root.mk yq0 Mk.no d true),(5,Root.mk yq5 Mk.no e true)]
theorem qbj8 (D:DX)(n:Nat) (K:KT 82):∀ (m:Nat) (x0 x1 x2 x3:Int) (x4:List tq17) (x5 x6:Int) (x7:tq5) (x8:tq13),LF D n 82 pq6 m (qw8 x0 x1 x2 x3 x4 x5 x6 x7 x8) K=qlx D n (fun a b c d e=>K (Ex.exit 0) (q4l a b c d e)) m x0 x1 x2 x3 x4 x5 x6 x7 x8:=eL9 (fun F=>qw3 D n F (fun a b c d e=>K (Ex.exit 0) (q4l a b c d e))) (fun _ _ _ _ _ _ _ _ _ =>qz ..) (fun _ _ _ _ _ _ _ _ _ _ =>by kernel_rfl) (fun _ _ _ _ _ _ _ _ _ _ =>rfl)
theorem qbhp (D:DX)(n:Nat) (x0) (x1) (x2) (x3) (x4) (x5) (x6) (x7) (x8):LF D n 82 pq6 n (qw8 x0 x1 x2 x3 x4 x5 x6 x7 x8) (CF D n 82 [] pq6 (lF 82))=quy D n x0 x1 x2 x3 x4 x5 x6 x7 x8 :=by rw[qbj8];kernel_rfl
theorem qbnk (D:DX)(n:Nat) (a0:tq5) (a1:Int):rF D n 82 (a0,(a1,()))=qzt D n a0 a1:=by
 have h:rF D n 82 (a0,(a1,()))=qz5 D n (fun x0 x1 x2 x3 x4 x5 x6 x7 x8=>LF D n 82 pq6 n (qw8 x0 x1 x2 x3 x4 x5 x6 x7 x8) (CF D n 82 [] pq6 (lF 82))) a0 a1:=by kernel_rfl
 rw[h]
 simp only[qbhp]
 rfl

def qw5 (D:DX)(n:Nat) (go:Int→List tq17→Int→Int→tq5→Option tq42) (K0:Int→tq5→Option tq42) (x0:Int) (x1:List tq17) (x2 x3:Int) (x4:tq5):Option tq42:=br (decide (x3<x2)) (br (decide (0≤x3)&&decide (x3<(x1.length:Int))) (br (decide ((List.getD x1 x3.toNat (0,(0,0,0,()),0,0,0,(0,[],()),())).2.2.2.1≥0)) (go (wrap .i64 (x0+1)) x1 x2 (wrap .i64 (x3+1)) x4) (go x0 x1 x2 (wrap .i64 (x3+1)) x4)) none) (K0 x0 x4)
def qly (D:DX)(n:Nat) (K0:Int→tq5→Option tq42):Nat→Int→(List tq17)→Int→Int→tq5→Option tq42 | 0=>(fun x0 x1 x2 x3 x4=>none) | m+1=>(fun x0 x1 x2 x3 x4=>qw5 D n (qly D n K0 m) K0 x0 x1 x2 x3 x4)
def qxw (D:DX)(n:Nat) (go:Int→List Int→Int→Int→tq5→Option tq42) (K0:Bool→Int→tq5→Option tq42) (K1:Int→tq5→Option tq42) (d:Int) (e:List Int) (f c:Int) (a:tq5):Option tq42:=let y2:=List.getD e c.toNat 0;let y0:=List.getD a.2.2.2.1 (Int.toNat y2) (0,(0,0,0,()),0,0,0,(0,[],()),());let y1:=Int.toNat (wrap .i64 (c - 1));br (decide (c<f)) (br (decide (0≤c)&&decide (c<(e.length:Int))) (qd (qbl D y2 0 (wrap .i64 ((a.2.2.2.1.length:Int) - 1))) fun b↦br (!b.1.1) (K0 false d a) (br (decide (0≤y2)&&decide (y2<(a.2.2.2.1.length:Int))) (br (decide (y0.2.2.2.1<0)) (K0 false d a) (br (decide (0≤0)&&decide (0≤c)&&decide (c≤(a.2.2.2.2.1.length:Int))) (qd (qg8 D (List.drop (Int.toNat 0) (List.take c.toNat a.2.2.2.2.1)) y2) fun b↦br b.1.1 (K0 false d a) (br (decide (c>0)) (br (decide (0≤wrap .i64 (c - 1))&&decide (wrap .i64 (c - 1)<(a.2.2.2.2.1.length:Int))) (br (decide (0≤List.getD a.2.2.2.2.1 y1 0)&&decide (List.getD a.2.2.2.2.1 y1 0<(a.2.2.2.1.length:Int))) (br (decide (0≤y2)&&decide (y2<(a.2.2.2.1.length:Int))) (br (decide ((List.getD a.2.2.2.1 (Int.toNat (List.getD a.2.2.2.2.1 y1 0)) (0,(0,0,0,()),0,0,0,(0,[],()),())).2.2.2.1>y0.2.2.2.1)) (K0 false d a) (go d e f (wrap .i64 (c+1)) a)) none) none) none) (go d e f (wrap .i64 (c+1)) a))) none)) none)) none) (K1 d a)
def qlm (D:DX)(n:Nat) (K0:Bool→Int→tq5→Option tq42) (K1:Int→tq5→Option tq42):Nat→Int→(List Int)→Int→Int→tq5→Option tq42 | 0=>(fun a b c d e=>none) | m+1=>(fun a b c d e=>qxw D n (qlm D n K0 K1 m) K0 K1 a b c d e)
def qbhr (D:DX)(n:Nat) (a:Bool) (b:Int) (c:tq5):Option tq42:=some ((a,()),())
def q4z (D:DX)(n:Nat) (a:Int) (b:tq5):Option tq42:=some ((decide (a=(b.2.2.2.2.1.length:Int)),()),())
def qun (D:DX)(n:Nat):(Int)→(List Int)→(Int)→(Int)→tq5→Option tq42:=(fun a b h i j=>qlm D n (fun c d e=>qbhr D n c d e) (fun f g=>q4z D n f g) n a b h i j)
def qs6 (D:DX)(n:Nat) (lp1:Int→List Int→Int→Int→tq5→Option tq42) (b:Int) (a:tq5):Option tq42:=lp1 b a.2.2.2.2.1 (a.2.2.2.2.1.length:Int) 0 a
def quq (D:DX)(n:Nat):(Int)→(List tq17)→(Int)→(Int)→tq5→Option tq42:=(fun x0 x1 x2 x3 x4=>qly D n (fun a b=>qs6 D n (qun D n) a b) n x0 x1 x2 x3 x4)
def q0x (D:DX)(n:Nat) (lp0:Int→List tq17→Int→Int→tq5→Option tq42) (a0:tq5):Option tq42:=lp0 0 a0.2.2.2.1 (a0.2.2.2.1.length:Int) 0 a0
def qy2 (D:DX)(n:Nat) (a0:tq5):Option tq42:=q0x D n (quq D n) a0
def qv8 (x0:Int) (x1:List tq17) (x2 x3:Int) (x4:tq5):St:=stq 83 [(1,AV.addr 1 []),(3,AV.val yq34 x0),(9,AV.val yq6 x1),(10,AV.val yq34 x2),(11,AV.val yq34 x3)] [(1,Root.mk yq0 Mk.no x4 true)]
def qth (a:Int) (b:tq5):St:=stq 83 [(1,AV.addr 1 []),(3,AV.val yq34 a)] [(1,Root.mk yq0 Mk.no b true)]
def qw9 (a:Int) (b:List Int) (c d:Int) (e:tq5):St:=stq 83 [(1,AV.addr 1 []),(3,AV.val yq34 a),(22,AV.val yq30 b),(23,AV.val yq34 c),(24,AV.val yq34 d)] [(1,Root.mk yq0 Mk.no e true)]
def q43 (a:Bool) (b:Int) (c:tq5):St:=stq 83 [(1,AV.addr 1 []),(2,AV.val Ty.bool a),(3,AV.val yq34 b)] [(1,Root.mk yq0 Mk.no c true)]
def q4o (a:Int) (b:tq5):St:=stq 83 [(1,AV.addr 1 []),(3,AV.val yq34 a)] [(1,Root.mk yq0 Mk.no b true)]
theorem qbkq (D:DX)(n:Nat) (K:KT 83):∀ (m:Nat) (x0:Int) (x1:List tq17) (x2 x3:Int) (x4:tq5),LF D n 83 pq0 m (qv8 x0 x1 x2 x3 x4) K=qly D n (fun a b=>K (Ex.exit 0) (qth a b)) m x0 x1 x2 x3 x4:=eL5 (fun F=>qw5 D n F (fun a b=>K (Ex.exit 0) (qth a b))) (fun _ _ _ _ _ =>qz ..) (fun _ _ _ _ _ _ =>by kernel_rfl) (fun _ _ _ _ _ _ =>rfl)
theorem qbjw (D:DX)(n:Nat) (K:KT 83):∀ (m:Nat) (f:Int) (g:List Int) (h i:Int) (j:tq5),LF D n 83 pq1 m (qw9 f g h i j) K=qlm D n (fun a b c=>K (Ex.ret) (q43 a b c)) (fun d e=>K (Ex.exit 2) (q4o d e)) m f g h i j:=eL5 (fun F=>qxw D n F (fun a b c=>K (Ex.ret) (q43 a b c)) (fun d e=>K (Ex.exit 2) (q4o d e))) (fun _ _ _ _ _ =>qz ..) (fun _ _ _ _ _ _ =>by kernel_rfl) (fun _ _ _ _ _ _ =>rfl)
theorem qbhh (D:DX)(n:Nat) (a:Int) (b:List Int) (c d:Int) (e:tq5):LF D n 83 pq1 n (qw9 a b c d e) (CF D n 83 [] pq1 (lF 83))=qun D n a b c d e :=by rw[qbjw];kernel_rfl
theorem qbha (D:DX)(n:Nat) (a:Int) (b:tq5):(CF D n 83 [] pq0 (lF 83)) (Ex.exit 0) (qth a b)=qs6 D n (fun c d e f g=>LF D n 83 pq1 n (qw9 c d e f g) (CF D n 83 [] pq1 (lF 83))) a b:=by kernel_rfl
theorem qbhy (D:DX)(n:Nat) (x0) (x1) (x2) (x3) (x4):LF D n 83 pq0 n (qv8 x0 x1 x2 x3 x4) (CF D n 83 [] pq0 (lF 83))=quq D n x0 x1 x2 x3 x4:=by
 rw[qbkq]
 simp only[qbha,qbhh]
 rfl
theorem qbpg (D:DX)(n:Nat) (a0:tq5):rF D n 83 (a0,())=qy2 D n a0:=by
 have h:rF D n 83 (a0,())=q0x D n (fun x0 x1 x2 x3 x4=>LF D n 83 pq0 n (qv8 x0 x1 x2 x3 x4) (CF D n 83 [] pq0 (lF 83))) a0:=by kernel_rfl
 rw[h]
 simp only[qbhy]
 rfl

def qbbb (D:DX)(n:Nat) (a0:tq41):Option ((tq41×Unit)×Unit):=qd (qgk D a0.2.1) fun b↦some (((a0.1,b.1.1,()),()),())
def q0o (D:DX)(n:Nat) (a0:tq41):Option ((tq41×Unit)×Unit):=qbbb D n a0
theorem qbof (D:DX)(n:Nat) (a0:tq41):rF D n 85 (a0,())=q0o D n a0:=by kernel_rfl

def qbn0 (D:DX)(n:Nat):Option tq31:=some (((List.replicate (Int.toNat 4) 0,0,()),()),())
def qbbu (D:DX)(n:Nat):Option tq31:=qbn0 D n
theorem qbn9 (D:DX)(n:Nat):rF D n 90 ()=qbbu D n:=by kernel_rfl

def q2r (D:DX)(n:Nat) (go:Int→Int→tq40→Option tq43) (K0:Int→Option tq43) (K1:Option tq43) (x0 x1:Int) (x2:tq40):Option tq43:=br (decide (x1<(x2.1.length:Int))) (br (decide (0≤x1)&&decide (x1<(x2.1.length:Int))) (br (decide (List.getD x2.1 x1.toNat 0=x0)) (K0 x1) (go x0 (wrap .i64 (x1+1)) x2)) none) K1
def qou (D:DX)(n:Nat) (K0:Int→Option tq43) (K1:Option tq43):Nat→Int→Int→tq40→Option tq43 | 0=>(fun x0 x1 x2=>none) | m+1=>(fun x0 x1 x2=>q2r D n (qou D n K0 K1 m) K0 K1 x0 x1 x2)
def q81 (D:DX)(n:Nat) (a:Int):Option tq43:=some ((a,()),())
def q88 (D:DX)(n:Nat):Option tq43:=some ((-1,()),())
def qzf (D:DX)(n:Nat):(Int)→(Int)→tq40→Option tq43:=(fun x0 x1 x2=>qou D n (fun a=>q81 D n a) (q88 D n) n x0 x1 x2)
def q6q (D:DX)(n:Nat) (lp0:Int→Int→tq40→Option tq43) (a0:tq40) (a1:Int):Option tq43:=lp0 a1 0 a0
def q58 (D:DX)(n:Nat) (a0:tq40) (a1:Int):Option tq43:=q6q D n (qzf D n) a0 a1
def q3a (x0 x1:Int) (x2:tq40):St:=stq 21 [(1,AV.val yq34 x0),(2,AV.addr 2 []),(5,AV.val yq34 x1)] [(2,Root.mk yq23 Mk.no x2 true)]
def q9b (a:Int):St:=stq 21 [(4,AV.val yq34 a)] []
def q9e:St:=stq 21 [] []
theorem qboq (D:DX)(n:Nat) (K:KT 91):∀ (m:Nat) (x0 x1:Int) (x2:tq40),LF D n 91 pq2 m (q3a x0 x1 x2) K=qou D n (fun a=>K (Ex.ret) (q9b a)) (K (Ex.exit 0) (q9e)) m x0 x1 x2:=eL3 (fun F=>q2r D n F (fun a=>K (Ex.ret) (q9b a)) (K (Ex.exit 0) (q9e))) (fun _ _ _ =>qz ..) (fun _ _ _ _ =>by kernel_rfl) (fun _ _ _ _ =>rfl)
theorem qbk2 (D:DX)(n:Nat) (x0) (x1) (x2):LF D n 91 pq2 n (q3a x0 x1 x2) (CF D n 91 [] pq2 (lF 91))=qzf D n x0 x1 x2 :=by rw[qboq];kernel_rfl
theorem qbup (D:DX)(n:Nat) (a0:tq40) (a1:Int):rF D n 91 (a0,(a1,()))=q58 D n a0 a1:=by
 have h:rF D n 91 (a0,(a1,()))=q6q D n (fun x0 x1 x2=>LF D n 91 pq2 n (q3a x0 x1 x2) (CF D n 91 [] pq2 (lF 91))) a0 a1:=by kernel_rfl
 rw[h]
 simp only[qbk2]
 rfl

def q6l (D:DX)(n:Nat) (a0:tq35) (a1:List Int):Option tq25:=qd (qcf D a0 (a1.length:Int)) fun b↦br (decide (0≤b.1.1)&&decide (b.1.1<(a1.length:Int))) (some ((List.getD a1 b.1.1.toNat 0,()),b.2.1,())) none
def qvp (D:DX)(n:Nat) (a0:tq35) (a1:List Int):Option tq25:=q6l D n a0 a1
theorem qbko (D:DX)(n:Nat) (a0:tq35) (a1:List Int):rF D n 92 (a0,(a1,()))=qvp D n a0 a1:=by kernel_rfl

def q2h (D:DX)(n:Nat) (a0:tq35):Option ((tq38×Unit)×tq32):=qd (qn7 D a0 (List.set (List.set (List.set (List.set (List.set (List.set (List.set (List.set (List.set (List.set (List.set (List.set (List.set (List.set (List.replicate 14 0) 0 1) 1 1) 2 1) 3 2) 4 2) 5 3) 6 4) 7 5) 8 6) 9 7) 10 8) 11 9) 12 9) 13 10)) fun b↦qd (qye D b.1.1) fun b_1↦br b_1.1.1 (qd (qcf D b.2.1 4) fun b_2↦br (decide (b.1.1=6)) (qd (qcf D b_2.2.1 3) fun b_3↦qd (qhp D b.1.1) fun b_4↦br b_4.1.1 (qd (qcf D b_3.2.1 4) fun b_5↦some (((b.1.1,b_3.1.1,wrap .i64 (1+b_5.1.1),()),()),b_5.2.1,())) (some (((b.1.1,b_3.1.1,0,()),()),b_3.2.1,()))) (qd (qhp D b.1.1) fun b_3↦br b_3.1.1 (qd (qcf D b_2.2.1 4) fun b_4↦some (((b.1.1,b_2.1.1,wrap .i64 (1+b_4.1.1),()),()),b_4.2.1,())) (some (((b.1.1,b_2.1.1,0,()),()),b_2.2.1,())))) (br (decide (b.1.1=6)) (qd (qcf D b.2.1 3) fun b_2↦qd (qhp D b.1.1) fun b_3↦br b_3.1.1 (qd (qcf D b_2.2.1 4) fun b_4↦some (((b.1.1,b_2.1.1,wrap .i64 (1+b_4.1.1),()),()),b_4.2.1,())) (some (((b.1.1,b_2.1.1,0,()),()),b_2.2.1,()))) (qd (qhp D b.1.1) fun b_2↦br b_2.1.1 (qd (qcf D b.2.1 4) fun b_3↦some (((b.1.1,0,wrap .i64 (1+b_3.1.1),()),()),b_3.2.1,())) (some (((b.1.1,0,0,()),()),b.2.1,()))))
def qrm (D:DX)(n:Nat) (a0:tq35):Option ((tq38×Unit)×tq32):=q2h D n a0
theorem qbed (D:DX)(n:Nat) (a0:tq35):rF D n 93 (a0,())=qrm D n a0:=by kernel_rfl

def qbc8 (D:DX)(n:Nat) (a0:tq35):Option tq25:=let y1:=wrap .i64 (a0.2.2.1 * 6364136223846793005)+1442695040888963407;let y0:=wrap .i64 (↑(BitVec.toNat (BitVec.xor (BitVec.ofInt (IntKind.bits IntKind.i64) (Int.fdiv (wrap .i64 y1) (Int.pow 2 (if Int.toNat 33≤IntKind.bits IntKind.i64 then Int.toNat 33 else IntKind.bits IntKind.i64)))) (BitVec.ofInt (IntKind.bits IntKind.i64) (Int.fdiv (wrap .i64 y1) (Int.pow 2 (if Int.toNat 45≤IntKind.bits IntKind.i64 then Int.toNat 45 else IntKind.bits IntKind.i64)))))):Int);br (decide (a0.2.1<(a0.1.length:Int))) (br (decide (0≤a0.2.1)&&decide (a0.2.1<(a0.1.length:Int))) (some ((wrap .i64 (↑(BitVec.toNat (BitVec.and (BitVec.ofInt (IntKind.bits IntKind.i64) (wrap .i64 (wrap .i64 (↑(BitVec.toNat (BitVec.and (BitVec.ofInt (IntKind.bits IntKind.i64) y0) (BitVec.ofInt (IntKind.bits IntKind.i64) 255))):Int)+wrap .i64 (List.getD a0.1 a0.2.1.toNat 0)))) (BitVec.ofInt (IntKind.bits IntKind.i64) 255))):Int),()),(a0.1,wrap .i64 (a0.2.1+1),wrap .i64 y1,a0.2.2.2),())) none) (some ((wrap .i64 (↑(BitVec.toNat (BitVec.and (BitVec.ofInt (IntKind.bits IntKind.i64) y0) (BitVec.ofInt (IntKind.bits IntKind.i64) 255))):Int),()),(a0.1,a0.2.1,wrap .i64 y1,a0.2.2.2),()))
def q3c (D:DX)(n:Nat) (a0:tq35):Option tq25:=qbc8 D n a0
theorem qbse (D:DX)(n:Nat) (a0:tq35):rF D n 94 (a0,())=q3c D n a0:=by kernel_rfl

def qlj (D:DX)(n:Nat) (a0:List tq38):Option tq29:=br (decide (Int.toNat (a0.length:Int)=0)) (both (some (([],()),())) (br (decide (0+a0.length≤qb6)) (some (([]++a0,()),())) none)) (br (decide (0+a0.length≤qb6)) (some (([]++a0,()),())) none)
def qht (D:DX)(n:Nat) (a0:List tq38):Option tq29:=qlj D n a0
theorem qwt (D:DX)(n:Nat) (a0:List tq38):rF D n 95 (a0,())=qht D n a0:=by kernel_rfl

def qwu (D:DX)(n:Nat) (go:Int→tq40→List Int→Option tq37) (K0:tq40→List Int→Option tq37) (x0:Int) (x1:tq40) (x2:List Int):Option tq37:=let y0:=List.getD x1.1 x0.toNat 0;let y1:=wrap .i64 (x0+1);br (decide (x0<4)) (br (decide (0≤x0)&&decide (x0<(x1.1.length:Int))) (qd (q57 D x0) fun b↦br (decide (0≤b.1.1)&&decide (b.1.1<(x2.length:Int))) (br (decide (y0=0)) (go y1 x1 (List.set x2 b.1.1.toNat y0)) (qd (q1c D y0) fun b_1↦br (decide (0≤b_1.1.1)&&decide (b_1.1.1<((List.set x2 b.1.1.toNat y0).length:Int))) (br (decide (x0<wrap .i64 (x1.2.1 - 1))) (qd (q8a D y0) fun b_2↦let a:=List.set (List.set x2 b.1.1.toNat y0) b_1.1.1.toNat y1;br (decide (0≤b_2.1.1)&&decide (b_2.1.1<(a.length:Int))) (go y1 x1 (List.set a b_2.1.1.toNat y1)) none) (go y1 x1 (List.set (List.set x2 b.1.1.toNat y0) b_1.1.1.toNat y1))) none)) none) none) (K0 x1 x2)
def qln (D:DX)(n:Nat) (K0:tq40→List Int→Option tq37):Nat→Int→tq40→(List Int)→Option tq37 | 0=>(fun x0 x1 x2=>none) | m+1=>(fun x0 x1 x2=>qwu D n (qln D n K0 m) K0 x0 x1 x2)
def qw1 (D:DX)(n:Nat) (go:Int→tq40→List Int→Option tq37) (K0:tq40→List Int→Option tq37) (a:Int) (c:tq40) (d:List Int):Option tq37:=br (decide (a<3)) (qd (q0v D a) fun b↦qd (q0m D c a) fun b_1↦br (decide (0≤b.1.1)&&decide (b.1.1<(d.length:Int))) (go (wrap .i64 (a+1)) c (List.set d b.1.1.toNat b_1.1.1)) none) (K0 c d)
def qli (D:DX)(n:Nat) (K0:tq40→List Int→Option tq37):Nat→Int→tq40→(List Int)→Option tq37 | 0=>(fun a b c=>none) | m+1=>(fun a b c=>qw1 D n (qli D n K0 m) K0 a b c)
def qtg (D:DX)(n:Nat) (c:tq40) (a:List Int):Option tq37:=qd (qsg D) fun b↦br (decide (0≤b.1.1)&&decide (b.1.1<(a.length:Int))) (some ((List.set a b.1.1.toNat c.2.1,()),())) none
def qnz (D:DX)(n:Nat):(Int)→tq40→(List Int)→Option tq37:=(fun a d e=>qli D n (fun b c=>qtg D n b c) n a d e)
def qmh (D:DX)(n:Nat) (lp1:Int→tq40→List Int→Option tq37) (a:tq40) (b:List Int):Option tq37:=lp1 0 a b
def qu7 (D:DX)(n:Nat):(Int)→tq40→(List Int)→Option tq37:=(fun x0 x1 x2=>qln D n (fun a b=>qmh D n (qnz D n) a b) n x0 x1 x2)
def qzg (D:DX)(n:Nat) (lp0:Int→tq40→List Int→Option tq37) (a0:tq40):Option tq37:=qd (qui D a0) fun b↦br (!b.1.1) (some (([],()),())) (lp0 0 a0 (List.replicate (Int.toNat 20) 0))
def qy3 (D:DX)(n:Nat) (a0:tq40):Option tq37:=qzg D n (qu7 D n) a0
def qwv (x0:Int) (x1:tq40) (x2:List Int):St:=stq 62 [(1,AV.addr 1 []),(3,AV.brw 3 [] 0),(4,AV.val yq34 x0)] [(1,Root.mk yq23 Mk.no x1 true),(3,Root.mk yq30 kq37 x2 false)]
def qsr (a:tq40) (b:List Int):St:=stq 62 [(1,AV.addr 1 []),(3,AV.brw 3 [] 0)] [(1,Root.mk yq23 Mk.no a true),(3,Root.mk yq30 kq37 b false)]
def qx3 (a:Int) (b:tq40) (c:List Int):St:=stq 62 [(1,AV.addr 1 []),(3,AV.brw 3 [] 0),(6,AV.val yq34 a)] [(1,Root.mk yq23 Mk.no b true),(3,Root.mk yq30 kq37 c false)]
def q42 (a:tq40) (b:List Int):St:=stq 62 [(1,AV.addr 1 []),(3,AV.brw 3 [] 0)] [(1,Root.mk yq23 Mk.no a true),(3,Root.mk yq30 kq37 b false)]
theorem qbi1 (D:DX)(n:Nat) (K:KT 96):∀ (m:Nat) (x0:Int) (x1:tq40) (x2:List Int),LF D n 96 pq1 m (qwv x0 x1 x2) K=qln D n (fun a b=>K (Ex.exit 0) (qsr a b)) m x0 x1 x2:=eL3 (fun F=>qwu D n F (fun a b=>K (Ex.exit 0) (qsr a b))) (fun _ _ _ =>qz ..) (fun _ _ _ _ =>by kernel_rfl) (fun _ _ _ _ =>rfl)
theorem qbkl (D:DX)(n:Nat) (K:KT 96):∀ (m:Nat) (c:Int) (d:tq40) (e:List Int),LF D n 96 pq3 m (qx3 c d e) K=qli D n (fun a b=>K (Ex.exit 2) (q42 a b)) m c d e:=eL3 (fun F=>qw1 D n F (fun a b=>K (Ex.exit 2) (q42 a b))) (fun _ _ _ =>qz ..) (fun _ _ _ _ =>by kernel_rfl) (fun _ _ _ _ =>rfl)
theorem qbhw (D:DX)(n:Nat) (a:Int) (b:tq40) (c:List Int):LF D n 96 pq3 n (qx3 a b c) (CF D n 96 [] pq3 (lF 96))=qnz D n a b c :=by rw[qbkl];kernel_rfl
theorem qbht (D:DX)(n:Nat) (a:tq40) (b:List Int):(CF D n 96 [] pq1 (lF 96)) (Ex.exit 0) (qsr a b)=qmh D n (fun c d e=>LF D n 96 pq3 n (qx3 c d e) (CF D n 96 [] pq3 (lF 96))) a b:=by kernel_rfl
theorem qbhd (D:DX)(n:Nat) (x0) (x1) (x2):LF D n 96 pq1 n (qwv x0 x1 x2) (CF D n 96 [] pq1 (lF 96))=qu7 D n x0 x1 x2:=by
 rw[qbi1]
 simp only[qbht,qbhw]
 rfl
theorem qbpz (D:DX)(n:Nat) (a0:tq40):rF D n 96 (a0,())=qy3 D n a0:=by
 have h:rF D n 96 (a0,())=qzg D n (fun x0 x1 x2=>LF D n 96 pq1 n (qwv x0 x1 x2) (CF D n 96 [] pq1 (lF 96))) a0:=by kernel_rfl
 rw[h]
 simp only[qbhd]
 rfl

def qbw2 (D:DX)(n:Nat) (a0 a1 a2:Int):Option tq42:=some ((bif decide (a0≥a1) then decide (a0≤a2) else false,()),())
def qbiu (D:DX)(n:Nat) (a0 a1 a2:Int):Option tq42:=qbw2 D n a0 a1 a2
theorem qbw9 (D:DX)(n:Nat) (a0 a1 a2:Int):rF D n 97 (a0,(a1,(a2,())))=qbiu D n a0 a1 a2:=by kernel_rfl

def q2x (D:DX)(n:Nat) (go:Int→tq12→Option tq42) (K0:Bool→tq12→Option tq42) (K1:tq12→Option tq42) (x0:Int) (x1:tq12):Option tq42:=br (decide (x0<(x1.2.1.length:Int))) (br (decide (0≤x0)&&decide (x0<(x1.2.1.length:Int))) (qd (q3i D (List.getD x1.2.1 x0.toNat (0,0,[],(0,[],()),()))) fun b↦br (!b.1.1) (K0 false x1) (go (wrap .i64 (x0+1)) x1)) none) (K1 x1)
def qo0 (D:DX)(n:Nat) (K0:Bool→tq12→Option tq42) (K1:tq12→Option tq42):Nat→Int→tq12→Option tq42 | 0=>(fun x0 x1=>none) | m+1=>(fun x0 x1=>q2x D n (qo0 D n K0 K1 m) K0 K1 x0 x1)
def q8k (D:DX)(n:Nat) (a:Bool) (b:tq12):Option tq42:=some ((a,()),())
def q39 (D:DX)(n:Nat) (go:Int→tq12→Option tq42) (K0:Bool→Option tq42) (K1:Option tq42) (c:Int) (a:tq12):Option tq42:=let y0:=List.getD a.1 c.toNat (0,0,0,());let y1:=List.getD a.2.1 (Int.toNat (wrap .i64 (y0.2.1 - 1))) (0,0,[],(0,[],()),());br (decide (c<(a.1.length:Int))) (br (decide (0≤c)&&decide (c<(a.1.length:Int))) (qd (qbdi D y0 (a.2.1.length:Int)) fun b↦br (!b.1.1) (K0 false) (br (decide (y0.2.1>0)) (br (decide (0≤wrap .i64 (y0.2.1 - 1))&&decide (wrap .i64 (y0.2.1 - 1)<(a.2.1.length:Int))) (qd (qbox D y1 c) fun b↦br (!b.1.2.1) (K0 false) (br (decide (0≤wrap .i64 (y0.2.1 - 1))&&decide (wrap .i64 (y0.2.1 - 1)<(a.2.1.length:Int))) (br (y1.1 != y0.2.2.1) (K0 false) (go (wrap .i64 (c+1)) a)) none)) none) (go (wrap .i64 (c+1)) a))) none) K1
def qoz (D:DX)(n:Nat) (K0:Bool→Option tq42) (K1:Option tq42):Nat→Int→tq12→Option tq42 | 0=>(fun a b=>none) | m+1=>(fun a b=>q39 D n (qoz D n K0 K1 m) K0 K1 a b)
def qbkv (D:DX)(n:Nat) (a:Bool):Option tq42:=some ((a,()),())
def qbmr (D:DX)(n:Nat):Option tq42:=some ((true,()),())
def qzh (D:DX)(n:Nat):(Int)→tq12→Option tq42:=(fun a b=>qoz D n (fun c=>qbkv D n c) (qbmr D n) n a b)
def qyl (D:DX)(n:Nat) (lp1:Int→tq12→Option tq42) (a:tq12):Option tq42:=lp1 0 a
def q1f (D:DX)(n:Nat):(Int)→tq12→Option tq42:=(fun x0 x1=>qo0 D n (fun a b=>q8k D n a b) (fun c=>qyl D n (qzh D n) c) n x0 x1)
def q6n (D:DX)(n:Nat) (lp0:Int→tq12→Option tq42) (a0:tq12):Option tq42:=br ((a0.1.length:Int) != 20) (some ((false,()),())) (qd (qbp D (a0.2.1.length:Int) 1 4) fun b↦br (!b.1.1) (some ((false,()),())) (lp0 0 a0))
def q62 (D:DX)(n:Nat) (a0:tq12):Option tq42:=q6n D n (q1f D n) a0
def q22 (x0:Int) (x1:tq12):St:=stq 81 [(1,AV.addr 1 []),(3,AV.val yq34 x0)] [(1,Root.mk yq3 Mk.no x1 true)]
def qxk (a:Bool) (b:tq12):St:=stq 81 [(1,AV.addr 1 []),(2,AV.val Ty.bool a)] [(1,Root.mk yq3 Mk.no b true)]
def qx8 (a:tq12):St:=stq 81 [(1,AV.addr 1 [])] [(1,Root.mk yq3 Mk.no a true)]
def q3l (a:Int) (b:tq12):St:=stq 81 [(1,AV.addr 1 []),(4,AV.val yq34 a)] [(1,Root.mk yq3 Mk.no b true)]
def q86 (a:Bool):St:=stq 81 [(2,AV.val Ty.bool a)] []
def q8r:St:=stq 81 [] []
theorem qbp4 (D:DX)(n:Nat) (K:KT 98):∀ (m:Nat) (x0:Int) (x1:tq12),LF D n 98 pq0 m (q22 x0 x1) K=qo0 D n (fun a b=>K (Ex.ret) (qxk a b)) (fun c=>K (Ex.exit 0) (qx8 c)) m x0 x1:=eL2 (fun F=>q2x D n F (fun a b=>K (Ex.ret) (qxk a b)) (fun c=>K (Ex.exit 0) (qx8 c))) (fun _ _ =>qz ..) (fun _ _ _ =>by kernel_rfl) (fun _ _ _ =>rfl)
theorem qbnc (D:DX)(n:Nat) (K:KT 98):∀ (m:Nat) (b:Int) (c:tq12),LF D n 98 pq1 m (q3l b c) K=qoz D n (fun a=>K (Ex.ret) (q86 a)) (K (Ex.exit 2) (q8r)) m b c:=eL2 (fun F=>q39 D n F (fun a=>K (Ex.ret) (q86 a)) (K (Ex.exit 2) (q8r))) (fun _ _ =>qz ..) (fun _ _ _ =>by kernel_rfl) (fun _ _ _ =>rfl)
theorem qbmt (D:DX)(n:Nat) (a:Int) (b:tq12):LF D n 98 pq1 n (q3l a b) (CF D n 98 [] pq1 (lF 98))=qzh D n a b :=by rw[qbnc];kernel_rfl
theorem qbl2 (D:DX)(n:Nat) (a:Bool) (b:tq12):(CF D n 98 [] pq0 (lF 98)) (Ex.ret) (qxk a b)=q8k D n a b:=by kernel_rfl
theorem qbm4 (D:DX)(n:Nat) (a:tq12):(CF D n 98 [] pq0 (lF 98)) (Ex.exit 0) (qx8 a)=qyl D n (fun b c=>LF D n 98 pq1 n (q3l b c) (CF D n 98 [] pq1 (lF 98))) a:=by kernel_rfl
theorem qbmh (D:DX)(n:Nat) (x0) (x1):LF D n 98 pq0 n (q22 x0 x1) (CF D n 98 [] pq0 (lF 98))=q1f D n x0 x1:=by
 rw[qbp4]
 simp only[qbl2,qbm4,qbmt]
 rfl
theorem qbvu (D:DX)(n:Nat) (a0:tq12):rF D n 98 (a0,())=q62 D n a0:=by
 have h:rF D n 98 (a0,())=q6n D n (fun x0 x1=>LF D n 98 pq0 n (q22 x0 x1) (CF D n 98 [] pq0 (lF 98))) a0:=by kernel_rfl
 rw[h]
 simp only[qbmh]
 rfl

def q06 (D:DX)(n:Nat) (go:Int→tq40→Option tq42) (K0:Bool→tq40→Option tq42) (K1:tq40→Option tq42) (x0:Int) (x1:tq40):Option tq42:=br (decide (x0<(x1.1.length:Int))) (br (decide (0≤x0)&&decide (x0<(x1.1.length:Int))) (br (List.getD x1.1 x0.toNat 0 != 0) (br (decide (0≤x0)&&decide (x0<(x1.1.length:Int))) (qd (qjk D (List.getD x1.1 x0.toNat 0)) fun b↦br (!b.1.1) (K0 false x1) (br (decide (0≤x0)&&decide (x0<(x1.1.length:Int))) (qd (qxe D x1 (List.getD x1.1 x0.toNat 0)) fun b↦br (b.1.1 != x0) (K0 false x1) (go (wrap .i64 (x0+1)) x1)) none)) none) (go (wrap .i64 (x0+1)) x1)) none) (K1 x1)
def qmv (D:DX)(n:Nat) (K0:Bool→tq40→Option tq42) (K1:tq40→Option tq42):Nat→Int→tq40→Option tq42 | 0=>(fun x0 x1=>none) | m+1=>(fun x0 x1=>q06 D n (qmv D n K0 K1 m) K0 K1 x0 x1)
def q6p (D:DX)(n:Nat) (a:Bool) (b:tq40):Option tq42:=some ((a,()),())
def qvg (D:DX)(n:Nat) (a:tq40):Option tq42:=br (decide ((a.1.length:Int)=4)) (qd (qbp D a.2.1 0 5) fun b↦some ((b.1.1,()),())) (some ((false,()),()))
def qwx (D:DX)(n:Nat):(Int)→tq40→Option tq42:=(fun x0 x1=>qmv D n (fun a b=>q6p D n a b) (fun c=>qvg D n c) n x0 x1)
def q3q (D:DX)(n:Nat) (lp0:Int→tq40→Option tq42) (a0:tq40):Option tq42:=lp0 0 a0
def q27 (D:DX)(n:Nat) (a0:tq40):Option tq42:=q3q D n (qwx D n) a0
def q0b (x0:Int) (x1:tq40):St:=stq 46 [(1,AV.addr 1 []),(3,AV.val yq34 x0)] [(1,Root.mk yq23 Mk.no x1 true)]
def q6k (a:Bool) (b:tq40):St:=stq 46 [(1,AV.addr 1 []),(2,AV.val Ty.bool a)] [(1,Root.mk yq23 Mk.no b true)]
def q6v (a:tq40):St:=stq 46 [(1,AV.addr 1 [])] [(1,Root.mk yq23 Mk.no a true)]
theorem qbmi (D:DX)(n:Nat) (K:KT 99):∀ (m:Nat) (x0:Int) (x1:tq40),LF D n 99 pq2 m (q0b x0 x1) K=qmv D n (fun a b=>K (Ex.ret) (q6k a b)) (fun c=>K (Ex.exit 0) (q6v c)) m x0 x1:=eL2 (fun F=>q06 D n F (fun a b=>K (Ex.ret) (q6k a b)) (fun c=>K (Ex.exit 0) (q6v c))) (fun _ _ =>qz ..) (fun _ _ _ =>by kernel_rfl) (fun _ _ _ =>rfl)
theorem qbka (D:DX)(n:Nat) (x0) (x1):LF D n 99 pq2 n (q0b x0 x1) (CF D n 99 [] pq2 (lF 99))=qwx D n x0 x1 :=by rw[qbmi];kernel_rfl
theorem qbrm (D:DX)(n:Nat) (a0:tq40):rF D n 99 (a0,())=q27 D n a0:=by
 have h:rF D n 99 (a0,())=q3q D n (fun x0 x1=>LF D n 99 pq2 n (q0b x0 x1) (CF D n 99 [] pq2 (lF 99))) a0:=by kernel_rfl
 rw[h]
 simp only[qbka]
 rfl

def qwo (D:DX)(n:Nat) (go:Int→Int→tq5→Option tq42) (K0:Bool→Int→tq5→Option tq42) (K1:Int→tq5→Option tq42) (x0 x1:Int) (x2:tq5):Option tq42:=br (decide (x1<(x2.2.2.2.1.length:Int))) (br (decide (0≤x1)&&decide (x1<(x2.2.2.2.1.length:Int))) (qd (qbrw D x2 (List.getD x2.2.2.2.1 x1.toNat (0,(0,0,0,()),0,0,0,(0,[],()),()))) fun b↦br (!b.1.1) (K0 false x0 x2) (br (decide (0≤x1)&&decide (x1<(x2.2.2.2.1.length:Int))) (qd (qq3 D (decide ((List.getD x2.2.2.2.1 x1.toNat (0,(0,0,0,()),0,0,0,(0,[],()),())).2.2.2.1≥0))) fun b↦go (wrap .i64 (x0+b.1.1)) (wrap .i64 (x1+1)) x2) none)) none) (K1 x0 x2)
def qp6 (D:DX)(n:Nat) (K0:Bool→Int→tq5→Option tq42) (K1:Int→tq5→Option tq42):Nat→Int→Int→tq5→Option tq42 | 0=>(fun x0 x1 x2=>none) | m+1=>(fun x0 x1 x2=>qwo D n (qp6 D n K0 K1 m) K0 K1 x0 x1 x2)
def q4m (D:DX)(n:Nat) (a:Bool) (b:Int) (c:tq5):Option tq42:=some ((a,()),())
def q85 (D:DX)(n:Nat) (go:Int→Int→Int→Int→tq5→Option tq42) (K0:Bool→Int→Int→tq5→Option tq42) (K1:Int→Int→tq5→Option tq42) (d c e a:Int) (b:tq5):Option tq42:=br (decide (a<c)) (br (decide (0≤a)&&decide (a<(b.2.2.2.2.1.length:Int))) (br (decide (List.getD b.2.2.2.2.1 a.toNat 0=e)) (K0 false d c b) (go d c e (wrap .i64 (a+1)) b)) none) (K1 d c b)
def qx6 (D:DX)(n:Nat) (K0:Bool→Int→Int→tq5→Option tq42) (K1:Int→Int→tq5→Option tq42):Nat→Int→Int→Int→Int→tq5→Option tq42 | 0=>(fun a b c d e=>none) | m+1=>(fun a b c d e=>q85 D n (qx6 D n K0 K1 m) K0 K1 a b c d e)
def qbg1 (D:DX)(n:Nat) (go:Int→Int→tq5→Option tq42) (K0:Bool→Int→tq5→Option tq42) (K1:Int→tq5→Option tq42) (a:Bool) (b d:Int) (c:tq5):Option tq42:=K0 a b c
def qbhs (D:DX)(n:Nat) (go:Int→Int→tq5→Option tq42) (K0:Bool→Int→tq5→Option tq42) (K1:Int→tq5→Option tq42) (a b:Int) (c:tq5):Option tq42:=go a (wrap .i64 (b+1)) c
def q73 (D:DX)(n:Nat) (go:Int→Int→tq5→Option tq42) (K0:Bool→Int→tq5→Option tq42) (K1:Int→tq5→Option tq42):(Int)→(Int)→(Int)→(Int)→tq5→Option tq42:=(fun a b j k l=>qx6 D n (fun c d e f=>qbg1 D n go K0 K1 c d e f) (fun g h i=>qbhs D n go K0 K1 g h i) n a b j k l)
def qw6 (D:DX)(n:Nat) (go:Int→Int→tq5→Option tq42) (K0:Bool→Int→tq5→Option tq42) (K1:Int→tq5→Option tq42) (lp2:Int→Int→Int→Int→tq5→Option tq42) (d c:Int) (a:tq5):Option tq42:=let y0:=List.getD a.2.2.2.2.1 c.toNat 0;let y1:=List.getD a.2.2.2.1 (Int.toNat y0) (0,(0,0,0,()),0,0,0,(0,[],()),());let y2:=Int.toNat (wrap .i64 (c - 1));br (decide (c<(a.2.2.2.2.1.length:Int))) (br (decide (0≤c)&&decide (c<(a.2.2.2.2.1.length:Int))) (qd (qbp D y0 0 (wrap .i64 ((a.2.2.2.1.length:Int) - 1))) fun b↦br (!b.1.1) (K0 false d a) (br (decide (0≤y0)&&decide (y0<(a.2.2.2.1.length:Int))) (br (decide (y1.2.2.2.1<0)) (K0 false d a) (br (decide (c>0)) (br (decide (0≤wrap .i64 (c - 1))&&decide (wrap .i64 (c - 1)<(a.2.2.2.2.1.length:Int))) (br (decide (0≤List.getD a.2.2.2.2.1 y2 0)&&decide (List.getD a.2.2.2.2.1 y2 0<(a.2.2.2.1.length:Int))) (br (decide (0≤y0)&&decide (y0<(a.2.2.2.1.length:Int))) (br (decide ((List.getD a.2.2.2.1 (Int.toNat (List.getD a.2.2.2.2.1 y2 0)) (0,(0,0,0,()),0,0,0,(0,[],()),())).2.2.2.1>y1.2.2.2.1)) (K0 false d a) (lp2 d c y0 0 a)) none) none) none) (lp2 d c y0 0 a))) none)) none) (K1 d a)
def qjo (D:DX)(n:Nat) (K0:Bool→Int→tq5→Option tq42) (K1:Int→tq5→Option tq42):Nat→Int→Int→tq5→Option tq42 | 0=>(fun a b c=>none) | m+1=>(fun a b c=>qw6 D n (qjo D n K0 K1 m) K0 K1 (q73 D n (qjo D n K0 K1 m) K0 K1) a b c)
def qbhe (D:DX)(n:Nat) (a:Bool) (b:Int) (c:tq5):Option tq42:=some ((a,()),())
def q4n (D:DX)(n:Nat) (b:Int) (a:tq5):Option tq42:=some ((bif decide ((a.2.2.2.1.length:Int)≤40) then decide (b=(a.2.2.2.2.1.length:Int)) else false,()),())
def qvh (D:DX)(n:Nat):(Int)→(Int)→tq5→Option tq42:=(fun a b h=>qjo D n (fun c d e=>qbhe D n c d e) (fun f g=>q4n D n f g) n a b h)
def qs3 (D:DX)(n:Nat) (lp1:Int→Int→tq5→Option tq42) (a:Int) (b:tq5):Option tq42:=lp1 a 0 b
def qur (D:DX)(n:Nat):(Int)→(Int)→tq5→Option tq42:=(fun x0 x1 x2=>qp6 D n (fun a b c=>q4m D n a b c) (fun d e=>qs3 D n (qvh D n) d e) n x0 x1 x2)
def q0w (D:DX)(n:Nat) (lp0:Int→Int→tq5→Option tq42) (a0:tq5):Option tq42:=lp0 0 0 a0
def q0c (D:DX)(n:Nat) (a0:tq5):Option tq42:=q0w D n (qur D n) a0
def qxj (x0 x1:Int) (x2:tq5):St:=stq 108 [(1,AV.addr 1 []),(3,AV.val yq34 x0),(4,AV.val yq34 x1)] [(1,Root.mk yq0 Mk.no x2 true)]
def qsp (a:Bool) (b:Int) (c:tq5):St:=stq 108 [(1,AV.addr 1 []),(2,AV.val Ty.bool a),(3,AV.val yq34 b)] [(1,Root.mk yq0 Mk.no c true)]
def qtu (a:Int) (b:tq5):St:=stq 108 [(1,AV.addr 1 []),(3,AV.val yq34 a)] [(1,Root.mk yq0 Mk.no b true)]
def qho (a b:Int) (c:tq5):St:=stq 108 [(1,AV.addr 1 []),(3,AV.val yq34 a),(5,AV.val yq34 b)] [(1,Root.mk yq0 Mk.no c true)]
def qmm (a:Bool) (b:Int) (c:tq5):St:=stq 108 [(1,AV.addr 1 []),(2,AV.val Ty.bool a),(3,AV.val yq34 b)] [(1,Root.mk yq0 Mk.no c true)]
def qmi (a:Int) (b:tq5):St:=stq 108 [(1,AV.addr 1 []),(3,AV.val yq34 a)] [(1,Root.mk yq0 Mk.no b true)]
def qya (a b c d:Int) (e:tq5):St:=stq 108 [(1,AV.addr 1 []),(3,AV.val yq34 a),(5,AV.val yq34 b),(6,AV.val yq34 c),(7,AV.val yq34 d)] [(1,Root.mk yq0 Mk.no e true)]
def q4y (a:Bool) (b c:Int) (d:tq5):St:=stq 108 [(1,AV.addr 1 []),(2,AV.val Ty.bool a),(3,AV.val yq34 b),(5,AV.val yq34 c)] [(1,Root.mk yq0 Mk.no d true)]
def q4u (a b:Int) (c:tq5):St:=stq 108 [(1,AV.addr 1 []),(3,AV.val yq34 a),(5,AV.val yq34 b)] [(1,Root.mk yq0 Mk.no c true)]
theorem qbi7 (D:DX)(n:Nat) (K:KT 100):∀ (m:Nat) (x0 x1:Int) (x2:tq5),LF D n 100 pq0 m (qxj x0 x1 x2) K=qp6 D n (fun a b c=>K (Ex.ret) (qsp a b c)) (fun d e=>K (Ex.exit 0) (qtu d e)) m x0 x1 x2:=eL3 (fun F=>qwo D n F (fun a b c=>K (Ex.ret) (qsp a b c)) (fun d e=>K (Ex.exit 0) (qtu d e))) (fun _ _ _ =>qz ..) (fun _ _ _ _ =>by kernel_rfl) (fun _ _ _ _ =>rfl)
theorem qbkd (D:DX)(n:Nat) (K:KT 100):∀ (m:Nat) (h i j k:Int) (l:tq5),LF D n 100 pq12 m (qya h i j k l) K=qx6 D n (fun a b c d=>K (Ex.ret) (q4y a b c d)) (fun e f g=>K (Ex.exit 4) (q4u e f g)) m h i j k l:=eL5 (fun F=>q85 D n F (fun a b c d=>K (Ex.ret) (q4y a b c d)) (fun e f g=>K (Ex.exit 4) (q4u e f g))) (fun _ _ _ _ _ =>qz ..) (fun _ _ _ _ _ _ =>by kernel_rfl) (fun _ _ _ _ _ _ =>rfl)
theorem qbg0 (D:DX)(n:Nat) (m:Nat) (K:KT 100) (a b c d:Int) (e:tq5):LF D n 100 pq12 n (qya a b c d e) (CF D n 100 [.r,.r,.r,.l,.r,.l,.l] [.r,.l,.l,.r,.r,.r,.l] (KF D n 100 pq1 m K))=q73 D n (fun k o p=>LF D n 100 pq1 m (qho k o p) K) (fun f g h=>K (Ex.ret) (qmm f g h)) (fun i j=>K (Ex.exit 2) (qmi i j)) a b c d e :=by rw[qbkd];kernel_rfl
theorem qbji (D:DX)(n:Nat) (m:Nat) (K:KT 100) (a b:Int) (c:tq5):LF D n 100 pq1 (m+1) (qho a b c) K=qw6 D n (fun a b c=>LF D n 100 pq1 m (qho a b c) K) (fun d e f=>K (Ex.ret) (qmm d e f)) (fun g h=>K (Ex.exit 2) (qmi g h)) (fun i j k o p=>LF D n 100 pq12 n (qya i j k o p) (CF D n 100 [.r,.r,.r,.l,.r,.l,.l] [.r,.l,.l,.r,.r,.r,.l] (KF D n 100 pq1 m K))) a b c:=by kernel_rfl
theorem q6z (D:DX)(n:Nat) (K:KT 100):∀ (m:Nat) (a b:Int) (c:tq5),LF D n 100 pq1 m (qho a b c) K=qjo D n (fun d e f=>K (Ex.ret) (qmm d e f)) (fun g h=>K (Ex.exit 2) (qmi g h)) m a b c
 | 0,a,b,c=>qz ..
 | m+1,a,b,c=>by
  have ih:(fun a b c=>LF D n 100 pq1 m (qho a b c) K)=qjo D n (fun d e f=>K (Ex.ret) (qmm d e f)) (fun g h=>K (Ex.exit 2) (qmi g h)) m:=by funext a b c;exact q6z D n K m a b c
  rw[qbji]
  simp only[qbg0]
  rw[ih];rfl
theorem qbgs (D:DX)(n:Nat) (a b:Int) (c:tq5):LF D n 100 pq1 n (qho a b c) (CF D n 100 [] pq1 (lF 100))=qvh D n a b c :=by rw[q6z];kernel_rfl
theorem qbhc (D:DX)(n:Nat) (a:Bool) (b:Int) (c:tq5):(CF D n 100 [] pq0 (lF 100)) (Ex.ret) (qsp a b c)=q4m D n a b c:=by kernel_rfl
theorem qbh4 (D:DX)(n:Nat) (a:Int) (b:tq5):(CF D n 100 [] pq0 (lF 100)) (Ex.exit 0) (qtu a b)=qs3 D n (fun c d e=>LF D n 100 pq1 n (qho c d e) (CF D n 100 [] pq1 (lF 100))) a b:=by kernel_rfl
theorem qbg6 (D:DX)(n:Nat) (x0) (x1) (x2):LF D n 100 pq0 n (qxj x0 x1 x2) (CF D n 100 [] pq0 (lF 100))=qur D n x0 x1 x2:=by
 rw[qbi7]
 simp only[qbhc,qbh4,qbgs]
 rfl
theorem qbob (D:DX)(n:Nat) (a0:tq5):rF D n 100 (a0,())=q0c D n a0:=by
 have h:rF D n 100 (a0,())=q0w D n (fun x0 x1 x2=>LF D n 100 pq0 n (qxj x0 x1 x2) (CF D n 100 [] pq0 (lF 100))) a0:=by kernel_rfl
 rw[h]
 simp only[qbg6]
 rfl

def qvo (D:DX)(n:Nat) (go:Int→Int→tq13→Option tq42) (K0:Int→Bool→tq13→Option tq42) (K1:Int→tq13→Option tq42) (x0 x1:Int) (x2:tq13):Option tq42:=br (decide (x1<(x2.1.length:Int))) (br (decide (0≤x1)&&decide (x1<(x2.1.length:Int))) (qd (q1r D (List.getD x2.1 x1.toNat (0,0,0,()))) fun b↦br (!b.1.1) (K0 x0 false x2) (go x0 (wrap .i64 (x1+1)) x2)) none) (K1 x0 x2)
def qky (D:DX)(n:Nat) (K0:Int→Bool→tq13→Option tq42) (K1:Int→tq13→Option tq42):Nat→Int→Int→tq13→Option tq42 | 0=>(fun x0 x1 x2=>none) | m+1=>(fun x0 x1 x2=>qvo D n (qky D n K0 K1 m) K0 K1 x0 x1 x2)
def q2f (D:DX)(n:Nat) (b:Int) (a:Bool) (c:tq13):Option tq42:=some ((a,()),())
def qvf (D:DX)(n:Nat) (go:Int→Int→tq13→Option tq42) (K0:Int→Bool→tq13→Option tq42) (K1:Int→tq13→Option tq42) (d c:Int) (a:tq13):Option tq42:=br (decide (c<(a.2.2.2.1.length:Int))) (br (decide (0≤c)&&decide (c<(a.2.2.2.1.length:Int))) (qd (qbp D (List.getD a.2.2.2.1 c.toNat (0,0,())).1 0 19) fun b↦br (!b.1.1) (K0 d false a) (br (decide (0≤c)&&decide (c<(a.2.2.2.1.length:Int))) (qd (qbp D (List.getD a.2.2.2.1 c.toNat (0,0,())).2.1 0 1000) fun b↦br (!b.1.1) (K0 d false a) (go d (wrap .i64 (c+1)) a)) none)) none) (K1 d a)
def qoj (D:DX)(n:Nat) (K0:Int→Bool→tq13→Option tq42) (K1:Int→tq13→Option tq42):Nat→Int→Int→tq13→Option tq42 | 0=>(fun a b c=>none) | m+1=>(fun a b c=>qvf D n (qoj D n K0 K1 m) K0 K1 a b c)
def q13 (D:DX)(n:Nat) (b:Int) (a:Bool) (c:tq13):Option tq42:=some ((a,()),())
def qve (D:DX)(n:Nat) (go:Int→Int→tq13→Option tq42) (K0:Bool→Option tq42) (K1:Option tq42) (d a:Int) (c:tq13):Option tq42:=let y0:=List.getD c.2.2.2.2.1 a.toNat (0,0,0,0,());br (decide (a<(c.2.2.2.2.1.length:Int))) (br (decide (0≤a)&&decide (a<(c.2.2.2.2.1.length:Int))) (br (bif decide (y0.1<0) then true else decide (y0.1≥d)) (K0 false) (qd (qbp D y0.2.1 1 1000000) fun b↦br (!b.1.1) (K0 false) (qd (qbp D y0.2.2.1 0 20) fun b↦br (!b.1.1) (K0 false) (qd (qbp D y0.2.2.2.1 0 20) fun b↦br (!b.1.1) (K0 false) (go d (wrap .i64 (a+1)) c))))) none) K1
def qn3 (D:DX)(n:Nat) (K0:Bool→Option tq42) (K1:Option tq42):Nat→Int→Int→tq13→Option tq42 | 0=>(fun a b c=>none) | m+1=>(fun a b c=>qve D n (qn3 D n K0 K1 m) K0 K1 a b c)
def qbee (D:DX)(n:Nat) (a:Bool):Option tq42:=some ((a,()),())
def qbfg (D:DX)(n:Nat):Option tq42:=some ((true,()),())
def qso (D:DX)(n:Nat):(Int)→(Int)→tq13→Option tq42:=(fun a b d=>qn3 D n (fun c=>qbee D n c) (qbfg D n) n a b d)
def qqs (D:DX)(n:Nat) (lp2:Int→Int→tq13→Option tq42) (a:Int) (b:tq13):Option tq42:=lp2 a 0 b
def qtn (D:DX)(n:Nat):(Int)→(Int)→tq13→Option tq42:=(fun a b h=>qoj D n (fun c d e=>q13 D n c d e) (fun f g=>qqs D n (qso D n) f g) n a b h)
def qrj (D:DX)(n:Nat) (lp1:Int→Int→tq13→Option tq42) (a:Int) (b:tq13):Option tq42:=lp1 a 0 b
def qtj (D:DX)(n:Nat):(Int)→(Int)→tq13→Option tq42:=(fun x0 x1 x2=>qky D n (fun a b c=>q2f D n a b c) (fun d e=>qrj D n (qtn D n) d e) n x0 x1 x2)
def qxy (D:DX)(n:Nat) (lp0:Int→Int→tq13→Option tq42) (a0:tq13) (a1:Int):Option tq42:=br (decide ((a0.1.length:Int)>8)) (some ((false,()),())) (qd (qbp D a0.2.1 0 (a0.1.length:Int)) fun b↦br (bif !b.1.1 then true else bif a0.2.2.1 then decide (a0.2.1≥(a0.1.length:Int)) else false) (some ((false,()),())) (br (!a0.2.2.1) (br (bif bif decide (wrap .i64 ((a0.2.2.2.1.length:Int)+(a0.2.2.2.2.1.length:Int))>0) then true else decide ((a0.2.2.2.1.length:Int)>12) then true else decide ((a0.2.2.2.2.1.length:Int)>2)) (some ((false,()),())) (lp0 a1 0 a0)) (br (bif bif false then true else decide ((a0.2.2.2.1.length:Int)>12) then true else decide ((a0.2.2.2.2.1.length:Int)>2)) (some ((false,()),())) (lp0 a1 0 a0))))
def qww (D:DX)(n:Nat) (a0:tq13) (a1:Int):Option tq42:=qxy D n (qtj D n) a0 a1
def qvc (x0 x1:Int) (x2:tq13):St:=stq 139 [(1,AV.val yq34 x0),(2,AV.addr 2 []),(5,AV.val yq34 x1)] [(2,Root.mk yq5 Mk.no x2 true)]
def qq5 (a:Int) (b:Bool) (c:tq13):St:=stq 139 [(1,AV.val yq34 a),(2,AV.addr 2 []),(4,AV.val Ty.bool b)] [(2,Root.mk yq5 Mk.no c true)]
def qrv (a:Int) (b:tq13):St:=stq 139 [(1,AV.val yq34 a),(2,AV.addr 2 [])] [(2,Root.mk yq5 Mk.no b true)]
def qu9 (a b:Int) (c:tq13):St:=stq 139 [(1,AV.val yq34 a),(2,AV.addr 2 []),(6,AV.val yq34 b)] [(2,Root.mk yq5 Mk.no c true)]
def qrr (a:Int) (b:Bool) (c:tq13):St:=stq 139 [(1,AV.val yq34 a),(2,AV.addr 2 []),(4,AV.val Ty.bool b)] [(2,Root.mk yq5 Mk.no c true)]
def qqo (a:Int) (b:tq13):St:=stq 139 [(1,AV.val yq34 a),(2,AV.addr 2 [])] [(2,Root.mk yq5 Mk.no b true)]
def qvk (a b:Int) (c:tq13):St:=stq 139 [(1,AV.val yq34 a),(2,AV.addr 2 []),(7,AV.val yq34 b)] [(2,Root.mk yq5 Mk.no c true)]
def q2j (a:Bool):St:=stq 139 [(4,AV.val Ty.bool a)] []
def q16:St:=stq 139 [] []
theorem qbgw (D:DX)(n:Nat) (K:KT 101):∀ (m:Nat) (x0 x1:Int) (x2:tq13),LF D n 101 pq0 m (qvc x0 x1 x2) K=qky D n (fun a b c=>K (Ex.ret) (qq5 a b c)) (fun d e=>K (Ex.exit 0) (qrv d e)) m x0 x1 x2:=eL3 (fun F=>qvo D n F (fun a b c=>K (Ex.ret) (qq5 a b c)) (fun d e=>K (Ex.exit 0) (qrv d e))) (fun _ _ _ =>qz ..) (fun _ _ _ _ =>by kernel_rfl) (fun _ _ _ _ =>rfl)
theorem qbhu (D:DX)(n:Nat) (K:KT 101):∀ (m:Nat) (f g:Int) (h:tq13),LF D n 101 pq1 m (qu9 f g h) K=qoj D n (fun a b c=>K (Ex.ret) (qrr a b c)) (fun d e=>K (Ex.exit 2) (qqo d e)) m f g h:=eL3 (fun F=>qvf D n F (fun a b c=>K (Ex.ret) (qrr a b c)) (fun d e=>K (Ex.exit 2) (qqo d e))) (fun _ _ _ =>qz ..) (fun _ _ _ _ =>by kernel_rfl) (fun _ _ _ _ =>rfl)
theorem qbhn (D:DX)(n:Nat) (K:KT 101):∀ (m:Nat) (b c:Int) (d:tq13),LF D n 101 pq3 m (qvk b c d) K=qn3 D n (fun a=>K (Ex.ret) (q2j a)) (K (Ex.exit 4) (q16)) m b c d:=eL3 (fun F=>qve D n F (fun a=>K (Ex.ret) (q2j a)) (K (Ex.exit 4) (q16))) (fun _ _ _ =>qz ..) (fun _ _ _ _ =>by kernel_rfl) (fun _ _ _ _ =>rfl)
theorem qbff (D:DX)(n:Nat) (a b:Int) (c:tq13):LF D n 101 pq3 n (qvk a b c) (CF D n 101 [] pq3 (lF 101))=qso D n a b c :=by rw[qbhn];kernel_rfl
theorem qbej (D:DX)(n:Nat) (a:Int) (b:Bool) (c:tq13):(CF D n 101 [] pq1 (lF 101)) (Ex.ret) (qrr a b c)=q13 D n a b c:=by kernel_rfl
theorem qbe5 (D:DX)(n:Nat) (a:Int) (b:tq13):(CF D n 101 [] pq1 (lF 101)) (Ex.exit 2) (qqo a b)=qqs D n (fun c d e=>LF D n 101 pq3 n (qvk c d e) (CF D n 101 [] pq3 (lF 101))) a b:=by kernel_rfl
theorem qbe6 (D:DX)(n:Nat) (a b:Int) (c:tq13):LF D n 101 pq1 n (qu9 a b c) (CF D n 101 [] pq1 (lF 101))=qtn D n a b c:=by
 rw[qbhu]
 simp only[qbej,qbe5,qbff]
 rfl
theorem qbfm (D:DX)(n:Nat) (a:Int) (b:Bool) (c:tq13):(CF D n 101 [] pq0 (lF 101)) (Ex.ret) (qq5 a b c)=q2f D n a b c:=by kernel_rfl
theorem qbfd (D:DX)(n:Nat) (a:Int) (b:tq13):(CF D n 101 [] pq0 (lF 101)) (Ex.exit 0) (qrv a b)=qrj D n (fun c d e=>LF D n 101 pq1 n (qu9 c d e) (CF D n 101 [] pq1 (lF 101))) a b:=by kernel_rfl
theorem qbea (D:DX)(n:Nat) (x0) (x1) (x2):LF D n 101 pq0 n (qvc x0 x1 x2) (CF D n 101 [] pq0 (lF 101))=qtj D n x0 x1 x2:=by
 rw[qbgw]
 simp only[qbfm,qbfd,qbe6]
 rfl
theorem qblh (D:DX)(n:Nat) (a0:tq13) (a1:Int):rF D n 101 (a0,(a1,()))=qww D n a0 a1:=by
 have h:rF D n 101 (a0,(a1,()))=qxy D n (fun x0 x1 x2=>LF D n 101 pq0 n (qvc x0 x1 x2) (CF D n 101 [] pq0 (lF 101))) a0 a1:=by kernel_rfl
 rw[h]
 simp only[qbea]
 rfl

def qux (D:DX)(n:Nat) (go:Int→Int→Int→Int→tq5→tq13→Option tq42) (K0:Bool→Int→Int→tq5→tq13→Option tq42) (K1:Int→Int→tq5→tq13→Option tq42) (x0 x1 x2 x3:Int) (x4:tq5) (x5:tq13):Option tq42:=let y0:=List.getD x4.2.2.2.1 x3.toNat (0,(0,0,0,()),0,0,0,(0,[],()),());br (decide (x3<(x4.2.2.2.1.length:Int))) (br (decide (0≤x3)&&decide (x3<(x4.2.2.2.1.length:Int))) (br (y0.1 != x0) (go x0 x1 x2 (wrap .i64 (x3+1)) x4 x5) (br (decide (0≤x3)&&decide (x3<(x4.2.2.2.1.length:Int))) (br (decide (y0.2.2.2.2.1≥0)) (go x0 x1 (wrap .i64 (x2+1)) (wrap .i64 (x3+1)) x4 x5) (br (bif !x5.2.2.1 then true else x3 != x1) (K0 false x1 x2 x4 x5) (go x0 x1 x2 (wrap .i64 (x3+1)) x4 x5))) none)) none) (K1 x1 x2 x4 x5)
def qn2 (D:DX)(n:Nat) (K0:Bool→Int→Int→tq5→tq13→Option tq42) (K1:Int→Int→tq5→tq13→Option tq42):Nat→Int→Int→Int→Int→tq5→tq13→Option tq42 | 0=>(fun x0 x1 x2 x3 x4 x5=>none) | m+1=>(fun x0 x1 x2 x3 x4 x5=>qux D n (qn2 D n K0 K1 m) K0 K1 x0 x1 x2 x3 x4 x5)
def qbeo (D:DX)(n:Nat) (a:Bool) (b c:Int) (d:tq5) (e:tq13):Option tq42:=some ((a,()),())
def q2k (D:DX)(n:Nat) (b d:Int) (c:tq5) (a:tq13):Option tq42:=let y0:=List.getD c.2.2.2.1 b.toNat (0,(0,0,0,()),0,0,0,(0,[],()),());br (d != a.2.1) (some ((false,()),())) (br (!a.2.2.1) (some ((true,()),())) (br (decide (b≥0)) (br (decide (0≤b)&&decide (b<(c.2.2.2.1.length:Int))) (br (decide (y0.2.2.2.2.1 = -1)) (br (decide (0≤b)&&decide (b<(c.2.2.2.1.length:Int))) (br (decide (0≤a.2.1)&&decide (a.2.1<(a.1.length:Int))) (some ((qk0 yq21 y0.2.1 (List.getD a.1 a.2.1.toNat (0,0,0,())),()),())) none) none) (some ((false,()),()))) none) (some ((false,()),()))))
def qte (D:DX)(n:Nat):(Int)→(Int)→(Int)→(Int)→tq5→tq13→Option tq42:=(fun x0 x1 x2 x3 x4 x5=>qn2 D n (fun a b c d e=>qbeo D n a b c d e) (fun f g h i=>q2k D n f g h i) n x0 x1 x2 x3 x4 x5)
def qwf (D:DX)(n:Nat) (lp0:Int→Int→Int→Int→tq5→tq13→Option tq42) (a0:tq5) (a1:Int):Option tq42:=br (decide (0≤a1)&&decide (a1<(a0.2.1.length:Int))) (qd (q20 D a0 a1) fun b↦lp0 a1 b.1.1 0 0 a0 (List.getD a0.2.1 a1.toNat ([],0,false,[],[],()))) none
def qwr (D:DX)(n:Nat) (a0:tq5) (a1:Int):Option tq42:=qwf D n (qte D n) a0 a1
def qu2 (x0 x1 x2 x3:Int) (x4:tq5) (x5:tq13):St:=stq 84 [(1,AV.val yq34 x0),(2,AV.addr 2 []),(5,AV.addr 5 []),(6,AV.val yq34 x1),(7,AV.val yq34 x2),(8,AV.val yq34 x3)] [(2,Root.mk yq0 Mk.no x4 true),(5,Root.mk yq5 Mk.no x5 true)]
def q19 (a:Bool) (b c:Int) (d:tq5) (e:tq13):St:=stq 84 [(2,AV.addr 2 []),(4,AV.val Ty.bool a),(5,AV.addr 5 []),(6,AV.val yq34 b),(7,AV.val yq34 c)] [(2,Root.mk yq0 Mk.no d true),(5,Root.mk yq5 Mk.no e true)]
def q1y (a b:Int) (c:tq5) (d:tq13):St:=stq 84 [(2,AV.addr 2 []),(5,AV.addr 5 []),(6,AV.val yq34 a),(7,AV.val yq34 b)] [(2,Root.mk yq0 Mk.no c true),(5,Root.mk yq5 Mk.no d true)]
theorem qbhx (D:DX)(n:Nat) (K:KT 102):∀ (m:Nat) (x0 x1 x2 x3:Int) (x4:tq5) (x5:tq13),LF D n 102 pq3 m (qu2 x0 x1 x2 x3 x4 x5) K=qn2 D n (fun a b c d e=>K (Ex.ret) (q19 a b c d e)) (fun f g h i=>K (Ex.exit 0) (q1y f g h i)) m x0 x1 x2 x3 x4 x5:=eL6 (fun F=>qux D n F (fun a b c d e=>K (Ex.ret) (q19 a b c d e)) (fun f g h i=>K (Ex.exit 0) (q1y f g h i))) (fun _ _ _ _ _ _ =>qz ..) (fun _ _ _ _ _ _ _ =>by kernel_rfl) (fun _ _ _ _ _ _ _ =>rfl)
theorem qbeq (D:DX)(n:Nat) (x0) (x1) (x2) (x3) (x4) (x5):LF D n 102 pq3 n (qu2 x0 x1 x2 x3 x4 x5) (CF D n 102 [] pq3 (lF 102))=qte D n x0 x1 x2 x3 x4 x5 :=by rw[qbhx];kernel_rfl
theorem qbm5 (D:DX)(n:Nat) (a0:tq5) (a1:Int):rF D n 102 (a0,(a1,()))=qwr D n a0 a1:=by
 have h:rF D n 102 (a0,(a1,()))=qwf D n (fun x0 x1 x2 x3 x4 x5=>LF D n 102 pq3 n (qu2 x0 x1 x2 x3 x4 x5) (CF D n 102 [] pq3 (lF 102))) a0 a1:=by kernel_rfl
 rw[h]
 simp only[qbeq]
 rfl

def qxi (D:DX)(n:Nat) (go:List tq18→Int→Int→tq12→tq12→Option tq10) (K0:tq12→tq12→Option tq10) (x0:List tq18) (x1 x2:Int) (x3 x4:tq12):Option tq10:=br (decide (x2<x1)) (br (decide (0≤x2)&&decide (x2<(x0.length:Int))) (qd (qdb D (List.getD x0 x2.toNat (0,0,[],(0,[],()),())).2.2.1) fun b↦qd (qik D (List.getD x0 x2.toNat (0,0,[],(0,[],()),())).2.2.2.1) fun b_1↦br (decide (x4.2.1.length+1≤qb6)) (go x0 x1 (wrap .i64 (x2+1)) x3 (x4.1,x4.2.1++[((List.getD x0 x2.toNat (0,0,[],(0,[],()),())).1,(List.getD x0 x2.toNat (0,0,[],(0,[],()),())).2.1,b.1.1,(b_1.1.1.1,b_1.1.1.2.1,()),())],x4.2.2)) none) none) (K0 x3 x4)
def qlp (D:DX)(n:Nat) (K0:tq12→tq12→Option tq10):Nat→(List tq18)→Int→Int→tq12→tq12→Option tq10 | 0=>(fun x0 x1 x2 x3 x4=>none) | m+1=>(fun x0 x1 x2 x3 x4=>qxi D n (qlp D n K0 m) K0 x0 x1 x2 x3 x4)
def qbh1 (D:DX)(n:Nat) (b a:tq12):Option tq10:=some (((a.1,a.2.1,()),()),())
def qvl (D:DX)(n:Nat):(List tq18)→(Int)→(Int)→tq12→tq12→Option tq10:=(fun x0 x1 x2 x3 x4=>qlp D n (fun a b=>qbh1 D n a b) n x0 x1 x2 x3 x4)
def qy0 (D:DX)(n:Nat) (lp0:List tq18→Int→Int→tq12→tq12→Option tq10) (a0:tq12):Option tq10:=qd (qf6 D a0.1) fun b↦lp0 a0.2.1 (a0.2.1.length:Int) 0 ([],[],()) (b.1.1,[],())
def qz9 (D:DX)(n:Nat) (a0:tq12):Option tq10:=qy0 D n (qvl D n) a0
def qw0 (x0:List tq18) (x1 x2:Int) (x3 x4:tq12):St:=stq 33 [(2,AV.addr 2 []),(3,AV.addr 3 []),(11,AV.val yq8 x0),(12,AV.val yq34 x1),(13,AV.val yq34 x2)] [(2,Root.mk yq3 kq14 x3 true),(3,Root.mk yq3 kq14 x4 true)]
def q4c (a b:tq12):St:=stq 33 [(2,AV.addr 2 []),(3,AV.addr 3 [])] [(2,Root.mk yq3 kq14 a true),(3,Root.mk yq3 kq14 b true)]
theorem qbjy (D:DX)(n:Nat) (K:KT 103):∀ (m:Nat) (x0:List tq18) (x1 x2:Int) (x3 x4:tq12),LF D n 103 pq0 m (qw0 x0 x1 x2 x3 x4) K=qlp D n (fun a b=>K (Ex.exit 0) (q4c a b)) m x0 x1 x2 x3 x4:=eL5 (fun F=>qxi D n F (fun a b=>K (Ex.exit 0) (q4c a b))) (fun _ _ _ _ _ =>qz ..) (fun _ _ _ _ _ _ =>by kernel_rfl) (fun _ _ _ _ _ _ =>rfl)
theorem qbh6 (D:DX)(n:Nat) (x0) (x1) (x2) (x3) (x4):LF D n 103 pq0 n (qw0 x0 x1 x2 x3 x4) (CF D n 103 [] pq0 (lF 103))=qvl D n x0 x1 x2 x3 x4 :=by rw[qbjy];kernel_rfl
theorem qbo3 (D:DX)(n:Nat) (a0:tq12):rF D n 103 (a0,())=qz9 D n a0:=by
 have h:rF D n 103 (a0,())=qy0 D n (fun x0 x1 x2 x3 x4=>LF D n 103 pq0 n (qw0 x0 x1 x2 x3 x4) (CF D n 103 [] pq0 (lF 103))) a0:=by kernel_rfl
 rw[h]
 simp only[qbh6]
 rfl

def q4g (D:DX)(n:Nat) (a0:tq13):Option tq11:=qd (qe8 D a0.1) fun b↦qd (qgd D a0.2.2.2.1) fun b_1↦qd (qge D a0.2.2.2.2.1) fun b_2↦some (((b.1.1,a0.2.1,a0.2.2.1,b_1.1.1,b_2.1.1,()),()),())
def qs0 (D:DX)(n:Nat) (a0:tq13):Option tq11:=q4g D n a0
theorem qbhm (D:DX)(n:Nat) (a0:tq13):rF D n 104 (a0,())=qs0 D n a0:=by kernel_rfl

def qv1 (D:DX)(n:Nat) (a0:tq5) (a1:Int):Option tq4:=let y0:=List.getD a0.2.1 a1.toNat ([],0,false,[],[],());br (decide (0≤a1)&&decide (a1<(a0.2.1.length:Int))) (qd (qbcs D y0) fun b↦qd (q24 D (a0.1.1,a0.1.2.1,()) b.1.1) fun b_1↦br (decide (b_1.1.2.2.2.1=1)) (br (bif decide (b.1.1.1=a1) then decide ((y0.2.2.2.2.1.length:Int)=1) else false) (qd (qo6 D y0 b_1.1.2.2.1) fun b↦br (decide (0≤a1)&&decide (a1<(a0.2.1.length:Int))) (some ((),((b_1.1.1.1,b_1.1.1.2.1,()),List.set a0.2.1 a1.toNat (b.1.1.1,b.1.1.2.1,b.1.1.2.2.1,b.1.1.2.2.2.1,b.1.1.2.2.2.2.1,()),a0.2.2),())) none) (qd (qt7 D y0 b_1.1.2.2.1) fun b↦br (decide (0≤a1)&&decide (a1<(a0.2.1.length:Int))) (some ((),((b_1.1.1.1,b_1.1.1.2.1,()),List.set a0.2.1 a1.toNat (b.1.1.1,b.1.1.2.1,b.1.1.2.2.1,b.1.1.2.2.2.1,b.1.1.2.2.2.2.1,()),a0.2.2),())) none)) (br (decide (b_1.1.2.2.2.1=2)) (qd (qbbx D y0) fun b_2↦let c:=List.set a0.2.1 a1.toNat (b_2.1.1.1,b_2.1.1.2.1,b_2.1.1.2.2.1,b_2.1.1.2.2.2.1,b_2.1.1.2.2.2.2.1,());let a:=List.getD c a1.toNat ([],0,false,[],[],());let e:=List.set c a1.toNat (a.1,a.2.1,a.2.2.1,a.2.2.2.1,[],a.2.2.2.2.2);let d:=List.getD e a1.toNat ([],0,false,[],[],());let f:=List.getD b_1.1.1.2.1 a1.toNat (0,0,[],(0,[],()),());br (decide (0≤a1)&&decide (a1<(a0.2.1.length:Int))) (br (b.1.1.1 != a1) (some ((),((b_1.1.1.1,b_1.1.1.2.1,()),List.set a0.2.1 a1.toNat (b_2.1.1.1,b_2.1.1.2.1,b_2.1.1.2.2.1,b_2.1.1.2.2.2.1,b_2.1.1.2.2.2.2.1,()),a0.2.2),())) (br (decide (0≤a1)&&decide (a1<(c.length:Int))) (br (decide (0≤a1)&&decide (a1<(b_1.1.1.2.1.length:Int))) (br (decide (f.2.1=2)) (qd (qjc D ((b_1.1.1.1,b_1.1.1.2.1,()),List.set c a1.toNat (a.1,a.2.1,a.2.2.1,a.2.2.2.1,[],a.2.2.2.2.2),a0.2.2) a1 f.2.2.2.1) fun b↦some ((),b.2.1,())) (br (decide (0≤a1)&&decide (a1<(e.length:Int))) (some ((),((b_1.1.1.1,b_1.1.1.2.1,()),List.set e a1.toNat (d.1,d.2.1,d.2.2.1,[],d.2.2.2.2),a0.2.2),())) none)) none) none)) none) (br (decide (b_1.1.2.2.2.1=3)) (br (decide (0≤b.1.1.1)&&decide (b.1.1.1<(b_1.1.1.2.1.length:Int))) (qd (qju D ((b_1.1.1.1,b_1.1.1.2.1,()),a0.2) b.1.1.1 (List.getD b_1.1.1.2.1 b.1.1.1.toNat (0,0,[],(0,[],()),())).2.2.2.1) fun b↦qd (qt7 D y0 b_1.1.2.1) fun b_2↦br (decide (0≤a1)&&decide (a1<(b.2.1.2.1.length:Int))) (some ((),(b.2.1.1,List.set b.2.1.2.1 a1.toNat (b_2.1.1.1,b_2.1.1.2.1,b_2.1.1.2.2.1,b_2.1.1.2.2.2.1,b_2.1.1.2.2.2.2.1,()),b.2.1.2.2),())) none) none) (qd (qt7 D y0 b_1.1.2.1) fun b↦br (decide (0≤a1)&&decide (a1<(a0.2.1.length:Int))) (some ((),((b_1.1.1.1,b_1.1.1.2.1,()),List.set a0.2.1 a1.toNat (b.1.1.1,b.1.1.2.1,b.1.1.2.2.1,b.1.1.2.2.2.1,b.1.1.2.2.2.2.1,()),a0.2.2),())) none)))) none
def qm6 (D:DX)(n:Nat) (a0:tq5) (a1:Int):Option tq4:=qv1 D n a0 a1
theorem qbaf (D:DX)(n:Nat) (a0:tq5) (a1:Int):rF D n 105 (a0,(a1,()))=qm6 D n a0 a1:=by kernel_rfl

def qyt (D:DX)(n:Nat) (a0:tq5) (a1:Int):Option tq1:=let y1:=List.getD a0.2.1 a1.toNat ([],0,false,[],[],());let y0:=List.set a0.2.1 a1.toNat (y1.1,y1.2.1,y1.2.2.1,y1.2.2.2.1,y1.2.2.2.2);let y2:=List.getD y0 a1.toNat ([],0,false,[],[],());let y3:=List.getD y1.1 (Int.toNat y1.2.1) (0,0,0,());br (decide (0≤a1)&&decide (a1<(a0.2.1.length:Int))) (br (decide (0≤y1.2.1)&&decide (y1.2.1<(y1.1.length:Int))) (qd (q9l D y3 y1.2.2.2.1) fun b↦br (decide (b.1.1≥0)) (br (decide (0≤b.1.1)&&decide (b.1.1<(a0.1.1.length:Int))) (br ((List.getD a0.1.1 b.1.1.toNat (0,0,0,())).2.1 != 0) (qd (qo6 D (y1.1,y1.2.1,y1.2.2.1,y1.2.2.2.1,y1.2.2.2.2) (wrap .i64 ((List.getD a0.1.1 b.1.1.toNat (0,0,0,())).2.1 - 1),(List.getD a0.1.1 b.1.1.toNat (0,0,0,())).2.2.1,0,0,())) fun b↦some ((true,()),(a0.1,List.set a0.2.1 a1.toNat (b.1.1.1,b.1.1.2.1,b.1.1.2.2.1,b.1.1.2.2.2.1,b.1.1.2.2.2.2.1,()),a0.2.2),())) (br (decide (y1.2.2.2.1.length+1≤qb6)) (qd (quj D y3 (List.getD (List.set y0 a1.toNat (y2.1,y2.2.1,y2.2.2.1,y1.2.2.2.1++[(b.1.1,(List.getD a0.1.1 b.1.1.toNat (0,0,0,())).1,())],y2.2.2.2.2)) a1.toNat ([],0,false,[],[],())).2.2.2.1) fun b_1↦br (!b_1.1.2.1) (some ((true,()),(a0.1,List.set y0 a1.toNat (y2.1,y2.2.1,y2.2.2.1,y1.2.2.2.1++[(b.1.1,(List.getD a0.1.1 b.1.1.toNat (0,0,0,())).1,())],y2.2.2.2.2),a0.2.2),())) (br b_1.1.1.1 (qd (qju D (a0.1,List.set y0 a1.toNat (y2.1,y2.2.1,y2.2.2.1,y1.2.2.2.1++[(b.1.1,(List.getD a0.1.1 b.1.1.toNat (0,0,0,())).1,())],y2.2.2.2.2),a0.2.2) a1 (b_1.1.1.2.1.1,b_1.1.1.2.1.2.1,())) fun b↦qd (qjc D b.2.1 a1 (b_1.1.1.2.1.1,b_1.1.1.2.1.2.1,())) fun b↦some ((true,()),b.2.1,())) (qd (qxb D (a0.1.1,a0.1.2.1,()) a1 b_1.1.1.2.2.1 (b_1.1.1.2.1.1,b_1.1.1.2.1.2.1,())) fun b_2↦let a:=List.set y0 a1.toNat (y2.1,y2.2.1,y2.2.2.1,y1.2.2.2.1++[(b.1.1,(List.getD a0.1.1 b.1.1.toNat (0,0,0,())).1,())],y2.2.2.2.2);br b_2.1.2.2.1 (qd (qo6 D (List.getD a a1.toNat ([],0,false,[],[],())) b_2.1.2.1) fun b_3↦some ((b_2.1.2.2.1,()),((b_2.1.1.1,b_2.1.1.2.1,()),List.set a a1.toNat (b_3.1.1.1,b_3.1.1.2.1,b_3.1.1.2.2.1,b_3.1.1.2.2.2.1,b_3.1.1.2.2.2.2.1,()),a0.2.2),())) none))) none)) none) (qd (quj D y3 y1.2.2.2.1) fun b↦br (!b.1.2.1) (some ((true,()),a0,())) (br b.1.1.1 (qd (qju D a0 a1 (b.1.1.2.1.1,b.1.1.2.1.2.1,())) fun b_1↦qd (qjc D b_1.2.1 a1 (b.1.1.2.1.1,b.1.1.2.1.2.1,())) fun b↦some ((true,()),b.2.1,())) (qd (qxb D (a0.1.1,a0.1.2.1,()) a1 b.1.1.2.2.1 (b.1.1.2.1.1,b.1.1.2.1.2.1,())) fun b↦br b.1.2.2.1 (qd (qo6 D (y1.1,y1.2.1,y1.2.2.1,y1.2.2.2.1,y1.2.2.2.2) b.1.2.1) fun b_1↦some ((b.1.2.2.1,()),((b.1.1.1,b.1.1.2.1,()),List.set a0.2.1 a1.toNat (b_1.1.1.1,b_1.1.1.2.1,b_1.1.1.2.2.1,b_1.1.1.2.2.2.1,b_1.1.1.2.2.2.2.1,()),a0.2.2),())) none)))) none) none
def qpt (D:DX)(n:Nat) (a0:tq5) (a1:Int):Option tq1:=qyt D n a0 a1
theorem qbds (D:DX)(n:Nat) (a0:tq5) (a1:Int):rF D n 106 (a0,(a1,()))=qpt D n a0 a1:=by kernel_rfl

def qxr (D:DX)(n:Nat) (go:Int→List tq38→Int→Int→tq38→Option tq26) (K0:Bool→tq38→Option tq26) (K1:tq38→Option tq26) (x0:Int) (x1:List tq38) (x2 x3:Int) (x4:tq38):Option tq26:=br (decide (x3<x2)) (br (decide (0≤x3)&&decide (x3<(x1.length:Int))) (br (decide ((List.getD x1 x3.toNat (0,0,0,())).1=x0)) (K0 true (List.getD x1 x3.toNat (0,0,0,()))) (go x0 x1 x2 (wrap .i64 (x3+1)) x4)) none) (K1 x4)
def qlz (D:DX)(n:Nat) (K0:Bool→tq38→Option tq26) (K1:tq38→Option tq26):Nat→Int→(List tq38)→Int→Int→tq38→Option tq26 | 0=>(fun x0 x1 x2 x3 x4=>none) | m+1=>(fun x0 x1 x2 x3 x4=>qxr D n (qlz D n K0 K1 m) K0 K1 x0 x1 x2 x3 x4)
def q48 (D:DX)(n:Nat) (a:Bool) (b:tq38):Option tq26:=some ((b,a,()),())
def q4h (D:DX)(n:Nat) (a:tq38):Option tq26:=some (((0,0,0,()),false,()),())
def qu0 (D:DX)(n:Nat):(Int)→(List tq38)→(Int)→(Int)→tq38→Option tq26:=(fun x0 x1 x2 x3 x4=>qlz D n (fun a b=>q48 D n a b) (fun c=>q4h D n c) n x0 x1 x2 x3 x4)
def q03 (D:DX)(n:Nat) (lp0:Int→List tq38→Int→Int→tq38→Option tq26) (a0:tq18) (a1:Int):Option tq26:=lp0 a1 a0.2.2.1 (a0.2.2.1.length:Int) 0 (0,0,0,())
def qzw (D:DX)(n:Nat) (a0:tq18) (a1:Int):Option tq26:=q03 D n (qu0 D n) a0 a1
def qx7 (x0:Int) (x1:List tq38) (x2 x3:Int) (x4:tq38):St:=stq 22 [(1,AV.val yq34 x0),(4,AV.addr 4 []),(9,AV.val yq19 x1),(10,AV.val yq34 x2),(11,AV.val yq34 x3)] [(4,Root.mk yq21 Mk.no x4 true)]
def q4v (a:Bool) (b:tq38):St:=stq 22 [(4,AV.addr 4 []),(5,AV.val Ty.bool a)] [(4,Root.mk yq21 Mk.no b true)]
def q4q (a:tq38):St:=stq 22 [(4,AV.addr 4 [])] [(4,Root.mk yq21 Mk.no a true)]
theorem qbj4 (D:DX)(n:Nat) (K:KT 107):∀ (m:Nat) (x0:Int) (x1:List tq38) (x2 x3:Int) (x4:tq38),LF D n 107 pq2 m (qx7 x0 x1 x2 x3 x4) K=qlz D n (fun a b=>K (Ex.ret) (q4v a b)) (fun c=>K (Ex.exit 0) (q4q c)) m x0 x1 x2 x3 x4:=eL5 (fun F=>qxr D n F (fun a b=>K (Ex.ret) (q4v a b)) (fun c=>K (Ex.exit 0) (q4q c))) (fun _ _ _ _ _ =>qz ..) (fun _ _ _ _ _ _ =>by kernel_rfl) (fun _ _ _ _ _ _ =>rfl)
theorem qbg7 (D:DX)(n:Nat) (x0) (x1) (x2) (x3) (x4):LF D n 107 pq2 n (qx7 x0 x1 x2 x3 x4) (CF D n 107 [] pq2 (lF 107))=qu0 D n x0 x1 x2 x3 x4 :=by rw[qbj4];kernel_rfl
theorem qbpq (D:DX)(n:Nat) (a0:tq18) (a1:Int):rF D n 107 (a0,(a1,()))=qzw D n a0 a1:=by
 have h:rF D n 107 (a0,(a1,()))=q03 D n (fun x0 x1 x2 x3 x4=>LF D n 107 pq2 n (qx7 x0 x1 x2 x3 x4) (CF D n 107 [] pq2 (lF 107))) a0 a1:=by kernel_rfl
 rw[h]
 simp only[qbg7]
 rfl


def qhj (D:DX)(n:Nat) (a1:Clo) (a0:List tq18):Option tq42:=qd (qh8 D a0 a1) fun b↦some ((decide (b.1.1≥0),()),())
def qdy (D:DX)(n:Nat) (a0:List tq18) (a1:Clo):Option tq42:=qhj D n a1 a0
theorem qng (D:DX)(n:Nat) (a0:List tq18) (a1:Clo):rF D n 109 (a0,(a1,()))=qdy D n a0 a1:=by kernel_rfl

def qban (D:DX)(n:Nat) (a0:tq18):Option tq42:=qd (q37 D a0) fun b↦some ((!b.1.1,()),())
def q1k (D:DX)(n:Nat) (a0:tq18):Option tq42:=qban D n a0
theorem qbn8 (D:DX)(n:Nat) (a0:tq18):rF D n 110 (a0,())=q1k D n a0:=by kernel_rfl

def q0z (D:DX)(n:Nat) (go:List tq38→Int→Int→tq18→Option tq42) (K0:Bool→tq18→Option tq42) (K1:tq18→Option tq42) (x0:List tq38) (x1 x2:Int) (x3:tq18):Option tq42:=let y0:=List.getD x0 x2.toNat (0,0,0,());br (decide (x2<x1)) (br (decide (0≤x2)&&decide (x2<(x0.length:Int))) (qd (qr3 D y0.1) fun b↦br (!b.1.1) (K0 false x3) (qd (qio D y0.2.1) fun b↦br (!b.1.1) (K0 false x3) (qd (qio D y0.2.2.1) fun b↦br (!b.1.1) (K0 false x3) (br (decide (x2>0)) (br (decide (0≤wrap .i64 (x2 - 1))&&decide (wrap .i64 (x2 - 1)<(x3.2.2.1.length:Int))) (br (decide ((List.getD x3.2.2.1 (Int.toNat (wrap .i64 (x2 - 1))) (0,0,0,())).1≥y0.1)) (K0 false x3) (go x0 x1 (wrap .i64 (x2+1)) x3)) none) (go x0 x1 (wrap .i64 (x2+1)) x3))))) none) (K1 x3)
def qmz (D:DX)(n:Nat) (K0:Bool→tq18→Option tq42) (K1:tq18→Option tq42):Nat→(List tq38)→Int→Int→tq18→Option tq42 | 0=>(fun x0 x1 x2 x3=>none) | m+1=>(fun x0 x1 x2 x3=>q0z D n (qmz D n K0 K1 m) K0 K1 x0 x1 x2 x3)
def q7d (D:DX)(n:Nat) (a:Bool) (b:tq18):Option tq42:=some ((a,()),())
def qvn (D:DX)(n:Nat) (a:tq18):Option tq42:=qd (qbl D a.1 1 1000000) fun b↦br b.1.1 (qd (qbl D a.2.1 1 3) fun b↦some ((bif b.1.1 then decide ((a.2.2.1.length:Int)≤20) else false,()),())) (some ((false,()),()))
def qv9 (D:DX)(n:Nat):(List tq38)→(Int)→(Int)→tq18→Option tq42:=(fun x0 x1 x2 x3=>qmz D n (fun a b=>q7d D n a b) (fun c=>qvn D n c) n x0 x1 x2 x3)
def q3v (D:DX)(n:Nat) (lp0:List tq38→Int→Int→tq18→Option tq42) (a0:tq18):Option tq42:=br (decide (a0.1=0)) (some ((bif bif bif decide (a0.2.1=0) then decide ((a0.2.2.1.length:Int)=0) else false then decide (a0.2.2.2.1.1=0) else false then decide ((a0.2.2.2.1.2.1.length:Int)=0) else false,()),())) (lp0 a0.2.2.1 (a0.2.2.1.length:Int) 0 a0)
def q3h (D:DX)(n:Nat) (a0:tq18):Option tq42:=q3v D n (qv9 D n) a0
def q08 (x0:List tq38) (x1 x2:Int) (x3:tq18):St:=stq 85 [(1,AV.addr 1 []),(31,AV.val yq19 x0),(32,AV.val yq34 x1),(33,AV.val yq34 x2)] [(1,Root.mk yq9 Mk.no x3 true)]
def q7u (a:Bool) (b:tq18):St:=stq 85 [(1,AV.addr 1 []),(2,AV.val Ty.bool a)] [(1,Root.mk yq9 Mk.no b true)]
def q6c (a:tq18):St:=stq 85 [(1,AV.addr 1 [])] [(1,Root.mk yq9 Mk.no a true)]
theorem qbk1 (D:DX)(n:Nat) (K:KT 111):∀ (m:Nat) (x0:List tq38) (x1 x2:Int) (x3:tq18),LF D n 111 pq0 m (q08 x0 x1 x2 x3) K=qmz D n (fun a b=>K (Ex.ret) (q7u a b)) (fun c=>K (Ex.exit 0) (q6c c)) m x0 x1 x2 x3:=eL4 (fun F=>q0z D n F (fun a b=>K (Ex.ret) (q7u a b)) (fun c=>K (Ex.exit 0) (q6c c))) (fun _ _ _ _ =>qz ..) (fun _ _ _ _ _ =>by kernel_rfl) (fun _ _ _ _ _ =>rfl)
theorem qbiz (D:DX)(n:Nat) (x0) (x1) (x2) (x3):LF D n 111 pq0 n (q08 x0 x1 x2 x3) (CF D n 111 [] pq0 (lF 111))=qv9 D n x0 x1 x2 x3 :=by rw[qbk1];kernel_rfl
theorem qbru (D:DX)(n:Nat) (a0:tq18):rF D n 111 (a0,())=q3h D n a0:=by
 have h:rF D n 111 (a0,())=q3v D n (fun x0 x1 x2 x3=>LF D n 111 pq0 n (q08 x0 x1 x2 x3) (CF D n 111 [] pq0 (lF 111))) a0:=by kernel_rfl
 rw[h]
 simp only[qbiz]
 rfl

def qbdc (D:DX)(n:Nat) (a0:tq38) (a1:Int):Option tq42:=br (decide (a0.2.1=0)) (qd (qio D a0.1) fun b↦some ((bif b.1.1 then decide (a0.2.2.1=0) else false,()),())) (br (decide (a0.1=0)) (qd (qbl D a0.2.1 1 a1) fun b↦br b.1.1 (qd (qbl D a0.2.2.1 1 1000000) fun b↦some ((b.1.1,()),())) (some ((false,()),()))) (some ((false,()),())))
def q3j (D:DX)(n:Nat) (a0:tq38) (a1:Int):Option tq42:=qbdc D n a0 a1
theorem qbr4 (D:DX)(n:Nat) (a0:tq38) (a1:Int):rF D n 112 (a0,(a1,()))=q3j D n a0 a1:=by kernel_rfl

def qeq (D:DX)(n:Nat) (a1:Clo) (go:List tq38→Int→Int→Option tq43) (K0:Int→Option tq43) (K1:Option tq43) (x0:List tq38) (x1 x2:Int):Option tq43:=br (decide (x2<x1)) (br (decide (0≤x2)&&decide (x2<(x0.length:Int))) (qd (qbk ctx D a1 [CapV.val yq21 (List.getD x0 x2.toNat (0,0,0,()))] Ty.bool) fun b↦br b (K0 x2) (go x0 x1 (wrap .i64 (x2+1)))) none) K1
def qbz (D:DX)(n:Nat) (a1:Clo) (K0:Int→Option tq43) (K1:Option tq43):Nat→(List tq38)→Int→Int→Option tq43 | 0=>(fun x0 x1 x2=>none) | m+1=>(fun x0 x1 x2=>qeq D n a1 (qbz D n a1 K0 K1 m) K0 K1 x0 x1 x2)
def qdx (D:DX)(n:Nat) (a1:Clo) (a:Int):Option tq43:=some ((a,()),())
def qdw (D:DX)(n:Nat) (a1:Clo):Option tq43:=some ((-1,()),())
def qeg (D:DX)(n:Nat) (a1:Clo):(List tq38)→(Int)→(Int)→Option tq43:=(fun x0 x1 x2=>qbz D n a1 (fun a=>qdx D n a1 a) (qdw D n a1) n x0 x1 x2)
def qe2 (D:DX)(n:Nat) (a1:Clo) (lp0:List tq38→Int→Int→Option tq43) (a0:List tq38):Option tq43:=lp0 a0 (a0.length:Int) 0
def qe1 (D:DX)(n:Nat) (a0:List tq38) (a1:Clo):Option tq43:=qe2 D n a1 (qeg D n a1) a0
def qen (a1:Clo) (x0:List tq38) (x1 x2:Int):St:=stq 19 [(0,AV.val yq19 x0),(1,AV.cloV a1),(7,AV.val yq34 x1),(8,AV.val yq34 x2)] []
def qhf (a1:Clo) (a:Int):St:=stq 19 [(4,AV.val yq34 a)] []
def qhc (a1:Clo):St:=stq 19 [] []
theorem qn0 (D:DX)(n:Nat) (a1:Clo) (K:KT 113):∀ (m:Nat) (x0:List tq38) (x1 x2:Int),LF D n 113 pq2 m (qen a1 x0 x1 x2) K=qbz D n a1 (fun a=>K (Ex.ret) (qhf a1 a)) (K (Ex.exit 0) (qhc a1)) m x0 x1 x2:=eL3 (fun F=>qeq D n a1 F (fun a=>K (Ex.ret) (qhf a1 a)) (K (Ex.exit 0) (qhc a1))) (fun _ _ _ =>qz ..) (fun _ _ _ _ =>by kernel_rfl) (fun _ _ _ _ =>rfl)
theorem qnl (D:DX)(n:Nat) (a1:Clo) (x0) (x1) (x2):LF D n 113 pq2 n (qen a1 x0 x1 x2) (CF D n 113 [] pq2 (lF 113))=qeg D n a1 x0 x1 x2 :=by rw[qn0];kernel_rfl
theorem qp1 (D:DX)(n:Nat) (a0:List tq38) (a1:Clo):rF D n 113 (a0,(a1,()))=qe1 D n a0 a1:=by
 have h:rF D n 113 (a0,(a1,()))=qe2 D n a1 (fun x0 x1 x2=>LF D n 113 pq2 n (qen a1 x0 x1 x2) (CF D n 113 [] pq2 (lF 113))) a0:=by kernel_rfl
 rw[h]
 simp only[qnl]
 rfl

def qqb (D:DX)(n:Nat) (a0:List Int) (a1:Int):Option tq42:=qd (qi0 D a0 a1) fun b↦some ((decide (b.1.1≥0),()),())
def qj2 (D:DX)(n:Nat) (a0:List Int) (a1:Int):Option tq42:=qqb D n a0 a1
theorem q5o (D:DX)(n:Nat) (a0:List Int) (a1:Int):rF D n 114 (a0,(a1,()))=qj2 D n a0 a1:=by kernel_rfl

def qbac (D:DX)(n:Nat) (a0:Int):Option tq43:=qd (qr5 D a0) fun b↦qd (qlg D b.1.1 (wrap .i64 (10+a0))) fun b↦some ((b.1.1,()),())
def q0p (D:DX)(n:Nat) (a0:Int):Option tq43:=qbac D n a0
theorem qbp2 (D:DX)(n:Nat) (a0:Int):rF D n 115 (a0,())=q0p D n a0:=by kernel_rfl

def qc9 (D:DX)(n:Nat) (a0:tq40) (a1:tq38) (a2:Int):Option tq42:=let y0:Option tq42:=qd (qo7 D a0) fun b↦some ((b.1.1,()),());qd (qws D a0 a1.2.2.1) fun b↦br (decide (a2=1)) (br (decide (a1.1=1)) (br (decide (0≤a1.2.1)&&decide (a1.2.1<(a0.1.length:Int))) (some ((List.getD a0.1 a1.2.1.toNat 0 != 0,()),())) none) (some ((false,()),()))) (br (decide (a2=2)) (some ((bif bif decide (a1.1=1) then true else decide (a1.1=2) then decide (b.1.1≥0) else false,()),())) (br (bif decide (a2=3) then bif bif decide (a1.1=2) then true else decide (a1.1=3) then true else decide (a1.1=4) else false) (br (decide (0≤a1.2.1)&&decide (a1.2.1<(a0.1.length:Int))) (some ((decide (List.getD a0.1 a1.2.1.toNat 0=0),()),())) none) (br (decide (a2=3)) (br (decide (b.1.1<0)) (br (decide (a1.1=5)) (some ((true,()),())) (br (decide (a1.1=10)) y0 (some ((false,()),())))) (some ((false,()),()))) (br (bif decide (a2=4) then decide (a1.1=8) else false) (some ((a0.2.1 != 0,()),())) (br (bif decide (a2=4) then decide (a1.1=9) else false) (br (decide (a0.2.1=0)) (some ((true,()),())) y0) (br (bif decide (a2=4) then decide (a1.1=10) else false) (qd (qo7 D a0) fun b↦some ((!b.1.1,()),())) (some ((false,()),()))))))))
def qc3 (D:DX)(n:Nat) (a0:tq40) (a1:tq38) (a2:Int):Option tq42:=qc9 D n a0 a1 a2
theorem qbnl (D:DX)(n:Nat) (a0:tq40) (a1:tq38) (a2:Int):rF D n 116 (a0,(a1,(a2,())))=qc3 D n a0 a1 a2:=by kernel_rfl

def qda (D:DX)(n:Nat) (a0:tq40) (a1:tq38):Option ((List Int×tq45)×Unit):=qd (qws D a0 a1.2.2.1) fun b↦br (decide (a1.1=1)) (br (decide (0≤a1.2.1)&&decide (a1.2.1<(a0.1.length:Int))) (some (([],bif decide (List.getD a0.1 a1.2.1.toNat 0=0) then decide (b.1.1<0) else false,()),())) none) (br (decide (a1.1=2)) (br (decide (0≤a1.2.1)&&decide (a1.2.1<(a0.1.length:Int))) (some (([],bif List.getD a0.1 a1.2.1.toNat 0 != 0 then bif decide (b.1.1<0) then true else decide (b.1.1=a1.2.1) else false,()),())) none) (br (decide (a1.1=3)) (br (decide (0≤a1.2.1)&&decide (a1.2.1<(a0.1.length:Int))) (some (([],List.getD a0.1 a1.2.1.toNat 0 != 0,()),())) none) (br (decide (a1.1=4)) (br (decide (0≤a1.2.1)&&decide (a1.2.1<(a0.1.length:Int))) (br (decide (0≤a1.2.1)&&decide (a1.2.1<(a0.1.length:Int))) (some (([List.getD a0.1 a1.2.1.toNat 0],List.getD a0.1 a1.2.1.toNat 0 != 0,()),())) none) none) (br (decide (a1.1=5)) (some (([b.1.1],decide (b.1.1≥0),()),())) (br (decide (a1.1=6)) (qd (q0u D a0 a1.2.1) fun b↦some (([b.1.1],true,()),())) (br (decide (a1.1=7)) (some ((a0.1,true,()),())) (br (decide (a1.1=8)) (some (([],decide (a0.2.1=0),()),())) (br (decide (a1.1=9)) (br (a0.2.1 != 0) (qd (qo7 D a0) fun b↦some (([],!b.1.1,()),())) (some (([],false,()),()))) (br (decide (b.1.1≥0)) (qd (qo7 D a0) fun b_1↦some (([b.1.1],b_1.1.1,()),())) (some (([b.1.1],false,()),())))))))))))
def qc4 (D:DX)(n:Nat) (a0:tq40) (a1:tq38):Option ((List Int×tq45)×Unit):=qda D n a0 a1
theorem qboz (D:DX)(n:Nat) (a0:tq40) (a1:tq38):rF D n 117 (a0,(a1,()))=qc4 D n a0 a1:=by kernel_rfl

def qbfr (D:DX)(n:Nat) (a0:Int):Option tq42:=qd (qbl D a0 0 3) fun b↦some ((b.1.1,()),())
def q6a (D:DX)(n:Nat) (a0:Int):Option tq42:=qbfr D n a0
theorem qbtr (D:DX)(n:Nat) (a0:Int):rF D n 118 (a0,())=q6a D n a0:=by kernel_rfl

def qbbi (D:DX)(n:Nat) (a0:Int):Option tq42:=qd (qbl D a0 0 2) fun b↦some ((b.1.1,()),())
def qzx (D:DX)(n:Nat) (a0:Int):Option tq42:=qbbi D n a0
theorem qbo5 (D:DX)(n:Nat) (a0:Int):rF D n 119 (a0,())=qzx D n a0:=by kernel_rfl

def qis (D:DX)(n:Nat) (a1:Clo) (a0:List tq38):Option tq42:=qd (qj1 D a0 a1) fun b↦some ((decide (b.1.1≥0),()),())
def qfe (D:DX)(n:Nat) (a0:List tq38) (a1:Clo):Option tq42:=qis D n a1 a0
theorem qqi (D:DX)(n:Nat) (a0:List tq38) (a1:Clo):rF D n 120 (a0,(a1,()))=qfe D n a0 a1:=by kernel_rfl

def q4x (D:DX)(n:Nat) (a0:tq38):Option tq42:=qd (qj9 D a0) fun b↦some ((!b.1.1,()),())
def qsn (D:DX)(n:Nat) (a0:tq38):Option tq42:=q4x D n a0
theorem qbgz (D:DX)(n:Nat) (a0:tq38):rF D n 121 (a0,())=qsn D n a0:=by kernel_rfl

def qhh (D:DX)(n:Nat) (a1:Clo) (a0:List tq44):Option tq42:=qd (qh9 D a0 a1) fun b↦some ((decide (b.1.1≥0),()),())
def qd8 (D:DX)(n:Nat) (a0:List tq44) (a1:Clo):Option tq42:=qhh D n a1 a0
theorem qnj (D:DX)(n:Nat) (a0:List tq44) (a1:Clo):rF D n 122 (a0,(a1,()))=qd8 D n a0 a1:=by kernel_rfl

def q4i (D:DX)(n:Nat) (a0:tq44):Option tq42:=qd (qr3 D a0.1) fun b↦br (!b.1.1) (some ((true,()),())) (qd (qio D a0.2.1) fun b↦some ((!b.1.1,()),()))
def qs4 (D:DX)(n:Nat) (a0:tq44):Option tq42:=q4i D n a0
theorem qbhb (D:DX)(n:Nat) (a0:tq44):rF D n 123 (a0,())=qs4 D n a0:=by kernel_rfl

def qbbh (D:DX)(n:Nat) (a0:Int):Option tq42:=qd (qbl D a0 0 19) fun b↦some ((b.1.1,()),())
def qy5 (D:DX)(n:Nat) (a0:Int):Option tq42:=qbbh D n a0
theorem qbnt (D:DX)(n:Nat) (a0:Int):rF D n 124 (a0,())=qy5 D n a0:=by kernel_rfl

def q7p (D:DX)(n:Nat) (a0:Int):Option tq42:=qd (qbl D a0 0 1000) fun b↦some ((b.1.1,()),())
def quz (D:DX)(n:Nat) (a0:Int):Option tq42:=q7p D n a0
theorem qbi5 (D:DX)(n:Nat) (a0:Int):rF D n 125 (a0,())=quz D n a0:=by kernel_rfl

def qha (D:DX)(n:Nat) (a1:Clo) (a0:List tq34):Option tq42:=qd (qia D a0 a1) fun b↦some ((decide (b.1.1≥0),()),())
def qd7 (D:DX)(n:Nat) (a0:List tq34) (a1:Clo):Option tq42:=qha D n a1 a0
theorem qnm (D:DX)(n:Nat) (a0:List tq34) (a1:Clo):rF D n 126 (a0,(a1,()))=qd7 D n a0 a1:=by kernel_rfl

def q4p (D:DX)(n:Nat) (a0:tq34) (a1:Int):Option tq42:=qd (qbl D a0.1 0 (wrap .i64 (a1 - 1))) fun b↦br (!b.1.1) (some ((true,()),())) (qd (qbl D a0.2.1 1 1000000) fun b↦br (!b.1.1) (some ((true,()),())) (qd (qbl D a0.2.2.1 0 20) fun b↦br (!b.1.1) (some ((true,()),())) (qd (qbl D a0.2.2.2.1 0 20) fun b↦some ((!b.1.1,()),()))))
def qtc (D:DX)(n:Nat) (a0:tq34) (a1:Int):Option tq42:=q4p D n a0 a1
theorem qbh0 (D:DX)(n:Nat) (a0:tq34) (a1:Int):rF D n 127 (a0,(a1,()))=qtc D n a0 a1:=by kernel_rfl



def qbfh (D:DX)(n:Nat) (a0:Int):Option tq42:=qd (qbp D a0 1 4) fun b↦some ((b.1.1,()),())
def q6f (D:DX)(n:Nat) (a0:Int):Option tq42:=qbfh D n a0
theorem qbu0 (D:DX)(n:Nat) (a0:Int):rF D n 132 (a0,())=q6f D n a0:=by kernel_rfl

def qbus (D:DX)(n:Nat) (a0:Int):Option tq42:=some ((bif bif bif decide (a0=1) then true else decide (a0=2) then true else decide (a0=5) then true else decide (a0=10),()),())
def qbd7 (D:DX)(n:Nat) (a0:Int):Option tq42:=qbus D n a0
theorem qbv8 (D:DX)(n:Nat) (a0:Int):rF D n 133 (a0,())=qbd7 D n a0:=by kernel_rfl

def qbey (D:DX)(n:Nat) (a0:Int):Option tq43:=qd (qwc D a0) fun b↦br (!b.1.1) (some ((-1,()),())) (some ((a0,()),()))
def q7o (D:DX)(n:Nat) (a0:Int):Option tq43:=qbey D n a0
theorem qbt7 (D:DX)(n:Nat) (a0:Int):rF D n 134 (a0,())=q7o D n a0:=by kernel_rfl

def qbbv (D:DX)(n:Nat) (a0:Int):Option tq43:=qd (qjk D a0) fun b↦br (!b.1.1) (some ((-1,()),())) (some ((wrap .i64 (3+a0),()),()))
def q1j (D:DX)(n:Nat) (a0:Int):Option tq43:=qbbv D n a0
theorem qbpv (D:DX)(n:Nat) (a0:Int):rF D n 135 (a0,())=q1j D n a0:=by kernel_rfl

def qbfc (D:DX)(n:Nat) (a0:Int):Option tq43:=qd (qjk D a0) fun b↦br (!b.1.1) (some ((-1,()),())) (qd (qsg D) fun b↦some ((wrap .i64 (b.1.1+a0),()),()))
def q67 (D:DX)(n:Nat) (a0:Int):Option tq43:=qbfc D n a0
theorem qbv3 (D:DX)(n:Nat) (a0:Int):rF D n 136 (a0,())=q67 D n a0:=by kernel_rfl

def qw4 (D:DX)(n:Nat) (go:Int→Int→Int→tq40→Option tq43) (K0:Int→Option tq43) (x0 x1 x2:Int) (x3:tq40):Option tq43:=br (decide (x2<(x3.1.length:Int))) (br (decide (0≤x2)&&decide (x2<(x3.1.length:Int))) (qd (qjk D (List.getD x3.1 x2.toNat 0)) fun b↦br b.1.1 (br (decide (0≤x2)&&decide (x2<(x3.1.length:Int))) (qd (q0y D (List.getD x3.1 x2.toNat 0)) fun b↦qd (qq3 D (decide (b.1.1=x0))) fun b↦go x0 (wrap .i64 (x1+b.1.1)) (wrap .i64 (x2+1)) x3) none) (qd (qq3 D false) fun b↦go x0 (wrap .i64 (x1+b.1.1)) (wrap .i64 (x2+1)) x3)) none) (K0 x1)
def qll (D:DX)(n:Nat) (K0:Int→Option tq43):Nat→Int→Int→Int→tq40→Option tq43 | 0=>(fun x0 x1 x2 x3=>none) | m+1=>(fun x0 x1 x2 x3=>qw4 D n (qll D n K0 m) K0 x0 x1 x2 x3)
def q4t (D:DX)(n:Nat) (a:Int):Option tq43:=some ((a,()),())
def qu4 (D:DX)(n:Nat):(Int)→(Int)→(Int)→tq40→Option tq43:=(fun x0 x1 x2 x3=>qll D n (fun a=>q4t D n a) n x0 x1 x2 x3)
def q0t (D:DX)(n:Nat) (lp0:Int→Int→Int→tq40→Option tq43) (a0:tq40) (a1:Int):Option tq43:=lp0 a1 0 0 a0
def qzz (D:DX)(n:Nat) (a0:tq40) (a1:Int):Option tq43:=q0t D n (qu4 D n) a0 a1
def qwa (x0 x1 x2:Int) (x3:tq40):St:=stq 34 [(1,AV.val yq34 x0),(2,AV.addr 2 []),(5,AV.val yq34 x1),(6,AV.val yq34 x2)] [(2,Root.mk yq23 Mk.no x3 true)]
def q46 (a:Int):St:=stq 34 [(5,AV.val yq34 a)] []
theorem qbjv (D:DX)(n:Nat) (K:KT 137):∀ (m:Nat) (x0 x1 x2:Int) (x3:tq40),LF D n 137 pq0 m (qwa x0 x1 x2 x3) K=qll D n (fun a=>K (Ex.exit 0) (q46 a)) m x0 x1 x2 x3:=eL4 (fun F=>qw4 D n F (fun a=>K (Ex.exit 0) (q46 a))) (fun _ _ _ _ =>qz ..) (fun _ _ _ _ _ =>by kernel_rfl) (fun _ _ _ _ _ =>rfl)
theorem qbg8 (D:DX)(n:Nat) (x0) (x1) (x2) (x3):LF D n 137 pq0 n (qwa x0 x1 x2 x3) (CF D n 137 [] pq0 (lF 137))=qu4 D n x0 x1 x2 x3 :=by rw[qbjv];kernel_rfl
theorem qboy (D:DX)(n:Nat) (a0:tq40) (a1:Int):rF D n 137 (a0,(a1,()))=qzz D n a0 a1:=by
 have h:rF D n 137 (a0,(a1,()))=q0t D n (fun x0 x1 x2 x3=>LF D n 137 pq0 n (qwa x0 x1 x2 x3) (CF D n 137 [] pq0 (lF 137))) a0 a1:=by kernel_rfl
 rw[h]
 simp only[qbg8]
 rfl

def qbbf (D:DX)(n:Nat) (a0:Int):Option tq43:=qd (qbp D a0 0 2) fun b↦br (!b.1.1) (some ((-1,()),())) (some ((wrap .i64 (10+a0),()),()))
def qzv (D:DX)(n:Nat) (a0:Int):Option tq43:=qbbf D n a0
theorem qboe (D:DX)(n:Nat) (a0:Int):rF D n 138 (a0,())=qzv D n a0:=by kernel_rfl

def qbn1 (D:DX)(n:Nat):Option tq43:=some ((13,()),())
def qba5 (D:DX)(n:Nat):Option tq43:=qbn1 D n
theorem qbp0 (D:DX)(n:Nat):rF D n 139 ()=qba5 D n:=by kernel_rfl

def qbbc (D:DX)(n:Nat) (go:Int→tq18→Option tq42) (K0:Bool→Option tq42) (K1:Option tq42) (x0:Int) (x1:tq18):Option tq42:=let y0:=List.getD x1.2.2.1 x0.toNat (0,0,0,());br (decide (x0<(x1.2.2.1.length:Int))) (br (decide (0≤x0)&&decide (x0<(x1.2.2.1.length:Int))) (qd (qbp D y0.1 0 19) fun b↦br (!b.1.1) (K0 false) (qd (qbp D y0.2.1 0 1000) fun b↦br (!b.1.1) (K0 false) (qd (qbp D y0.2.2.1 0 1000) fun b↦br (!b.1.1) (K0 false) (br (decide (x0>0)) (br (decide (0≤wrap .i64 (x0 - 1))&&decide (wrap .i64 (x0 - 1)<(x1.2.2.1.length:Int))) (br (decide ((List.getD x1.2.2.1 (Int.toNat (wrap .i64 (x0 - 1))) (0,0,0,())).1≥y0.1)) (K0 false) (go (wrap .i64 (x0+1)) x1)) none) (go (wrap .i64 (x0+1)) x1))))) none) K1
def qzy (D:DX)(n:Nat) (K0:Bool→Option tq42) (K1:Option tq42):Nat→Int→tq18→Option tq42 | 0=>(fun x0 x1=>none) | m+1=>(fun x0 x1=>qbbc D n (qzy D n K0 K1 m) K0 K1 x0 x1)
def qbjo (D:DX)(n:Nat) (a:Bool):Option tq42:=some ((a,()),())
def qbja (D:DX)(n:Nat):Option tq42:=some ((true,()),())
def q9g (D:DX)(n:Nat):(Int)→tq18→Option tq42:=(fun x0 x1=>qzy D n (fun a=>qbjo D n a) (qbja D n) n x0 x1)
def q26 (D:DX)(n:Nat) (lp0:Int→tq18→Option tq42) (a0:tq18):Option tq42:=br (decide (a0.1=0)) (some ((bif bif bif decide (a0.2.1=0) then decide ((a0.2.2.1.length:Int)=0) else false then decide (a0.2.2.2.1.1=0) else false then decide ((a0.2.2.2.1.2.1.length:Int)=0) else false,()),())) (qd (qbp D a0.1 1 1000000) fun b↦br (!b.1.1) (some ((false,()),())) (qd (qbp D a0.2.1 1 3) fun b↦br (bif !b.1.1 then true else decide ((a0.2.2.1.length:Int)>20)) (some ((false,()),())) (lp0 0 a0)))
def q21 (D:DX)(n:Nat) (a0:tq18):Option tq42:=q26 D n (q9g D n) a0
def q07 (x0:Int) (x1:tq18):St:=stq 90 [(1,AV.addr 1 []),(3,AV.val yq34 x0)] [(1,Root.mk yq9 Mk.no x1 true)]
def q7r (a:Bool):St:=stq 90 [(2,AV.val Ty.bool a)] []
def q69:St:=stq 90 [] []
theorem qblc (D:DX)(n:Nat) (K:KT 140):∀ (m:Nat) (x0:Int) (x1:tq18),LF D n 140 pq1 m (q07 x0 x1) K=qzy D n (fun a=>K (Ex.ret) (q7r a)) (K (Ex.exit 0) (q69)) m x0 x1:=eL2 (fun F=>qbbc D n F (fun a=>K (Ex.ret) (q7r a)) (K (Ex.exit 0) (q69))) (fun _ _ =>qz ..) (fun _ _ _ =>by kernel_rfl) (fun _ _ _ =>rfl)
theorem qbkt (D:DX)(n:Nat) (x0) (x1):LF D n 140 pq1 n (q07 x0 x1) (CF D n 140 [] pq1 (lF 140))=q9g D n x0 x1 :=by rw[qblc];kernel_rfl
theorem qbsu (D:DX)(n:Nat) (a0:tq18):rF D n 140 (a0,())=q21 D n a0:=by
 have h:rF D n 140 (a0,())=q26 D n (fun x0 x1=>LF D n 140 pq1 n (q07 x0 x1) (CF D n 140 [] pq1 (lF 140))) a0:=by kernel_rfl
 rw[h]
 simp only[qbkt]
 rfl

def qbda (D:DX)(n:Nat) (a0:tq38) (a1:Int):Option tq42:=br (decide (a0.2.1=0)) (br (decide (a0.2.2.1=0)) (qd (qbp D a0.1 0 1000) fun b↦some ((b.1.1,()),())) (some ((false,()),()))) (br (decide (a0.1=0)) (qd (qbp D a0.2.1 1 a1) fun b↦br b.1.1 (qd (qbp D a0.2.2.1 1 1000000) fun b↦some ((b.1.1,()),())) (some ((false,()),()))) (some ((false,()),())))
def q2v (D:DX)(n:Nat) (a0:tq38) (a1:Int):Option tq42:=qbda D n a0 a1
theorem qbsf (D:DX)(n:Nat) (a0:tq38) (a1:Int):rF D n 141 (a0,(a1,()))=q2v D n a0 a1:=by kernel_rfl


def qbek (D:DX)(n:Nat) (a0:Int):Option tq42:=qd (qbp D a0 1 6) fun b↦some ((b.1.1,()),())
def q79 (D:DX)(n:Nat) (a0:Int):Option tq42:=qbek D n a0
theorem qbtd (D:DX)(n:Nat) (a0:Int):rF D n 143 (a0,())=q79 D n a0:=by kernel_rfl


def qbu1 (D:DX)(n:Nat) (a0:Bool):Option tq43:=br a0 (some ((1,()),())) (some ((0,()),()))
def qbfe (D:DX)(n:Nat) (a0:Bool):Option tq43:=qbu1 D n a0
theorem qbwd (D:DX)(n:Nat) (a0:Bool):rF D n 145 (a0,())=qbfe D n a0:=by kernel_rfl

def qbik (D:DX)(n:Nat) (a0:tq38):Option tq42:=let y1:Option tq42:=qd (qjk D a0.2.2.1) fun b↦some ((b.1.1,()),());let y0:Option tq42:=qd (qbp D a0.2.1 0 2) fun b↦qd (qhp D a0.1) fun b_1↦br b_1.1.1 (br b.1.1 y1 (some ((false,()),()))) (some ((bif b.1.1 then decide (a0.2.2.1=0) else false,()),()));qd (qbp D a0.1 1 10) fun b↦br (!b.1.1) (some ((false,()),())) (qd (qye D a0.1) fun b↦br b.1.1 (qd (qwc D a0.2.1) fun b↦br (decide (a0.1=6)) y0 (qd (qhp D a0.1) fun b_1↦br b_1.1.1 (br b.1.1 y1 (some ((false,()),()))) (some ((bif b.1.1 then decide (a0.2.2.1=0) else false,()),())))) (br (decide (a0.1=6)) y0 (qd (qhp D a0.1) fun b↦br b.1.1 (br (decide (a0.2.1=0)) y1 (some ((false,()),()))) (some ((bif decide (a0.2.1=0) then decide (a0.2.2.1=0) else false,()),())))))
def q9o (D:DX)(n:Nat) (a0:tq38):Option tq42:=qbik D n a0
theorem qbw0 (D:DX)(n:Nat) (a0:tq38):rF D n 146 (a0,())=q9o D n a0:=by kernel_rfl

def q1p (D:DX)(n:Nat) (go:Int→Int→tq5→Option tq43) (K0:Int→Option tq43) (K1:Option tq43) (x0 x1:Int) (x2:tq5):Option tq43:=br (decide (x1≥0)) (br (decide (0≤x1)&&decide (x1<(x2.2.2.2.1.length:Int))) (br (decide ((List.getD x2.2.2.2.1 x1.toNat (0,(0,0,0,()),0,0,0,(0,[],()),())).1=x0)) (K0 x1) (go x0 (wrap .i64 (x1 - 1)) x2)) none) K1
def qse (D:DX)(n:Nat) (K0:Int→Option tq43) (K1:Option tq43):Nat→Int→Int→tq5→Option tq43 | 0=>(fun x0 x1 x2=>none) | m+1=>(fun x0 x1 x2=>q1p D n (qse D n K0 K1 m) K0 K1 x0 x1 x2)
def qbkk (D:DX)(n:Nat) (a:Int):Option tq43:=some ((a,()),())
def qbkh (D:DX)(n:Nat):Option tq43:=some ((-1,()),())
def qxn (D:DX)(n:Nat):(Int)→(Int)→tq5→Option tq43:=(fun x0 x1 x2=>qse D n (fun a=>qbkk D n a) (qbkh D n) n x0 x1 x2)
def q32 (D:DX)(n:Nat) (lp0:Int→Int→tq5→Option tq43) (a0:tq5) (a1:Int):Option tq43:=lp0 a1 (wrap .i64 ((a0.2.2.2.1.length:Int) - 1)) a0
def q28 (D:DX)(n:Nat) (a0:tq5) (a1:Int):Option tq43:=q32 D n (qxn D n) a0 a1
def qy6 (x0 x1:Int) (x2:tq5):St:=stq 23 [(1,AV.val yq34 x0),(2,AV.addr 2 []),(5,AV.val yq34 x1)] [(2,Root.mk yq0 Mk.no x2 true)]
def q66 (a:Int):St:=stq 23 [(4,AV.val yq34 a)] []
def q6h:St:=stq 23 [] []
theorem qbm0 (D:DX)(n:Nat) (K:KT 147):∀ (m:Nat) (x0 x1:Int) (x2:tq5),LF D n 147 pq2 m (qy6 x0 x1 x2) K=qse D n (fun a=>K (Ex.ret) (q66 a)) (K (Ex.exit 0) (q6h)) m x0 x1 x2:=eL3 (fun F=>q1p D n F (fun a=>K (Ex.ret) (q66 a)) (K (Ex.exit 0) (q6h))) (fun _ _ _ =>qz ..) (fun _ _ _ _ =>by kernel_rfl) (fun _ _ _ _ =>rfl)
theorem qbjf (D:DX)(n:Nat) (x0) (x1) (x2):LF D n 147 pq2 n (qy6 x0 x1 x2) (CF D n 147 [] pq2 (lF 147))=qxn D n x0 x1 x2 :=by rw[qbm0];kernel_rfl
theorem qbsn (D:DX)(n:Nat) (a0:tq5) (a1:Int):rF D n 147 (a0,(a1,()))=q28 D n a0 a1:=by
 have h:rF D n 147 (a0,(a1,()))=q32 D n (fun x0 x1 x2=>LF D n 147 pq2 n (qy6 x0 x1 x2) (CF D n 147 [] pq2 (lF 147))) a0 a1:=by kernel_rfl
 rw[h]
 simp only[qbjf]
 rfl

def qjw (D:DX)(n:Nat) (a0:List tq38):Option tq29:=br (decide (Int.toNat (a0.length:Int)=0)) (both (some (([],()),())) (br (decide (0+a0.length≤qb6)) (some (([]++a0,()),())) none)) (br (decide (0+a0.length≤qb6)) (some (([]++a0,()),())) none)
def qf5 (D:DX)(n:Nat) (a0:List tq38):Option tq29:=qjw D n a0
theorem qsw (D:DX)(n:Nat) (a0:List tq38):rF D n 148 (a0,())=qf5 D n a0:=by kernel_rfl

def qi5 (D:DX)(n:Nat) (a0:List tq38):Option tq29:=br (decide (Int.toNat (a0.length:Int)=0)) (both (some (([],()),())) (br (decide (0+a0.length≤qb6)) (some (([]++a0,()),())) none)) (br (decide (0+a0.length≤qb6)) (some (([]++a0,()),())) none)
def qfo (D:DX)(n:Nat) (a0:List tq38):Option tq29:=qi5 D n a0
theorem qqz (D:DX)(n:Nat) (a0:List tq38):rF D n 149 (a0,())=qfo D n a0:=by kernel_rfl

def qjy (D:DX)(n:Nat) (a0:List tq44):Option ((List tq44×Unit)×Unit):=br (decide (Int.toNat (a0.length:Int)=0)) (both (some (([],()),())) (br (decide (0+a0.length≤qb6)) (some (([]++a0,()),())) none)) (br (decide (0+a0.length≤qb6)) (some (([]++a0,()),())) none)
def qgc (D:DX)(n:Nat) (a0:List tq44):Option ((List tq44×Unit)×Unit):=qjy D n a0
theorem qsz (D:DX)(n:Nat) (a0:List tq44):rF D n 150 (a0,())=qgc D n a0:=by kernel_rfl

def qjx (D:DX)(n:Nat) (a0:List tq34):Option ((List tq34×Unit)×Unit):=br (decide (Int.toNat (a0.length:Int)=0)) (both (some (([],()),())) (br (decide (0+a0.length≤qb6)) (some (([]++a0,()),())) none)) (br (decide (0+a0.length≤qb6)) (some (([]++a0,()),())) none)
def qf4 (D:DX)(n:Nat) (a0:List tq34):Option ((List tq34×Unit)×Unit):=qjx D n a0
theorem qsx (D:DX)(n:Nat) (a0:List tq34):rF D n 151 (a0,())=qf4 D n a0:=by kernel_rfl

def qbln (D:DX)(n:Nat) (a0:tq13):Option ((tq34×tq45)×Unit):=br (decide ((a0.2.2.2.2.1.length:Int)=0)) (some (((0,0,0,0,()),false,()),())) (br (decide (0≤wrap .i64 ((a0.2.2.2.2.1.length:Int) - 1))&&decide (wrap .i64 ((a0.2.2.2.2.1.length:Int) - 1)<(a0.2.2.2.2.1.length:Int))) (some ((List.getD a0.2.2.2.2.1 (Int.toNat (wrap .i64 ((a0.2.2.2.2.1.length:Int) - 1))) (0,0,0,0,()),true,()),())) none)
def qbcb (D:DX)(n:Nat) (a0:tq13):Option ((tq34×tq45)×Unit):=qbln D n a0
theorem qbzf (D:DX)(n:Nat) (a0:tq13):rF D n 152 (a0,())=qbcb D n a0:=by kernel_rfl
end
end Go.G


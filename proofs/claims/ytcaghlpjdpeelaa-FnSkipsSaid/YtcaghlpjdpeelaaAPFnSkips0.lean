import Derived.Test.YtcaghlpjdpeelaaAV3
set_option maxRecDepth 100000
set_option linter.unusedVariables false
set_option linter.unusedSimpArgs false
set_option linter.unusedSectionVars false
open Go.IntKind (wrap)
namespace Go.G
open Go Go.V
abbrev DX:=Den ctx
abbrev KT(k:Nat):=Ex->St->Option (Out ctx k)
noncomputable abbrev LF(D:DX)(n:Nat)(k:Nat):=LQ (C:=ctx) rJ D n k
noncomputable abbrev CF(D:DX)(n:Nat)(k:Nat):=CQ (C:=ctx) rJ D n k
noncomputable abbrev KF(D:DX)(n:Nat)(k:Nat):=LK (C:=ctx) rJ D n k
noncomputable abbrev lF(k:Nat):=xU (C:=ctx) rJ k
noncomputable abbrev rF(D:DX)(n:Nat)(k:Nat):=FN (C:=ctx) rJ D n k
noncomputable abbrev bF(k:Nat):=yA rJ k
theorem yL{t0 t1 t2 R:Type}{A B:Nat->t0->t1->t2->R}(b:(t0->t1->t2->R)->t0->t1->t2->R)(h0:∀x0 x1 x2,A 0 x0 x1 x2=B 0 x0 x1 x2:=by intros;exact tI ..)(ha:∀m x0 x1 x2,A (m+1) x0 x1 x2=b (A m) x0 x1 x2:=by intros;kernel_rfl)(hb:∀m x0 x1 x2,B (m+1) x0 x1 x2=b (B m) x0 x1 x2:=by intros;rfl):∀m x0 x1 x2,A m x0 x1 x2=B m x0 x1 x2
| 0=>h0
| m+1=>fun x0 x1 x2=>by rw[ha,hb,show A m=B m from funext fun x0=>funext fun x1=>funext fun x2=>yL b h0 ha hb m x0 x1 x2]
theorem rT{t0 t1 t2 t3 R:Type}{A B:Nat->t0->t1->t2->t3->R}(b:(t0->t1->t2->t3->R)->t0->t1->t2->t3->R)(h0:∀x0 x1 x2 x3,A 0 x0 x1 x2 x3=B 0 x0 x1 x2 x3:=by intros;exact tI ..)(ha:∀m x0 x1 x2 x3,A (m+1) x0 x1 x2 x3=b (A m) x0 x1 x2 x3:=by intros;kernel_rfl)(hb:∀m x0 x1 x2 x3,B (m+1) x0 x1 x2 x3=b (B m) x0 x1 x2 x3:=by intros;rfl):∀m x0 x1 x2 x3,A m x0 x1 x2 x3=B m x0 x1 x2 x3
| 0=>h0
| m+1=>fun x0 x1 x2 x3=>by rw[ha,hb,show A m=B m from funext fun x0=>funext fun x1=>funext fun x2=>funext fun x3=>rT b h0 ha hb m x0 x1 x2 x3]
theorem u_{t0 t1 t2 t3 t4 R:Type}{A B:Nat->t0->t1->t2->t3->t4->R}(b:(t0->t1->t2->t3->t4->R)->t0->t1->t2->t3->t4->R)(h0:∀x0 x1 x2 x3 x4,A 0 x0 x1 x2 x3 x4=B 0 x0 x1 x2 x3 x4:=by intros;exact tI ..)(ha:∀m x0 x1 x2 x3 x4,A (m+1) x0 x1 x2 x3 x4=b (A m) x0 x1 x2 x3 x4:=by intros;kernel_rfl)(hb:∀m x0 x1 x2 x3 x4,B (m+1) x0 x1 x2 x3 x4=b (B m) x0 x1 x2 x3 x4:=by intros;rfl):∀m x0 x1 x2 x3 x4,A m x0 x1 x2 x3 x4=B m x0 x1 x2 x3 x4
| 0=>h0
| m+1=>fun x0 x1 x2 x3 x4=>by rw[ha,hb,show A m=B m from funext fun x0=>funext fun x1=>funext fun x2=>funext fun x3=>funext fun x4=>u_ b h0 ha hb m x0 x1 x2 x3 x4]
theorem zN{t0 t1 t2 t3 t4 t5 R:Type}{A B:Nat->t0->t1->t2->t3->t4->t5->R}(b:(t0->t1->t2->t3->t4->t5->R)->t0->t1->t2->t3->t4->t5->R)(h0:∀x0 x1 x2 x3 x4 x5,A 0 x0 x1 x2 x3 x4 x5=B 0 x0 x1 x2 x3 x4 x5:=by intros;exact tI ..)(ha:∀m x0 x1 x2 x3 x4 x5,A (m+1) x0 x1 x2 x3 x4 x5=b (A m) x0 x1 x2 x3 x4 x5:=by intros;kernel_rfl)(hb:∀m x0 x1 x2 x3 x4 x5,B (m+1) x0 x1 x2 x3 x4 x5=b (B m) x0 x1 x2 x3 x4 x5:=by intros;rfl):∀m x0 x1 x2 x3 x4 x5,A m x0 x1 x2 x3 x4 x5=B m x0 x1 x2 x3 x4 x5
| 0=>h0
| m+1=>fun x0 x1 x2 x3 x4 x5=>by rw[ha,hb,show A m=B m from funext fun x0=>funext fun x1=>funext fun x2=>funext fun x3=>funext fun x4=>funext fun x5=>zN b h0 ha hb m x0 x1 x2 x3 x4 x5]
theorem FZ{t0 t1 t2 t3 t4 t5 t6 R:Type}{A B:Nat->t0->t1->t2->t3->t4->t5->t6->R}(b:(t0->t1->t2->t3->t4->t5->t6->R)->t0->t1->t2->t3->t4->t5->t6->R)(h0:∀x0 x1 x2 x3 x4 x5 x6,A 0 x0 x1 x2 x3 x4 x5 x6=B 0 x0 x1 x2 x3 x4 x5 x6:=by intros;exact tI ..)(ha:∀m x0 x1 x2 x3 x4 x5 x6,A (m+1) x0 x1 x2 x3 x4 x5 x6=b (A m) x0 x1 x2 x3 x4 x5 x6:=by intros;kernel_rfl)(hb:∀m x0 x1 x2 x3 x4 x5 x6,B (m+1) x0 x1 x2 x3 x4 x5 x6=b (B m) x0 x1 x2 x3 x4 x5 x6:=by intros;rfl):∀m x0 x1 x2 x3 x4 x5 x6,A m x0 x1 x2 x3 x4 x5 x6=B m x0 x1 x2 x3 x4 x5 x6
| 0=>h0
| m+1=>fun x0 x1 x2 x3 x4 x5 x6=>by rw[ha,hb,show A m=B m from funext fun x0=>funext fun x1=>funext fun x2=>funext fun x3=>funext fun x4=>funext fun x5=>funext fun x6=>FZ b h0 ha hb m x0 x1 x2 x3 x4 x5 x6]
theorem N9{t0 t1 t2 t3 t4 t5 t6 t7 R:Type}{A B:Nat->t0->t1->t2->t3->t4->t5->t6->t7->R}(b:(t0->t1->t2->t3->t4->t5->t6->t7->R)->t0->t1->t2->t3->t4->t5->t6->t7->R)(h0:∀x0 x1 x2 x3 x4 x5 x6 x7,A 0 x0 x1 x2 x3 x4 x5 x6 x7=B 0 x0 x1 x2 x3 x4 x5 x6 x7:=by intros;exact tI ..)(ha:∀m x0 x1 x2 x3 x4 x5 x6 x7,A (m+1) x0 x1 x2 x3 x4 x5 x6 x7=b (A m) x0 x1 x2 x3 x4 x5 x6 x7:=by intros;kernel_rfl)(hb:∀m x0 x1 x2 x3 x4 x5 x6 x7,B (m+1) x0 x1 x2 x3 x4 x5 x6 x7=b (B m) x0 x1 x2 x3 x4 x5 x6 x7:=by intros;rfl):∀m x0 x1 x2 x3 x4 x5 x6 x7,A m x0 x1 x2 x3 x4 x5 x6 x7=B m x0 x1 x2 x3 x4 x5 x6 x7
| 0=>h0
| m+1=>fun x0 x1 x2 x3 x4 x5 x6 x7=>by rw[ha,hb,show A m=B m from funext fun x0=>funext fun x1=>funext fun x2=>funext fun x3=>funext fun x4=>funext fun x5=>funext fun x6=>funext fun x7=>N9 b h0 ha hb m x0 x1 x2 x3 x4 x5 x6 x7]
abbrev dO:List jJ:=[.r,.r,.l,.r,.l]
abbrev fM:List jJ:=[.r,.r,.r,.l,.r,.l]
abbrev ia:List jJ:=[.r,.r,.r,.r,.l,.r,.l]
abbrev rq:List jJ:=[.r,.r,.r,.r,.r,.r,.l,.r,.l]
abbrev AP:List jJ:=[.r,.r,.r,.r,.r,.r,.r,.r,.r,.r,.r,.r,.r,.l,.r,.l]
abbrev yY:List jJ:=[.r,.r,.r,.r,.r,.r,.r,.l,.r,.l]
abbrev AQ:List jJ:=[.r,.r,.r,.r,.r,.r,.r,.r,.r,.l,.r,.l]
abbrev uJ:List jJ:=[.r,.r,.r,.l,.r,.l,.l]
abbrev HE:List jJ:=[.r,.r,.r,.l,.r,.l,.l,.r,.r,.l,.l,.r,.r,.r,.r,.l]
abbrev HF:List jJ:=[.r,.r,.r,.l,.r,.l,.l,.r,.l,.l,.r,.r,.r,.l,.r,.l]
abbrev vO:List jJ:=[.r,.r,.r,.l,.r,.l,.l,.r,.l,.l,.r,.r,.r,.r,.r,.l]
abbrev vP:List jJ:=[.r,.r,.r,.r,.l,.r,.l,.l,.r,.l,.l,.l,.l]
abbrev se:List jJ:=[.r,.l,.l,.r,.r,.r,.l,.r,.l]
abbrev pz:List jJ:=[.r,.r,.r,.l,.l]
abbrev aT:=(Int×Unit)×Unit
abbrev az:=(Bool×Unit)×Unit
abbrev bZ:=List Int×Int×Int×Unit
abbrev dG:=ByteArray×List Int×Unit
abbrev eP:=(List Int×Int×Unit)×Unit
abbrev ja:=(List ByteArray×Unit)×Unit
abbrev dh:=(List Int×Bool×Unit)×Unit
abbrev yF:=bZ×Unit
abbrev qL:=yF×Unit
abbrev zI:=(Int×Unit)×yF
abbrev aq:=List Int×List dG×Unit
abbrev zH:=(ByteArray×Unit)×yF
abbrev zG:=Unit×aq×Unit
abbrev gr:=(aq×Unit)×Unit
abbrev dS:=(aq×Bool×Unit)×Unit
abbrev zF:=(aq×ByteArray×Unit)×Unit
abbrev ng:=(aq×Unit)×yF
noncomputable def PA(D:Den ctx)(a0:List Int):Option az:=D 3 (a0,())
noncomputable def wQ(D:Den ctx)(a0:List Int):Option az:=D 4 (a0,())
noncomputable def K7(D:Den ctx)(a0:List Int):Option zF:=D 5 (a0,())
noncomputable def L4(D:Den ctx)(a0:aq)(a1:ByteArray):Option dS:=D 6 (a0,(a1,()))
noncomputable def E8(D:Den ctx)(a0:aq)(a1:ByteArray):Option dS:=D 7 (a0,(a1,()))
noncomputable def K6(D:Den ctx)(a0:List Int):Option zF:=D 8 (a0,())
noncomputable def L3(D:Den ctx)(a0:aq)(a1:ByteArray):Option dS:=D 9 (a0,(a1,()))
noncomputable def E6(D:Den ctx)(a0:aq)(a1:ByteArray):Option dS:=D 10 (a0,(a1,()))
noncomputable def Ld(D:Den ctx)(a0:List Int):Option gr:=D 11 (a0,())
noncomputable def w7(D:Den ctx)(a0 a1:aq):Option az:=D 12 (a0,(a1,()))
noncomputable def qz(D:Den ctx)(a0:aq):Option az:=D 13 (a0,())
noncomputable def zn(D:Den ctx)(a0:aq):Option az:=D 14 (a0,())
noncomputable def E5(D:Den ctx):Option gr:=D 15 ()
noncomputable def E7(D:Den ctx):Option gr:=D 16 ()
noncomputable def DJ(D:Den ctx)(a0:List ByteArray)(a1:ByteArray):Option az:=D 17 (a0,(a1,()))
noncomputable def x_(D:Den ctx)(a0:aq):Option ja:=D 18 (a0,())
noncomputable def A0(D:Den ctx)(a0:List Int):Option qL:=D 19 (a0,())
noncomputable def Dp(D:Den ctx)(a0:bZ):Option ng:=D 20 (a0,())
noncomputable def zl(D:Den ctx)(a0:bZ):Option zH:=D 21 (a0,())
noncomputable def ER(D:Den ctx)(a0:aq):Option gr:=D 22 (a0,())
noncomputable def Fq(D:Den ctx)(a0:aq)(a1:ByteArray):Option eP:=D 23 (a0,(a1,()))
noncomputable def zk(D:Den ctx)(a0:aq)(a1 a2:Int):Option aT:=D 24 (a0,(a1,(a2,())))
noncomputable def ze(D:Den ctx)(a0:ByteArray):Option aT:=D 25 (a0,())
noncomputable def Lt(D:Den ctx)(a0:aq)(a1 a2 a3:Int):Option zG:=D 26 (a0,(a1,(a2,(a3,()))))
noncomputable def zm(D:Den ctx)(a0:aq):Option gr:=D 27 (a0,())
noncomputable def DK(D:Den ctx)(a0:aq)(a1:ByteArray):Option aT:=D 28 (a0,(a1,()))
noncomputable def zf(D:Den ctx)(a0:ByteArray):Option aT:=D 29 (a0,())
noncomputable def EY(D:Den ctx)(a0:aq)(a1:Int)(a2:ByteArray):Option aT:=D 30 (a0,(a1,(a2,())))
noncomputable def DL(D:Den ctx)(a0:aq)(a1 a2 a3:Int):Option zG:=D 31 (a0,(a1,(a2,(a3,()))))
noncomputable def L5(D:Den ctx)(a0:aq)(a1 a2:Int):Option aT:=D 32 (a0,(a1,(a2,())))
noncomputable def ES(D:Den ctx)(a0 a1:List Int):Option az:=D 33 (a0,(a1,()))
noncomputable def Fi(D:Den ctx)(a0:aq)(a1:Int):Option dh:=D 34 (a0,(a1,()))
noncomputable def Dq(D:Den ctx)(a0:aq)(a1:Int):Option dh:=D 35 (a0,(a1,()))
noncomputable def Ft(D:Den ctx)(a0:List Int)(a1:Int):Option aT:=D 36 (a0,(a1,()))
noncomputable def KN(D:Den ctx)(a0:bZ):Option ng:=D 37 (a0,())
noncomputable def tH(D:Den ctx)(a0:bZ)(a1:Int):Option zI:=D 38 (a0,(a1,()))
noncomputable def Fj(D:Den ctx)(a0:bZ)(a1:List ByteArray):Option zH:=D 39 (a0,(a1,()))
noncomputable def Fu(D:Den ctx)(a0:List Int):Option ((List Int×Unit)×Unit):=D 40 (a0,())
noncomputable def Jq(D:Den ctx)(a0 a1 a2:Int):Option az:=D 41 (a0,(a1,(a2,())))
noncomputable def JD(D:Den ctx)(a0 a1 a2:Int):Option az:=D 42 (a0,(a1,(a2,())))
noncomputable def NH(D:Den ctx)(a0:Bool):Option aT:=D 43 (a0,())
noncomputable def MT(D:Den ctx)(a0:bZ)(a1:Int):Option ((Bool×Unit)×yF):=D 44 (a0,(a1,()))
noncomputable def yo(D:Den ctx)(a0:bZ):Option zI:=D 45 (a0,())
set_option maxHeartbeats 0
noncomputable section
def Me(D:DX)(n:Nat)(go:ByteArray->Int->aq->List ByteArray->List ByteArray->Option az)(K0:Bool->ByteArray->aq->List ByteArray->List ByteArray->Option az)(K1:ByteArray->aq->List ByteArray->List ByteArray->Option az)(x0:ByteArray)(x1:Int)(x2:aq)(x3 x4:List ByteArray):Option az:=br (decide (x1<(x3.length:Int))) (br (decide (0<=x1)&&decide (x1<(x3.length:Int))) (qd (DJ D x4 (List.getD x3 x1.toNat ByteArray.empty)) fun b=>br (!b.1.1) (K0 false x0 x2 x3 x4) (go x0 (wrap .i64 (x1+1)) x2 x3 x4)) none) (K1 x0 x2 x3 x4)
def Dk(D:DX)(n:Nat)(K0:Bool->ByteArray->aq->List ByteArray->List ByteArray->Option az)(K1:ByteArray->aq->List ByteArray->List ByteArray->Option az):Nat->ByteArray->Int->aq->(List ByteArray)->(List ByteArray)->Option az | 0=>(fun x0 x1 x2 x3 x4=>none) | m+1=>(fun x0 x1 x2 x3 x4=>Me D n (Dk D n K0 K1 m) K0 K1 x0 x1 x2 x3 x4)
def O_(D:DX)(n:Nat)(a:Bool)(b:ByteArray)(c:aq)(d e:List ByteArray):Option az:=some ((a,()),())
def KZ(D:DX)(n:Nat)(d:ByteArray)(a:aq)(e c:List ByteArray):Option az:=qd (qz D (a.1,a.2.1,())) fun b=>br b.1.1 (qd (DJ D c d) fun b=>br b.1.1 (some ((decide ((c.length:Int)=wrap .i64 ((e.length:Int)+1)),()),())) (some ((false,()),()))) (some ((false,()),()))
def Ln(D:DX)(n:Nat):(ByteArray)->(Int)->aq->(List ByteArray)->(List ByteArray)->Option az:=(fun x0 x1 x2 x3 x4=>Dk D n (fun a b c d e=>O_ D n a b c d e) (fun f g h i=>KZ D n f g h i) n x0 x1 x2 x3 x4)
def MS(D:DX)(n:Nat)(eY:ByteArray->Int->aq->List ByteArray->List ByteArray->Option az)(a0:List Int):Option az:=qd (wQ D a0) fun SV=>br SV.1.1 (some ((true,()),())) (qd (K7 D a0) fun p1=>qd (L4 D (p1.1.1.1,p1.1.1.2.1,()) p1.1.2.1) fun p3=>let y0:Option az:=(br (!p3.1.2.1) (qd (w7 D (p3.1.1.1,p3.1.1.2.1,()) (p1.1.1.1,p1.1.1.2.1,())) fun S0=>some ((S0.1.1,()),())) (qd (x_ D (p1.1.1.1,p1.1.1.2.1,())) fun S4=>qd (x_ D (p3.1.1.1,p3.1.1.2.1,())) fun S5=>eY p1.1.2.1 0 (p3.1.1.1,p3.1.1.2.1,()) S4.1.1 S5.1.1));qd (E8 D (p1.1.1.1,p1.1.1.2.1,()) p1.1.2.1) fun p5=>qd (K6 D a0) fun p2=>qd (L3 D (p2.1.1.1,p2.1.1.2.1,()) p2.1.2.1) fun p0=>let y1:Option az:=(br (!p0.1.2.1) (qd (w7 D (p0.1.1.1,p0.1.1.2.1,()) (p2.1.1.1,p2.1.1.2.1,())) fun SZ=>br (!SZ.1.1) (some ((false,()),())) y0) y0);qd (E6 D (p2.1.1.1,p2.1.1.2.1,()) p2.1.2.1) fun p6=>qd (Ld D a0) fun p4=>br (!decide (p3.1.2.1=p5.1.2.1)) (some ((false,()),())) (qd (w7 D (p3.1.1.1,p3.1.1.2.1,()) (p5.1.1.1,p5.1.1.2.1,())) fun S6=>br (bif !S6.1.1 then true else !decide (p0.1.2.1=p6.1.2.1)) (some ((false,()),())) (qd (w7 D (p0.1.1.1,p0.1.1.2.1,()) (p6.1.1.1,p6.1.1.2.1,())) fun HB=>br (!HB.1.1) (some ((false,()),())) (qd (qz D (p4.1.1.1,p4.1.1.2.1,())) fun HC=>qd (zn D (p4.1.1.1,p4.1.1.2.1,())) fun HD=>br (!decide (HC.1.1=HD.1.1)) (some ((false,()),())) (qd (E5 D) fun p7=>qd (qz D (p7.1.1.1,p7.1.1.2.1,())) fun SQ=>br (!SQ.1.1) (some ((false,()),())) (qd (E5 D) fun p8=>qd (E7 D) fun p9=>qd (w7 D (p8.1.1.1,p8.1.1.2.1,()) (p9.1.1.1,p9.1.1.2.1,())) fun SR=>br (!SR.1.1) (some ((false,()),())) (br p0.1.2.1 (qd (qz D (p0.1.1.1,p0.1.1.2.1,())) fun SS=>br (!SS.1.1) (some ((false,()),())) (qd (x_ D (p0.1.1.1,p0.1.1.2.1,())) fun SU=>qd (DJ D SU.1.1 p2.1.2.1) fun SW=>br SW.1.1 (some ((false,()),())) (qd (x_ D (p0.1.1.1,p0.1.1.2.1,())) fun SX=>qd (x_ D (p2.1.1.1,p2.1.1.2.1,())) fun SY=>br ((SX.1.1.length:Int) != wrap .i64 ((SY.1.1.length:Int)-1)) (some ((false,()),())) y1))) y1)))))))
def MA(D:DX)(n:Nat)(a0:List Int):Option az:=MS D n (Ln D n) a0
def Md(x0:ByteArray)(x1:Int)(x2:aq)(x3 x4:List ByteArray):St:=cF 164 [(4,AV.val Ty.str x0),(5,AV.addr 5 []),(16,AV.bu 16 [] 0),(17,AV.bu 17 [] 0),(18,AV.val bf x1)] [(5,aB.mk bC fF x2 true),(16,aB.mk gR cA x3 false),(17,aB.mk gR cA x4 false)]
def O8(a:Bool)(b:ByteArray)(c:aq)(d e:List ByteArray):St:=cF 164 [(2,AV.val Ty.bool a),(4,AV.val Ty.str b),(5,AV.addr 5 []),(16,AV.bu 16 [] 0),(17,AV.bu 17 [] 0)] [(5,aB.mk bC fF c true),(16,aB.mk gR cA d false),(17,aB.mk gR cA e false)]
def O9(a:ByteArray)(b:aq)(c d:List ByteArray):St:=cF 164 [(4,AV.val Ty.str a),(5,AV.addr 5 []),(16,AV.bu 16 [] 0),(17,AV.bu 17 [] 0)] [(5,aB.mk bC fF b true),(16,aB.mk gR cA c false),(17,aB.mk gR cA d false)]
theorem TP(D:DX)(n:Nat)(K:KT 3):∀(m:Nat)(x0:ByteArray)(x1:Int)(x2:aq)(x3 x4:List ByteArray),LF D n 3 AP m (Md x0 x1 x2 x3 x4) K=Dk D n (fun a b c d e=>K (Ex.ret) (O8 a b c d e)) (fun f g h i=>K (Ex.exit 0) (O9 f g h i)) m x0 x1 x2 x3 x4:=u_ (fun F=>Me D n F (fun a b c d e=>K (Ex.ret) (O8 a b c d e)) (fun f g h i=>K (Ex.exit 0) (O9 f g h i)))
theorem TH(D:DX)(n:Nat)(x0)(x1)(x2)(x3)(x4):LF D n 3 AP n (Md x0 x1 x2 x3 x4) (CF D n 3 [] AP (lF 3))=Ln D n x0 x1 x2 x3 x4 :=by rw[TP];kernel_rfl
theorem UP(D:DX)(n:Nat)(a0:List Int):rF D n 3 (a0,())=MA D n a0:=by
 have h:rF D n 3 (a0,())=MS D n (fun x0 x1 x2 x3 x4=>LF D n 3 AP n (Md x0 x1 x2 x3 x4) (CF D n 3 [] AP (lF 3))) a0:=by kernel_rfl
 rw[h];simp only[TH];rfl
def Is(D:DX)(n:Nat)(a0:List Int):Option az:=some ((decide ((a0.length:Int)>1048576),()),())
def Cm(D:DX)(n:Nat)(a0:List Int):Option az:=Is D n a0
theorem Il(D:DX)(n:Nat)(a0:List Int):rF D n 4 (a0,())=Cm D n a0:=by kernel_rfl
def OT(D:DX)(n:Nat)(a0:List Int):Option zF:=qd (A0 D a0) fun b=>qd (Dp D b.1.1) fun b=>qd (zl D b.2.1) fun b_1=>some (((b.1.1.1,b.1.1.2.1,()),b_1.1.1,()),())
def K9(D:DX)(n:Nat)(a0:List Int):Option zF:=OT D n a0
theorem Tl(D:DX)(n:Nat)(a0:List Int):rF D n 5 (a0,())=K9 D n a0:=by kernel_rfl
def EW(D:DX)(n:Nat)(go:ByteArray->Int->Int->Int->aq->aq->List Int->dG->Option dS)(K0:ByteArray->Int->aq->aq->List Int->dG->Option dS)(x0:ByteArray)(x1 x2 x3:Int)(x4 x5:aq)(x6:List Int)(x7:dG):Option dS:=br (decide (x3<x2)) (br (decide (0<=x3)&&decide (x3<(x6.length:Int))) (qd (zk D (x4.1,x4.2.1,()) (List.getD x6 x3.toNat 0) x3) fun p0=>br (decide (x7.2.1.length+1<=gj)) (go x0 x1 x2 (wrap .i64 (x3+1)) x4 x5 x6 (x7.1,x7.2.1++[p0.1.1],x7.2.2)) none) none) (K0 x0 x1 x4 x5 x6 x7)
def xj(D:DX)(n:Nat)(K0:ByteArray->Int->aq->aq->List Int->dG->Option dS):Nat->ByteArray->Int->Int->Int->aq->aq->(List Int)->dG->Option dS | 0=>(fun x0 x1 x2 x3 x4 x5 x6 x7=>none) | m+1=>(fun x0 x1 x2 x3 x4 x5 x6 x7=>EW D n (xj D n K0 m) K0 x0 x1 x2 x3 x4 x5 x6 x7)
def EX(D:DX)(n:Nat)(go:Int->Int->Int->aq->aq->List Int->Option dS)(K0:aq->aq->Option dS)(d e a:Int)(f g:aq)(c:List Int):Option dS:=br (decide (a<e)) (br (decide (0<=a)&&decide (a<(c.length:Int))) (qd (Lt D f (List.getD c a.toNat 0) a d) fun b=>go d e (wrap .i64 (a+1)) b.2.1 g c) none) (K0 f g)
def zh(D:DX)(n:Nat)(K0:aq->aq->Option dS):Nat->Int->Int->Int->aq->aq->(List Int)->Option dS | 0=>(fun a b c d e f=>none) | m+1=>(fun a b c d e f=>EX D n (zh D n K0 m) K0 a b c d e f)
def O6(D:DX)(n:Nat)(a b:aq):Option dS:=some (((a.1,a.2.1,()),true,()),())
def Dv(D:DX)(n:Nat):(Int)->(Int)->(Int)->aq->aq->(List Int)->Option dS:=(fun a d e f g h=>zh D n (fun b c=>O6 D n b c) n a d e f g h)
def BN(D:DX)(n:Nat)(uI:Int->Int->Int->aq->aq->List Int->Option dS)(d:ByteArray)(e:Int)(a f:aq)(g:List Int)(c:dG):Option dS:=br (decide (a.2.1.length+1<=gj)) (qd (ze D d) fun b=>uI e b.1.1 0 (a.1,a.2.1++[(c.1,c.2.1,())],a.2.2) f g) none
def Lj(D:DX)(n:Nat):(ByteArray)->(Int)->(Int)->(Int)->aq->aq->(List Int)->dG->Option dS:=(fun x0 x1 x2 x3 x4 x5 x6 x7=>xj D n (fun a b c d e f=>BN D n (Dv D n) a b c d e f) n x0 x1 x2 x3 x4 x5 x6 x7)
def MN(D:DX)(n:Nat)(eY:ByteArray->Int->Int->Int->aq->aq->List Int->dG->Option dS)(a0:aq)(a1:ByteArray):Option dS:=qd (ER D a0) fun p0=>qd (qz D (p0.1.1.1,p0.1.1.2.1,())) fun p3=>br (bif bif !p3.1.1 then true else decide ((↑(ByteArray.size a1):Int)>40) then true else decide ((p0.1.1.2.1.length:Int)=40)) (some (((p0.1.1.1,p0.1.1.2.1,()),false,()),())) (qd (Fq D (p0.1.1.1,p0.1.1.2.1,()) a1) fun p2=>let y0:Option dS:=(qd (ze D a1) fun p4=>eY a1 (p0.1.1.2.1.length:Int) p4.1.1 0 (p0.1.1.1,p0.1.1.2.1,()) ([],[],()) p2.1.1 (a1,[],()));br (decide (0<=0)&&decide (0<(p2.1.1.length:Int))) (qd (zk D (p0.1.1.1,p0.1.1.2.1,()) (List.getD p2.1.1 0 0) 0) fun p1=>br (p1.1.1 != -1) (br (decide (0<=p1.1.1)&&decide (p1.1.1<(p0.1.1.2.1.length:Int))) (br (List.beq (ByteArray.toList (List.getD p0.1.1.2.1 p1.1.1.toNat (ByteArray.empty,[],())).1) (ByteArray.toList a1)) (some (((p0.1.1.1,p0.1.1.2.1,()),false,()),())) y0) none) y0) none)
def Mz(D:DX)(n:Nat)(a0:aq)(a1:ByteArray):Option dS:=MN D n (Lj D n) a0 a1
def L9(x0:ByteArray)(x1 x2 x3:Int)(x4 x5:aq)(x6:List Int)(x7:dG):St:=cF 97 [(1,AV.val Ty.str x0),(2,AV.addr 2 []),(4,AV.addr 4 []),(6,AV.bu 6 [] 0),(9,AV.val bf x1),(10,AV.addr 10 []),(60,AV.val bf x2),(61,AV.val bf x3)] [(2,aB.mk bC fF x4 true),(4,aB.mk bC fF x5 true),(6,aB.mk dZ cA x6 false),(10,aB.mk Eh Hx x7 true)]
def KX(a:ByteArray)(b:Int)(c d:aq)(e:List Int)(f:dG):St:=cF 97 [(1,AV.val Ty.str a),(2,AV.addr 2 []),(4,AV.addr 4 []),(6,AV.bu 6 [] 0),(9,AV.val bf b),(10,AV.addr 10 [])] [(2,aB.mk bC fF c true),(4,aB.mk bC fF d true),(6,aB.mk dZ cA e false),(10,aB.mk Eh Hx f true)]
def L_(a b c:Int)(d e:aq)(f:List Int):St:=cF 97 [(2,AV.addr 2 []),(4,AV.addr 4 []),(6,AV.bu 6 [] 0),(9,AV.val bf a),(84,AV.val bf b),(85,AV.val bf c)] [(2,aB.mk bC fF d true),(4,aB.mk bC fF e true),(6,aB.mk dZ cA f false)]
def O5(a b:aq):St:=cF 97 [(2,AV.addr 2 []),(4,AV.addr 4 [])] [(2,aB.mk bC fF a true),(4,aB.mk bC fF b true)]
theorem T6(D:DX)(n:Nat)(K:KT 6):∀(m:Nat)(x0:ByteArray)(x1 x2 x3:Int)(x4 x5:aq)(x6:List Int)(x7:dG),LF D n 6 yY m (L9 x0 x1 x2 x3 x4 x5 x6 x7) K=xj D n (fun a b c d e f=>K (Ex.exit 0) (KX a b c d e f)) m x0 x1 x2 x3 x4 x5 x6 x7:=N9 (fun F=>EW D n F (fun a b c d e f=>K (Ex.exit 0) (KX a b c d e f)))
theorem T7(D:DX)(n:Nat)(K:KT 6):∀(m:Nat)(c d e:Int)(f g:aq)(h:List Int),LF D n 6 AQ m (L_ c d e f g h) K=zh D n (fun a b=>K (Ex.exit 2) (O5 a b)) m c d e f g h:=zN (fun F=>EX D n F (fun a b=>K (Ex.exit 2) (O5 a b)))
theorem TE(D:DX)(n:Nat)(a b c:Int)(d e:aq)(f:List Int):LF D n 6 AQ n (L_ a b c d e f) (CF D n 6 [] AQ (lF 6))=Dv D n a b c d e f :=by rw[T7];kernel_rfl
theorem TF(D:DX)(n:Nat)(a:ByteArray)(b:Int)(c d:aq)(e:List Int)(f:dG):(CF D n 6 [] yY (lF 6)) (Ex.exit 0) (KX a b c d e f)=BN D n (fun g h i j k l=>LF D n 6 AQ n (L_ g h i j k l) (CF D n 6 [] AQ (lF 6))) a b c d e f:=by kernel_rfl
theorem TD(D:DX)(n:Nat)(x0)(x1)(x2)(x3)(x4)(x5)(x6)(x7):LF D n 6 yY n (L9 x0 x1 x2 x3 x4 x5 x6 x7) (CF D n 6 [] yY (lF 6))=Lj D n x0 x1 x2 x3 x4 x5 x6 x7:=by rw[T6];simp only[TF,TE];rfl
theorem UO(D:DX)(n:Nat)(a0:aq)(a1:ByteArray):rF D n 6 (a0,(a1,()))=Mz D n a0 a1:=by
 have h:rF D n 6 (a0,(a1,()))=MN D n (fun x0 x1 x2 x3 x4 x5 x6 x7=>LF D n 6 yY n (L9 x0 x1 x2 x3 x4 x5 x6 x7) (CF D n 6 [] yY (lF 6))) a0 a1:=by kernel_rfl
 rw[h];simp only[TD];rfl
def E4(D:DX)(n:Nat)(go:ByteArray->Int->Int->aq->aq->aq->aq->Option dS)(K0:aq->aq->aq->Option dS)(x0:ByteArray)(x1 x2:Int)(x3 x4 x5 x6:aq):Option dS:=qd (zf D x0) fun p3=>br (decide (x2<p3.1.1)) (qd (EY D x3 x2 x0) fun p0=>qd (L5 D (x6.1,x6.2.1,()) p0.1.1 x2) fun p4=>qd (DL D (x6.1,x6.2.1,()) x1 x2 p4.1.1) fun p1=>qd (DL D (p1.2.1.1,p1.2.1.2.1,()) p0.1.1 x2 x1) fun p2=>go x0 x1 (wrap .i64 (x2+1)) x3 x4 x5 (p2.2.1.1,p2.2.1.2.1,x6.2.2)) (K0 x4 x5 x6)
def zj(D:DX)(n:Nat)(K0:aq->aq->aq->Option dS):Nat->ByteArray->Int->Int->aq->aq->aq->aq->Option dS | 0=>(fun x0 x1 x2 x3 x4 x5 x6=>none) | m+1=>(fun x0 x1 x2 x3 x4 x5 x6=>E4 D n (zj D n K0 m) K0 x0 x1 x2 x3 x4 x5 x6)
def Lp(D:DX)(n:Nat)(d c a:aq):Option dS:=qd (zn D (a.1,a.2.1,())) fun b=>br (!b.1.1) (some (((c.1,c.2.1,()),false,()),())) (some (((a.1,a.2.1,()),true,()),()))
def LS(D:DX)(n:Nat):(ByteArray)->(Int)->(Int)->aq->aq->aq->aq->Option dS:=(fun x0 x1 x2 x3 x4 x5 x6=>zj D n (fun a b c=>Lp D n a b c) n x0 x1 x2 x3 x4 x5 x6)
def MW(D:DX)(n:Nat)(eY:ByteArray->Int->Int->aq->aq->aq->aq->Option dS)(a0:aq)(a1:ByteArray):Option dS:=qd (zm D a0) fun p0=>qd (zn D a0) fun p3=>br (!p3.1.1) (some (((p0.1.1.1,p0.1.1.2.1,()),false,()),())) (qd (DK D a0 a1) fun p4=>br (bif decide (p4.1.1>=0) then true else decide ((↑(ByteArray.size a1):Int)>40)) (some (((p0.1.1.1,p0.1.1.2.1,()),false,()),())) (qd (zm D a0) fun p2=>qd (zf D a1) fun p1=>br (decide (0<=p1.1.1)&&decide (p1.1.1<=p1.1.1)&&decide (p1.1.1<=(↑gj:Int))) (br (decide (p2.1.1.2.1.length+1<=gj)) (eY a1 (p2.1.1.2.1.length:Int) 0 a0 ([],[],()) (p0.1.1.1,p0.1.1.2.1,()) (p2.1.1.1,p2.1.1.2.1++[(a1,List.replicate p1.1.1.toNat 0,())],())) none) none))
def MC(D:DX)(n:Nat)(a0:aq)(a1:ByteArray):Option dS:=MW D n (LS D n) a0 a1
def Mm(x0:ByteArray)(x1 x2:Int)(x3 x4 x5 x6:aq):St:=cF 71 [(1,AV.val Ty.str x0),(2,AV.addr 2 []),(4,AV.addr 4 []),(6,AV.addr 6 []),(7,AV.addr 7 []),(8,AV.val bf x1),(9,AV.val bf x2)] [(2,aB.mk bC Mk.no x3 true),(4,aB.mk bC fF x4 true),(6,aB.mk bC fF x5 true),(7,aB.mk bC fF x6 true)]
def Pn(a b c:aq):St:=cF 71 [(4,AV.addr 4 []),(6,AV.addr 6 []),(7,AV.addr 7 [])] [(4,aB.mk bC fF a true),(6,aB.mk bC fF b true),(7,aB.mk bC fF c true)]
theorem Ul(D:DX)(n:Nat)(K:KT 7):∀(m:Nat)(x0:ByteArray)(x1 x2:Int)(x3 x4 x5 x6:aq),LF D n 7 rq m (Mm x0 x1 x2 x3 x4 x5 x6) K=zj D n (fun a b c=>K (Ex.exit 0) (Pn a b c)) m x0 x1 x2 x3 x4 x5 x6:=FZ (fun F=>E4 D n F (fun a b c=>K (Ex.exit 0) (Pn a b c)))
theorem TM(D:DX)(n:Nat)(x0)(x1)(x2)(x3)(x4)(x5)(x6):LF D n 7 rq n (Mm x0 x1 x2 x3 x4 x5 x6) (CF D n 7 [] rq (lF 7))=LS D n x0 x1 x2 x3 x4 x5 x6 :=by rw[Ul];kernel_rfl
theorem US(D:DX)(n:Nat)(a0:aq)(a1:ByteArray):rF D n 7 (a0,(a1,()))=MC D n a0 a1:=by
 have h:rF D n 7 (a0,(a1,()))=MW D n (fun x0 x1 x2 x3 x4 x5 x6=>LF D n 7 rq n (Mm x0 x1 x2 x3 x4 x5 x6) (CF D n 7 [] rq (lF 7))) a0 a1:=by kernel_rfl
 rw[h];simp only[TM];rfl
def OR(D:DX)(n:Nat)(a0:List Int):Option zF:=qd (A0 D a0) fun b=>qd (Dp D b.1.1) fun b=>qd (zl D b.2.1) fun b_1=>some (((b.1.1.1,b.1.1.2.1,()),b_1.1.1,()),())
def K8(D:DX)(n:Nat)(a0:List Int):Option zF:=OR D n a0
theorem Tk(D:DX)(n:Nat)(a0:List Int):rF D n 8 (a0,())=K8 D n a0:=by kernel_rfl
def ET(D:DX)(n:Nat)(go:Int->Nat->Int->Int->aq->aq->List Int->Option dS)(K0:Int->aq->aq->Option dS)(x0:Int)(x1:Nat)(x2 x3:Int)(x4 x5:aq)(x6:List Int):Option dS:=let y2:=Int.toNat (List.getD x6 x3.toNat 0);let y0:=List.getD x4.2.1 y2 (ByteArray.empty,[],());let y1:=List.getD x4.2.1 x1 (ByteArray.empty,[],());br (decide (x3<x2)) (br (decide (0<=x3)&&decide (x3<(y1.2.1.length:Int))) (br (decide (0<=x3)&&decide (x3<(x6.length:Int))) (br (decide (List.getD x6 x3.toNat 0 = -1)) (br (decide (0<=x3)&&decide (x3<(x4.1.length:Int))) (go x0 x1 x2 (wrap .i64 (x3+1)) (List.set x4.1 x3.toNat (List.getD y1.2.1 x3.toNat 0),x4.2) x5 x6) none) (br (decide (0<=List.getD x6 x3.toNat 0)&&decide (List.getD x6 x3.toNat 0<(x4.2.1.length:Int))) (br (decide (0<=x3)&&decide (x3<(y0.2.1.length:Int))) (go x0 x1 x2 (wrap .i64 (x3+1)) (x4.1,List.set x4.2.1 y2 (y0.1,List.set y0.2.1 x3.toNat (List.getD y1.2.1 x3.toNat 0),y0.2.2),x4.2.2) x5 x6) none) none)) none) none) (K0 x0 x4 x5)
def zg(D:DX)(n:Nat)(K0:Int->aq->aq->Option dS):Nat->Int->Nat->Int->Int->aq->aq->(List Int)->Option dS | 0=>(fun x0 x1 x2 x3 x4 x5 x6=>none) | m+1=>(fun x0 x1 x2 x3 x4 x5 x6=>ET D n (zg D n K0 m) K0 x0 x1 x2 x3 x4 x5 x6)
def KW(D:DX)(n:Nat)(a:Int)(b c:aq):Option dS:=br (decide (0<=a)&&decide (a<(b.2.1.length:Int))) (some (((b.1,List.set b.2.1 a.toNat ((List.getD b.2.1 a.toNat (ByteArray.empty,[],())).1,[],(List.getD b.2.1 a.toNat (ByteArray.empty,[],())).2.2),()),true,()),())) none
def Lg(D:DX)(n:Nat):(Int)->(Nat)->(Int)->(Int)->aq->aq->(List Int)->Option dS:=(fun x0 x1 x2 x3 x4 x5 x6=>zg D n (fun a b c=>KW D n a b c) n x0 x1 x2 x3 x4 x5 x6)
def MI(D:DX)(n:Nat)(eY:Int->Nat->Int->Int->aq->aq->List Int->Option dS)(a0:aq)(a1:ByteArray):Option dS:=qd (ER D a0) fun p0=>qd (qz D (p0.1.1.1,p0.1.1.2.1,())) fun p3=>br (bif !p3.1.1 then true else decide ((↑(ByteArray.size a1):Int)>40)) (some (((p0.1.1.1,p0.1.1.2.1,()),false,()),())) (qd (Fq D (p0.1.1.1,p0.1.1.2.1,()) a1) fun p2=>br (decide (0<=0)&&decide (0<(p2.1.1.length:Int))) (qd (zk D (p0.1.1.1,p0.1.1.2.1,()) (List.getD p2.1.1 0 0) 0) fun p1=>let y0:=List.getD p0.1.1.2.1 p1.1.1.toNat (ByteArray.empty,[],());br (decide (p1.1.1 = -1)) (some (((p0.1.1.1,p0.1.1.2.1,()),false,()),())) (br (decide (0<=p1.1.1)&&decide (p1.1.1<(p0.1.1.2.1.length:Int))) (br (!List.beq (ByteArray.toList y0.1) (ByteArray.toList a1)) (some (((p0.1.1.1,p0.1.1.2.1,()),false,()),())) (br (decide (0<=p1.1.1)&&decide (p1.1.1<(p0.1.1.2.1.length:Int))) (eY p1.1.1 p1.1.1.toNat (y0.2.1.length:Int) 0 (p0.1.1.1,p0.1.1.2.1,()) ([],[],()) p2.1.1) none)) none)) none)
def My(D:DX)(n:Nat)(a0:aq)(a1:ByteArray):Option dS:=MI D n (Lg D n) a0 a1
def L7(x0:Int)(x1:Nat)(x2 x3:Int)(x4 x5:aq)(x6:List Int):St:=cF 72 [(2,AV.addr 2 []),(4,AV.addr 4 []),(6,AV.bu 6 [] 0),(8,AV.val bf x0),(51,AV.bu 2 [iP.snd,iP.fst,iP.idx x1 0,iP.snd,iP.fst] 0),(52,AV.val bf x2),(53,AV.val bf x3)] [(2,aB.mk bC fF x4 true),(4,aB.mk bC fF x5 true),(6,aB.mk dZ cA x6 false)]
def Pd(a:Int)(b c:aq):St:=cF 72 [(2,AV.addr 2 []),(4,AV.addr 4 []),(8,AV.val bf a)] [(2,aB.mk bC fF b true),(4,aB.mk bC fF c true)]
theorem TW(D:DX)(n:Nat)(K:KT 9):∀(m:Nat)(x0:Int)(x1:Nat)(x2 x3:Int)(x4 x5:aq)(x6:List Int),LF D n 9 rq m (L7 x0 x1 x2 x3 x4 x5 x6) K=zg D n (fun a b c=>K (Ex.exit 0) (Pd a b c)) m x0 x1 x2 x3 x4 x5 x6:=FZ (fun F=>ET D n F (fun a b c=>K (Ex.exit 0) (Pd a b c)))
theorem TC(D:DX)(n:Nat)(x0)(x1)(x2)(x3)(x4)(x5)(x6):LF D n 9 rq n (L7 x0 x1 x2 x3 x4 x5 x6) (CF D n 9 [] rq (lF 9))=Lg D n x0 x1 x2 x3 x4 x5 x6 :=by rw[TW];kernel_rfl
theorem UM(D:DX)(n:Nat)(a0:aq)(a1:ByteArray):rF D n 9 (a0,(a1,()))=My D n a0 a1:=by
 have h:rF D n 9 (a0,(a1,()))=MI D n (fun x0 x1 x2 x3 x4 x5 x6=>LF D n 9 rq n (L7 x0 x1 x2 x3 x4 x5 x6) (CF D n 9 [] rq (lF 9))) a0 a1:=by kernel_rfl
 rw[h];simp only[TC];rfl
def E2(D:DX)(n:Nat)(go:ByteArray->Int->Int->aq->aq->aq->Option dS)(K0:Int->aq->aq->Option dS)(x0:ByteArray)(x1 x2:Int)(x3 x4 x5:aq):Option dS:=let y0:=List.getD x3.2.1 x1.toNat (ByteArray.empty,[],());qd (zf D x0) fun p1=>br (decide (x2<p1.1.1)) (qd (EY D x3 x2 x0) fun p2=>br (decide (0<=x1)&&decide (x1<(x3.2.1.length:Int))) (br (decide (0<=x2)&&decide (x2<(y0.2.1.length:Int))) (qd (DL D (x5.1,x5.2.1,()) p2.1.1 x2 (List.getD y0.2.1 x2.toNat 0)) fun p0=>go x0 x1 (wrap .i64 (x2+1)) x3 x4 (p0.2.1.1,p0.2.1.2.1,x5.2.2)) none) none) (K0 x1 x4 x5)
def zi(D:DX)(n:Nat)(K0:Int->aq->aq->Option dS):Nat->ByteArray->Int->Int->aq->aq->aq->Option dS | 0=>(fun x0 x1 x2 x3 x4 x5=>none) | m+1=>(fun x0 x1 x2 x3 x4 x5=>E2 D n (zi D n K0 m) K0 x0 x1 x2 x3 x4 x5)
def K5(D:DX)(n:Nat)(a:Int)(c b:aq):Option dS:=br (decide (0<=a)&&decide (a<(b.2.1.length:Int))) (some (((b.1,List.set b.2.1 a.toNat ((List.getD b.2.1 a.toNat (ByteArray.empty,[],())).1,[],(List.getD b.2.1 a.toNat (ByteArray.empty,[],())).2.2),()),true,()),())) none
def LM(D:DX)(n:Nat):(ByteArray)->(Int)->(Int)->aq->aq->aq->Option dS:=(fun x0 x1 x2 x3 x4 x5=>zi D n (fun a b c=>K5 D n a b c) n x0 x1 x2 x3 x4 x5)
def Ms(D:DX)(n:Nat)(eY:ByteArray->Int->Int->aq->aq->aq->Option dS)(a0:aq)(a1:ByteArray):Option dS:=let y0:Option dS:=(qd (zm D a0) fun p0=>some (((p0.1.1.1,p0.1.1.2.1,()),false,()),()));qd (zn D a0) fun p2=>br (!p2.1.1) y0 (qd (DK D a0 a1) fun p3=>br (decide (p3.1.1<0)) y0 (qd (zm D a0) fun p1=>qd (DK D a0 a1) fun p4=>eY a1 p4.1.1 0 a0 ([],[],()) (p1.1.1.1,p1.1.1.2.1,())))
def MB(D:DX)(n:Nat)(a0:aq)(a1:ByteArray):Option dS:=Ms D n (LM D n) a0 a1
def Mj(x0:ByteArray)(x1 x2:Int)(x3 x4 x5:aq):St:=cF 54 [(1,AV.val Ty.str x0),(2,AV.addr 2 []),(4,AV.addr 4 []),(6,AV.addr 6 []),(7,AV.val bf x1),(8,AV.val bf x2)] [(2,aB.mk bC Mk.no x3 true),(4,aB.mk bC fF x4 true),(6,aB.mk bC fF x5 true)]
def Pm(a:Int)(b c:aq):St:=cF 54 [(4,AV.addr 4 []),(6,AV.addr 6 []),(7,AV.val bf a)] [(4,aB.mk bC fF b true),(6,aB.mk bC fF c true)]
theorem Uf(D:DX)(n:Nat)(K:KT 10):∀(m:Nat)(x0:ByteArray)(x1 x2:Int)(x3 x4 x5:aq),LF D n 10 ia m (Mj x0 x1 x2 x3 x4 x5) K=zi D n (fun a b c=>K (Ex.exit 0) (Pm a b c)) m x0 x1 x2 x3 x4 x5:=zN (fun F=>E2 D n F (fun a b c=>K (Ex.exit 0) (Pm a b c)))
theorem TL(D:DX)(n:Nat)(x0)(x1)(x2)(x3)(x4)(x5):LF D n 10 ia n (Mj x0 x1 x2 x3 x4 x5) (CF D n 10 [] ia (lF 10))=LM D n x0 x1 x2 x3 x4 x5 :=by rw[Uf];kernel_rfl
theorem UQ(D:DX)(n:Nat)(a0:aq)(a1:ByteArray):rF D n 10 (a0,(a1,()))=MB D n a0 a1:=by
 have h:rF D n 10 (a0,(a1,()))=Ms D n (fun x0 x1 x2 x3 x4 x5=>LF D n 10 ia n (Mj x0 x1 x2 x3 x4 x5) (CF D n 10 [] ia (lF 10))) a0 a1:=by kernel_rfl
 rw[h];simp only[TL];rfl
def Pa(D:DX)(n:Nat)(a0:List Int):Option gr:=qd (A0 D a0) fun b=>qd (Dp D b.1.1) fun b=>some (((b.1.1.1,b.1.1.2.1,()),()),())
def Lf(D:DX)(n:Nat)(a0:List Int):Option gr:=Pa D n a0
theorem Tu(D:DX)(n:Nat)(a0:List Int):rF D n 11 (a0,())=Lf D n a0:=by kernel_rfl
def LI(D:DX)(n:Nat)(go:Int->aq->aq->Option az)(K0:Bool->Option az)(K1:Option az)(x0:Int)(x1 x2:aq):Option az:=let y0:=List.getD x1.2.1 x0.toNat (ByteArray.empty,[],());let y1:=List.getD x2.2.1 x0.toNat (ByteArray.empty,[],());br (decide (x0<(x1.2.1.length:Int))) (br (decide (0<=x0)&&decide (x0<(x1.2.1.length:Int))) (br (decide (0<=x0)&&decide (x0<(x2.2.1.length:Int))) (br (!List.beq (ByteArray.toList y0.1) (ByteArray.toList y1.1)) (K0 false) (br (decide (0<=x0)&&decide (x0<(x1.2.1.length:Int))) (br (decide (0<=x0)&&decide (x0<(x2.2.1.length:Int))) (qd (ES D y0.2.1 y1.2.1) fun p0=>br (!p0.1.1) (K0 false) (go (wrap .i64 (x0+1)) x1 x2)) none) none)) none) none) K1
def Dz(D:DX)(n:Nat)(K0:Bool->Option az)(K1:Option az):Nat->Int->aq->aq->Option az | 0=>(fun x0 x1 x2=>none) | m+1=>(fun x0 x1 x2=>LI D n (Dz D n K0 K1 m) K0 K1 x0 x1 x2)
def O3(D:DX)(n:Nat)(a:Bool):Option az:=some ((a,()),())
def O4(D:DX)(n:Nat):Option az:=some ((true,()),())
def K3(D:DX)(n:Nat):(Int)->aq->aq->Option az:=(fun x0 x1 x2=>Dz D n (fun a=>O3 D n a) (O4 D n) n x0 x1 x2)
def Mg(D:DX)(n:Nat)(eY:Int->aq->aq->Option az)(a0 a1:aq):Option az:=qd (ES D a0.1 a1.1) fun b=>br (bif !b.1.1 then true else (a0.2.1.length:Int) != (a1.2.1.length:Int)) (some ((false,()),())) (eY 0 a0 a1)
def Lz(D:DX)(n:Nat)(a0 a1:aq):Option az:=Mg D n (K3 D n) a0 a1
def LH(x0:Int)(x1 x2:aq):St:=cF 57 [(2,AV.addr 2 []),(3,AV.addr 3 []),(5,AV.val bf x0)] [(2,aB.mk bC Mk.no x1 true),(3,aB.mk bC Mk.no x2 true)]
def O1(a:Bool):St:=cF 57 [(4,AV.val Ty.bool a)] []
def O2:St:=cF 57 [] []
theorem TJ(D:DX)(n:Nat)(K:KT 12):∀(m:Nat)(x0:Int)(x1 x2:aq),LF D n 12 dO m (LH x0 x1 x2) K=Dz D n (fun a=>K (Ex.ret) (O1 a)) (K (Ex.exit 0) (O2)) m x0 x1 x2:=yL (fun F=>LI D n F (fun a=>K (Ex.ret) (O1 a)) (K (Ex.exit 0) (O2)))
theorem Tf(D:DX)(n:Nat)(x0)(x1)(x2):LF D n 12 dO n (LH x0 x1 x2) (CF D n 12 [] dO (lF 12))=K3 D n x0 x1 x2 :=by rw[TJ];kernel_rfl
theorem Ut(D:DX)(n:Nat)(a0 a1:aq):rF D n 12 (a0,(a1,()))=Lz D n a0 a1:=by
 have h:rF D n 12 (a0,(a1,()))=Mg D n (fun x0 x1 x2=>LF D n 12 dO n (LH x0 x1 x2) (CF D n 12 [] dO (lF 12))) a0 a1:=by kernel_rfl
 rw[h];simp only[Tf];rfl
def ML(D:DX)(n:Nat)(go:Int->Int->Int->aq->List Int->List Int->Option az)(K0:Int->aq->List Int->Option az)(d e a:Int)(f:aq)(c b:List Int):Option az:=let y0:=Int.toNat (List.getD b a.toNat 0);br (decide (a<e)) (br (decide (0<=a)&&decide (a<(b.length:Int))) (br (decide (0<=List.getD b a.toNat 0)&&decide (List.getD b a.toNat 0<(c.length:Int))) (br (decide (0<=List.getD b a.toNat 0)&&decide (List.getD b a.toNat 0<(c.length:Int))) (go d e (wrap .i64 (a+1)) f (List.set c y0 (wrap .i64 (List.getD c y0 0+1))) b) none) none) none) (K0 d f c)
def DB(D:DX)(n:Nat)(K0:Int->aq->List Int->Option az):Nat->Int->Int->Int->aq->(List Int)->(List Int)->Option az | 0=>(fun a b c d e f=>none) | m+1=>(fun a b c d e f=>ML D n (DB D n K0 m) K0 a b c d e f)
def Li(D:DX)(n:Nat)(go:Int->aq->List Int->Option az)(K0:Bool->aq->List Int->Option az)(K1:aq->List Int->Option az)(a:Int)(b:aq)(c:List Int):Option az:=go (wrap .i64 (a+1)) b c
def EU(D:DX)(n:Nat)(go:Int->aq->List Int->Option az)(K0:Bool->aq->List Int->Option az)(K1:aq->List Int->Option az):(Int)->(Int)->(Int)->aq->(List Int)->(List Int)->Option az:=(fun a e f g h i=>DB D n (fun b c d=>Li D n go K0 K1 b c d) n a e f g h i)
def E9(D:DX)(n:Nat)(go:Int->aq->List Int->Option az)(K0:Bool->aq->List Int->Option az)(K1:aq->List Int->Option az)(uI:Int->Int->Int->aq->List Int->List Int->Option az)(x0:Int)(x1:aq)(x2:List Int):Option az:=br (decide (x0<4)) (qd (Fi D x1 x0) fun b=>br (!b.1.2.1) (K0 false x1 x2) (uI x0 (b.1.1.length:Int) 0 x1 x2 b.1.1)) (K1 x1 x2)
def qp(D:DX)(n:Nat)(K0:Bool->aq->List Int->Option az)(K1:aq->List Int->Option az):Nat->Int->aq->(List Int)->Option az | 0=>(fun x0 x1 x2=>none) | m+1=>(fun x0 x1 x2=>E9 D n (qp D n K0 K1 m) K0 K1 (EU D n (qp D n K0 K1 m) K0 K1) x0 x1 x2)
def Lh(D:DX)(n:Nat)(a:Bool)(b:aq)(c:List Int):Option az:=some ((a,()),())
def MM(D:DX)(n:Nat)(go:List dG->Int->Int->List Int->Option az)(K0:Bool->Option az)(K1:Option az)(c:List dG)(d a:Int)(b:List Int):Option az:=let y0:=List.getD c a.toNat (ByteArray.empty,[],());br (decide (a<d)) (br (decide (0<=a)&&decide (a<(c.length:Int))) (br (decide (0<=a)&&decide (a<(b.length:Int))) (br (decide (List.getD b a.toNat 0>0)) (qd (ze D y0.1) fun p0=>br ((y0.2.1.length:Int) != p0.1.1) (K0 false) (br (decide (0<=a)&&decide (a<(b.length:Int))) (br (List.getD b a.toNat 0 != (y0.2.1.length:Int)) (K0 false) (go c d (wrap .i64 (a+1)) b)) none)) (go c d (wrap .i64 (a+1)) b)) none) none) K1
def DC(D:DX)(n:Nat)(K0:Bool->Option az)(K1:Option az):Nat->(List dG)->Int->Int->(List Int)->Option az | 0=>(fun a b c d=>none) | m+1=>(fun a b c d=>MM D n (DC D n K0 K1 m) K0 K1 a b c d)
def Px(D:DX)(n:Nat)(a:Bool):Option az:=some ((a,()),())
def Py(D:DX)(n:Nat):Option az:=some ((true,()),())
def EV(D:DX)(n:Nat):(List dG)->(Int)->(Int)->(List Int)->Option az:=(fun a b d e=>DC D n (fun c=>Px D n c) (Py D n) n a b d e)
def EZ(D:DX)(n:Nat)(Hz:List dG->Int->Int->List Int->Option az)(a:aq)(b:List Int):Option az:=Hz a.2.1 (a.2.1.length:Int) 0 b
def L8(D:DX)(n:Nat):(Int)->aq->(List Int)->Option az:=(fun x0 x1 x2=>qp D n (fun a b c=>Lh D n a b c) (fun d e=>EZ D n (EV D n) d e) n x0 x1 x2)
def M_(D:DX)(n:Nat)(eY:Int->aq->List Int->Option az)(a0:aq):Option az:=br (bif (a0.1.length:Int) != 4 then true else decide ((a0.2.1.length:Int)>40)) (some ((false,()),())) (br (decide (0<=(a0.2.1.length:Int))&&decide ((a0.2.1.length:Int)<=(a0.2.1.length:Int))&&decide ((a0.2.1.length:Int)<=(↑gj:Int))) (eY 0 a0 (List.replicate (Int.toNat (a0.2.1.length:Int)) 0)) none)
def MU(D:DX)(n:Nat)(a0:aq):Option az:=M_ D n (L8 D n) a0
def yb(x0:Int)(x1:aq)(x2:List Int):St:=cF 83 [(1,AV.addr 1 []),(3,AV.bu 3 [] 0),(25,AV.val bf x0)] [(1,aB.mk bC Mk.no x1 true),(3,aB.mk dZ cA x2 false)]
def Dt(a:Bool)(b:aq)(c:List Int):St:=cF 83 [(1,AV.addr 1 []),(2,AV.val Ty.bool a),(3,AV.bu 3 [] 0)] [(1,aB.mk bC Mk.no b true),(3,aB.mk dZ cA c false)]
def Du(a:aq)(b:List Int):St:=cF 83 [(1,AV.addr 1 []),(3,AV.bu 3 [] 0)] [(1,aB.mk bC Mk.no a true),(3,aB.mk dZ cA b false)]
def MJ(a b c:Int)(d:aq)(e f:List Int):St:=cF 83 [(1,AV.addr 1 []),(3,AV.bu 3 [] 0),(25,AV.val bf a),(36,AV.bu 5 [] 0),(37,AV.val bf b),(38,AV.val bf c)] [(1,aB.mk bC Mk.no d true),(3,aB.mk dZ cA e false),(5,aB.mk dZ cA f false)]
def Pu(a:Int)(b:aq)(c:List Int):St:=cF 83 [(1,AV.addr 1 []),(3,AV.bu 3 [] 0),(25,AV.val bf a)] [(1,aB.mk bC Mk.no b true),(3,aB.mk dZ cA c false)]
def MK(a:List dG)(b c:Int)(d:List Int):St:=cF 83 [(3,AV.bu 3 [] 0),(51,AV.val FQ a),(52,AV.val bf b),(53,AV.val bf c)] [(3,aB.mk dZ cA d false)]
def Pv(a:Bool):St:=cF 83 [(2,AV.val Ty.bool a)] []
def Pw:St:=cF 83 [] []
theorem T_(D:DX)(n:Nat)(K:KT 13):∀(m:Nat)(d e f:Int)(g:aq)(h i:List Int),LF D n 13 HE m (MJ d e f g h i) K=DB D n (fun a b c=>K (Ex.exit 2) (Pu a b c)) m d e f g h i:=zN (fun F=>ML D n F (fun a b c=>K (Ex.exit 2) (Pu a b c)))
theorem TY(D:DX)(n:Nat)(m:Nat)(K:KT 13)(a b c:Int)(d:aq)(e f:List Int):LF D n 13 HE n (MJ a b c d e f) (CF D n 13 uJ [.r,.r,.l,.l,.r,.r,.r,.r,.l] (KF D n 13 fM m K))=EU D n (fun x0 x1 x2=>LF D n 13 fM m (yb x0 x1 x2) K) (fun g h i=>K (Ex.ret) (Dt g h i)) (fun j k=>K (Ex.exit 0) (Du j k)) a b c d e f :=by rw[T_];kernel_rfl
theorem Ub(D:DX)(n:Nat)(m:Nat)(K:KT 13)(x0)(x1)(x2):LF D n 13 fM (m+1) (yb x0 x1 x2) K=E9 D n (fun x0 x1 x2=>LF D n 13 fM m (yb x0 x1 x2) K) (fun a b c=>K (Ex.ret) (Dt a b c)) (fun d e=>K (Ex.exit 0) (Du d e)) (fun f g h i j k=>LF D n 13 HE n (MJ f g h i j k) (CF D n 13 uJ [.r,.r,.l,.l,.r,.r,.r,.r,.l] (KF D n 13 fM m K))) x0 x1 x2:=by kernel_rfl
theorem PT(D:DX)(n:Nat)(K:KT 13):∀(m:Nat)(x0:Int)(x1:aq)(x2:List Int),LF D n 13 fM m (yb x0 x1 x2) K=qp D n (fun a b c=>K (Ex.ret) (Dt a b c)) (fun d e=>K (Ex.exit 0) (Du d e)) m x0 x1 x2
 | 0,x0,x1,x2=>tI ..
 | m+1,x0,x1,x2=>by
  have ih:(fun x0 x1 x2=>LF D n 13 fM m (yb x0 x1 x2) K)=qp D n (fun a b c=>K (Ex.ret) (Dt a b c)) (fun d e=>K (Ex.exit 0) (Du d e)) m:=by funext x0 x1 x2;exact PT D n K m x0 x1 x2
  rw[Ub];simp only[TY];rw[ih];rfl
theorem Ua(D:DX)(n:Nat)(K:KT 13):∀(m:Nat)(b:List dG)(c d:Int)(e:List Int),LF D n 13 ia m (MK b c d e) K=DC D n (fun a=>K (Ex.ret) (Pv a)) (K (Ex.exit 4) (Pw)) m b c d e:=rT (fun F=>MM D n F (fun a=>K (Ex.ret) (Pv a)) (K (Ex.exit 4) (Pw)))
theorem TZ(D:DX)(n:Nat)(a:List dG)(b c:Int)(d:List Int):LF D n 13 ia n (MK a b c d) (CF D n 13 [] ia (lF 13))=EV D n a b c d :=by rw[Ua];kernel_rfl
theorem T4(D:DX)(n:Nat)(a:Bool)(b:aq)(c:List Int):(CF D n 13 [] fM (lF 13)) (Ex.ret) (Dt a b c)=Lh D n a b c:=by kernel_rfl
theorem T5(D:DX)(n:Nat)(a:aq)(b:List Int):(CF D n 13 [] fM (lF 13)) (Ex.exit 0) (Du a b)=EZ D n (fun c d e f=>LF D n 13 ia n (MK c d e f) (CF D n 13 [] ia (lF 13))) a b:=by kernel_rfl
theorem TX(D:DX)(n:Nat)(x0)(x1)(x2):LF D n 13 fM n (yb x0 x1 x2) (CF D n 13 [] fM (lF 13))=L8 D n x0 x1 x2:=by rw[PT];simp only[T4,T5,TZ];rfl
theorem Vk(D:DX)(n:Nat)(a0:aq):rF D n 13 (a0,())=MU D n a0:=by
 have h:rF D n 13 (a0,())=M_ D n (fun x0 x1 x2=>LF D n 13 fM n (yb x0 x1 x2) (CF D n 13 [] fM (lF 13))) a0:=by kernel_rfl
 rw[h];simp only[TX];rfl
def Mv(D:DX)(n:Nat)(go:List Int->Int->List Int->Int->aq->Option az)(K0:Bool->List Int->Int->List Int->aq->Option az)(K1:List Int->Int->List Int->aq->Option az)(c:List Int)(d:Int)(a:List Int)(b:Int)(e:aq):Option az:=br (decide (b<(a.length:Int))) (br (decide (0<=b)&&decide (b<(a.length:Int))) (qd (Ft D c (List.getD a b.toNat 0)) fun p0=>br (decide (p0.1.1=0)) (K0 false c d a e) (go c d a (wrap .i64 (b+1)) e)) none) (K1 c d a e)
def DG(D:DX)(n:Nat)(K0:Bool->List Int->Int->List Int->aq->Option az)(K1:List Int->Int->List Int->aq->Option az):Nat->(List Int)->Int->(List Int)->Int->aq->Option az | 0=>(fun a b c d e=>none) | m+1=>(fun a b c d e=>Mv D n (DG D n K0 K1 m) K0 K1 a b c d e)
def LP(D:DX)(n:Nat)(go:List Int->Int->aq->Option az)(K0:Bool->Option az)(K1:Option az)(a:Bool)(b:List Int)(c:Int)(d:List Int)(e:aq):Option az:=K0 a
def Mw(D:DX)(n:Nat)(go:List Int->Int->List Int->Int->aq->Option az)(K0:Bool->List Int->Int->aq->Option az)(K1:List Int->Int->aq->Option az)(a:List Int)(d:Int)(e:List Int)(b:Int)(c:aq):Option az:=let y0:=List.getD c.2.1 (Int.toNat (List.getD a b.toNat 0)) (ByteArray.empty,[],());br (decide (b<(a.length:Int))) (br (decide (0<=b)&&decide (b<(a.length:Int))) (br (decide (0<=List.getD a b.toNat 0)&&decide (List.getD a b.toNat 0<(c.2.1.length:Int))) (qd (zf D y0.1) fun p0=>br (decide (0<=b)&&decide (b<(a.length:Int))) (br (decide (0<=List.getD a b.toNat 0)&&decide (List.getD a b.toNat 0<(c.2.1.length:Int))) (br ((y0.2.1.length:Int) != p0.1.1) (K0 false a d c) (br (decide (0<=b)&&decide (b<(a.length:Int))) (qd (Ft D e (List.getD a b.toNat 0)) fun p1=>br (!decide (decide (p1.1.1=1)=decide (d<p0.1.1))) (K0 false a d c) (go a d e (wrap .i64 (b+1)) c)) none)) none) none) none) none) (K1 a d c)
def DH(D:DX)(n:Nat)(K0:Bool->List Int->Int->aq->Option az)(K1:List Int->Int->aq->Option az):Nat->(List Int)->Int->(List Int)->Int->aq->Option az | 0=>(fun a b c d e=>none) | m+1=>(fun a b c d e=>Mw D n (DH D n K0 K1 m) K0 K1 a b c d e)
def PM(D:DX)(n:Nat)(go:List Int->Int->aq->Option az)(K0:Bool->Option az)(K1:Option az)(a:Bool)(b:List Int)(c:Int)(d:aq):Option az:=K0 a
def LR(D:DX)(n:Nat)(go:List Int->Int->aq->Option az)(K0:Bool->Option az)(K1:Option az)(a:List Int)(b:Int)(c:aq):Option az:=go a (wrap .i64 (b+1)) c
def E3(D:DX)(n:Nat)(go:List Int->Int->aq->Option az)(K0:Bool->Option az)(K1:Option az):(List Int)->(Int)->(List Int)->(Int)->aq->Option az:=(fun a b j k l=>DH D n (fun c d e f=>PM D n go K0 K1 c d e f) (fun g h i=>LR D n go K0 K1 g h i) n a b j k l)
def E0(D:DX)(n:Nat)(go:List Int->Int->aq->Option az)(K0:Bool->Option az)(K1:Option az)(Hz:List Int->Int->List Int->Int->aq->Option az)(a:List Int)(b:Int)(c:List Int)(d:aq):Option az:=Hz a b c 0 d
def xC(D:DX)(n:Nat)(go:List Int->Int->aq->Option az)(K0:Bool->Option az)(K1:Option az):(List Int)->(Int)->(List Int)->(Int)->aq->Option az:=(fun a b l m o=>DG D n (fun c d e f g=>LP D n go K0 K1 c d e f g) (fun h i j k=>E0 D n go K0 K1 (E3 D n go K0 K1) h i j k) n a b l m o)
def E_(D:DX)(n:Nat)(go:List Int->Int->aq->Option az)(K0:Bool->Option az)(K1:Option az)(uI:List Int->Int->List Int->Int->aq->Option az)(x0:List Int)(x1:Int)(x2:aq):Option az:=br (decide (x1<4)) (qd (Dq D x2 x1) fun b=>br (!b.1.2.1) (K0 false) (br (decide (x1=0)) (uI b.1.1 x1 b.1.1 0 x2) (uI x0 x1 b.1.1 0 x2))) K1
def qm(D:DX)(n:Nat)(K0:Bool->Option az)(K1:Option az):Nat->(List Int)->Int->aq->Option az | 0=>(fun x0 x1 x2=>none) | m+1=>(fun x0 x1 x2=>E_ D n (qm D n K0 K1 m) K0 K1 (xC D n (qm D n K0 K1 m) K0 K1) x0 x1 x2)
def PJ(D:DX)(n:Nat)(a:Bool):Option az:=some ((a,()),())
def PL(D:DX)(n:Nat):Option az:=some ((true,()),())
def Ml(D:DX)(n:Nat):(List Int)->(Int)->aq->Option az:=(fun x0 x1 x2=>qm D n (fun a=>PJ D n a) (PL D n) n x0 x1 x2)
def Nd(D:DX)(n:Nat)(eY:List Int->Int->aq->Option az)(a0:aq):Option az:=br (bif (a0.1.length:Int) != 4 then true else decide ((a0.2.1.length:Int)>40)) (some ((false,()),())) (eY [] 0 a0)
def M5(D:DX)(n:Nat)(a0:aq):Option az:=Nd D n (Ml D n) a0
def qw(x0:List Int)(x1:Int)(x2:aq):St:=cF 90 [(1,AV.addr 1 []),(3,AV.val dZ x0),(4,AV.val bf x1)] [(1,aB.mk bC Mk.no x2 true)]
def q9(a:Bool):St:=cF 90 [(2,AV.val Ty.bool a)] []
def wH:St:=cF 90 [] []
def Mt(a:List Int)(b:Int)(c:List Int)(d:Int)(e:aq):St:=cF 90 [(1,AV.addr 1 []),(3,AV.val dZ a),(4,AV.val bf b),(5,AV.val dZ c),(7,AV.val bf d)] [(1,aB.mk bC Mk.no e true)]
def LN(a:Bool)(b:List Int)(c:Int)(d:List Int)(e:aq):St:=cF 90 [(1,AV.addr 1 []),(2,AV.val Ty.bool a),(3,AV.val dZ b),(4,AV.val bf c),(5,AV.val dZ d)] [(1,aB.mk bC Mk.no e true)]
def LO(a:List Int)(b:Int)(c:List Int)(d:aq):St:=cF 90 [(1,AV.addr 1 []),(3,AV.val dZ a),(4,AV.val bf b),(5,AV.val dZ c)] [(1,aB.mk bC Mk.no d true)]
def Mu(a:List Int)(b:Int)(c:List Int)(d:Int)(e:aq):St:=cF 90 [(1,AV.addr 1 []),(3,AV.val dZ a),(4,AV.val bf b),(5,AV.val dZ c),(8,AV.val bf d)] [(1,aB.mk bC Mk.no e true)]
def PF(a:Bool)(b:List Int)(c:Int)(d:aq):St:=cF 90 [(1,AV.addr 1 []),(2,AV.val Ty.bool a),(3,AV.val dZ b),(4,AV.val bf c)] [(1,aB.mk bC Mk.no d true)]
def PI(a:List Int)(b:Int)(c:aq):St:=cF 90 [(1,AV.addr 1 []),(3,AV.val dZ a),(4,AV.val bf b)] [(1,aB.mk bC Mk.no c true)]
theorem UG(D:DX)(n:Nat)(K:KT 14):∀(m:Nat)(j:List Int)(k:Int)(l:List Int)(o:Int)(p:aq),LF D n 14 HF m (Mt j k l o p) K=DG D n (fun a b c d e=>K (Ex.ret) (LN a b c d e)) (fun f g h i=>K (Ex.exit 2) (LO f g h i)) m j k l o p:=u_ (fun F=>Mv D n F (fun a b c d e=>K (Ex.ret) (LN a b c d e)) (fun f g h i=>K (Ex.exit 2) (LO f g h i)))
theorem UH(D:DX)(n:Nat)(K:KT 14):∀(m:Nat)(h:List Int)(i:Int)(j:List Int)(k:Int)(l:aq),LF D n 14 vO m (Mu h i j k l) K=DH D n (fun a b c d=>K (Ex.ret) (PF a b c d)) (fun e f g=>K (Ex.exit 4) (PI e f g)) m h i j k l:=u_ (fun F=>Mw D n F (fun a b c d=>K (Ex.ret) (PF a b c d)) (fun e f g=>K (Ex.exit 4) (PI e f g)))
theorem Ui(D:DX)(n:Nat)(m:Nat)(K:KT 14)(a:List Int)(b:Int)(c:List Int)(d:Int)(e:aq):LF D n 14 vO n (Mu a b c d e) (CF D n 14 uJ [.r,.l,.l,.r,.r,.r,.r,.r,.l] (KF D n 14 fM m K))=E3 D n (fun x0 x1 x2=>LF D n 14 fM m (qw x0 x1 x2) K) (fun f=>K (Ex.ret) (q9 f)) (K (Ex.exit 0) (wH)) a b c d e :=by rw[UH];kernel_rfl
theorem Uj(D:DX)(n:Nat)(m:Nat)(K:KT 14)(a:Bool)(b:List Int)(c:Int)(d:List Int)(e:aq):(CF D n 14 uJ se (KF D n 14 fM m K)) (Ex.ret) (LN a b c d e)=LP D n (fun x0 x1 x2=>LF D n 14 fM m (qw x0 x1 x2) K) (fun a=>K (Ex.ret) (q9 a)) (K (Ex.exit 0) (wH)) a b c d e:=by kernel_rfl
theorem Uk(D:DX)(n:Nat)(m:Nat)(K:KT 14)(a:List Int)(b:Int)(c:List Int)(d:aq):(CF D n 14 uJ se (KF D n 14 fM m K)) (Ex.exit 2) (LO a b c d)=E0 D n (fun x0 x1 x2=>LF D n 14 fM m (qw x0 x1 x2) K) (fun e=>K (Ex.ret) (q9 e)) (K (Ex.exit 0) (wH)) (fun f g h i j=>LF D n 14 vO n (Mu f g h i j) (CF D n 14 uJ [.r,.l,.l,.r,.r,.r,.r,.r,.l] (KF D n 14 fM m K))) a b c d:=by kernel_rfl
theorem Uh(D:DX)(n:Nat)(m:Nat)(K:KT 14)(a:List Int)(b:Int)(c:List Int)(d:Int)(e:aq):LF D n 14 HF n (Mt a b c d e) (CF D n 14 uJ se (KF D n 14 fM m K))=xC D n (fun x0 x1 x2=>LF D n 14 fM m (qw x0 x1 x2) K) (fun f=>K (Ex.ret) (q9 f)) (K (Ex.exit 0) (wH)) a b c d e:=by rw[UG];simp only[Uj,Uk,Ui];rfl
theorem UI(D:DX)(n:Nat)(m:Nat)(K:KT 14)(x0)(x1)(x2):LF D n 14 fM (m+1) (qw x0 x1 x2) K=E_ D n (fun x0 x1 x2=>LF D n 14 fM m (qw x0 x1 x2) K) (fun a=>K (Ex.ret) (q9 a)) (K (Ex.exit 0) (wH)) (fun b c d e f=>LF D n 14 HF n (Mt b c d e f) (CF D n 14 uJ se (KF D n 14 fM m K))) x0 x1 x2:=by kernel_rfl
theorem PW(D:DX)(n:Nat)(K:KT 14):∀(m:Nat)(x0:List Int)(x1:Int)(x2:aq),LF D n 14 fM m (qw x0 x1 x2) K=qm D n (fun a=>K (Ex.ret) (q9 a)) (K (Ex.exit 0) (wH)) m x0 x1 x2
 | 0,x0,x1,x2=>tI ..
 | m+1,x0,x1,x2=>by
  have ih:(fun x0 x1 x2=>LF D n 14 fM m (qw x0 x1 x2) K)=qm D n (fun a=>K (Ex.ret) (q9 a)) (K (Ex.exit 0) (wH)) m:=by funext x0 x1 x2;exact PW D n K m x0 x1 x2
  rw[UI];simp only[Uh];rw[ih];rfl
theorem Ug(D:DX)(n:Nat)(x0)(x1)(x2):LF D n 14 fM n (qw x0 x1 x2) (CF D n 14 [] fM (lF 14))=Ml D n x0 x1 x2 :=by rw[PW];kernel_rfl
theorem Vn(D:DX)(n:Nat)(a0:aq):rF D n 14 (a0,())=M5 D n a0:=by
 have h:rF D n 14 (a0,())=Nd D n (fun x0 x1 x2=>LF D n 14 fM n (qw x0 x1 x2) (CF D n 14 [] fM (lF 14))) a0:=by kernel_rfl
 rw[h];simp only[Ug];rfl
def U7(D:DX)(n:Nat):Option gr:=some ((([-1,-1,-1,-1],[],()),()),())
def PB(D:DX)(n:Nat):Option gr:=U7 D n
theorem UN(D:DX)(n:Nat):rF D n 15 ()=PB D n:=by kernel_rfl
def U_(D:DX)(n:Nat):Option gr:=some ((([-1,-1,-1,-1],[],()),()),())
def PC(D:DX)(n:Nat):Option gr:=U_ D n
theorem UR(D:DX)(n:Nat):rF D n 16 ()=PC D n:=by kernel_rfl
def Mr(D:DX)(n:Nat)(go:List ByteArray->ByteArray->Int->Option az)(K0:Bool->Option az)(K1:Option az)(x0:List ByteArray)(x1:ByteArray)(x2:Int):Option az:=br (decide (x2<(x0.length:Int))) (br (decide (0<=x2)&&decide (x2<(x0.length:Int))) (br (List.beq (ByteArray.toList (List.getD x0 x2.toNat ByteArray.empty)) (ByteArray.toList x1)) (K0 true) (go x0 x1 (wrap .i64 (x2+1)))) none) K1
def DF(D:DX)(n:Nat)(K0:Bool->Option az)(K1:Option az):Nat->(List ByteArray)->ByteArray->Int->Option az | 0=>(fun x0 x1 x2=>none) | m+1=>(fun x0 x1 x2=>Mr D n (DF D n K0 K1 m) K0 K1 x0 x1 x2)
def Pj(D:DX)(n:Nat)(a:Bool):Option az:=some ((a,()),())
def Pk(D:DX)(n:Nat):Option az:=some ((false,()),())
def Mh(D:DX)(n:Nat):(List ByteArray)->(ByteArray)->(Int)->Option az:=(fun x0 x1 x2=>DF D n (fun a=>Pj D n a) (Pk D n) n x0 x1 x2)
def Nc(D:DX)(n:Nat)(eY:List ByteArray->ByteArray->Int->Option az)(a0:List ByteArray)(a1:ByteArray):Option az:=eY a0 a1 0
def M4(D:DX)(n:Nat)(a0:List ByteArray)(a1:ByteArray):Option az:=Nc D n (Mh D n) a0 a1
def Mq(x0:List ByteArray)(x1:ByteArray)(x2:Int):St:=cF 18 [(0,AV.val gR x0),(1,AV.val Ty.str x1),(5,AV.val bf x2)] []
def Pg(a:Bool):St:=cF 18 [(4,AV.val Ty.bool a)] []
def Ph:St:=cF 18 [] []
theorem UF(D:DX)(n:Nat)(K:KT 17):∀(m:Nat)(x0:List ByteArray)(x1:ByteArray)(x2:Int),LF D n 17 [.r,.l,.r,.l] m (Mq x0 x1 x2) K=DF D n (fun a=>K (Ex.ret) (Pg a)) (K (Ex.exit 0) (Ph)) m x0 x1 x2:=yL (fun F=>Mr D n F (fun a=>K (Ex.ret) (Pg a)) (K (Ex.exit 0) (Ph)))
theorem TQ(D:DX)(n:Nat)(x0)(x1)(x2):LF D n 17 [.r,.l,.r,.l] n (Mq x0 x1 x2) (CF D n 17 [] [.r,.l,.r,.l] (lF 17))=Mh D n x0 x1 x2 :=by rw[UF];kernel_rfl
theorem Vm(D:DX)(n:Nat)(a0:List ByteArray)(a1:ByteArray):rF D n 17 (a0,(a1,()))=M4 D n a0 a1:=by
 have h:rF D n 17 (a0,(a1,()))=Nc D n (fun x0 x1 x2=>LF D n 17 [.r,.l,.r,.l] n (Mq x0 x1 x2) (CF D n 17 [] [.r,.l,.r,.l] (lF 17))) a0 a1:=by kernel_rfl
 rw[h];simp only[TQ];rfl
def L6(D:DX)(n:Nat)(go:Int->Int->aq->List ByteArray->List Int->Option ja)(K0:List ByteArray->Option ja)(x0 x1:Int)(x2:aq)(x3:List ByteArray)(x4:List Int):Option ja:=br (decide (x1<x0)) (br (decide (0<=x1)&&decide (x1<(x4.length:Int))) (br (decide (0<=List.getD x4 x1.toNat 0)&&decide (List.getD x4 x1.toNat 0<(x2.2.1.length:Int))) (br (decide (x3.length+1<=gj)) (go x0 (wrap .i64 (x1+1)) x2 (x3++[(List.getD x2.2.1 (Int.toNat (List.getD x4 x1.toNat 0)) (ByteArray.empty,[],())).1]) x4) none) none) none) (K0 x3)
def Dj(D:DX)(n:Nat)(K0:List ByteArray->Option ja):Nat->Int->Int->aq->(List ByteArray)->(List Int)->Option ja | 0=>(fun x0 x1 x2 x3 x4=>none) | m+1=>(fun x0 x1 x2 x3 x4=>L6 D n (Dj D n K0 m) K0 x0 x1 x2 x3 x4)
def Pc(D:DX)(n:Nat)(a:List ByteArray):Option ja:=some ((a,()),())
def Ly(D:DX)(n:Nat):(Int)->(Int)->aq->(List ByteArray)->(List Int)->Option ja:=(fun x0 x1 x2 x3 x4=>Dj D n (fun a=>Pc D n a) n x0 x1 x2 x3 x4)
def MH(D:DX)(n:Nat)(eY:Int->Int->aq->List ByteArray->List Int->Option ja)(a0:aq):Option ja:=qd (qz D a0) fun b=>br (!b.1.1) (some (([],()),())) (qd (Fi D a0 0) fun b=>eY (b.1.1.length:Int) 0 a0 [] b.1.1)
def Mx(D:DX)(n:Nat)(a0:aq):Option ja:=MH D n (Ly D n) a0
def LC(x0 x1:Int)(x2:aq)(x3:List ByteArray)(x4:List Int):St:=cF 35 [(1,AV.addr 1 []),(3,AV.bu 3 [] 0),(18,AV.bu 4 [] 0),(19,AV.val bf x0),(20,AV.val bf x1)] [(1,aB.mk bC Mk.no x2 true),(3,aB.mk gR cA x3 false),(4,aB.mk dZ cA x4 false)]
def Pb(a:List ByteArray):St:=cF 35 [(3,AV.bu 3 [] 0)] [(3,aB.mk gR cA a false)]
theorem TV(D:DX)(n:Nat)(K:KT 18):∀(m:Nat)(x0 x1:Int)(x2:aq)(x3:List ByteArray)(x4:List Int),LF D n 18 ia m (LC x0 x1 x2 x3 x4) K=Dj D n (fun a=>K (Ex.exit 0) (Pb a)) m x0 x1 x2 x3 x4:=u_ (fun F=>L6 D n F (fun a=>K (Ex.exit 0) (Pb a)))
theorem TB(D:DX)(n:Nat)(x0)(x1)(x2)(x3)(x4):LF D n 18 ia n (LC x0 x1 x2 x3 x4) (CF D n 18 [] ia (lF 18))=Ly D n x0 x1 x2 x3 x4 :=by rw[TV];kernel_rfl
theorem UL(D:DX)(n:Nat)(a0:aq):rF D n 18 (a0,())=Mx D n a0:=by
 have h:rF D n 18 (a0,())=MH D n (fun x0 x1 x2 x3 x4=>LF D n 18 ia n (LC x0 x1 x2 x3 x4) (CF D n 18 [] ia (lF 18))) a0:=by kernel_rfl
 rw[h];simp only[TB];rfl
def HO(D:DX)(n:Nat)(go:List Int->Int->Int->Option qL)(K0:List Int->Int->Option qL)(x0:List Int)(x1 x2:Int):Option qL:=br (bif decide (x2<(x0.length:Int)) then decide (x2<4000) else false) (br (decide (0<=x2)&&decide (x2<(x0.length:Int))) (go x0 (wrap .i64 (↑(BitVec.toNat (BitVec.and (BitVec.ofInt (IntKind.bits IntKind.i64) (wrap .i64 (wrap .i64 (wrap .i64 (x1 * 131)+wrap .i64 (List.getD x0 x2.toNat 0))+7))) (BitVec.ofInt (IntKind.bits IntKind.i64) 1073741823))):Int)) (wrap .i64 (x2+1))) none) (K0 x0 x1)
def DW(D:DX)(n:Nat)(K0:List Int->Int->Option qL):Nat->(List Int)->Int->Int->Option qL | 0=>(fun x0 x1 x2=>none) | m+1=>(fun x0 x1 x2=>HO D n (DW D n K0 m) K0 x0 x1 x2)
def B0(D:DX)(n:Nat)(a:List Int)(b:Int):Option qL:=some (((a,0,b,()),()),())
def HJ(D:DX)(n:Nat):(List Int)->(Int)->(Int)->Option qL:=(fun x0 x1 x2=>DW D n (fun a b=>B0 D n a b) n x0 x1 x2)
def HU(D:DX)(n:Nat)(eY:List Int->Int->Int->Option qL)(a0:List Int):Option qL:=eY a0 (wrap .i64 (27323+(a0.length:Int))) 0
def HT(D:DX)(n:Nat)(a0:List Int):Option qL:=HU D n (HJ D n) a0
def HN(x0:List Int)(x1 x2:Int):St:=cF 32 [(0,AV.val ug x0),(3,AV.val bf x1),(4,AV.val bf x2)] []
def BZ(a:List Int)(b:Int):St:=cF 32 [(0,AV.val ug a),(3,AV.val bf b)] []
theorem JE(D:DX)(n:Nat)(K:KT 19):∀(m:Nat)(x0:List Int)(x1 x2:Int),LF D n 19 dO m (HN x0 x1 x2) K=DW D n (fun a b=>K (Ex.exit 0) (BZ a b)) m x0 x1 x2:=yL (fun F=>HO D n F (fun a b=>K (Ex.exit 0) (BZ a b)))
theorem Jw(D:DX)(n:Nat)(x0)(x1)(x2):LF D n 19 dO n (HN x0 x1 x2) (CF D n 19 [] dO (lF 19))=HJ D n x0 x1 x2 :=by rw[JE];kernel_rfl
theorem JN(D:DX)(n:Nat)(a0:List Int):rF D n 19 (a0,())=HT D n a0:=by
 have h:rF D n 19 (a0,())=HU D n (fun x0 x1 x2=>LF D n 19 dO n (HN x0 x1 x2) (CF D n 19 [] dO (lF 19))) a0:=by kernel_rfl
 rw[h];simp only[Jw];rfl
def PE(D:DX)(n:Nat)(a0:bZ):Option ng:=qd (KN D a0) fun p0=>let y0:=List.getD p0.1.1.2.1 0 (ByteArray.empty,[],());let y1:=List.set p0.1.1.2.1 0 (y0.1,y0.2.1,y0.2.2);let y2:=List.getD y1 0 (ByteArray.empty,[],());qd (tH D p0.2.1 10) fun p1=>br (decide (p1.1.1=0)) (qd (tH D p1.2.1 4) fun p3=>qd (tH D p3.2.1 6) fun p4=>br (decide (0<=p3.1.1)&&decide (p3.1.1<(p0.1.1.1.length:Int))) (some (((List.set p0.1.1.1 p3.1.1.toNat (wrap .i64 (p4.1.1-2)),p0.1.1.2.1,()),()),p4.2.1,())) none) (br (decide (p1.1.1=1)) (br (decide ((p0.1.1.2.1.length:Int)>0)) (br (decide (0<=0)&&decide (0<(p0.1.1.2.1.length:Int))) (br (decide (y0.2.1.length+1<=gj)) (br (decide (0<=0)&&decide (0<(y1.length:Int))) (some (((p0.1.1.1,List.set y1 0 (y2.1,y0.2.1++[-1],y2.2.2),()),()),p1.2.1,())) none) none) none) (some (((p0.1.1.1,p0.1.1.2.1,()),()),p1.2.1,()))) (br (decide (p1.1.1=2)) (br (decide ((p0.1.1.2.1.length:Int)>0)) (qd (tH D p1.2.1 (p0.1.1.2.1.length:Int)) fun p2=>br (decide (0<=p2.1.1)&&decide (p2.1.1<(p0.1.1.2.1.length:Int))) (some (((p0.1.1.1,List.set p0.1.1.2.1 p2.1.1.toNat (ByteArray.mk #[UInt8.ofNat 122,UInt8.ofNat 122],(List.getD p0.1.1.2.1 p2.1.1.toNat (ByteArray.empty,[],())).2),()),()),p2.2.1,())) none) (some (((p0.1.1.1,p0.1.1.2.1,()),()),p1.2.1,()))) (some (((p0.1.1.1,p0.1.1.2.1,()),()),p1.2.1,()))))
def ME(D:DX)(n:Nat)(a0:bZ):Option ng:=PE D n a0
theorem UU(D:DX)(n:Nat)(a0:bZ):rF D n 20 (a0,())=ME D n a0:=by kernel_rfl
def Pp(D:DX)(n:Nat)(a0:bZ):Option zH:=qd (Fj D a0 (List.set (List.set (List.set (List.set (List.set (List.set (List.set (List.set (List.set (List.set (List.set (List.set (List.replicate 12 ByteArray.empty) 0 (ByteArray.mk #[])) 1 (ByteArray.mk #[UInt8.ofNat 97])) 2 (ByteArray.mk #[UInt8.ofNat 98])) 3 (ByteArray.mk #[UInt8.ofNat 99])) 4 (ByteArray.mk #[UInt8.ofNat 100])) 5 (ByteArray.mk #[UInt8.ofNat 101])) 6 (ByteArray.mk #[UInt8.ofNat 102])) 7 (ByteArray.mk #[UInt8.ofNat 103])) 8 (ByteArray.mk #[UInt8.ofNat 97,UInt8.ofNat 97])) 9 (ByteArray.mk #[UInt8.ofNat 97,UInt8.ofNat 98])) 10 (ByteArray.mk #[UInt8.ofNat 98,UInt8.ofNat 97])) 11 (ByteArray.mk #[UInt8.ofNat 0]))) fun p0=>some ((p0.1.1,()),p0.2.1,())
def KU(D:DX)(n:Nat)(a0:bZ):Option zH:=Pp D n a0
theorem Tv(D:DX)(n:Nat)(a0:bZ):rF D n 21 (a0,())=KU D n a0:=by kernel_rfl
def Lm(D:DX)(n:Nat)(go:List dG->Int->Int->aq->aq->Option gr)(K0:aq->aq->Option gr)(x0:List dG)(x1 x2:Int)(x3 x4:aq):Option gr:=let y0:=List.getD x0 x2.toNat (ByteArray.empty,[],());br (decide (x2<x1)) (br (decide (0<=x2)&&decide (x2<(x0.length:Int))) (qd (Fu D y0.2.1) fun p0=>br (decide (x4.2.1.length+1<=gj)) (go x0 x1 (wrap .i64 (x2+1)) x3 (x4.1,x4.2.1++[(y0.1,p0.1.1,())],x4.2.2)) none) none) (K0 x3 x4)
def Dw(D:DX)(n:Nat)(K0:aq->aq->Option gr):Nat->(List dG)->Int->Int->aq->aq->Option gr | 0=>(fun x0 x1 x2 x3 x4=>none) | m+1=>(fun x0 x1 x2 x3 x4=>Lm D n (Dw D n K0 m) K0 x0 x1 x2 x3 x4)
def La(D:DX)(n:Nat)(b a:aq):Option gr:=some (((a.1,a.2.1,()),()),())
def KY(D:DX)(n:Nat):(List dG)->(Int)->(Int)->aq->aq->Option gr:=(fun x0 x1 x2 x3 x4=>Dw D n (fun a b=>La D n a b) n x0 x1 x2 x3 x4)
def Mb(D:DX)(n:Nat)(eY:List dG->Int->Int->aq->aq->Option gr)(a0:aq):Option gr:=qd (Fu D a0.1) fun b=>eY a0.2.1 (a0.2.1.length:Int) 0 ([],[],()) (b.1.1,[],())
def LY(D:DX)(n:Nat)(a0:aq):Option gr:=Mb D n (KY D n) a0
def Ll(x0:List dG)(x1 x2:Int)(x3 x4:aq):St:=cF 30 [(2,AV.addr 2 []),(3,AV.addr 3 []),(11,AV.val FQ x0),(12,AV.val bf x1),(13,AV.val bf x2)] [(2,aB.mk bC fF x3 true),(3,aB.mk bC fF x4 true)]
def OW(a b:aq):St:=cF 30 [(2,AV.addr 2 []),(3,AV.addr 3 [])] [(2,aB.mk bC fF a true),(3,aB.mk bC fF b true)]
theorem TG(D:DX)(n:Nat)(K:KT 22):∀(m:Nat)(x0:List dG)(x1 x2:Int)(x3 x4:aq),LF D n 22 dO m (Ll x0 x1 x2 x3 x4) K=Dw D n (fun a b=>K (Ex.exit 0) (OW a b)) m x0 x1 x2 x3 x4:=u_ (fun F=>Lm D n F (fun a b=>K (Ex.exit 0) (OW a b)))
theorem Td(D:DX)(n:Nat)(x0)(x1)(x2)(x3)(x4):LF D n 22 dO n (Ll x0 x1 x2 x3 x4) (CF D n 22 [] dO (lF 22))=KY D n x0 x1 x2 x3 x4 :=by rw[TG];kernel_rfl
theorem Ur(D:DX)(n:Nat)(a0:aq):rF D n 22 (a0,())=LY D n a0:=by
 have h:rF D n 22 (a0,())=Mb D n (fun x0 x1 x2 x3 x4=>LF D n 22 dO n (Ll x0 x1 x2 x3 x4) (CF D n 22 [] dO (lF 22))) a0:=by kernel_rfl
 rw[h];simp only[Td];rfl
def Fo(D:DX)(n:Nat)(go:ByteArray->Int->Int->Int->aq->List Int->Option eP)(K0:ByteArray->Int->Int->Int->aq->List Int->Option eP)(b:ByteArray)(d e c:Int)(a:aq)(f:List Int):Option eP:=qd (zk D a e c) fun p0=>br (decide (p0.1.1 = -1)) (K0 b d e c a f) (br (decide (0<=p0.1.1)&&decide (p0.1.1<(a.2.1.length:Int))) (br (!Op.bytesLess (ByteArray.toList (List.getD a.2.1 p0.1.1.toNat (ByteArray.empty,[],())).1) (ByteArray.toList b)) (K0 b (wrap .i64 (d+1)) e c a f) (go b (wrap .i64 (d+1)) p0.1.1 c a f)) none)
def zo(D:DX)(n:Nat)(K0:ByteArray->Int->Int->Int->aq->List Int->Option eP):Nat->ByteArray->Int->Int->Int->aq->(List Int)->Option eP | 0=>(fun a b c d e f=>none) | m+1=>(fun a b c d e f=>Fo D n (zo D n K0 m) K0 a b c d e f)
def Ma(D:DX)(n:Nat)(go:ByteArray->Int->Int->Int->aq->List Int->Option eP)(K0:Int->List Int->Option eP)(d:ByteArray)(e b a:Int)(f:aq)(c:List Int):Option eP:=br (decide (0<=a)&&decide (a<(c.length:Int))) (go d e b (wrap .i64 (a-1)) f (List.set c a.toNat b)) none
def MP(D:DX)(n:Nat)(go:ByteArray->Int->Int->Int->aq->List Int->Option eP)(K0:Int->List Int->Option eP):(ByteArray)->(Int)->(Int)->(Int)->aq->(List Int)->Option eP:=(fun a h i j k l=>zo D n (fun b c d e f g=>Ma D n go K0 b c d e f g) n a h i j k l)
def Fm(D:DX)(n:Nat)(go:ByteArray->Int->Int->Int->aq->List Int->Option eP)(K0:Int->List Int->Option eP)(uI:ByteArray->Int->Int->Int->aq->List Int->Option eP)(x0:ByteArray)(x1 x2 x3:Int)(x4:aq)(x5:List Int):Option eP:=br (decide (x3>=0)) (uI x0 x1 x2 x3 x4 x5) (K0 x1 x5)
def q7(D:DX)(n:Nat)(K0:Int->List Int->Option eP):Nat->ByteArray->Int->Int->Int->aq->(List Int)->Option eP | 0=>(fun x0 x1 x2 x3 x4 x5=>none) | m+1=>(fun x0 x1 x2 x3 x4 x5=>Fm D n (q7 D n K0 m) K0 (MP D n (q7 D n K0 m) K0) x0 x1 x2 x3 x4 x5)
def PV(D:DX)(n:Nat)(a:Int)(b:List Int):Option eP:=some ((b,a,()),())
def MO(D:DX)(n:Nat):(ByteArray)->(Int)->(Int)->(Int)->aq->(List Int)->Option eP:=(fun x0 x1 x2 x3 x4 x5=>q7 D n (fun a b=>PV D n a b) n x0 x1 x2 x3 x4 x5)
def Nm(D:DX)(n:Nat)(eY:ByteArray->Int->Int->Int->aq->List Int->Option eP)(a0:aq)(a1:ByteArray):Option eP:=eY a1 0 (-1) 3 a0 (List.replicate (Int.toNat 4) 0)
def Ni(D:DX)(n:Nat)(a0:aq)(a1:ByteArray):Option eP:=Nm D n (MO D n) a0 a1
def wF(x0:ByteArray)(x1 x2 x3:Int)(x4:aq)(x5:List Int):St:=cF 39 [(1,AV.val Ty.str x0),(2,AV.addr 2 []),(6,AV.bu 6 [] 0),(7,AV.val bf x1),(8,AV.val bf x2),(9,AV.val bf x3)] [(2,aB.mk bC Mk.no x4 true),(6,aB.mk dZ cA x5 false)]
def E1(a:Int)(b:List Int):St:=cF 39 [(6,AV.bu 6 [] 0),(7,AV.val bf a)] [(6,aB.mk dZ cA b false)]
def Na(a:ByteArray)(b c d:Int)(e:aq)(f:List Int):St:=cF 39 [(1,AV.val Ty.str a),(2,AV.addr 2 []),(6,AV.bu 6 [] 0),(7,AV.val bf b),(8,AV.val bf c),(9,AV.val bf d)] [(2,aB.mk bC Mk.no e true),(6,aB.mk dZ cA f false)]
def PU(a:ByteArray)(b c d:Int)(e:aq)(f:List Int):St:=cF 39 [(1,AV.val Ty.str a),(2,AV.addr 2 []),(6,AV.bu 6 [] 0),(7,AV.val bf b),(8,AV.val bf c),(9,AV.val bf d)] [(2,aB.mk bC Mk.no e true),(6,aB.mk dZ cA f false)]
theorem U8(D:DX)(n:Nat)(K:KT 23):∀(m:Nat)(g:ByteArray)(h i j:Int)(k:aq)(l:List Int),LF D n 23 vP m (Na g h i j k l) K=zo D n (fun a b c d e f=>K (Ex.exit 2) (PU a b c d e f)) m g h i j k l:=zN (fun F=>Fo D n F (fun a b c d e f=>K (Ex.exit 2) (PU a b c d e f)))
theorem Ud(D:DX)(n:Nat)(m:Nat)(K:KT 23)(a:ByteArray)(b c d:Int)(e:aq)(f:List Int):LF D n 23 vP n (Na a b c d e f) (CF D n 23 [.r,.r,.r,.r,.l,.r,.l,.l] [.r,.l,.l,.l,.l] (KF D n 23 ia m K))=MP D n (fun x0 x1 x2 x3 x4 x5=>LF D n 23 ia m (wF x0 x1 x2 x3 x4 x5) K) (fun g h=>K (Ex.exit 0) (E1 g h)) a b c d e f :=by rw[U8];kernel_rfl
theorem U9(D:DX)(n:Nat)(m:Nat)(K:KT 23)(x0)(x1)(x2)(x3)(x4)(x5):LF D n 23 ia (m+1) (wF x0 x1 x2 x3 x4 x5) K=Fm D n (fun x0 x1 x2 x3 x4 x5=>LF D n 23 ia m (wF x0 x1 x2 x3 x4 x5) K) (fun a b=>K (Ex.exit 0) (E1 a b)) (fun c d e f g h=>LF D n 23 vP n (Na c d e f g h) (CF D n 23 [.r,.r,.r,.r,.l,.r,.l,.l] [.r,.l,.l,.l,.l] (KF D n 23 ia m K))) x0 x1 x2 x3 x4 x5:=by kernel_rfl
theorem PD(D:DX)(n:Nat)(K:KT 23):∀(m:Nat)(x0:ByteArray)(x1 x2 x3:Int)(x4:aq)(x5:List Int),LF D n 23 ia m (wF x0 x1 x2 x3 x4 x5) K=q7 D n (fun a b=>K (Ex.exit 0) (E1 a b)) m x0 x1 x2 x3 x4 x5
 | 0,x0,x1,x2,x3,x4,x5=>tI ..
 | m+1,x0,x1,x2,x3,x4,x5=>by
  have ih:(fun x0 x1 x2 x3 x4 x5=>LF D n 23 ia m (wF x0 x1 x2 x3 x4 x5) K)=q7 D n (fun a b=>K (Ex.exit 0) (E1 a b)) m:=by funext x0 x1 x2 x3 x4 x5;exact PD D n K m x0 x1 x2 x3 x4 x5
  rw[U9];simp only[Ud];rw[ih];rfl
theorem Uc(D:DX)(n:Nat)(x0)(x1)(x2)(x3)(x4)(x5):LF D n 23 ia n (wF x0 x1 x2 x3 x4 x5) (CF D n 23 [] ia (lF 23))=MO D n x0 x1 x2 x3 x4 x5 :=by rw[PD];kernel_rfl
theorem Vh(D:DX)(n:Nat)(a0:aq)(a1:ByteArray):rF D n 23 (a0,(a1,()))=Ni D n a0 a1:=by
 have h:rF D n 23 (a0,(a1,()))=Nm D n (fun x0 x1 x2 x3 x4 x5=>LF D n 23 ia n (wF x0 x1 x2 x3 x4 x5) (CF D n 23 [] ia (lF 23))) a0 a1:=by kernel_rfl
 rw[h];simp only[Uc];rfl
def O7(D:DX)(n:Nat)(a0:aq)(a1 a2:Int):Option aT:=let y0:=List.getD a0.2.1 a1.toNat (ByteArray.empty,[],());br (decide (a1 = -1)) (br (decide (0<=a2)&&decide (a2<(a0.1.length:Int))) (some ((List.getD a0.1 a2.toNat 0,()),())) none) (br (decide (0<=a1)&&decide (a1<(a0.2.1.length:Int))) (br (decide (0<=a2)&&decide (a2<(y0.2.1.length:Int))) (some ((List.getD y0.2.1 a2.toNat 0,()),())) none) none)
def Le(D:DX)(n:Nat)(a0:aq)(a1 a2:Int):Option aT:=O7 D n a0 a1 a2
theorem Tt(D:DX)(n:Nat)(a0:aq)(a1 a2:Int):rF D n 24 (a0,(a1,(a2,())))=Le D n a0 a1 a2:=by kernel_rfl
def Lx(D:DX)(n:Nat)(go:ByteArray->Int->Int->Int->Option aT)(K0:Int->Option aT)(x0:ByteArray)(x1 x2 x3:Int):Option aT:=br (decide (x3<x2)) (br (decide (0<=x3)&&decide (x3<(↑(ByteArray.size x0):Int))) (go x0 (Int.tmod (wrap .i64 (wrap .i64 (31 * x1)+wrap .i64 (↑(UInt8.toNat (Array.getD (ByteArray.data x0) x3.toNat (UInt8.ofNat 0))):Int))) 16) x2 (wrap .i64 (x3+1))) none) (K0 x1)
def Ds(D:DX)(n:Nat)(K0:Int->Option aT):Nat->ByteArray->Int->Int->Int->Option aT | 0=>(fun x0 x1 x2 x3=>none) | m+1=>(fun x0 x1 x2 x3=>Lx D n (Ds D n K0 m) K0 x0 x1 x2 x3)
def K_(D:DX)(n:Nat)(a:Int):Option aT:=br (decide (Int.tmod a 8=0)) (some ((4,()),())) (br (decide (Int.tmod a 4=0)) (some ((3,()),())) (br (decide (Int.tmod a 2=0)) (some ((2,()),())) (some ((1,()),()))))
def KV(D:DX)(n:Nat):(ByteArray)->(Int)->(Int)->(Int)->Option aT:=(fun x0 x1 x2 x3=>Ds D n (fun a=>K_ D n a) n x0 x1 x2 x3)
def LB(D:DX)(n:Nat)(eY:ByteArray->Int->Int->Int->Option aT)(a0:ByteArray):Option aT:=eY a0 7 (↑(ByteArray.size a0):Int) 0
def LX(D:DX)(n:Nat)(a0:ByteArray):Option aT:=LB D n (KV D n) a0
def Lw(x0:ByteArray)(x1 x2 x3:Int):St:=cF 31 [(0,AV.val Ty.str x0),(3,AV.val bf x1),(6,AV.val bf x2),(7,AV.val bf x3)] []
def OV(a:Int):St:=cF 31 [(3,AV.val bf a)] []
theorem TA(D:DX)(n:Nat)(K:KT 25):∀(m:Nat)(x0:ByteArray)(x1 x2 x3:Int),LF D n 25 dO m (Lw x0 x1 x2 x3) K=Ds D n (fun a=>K (Ex.exit 0) (OV a)) m x0 x1 x2 x3:=rT (fun F=>Lx D n F (fun a=>K (Ex.exit 0) (OV a)))
theorem Tc(D:DX)(n:Nat)(x0)(x1)(x2)(x3):LF D n 25 dO n (Lw x0 x1 x2 x3) (CF D n 25 [] dO (lF 25))=KV D n x0 x1 x2 x3 :=by rw[TA];kernel_rfl
theorem Uq(D:DX)(n:Nat)(a0:ByteArray):rF D n 25 (a0,())=LX D n a0:=by
 have h:rF D n 25 (a0,())=LB D n (fun x0 x1 x2 x3=>LF D n 25 dO n (Lw x0 x1 x2 x3) (CF D n 25 [] dO (lF 25))) a0:=by kernel_rfl
 rw[h];simp only[Tc];rfl
def Pz(D:DX)(n:Nat)(a0:aq)(a1 a2 a3:Int):Option zG:=let y0:=List.getD a0.2.1 a1.toNat (ByteArray.empty,[],());br (decide (a1 = -1)) (br (decide (0<=a2)&&decide (a2<(a0.1.length:Int))) (some ((),(List.set a0.1 a2.toNat a3,a0.2),())) none) (br (decide (0<=a1)&&decide (a1<(a0.2.1.length:Int))) (br (decide (0<=a2)&&decide (a2<(y0.2.1.length:Int))) (some ((),(a0.1,List.set a0.2.1 a1.toNat (y0.1,List.set y0.2.1 a2.toNat a3,y0.2.2),a0.2.2),())) none) none)
def Lu(D:DX)(n:Nat)(a0:aq)(a1 a2 a3:Int):Option zG:=Pz D n a0 a1 a2 a3
theorem TR(D:DX)(n:Nat)(a0:aq)(a1 a2 a3:Int):rF D n 26 (a0,(a1,(a2,(a3,()))))=Lu D n a0 a1 a2 a3:=by kernel_rfl
def Mo(D:DX)(n:Nat)(go:Int->aq->aq->aq->Option gr)(K0:aq->aq->Option gr)(x0:Int)(x1 x2 x3:aq):Option gr:=let y0:=List.getD x1.2.1 x0.toNat (ByteArray.empty,[],());br (decide (x0<(x1.2.1.length:Int))) (br (decide (0<=x0)&&decide (x0<(x1.2.1.length:Int))) (br (decide (0<=x0)&&decide (x0<(x1.2.1.length:Int))) (br (decide (0+y0.2.1.length<=gj)) (br (decide (x3.2.1.length+1<=gj)) (go (wrap .i64 (x0+1)) x1 x2 (x3.1,x3.2.1++[(y0.1,[]++y0.2.1,())],x3.2.2)) none) none) none) none) (K0 x2 x3)
def Dl(D:DX)(n:Nat)(K0:aq->aq->Option gr):Nat->Int->aq->aq->aq->Option gr | 0=>(fun x0 x1 x2 x3=>none) | m+1=>(fun x0 x1 x2 x3=>Mo D n (Dl D n K0 m) K0 x0 x1 x2 x3)
def Ls(D:DX)(n:Nat)(b a:aq):Option gr:=some (((a.1,a.2.1,()),()),())
def LV(D:DX)(n:Nat):(Int)->aq->aq->aq->Option gr:=(fun x0 x1 x2 x3=>Dl D n (fun a b=>Ls D n a b) n x0 x1 x2 x3)
def MX(D:DX)(n:Nat)(eY:Int->aq->aq->aq->Option gr)(a0:aq):Option gr:=br (decide (0+a0.1.length<=gj)) (eY 0 a0 ([],[],()) ([]++a0.1,[],())) none
def MD(D:DX)(n:Nat)(a0:aq):Option gr:=MX D n (LV D n) a0
def Mn(x0:Int)(x1 x2 x3:aq):St:=cF 38 [(1,AV.addr 1 []),(2,AV.addr 2 []),(3,AV.addr 3 []),(4,AV.val bf x0)] [(1,aB.mk bC Mk.no x1 true),(2,aB.mk bC fF x2 true),(3,aB.mk bC fF x3 true)]
def Po(a b:aq):St:=cF 38 [(2,AV.addr 2 []),(3,AV.addr 3 [])] [(2,aB.mk bC fF a true),(3,aB.mk bC fF b true)]
theorem Um(D:DX)(n:Nat)(K:KT 27):∀(m:Nat)(x0:Int)(x1 x2 x3:aq),LF D n 27 dO m (Mn x0 x1 x2 x3) K=Dl D n (fun a b=>K (Ex.exit 0) (Po a b)) m x0 x1 x2 x3:=rT (fun F=>Mo D n F (fun a b=>K (Ex.exit 0) (Po a b)))
theorem TN(D:DX)(n:Nat)(x0)(x1)(x2)(x3):LF D n 27 dO n (Mn x0 x1 x2 x3) (CF D n 27 [] dO (lF 27))=LV D n x0 x1 x2 x3 :=by rw[Um];kernel_rfl
theorem UT(D:DX)(n:Nat)(a0:aq):rF D n 27 (a0,())=MD D n a0:=by
 have h:rF D n 27 (a0,())=MX D n (fun x0 x1 x2 x3=>LF D n 27 dO n (Mn x0 x1 x2 x3) (CF D n 27 [] dO (lF 27))) a0:=by kernel_rfl
 rw[h];simp only[TN];rfl
def MZ(D:DX)(n:Nat)(go:ByteArray->Int->aq->List Int->Option aT)(K0:Int->Option aT)(K1:Option aT)(x0:ByteArray)(x1:Int)(x2:aq)(x3:List Int):Option aT:=br (decide (x1<(x3.length:Int))) (br (decide (0<=x1)&&decide (x1<(x3.length:Int))) (br (decide (0<=List.getD x3 x1.toNat 0)&&decide (List.getD x3 x1.toNat 0<(x2.2.1.length:Int))) (br (List.beq (ByteArray.toList (List.getD x2.2.1 (Int.toNat (List.getD x3 x1.toNat 0)) (ByteArray.empty,[],())).1) (ByteArray.toList x0)) (br (decide (0<=x1)&&decide (x1<(x3.length:Int))) (K0 (List.getD x3 x1.toNat 0)) none) (go x0 (wrap .i64 (x1+1)) x2 x3)) none) none) K1
def DI(D:DX)(n:Nat)(K0:Int->Option aT)(K1:Option aT):Nat->ByteArray->Int->aq->(List Int)->Option aT | 0=>(fun x0 x1 x2 x3=>none) | m+1=>(fun x0 x1 x2 x3=>MZ D n (DI D n K0 K1 m) K0 K1 x0 x1 x2 x3)
def PR(D:DX)(n:Nat)(a:Int):Option aT:=some ((a,()),())
def PS(D:DX)(n:Nat):Option aT:=some ((-1,()),())
def Mp(D:DX)(n:Nat):(ByteArray)->(Int)->aq->(List Int)->Option aT:=(fun x0 x1 x2 x3=>DI D n (fun a=>PR D n a) (PS D n) n x0 x1 x2 x3)
def Nf(D:DX)(n:Nat)(eY:ByteArray->Int->aq->List Int->Option aT)(a0:aq)(a1:ByteArray):Option aT:=qd (Dq D a0 0) fun b=>eY a1 0 a0 b.1.1
def M8(D:DX)(n:Nat)(a0:aq)(a1:ByteArray):Option aT:=Nf D n (Mp D n) a0 a1
def MY(x0:ByteArray)(x1:Int)(x2:aq)(x3:List Int):St:=cF 34 [(1,AV.val Ty.str x0),(2,AV.addr 2 []),(5,AV.bu 5 [] 0),(7,AV.val bf x1)] [(2,aB.mk bC Mk.no x2 true),(5,aB.mk dZ cA x3 false)]
def PN(a:Int):St:=cF 34 [(4,AV.val bf a)] []
def PO:St:=cF 34 [] []
theorem UJ(D:DX)(n:Nat)(K:KT 28):∀(m:Nat)(x0:ByteArray)(x1:Int)(x2:aq)(x3:List Int),LF D n 28 dO m (MY x0 x1 x2 x3) K=DI D n (fun a=>K (Ex.ret) (PN a)) (K (Ex.exit 0) (PO)) m x0 x1 x2 x3:=rT (fun F=>MZ D n F (fun a=>K (Ex.ret) (PN a)) (K (Ex.exit 0) (PO)))
theorem Uo(D:DX)(n:Nat)(x0)(x1)(x2)(x3):LF D n 28 dO n (MY x0 x1 x2 x3) (CF D n 28 [] dO (lF 28))=Mp D n x0 x1 x2 x3 :=by rw[UJ];kernel_rfl
theorem Vq(D:DX)(n:Nat)(a0:aq)(a1:ByteArray):rF D n 28 (a0,(a1,()))=M8 D n a0 a1:=by
 have h:rF D n 28 (a0,(a1,()))=Nf D n (fun x0 x1 x2 x3=>LF D n 28 dO n (MY x0 x1 x2 x3) (CF D n 28 [] dO (lF 28))) a0 a1:=by kernel_rfl
 rw[h];simp only[Uo];rfl
def LL(D:DX)(n:Nat)(go:ByteArray->Int->Int->Option aT)(K0:Int->Option aT)(x0:ByteArray)(x1 x2:Int):Option aT:=br (decide (x2<(↑(ByteArray.size x0):Int))) (br (decide (0<=x2)&&decide (x2<(↑(ByteArray.size x0):Int))) (go x0 (Int.tmod (wrap .i64 (wrap .i64 (31 * x1)+wrap .i64 (↑(UInt8.toNat (Array.getD (ByteArray.data x0) x2.toNat (UInt8.ofNat 0))):Int))) 16) (wrap .i64 (x2+1))) none) (K0 x1)
def DA(D:DX)(n:Nat)(K0:Int->Option aT):Nat->ByteArray->Int->Int->Option aT | 0=>(fun x0 x1 x2=>none) | m+1=>(fun x0 x1 x2=>LL D n (DA D n K0 m) K0 x0 x1 x2)
def Lb(D:DX)(n:Nat)(a:Int):Option aT:=br (bif decide (a=0) then true else decide (a=8)) (some ((4,()),())) (br (decide (Int.tmod a 4=0)) (some ((3,()),())) (br (decide (Int.tmod a 2=0)) (some ((2,()),())) (some ((1,()),()))))
def K4(D:DX)(n:Nat):(ByteArray)->(Int)->(Int)->Option aT:=(fun x0 x1 x2=>DA D n (fun a=>Lb D n a) n x0 x1 x2)
def Mi(D:DX)(n:Nat)(eY:ByteArray->Int->Int->Option aT)(a0:ByteArray):Option aT:=eY a0 7 0
def LA(D:DX)(n:Nat)(a0:ByteArray):Option aT:=Mi D n (K4 D n) a0
def LJ(x0:ByteArray)(x1 x2:Int):St:=cF 34 [(0,AV.val Ty.str x0),(3,AV.val bf x1),(4,AV.val bf x2)] []
def OU(a:Int):St:=cF 34 [(3,AV.val bf a)] []
theorem TK(D:DX)(n:Nat)(K:KT 29):∀(m:Nat)(x0:ByteArray)(x1 x2:Int),LF D n 29 dO m (LJ x0 x1 x2) K=DA D n (fun a=>K (Ex.exit 0) (OU a)) m x0 x1 x2:=yL (fun F=>LL D n F (fun a=>K (Ex.exit 0) (OU a)))
theorem Tg(D:DX)(n:Nat)(x0)(x1)(x2):LF D n 29 dO n (LJ x0 x1 x2) (CF D n 29 [] dO (lF 29))=K4 D n x0 x1 x2 :=by rw[TK];kernel_rfl
theorem Uu(D:DX)(n:Nat)(a0:ByteArray):rF D n 29 (a0,())=LA D n a0:=by
 have h:rF D n 29 (a0,())=Mi D n (fun x0 x1 x2=>LF D n 29 dO n (LJ x0 x1 x2) (CF D n 29 [] dO (lF 29))) a0:=by kernel_rfl
 rw[h];simp only[Tg];rfl
def Lr(D:DX)(n:Nat)(go:ByteArray->Int->Int->aq->List Int->Option aT)(K0:Int->Option aT)(x0:ByteArray)(x1 x2:Int)(x3:aq)(x4:List Int):Option aT:=br (decide (x2<(x4.length:Int))) (br (decide (0<=x2)&&decide (x2<(x4.length:Int))) (br (decide (0<=List.getD x4 x2.toNat 0)&&decide (List.getD x4 x2.toNat 0<(x3.2.1.length:Int))) (br (Op.bytesLess (ByteArray.toList (List.getD x3.2.1 (Int.toNat (List.getD x4 x2.toNat 0)) (ByteArray.empty,[],())).1) (ByteArray.toList x0)) (br (decide (0<=x2)&&decide (x2<(x4.length:Int))) (go x0 (List.getD x4 x2.toNat 0) (wrap .i64 (x2+1)) x3 x4) none) (go x0 x1 (wrap .i64 (x2+1)) x3 x4)) none) none) (K0 x1)
def Dr(D:DX)(n:Nat)(K0:Int->Option aT):Nat->ByteArray->Int->Int->aq->(List Int)->Option aT | 0=>(fun x0 x1 x2 x3 x4=>none) | m+1=>(fun x0 x1 x2 x3 x4=>Lr D n (Dr D n K0 m) K0 x0 x1 x2 x3 x4)
def OQ(D:DX)(n:Nat)(a:Int):Option aT:=some ((a,()),())
def Lc(D:DX)(n:Nat):(ByteArray)->(Int)->(Int)->aq->(List Int)->Option aT:=(fun x0 x1 x2 x3 x4=>Dr D n (fun a=>OQ D n a) n x0 x1 x2 x3 x4)
def LU(D:DX)(n:Nat)(eY:ByteArray->Int->Int->aq->List Int->Option aT)(a0:aq)(a1:Int)(a2:ByteArray):Option aT:=qd (Dq D a0 a1) fun b=>eY a2 (-1) 0 a0 b.1.1
def Lv(D:DX)(n:Nat)(a0:aq)(a1:Int)(a2:ByteArray):Option aT:=LU D n (Lc D n) a0 a1 a2
def Lq(x0:ByteArray)(x1 x2:Int)(x3:aq)(x4:List Int):St:=cF 39 [(2,AV.val Ty.str x0),(3,AV.addr 3 []),(7,AV.bu 7 [] 0),(9,AV.val bf x1),(10,AV.val bf x2)] [(3,aB.mk bC Mk.no x3 true),(7,aB.mk dZ cA x4 false)]
def OP(a:Int):St:=cF 39 [(9,AV.val bf a)] []
theorem Ts(D:DX)(n:Nat)(K:KT 30):∀(m:Nat)(x0:ByteArray)(x1 x2:Int)(x3:aq)(x4:List Int),LF D n 30 fM m (Lq x0 x1 x2 x3 x4) K=Dr D n (fun a=>K (Ex.exit 0) (OP a)) m x0 x1 x2 x3 x4:=u_ (fun F=>Lr D n F (fun a=>K (Ex.exit 0) (OP a)))
theorem Tj(D:DX)(n:Nat)(x0)(x1)(x2)(x3)(x4):LF D n 30 fM n (Lq x0 x1 x2 x3 x4) (CF D n 30 [] fM (lF 30))=Lc D n x0 x1 x2 x3 x4 :=by rw[Ts];kernel_rfl
theorem TS(D:DX)(n:Nat)(a0:aq)(a1:Int)(a2:ByteArray):rF D n 30 (a0,(a1,(a2,())))=Lv D n a0 a1 a2:=by
 have h:rF D n 30 (a0,(a1,(a2,())))=LU D n (fun x0 x1 x2 x3 x4=>LF D n 30 fM n (Lq x0 x1 x2 x3 x4) (CF D n 30 [] fM (lF 30))) a0 a1 a2:=by kernel_rfl
 rw[h];simp only[Tj];rfl
def P8(D:DX)(n:Nat)(a0:aq)(a1 a2 a3:Int):Option zG:=let y0:=List.getD a0.2.1 a1.toNat (ByteArray.empty,[],());br (decide (a1<0)) (br (decide (0<=a2)&&decide (a2<(a0.1.length:Int))) (some ((),(List.set a0.1 a2.toNat a3,a0.2.1,()),())) none) (br (decide (0<=a1)&&decide (a1<(a0.2.1.length:Int))) (br (decide (0<=a2)&&decide (a2<(y0.2.1.length:Int))) (some ((),(a0.1,List.set a0.2.1 a1.toNat (y0.1,List.set y0.2.1 a2.toNat a3,y0.2.2),()),())) none) none)
def M9(D:DX)(n:Nat)(a0:aq)(a1 a2 a3:Int):Option zG:=P8 D n a0 a1 a2 a3
theorem Vr(D:DX)(n:Nat)(a0:aq)(a1 a2 a3:Int):rF D n 31 (a0,(a1,(a2,(a3,()))))=M9 D n a0 a1 a2 a3:=by kernel_rfl
def P2(D:DX)(n:Nat)(a0:aq)(a1 a2:Int):Option aT:=let y0:=List.getD a0.2.1 a1.toNat (ByteArray.empty,[],());br (decide (a1<0)) (br (decide (0<=a2)&&decide (a2<(a0.1.length:Int))) (some ((List.getD a0.1 a2.toNat 0,()),())) none) (br (decide (0<=a1)&&decide (a1<(a0.2.1.length:Int))) (br (decide (0<=a2)&&decide (a2<(y0.2.1.length:Int))) (some ((List.getD y0.2.1 a2.toNat 0,()),())) none) none)
def MG(D:DX)(n:Nat)(a0:aq)(a1 a2:Int):Option aT:=P2 D n a0 a1 a2
theorem UX(D:DX)(n:Nat)(a0:aq)(a1 a2:Int):rF D n 32 (a0,(a1,(a2,())))=MG D n a0 a1 a2:=by kernel_rfl
def LD(D:DX)(n:Nat)(go:List Int->List Int->Int->Option az)(K0:Bool->Option az)(K1:Option az)(x0 x1:List Int)(x2:Int):Option az:=br (decide (x2<(x0.length:Int))) (br (decide (0<=x2)&&decide (x2<(x0.length:Int))) (br (decide (0<=x2)&&decide (x2<(x1.length:Int))) (br (List.getD x0 x2.toNat 0 != List.getD x1 x2.toNat 0) (K0 false) (go x0 x1 (wrap .i64 (x2+1)))) none) none) K1
def Dx(D:DX)(n:Nat)(K0:Bool->Option az)(K1:Option az):Nat->(List Int)->(List Int)->Int->Option az | 0=>(fun x0 x1 x2=>none) | m+1=>(fun x0 x1 x2=>LD D n (Dx D n K0 K1 m) K0 K1 x0 x1 x2)
def OZ(D:DX)(n:Nat)(a:Bool):Option az:=some ((a,()),())
def O0(D:DX)(n:Nat):Option az:=some ((true,()),())
def K2(D:DX)(n:Nat):(List Int)->(List Int)->(Int)->Option az:=(fun x0 x1 x2=>Dx D n (fun a=>OZ D n a) (O0 D n) n x0 x1 x2)
def Mf(D:DX)(n:Nat)(eY:List Int->List Int->Int->Option az)(a0 a1:List Int):Option az:=br ((a0.length:Int) != (a1.length:Int)) (some ((false,()),())) (eY a0 a1 0)
def LZ(D:DX)(n:Nat)(a0 a1:List Int):Option az:=Mf D n (K2 D n) a0 a1
def Lo(x0 x1:List Int)(x2:Int):St:=cF 26 [(0,AV.val dZ x0),(1,AV.val dZ x1),(5,AV.val bf x2)] []
def OX(a:Bool):St:=cF 26 [(4,AV.val Ty.bool a)] []
def OY:St:=cF 26 [] []
theorem TI(D:DX)(n:Nat)(K:KT 33):∀(m:Nat)(x0 x1:List Int)(x2:Int),LF D n 33 dO m (Lo x0 x1 x2) K=Dx D n (fun a=>K (Ex.ret) (OX a)) (K (Ex.exit 0) (OY)) m x0 x1 x2:=yL (fun F=>LD D n F (fun a=>K (Ex.ret) (OX a)) (K (Ex.exit 0) (OY)))
theorem Te(D:DX)(n:Nat)(x0)(x1)(x2):LF D n 33 dO n (Lo x0 x1 x2) (CF D n 33 [] dO (lF 33))=K2 D n x0 x1 x2 :=by rw[TI];kernel_rfl
theorem Us(D:DX)(n:Nat)(a0 a1:List Int):rF D n 33 (a0,(a1,()))=LZ D n a0 a1:=by
 have h:rF D n 33 (a0,(a1,()))=Mf D n (fun x0 x1 x2=>LF D n 33 dO n (Lo x0 x1 x2) (CF D n 33 [] dO (lF 33))) a0 a1:=by kernel_rfl
 rw[h];simp only[Te];rfl
def MR(D:DX)(n:Nat)(go:Int->Int->aq->List Int->Option dh)(K0:Bool->List Int->Option dh)(K1:List Int->Option dh)(x0 x1:Int)(x2:aq)(x3:List Int):Option dh:=let y1:=List.getD x2.2.1 x1.toNat (ByteArray.empty,[],());let y0:Option dh:=br (decide (x3.length+1<=gj)) (br (decide (0<=x1)&&decide (x1<(x2.2.1.length:Int))) (br (decide (0<=x0)&&decide (x0<(y1.2.1.length:Int))) (go x0 (List.getD y1.2.1 x0.toNat 0) x2 (x3++[x1])) none) none) none;let y2:=Int.toNat (wrap .i64 ((x3.length:Int)-1));br (x1 != -1) (qd (Jq D x1 0 (wrap .i64 ((x2.2.1.length:Int)-1))) fun p0=>br (!p0.1.1) (K0 false x3) (br (decide (0<=x1)&&decide (x1<(x2.2.1.length:Int))) (br (decide (x0>=(y1.2.1.length:Int))) (K0 false x3) (br (decide ((x3.length:Int)>0)) (br (decide (0<=wrap .i64 ((x3.length:Int)-1))&&decide (wrap .i64 ((x3.length:Int)-1)<(x3.length:Int))) (br (decide (0<=List.getD x3 y2 0)&&decide (List.getD x3 y2 0<(x2.2.1.length:Int))) (br (decide (0<=x1)&&decide (x1<(x2.2.1.length:Int))) (br (!Op.bytesLess (ByteArray.toList (List.getD x2.2.1 (Int.toNat (List.getD x3 y2 0)) (ByteArray.empty,[],())).1) (ByteArray.toList y1.1)) (K0 false x3) y0) none) none) none) y0)) none)) (K1 x3)
def DE(D:DX)(n:Nat)(K0:Bool->List Int->Option dh)(K1:List Int->Option dh):Nat->Int->Int->aq->(List Int)->Option dh | 0=>(fun x0 x1 x2 x3=>none) | m+1=>(fun x0 x1 x2 x3=>MR D n (DE D n K0 K1 m) K0 K1 x0 x1 x2 x3)
def T9(D:DX)(n:Nat)(a:Bool)(b:List Int):Option dh:=some (([],a,()),())
def TO(D:DX)(n:Nat)(a:List Int):Option dh:=some ((a,true,()),())
def Mc(D:DX)(n:Nat):(Int)->(Int)->aq->(List Int)->Option dh:=(fun x0 x1 x2 x3=>DE D n (fun a b=>T9 D n a b) (fun c=>TO D n c) n x0 x1 x2 x3)
def Nb(D:DX)(n:Nat)(eY:Int->Int->aq->List Int->Option dh)(a0:aq)(a1:Int):Option dh:=br (decide (0<=a1)&&decide (a1<(a0.1.length:Int))) (eY a1 (List.getD a0.1 a1.toNat 0) a0 []) none
def MV(D:DX)(n:Nat)(a0:aq)(a1:Int):Option dh:=Nb D n (Mc D n) a0 a1
def MQ(x0 x1:Int)(x2:aq)(x3:List Int):St:=cF 73 [(1,AV.val bf x0),(2,AV.addr 2 []),(6,AV.bu 6 [] 0),(7,AV.val bf x1)] [(2,aB.mk bC Mk.no x2 true),(6,aB.mk dZ cA x3 false)]
def Pe(a:Bool)(b:List Int):St:=cF 73 [(4,AV.cP),(5,AV.val Ty.bool a),(6,AV.bu 6 [] 0)] [(6,aB.mk dZ cA b false)]
def Pf(a:List Int):St:=cF 73 [(6,AV.bu 6 [] 0)] [(6,aB.mk dZ cA a false)]
theorem Ue(D:DX)(n:Nat)(K:KT 34):∀(m:Nat)(x0 x1:Int)(x2:aq)(x3:List Int),LF D n 34 dO m (MQ x0 x1 x2 x3) K=DE D n (fun a b=>K (Ex.ret) (Pe a b)) (fun c=>K (Ex.exit 0) (Pf c)) m x0 x1 x2 x3:=rT (fun F=>MR D n F (fun a b=>K (Ex.ret) (Pe a b)) (fun c=>K (Ex.exit 0) (Pf c)))
theorem T8(D:DX)(n:Nat)(x0)(x1)(x2)(x3):LF D n 34 dO n (MQ x0 x1 x2 x3) (CF D n 34 [] dO (lF 34))=Mc D n x0 x1 x2 x3 :=by rw[Ue];kernel_rfl
theorem Vl(D:DX)(n:Nat)(a0:aq)(a1:Int):rF D n 34 (a0,(a1,()))=MV D n a0 a1:=by
 have h:rF D n 34 (a0,(a1,()))=Nb D n (fun x0 x1 x2 x3=>LF D n 34 dO n (MQ x0 x1 x2 x3) (CF D n 34 [] dO (lF 34))) a0 a1:=by kernel_rfl
 rw[h];simp only[T8];rfl
def L2(D:DX)(n:Nat)(go:Int->Int->aq->List Int->Option dh)(K0:Bool->List Int->List Int->Option dh)(K1:List Int->Option dh)(x0 x1:Int)(x2:aq)(x3:List Int):Option dh:=let y1:=List.getD x2.2.1 x1.toNat (ByteArray.empty,[],());let y0:Option dh:=br (decide (x3.length+1<=gj)) (br (decide (0<=x1)&&decide (x1<(x2.2.1.length:Int))) (br (decide (0<=x0)&&decide (x0<(y1.2.1.length:Int))) (go x0 (List.getD y1.2.1 x0.toNat 0) x2 (x3++[x1])) none) none) none;let y2:=Int.toNat (wrap .i64 ((x3.length:Int)-1));br (x1 != -1) (qd (JD D x1 0 (wrap .i64 ((x2.2.1.length:Int)-1))) fun p0=>br (bif !p0.1.1 then true else decide ((x3.length:Int)>=(x2.2.1.length:Int))) (K0 false [] x3) (br (decide (0<=x1)&&decide (x1<(x2.2.1.length:Int))) (br (decide ((y1.2.1.length:Int)<=x0)) (K0 false [] x3) (br (decide ((x3.length:Int)>0)) (br (decide (0<=wrap .i64 ((x3.length:Int)-1))&&decide (wrap .i64 ((x3.length:Int)-1)<(x3.length:Int))) (br (decide (0<=List.getD x3 y2 0)&&decide (List.getD x3 y2 0<(x2.2.1.length:Int))) (br (decide (0<=x1)&&decide (x1<(x2.2.1.length:Int))) (br (!Op.bytesLess (ByteArray.toList (List.getD x2.2.1 (Int.toNat (List.getD x3 y2 0)) (ByteArray.empty,[],())).1) (ByteArray.toList y1.1)) (K0 false [] x3) y0) none) none) none) y0)) none)) (K1 x3)
def Dm(D:DX)(n:Nat)(K0:Bool->List Int->List Int->Option dh)(K1:List Int->Option dh):Nat->Int->Int->aq->(List Int)->Option dh | 0=>(fun x0 x1 x2 x3=>none) | m+1=>(fun x0 x1 x2 x3=>L2 D n (Dm D n K0 K1 m) K0 K1 x0 x1 x2 x3)
def Tp(D:DX)(n:Nat)(a:Bool)(b c:List Int):Option dh:=some ((b,a,()),())
def Tq(D:DX)(n:Nat)(a:List Int):Option dh:=some ((a,true,()),())
def LW(D:DX)(n:Nat):(Int)->(Int)->aq->(List Int)->Option dh:=(fun x0 x1 x2 x3=>Dm D n (fun a b c=>Tp D n a b c) (fun d=>Tq D n d) n x0 x1 x2 x3)
def M3(D:DX)(n:Nat)(eY:Int->Int->aq->List Int->Option dh)(a0:aq)(a1:Int):Option dh:=br (decide (0<=a1)&&decide (a1<(a0.1.length:Int))) (eY a1 (List.getD a0.1 a1.toNat 0) a0 []) none
def MF(D:DX)(n:Nat)(a0:aq)(a1:Int):Option dh:=M3 D n (LW D n) a0 a1
def L1(x0 x1:Int)(x2:aq)(x3:List Int):St:=cF 82 [(1,AV.val bf x0),(2,AV.addr 2 []),(6,AV.bu 6 [] 0),(7,AV.val bf x1)] [(2,aB.mk bC Mk.no x2 true),(6,aB.mk dZ cA x3 false)]
def Pq(a:Bool)(b c:List Int):St:=cF 82 [(4,AV.bu 4 [] 0),(5,AV.val Ty.bool a),(6,AV.bu 6 [] 0)] [(4,aB.mk dZ cA b false),(6,aB.mk dZ cA c false)]
def Pt(a:List Int):St:=cF 82 [(6,AV.bu 6 [] 0)] [(6,aB.mk dZ cA a false)]
theorem Up(D:DX)(n:Nat)(K:KT 35):∀(m:Nat)(x0 x1:Int)(x2:aq)(x3:List Int),LF D n 35 pz m (L1 x0 x1 x2 x3) K=Dm D n (fun a b c=>K (Ex.ret) (Pq a b c)) (fun d=>K (Ex.exit 0) (Pt d)) m x0 x1 x2 x3:=rT (fun F=>L2 D n F (fun a b c=>K (Ex.ret) (Pq a b c)) (fun d=>K (Ex.exit 0) (Pt d)))
theorem To(D:DX)(n:Nat)(x0)(x1)(x2)(x3):LF D n 35 pz n (L1 x0 x1 x2 x3) (CF D n 35 [] pz (lF 35))=LW D n x0 x1 x2 x3 :=by rw[Up];kernel_rfl
theorem UW(D:DX)(n:Nat)(a0:aq)(a1:Int):rF D n 35 (a0,(a1,()))=MF D n a0 a1:=by
 have h:rF D n 35 (a0,(a1,()))=M3 D n (fun x0 x1 x2 x3=>LF D n 35 pz n (L1 x0 x1 x2 x3) (CF D n 35 [] pz (lF 35))) a0 a1:=by kernel_rfl
 rw[h];simp only[To];rfl
def Nh(D:DX)(n:Nat)(go:List Int->Int->Int->Int->Option aT)(K0:Int->Option aT)(x0:List Int)(x1 x2 x3:Int):Option aT:=br (decide (x3<(x0.length:Int))) (br (decide (0<=x3)&&decide (x3<(x0.length:Int))) (qd (NH D (decide (List.getD x0 x3.toNat 0=x1))) fun b=>go x0 x1 (wrap .i64 (x2+b.1.1)) (wrap .i64 (x3+1))) none) (K0 x2)
def DM(D:DX)(n:Nat)(K0:Int->Option aT):Nat->(List Int)->Int->Int->Int->Option aT | 0=>(fun x0 x1 x2 x3=>none) | m+1=>(fun x0 x1 x2 x3=>Nh D n (DM D n K0 m) K0 x0 x1 x2 x3)
def L0(D:DX)(n:Nat)(a:Int):Option aT:=some ((a,()),())
def M1(D:DX)(n:Nat):(List Int)->(Int)->(Int)->(Int)->Option aT:=(fun x0 x1 x2 x3=>DM D n (fun a=>L0 D n a) n x0 x1 x2 x3)
def Nn(D:DX)(n:Nat)(eY:List Int->Int->Int->Int->Option aT)(a0:List Int)(a1:Int):Option aT:=eY a0 a1 0 0
def Nj(D:DX)(n:Nat)(a0:List Int)(a1:Int):Option aT:=Nn D n (M1 D n) a0 a1
def Ng(x0:List Int)(x1 x2 x3:Int):St:=cF 23 [(0,AV.val dZ x0),(1,AV.val bf x1),(5,AV.val bf x2),(6,AV.val bf x3)] []
def PX(a:Int):St:=cF 23 [(5,AV.val bf a)] []
theorem Va(D:DX)(n:Nat)(K:KT 36):∀(m:Nat)(x0:List Int)(x1 x2 x3:Int),LF D n 36 dO m (Ng x0 x1 x2 x3) K=DM D n (fun a=>K (Ex.exit 0) (PX a)) m x0 x1 x2 x3:=rT (fun F=>Nh D n F (fun a=>K (Ex.exit 0) (PX a)))
theorem UK(D:DX)(n:Nat)(x0)(x1)(x2)(x3):LF D n 36 dO n (Ng x0 x1 x2 x3) (CF D n 36 [] dO (lF 36))=M1 D n x0 x1 x2 x3 :=by rw[Va];kernel_rfl
theorem Vi(D:DX)(n:Nat)(a0:List Int)(a1:Int):rF D n 36 (a0,(a1,()))=Nj D n a0 a1:=by
 have h:rF D n 36 (a0,(a1,()))=Nn D n (fun x0 x1 x2 x3=>LF D n 36 dO n (Ng x0 x1 x2 x3) (CF D n 36 [] dO (lF 36))) a0 a1:=by kernel_rfl
 rw[h];simp only[UK];rfl
def KS(D:DX)(n:Nat)(go:Int->bZ->aq->aq->Option ng)(K0:bZ->aq->aq->Option ng)(x0:Int)(x1:bZ)(x2 x3:aq):Option ng:=qd (tH D x1 14) fun p0=>br (decide (x0<p0.1.1)) (qd (MT D p0.2.1 5) fun p1=>br p1.1.1 (qd (zl D p1.2.1) fun p2=>qd (E6 D (x3.1,x3.2.1,()) p2.1.1) fun p3=>go (wrap .i64 (x0+1)) p2.2.1 x2 (p3.1.1.1,p3.1.1.2.1,())) (qd (zl D p1.2.1) fun p4=>qd (E8 D (x3.1,x3.2.1,()) p4.1.1) fun p5=>go (wrap .i64 (x0+1)) p4.2.1 x2 (p5.1.1.1,p5.1.1.2.1,()))) (K0 p0.2.1 x2 x3)
def Cy(D:DX)(n:Nat)(K0:bZ->aq->aq->Option ng):Nat->Int->bZ->aq->aq->Option ng | 0=>(fun x0 x1 x2 x3=>none) | m+1=>(fun x0 x1 x2 x3=>KS D n (Cy D n K0 m) K0 x0 x1 x2 x3)
def OO(D:DX)(n:Nat)(b:bZ)(c a:aq):Option ng:=some (((a.1,a.2.1,()),()),b,())
def KQ(D:DX)(n:Nat):(Int)->bZ->aq->aq->Option ng:=(fun x0 x1 x2 x3=>Cy D n (fun a b c=>OO D n a b c) n x0 x1 x2 x3)
def KP(D:DX)(n:Nat)(eY:Int->bZ->aq->aq->Option ng)(a0:bZ):Option ng:=qd (E7 D) fun b=>eY 0 a0 ([],[],()) (b.1.1.1,b.1.1.2.1,())
def KO(D:DX)(n:Nat)(a0:bZ):Option ng:=KP D n (KQ D n) a0
def KR(x0:Int)(x1:bZ)(x2 x3:aq):St:=cF 29 [(0,AV.addr 0 []),(2,AV.addr 2 []),(3,AV.addr 3 []),(4,AV.val bf x0)] [(0,aB.mk oz Mk.no x1 true),(2,aB.mk bC fF x2 true),(3,aB.mk bC fF x3 true)]
def ON(a:bZ)(b c:aq):St:=cF 29 [(0,AV.addr 0 []),(2,AV.addr 2 []),(3,AV.addr 3 [])] [(0,aB.mk oz Mk.no a true),(2,aB.mk bC fF b true),(3,aB.mk bC fF c true)]
theorem Tb(D:DX)(n:Nat)(K:KT 37):∀(m:Nat)(x0:Int)(x1:bZ)(x2 x3:aq),LF D n 37 dO m (KR x0 x1 x2 x3) K=Cy D n (fun a b c=>K (Ex.exit 0) (ON a b c)) m x0 x1 x2 x3:=rT (fun F=>KS D n F (fun a b c=>K (Ex.exit 0) (ON a b c)))
theorem Ta(D:DX)(n:Nat)(x0)(x1)(x2)(x3):LF D n 37 dO n (KR x0 x1 x2 x3) (CF D n 37 [] dO (lF 37))=KQ D n x0 x1 x2 x3 :=by rw[Tb];kernel_rfl
theorem Th(D:DX)(n:Nat)(a0:bZ):rF D n 37 (a0,())=KO D n a0:=by
 have h:rF D n 37 (a0,())=KP D n (fun x0 x1 x2 x3=>LF D n 37 dO n (KR x0 x1 x2 x3) (CF D n 37 [] dO (lF 37))) a0:=by kernel_rfl
 rw[h];simp only[Ta];rfl
def B3(D:DX)(n:Nat)(a0:bZ)(a1:Int):Option zI:=br (decide (a1<=0)) (some ((0,()),a0,())) (br (decide (a1<=256)) (qd (yo D a0) fun p0=>br (decide (a1=0)) none (some ((Int.tmod p0.1.1 a1,()),p0.2.1,()))) (qd (yo D a0) fun p1=>qd (yo D p1.2.1) fun p2=>qd (yo D p2.2.1) fun p3=>qd (yo D p3.2.1) fun p4=>br (decide (a1=0)) none (some ((Int.tmod (wrap .i64 (wrap .i64 (wrap .i64 (wrap .i64 (p1.1.1 * 16777216)+wrap .i64 (p2.1.1 * 65536))+wrap .i64 (p3.1.1 * 256))+p4.1.1)) a1,()),p4.2.1,()))))
def HH(D:DX)(n:Nat)(a0:bZ)(a1:Int):Option zI:=B3 D n a0 a1
theorem Jx(D:DX)(n:Nat)(a0:bZ)(a1:Int):rF D n 38 (a0,(a1,()))=HH D n a0 a1:=by kernel_rfl
def P7(D:DX)(n:Nat)(a0:bZ)(a1:List ByteArray):Option zH:=qd (tH D a0 (a1.length:Int)) fun b=>br (decide (0<=b.1.1)&&decide (b.1.1<(a1.length:Int))) (some ((List.getD a1 b.1.1.toNat ByteArray.empty,()),b.2.1,())) none
def M7(D:DX)(n:Nat)(a0:bZ)(a1:List ByteArray):Option zH:=P7 D n a0 a1
theorem Vp(D:DX)(n:Nat)(a0:bZ)(a1:List ByteArray):rF D n 39 (a0,(a1,()))=M7 D n a0 a1:=by kernel_rfl
def PY(D:DX)(n:Nat)(a0:List Int):Option ((List Int×Unit)×Unit):=br (decide (Int.toNat (a0.length:Int)=0)) (both (some (([],()),())) (br (decide (0+a0.length<=gj)) (some (([]++a0,()),())) none)) (br (decide (0+a0.length<=gj)) (some (([]++a0,()),())) none)
def M0(D:DX)(n:Nat)(a0:List Int):Option ((List Int×Unit)×Unit):=PY D n a0
theorem Jp(D:DX)(n:Nat)(a0:List Int):rF D n 40 (a0,())=M0 D n a0:=by kernel_rfl
def Bf(D:DX)(n:Nat)(a0 a1 a2:Int):Option az:=some ((bif decide (a0>=a1) then decide (a0<=a2) else false,()),())
def xl(D:DX)(n:Nat)(a0 a1 a2:Int):Option az:=Bf D n a0 a1 a2
theorem HX(D:DX)(n:Nat)(a0 a1 a2:Int):rF D n 41 (a0,(a1,(a2,())))=xl D n a0 a1 a2:=by kernel_rfl
def Bc(D:DX)(n:Nat)(a0 a1 a2:Int):Option az:=some ((bif decide (a0>=a1) then decide (a0<=a2) else false,()),())
def xk(D:DX)(n:Nat)(a0 a1 a2:Int):Option az:=Bc D n a0 a1 a2
theorem HY(D:DX)(n:Nat)(a0 a1 a2:Int):rF D n 42 (a0,(a1,(a2,())))=xk D n a0 a1 a2:=by kernel_rfl
def HZ(D:DX)(n:Nat)(a0:Bool):Option aT:=br a0 (some ((1,()),())) (some ((0,()),()))
def B7(D:DX)(n:Nat)(a0:Bool):Option aT:=HZ D n a0
theorem JM(D:DX)(n:Nat)(a0:Bool):rF D n 43 (a0,())=B7 D n a0:=by kernel_rfl
def P6(D:DX)(n:Nat)(a0:bZ)(a1:Int):Option ((Bool×Unit)×yF):=qd (tH D a0 a1) fun b=>some ((decide (b.1.1=0),()),b.2.1,())
def M6(D:DX)(n:Nat)(a0:bZ)(a1:Int):Option ((Bool×Unit)×yF):=P6 D n a0 a1
theorem Vo(D:DX)(n:Nat)(a0:bZ)(a1:Int):rF D n 44 (a0,(a1,()))=M6 D n a0 a1:=by kernel_rfl
def B5(D:DX)(n:Nat)(a0:bZ):Option zI:=let y1:=wrap .i64 (a0.2.2.1 * 6364136223846793005)+1442695040888963407;let y0:=wrap .i64 (↑(BitVec.toNat (BitVec.xor (BitVec.ofInt (IntKind.bits IntKind.i64) (Int.fdiv (wrap .i64 y1) (Int.pow 2 (if Int.toNat 33<=IntKind.bits IntKind.i64 then Int.toNat 33 else IntKind.bits IntKind.i64)))) (BitVec.ofInt (IntKind.bits IntKind.i64) (Int.fdiv (wrap .i64 y1) (Int.pow 2 (if Int.toNat 45<=IntKind.bits IntKind.i64 then Int.toNat 45 else IntKind.bits IntKind.i64)))))):Int);br (decide (a0.2.1<(a0.1.length:Int))) (br (decide (0<=a0.2.1)&&decide (a0.2.1<(a0.1.length:Int))) (some ((wrap .i64 (↑(BitVec.toNat (BitVec.and (BitVec.ofInt (IntKind.bits IntKind.i64) (wrap .i64 (wrap .i64 (↑(BitVec.toNat (BitVec.and (BitVec.ofInt (IntKind.bits IntKind.i64) y0) (BitVec.ofInt (IntKind.bits IntKind.i64) 255))):Int)+wrap .i64 (List.getD a0.1 a0.2.1.toNat 0)))) (BitVec.ofInt (IntKind.bits IntKind.i64) 255))):Int),()),(a0.1,wrap .i64 (a0.2.1+1),wrap .i64 y1,a0.2.2.2),())) none) (some ((wrap .i64 (↑(BitVec.toNat (BitVec.and (BitVec.ofInt (IntKind.bits IntKind.i64) y0) (BitVec.ofInt (IntKind.bits IntKind.i64) 255))):Int),()),(a0.1,a0.2.1,wrap .i64 y1,a0.2.2.2),()))
def HM(D:DX)(n:Nat)(a0:bZ):Option zI:=B5 D n a0
theorem JJ(D:DX)(n:Nat)(a0:bZ):rF D n 45 (a0,())=HM D n a0:=by kernel_rfl
end
open Go.Proofs
def cY(X:Ext):Prop:=∀k:Nat,false=false->X.is k=false
theorem JX:cY nO:=fun _ _=>rfl
section
variable {X:Ext}(hX:cY X)(n:Nat)
include hX
theorem sQ{g:FuncId}{fn:Func}{a:eF (ctx.sig g).params}{r:Option (Out ctx g)}(hf:Try.prog.funcs[g]?=some fn)(ht:rJ g=some fn)(hg:(false)=false)(e:rF (DD X n) n g a=r):DD X (n+1) g a=r:=(J6 X hf ht (hX g hg) n a).trans e
theorem UD(a0):PA (DD X (n+1)) a0=MA (DD X n) n a0:=sQ hX n Try.func3 (by kernel_rfl) rfl (UP ..)
theorem Im(a0):wQ (DD X (n+1)) a0=Cm (DD X n) n a0:=sQ hX n Try.func4 (by kernel_rfl) rfl (Il ..)
theorem Tn(a0):K7 (DD X (n+1)) a0=K9 (DD X n) n a0:=sQ hX n Try.func5 (by kernel_rfl) rfl (Tl ..)
theorem UC(a0 a1):L4 (DD X (n+1)) a0 a1=Mz (DD X n) n a0 a1:=sQ hX n Try.func6 (by kernel_rfl) rfl (UO ..)
theorem U1(a0 a1):E8 (DD X (n+1)) a0 a1=MC (DD X n) n a0 a1:=sQ hX n Try.func7 (by kernel_rfl) rfl (US ..)
theorem Tm(a0):K6 (DD X (n+1)) a0=K8 (DD X n) n a0:=sQ hX n Try.func8 (by kernel_rfl) rfl (Tk ..)
theorem UZ(a0 a1):L3 (DD X (n+1)) a0 a1=My (DD X n) n a0 a1:=sQ hX n Try.func9 (by kernel_rfl) rfl (UM ..)
theorem UE(a0 a1):E6 (DD X (n+1)) a0 a1=MB (DD X n) n a0 a1:=sQ hX n Try.func10 (by kernel_rfl) rfl (UQ ..)
theorem Tx(a0):Ld (DD X (n+1)) a0=Lf (DD X n) n a0:=sQ hX n Try.func11 (by kernel_rfl) rfl (Tu ..)
theorem Uy(a0 a1):w7 (DD X (n+1)) a0 a1=Lz (DD X n) n a0 a1:=sQ hX n Try.func12 (by kernel_rfl) rfl (Ut ..)
theorem Vs(a0):qz (DD X (n+1)) a0=MU (DD X n) n a0:=sQ hX n Try.func13 (by kernel_rfl) rfl (Vk ..)
theorem Vv(a0):zn (DD X (n+1)) a0=M5 (DD X n) n a0:=sQ hX n Try.func14 (by kernel_rfl) rfl (Vn ..)
theorem UA:E5 (DD X (n+1))=PB (DD X n) n:=sQ hX n Try.func15 (by kernel_rfl) rfl (UN ..)
theorem U0:E7 (DD X (n+1))=PC (DD X n) n:=sQ hX n Try.func16 (by kernel_rfl) rfl (UR ..)
theorem Vu(a0 a1):DJ (DD X (n+1)) a0 a1=M4 (DD X n) n a0 a1:=sQ hX n Try.func17 (by kernel_rfl) rfl (Vm ..)
theorem UY(a0):x_ (DD X (n+1)) a0=Mx (DD X n) n a0:=sQ hX n Try.func18 (by kernel_rfl) rfl (UL ..)
theorem JL(a0):A0 (DD X (n+1)) a0=HT (DD X n) n a0:=sQ hX n Try.func19 (by kernel_rfl) rfl (JN ..)
theorem U3(a0):Dp (DD X (n+1)) a0=ME (DD X n) n a0:=sQ hX n Try.func20 (by kernel_rfl) rfl (UU ..)
theorem Tz(a0):zl (DD X (n+1)) a0=KU (DD X n) n a0:=sQ hX n Try.func21 (by kernel_rfl) rfl (Tv ..)
theorem Uw(a0):ER (DD X (n+1)) a0=LY (DD X n) n a0:=sQ hX n Try.func22 (by kernel_rfl) rfl (Ur ..)
theorem Vj(a0 a1):Fq (DD X (n+1)) a0 a1=Ni (DD X n) n a0 a1:=sQ hX n Try.func23 (by kernel_rfl) rfl (Vh ..)
theorem Tw(a0 a1 a2):zk (DD X (n+1)) a0 a1 a2=Le (DD X n) n a0 a1 a2:=sQ hX n Try.func24 (by kernel_rfl) rfl (Tt ..)
theorem Uv(a0):ze (DD X (n+1)) a0=LX (DD X n) n a0:=sQ hX n Try.func25 (by kernel_rfl) rfl (Uq ..)
theorem TT(a0 a1 a2 a3):Lt (DD X (n+1)) a0 a1 a2 a3=Lu (DD X n) n a0 a1 a2 a3:=sQ hX n Try.func26 (by kernel_rfl) rfl (TR ..)
theorem U2(a0):zm (DD X (n+1)) a0=MD (DD X n) n a0:=sQ hX n Try.func27 (by kernel_rfl) rfl (UT ..)
theorem Vy(a0 a1):DK (DD X (n+1)) a0 a1=M8 (DD X n) n a0 a1:=sQ hX n Try.func28 (by kernel_rfl) rfl (Vq ..)
theorem Uz(a0):zf (DD X (n+1)) a0=LA (DD X n) n a0:=sQ hX n Try.func29 (by kernel_rfl) rfl (Uu ..)
theorem TU(a0 a1 a2):EY (DD X (n+1)) a0 a1 a2=Lv (DD X n) n a0 a1 a2:=sQ hX n Try.func30 (by kernel_rfl) rfl (TS ..)
theorem Vz(a0 a1 a2 a3):DL (DD X (n+1)) a0 a1 a2 a3=M9 (DD X n) n a0 a1 a2 a3:=sQ hX n Try.func31 (by kernel_rfl) rfl (Vr ..)
theorem U5(a0 a1 a2):L5 (DD X (n+1)) a0 a1 a2=MG (DD X n) n a0 a1 a2:=sQ hX n Try.func32 (by kernel_rfl) rfl (UX ..)
theorem Ux(a0 a1):ES (DD X (n+1)) a0 a1=LZ (DD X n) n a0 a1:=sQ hX n Try.func33 (by kernel_rfl) rfl (Us ..)
theorem Vt(a0 a1):Fi (DD X (n+1)) a0 a1=MV (DD X n) n a0 a1:=sQ hX n Try.func34 (by kernel_rfl) rfl (Vl ..)
theorem U4(a0 a1):Dq (DD X (n+1)) a0 a1=MF (DD X n) n a0 a1:=sQ hX n Try.func35 (by kernel_rfl) rfl (UW ..)
theorem VC(a0 a1):Ft (DD X (n+1)) a0 a1=Nj (DD X n) n a0 a1:=sQ hX n Try.func36 (by kernel_rfl) rfl (Vi ..)
theorem Ti(a0):KN (DD X (n+1)) a0=KO (DD X n) n a0:=sQ hX n Try.func37 (by kernel_rfl) rfl (Th ..)
theorem JB(a0 a1):tH (DD X (n+1)) a0 a1=HH (DD X n) n a0 a1:=sQ hX n Try.func38 (by kernel_rfl) rfl (Jx ..)
theorem Vx(a0 a1):Fj (DD X (n+1)) a0 a1=M7 (DD X n) n a0 a1:=sQ hX n Try.func39 (by kernel_rfl) rfl (Vp ..)
theorem VN(a0):Fu (DD X (n+1)) a0=M0 (DD X n) n a0:=sQ hX n Try.func40 (by kernel_rfl) rfl (Jp ..)
theorem H8(a0 a1 a2):Jq (DD X (n+1)) a0 a1 a2=xl (DD X n) n a0 a1 a2:=sQ hX n Try.func41 (by kernel_rfl) rfl (HX ..)
theorem H9(a0 a1 a2):JD (DD X (n+1)) a0 a1 a2=xk (DD X n) n a0 a1 a2:=sQ hX n Try.func42 (by kernel_rfl) rfl (HY ..)
theorem JK(a0):NH (DD X (n+1)) a0=B7 (DD X n) n a0:=sQ hX n Try.func43 (by kernel_rfl) rfl (JM ..)
theorem Vw(a0 a1):MT (DD X (n+1)) a0 a1=M6 (DD X n) n a0 a1:=sQ hX n Try.func44 (by kernel_rfl) rfl (Vo ..)
theorem JG(a0):yo (DD X (n+1)) a0=HM (DD X n) n a0:=sQ hX n Try.func45 (by kernel_rfl) rfl (JJ ..)
end
end Go.G

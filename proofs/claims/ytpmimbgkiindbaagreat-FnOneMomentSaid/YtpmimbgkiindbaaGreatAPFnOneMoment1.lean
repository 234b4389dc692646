import Derived.Test.YtpmimbgkiindbaaGreatAPFnOneMoment0
set_option linter.unusedVariables false
set_option linter.unusedSimpArgs false
set_option linter.unusedSectionVars false
open Go.IntKind (wrap)
namespace Go.G
set_option maxRecDepth 100000
set_option maxHeartbeats 0
open Go Go.V
noncomputable section
def qbdd (D:DX)(n:Nat) (a0:tq12) (a1:tq34):Option tq6:=let y0:=Int.toNat (if 0>a1.2.2.2.1 then 0 else a1.2.2.2.1);qd (qkl D a0) fun b↦qd (qkp D (b.1.1.1,b.1.1.2.1,())) fun b_1↦br (!b_1.1.1) (some (((b.1.1.1,b.1.1.2.1,()),a1,(0,0,0,0,()),2,()),())) (qd (qbl D a1.1 0 (wrap .i64 ((b.1.1.2.1.length:Int) - 1))) fun b_2↦br (bif !b_2.1.1 then true else decide (a1.2.1<1)) (some (((b.1.1.1,b.1.1.2.1,()),a1,(0,0,0,0,()),2,()),())) (br (decide (0≤a1.1)&&decide (a1.1<(b.1.1.2.1.length:Int))) (br ((List.getD b.1.1.2.1 a1.1.toNat (0,0,[],(0,[],()),())).1 != a1.2.1) (some (((b.1.1.1,b.1.1.2.1,()),a1,(0,0,0,0,()),2,()),())) (br (decide (0≤a1.1)&&decide (a1.1<(b.1.1.2.1.length:Int))) (br (bif (List.getD b.1.1.2.1 a1.1.toNat (0,0,[],(0,[],()),())).2.1 != 0 then bif decide ((List.getD b.1.1.2.1 a1.1.toNat (0,0,[],(0,[],()),())).2.1=1) then true else decide (a1.2.2.2.1<((List.getD b.1.1.2.1 a1.1.toNat (0,0,[],(0,[],()),())).2.2.1.length:Int)) else false) (br (decide ((List.getD b.1.1.2.1 a1.1.toNat (0,0,[],(0,[],()),())).2.1=1)) (qd (q5g D (b.1.1.1,b.1.1.2.1,()) (a1.1,a1.2.1,if 0>a1.2.2.1 then 0 else a1.2.2.1,if 0>a1.2.2.2.1 then 0 else a1.2.2.2.1,a1.2.2.2.2)) fun b↦some (((b.2.1.1,b.2.1.2.1,()),b.1.1,b.1.2.1,b.1.2.2.1,()),())) (br (bif decide ((List.getD b.1.1.2.1 a1.1.toNat (0,0,[],(0,[],()),())).2.1=0) then true else decide ((if 0>a1.2.2.2.1 then 0 else a1.2.2.2.1)≥((List.getD b.1.1.2.1 a1.1.toNat (0,0,[],(0,[],()),())).2.2.1.length:Int))) (some (((b.1.1.1,b.1.1.2.1,()),(a1.1,a1.2.1,if 0>a1.2.2.1 then 0 else a1.2.2.1,if 0>a1.2.2.2.1 then 0 else a1.2.2.2.1,a1.2.2.2.2),(0,0,0,0,()),2,()),())) (br (decide (0≤if 0>a1.2.2.2.1 then 0 else a1.2.2.2.1)&&decide ((if 0>a1.2.2.2.1 then 0 else a1.2.2.2.1)<((List.getD b.1.1.2.1 a1.1.toNat (0,0,[],(0,[],()),())).2.2.1.length:Int))) (br (decide (0≤(List.getD (List.getD b.1.1.2.1 a1.1.toNat (0,0,[],(0,[],()),())).2.2.1 y0 (0,0,0,())).1)&&decide ((List.getD (List.getD b.1.1.2.1 a1.1.toNat (0,0,[],(0,[],()),())).2.2.1 y0 (0,0,0,())).1<(b.1.1.1.length:Int))) (br (qk0 yq21 (List.getD b.1.1.1 (Int.toNat (List.getD (List.getD b.1.1.2.1 a1.1.toNat (0,0,[],(0,[],()),())).2.2.1 y0 (0,0,0,())).1) (0,0,0,())) (0,wrap .i64 (a1.1+1),a1.2.1,())) (br (decide ((List.getD b.1.1.2.1 a1.1.toNat (0,0,[],(0,[],()),())).2.1=2)) (some (((List.set (List.set b.1.1.1 (Int.toNat (List.getD (List.getD b.1.1.2.1 a1.1.toNat (0,0,[],(0,[],()),())).2.2.1 y0 (0,0,0,())).1) ((List.getD (List.getD b.1.1.2.1 a1.1.toNat (0,0,[],(0,[],()),())).2.2.1 y0 (0,0,0,())).2.1,0,0,())) (Int.toNat (List.getD (List.getD b.1.1.2.1 a1.1.toNat (0,0,[],(0,[],()),())).2.2.1 y0 (0,0,0,())).1) ((List.getD (List.getD b.1.1.2.1 a1.1.toNat (0,0,[],(0,[],()),())).2.2.1 y0 (0,0,0,())).2.2.1,(List.getD (List.set b.1.1.1 (Int.toNat (List.getD (List.getD b.1.1.2.1 a1.1.toNat (0,0,[],(0,[],()),())).2.2.1 y0 (0,0,0,())).1) ((List.getD (List.getD b.1.1.2.1 a1.1.toNat (0,0,[],(0,[],()),())).2.2.1 y0 (0,0,0,())).2.1,0,0,())) (Int.toNat (List.getD (List.getD b.1.1.2.1 a1.1.toNat (0,0,[],(0,[],()),())).2.2.1 y0 (0,0,0,())).1) (0,0,0,())).2),b.1.1.2.1,()),(a1.1,a1.2.1,if 0>a1.2.2.1 then 0 else a1.2.2.1,wrap .i64 ((if 0>a1.2.2.2.1 then 0 else a1.2.2.2.1)+1),a1.2.2.2.2),(0,0,0,0,()),0,()),())) (some (((List.set b.1.1.1 (Int.toNat (List.getD (List.getD b.1.1.2.1 a1.1.toNat (0,0,[],(0,[],()),())).2.2.1 y0 (0,0,0,())).1) ((List.getD (List.getD b.1.1.2.1 a1.1.toNat (0,0,[],(0,[],()),())).2.2.1 y0 (0,0,0,())).2.1,0,0,()),b.1.1.2.1,()),(a1.1,a1.2.1,if 0>a1.2.2.1 then 0 else a1.2.2.1,wrap .i64 ((if 0>a1.2.2.2.1 then 0 else a1.2.2.2.1)+1),a1.2.2.2.2),(0,0,0,0,()),0,()),()))) (some (((b.1.1.1,b.1.1.2.1,()),(a1.1,a1.2.1,if 0>a1.2.2.1 then 0 else a1.2.2.1,wrap .i64 ((if 0>a1.2.2.2.1 then 0 else a1.2.2.2.1)+1),a1.2.2.2.2),(0,0,0,0,()),0,()),()))) none) none))) (br (decide ((List.getD b.1.1.2.1 a1.1.toNat (0,0,[],(0,[],()),())).2.1=1)) (qd (q5g D (b.1.1.1,b.1.1.2.1,()) a1) fun b↦some (((b.2.1.1,b.2.1.2.1,()),b.1.1,b.1.2.1,b.1.2.2.1,()),())) (br (bif decide ((List.getD b.1.1.2.1 a1.1.toNat (0,0,[],(0,[],()),())).2.1=0) then true else decide (a1.2.2.2.1≥((List.getD b.1.1.2.1 a1.1.toNat (0,0,[],(0,[],()),())).2.2.1.length:Int))) (some (((b.1.1.1,b.1.1.2.1,()),a1,(0,0,0,0,()),2,()),())) (br (decide (0≤a1.2.2.2.1)&&decide (a1.2.2.2.1<((List.getD b.1.1.2.1 a1.1.toNat (0,0,[],(0,[],()),())).2.2.1.length:Int))) (br (decide (0≤(List.getD (List.getD b.1.1.2.1 a1.1.toNat (0,0,[],(0,[],()),())).2.2.1 a1.2.2.2.1.toNat (0,0,0,())).1)&&decide ((List.getD (List.getD b.1.1.2.1 a1.1.toNat (0,0,[],(0,[],()),())).2.2.1 a1.2.2.2.1.toNat (0,0,0,())).1<(b.1.1.1.length:Int))) (br (qk0 yq21 (List.getD b.1.1.1 (Int.toNat (List.getD (List.getD b.1.1.2.1 a1.1.toNat (0,0,[],(0,[],()),())).2.2.1 a1.2.2.2.1.toNat (0,0,0,())).1) (0,0,0,())) (0,wrap .i64 (a1.1+1),a1.2.1,())) (br (decide ((List.getD b.1.1.2.1 a1.1.toNat (0,0,[],(0,[],()),())).2.1=2)) (some (((List.set (List.set b.1.1.1 (Int.toNat (List.getD (List.getD b.1.1.2.1 a1.1.toNat (0,0,[],(0,[],()),())).2.2.1 a1.2.2.2.1.toNat (0,0,0,())).1) ((List.getD (List.getD b.1.1.2.1 a1.1.toNat (0,0,[],(0,[],()),())).2.2.1 a1.2.2.2.1.toNat (0,0,0,())).2.1,0,0,())) (Int.toNat (List.getD (List.getD b.1.1.2.1 a1.1.toNat (0,0,[],(0,[],()),())).2.2.1 a1.2.2.2.1.toNat (0,0,0,())).1) ((List.getD (List.getD b.1.1.2.1 a1.1.toNat (0,0,[],(0,[],()),())).2.2.1 a1.2.2.2.1.toNat (0,0,0,())).2.2.1,(List.getD (List.set b.1.1.1 (Int.toNat (List.getD (List.getD b.1.1.2.1 a1.1.toNat (0,0,[],(0,[],()),())).2.2.1 a1.2.2.2.1.toNat (0,0,0,())).1) ((List.getD (List.getD b.1.1.2.1 a1.1.toNat (0,0,[],(0,[],()),())).2.2.1 a1.2.2.2.1.toNat (0,0,0,())).2.1,0,0,())) (Int.toNat (List.getD (List.getD b.1.1.2.1 a1.1.toNat (0,0,[],(0,[],()),())).2.2.1 a1.2.2.2.1.toNat (0,0,0,())).1) (0,0,0,())).2),b.1.1.2.1,()),(a1.1,a1.2.1,a1.2.2.1,wrap .i64 (a1.2.2.2.1+1),a1.2.2.2.2),(0,0,0,0,()),0,()),())) (some (((List.set b.1.1.1 (Int.toNat (List.getD (List.getD b.1.1.2.1 a1.1.toNat (0,0,[],(0,[],()),())).2.2.1 a1.2.2.2.1.toNat (0,0,0,())).1) ((List.getD (List.getD b.1.1.2.1 a1.1.toNat (0,0,[],(0,[],()),())).2.2.1 a1.2.2.2.1.toNat (0,0,0,())).2.1,0,0,()),b.1.1.2.1,()),(a1.1,a1.2.1,a1.2.2.1,wrap .i64 (a1.2.2.2.1+1),a1.2.2.2.2),(0,0,0,0,()),0,()),()))) (some (((b.1.1.1,b.1.1.2.1,()),(a1.1,a1.2.1,a1.2.2.1,wrap .i64 (a1.2.2.2.1+1),a1.2.2.2.2),(0,0,0,0,()),0,()),()))) none) none)))) none)) none))
def q3b (D:DX)(n:Nat) (a0:tq12) (a1:tq34):Option tq6:=qbdd D n a0 a1
theorem qbrv (D:DX)(n:Nat) (a0:tq12) (a1:tq34):rF D n 153 (a0,(a1,()))=q3b D n a0 a1:=by kernel_rfl

def qbib (D:DX)(n:Nat) (a0:tq13) (a1:tq34):Option tq11:=qd (qhz D a0) fun b↦br (decide (b.1.1.2.2.2.2.1.length+1≤qb6)) (some (((b.1.1.1,b.1.1.2.1,b.1.1.2.2.1,b.1.1.2.2.2.1,b.1.1.2.2.2.2.1++[a1],()),()),())) none
def q91 (D:DX)(n:Nat) (a0:tq13) (a1:tq34):Option tq11:=qbib D n a0 a1
theorem qbwz (D:DX)(n:Nat) (a0:tq13) (a1:tq34):rF D n 154 (a0,(a1,()))=q91 D n a0 a1:=by kernel_rfl

def qbit (D:DX)(n:Nat) (a0:tq13) (a1:tq34):Option tq11:=qd (qhz D a0) fun b↦br (decide ((b.1.1.2.2.2.2.1.length:Int)>0)) (br (decide (0≤wrap .i64 ((b.1.1.2.2.2.2.1.length:Int) - 1))&&decide (wrap .i64 ((b.1.1.2.2.2.2.1.length:Int) - 1)<(b.1.1.2.2.2.2.1.length:Int))) (some (((b.1.1.1,b.1.1.2.1,b.1.1.2.2.1,b.1.1.2.2.2.1,List.set b.1.1.2.2.2.2.1 (Int.toNat (wrap .i64 ((b.1.1.2.2.2.2.1.length:Int) - 1))) a1,()),()),())) none) (some (((b.1.1.1,b.1.1.2.1,b.1.1.2.2.1,b.1.1.2.2.2.1,b.1.1.2.2.2.2.1,()),()),()))
def q9p (D:DX)(n:Nat) (a0:tq13) (a1:tq34):Option tq11:=qbit D n a0 a1
theorem qbxm (D:DX)(n:Nat) (a0:tq13) (a1:tq34):rF D n 155 (a0,(a1,()))=q9p D n a0 a1:=by kernel_rfl

def qbmq (D:DX)(n:Nat) (a0:tq13):Option tq11:=qd (qhz D a0) fun b↦br (decide ((b.1.1.2.2.2.2.1.length:Int)>0)) (br (decide (0≤wrap .i64 ((b.1.1.2.2.2.2.1.length:Int) - 1))&&decide (wrap .i64 ((b.1.1.2.2.2.2.1.length:Int) - 1)≤(b.1.1.2.2.2.2.1.length:Int))) (some (((b.1.1.1,b.1.1.2.1,b.1.1.2.2.1,b.1.1.2.2.2.1,List.take (Int.toNat (wrap .i64 ((b.1.1.2.2.2.2.1.length:Int) - 1))) b.1.1.2.2.2.2.1,()),()),())) none) (some (((b.1.1.1,b.1.1.2.1,b.1.1.2.2.1,b.1.1.2.2.2.1,b.1.1.2.2.2.2.1,()),()),()))
def qbc1 (D:DX)(n:Nat) (a0:tq13):Option tq11:=qbmq D n a0
theorem qby4 (D:DX)(n:Nat) (a0:tq13):rF D n 156 (a0,())=qbc1 D n a0:=by kernel_rfl

def qyn (D:DX)(n:Nat) (z0:Int) (z1:tq5):Option tq4:=let y5:=List.getD z1.2.1 z0.toNat ([],0,false,[],[],());let y2:=List.set z1.2.1 z0.toNat (y5.1,wrap .i64 (y5.2.1+1),y5.2.2);let y6:=List.getD y2 z0.toNat ([],0,false,[],[],());let y0:=List.set y2 z0.toNat (y6.1,y6.2.1,false,y6.2.2.2);let y4:=List.getD y0 z0.toNat ([],0,false,[],[],());let y1:=List.set y0 z0.toNat (y4.1,y4.2.1,y4.2.2.1,[],y4.2.2.2.2);let y3:=List.getD y1 z0.toNat ([],0,false,[],[],());br (decide (0≤z0)&&decide (z0<(z1.2.1.length:Int))) (some ((),(z1.1,List.set y1 z0.toNat (y3.1,y3.2.1,y3.2.2.1,y3.2.2.2.1,[],y3.2.2.2.2.2),z1.2.2),())) none
def qpe (D:DX)(n:Nat) (z0:Int) (z1:tq5):Option tq4:=qyn D n z0 z1
def qrx (D:DX)(n:Nat) (j0:Int→tq5→Option tq4) (a0:tq5) (a1:Int) (a2:tq41):Option tq4:=qd (qh4 D a0 a1) fun b↦br (decide (b.1.1≥0)) (br (decide (0≤b.1.1)&&decide (b.1.1<(b.2.1.2.2.2.1.length:Int))) (qd (qik D a2) fun b_1↦let c:=List.getD b.2.1.2.2.2.1 b.1.1.toNat (0,(0,0,0,()),0,0,0,(0,[],()),());let d:=List.set b.2.1.2.2.2.1 b.1.1.toNat (c.1,c.2.1,c.2.2.1,c.2.2.2.1,b.2.1.2.2.1,c.2.2.2.2.2);let a:=List.getD d b.1.1.toNat (0,(0,0,0,()),0,0,0,(0,[],()),());br (decide (0≤b.1.1)&&decide (b.1.1<(d.length:Int))) (j0 a1 (b.2.1.1,b.2.1.2.1,b.2.1.2.2.1,List.set d b.1.1.toNat (a.1,a.2.1,a.2.2.1,a.2.2.2.1,a.2.2.2.2.1,(b_1.1.1.1,b_1.1.1.2.1,()),a.2.2.2.2.2.2),b.2.1.2.2.2.2)) none) none) (j0 a1 b.2.1)
def qq7 (D:DX)(n:Nat) (a0:tq5) (a1:Int) (a2:tq41):Option tq4:=qrx D n (fun z0 z1=>qpe D n z0 z1) a0 a1 a2
def qyk (z0:Int) (z1:tq5):St:=stq 55 [(0,AV.addr 0 []),(1,AV.val yq34 z0)] [(0,Root.mk yq0 kq15 z1 true)]
theorem qbat (D:DX)(n:Nat) (z0) (z1):qg9 ctx D (ctx.hints 157) n (qlk (bF 157) [.r,.r]) (qyk z0 z1) (lF 157)=qpe D n z0 z1:=by kernel_rfl
theorem qbdt (D:DX)(n:Nat) (K:St→Option (Out ctx 157)) (a0:tq5) (a1:Int) (a2:tq41):qbbn ctx D (ctx.hints 157) n 2 (bF 157) (qbph (C:=ctx) qlc 157 (a0,(a1,(a2,())))) K (lF 157)=qrx D n (fun z0 z1=>K (qyk z0 z1)) a0 a1 a2:=by kernel_rfl
theorem qbf5 (D:DX)(n:Nat) (a0:tq5) (a1:Int) (a2:tq41):rF D n 157 (a0,(a1,(a2,())))=qq7 D n a0 a1 a2:=
 (qb20 qlc D n 157 _ (by kernel_rfl)).trans ((qb3x ctx D (ctx.hints 157) n 2 (lF 157) (bF 157) [.r,.r] _ rfl (by kernel_rfl)).symm.trans ((qbdt D n (fun S=>qg9 ctx D (ctx.hints 157) n (qlk (bF 157) [.r,.r]) S (lF 157)) a0 a1 a2).trans (by simp only[qbat];rfl)))

def q4f (D:DX)(n:Nat) (a0:tq5) (a1:Int) (a2:tq41):Option tq4:=qd (qh4 D a0 a1) fun b↦br (decide (b.1.1<0)) (some ((),b.2.1,())) (br (decide (0≤b.1.1)&&decide (b.1.1<(b.2.1.2.2.2.1.length:Int))) (qd (qik D a2) fun b_1↦let c:=List.getD b.2.1.2.2.2.1 b.1.1.toNat (0,(0,0,0,()),0,0,0,(0,[],()),());let d:=List.set b.2.1.2.2.2.1 b.1.1.toNat (c.1,c.2.1,c.2.2.1,b.2.1.2.2.1,c.2.2.2.2);let a:=List.getD d b.1.1.toNat (0,(0,0,0,()),0,0,0,(0,[],()),());br (decide (0≤b.1.1)&&decide (b.1.1<(d.length:Int))) (br (decide (b.2.1.2.2.2.2.1.length+1≤qb6)) (some ((),(b.2.1.1,b.2.1.2.1,b.2.1.2.2.1,List.set d b.1.1.toNat (a.1,a.2.1,a.2.2.1,a.2.2.2.1,a.2.2.2.2.1,(b_1.1.1.1,b_1.1.1.2.1,()),a.2.2.2.2.2.2),b.2.1.2.2.2.2.1++[b.1.1],b.2.1.2.2.2.2.2),())) none) none) none)
def qti (D:DX)(n:Nat) (a0:tq5) (a1:Int) (a2:tq41):Option tq4:=q4f D n a0 a1 a2
theorem qbhk (D:DX)(n:Nat) (a0:tq5) (a1:Int) (a2:tq41):rF D n 158 (a0,(a1,(a2,())))=qti D n a0 a1 a2:=by kernel_rfl

def qbig (D:DX)(n:Nat) (a0:tq38) (a1:List tq44):Option tq43:=qd (qj9 D a0) fun b↦br (!b.1.1) (some ((-1,()),())) (qd (qxg D a0 a1) fun b↦some ((b.1.1.2.2.1,()),()))
def q9m (D:DX)(n:Nat) (a0:tq38) (a1:List tq44):Option tq43:=qbig D n a0 a1
theorem qbwq (D:DX)(n:Nat) (a0:tq38) (a1:List tq44):rF D n 159 (a0,(a1,()))=q9m D n a0 a1:=by kernel_rfl

def qy8 (D:DX)(n:Nat) (go:List tq44→Int→Int→Int→Int→tq38→tq22→tq22→tq24→Option tq14) (K0:List tq44→tq38→tq22→tq22→Option tq14) (x0:List tq44) (x1 x2 x3 x4:Int) (x5:tq38) (x6 x7:tq22) (x8:tq24):Option tq14:=br (decide (x4<x3)) (br (decide (0≤x4)&&decide (x4<(x8.2.1.length:Int))) (qd (qew D x0 (List.getD x8.2.1 x4.toNat 0)) fun b↦qd (q4b D x5 (List.getD x8.2.1 x4.toNat 0) b.1.1 x2 x1) fun b_1↦br (decide (x7.2.2.1.length+1≤qb6)) (br (decide (x5.1=7)) (br (decide (x7.2.1.2.1.length+1≤qb6)) (go x0 x1 x2 x3 (wrap .i64 (x4+1)) x5 x6 (x7.1,(x7.2.1.1,x7.2.1.2.1++[b.1.1],x7.2.1.2.2),x7.2.2.1++[(List.getD x8.2.1 x4.toNat 0,b.1.1,b_1.1.1,())],x7.2.2.2) x8) none) (go x0 x1 x2 x3 (wrap .i64 (x4+1)) x5 x6 (x7.1,x7.2.1,x7.2.2.1++[(List.getD x8.2.1 x4.toNat 0,b.1.1,b_1.1.1,())],x7.2.2.2) x8)) none) none) (K0 x0 x5 x6 x7)
def qkm (D:DX)(n:Nat) (K0:List tq44→tq38→tq22→tq22→Option tq14):Nat→(List tq44)→Int→Int→Int→Int→tq38→tq22→tq22→tq24→Option tq14 | 0=>(fun x0 x1 x2 x3 x4 x5 x6 x7 x8=>none) | m+1=>(fun x0 x1 x2 x3 x4 x5 x6 x7 x8=>qy8 D n (qkm D n K0 m) K0 x0 x1 x2 x3 x4 x5 x6 x7 x8)
def qkx (D:DX)(n:Nat) (d:List tq44) (c:tq38) (e a:tq22):Option tq14:=br (decide (c.1=10)) (qd (qep D c.2.2.1) fun b↦qd (qew D d b.1.1) fun b↦br (b.1.1 != 0) (some (((a.1,(0,[wrap .i64 (b.1.1 - 1)],()),a.2.2.1,()),true,()),())) (some (((a.1,(3,a.2.1.2.1,()),a.2.2.1,()),true,()),()))) (some (((a.1,(a.2.1.1,a.2.1.2.1,()),a.2.2.1,()),true,()),()))
def qwb (D:DX)(n:Nat):(List tq44)→(Int)→(Int)→(Int)→(Int)→tq38→tq22→tq22→tq24→Option tq14:=(fun x0 x1 x2 x3 x4 x5 x6 x7 x8=>qkm D n (fun a b c d=>qkx D n a b c d) n x0 x1 x2 x3 x4 x5 x6 x7 x8)
def q3n (D:DX)(n:Nat) (lp0:List tq44→Int→Int→Int→Int→tq38→tq22→tq22→tq24→Option tq14) (a0:tq38) (a1:List tq44):Option tq14:=qd (qj9 D a0) fun b↦br (!b.1.1) (some (((false,(0,[],()),[],()),false,()),())) (qd (qxg D a0 a1) fun b↦br (decide (b.1.1.2.2.1≥0)) (some (((false,(0,[],()),[],()),false,()),())) (qd (q35 D a0 a1) fun b_1↦br b_1.1.2.1 (some (((true,(b_1.1.1.1,b_1.1.1.2.1,()),[],()),true,()),())) (qd (qcp D) fun b_2↦qd (qew D a1 b_2.1.1) fun b_3↦qd (qfj D a0.2.1) fun b_4↦qd (qew D a1 b_4.1.1) fun b_5↦br (decide (a0.1=9)) (qd (qfj D (wrap .i64 (b_3.1.1 - 1))) fun b_6↦qd (qew D a1 b_6.1.1) fun b_7↦br (bif bif decide (a0.1=1) then true else decide (a0.1=2) then true else decide (a0.1=3)) (qd (qsa D a0 a1 b_7.1.1 b_3.1.1) fun b↦some (((false,(0,[],()),b.1.1,()),true,()),())) (qd (qjl D b.1.1.2.1) fun b_8↦lp0 a1 b_3.1.1 b_7.1.1 (b_8.2.1.length:Int) 0 a0 (false,(0,[],()),[],()) (false,(0,[],()),[],()) (b.1.1.1,b_8.2.1,b.1.1.2.2))) (br (bif bif decide (a0.1=1) then true else decide (a0.1=2) then true else decide (a0.1=3)) (qd (qsa D a0 a1 b_5.1.1 b_3.1.1) fun b↦some (((false,(0,[],()),b.1.1,()),true,()),())) (qd (qjl D b.1.1.2.1) fun b_6↦lp0 a1 b_3.1.1 b_5.1.1 (b_6.2.1.length:Int) 0 a0 (false,(0,[],()),[],()) (false,(0,[],()),[],()) (b.1.1.1,b_6.2.1,b.1.1.2.2))))))
def q4a (D:DX)(n:Nat) (a0:tq38) (a1:List tq44):Option tq14:=q3n D n (qwb D n) a0 a1
def qy7 (x0:List tq44) (x1 x2 x3 x4:Int) (x5:tq38) (x6 x7:tq22) (x8:tq24):St:=stq 154 [(1,AV.val yq25 x0),(2,AV.addr 2 []),(4,AV.addr 4 []),(9,AV.val yq34 x1),(11,AV.val yq34 x2),(13,AV.addr 13 []),(95,AV.brw 26 [Stp.snd,Stp.fst] 0),(96,AV.val yq34 x3),(97,AV.val yq34 x4)] [(2,Root.mk yq21 Mk.no x5 true),(4,Root.mk yq11 kq22 x6 true),(13,Root.mk yq11 kq22 x7 true),(26,Root.mk yq12 kq28 x8 true)]
def q77 (a:List tq44) (b:tq38) (c d:tq22):St:=stq 154 [(1,AV.val yq25 a),(2,AV.addr 2 []),(4,AV.addr 4 []),(13,AV.addr 13 [])] [(2,Root.mk yq21 Mk.no b true),(4,Root.mk yq11 kq22 c true),(13,Root.mk yq11 kq22 d true)]
theorem qbml (D:DX)(n:Nat) (K:KT 160):∀ (m:Nat) (x0:List tq44) (x1 x2 x3 x4:Int) (x5:tq38) (x6 x7:tq22) (x8:tq24),LF D n 160 pq7 m (qy7 x0 x1 x2 x3 x4 x5 x6 x7 x8) K=qkm D n (fun a b c d=>K (Ex.exit 0) (q77 a b c d)) m x0 x1 x2 x3 x4 x5 x6 x7 x8:=eL9 (fun F=>qy8 D n F (fun a b c d=>K (Ex.exit 0) (q77 a b c d))) (fun _ _ _ _ _ _ _ _ _ =>qz ..) (fun _ _ _ _ _ _ _ _ _ _ =>by kernel_rfl) (fun _ _ _ _ _ _ _ _ _ _ =>rfl)
theorem qbjk (D:DX)(n:Nat) (x0) (x1) (x2) (x3) (x4) (x5) (x6) (x7) (x8):LF D n 160 pq7 n (qy7 x0 x1 x2 x3 x4 x5 x6 x7 x8) (CF D n 160 [] pq7 (lF 160))=qwb D n x0 x1 x2 x3 x4 x5 x6 x7 x8 :=by rw[qbml];kernel_rfl
theorem qbsr (D:DX)(n:Nat) (a0:tq38) (a1:List tq44):rF D n 160 (a0,(a1,()))=q4a D n a0 a1:=by
 have h:rF D n 160 (a0,(a1,()))=q3n D n (fun x0 x1 x2 x3 x4 x5 x6 x7 x8=>LF D n 160 pq7 n (qy7 x0 x1 x2 x3 x4 x5 x6 x7 x8) (CF D n 160 [] pq7 (lF 160))) a0 a1:=by kernel_rfl
 rw[h]
 simp only[qbjk]
 rfl

def qbfo (D:DX)(n:Nat) (a0:tq12) (a1:Int) (a2:List tq38) (a3:tq41):Option tq8:=let y0:=List.getD a0.2.1 a1.toNat (0,0,[],(0,[],()),());qd (qkl D a0) fun b↦qd (qkp D a0) fun b_1↦br (!b_1.1.1) (some (((b.1.1.1,b.1.1.2.1,()),(0,0,0,0,()),false,()),())) (qd (qbl D a1 0 (wrap .i64 ((a0.2.1.length:Int) - 1))) fun b_2↦br (!b_2.1.1) (some (((b.1.1.1,b.1.1.2.1,()),(0,0,0,0,()),false,()),())) (qd (qd1 D a0.1 (Clo.mk 177 [CapV.rptr yq34 a1])) fun b_3↦br b_3.1.1 (some (((b.1.1.1,b.1.1.2.1,()),(0,0,0,0,()),false,()),())) (br (decide (0≤a1)&&decide (a1<(a0.2.1.length:Int))) (qd (qkl D a0) fun b_4↦qd (qdb D a2) fun b_5↦qd (qik D a3) fun b_6↦br (decide (0≤a1)&&decide (a1<(b_4.1.1.2.1.length:Int))) (qd (qkp D (b_4.1.1.1,List.set b_4.1.1.2.1 a1.toNat (wrap .i64 (y0.1+1),1,b_5.1.1,(b_6.1.1.1,b_6.1.1.2.1,()),()),())) fun b_7↦br (!b_7.1.1) (some (((b.1.1.1,b.1.1.2.1,()),(0,0,0,0,()),false,()),())) (some (((b_4.1.1.1,List.set b_4.1.1.2.1 a1.toNat (wrap .i64 (y0.1+1),1,b_5.1.1,(b_6.1.1.1,b_6.1.1.2.1,()),()),()),(a1,wrap .i64 (y0.1+1),0,0,()),true,()),()))) none) none)))
def q6t (D:DX)(n:Nat) (a0:tq12) (a1:Int) (a2:List tq38) (a3:tq41):Option tq8:=qbfo D n a0 a1 a2 a3
theorem qbt9 (D:DX)(n:Nat) (a0:tq12) (a1:Int) (a2:List tq38) (a3:tq41):rF D n 161 (a0,(a1,(a2,(a3,()))))=q6t D n a0 a1 a2 a3:=by kernel_rfl

def qem (D:DX)(n:Nat) (a1:Clo) (go:List tq18→Int→Int→Option tq43) (K0:Int→Option tq43) (K1:Option tq43) (x0:List tq18) (x1 x2:Int):Option tq43:=br (decide (x2<x1)) (br (decide (0≤x2)&&decide (x2<(x0.length:Int))) (qd (qbk ctx D a1 [CapV.val yq9 (List.getD x0 x2.toNat (0,0,[],(0,[],()),()))] Ty.bool) fun b↦br b (K0 x2) (go x0 x1 (wrap .i64 (x2+1)))) none) K1
def qb2 (D:DX)(n:Nat) (a1:Clo) (K0:Int→Option tq43) (K1:Option tq43):Nat→(List tq18)→Int→Int→Option tq43 | 0=>(fun x0 x1 x2=>none) | m+1=>(fun x0 x1 x2=>qem D n a1 (qb2 D n a1 K0 K1 m) K0 K1 x0 x1 x2)
def qd2 (D:DX)(n:Nat) (a1:Clo) (a:Int):Option tq43:=some ((a,()),())
def qd0 (D:DX)(n:Nat) (a1:Clo):Option tq43:=some ((-1,()),())
def qej (D:DX)(n:Nat) (a1:Clo):(List tq18)→(Int)→(Int)→Option tq43:=(fun x0 x1 x2=>qb2 D n a1 (fun a=>qd2 D n a1 a) (qd0 D n a1) n x0 x1 x2)
def qey (D:DX)(n:Nat) (a1:Clo) (lp0:List tq18→Int→Int→Option tq43) (a0:List tq18):Option tq43:=lp0 a0 (a0.length:Int) 0
def qe0 (D:DX)(n:Nat) (a0:List tq18) (a1:Clo):Option tq43:=qey D n a1 (qej D n a1) a0
def qeu (a1:Clo) (x0:List tq18) (x1 x2:Int):St:=stq 19 [(0,AV.val yq8 x0),(1,AV.cloV a1),(7,AV.val yq34 x1),(8,AV.val yq34 x2)] []
def qhl (a1:Clo) (a:Int):St:=stq 19 [(4,AV.val yq34 a)] []
def qhg (a1:Clo):St:=stq 19 [] []
theorem qny (D:DX)(n:Nat) (a1:Clo) (K:KT 162):∀ (m:Nat) (x0:List tq18) (x1 x2:Int),LF D n 162 pq2 m (qeu a1 x0 x1 x2) K=qb2 D n a1 (fun a=>K (Ex.ret) (qhl a1 a)) (K (Ex.exit 0) (qhg a1)) m x0 x1 x2:=eL3 (fun F=>qem D n a1 F (fun a=>K (Ex.ret) (qhl a1 a)) (K (Ex.exit 0) (qhg a1))) (fun _ _ _ =>qz ..) (fun _ _ _ _ =>by kernel_rfl) (fun _ _ _ _ =>rfl)
theorem qno (D:DX)(n:Nat) (a1:Clo) (x0) (x1) (x2):LF D n 162 pq2 n (qeu a1 x0 x1 x2) (CF D n 162 [] pq2 (lF 162))=qej D n a1 x0 x1 x2 :=by rw[qny];kernel_rfl
theorem qpp (D:DX)(n:Nat) (a0:List tq18) (a1:Clo):rF D n 162 (a0,(a1,()))=qe0 D n a0 a1:=by
 have h:rF D n 162 (a0,(a1,()))=qey D n a1 (fun x0 x1 x2=>LF D n 162 pq2 n (qeu a1 x0 x1 x2) (CF D n 162 [] pq2 (lF 162))) a0:=by kernel_rfl
 rw[h]
 simp only[qno]
 rfl

def qfu (D:DX)(n:Nat) (a1:Clo) (go:List tq38→Int→Int→Option tq43) (K0:Int→Option tq43) (K1:Option tq43) (x0:List tq38) (x1 x2:Int):Option tq43:=br (decide (x2<x1)) (br (decide (0≤x2)&&decide (x2<(x0.length:Int))) (qd (qbk ctx D a1 [CapV.val yq21 (List.getD x0 x2.toNat (0,0,0,()))] Ty.bool) fun b↦br b (K0 x2) (go x0 x1 (wrap .i64 (x2+1)))) none) K1
def qcb (D:DX)(n:Nat) (a1:Clo) (K0:Int→Option tq43) (K1:Option tq43):Nat→(List tq38)→Int→Int→Option tq43 | 0=>(fun x0 x1 x2=>none) | m+1=>(fun x0 x1 x2=>qfu D n a1 (qcb D n a1 K0 K1 m) K0 K1 x0 x1 x2)
def qfd (D:DX)(n:Nat) (a1:Clo) (a:Int):Option tq43:=some ((a,()),())
def qfb (D:DX)(n:Nat) (a1:Clo):Option tq43:=some ((-1,()),())
def qfl (D:DX)(n:Nat) (a1:Clo):(List tq38)→(Int)→(Int)→Option tq43:=(fun x0 x1 x2=>qcb D n a1 (fun a=>qfd D n a1 a) (qfb D n a1) n x0 x1 x2)
def qga (D:DX)(n:Nat) (a1:Clo) (lp0:List tq38→Int→Int→Option tq43) (a0:List tq38):Option tq43:=lp0 a0 (a0.length:Int) 0
def qf8 (D:DX)(n:Nat) (a0:List tq38) (a1:Clo):Option tq43:=qga D n a1 (qfl D n a1) a0
def qft (a1:Clo) (x0:List tq38) (x1 x2:Int):St:=stq 19 [(0,AV.val yq19 x0),(1,AV.cloV a1),(7,AV.val yq34 x1),(8,AV.val yq34 x2)] []
def qit (a1:Clo) (a:Int):St:=stq 19 [(4,AV.val yq34 a)] []
def qiq (a1:Clo):St:=stq 19 [] []
theorem qq4 (D:DX)(n:Nat) (a1:Clo) (K:KT 163):∀ (m:Nat) (x0:List tq38) (x1 x2:Int),LF D n 163 pq2 m (qft a1 x0 x1 x2) K=qcb D n a1 (fun a=>K (Ex.ret) (qit a1 a)) (K (Ex.exit 0) (qiq a1)) m x0 x1 x2:=eL3 (fun F=>qfu D n a1 F (fun a=>K (Ex.ret) (qit a1 a)) (K (Ex.exit 0) (qiq a1))) (fun _ _ _ =>qz ..) (fun _ _ _ _ =>by kernel_rfl) (fun _ _ _ _ =>rfl)
theorem qqj (D:DX)(n:Nat) (a1:Clo) (x0) (x1) (x2):LF D n 163 pq2 n (qft a1 x0 x1 x2) (CF D n 163 [] pq2 (lF 163))=qfl D n a1 x0 x1 x2 :=by rw[qq4];kernel_rfl
theorem qto (D:DX)(n:Nat) (a0:List tq38) (a1:Clo):rF D n 163 (a0,(a1,()))=qf8 D n a0 a1:=by
 have h:rF D n 163 (a0,(a1,()))=qga D n a1 (fun x0 x1 x2=>LF D n 163 pq2 n (qft a1 x0 x1 x2) (CF D n 163 [] pq2 (lF 163))) a0:=by kernel_rfl
 rw[h]
 simp only[qqj]
 rfl

def qes (D:DX)(n:Nat) (a1:Clo) (go:List tq44→Int→Int→Option tq43) (K0:Int→Option tq43) (K1:Option tq43) (x0:List tq44) (x1 x2:Int):Option tq43:=br (decide (x2<x1)) (br (decide (0≤x2)&&decide (x2<(x0.length:Int))) (qd (qbk ctx D a1 [CapV.val yq26 (List.getD x0 x2.toNat (0,0,()))] Ty.bool) fun b↦br b (K0 x2) (go x0 x1 (wrap .i64 (x2+1)))) none) K1
def qb1 (D:DX)(n:Nat) (a1:Clo) (K0:Int→Option tq43) (K1:Option tq43):Nat→(List tq44)→Int→Int→Option tq43 | 0=>(fun x0 x1 x2=>none) | m+1=>(fun x0 x1 x2=>qes D n a1 (qb1 D n a1 K0 K1 m) K0 K1 x0 x1 x2)
def qd4 (D:DX)(n:Nat) (a1:Clo) (a:Int):Option tq43:=some ((a,()),())
def qd3 (D:DX)(n:Nat) (a1:Clo):Option tq43:=some ((-1,()),())
def qee (D:DX)(n:Nat) (a1:Clo):(List tq44)→(Int)→(Int)→Option tq43:=(fun x0 x1 x2=>qb1 D n a1 (fun a=>qd4 D n a1 a) (qd3 D n a1) n x0 x1 x2)
def qe4 (D:DX)(n:Nat) (a1:Clo) (lp0:List tq44→Int→Int→Option tq43) (a0:List tq44):Option tq43:=lp0 a0 (a0.length:Int) 0
def qe5 (D:DX)(n:Nat) (a0:List tq44) (a1:Clo):Option tq43:=qe4 D n a1 (qee D n a1) a0
def qer (a1:Clo) (x0:List tq44) (x1 x2:Int):St:=stq 19 [(0,AV.val yq25 x0),(1,AV.cloV a1),(7,AV.val yq34 x1),(8,AV.val yq34 x2)] []
def qhb (a1:Clo) (a:Int):St:=stq 19 [(4,AV.val yq34 a)] []
def qhi (a1:Clo):St:=stq 19 [] []
theorem qod (D:DX)(n:Nat) (a1:Clo) (K:KT 164):∀ (m:Nat) (x0:List tq44) (x1 x2:Int),LF D n 164 pq2 m (qer a1 x0 x1 x2) K=qb1 D n a1 (fun a=>K (Ex.ret) (qhb a1 a)) (K (Ex.exit 0) (qhi a1)) m x0 x1 x2:=eL3 (fun F=>qes D n a1 F (fun a=>K (Ex.ret) (qhb a1 a)) (K (Ex.exit 0) (qhi a1))) (fun _ _ _ =>qz ..) (fun _ _ _ _ =>by kernel_rfl) (fun _ _ _ _ =>rfl)
theorem qnn (D:DX)(n:Nat) (a1:Clo) (x0) (x1) (x2):LF D n 164 pq2 n (qer a1 x0 x1 x2) (CF D n 164 [] pq2 (lF 164))=qee D n a1 x0 x1 x2 :=by rw[qod];kernel_rfl
theorem qpf (D:DX)(n:Nat) (a0:List tq44) (a1:Clo):rF D n 164 (a0,(a1,()))=qe5 D n a0 a1:=by
 have h:rF D n 164 (a0,(a1,()))=qe4 D n a1 (fun x0 x1 x2=>LF D n 164 pq2 n (qer a1 x0 x1 x2) (CF D n 164 [] pq2 (lF 164))) a0:=by kernel_rfl
 rw[h]
 simp only[qnn]
 rfl

def qel (D:DX)(n:Nat) (a1:Clo) (go:List tq34→Int→Int→Option tq43) (K0:Int→Option tq43) (K1:Option tq43) (x0:List tq34) (x1 x2:Int):Option tq43:=br (decide (x2<x1)) (br (decide (0≤x2)&&decide (x2<(x0.length:Int))) (qd (qbk ctx D a1 [CapV.val yq17 (List.getD x0 x2.toNat (0,0,0,0,()))] Ty.bool) fun b↦br b (K0 x2) (go x0 x1 (wrap .i64 (x2+1)))) none) K1
def qb0 (D:DX)(n:Nat) (a1:Clo) (K0:Int→Option tq43) (K1:Option tq43):Nat→(List tq34)→Int→Int→Option tq43 | 0=>(fun x0 x1 x2=>none) | m+1=>(fun x0 x1 x2=>qel D n a1 (qb0 D n a1 K0 K1 m) K0 K1 x0 x1 x2)
def qd5 (D:DX)(n:Nat) (a1:Clo) (a:Int):Option tq43:=some ((a,()),())
def qdv (D:DX)(n:Nat) (a1:Clo):Option tq43:=some ((-1,()),())
def qed (D:DX)(n:Nat) (a1:Clo):(List tq34)→(Int)→(Int)→Option tq43:=(fun x0 x1 x2=>qb0 D n a1 (fun a=>qd5 D n a1 a) (qdv D n a1) n x0 x1 x2)
def qe6 (D:DX)(n:Nat) (a1:Clo) (lp0:List tq34→Int→Int→Option tq43) (a0:List tq34):Option tq43:=lp0 a0 (a0.length:Int) 0
def qe3 (D:DX)(n:Nat) (a0:List tq34) (a1:Clo):Option tq43:=qe6 D n a1 (qed D n a1) a0
def qeo (a1:Clo) (x0:List tq34) (x1 x2:Int):St:=stq 19 [(0,AV.val yq16 x0),(1,AV.cloV a1),(7,AV.val yq34 x1),(8,AV.val yq34 x2)] []
def qhk (a1:Clo) (a:Int):St:=stq 19 [(4,AV.val yq34 a)] []
def qhe (a1:Clo):St:=stq 19 [] []
theorem qof (D:DX)(n:Nat) (a1:Clo) (K:KT 165):∀ (m:Nat) (x0:List tq34) (x1 x2:Int),LF D n 165 pq2 m (qeo a1 x0 x1 x2) K=qb0 D n a1 (fun a=>K (Ex.ret) (qhk a1 a)) (K (Ex.exit 0) (qhe a1)) m x0 x1 x2:=eL3 (fun F=>qel D n a1 F (fun a=>K (Ex.ret) (qhk a1 a)) (K (Ex.exit 0) (qhe a1))) (fun _ _ _ =>qz ..) (fun _ _ _ _ =>by kernel_rfl) (fun _ _ _ _ =>rfl)
theorem qne (D:DX)(n:Nat) (a1:Clo) (x0) (x1) (x2):LF D n 165 pq2 n (qeo a1 x0 x1 x2) (CF D n 165 [] pq2 (lF 165))=qed D n a1 x0 x1 x2 :=by rw[qof];kernel_rfl
theorem qpq (D:DX)(n:Nat) (a0:List tq34) (a1:Clo):rF D n 165 (a0,(a1,()))=qe3 D n a0 a1:=by
 have h:rF D n 165 (a0,(a1,()))=qe6 D n a1 (fun x0 x1 x2=>LF D n 165 pq2 n (qeo a1 x0 x1 x2) (CF D n 165 [] pq2 (lF 165))) a0:=by kernel_rfl
 rw[h]
 simp only[qne]
 rfl

def qbeh (D:DX)(n:Nat) (a0:Int):Option tq42:=qd (qbp D a0 0 3) fun b↦some ((b.1.1,()),())
def q60 (D:DX)(n:Nat) (a0:Int):Option tq42:=qbeh D n a0
theorem qbur (D:DX)(n:Nat) (a0:Int):rF D n 166 (a0,())=q60 D n a0:=by kernel_rfl

def q96 (D:DX)(n:Nat) (a0:Int):Option tq43:=qd (qjk D a0) fun b↦br (!b.1.1) (some ((-1,()),())) (some ((Int.tmod a0 3,()),()))
def q0k (D:DX)(n:Nat) (a0:Int):Option tq43:=q96 D n a0
theorem qbno (D:DX)(n:Nat) (a0:Int):rF D n 167 (a0,())=q0k D n a0:=by kernel_rfl

def qbl9 (D:DX)(n:Nat) (a0:tq12) (a1:tq34):Option tq7:=let y1:=List.getD a0.2.1 a1.1.toNat (0,0,[],(0,[],()),());let y0:=List.getD y1.2.2.1 a1.2.2.1.toNat (0,0,0,());let y2:=List.getD a0.1 (Int.toNat y0.1) (0,0,0,());br (decide (0≤a1.1)&&decide (a1.1<(a0.2.1.length:Int))) (br (decide (a1.2.2.1≥(y1.2.2.1.length:Int))) (some ((a1,(0,0,0,0,()),3,()),(a0.1,List.set a0.2.1 a1.1.toNat (y1.1,2,y1.2.2),a0.2.2),())) (br (decide (0≤a1.2.2.1)&&decide (a1.2.2.1<(y1.2.2.1.length:Int))) (br (decide (0≤y0.1)&&decide (y0.1<(a0.1.length:Int))) (br (qk0 yq21 y2 (0,wrap .i64 (a1.1+1),a1.2.1,())) (some (((a1.1,a1.2.1,wrap .i64 (a1.2.2.1+1),a1.2.2.2),(0,0,0,0,()),0,()),a0,())) (br (y2.2.1 != 0) (some ((a1,(wrap .i64 (y2.2.1 - 1),y2.2.2.1,0,0,()),1,()),a0,())) (br (decide (y2.1=y0.2.1)) (some (((a1.1,a1.2.1,wrap .i64 (a1.2.2.1+1),a1.2.2.2),(0,0,0,0,()),0,()),(List.set a0.1 (Int.toNat y0.1) (0,wrap .i64 (a1.1+1),a1.2.1,()),a0.2),())) (some ((a1,(0,0,0,0,()),0,()),(a0.1,List.set a0.2.1 a1.1.toNat (y1.1,3,y1.2.2),a0.2.2),()))))) none) none)) none
def qbbz (D:DX)(n:Nat) (a0:tq12) (a1:tq34):Option tq7:=qbl9 D n a0 a1
theorem qbzy (D:DX)(n:Nat) (a0:tq12) (a1:tq34):rF D n 168 (a0,(a1,()))=qbbz D n a0 a1:=by kernel_rfl

def qhs (D:DX)(n:Nat) (go:Int→Int→tq5→Option tq2) (K0:Int→tq5→Option tq2) (K1:tq5→Option tq2) (x0 x1:Int) (x2:tq5):Option tq2:=br (decide (x1≥0)) (br (decide (0≤x1)&&decide (x1<(x2.2.2.2.1.length:Int))) (br (decide ((List.getD x2.2.2.2.1 x1.toNat (0,(0,0,0,()),0,0,0,(0,[],()),())).1=x0)) (br (decide (0≤x1)&&decide (x1<(x2.2.2.2.1.length:Int))) (br (decide ((List.getD x2.2.2.2.1 x1.toNat (0,(0,0,0,()),0,0,0,(0,[],()),())).2.2.2.2.1<0)) (K0 x1 x2) (go x0 (wrap .i64 (x1 - 1)) x2)) none) (go x0 (wrap .i64 (x1 - 1)) x2)) none) (K1 x2)
def qdk (D:DX)(n:Nat) (K0:Int→tq5→Option tq2) (K1:tq5→Option tq2):Nat→Int→Int→tq5→Option tq2 | 0=>(fun x0 x1 x2=>none) | m+1=>(fun x0 x1 x2=>qhs D n (qdk D n K0 K1 m) K0 K1 x0 x1 x2)
def q3k (D:DX)(n:Nat) (a:Int) (b:tq5):Option tq2:=some ((a,()),b,())
def q3p (D:DX)(n:Nat) (a:tq5):Option tq2:=some ((-1,()),a,())
def qj4 (D:DX)(n:Nat):(Int)→(Int)→tq5→Option tq2:=(fun x0 x1 x2=>qdk D n (fun a b=>q3k D n a b) (fun c=>q3p D n c) n x0 x1 x2)
def qk6 (D:DX)(n:Nat) (lp0:Int→Int→tq5→Option tq2) (a0:tq5) (a1:Int):Option tq2:=lp0 a1 (wrap .i64 ((a0.2.2.2.1.length:Int) - 1)) a0
def qk9 (D:DX)(n:Nat) (a0:tq5) (a1:Int):Option tq2:=qk6 D n (qj4 D n) a0 a1
def qkv (x0 x1:Int) (x2:tq5):St:=stq 38 [(0,AV.addr 0 []),(1,AV.val yq34 x0),(5,AV.val yq34 x1)] [(0,Root.mk yq0 kq15 x2 true)]
def qoy (a:Int) (b:tq5):St:=stq 38 [(0,AV.addr 0 []),(4,AV.val yq34 a)] [(0,Root.mk yq0 kq15 b true)]
def qov (a:tq5):St:=stq 38 [(0,AV.addr 0 [])] [(0,Root.mk yq0 kq15 a true)]
theorem q5l (D:DX)(n:Nat) (K:KT 169):∀ (m:Nat) (x0 x1:Int) (x2:tq5),LF D n 169 pq2 m (qkv x0 x1 x2) K=qdk D n (fun a b=>K (Ex.ret) (qoy a b)) (fun c=>K (Ex.exit 0) (qov c)) m x0 x1 x2:=eL3 (fun F=>qhs D n F (fun a b=>K (Ex.ret) (qoy a b)) (fun c=>K (Ex.exit 0) (qov c))) (fun _ _ _ =>qz ..) (fun _ _ _ _ =>by kernel_rfl) (fun _ _ _ _ =>rfl)
theorem q3t (D:DX)(n:Nat) (x0) (x1) (x2):LF D n 169 pq2 n (qkv x0 x1 x2) (CF D n 169 [] pq2 (lF 169))=qj4 D n x0 x1 x2 :=by rw[q5l];kernel_rfl
theorem q8c (D:DX)(n:Nat) (a0:tq5) (a1:Int):rF D n 169 (a0,(a1,()))=qk9 D n a0 a1:=by
 have h:rF D n 169 (a0,(a1,()))=qk6 D n (fun x0 x1 x2=>LF D n 169 pq2 n (qkv x0 x1 x2) (CF D n 169 [] pq2 (lF 169))) a0 a1:=by kernel_rfl
 rw[h]
 simp only[q3t]
 rfl

def qon (D:DX)(n:Nat) (go:Int→tq24→Option tq19) (K0:tq24→Option tq19) (x0:Int) (x1:tq24):Option tq19:=br (decide (x0<4)) (qd (qfj D x0) fun b↦qd (qv D x1 b.1.1) fun b↦go (wrap .i64 (x0+1)) b.2.1) (K0 x1)
def qh0 (D:DX)(n:Nat) (K0:tq24→Option tq19):Nat→Int→tq24→Option tq19 | 0=>(fun x0 x1=>none) | m+1=>(fun x0 x1=>qon D n (qh0 D n K0 m) K0 x0 x1)
def q8t (D:DX)(n:Nat) (a:tq24):Option tq19:=some ((a,()),())
def qzc (D:DX)(n:Nat):(Int)→tq24→Option tq19:=(fun x0 x1=>qh0 D n (fun a=>q8t D n a) n x0 x1)
def q54 (D:DX)(n:Nat) (lp0:Int→tq24→Option tq19) (a0:tq38) (a1:List tq44):Option tq19:=let y0:Option tq19:=br (decide (a0.1=4)) (qd (qfj D a0.2.1) fun b↦qd (qv D (a1,[],-1,false,()) b.1.1) fun b↦some ((b.2.1,()),())) (br (decide (a0.1=5)) (qd (qdq D a0.2.2.1) fun b↦qd (qv D (a1,[],-1,false,()) b.1.1) fun b↦some ((b.2.1,()),())) (br (decide (a0.1=6)) (qd (qdp D a0.2.1) fun b↦qd (qv D (a1,[],-1,false,()) b.1.1) fun b↦some ((b.2.1,()),())) (br (decide (a0.1=7)) (lp0 0 (a1,[],-1,false,())) (br (decide (a0.1=8)) (qd (qcp D) fun b↦qd (qv D (a1,[],-1,false,()) b.1.1) fun b↦some ((b.2.1,()),())) (br (decide (a0.1=9)) (qd (qcp D) fun b↦qd (qv D (a1,[],-1,false,()) b.1.1) fun b↦qd (qb9 D b.2.1 (bif decide (b.1.1<1) then true else decide (b.1.1>4))) fun b_1↦qd (qfj D (wrap .i64 (b.1.1 - 1))) fun b↦qd (qv D b_1.2.1 b.1.1) fun b↦qd (qgm D b.1.1) fun b_2↦qd (qb9 D b.2.1 !b_2.1.1) fun b_3↦qd (qep D b.1.1) fun b↦qd (qv D b_3.2.1 b.1.1) fun b↦some ((b.2.1,()),())) (br (decide (a0.1=10)) (qd (qcp D) fun b↦qd (qv D (a1,[],-1,false,()) b.1.1) fun b↦qd (qb9 D b.2.1 (b.1.1 != 5)) fun b↦qd (qep D a0.2.2.1) fun b_1↦qd (qv D b.2.1 b_1.1.1) fun b↦some ((b.2.1,()),())) (some (((a1,[],-1,false,()),()),()))))))));let y1:Option tq19:=qd (qh5 D (a1,[],-1,false,()) a0) fun b↦some ((b.2.1,()),());br (decide (a0.1=1)) (br (decide (a0.1=1)) y1 y0) (br (decide (a0.1=2)) (br (decide (a0.1=2)) y1 y0) (br (decide (a0.1=3)) y1 y0))
def q6o (D:DX)(n:Nat) (a0:tq38) (a1:List tq44):Option tq19:=q54 D n (qzc D n) a0 a1
def q29 (x0:Int) (x1:tq24):St:=stq 100 [(5,AV.addr 12 []),(45,AV.val yq34 x0)] [(12,Root.mk yq12 kq28 x1 true)]
def q87 (a:tq24):St:=stq 100 [(5,AV.addr 12 [])] [(12,Root.mk yq12 kq28 a true)]
theorem qbn6 (D:DX)(n:Nat) (K:KT 170):∀ (m:Nat) (x0:Int) (x1:tq24),LF D n 170 pq5 m (q29 x0 x1) K=qh0 D n (fun a=>K (Ex.exit 1) (q87 a)) m x0 x1:=eL2 (fun F=>qon D n F (fun a=>K (Ex.exit 1) (q87 a))) (fun _ _ =>qz ..) (fun _ _ _ =>by kernel_rfl) (fun _ _ _ =>rfl)
theorem qblb (D:DX)(n:Nat) (x0) (x1):LF D n 170 pq5 n (q29 x0 x1) (CF D n 170 [] pq5 (lF 170))=qzc D n x0 x1 :=by rw[qbn6];kernel_rfl
theorem qbs8 (D:DX)(n:Nat) (a0:tq38) (a1:List tq44):rF D n 170 (a0,(a1,()))=q6o D n a0 a1:=by
 have h:rF D n 170 (a0,(a1,()))=q54 D n (fun x0 x1=>LF D n 170 pq5 n (q29 x0 x1) (CF D n 170 [] pq5 (lF 170))) a0 a1:=by kernel_rfl
 rw[h]
 simp only[qblb]
 rfl

def qbdb (D:DX)(n:Nat) (a0:tq38) (a1:List tq44):Option ((tq41×tq45)×Unit):=qd (qfj D a0.2.1) fun b↦qd (qew D a1 b.1.1) fun b↦qd (qdq D a0.2.2.1) fun b_1↦qd (qew D a1 b_1.1.1) fun b_2↦qd (qcp D) fun b_3↦qd (qew D a1 b_3.1.1) fun b_4↦br (bif decide (a0.1=1) then b.1.1 != 0 else false) (some (((1,[],()),true,()),())) (br (bif decide (a0.1=1) then b_2.1.1 != 0 else false) (some (((2,[],()),true,()),())) (br (bif bif bif decide (a0.1=2) then true else decide (a0.1=3) then true else decide (a0.1=4) then decide (b.1.1=0) else false) (some (((3,[],()),true,()),())) (br (bif decide (a0.1=2) then decide (b.1.1=a0.2.2.1) else false) (some (((0,[],()),true,()),())) (br (bif decide (a0.1=2) then b_2.1.1 != 0 else false) (some (((2,[],()),true,()),())) (br (decide (a0.1=4)) (some (((0,[b.1.1],()),true,()),())) (br (bif decide (a0.1=5) then decide (b_2.1.1=0) else false) (some (((3,[],()),true,()),())) (br (decide (a0.1=5)) (some (((0,[wrap .i64 (b_2.1.1 - 1)],()),true,()),())) (br (decide (a0.1=6)) (qd (qdp D a0.2.1) fun b↦qd (qew D a1 b.1.1) fun b↦some (((0,[b.1.1],()),true,()),())) (br (bif decide (a0.1=8) then b_4.1.1 != 0 else false) (br (bif decide (a0.1=8) then b_4.1.1 != 0 else false) (some (((4,[],()),true,()),())) (some (((0,[],()),false,()),()))) (br (bif decide (a0.1=9) then bif decide (b_4.1.1<1) then true else decide (b_4.1.1>4) else false) (br (bif decide (a0.1=9) then bif decide (b_4.1.1<1) then true else decide (b_4.1.1>4) else false) (some (((4,[],()),true,()),())) (some (((0,[],()),false,()),()))) (br (bif decide (a0.1=10) then b_4.1.1 != 5 else false) (some (((4,[],()),true,()),())) (some (((0,[],()),false,()),())))))))))))))
def q3o (D:DX)(n:Nat) (a0:tq38) (a1:List tq44):Option ((tq41×tq45)×Unit):=qbdb D n a0 a1
theorem qbr9 (D:DX)(n:Nat) (a0:tq38) (a1:List tq44):rF D n 171 (a0,(a1,()))=q3o D n a0 a1:=by kernel_rfl

def q5y (D:DX)(n:Nat) (go:List tq44→Int→Int→Option tq36) (K0:Int→Bool→Option tq36) (K1:Option tq36) (x0:List tq44) (x1 x2:Int):Option tq36:=br (decide (x2≥0)) (br (decide (0≤x2)&&decide (x2<(x0.length:Int))) (br (decide ((List.getD x0 x2.toNat (0,0,())).1=x1)) (br (decide (0≤x2)&&decide (x2<(x0.length:Int))) (K0 (List.getD x0 x2.toNat (0,0,())).2.1 true) none) (go x0 x1 (wrap .i64 (x2 - 1)))) none) K1
def qrq (D:DX)(n:Nat) (K0:Int→Bool→Option tq36) (K1:Option tq36):Nat→(List tq44)→Int→Int→Option tq36 | 0=>(fun x0 x1 x2=>none) | m+1=>(fun x0 x1 x2=>q5y D n (qrq D n K0 K1 m) K0 K1 x0 x1 x2)
def qbbs (D:DX)(n:Nat) (a:Int) (b:Bool):Option tq36:=some ((a,b,()),())
def qbbe (D:DX)(n:Nat):Option tq36:=some ((0,false,()),())
def q31 (D:DX)(n:Nat):(List tq44)→(Int)→(Int)→Option tq36:=(fun x0 x1 x2=>qrq D n (fun a b=>qbbs D n a b) (qbbe D n) n x0 x1 x2)
def q9u (D:DX)(n:Nat) (lp0:List tq44→Int→Int→Option tq36) (a0:List tq44) (a1:Int):Option tq36:=lp0 a0 a1 (wrap .i64 ((a0.length:Int) - 1))
def q9r (D:DX)(n:Nat) (a0:List tq44) (a1:Int):Option tq36:=q9u D n (q31 D n) a0 a1
def q7z (x0:List tq44) (x1 x2:Int):St:=stq 26 [(0,AV.val yq25 x0),(1,AV.val yq34 x1),(6,AV.val yq34 x2)] []
def qbas (a:Int) (b:Bool):St:=stq 26 [(4,AV.val yq34 a),(5,AV.val Ty.bool b)] []
def qbay:St:=stq 26 [] []
theorem qbr3 (D:DX)(n:Nat) (K:KT 172):∀ (m:Nat) (x0:List tq44) (x1 x2:Int),LF D n 172 pq2 m (q7z x0 x1 x2) K=qrq D n (fun a b=>K (Ex.ret) (qbas a b)) (K (Ex.exit 0) (qbay)) m x0 x1 x2:=eL3 (fun F=>q5y D n F (fun a b=>K (Ex.ret) (qbas a b)) (K (Ex.exit 0) (qbay))) (fun _ _ _ =>qz ..) (fun _ _ _ _ =>by kernel_rfl) (fun _ _ _ _ =>rfl)
theorem qbpa (D:DX)(n:Nat) (x0) (x1) (x2):LF D n 172 pq2 n (q7z x0 x1 x2) (CF D n 172 [] pq2 (lF 172))=q31 D n x0 x1 x2 :=by rw[qbr3];kernel_rfl
theorem qbwp (D:DX)(n:Nat) (a0:List tq44) (a1:Int):rF D n 172 (a0,(a1,()))=q9r D n a0 a1:=by
 have h:rF D n 172 (a0,(a1,()))=q9u D n (fun x0 x1 x2=>LF D n 172 pq2 n (q7z x0 x1 x2) (CF D n 172 [] pq2 (lF 172))) a0 a1:=by kernel_rfl
 rw[h]
 simp only[qbpa]
 rfl

def qbfq (D:DX)(n:Nat) (a0:Int):Option tq43:=qd (qq0 D a0) fun b↦qd (qlg D b.1.1 a0) fun b↦some ((b.1.1,()),())
def q7j (D:DX)(n:Nat) (a0:Int):Option tq43:=qbfq D n a0
theorem qbt5 (D:DX)(n:Nat) (a0:Int):rF D n 173 (a0,())=q7j D n a0:=by kernel_rfl

def qbbj (D:DX)(n:Nat) (a0:tq38) (a1:List tq44) (a2 a3:Int):Option tq29:=qd (qfj D a0.2.1) fun b↦qd (qcv D b.1.1 a0.2.2.1 0 a1 []) fun b↦qd (qcp D) fun b_1↦qd (qcv D b_1.1.1 a3 0 a1 b.2.1) fun b↦qd (qdq D a2) fun b_2↦qd (qcv D b_2.1.1 0 0 a1 b.2.1) fun b↦qd (qep D a2) fun b_3↦qd (qcv D b_3.1.1 0 0 a1 b.2.1) fun b↦qd (qdq D a0.2.2.1) fun b_4↦qd (qcv D b_4.1.1 (wrap .i64 (a0.2.1+1)) 0 a1 b.2.1) fun b↦qd (qep D a0.2.2.1) fun b_5↦qd (qcv D b_5.1.1 (wrap .i64 (a0.2.1+1)) 0 a1 b.2.1) fun b↦qd (qcq D a2) fun b_6↦qd (qcq D a0.2.2.1) fun b_7↦br (b_6.1.1 != b_7.1.1) (qd (qcq D a2) fun b_8↦qd (qdp D b_8.1.1) fun b_9↦qd (qcv D b_9.1.1 0 (-1) a1 b.2.1) fun b↦qd (qcq D a0.2.2.1) fun b_10↦qd (qdp D b_10.1.1) fun b_11↦qd (qcv D b_11.1.1 0 1 a1 b.2.1) fun b↦qd (qc5 D b.2.1 (Clo.mk 183 [])) fun b↦some ((b.2.1,()),())) (qd (qc5 D b.2.1 (Clo.mk 183 [])) fun b↦some ((b.2.1,()),()))
def qz1 (D:DX)(n:Nat) (a0:tq38) (a1:List tq44) (a2 a3:Int):Option tq29:=qbbj D n a0 a1 a2 a3
theorem qbna (D:DX)(n:Nat) (a0:tq38) (a1:List tq44) (a2 a3:Int):rF D n 174 (a0,(a1,(a2,(a3,()))))=qz1 D n a0 a1 a2 a3:=by kernel_rfl

def qvw (D:DX)(n:Nat) (a0:List Int):Option tq39:=qd (qqd D (wrap .u64 (a0.length:Int))) fun b↦qd (qj D a0 0 (a0.length:Int) b.1.1) fun b↦some ((),b.2.1,())
def qms (D:DX)(n:Nat) (a0:List Int):Option tq39:=qvw D n a0
theorem qbbt (D:DX)(n:Nat) (a0:List Int):rF D n 175 (a0,())=qms D n a0:=by kernel_rfl

def qbdf (D:DX)(n:Nat) (a0:tq38) (a1 a2 a3 a4:Int):Option tq43:=br (decide (a0.1=8)) (some ((wrap .i64 (a2+1),()),())) (br (decide (a0.1=9)) (qd (qcp D) fun b↦br (decide (a1=b.1.1)) (some ((wrap .i64 (a2+1),()),())) (qd (qep D a3) fun b↦br (decide (a1=b.1.1)) (some ((a4,()),())) (some ((a2,()),())))) (some ((a2,()),())))
def q3x (D:DX)(n:Nat) (a0:tq38) (a1 a2 a3 a4:Int):Option tq43:=qbdf D n a0 a1 a2 a3 a4
theorem qbsq (D:DX)(n:Nat) (a0:tq38) (a1 a2 a3 a4:Int):rF D n 176 (a0,(a1,(a2,(a3,(a4,())))))=q3x D n a0 a1 a2 a3 a4:=by kernel_rfl

def q99 (D:DX)(n:Nat) (a0:tq38) (a1:Int):Option tq42:=some ((decide (a0.2.1=wrap .i64 (a1+1)),()),())
def q1n (D:DX)(n:Nat) (a0:tq38) (a1:Int):Option tq42:=q99 D n a0 a1
theorem qbol (D:DX)(n:Nat) (a0:tq38) (a1:Int):rF D n 177 (a0,(a1,()))=q1n D n a0 a1:=by kernel_rfl

def qk1 (D:DX)(n:Nat) (a0:tq24) (a1:tq38):Option tq21:=qd (qfj D a1.2.1) fun b↦qd (qv D a0 b.1.1) fun b↦br (decide (a1.1=1)) (qd (qb9 D b.2.1 (b.1.1 != 0)) fun b↦qd (qdq D a1.2.2.1) fun b_1↦qd (qv D b.2.1 b_1.1.1) fun b↦qd (qb9 D b.2.1 (b.1.1 != 0)) fun b↦qd (qcq D a1.2.2.1) fun b_2↦qd (qdp D b_2.1.1) fun b_3↦qd (qv D b.2.1 b_3.1.1) fun b↦qd (qgv D b.2.1 a1.2.1 [a1.2.2.1]) fun b↦some ((),b.2.1,())) (br (decide (a1.1=2)) (qd (qb9 D b.2.1 (bif decide (b.1.1=0) then true else decide (b.1.1=a1.2.2.1))) fun b_1↦qd (qdq D a1.2.2.1) fun b_2↦qd (qv D b_1.2.1 b_2.1.1) fun b_3↦qd (qb9 D b_3.2.1 (b_3.1.1 != 0)) fun b_4↦qd (qdq D b.1.1) fun b_5↦qd (qv D b_4.2.1 b_5.1.1) fun b_6↦qd (qcq D b.1.1) fun b_7↦qd (qcq D a1.2.2.1) fun b_8↦br (b_7.1.1 != b_8.1.1) (qd (qcq D b.1.1) fun b_9↦qd (qdp D b_9.1.1) fun b_10↦qd (qv D b_6.2.1 b_10.1.1) fun b_11↦qd (qcq D a1.2.2.1) fun b_12↦qd (qdp D b_12.1.1) fun b_13↦qd (qv D b_11.2.1 b_13.1.1) fun b_14↦qd (qgv D b_14.2.1 a1.2.1 [b.1.1,a1.2.2.1]) fun b↦some ((),b.2.1,())) (qd (qgv D b_6.2.1 a1.2.1 [b.1.1,a1.2.2.1]) fun b↦some ((),b.2.1,()))) (qd (qb9 D b.2.1 (decide (b.1.1=0))) fun b_1↦qd (qdq D b.1.1) fun b_2↦qd (qv D b_1.2.1 b_2.1.1) fun b_3↦qd (qcq D b.1.1) fun b_4↦qd (qdp D b_4.1.1) fun b_5↦qd (qv D b_3.2.1 b_5.1.1) fun b_6↦qd (qgv D b_6.2.1 a1.2.1 [b.1.1]) fun b↦some ((),b.2.1,())))
def qh7 (D:DX)(n:Nat) (a0:tq24) (a1:tq38):Option tq21:=qk1 D n a0 a1
theorem qbdv (D:DX)(n:Nat) (a0:tq24) (a1:tq38):rF D n 178 (a0,(a1,()))=qh7 D n a0 a1:=by kernel_rfl

def qn4 (D:DX)(n:Nat) (a0:tq24) (a1:Int):Option ((Int×Unit)×tq23):=br a0.2.2.2.1 (some ((0,()),a0,())) (qd (qew D a0.1 a1) fun b↦br (bif decide (a1<0) then true else !b.1.2.1) (some ((0,()),(a0.1,a0.2.1,a1,true,a0.2.2.2.2),())) (br (decide (a0.2.1.length+1≤qb6)) (some ((b.1.1,()),(a0.1,a0.2.1++[a1],a0.2.2),())) none))
def qkz (D:DX)(n:Nat) (a0:tq24) (a1:Int):Option ((Int×Unit)×tq23):=qn4 D n a0 a1
theorem qbke (D:DX)(n:Nat) (a0:tq24) (a1:Int):rF D n 179 (a0,(a1,()))=qkz D n a0 a1:=by kernel_rfl

def qbh8 (D:DX)(n:Nat) (a0:tq24) (a1:Bool):Option tq21:=some ((),(a0.1,a0.2.1,a0.2.2.1,bif a0.2.2.2.1 then true else a1,a0.2.2.2.2),())
def q4d (D:DX)(n:Nat) (a0:tq24) (a1:Bool):Option tq21:=qbh8 D n a0 a1
theorem qbhj (D:DX)(n:Nat) (a0:tq24) (a1:Bool):rF D n 180 (a0,(a1,()))=q4d D n a0 a1:=by kernel_rfl

def qnw (D:DX)(n:Nat) (a0 a1 a2:Int) (a3:List tq44) (a4:List tq38):Option tq30:=qd (qew D a3 a0) fun b↦br (bif decide (a0<0) then true else !b.1.2.1) (some ((),a4,())) (br (decide (a2=1)) (br (decide (a4.length+1≤qb6)) (some ((),a4++[(a0,b.1.1,wrap .i64 (b.1.1+1),())],())) none) (br (decide (a2 = -1)) (br (decide (a4.length+1≤qb6)) (some ((),a4++[(a0,b.1.1,if wrap .i64 (b.1.1 - 1)>0 then wrap .i64 (b.1.1 - 1) else 0,())],())) none) (br (decide (a4.length+1≤qb6)) (some ((),a4++[(a0,b.1.1,a1,())],())) none)))
def qkr (D:DX)(n:Nat) (a0 a1 a2:Int) (a3:List tq44) (a4:List tq38):Option tq30:=qnw D n a0 a1 a2 a3 a4
theorem qbjr (D:DX)(n:Nat) (a0 a1 a2:Int) (a3:List tq44) (a4:List tq38):rF D n 181 (a0,(a1,(a2,(a3,(a4,())))))=qkr D n a0 a1 a2 a3 a4:=by kernel_rfl

def qh2 (D:DX)(n:Nat) (a1:Clo) (a0:List tq38):Option tq30:=qd (qqd D (wrap .u64 (a0.length:Int))) fun b↦qd (qf D a0 0 (a0.length:Int) b.1.1 a1) fun b↦some ((),b.2.1,())
def qet (D:DX)(n:Nat) (a0:List tq38) (a1:Clo):Option tq30:=qh2 D n a1 a0
theorem qo1 (D:DX)(n:Nat) (a0:List tq38) (a1:Clo):rF D n 182 (a0,(a1,()))=qet D n a0 a1:=by kernel_rfl

def q7a (D:DX)(n:Nat) (a0 a1:tq38):Option tq43:=some ((wrap .i64 (a0.1 - a1.1),()),())
def qvb (D:DX)(n:Nat) (a0 a1:tq38):Option tq43:=q7a D n a0 a1
theorem qbkc (D:DX)(n:Nat) (a0 a1:tq38):rF D n 183 (a0,(a1,()))=qvb D n a0 a1:=by kernel_rfl

def qih (D:DX)(n:Nat) (go:Int→Int→Int→Bool→Bool→List Int→Option tq39) (K0:List Int→Option tq39) (x0 x1 x2:Int) (x3 x4:Bool) (x5:List Int):Option tq39:=let y0:=wrap .i64 (x2 - 1);let y1:=wrap .i64 (x1 - x0);let y2:=Int.toNat (wrap .i64 (x0 - 1));br (decide (y1≤12)) (qd (qj8 D x5 x0 x1) fun b↦K0 b.2.1) (br (decide (x2=0)) (qd (q1h D x5 x0 x1) fun b↦K0 b.2.1) (br (!x3) (qd (qt4 D x5 x0 x1) fun b↦qd (qk4 D b.2.1 x0 x1) fun b_1↦br (decide (b_1.1.2.1=2)) (qd (qkq D b.2.1 x0 x1) fun b↦br (bif bif x3 then x4 else false then true else false) (qd (qc2 D b.2.1 x0 x1) fun b↦br b.1.1 (K0 b.2.1) (br (decide (x0>0)) (br (decide (0≤wrap .i64 (x0 - 1))&&decide (wrap .i64 (x0 - 1)<(b.2.1.length:Int))) (br (decide (0≤wrap .i64 (wrap .i64 (x1 - 1) - wrap .i64 (b_1.1.1 - x0)))&&decide (wrap .i64 (wrap .i64 (x1 - 1) - wrap .i64 (b_1.1.1 - x0))<(b.2.1.length:Int))) (qd (qdt D (List.getD b.2.1 y2 0) (List.getD b.2.1 (Int.toNat (wrap .i64 (wrap .i64 (x1 - 1) - wrap .i64 (b_1.1.1 - x0)))) 0)) fun b_2↦let a:=wrap .i64 (wrap .i64 (x1 - 1) - wrap .i64 (b_1.1.1 - x0));br (!b_2.1.1) (qd (qbr D b.2.1 x0 x1 a) fun b↦go b.1.1 x1 y0 x3 x4 b.2.1) (qd (qw D b.2.1 x0 x1 a) fun b↦br (decide (wrap .i64 (b.1.1 - x0)<wrap .i64 (x1 - b.1.1))) (qd (qj D b.2.1 x0 b.1.1 y0) fun b_3↦go (wrap .i64 (b.1.1+1)) x1 y0 (decide (wrap .i64 (b.1.1 - x0)≥wrap .i64 (Int.tdiv y1 8))) b.1.2.1 b_3.2.1) (qd (qj D b.2.1 (wrap .i64 (b.1.1+1)) x1 y0) fun b_3↦go x0 b.1.1 y0 (decide (wrap .i64 (x1 - b.1.1)≥wrap .i64 (Int.tdiv y1 8))) b.1.2.1 b_3.2.1))) none) none) (qd (qw D b.2.1 x0 x1 (wrap .i64 (wrap .i64 (x1 - 1) - wrap .i64 (b_1.1.1 - x0)))) fun b↦br (decide (wrap .i64 (b.1.1 - x0)<wrap .i64 (x1 - b.1.1))) (qd (qj D b.2.1 x0 b.1.1 y0) fun b_2↦go (wrap .i64 (b.1.1+1)) x1 y0 (decide (wrap .i64 (b.1.1 - x0)≥wrap .i64 (Int.tdiv y1 8))) b.1.2.1 b_2.2.1) (qd (qj D b.2.1 (wrap .i64 (b.1.1+1)) x1 y0) fun b_2↦go x0 b.1.1 y0 (decide (wrap .i64 (x1 - b.1.1)≥wrap .i64 (Int.tdiv y1 8))) b.1.2.1 b_2.2.1)))) (br (decide (x0>0)) (br (decide (0≤wrap .i64 (x0 - 1))&&decide (wrap .i64 (x0 - 1)<(b.2.1.length:Int))) (br (decide (0≤wrap .i64 (wrap .i64 (x1 - 1) - wrap .i64 (b_1.1.1 - x0)))&&decide (wrap .i64 (wrap .i64 (x1 - 1) - wrap .i64 (b_1.1.1 - x0))<(b.2.1.length:Int))) (qd (qdt D (List.getD b.2.1 y2 0) (List.getD b.2.1 (Int.toNat (wrap .i64 (wrap .i64 (x1 - 1) - wrap .i64 (b_1.1.1 - x0)))) 0)) fun b_2↦let c:=wrap .i64 (wrap .i64 (x1 - 1) - wrap .i64 (b_1.1.1 - x0));br (!b_2.1.1) (qd (qbr D b.2.1 x0 x1 c) fun b↦go b.1.1 x1 y0 x3 x4 b.2.1) (qd (qw D b.2.1 x0 x1 c) fun b↦br (decide (wrap .i64 (b.1.1 - x0)<wrap .i64 (x1 - b.1.1))) (qd (qj D b.2.1 x0 b.1.1 y0) fun b_3↦go (wrap .i64 (b.1.1+1)) x1 y0 (decide (wrap .i64 (b.1.1 - x0)≥wrap .i64 (Int.tdiv y1 8))) b.1.2.1 b_3.2.1) (qd (qj D b.2.1 (wrap .i64 (b.1.1+1)) x1 y0) fun b_3↦go x0 b.1.1 y0 (decide (wrap .i64 (x1 - b.1.1)≥wrap .i64 (Int.tdiv y1 8))) b.1.2.1 b_3.2.1))) none) none) (qd (qw D b.2.1 x0 x1 (wrap .i64 (wrap .i64 (x1 - 1) - wrap .i64 (b_1.1.1 - x0)))) fun b↦br (decide (wrap .i64 (b.1.1 - x0)<wrap .i64 (x1 - b.1.1))) (qd (qj D b.2.1 x0 b.1.1 y0) fun b_2↦go (wrap .i64 (b.1.1+1)) x1 y0 (decide (wrap .i64 (b.1.1 - x0)≥wrap .i64 (Int.tdiv y1 8))) b.1.2.1 b_2.2.1) (qd (qj D b.2.1 (wrap .i64 (b.1.1+1)) x1 y0) fun b_2↦go x0 b.1.1 y0 (decide (wrap .i64 (x1 - b.1.1)≥wrap .i64 (Int.tdiv y1 8))) b.1.2.1 b_2.2.1)))) (br (bif bif x3 then x4 else false then decide (b_1.1.2.1=1) else false) (qd (qc2 D b.2.1 x0 x1) fun b↦br b.1.1 (K0 b.2.1) (br (decide (x0>0)) (br (decide (0≤wrap .i64 (x0 - 1))&&decide (wrap .i64 (x0 - 1)<(b.2.1.length:Int))) (br (decide (0≤b_1.1.1)&&decide (b_1.1.1<(b.2.1.length:Int))) (qd (qdt D (List.getD b.2.1 y2 0) (List.getD b.2.1 b_1.1.1.toNat 0)) fun b_2↦br (!b_2.1.1) (qd (qbr D b.2.1 x0 x1 b_1.1.1) fun b↦go b.1.1 x1 y0 x3 x4 b.2.1) (qd (qw D b.2.1 x0 x1 b_1.1.1) fun b↦br (decide (wrap .i64 (b.1.1 - x0)<wrap .i64 (x1 - b.1.1))) (qd (qj D b.2.1 x0 b.1.1 y0) fun b_3↦go (wrap .i64 (b.1.1+1)) x1 y0 (decide (wrap .i64 (b.1.1 - x0)≥wrap .i64 (Int.tdiv y1 8))) b.1.2.1 b_3.2.1) (qd (qj D b.2.1 (wrap .i64 (b.1.1+1)) x1 y0) fun b_3↦go x0 b.1.1 y0 (decide (wrap .i64 (x1 - b.1.1)≥wrap .i64 (Int.tdiv y1 8))) b.1.2.1 b_3.2.1))) none) none) (qd (qw D b.2.1 x0 x1 b_1.1.1) fun b↦br (decide (wrap .i64 (b.1.1 - x0)<wrap .i64 (x1 - b.1.1))) (qd (qj D b.2.1 x0 b.1.1 y0) fun b_2↦go (wrap .i64 (b.1.1+1)) x1 y0 (decide (wrap .i64 (b.1.1 - x0)≥wrap .i64 (Int.tdiv y1 8))) b.1.2.1 b_2.2.1) (qd (qj D b.2.1 (wrap .i64 (b.1.1+1)) x1 y0) fun b_2↦go x0 b.1.1 y0 (decide (wrap .i64 (x1 - b.1.1)≥wrap .i64 (Int.tdiv y1 8))) b.1.2.1 b_2.2.1)))) (br (decide (x0>0)) (br (decide (0≤wrap .i64 (x0 - 1))&&decide (wrap .i64 (x0 - 1)<(b.2.1.length:Int))) (br (decide (0≤b_1.1.1)&&decide (b_1.1.1<(b.2.1.length:Int))) (qd (qdt D (List.getD b.2.1 y2 0) (List.getD b.2.1 b_1.1.1.toNat 0)) fun b_2↦br (!b_2.1.1) (qd (qbr D b.2.1 x0 x1 b_1.1.1) fun b↦go b.1.1 x1 y0 x3 x4 b.2.1) (qd (qw D b.2.1 x0 x1 b_1.1.1) fun b↦br (decide (wrap .i64 (b.1.1 - x0)<wrap .i64 (x1 - b.1.1))) (qd (qj D b.2.1 x0 b.1.1 y0) fun b_3↦go (wrap .i64 (b.1.1+1)) x1 y0 (decide (wrap .i64 (b.1.1 - x0)≥wrap .i64 (Int.tdiv y1 8))) b.1.2.1 b_3.2.1) (qd (qj D b.2.1 (wrap .i64 (b.1.1+1)) x1 y0) fun b_3↦go x0 b.1.1 y0 (decide (wrap .i64 (x1 - b.1.1)≥wrap .i64 (Int.tdiv y1 8))) b.1.2.1 b_3.2.1))) none) none) (qd (qw D b.2.1 x0 x1 b_1.1.1) fun b↦br (decide (wrap .i64 (b.1.1 - x0)<wrap .i64 (x1 - b.1.1))) (qd (qj D b.2.1 x0 b.1.1 y0) fun b_2↦go (wrap .i64 (b.1.1+1)) x1 y0 (decide (wrap .i64 (b.1.1 - x0)≥wrap .i64 (Int.tdiv y1 8))) b.1.2.1 b_2.2.1) (qd (qj D b.2.1 (wrap .i64 (b.1.1+1)) x1 y0) fun b_2↦go x0 b.1.1 y0 (decide (wrap .i64 (x1 - b.1.1)≥wrap .i64 (Int.tdiv y1 8))) b.1.2.1 b_2.2.1))))) (qd (qk4 D x5 x0 x1) fun b↦br (decide (b.1.2.1=2)) (qd (qkq D x5 x0 x1) fun b_1↦br (bif bif x3 then x4 else false then true else false) (qd (qc2 D b_1.2.1 x0 x1) fun b_2↦br b_2.1.1 (K0 b_2.2.1) (br (decide (x0>0)) (br (decide (0≤wrap .i64 (x0 - 1))&&decide (wrap .i64 (x0 - 1)<(b_2.2.1.length:Int))) (br (decide (0≤wrap .i64 (wrap .i64 (x1 - 1) - wrap .i64 (b.1.1 - x0)))&&decide (wrap .i64 (wrap .i64 (x1 - 1) - wrap .i64 (b.1.1 - x0))<(b_2.2.1.length:Int))) (qd (qdt D (List.getD b_2.2.1 y2 0) (List.getD b_2.2.1 (Int.toNat (wrap .i64 (wrap .i64 (x1 - 1) - wrap .i64 (b.1.1 - x0)))) 0)) fun b_3↦br (!b_3.1.1) (qd (qbr D b_2.2.1 x0 x1 (wrap .i64 (wrap .i64 (x1 - 1) - wrap .i64 (b.1.1 - x0)))) fun b↦go b.1.1 x1 x2 x3 x4 b.2.1) (qd (qw D b_2.2.1 x0 x1 (wrap .i64 (wrap .i64 (x1 - 1) - wrap .i64 (b.1.1 - x0)))) fun b↦br (decide (wrap .i64 (b.1.1 - x0)<wrap .i64 (x1 - b.1.1))) (qd (qj D b.2.1 x0 b.1.1 x2) fun b_4↦go (wrap .i64 (b.1.1+1)) x1 x2 (decide (wrap .i64 (b.1.1 - x0)≥wrap .i64 (Int.tdiv y1 8))) b.1.2.1 b_4.2.1) (qd (qj D b.2.1 (wrap .i64 (b.1.1+1)) x1 x2) fun b_4↦go x0 b.1.1 x2 (decide (wrap .i64 (x1 - b.1.1)≥wrap .i64 (Int.tdiv y1 8))) b.1.2.1 b_4.2.1))) none) none) (qd (qw D b_2.2.1 x0 x1 (wrap .i64 (wrap .i64 (x1 - 1) - wrap .i64 (b.1.1 - x0)))) fun b↦br (decide (wrap .i64 (b.1.1 - x0)<wrap .i64 (x1 - b.1.1))) (qd (qj D b.2.1 x0 b.1.1 x2) fun b_3↦go (wrap .i64 (b.1.1+1)) x1 x2 (decide (wrap .i64 (b.1.1 - x0)≥wrap .i64 (Int.tdiv y1 8))) b.1.2.1 b_3.2.1) (qd (qj D b.2.1 (wrap .i64 (b.1.1+1)) x1 x2) fun b_3↦go x0 b.1.1 x2 (decide (wrap .i64 (x1 - b.1.1)≥wrap .i64 (Int.tdiv y1 8))) b.1.2.1 b_3.2.1)))) (br (decide (x0>0)) (br (decide (0≤wrap .i64 (x0 - 1))&&decide (wrap .i64 (x0 - 1)<(b_1.2.1.length:Int))) (br (decide (0≤wrap .i64 (wrap .i64 (x1 - 1) - wrap .i64 (b.1.1 - x0)))&&decide (wrap .i64 (wrap .i64 (x1 - 1) - wrap .i64 (b.1.1 - x0))<(b_1.2.1.length:Int))) (qd (qdt D (List.getD b_1.2.1 y2 0) (List.getD b_1.2.1 (Int.toNat (wrap .i64 (wrap .i64 (x1 - 1) - wrap .i64 (b.1.1 - x0)))) 0)) fun b_2↦br (!b_2.1.1) (qd (qbr D b_1.2.1 x0 x1 (wrap .i64 (wrap .i64 (x1 - 1) - wrap .i64 (b.1.1 - x0)))) fun b↦go b.1.1 x1 x2 x3 x4 b.2.1) (qd (qw D b_1.2.1 x0 x1 (wrap .i64 (wrap .i64 (x1 - 1) - wrap .i64 (b.1.1 - x0)))) fun b↦br (decide (wrap .i64 (b.1.1 - x0)<wrap .i64 (x1 - b.1.1))) (qd (qj D b.2.1 x0 b.1.1 x2) fun b_3↦go (wrap .i64 (b.1.1+1)) x1 x2 (decide (wrap .i64 (b.1.1 - x0)≥wrap .i64 (Int.tdiv y1 8))) b.1.2.1 b_3.2.1) (qd (qj D b.2.1 (wrap .i64 (b.1.1+1)) x1 x2) fun b_3↦go x0 b.1.1 x2 (decide (wrap .i64 (x1 - b.1.1)≥wrap .i64 (Int.tdiv y1 8))) b.1.2.1 b_3.2.1))) none) none) (qd (qw D b_1.2.1 x0 x1 (wrap .i64 (wrap .i64 (x1 - 1) - wrap .i64 (b.1.1 - x0)))) fun b↦br (decide (wrap .i64 (b.1.1 - x0)<wrap .i64 (x1 - b.1.1))) (qd (qj D b.2.1 x0 b.1.1 x2) fun b_2↦go (wrap .i64 (b.1.1+1)) x1 x2 (decide (wrap .i64 (b.1.1 - x0)≥wrap .i64 (Int.tdiv y1 8))) b.1.2.1 b_2.2.1) (qd (qj D b.2.1 (wrap .i64 (b.1.1+1)) x1 x2) fun b_2↦go x0 b.1.1 x2 (decide (wrap .i64 (x1 - b.1.1)≥wrap .i64 (Int.tdiv y1 8))) b.1.2.1 b_2.2.1)))) (br (bif bif x3 then x4 else false then decide (b.1.2.1=1) else false) (qd (qc2 D x5 x0 x1) fun b_1↦br b_1.1.1 (K0 b_1.2.1) (br (decide (x0>0)) (br (decide (0≤wrap .i64 (x0 - 1))&&decide (wrap .i64 (x0 - 1)<(b_1.2.1.length:Int))) (br (decide (0≤b.1.1)&&decide (b.1.1<(b_1.2.1.length:Int))) (qd (qdt D (List.getD b_1.2.1 y2 0) (List.getD b_1.2.1 b.1.1.toNat 0)) fun b_2↦br (!b_2.1.1) (qd (qbr D b_1.2.1 x0 x1 b.1.1) fun b↦go b.1.1 x1 x2 x3 x4 b.2.1) (qd (qw D b_1.2.1 x0 x1 b.1.1) fun b↦br (decide (wrap .i64 (b.1.1 - x0)<wrap .i64 (x1 - b.1.1))) (qd (qj D b.2.1 x0 b.1.1 x2) fun b_3↦go (wrap .i64 (b.1.1+1)) x1 x2 (decide (wrap .i64 (b.1.1 - x0)≥wrap .i64 (Int.tdiv y1 8))) b.1.2.1 b_3.2.1) (qd (qj D b.2.1 (wrap .i64 (b.1.1+1)) x1 x2) fun b_3↦go x0 b.1.1 x2 (decide (wrap .i64 (x1 - b.1.1)≥wrap .i64 (Int.tdiv y1 8))) b.1.2.1 b_3.2.1))) none) none) (qd (qw D b_1.2.1 x0 x1 b.1.1) fun b↦br (decide (wrap .i64 (b.1.1 - x0)<wrap .i64 (x1 - b.1.1))) (qd (qj D b.2.1 x0 b.1.1 x2) fun b_2↦go (wrap .i64 (b.1.1+1)) x1 x2 (decide (wrap .i64 (b.1.1 - x0)≥wrap .i64 (Int.tdiv y1 8))) b.1.2.1 b_2.2.1) (qd (qj D b.2.1 (wrap .i64 (b.1.1+1)) x1 x2) fun b_2↦go x0 b.1.1 x2 (decide (wrap .i64 (x1 - b.1.1)≥wrap .i64 (Int.tdiv y1 8))) b.1.2.1 b_2.2.1)))) (br (decide (x0>0)) (br (decide (0≤wrap .i64 (x0 - 1))&&decide (wrap .i64 (x0 - 1)<(x5.length:Int))) (br (decide (0≤b.1.1)&&decide (b.1.1<(x5.length:Int))) (qd (qdt D (List.getD x5 y2 0) (List.getD x5 b.1.1.toNat 0)) fun b_1↦br (!b_1.1.1) (qd (qbr D x5 x0 x1 b.1.1) fun b↦go b.1.1 x1 x2 x3 x4 b.2.1) (qd (qw D x5 x0 x1 b.1.1) fun b↦br (decide (wrap .i64 (b.1.1 - x0)<wrap .i64 (x1 - b.1.1))) (qd (qj D b.2.1 x0 b.1.1 x2) fun b_2↦go (wrap .i64 (b.1.1+1)) x1 x2 (decide (wrap .i64 (b.1.1 - x0)≥wrap .i64 (Int.tdiv y1 8))) b.1.2.1 b_2.2.1) (qd (qj D b.2.1 (wrap .i64 (b.1.1+1)) x1 x2) fun b_2↦go x0 b.1.1 x2 (decide (wrap .i64 (x1 - b.1.1)≥wrap .i64 (Int.tdiv y1 8))) b.1.2.1 b_2.2.1))) none) none) (qd (qw D x5 x0 x1 b.1.1) fun b↦br (decide (wrap .i64 (b.1.1 - x0)<wrap .i64 (x1 - b.1.1))) (qd (qj D b.2.1 x0 b.1.1 x2) fun b_1↦go (wrap .i64 (b.1.1+1)) x1 x2 (decide (wrap .i64 (b.1.1 - x0)≥wrap .i64 (Int.tdiv y1 8))) b.1.2.1 b_1.2.1) (qd (qj D b.2.1 (wrap .i64 (b.1.1+1)) x1 x2) fun b_1↦go x0 b.1.1 x2 (decide (wrap .i64 (x1 - b.1.1)≥wrap .i64 (Int.tdiv y1 8))) b.1.2.1 b_1.2.1)))))))
def qfr (D:DX)(n:Nat) (K0:List Int→Option tq39):Nat→Int→Int→Int→Bool→Bool→(List Int)→Option tq39 | 0=>(fun x0 x1 x2 x3 x4 x5=>none) | m+1=>(fun x0 x1 x2 x3 x4 x5=>qih D n (qfr D n K0 m) K0 x0 x1 x2 x3 x4 x5)
def qxm (D:DX)(n:Nat) (a:List Int):Option tq39:=some ((),a,())
def qh3 (D:DX)(n:Nat):(Int)→(Int)→(Int)→(Bool)→(Bool)→(List Int)→Option tq39:=(fun x0 x1 x2 x3 x4 x5=>qfr D n (fun a=>qxm D n a) n x0 x1 x2 x3 x4 x5)
def qja (D:DX)(n:Nat) (lp0:Int→Int→Int→Bool→Bool→List Int→Option tq39) (a0:List Int) (a1 a2 a3:Int):Option tq39:=lp0 a1 a2 a3 true true a0
def qjf (D:DX)(n:Nat) (a0:List Int) (a1 a2 a3:Int):Option tq39:=qja D n (qh3 D n) a0 a1 a2 a3
def qin (x0 x1 x2:Int) (x3 x4:Bool) (x5:List Int):St:=stq 134 [(0,AV.brw 0 [] 1048576),(1,AV.val yq34 x0),(2,AV.val yq34 x1),(3,AV.val yq34 x2),(8,AV.val Ty.bool x3),(9,AV.val Ty.bool x4)] [(0,Root.mk yq30 kq33 x5 false)]
def qlt (a:List Int):St:=stq 134 [(0,AV.brw 0 [] 1048576)] [(0,Root.mk yq30 kq33 a false)]
theorem qym (D:DX)(n:Nat) (K:KT 184):∀ (m:Nat) (x0 x1 x2:Int) (x3 x4:Bool) (x5:List Int),LF D n 184 pq14 m (qin x0 x1 x2 x3 x4 x5) K=qfr D n (fun a=>K (Ex.ret) (qlt a)) m x0 x1 x2 x3 x4 x5:=eL6 (fun F=>qih D n F (fun a=>K (Ex.ret) (qlt a))) (fun _ _ _ _ _ _ =>qz ..) (fun _ _ _ _ _ _ _ =>by kernel_rfl) (fun _ _ _ _ _ _ _ =>rfl)
theorem qw2 (D:DX)(n:Nat) (x0) (x1) (x2) (x3) (x4) (x5):LF D n 184 pq14 n (qin x0 x1 x2 x3 x4 x5) (CF D n 184 [] pq14 (lF 184))=qh3 D n x0 x1 x2 x3 x4 x5 :=by rw[qym];kernel_rfl
theorem q1z (D:DX)(n:Nat) (a0:List Int) (a1 a2 a3:Int):rF D n 184 (a0,(a1,(a2,(a3,()))))=qjf D n a0 a1 a2 a3:=by
 have h:rF D n 184 (a0,(a1,(a2,(a3,()))))=qja D n (fun x0 x1 x2 x3 x4 x5=>LF D n 184 pq14 n (qin x0 x1 x2 x3 x4 x5) (CF D n 184 [] pq14 (lF 184))) a0 a1 a2 a3:=by kernel_rfl
 rw[h]
 simp only[qw2]
 rfl

def q8g (D:DX)(n:Nat) (a0:Int):Option tq43:=qd (q41 D a0) fun b↦some ((b.1.1,()),())
def qwk (D:DX)(n:Nat) (a0:Int):Option tq43:=q8g D n a0
theorem qbm9 (D:DX)(n:Nat) (a0:Int):rF D n 185 (a0,())=qwk D n a0:=by kernel_rfl

def qml (D:DX)(n:Nat) (go:List Int→Int→Int→tq24→Option tq21) (K0:tq24→Option tq21) (x0:List Int) (x1 x2:Int) (x3:tq24):Option tq21:=br (decide (x2<x1)) (br (decide (0≤x2)&&decide (x2<(x0.length:Int))) (qd (qep D (List.getD x0 x2.toNat 0)) fun b↦qd (qv D x3 b.1.1) fun b↦go x0 x1 (wrap .i64 (x2+1)) b.2.1) none) (K0 x3)
def qf9 (D:DX)(n:Nat) (K0:tq24→Option tq21):Nat→(List Int)→Int→Int→tq24→Option tq21 | 0=>(fun x0 x1 x2 x3=>none) | m+1=>(fun x0 x1 x2 x3=>qml D n (qf9 D n K0 m) K0 x0 x1 x2 x3)
def qib (D:DX)(n:Nat) (a:tq24):Option tq21:=some ((),a,())
def qlo (D:DX)(n:Nat):(List Int)→(Int)→(Int)→tq24→Option tq21:=(fun x0 x1 x2 x3=>qf9 D n (fun a=>qib D n a) n x0 x1 x2 x3)
def qok (D:DX)(n:Nat) (lp0:List Int→Int→Int→tq24→Option tq21) (a0:tq24) (a1:Int) (a2:List Int):Option tq21:=qd (qcp D) fun b↦qd (qv D a0 b.1.1) fun b↦qd (qb9 D b.2.1 (decide (b.1.1≤wrap .i64 (a1+1)))) fun b↦lp0 a2 (a2.length:Int) 0 b.2.1
def qob (D:DX)(n:Nat) (a0:tq24) (a1:Int) (a2:List Int):Option tq21:=qok D n (qlo D n) a0 a1 a2
def qtm (x0:List Int) (x1 x2:Int) (x3:tq24):St:=stq 29 [(0,AV.addr 0 []),(18,AV.val yq30 x0),(19,AV.val yq34 x1),(20,AV.val yq34 x2)] [(0,Root.mk yq12 kq28 x3 true)]
def qyo (a:tq24):St:=stq 29 [(0,AV.addr 0 [])] [(0,Root.mk yq12 kq28 a true)]
theorem qbe8 (D:DX)(n:Nat) (K:KT 186):∀ (m:Nat) (x0:List Int) (x1 x2:Int) (x3:tq24),LF D n 186 [.r,.r,.r,.l] m (qtm x0 x1 x2 x3) K=qf9 D n (fun a=>K (Ex.exit 0) (qyo a)) m x0 x1 x2 x3:=eL4 (fun F=>qml D n F (fun a=>K (Ex.exit 0) (qyo a))) (fun _ _ _ _ =>qz ..) (fun _ _ _ _ _ =>by kernel_rfl) (fun _ _ _ _ _ =>rfl)
theorem qbdm (D:DX)(n:Nat) (x0) (x1) (x2) (x3):LF D n 186 [.r,.r,.r,.l] n (qtm x0 x1 x2 x3) (CF D n 186 [] [.r,.r,.r,.l] (lF 186))=qlo D n x0 x1 x2 x3 :=by rw[qbe8];kernel_rfl
theorem qbj6 (D:DX)(n:Nat) (a0:tq24) (a1:Int) (a2:List Int):rF D n 186 (a0,(a1,(a2,())))=qob D n a0 a1 a2:=by
 have h:rF D n 186 (a0,(a1,(a2,())))=qok D n (fun x0 x1 x2 x3=>LF D n 186 [.r,.r,.r,.l] n (qtm x0 x1 x2 x3) (CF D n 186 [] [.r,.r,.r,.l] (lF 186))) a0 a1 a2:=by kernel_rfl
 rw[h]
 simp only[qbdm]
 rfl

def qfs (D:DX)(n:Nat) (a4:Clo) (go:Int→Int→Int→Bool→Bool→List tq38→Option tq30) (K0:List tq38→Option tq30) (x0 x1 x2:Int) (x3 x4:Bool) (x5:List tq38):Option tq30:=let y0:=wrap .i64 (x2 - 1);let y1:=wrap .i64 (x1 - x0);let y2:=Int.toNat (wrap .i64 (x0 - 1));br (decide (y1≤12)) (qd (qhv D x5 x0 x1 a4) fun b↦K0 b.2.1) (br (decide (x2=0)) (qd (qsj D x5 x0 x1 a4) fun b↦K0 b.2.1) (br (!x3) (qd (qn8 D x5 x0 x1 a4) fun b↦qd (qig D b.2.1 x0 x1 a4) fun b_1↦br (decide (b_1.1.2.1=2)) (qd (qh1 D b.2.1 x0 x1 a4) fun b↦br (bif bif x3 then x4 else false then true else false) (qd (qcg D b.2.1 x0 x1 a4) fun b↦br b.1.1 (K0 b.2.1) (br (decide (x0>0)) (br (decide (0≤wrap .i64 (x0 - 1))&&decide (wrap .i64 (x0 - 1)<(b.2.1.length:Int))) (br (decide (0≤wrap .i64 (wrap .i64 (x1 - 1) - wrap .i64 (b_1.1.1 - x0)))&&decide (wrap .i64 (wrap .i64 (x1 - 1) - wrap .i64 (b_1.1.1 - x0))<(b.2.1.length:Int))) (qd (qbk ctx D a4 [CapV.val yq21 (List.getD b.2.1 y2 (0,0,0,())),CapV.val yq21 (List.getD b.2.1 (Int.toNat (wrap .i64 (wrap .i64 (x1 - 1) - wrap .i64 (b_1.1.1 - x0)))) (0,0,0,()))] yq34) fun b_2↦let a:=wrap .i64 (wrap .i64 (x1 - 1) - wrap .i64 (b_1.1.1 - x0));br (!decide (b_2<0)) (qd (qbc D b.2.1 x0 x1 a a4) fun b↦go b.1.1 x1 y0 x3 x4 b.2.1) (qd (qn D b.2.1 x0 x1 a a4) fun b↦br (decide (wrap .i64 (b.1.1 - x0)<wrap .i64 (x1 - b.1.1))) (qd (qf D b.2.1 x0 b.1.1 y0 a4) fun b_3↦go (wrap .i64 (b.1.1+1)) x1 y0 (decide (wrap .i64 (b.1.1 - x0)≥wrap .i64 (Int.tdiv y1 8))) b.1.2.1 b_3.2.1) (qd (qf D b.2.1 (wrap .i64 (b.1.1+1)) x1 y0 a4) fun b_3↦go x0 b.1.1 y0 (decide (wrap .i64 (x1 - b.1.1)≥wrap .i64 (Int.tdiv y1 8))) b.1.2.1 b_3.2.1))) none) none) (qd (qn D b.2.1 x0 x1 (wrap .i64 (wrap .i64 (x1 - 1) - wrap .i64 (b_1.1.1 - x0))) a4) fun b↦br (decide (wrap .i64 (b.1.1 - x0)<wrap .i64 (x1 - b.1.1))) (qd (qf D b.2.1 x0 b.1.1 y0 a4) fun b_2↦go (wrap .i64 (b.1.1+1)) x1 y0 (decide (wrap .i64 (b.1.1 - x0)≥wrap .i64 (Int.tdiv y1 8))) b.1.2.1 b_2.2.1) (qd (qf D b.2.1 (wrap .i64 (b.1.1+1)) x1 y0 a4) fun b_2↦go x0 b.1.1 y0 (decide (wrap .i64 (x1 - b.1.1)≥wrap .i64 (Int.tdiv y1 8))) b.1.2.1 b_2.2.1)))) (br (decide (x0>0)) (br (decide (0≤wrap .i64 (x0 - 1))&&decide (wrap .i64 (x0 - 1)<(b.2.1.length:Int))) (br (decide (0≤wrap .i64 (wrap .i64 (x1 - 1) - wrap .i64 (b_1.1.1 - x0)))&&decide (wrap .i64 (wrap .i64 (x1 - 1) - wrap .i64 (b_1.1.1 - x0))<(b.2.1.length:Int))) (qd (qbk ctx D a4 [CapV.val yq21 (List.getD b.2.1 y2 (0,0,0,())),CapV.val yq21 (List.getD b.2.1 (Int.toNat (wrap .i64 (wrap .i64 (x1 - 1) - wrap .i64 (b_1.1.1 - x0)))) (0,0,0,()))] yq34) fun b_2↦let c:=wrap .i64 (wrap .i64 (x1 - 1) - wrap .i64 (b_1.1.1 - x0));br (!decide (b_2<0)) (qd (qbc D b.2.1 x0 x1 c a4) fun b↦go b.1.1 x1 y0 x3 x4 b.2.1) (qd (qn D b.2.1 x0 x1 c a4) fun b↦br (decide (wrap .i64 (b.1.1 - x0)<wrap .i64 (x1 - b.1.1))) (qd (qf D b.2.1 x0 b.1.1 y0 a4) fun b_3↦go (wrap .i64 (b.1.1+1)) x1 y0 (decide (wrap .i64 (b.1.1 - x0)≥wrap .i64 (Int.tdiv y1 8))) b.1.2.1 b_3.2.1) (qd (qf D b.2.1 (wrap .i64 (b.1.1+1)) x1 y0 a4) fun b_3↦go x0 b.1.1 y0 (decide (wrap .i64 (x1 - b.1.1)≥wrap .i64 (Int.tdiv y1 8))) b.1.2.1 b_3.2.1))) none) none) (qd (qn D b.2.1 x0 x1 (wrap .i64 (wrap .i64 (x1 - 1) - wrap .i64 (b_1.1.1 - x0))) a4) fun b↦br (decide (wrap .i64 (b.1.1 - x0)<wrap .i64 (x1 - b.1.1))) (qd (qf D b.2.1 x0 b.1.1 y0 a4) fun b_2↦go (wrap .i64 (b.1.1+1)) x1 y0 (decide (wrap .i64 (b.1.1 - x0)≥wrap .i64 (Int.tdiv y1 8))) b.1.2.1 b_2.2.1) (qd (qf D b.2.1 (wrap .i64 (b.1.1+1)) x1 y0 a4) fun b_2↦go x0 b.1.1 y0 (decide (wrap .i64 (x1 - b.1.1)≥wrap .i64 (Int.tdiv y1 8))) b.1.2.1 b_2.2.1)))) (br (bif bif x3 then x4 else false then decide (b_1.1.2.1=1) else false) (qd (qcg D b.2.1 x0 x1 a4) fun b↦br b.1.1 (K0 b.2.1) (br (decide (x0>0)) (br (decide (0≤wrap .i64 (x0 - 1))&&decide (wrap .i64 (x0 - 1)<(b.2.1.length:Int))) (br (decide (0≤b_1.1.1)&&decide (b_1.1.1<(b.2.1.length:Int))) (qd (qbk ctx D a4 [CapV.val yq21 (List.getD b.2.1 y2 (0,0,0,())),CapV.val yq21 (List.getD b.2.1 b_1.1.1.toNat (0,0,0,()))] yq34) fun b_2↦br (!decide (b_2<0)) (qd (qbc D b.2.1 x0 x1 b_1.1.1 a4) fun b↦go b.1.1 x1 y0 x3 x4 b.2.1) (qd (qn D b.2.1 x0 x1 b_1.1.1 a4) fun b↦br (decide (wrap .i64 (b.1.1 - x0)<wrap .i64 (x1 - b.1.1))) (qd (qf D b.2.1 x0 b.1.1 y0 a4) fun b_3↦go (wrap .i64 (b.1.1+1)) x1 y0 (decide (wrap .i64 (b.1.1 - x0)≥wrap .i64 (Int.tdiv y1 8))) b.1.2.1 b_3.2.1) (qd (qf D b.2.1 (wrap .i64 (b.1.1+1)) x1 y0 a4) fun b_3↦go x0 b.1.1 y0 (decide (wrap .i64 (x1 - b.1.1)≥wrap .i64 (Int.tdiv y1 8))) b.1.2.1 b_3.2.1))) none) none) (qd (qn D b.2.1 x0 x1 b_1.1.1 a4) fun b↦br (decide (wrap .i64 (b.1.1 - x0)<wrap .i64 (x1 - b.1.1))) (qd (qf D b.2.1 x0 b.1.1 y0 a4) fun b_2↦go (wrap .i64 (b.1.1+1)) x1 y0 (decide (wrap .i64 (b.1.1 - x0)≥wrap .i64 (Int.tdiv y1 8))) b.1.2.1 b_2.2.1) (qd (qf D b.2.1 (wrap .i64 (b.1.1+1)) x1 y0 a4) fun b_2↦go x0 b.1.1 y0 (decide (wrap .i64 (x1 - b.1.1)≥wrap .i64 (Int.tdiv y1 8))) b.1.2.1 b_2.2.1)))) (br (decide (x0>0)) (br (decide (0≤wrap .i64 (x0 - 1))&&decide (wrap .i64 (x0 - 1)<(b.2.1.length:Int))) (br (decide (0≤b_1.1.1)&&decide (b_1.1.1<(b.2.1.length:Int))) (qd (qbk ctx D a4 [CapV.val yq21 (List.getD b.2.1 y2 (0,0,0,())),CapV.val yq21 (List.getD b.2.1 b_1.1.1.toNat (0,0,0,()))] yq34) fun b_2↦br (!decide (b_2<0)) (qd (qbc D b.2.1 x0 x1 b_1.1.1 a4) fun b↦go b.1.1 x1 y0 x3 x4 b.2.1) (qd (qn D b.2.1 x0 x1 b_1.1.1 a4) fun b↦br (decide (wrap .i64 (b.1.1 - x0)<wrap .i64 (x1 - b.1.1))) (qd (qf D b.2.1 x0 b.1.1 y0 a4) fun b_3↦go (wrap .i64 (b.1.1+1)) x1 y0 (decide (wrap .i64 (b.1.1 - x0)≥wrap .i64 (Int.tdiv y1 8))) b.1.2.1 b_3.2.1) (qd (qf D b.2.1 (wrap .i64 (b.1.1+1)) x1 y0 a4) fun b_3↦go x0 b.1.1 y0 (decide (wrap .i64 (x1 - b.1.1)≥wrap .i64 (Int.tdiv y1 8))) b.1.2.1 b_3.2.1))) none) none) (qd (qn D b.2.1 x0 x1 b_1.1.1 a4) fun b↦br (decide (wrap .i64 (b.1.1 - x0)<wrap .i64 (x1 - b.1.1))) (qd (qf D b.2.1 x0 b.1.1 y0 a4) fun b_2↦go (wrap .i64 (b.1.1+1)) x1 y0 (decide (wrap .i64 (b.1.1 - x0)≥wrap .i64 (Int.tdiv y1 8))) b.1.2.1 b_2.2.1) (qd (qf D b.2.1 (wrap .i64 (b.1.1+1)) x1 y0 a4) fun b_2↦go x0 b.1.1 y0 (decide (wrap .i64 (x1 - b.1.1)≥wrap .i64 (Int.tdiv y1 8))) b.1.2.1 b_2.2.1))))) (qd (qig D x5 x0 x1 a4) fun b↦br (decide (b.1.2.1=2)) (qd (qh1 D x5 x0 x1 a4) fun b_1↦br (bif bif x3 then x4 else false then true else false) (qd (qcg D b_1.2.1 x0 x1 a4) fun b_2↦br b_2.1.1 (K0 b_2.2.1) (br (decide (x0>0)) (br (decide (0≤wrap .i64 (x0 - 1))&&decide (wrap .i64 (x0 - 1)<(b_2.2.1.length:Int))) (br (decide (0≤wrap .i64 (wrap .i64 (x1 - 1) - wrap .i64 (b.1.1 - x0)))&&decide (wrap .i64 (wrap .i64 (x1 - 1) - wrap .i64 (b.1.1 - x0))<(b_2.2.1.length:Int))) (qd (qbk ctx D a4 [CapV.val yq21 (List.getD b_2.2.1 y2 (0,0,0,())),CapV.val yq21 (List.getD b_2.2.1 (Int.toNat (wrap .i64 (wrap .i64 (x1 - 1) - wrap .i64 (b.1.1 - x0)))) (0,0,0,()))] yq34) fun b_3↦br (!decide (b_3<0)) (qd (qbc D b_2.2.1 x0 x1 (wrap .i64 (wrap .i64 (x1 - 1) - wrap .i64 (b.1.1 - x0))) a4) fun b↦go b.1.1 x1 x2 x3 x4 b.2.1) (qd (qn D b_2.2.1 x0 x1 (wrap .i64 (wrap .i64 (x1 - 1) - wrap .i64 (b.1.1 - x0))) a4) fun b↦br (decide (wrap .i64 (b.1.1 - x0)<wrap .i64 (x1 - b.1.1))) (qd (qf D b.2.1 x0 b.1.1 x2 a4) fun b_4↦go (wrap .i64 (b.1.1+1)) x1 x2 (decide (wrap .i64 (b.1.1 - x0)≥wrap .i64 (Int.tdiv y1 8))) b.1.2.1 b_4.2.1) (qd (qf D b.2.1 (wrap .i64 (b.1.1+1)) x1 x2 a4) fun b_4↦go x0 b.1.1 x2 (decide (wrap .i64 (x1 - b.1.1)≥wrap .i64 (Int.tdiv y1 8))) b.1.2.1 b_4.2.1))) none) none) (qd (qn D b_2.2.1 x0 x1 (wrap .i64 (wrap .i64 (x1 - 1) - wrap .i64 (b.1.1 - x0))) a4) fun b↦br (decide (wrap .i64 (b.1.1 - x0)<wrap .i64 (x1 - b.1.1))) (qd (qf D b.2.1 x0 b.1.1 x2 a4) fun b_3↦go (wrap .i64 (b.1.1+1)) x1 x2 (decide (wrap .i64 (b.1.1 - x0)≥wrap .i64 (Int.tdiv y1 8))) b.1.2.1 b_3.2.1) (qd (qf D b.2.1 (wrap .i64 (b.1.1+1)) x1 x2 a4) fun b_3↦go x0 b.1.1 x2 (decide (wrap .i64 (x1 - b.1.1)≥wrap .i64 (Int.tdiv y1 8))) b.1.2.1 b_3.2.1)))) (br (decide (x0>0)) (br (decide (0≤wrap .i64 (x0 - 1))&&decide (wrap .i64 (x0 - 1)<(b_1.2.1.length:Int))) (br (decide (0≤wrap .i64 (wrap .i64 (x1 - 1) - wrap .i64 (b.1.1 - x0)))&&decide (wrap .i64 (wrap .i64 (x1 - 1) - wrap .i64 (b.1.1 - x0))<(b_1.2.1.length:Int))) (qd (qbk ctx D a4 [CapV.val yq21 (List.getD b_1.2.1 y2 (0,0,0,())),CapV.val yq21 (List.getD b_1.2.1 (Int.toNat (wrap .i64 (wrap .i64 (x1 - 1) - wrap .i64 (b.1.1 - x0)))) (0,0,0,()))] yq34) fun b_2↦br (!decide (b_2<0)) (qd (qbc D b_1.2.1 x0 x1 (wrap .i64 (wrap .i64 (x1 - 1) - wrap .i64 (b.1.1 - x0))) a4) fun b↦go b.1.1 x1 x2 x3 x4 b.2.1) (qd (qn D b_1.2.1 x0 x1 (wrap .i64 (wrap .i64 (x1 - 1) - wrap .i64 (b.1.1 - x0))) a4) fun b↦br (decide (wrap .i64 (b.1.1 - x0)<wrap .i64 (x1 - b.1.1))) (qd (qf D b.2.1 x0 b.1.1 x2 a4) fun b_3↦go (wrap .i64 (b.1.1+1)) x1 x2 (decide (wrap .i64 (b.1.1 - x0)≥wrap .i64 (Int.tdiv y1 8))) b.1.2.1 b_3.2.1) (qd (qf D b.2.1 (wrap .i64 (b.1.1+1)) x1 x2 a4) fun b_3↦go x0 b.1.1 x2 (decide (wrap .i64 (x1 - b.1.1)≥wrap .i64 (Int.tdiv y1 8))) b.1.2.1 b_3.2.1))) none) none) (qd (qn D b_1.2.1 x0 x1 (wrap .i64 (wrap .i64 (x1 - 1) - wrap .i64 (b.1.1 - x0))) a4) fun b↦br (decide (wrap .i64 (b.1.1 - x0)<wrap .i64 (x1 - b.1.1))) (qd (qf D b.2.1 x0 b.1.1 x2 a4) fun b_2↦go (wrap .i64 (b.1.1+1)) x1 x2 (decide (wrap .i64 (b.1.1 - x0)≥wrap .i64 (Int.tdiv y1 8))) b.1.2.1 b_2.2.1) (qd (qf D b.2.1 (wrap .i64 (b.1.1+1)) x1 x2 a4) fun b_2↦go x0 b.1.1 x2 (decide (wrap .i64 (x1 - b.1.1)≥wrap .i64 (Int.tdiv y1 8))) b.1.2.1 b_2.2.1)))) (br (bif bif x3 then x4 else false then decide (b.1.2.1=1) else false) (qd (qcg D x5 x0 x1 a4) fun b_1↦br b_1.1.1 (K0 b_1.2.1) (br (decide (x0>0)) (br (decide (0≤wrap .i64 (x0 - 1))&&decide (wrap .i64 (x0 - 1)<(b_1.2.1.length:Int))) (br (decide (0≤b.1.1)&&decide (b.1.1<(b_1.2.1.length:Int))) (qd (qbk ctx D a4 [CapV.val yq21 (List.getD b_1.2.1 y2 (0,0,0,())),CapV.val yq21 (List.getD b_1.2.1 b.1.1.toNat (0,0,0,()))] yq34) fun b_2↦br (!decide (b_2<0)) (qd (qbc D b_1.2.1 x0 x1 b.1.1 a4) fun b↦go b.1.1 x1 x2 x3 x4 b.2.1) (qd (qn D b_1.2.1 x0 x1 b.1.1 a4) fun b↦br (decide (wrap .i64 (b.1.1 - x0)<wrap .i64 (x1 - b.1.1))) (qd (qf D b.2.1 x0 b.1.1 x2 a4) fun b_3↦go (wrap .i64 (b.1.1+1)) x1 x2 (decide (wrap .i64 (b.1.1 - x0)≥wrap .i64 (Int.tdiv y1 8))) b.1.2.1 b_3.2.1) (qd (qf D b.2.1 (wrap .i64 (b.1.1+1)) x1 x2 a4) fun b_3↦go x0 b.1.1 x2 (decide (wrap .i64 (x1 - b.1.1)≥wrap .i64 (Int.tdiv y1 8))) b.1.2.1 b_3.2.1))) none) none) (qd (qn D b_1.2.1 x0 x1 b.1.1 a4) fun b↦br (decide (wrap .i64 (b.1.1 - x0)<wrap .i64 (x1 - b.1.1))) (qd (qf D b.2.1 x0 b.1.1 x2 a4) fun b_2↦go (wrap .i64 (b.1.1+1)) x1 x2 (decide (wrap .i64 (b.1.1 - x0)≥wrap .i64 (Int.tdiv y1 8))) b.1.2.1 b_2.2.1) (qd (qf D b.2.1 (wrap .i64 (b.1.1+1)) x1 x2 a4) fun b_2↦go x0 b.1.1 x2 (decide (wrap .i64 (x1 - b.1.1)≥wrap .i64 (Int.tdiv y1 8))) b.1.2.1 b_2.2.1)))) (br (decide (x0>0)) (br (decide (0≤wrap .i64 (x0 - 1))&&decide (wrap .i64 (x0 - 1)<(x5.length:Int))) (br (decide (0≤b.1.1)&&decide (b.1.1<(x5.length:Int))) (qd (qbk ctx D a4 [CapV.val yq21 (List.getD x5 y2 (0,0,0,())),CapV.val yq21 (List.getD x5 b.1.1.toNat (0,0,0,()))] yq34) fun b_1↦br (!decide (b_1<0)) (qd (qbc D x5 x0 x1 b.1.1 a4) fun b↦go b.1.1 x1 x2 x3 x4 b.2.1) (qd (qn D x5 x0 x1 b.1.1 a4) fun b↦br (decide (wrap .i64 (b.1.1 - x0)<wrap .i64 (x1 - b.1.1))) (qd (qf D b.2.1 x0 b.1.1 x2 a4) fun b_2↦go (wrap .i64 (b.1.1+1)) x1 x2 (decide (wrap .i64 (b.1.1 - x0)≥wrap .i64 (Int.tdiv y1 8))) b.1.2.1 b_2.2.1) (qd (qf D b.2.1 (wrap .i64 (b.1.1+1)) x1 x2 a4) fun b_2↦go x0 b.1.1 x2 (decide (wrap .i64 (x1 - b.1.1)≥wrap .i64 (Int.tdiv y1 8))) b.1.2.1 b_2.2.1))) none) none) (qd (qn D x5 x0 x1 b.1.1 a4) fun b↦br (decide (wrap .i64 (b.1.1 - x0)<wrap .i64 (x1 - b.1.1))) (qd (qf D b.2.1 x0 b.1.1 x2 a4) fun b_1↦go (wrap .i64 (b.1.1+1)) x1 x2 (decide (wrap .i64 (b.1.1 - x0)≥wrap .i64 (Int.tdiv y1 8))) b.1.2.1 b_1.2.1) (qd (qf D b.2.1 (wrap .i64 (b.1.1+1)) x1 x2 a4) fun b_1↦go x0 b.1.1 x2 (decide (wrap .i64 (x1 - b.1.1)≥wrap .i64 (Int.tdiv y1 8))) b.1.2.1 b_1.2.1)))))))
def qde (D:DX)(n:Nat) (a4:Clo) (K0:List tq38→Option tq30):Nat→Int→Int→Int→Bool→Bool→(List tq38)→Option tq30 | 0=>(fun x0 x1 x2 x3 x4 x5=>none) | m+1=>(fun x0 x1 x2 x3 x4 x5=>qfs D n a4 (qde D n a4 K0 m) K0 x0 x1 x2 x3 x4 x5)
def qqh (D:DX)(n:Nat) (a4:Clo) (a:List tq38):Option tq30:=some ((),a,())
def qfn (D:DX)(n:Nat) (a4:Clo):(Int)→(Int)→(Int)→(Bool)→(Bool)→(List tq38)→Option tq30:=(fun x0 x1 x2 x3 x4 x5=>qde D n a4 (fun a=>qqh D n a4 a) n x0 x1 x2 x3 x4 x5)
def qgb (D:DX)(n:Nat) (a4:Clo) (lp0:Int→Int→Int→Bool→Bool→List tq38→Option tq30) (a0:List tq38) (a1 a2 a3:Int):Option tq30:=lp0 a1 a2 a3 true true a0
def qf7 (D:DX)(n:Nat) (a0:List tq38) (a1 a2 a3:Int) (a4:Clo):Option tq30:=qgb D n a4 (qfn D n a4) a0 a1 a2 a3
def qfy (a4:Clo) (x0 x1 x2:Int) (x3 x4:Bool) (x5:List tq38):St:=stq 148 [(0,AV.brw 0 [] 1048576),(1,AV.val yq34 x0),(2,AV.val yq34 x1),(3,AV.val yq34 x2),(4,AV.cloV a4),(10,AV.val Ty.bool x3),(11,AV.val Ty.bool x4)] [(0,Root.mk yq19 kq33 x5 false)]
def qir (a4:Clo) (a:List tq38):St:=stq 148 [(0,AV.brw 0 [] 1048576)] [(0,Root.mk yq19 kq33 a false)]
theorem qrn (D:DX)(n:Nat) (a4:Clo) (K:KT 187):∀ (m:Nat) (x0 x1 x2:Int) (x3 x4:Bool) (x5:List tq38),LF D n 187 pq14 m (qfy a4 x0 x1 x2 x3 x4 x5) K=qde D n a4 (fun a=>K (Ex.ret) (qir a4 a)) m x0 x1 x2 x3 x4 x5:=eL6 (fun F=>qfs D n a4 F (fun a=>K (Ex.ret) (qir a4 a))) (fun _ _ _ _ _ _ =>qz ..) (fun _ _ _ _ _ _ _ =>by kernel_rfl) (fun _ _ _ _ _ _ _ =>rfl)
theorem qqg (D:DX)(n:Nat) (a4:Clo) (x0) (x1) (x2) (x3) (x4) (x5):LF D n 187 pq14 n (qfy a4 x0 x1 x2 x3 x4 x5) (CF D n 187 [] pq14 (lF 187))=qfn D n a4 x0 x1 x2 x3 x4 x5 :=by rw[qrn];kernel_rfl
theorem qss (D:DX)(n:Nat) (a0:List tq38) (a1 a2 a3:Int) (a4:Clo):rF D n 187 (a0,(a1,(a2,(a3,(a4,())))))=qf7 D n a0 a1 a2 a3 a4:=by
 have h:rF D n 187 (a0,(a1,(a2,(a3,(a4,())))))=qgb D n a4 (fun x0 x1 x2 x3 x4 x5=>LF D n 187 pq14 n (qfy a4 x0 x1 x2 x3 x4 x5) (CF D n 187 [] pq14 (lF 187))) a0 a1 a2 a3:=by kernel_rfl
 rw[h]
 simp only[qqg]
 rfl

def qdj (D:DX)(n:Nat) (go:Int→Int→Int→Int→List Int→Option tq39) (K0:Int→Int→Int→List Int→Option tq39) (d e f a:Int) (c:List Int):Option tq39:=let y0:=List.getD c (Int.toNat (wrap .i64 (a - 1))) 0;br (decide (a>d)) (br (decide (0≤a)&&decide (a<(c.length:Int))) (br (decide (0≤wrap .i64 (a - 1))&&decide (wrap .i64 (a - 1)<(c.length:Int))) (qd (qdt D (List.getD c a.toNat 0) y0) fun b↦br b.1.1 (br (decide (0≤wrap .i64 (a - 1))&&decide (wrap .i64 (a - 1)<(c.length:Int))) (br (decide (0≤a)&&decide (a<(c.length:Int))) (br (decide (0≤a)&&decide (a<(c.length:Int))) (br (decide (0≤wrap .i64 (a - 1))&&decide (wrap .i64 (a - 1)<((List.set c a.toNat y0).length:Int))) (go d e f (wrap .i64 (a - 1)) (List.set (List.set c a.toNat y0) (Int.toNat (wrap .i64 (a - 1))) (List.getD c a.toNat 0))) none) none) none) none) (K0 d e f c)) none) none) (K0 d e f c)
def qcd (D:DX)(n:Nat) (K0:Int→Int→Int→List Int→Option tq39):Nat→Int→Int→Int→Int→(List Int)→Option tq39 | 0=>(fun a b c d e=>none) | m+1=>(fun a b c d e=>qdj D n (qcd D n K0 m) K0 a b c d e)
def qfm (D:DX)(n:Nat) (go:Int→Int→Int→List Int→Option tq39) (K0:List Int→Option tq39) (a b c:Int) (d:List Int):Option tq39:=go a b (wrap .i64 (c+1)) d
def qfw (D:DX)(n:Nat) (go:Int→Int→Int→List Int→Option tq39) (K0:List Int→Option tq39):(Int)→(Int)→(Int)→(Int)→(List Int)→Option tq39:=(fun a f g h i=>qcd D n (fun b c d e=>qfm D n go K0 b c d e) n a f g h i)
def qc0 (D:DX)(n:Nat) (go:Int→Int→Int→List Int→Option tq39) (K0:List Int→Option tq39) (lp1:Int→Int→Int→Int→List Int→Option tq39) (x0 x1 x2:Int) (x3:List Int):Option tq39:=br (decide (x2<x1)) (lp1 x0 x1 x2 x2 x3) (K0 x3)
def qba (D:DX)(n:Nat) (K0:List Int→Option tq39):Nat→Int→Int→Int→(List Int)→Option tq39 | 0=>(fun x0 x1 x2 x3=>none) | m+1=>(fun x0 x1 x2 x3=>qc0 D n (qba D n K0 m) K0 (qfw D n (qba D n K0 m) K0) x0 x1 x2 x3)
def qjh (D:DX)(n:Nat) (a:List Int):Option tq39:=some ((),a,())
def qfx (D:DX)(n:Nat):(Int)→(Int)→(Int)→(List Int)→Option tq39:=(fun x0 x1 x2 x3=>qba D n (fun a=>qjh D n a) n x0 x1 x2 x3)
def qgp (D:DX)(n:Nat) (lp0:Int→Int→Int→List Int→Option tq39) (a0:List Int) (a1 a2:Int):Option tq39:=lp0 a1 a2 (wrap .i64 (a1+1)) a0
def qgq (D:DX)(n:Nat) (a0:List Int) (a1 a2:Int):Option tq39:=qgp D n (qfx D n) a0 a1 a2
def qb3 (x0 x1 x2:Int) (x3:List Int):St:=stq 49 [(0,AV.brw 0 [] 1048576),(1,AV.val yq34 x0),(2,AV.val yq34 x1),(6,AV.val yq34 x2)] [(0,Root.mk yq30 kq33 x3 false)]
def qdc (a:List Int):St:=stq 49 [(0,AV.brw 0 [] 1048576)] [(0,Root.mk yq30 kq33 a false)]
def qf3 (a b c d:Int) (e:List Int):St:=stq 49 [(0,AV.brw 0 [] 1048576),(1,AV.val yq34 a),(2,AV.val yq34 b),(6,AV.val yq34 c),(7,AV.val yq34 d)] [(0,Root.mk yq30 kq33 e false)]
def qjj (a b c:Int) (d:List Int):St:=stq 49 [(0,AV.brw 0 [] 1048576),(1,AV.val yq34 a),(2,AV.val yq34 b),(6,AV.val yq34 c)] [(0,Root.mk yq30 kq33 d false)]
theorem qsi (D:DX)(n:Nat) (K:KT 188):∀ (m:Nat) (e f g h:Int) (i:List Int),LF D n 188 pq9 m (qf3 e f g h i) K=qcd D n (fun a b c d=>K (Ex.exit 2) (qjj a b c d)) m e f g h i:=eL5 (fun F=>qdj D n F (fun a b c d=>K (Ex.exit 2) (qjj a b c d))) (fun _ _ _ _ _ =>qz ..) (fun _ _ _ _ _ _ =>by kernel_rfl) (fun _ _ _ _ _ _ =>rfl)
theorem qqx (D:DX)(n:Nat) (m:Nat) (K:KT 188) (a b c d:Int) (e:List Int):LF D n 188 pq9 n (qf3 a b c d e) (CF D n 188 [.r,.l,.l] [.r,.l,.l,.r,.l] (KF D n 188 pq10 m K))=qfw D n (fun x0 x1 x2 x3=>LF D n 188 pq10 m (qb3 x0 x1 x2 x3) K) (fun f=>K (Ex.exit 0) (qdc f)) a b c d e :=by rw[qsi];kernel_rfl
theorem qsh (D:DX)(n:Nat) (m:Nat) (K:KT 188) (x0) (x1) (x2) (x3):LF D n 188 pq10 (m+1) (qb3 x0 x1 x2 x3) K=qc0 D n (fun x0 x1 x2 x3=>LF D n 188 pq10 m (qb3 x0 x1 x2 x3) K) (fun a=>K (Ex.exit 0) (qdc a)) (fun b c d e f=>LF D n 188 pq9 n (qf3 b c d e f) (CF D n 188 [.r,.l,.l] [.r,.l,.l,.r,.l] (KF D n 188 pq10 m K))) x0 x1 x2 x3:=by kernel_rfl
theorem qjm (D:DX)(n:Nat) (K:KT 188):∀ (m:Nat) (x0 x1 x2:Int) (x3:List Int),LF D n 188 pq10 m (qb3 x0 x1 x2 x3) K=qba D n (fun a=>K (Ex.exit 0) (qdc a)) m x0 x1 x2 x3
 | 0,x0,x1,x2,x3=>qz ..
 | m+1,x0,x1,x2,x3=>by
  have ih:(fun x0 x1 x2 x3=>LF D n 188 pq10 m (qb3 x0 x1 x2 x3) K)=qba D n (fun a=>K (Ex.exit 0) (qdc a)) m:=by funext x0 x1 x2 x3;exact qjm D n K m x0 x1 x2 x3
  rw[qsh]
  simp only[qqx]
  rw[ih];rfl
theorem qq1 (D:DX)(n:Nat) (x0) (x1) (x2) (x3):LF D n 188 pq10 n (qb3 x0 x1 x2 x3) (CF D n 188 [] pq10 (lF 188))=qfx D n x0 x1 x2 x3 :=by rw[qjm];kernel_rfl
theorem qt6 (D:DX)(n:Nat) (a0:List Int) (a1 a2:Int):rF D n 188 (a0,(a1,(a2,())))=qgq D n a0 a1 a2:=by
 have h:rF D n 188 (a0,(a1,(a2,())))=qgp D n (fun x0 x1 x2 x3=>LF D n 188 pq10 n (qb3 x0 x1 x2 x3) (CF D n 188 [] pq10 (lF 188))) a0 a1 a2:=by kernel_rfl
 rw[h]
 simp only[qq1]
 rfl






def qbaj (D:DX)(n:Nat) (a0 a1:Int):Option tq42:=qd (qxl D a0) fun b↦br b.1.1 (qd (qxl D a1) fun b↦some ((bif !b.1.1 then true else decide (a0<a1),()),())) (some ((bif false then true else decide (a0<a1),()),()))
def q04 (D:DX)(n:Nat) (a0 a1:Int):Option tq42:=qbaj D n a0 a1
theorem qbod (D:DX)(n:Nat) (a0 a1:Int):rF D n 194 (a0,(a1,()))=q04 D n a0 a1:=by kernel_rfl



def qbh3 (D:DX)(n:Nat) (a0:Int):Option tq43:=let y0:=List.toArray ([UInt8.ofNat 0,UInt8.ofNat 1,UInt8.ofNat 2,UInt8.ofNat 2,UInt8.ofNat 3,UInt8.ofNat 3,UInt8.ofNat 3,UInt8.ofNat 3,UInt8.ofNat 4,UInt8.ofNat 4,UInt8.ofNat 4,UInt8.ofNat 4,UInt8.ofNat 4,UInt8.ofNat 4,UInt8.ofNat 4,UInt8.ofNat 4,UInt8.ofNat 5,UInt8.ofNat 5,UInt8.ofNat 5,UInt8.ofNat 5,UInt8.ofNat 5,UInt8.ofNat 5,UInt8.ofNat 5,UInt8.ofNat 5,UInt8.ofNat 5,UInt8.ofNat 5,UInt8.ofNat 5,UInt8.ofNat 5,UInt8.ofNat 5,UInt8.ofNat 5,UInt8.ofNat 5,UInt8.ofNat 5,UInt8.ofNat 6,UInt8.ofNat 6,UInt8.ofNat 6,UInt8.ofNat 6,UInt8.ofNat 6,UInt8.ofNat 6,UInt8.ofNat 6,UInt8.ofNat 6,UInt8.ofNat 6,UInt8.ofNat 6,UInt8.ofNat 6,UInt8.ofNat 6,UInt8.ofNat 6,UInt8.ofNat 6,UInt8.ofNat 6,UInt8.ofNat 6,UInt8.ofNat 6,UInt8.ofNat 6,UInt8.ofNat 6,UInt8.ofNat 6,UInt8.ofNat 6,UInt8.ofNat 6,UInt8.ofNat 6,UInt8.ofNat 6,UInt8.ofNat 6,UInt8.ofNat 6,UInt8.ofNat 6,UInt8.ofNat 6,UInt8.ofNat 6,UInt8.ofNat 6,UInt8.ofNat 6,UInt8.ofNat 6]++[UInt8.ofNat 7,UInt8.ofNat 7,UInt8.ofNat 7,UInt8.ofNat 7,UInt8.ofNat 7,UInt8.ofNat 7,UInt8.ofNat 7,UInt8.ofNat 7,UInt8.ofNat 7,UInt8.ofNat 7,UInt8.ofNat 7,UInt8.ofNat 7,UInt8.ofNat 7,UInt8.ofNat 7,UInt8.ofNat 7,UInt8.ofNat 7,UInt8.ofNat 7,UInt8.ofNat 7,UInt8.ofNat 7,UInt8.ofNat 7,UInt8.ofNat 7,UInt8.ofNat 7,UInt8.ofNat 7,UInt8.ofNat 7,UInt8.ofNat 7,UInt8.ofNat 7,UInt8.ofNat 7,UInt8.ofNat 7,UInt8.ofNat 7,UInt8.ofNat 7,UInt8.ofNat 7,UInt8.ofNat 7,UInt8.ofNat 7,UInt8.ofNat 7,UInt8.ofNat 7,UInt8.ofNat 7,UInt8.ofNat 7,UInt8.ofNat 7,UInt8.ofNat 7,UInt8.ofNat 7,UInt8.ofNat 7,UInt8.ofNat 7,UInt8.ofNat 7,UInt8.ofNat 7,UInt8.ofNat 7,UInt8.ofNat 7,UInt8.ofNat 7,UInt8.ofNat 7,UInt8.ofNat 7,UInt8.ofNat 7,UInt8.ofNat 7,UInt8.ofNat 7,UInt8.ofNat 7,UInt8.ofNat 7,UInt8.ofNat 7,UInt8.ofNat 7,UInt8.ofNat 7,UInt8.ofNat 7,UInt8.ofNat 7,UInt8.ofNat 7,UInt8.ofNat 7,UInt8.ofNat 7,UInt8.ofNat 7,UInt8.ofNat 7]++([UInt8.ofNat 8,UInt8.ofNat 8,UInt8.ofNat 8,UInt8.ofNat 8,UInt8.ofNat 8,UInt8.ofNat 8,UInt8.ofNat 8,UInt8.ofNat 8,UInt8.ofNat 8,UInt8.ofNat 8,UInt8.ofNat 8,UInt8.ofNat 8,UInt8.ofNat 8,UInt8.ofNat 8,UInt8.ofNat 8,UInt8.ofNat 8,UInt8.ofNat 8,UInt8.ofNat 8,UInt8.ofNat 8,UInt8.ofNat 8,UInt8.ofNat 8,UInt8.ofNat 8,UInt8.ofNat 8,UInt8.ofNat 8,UInt8.ofNat 8,UInt8.ofNat 8,UInt8.ofNat 8,UInt8.ofNat 8,UInt8.ofNat 8,UInt8.ofNat 8,UInt8.ofNat 8,UInt8.ofNat 8,UInt8.ofNat 8,UInt8.ofNat 8,UInt8.ofNat 8,UInt8.ofNat 8,UInt8.ofNat 8,UInt8.ofNat 8,UInt8.ofNat 8,UInt8.ofNat 8,UInt8.ofNat 8,UInt8.ofNat 8,UInt8.ofNat 8,UInt8.ofNat 8,UInt8.ofNat 8,UInt8.ofNat 8,UInt8.ofNat 8,UInt8.ofNat 8,UInt8.ofNat 8,UInt8.ofNat 8,UInt8.ofNat 8,UInt8.ofNat 8,UInt8.ofNat 8,UInt8.ofNat 8,UInt8.ofNat 8,UInt8.ofNat 8,UInt8.ofNat 8,UInt8.ofNat 8,UInt8.ofNat 8,UInt8.ofNat 8,UInt8.ofNat 8,UInt8.ofNat 8,UInt8.ofNat 8,UInt8.ofNat 8]++[UInt8.ofNat 8,UInt8.ofNat 8,UInt8.ofNat 8,UInt8.ofNat 8,UInt8.ofNat 8,UInt8.ofNat 8,UInt8.ofNat 8,UInt8.ofNat 8,UInt8.ofNat 8,UInt8.ofNat 8,UInt8.ofNat 8,UInt8.ofNat 8,UInt8.ofNat 8,UInt8.ofNat 8,UInt8.ofNat 8,UInt8.ofNat 8,UInt8.ofNat 8,UInt8.ofNat 8,UInt8.ofNat 8,UInt8.ofNat 8,UInt8.ofNat 8,UInt8.ofNat 8,UInt8.ofNat 8,UInt8.ofNat 8,UInt8.ofNat 8,UInt8.ofNat 8,UInt8.ofNat 8,UInt8.ofNat 8,UInt8.ofNat 8,UInt8.ofNat 8,UInt8.ofNat 8,UInt8.ofNat 8,UInt8.ofNat 8,UInt8.ofNat 8,UInt8.ofNat 8,UInt8.ofNat 8,UInt8.ofNat 8,UInt8.ofNat 8,UInt8.ofNat 8,UInt8.ofNat 8,UInt8.ofNat 8,UInt8.ofNat 8,UInt8.ofNat 8,UInt8.ofNat 8,UInt8.ofNat 8,UInt8.ofNat 8,UInt8.ofNat 8,UInt8.ofNat 8,UInt8.ofNat 8,UInt8.ofNat 8,UInt8.ofNat 8,UInt8.ofNat 8,UInt8.ofNat 8,UInt8.ofNat 8,UInt8.ofNat 8,UInt8.ofNat 8,UInt8.ofNat 8,UInt8.ofNat 8,UInt8.ofNat 8,UInt8.ofNat 8,UInt8.ofNat 8,UInt8.ofNat 8,UInt8.ofNat 8,UInt8.ofNat 8]));let y1:=Int.pow 2 (if Int.toNat 32≤IntKind.bits .u64 then Int.toNat 32 else IntKind.bits .u64);let y2:=Int.pow 2 (if Int.toNat 16≤IntKind.bits .u64 then Int.toNat 16 else IntKind.bits .u64);let y3:=Int.pow 2 (if Int.toNat 8≤IntKind.bits .u64 then Int.toNat 8 else IntKind.bits .u64);let y4:=Int.fdiv a0 y1;let y5:=ByteArray.mk y0;let y6:=Int.fdiv y4 y2;let y7:=Int.fdiv a0 y2;br (decide (a0≥4294967296)) (br (decide (y4≥65536)) (br (decide (y6≥256)) (br (decide (0≤wrap .u8 (Int.fdiv y6 y3))&&decide (wrap .u8 (Int.fdiv y6 y3)<(↑(ByteArray.size y5):Int))) (some ((wrap .i64 (wrap .i64 (wrap .i64 (32+16)+8)+wrap .i64 (↑(UInt8.toNat (Array.getD y0 (Int.toNat (wrap .u8 (Int.fdiv y6 y3))) (UInt8.ofNat 0))):Int)),()),())) none) (br (decide (0≤wrap .u8 y6)&&decide (wrap .u8 y6<(↑(ByteArray.size y5):Int))) (some ((wrap .i64 (wrap .i64 (32+16)+wrap .i64 (↑(UInt8.toNat (Array.getD y0 (Int.toNat (wrap .u8 y6)) (UInt8.ofNat 0))):Int)),()),())) none)) (br (decide (y4≥256)) (br (decide (0≤wrap .u8 (Int.fdiv y4 y3))&&decide (wrap .u8 (Int.fdiv y4 y3)<(↑(ByteArray.size y5):Int))) (some ((wrap .i64 (wrap .i64 (32+8)+wrap .i64 (↑(UInt8.toNat (Array.getD y0 (Int.toNat (wrap .u8 (Int.fdiv y4 y3))) (UInt8.ofNat 0))):Int)),()),())) none) (br (decide (0≤wrap .u8 y4)&&decide (wrap .u8 y4<(↑(ByteArray.size y5):Int))) (some ((wrap .i64 (32+wrap .i64 (↑(UInt8.toNat (Array.getD y0 (Int.toNat (wrap .u8 y4)) (UInt8.ofNat 0))):Int)),()),())) none))) (br (decide (a0≥65536)) (br (decide (y7≥256)) (br (decide (0≤wrap .u8 (Int.fdiv y7 y3))&&decide (wrap .u8 (Int.fdiv y7 y3)<(↑(ByteArray.size y5):Int))) (some ((wrap .i64 (wrap .i64 (wrap .i64 (0+16)+8)+wrap .i64 (↑(UInt8.toNat (Array.getD y0 (Int.toNat (wrap .u8 (Int.fdiv y7 y3))) (UInt8.ofNat 0))):Int)),()),())) none) (br (decide (0≤wrap .u8 y7)&&decide (wrap .u8 y7<(↑(ByteArray.size y5):Int))) (some ((wrap .i64 (wrap .i64 (0+16)+wrap .i64 (↑(UInt8.toNat (Array.getD y0 (Int.toNat (wrap .u8 y7)) (UInt8.ofNat 0))):Int)),()),())) none)) (br (decide (a0≥256)) (br (decide (0≤wrap .u8 (Int.fdiv a0 y3))&&decide (wrap .u8 (Int.fdiv a0 y3)<(↑(ByteArray.size y5):Int))) (some ((wrap .i64 (wrap .i64 (0+8)+wrap .i64 (↑(UInt8.toNat (Array.getD y0 (Int.toNat (wrap .u8 (Int.fdiv a0 y3))) (UInt8.ofNat 0))):Int)),()),())) none) (br (decide (0≤wrap .u8 a0)&&decide (wrap .u8 a0<(↑(ByteArray.size y5):Int))) (some ((wrap .i64 (0+wrap .i64 (↑(UInt8.toNat (Array.getD y0 (Int.toNat (wrap .u8 a0)) (UInt8.ofNat 0))):Int)),()),())) none)))
def qbu (D:DX)(n:Nat) (a0:Int):Option tq43:=qbh3 D n a0
theorem qbgv (D:DX)(n:Nat) (a0:Int):rF D n 198 (a0,())=qbu D n a0:=by kernel_rfl

def qcx (D:DX)(n:Nat) (a3:Clo) (go:Int→Int→Int→Int→List tq38→Option tq30) (K0:Int→Int→Int→List tq38→Option tq30) (d e f a:Int) (c:List tq38):Option tq30:=let y0:=List.getD c (Int.toNat (wrap .i64 (a - 1))) (0,0,0,());br (decide (a>d)) (br (decide (0≤a)&&decide (a<(c.length:Int))) (br (decide (0≤wrap .i64 (a - 1))&&decide (wrap .i64 (a - 1)<(c.length:Int))) (qd (qbk ctx D a3 [CapV.val yq21 (List.getD c a.toNat (0,0,0,())),CapV.val yq21 y0] yq34) fun b↦br (decide (b<0)) (br (decide (0≤wrap .i64 (a - 1))&&decide (wrap .i64 (a - 1)<(c.length:Int))) (br (decide (0≤a)&&decide (a<(c.length:Int))) (br (decide (0≤a)&&decide (a<(c.length:Int))) (br (decide (0≤wrap .i64 (a - 1))&&decide (wrap .i64 (a - 1)<((List.set c a.toNat y0).length:Int))) (go d e f (wrap .i64 (a - 1)) (List.set (List.set c a.toNat y0) (Int.toNat (wrap .i64 (a - 1))) (List.getD c a.toNat (0,0,0,())))) none) none) none) none) (K0 d e f c)) none) none) (K0 d e f c)
def qbv (D:DX)(n:Nat) (a3:Clo) (K0:Int→Int→Int→List tq38→Option tq30):Nat→Int→Int→Int→Int→(List tq38)→Option tq30 | 0=>(fun a b c d e=>none) | m+1=>(fun a b c d e=>qcx D n a3 (qbv D n a3 K0 m) K0 a b c d e)
def qdi (D:DX)(n:Nat) (a3:Clo) (go:Int→Int→Int→List tq38→Option tq30) (K0:List tq38→Option tq30) (a b c:Int) (d:List tq38):Option tq30:=go a b (wrap .i64 (c+1)) d
def qdo (D:DX)(n:Nat) (a3:Clo) (go:Int→Int→Int→List tq38→Option tq30) (K0:List tq38→Option tq30):(Int)→(Int)→(Int)→(Int)→(List tq38)→Option tq30:=(fun a f g h i=>qbv D n a3 (fun b c d e=>qdi D n a3 go K0 b c d e) n a f g h i)
def qca (D:DX)(n:Nat) (a3:Clo) (go:Int→Int→Int→List tq38→Option tq30) (K0:List tq38→Option tq30) (lp1:Int→Int→Int→Int→List tq38→Option tq30) (x0 x1 x2:Int) (x3:List tq38):Option tq30:=br (decide (x2<x1)) (lp1 x0 x1 x2 x2 x3) (K0 x3)
def q7 (D:DX)(n:Nat) (a3:Clo) (K0:List tq38→Option tq30):Nat→Int→Int→Int→(List tq38)→Option tq30 | 0=>(fun x0 x1 x2 x3=>none) | m+1=>(fun x0 x1 x2 x3=>qca D n a3 (q7 D n a3 K0 m) K0 (qdo D n a3 (q7 D n a3 K0 m) K0) x0 x1 x2 x3)
def qgt (D:DX)(n:Nat) (a3:Clo) (a:List tq38):Option tq30:=some ((),a,())
def qdr (D:DX)(n:Nat) (a3:Clo):(Int)→(Int)→(Int)→(List tq38)→Option tq30:=(fun x0 x1 x2 x3=>q7 D n a3 (fun a=>qgt D n a3 a) n x0 x1 x2 x3)
def qeh (D:DX)(n:Nat) (a3:Clo) (lp0:Int→Int→Int→List tq38→Option tq30) (a0:List tq38) (a1 a2:Int):Option tq30:=lp0 a1 a2 (wrap .i64 (a1+1)) a0
def qei (D:DX)(n:Nat) (a0:List tq38) (a1 a2:Int) (a3:Clo):Option tq30:=qeh D n a3 (qdr D n a3) a0 a1 a2
def qbm (a3:Clo) (x0 x1 x2:Int) (x3:List tq38):St:=stq 53 [(0,AV.brw 0 [] 1048576),(1,AV.val yq34 x0),(2,AV.val yq34 x1),(3,AV.cloV a3),(8,AV.val yq34 x2)] [(0,Root.mk yq19 kq33 x3 false)]
def qco (a3:Clo) (a:List tq38):St:=stq 53 [(0,AV.brw 0 [] 1048576)] [(0,Root.mk yq19 kq33 a false)]
def qd9 (a3:Clo) (a b c d:Int) (e:List tq38):St:=stq 53 [(0,AV.brw 0 [] 1048576),(1,AV.val yq34 a),(2,AV.val yq34 b),(3,AV.cloV a3),(8,AV.val yq34 c),(9,AV.val yq34 d)] [(0,Root.mk yq19 kq33 e false)]
def qgu (a3:Clo) (a b c:Int) (d:List tq38):St:=stq 53 [(0,AV.brw 0 [] 1048576),(1,AV.val yq34 a),(2,AV.val yq34 b),(3,AV.cloV a3),(8,AV.val yq34 c)] [(0,Root.mk yq19 kq33 d false)]
theorem qmp (D:DX)(n:Nat) (a3:Clo) (K:KT 199):∀ (m:Nat) (e f g h:Int) (i:List tq38),LF D n 199 pq9 m (qd9 a3 e f g h i) K=qbv D n a3 (fun a b c d=>K (Ex.exit 2) (qgu a3 a b c d)) m e f g h i:=eL5 (fun F=>qcx D n a3 F (fun a b c d=>K (Ex.exit 2) (qgu a3 a b c d))) (fun _ _ _ _ _ =>qz ..) (fun _ _ _ _ _ _ =>by kernel_rfl) (fun _ _ _ _ _ _ =>rfl)
theorem qmf (D:DX)(n:Nat) (a3:Clo) (m:Nat) (K:KT 199) (a b c d:Int) (e:List tq38):LF D n 199 pq9 n (qd9 a3 a b c d e) (CF D n 199 [.r,.l,.l] [.r,.l,.l,.r,.l] (KF D n 199 pq10 m K))=qdo D n a3 (fun x0 x1 x2 x3=>LF D n 199 pq10 m (qbm a3 x0 x1 x2 x3) K) (fun f=>K (Ex.exit 0) (qco a3 f)) a b c d e :=by rw[qmp];kernel_rfl
theorem qnb (D:DX)(n:Nat) (a3:Clo) (m:Nat) (K:KT 199) (x0) (x1) (x2) (x3):LF D n 199 pq10 (m+1) (qbm a3 x0 x1 x2 x3) K=qca D n a3 (fun x0 x1 x2 x3=>LF D n 199 pq10 m (qbm a3 x0 x1 x2 x3) K) (fun a=>K (Ex.exit 0) (qco a3 a)) (fun b c d e f=>LF D n 199 pq9 n (qd9 a3 b c d e f) (CF D n 199 [.r,.l,.l] [.r,.l,.l,.r,.l] (KF D n 199 pq10 m K))) x0 x1 x2 x3:=by kernel_rfl
theorem qg0 (D:DX)(n:Nat) (a3:Clo) (K:KT 199):∀ (m:Nat) (x0 x1 x2:Int) (x3:List tq38),LF D n 199 pq10 m (qbm a3 x0 x1 x2 x3) K=q7 D n a3 (fun a=>K (Ex.exit 0) (qco a3 a)) m x0 x1 x2 x3
 | 0,x0,x1,x2,x3=>qz ..
 | m+1,x0,x1,x2,x3=>by
  have ih:(fun x0 x1 x2 x3=>LF D n 199 pq10 m (qbm a3 x0 x1 x2 x3) K)=q7 D n a3 (fun a=>K (Ex.exit 0) (qco a3 a)) m:=by funext x0 x1 x2 x3;exact qg0 D n a3 K m x0 x1 x2 x3
  rw[qnb]
  simp only[qmf]
  rw[ih];rfl
theorem qmg (D:DX)(n:Nat) (a3:Clo) (x0) (x1) (x2) (x3):LF D n 199 pq10 n (qbm a3 x0 x1 x2 x3) (CF D n 199 [] pq10 (lF 199))=qdr D n a3 x0 x1 x2 x3 :=by rw[qg0];kernel_rfl
theorem qoe (D:DX)(n:Nat) (a0:List tq38) (a1 a2:Int) (a3:Clo):rF D n 199 (a0,(a1,(a2,(a3,()))))=qei D n a0 a1 a2 a3:=by
 have h:rF D n 199 (a0,(a1,(a2,(a3,()))))=qeh D n a3 (fun x0 x1 x2 x3=>LF D n 199 pq10 n (qbm a3 x0 x1 x2 x3) (CF D n 199 [] pq10 (lF 199))) a0 a1 a2:=by kernel_rfl
 rw[h]
 simp only[qmg]
 rfl













def q8i (D:DX)(n:Nat) (a0:Int):Option tq42:=some ((a0 != a0,()),())
def qx9 (D:DX)(n:Nat) (a0:Int):Option tq42:=q8i D n a0
theorem qblg (D:DX)(n:Nat) (a0:Int):rF D n 212 (a0,())=qx9 D n a0:=by kernel_rfl





end
end Go.G

namespace Go.G
set_option maxRecDepth 100000
open Go Go.V Go.Proofs
def XOk (X:Ext):Prop:=∀ k:Nat,(Nat.beq k 128)=false→X.is k=false
theorem qbun:XOk qbmp:=fun _ _=>rfl
section
variable {X:Ext}(hX:XOk X)(n:Nat)
include hX
theorem sQ {g:FuncId}{fn:Func}{a:PDen (ctx.sig g).params}{r:Option (Out ctx g)}(hf:Tryz.prog.funcs[g]?=some fn)(ht:qlc g=some fn)(hg:Nat.beq g 128=false)(e:rF (DD X n) n g a=r):DD X (n+1) g a=r:=(qb4f X hf ht (hX g hg) n a).trans e
theorem qbev (a0):q15 (DD X (n+1)) a0=qq9 (DD X n) n a0:=sQ hX n Tryz.func10 (by kernel_rfl) rfl (qbex ..)
theorem qbz4 (a0):qbcq (DD X (n+1)) a0=qbm7 (DD X n) n a0:=sQ hX n Tryz.func12 (by kernel_rfl) rfl (qby0 ..)
theorem qbdy (a0):qpv (DD X (n+1)) a0=qps (DD X n) n a0:=sQ hX n Tryz.func13 (by kernel_rfl) rfl (qbd0 ..)
theorem qbgy (a0 a1):qs5 (DD X (n+1)) a0 a1=qtq (DD X n) n a0 a1:=sQ hX n Tryz.func14 (by kernel_rfl) rfl (qbg4 ..)
theorem qbhg (a0 a1):qtl (DD X (n+1)) a0 a1=qsv (DD X n) n a0 a1:=sQ hX n Tryz.func15 (by kernel_rfl) rfl (qbh5 ..)
theorem qbw8 (a0 a1):q9v (DD X (n+1)) a0 a1=q9q (DD X n) n a0 a1:=sQ hX n Tryz.func16 (by kernel_rfl) rfl (qbw5 ..)
theorem q4w (a0):q47 (DD X (n+1)) a0=qmj (DD X n) n a0:=sQ hX n Tryz.func17 (by kernel_rfl) rfl (qbg3 ..)
theorem qbmv (a0):qx4 (DD X (n+1)) a0=qyc (DD X n) n a0:=sQ hX n Tryz.func20 (by kernel_rfl) rfl (qbll ..)
theorem qbps (a0 a1):q0f (DD X (n+1)) a0 a1=qy9 (DD X n) n a0 a1:=sQ hX n Tryz.func23 (by kernel_rfl) rfl (qbnm ..)
theorem qbu3 (a0 a1):qbeb (DD X (n+1)) a0 a1=q6u (DD X n) n a0 a1:=sQ hX n Tryz.func29 (by kernel_rfl) rfl (qbti ..)
theorem qbg5 (a0):qtp (DD X (n+1)) a0=qtd (DD X n) n a0:=sQ hX n Tryz.func30 (by kernel_rfl) rfl (qbgt ..)
theorem qbu5 (a0 a1):qws (DD X (n+1)) a0 a1=q7h (DD X n) n a0 a1:=sQ hX n Tryz.func34 (by kernel_rfl) rfl (qbvz ..)
theorem qbvy (a0):qep (DD X (n+1)) a0=q7g (DD X n) n a0:=sQ hX n Tryz.func35 (by kernel_rfl) rfl (qbum ..)
theorem qbpo (a0 a1):q0u (DD X (n+1)) a0 a1=q1l (DD X n) n a0 a1:=sQ hX n Tryz.func37 (by kernel_rfl) rfl (qbpf ..)
theorem qbs6 (a0 a1 a2):qwd (DD X (n+1)) a0 a1 a2=q6w (DD X n) n a0 a1 a2:=sQ hX n Tryz.func38 (by kernel_rfl) rfl (qbwi ..)
theorem qbro (a0):qul (DD X (n+1)) a0=q36 (DD X n) n a0:=sQ hX n Tryz.func39 (by kernel_rfl) rfl (qbsb ..)
theorem qbju (a0):qc6 (DD X (n+1)) a0=qu5 (DD X n) n a0:=sQ hX n Tryz.func40 (by kernel_rfl) rfl (qbjb ..)
theorem qbpb (a0):q0q (DD X (n+1)) a0=qzo (DD X n) n a0:=sQ hX n Tryz.func42 (by kernel_rfl) rfl (qbo0 ..)
theorem qbwg (a0):q7q (DD X (n+1)) a0=q63 (DD X n) n a0:=sQ hX n Tryz.func44 (by kernel_rfl) rfl (qbtt ..)
theorem qbf4 (a0):qqp (DD X (n+1)) a0=qrl (DD X n) n a0:=sQ hX n Tryz.func45 (by kernel_rfl) rfl (qbfb ..)
theorem qbjh (a0):qut (DD X (n+1)) a0=qvj (DD X n) n a0:=sQ hX n Tryz.func46 (by kernel_rfl) rfl (qbjq ..)
theorem qbp3 (a0 a1):qcf (DD X (n+1)) a0 a1=q0d (DD X n) n a0 a1:=sQ hX n Tryz.func47 (by kernel_rfl) rfl (qbnf ..)
theorem qbry (a0 a1 a2):q25 (DD X (n+1)) a0 a1 a2=q3z (DD X n) n a0 a1 a2:=sQ hX n Tryz.func48 (by kernel_rfl) rfl (qbr6 ..)
theorem qbr0 (a0 a1):q3u (DD X (n+1)) a0 a1=q33 (DD X n) n a0 a1:=sQ hX n Tryz.func49 (by kernel_rfl) rfl (qbsv ..)
theorem qbk7 (a0):qjn (DD X (n+1)) a0=qxx (DD X n) n a0:=sQ hX n Tryz.func50 (by kernel_rfl) rfl (qbk0 ..)
theorem qbjj (a0):q7c (DD X (n+1)) a0=qvi (DD X n) n a0:=sQ hX n Tryz.func51 (by kernel_rfl) rfl (qbj2 ..)
theorem qbr1 (a0 a1):q3e (DD X (n+1)) a0 a1=q38 (DD X n) n a0 a1:=sQ hX n Tryz.func52 (by kernel_rfl) rfl (qbsm ..)
theorem qbsh (a0):q3w (DD X (n+1)) a0=q23 (DD X n) n a0:=sQ hX n Tryz.func53 (by kernel_rfl) rfl (qbss ..)
theorem qbi8 (a0):q61 (DD X (n+1)) a0=qus (DD X n) n a0:=sQ hX n Tryz.func54 (by kernel_rfl) rfl (qbkj ..)
theorem qbj3 (a0):qvq (DD X (n+1)) a0=qu3 (DD X n) n a0:=sQ hX n Tryz.func55 (by kernel_rfl) rfl (qbjt ..)
theorem qbfx (a0):qji (DD X (n+1)) a0=qri (DD X n) n a0:=sQ hX n Tryz.func56 (by kernel_rfl) rfl (qbe2 ..)
theorem qbia (a0 a1):qt9 (DD X (n+1)) a0 a1=q1t (DD X n) n a0 a1:=sQ hX n Tryz.func57 (by kernel_rfl) rfl (qbwr ..)
theorem qbxd (a0 a1 a2):qbl (DD X (n+1)) a0 a1 a2=qbiq (DD X n) n a0 a1 a2:=sQ hX n Tryz.func58 (by kernel_rfl) rfl (qbw6 ..)
theorem qbgx (a0):qs8 (DD X (n+1)) a0=qtb (DD X n) n a0:=sQ hX n Tryz.func59 (by kernel_rfl) rfl (qbhz ..)
theorem qbn4 (a0 a1 a2):q1g (DD X (n+1)) a0 a1 a2=q0s (DD X n) n a0 a1 a2:=sQ hX n Tryz.func60 (by kernel_rfl) rfl (qbn3 ..)
theorem qbui (a0):qkp (DD X (n+1)) a0=q7m (DD X n) n a0:=sQ hX n Tryz.func63 (by kernel_rfl) rfl (qbut ..)
theorem qnf (a0 a1):qd1 (DD X (n+1)) a0 a1=qd6 (DD X n) n a0 a1:=sQ hX n Tryz.func64 (by kernel_rfl) rfl (qnh ..)
theorem qbsc (a0):qox (DD X (n+1)) a0=q2z (DD X n) n a0:=sQ hX n Tryz.func66 (by kernel_rfl) rfl (qbrl ..)
theorem q95 (a0 a1):qix (DD X (n+1)) a0 a1=qma (DD X n) n a0 a1:=sQ hX n Tryz.func67 (by kernel_rfl) rfl (q9s ..)
theorem qbnh (a0):qm9 (DD X (n+1)) a0=qyz (DD X n) n a0:=sQ hX n Tryz.func68 (by kernel_rfl) rfl (qbnb ..)
theorem quc (a0):qgk (DD X (n+1)) a0=qiu (DD X n) n a0:=sQ hX n Tryz.func69 (by kernel_rfl) rfl (q9n ..)
theorem qbns:qcp (DD X (n+1))=q98 (DD X n) n:=sQ hX n Tryz.func70 (by kernel_rfl) rfl (qbnu ..)
theorem qbxj (a0):qo7 (DD X (n+1)) a0=qbip (DD X n) n a0:=sQ hX n Tryz.func71 (by kernel_rfl) rfl (qbw7 ..)
theorem qbnq (a0):qdq (DD X (n+1)) a0=q0a (DD X n) n a0:=sQ hX n Tryz.func73 (by kernel_rfl) rfl (qbpk ..)
theorem q9w (a0 a1):qi0 (DD X (n+1)) a0 a1=ql6 (DD X n) n a0 a1:=sQ hX n Tryz.func74 (by kernel_rfl) rfl (q9j ..)
theorem qbrn (a0 a1):qlg (DD X (n+1)) a0 a1=qbc9 (DD X n) n a0 a1:=sQ hX n Tryz.func75 (by kernel_rfl) rfl (qbrq ..)
theorem qbvj (a0):qgm (DD X (n+1)) a0=q6m (DD X n) n a0:=sQ hX n Tryz.func76 (by kernel_rfl) rfl (qbve ..)
theorem qbnr (a0):qcq (DD X (n+1)) a0=q00 (DD X n) n a0:=sQ hX n Tryz.func77 (by kernel_rfl) rfl (qbou ..)
theorem qbpd (a0 a1 a2):qr7 (DD X (n+1)) a0 a1 a2=q09 (DD X n) n a0 a1 a2:=sQ hX n Tryz.func78 (by kernel_rfl) rfl (qboj ..)
theorem qbel (a0 a1 a2):qlu (DD X (n+1)) a0 a1 a2=qry (DD X n) n a0 a1 a2:=sQ hX n Tryz.func79 (by kernel_rfl) rfl (qber ..)
theorem qbxk (a0):qj9 (DD X (n+1)) a0=q9x (DD X n) n a0:=sQ hX n Tryz.func80 (by kernel_rfl) rfl (qbww ..)
theorem qbkw (a0 a1):qxo (DD X (n+1)) a0 a1=qxt (DD X n) n a0 a1:=sQ hX n Tryz.func81 (by kernel_rfl) rfl (qbl0 ..)
theorem qbo6 (a0 a1):q1a (DD X (n+1)) a0 a1=qzt (DD X n) n a0 a1:=sQ hX n Tryz.func82 (by kernel_rfl) rfl (qbnk ..)
theorem qbnp (a0):q0j (DD X (n+1)) a0=qy2 (DD X n) n a0:=sQ hX n Tryz.func83 (by kernel_rfl) rfl (qbpg ..)
theorem qbok (a0):qik (DD X (n+1)) a0=q0o (DD X n) n a0:=sQ hX n Tryz.func85 (by kernel_rfl) rfl (qbof ..)
theorem qbo7:qzn (DD X (n+1))=qbbu (DD X n) n:=sQ hX n Tryz.func90 (by kernel_rfl) rfl (qbn9 ..)
theorem qbvd (a0 a1):qxe (DD X (n+1)) a0 a1=q58 (DD X n) n a0 a1:=sQ hX n Tryz.func91 (by kernel_rfl) rfl (qbup ..)
theorem qbjp (a0 a1):qn7 (DD X (n+1)) a0 a1=qvp (DD X n) n a0 a1:=sQ hX n Tryz.func92 (by kernel_rfl) rfl (qbko ..)
theorem qbfn (a0):qqt (DD X (n+1)) a0=qrm (DD X n) n a0:=sQ hX n Tryz.func93 (by kernel_rfl) rfl (qbed ..)
theorem qbsg (a0):qjq (DD X (n+1)) a0=q3c (DD X n) n a0:=sQ hX n Tryz.func94 (by kernel_rfl) rfl (qbse ..)
theorem qx1 (a0):qe8 (DD X (n+1)) a0=qht (DD X n) n a0:=sQ hX n Tryz.func95 (by kernel_rfl) rfl (qwt ..)
theorem qbog (a0):qze (DD X (n+1)) a0=qy3 (DD X n) n a0:=sQ hX n Tryz.func96 (by kernel_rfl) rfl (qbpz ..)
theorem qbxi (a0 a1 a2):qbp (DD X (n+1)) a0 a1 a2=qbiu (DD X n) n a0 a1 a2:=sQ hX n Tryz.func97 (by kernel_rfl) rfl (qbw9 ..)
theorem qbuq (a0):qqn (DD X (n+1)) a0=q62 (DD X n) n a0:=sQ hX n Tryz.func98 (by kernel_rfl) rfl (qbvu ..)
theorem qbsk (a0):qui (DD X (n+1)) a0=q27 (DD X n) n a0:=sQ hX n Tryz.func99 (by kernel_rfl) rfl (qbrm ..)
theorem qbny (a0):q05 (DD X (n+1)) a0=q0c (DD X n) n a0:=sQ hX n Tryz.func100 (by kernel_rfl) rfl (qbob ..)
theorem qbmz (a0 a1):qw7 (DD X (n+1)) a0 a1=qww (DD X n) n a0 a1:=sQ hX n Tryz.func101 (by kernel_rfl) rfl (qblh ..)
theorem qbk3 (a0 a1):qxc (DD X (n+1)) a0 a1=qwr (DD X n) n a0 a1:=sQ hX n Tryz.func102 (by kernel_rfl) rfl (qbm5 ..)
theorem qbpj (a0):qkl (DD X (n+1)) a0=qz9 (DD X n) n a0:=sQ hX n Tryz.func103 (by kernel_rfl) rfl (qbo3 ..)
theorem qbg9 (a0):qhz (DD X (n+1)) a0=qs0 (DD X n) n a0:=sQ hX n Tryz.func104 (by kernel_rfl) rfl (qbhm ..)
theorem qbar (a0 a1):qna (DD X (n+1)) a0 a1=qm6 (DD X n) n a0 a1:=sQ hX n Tryz.func105 (by kernel_rfl) rfl (qbaf ..)
theorem qbd3 (a0 a1):qpr (DD X (n+1)) a0 a1=qpt (DD X n) n a0 a1:=sQ hX n Tryz.func106 (by kernel_rfl) rfl (qbds ..)
theorem qbon (a0 a1):qsd (DD X (n+1)) a0 a1=qzw (DD X n) n a0 a1:=sQ hX n Tryz.func107 (by kernel_rfl) rfl (qbpq ..)
theorem qnk (a0 a1):qdz (DD X (n+1)) a0 a1=qdy (DD X n) n a0 a1:=sQ hX n Tryz.func109 (by kernel_rfl) rfl (qng ..)
theorem qbpm (a0):qbbm (DD X (n+1)) a0=q1k (DD X n) n a0:=sQ hX n Tryz.func110 (by kernel_rfl) rfl (qbn8 ..)
theorem qbr2 (a0):q37 (DD X (n+1)) a0=q3h (DD X n) n a0:=sQ hX n Tryz.func111 (by kernel_rfl) rfl (qbru ..)
theorem qbsl (a0 a1):q2s (DD X (n+1)) a0 a1=q3j (DD X n) n a0 a1:=sQ hX n Tryz.func112 (by kernel_rfl) rfl (qbr4 ..)
theorem qpi (a0 a1):qid (DD X (n+1)) a0 a1=qe1 (DD X n) n a0 a1:=sQ hX n Tryz.func113 (by kernel_rfl) rfl (qp1 ..)
theorem q5n (a0 a1):qg8 (DD X (n+1)) a0 a1=qj2 (DD X n) n a0 a1:=sQ hX n Tryz.func114 (by kernel_rfl) rfl (q5o ..)
theorem qbpl (a0):qdp (DD X (n+1)) a0=q0p (DD X n) n a0:=sQ hX n Tryz.func115 (by kernel_rfl) rfl (qbp2 ..)
theorem qdm (a0 a1 a2):qbbp (DD X (n+1)) a0 a1 a2=qc3 (DD X n) n a0 a1 a2:=sQ hX n Tryz.func116 (by kernel_rfl) rfl (qbnl ..)
theorem qdn (a0 a1):qbal (DD X (n+1)) a0 a1=qc4 (DD X n) n a0 a1:=sQ hX n Tryz.func117 (by kernel_rfl) rfl (qboz ..)
theorem qbvr (a0):qq0 (DD X (n+1)) a0=q6a (DD X n) n a0:=sQ hX n Tryz.func118 (by kernel_rfl) rfl (qbtr ..)
theorem qbo2 (a0):qr5 (DD X (n+1)) a0=qzx (DD X n) n a0:=sQ hX n Tryz.func119 (by kernel_rfl) rfl (qbo5 ..)
theorem qqf (a0 a1):qfc (DD X (n+1)) a0 a1=qfe (DD X n) n a0 a1:=sQ hX n Tryz.func120 (by kernel_rfl) rfl (qqi ..)
theorem qbh7 (a0):q44 (DD X (n+1)) a0=qsn (DD X n) n a0:=sQ hX n Tryz.func121 (by kernel_rfl) rfl (qbgz ..)
theorem qnp (a0 a1):qcz (DD X (n+1)) a0 a1=qd8 (DD X n) n a0 a1:=sQ hX n Tryz.func122 (by kernel_rfl) rfl (qnj ..)
theorem qbhq (a0):q45 (DD X (n+1)) a0=qs4 (DD X n) n a0:=sQ hX n Tryz.func123 (by kernel_rfl) rfl (qbhb ..)
theorem qbpp (a0):qr3 (DD X (n+1)) a0=qy5 (DD X n) n a0:=sQ hX n Tryz.func124 (by kernel_rfl) rfl (qbnt ..)
theorem qbjs (a0):qio (DD X (n+1)) a0=quz (DD X n) n a0:=sQ hX n Tryz.func125 (by kernel_rfl) rfl (qbi5 ..)
theorem qni (a0 a1):qcy (DD X (n+1)) a0 a1=qd7 (DD X n) n a0 a1:=sQ hX n Tryz.func126 (by kernel_rfl) rfl (qnm ..)
theorem qbgu (a0 a1):q40 (DD X (n+1)) a0 a1=qtc (DD X n) n a0 a1:=sQ hX n Tryz.func127 (by kernel_rfl) rfl (qbh0 ..)
theorem qbwk (a0):qye (DD X (n+1)) a0=q6f (DD X n) n a0:=sQ hX n Tryz.func132 (by kernel_rfl) rfl (qbu0 ..)
theorem qbvh (a0):qhp (DD X (n+1)) a0=qbd7 (DD X n) n a0:=sQ hX n Tryz.func133 (by kernel_rfl) rfl (qbv8 ..)
theorem qbwa (a0):q57 (DD X (n+1)) a0=q7o (DD X n) n a0:=sQ hX n Tryz.func134 (by kernel_rfl) rfl (qbt7 ..)
theorem qbnv (a0):q1c (DD X (n+1)) a0=q1j (DD X n) n a0:=sQ hX n Tryz.func135 (by kernel_rfl) rfl (qbpv ..)
theorem qbvi (a0):q8a (DD X (n+1)) a0=q67 (DD X n) n a0:=sQ hX n Tryz.func136 (by kernel_rfl) rfl (qbv3 ..)
theorem qbo8 (a0 a1):q0m (DD X (n+1)) a0 a1=qzz (DD X n) n a0 a1:=sQ hX n Tryz.func137 (by kernel_rfl) rfl (qboy ..)
theorem qbpy (a0):q0v (DD X (n+1)) a0=qzv (DD X n) n a0:=sQ hX n Tryz.func138 (by kernel_rfl) rfl (qboe ..)
theorem qbom:qsg (DD X (n+1))=qba5 (DD X n) n:=sQ hX n Tryz.func139 (by kernel_rfl) rfl (qbp0 ..)
theorem qbsd (a0):q3i (DD X (n+1)) a0=q21 (DD X n) n a0:=sQ hX n Tryz.func140 (by kernel_rfl) rfl (qbsu ..)
theorem qbrz (a0 a1):qbdi (DD X (n+1)) a0 a1=q2v (DD X n) n a0 a1:=sQ hX n Tryz.func141 (by kernel_rfl) rfl (qbsf ..)
theorem qbt0 (a0):qjk (DD X (n+1)) a0=q79 (DD X n) n a0:=sQ hX n Tryz.func143 (by kernel_rfl) rfl (qbtd ..)
theorem qbte (a0):qq3 (DD X (n+1)) a0=qbfe (DD X n) n a0:=sQ hX n Tryz.func145 (by kernel_rfl) rfl (qbwd ..)
theorem qbwn (a0):q1r (DD X (n+1)) a0=q9o (DD X n) n a0:=sQ hX n Tryz.func146 (by kernel_rfl) rfl (qbw0 ..)
theorem qbsa (a0 a1):q20 (DD X (n+1)) a0 a1=q28 (DD X n) n a0 a1:=sQ hX n Tryz.func147 (by kernel_rfl) rfl (qbsn ..)
theorem qs9 (a0):qf6 (DD X (n+1)) a0=qf5 (DD X n) n a0:=sQ hX n Tryz.func148 (by kernel_rfl) rfl (qsw ..)
theorem qr2 (a0):qdb (DD X (n+1)) a0=qfo (DD X n) n a0:=sQ hX n Tryz.func149 (by kernel_rfl) rfl (qqz ..)
theorem qta (a0):qgd (DD X (n+1)) a0=qgc (DD X n) n a0:=sQ hX n Tryz.func150 (by kernel_rfl) rfl (qsz ..)
theorem qs1 (a0):qge (DD X (n+1)) a0=qf4 (DD X n) n a0:=sQ hX n Tryz.func151 (by kernel_rfl) rfl (qsx ..)
theorem qbz3 (a0):qbcs (DD X (n+1)) a0=qbcb (DD X n) n a0:=sQ hX n Tryz.func152 (by kernel_rfl) rfl (qbzf ..)
theorem qbrs (a0 a1):q24 (DD X (n+1)) a0 a1=q3b (DD X n) n a0 a1:=sQ hX n Tryz.func153 (by kernel_rfl) rfl (qbrv ..)
theorem qbxh (a0 a1):qo6 (DD X (n+1)) a0 a1=q91 (DD X n) n a0 a1:=sQ hX n Tryz.func154 (by kernel_rfl) rfl (qbwz ..)
theorem qbwx (a0 a1):qt7 (DD X (n+1)) a0 a1=q9p (DD X n) n a0 a1:=sQ hX n Tryz.func155 (by kernel_rfl) rfl (qbxm ..)
theorem qbzw (a0):qbbx (DD X (n+1)) a0=qbc1 (DD X n) n a0:=sQ hX n Tryz.func156 (by kernel_rfl) rfl (qby4 ..)
theorem qbeu (a0 a1 a2):qjc (DD X (n+1)) a0 a1 a2=qq7 (DD X n) n a0 a1 a2:=sQ hX n Tryz.func157 (by kernel_rfl) rfl (qbf5 ..)
theorem qbh2 (a0 a1 a2):qju (DD X (n+1)) a0 a1 a2=qti (DD X n) n a0 a1 a2:=sQ hX n Tryz.func158 (by kernel_rfl) rfl (qbhk ..)
theorem qbxc (a0 a1):q9l (DD X (n+1)) a0 a1=q9m (DD X n) n a0 a1:=sQ hX n Tryz.func159 (by kernel_rfl) rfl (qbwq ..)
theorem qbrt (a0 a1):quj (DD X (n+1)) a0 a1=q4a (DD X n) n a0 a1:=sQ hX n Tryz.func160 (by kernel_rfl) rfl (qbsr ..)
theorem qbuk (a0 a1 a2 a3):qxb (DD X (n+1)) a0 a1 a2 a3=q6t (DD X n) n a0 a1 a2 a3:=sQ hX n Tryz.func161 (by kernel_rfl) rfl (qbt9 ..)
theorem qpm (a0 a1):qh8 (DD X (n+1)) a0 a1=qe0 (DD X n) n a0 a1:=sQ hX n Tryz.func162 (by kernel_rfl) rfl (qpp ..)
theorem qtr (a0 a1):qj1 (DD X (n+1)) a0 a1=qf8 (DD X n) n a0 a1:=sQ hX n Tryz.func163 (by kernel_rfl) rfl (qto ..)
theorem qpd (a0 a1):qh9 (DD X (n+1)) a0 a1=qe5 (DD X n) n a0 a1:=sQ hX n Tryz.func164 (by kernel_rfl) rfl (qpf ..)
theorem qpz (a0 a1):qia (DD X (n+1)) a0 a1=qe3 (DD X n) n a0 a1:=sQ hX n Tryz.func165 (by kernel_rfl) rfl (qpq ..)
theorem qbud (a0):qwc (DD X (n+1)) a0=q60 (DD X n) n a0:=sQ hX n Tryz.func166 (by kernel_rfl) rfl (qbur ..)
theorem qbp1 (a0):q0y (DD X (n+1)) a0=q0k (DD X n) n a0:=sQ hX n Tryz.func167 (by kernel_rfl) rfl (qbno ..)
theorem qby2 (a0 a1):q5g (DD X (n+1)) a0 a1=qbbz (DD X n) n a0 a1:=sQ hX n Tryz.func168 (by kernel_rfl) rfl (qbzy ..)
theorem q8b (a0 a1):qh4 (DD X (n+1)) a0 a1=qk9 (DD X n) n a0 a1:=sQ hX n Tryz.func169 (by kernel_rfl) rfl (q8c ..)
theorem qbvl (a0 a1):qxg (DD X (n+1)) a0 a1=q6o (DD X n) n a0 a1:=sQ hX n Tryz.func170 (by kernel_rfl) rfl (qbs8 ..)
theorem qbrr (a0 a1):q35 (DD X (n+1)) a0 a1=q3o (DD X n) n a0 a1:=sQ hX n Tryz.func171 (by kernel_rfl) rfl (qbr9 ..)
theorem qbxe (a0 a1):qew (DD X (n+1)) a0 a1=q9r (DD X n) n a0 a1:=sQ hX n Tryz.func172 (by kernel_rfl) rfl (qbwp ..)
theorem qbug (a0):qfj (DD X (n+1)) a0=q7j (DD X n) n a0:=sQ hX n Tryz.func173 (by kernel_rfl) rfl (qbt5 ..)
theorem qbpu (a0 a1 a2 a3):qsa (DD X (n+1)) a0 a1 a2 a3=qz1 (DD X n) n a0 a1 a2 a3:=sQ hX n Tryz.func174 (by kernel_rfl) rfl (qbna ..)
theorem qba6 (a0):qjl (DD X (n+1)) a0=qms (DD X n) n a0:=sQ hX n Tryz.func175 (by kernel_rfl) rfl (qbbt ..)
theorem qbsj (a0 a1 a2 a3 a4):q4b (DD X (n+1)) a0 a1 a2 a3 a4=q3x (DD X n) n a0 a1 a2 a3 a4:=sQ hX n Tryz.func176 (by kernel_rfl) rfl (qbsq ..)
theorem qbpr (a0 a1):qbah (DD X (n+1)) a0 a1=q1n (DD X n) n a0 a1:=sQ hX n Tryz.func177 (by kernel_rfl) rfl (qbol ..)
theorem qpw (a0 a1):qh5 (DD X (n+1)) a0 a1=qh7 (DD X n) n a0 a1:=sQ hX n Tryz.func178 (by kernel_rfl) rfl (qbdv ..)
theorem qvd (a0 a1):qv (DD X (n+1)) a0 a1=qkz (DD X n) n a0 a1:=sQ hX n Tryz.func179 (by kernel_rfl) rfl (qbke ..)
theorem qbg2 (a0 a1):qb9 (DD X (n+1)) a0 a1=q4d (DD X n) n a0 a1:=sQ hX n Tryz.func180 (by kernel_rfl) rfl (qbhj ..)
theorem qvr (a0 a1 a2 a3 a4):qcv (DD X (n+1)) a0 a1 a2 a3 a4=qkr (DD X n) n a0 a1 a2 a3 a4:=sQ hX n Tryz.func181 (by kernel_rfl) rfl (qbjr ..)
theorem qoo (a0 a1):qc5 (DD X (n+1)) a0 a1=qet (DD X n) n a0 a1:=sQ hX n Tryz.func182 (by kernel_rfl) rfl (qo1 ..)
theorem qbi3 (a0 a1):q7f (DD X (n+1)) a0 a1=qvb (DD X n) n a0 a1:=sQ hX n Tryz.func183 (by kernel_rfl) rfl (qbkc ..)
theorem q2e (a0 a1 a2 a3):qj (DD X (n+1)) a0 a1 a2 a3=qjf (DD X n) n a0 a1 a2 a3:=sQ hX n Tryz.func184 (by kernel_rfl) rfl (q1z ..)
theorem q7w (a0 a1 a2):qgv (DD X (n+1)) a0 a1 a2=qob (DD X n) n a0 a1 a2:=sQ hX n Tryz.func186 (by kernel_rfl) rfl (qbj6 ..)
theorem qs7 (a0 a1 a2 a3 a4):qf (DD X (n+1)) a0 a1 a2 a3 a4=qf7 (DD X n) n a0 a1 a2 a3 a4:=sQ hX n Tryz.func187 (by kernel_rfl) rfl (qss ..)
theorem qt2 (a0 a1 a2):qj8 (DD X (n+1)) a0 a1 a2=qgq (DD X n) n a0 a1 a2:=sQ hX n Tryz.func188 (by kernel_rfl) rfl (qt6 ..)
theorem qbpi (a0 a1):qdt (DD X (n+1)) a0 a1=q04 (DD X n) n a0 a1:=sQ hX n Tryz.func194 (by kernel_rfl) rfl (qbod ..)
theorem qoa (a0 a1 a2 a3):qhv (DD X (n+1)) a0 a1 a2 a3=qei (DD X n) n a0 a1 a2 a3:=sQ hX n Tryz.func199 (by kernel_rfl) rfl (qoe ..)
theorem qblz (a0):qxl (DD X (n+1)) a0=qx9 (DD X n) n a0:=sQ hX n Tryz.func212 (by kernel_rfl) rfl (qblg ..)
theorem qbma (a0):qqd (DD X (n+1)) a0=qwk (DD X n) n a0:=sQ hX n Tryz.func185 (by kernel_rfl) rfl (qbm9 ..)
theorem qbhf (a0):q41 (DD X (n+1)) a0=qbu (DD X n) n a0:=sQ hX n Tryz.func198 (by kernel_rfl) rfl (qbgv ..)
end
end Go.G


import Derived.Test.YtpmimbgkiindbaaGreatAPFnOrderIsTrue0
set_option linter.unusedVariables false
set_option linter.unusedSimpArgs false
set_option linter.unusedSectionVars false
open Go.IntKind (wrap)
namespace Go.G
set_option maxRecDepth 100000
set_option maxHeartbeats 0
open Go Go.V
noncomputable section
def qbeb (D:DX)(n:Nat) (a0:tq12) (a1:Int) (a2:List tq37) (a3:tq40):Option tq8:=let y0:=List.getD a0.2.1 a1.toNat (0,0,[],(0,[],()),());qd (qkd D a0) fun b↦qd (qkh D a0) fun b_1↦br (!b_1.1.1) (some (((b.1.1.1,b.1.1.2.1,()),(0,0,0,0,()),false,()),())) (qd (qbp D a1 0 (wrap .i64 ((a0.2.1.length:Int) - 1))) fun b_2↦br (!b_2.1.1) (some (((b.1.1.1,b.1.1.2.1,()),(0,0,0,0,()),false,()),())) (qd (qdv D a0.1 (Clo.mk 177 [CapV.rptr yq34 a1])) fun b_3↦br b_3.1.1 (some (((b.1.1.1,b.1.1.2.1,()),(0,0,0,0,()),false,()),())) (br (decide (0≤a1)&&decide (a1<(a0.2.1.length:Int))) (qd (qkd D a0) fun b_4↦qd (qc6 D a2) fun b_5↦qd (qih D a3) fun b_6↦br (decide (0≤a1)&&decide (a1<(b_4.1.1.2.1.length:Int))) (qd (qkh D (b_4.1.1.1,List.set b_4.1.1.2.1 a1.toNat (wrap .i64 (y0.1+1),1,b_5.1.1,(b_6.1.1.1,b_6.1.1.2.1,()),()),())) fun b_7↦br (!b_7.1.1) (some (((b.1.1.1,b.1.1.2.1,()),(0,0,0,0,()),false,()),())) (some (((b_4.1.1.1,List.set b_4.1.1.2.1 a1.toNat (wrap .i64 (y0.1+1),1,b_5.1.1,(b_6.1.1.1,b_6.1.1.2.1,()),()),()),(a1,wrap .i64 (y0.1+1),0,0,()),true,()),()))) none) none)))
def q5o (D:DX)(n:Nat) (a0:tq12) (a1:Int) (a2:List tq37) (a3:tq40):Option tq8:=qbeb D n a0 a1 a2 a3
theorem qbrx (D:DX)(n:Nat) (a0:tq12) (a1:Int) (a2:List tq37) (a3:tq40):rF D n 161 (a0,(a1,(a2,(a3,()))))=q5o D n a0 a1 a2 a3:=by kernel_rfl

def qeh (D:DX)(n:Nat) (a1:Clo) (go:List tq18→Int→Int→Option tq42) (K0:Int→Option tq42) (K1:Option tq42) (x0:List tq18) (x1 x2:Int):Option tq42:=br (decide (x2<x1)) (br (decide (0≤x2)&&decide (x2<(x0.length:Int))) (qd (qbk ctx D a1 [CapV.val yq9 (List.getD x0 x2.toNat (0,0,[],(0,[],()),()))] Ty.bool) fun b↦br b (K0 x2) (go x0 x1 (wrap .i64 (x2+1)))) none) K1
def qb2 (D:DX)(n:Nat) (a1:Clo) (K0:Int→Option tq42) (K1:Option tq42):Nat→(List tq18)→Int→Int→Option tq42 | 0=>(fun x0 x1 x2=>none) | m+1=>(fun x0 x1 x2=>qeh D n a1 (qb2 D n a1 K0 K1 m) K0 K1 x0 x1 x2)
def qdw (D:DX)(n:Nat) (a1:Clo) (a:Int):Option tq42:=some ((a,()),())
def qdu (D:DX)(n:Nat) (a1:Clo):Option tq42:=some ((-1,()),())
def qee (D:DX)(n:Nat) (a1:Clo):(List tq18)→(Int)→(Int)→Option tq42:=(fun x0 x1 x2=>qb2 D n a1 (fun a=>qdw D n a1 a) (qdu D n a1) n x0 x1 x2)
def qet (D:DX)(n:Nat) (a1:Clo) (lp0:List tq18→Int→Int→Option tq42) (a0:List tq18):Option tq42:=lp0 a0 (a0.length:Int) 0
def qev (D:DX)(n:Nat) (a0:List tq18) (a1:Clo):Option tq42:=qet D n a1 (qee D n a1) a0
def qep (a1:Clo) (x0:List tq18) (x1 x2:Int):St:=stq 19 [(0,AV.val yq8 x0),(1,AV.cloV a1),(7,AV.val yq34 x1),(8,AV.val yq34 x2)] []
def qhd (a1:Clo) (a:Int):St:=stq 19 [(4,AV.val yq34 a)] []
def qg8 (a1:Clo):St:=stq 19 [] []
theorem qnm (D:DX)(n:Nat) (a1:Clo) (K:KT 162):∀ (m:Nat) (x0:List tq18) (x1 x2:Int),LF D n 162 pq2 m (qep a1 x0 x1 x2) K=qb2 D n a1 (fun a=>K (Ex.ret) (qhd a1 a)) (K (Ex.exit 0) (qg8 a1)) m x0 x1 x2:=eL3 (fun F=>qeh D n a1 F (fun a=>K (Ex.ret) (qhd a1 a)) (K (Ex.exit 0) (qg8 a1))) (fun _ _ _ =>q7 ..) (fun _ _ _ _ =>by kernel_rfl) (fun _ _ _ _ =>rfl)
theorem qnc (D:DX)(n:Nat) (a1:Clo) (x0) (x1) (x2):LF D n 162 pq2 n (qep a1 x0 x1 x2) (CF D n 162 [] pq2 (lF 162))=qee D n a1 x0 x1 x2 :=by rw[qnm];kernel_rfl
theorem qpf (D:DX)(n:Nat) (a0:List tq18) (a1:Clo):rF D n 162 (a0,(a1,()))=qev D n a0 a1:=by
 have h:rF D n 162 (a0,(a1,()))=qet D n a1 (fun x0 x1 x2=>LF D n 162 pq2 n (qep a1 x0 x1 x2) (CF D n 162 [] pq2 (lF 162))) a0:=by kernel_rfl
 rw[h]
 simp only[qnc]
 rfl

def qfq (D:DX)(n:Nat) (a1:Clo) (go:List tq37→Int→Int→Option tq42) (K0:Int→Option tq42) (K1:Option tq42) (x0:List tq37) (x1 x2:Int):Option tq42:=br (decide (x2<x1)) (br (decide (0≤x2)&&decide (x2<(x0.length:Int))) (qd (qbk ctx D a1 [CapV.val yq21 (List.getD x0 x2.toNat (0,0,0,()))] Ty.bool) fun b↦br b (K0 x2) (go x0 x1 (wrap .i64 (x2+1)))) none) K1
def qca (D:DX)(n:Nat) (a1:Clo) (K0:Int→Option tq42) (K1:Option tq42):Nat→(List tq37)→Int→Int→Option tq42 | 0=>(fun x0 x1 x2=>none) | m+1=>(fun x0 x1 x2=>qfq D n a1 (qca D n a1 K0 K1 m) K0 K1 x0 x1 x2)
def qe8 (D:DX)(n:Nat) (a1:Clo) (a:Int):Option tq42:=some ((a,()),())
def qe6 (D:DX)(n:Nat) (a1:Clo):Option tq42:=some ((-1,()),())
def qfg (D:DX)(n:Nat) (a1:Clo):(List tq37)→(Int)→(Int)→Option tq42:=(fun x0 x1 x2=>qca D n a1 (fun a=>qe8 D n a1 a) (qe6 D n a1) n x0 x1 x2)
def qf5 (D:DX)(n:Nat) (a1:Clo) (lp0:List tq37→Int→Int→Option tq42) (a0:List tq37):Option tq42:=lp0 a0 (a0.length:Int) 0
def qf3 (D:DX)(n:Nat) (a0:List tq37) (a1:Clo):Option tq42:=qf5 D n a1 (qfg D n a1) a0
def qfp (a1:Clo) (x0:List tq37) (x1 x2:Int):St:=stq 19 [(0,AV.val yq19 x0),(1,AV.cloV a1),(7,AV.val yq34 x1),(8,AV.val yq34 x2)] []
def qip (a1:Clo) (a:Int):St:=stq 19 [(4,AV.val yq34 a)] []
def qim (a1:Clo):St:=stq 19 [] []
theorem qqq (D:DX)(n:Nat) (a1:Clo) (K:KT 163):∀ (m:Nat) (x0:List tq37) (x1 x2:Int),LF D n 163 pq2 m (qfp a1 x0 x1 x2) K=qca D n a1 (fun a=>K (Ex.ret) (qip a1 a)) (K (Ex.exit 0) (qim a1)) m x0 x1 x2:=eL3 (fun F=>qfq D n a1 F (fun a=>K (Ex.ret) (qip a1 a)) (K (Ex.exit 0) (qim a1))) (fun _ _ _ =>q7 ..) (fun _ _ _ _ =>by kernel_rfl) (fun _ _ _ _ =>rfl)
theorem qp6 (D:DX)(n:Nat) (a1:Clo) (x0) (x1) (x2):LF D n 163 pq2 n (qfp a1 x0 x1 x2) (CF D n 163 [] pq2 (lF 163))=qfg D n a1 x0 x1 x2 :=by rw[qqq];kernel_rfl
theorem qs9 (D:DX)(n:Nat) (a0:List tq37) (a1:Clo):rF D n 163 (a0,(a1,()))=qf3 D n a0 a1:=by
 have h:rF D n 163 (a0,(a1,()))=qf5 D n a1 (fun x0 x1 x2=>LF D n 163 pq2 n (qfp a1 x0 x1 x2) (CF D n 163 [] pq2 (lF 163))) a0:=by kernel_rfl
 rw[h]
 simp only[qp6]
 rfl

def qen (D:DX)(n:Nat) (a1:Clo) (go:List tq43→Int→Int→Option tq42) (K0:Int→Option tq42) (K1:Option tq42) (x0:List tq43) (x1 x2:Int):Option tq42:=br (decide (x2<x1)) (br (decide (0≤x2)&&decide (x2<(x0.length:Int))) (qd (qbk ctx D a1 [CapV.val yq26 (List.getD x0 x2.toNat (0,0,()))] Ty.bool) fun b↦br b (K0 x2) (go x0 x1 (wrap .i64 (x2+1)))) none) K1
def qb1 (D:DX)(n:Nat) (a1:Clo) (K0:Int→Option tq42) (K1:Option tq42):Nat→(List tq43)→Int→Int→Option tq42 | 0=>(fun x0 x1 x2=>none) | m+1=>(fun x0 x1 x2=>qen D n a1 (qb1 D n a1 K0 K1 m) K0 K1 x0 x1 x2)
def qdy (D:DX)(n:Nat) (a1:Clo) (a:Int):Option tq42:=some ((a,()),())
def qdx (D:DX)(n:Nat) (a1:Clo):Option tq42:=some ((-1,()),())
def qd9 (D:DX)(n:Nat) (a1:Clo):(List tq43)→(Int)→(Int)→Option tq42:=(fun x0 x1 x2=>qb1 D n a1 (fun a=>qdy D n a1 a) (qdx D n a1) n x0 x1 x2)
def qez (D:DX)(n:Nat) (a1:Clo) (lp0:List tq43→Int→Int→Option tq42) (a0:List tq43):Option tq42:=lp0 a0 (a0.length:Int) 0
def qe0 (D:DX)(n:Nat) (a0:List tq43) (a1:Clo):Option tq42:=qez D n a1 (qd9 D n a1) a0
def qem (a1:Clo) (x0:List tq43) (x1 x2:Int):St:=stq 19 [(0,AV.val yq24 x0),(1,AV.cloV a1),(7,AV.val yq34 x1),(8,AV.val yq34 x2)] []
def qg3 (a1:Clo) (a:Int):St:=stq 19 [(4,AV.val yq34 a)] []
def qha (a1:Clo):St:=stq 19 [] []
theorem qn1 (D:DX)(n:Nat) (a1:Clo) (K:KT 164):∀ (m:Nat) (x0:List tq43) (x1 x2:Int),LF D n 164 pq2 m (qem a1 x0 x1 x2) K=qb1 D n a1 (fun a=>K (Ex.ret) (qg3 a1 a)) (K (Ex.exit 0) (qha a1)) m x0 x1 x2:=eL3 (fun F=>qen D n a1 F (fun a=>K (Ex.ret) (qg3 a1 a)) (K (Ex.exit 0) (qha a1))) (fun _ _ _ =>q7 ..) (fun _ _ _ _ =>by kernel_rfl) (fun _ _ _ _ =>rfl)
theorem qnb (D:DX)(n:Nat) (a1:Clo) (x0) (x1) (x2):LF D n 164 pq2 n (qem a1 x0 x1 x2) (CF D n 164 [] pq2 (lF 164))=qd9 D n a1 x0 x1 x2 :=by rw[qn1];kernel_rfl
theorem qo5 (D:DX)(n:Nat) (a0:List tq43) (a1:Clo):rF D n 164 (a0,(a1,()))=qe0 D n a0 a1:=by
 have h:rF D n 164 (a0,(a1,()))=qez D n a1 (fun x0 x1 x2=>LF D n 164 pq2 n (qem a1 x0 x1 x2) (CF D n 164 [] pq2 (lF 164))) a0:=by kernel_rfl
 rw[h]
 simp only[qnb]
 rfl

def qeg (D:DX)(n:Nat) (a1:Clo) (go:List tq33→Int→Int→Option tq42) (K0:Int→Option tq42) (K1:Option tq42) (x0:List tq33) (x1 x2:Int):Option tq42:=br (decide (x2<x1)) (br (decide (0≤x2)&&decide (x2<(x0.length:Int))) (qd (qbk ctx D a1 [CapV.val yq17 (List.getD x0 x2.toNat (0,0,0,0,()))] Ty.bool) fun b↦br b (K0 x2) (go x0 x1 (wrap .i64 (x2+1)))) none) K1
def qb0 (D:DX)(n:Nat) (a1:Clo) (K0:Int→Option tq42) (K1:Option tq42):Nat→(List tq33)→Int→Int→Option tq42 | 0=>(fun x0 x1 x2=>none) | m+1=>(fun x0 x1 x2=>qeg D n a1 (qb0 D n a1 K0 K1 m) K0 K1 x0 x1 x2)
def qdz (D:DX)(n:Nat) (a1:Clo) (a:Int):Option tq42:=some ((a,()),())
def qdp (D:DX)(n:Nat) (a1:Clo):Option tq42:=some ((-1,()),())
def qd8 (D:DX)(n:Nat) (a1:Clo):(List tq33)→(Int)→(Int)→Option tq42:=(fun x0 x1 x2=>qb0 D n a1 (fun a=>qdz D n a1 a) (qdp D n a1) n x0 x1 x2)
def qe1 (D:DX)(n:Nat) (a1:Clo) (lp0:List tq33→Int→Int→Option tq42) (a0:List tq33):Option tq42:=lp0 a0 (a0.length:Int) 0
def qey (D:DX)(n:Nat) (a0:List tq33) (a1:Clo):Option tq42:=qe1 D n a1 (qd8 D n a1) a0
def qej (a1:Clo) (x0:List tq33) (x1 x2:Int):St:=stq 19 [(0,AV.val yq16 x0),(1,AV.cloV a1),(7,AV.val yq34 x1),(8,AV.val yq34 x2)] []
def qhc (a1:Clo) (a:Int):St:=stq 19 [(4,AV.val yq34 a)] []
def qg6 (a1:Clo):St:=stq 19 [] []
theorem qn3 (D:DX)(n:Nat) (a1:Clo) (K:KT 165):∀ (m:Nat) (x0:List tq33) (x1 x2:Int),LF D n 165 pq2 m (qej a1 x0 x1 x2) K=qb0 D n a1 (fun a=>K (Ex.ret) (qhc a1 a)) (K (Ex.exit 0) (qg6 a1)) m x0 x1 x2:=eL3 (fun F=>qeg D n a1 F (fun a=>K (Ex.ret) (qhc a1 a)) (K (Ex.exit 0) (qg6 a1))) (fun _ _ _ =>q7 ..) (fun _ _ _ _ =>by kernel_rfl) (fun _ _ _ _ =>rfl)
theorem qm2 (D:DX)(n:Nat) (a1:Clo) (x0) (x1) (x2):LF D n 165 pq2 n (qej a1 x0 x1 x2) (CF D n 165 [] pq2 (lF 165))=qd8 D n a1 x0 x1 x2 :=by rw[qn3];kernel_rfl
theorem qpg (D:DX)(n:Nat) (a0:List tq33) (a1:Clo):rF D n 165 (a0,(a1,()))=qey D n a0 a1:=by
 have h:rF D n 165 (a0,(a1,()))=qe1 D n a1 (fun x0 x1 x2=>LF D n 165 pq2 n (qej a1 x0 x1 x2) (CF D n 165 [] pq2 (lF 165))) a0:=by kernel_rfl
 rw[h]
 simp only[qm2]
 rfl

def qbc5 (D:DX)(n:Nat) (a0:Int):Option tq41:=qd (qbo D a0 0 3) fun b↦some ((b.1.1,()),())
def q5t (D:DX)(n:Nat) (a0:Int):Option tq41:=qbc5 D n a0
theorem qbsf (D:DX)(n:Nat) (a0:Int):rF D n 166 (a0,())=q5t D n a0:=by kernel_rfl

def q8y (D:DX)(n:Nat) (a0:Int):Option tq42:=qd (qjf D a0) fun b↦br (!b.1.1) (some ((-1,()),())) (some ((Int.tmod a0 3,()),()))
def qzu (D:DX)(n:Nat) (a0:Int):Option tq42:=q8y D n a0
theorem qblw (D:DX)(n:Nat) (a0:Int):rF D n 167 (a0,())=qzu D n a0:=by kernel_rfl

def qbkk (D:DX)(n:Nat) (a0:tq12) (a1:tq33):Option tq7:=let y1:=List.getD a0.2.1 a1.1.toNat (0,0,[],(0,[],()),());let y0:=List.getD y1.2.2.1 a1.2.2.1.toNat (0,0,0,());let y2:=List.getD a0.1 (Int.toNat y0.1) (0,0,0,());br (decide (0≤a1.1)&&decide (a1.1<(a0.2.1.length:Int))) (br (decide (a1.2.2.1≥(y1.2.2.1.length:Int))) (some ((a1,(0,0,0,0,()),3,()),(a0.1,List.set a0.2.1 a1.1.toNat (y1.1,2,y1.2.2),a0.2.2),())) (br (decide (0≤a1.2.2.1)&&decide (a1.2.2.1<(y1.2.2.1.length:Int))) (br (decide (0≤y0.1)&&decide (y0.1<(a0.1.length:Int))) (br (qkr yq21 y2 (0,wrap .i64 (a1.1+1),a1.2.1,())) (some (((a1.1,a1.2.1,wrap .i64 (a1.2.2.1+1),a1.2.2.2),(0,0,0,0,()),0,()),a0,())) (br (y2.2.1 != 0) (some ((a1,(wrap .i64 (y2.2.1 - 1),y2.2.2.1,0,0,()),1,()),a0,())) (br (decide (y2.1=y0.2.1)) (some (((a1.1,a1.2.1,wrap .i64 (a1.2.2.1+1),a1.2.2.2),(0,0,0,0,()),0,()),(List.set a0.1 (Int.toNat y0.1) (0,wrap .i64 (a1.1+1),a1.2.1,()),a0.2),())) (some ((a1,(0,0,0,0,()),0,()),(a0.1,List.set a0.2.1 a1.1.toNat (y1.1,3,y1.2.2),a0.2.2),()))))) none) none)) none
def qbam (D:DX)(n:Nat) (a0:tq12) (a1:tq33):Option tq7:=qbkk D n a0 a1
theorem qbw8 (D:DX)(n:Nat) (a0:tq12) (a1:tq33):rF D n 168 (a0,(a1,()))=qbam D n a0 a1:=by kernel_rfl

def qhl (D:DX)(n:Nat) (go:Int→Int→tq5→Option tq2) (K0:Int→tq5→Option tq2) (K1:tq5→Option tq2) (x0 x1:Int) (x2:tq5):Option tq2:=br (decide (x1≥0)) (br (decide (0≤x1)&&decide (x1<(x2.2.2.2.1.length:Int))) (br (decide ((List.getD x2.2.2.2.1 x1.toNat (0,(0,0,0,()),0,0,0,(0,[],()),())).1=x0)) (br (decide (0≤x1)&&decide (x1<(x2.2.2.2.1.length:Int))) (br (decide ((List.getD x2.2.2.2.1 x1.toNat (0,(0,0,0,()),0,0,0,(0,[],()),())).2.2.2.2.1<0)) (K0 x1 x2) (go x0 (wrap .i64 (x1 - 1)) x2)) none) (go x0 (wrap .i64 (x1 - 1)) x2)) none) (K1 x2)
def qdf (D:DX)(n:Nat) (K0:Int→tq5→Option tq2) (K1:tq5→Option tq2):Nat→Int→Int→tq5→Option tq2 | 0=>(fun x0 x1 x2=>none) | m+1=>(fun x0 x1 x2=>qhl D n (qdf D n K0 K1 m) K0 K1 x0 x1 x2)
def q2j (D:DX)(n:Nat) (a:Int) (b:tq5):Option tq2:=some ((a,()),b,())
def q2p (D:DX)(n:Nat) (a:tq5):Option tq2:=some ((-1,()),a,())
def qjz (D:DX)(n:Nat):(Int)→(Int)→tq5→Option tq2:=(fun x0 x1 x2=>qdf D n (fun a b=>q2j D n a b) (fun c=>q2p D n c) n x0 x1 x2)
def qkw (D:DX)(n:Nat) (lp0:Int→Int→tq5→Option tq2) (a0:tq5) (a1:Int):Option tq2:=lp0 a1 (wrap .i64 ((a0.2.2.2.1.length:Int) - 1)) a0
def qkz (D:DX)(n:Nat) (a0:tq5) (a1:Int):Option tq2:=qkw D n (qjz D n) a0 a1
def qkm (x0 x1:Int) (x2:tq5):St:=stq 38 [(0,AV.addr 0 []),(1,AV.val yq34 x0),(5,AV.val yq34 x1)] [(0,Root.mk yq0 kq15 x2 true)]
def qon (a:Int) (b:tq5):St:=stq 38 [(0,AV.addr 0 []),(4,AV.val yq34 a)] [(0,Root.mk yq0 kq15 b true)]
def qol (a:tq5):St:=stq 38 [(0,AV.addr 0 [])] [(0,Root.mk yq0 kq15 a true)]
theorem q4d (D:DX)(n:Nat) (K:KT 169):∀ (m:Nat) (x0 x1:Int) (x2:tq5),LF D n 169 pq2 m (qkm x0 x1 x2) K=qdf D n (fun a b=>K (Ex.ret) (qon a b)) (fun c=>K (Ex.exit 0) (qol c)) m x0 x1 x2:=eL3 (fun F=>qhl D n F (fun a b=>K (Ex.ret) (qon a b)) (fun c=>K (Ex.exit 0) (qol c))) (fun _ _ _ =>q7 ..) (fun _ _ _ _ =>by kernel_rfl) (fun _ _ _ _ =>rfl)
theorem q2t (D:DX)(n:Nat) (x0) (x1) (x2):LF D n 169 pq2 n (qkm x0 x1 x2) (CF D n 169 [] pq2 (lF 169))=qjz D n x0 x1 x2 :=by rw[q4d];kernel_rfl
theorem q66 (D:DX)(n:Nat) (a0:tq5) (a1:Int):rF D n 169 (a0,(a1,()))=qkz D n a0 a1:=by
 have h:rF D n 169 (a0,(a1,()))=qkw D n (fun x0 x1 x2=>LF D n 169 pq2 n (qkm x0 x1 x2) (CF D n 169 [] pq2 (lF 169))) a0 a1:=by kernel_rfl
 rw[h]
 simp only[q2t]
 rfl

def qod (D:DX)(n:Nat) (go:Int→tq24→Option tq19) (K0:tq24→Option tq19) (x0:Int) (x1:tq24):Option tq19:=br (decide (x0<4)) (qd (qfe D x0) fun b↦qd (qs D x1 b.1.1) fun b↦go (wrap .i64 (x0+1)) b.2.1) (K0 x1)
def qhu (D:DX)(n:Nat) (K0:tq24→Option tq19):Nat→Int→tq24→Option tq19 | 0=>(fun x0 x1=>none) | m+1=>(fun x0 x1=>qod D n (qhu D n K0 m) K0 x0 x1)
def q7n (D:DX)(n:Nat) (a:tq24):Option tq19:=some ((a,()),())
def qyr (D:DX)(n:Nat):(Int)→tq24→Option tq19:=(fun x0 x1=>qhu D n (fun a=>q7n D n a) n x0 x1)
def q4z (D:DX)(n:Nat) (lp0:Int→tq24→Option tq19) (a0:tq37) (a1:List tq43):Option tq19:=let y0:Option tq19:=br (decide (a0.1=4)) (qd (qfe D a0.2.1) fun b↦qd (qs D (a1,[],-1,false,()) b.1.1) fun b↦some ((b.2.1,()),())) (br (decide (a0.1=5)) (qd (qdj D a0.2.2.1) fun b↦qd (qs D (a1,[],-1,false,()) b.1.1) fun b↦some ((b.2.1,()),())) (br (decide (a0.1=6)) (qd (qdi D a0.2.1) fun b↦qd (qs D (a1,[],-1,false,()) b.1.1) fun b↦some ((b.2.1,()),())) (br (decide (a0.1=7)) (lp0 0 (a1,[],-1,false,())) (br (decide (a0.1=8)) (qd (qco D) fun b↦qd (qs D (a1,[],-1,false,()) b.1.1) fun b↦some ((b.2.1,()),())) (br (decide (a0.1=9)) (qd (qco D) fun b↦qd (qs D (a1,[],-1,false,()) b.1.1) fun b↦qd (qb8 D b.2.1 (bif decide (b.1.1<1) then true else decide (b.1.1>4))) fun b_1↦qd (qfe D (wrap .i64 (b.1.1 - 1))) fun b↦qd (qs D b_1.2.1 b.1.1) fun b↦qd (qhr D b.1.1) fun b_2↦qd (qb8 D b.2.1 !b_2.1.1) fun b_3↦qd (qek D b.1.1) fun b↦qd (qs D b_3.2.1 b.1.1) fun b↦some ((b.2.1,()),())) (br (decide (a0.1=10)) (qd (qco D) fun b↦qd (qs D (a1,[],-1,false,()) b.1.1) fun b↦qd (qb8 D b.2.1 (b.1.1 != 5)) fun b↦qd (qek D a0.2.2.1) fun b_1↦qd (qs D b.2.1 b_1.1.1) fun b↦some ((b.2.1,()),())) (some (((a1,[],-1,false,()),()),()))))))));let y1:Option tq19:=qd (qh2 D (a1,[],-1,false,()) a0) fun b↦some ((b.2.1,()),());br (decide (a0.1=1)) (br (decide (a0.1=1)) y1 y0) (br (decide (a0.1=2)) (br (decide (a0.1=2)) y1 y0) (br (decide (a0.1=3)) y1 y0))
def q5j (D:DX)(n:Nat) (a0:tq37) (a1:List tq43):Option tq19:=q4z D n (qyr D n) a0 a1
def q18 (x0:Int) (x1:tq24):St:=stq 100 [(5,AV.addr 12 []),(45,AV.val yq34 x0)] [(12,Root.mk yq12 kq28 x1 true)]
def q7z (a:tq24):St:=stq 100 [(5,AV.addr 12 [])] [(12,Root.mk yq12 kq28 a true)]
theorem qbmc (D:DX)(n:Nat) (K:KT 170):∀ (m:Nat) (x0:Int) (x1:tq24),LF D n 170 pq6 m (q18 x0 x1) K=qhu D n (fun a=>K (Ex.exit 1) (q7z a)) m x0 x1:=eL2 (fun F=>qod D n F (fun a=>K (Ex.exit 1) (q7z a))) (fun _ _ =>q7 ..) (fun _ _ _ =>by kernel_rfl) (fun _ _ _ =>rfl)
theorem qbjo (D:DX)(n:Nat) (x0) (x1):LF D n 170 pq6 n (q18 x0 x1) (CF D n 170 [] pq6 (lF 170))=qyr D n x0 x1 :=by rw[qbmc];kernel_rfl
theorem qbqx (D:DX)(n:Nat) (a0:tq37) (a1:List tq43):rF D n 170 (a0,(a1,()))=q5j D n a0 a1:=by
 have h:rF D n 170 (a0,(a1,()))=q4z D n (fun x0 x1=>LF D n 170 pq6 n (q18 x0 x1) (CF D n 170 [] pq6 (lF 170))) a0 a1:=by kernel_rfl
 rw[h]
 simp only[qbjo]
 rfl

def qbb0 (D:DX)(n:Nat) (a0:tq37) (a1:List tq43):Option ((tq40×tq44)×Unit):=qd (qfe D a0.2.1) fun b↦qd (qer D a1 b.1.1) fun b↦qd (qdj D a0.2.2.1) fun b_1↦qd (qer D a1 b_1.1.1) fun b_2↦qd (qco D) fun b_3↦qd (qer D a1 b_3.1.1) fun b_4↦br (bif decide (a0.1=1) then b.1.1 != 0 else false) (some (((1,[],()),true,()),())) (br (bif decide (a0.1=1) then b_2.1.1 != 0 else false) (some (((2,[],()),true,()),())) (br (bif bif bif decide (a0.1=2) then true else decide (a0.1=3) then true else decide (a0.1=4) then decide (b.1.1=0) else false) (some (((3,[],()),true,()),())) (br (bif decide (a0.1=2) then decide (b.1.1=a0.2.2.1) else false) (some (((0,[],()),true,()),())) (br (bif decide (a0.1=2) then b_2.1.1 != 0 else false) (some (((2,[],()),true,()),())) (br (decide (a0.1=4)) (some (((0,[b.1.1],()),true,()),())) (br (bif decide (a0.1=5) then decide (b_2.1.1=0) else false) (some (((3,[],()),true,()),())) (br (decide (a0.1=5)) (some (((0,[wrap .i64 (b_2.1.1 - 1)],()),true,()),())) (br (decide (a0.1=6)) (qd (qdi D a0.2.1) fun b↦qd (qer D a1 b.1.1) fun b↦some (((0,[b.1.1],()),true,()),())) (br (bif decide (a0.1=8) then b_4.1.1 != 0 else false) (br (bif decide (a0.1=8) then b_4.1.1 != 0 else false) (some (((4,[],()),true,()),())) (some (((0,[],()),false,()),()))) (br (bif decide (a0.1=9) then bif decide (b_4.1.1<1) then true else decide (b_4.1.1>4) else false) (br (bif decide (a0.1=9) then bif decide (b_4.1.1<1) then true else decide (b_4.1.1>4) else false) (some (((4,[],()),true,()),())) (some (((0,[],()),false,()),()))) (br (bif decide (a0.1=10) then b_4.1.1 != 5 else false) (some (((4,[],()),true,()),())) (some (((0,[],()),false,()),())))))))))))))
def q2o (D:DX)(n:Nat) (a0:tq37) (a1:List tq43):Option ((tq40×tq44)×Unit):=qbb0 D n a0 a1
theorem qbp1 (D:DX)(n:Nat) (a0:tq37) (a1:List tq43):rF D n 171 (a0,(a1,()))=q2o D n a0 a1:=by kernel_rfl

def q4s (D:DX)(n:Nat) (go:List tq43→Int→Int→Option tq35) (K0:Int→Bool→Option tq35) (K1:Option tq35) (x0:List tq43) (x1 x2:Int):Option tq35:=br (decide (x2≥0)) (br (decide (0≤x2)&&decide (x2<(x0.length:Int))) (br (decide ((List.getD x0 x2.toNat (0,0,())).1=x1)) (br (decide (0≤x2)&&decide (x2<(x0.length:Int))) (K0 (List.getD x0 x2.toNat (0,0,())).2.1 true) none) (go x0 x1 (wrap .i64 (x2 - 1)))) none) K1
def qra (D:DX)(n:Nat) (K0:Int→Bool→Option tq35) (K1:Option tq35):Nat→(List tq43)→Int→Int→Option tq35 | 0=>(fun x0 x1 x2=>none) | m+1=>(fun x0 x1 x2=>q4s D n (qra D n K0 K1 m) K0 K1 x0 x1 x2)
def qbaf (D:DX)(n:Nat) (a:Int) (b:Bool):Option tq35:=some ((a,b,()),())
def q93 (D:DX)(n:Nat):Option tq35:=some ((0,false,()),())
def q21 (D:DX)(n:Nat):(List tq43)→(Int)→(Int)→Option tq35:=(fun x0 x1 x2=>qra D n (fun a b=>qbaf D n a b) (q93 D n) n x0 x1 x2)
def q8l (D:DX)(n:Nat) (lp0:List tq43→Int→Int→Option tq35) (a0:List tq43) (a1:Int):Option tq35:=lp0 a0 a1 (wrap .i64 ((a0.length:Int) - 1))
def q8j (D:DX)(n:Nat) (a0:List tq43) (a1:Int):Option tq35:=q8l D n (q21 D n) a0 a1
def q6q (x0:List tq43) (x1 x2:Int):St:=stq 26 [(0,AV.val yq24 x0),(1,AV.val yq34 x1),(6,AV.val yq34 x2)] []
def q9i (a:Int) (b:Bool):St:=stq 26 [(4,AV.val yq34 a),(5,AV.val Ty.bool b)] []
def q9o:St:=stq 26 [] []
theorem qbpv (D:DX)(n:Nat) (K:KT 172):∀ (m:Nat) (x0:List tq43) (x1 x2:Int),LF D n 172 pq2 m (q6q x0 x1 x2) K=qra D n (fun a b=>K (Ex.ret) (q9i a b)) (K (Ex.exit 0) (q9o)) m x0 x1 x2:=eL3 (fun F=>q4s D n F (fun a b=>K (Ex.ret) (q9i a b)) (K (Ex.exit 0) (q9o))) (fun _ _ _ =>q7 ..) (fun _ _ _ _ =>by kernel_rfl) (fun _ _ _ _ =>rfl)
theorem qbnd (D:DX)(n:Nat) (x0) (x1) (x2):LF D n 172 pq2 n (q6q x0 x1 x2) (CF D n 172 [] pq2 (lF 172))=q21 D n x0 x1 x2 :=by rw[qbpv];kernel_rfl
theorem qbt7 (D:DX)(n:Nat) (a0:List tq43) (a1:Int):rF D n 172 (a0,(a1,()))=q8j D n a0 a1:=by
 have h:rF D n 172 (a0,(a1,()))=q8l D n (fun x0 x1 x2=>LF D n 172 pq2 n (q6q x0 x1 x2) (CF D n 172 [] pq2 (lF 172))) a0 a1:=by kernel_rfl
 rw[h]
 simp only[qbnd]
 rfl

def qbec (D:DX)(n:Nat) (a0:Int):Option tq42:=qd (qqm D a0) fun b↦qd (qk5 D b.1.1 a0) fun b↦some ((b.1.1,()),())
def q6b (D:DX)(n:Nat) (a0:Int):Option tq42:=qbec D n a0
theorem qbrt (D:DX)(n:Nat) (a0:Int):rF D n 173 (a0,())=q6b D n a0:=by kernel_rfl

def q97 (D:DX)(n:Nat) (a0:tq37) (a1:List tq43) (a2 a3:Int):Option tq28:=qd (qfe D a0.2.1) fun b↦qd (qct D b.1.1 a0.2.2.1 0 a1 []) fun b↦qd (qco D) fun b_1↦qd (qct D b_1.1.1 a3 0 a1 b.2.1) fun b↦qd (qdj D a2) fun b_2↦qd (qct D b_2.1.1 0 0 a1 b.2.1) fun b↦qd (qek D a2) fun b_3↦qd (qct D b_3.1.1 0 0 a1 b.2.1) fun b↦qd (qdj D a0.2.2.1) fun b_4↦qd (qct D b_4.1.1 (wrap .i64 (a0.2.1+1)) 0 a1 b.2.1) fun b↦qd (qek D a0.2.2.1) fun b_5↦qd (qct D b_5.1.1 (wrap .i64 (a0.2.1+1)) 0 a1 b.2.1) fun b↦qd (qc2 D a2) fun b_6↦qd (qc2 D a0.2.2.1) fun b_7↦br (b_6.1.1 != b_7.1.1) (qd (qc2 D a2) fun b_8↦qd (qdi D b_8.1.1) fun b_9↦qd (qct D b_9.1.1 0 (-1) a1 b.2.1) fun b↦qd (qc2 D a0.2.2.1) fun b_10↦qd (qdi D b_10.1.1) fun b_11↦qd (qct D b_11.1.1 0 1 a1 b.2.1) fun b↦qd (qc3 D b.2.1 (Clo.mk 183 [])) fun b↦some ((b.2.1,()),())) (qd (qc3 D b.2.1 (Clo.mk 183 [])) fun b↦some ((b.2.1,()),()))
def qzc (D:DX)(n:Nat) (a0:tq37) (a1:List tq43) (a2 a3:Int):Option tq28:=q97 D n a0 a1 a2 a3
theorem qblk (D:DX)(n:Nat) (a0:tq37) (a1:List tq43) (a2 a3:Int):rF D n 174 (a0,(a1,(a2,(a3,()))))=qzc D n a0 a1 a2 a3:=by kernel_rfl

def qvk (D:DX)(n:Nat) (a0:List Int):Option tq38:=qd (qp0 D (wrap .u64 (a0.length:Int))) fun b↦qd (qj D a0 0 (a0.length:Int) b.1.1) fun b↦some ((),b.2.1,())
def qmg (D:DX)(n:Nat) (a0:List Int):Option tq38:=qvk D n a0
theorem qbag (D:DX)(n:Nat) (a0:List Int):rF D n 175 (a0,())=qmg D n a0:=by kernel_rfl

def qbb4 (D:DX)(n:Nat) (a0:tq37) (a1 a2 a3 a4:Int):Option tq42:=br (decide (a0.1=8)) (some ((wrap .i64 (a2+1),()),())) (br (decide (a0.1=9)) (qd (qco D) fun b↦br (decide (a1=b.1.1)) (some ((wrap .i64 (a2+1),()),())) (qd (qek D a3) fun b↦br (decide (a1=b.1.1)) (some ((a4,()),())) (some ((a2,()),())))) (some ((a2,()),())))
def q2x (D:DX)(n:Nat) (a0:tq37) (a1 a2 a3 a4:Int):Option tq42:=qbb4 D n a0 a1 a2 a3 a4
theorem qbqg (D:DX)(n:Nat) (a0:tq37) (a1 a2 a3 a4:Int):rF D n 176 (a0,(a1,(a2,(a3,(a4,())))))=q2x D n a0 a1 a2 a3 a4:=by kernel_rfl

def q81 (D:DX)(n:Nat) (a0:tq37) (a1:Int):Option tq41:=some ((decide (a0.2.1=wrap .i64 (a1+1)),()),())
def q0r (D:DX)(n:Nat) (a0:tq37) (a1:Int):Option tq41:=q81 D n a0 a1
theorem qbmq (D:DX)(n:Nat) (a0:tq37) (a1:Int):rF D n 177 (a0,(a1,()))=q0r D n a0 a1:=by kernel_rfl

def qks (D:DX)(n:Nat) (a0:tq24) (a1:tq37):Option tq21:=qd (qfe D a1.2.1) fun b↦qd (qs D a0 b.1.1) fun b↦br (decide (a1.1=1)) (qd (qb8 D b.2.1 (b.1.1 != 0)) fun b↦qd (qdj D a1.2.2.1) fun b_1↦qd (qs D b.2.1 b_1.1.1) fun b↦qd (qb8 D b.2.1 (b.1.1 != 0)) fun b↦qd (qc2 D a1.2.2.1) fun b_2↦qd (qdi D b_2.1.1) fun b_3↦qd (qs D b.2.1 b_3.1.1) fun b↦qd (qgo D b.2.1 a1.2.1 [a1.2.2.1]) fun b↦some ((),b.2.1,())) (br (decide (a1.1=2)) (qd (qb8 D b.2.1 (bif decide (b.1.1=0) then true else decide (b.1.1=a1.2.2.1))) fun b_1↦qd (qdj D a1.2.2.1) fun b_2↦qd (qs D b_1.2.1 b_2.1.1) fun b_3↦qd (qb8 D b_3.2.1 (b_3.1.1 != 0)) fun b_4↦qd (qdj D b.1.1) fun b_5↦qd (qs D b_4.2.1 b_5.1.1) fun b_6↦qd (qc2 D b.1.1) fun b_7↦qd (qc2 D a1.2.2.1) fun b_8↦br (b_7.1.1 != b_8.1.1) (qd (qc2 D b.1.1) fun b_9↦qd (qdi D b_9.1.1) fun b_10↦qd (qs D b_6.2.1 b_10.1.1) fun b_11↦qd (qc2 D a1.2.2.1) fun b_12↦qd (qdi D b_12.1.1) fun b_13↦qd (qs D b_11.2.1 b_13.1.1) fun b_14↦qd (qgo D b_14.2.1 a1.2.1 [b.1.1,a1.2.2.1]) fun b↦some ((),b.2.1,())) (qd (qgo D b_6.2.1 a1.2.1 [b.1.1,a1.2.2.1]) fun b↦some ((),b.2.1,()))) (qd (qb8 D b.2.1 (decide (b.1.1=0))) fun b_1↦qd (qdj D b.1.1) fun b_2↦qd (qs D b_1.2.1 b_2.1.1) fun b_3↦qd (qc2 D b.1.1) fun b_4↦qd (qdi D b_4.1.1) fun b_5↦qd (qs D b_3.2.1 b_5.1.1) fun b_6↦qd (qgo D b_6.2.1 a1.2.1 [b.1.1]) fun b↦some ((),b.2.1,())))
def qh4 (D:DX)(n:Nat) (a0:tq24) (a1:tq37):Option tq21:=qks D n a0 a1
theorem qbck (D:DX)(n:Nat) (a0:tq24) (a1:tq37):rF D n 178 (a0,(a1,()))=qh4 D n a0 a1:=by kernel_rfl

def qns (D:DX)(n:Nat) (a0:tq24) (a1:Int):Option ((Int×Unit)×tq23):=br a0.2.2.2.1 (some ((0,()),a0,())) (qd (qer D a0.1 a1) fun b↦br (bif decide (a1<0) then true else !b.1.2.1) (some ((0,()),(a0.1,a0.2.1,a1,true,a0.2.2.2.2),())) (br (decide (a0.2.1.length+1≤qb7)) (some ((b.1.1,()),(a0.1,a0.2.1++[a1],a0.2.2),())) none))
def qkq (D:DX)(n:Nat) (a0:tq24) (a1:Int):Option ((Int×Unit)×tq23):=qns D n a0 a1
theorem qbir (D:DX)(n:Nat) (a0:tq24) (a1:Int):rF D n 179 (a0,(a1,()))=qkq D n a0 a1:=by kernel_rfl

def qbgq (D:DX)(n:Nat) (a0:tq24) (a1:Bool):Option tq21:=some ((),(a0.1,a0.2.1,a0.2.2.1,bif a0.2.2.2.1 then true else a1,a0.2.2.2.2),())
def q3c (D:DX)(n:Nat) (a0:tq24) (a1:Bool):Option tq21:=qbgq D n a0 a1
theorem qbf4 (D:DX)(n:Nat) (a0:tq24) (a1:Bool):rF D n 180 (a0,(a1,()))=q3c D n a0 a1:=by kernel_rfl

def qnk (D:DX)(n:Nat) (a0 a1 a2:Int) (a3:List tq43) (a4:List tq37):Option tq29:=qd (qer D a3 a0) fun b↦br (bif decide (a0<0) then true else !b.1.2.1) (some ((),a4,())) (br (decide (a2=1)) (br (decide (a4.length+1≤qb7)) (some ((),a4++[(a0,b.1.1,wrap .i64 (b.1.1+1),())],())) none) (br (decide (a2 = -1)) (br (decide (a4.length+1≤qb7)) (some ((),a4++[(a0,b.1.1,if wrap .i64 (b.1.1 - 1)>0 then wrap .i64 (b.1.1 - 1) else 0,())],())) none) (br (decide (a4.length+1≤qb7)) (some ((),a4++[(a0,b.1.1,a1,())],())) none)))
def qkj (D:DX)(n:Nat) (a0 a1 a2:Int) (a3:List tq43) (a4:List tq37):Option tq29:=qnk D n a0 a1 a2 a3 a4
theorem qbh5 (D:DX)(n:Nat) (a0 a1 a2:Int) (a3:List tq43) (a4:List tq37):rF D n 181 (a0,(a1,(a2,(a3,(a4,())))))=qkj D n a0 a1 a2 a3 a4:=by kernel_rfl

def qhx (D:DX)(n:Nat) (a1:Clo) (a0:List tq37):Option tq29:=qd (qp0 D (wrap .u64 (a0.length:Int))) fun b↦qd (qf D a0 0 (a0.length:Int) b.1.1 a1) fun b↦some ((),b.2.1,())
def qeo (D:DX)(n:Nat) (a0:List tq37) (a1:Clo):Option tq29:=qhx D n a1 a0
theorem qoq (D:DX)(n:Nat) (a0:List tq37) (a1:Clo):rF D n 182 (a0,(a1,()))=qeo D n a0 a1:=by kernel_rfl

def q53 (D:DX)(n:Nat) (a0 a1:tq37):Option tq42:=some ((wrap .i64 (a0.1 - a1.1),()),())
def qux (D:DX)(n:Nat) (a0 a1:tq37):Option tq42:=q53 D n a0 a1
theorem qbip (D:DX)(n:Nat) (a0 a1:tq37):rF D n 183 (a0,(a1,()))=qux D n a0 a1:=by kernel_rfl

def qie (D:DX)(n:Nat) (go:Int→Int→Int→Bool→Bool→List Int→Option tq38) (K0:List Int→Option tq38) (x0 x1 x2:Int) (x3 x4:Bool) (x5:List Int):Option tq38:=let y0:=wrap .i64 (x2 - 1);let y1:=wrap .i64 (x1 - x0);let y2:=Int.toNat (wrap .i64 (x0 - 1));br (decide (y1≤12)) (qd (qj2 D x5 x0 x1) fun b↦K0 b.2.1) (br (decide (x2=0)) (qd (q0m D x5 x0 x1) fun b↦K0 b.2.1) (br (!x3) (qd (qtp D x5 x0 x1) fun b↦qd (qkv D b.2.1 x0 x1) fun b_1↦br (decide (b_1.1.2.1=2)) (qd (qki D b.2.1 x0 x1) fun b↦br (bif bif x3 then x4 else false then true else false) (qd (qc1 D b.2.1 x0 x1) fun b↦br b.1.1 (K0 b.2.1) (br (decide (x0>0)) (br (decide (0≤wrap .i64 (x0 - 1))&&decide (wrap .i64 (x0 - 1)<(b.2.1.length:Int))) (br (decide (0≤wrap .i64 (wrap .i64 (x1 - 1) - wrap .i64 (b_1.1.1 - x0)))&&decide (wrap .i64 (wrap .i64 (x1 - 1) - wrap .i64 (b_1.1.1 - x0))<(b.2.1.length:Int))) (qd (qdn D (List.getD b.2.1 y2 0) (List.getD b.2.1 (Int.toNat (wrap .i64 (wrap .i64 (x1 - 1) - wrap .i64 (b_1.1.1 - x0)))) 0)) fun b_2↦let a:=wrap .i64 (wrap .i64 (x1 - 1) - wrap .i64 (b_1.1.1 - x0));br (!b_2.1.1) (qd (qbr D b.2.1 x0 x1 a) fun b↦go b.1.1 x1 y0 x3 x4 b.2.1) (qd (qw D b.2.1 x0 x1 a) fun b↦br (decide (wrap .i64 (b.1.1 - x0)<wrap .i64 (x1 - b.1.1))) (qd (qj D b.2.1 x0 b.1.1 y0) fun b_3↦go (wrap .i64 (b.1.1+1)) x1 y0 (decide (wrap .i64 (b.1.1 - x0)≥wrap .i64 (Int.tdiv y1 8))) b.1.2.1 b_3.2.1) (qd (qj D b.2.1 (wrap .i64 (b.1.1+1)) x1 y0) fun b_3↦go x0 b.1.1 y0 (decide (wrap .i64 (x1 - b.1.1)≥wrap .i64 (Int.tdiv y1 8))) b.1.2.1 b_3.2.1))) none) none) (qd (qw D b.2.1 x0 x1 (wrap .i64 (wrap .i64 (x1 - 1) - wrap .i64 (b_1.1.1 - x0)))) fun b↦br (decide (wrap .i64 (b.1.1 - x0)<wrap .i64 (x1 - b.1.1))) (qd (qj D b.2.1 x0 b.1.1 y0) fun b_2↦go (wrap .i64 (b.1.1+1)) x1 y0 (decide (wrap .i64 (b.1.1 - x0)≥wrap .i64 (Int.tdiv y1 8))) b.1.2.1 b_2.2.1) (qd (qj D b.2.1 (wrap .i64 (b.1.1+1)) x1 y0) fun b_2↦go x0 b.1.1 y0 (decide (wrap .i64 (x1 - b.1.1)≥wrap .i64 (Int.tdiv y1 8))) b.1.2.1 b_2.2.1)))) (br (decide (x0>0)) (br (decide (0≤wrap .i64 (x0 - 1))&&decide (wrap .i64 (x0 - 1)<(b.2.1.length:Int))) (br (decide (0≤wrap .i64 (wrap .i64 (x1 - 1) - wrap .i64 (b_1.1.1 - x0)))&&decide (wrap .i64 (wrap .i64 (x1 - 1) - wrap .i64 (b_1.1.1 - x0))<(b.2.1.length:Int))) (qd (qdn D (List.getD b.2.1 y2 0) (List.getD b.2.1 (Int.toNat (wrap .i64 (wrap .i64 (x1 - 1) - wrap .i64 (b_1.1.1 - x0)))) 0)) fun b_2↦let c:=wrap .i64 (wrap .i64 (x1 - 1) - wrap .i64 (b_1.1.1 - x0));br (!b_2.1.1) (qd (qbr D b.2.1 x0 x1 c) fun b↦go b.1.1 x1 y0 x3 x4 b.2.1) (qd (qw D b.2.1 x0 x1 c) fun b↦br (decide (wrap .i64 (b.1.1 - x0)<wrap .i64 (x1 - b.1.1))) (qd (qj D b.2.1 x0 b.1.1 y0) fun b_3↦go (wrap .i64 (b.1.1+1)) x1 y0 (decide (wrap .i64 (b.1.1 - x0)≥wrap .i64 (Int.tdiv y1 8))) b.1.2.1 b_3.2.1) (qd (qj D b.2.1 (wrap .i64 (b.1.1+1)) x1 y0) fun b_3↦go x0 b.1.1 y0 (decide (wrap .i64 (x1 - b.1.1)≥wrap .i64 (Int.tdiv y1 8))) b.1.2.1 b_3.2.1))) none) none) (qd (qw D b.2.1 x0 x1 (wrap .i64 (wrap .i64 (x1 - 1) - wrap .i64 (b_1.1.1 - x0)))) fun b↦br (decide (wrap .i64 (b.1.1 - x0)<wrap .i64 (x1 - b.1.1))) (qd (qj D b.2.1 x0 b.1.1 y0) fun b_2↦go (wrap .i64 (b.1.1+1)) x1 y0 (decide (wrap .i64 (b.1.1 - x0)≥wrap .i64 (Int.tdiv y1 8))) b.1.2.1 b_2.2.1) (qd (qj D b.2.1 (wrap .i64 (b.1.1+1)) x1 y0) fun b_2↦go x0 b.1.1 y0 (decide (wrap .i64 (x1 - b.1.1)≥wrap .i64 (Int.tdiv y1 8))) b.1.2.1 b_2.2.1)))) (br (bif bif x3 then x4 else false then decide (b_1.1.2.1=1) else false) (qd (qc1 D b.2.1 x0 x1) fun b↦br b.1.1 (K0 b.2.1) (br (decide (x0>0)) (br (decide (0≤wrap .i64 (x0 - 1))&&decide (wrap .i64 (x0 - 1)<(b.2.1.length:Int))) (br (decide (0≤b_1.1.1)&&decide (b_1.1.1<(b.2.1.length:Int))) (qd (qdn D (List.getD b.2.1 y2 0) (List.getD b.2.1 b_1.1.1.toNat 0)) fun b_2↦br (!b_2.1.1) (qd (qbr D b.2.1 x0 x1 b_1.1.1) fun b↦go b.1.1 x1 y0 x3 x4 b.2.1) (qd (qw D b.2.1 x0 x1 b_1.1.1) fun b↦br (decide (wrap .i64 (b.1.1 - x0)<wrap .i64 (x1 - b.1.1))) (qd (qj D b.2.1 x0 b.1.1 y0) fun b_3↦go (wrap .i64 (b.1.1+1)) x1 y0 (decide (wrap .i64 (b.1.1 - x0)≥wrap .i64 (Int.tdiv y1 8))) b.1.2.1 b_3.2.1) (qd (qj D b.2.1 (wrap .i64 (b.1.1+1)) x1 y0) fun b_3↦go x0 b.1.1 y0 (decide (wrap .i64 (x1 - b.1.1)≥wrap .i64 (Int.tdiv y1 8))) b.1.2.1 b_3.2.1))) none) none) (qd (qw D b.2.1 x0 x1 b_1.1.1) fun b↦br (decide (wrap .i64 (b.1.1 - x0)<wrap .i64 (x1 - b.1.1))) (qd (qj D b.2.1 x0 b.1.1 y0) fun b_2↦go (wrap .i64 (b.1.1+1)) x1 y0 (decide (wrap .i64 (b.1.1 - x0)≥wrap .i64 (Int.tdiv y1 8))) b.1.2.1 b_2.2.1) (qd (qj D b.2.1 (wrap .i64 (b.1.1+1)) x1 y0) fun b_2↦go x0 b.1.1 y0 (decide (wrap .i64 (x1 - b.1.1)≥wrap .i64 (Int.tdiv y1 8))) b.1.2.1 b_2.2.1)))) (br (decide (x0>0)) (br (decide (0≤wrap .i64 (x0 - 1))&&decide (wrap .i64 (x0 - 1)<(b.2.1.length:Int))) (br (decide (0≤b_1.1.1)&&decide (b_1.1.1<(b.2.1.length:Int))) (qd (qdn D (List.getD b.2.1 y2 0) (List.getD b.2.1 b_1.1.1.toNat 0)) fun b_2↦br (!b_2.1.1) (qd (qbr D b.2.1 x0 x1 b_1.1.1) fun b↦go b.1.1 x1 y0 x3 x4 b.2.1) (qd (qw D b.2.1 x0 x1 b_1.1.1) fun b↦br (decide (wrap .i64 (b.1.1 - x0)<wrap .i64 (x1 - b.1.1))) (qd (qj D b.2.1 x0 b.1.1 y0) fun b_3↦go (wrap .i64 (b.1.1+1)) x1 y0 (decide (wrap .i64 (b.1.1 - x0)≥wrap .i64 (Int.tdiv y1 8))) b.1.2.1 b_3.2.1) (qd (qj D b.2.1 (wrap .i64 (b.1.1+1)) x1 y0) fun b_3↦go x0 b.1.1 y0 (decide (wrap .i64 (x1 - b.1.1)≥wrap .i64 (Int.tdiv y1 8))) b.1.2.1 b_3.2.1))) none) none) (qd (qw D b.2.1 x0 x1 b_1.1.1) fun b↦br (decide (wrap .i64 (b.1.1 - x0)<wrap .i64 (x1 - b.1.1))) (qd (qj D b.2.1 x0 b.1.1 y0) fun b_2↦go (wrap .i64 (b.1.1+1)) x1 y0 (decide (wrap .i64 (b.1.1 - x0)≥wrap .i64 (Int.tdiv y1 8))) b.1.2.1 b_2.2.1) (qd (qj D b.2.1 (wrap .i64 (b.1.1+1)) x1 y0) fun b_2↦go x0 b.1.1 y0 (decide (wrap .i64 (x1 - b.1.1)≥wrap .i64 (Int.tdiv y1 8))) b.1.2.1 b_2.2.1))))) (qd (qkv D x5 x0 x1) fun b↦br (decide (b.1.2.1=2)) (qd (qki D x5 x0 x1) fun b_1↦br (bif bif x3 then x4 else false then true else false) (qd (qc1 D b_1.2.1 x0 x1) fun b_2↦br b_2.1.1 (K0 b_2.2.1) (br (decide (x0>0)) (br (decide (0≤wrap .i64 (x0 - 1))&&decide (wrap .i64 (x0 - 1)<(b_2.2.1.length:Int))) (br (decide (0≤wrap .i64 (wrap .i64 (x1 - 1) - wrap .i64 (b.1.1 - x0)))&&decide (wrap .i64 (wrap .i64 (x1 - 1) - wrap .i64 (b.1.1 - x0))<(b_2.2.1.length:Int))) (qd (qdn D (List.getD b_2.2.1 y2 0) (List.getD b_2.2.1 (Int.toNat (wrap .i64 (wrap .i64 (x1 - 1) - wrap .i64 (b.1.1 - x0)))) 0)) fun b_3↦br (!b_3.1.1) (qd (qbr D b_2.2.1 x0 x1 (wrap .i64 (wrap .i64 (x1 - 1) - wrap .i64 (b.1.1 - x0)))) fun b↦go b.1.1 x1 x2 x3 x4 b.2.1) (qd (qw D b_2.2.1 x0 x1 (wrap .i64 (wrap .i64 (x1 - 1) - wrap .i64 (b.1.1 - x0)))) fun b↦br (decide (wrap .i64 (b.1.1 - x0)<wrap .i64 (x1 - b.1.1))) (qd (qj D b.2.1 x0 b.1.1 x2) fun b_4↦go (wrap .i64 (b.1.1+1)) x1 x2 (decide (wrap .i64 (b.1.1 - x0)≥wrap .i64 (Int.tdiv y1 8))) b.1.2.1 b_4.2.1) (qd (qj D b.2.1 (wrap .i64 (b.1.1+1)) x1 x2) fun b_4↦go x0 b.1.1 x2 (decide (wrap .i64 (x1 - b.1.1)≥wrap .i64 (Int.tdiv y1 8))) b.1.2.1 b_4.2.1))) none) none) (qd (qw D b_2.2.1 x0 x1 (wrap .i64 (wrap .i64 (x1 - 1) - wrap .i64 (b.1.1 - x0)))) fun b↦br (decide (wrap .i64 (b.1.1 - x0)<wrap .i64 (x1 - b.1.1))) (qd (qj D b.2.1 x0 b.1.1 x2) fun b_3↦go (wrap .i64 (b.1.1+1)) x1 x2 (decide (wrap .i64 (b.1.1 - x0)≥wrap .i64 (Int.tdiv y1 8))) b.1.2.1 b_3.2.1) (qd (qj D b.2.1 (wrap .i64 (b.1.1+1)) x1 x2) fun b_3↦go x0 b.1.1 x2 (decide (wrap .i64 (x1 - b.1.1)≥wrap .i64 (Int.tdiv y1 8))) b.1.2.1 b_3.2.1)))) (br (decide (x0>0)) (br (decide (0≤wrap .i64 (x0 - 1))&&decide (wrap .i64 (x0 - 1)<(b_1.2.1.length:Int))) (br (decide (0≤wrap .i64 (wrap .i64 (x1 - 1) - wrap .i64 (b.1.1 - x0)))&&decide (wrap .i64 (wrap .i64 (x1 - 1) - wrap .i64 (b.1.1 - x0))<(b_1.2.1.length:Int))) (qd (qdn D (List.getD b_1.2.1 y2 0) (List.getD b_1.2.1 (Int.toNat (wrap .i64 (wrap .i64 (x1 - 1) - wrap .i64 (b.1.1 - x0)))) 0)) fun b_2↦br (!b_2.1.1) (qd (qbr D b_1.2.1 x0 x1 (wrap .i64 (wrap .i64 (x1 - 1) - wrap .i64 (b.1.1 - x0)))) fun b↦go b.1.1 x1 x2 x3 x4 b.2.1) (qd (qw D b_1.2.1 x0 x1 (wrap .i64 (wrap .i64 (x1 - 1) - wrap .i64 (b.1.1 - x0)))) fun b↦br (decide (wrap .i64 (b.1.1 - x0)<wrap .i64 (x1 - b.1.1))) (qd (qj D b.2.1 x0 b.1.1 x2) fun b_3↦go (wrap .i64 (b.1.1+1)) x1 x2 (decide (wrap .i64 (b.1.1 - x0)≥wrap .i64 (Int.tdiv y1 8))) b.1.2.1 b_3.2.1) (qd (qj D b.2.1 (wrap .i64 (b.1.1+1)) x1 x2) fun b_3↦go x0 b.1.1 x2 (decide (wrap .i64 (x1 - b.1.1)≥wrap .i64 (Int.tdiv y1 8))) b.1.2.1 b_3.2.1))) none) none) (qd (qw D b_1.2.1 x0 x1 (wrap .i64 (wrap .i64 (x1 - 1) - wrap .i64 (b.1.1 - x0)))) fun b↦br (decide (wrap .i64 (b.1.1 - x0)<wrap .i64 (x1 - b.1.1))) (qd (qj D b.2.1 x0 b.1.1 x2) fun b_2↦go (wrap .i64 (b.1.1+1)) x1 x2 (decide (wrap .i64 (b.1.1 - x0)≥wrap .i64 (Int.tdiv y1 8))) b.1.2.1 b_2.2.1) (qd (qj D b.2.1 (wrap .i64 (b.1.1+1)) x1 x2) fun b_2↦go x0 b.1.1 x2 (decide (wrap .i64 (x1 - b.1.1)≥wrap .i64 (Int.tdiv y1 8))) b.1.2.1 b_2.2.1)))) (br (bif bif x3 then x4 else false then decide (b.1.2.1=1) else false) (qd (qc1 D x5 x0 x1) fun b_1↦br b_1.1.1 (K0 b_1.2.1) (br (decide (x0>0)) (br (decide (0≤wrap .i64 (x0 - 1))&&decide (wrap .i64 (x0 - 1)<(b_1.2.1.length:Int))) (br (decide (0≤b.1.1)&&decide (b.1.1<(b_1.2.1.length:Int))) (qd (qdn D (List.getD b_1.2.1 y2 0) (List.getD b_1.2.1 b.1.1.toNat 0)) fun b_2↦br (!b_2.1.1) (qd (qbr D b_1.2.1 x0 x1 b.1.1) fun b↦go b.1.1 x1 x2 x3 x4 b.2.1) (qd (qw D b_1.2.1 x0 x1 b.1.1) fun b↦br (decide (wrap .i64 (b.1.1 - x0)<wrap .i64 (x1 - b.1.1))) (qd (qj D b.2.1 x0 b.1.1 x2) fun b_3↦go (wrap .i64 (b.1.1+1)) x1 x2 (decide (wrap .i64 (b.1.1 - x0)≥wrap .i64 (Int.tdiv y1 8))) b.1.2.1 b_3.2.1) (qd (qj D b.2.1 (wrap .i64 (b.1.1+1)) x1 x2) fun b_3↦go x0 b.1.1 x2 (decide (wrap .i64 (x1 - b.1.1)≥wrap .i64 (Int.tdiv y1 8))) b.1.2.1 b_3.2.1))) none) none) (qd (qw D b_1.2.1 x0 x1 b.1.1) fun b↦br (decide (wrap .i64 (b.1.1 - x0)<wrap .i64 (x1 - b.1.1))) (qd (qj D b.2.1 x0 b.1.1 x2) fun b_2↦go (wrap .i64 (b.1.1+1)) x1 x2 (decide (wrap .i64 (b.1.1 - x0)≥wrap .i64 (Int.tdiv y1 8))) b.1.2.1 b_2.2.1) (qd (qj D b.2.1 (wrap .i64 (b.1.1+1)) x1 x2) fun b_2↦go x0 b.1.1 x2 (decide (wrap .i64 (x1 - b.1.1)≥wrap .i64 (Int.tdiv y1 8))) b.1.2.1 b_2.2.1)))) (br (decide (x0>0)) (br (decide (0≤wrap .i64 (x0 - 1))&&decide (wrap .i64 (x0 - 1)<(x5.length:Int))) (br (decide (0≤b.1.1)&&decide (b.1.1<(x5.length:Int))) (qd (qdn D (List.getD x5 y2 0) (List.getD x5 b.1.1.toNat 0)) fun b_1↦br (!b_1.1.1) (qd (qbr D x5 x0 x1 b.1.1) fun b↦go b.1.1 x1 x2 x3 x4 b.2.1) (qd (qw D x5 x0 x1 b.1.1) fun b↦br (decide (wrap .i64 (b.1.1 - x0)<wrap .i64 (x1 - b.1.1))) (qd (qj D b.2.1 x0 b.1.1 x2) fun b_2↦go (wrap .i64 (b.1.1+1)) x1 x2 (decide (wrap .i64 (b.1.1 - x0)≥wrap .i64 (Int.tdiv y1 8))) b.1.2.1 b_2.2.1) (qd (qj D b.2.1 (wrap .i64 (b.1.1+1)) x1 x2) fun b_2↦go x0 b.1.1 x2 (decide (wrap .i64 (x1 - b.1.1)≥wrap .i64 (Int.tdiv y1 8))) b.1.2.1 b_2.2.1))) none) none) (qd (qw D x5 x0 x1 b.1.1) fun b↦br (decide (wrap .i64 (b.1.1 - x0)<wrap .i64 (x1 - b.1.1))) (qd (qj D b.2.1 x0 b.1.1 x2) fun b_1↦go (wrap .i64 (b.1.1+1)) x1 x2 (decide (wrap .i64 (b.1.1 - x0)≥wrap .i64 (Int.tdiv y1 8))) b.1.2.1 b_1.2.1) (qd (qj D b.2.1 (wrap .i64 (b.1.1+1)) x1 x2) fun b_1↦go x0 b.1.1 x2 (decide (wrap .i64 (x1 - b.1.1)≥wrap .i64 (Int.tdiv y1 8))) b.1.2.1 b_1.2.1)))))))
def qfn (D:DX)(n:Nat) (K0:List Int→Option tq38):Nat→Int→Int→Int→Bool→Bool→(List Int)→Option tq38 | 0=>(fun x0 x1 x2 x3 x4 x5=>none) | m+1=>(fun x0 x1 x2 x3 x4 x5=>qie D n (qfn D n K0 m) K0 x0 x1 x2 x3 x4 x5)
def qw8 (D:DX)(n:Nat) (a:List Int):Option tq38:=some ((),a,())
def qhy (D:DX)(n:Nat):(Int)→(Int)→(Int)→(Bool)→(Bool)→(List Int)→Option tq38:=(fun x0 x1 x2 x3 x4 x5=>qfn D n (fun a=>qw8 D n a) n x0 x1 x2 x3 x4 x5)
def qi4 (D:DX)(n:Nat) (lp0:Int→Int→Int→Bool→Bool→List Int→Option tq38) (a0:List Int) (a1 a2 a3:Int):Option tq38:=lp0 a1 a2 a3 true true a0
def qi9 (D:DX)(n:Nat) (a0:List Int) (a1 a2 a3:Int):Option tq38:=qi4 D n (qhy D n) a0 a1 a2 a3
def qij (x0 x1 x2:Int) (x3 x4:Bool) (x5:List Int):St:=stq 134 [(0,AV.brw 0 [] 1048576),(1,AV.val yq34 x0),(2,AV.val yq34 x1),(3,AV.val yq34 x2),(8,AV.val Ty.bool x3),(9,AV.val Ty.bool x4)] [(0,Root.mk yq30 kq33 x5 false)]
def qli (a:List Int):St:=stq 134 [(0,AV.brw 0 [] 1048576)] [(0,Root.mk yq30 kq33 a false)]
theorem qx2 (D:DX)(n:Nat) (K:KT 184):∀ (m:Nat) (x0 x1 x2:Int) (x3 x4:Bool) (x5:List Int),LF D n 184 pq17 m (qij x0 x1 x2 x3 x4 x5) K=qfn D n (fun a=>K (Ex.ret) (qli a)) m x0 x1 x2 x3 x4 x5:=eL6 (fun F=>qie D n F (fun a=>K (Ex.ret) (qli a))) (fun _ _ _ _ _ _ =>q7 ..) (fun _ _ _ _ _ _ _ =>by kernel_rfl) (fun _ _ _ _ _ _ _ =>rfl)
theorem qwo (D:DX)(n:Nat) (x0) (x1) (x2) (x3) (x4) (x5):LF D n 184 pq17 n (qij x0 x1 x2 x3 x4 x5) (CF D n 184 [] pq17 (lF 184))=qhy D n x0 x1 x2 x3 x4 x5 :=by rw[qx2];kernel_rfl
theorem q02 (D:DX)(n:Nat) (a0:List Int) (a1 a2 a3:Int):rF D n 184 (a0,(a1,(a2,(a3,()))))=qi9 D n a0 a1 a2 a3:=by
 have h:rF D n 184 (a0,(a1,(a2,(a3,()))))=qi4 D n (fun x0 x1 x2 x3 x4 x5=>LF D n 184 pq17 n (qij x0 x1 x2 x3 x4 x5) (CF D n 184 [] pq17 (lF 184))) a0 a1 a2 a3:=by kernel_rfl
 rw[h]
 simp only[qwo]
 rfl

def q7a (D:DX)(n:Nat) (a0:Int):Option tq42:=qd (q3w D a0) fun b↦some ((b.1.1,()),())
def qv6 (D:DX)(n:Nat) (a0:Int):Option tq42:=q7a D n a0
theorem qblj (D:DX)(n:Nat) (a0:Int):rF D n 185 (a0,())=qv6 D n a0:=by kernel_rfl

def ql9 (D:DX)(n:Nat) (go:List Int→Int→Int→tq24→Option tq21) (K0:tq24→Option tq21) (x0:List Int) (x1 x2:Int) (x3:tq24):Option tq21:=br (decide (x2<x1)) (br (decide (0≤x2)&&decide (x2<(x0.length:Int))) (qd (qek D (List.getD x0 x2.toNat 0)) fun b↦qd (qs D x3 b.1.1) fun b↦go x0 x1 (wrap .i64 (x2+1)) b.2.1) none) (K0 x3)
def qf4 (D:DX)(n:Nat) (K0:tq24→Option tq21):Nat→(List Int)→Int→Int→tq24→Option tq21 | 0=>(fun x0 x1 x2 x3=>none) | m+1=>(fun x0 x1 x2 x3=>ql9 D n (qf4 D n K0 m) K0 x0 x1 x2 x3)
def qh8 (D:DX)(n:Nat) (a:tq24):Option tq21:=some ((),a,())
def qld (D:DX)(n:Nat):(List Int)→(Int)→(Int)→tq24→Option tq21:=(fun x0 x1 x2 x3=>qf4 D n (fun a=>qh8 D n a) n x0 x1 x2 x3)
def qoa (D:DX)(n:Nat) (lp0:List Int→Int→Int→tq24→Option tq21) (a0:tq24) (a1:Int) (a2:List Int):Option tq21:=qd (qco D) fun b↦qd (qs D a0 b.1.1) fun b↦qd (qb8 D b.2.1 (decide (b.1.1≤wrap .i64 (a1+1)))) fun b↦lp0 a2 (a2.length:Int) 0 b.2.1
def qnz (D:DX)(n:Nat) (a0:tq24) (a1:Int) (a2:List Int):Option tq21:=qoa D n (qld D n) a0 a1 a2
def qs7 (x0:List Int) (x1 x2:Int) (x3:tq24):St:=stq 29 [(0,AV.addr 0 []),(18,AV.val yq30 x0),(19,AV.val yq34 x1),(20,AV.val yq34 x2)] [(0,Root.mk yq12 kq28 x3 true)]
def qx4 (a:tq24):St:=stq 29 [(0,AV.addr 0 [])] [(0,Root.mk yq12 kq28 a true)]
theorem qbdu (D:DX)(n:Nat) (K:KT 186):∀ (m:Nat) (x0:List Int) (x1 x2:Int) (x3:tq24),LF D n 186 [.r,.r,.r,.l] m (qs7 x0 x1 x2 x3) K=qf4 D n (fun a=>K (Ex.exit 0) (qx4 a)) m x0 x1 x2 x3:=eL4 (fun F=>ql9 D n F (fun a=>K (Ex.exit 0) (qx4 a))) (fun _ _ _ _ =>q7 ..) (fun _ _ _ _ _ =>by kernel_rfl) (fun _ _ _ _ _ =>rfl)
theorem qbcb (D:DX)(n:Nat) (x0) (x1) (x2) (x3):LF D n 186 [.r,.r,.r,.l] n (qs7 x0 x1 x2 x3) (CF D n 186 [] [.r,.r,.r,.l] (lF 186))=qld D n x0 x1 x2 x3 :=by rw[qbdu];kernel_rfl
theorem qbij (D:DX)(n:Nat) (a0:tq24) (a1:Int) (a2:List Int):rF D n 186 (a0,(a1,(a2,())))=qnz D n a0 a1 a2:=by
 have h:rF D n 186 (a0,(a1,(a2,())))=qoa D n (fun x0 x1 x2 x3=>LF D n 186 [.r,.r,.r,.l] n (qs7 x0 x1 x2 x3) (CF D n 186 [] [.r,.r,.r,.l] (lF 186))) a0 a1 a2:=by kernel_rfl
 rw[h]
 simp only[qbcb]
 rfl

def qfo (D:DX)(n:Nat) (a4:Clo) (go:Int→Int→Int→Bool→Bool→List tq37→Option tq29) (K0:List tq37→Option tq29) (x0 x1 x2:Int) (x3 x4:Bool) (x5:List tq37):Option tq29:=let y0:=wrap .i64 (x2 - 1);let y1:=wrap .i64 (x1 - x0);let y2:=Int.toNat (wrap .i64 (x0 - 1));br (decide (y1≤12)) (qd (qho D x5 x0 x1 a4) fun b↦K0 b.2.1) (br (decide (x2=0)) (qd (qr2 D x5 x0 x1 a4) fun b↦K0 b.2.1) (br (!x3) (qd (qnw D x5 x0 x1 a4) fun b↦qd (qid D b.2.1 x0 x1 a4) fun b_1↦br (decide (b_1.1.2.1=2)) (qd (qhw D b.2.1 x0 x1 a4) fun b↦br (bif bif x3 then x4 else false then true else false) (qd (qcf D b.2.1 x0 x1 a4) fun b↦br b.1.1 (K0 b.2.1) (br (decide (x0>0)) (br (decide (0≤wrap .i64 (x0 - 1))&&decide (wrap .i64 (x0 - 1)<(b.2.1.length:Int))) (br (decide (0≤wrap .i64 (wrap .i64 (x1 - 1) - wrap .i64 (b_1.1.1 - x0)))&&decide (wrap .i64 (wrap .i64 (x1 - 1) - wrap .i64 (b_1.1.1 - x0))<(b.2.1.length:Int))) (qd (qbk ctx D a4 [CapV.val yq21 (List.getD b.2.1 y2 (0,0,0,())),CapV.val yq21 (List.getD b.2.1 (Int.toNat (wrap .i64 (wrap .i64 (x1 - 1) - wrap .i64 (b_1.1.1 - x0)))) (0,0,0,()))] yq34) fun b_2↦let a:=wrap .i64 (wrap .i64 (x1 - 1) - wrap .i64 (b_1.1.1 - x0));br (!decide (b_2<0)) (qd (qbc D b.2.1 x0 x1 a a4) fun b↦go b.1.1 x1 y0 x3 x4 b.2.1) (qd (qm D b.2.1 x0 x1 a a4) fun b↦br (decide (wrap .i64 (b.1.1 - x0)<wrap .i64 (x1 - b.1.1))) (qd (qf D b.2.1 x0 b.1.1 y0 a4) fun b_3↦go (wrap .i64 (b.1.1+1)) x1 y0 (decide (wrap .i64 (b.1.1 - x0)≥wrap .i64 (Int.tdiv y1 8))) b.1.2.1 b_3.2.1) (qd (qf D b.2.1 (wrap .i64 (b.1.1+1)) x1 y0 a4) fun b_3↦go x0 b.1.1 y0 (decide (wrap .i64 (x1 - b.1.1)≥wrap .i64 (Int.tdiv y1 8))) b.1.2.1 b_3.2.1))) none) none) (qd (qm D b.2.1 x0 x1 (wrap .i64 (wrap .i64 (x1 - 1) - wrap .i64 (b_1.1.1 - x0))) a4) fun b↦br (decide (wrap .i64 (b.1.1 - x0)<wrap .i64 (x1 - b.1.1))) (qd (qf D b.2.1 x0 b.1.1 y0 a4) fun b_2↦go (wrap .i64 (b.1.1+1)) x1 y0 (decide (wrap .i64 (b.1.1 - x0)≥wrap .i64 (Int.tdiv y1 8))) b.1.2.1 b_2.2.1) (qd (qf D b.2.1 (wrap .i64 (b.1.1+1)) x1 y0 a4) fun b_2↦go x0 b.1.1 y0 (decide (wrap .i64 (x1 - b.1.1)≥wrap .i64 (Int.tdiv y1 8))) b.1.2.1 b_2.2.1)))) (br (decide (x0>0)) (br (decide (0≤wrap .i64 (x0 - 1))&&decide (wrap .i64 (x0 - 1)<(b.2.1.length:Int))) (br (decide (0≤wrap .i64 (wrap .i64 (x1 - 1) - wrap .i64 (b_1.1.1 - x0)))&&decide (wrap .i64 (wrap .i64 (x1 - 1) - wrap .i64 (b_1.1.1 - x0))<(b.2.1.length:Int))) (qd (qbk ctx D a4 [CapV.val yq21 (List.getD b.2.1 y2 (0,0,0,())),CapV.val yq21 (List.getD b.2.1 (Int.toNat (wrap .i64 (wrap .i64 (x1 - 1) - wrap .i64 (b_1.1.1 - x0)))) (0,0,0,()))] yq34) fun b_2↦let c:=wrap .i64 (wrap .i64 (x1 - 1) - wrap .i64 (b_1.1.1 - x0));br (!decide (b_2<0)) (qd (qbc D b.2.1 x0 x1 c a4) fun b↦go b.1.1 x1 y0 x3 x4 b.2.1) (qd (qm D b.2.1 x0 x1 c a4) fun b↦br (decide (wrap .i64 (b.1.1 - x0)<wrap .i64 (x1 - b.1.1))) (qd (qf D b.2.1 x0 b.1.1 y0 a4) fun b_3↦go (wrap .i64 (b.1.1+1)) x1 y0 (decide (wrap .i64 (b.1.1 - x0)≥wrap .i64 (Int.tdiv y1 8))) b.1.2.1 b_3.2.1) (qd (qf D b.2.1 (wrap .i64 (b.1.1+1)) x1 y0 a4) fun b_3↦go x0 b.1.1 y0 (decide (wrap .i64 (x1 - b.1.1)≥wrap .i64 (Int.tdiv y1 8))) b.1.2.1 b_3.2.1))) none) none) (qd (qm D b.2.1 x0 x1 (wrap .i64 (wrap .i64 (x1 - 1) - wrap .i64 (b_1.1.1 - x0))) a4) fun b↦br (decide (wrap .i64 (b.1.1 - x0)<wrap .i64 (x1 - b.1.1))) (qd (qf D b.2.1 x0 b.1.1 y0 a4) fun b_2↦go (wrap .i64 (b.1.1+1)) x1 y0 (decide (wrap .i64 (b.1.1 - x0)≥wrap .i64 (Int.tdiv y1 8))) b.1.2.1 b_2.2.1) (qd (qf D b.2.1 (wrap .i64 (b.1.1+1)) x1 y0 a4) fun b_2↦go x0 b.1.1 y0 (decide (wrap .i64 (x1 - b.1.1)≥wrap .i64 (Int.tdiv y1 8))) b.1.2.1 b_2.2.1)))) (br (bif bif x3 then x4 else false then decide (b_1.1.2.1=1) else false) (qd (qcf D b.2.1 x0 x1 a4) fun b↦br b.1.1 (K0 b.2.1) (br (decide (x0>0)) (br (decide (0≤wrap .i64 (x0 - 1))&&decide (wrap .i64 (x0 - 1)<(b.2.1.length:Int))) (br (decide (0≤b_1.1.1)&&decide (b_1.1.1<(b.2.1.length:Int))) (qd (qbk ctx D a4 [CapV.val yq21 (List.getD b.2.1 y2 (0,0,0,())),CapV.val yq21 (List.getD b.2.1 b_1.1.1.toNat (0,0,0,()))] yq34) fun b_2↦br (!decide (b_2<0)) (qd (qbc D b.2.1 x0 x1 b_1.1.1 a4) fun b↦go b.1.1 x1 y0 x3 x4 b.2.1) (qd (qm D b.2.1 x0 x1 b_1.1.1 a4) fun b↦br (decide (wrap .i64 (b.1.1 - x0)<wrap .i64 (x1 - b.1.1))) (qd (qf D b.2.1 x0 b.1.1 y0 a4) fun b_3↦go (wrap .i64 (b.1.1+1)) x1 y0 (decide (wrap .i64 (b.1.1 - x0)≥wrap .i64 (Int.tdiv y1 8))) b.1.2.1 b_3.2.1) (qd (qf D b.2.1 (wrap .i64 (b.1.1+1)) x1 y0 a4) fun b_3↦go x0 b.1.1 y0 (decide (wrap .i64 (x1 - b.1.1)≥wrap .i64 (Int.tdiv y1 8))) b.1.2.1 b_3.2.1))) none) none) (qd (qm D b.2.1 x0 x1 b_1.1.1 a4) fun b↦br (decide (wrap .i64 (b.1.1 - x0)<wrap .i64 (x1 - b.1.1))) (qd (qf D b.2.1 x0 b.1.1 y0 a4) fun b_2↦go (wrap .i64 (b.1.1+1)) x1 y0 (decide (wrap .i64 (b.1.1 - x0)≥wrap .i64 (Int.tdiv y1 8))) b.1.2.1 b_2.2.1) (qd (qf D b.2.1 (wrap .i64 (b.1.1+1)) x1 y0 a4) fun b_2↦go x0 b.1.1 y0 (decide (wrap .i64 (x1 - b.1.1)≥wrap .i64 (Int.tdiv y1 8))) b.1.2.1 b_2.2.1)))) (br (decide (x0>0)) (br (decide (0≤wrap .i64 (x0 - 1))&&decide (wrap .i64 (x0 - 1)<(b.2.1.length:Int))) (br (decide (0≤b_1.1.1)&&decide (b_1.1.1<(b.2.1.length:Int))) (qd (qbk ctx D a4 [CapV.val yq21 (List.getD b.2.1 y2 (0,0,0,())),CapV.val yq21 (List.getD b.2.1 b_1.1.1.toNat (0,0,0,()))] yq34) fun b_2↦br (!decide (b_2<0)) (qd (qbc D b.2.1 x0 x1 b_1.1.1 a4) fun b↦go b.1.1 x1 y0 x3 x4 b.2.1) (qd (qm D b.2.1 x0 x1 b_1.1.1 a4) fun b↦br (decide (wrap .i64 (b.1.1 - x0)<wrap .i64 (x1 - b.1.1))) (qd (qf D b.2.1 x0 b.1.1 y0 a4) fun b_3↦go (wrap .i64 (b.1.1+1)) x1 y0 (decide (wrap .i64 (b.1.1 - x0)≥wrap .i64 (Int.tdiv y1 8))) b.1.2.1 b_3.2.1) (qd (qf D b.2.1 (wrap .i64 (b.1.1+1)) x1 y0 a4) fun b_3↦go x0 b.1.1 y0 (decide (wrap .i64 (x1 - b.1.1)≥wrap .i64 (Int.tdiv y1 8))) b.1.2.1 b_3.2.1))) none) none) (qd (qm D b.2.1 x0 x1 b_1.1.1 a4) fun b↦br (decide (wrap .i64 (b.1.1 - x0)<wrap .i64 (x1 - b.1.1))) (qd (qf D b.2.1 x0 b.1.1 y0 a4) fun b_2↦go (wrap .i64 (b.1.1+1)) x1 y0 (decide (wrap .i64 (b.1.1 - x0)≥wrap .i64 (Int.tdiv y1 8))) b.1.2.1 b_2.2.1) (qd (qf D b.2.1 (wrap .i64 (b.1.1+1)) x1 y0 a4) fun b_2↦go x0 b.1.1 y0 (decide (wrap .i64 (x1 - b.1.1)≥wrap .i64 (Int.tdiv y1 8))) b.1.2.1 b_2.2.1))))) (qd (qid D x5 x0 x1 a4) fun b↦br (decide (b.1.2.1=2)) (qd (qhw D x5 x0 x1 a4) fun b_1↦br (bif bif x3 then x4 else false then true else false) (qd (qcf D b_1.2.1 x0 x1 a4) fun b_2↦br b_2.1.1 (K0 b_2.2.1) (br (decide (x0>0)) (br (decide (0≤wrap .i64 (x0 - 1))&&decide (wrap .i64 (x0 - 1)<(b_2.2.1.length:Int))) (br (decide (0≤wrap .i64 (wrap .i64 (x1 - 1) - wrap .i64 (b.1.1 - x0)))&&decide (wrap .i64 (wrap .i64 (x1 - 1) - wrap .i64 (b.1.1 - x0))<(b_2.2.1.length:Int))) (qd (qbk ctx D a4 [CapV.val yq21 (List.getD b_2.2.1 y2 (0,0,0,())),CapV.val yq21 (List.getD b_2.2.1 (Int.toNat (wrap .i64 (wrap .i64 (x1 - 1) - wrap .i64 (b.1.1 - x0)))) (0,0,0,()))] yq34) fun b_3↦br (!decide (b_3<0)) (qd (qbc D b_2.2.1 x0 x1 (wrap .i64 (wrap .i64 (x1 - 1) - wrap .i64 (b.1.1 - x0))) a4) fun b↦go b.1.1 x1 x2 x3 x4 b.2.1) (qd (qm D b_2.2.1 x0 x1 (wrap .i64 (wrap .i64 (x1 - 1) - wrap .i64 (b.1.1 - x0))) a4) fun b↦br (decide (wrap .i64 (b.1.1 - x0)<wrap .i64 (x1 - b.1.1))) (qd (qf D b.2.1 x0 b.1.1 x2 a4) fun b_4↦go (wrap .i64 (b.1.1+1)) x1 x2 (decide (wrap .i64 (b.1.1 - x0)≥wrap .i64 (Int.tdiv y1 8))) b.1.2.1 b_4.2.1) (qd (qf D b.2.1 (wrap .i64 (b.1.1+1)) x1 x2 a4) fun b_4↦go x0 b.1.1 x2 (decide (wrap .i64 (x1 - b.1.1)≥wrap .i64 (Int.tdiv y1 8))) b.1.2.1 b_4.2.1))) none) none) (qd (qm D b_2.2.1 x0 x1 (wrap .i64 (wrap .i64 (x1 - 1) - wrap .i64 (b.1.1 - x0))) a4) fun b↦br (decide (wrap .i64 (b.1.1 - x0)<wrap .i64 (x1 - b.1.1))) (qd (qf D b.2.1 x0 b.1.1 x2 a4) fun b_3↦go (wrap .i64 (b.1.1+1)) x1 x2 (decide (wrap .i64 (b.1.1 - x0)≥wrap .i64 (Int.tdiv y1 8))) b.1.2.1 b_3.2.1) (qd (qf D b.2.1 (wrap .i64 (b.1.1+1)) x1 x2 a4) fun b_3↦go x0 b.1.1 x2 (decide (wrap .i64 (x1 - b.1.1)≥wrap .i64 (Int.tdiv y1 8))) b.1.2.1 b_3.2.1)))) (br (decide (x0>0)) (br (decide (0≤wrap .i64 (x0 - 1))&&decide (wrap .i64 (x0 - 1)<(b_1.2.1.length:Int))) (br (decide (0≤wrap .i64 (wrap .i64 (x1 - 1) - wrap .i64 (b.1.1 - x0)))&&decide (wrap .i64 (wrap .i64 (x1 - 1) - wrap .i64 (b.1.1 - x0))<(b_1.2.1.length:Int))) (qd (qbk ctx D a4 [CapV.val yq21 (List.getD b_1.2.1 y2 (0,0,0,())),CapV.val yq21 (List.getD b_1.2.1 (Int.toNat (wrap .i64 (wrap .i64 (x1 - 1) - wrap .i64 (b.1.1 - x0)))) (0,0,0,()))] yq34) fun b_2↦br (!decide (b_2<0)) (qd (qbc D b_1.2.1 x0 x1 (wrap .i64 (wrap .i64 (x1 - 1) - wrap .i64 (b.1.1 - x0))) a4) fun b↦go b.1.1 x1 x2 x3 x4 b.2.1) (qd (qm D b_1.2.1 x0 x1 (wrap .i64 (wrap .i64 (x1 - 1) - wrap .i64 (b.1.1 - x0))) a4) fun b↦br (decide (wrap .i64 (b.1.1 - x0)<wrap .i64 (x1 - b.1.1))) (qd (qf D b.2.1 x0 b.1.1 x2 a4) fun b_3↦go (wrap .i64 (b.1.1+1)) x1 x2 (decide (wrap .i64 (b.1.1 - x0)≥wrap .i64 (Int.tdiv y1 8))) b.1.2.1 b_3.2.1) (qd (qf D b.2.1 (wrap .i64 (b.1.1+1)) x1 x2 a4) fun b_3↦go x0 b.1.1 x2 (decide (wrap .i64 (x1 - b.1.1)≥wrap .i64 (Int.tdiv y1 8))) b.1.2.1 b_3.2.1))) none) none) (qd (qm D b_1.2.1 x0 x1 (wrap .i64 (wrap .i64 (x1 - 1) - wrap .i64 (b.1.1 - x0))) a4) fun b↦br (decide (wrap .i64 (b.1.1 - x0)<wrap .i64 (x1 - b.1.1))) (qd (qf D b.2.1 x0 b.1.1 x2 a4) fun b_2↦go (wrap .i64 (b.1.1+1)) x1 x2 (decide (wrap .i64 (b.1.1 - x0)≥wrap .i64 (Int.tdiv y1 8))) b.1.2.1 b_2.2.1) (qd (qf D b.2.1 (wrap .i64 (b.1.1+1)) x1 x2 a4) fun b_2↦go x0 b.1.1 x2 (decide (wrap .i64 (x1 - b.1.1)≥wrap .i64 (Int.tdiv y1 8))) b.1.2.1 b_2.2.1)))) (br (bif bif x3 then x4 else false then decide (b.1.2.1=1) else false) (qd (qcf D x5 x0 x1 a4) fun b_1↦br b_1.1.1 (K0 b_1.2.1) (br (decide (x0>0)) (br (decide (0≤wrap .i64 (x0 - 1))&&decide (wrap .i64 (x0 - 1)<(b_1.2.1.length:Int))) (br (decide (0≤b.1.1)&&decide (b.1.1<(b_1.2.1.length:Int))) (qd (qbk ctx D a4 [CapV.val yq21 (List.getD b_1.2.1 y2 (0,0,0,())),CapV.val yq21 (List.getD b_1.2.1 b.1.1.toNat (0,0,0,()))] yq34) fun b_2↦br (!decide (b_2<0)) (qd (qbc D b_1.2.1 x0 x1 b.1.1 a4) fun b↦go b.1.1 x1 x2 x3 x4 b.2.1) (qd (qm D b_1.2.1 x0 x1 b.1.1 a4) fun b↦br (decide (wrap .i64 (b.1.1 - x0)<wrap .i64 (x1 - b.1.1))) (qd (qf D b.2.1 x0 b.1.1 x2 a4) fun b_3↦go (wrap .i64 (b.1.1+1)) x1 x2 (decide (wrap .i64 (b.1.1 - x0)≥wrap .i64 (Int.tdiv y1 8))) b.1.2.1 b_3.2.1) (qd (qf D b.2.1 (wrap .i64 (b.1.1+1)) x1 x2 a4) fun b_3↦go x0 b.1.1 x2 (decide (wrap .i64 (x1 - b.1.1)≥wrap .i64 (Int.tdiv y1 8))) b.1.2.1 b_3.2.1))) none) none) (qd (qm D b_1.2.1 x0 x1 b.1.1 a4) fun b↦br (decide (wrap .i64 (b.1.1 - x0)<wrap .i64 (x1 - b.1.1))) (qd (qf D b.2.1 x0 b.1.1 x2 a4) fun b_2↦go (wrap .i64 (b.1.1+1)) x1 x2 (decide (wrap .i64 (b.1.1 - x0)≥wrap .i64 (Int.tdiv y1 8))) b.1.2.1 b_2.2.1) (qd (qf D b.2.1 (wrap .i64 (b.1.1+1)) x1 x2 a4) fun b_2↦go x0 b.1.1 x2 (decide (wrap .i64 (x1 - b.1.1)≥wrap .i64 (Int.tdiv y1 8))) b.1.2.1 b_2.2.1)))) (br (decide (x0>0)) (br (decide (0≤wrap .i64 (x0 - 1))&&decide (wrap .i64 (x0 - 1)<(x5.length:Int))) (br (decide (0≤b.1.1)&&decide (b.1.1<(x5.length:Int))) (qd (qbk ctx D a4 [CapV.val yq21 (List.getD x5 y2 (0,0,0,())),CapV.val yq21 (List.getD x5 b.1.1.toNat (0,0,0,()))] yq34) fun b_1↦br (!decide (b_1<0)) (qd (qbc D x5 x0 x1 b.1.1 a4) fun b↦go b.1.1 x1 x2 x3 x4 b.2.1) (qd (qm D x5 x0 x1 b.1.1 a4) fun b↦br (decide (wrap .i64 (b.1.1 - x0)<wrap .i64 (x1 - b.1.1))) (qd (qf D b.2.1 x0 b.1.1 x2 a4) fun b_2↦go (wrap .i64 (b.1.1+1)) x1 x2 (decide (wrap .i64 (b.1.1 - x0)≥wrap .i64 (Int.tdiv y1 8))) b.1.2.1 b_2.2.1) (qd (qf D b.2.1 (wrap .i64 (b.1.1+1)) x1 x2 a4) fun b_2↦go x0 b.1.1 x2 (decide (wrap .i64 (x1 - b.1.1)≥wrap .i64 (Int.tdiv y1 8))) b.1.2.1 b_2.2.1))) none) none) (qd (qm D x5 x0 x1 b.1.1 a4) fun b↦br (decide (wrap .i64 (b.1.1 - x0)<wrap .i64 (x1 - b.1.1))) (qd (qf D b.2.1 x0 b.1.1 x2 a4) fun b_1↦go (wrap .i64 (b.1.1+1)) x1 x2 (decide (wrap .i64 (b.1.1 - x0)≥wrap .i64 (Int.tdiv y1 8))) b.1.2.1 b_1.2.1) (qd (qf D b.2.1 (wrap .i64 (b.1.1+1)) x1 x2 a4) fun b_1↦go x0 b.1.1 x2 (decide (wrap .i64 (x1 - b.1.1)≥wrap .i64 (Int.tdiv y1 8))) b.1.2.1 b_1.2.1)))))))
def qc9 (D:DX)(n:Nat) (a4:Clo) (K0:List tq37→Option tq29):Nat→Int→Int→Int→Bool→Bool→(List tq37)→Option tq29 | 0=>(fun x0 x1 x2 x3 x4 x5=>none) | m+1=>(fun x0 x1 x2 x3 x4 x5=>qfo D n a4 (qc9 D n a4 K0 m) K0 x0 x1 x2 x3 x4 x5)
def qp4 (D:DX)(n:Nat) (a4:Clo) (a:List tq37):Option tq29:=some ((),a,())
def qfi (D:DX)(n:Nat) (a4:Clo):(Int)→(Int)→(Int)→(Bool)→(Bool)→(List tq37)→Option tq29:=(fun x0 x1 x2 x3 x4 x5=>qc9 D n a4 (fun a=>qp4 D n a4 a) n x0 x1 x2 x3 x4 x5)
def qf6 (D:DX)(n:Nat) (a4:Clo) (lp0:Int→Int→Int→Bool→Bool→List tq37→Option tq29) (a0:List tq37) (a1 a2 a3:Int):Option tq29:=lp0 a1 a2 a3 true true a0
def qf2 (D:DX)(n:Nat) (a0:List tq37) (a1 a2 a3:Int) (a4:Clo):Option tq29:=qf6 D n a4 (qfi D n a4) a0 a1 a2 a3
def qfu (a4:Clo) (x0 x1 x2:Int) (x3 x4:Bool) (x5:List tq37):St:=stq 148 [(0,AV.brw 0 [] 1048576),(1,AV.val yq34 x0),(2,AV.val yq34 x1),(3,AV.val yq34 x2),(4,AV.cloV a4),(10,AV.val Ty.bool x3),(11,AV.val Ty.bool x4)] [(0,Root.mk yq19 kq33 x5 false)]
def qin (a4:Clo) (a:List tq37):St:=stq 148 [(0,AV.brw 0 [] 1048576)] [(0,Root.mk yq19 kq33 a false)]
theorem qq7 (D:DX)(n:Nat) (a4:Clo) (K:KT 187):∀ (m:Nat) (x0 x1 x2:Int) (x3 x4:Bool) (x5:List tq37),LF D n 187 pq17 m (qfu a4 x0 x1 x2 x3 x4 x5) K=qc9 D n a4 (fun a=>K (Ex.ret) (qin a4 a)) m x0 x1 x2 x3 x4 x5:=eL6 (fun F=>qfo D n a4 F (fun a=>K (Ex.ret) (qin a4 a))) (fun _ _ _ _ _ _ =>q7 ..) (fun _ _ _ _ _ _ _ =>by kernel_rfl) (fun _ _ _ _ _ _ _ =>rfl)
theorem qp3 (D:DX)(n:Nat) (a4:Clo) (x0) (x1) (x2) (x3) (x4) (x5):LF D n 187 pq17 n (qfu a4 x0 x1 x2 x3 x4 x5) (CF D n 187 [] pq17 (lF 187))=qfi D n a4 x0 x1 x2 x3 x4 x5 :=by rw[qq7];kernel_rfl
theorem qsf (D:DX)(n:Nat) (a0:List tq37) (a1 a2 a3:Int) (a4:Clo):rF D n 187 (a0,(a1,(a2,(a3,(a4,())))))=qf2 D n a0 a1 a2 a3 a4:=by
 have h:rF D n 187 (a0,(a1,(a2,(a3,(a4,())))))=qf6 D n a4 (fun x0 x1 x2 x3 x4 x5=>LF D n 187 pq17 n (qfu a4 x0 x1 x2 x3 x4 x5) (CF D n 187 [] pq17 (lF 187))) a0 a1 a2 a3:=by kernel_rfl
 rw[h]
 simp only[qp3]
 rfl

def qdd (D:DX)(n:Nat) (go:Int→Int→Int→Int→List Int→Option tq38) (K0:Int→Int→Int→List Int→Option tq38) (d e f a:Int) (c:List Int):Option tq38:=let y0:=List.getD c (Int.toNat (wrap .i64 (a - 1))) 0;br (decide (a>d)) (br (decide (0≤a)&&decide (a<(c.length:Int))) (br (decide (0≤wrap .i64 (a - 1))&&decide (wrap .i64 (a - 1)<(c.length:Int))) (qd (qdn D (List.getD c a.toNat 0) y0) fun b↦br b.1.1 (br (decide (0≤wrap .i64 (a - 1))&&decide (wrap .i64 (a - 1)<(c.length:Int))) (br (decide (0≤a)&&decide (a<(c.length:Int))) (br (decide (0≤a)&&decide (a<(c.length:Int))) (br (decide (0≤wrap .i64 (a - 1))&&decide (wrap .i64 (a - 1)<((List.set c a.toNat y0).length:Int))) (go d e f (wrap .i64 (a - 1)) (List.set (List.set c a.toNat y0) (Int.toNat (wrap .i64 (a - 1))) (List.getD c a.toNat 0))) none) none) none) none) (K0 d e f c)) none) none) (K0 d e f c)
def qcd (D:DX)(n:Nat) (K0:Int→Int→Int→List Int→Option tq38):Nat→Int→Int→Int→Int→(List Int)→Option tq38 | 0=>(fun a b c d e=>none) | m+1=>(fun a b c d e=>qdd D n (qcd D n K0 m) K0 a b c d e)
def qfh (D:DX)(n:Nat) (go:Int→Int→Int→List Int→Option tq38) (K0:List Int→Option tq38) (a b c:Int) (d:List Int):Option tq38:=go a b (wrap .i64 (c+1)) d
def qfs (D:DX)(n:Nat) (go:Int→Int→Int→List Int→Option tq38) (K0:List Int→Option tq38):(Int)→(Int)→(Int)→(Int)→(List Int)→Option tq38:=(fun a f g h i=>qcd D n (fun b c d e=>qfh D n go K0 b c d e) n a f g h i)
def qcz (D:DX)(n:Nat) (go:Int→Int→Int→List Int→Option tq38) (K0:List Int→Option tq38) (lp1:Int→Int→Int→Int→List Int→Option tq38) (x0 x1 x2:Int) (x3:List Int):Option tq38:=br (decide (x2<x1)) (lp1 x0 x1 x2 x2 x3) (K0 x3)
def qbb (D:DX)(n:Nat) (K0:List Int→Option tq38):Nat→Int→Int→Int→(List Int)→Option tq38 | 0=>(fun x0 x1 x2 x3=>none) | m+1=>(fun x0 x1 x2 x3=>qcz D n (qbb D n K0 m) K0 (qfs D n (qbb D n K0 m) K0) x0 x1 x2 x3)
def qjc (D:DX)(n:Nat) (a:List Int):Option tq38:=some ((),a,())
def qft (D:DX)(n:Nat):(Int)→(Int)→(Int)→(List Int)→Option tq38:=(fun x0 x1 x2 x3=>qbb D n (fun a=>qjc D n a) n x0 x1 x2 x3)
def qgi (D:DX)(n:Nat) (lp0:Int→Int→Int→List Int→Option tq38) (a0:List Int) (a1 a2:Int):Option tq38:=lp0 a1 a2 (wrap .i64 (a1+1)) a0
def qgj (D:DX)(n:Nat) (a0:List Int) (a1 a2:Int):Option tq38:=qgi D n (qft D n) a0 a1 a2
def qb3 (x0 x1 x2:Int) (x3:List Int):St:=stq 49 [(0,AV.brw 0 [] 1048576),(1,AV.val yq34 x0),(2,AV.val yq34 x1),(6,AV.val yq34 x2)] [(0,Root.mk yq30 kq33 x3 false)]
def qc7 (a:List Int):St:=stq 49 [(0,AV.brw 0 [] 1048576)] [(0,Root.mk yq30 kq33 a false)]
def qfy (a b c d:Int) (e:List Int):St:=stq 49 [(0,AV.brw 0 [] 1048576),(1,AV.val yq34 a),(2,AV.val yq34 b),(6,AV.val yq34 c),(7,AV.val yq34 d)] [(0,Root.mk yq30 kq33 e false)]
def qje (a b c:Int) (d:List Int):St:=stq 49 [(0,AV.brw 0 [] 1048576),(1,AV.val yq34 a),(2,AV.val yq34 b),(6,AV.val yq34 c)] [(0,Root.mk yq30 kq33 d false)]
theorem qr0 (D:DX)(n:Nat) (K:KT 188):∀ (m:Nat) (e f g h:Int) (i:List Int),LF D n 188 pq11 m (qfy e f g h i) K=qcd D n (fun a b c d=>K (Ex.exit 2) (qje a b c d)) m e f g h i:=eL5 (fun F=>qdd D n F (fun a b c d=>K (Ex.exit 2) (qje a b c d))) (fun _ _ _ _ _ =>q7 ..) (fun _ _ _ _ _ _ =>by kernel_rfl) (fun _ _ _ _ _ _ =>rfl)
theorem qqj (D:DX)(n:Nat) (m:Nat) (K:KT 188) (a b c d:Int) (e:List Int):LF D n 188 pq11 n (qfy a b c d e) (CF D n 188 [.r,.l,.l] pq16 (KF D n 188 pq12 m K))=qfs D n (fun x0 x1 x2 x3=>LF D n 188 pq12 m (qb3 x0 x1 x2 x3) K) (fun f=>K (Ex.exit 0) (qc7 f)) a b c d e :=by rw[qr0];kernel_rfl
theorem qrz (D:DX)(n:Nat) (m:Nat) (K:KT 188) (x0) (x1) (x2) (x3):LF D n 188 pq12 (m+1) (qb3 x0 x1 x2 x3) K=qcz D n (fun x0 x1 x2 x3=>LF D n 188 pq12 m (qb3 x0 x1 x2 x3) K) (fun a=>K (Ex.exit 0) (qc7 a)) (fun b c d e f=>LF D n 188 pq11 n (qfy b c d e f) (CF D n 188 [.r,.l,.l] pq16 (KF D n 188 pq12 m K))) x0 x1 x2 x3:=by kernel_rfl
theorem qjh (D:DX)(n:Nat) (K:KT 188):∀ (m:Nat) (x0 x1 x2:Int) (x3:List Int),LF D n 188 pq12 m (qb3 x0 x1 x2 x3) K=qbb D n (fun a=>K (Ex.exit 0) (qc7 a)) m x0 x1 x2 x3
 | 0,x0,x1,x2,x3=>q7 ..
 | m+1,x0,x1,x2,x3=>by
  have ih:(fun x0 x1 x2 x3=>LF D n 188 pq12 m (qb3 x0 x1 x2 x3) K)=qbb D n (fun a=>K (Ex.exit 0) (qc7 a)) m:=by funext x0 x1 x2 x3;exact qjh D n K m x0 x1 x2 x3
  rw[qrz]
  simp only[qqj]
  rw[ih];rfl
theorem qqn (D:DX)(n:Nat) (x0) (x1) (x2) (x3):LF D n 188 pq12 n (qb3 x0 x1 x2 x3) (CF D n 188 [] pq12 (lF 188))=qft D n x0 x1 x2 x3 :=by rw[qjh];kernel_rfl
theorem qtr (D:DX)(n:Nat) (a0:List Int) (a1 a2:Int):rF D n 188 (a0,(a1,(a2,())))=qgj D n a0 a1 a2:=by
 have h:rF D n 188 (a0,(a1,(a2,())))=qgi D n (fun x0 x1 x2 x3=>LF D n 188 pq12 n (qb3 x0 x1 x2 x3) (CF D n 188 [] pq12 (lF 188))) a0 a1 a2:=by kernel_rfl
 rw[h]
 simp only[qqn]
 rfl






def q9a (D:DX)(n:Nat) (a0 a1:Int):Option tq41:=qd (qw7 D a0) fun b↦br b.1.1 (qd (qw7 D a1) fun b↦some ((bif !b.1.1 then true else decide (a0<a1),()),())) (some ((bif false then true else decide (a0<a1),()),()))
def q0c (D:DX)(n:Nat) (a0 a1:Int):Option tq41:=q9a D n a0 a1
theorem qbmj (D:DX)(n:Nat) (a0 a1:Int):rF D n 194 (a0,(a1,()))=q0c D n a0 a1:=by kernel_rfl



def qbgl (D:DX)(n:Nat) (a0:Int):Option tq42:=let y0:=List.toArray ([UInt8.ofNat 0,UInt8.ofNat 1,UInt8.ofNat 2,UInt8.ofNat 2,UInt8.ofNat 3,UInt8.ofNat 3,UInt8.ofNat 3,UInt8.ofNat 3,UInt8.ofNat 4,UInt8.ofNat 4,UInt8.ofNat 4,UInt8.ofNat 4,UInt8.ofNat 4,UInt8.ofNat 4,UInt8.ofNat 4,UInt8.ofNat 4,UInt8.ofNat 5,UInt8.ofNat 5,UInt8.ofNat 5,UInt8.ofNat 5,UInt8.ofNat 5,UInt8.ofNat 5,UInt8.ofNat 5,UInt8.ofNat 5,UInt8.ofNat 5,UInt8.ofNat 5,UInt8.ofNat 5,UInt8.ofNat 5,UInt8.ofNat 5,UInt8.ofNat 5,UInt8.ofNat 5,UInt8.ofNat 5,UInt8.ofNat 6,UInt8.ofNat 6,UInt8.ofNat 6,UInt8.ofNat 6,UInt8.ofNat 6,UInt8.ofNat 6,UInt8.ofNat 6,UInt8.ofNat 6,UInt8.ofNat 6,UInt8.ofNat 6,UInt8.ofNat 6,UInt8.ofNat 6,UInt8.ofNat 6,UInt8.ofNat 6,UInt8.ofNat 6,UInt8.ofNat 6,UInt8.ofNat 6,UInt8.ofNat 6,UInt8.ofNat 6,UInt8.ofNat 6,UInt8.ofNat 6,UInt8.ofNat 6,UInt8.ofNat 6,UInt8.ofNat 6,UInt8.ofNat 6,UInt8.ofNat 6,UInt8.ofNat 6,UInt8.ofNat 6,UInt8.ofNat 6,UInt8.ofNat 6,UInt8.ofNat 6,UInt8.ofNat 6]++[UInt8.ofNat 7,UInt8.ofNat 7,UInt8.ofNat 7,UInt8.ofNat 7,UInt8.ofNat 7,UInt8.ofNat 7,UInt8.ofNat 7,UInt8.ofNat 7,UInt8.ofNat 7,UInt8.ofNat 7,UInt8.ofNat 7,UInt8.ofNat 7,UInt8.ofNat 7,UInt8.ofNat 7,UInt8.ofNat 7,UInt8.ofNat 7,UInt8.ofNat 7,UInt8.ofNat 7,UInt8.ofNat 7,UInt8.ofNat 7,UInt8.ofNat 7,UInt8.ofNat 7,UInt8.ofNat 7,UInt8.ofNat 7,UInt8.ofNat 7,UInt8.ofNat 7,UInt8.ofNat 7,UInt8.ofNat 7,UInt8.ofNat 7,UInt8.ofNat 7,UInt8.ofNat 7,UInt8.ofNat 7,UInt8.ofNat 7,UInt8.ofNat 7,UInt8.ofNat 7,UInt8.ofNat 7,UInt8.ofNat 7,UInt8.ofNat 7,UInt8.ofNat 7,UInt8.ofNat 7,UInt8.ofNat 7,UInt8.ofNat 7,UInt8.ofNat 7,UInt8.ofNat 7,UInt8.ofNat 7,UInt8.ofNat 7,UInt8.ofNat 7,UInt8.ofNat 7,UInt8.ofNat 7,UInt8.ofNat 7,UInt8.ofNat 7,UInt8.ofNat 7,UInt8.ofNat 7,UInt8.ofNat 7,UInt8.ofNat 7,UInt8.ofNat 7,UInt8.ofNat 7,UInt8.ofNat 7,UInt8.ofNat 7,UInt8.ofNat 7,UInt8.ofNat 7,UInt8.ofNat 7,UInt8.ofNat 7,UInt8.ofNat 7]++([UInt8.ofNat 8,UInt8.ofNat 8,UInt8.ofNat 8,UInt8.ofNat 8,UInt8.ofNat 8,UInt8.ofNat 8,UInt8.ofNat 8,UInt8.ofNat 8,UInt8.ofNat 8,UInt8.ofNat 8,UInt8.ofNat 8,UInt8.ofNat 8,UInt8.ofNat 8,UInt8.ofNat 8,UInt8.ofNat 8,UInt8.ofNat 8,UInt8.ofNat 8,UInt8.ofNat 8,UInt8.ofNat 8,UInt8.ofNat 8,UInt8.ofNat 8,UInt8.ofNat 8,UInt8.ofNat 8,UInt8.ofNat 8,UInt8.ofNat 8,UInt8.ofNat 8,UInt8.ofNat 8,UInt8.ofNat 8,UInt8.ofNat 8,UInt8.ofNat 8,UInt8.ofNat 8,UInt8.ofNat 8,UInt8.ofNat 8,UInt8.ofNat 8,UInt8.ofNat 8,UInt8.ofNat 8,UInt8.ofNat 8,UInt8.ofNat 8,UInt8.ofNat 8,UInt8.ofNat 8,UInt8.ofNat 8,UInt8.ofNat 8,UInt8.ofNat 8,UInt8.ofNat 8,UInt8.ofNat 8,UInt8.ofNat 8,UInt8.ofNat 8,UInt8.ofNat 8,UInt8.ofNat 8,UInt8.ofNat 8,UInt8.ofNat 8,UInt8.ofNat 8,UInt8.ofNat 8,UInt8.ofNat 8,UInt8.ofNat 8,UInt8.ofNat 8,UInt8.ofNat 8,UInt8.ofNat 8,UInt8.ofNat 8,UInt8.ofNat 8,UInt8.ofNat 8,UInt8.ofNat 8,UInt8.ofNat 8,UInt8.ofNat 8]++[UInt8.ofNat 8,UInt8.ofNat 8,UInt8.ofNat 8,UInt8.ofNat 8,UInt8.ofNat 8,UInt8.ofNat 8,UInt8.ofNat 8,UInt8.ofNat 8,UInt8.ofNat 8,UInt8.ofNat 8,UInt8.ofNat 8,UInt8.ofNat 8,UInt8.ofNat 8,UInt8.ofNat 8,UInt8.ofNat 8,UInt8.ofNat 8,UInt8.ofNat 8,UInt8.ofNat 8,UInt8.ofNat 8,UInt8.ofNat 8,UInt8.ofNat 8,UInt8.ofNat 8,UInt8.ofNat 8,UInt8.ofNat 8,UInt8.ofNat 8,UInt8.ofNat 8,UInt8.ofNat 8,UInt8.ofNat 8,UInt8.ofNat 8,UInt8.ofNat 8,UInt8.ofNat 8,UInt8.ofNat 8,UInt8.ofNat 8,UInt8.ofNat 8,UInt8.ofNat 8,UInt8.ofNat 8,UInt8.ofNat 8,UInt8.ofNat 8,UInt8.ofNat 8,UInt8.ofNat 8,UInt8.ofNat 8,UInt8.ofNat 8,UInt8.ofNat 8,UInt8.ofNat 8,UInt8.ofNat 8,UInt8.ofNat 8,UInt8.ofNat 8,UInt8.ofNat 8,UInt8.ofNat 8,UInt8.ofNat 8,UInt8.ofNat 8,UInt8.ofNat 8,UInt8.ofNat 8,UInt8.ofNat 8,UInt8.ofNat 8,UInt8.ofNat 8,UInt8.ofNat 8,UInt8.ofNat 8,UInt8.ofNat 8,UInt8.ofNat 8,UInt8.ofNat 8,UInt8.ofNat 8,UInt8.ofNat 8,UInt8.ofNat 8]));let y1:=Int.pow 2 (if Int.toNat 32≤IntKind.bits .u64 then Int.toNat 32 else IntKind.bits .u64);let y2:=Int.pow 2 (if Int.toNat 16≤IntKind.bits .u64 then Int.toNat 16 else IntKind.bits .u64);let y3:=Int.pow 2 (if Int.toNat 8≤IntKind.bits .u64 then Int.toNat 8 else IntKind.bits .u64);let y4:=Int.fdiv a0 y1;let y5:=ByteArray.mk y0;let y6:=Int.fdiv y4 y2;let y7:=Int.fdiv a0 y2;br (decide (a0≥4294967296)) (br (decide (y4≥65536)) (br (decide (y6≥256)) (br (decide (0≤wrap .u8 (Int.fdiv y6 y3))&&decide (wrap .u8 (Int.fdiv y6 y3)<(↑(ByteArray.size y5):Int))) (some ((wrap .i64 (wrap .i64 (wrap .i64 (32+16)+8)+wrap .i64 (↑(UInt8.toNat (Array.getD y0 (Int.toNat (wrap .u8 (Int.fdiv y6 y3))) (UInt8.ofNat 0))):Int)),()),())) none) (br (decide (0≤wrap .u8 y6)&&decide (wrap .u8 y6<(↑(ByteArray.size y5):Int))) (some ((wrap .i64 (wrap .i64 (32+16)+wrap .i64 (↑(UInt8.toNat (Array.getD y0 (Int.toNat (wrap .u8 y6)) (UInt8.ofNat 0))):Int)),()),())) none)) (br (decide (y4≥256)) (br (decide (0≤wrap .u8 (Int.fdiv y4 y3))&&decide (wrap .u8 (Int.fdiv y4 y3)<(↑(ByteArray.size y5):Int))) (some ((wrap .i64 (wrap .i64 (32+8)+wrap .i64 (↑(UInt8.toNat (Array.getD y0 (Int.toNat (wrap .u8 (Int.fdiv y4 y3))) (UInt8.ofNat 0))):Int)),()),())) none) (br (decide (0≤wrap .u8 y4)&&decide (wrap .u8 y4<(↑(ByteArray.size y5):Int))) (some ((wrap .i64 (32+wrap .i64 (↑(UInt8.toNat (Array.getD y0 (Int.toNat (wrap .u8 y4)) (UInt8.ofNat 0))):Int)),()),())) none))) (br (decide (a0≥65536)) (br (decide (y7≥256)) (br (decide (0≤wrap .u8 (Int.fdiv y7 y3))&&decide (wrap .u8 (Int.fdiv y7 y3)<(↑(ByteArray.size y5):Int))) (some ((wrap .i64 (wrap .i64 (wrap .i64 (0+16)+8)+wrap .i64 (↑(UInt8.toNat (Array.getD y0 (Int.toNat (wrap .u8 (Int.fdiv y7 y3))) (UInt8.ofNat 0))):Int)),()),())) none) (br (decide (0≤wrap .u8 y7)&&decide (wrap .u8 y7<(↑(ByteArray.size y5):Int))) (some ((wrap .i64 (wrap .i64 (0+16)+wrap .i64 (↑(UInt8.toNat (Array.getD y0 (Int.toNat (wrap .u8 y7)) (UInt8.ofNat 0))):Int)),()),())) none)) (br (decide (a0≥256)) (br (decide (0≤wrap .u8 (Int.fdiv a0 y3))&&decide (wrap .u8 (Int.fdiv a0 y3)<(↑(ByteArray.size y5):Int))) (some ((wrap .i64 (wrap .i64 (0+8)+wrap .i64 (↑(UInt8.toNat (Array.getD y0 (Int.toNat (wrap .u8 (Int.fdiv a0 y3))) (UInt8.ofNat 0))):Int)),()),())) none) (br (decide (0≤wrap .u8 a0)&&decide (wrap .u8 a0<(↑(ByteArray.size y5):Int))) (some ((wrap .i64 (0+wrap .i64 (↑(UInt8.toNat (Array.getD y0 (Int.toNat (wrap .u8 a0)) (UInt8.ofNat 0))):Int)),()),())) none)))
def qbu (D:DX)(n:Nat) (a0:Int):Option tq42:=qbgl D n a0
theorem qbfh (D:DX)(n:Nat) (a0:Int):rF D n 198 (a0,())=qbu D n a0:=by kernel_rfl

def qcv (D:DX)(n:Nat) (a3:Clo) (go:Int→Int→Int→Int→List tq37→Option tq29) (K0:Int→Int→Int→List tq37→Option tq29) (d e f a:Int) (c:List tq37):Option tq29:=let y0:=List.getD c (Int.toNat (wrap .i64 (a - 1))) (0,0,0,());br (decide (a>d)) (br (decide (0≤a)&&decide (a<(c.length:Int))) (br (decide (0≤wrap .i64 (a - 1))&&decide (wrap .i64 (a - 1)<(c.length:Int))) (qd (qbk ctx D a3 [CapV.val yq21 (List.getD c a.toNat (0,0,0,())),CapV.val yq21 y0] yq34) fun b↦br (decide (b<0)) (br (decide (0≤wrap .i64 (a - 1))&&decide (wrap .i64 (a - 1)<(c.length:Int))) (br (decide (0≤a)&&decide (a<(c.length:Int))) (br (decide (0≤a)&&decide (a<(c.length:Int))) (br (decide (0≤wrap .i64 (a - 1))&&decide (wrap .i64 (a - 1)<((List.set c a.toNat y0).length:Int))) (go d e f (wrap .i64 (a - 1)) (List.set (List.set c a.toNat y0) (Int.toNat (wrap .i64 (a - 1))) (List.getD c a.toNat (0,0,0,())))) none) none) none) none) (K0 d e f c)) none) none) (K0 d e f c)
def qbv (D:DX)(n:Nat) (a3:Clo) (K0:Int→Int→Int→List tq37→Option tq29):Nat→Int→Int→Int→Int→(List tq37)→Option tq29 | 0=>(fun a b c d e=>none) | m+1=>(fun a b c d e=>qcv D n a3 (qbv D n a3 K0 m) K0 a b c d e)
def qdc (D:DX)(n:Nat) (a3:Clo) (go:Int→Int→Int→List tq37→Option tq29) (K0:List tq37→Option tq29) (a b c:Int) (d:List tq37):Option tq29:=go a b (wrap .i64 (c+1)) d
def qdh (D:DX)(n:Nat) (a3:Clo) (go:Int→Int→Int→List tq37→Option tq29) (K0:List tq37→Option tq29):(Int)→(Int)→(Int)→(Int)→(List tq37)→Option tq29:=(fun a f g h i=>qbv D n a3 (fun b c d e=>qdc D n a3 go K0 b c d e) n a f g h i)
def qb9 (D:DX)(n:Nat) (a3:Clo) (go:Int→Int→Int→List tq37→Option tq29) (K0:List tq37→Option tq29) (lp1:Int→Int→Int→Int→List tq37→Option tq29) (x0 x1 x2:Int) (x3:List tq37):Option tq29:=br (decide (x2<x1)) (lp1 x0 x1 x2 x2 x3) (K0 x3)
def qz (D:DX)(n:Nat) (a3:Clo) (K0:List tq37→Option tq29):Nat→Int→Int→Int→(List tq37)→Option tq29 | 0=>(fun x0 x1 x2 x3=>none) | m+1=>(fun x0 x1 x2 x3=>qb9 D n a3 (qz D n a3 K0 m) K0 (qdh D n a3 (qz D n a3 K0 m) K0) x0 x1 x2 x3)
def qgm (D:DX)(n:Nat) (a3:Clo) (a:List tq37):Option tq29:=some ((),a,())
def qdk (D:DX)(n:Nat) (a3:Clo):(Int)→(Int)→(Int)→(List tq37)→Option tq29:=(fun x0 x1 x2 x3=>qz D n a3 (fun a=>qgm D n a3 a) n x0 x1 x2 x3)
def qec (D:DX)(n:Nat) (a3:Clo) (lp0:Int→Int→Int→List tq37→Option tq29) (a0:List tq37) (a1 a2:Int):Option tq29:=lp0 a1 a2 (wrap .i64 (a1+1)) a0
def qed (D:DX)(n:Nat) (a0:List tq37) (a1 a2:Int) (a3:Clo):Option tq29:=qec D n a3 (qdk D n a3) a0 a1 a2
def qbl (a3:Clo) (x0 x1 x2:Int) (x3:List tq37):St:=stq 53 [(0,AV.brw 0 [] 1048576),(1,AV.val yq34 x0),(2,AV.val yq34 x1),(3,AV.cloV a3),(8,AV.val yq34 x2)] [(0,Root.mk yq19 kq33 x3 false)]
def qcn (a3:Clo) (a:List tq37):St:=stq 53 [(0,AV.brw 0 [] 1048576)] [(0,Root.mk yq19 kq33 a false)]
def qd3 (a3:Clo) (a b c d:Int) (e:List tq37):St:=stq 53 [(0,AV.brw 0 [] 1048576),(1,AV.val yq34 a),(2,AV.val yq34 b),(3,AV.cloV a3),(8,AV.val yq34 c),(9,AV.val yq34 d)] [(0,Root.mk yq19 kq33 e false)]
def qgn (a3:Clo) (a b c:Int) (d:List tq37):St:=stq 53 [(0,AV.brw 0 [] 1048576),(1,AV.val yq34 a),(2,AV.val yq34 b),(3,AV.cloV a3),(8,AV.val yq34 c)] [(0,Root.mk yq19 kq33 d false)]
theorem qme (D:DX)(n:Nat) (a3:Clo) (K:KT 199):∀ (m:Nat) (e f g h:Int) (i:List tq37),LF D n 199 pq11 m (qd3 a3 e f g h i) K=qbv D n a3 (fun a b c d=>K (Ex.exit 2) (qgn a3 a b c d)) m e f g h i:=eL5 (fun F=>qcv D n a3 F (fun a b c d=>K (Ex.exit 2) (qgn a3 a b c d))) (fun _ _ _ _ _ =>q7 ..) (fun _ _ _ _ _ _ =>by kernel_rfl) (fun _ _ _ _ _ _ =>rfl)
theorem ql3 (D:DX)(n:Nat) (a3:Clo) (m:Nat) (K:KT 199) (a b c d:Int) (e:List tq37):LF D n 199 pq11 n (qd3 a3 a b c d e) (CF D n 199 [.r,.l,.l] pq16 (KF D n 199 pq12 m K))=qdh D n a3 (fun x0 x1 x2 x3=>LF D n 199 pq12 m (qbl a3 x0 x1 x2 x3) K) (fun f=>K (Ex.exit 0) (qcn a3 f)) a b c d e :=by rw[qme];kernel_rfl
theorem qm0 (D:DX)(n:Nat) (a3:Clo) (m:Nat) (K:KT 199) (x0) (x1) (x2) (x3):LF D n 199 pq12 (m+1) (qbl a3 x0 x1 x2 x3) K=qb9 D n a3 (fun x0 x1 x2 x3=>LF D n 199 pq12 m (qbl a3 x0 x1 x2 x3) K) (fun a=>K (Ex.exit 0) (qcn a3 a)) (fun b c d e f=>LF D n 199 pq11 n (qd3 a3 b c d e f) (CF D n 199 [.r,.l,.l] pq16 (KF D n 199 pq12 m K))) x0 x1 x2 x3:=by kernel_rfl
theorem qgu (D:DX)(n:Nat) (a3:Clo) (K:KT 199):∀ (m:Nat) (x0 x1 x2:Int) (x3:List tq37),LF D n 199 pq12 m (qbl a3 x0 x1 x2 x3) K=qz D n a3 (fun a=>K (Ex.exit 0) (qcn a3 a)) m x0 x1 x2 x3
 | 0,x0,x1,x2,x3=>q7 ..
 | m+1,x0,x1,x2,x3=>by
  have ih:(fun x0 x1 x2 x3=>LF D n 199 pq12 m (qbl a3 x0 x1 x2 x3) K)=qz D n a3 (fun a=>K (Ex.exit 0) (qcn a3 a)) m:=by funext x0 x1 x2 x3;exact qgu D n a3 K m x0 x1 x2 x3
  rw[qm0]
  simp only[ql3]
  rw[ih];rfl
theorem ql4 (D:DX)(n:Nat) (a3:Clo) (x0) (x1) (x2) (x3):LF D n 199 pq12 n (qbl a3 x0 x1 x2 x3) (CF D n 199 [] pq12 (lF 199))=qdk D n a3 x0 x1 x2 x3 :=by rw[qgu];kernel_rfl
theorem qn2 (D:DX)(n:Nat) (a0:List tq37) (a1 a2:Int) (a3:Clo):rF D n 199 (a0,(a1,(a2,(a3,()))))=qed D n a0 a1 a2 a3:=by
 have h:rF D n 199 (a0,(a1,(a2,(a3,()))))=qec D n a3 (fun x0 x1 x2 x3=>LF D n 199 pq12 n (qbl a3 x0 x1 x2 x3) (CF D n 199 [] pq12 (lF 199))) a0 a1 a2:=by kernel_rfl
 rw[h]
 simp only[ql4]
 rfl













def q7c (D:DX)(n:Nat) (a0:Int):Option tq41:=some ((a0 != a0,()),())
def qxs (D:DX)(n:Nat) (a0:Int):Option tq41:=q7c D n a0
theorem qbjt (D:DX)(n:Nat) (a0:Int):rF D n 212 (a0,())=qxs D n a0:=by kernel_rfl





end
end Go.G

namespace Go.G
set_option maxRecDepth 100000
open Go Go.V Go.Proofs
def XOk (X:Ext):Prop:=∀ k:Nat,(Nat.beq k 128)=false→X.is k=false
theorem qbsb:XOk qbk0:=fun _ _=>rfl
section
variable {X:Ext}(hX:XOk X)(n:Nat)
include hX
theorem sQ {g:FuncId}{fn:Func}{a:PDen (ctx.sig g).params}{r:Option (Out ctx g)}(hf:Tryz.prog.funcs[g]?=some fn)(ht:qk1 g=some fn)(hg:Nat.beq g 128=false)(e:rF (DD X n) n g a=r):DD X (n+1) g a=r:=(qb1p X hf ht (hX g hg) n a).trans e
theorem qbbt (a0):qv3 (DD X (n+1)) a0=qn9 (DD X n) n a0:=sQ hX n Tryz.func7 (by kernel_rfl) rfl (qbau ..)
theorem qbxe (a0):qbbe (DD X (n+1)) a0=qblh (DD X n) n a0:=sQ hX n Tryz.func12 (by kernel_rfl) rfl (qbwb ..)
theorem qbcn (a0):qpl (DD X (n+1)) a0=qpi (DD X n) n a0:=sQ hX n Tryz.func13 (by kernel_rfl) rfl (qbcp ..)
theorem qbfj (a0 a1):qss (DD X (n+1)) a0 a1=qtb (DD X n) n a0 a1:=sQ hX n Tryz.func14 (by kernel_rfl) rfl (qbfp ..)
theorem qbf2 (a0 a1):qs6 (DD X (n+1)) a0 a1=qsi (DD X n) n a0 a1:=sQ hX n Tryz.func15 (by kernel_rfl) rfl (qbgn ..)
theorem qbuo (a0 a1):q8n (DD X (n+1)) a0 a1=q8i (DD X n) n a0 a1:=sQ hX n Tryz.func16 (by kernel_rfl) rfl (qbum ..)
theorem q3r (a0):q32 (DD X (n+1)) a0=ql7 (DD X n) n a0:=sQ hX n Tryz.func17 (by kernel_rfl) rfl (qbfo ..)
theorem qbdz (a0 a1):q4y (DD X (n+1)) a0 a1=qwn (DD X n) n a0 a1:=sQ hX n Tryz.func29 (by kernel_rfl) rfl (qbq6 ..)
theorem qbfq (a0):qta (DD X (n+1)) a0=qsy (DD X n) n a0:=sQ hX n Tryz.func30 (by kernel_rfl) rfl (qbff ..)
theorem qbtj (a0):qek (DD X (n+1)) a0=q59 (DD X n) n a0:=sQ hX n Tryz.func35 (by kernel_rfl) rfl (qbsa ..)
theorem qbh8 (a0):qfm (DD X (n+1)) a0=qus (DD X n) n a0:=sQ hX n Tryz.func40 (by kernel_rfl) rfl (qbhr ..)
theorem qbtz (a0):q6i (DD X (n+1)) a0=q5w (DD X n) n a0:=sQ hX n Tryz.func44 (by kernel_rfl) rfl (qbrh ..)
theorem qbeq (a0):qqc (DD X (n+1)) a0=qq5 (DD X n) n a0:=sQ hX n Tryz.func45 (by kernel_rfl) rfl (qbdx ..)
theorem qbhw (a0):quf (DD X (n+1)) a0=qu5 (DD X n) n a0:=sQ hX n Tryz.func46 (by kernel_rfl) rfl (qbh4 ..)
theorem qbn1 (a0 a1):qce (DD X (n+1)) a0 a1=qzo (DD X n) n a0 a1:=sQ hX n Tryz.func47 (by kernel_rfl) rfl (qblp ..)
theorem qbpq (a0 a1 a2):q14 (DD X (n+1)) a0 a1 a2=q2z (DD X n) n a0 a1 a2:=sQ hX n Tryz.func48 (by kernel_rfl) rfl (qbpy ..)
theorem qbps (a0 a1):q2u (DD X (n+1)) a0 a1=q23 (DD X n) n a0 a1:=sQ hX n Tryz.func49 (by kernel_rfl) rfl (qbql ..)
theorem qbjk (a0):qpx (DD X (n+1)) a0=qxh (DD X n) n a0:=sQ hX n Tryz.func50 (by kernel_rfl) rfl (qbjd ..)
theorem qbhy (a0):q55 (DD X (n+1)) a0=qu4 (DD X n) n a0:=sQ hX n Tryz.func51 (by kernel_rfl) rfl (qbif ..)
theorem qbpt (a0 a1):q2d (DD X (n+1)) a0 a1=q27 (DD X n) n a0 a1:=sQ hX n Tryz.func52 (by kernel_rfl) rfl (qbqc ..)
theorem qbp8 (a0):q2w (DD X (n+1)) a0=q12 (DD X n) n a0:=sQ hX n Tryz.func53 (by kernel_rfl) rfl (qbqi ..)
theorem qbho (a0):q5u (DD X (n+1)) a0=que (DD X n) n a0:=sQ hX n Tryz.func54 (by kernel_rfl) rfl (qbiw ..)
theorem qbig (a0):qvc (DD X (n+1)) a0=quq (DD X n) n a0:=sQ hX n Tryz.func55 (by kernel_rfl) rfl (qbh7 ..)
theorem qbej (a0):qjd (DD X (n+1)) a0=qq2 (DD X n) n a0:=sQ hX n Tryz.func56 (by kernel_rfl) rfl (qbdo ..)
theorem qbgs (a0 a1):qtv (DD X (n+1)) a0 a1=q0w (DD X n) n a0 a1:=sQ hX n Tryz.func57 (by kernel_rfl) rfl (qbt9 ..)
theorem qbut (a0 a1 a2):qbp (DD X (n+1)) a0 a1 a2=qbg7 (DD X n) n a0 a1 a2:=sQ hX n Tryz.func58 (by kernel_rfl) rfl (qbun ..)
theorem qbr6 (a0):qkh (DD X (n+1)) a0=q6e (DD X n) n a0:=sQ hX n Tryz.func63 (by kernel_rfl) rfl (qbsh ..)
theorem qm3 (a0 a1):qdv (DD X (n+1)) a0 a1=qd0 (DD X n) n a0 a1:=sQ hX n Tryz.func64 (by kernel_rfl) rfl (qm5 ..)
theorem qbp3 (a0):qt7 (DD X (n+1)) a0=q1y (DD X n) n a0:=sQ hX n Tryz.func66 (by kernel_rfl) rfl (qbpe ..)
theorem qblr (a0):qrv (DD X (n+1)) a0=qyf (DD X n) n a0:=sQ hX n Tryz.func68 (by kernel_rfl) rfl (qbll ..)
theorem qtz (a0):qge (DD X (n+1)) a0=qiq (DD X n) n a0:=sQ hX n Tryz.func69 (by kernel_rfl) rfl (q8f ..)
theorem qbl0:qco (DD X (n+1))=q80 (DD X n) n:=sQ hX n Tryz.func70 (by kernel_rfl) rfl (qbl2 ..)
theorem qbly (a0):qdj (DD X (n+1)) a0=qzl (DD X n) n a0:=sQ hX n Tryz.func73 (by kernel_rfl) rfl (qbnk ..)
theorem q8o (a0 a1):qlx (DD X (n+1)) a0 a1=qlt (DD X n) n a0 a1:=sQ hX n Tryz.func74 (by kernel_rfl) rfl (q8b ..)
theorem qbpg (a0 a1):qk5 (DD X (n+1)) a0 a1=qbby (DD X n) n a0 a1:=sQ hX n Tryz.func75 (by kernel_rfl) rfl (qbpi ..)
theorem qbs5 (a0):qhr (DD X (n+1)) a0=q5g (DD X n) n a0:=sQ hX n Tryz.func76 (by kernel_rfl) rfl (qbs0 ..)
theorem qblz (a0):qc2 (DD X (n+1)) a0=qz8 (DD X n) n a0:=sQ hX n Tryz.func77 (by kernel_rfl) rfl (qbmz ..)
theorem qbda (a0 a1 a2):qlj (DD X (n+1)) a0 a1 a2=qri (DD X n) n a0 a1 a2:=sQ hX n Tryz.func79 (by kernel_rfl) rfl (qbdf ..)
theorem qbuz (a0):qlw (DD X (n+1)) a0=q8p (DD X n) n a0:=sQ hX n Tryz.func80 (by kernel_rfl) rfl (qbud ..)
theorem qbi9 (a0 a1):qxa (DD X (n+1)) a0 a1=qxe (DD X n) n a0 a1:=sQ hX n Tryz.func81 (by kernel_rfl) rfl (qbkb ..)
theorem qbm9 (a0 a1):q0h (DD X (n+1)) a0 a1=qy4 (DD X n) n a0 a1:=sQ hX n Tryz.func82 (by kernel_rfl) rfl (qblu ..)
theorem qblx (a0):qzt (DD X (n+1)) a0=qyi (DD X n) n a0:=sQ hX n Tryz.func83 (by kernel_rfl) rfl (qbng ..)
theorem qbmp (a0):qih (DD X (n+1)) a0=qzz (DD X n) n a0:=sQ hX n Tryz.func85 (by kernel_rfl) rfl (qbml ..)
theorem qbna:qy1 (DD X (n+1))=qbah (DD X n) n:=sQ hX n Tryz.func90 (by kernel_rfl) rfl (qbmf ..)
theorem qbsz (a0 a1):qw0 (DD X (n+1)) a0 a1=q43 (DD X n) n a0 a1:=sQ hX n Tryz.func91 (by kernel_rfl) rfl (qbsd ..)
theorem qbh3 (a0 a1):qnv (DD X (n+1)) a0 a1=qvb (DD X n) n a0 a1:=sQ hX n Tryz.func92 (by kernel_rfl) rfl (qbi1 ..)
theorem qbea (a0):qqg (DD X (n+1)) a0=qq6 (DD X n) n a0:=sQ hX n Tryz.func93 (by kernel_rfl) rfl (qbc1 ..)
theorem qbp7 (a0):qjk (DD X (n+1)) a0=q2b (DD X n) n a0:=sQ hX n Tryz.func94 (by kernel_rfl) rfl (qbp5 ..)
theorem qxl (a0):qe3 (DD X (n+1)) a0=qhm (DD X n) n a0:=sQ hX n Tryz.func95 (by kernel_rfl) rfl (qwe ..)
theorem qbmm (a0):qys (DD X (n+1)) a0=qyj (DD X n) n a0:=sQ hX n Tryz.func96 (by kernel_rfl) rfl (qbnx ..)
theorem qbuy (a0 a1 a2):qbo (DD X (n+1)) a0 a1 a2=qbhb (DD X n) n a0 a1 a2:=sQ hX n Tryz.func97 (by kernel_rfl) rfl (qbup ..)
theorem qbse (a0):qqa (DD X (n+1)) a0=q5v (DD X n) n a0:=sQ hX n Tryz.func98 (by kernel_rfl) rfl (qbtf ..)
theorem qbqa (a0):qt4 (DD X (n+1)) a0=q16 (DD X n) n a0:=sQ hX n Tryz.func99 (by kernel_rfl) rfl (qbpf ..)
theorem qbl6 (a0):q0d (DD X (n+1)) a0=qzn (DD X n) n a0:=sQ hX n Tryz.func100 (by kernel_rfl) rfl (qbmh ..)
theorem qbk9 (a0 a1):qwt (DD X (n+1)) a0 a1=qwh (DD X n) n a0 a1:=sQ hX n Tryz.func101 (by kernel_rfl) rfl (qbju ..)
theorem qbjg (a0 a1):qwy (DD X (n+1)) a0 a1=qwd (DD X n) n a0 a1:=sQ hX n Tryz.func102 (by kernel_rfl) rfl (qblf ..)
theorem qbnj (a0):qkd (DD X (n+1)) a0=qzk (DD X n) n a0:=sQ hX n Tryz.func103 (by kernel_rfl) rfl (qbm6 ..)
theorem qbfu (a0):qht (DD X (n+1)) a0=qsn (DD X n) n a0:=sQ hX n Tryz.func104 (by kernel_rfl) rfl (qbf6 ..)
theorem q9h (a0 a1):qmz (DD X (n+1)) a0 a1=qmu (DD X n) n a0 a1:=sQ hX n Tryz.func105 (by kernel_rfl) rfl (q86 ..)
theorem qbcs (a0 a1):qph (DD X (n+1)) a0 a1=qpj (DD X n) n a0 a1:=sQ hX n Tryz.func106 (by kernel_rfl) rfl (qbch ..)
theorem qbms (a0 a1):qzw (DD X (n+1)) a0 a1=qy7 (DD X n) n a0 a1:=sQ hX n Tryz.func107 (by kernel_rfl) rfl (qbnp ..)
theorem qm8 (a0 a1):qdt (DD X (n+1)) a0 a1=qds (DD X n) n a0 a1:=sQ hX n Tryz.func109 (by kernel_rfl) rfl (qm4 ..)
theorem qbnm (a0):qbaa (DD X (n+1)) a0=q0p (DD X n) n a0:=sQ hX n Tryz.func110 (by kernel_rfl) rfl (qbme ..)
theorem qbpu (a0):q26 (DD X (n+1)) a0=q2g (DD X n) n a0:=sQ hX n Tryz.func111 (by kernel_rfl) rfl (qbpm ..)
theorem qbqb (a0 a1):q1s (DD X (n+1)) a0 a1=q2i (DD X n) n a0 a1:=sQ hX n Tryz.func112 (by kernel_rfl) rfl (qbpw ..)
theorem qo8 (a0 a1):qia (DD X (n+1)) a0 a1=qew (DD X n) n a0 a1:=sQ hX n Tryz.func113 (by kernel_rfl) rfl (qpr ..)
theorem q4f (a0 a1):qg0 (DD X (n+1)) a0 a1=qjx (DD X n) n a0 a1:=sQ hX n Tryz.func114 (by kernel_rfl) rfl (q4h ..)
theorem qbnl (a0):qdi (DD X (n+1)) a0=qz0 (DD X n) n a0:=sQ hX n Tryz.func115 (by kernel_rfl) rfl (qbn0 ..)
theorem qbtc (a0):qqm (DD X (n+1)) a0=q45 (DD X n) n a0:=sQ hX n Tryz.func118 (by kernel_rfl) rfl (qbrf ..)
theorem qbm5 (a0):qro (DD X (n+1)) a0=qy8 (DD X n) n a0:=sQ hX n Tryz.func119 (by kernel_rfl) rfl (qbm8 ..)
theorem qp2 (a0 a1):qe7 (DD X (n+1)) a0 a1=qe9 (DD X n) n a0 a1:=sQ hX n Tryz.func120 (by kernel_rfl) rfl (qp5 ..)
theorem qbgp (a0):q3z (DD X (n+1)) a0=qsa (DD X n) n a0:=sQ hX n Tryz.func121 (by kernel_rfl) rfl (qbfk ..)
theorem qnd (a0 a1):qcx (DD X (n+1)) a0 a1=qd2 (DD X n) n a0 a1:=sQ hX n Tryz.func122 (by kernel_rfl) rfl (qm7 ..)
theorem qbf9 (a0):q30 (DD X (n+1)) a0=qsr (DD X n) n a0:=sQ hX n Tryz.func123 (by kernel_rfl) rfl (qbfw ..)
theorem qbno (a0):qrn (DD X (n+1)) a0=qyl (DD X n) n a0:=sQ hX n Tryz.func124 (by kernel_rfl) rfl (qbl1 ..)
theorem qbh6 (a0):qik (DD X (n+1)) a0=qul (DD X n) n a0:=sQ hX n Tryz.func125 (by kernel_rfl) rfl (qbhl ..)
theorem qm6 (a0 a1):qcw (DD X (n+1)) a0 a1=qd1 (DD X n) n a0 a1:=sQ hX n Tryz.func126 (by kernel_rfl) rfl (qna ..)
theorem qbfg (a0 a1):q3v (DD X (n+1)) a0 a1=qsx (DD X n) n a0 a1:=sQ hX n Tryz.func127 (by kernel_rfl) rfl (qbgi ..)
theorem qbt2 (a0):qxv (DD X (n+1)) a0=q5a (DD X n) n a0:=sQ hX n Tryz.func132 (by kernel_rfl) rfl (qbso ..)
theorem qbs3 (a0):qhi (DD X (n+1)) a0=qbcw (DD X n) n a0:=sQ hX n Tryz.func133 (by kernel_rfl) rfl (qbtr ..)
theorem qbtt (a0):q42 (DD X (n+1)) a0=q6g (DD X n) n a0:=sQ hX n Tryz.func134 (by kernel_rfl) rfl (qbrv ..)
theorem qbl3 (a0):q0j (DD X (n+1)) a0=q0o (DD X n) n a0:=sQ hX n Tryz.func135 (by kernel_rfl) rfl (qbnt ..)
theorem qbs4 (a0):q60 (DD X (n+1)) a0=q50 (DD X n) n a0:=sQ hX n Tryz.func136 (by kernel_rfl) rfl (qbtn ..)
theorem qbnb (a0 a1):qzx (DD X (n+1)) a0 a1=qza (DD X n) n a0 a1:=sQ hX n Tryz.func137 (by kernel_rfl) rfl (qbm3 ..)
theorem qbnw (a0):qz3 (DD X (n+1)) a0=qy6 (DD X n) n a0:=sQ hX n Tryz.func138 (by kernel_rfl) rfl (qbmk ..)
theorem qbmr:qry (DD X (n+1))=q9v (DD X n) n:=sQ hX n Tryz.func139 (by kernel_rfl) rfl (qbny ..)
theorem qbp4 (a0):q2h (DD X (n+1)) a0=q10 (DD X n) n a0:=sQ hX n Tryz.func140 (by kernel_rfl) rfl (qbqk ..)
theorem qbpr (a0 a1):qbb7 (DD X (n+1)) a0 a1=q1u (DD X n) n a0 a1:=sQ hX n Tryz.func141 (by kernel_rfl) rfl (qbp6 ..)
theorem qbro (a0):qjf (DD X (n+1)) a0=q6z (DD X n) n a0:=sQ hX n Tryz.func143 (by kernel_rfl) rfl (qbq1 ..)
theorem qbq2 (a0):qqp (DD X (n+1)) a0=qbd1 (DD X n) n a0:=sQ hX n Tryz.func145 (by kernel_rfl) rfl (qbtw ..)
theorem qbt5 (a0):q0u (DD X (n+1)) a0=q8g (DD X n) n a0:=sQ hX n Tryz.func146 (by kernel_rfl) rfl (qbuh ..)
theorem qbp2 (a0 a1):q1z (DD X (n+1)) a0 a1=q17 (DD X n) n a0 a1:=sQ hX n Tryz.func147 (by kernel_rfl) rfl (qbqd ..)
theorem qsv (a0):qf1 (DD X (n+1)) a0=qf0 (DD X n) n a0:=sQ hX n Tryz.func148 (by kernel_rfl) rfl (qsj ..)
theorem qrm (a0):qc6 (DD X (n+1)) a0=qfj (DD X n) n a0:=sQ hX n Tryz.func149 (by kernel_rfl) rfl (qql ..)
theorem qsw (a0):qf8 (DD X (n+1)) a0=qf7 (DD X n) n a0:=sQ hX n Tryz.func150 (by kernel_rfl) rfl (qsm ..)
theorem qso (a0):qf9 (DD X (n+1)) a0=qfz (DD X n) n a0:=sQ hX n Tryz.func151 (by kernel_rfl) rfl (qsk ..)
theorem qbxd (a0):qbbg (DD X (n+1)) a0=qbaz (DD X n) n a0:=sQ hX n Tryz.func152 (by kernel_rfl) rfl (qbwp ..)
theorem qbpk (a0 a1):q13 (DD X (n+1)) a0 a1=q2a (DD X n) n a0 a1:=sQ hX n Tryz.func153 (by kernel_rfl) rfl (qbpn ..)
theorem qbux (a0 a1):qow (DD X (n+1)) a0 a1=q8t (DD X n) n a0 a1:=sQ hX n Tryz.func154 (by kernel_rfl) rfl (qbug ..)
theorem qbue (a0 a1):qts (DD X (n+1)) a0 a1=q8h (DD X n) n a0 a1:=sQ hX n Tryz.func155 (by kernel_rfl) rfl (qbu0 ..)
theorem qbw6 (a0):qbak (DD X (n+1)) a0=qbbp (DD X n) n a0:=sQ hX n Tryz.func156 (by kernel_rfl) rfl (qbwf ..)
theorem qbdi (a0 a1 a2):qi6 (DD X (n+1)) a0 a1 a2=qqt (DD X n) n a0 a1 a2:=sQ hX n Tryz.func157 (by kernel_rfl) rfl (qber ..)
theorem qbgk (a0 a1 a2):qjp (DD X (n+1)) a0 a1 a2=qs3 (DD X n) n a0 a1 a2:=sQ hX n Tryz.func158 (by kernel_rfl) rfl (qbf5 ..)
theorem qbus (a0 a1):q8d (DD X (n+1)) a0 a1=q8e (DD X n) n a0 a1:=sQ hX n Tryz.func159 (by kernel_rfl) rfl (qbt8 ..)
theorem qbpl (a0 a1):qt6 (DD X (n+1)) a0 a1=q29 (DD X n) n a0 a1:=sQ hX n Tryz.func160 (by kernel_rfl) rfl (qbqh ..)
theorem qbr8 (a0 a1 a2 a3):qwx (DD X (n+1)) a0 a1 a2 a3=q5o (DD X n) n a0 a1 a2 a3:=sQ hX n Tryz.func161 (by kernel_rfl) rfl (qbrx ..)
theorem qpc (a0 a1):qh5 (DD X (n+1)) a0 a1=qev (DD X n) n a0 a1:=sQ hX n Tryz.func162 (by kernel_rfl) rfl (qpf ..)
theorem qtc (a0 a1):qjw (DD X (n+1)) a0 a1=qf3 (DD X n) n a0 a1:=sQ hX n Tryz.func163 (by kernel_rfl) rfl (qs9 ..)
theorem qo3 (a0 a1):qh6 (DD X (n+1)) a0 a1=qe0 (DD X n) n a0 a1:=sQ hX n Tryz.func164 (by kernel_rfl) rfl (qo5 ..)
theorem qpp (a0 a1):qh7 (DD X (n+1)) a0 a1=qey (DD X n) n a0 a1:=sQ hX n Tryz.func165 (by kernel_rfl) rfl (qpg ..)
theorem qbr1 (a0):qvz (DD X (n+1)) a0=q5t (DD X n) n a0:=sQ hX n Tryz.func166 (by kernel_rfl) rfl (qbsf ..)
theorem qbnz (a0):qz6 (DD X (n+1)) a0=qzu (DD X n) n a0:=sQ hX n Tryz.func167 (by kernel_rfl) rfl (qblw ..)
theorem qbwd (a0 a1):q39 (DD X (n+1)) a0 a1=qbam (DD X n) n a0 a1:=sQ hX n Tryz.func168 (by kernel_rfl) rfl (qbw8 ..)
theorem q61 (a0 a1):qh0 (DD X (n+1)) a0 a1=qkz (DD X n) n a0 a1:=sQ hX n Tryz.func169 (by kernel_rfl) rfl (q66 ..)
theorem qbs7 (a0 a1):qw2 (DD X (n+1)) a0 a1=q5j (DD X n) n a0 a1:=sQ hX n Tryz.func170 (by kernel_rfl) rfl (qbqx ..)
theorem qbpj (a0 a1):q25 (DD X (n+1)) a0 a1=q2o (DD X n) n a0 a1:=sQ hX n Tryz.func171 (by kernel_rfl) rfl (qbp1 ..)
theorem qbuu (a0 a1):qer (DD X (n+1)) a0 a1=q8j (DD X n) n a0 a1:=sQ hX n Tryz.func172 (by kernel_rfl) rfl (qbt7 ..)
theorem qbr4 (a0):qfe (DD X (n+1)) a0=q6b (DD X n) n a0:=sQ hX n Tryz.func173 (by kernel_rfl) rfl (qbrt ..)
theorem qbns (a0 a1 a2 a3):qrs (DD X (n+1)) a0 a1 a2 a3=qzc (DD X n) n a0 a1 a2 a3:=sQ hX n Tryz.func174 (by kernel_rfl) rfl (qblk ..)
theorem q9w (a0):qjg (DD X (n+1)) a0=qmg (DD X n) n a0:=sQ hX n Tryz.func175 (by kernel_rfl) rfl (qbag ..)
theorem qbp9 (a0 a1 a2 a3 a4):q3a (DD X (n+1)) a0 a1 a2 a3 a4=q2x (DD X n) n a0 a1 a2 a3 a4:=sQ hX n Tryz.func176 (by kernel_rfl) rfl (qbqg ..)
theorem qbnq (a0 a1):q88 (DD X (n+1)) a0 a1=q0r (DD X n) n a0 a1:=sQ hX n Tryz.func177 (by kernel_rfl) rfl (qbmq ..)
theorem qpm (a0 a1):qh2 (DD X (n+1)) a0 a1=qh4 (DD X n) n a0 a1:=sQ hX n Tryz.func178 (by kernel_rfl) rfl (qbck ..)
theorem quz (a0 a1):qs (DD X (n+1)) a0 a1=qkq (DD X n) n a0 a1:=sQ hX n Tryz.func179 (by kernel_rfl) rfl (qbir ..)
theorem qbfn (a0 a1):qb8 (DD X (n+1)) a0 a1=q3c (DD X n) n a0 a1:=sQ hX n Tryz.func180 (by kernel_rfl) rfl (qbf4 ..)
theorem qvd (a0 a1 a2 a3 a4):qct (DD X (n+1)) a0 a1 a2 a3 a4=qkj (DD X n) n a0 a1 a2 a3 a4:=sQ hX n Tryz.func181 (by kernel_rfl) rfl (qbh5 ..)
theorem qoe (a0 a1):qc3 (DD X (n+1)) a0 a1=qeo (DD X n) n a0 a1:=sQ hX n Tryz.func182 (by kernel_rfl) rfl (qoq ..)
theorem qbhj (a0 a1):q58 (DD X (n+1)) a0 a1=qux (DD X n) n a0 a1:=sQ hX n Tryz.func183 (by kernel_rfl) rfl (qbip ..)
theorem q1g (a0 a1 a2 a3):qj (DD X (n+1)) a0 a1 a2 a3=qi9 (DD X n) n a0 a1 a2 a3:=sQ hX n Tryz.func184 (by kernel_rfl) rfl (q02 ..)
theorem q6o (a0 a1 a2):qgo (DD X (n+1)) a0 a1 a2=qnz (DD X n) n a0 a1 a2:=sQ hX n Tryz.func186 (by kernel_rfl) rfl (qbij ..)
theorem qsu (a0 a1 a2 a3 a4):qf (DD X (n+1)) a0 a1 a2 a3 a4=qf2 (DD X n) n a0 a1 a2 a3 a4:=sQ hX n Tryz.func187 (by kernel_rfl) rfl (qsf ..)
theorem qtn (a0 a1 a2):qj2 (DD X (n+1)) a0 a1 a2=qgj (DD X n) n a0 a1 a2:=sQ hX n Tryz.func188 (by kernel_rfl) rfl (qtr ..)
theorem qbni (a0 a1):qdn (DD X (n+1)) a0 a1=q0c (DD X n) n a0 a1:=sQ hX n Tryz.func194 (by kernel_rfl) rfl (qbmj ..)
theorem qny (a0 a1 a2 a3):qho (DD X (n+1)) a0 a1 a2 a3=qed (DD X n) n a0 a1 a2 a3:=sQ hX n Tryz.func199 (by kernel_rfl) rfl (qn2 ..)
theorem qbka (a0):qw7 (DD X (n+1)) a0=qxs (DD X n) n a0:=sQ hX n Tryz.func212 (by kernel_rfl) rfl (qbjt ..)
theorem qbkl (a0):qp0 (DD X (n+1)) a0=qv6 (DD X n) n a0:=sQ hX n Tryz.func185 (by kernel_rfl) rfl (qblj ..)
theorem qbf1 (a0):q3w (DD X (n+1)) a0=qbu (DD X n) n a0:=sQ hX n Tryz.func198 (by kernel_rfl) rfl (qbfh ..)
end
end Go.G


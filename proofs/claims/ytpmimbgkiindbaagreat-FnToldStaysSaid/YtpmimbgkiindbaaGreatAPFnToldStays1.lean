import Derived.Test.YtpmimbgkiindbaaGreatAPFnToldStays0
set_option linter.unusedVariables false
set_option linter.unusedSimpArgs false
set_option linter.unusedSectionVars false
open Go.IntKind (wrap)
namespace Go.G
set_option maxRecDepth 100000
set_option maxHeartbeats 0
open Go Go.V
noncomputable section
def qeg (D:DX)(n:Nat) (a1:Clo) (go:List tq18→Int→Int→Option tq42) (K0:Int→Option tq42) (K1:Option tq42) (x0:List tq18) (x1 x2:Int):Option tq42:=br (decide (x2<x1)) (br (decide (0≤x2)&&decide (x2<(x0.length:Int))) (qd (qbj ctx D a1 [CapV.val yq9 (List.getD x0 x2.toNat (0,0,[],(0,[],()),()))] Ty.bool) fun b↦br b (K0 x2) (go x0 x1 (wrap .i64 (x2+1)))) none) K1
def qb4 (D:DX)(n:Nat) (a1:Clo) (K0:Int→Option tq42) (K1:Option tq42):Nat→(List tq18)→Int→Int→Option tq42 | 0=>(fun x0 x1 x2=>none) | m+1=>(fun x0 x1 x2=>qeg D n a1 (qb4 D n a1 K0 K1 m) K0 K1 x0 x1 x2)
def qdv (D:DX)(n:Nat) (a1:Clo) (a:Int):Option tq42:=some ((a,()),())
def qdt (D:DX)(n:Nat) (a1:Clo):Option tq42:=some ((-1,()),())
def qed (D:DX)(n:Nat) (a1:Clo):(List tq18)→(Int)→(Int)→Option tq42:=(fun x0 x1 x2=>qb4 D n a1 (fun a=>qdv D n a1 a) (qdt D n a1) n x0 x1 x2)
def qet (D:DX)(n:Nat) (a1:Clo) (lp0:List tq18→Int→Int→Option tq42) (a0:List tq18):Option tq42:=lp0 a0 (a0.length:Int) 0
def qev (D:DX)(n:Nat) (a0:List tq18) (a1:Clo):Option tq42:=qet D n a1 (qed D n a1) a0
def qeo (a1:Clo) (x0:List tq18) (x1 x2:Int):St:=stq 19 [(0,AV.val yq8 x0),(1,AV.cloV a1),(7,AV.val yq34 x1),(8,AV.val yq34 x2)] []
def qha (a1:Clo) (a:Int):St:=stq 19 [(4,AV.val yq34 a)] []
def qg5 (a1:Clo):St:=stq 19 [] []
theorem qnq (D:DX)(n:Nat) (a1:Clo) (K:KT 162):∀ (m:Nat) (x0:List tq18) (x1 x2:Int),LF D n 162 pq2 m (qeo a1 x0 x1 x2) K=qb4 D n a1 (fun a=>K (Ex.ret) (qha a1 a)) (K (Ex.exit 0) (qg5 a1)) m x0 x1 x2:=eL3 (fun F=>qeg D n a1 F (fun a=>K (Ex.ret) (qha a1 a)) (K (Ex.exit 0) (qg5 a1))) (fun _ _ _ =>q7 ..) (fun _ _ _ _ =>by kernel_rfl) (fun _ _ _ _ =>rfl)
theorem qng (D:DX)(n:Nat) (a1:Clo) (x0) (x1) (x2):LF D n 162 pq2 n (qeo a1 x0 x1 x2) (CF D n 162 [] pq2 (lF 162))=qed D n a1 x0 x1 x2 :=by rw[qnq];kernel_rfl
theorem qpk (D:DX)(n:Nat) (a0:List tq18) (a1:Clo):rF D n 162 (a0,(a1,()))=qev D n a0 a1:=by
 have h:rF D n 162 (a0,(a1,()))=qet D n a1 (fun x0 x1 x2=>LF D n 162 pq2 n (qeo a1 x0 x1 x2) (CF D n 162 [] pq2 (lF 162))) a0:=by kernel_rfl
 rw[h]
 simp only[qng]
 rfl

def qfn (D:DX)(n:Nat) (a1:Clo) (go:List tq37→Int→Int→Option tq42) (K0:Int→Option tq42) (K1:Option tq42) (x0:List tq37) (x1 x2:Int):Option tq42:=br (decide (x2<x1)) (br (decide (0≤x2)&&decide (x2<(x0.length:Int))) (qd (qbj ctx D a1 [CapV.val yq21 (List.getD x0 x2.toNat (0,0,0,()))] Ty.bool) fun b↦br b (K0 x2) (go x0 x1 (wrap .i64 (x2+1)))) none) K1
def qcb (D:DX)(n:Nat) (a1:Clo) (K0:Int→Option tq42) (K1:Option tq42):Nat→(List tq37)→Int→Int→Option tq42 | 0=>(fun x0 x1 x2=>none) | m+1=>(fun x0 x1 x2=>qfn D n a1 (qcb D n a1 K0 K1 m) K0 K1 x0 x1 x2)
def qe8 (D:DX)(n:Nat) (a1:Clo) (a:Int):Option tq42:=some ((a,()),())
def qe6 (D:DX)(n:Nat) (a1:Clo):Option tq42:=some ((-1,()),())
def qff (D:DX)(n:Nat) (a1:Clo):(List tq37)→(Int)→(Int)→Option tq42:=(fun x0 x1 x2=>qcb D n a1 (fun a=>qe8 D n a1 a) (qe6 D n a1) n x0 x1 x2)
def qf3 (D:DX)(n:Nat) (a1:Clo) (lp0:List tq37→Int→Int→Option tq42) (a0:List tq37):Option tq42:=lp0 a0 (a0.length:Int) 0
def qf1 (D:DX)(n:Nat) (a0:List tq37) (a1:Clo):Option tq42:=qf3 D n a1 (qff D n a1) a0
def qfm (a1:Clo) (x0:List tq37) (x1 x2:Int):St:=stq 19 [(0,AV.val yq19 x0),(1,AV.cloV a1),(7,AV.val yq34 x1),(8,AV.val yq34 x2)] []
def qio (a1:Clo) (a:Int):St:=stq 19 [(4,AV.val yq34 a)] []
def qil (a1:Clo):St:=stq 19 [] []
theorem qq1 (D:DX)(n:Nat) (a1:Clo) (K:KT 163):∀ (m:Nat) (x0:List tq37) (x1 x2:Int),LF D n 163 pq2 m (qfm a1 x0 x1 x2) K=qcb D n a1 (fun a=>K (Ex.ret) (qio a1 a)) (K (Ex.exit 0) (qil a1)) m x0 x1 x2:=eL3 (fun F=>qfn D n a1 F (fun a=>K (Ex.ret) (qio a1 a)) (K (Ex.exit 0) (qil a1))) (fun _ _ _ =>q7 ..) (fun _ _ _ _ =>by kernel_rfl) (fun _ _ _ _ =>rfl)
theorem qqh (D:DX)(n:Nat) (a1:Clo) (x0) (x1) (x2):LF D n 163 pq2 n (qfm a1 x0 x1 x2) (CF D n 163 [] pq2 (lF 163))=qff D n a1 x0 x1 x2 :=by rw[qq1];kernel_rfl
theorem qte (D:DX)(n:Nat) (a0:List tq37) (a1:Clo):rF D n 163 (a0,(a1,()))=qf1 D n a0 a1:=by
 have h:rF D n 163 (a0,(a1,()))=qf3 D n a1 (fun x0 x1 x2=>LF D n 163 pq2 n (qfm a1 x0 x1 x2) (CF D n 163 [] pq2 (lF 163))) a0:=by kernel_rfl
 rw[h]
 simp only[qqh]
 rfl

def qem (D:DX)(n:Nat) (a1:Clo) (go:List tq43→Int→Int→Option tq42) (K0:Int→Option tq42) (K1:Option tq42) (x0:List tq43) (x1 x2:Int):Option tq42:=br (decide (x2<x1)) (br (decide (0≤x2)&&decide (x2<(x0.length:Int))) (qd (qbj ctx D a1 [CapV.val yq26 (List.getD x0 x2.toNat (0,0,()))] Ty.bool) fun b↦br b (K0 x2) (go x0 x1 (wrap .i64 (x2+1)))) none) K1
def qb3 (D:DX)(n:Nat) (a1:Clo) (K0:Int→Option tq42) (K1:Option tq42):Nat→(List tq43)→Int→Int→Option tq42 | 0=>(fun x0 x1 x2=>none) | m+1=>(fun x0 x1 x2=>qem D n a1 (qb3 D n a1 K0 K1 m) K0 K1 x0 x1 x2)
def qdx (D:DX)(n:Nat) (a1:Clo) (a:Int):Option tq42:=some ((a,()),())
def qdw (D:DX)(n:Nat) (a1:Clo):Option tq42:=some ((-1,()),())
def qd8 (D:DX)(n:Nat) (a1:Clo):(List tq43)→(Int)→(Int)→Option tq42:=(fun x0 x1 x2=>qb3 D n a1 (fun a=>qdx D n a1 a) (qdw D n a1) n x0 x1 x2)
def qez (D:DX)(n:Nat) (a1:Clo) (lp0:List tq43→Int→Int→Option tq42) (a0:List tq43):Option tq42:=lp0 a0 (a0.length:Int) 0
def qe0 (D:DX)(n:Nat) (a0:List tq43) (a1:Clo):Option tq42:=qez D n a1 (qd8 D n a1) a0
def qel (a1:Clo) (x0:List tq43) (x1 x2:Int):St:=stq 19 [(0,AV.val yq24 x0),(1,AV.cloV a1),(7,AV.val yq34 x1),(8,AV.val yq34 x2)] []
def qg0 (a1:Clo) (a:Int):St:=stq 19 [(4,AV.val yq34 a)] []
def qg7 (a1:Clo):St:=stq 19 [] []
theorem qn6 (D:DX)(n:Nat) (a1:Clo) (K:KT 164):∀ (m:Nat) (x0:List tq43) (x1 x2:Int),LF D n 164 pq2 m (qel a1 x0 x1 x2) K=qb3 D n a1 (fun a=>K (Ex.ret) (qg0 a1 a)) (K (Ex.exit 0) (qg7 a1)) m x0 x1 x2:=eL3 (fun F=>qem D n a1 F (fun a=>K (Ex.ret) (qg0 a1 a)) (K (Ex.exit 0) (qg7 a1))) (fun _ _ _ =>q7 ..) (fun _ _ _ _ =>by kernel_rfl) (fun _ _ _ _ =>rfl)
theorem qnf (D:DX)(n:Nat) (a1:Clo) (x0) (x1) (x2):LF D n 164 pq2 n (qel a1 x0 x1 x2) (CF D n 164 [] pq2 (lF 164))=qd8 D n a1 x0 x1 x2 :=by rw[qn6];kernel_rfl
theorem qpa (D:DX)(n:Nat) (a0:List tq43) (a1:Clo):rF D n 164 (a0,(a1,()))=qe0 D n a0 a1:=by
 have h:rF D n 164 (a0,(a1,()))=qez D n a1 (fun x0 x1 x2=>LF D n 164 pq2 n (qel a1 x0 x1 x2) (CF D n 164 [] pq2 (lF 164))) a0:=by kernel_rfl
 rw[h]
 simp only[qnf]
 rfl

def qef (D:DX)(n:Nat) (a1:Clo) (go:List tq33→Int→Int→Option tq42) (K0:Int→Option tq42) (K1:Option tq42) (x0:List tq33) (x1 x2:Int):Option tq42:=br (decide (x2<x1)) (br (decide (0≤x2)&&decide (x2<(x0.length:Int))) (qd (qbj ctx D a1 [CapV.val yq17 (List.getD x0 x2.toNat (0,0,0,0,()))] Ty.bool) fun b↦br b (K0 x2) (go x0 x1 (wrap .i64 (x2+1)))) none) K1
def qb2 (D:DX)(n:Nat) (a1:Clo) (K0:Int→Option tq42) (K1:Option tq42):Nat→(List tq33)→Int→Int→Option tq42 | 0=>(fun x0 x1 x2=>none) | m+1=>(fun x0 x1 x2=>qef D n a1 (qb2 D n a1 K0 K1 m) K0 K1 x0 x1 x2)
def qdy (D:DX)(n:Nat) (a1:Clo) (a:Int):Option tq42:=some ((a,()),())
def qdo (D:DX)(n:Nat) (a1:Clo):Option tq42:=some ((-1,()),())
def qd7 (D:DX)(n:Nat) (a1:Clo):(List tq33)→(Int)→(Int)→Option tq42:=(fun x0 x1 x2=>qb2 D n a1 (fun a=>qdy D n a1 a) (qdo D n a1) n x0 x1 x2)
def qe1 (D:DX)(n:Nat) (a1:Clo) (lp0:List tq33→Int→Int→Option tq42) (a0:List tq33):Option tq42:=lp0 a0 (a0.length:Int) 0
def qey (D:DX)(n:Nat) (a0:List tq33) (a1:Clo):Option tq42:=qe1 D n a1 (qd7 D n a1) a0
def qei (a1:Clo) (x0:List tq33) (x1 x2:Int):St:=stq 19 [(0,AV.val yq16 x0),(1,AV.cloV a1),(7,AV.val yq34 x1),(8,AV.val yq34 x2)] []
def qg9 (a1:Clo) (a:Int):St:=stq 19 [(4,AV.val yq34 a)] []
def qg3 (a1:Clo):St:=stq 19 [] []
theorem qn8 (D:DX)(n:Nat) (a1:Clo) (K:KT 165):∀ (m:Nat) (x0:List tq33) (x1 x2:Int),LF D n 165 pq2 m (qei a1 x0 x1 x2) K=qb2 D n a1 (fun a=>K (Ex.ret) (qg9 a1 a)) (K (Ex.exit 0) (qg3 a1)) m x0 x1 x2:=eL3 (fun F=>qef D n a1 F (fun a=>K (Ex.ret) (qg9 a1 a)) (K (Ex.exit 0) (qg3 a1))) (fun _ _ _ =>q7 ..) (fun _ _ _ _ =>by kernel_rfl) (fun _ _ _ _ =>rfl)
theorem qm6 (D:DX)(n:Nat) (a1:Clo) (x0) (x1) (x2):LF D n 165 pq2 n (qei a1 x0 x1 x2) (CF D n 165 [] pq2 (lF 165))=qd7 D n a1 x0 x1 x2 :=by rw[qn8];kernel_rfl
theorem qpl (D:DX)(n:Nat) (a0:List tq33) (a1:Clo):rF D n 165 (a0,(a1,()))=qey D n a0 a1:=by
 have h:rF D n 165 (a0,(a1,()))=qe1 D n a1 (fun x0 x1 x2=>LF D n 165 pq2 n (qei a1 x0 x1 x2) (CF D n 165 [] pq2 (lF 165))) a0:=by kernel_rfl
 rw[h]
 simp only[qm6]
 rfl

def qbda (D:DX)(n:Nat) (a0:Int):Option tq41:=qd (qbo D a0 0 3) fun b↦some ((b.1.1,()),())
def q5x (D:DX)(n:Nat) (a0:Int):Option tq41:=qbda D n a0
theorem qbsl (D:DX)(n:Nat) (a0:Int):rF D n 166 (a0,())=q5x D n a0:=by kernel_rfl

def q8z (D:DX)(n:Nat) (a0:Int):Option tq42:=qd (qjb D a0) fun b↦br (!b.1.1) (some ((-1,()),())) (some ((Int.tmod a0 3,()),()))
def qzx (D:DX)(n:Nat) (a0:Int):Option tq42:=q8z D n a0
theorem qbl0 (D:DX)(n:Nat) (a0:Int):rF D n 167 (a0,())=qzx D n a0:=by kernel_rfl

def qbkn (D:DX)(n:Nat) (a0:tq12) (a1:tq33):Option tq7:=let y1:=List.getD a0.2.1 a1.1.toNat (0,0,[],(0,[],()),());let y0:=List.getD y1.2.2.1 a1.2.2.1.toNat (0,0,0,());let y2:=List.getD a0.1 (Int.toNat y0.1) (0,0,0,());br (decide (0≤a1.1)&&decide (a1.1<(a0.2.1.length:Int))) (br (decide (a1.2.2.1≥(y1.2.2.1.length:Int))) (some ((a1,(0,0,0,0,()),3,()),(a0.1,List.set a0.2.1 a1.1.toNat (y1.1,2,y1.2.2),a0.2.2),())) (br (decide (0≤a1.2.2.1)&&decide (a1.2.2.1<(y1.2.2.1.length:Int))) (br (decide (0≤y0.1)&&decide (y0.1<(a0.1.length:Int))) (br (qjw yq21 y2 (0,wrap .i64 (a1.1+1),a1.2.1,())) (some (((a1.1,a1.2.1,wrap .i64 (a1.2.2.1+1),a1.2.2.2),(0,0,0,0,()),0,()),a0,())) (br (y2.2.1 != 0) (some ((a1,(wrap .i64 (y2.2.1 - 1),y2.2.2.1,0,0,()),1,()),a0,())) (br (decide (y2.1=y0.2.1)) (some (((a1.1,a1.2.1,wrap .i64 (a1.2.2.1+1),a1.2.2.2),(0,0,0,0,()),0,()),(List.set a0.1 (Int.toNat y0.1) (0,wrap .i64 (a1.1+1),a1.2.1,()),a0.2),())) (some ((a1,(0,0,0,0,()),0,()),(a0.1,List.set a0.2.1 a1.1.toNat (y1.1,3,y1.2.2),a0.2.2),()))))) none) none)) none
def qbax (D:DX)(n:Nat) (a0:tq12) (a1:tq33):Option tq7:=qbkn D n a0 a1
theorem qbxk (D:DX)(n:Nat) (a0:tq12) (a1:tq33):rF D n 168 (a0,(a1,()))=qbax D n a0 a1:=by kernel_rfl

def qhh (D:DX)(n:Nat) (go:Int→Int→tq5→Option tq2) (K0:Int→tq5→Option tq2) (K1:tq5→Option tq2) (x0 x1:Int) (x2:tq5):Option tq2:=br (decide (x1≥0)) (br (decide (0≤x1)&&decide (x1<(x2.2.2.2.1.length:Int))) (br (decide ((List.getD x2.2.2.2.1 x1.toNat (0,(0,0,0,()),0,0,0,(0,[],()),())).1=x0)) (br (decide (0≤x1)&&decide (x1<(x2.2.2.2.1.length:Int))) (br (decide ((List.getD x2.2.2.2.1 x1.toNat (0,(0,0,0,()),0,0,0,(0,[],()),())).2.2.2.2.1<0)) (K0 x1 x2) (go x0 (wrap .i64 (x1 - 1)) x2)) none) (go x0 (wrap .i64 (x1 - 1)) x2)) none) (K1 x2)
def qdf (D:DX)(n:Nat) (K0:Int→tq5→Option tq2) (K1:tq5→Option tq2):Nat→Int→Int→tq5→Option tq2 | 0=>(fun x0 x1 x2=>none) | m+1=>(fun x0 x1 x2=>qhh D n (qdf D n K0 K1 m) K0 K1 x0 x1 x2)
def q2q (D:DX)(n:Nat) (a:Int) (b:tq5):Option tq2:=some ((a,()),b,())
def q2v (D:DX)(n:Nat) (a:tq5):Option tq2:=some ((-1,()),a,())
def qjv (D:DX)(n:Nat):(Int)→(Int)→tq5→Option tq2:=(fun x0 x1 x2=>qdf D n (fun a b=>q2q D n a b) (fun c=>q2v D n c) n x0 x1 x2)
def qku (D:DX)(n:Nat) (lp0:Int→Int→tq5→Option tq2) (a0:tq5) (a1:Int):Option tq2:=lp0 a1 (wrap .i64 ((a0.2.2.2.1.length:Int) - 1)) a0
def qkx (D:DX)(n:Nat) (a0:tq5) (a1:Int):Option tq2:=qku D n (qjv D n) a0 a1
def qkj (x0 x1:Int) (x2:tq5):St:=stq 38 [(0,AV.addr 0 []),(1,AV.val yq34 x0),(5,AV.val yq34 x1)] [(0,Root.mk yq0 kq15 x2 true)]
def qor (a:Int) (b:tq5):St:=stq 38 [(0,AV.addr 0 []),(4,AV.val yq34 a)] [(0,Root.mk yq0 kq15 b true)]
def qop (a:tq5):St:=stq 38 [(0,AV.addr 0 [])] [(0,Root.mk yq0 kq15 a true)]
theorem q4j (D:DX)(n:Nat) (K:KT 169):∀ (m:Nat) (x0 x1:Int) (x2:tq5),LF D n 169 pq2 m (qkj x0 x1 x2) K=qdf D n (fun a b=>K (Ex.ret) (qor a b)) (fun c=>K (Ex.exit 0) (qop c)) m x0 x1 x2:=eL3 (fun F=>qhh D n F (fun a b=>K (Ex.ret) (qor a b)) (fun c=>K (Ex.exit 0) (qop c))) (fun _ _ _ =>q7 ..) (fun _ _ _ _ =>by kernel_rfl) (fun _ _ _ _ =>rfl)
theorem q2z (D:DX)(n:Nat) (x0) (x1) (x2):LF D n 169 pq2 n (qkj x0 x1 x2) (CF D n 169 [] pq2 (lF 169))=qjv D n x0 x1 x2 :=by rw[q4j];kernel_rfl
theorem q68 (D:DX)(n:Nat) (a0:tq5) (a1:Int):rF D n 169 (a0,(a1,()))=qkx D n a0 a1:=by
 have h:rF D n 169 (a0,(a1,()))=qku D n (fun x0 x1 x2=>LF D n 169 pq2 n (qkj x0 x1 x2) (CF D n 169 [] pq2 (lF 169))) a0 a1:=by kernel_rfl
 rw[h]
 simp only[q2z]
 rfl

def qoh (D:DX)(n:Nat) (go:Int→tq24→Option tq19) (K0:tq24→Option tq19) (x0:Int) (x1:tq24):Option tq19:=br (decide (x0<4)) (qd (qfd D x0) fun b↦qd (qs D x1 b.1.1) fun b↦go (wrap .i64 (x0+1)) b.2.1) (K0 x1)
def qhq (D:DX)(n:Nat) (K0:tq24→Option tq19):Nat→Int→tq24→Option tq19 | 0=>(fun x0 x1=>none) | m+1=>(fun x0 x1=>qoh D n (qhq D n K0 m) K0 x0 x1)
def q7p (D:DX)(n:Nat) (a:tq24):Option tq19:=some ((a,()),())
def qys (D:DX)(n:Nat):(Int)→tq24→Option tq19:=(fun x0 x1=>qhq D n (fun a=>q7p D n a) n x0 x1)
def q45 (D:DX)(n:Nat) (lp0:Int→tq24→Option tq19) (a0:tq37) (a1:List tq43):Option tq19:=let y0:Option tq19:=br (decide (a0.1=4)) (qd (qfd D a0.2.1) fun b↦qd (qs D (a1,[],-1,false,()) b.1.1) fun b↦some ((b.2.1,()),())) (br (decide (a0.1=5)) (qd (qdj D a0.2.2.1) fun b↦qd (qs D (a1,[],-1,false,()) b.1.1) fun b↦some ((b.2.1,()),())) (br (decide (a0.1=6)) (qd (qdi D a0.2.1) fun b↦qd (qs D (a1,[],-1,false,()) b.1.1) fun b↦some ((b.2.1,()),())) (br (decide (a0.1=7)) (lp0 0 (a1,[],-1,false,())) (br (decide (a0.1=8)) (qd (qcp D) fun b↦qd (qs D (a1,[],-1,false,()) b.1.1) fun b↦some ((b.2.1,()),())) (br (decide (a0.1=9)) (qd (qcp D) fun b↦qd (qs D (a1,[],-1,false,()) b.1.1) fun b↦qd (qb9 D b.2.1 (bif decide (b.1.1<1) then true else decide (b.1.1>4))) fun b_1↦qd (qfd D (wrap .i64 (b.1.1 - 1))) fun b↦qd (qs D b_1.2.1 b.1.1) fun b↦qd (qhn D b.1.1) fun b_2↦qd (qb9 D b.2.1 !b_2.1.1) fun b_3↦qd (qej D b.1.1) fun b↦qd (qs D b_3.2.1 b.1.1) fun b↦some ((b.2.1,()),())) (br (decide (a0.1=10)) (qd (qcp D) fun b↦qd (qs D (a1,[],-1,false,()) b.1.1) fun b↦qd (qb9 D b.2.1 (b.1.1 != 5)) fun b↦qd (qej D a0.2.2.1) fun b_1↦qd (qs D b.2.1 b_1.1.1) fun b↦some ((b.2.1,()),())) (some (((a1,[],-1,false,()),()),()))))))));let y1:Option tq19:=qd (qhx D (a1,[],-1,false,()) a0) fun b↦some ((b.2.1,()),());br (decide (a0.1=1)) (br (decide (a0.1=1)) y1 y0) (br (decide (a0.1=2)) (br (decide (a0.1=2)) y1 y0) (br (decide (a0.1=3)) y1 y0))
def q5n (D:DX)(n:Nat) (a0:tq37) (a1:List tq43):Option tq19:=q45 D n (qys D n) a0 a1
def q2e (x0:Int) (x1:tq24):St:=stq 100 [(5,AV.addr 12 []),(45,AV.val yq34 x0)] [(12,Root.mk yq12 kq28 x1 true)]
def q71 (a:tq24):St:=stq 100 [(5,AV.addr 12 [])] [(12,Root.mk yq12 kq28 a true)]
theorem qbmg (D:DX)(n:Nat) (K:KT 170):∀ (m:Nat) (x0:Int) (x1:tq24),LF D n 170 pq7 m (q2e x0 x1) K=qhq D n (fun a=>K (Ex.exit 1) (q71 a)) m x0 x1:=eL2 (fun F=>qoh D n F (fun a=>K (Ex.exit 1) (q71 a))) (fun _ _ =>q7 ..) (fun _ _ _ =>by kernel_rfl) (fun _ _ _ =>rfl)
theorem qbjq (D:DX)(n:Nat) (x0) (x1):LF D n 170 pq7 n (q2e x0 x1) (CF D n 170 [] pq7 (lF 170))=qys D n x0 x1 :=by rw[qbmg];kernel_rfl
theorem qbq5 (D:DX)(n:Nat) (a0:tq37) (a1:List tq43):rF D n 170 (a0,(a1,()))=q5n D n a0 a1:=by
 have h:rF D n 170 (a0,(a1,()))=q45 D n (fun x0 x1=>LF D n 170 pq7 n (q2e x0 x1) (CF D n 170 [] pq7 (lF 170))) a0 a1:=by kernel_rfl
 rw[h]
 simp only[qbjq]
 rfl

def qbb6 (D:DX)(n:Nat) (a0:tq37) (a1:List tq43):Option ((tq40×tq44)×Unit):=qd (qfd D a0.2.1) fun b↦qd (qer D a1 b.1.1) fun b↦qd (qdj D a0.2.2.1) fun b_1↦qd (qer D a1 b_1.1.1) fun b_2↦qd (qcp D) fun b_3↦qd (qer D a1 b_3.1.1) fun b_4↦br (bif decide (a0.1=1) then b.1.1 != 0 else false) (some (((1,[],()),true,()),())) (br (bif decide (a0.1=1) then b_2.1.1 != 0 else false) (some (((2,[],()),true,()),())) (br (bif bif bif decide (a0.1=2) then true else decide (a0.1=3) then true else decide (a0.1=4) then decide (b.1.1=0) else false) (some (((3,[],()),true,()),())) (br (bif decide (a0.1=2) then decide (b.1.1=a0.2.2.1) else false) (some (((0,[],()),true,()),())) (br (bif decide (a0.1=2) then b_2.1.1 != 0 else false) (some (((2,[],()),true,()),())) (br (decide (a0.1=4)) (some (((0,[b.1.1],()),true,()),())) (br (bif decide (a0.1=5) then decide (b_2.1.1=0) else false) (some (((3,[],()),true,()),())) (br (decide (a0.1=5)) (some (((0,[wrap .i64 (b_2.1.1 - 1)],()),true,()),())) (br (decide (a0.1=6)) (qd (qdi D a0.2.1) fun b↦qd (qer D a1 b.1.1) fun b↦some (((0,[b.1.1],()),true,()),())) (br (bif decide (a0.1=8) then b_4.1.1 != 0 else false) (br (bif decide (a0.1=8) then b_4.1.1 != 0 else false) (some (((4,[],()),true,()),())) (some (((0,[],()),false,()),()))) (br (bif decide (a0.1=9) then bif decide (b_4.1.1<1) then true else decide (b_4.1.1>4) else false) (br (bif decide (a0.1=9) then bif decide (b_4.1.1<1) then true else decide (b_4.1.1>4) else false) (some (((4,[],()),true,()),())) (some (((0,[],()),false,()),()))) (br (bif decide (a0.1=10) then b_4.1.1 != 5 else false) (some (((4,[],()),true,()),())) (some (((0,[],()),false,()),())))))))))))))
def q2u (D:DX)(n:Nat) (a0:tq37) (a1:List tq43):Option ((tq40×tq44)×Unit):=qbb6 D n a0 a1
theorem qbp9 (D:DX)(n:Nat) (a0:tq37) (a1:List tq43):rF D n 171 (a0,(a1,()))=q2u D n a0 a1:=by kernel_rfl

def q4z (D:DX)(n:Nat) (go:List tq43→Int→Int→Option tq35) (K0:Int→Bool→Option tq35) (K1:Option tq35) (x0:List tq43) (x1 x2:Int):Option tq35:=br (decide (x2≥0)) (br (decide (0≤x2)&&decide (x2<(x0.length:Int))) (br (decide ((List.getD x0 x2.toNat (0,0,())).1=x1)) (br (decide (0≤x2)&&decide (x2<(x0.length:Int))) (K0 (List.getD x0 x2.toNat (0,0,())).2.1 true) none) (go x0 x1 (wrap .i64 (x2 - 1)))) none) K1
def qrl (D:DX)(n:Nat) (K0:Int→Bool→Option tq35) (K1:Option tq35):Nat→(List tq43)→Int→Int→Option tq35 | 0=>(fun x0 x1 x2=>none) | m+1=>(fun x0 x1 x2=>q4z D n (qrl D n K0 K1 m) K0 K1 x0 x1 x2)
def qbao (D:DX)(n:Nat) (a:Int) (b:Bool):Option tq35:=some ((a,b,()),())
def qbac (D:DX)(n:Nat):Option tq35:=some ((0,false,()),())
def q27 (D:DX)(n:Nat):(List tq43)→(Int)→(Int)→Option tq35:=(fun x0 x1 x2=>qrl D n (fun a b=>qbao D n a b) (qbac D n) n x0 x1 x2)
def q8o (D:DX)(n:Nat) (lp0:List tq43→Int→Int→Option tq35) (a0:List tq43) (a1:Int):Option tq35:=lp0 a0 a1 (wrap .i64 ((a0.length:Int) - 1))
def q8l (D:DX)(n:Nat) (a0:List tq43) (a1:Int):Option tq35:=q8o D n (q27 D n) a0 a1
def q6v (x0:List tq43) (x1 x2:Int):St:=stq 26 [(0,AV.val yq24 x0),(1,AV.val yq34 x1),(6,AV.val yq34 x2)] []
def q9o (a:Int) (b:Bool):St:=stq 26 [(4,AV.val yq34 a),(5,AV.val Ty.bool b)] []
def q9u:St:=stq 26 [] []
theorem qbp3 (D:DX)(n:Nat) (K:KT 172):∀ (m:Nat) (x0:List tq43) (x1 x2:Int),LF D n 172 pq2 m (q6v x0 x1 x2) K=qrl D n (fun a b=>K (Ex.ret) (q9o a b)) (K (Ex.exit 0) (q9u)) m x0 x1 x2:=eL3 (fun F=>q4z D n F (fun a b=>K (Ex.ret) (q9o a b)) (K (Ex.exit 0) (q9u))) (fun _ _ _ =>q7 ..) (fun _ _ _ _ =>by kernel_rfl) (fun _ _ _ _ =>rfl)
theorem qbnk (D:DX)(n:Nat) (x0) (x1) (x2):LF D n 172 pq2 n (q6v x0 x1 x2) (CF D n 172 [] pq2 (lF 172))=q27 D n x0 x1 x2 :=by rw[qbp3];kernel_rfl
theorem qbue (D:DX)(n:Nat) (a0:List tq43) (a1:Int):rF D n 172 (a0,(a1,()))=q8l D n a0 a1:=by
 have h:rF D n 172 (a0,(a1,()))=q8o D n (fun x0 x1 x2=>LF D n 172 pq2 n (q6v x0 x1 x2) (CF D n 172 [] pq2 (lF 172))) a0 a1:=by kernel_rfl
 rw[h]
 simp only[qbnk]
 rfl

def qbeh (D:DX)(n:Nat) (a0:Int):Option tq42:=qd (qqx D a0) fun b↦qd (qk4 D b.1.1 a0) fun b↦some ((b.1.1,()),())
def q6g (D:DX)(n:Nat) (a0:Int):Option tq42:=qbeh D n a0
theorem qbry (D:DX)(n:Nat) (a0:Int):rF D n 173 (a0,())=q6g D n a0:=by kernel_rfl

def qbag (D:DX)(n:Nat) (a0:tq37) (a1:List tq43) (a2 a3:Int):Option tq28:=qd (qfd D a0.2.1) fun b↦qd (qcu D b.1.1 a0.2.2.1 0 a1 []) fun b↦qd (qcp D) fun b_1↦qd (qcu D b_1.1.1 a3 0 a1 b.2.1) fun b↦qd (qdj D a2) fun b_2↦qd (qcu D b_2.1.1 0 0 a1 b.2.1) fun b↦qd (qej D a2) fun b_3↦qd (qcu D b_3.1.1 0 0 a1 b.2.1) fun b↦qd (qdj D a0.2.2.1) fun b_4↦qd (qcu D b_4.1.1 (wrap .i64 (a0.2.1+1)) 0 a1 b.2.1) fun b↦qd (qej D a0.2.2.1) fun b_5↦qd (qcu D b_5.1.1 (wrap .i64 (a0.2.1+1)) 0 a1 b.2.1) fun b↦qd (qc3 D a2) fun b_6↦qd (qc3 D a0.2.2.1) fun b_7↦br (b_6.1.1 != b_7.1.1) (qd (qc3 D a2) fun b_8↦qd (qdi D b_8.1.1) fun b_9↦qd (qcu D b_9.1.1 0 (-1) a1 b.2.1) fun b↦qd (qc3 D a0.2.2.1) fun b_10↦qd (qdi D b_10.1.1) fun b_11↦qd (qcu D b_11.1.1 0 1 a1 b.2.1) fun b↦qd (qc4 D b.2.1 (Clo.mk 183 [])) fun b↦some ((b.2.1,()),())) (qd (qc4 D b.2.1 (Clo.mk 183 [])) fun b↦some ((b.2.1,()),()))
def qze (D:DX)(n:Nat) (a0:tq37) (a1:List tq43) (a2 a3:Int):Option tq28:=qbag D n a0 a1 a2 a3
theorem qblo (D:DX)(n:Nat) (a0:tq37) (a1:List tq43) (a2 a3:Int):rF D n 174 (a0,(a1,(a2,(a3,()))))=qze D n a0 a1 a2 a3:=by kernel_rfl

def qvn (D:DX)(n:Nat) (a0:List Int):Option tq38:=qd (qqb D (wrap .u64 (a0.length:Int))) fun b↦qd (qj D a0 0 (a0.length:Int) b.1.1) fun b↦some ((),b.2.1,())
def qmi (D:DX)(n:Nat) (a0:List Int):Option tq38:=qvn D n a0
theorem qbap (D:DX)(n:Nat) (a0:List Int):rF D n 175 (a0,())=qmi D n a0:=by kernel_rfl

def qbca (D:DX)(n:Nat) (a0:tq37) (a1 a2 a3 a4:Int):Option tq42:=br (decide (a0.1=8)) (some ((wrap .i64 (a2+1),()),())) (br (decide (a0.1=9)) (qd (qcp D) fun b↦br (decide (a1=b.1.1)) (some ((wrap .i64 (a2+1),()),())) (qd (qej D a3) fun b↦br (decide (a1=b.1.1)) (some ((a4,()),())) (some ((a2,()),())))) (some ((a2,()),())))
def q23 (D:DX)(n:Nat) (a0:tq37) (a1 a2 a3 a4:Int):Option tq42:=qbca D n a0 a1 a2 a3 a4
theorem qbqo (D:DX)(n:Nat) (a0:tq37) (a1 a2 a3 a4:Int):rF D n 176 (a0,(a1,(a2,(a3,(a4,())))))=q23 D n a0 a1 a2 a3 a4:=by kernel_rfl

def q82 (D:DX)(n:Nat) (a0:tq37) (a1:Int):Option tq41:=some ((decide (a0.2.1=wrap .i64 (a1+1)),()),())
def q0u (D:DX)(n:Nat) (a0:tq37) (a1:Int):Option tq41:=q82 D n a0 a1
theorem qbmw (D:DX)(n:Nat) (a0:tq37) (a1:Int):rF D n 177 (a0,(a1,()))=q0u D n a0 a1:=by kernel_rfl

def qkp (D:DX)(n:Nat) (a0:tq24) (a1:tq37):Option tq21:=qd (qfd D a1.2.1) fun b↦qd (qs D a0 b.1.1) fun b↦br (decide (a1.1=1)) (qd (qb9 D b.2.1 (b.1.1 != 0)) fun b↦qd (qdj D a1.2.2.1) fun b_1↦qd (qs D b.2.1 b_1.1.1) fun b↦qd (qb9 D b.2.1 (b.1.1 != 0)) fun b↦qd (qc3 D a1.2.2.1) fun b_2↦qd (qdi D b_2.1.1) fun b_3↦qd (qs D b.2.1 b_3.1.1) fun b↦qd (qgm D b.2.1 a1.2.1 [a1.2.2.1]) fun b↦some ((),b.2.1,())) (br (decide (a1.1=2)) (qd (qb9 D b.2.1 (bif decide (b.1.1=0) then true else decide (b.1.1=a1.2.2.1))) fun b_1↦qd (qdj D a1.2.2.1) fun b_2↦qd (qs D b_1.2.1 b_2.1.1) fun b_3↦qd (qb9 D b_3.2.1 (b_3.1.1 != 0)) fun b_4↦qd (qdj D b.1.1) fun b_5↦qd (qs D b_4.2.1 b_5.1.1) fun b_6↦qd (qc3 D b.1.1) fun b_7↦qd (qc3 D a1.2.2.1) fun b_8↦br (b_7.1.1 != b_8.1.1) (qd (qc3 D b.1.1) fun b_9↦qd (qdi D b_9.1.1) fun b_10↦qd (qs D b_6.2.1 b_10.1.1) fun b_11↦qd (qc3 D a1.2.2.1) fun b_12↦qd (qdi D b_12.1.1) fun b_13↦qd (qs D b_11.2.1 b_13.1.1) fun b_14↦qd (qgm D b_14.2.1 a1.2.1 [b.1.1,a1.2.2.1]) fun b↦some ((),b.2.1,())) (qd (qgm D b_6.2.1 a1.2.1 [b.1.1,a1.2.2.1]) fun b↦some ((),b.2.1,()))) (qd (qb9 D b.2.1 (decide (b.1.1=0))) fun b_1↦qd (qdj D b.1.1) fun b_2↦qd (qs D b_1.2.1 b_2.1.1) fun b_3↦qd (qc3 D b.1.1) fun b_4↦qd (qdi D b_4.1.1) fun b_5↦qd (qs D b_3.2.1 b_5.1.1) fun b_6↦qd (qgm D b_6.2.1 a1.2.1 [b.1.1]) fun b↦some ((),b.2.1,())))
def qh0 (D:DX)(n:Nat) (a0:tq24) (a1:tq37):Option tq21:=qkp D n a0 a1
theorem qbcp (D:DX)(n:Nat) (a0:tq24) (a1:tq37):rF D n 178 (a0,(a1,()))=qh0 D n a0 a1:=by kernel_rfl

def qnw (D:DX)(n:Nat) (a0:tq24) (a1:Int):Option ((Int×Unit)×tq23):=br a0.2.2.2.1 (some ((0,()),a0,())) (qd (qer D a0.1 a1) fun b↦br (bif decide (a1<0) then true else !b.1.2.1) (some ((0,()),(a0.1,a0.2.1,a1,true,a0.2.2.2.2),())) (br (decide (a0.2.1.length+1≤qb8)) (some ((b.1.1,()),(a0.1,a0.2.1++[a1],a0.2.2),())) none))
def qko (D:DX)(n:Nat) (a0:tq24) (a1:Int):Option ((Int×Unit)×tq23):=qnw D n a0 a1
theorem qbit (D:DX)(n:Nat) (a0:tq24) (a1:Int):rF D n 179 (a0,(a1,()))=qko D n a0 a1:=by kernel_rfl

def qbgt (D:DX)(n:Nat) (a0:tq24) (a1:Bool):Option tq21:=some ((),(a0.1,a0.2.1,a0.2.2.1,bif a0.2.2.2.1 then true else a1,a0.2.2.2.2),())
def q3i (D:DX)(n:Nat) (a0:tq24) (a1:Bool):Option tq21:=qbgt D n a0 a1
theorem qbf7 (D:DX)(n:Nat) (a0:tq24) (a1:Bool):rF D n 180 (a0,(a1,()))=q3i D n a0 a1:=by kernel_rfl

def qno (D:DX)(n:Nat) (a0 a1 a2:Int) (a3:List tq43) (a4:List tq37):Option tq29:=qd (qer D a3 a0) fun b↦br (bif decide (a0<0) then true else !b.1.2.1) (some ((),a4,())) (br (decide (a2=1)) (br (decide (a4.length+1≤qb8)) (some ((),a4++[(a0,b.1.1,wrap .i64 (b.1.1+1),())],())) none) (br (decide (a2 = -1)) (br (decide (a4.length+1≤qb8)) (some ((),a4++[(a0,b.1.1,if wrap .i64 (b.1.1 - 1)>0 then wrap .i64 (b.1.1 - 1) else 0,())],())) none) (br (decide (a4.length+1≤qb8)) (some ((),a4++[(a0,b.1.1,a1,())],())) none)))
def qkf (D:DX)(n:Nat) (a0 a1 a2:Int) (a3:List tq43) (a4:List tq37):Option tq29:=qno D n a0 a1 a2 a3 a4
theorem qbh8 (D:DX)(n:Nat) (a0 a1 a2:Int) (a3:List tq43) (a4:List tq37):rF D n 181 (a0,(a1,(a2,(a3,(a4,())))))=qkf D n a0 a1 a2 a3 a4:=by kernel_rfl

def qht (D:DX)(n:Nat) (a1:Clo) (a0:List tq37):Option tq29:=qd (qqb D (wrap .u64 (a0.length:Int))) fun b↦qd (qf D a0 0 (a0.length:Int) b.1.1 a1) fun b↦some ((),b.2.1,())
def qen (D:DX)(n:Nat) (a0:List tq37) (a1:Clo):Option tq29:=qht D n a1 a0
theorem qou (D:DX)(n:Nat) (a0:List tq37) (a1:Clo):rF D n 182 (a0,(a1,()))=qen D n a0 a1:=by kernel_rfl

def q57 (D:DX)(n:Nat) (a0 a1:tq37):Option tq42:=some ((wrap .i64 (a0.1 - a1.1),()),())
def quy (D:DX)(n:Nat) (a0 a1:tq37):Option tq42:=q57 D n a0 a1
theorem qbir (D:DX)(n:Nat) (a0 a1:tq37):rF D n 183 (a0,(a1,()))=quy D n a0 a1:=by kernel_rfl

def qic (D:DX)(n:Nat) (go:Int→Int→Int→Bool→Bool→List Int→Option tq38) (K0:List Int→Option tq38) (x0 x1 x2:Int) (x3 x4:Bool) (x5:List Int):Option tq38:=let y0:=wrap .i64 (x2 - 1);let y1:=wrap .i64 (x1 - x0);let y2:=Int.toNat (wrap .i64 (x0 - 1));br (decide (y1≤12)) (qd (qjy D x5 x0 x1) fun b↦K0 b.2.1) (br (decide (x2=0)) (qd (q0p D x5 x0 x1) fun b↦K0 b.2.1) (br (!x3) (qd (qts D x5 x0 x1) fun b↦qd (qks D b.2.1 x0 x1) fun b_1↦br (decide (b_1.1.2.1=2)) (qd (qke D b.2.1 x0 x1) fun b↦br (bif bif x3 then x4 else false then true else false) (qd (qc2 D b.2.1 x0 x1) fun b↦br b.1.1 (K0 b.2.1) (br (decide (x0>0)) (br (decide (0≤wrap .i64 (x0 - 1))&&decide (wrap .i64 (x0 - 1)<(b.2.1.length:Int))) (br (decide (0≤wrap .i64 (wrap .i64 (x1 - 1) - wrap .i64 (b_1.1.1 - x0)))&&decide (wrap .i64 (wrap .i64 (x1 - 1) - wrap .i64 (b_1.1.1 - x0))<(b.2.1.length:Int))) (qd (qdm D (List.getD b.2.1 y2 0) (List.getD b.2.1 (Int.toNat (wrap .i64 (wrap .i64 (x1 - 1) - wrap .i64 (b_1.1.1 - x0)))) 0)) fun b_2↦let a:=wrap .i64 (wrap .i64 (x1 - 1) - wrap .i64 (b_1.1.1 - x0));br (!b_2.1.1) (qd (qbr D b.2.1 x0 x1 a) fun b↦go b.1.1 x1 y0 x3 x4 b.2.1) (qd (qv D b.2.1 x0 x1 a) fun b↦br (decide (wrap .i64 (b.1.1 - x0)<wrap .i64 (x1 - b.1.1))) (qd (qj D b.2.1 x0 b.1.1 y0) fun b_3↦go (wrap .i64 (b.1.1+1)) x1 y0 (decide (wrap .i64 (b.1.1 - x0)≥wrap .i64 (Int.tdiv y1 8))) b.1.2.1 b_3.2.1) (qd (qj D b.2.1 (wrap .i64 (b.1.1+1)) x1 y0) fun b_3↦go x0 b.1.1 y0 (decide (wrap .i64 (x1 - b.1.1)≥wrap .i64 (Int.tdiv y1 8))) b.1.2.1 b_3.2.1))) none) none) (qd (qv D b.2.1 x0 x1 (wrap .i64 (wrap .i64 (x1 - 1) - wrap .i64 (b_1.1.1 - x0)))) fun b↦br (decide (wrap .i64 (b.1.1 - x0)<wrap .i64 (x1 - b.1.1))) (qd (qj D b.2.1 x0 b.1.1 y0) fun b_2↦go (wrap .i64 (b.1.1+1)) x1 y0 (decide (wrap .i64 (b.1.1 - x0)≥wrap .i64 (Int.tdiv y1 8))) b.1.2.1 b_2.2.1) (qd (qj D b.2.1 (wrap .i64 (b.1.1+1)) x1 y0) fun b_2↦go x0 b.1.1 y0 (decide (wrap .i64 (x1 - b.1.1)≥wrap .i64 (Int.tdiv y1 8))) b.1.2.1 b_2.2.1)))) (br (decide (x0>0)) (br (decide (0≤wrap .i64 (x0 - 1))&&decide (wrap .i64 (x0 - 1)<(b.2.1.length:Int))) (br (decide (0≤wrap .i64 (wrap .i64 (x1 - 1) - wrap .i64 (b_1.1.1 - x0)))&&decide (wrap .i64 (wrap .i64 (x1 - 1) - wrap .i64 (b_1.1.1 - x0))<(b.2.1.length:Int))) (qd (qdm D (List.getD b.2.1 y2 0) (List.getD b.2.1 (Int.toNat (wrap .i64 (wrap .i64 (x1 - 1) - wrap .i64 (b_1.1.1 - x0)))) 0)) fun b_2↦let c:=wrap .i64 (wrap .i64 (x1 - 1) - wrap .i64 (b_1.1.1 - x0));br (!b_2.1.1) (qd (qbr D b.2.1 x0 x1 c) fun b↦go b.1.1 x1 y0 x3 x4 b.2.1) (qd (qv D b.2.1 x0 x1 c) fun b↦br (decide (wrap .i64 (b.1.1 - x0)<wrap .i64 (x1 - b.1.1))) (qd (qj D b.2.1 x0 b.1.1 y0) fun b_3↦go (wrap .i64 (b.1.1+1)) x1 y0 (decide (wrap .i64 (b.1.1 - x0)≥wrap .i64 (Int.tdiv y1 8))) b.1.2.1 b_3.2.1) (qd (qj D b.2.1 (wrap .i64 (b.1.1+1)) x1 y0) fun b_3↦go x0 b.1.1 y0 (decide (wrap .i64 (x1 - b.1.1)≥wrap .i64 (Int.tdiv y1 8))) b.1.2.1 b_3.2.1))) none) none) (qd (qv D b.2.1 x0 x1 (wrap .i64 (wrap .i64 (x1 - 1) - wrap .i64 (b_1.1.1 - x0)))) fun b↦br (decide (wrap .i64 (b.1.1 - x0)<wrap .i64 (x1 - b.1.1))) (qd (qj D b.2.1 x0 b.1.1 y0) fun b_2↦go (wrap .i64 (b.1.1+1)) x1 y0 (decide (wrap .i64 (b.1.1 - x0)≥wrap .i64 (Int.tdiv y1 8))) b.1.2.1 b_2.2.1) (qd (qj D b.2.1 (wrap .i64 (b.1.1+1)) x1 y0) fun b_2↦go x0 b.1.1 y0 (decide (wrap .i64 (x1 - b.1.1)≥wrap .i64 (Int.tdiv y1 8))) b.1.2.1 b_2.2.1)))) (br (bif bif x3 then x4 else false then decide (b_1.1.2.1=1) else false) (qd (qc2 D b.2.1 x0 x1) fun b↦br b.1.1 (K0 b.2.1) (br (decide (x0>0)) (br (decide (0≤wrap .i64 (x0 - 1))&&decide (wrap .i64 (x0 - 1)<(b.2.1.length:Int))) (br (decide (0≤b_1.1.1)&&decide (b_1.1.1<(b.2.1.length:Int))) (qd (qdm D (List.getD b.2.1 y2 0) (List.getD b.2.1 b_1.1.1.toNat 0)) fun b_2↦br (!b_2.1.1) (qd (qbr D b.2.1 x0 x1 b_1.1.1) fun b↦go b.1.1 x1 y0 x3 x4 b.2.1) (qd (qv D b.2.1 x0 x1 b_1.1.1) fun b↦br (decide (wrap .i64 (b.1.1 - x0)<wrap .i64 (x1 - b.1.1))) (qd (qj D b.2.1 x0 b.1.1 y0) fun b_3↦go (wrap .i64 (b.1.1+1)) x1 y0 (decide (wrap .i64 (b.1.1 - x0)≥wrap .i64 (Int.tdiv y1 8))) b.1.2.1 b_3.2.1) (qd (qj D b.2.1 (wrap .i64 (b.1.1+1)) x1 y0) fun b_3↦go x0 b.1.1 y0 (decide (wrap .i64 (x1 - b.1.1)≥wrap .i64 (Int.tdiv y1 8))) b.1.2.1 b_3.2.1))) none) none) (qd (qv D b.2.1 x0 x1 b_1.1.1) fun b↦br (decide (wrap .i64 (b.1.1 - x0)<wrap .i64 (x1 - b.1.1))) (qd (qj D b.2.1 x0 b.1.1 y0) fun b_2↦go (wrap .i64 (b.1.1+1)) x1 y0 (decide (wrap .i64 (b.1.1 - x0)≥wrap .i64 (Int.tdiv y1 8))) b.1.2.1 b_2.2.1) (qd (qj D b.2.1 (wrap .i64 (b.1.1+1)) x1 y0) fun b_2↦go x0 b.1.1 y0 (decide (wrap .i64 (x1 - b.1.1)≥wrap .i64 (Int.tdiv y1 8))) b.1.2.1 b_2.2.1)))) (br (decide (x0>0)) (br (decide (0≤wrap .i64 (x0 - 1))&&decide (wrap .i64 (x0 - 1)<(b.2.1.length:Int))) (br (decide (0≤b_1.1.1)&&decide (b_1.1.1<(b.2.1.length:Int))) (qd (qdm D (List.getD b.2.1 y2 0) (List.getD b.2.1 b_1.1.1.toNat 0)) fun b_2↦br (!b_2.1.1) (qd (qbr D b.2.1 x0 x1 b_1.1.1) fun b↦go b.1.1 x1 y0 x3 x4 b.2.1) (qd (qv D b.2.1 x0 x1 b_1.1.1) fun b↦br (decide (wrap .i64 (b.1.1 - x0)<wrap .i64 (x1 - b.1.1))) (qd (qj D b.2.1 x0 b.1.1 y0) fun b_3↦go (wrap .i64 (b.1.1+1)) x1 y0 (decide (wrap .i64 (b.1.1 - x0)≥wrap .i64 (Int.tdiv y1 8))) b.1.2.1 b_3.2.1) (qd (qj D b.2.1 (wrap .i64 (b.1.1+1)) x1 y0) fun b_3↦go x0 b.1.1 y0 (decide (wrap .i64 (x1 - b.1.1)≥wrap .i64 (Int.tdiv y1 8))) b.1.2.1 b_3.2.1))) none) none) (qd (qv D b.2.1 x0 x1 b_1.1.1) fun b↦br (decide (wrap .i64 (b.1.1 - x0)<wrap .i64 (x1 - b.1.1))) (qd (qj D b.2.1 x0 b.1.1 y0) fun b_2↦go (wrap .i64 (b.1.1+1)) x1 y0 (decide (wrap .i64 (b.1.1 - x0)≥wrap .i64 (Int.tdiv y1 8))) b.1.2.1 b_2.2.1) (qd (qj D b.2.1 (wrap .i64 (b.1.1+1)) x1 y0) fun b_2↦go x0 b.1.1 y0 (decide (wrap .i64 (x1 - b.1.1)≥wrap .i64 (Int.tdiv y1 8))) b.1.2.1 b_2.2.1))))) (qd (qks D x5 x0 x1) fun b↦br (decide (b.1.2.1=2)) (qd (qke D x5 x0 x1) fun b_1↦br (bif bif x3 then x4 else false then true else false) (qd (qc2 D b_1.2.1 x0 x1) fun b_2↦br b_2.1.1 (K0 b_2.2.1) (br (decide (x0>0)) (br (decide (0≤wrap .i64 (x0 - 1))&&decide (wrap .i64 (x0 - 1)<(b_2.2.1.length:Int))) (br (decide (0≤wrap .i64 (wrap .i64 (x1 - 1) - wrap .i64 (b.1.1 - x0)))&&decide (wrap .i64 (wrap .i64 (x1 - 1) - wrap .i64 (b.1.1 - x0))<(b_2.2.1.length:Int))) (qd (qdm D (List.getD b_2.2.1 y2 0) (List.getD b_2.2.1 (Int.toNat (wrap .i64 (wrap .i64 (x1 - 1) - wrap .i64 (b.1.1 - x0)))) 0)) fun b_3↦br (!b_3.1.1) (qd (qbr D b_2.2.1 x0 x1 (wrap .i64 (wrap .i64 (x1 - 1) - wrap .i64 (b.1.1 - x0)))) fun b↦go b.1.1 x1 x2 x3 x4 b.2.1) (qd (qv D b_2.2.1 x0 x1 (wrap .i64 (wrap .i64 (x1 - 1) - wrap .i64 (b.1.1 - x0)))) fun b↦br (decide (wrap .i64 (b.1.1 - x0)<wrap .i64 (x1 - b.1.1))) (qd (qj D b.2.1 x0 b.1.1 x2) fun b_4↦go (wrap .i64 (b.1.1+1)) x1 x2 (decide (wrap .i64 (b.1.1 - x0)≥wrap .i64 (Int.tdiv y1 8))) b.1.2.1 b_4.2.1) (qd (qj D b.2.1 (wrap .i64 (b.1.1+1)) x1 x2) fun b_4↦go x0 b.1.1 x2 (decide (wrap .i64 (x1 - b.1.1)≥wrap .i64 (Int.tdiv y1 8))) b.1.2.1 b_4.2.1))) none) none) (qd (qv D b_2.2.1 x0 x1 (wrap .i64 (wrap .i64 (x1 - 1) - wrap .i64 (b.1.1 - x0)))) fun b↦br (decide (wrap .i64 (b.1.1 - x0)<wrap .i64 (x1 - b.1.1))) (qd (qj D b.2.1 x0 b.1.1 x2) fun b_3↦go (wrap .i64 (b.1.1+1)) x1 x2 (decide (wrap .i64 (b.1.1 - x0)≥wrap .i64 (Int.tdiv y1 8))) b.1.2.1 b_3.2.1) (qd (qj D b.2.1 (wrap .i64 (b.1.1+1)) x1 x2) fun b_3↦go x0 b.1.1 x2 (decide (wrap .i64 (x1 - b.1.1)≥wrap .i64 (Int.tdiv y1 8))) b.1.2.1 b_3.2.1)))) (br (decide (x0>0)) (br (decide (0≤wrap .i64 (x0 - 1))&&decide (wrap .i64 (x0 - 1)<(b_1.2.1.length:Int))) (br (decide (0≤wrap .i64 (wrap .i64 (x1 - 1) - wrap .i64 (b.1.1 - x0)))&&decide (wrap .i64 (wrap .i64 (x1 - 1) - wrap .i64 (b.1.1 - x0))<(b_1.2.1.length:Int))) (qd (qdm D (List.getD b_1.2.1 y2 0) (List.getD b_1.2.1 (Int.toNat (wrap .i64 (wrap .i64 (x1 - 1) - wrap .i64 (b.1.1 - x0)))) 0)) fun b_2↦br (!b_2.1.1) (qd (qbr D b_1.2.1 x0 x1 (wrap .i64 (wrap .i64 (x1 - 1) - wrap .i64 (b.1.1 - x0)))) fun b↦go b.1.1 x1 x2 x3 x4 b.2.1) (qd (qv D b_1.2.1 x0 x1 (wrap .i64 (wrap .i64 (x1 - 1) - wrap .i64 (b.1.1 - x0)))) fun b↦br (decide (wrap .i64 (b.1.1 - x0)<wrap .i64 (x1 - b.1.1))) (qd (qj D b.2.1 x0 b.1.1 x2) fun b_3↦go (wrap .i64 (b.1.1+1)) x1 x2 (decide (wrap .i64 (b.1.1 - x0)≥wrap .i64 (Int.tdiv y1 8))) b.1.2.1 b_3.2.1) (qd (qj D b.2.1 (wrap .i64 (b.1.1+1)) x1 x2) fun b_3↦go x0 b.1.1 x2 (decide (wrap .i64 (x1 - b.1.1)≥wrap .i64 (Int.tdiv y1 8))) b.1.2.1 b_3.2.1))) none) none) (qd (qv D b_1.2.1 x0 x1 (wrap .i64 (wrap .i64 (x1 - 1) - wrap .i64 (b.1.1 - x0)))) fun b↦br (decide (wrap .i64 (b.1.1 - x0)<wrap .i64 (x1 - b.1.1))) (qd (qj D b.2.1 x0 b.1.1 x2) fun b_2↦go (wrap .i64 (b.1.1+1)) x1 x2 (decide (wrap .i64 (b.1.1 - x0)≥wrap .i64 (Int.tdiv y1 8))) b.1.2.1 b_2.2.1) (qd (qj D b.2.1 (wrap .i64 (b.1.1+1)) x1 x2) fun b_2↦go x0 b.1.1 x2 (decide (wrap .i64 (x1 - b.1.1)≥wrap .i64 (Int.tdiv y1 8))) b.1.2.1 b_2.2.1)))) (br (bif bif x3 then x4 else false then decide (b.1.2.1=1) else false) (qd (qc2 D x5 x0 x1) fun b_1↦br b_1.1.1 (K0 b_1.2.1) (br (decide (x0>0)) (br (decide (0≤wrap .i64 (x0 - 1))&&decide (wrap .i64 (x0 - 1)<(b_1.2.1.length:Int))) (br (decide (0≤b.1.1)&&decide (b.1.1<(b_1.2.1.length:Int))) (qd (qdm D (List.getD b_1.2.1 y2 0) (List.getD b_1.2.1 b.1.1.toNat 0)) fun b_2↦br (!b_2.1.1) (qd (qbr D b_1.2.1 x0 x1 b.1.1) fun b↦go b.1.1 x1 x2 x3 x4 b.2.1) (qd (qv D b_1.2.1 x0 x1 b.1.1) fun b↦br (decide (wrap .i64 (b.1.1 - x0)<wrap .i64 (x1 - b.1.1))) (qd (qj D b.2.1 x0 b.1.1 x2) fun b_3↦go (wrap .i64 (b.1.1+1)) x1 x2 (decide (wrap .i64 (b.1.1 - x0)≥wrap .i64 (Int.tdiv y1 8))) b.1.2.1 b_3.2.1) (qd (qj D b.2.1 (wrap .i64 (b.1.1+1)) x1 x2) fun b_3↦go x0 b.1.1 x2 (decide (wrap .i64 (x1 - b.1.1)≥wrap .i64 (Int.tdiv y1 8))) b.1.2.1 b_3.2.1))) none) none) (qd (qv D b_1.2.1 x0 x1 b.1.1) fun b↦br (decide (wrap .i64 (b.1.1 - x0)<wrap .i64 (x1 - b.1.1))) (qd (qj D b.2.1 x0 b.1.1 x2) fun b_2↦go (wrap .i64 (b.1.1+1)) x1 x2 (decide (wrap .i64 (b.1.1 - x0)≥wrap .i64 (Int.tdiv y1 8))) b.1.2.1 b_2.2.1) (qd (qj D b.2.1 (wrap .i64 (b.1.1+1)) x1 x2) fun b_2↦go x0 b.1.1 x2 (decide (wrap .i64 (x1 - b.1.1)≥wrap .i64 (Int.tdiv y1 8))) b.1.2.1 b_2.2.1)))) (br (decide (x0>0)) (br (decide (0≤wrap .i64 (x0 - 1))&&decide (wrap .i64 (x0 - 1)<(x5.length:Int))) (br (decide (0≤b.1.1)&&decide (b.1.1<(x5.length:Int))) (qd (qdm D (List.getD x5 y2 0) (List.getD x5 b.1.1.toNat 0)) fun b_1↦br (!b_1.1.1) (qd (qbr D x5 x0 x1 b.1.1) fun b↦go b.1.1 x1 x2 x3 x4 b.2.1) (qd (qv D x5 x0 x1 b.1.1) fun b↦br (decide (wrap .i64 (b.1.1 - x0)<wrap .i64 (x1 - b.1.1))) (qd (qj D b.2.1 x0 b.1.1 x2) fun b_2↦go (wrap .i64 (b.1.1+1)) x1 x2 (decide (wrap .i64 (b.1.1 - x0)≥wrap .i64 (Int.tdiv y1 8))) b.1.2.1 b_2.2.1) (qd (qj D b.2.1 (wrap .i64 (b.1.1+1)) x1 x2) fun b_2↦go x0 b.1.1 x2 (decide (wrap .i64 (x1 - b.1.1)≥wrap .i64 (Int.tdiv y1 8))) b.1.2.1 b_2.2.1))) none) none) (qd (qv D x5 x0 x1 b.1.1) fun b↦br (decide (wrap .i64 (b.1.1 - x0)<wrap .i64 (x1 - b.1.1))) (qd (qj D b.2.1 x0 b.1.1 x2) fun b_1↦go (wrap .i64 (b.1.1+1)) x1 x2 (decide (wrap .i64 (b.1.1 - x0)≥wrap .i64 (Int.tdiv y1 8))) b.1.2.1 b_1.2.1) (qd (qj D b.2.1 (wrap .i64 (b.1.1+1)) x1 x2) fun b_1↦go x0 b.1.1 x2 (decide (wrap .i64 (x1 - b.1.1)≥wrap .i64 (Int.tdiv y1 8))) b.1.2.1 b_1.2.1)))))))
def qfk (D:DX)(n:Nat) (K0:List Int→Option tq38):Nat→Int→Int→Int→Bool→Bool→(List Int)→Option tq38 | 0=>(fun x0 x1 x2 x3 x4 x5=>none) | m+1=>(fun x0 x1 x2 x3 x4 x5=>qic D n (qfk D n K0 m) K0 x0 x1 x2 x3 x4 x5)
def qxb (D:DX)(n:Nat) (a:List Int):Option tq38:=some ((),a,())
def qhu (D:DX)(n:Nat):(Int)→(Int)→(Int)→(Bool)→(Bool)→(List Int)→Option tq38:=(fun x0 x1 x2 x3 x4 x5=>qfk D n (fun a=>qxb D n a) n x0 x1 x2 x3 x4 x5)
def qi2 (D:DX)(n:Nat) (lp0:Int→Int→Int→Bool→Bool→List Int→Option tq38) (a0:List Int) (a1 a2 a3:Int):Option tq38:=lp0 a1 a2 a3 true true a0
def qi5 (D:DX)(n:Nat) (a0:List Int) (a1 a2 a3:Int):Option tq38:=qi2 D n (qhu D n) a0 a1 a2 a3
def qii (x0 x1 x2:Int) (x3 x4:Bool) (x5:List Int):St:=stq 134 [(0,AV.brw 0 [] 1048576),(1,AV.val yq34 x0),(2,AV.val yq34 x1),(3,AV.val yq34 x2),(8,AV.val Ty.bool x3),(9,AV.val Ty.bool x4)] [(0,Root.mk yq30 kq33 x5 false)]
def qlh (a:List Int):St:=stq 134 [(0,AV.brw 0 [] 1048576)] [(0,Root.mk yq30 kq33 a false)]
theorem qx3 (D:DX)(n:Nat) (K:KT 184):∀ (m:Nat) (x0 x1 x2:Int) (x3 x4:Bool) (x5:List Int),LF D n 184 pq15 m (qii x0 x1 x2 x3 x4 x5) K=qfk D n (fun a=>K (Ex.ret) (qlh a)) m x0 x1 x2 x3 x4 x5:=eL6 (fun F=>qic D n F (fun a=>K (Ex.ret) (qlh a))) (fun _ _ _ _ _ _ =>q7 ..) (fun _ _ _ _ _ _ _ =>by kernel_rfl) (fun _ _ _ _ _ _ _ =>rfl)
theorem qwr (D:DX)(n:Nat) (x0) (x1) (x2) (x3) (x4) (x5):LF D n 184 pq15 n (qii x0 x1 x2 x3 x4 x5) (CF D n 184 [] pq15 (lF 184))=qhu D n x0 x1 x2 x3 x4 x5 :=by rw[qx3];kernel_rfl
theorem q07 (D:DX)(n:Nat) (a0:List Int) (a1 a2 a3:Int):rF D n 184 (a0,(a1,(a2,(a3,()))))=qi5 D n a0 a1 a2 a3:=by
 have h:rF D n 184 (a0,(a1,(a2,(a3,()))))=qi2 D n (fun x0 x1 x2 x3 x4 x5=>LF D n 184 pq15 n (qii x0 x1 x2 x3 x4 x5) (CF D n 184 [] pq15 (lF 184))) a0 a1 a2 a3:=by kernel_rfl
 rw[h]
 simp only[qwr]
 rfl

def q7c (D:DX)(n:Nat) (a0:Int):Option tq42:=qd (q32 D a0) fun b↦some ((b.1.1,()),())
def qwa (D:DX)(n:Nat) (a0:Int):Option tq42:=q7c D n a0
theorem qbln (D:DX)(n:Nat) (a0:Int):rF D n 185 (a0,())=qwa D n a0:=by kernel_rfl

def qma (D:DX)(n:Nat) (go:List Int→Int→Int→tq24→Option tq21) (K0:tq24→Option tq21) (x0:List Int) (x1 x2:Int) (x3:tq24):Option tq21:=br (decide (x2<x1)) (br (decide (0≤x2)&&decide (x2<(x0.length:Int))) (qd (qej D (List.getD x0 x2.toNat 0)) fun b↦qd (qs D x3 b.1.1) fun b↦go x0 x1 (wrap .i64 (x2+1)) b.2.1) none) (K0 x3)
def qf2 (D:DX)(n:Nat) (K0:tq24→Option tq21):Nat→(List Int)→Int→Int→tq24→Option tq21 | 0=>(fun x0 x1 x2 x3=>none) | m+1=>(fun x0 x1 x2 x3=>qma D n (qf2 D n K0 m) K0 x0 x1 x2 x3)
def qh6 (D:DX)(n:Nat) (a:tq24):Option tq21:=some ((),a,())
def qlc (D:DX)(n:Nat):(List Int)→(Int)→(Int)→tq24→Option tq21:=(fun x0 x1 x2 x3=>qf2 D n (fun a=>qh6 D n a) n x0 x1 x2 x3)
def qoe (D:DX)(n:Nat) (lp0:List Int→Int→Int→tq24→Option tq21) (a0:tq24) (a1:Int) (a2:List Int):Option tq21:=qd (qcp D) fun b↦qd (qs D a0 b.1.1) fun b↦qd (qb9 D b.2.1 (decide (b.1.1≤wrap .i64 (a1+1)))) fun b↦lp0 a2 (a2.length:Int) 0 b.2.1
def qn3 (D:DX)(n:Nat) (a0:tq24) (a1:Int) (a2:List Int):Option tq21:=qoe D n (qlc D n) a0 a1 a2
def qtc (x0:List Int) (x1 x2:Int) (x3:tq24):St:=stq 29 [(0,AV.addr 0 []),(18,AV.val yq30 x0),(19,AV.val yq34 x1),(20,AV.val yq34 x2)] [(0,Root.mk yq12 kq28 x3 true)]
def qx5 (a:tq24):St:=stq 29 [(0,AV.addr 0 [])] [(0,Root.mk yq12 kq28 a true)]
theorem qbd0 (D:DX)(n:Nat) (K:KT 186):∀ (m:Nat) (x0:List Int) (x1 x2:Int) (x3:tq24),LF D n 186 [.r,.r,.r,.l] m (qtc x0 x1 x2 x3) K=qf2 D n (fun a=>K (Ex.exit 0) (qx5 a)) m x0 x1 x2 x3:=eL4 (fun F=>qma D n F (fun a=>K (Ex.exit 0) (qx5 a))) (fun _ _ _ _ =>q7 ..) (fun _ _ _ _ _ =>by kernel_rfl) (fun _ _ _ _ _ =>rfl)
theorem qbcg (D:DX)(n:Nat) (x0) (x1) (x2) (x3):LF D n 186 [.r,.r,.r,.l] n (qtc x0 x1 x2 x3) (CF D n 186 [] [.r,.r,.r,.l] (lF 186))=qlc D n x0 x1 x2 x3 :=by rw[qbd0];kernel_rfl
theorem qbil (D:DX)(n:Nat) (a0:tq24) (a1:Int) (a2:List Int):rF D n 186 (a0,(a1,(a2,())))=qn3 D n a0 a1 a2:=by
 have h:rF D n 186 (a0,(a1,(a2,())))=qoe D n (fun x0 x1 x2 x3=>LF D n 186 [.r,.r,.r,.l] n (qtc x0 x1 x2 x3) (CF D n 186 [] [.r,.r,.r,.l] (lF 186))) a0 a1 a2:=by kernel_rfl
 rw[h]
 simp only[qbcg]
 rfl

def qfl (D:DX)(n:Nat) (a4:Clo) (go:Int→Int→Int→Bool→Bool→List tq37→Option tq29) (K0:List tq37→Option tq29) (x0 x1 x2:Int) (x3 x4:Bool) (x5:List tq37):Option tq29:=let y0:=wrap .i64 (x2 - 1);let y1:=wrap .i64 (x1 - x0);let y2:=Int.toNat (wrap .i64 (x0 - 1));br (decide (y1≤12)) (qd (qhk D x5 x0 x1 a4) fun b↦K0 b.2.1) (br (decide (x2=0)) (qd (qsc D x5 x0 x1 a4) fun b↦K0 b.2.1) (br (!x3) (qd (qn0 D x5 x0 x1 a4) fun b↦qd (qib D b.2.1 x0 x1 a4) fun b_1↦br (decide (b_1.1.2.1=2)) (qd (qhs D b.2.1 x0 x1 a4) fun b↦br (bif bif x3 then x4 else false then true else false) (qd (qcf D b.2.1 x0 x1 a4) fun b↦br b.1.1 (K0 b.2.1) (br (decide (x0>0)) (br (decide (0≤wrap .i64 (x0 - 1))&&decide (wrap .i64 (x0 - 1)<(b.2.1.length:Int))) (br (decide (0≤wrap .i64 (wrap .i64 (x1 - 1) - wrap .i64 (b_1.1.1 - x0)))&&decide (wrap .i64 (wrap .i64 (x1 - 1) - wrap .i64 (b_1.1.1 - x0))<(b.2.1.length:Int))) (qd (qbj ctx D a4 [CapV.val yq21 (List.getD b.2.1 y2 (0,0,0,())),CapV.val yq21 (List.getD b.2.1 (Int.toNat (wrap .i64 (wrap .i64 (x1 - 1) - wrap .i64 (b_1.1.1 - x0)))) (0,0,0,()))] yq34) fun b_2↦let a:=wrap .i64 (wrap .i64 (x1 - 1) - wrap .i64 (b_1.1.1 - x0));br (!decide (b_2<0)) (qd (qbc D b.2.1 x0 x1 a a4) fun b↦go b.1.1 x1 y0 x3 x4 b.2.1) (qd (qm D b.2.1 x0 x1 a a4) fun b↦br (decide (wrap .i64 (b.1.1 - x0)<wrap .i64 (x1 - b.1.1))) (qd (qf D b.2.1 x0 b.1.1 y0 a4) fun b_3↦go (wrap .i64 (b.1.1+1)) x1 y0 (decide (wrap .i64 (b.1.1 - x0)≥wrap .i64 (Int.tdiv y1 8))) b.1.2.1 b_3.2.1) (qd (qf D b.2.1 (wrap .i64 (b.1.1+1)) x1 y0 a4) fun b_3↦go x0 b.1.1 y0 (decide (wrap .i64 (x1 - b.1.1)≥wrap .i64 (Int.tdiv y1 8))) b.1.2.1 b_3.2.1))) none) none) (qd (qm D b.2.1 x0 x1 (wrap .i64 (wrap .i64 (x1 - 1) - wrap .i64 (b_1.1.1 - x0))) a4) fun b↦br (decide (wrap .i64 (b.1.1 - x0)<wrap .i64 (x1 - b.1.1))) (qd (qf D b.2.1 x0 b.1.1 y0 a4) fun b_2↦go (wrap .i64 (b.1.1+1)) x1 y0 (decide (wrap .i64 (b.1.1 - x0)≥wrap .i64 (Int.tdiv y1 8))) b.1.2.1 b_2.2.1) (qd (qf D b.2.1 (wrap .i64 (b.1.1+1)) x1 y0 a4) fun b_2↦go x0 b.1.1 y0 (decide (wrap .i64 (x1 - b.1.1)≥wrap .i64 (Int.tdiv y1 8))) b.1.2.1 b_2.2.1)))) (br (decide (x0>0)) (br (decide (0≤wrap .i64 (x0 - 1))&&decide (wrap .i64 (x0 - 1)<(b.2.1.length:Int))) (br (decide (0≤wrap .i64 (wrap .i64 (x1 - 1) - wrap .i64 (b_1.1.1 - x0)))&&decide (wrap .i64 (wrap .i64 (x1 - 1) - wrap .i64 (b_1.1.1 - x0))<(b.2.1.length:Int))) (qd (qbj ctx D a4 [CapV.val yq21 (List.getD b.2.1 y2 (0,0,0,())),CapV.val yq21 (List.getD b.2.1 (Int.toNat (wrap .i64 (wrap .i64 (x1 - 1) - wrap .i64 (b_1.1.1 - x0)))) (0,0,0,()))] yq34) fun b_2↦let c:=wrap .i64 (wrap .i64 (x1 - 1) - wrap .i64 (b_1.1.1 - x0));br (!decide (b_2<0)) (qd (qbc D b.2.1 x0 x1 c a4) fun b↦go b.1.1 x1 y0 x3 x4 b.2.1) (qd (qm D b.2.1 x0 x1 c a4) fun b↦br (decide (wrap .i64 (b.1.1 - x0)<wrap .i64 (x1 - b.1.1))) (qd (qf D b.2.1 x0 b.1.1 y0 a4) fun b_3↦go (wrap .i64 (b.1.1+1)) x1 y0 (decide (wrap .i64 (b.1.1 - x0)≥wrap .i64 (Int.tdiv y1 8))) b.1.2.1 b_3.2.1) (qd (qf D b.2.1 (wrap .i64 (b.1.1+1)) x1 y0 a4) fun b_3↦go x0 b.1.1 y0 (decide (wrap .i64 (x1 - b.1.1)≥wrap .i64 (Int.tdiv y1 8))) b.1.2.1 b_3.2.1))) none) none) (qd (qm D b.2.1 x0 x1 (wrap .i64 (wrap .i64 (x1 - 1) - wrap .i64 (b_1.1.1 - x0))) a4) fun b↦br (decide (wrap .i64 (b.1.1 - x0)<wrap .i64 (x1 - b.1.1))) (qd (qf D b.2.1 x0 b.1.1 y0 a4) fun b_2↦go (wrap .i64 (b.1.1+1)) x1 y0 (decide (wrap .i64 (b.1.1 - x0)≥wrap .i64 (Int.tdiv y1 8))) b.1.2.1 b_2.2.1) (qd (qf D b.2.1 (wrap .i64 (b.1.1+1)) x1 y0 a4) fun b_2↦go x0 b.1.1 y0 (decide (wrap .i64 (x1 - b.1.1)≥wrap .i64 (Int.tdiv y1 8))) b.1.2.1 b_2.2.1)))) (br (bif bif x3 then x4 else false then decide (b_1.1.2.1=1) else false) (qd (qcf D b.2.1 x0 x1 a4) fun b↦br b.1.1 (K0 b.2.1) (br (decide (x0>0)) (br (decide (0≤wrap .i64 (x0 - 1))&&decide (wrap .i64 (x0 - 1)<(b.2.1.length:Int))) (br (decide (0≤b_1.1.1)&&decide (b_1.1.1<(b.2.1.length:Int))) (qd (qbj ctx D a4 [CapV.val yq21 (List.getD b.2.1 y2 (0,0,0,())),CapV.val yq21 (List.getD b.2.1 b_1.1.1.toNat (0,0,0,()))] yq34) fun b_2↦br (!decide (b_2<0)) (qd (qbc D b.2.1 x0 x1 b_1.1.1 a4) fun b↦go b.1.1 x1 y0 x3 x4 b.2.1) (qd (qm D b.2.1 x0 x1 b_1.1.1 a4) fun b↦br (decide (wrap .i64 (b.1.1 - x0)<wrap .i64 (x1 - b.1.1))) (qd (qf D b.2.1 x0 b.1.1 y0 a4) fun b_3↦go (wrap .i64 (b.1.1+1)) x1 y0 (decide (wrap .i64 (b.1.1 - x0)≥wrap .i64 (Int.tdiv y1 8))) b.1.2.1 b_3.2.1) (qd (qf D b.2.1 (wrap .i64 (b.1.1+1)) x1 y0 a4) fun b_3↦go x0 b.1.1 y0 (decide (wrap .i64 (x1 - b.1.1)≥wrap .i64 (Int.tdiv y1 8))) b.1.2.1 b_3.2.1))) none) none) (qd (qm D b.2.1 x0 x1 b_1.1.1 a4) fun b↦br (decide (wrap .i64 (b.1.1 - x0)<wrap .i64 (x1 - b.1.1))) (qd (qf D b.2.1 x0 b.1.1 y0 a4) fun b_2↦go (wrap .i64 (b.1.1+1)) x1 y0 (decide (wrap .i64 (b.1.1 - x0)≥wrap .i64 (Int.tdiv y1 8))) b.1.2.1 b_2.2.1) (qd (qf D b.2.1 (wrap .i64 (b.1.1+1)) x1 y0 a4) fun b_2↦go x0 b.1.1 y0 (decide (wrap .i64 (x1 - b.1.1)≥wrap .i64 (Int.tdiv y1 8))) b.1.2.1 b_2.2.1)))) (br (decide (x0>0)) (br (decide (0≤wrap .i64 (x0 - 1))&&decide (wrap .i64 (x0 - 1)<(b.2.1.length:Int))) (br (decide (0≤b_1.1.1)&&decide (b_1.1.1<(b.2.1.length:Int))) (qd (qbj ctx D a4 [CapV.val yq21 (List.getD b.2.1 y2 (0,0,0,())),CapV.val yq21 (List.getD b.2.1 b_1.1.1.toNat (0,0,0,()))] yq34) fun b_2↦br (!decide (b_2<0)) (qd (qbc D b.2.1 x0 x1 b_1.1.1 a4) fun b↦go b.1.1 x1 y0 x3 x4 b.2.1) (qd (qm D b.2.1 x0 x1 b_1.1.1 a4) fun b↦br (decide (wrap .i64 (b.1.1 - x0)<wrap .i64 (x1 - b.1.1))) (qd (qf D b.2.1 x0 b.1.1 y0 a4) fun b_3↦go (wrap .i64 (b.1.1+1)) x1 y0 (decide (wrap .i64 (b.1.1 - x0)≥wrap .i64 (Int.tdiv y1 8))) b.1.2.1 b_3.2.1) (qd (qf D b.2.1 (wrap .i64 (b.1.1+1)) x1 y0 a4) fun b_3↦go x0 b.1.1 y0 (decide (wrap .i64 (x1 - b.1.1)≥wrap .i64 (Int.tdiv y1 8))) b.1.2.1 b_3.2.1))) none) none) (qd (qm D b.2.1 x0 x1 b_1.1.1 a4) fun b↦br (decide (wrap .i64 (b.1.1 - x0)<wrap .i64 (x1 - b.1.1))) (qd (qf D b.2.1 x0 b.1.1 y0 a4) fun b_2↦go (wrap .i64 (b.1.1+1)) x1 y0 (decide (wrap .i64 (b.1.1 - x0)≥wrap .i64 (Int.tdiv y1 8))) b.1.2.1 b_2.2.1) (qd (qf D b.2.1 (wrap .i64 (b.1.1+1)) x1 y0 a4) fun b_2↦go x0 b.1.1 y0 (decide (wrap .i64 (x1 - b.1.1)≥wrap .i64 (Int.tdiv y1 8))) b.1.2.1 b_2.2.1))))) (qd (qib D x5 x0 x1 a4) fun b↦br (decide (b.1.2.1=2)) (qd (qhs D x5 x0 x1 a4) fun b_1↦br (bif bif x3 then x4 else false then true else false) (qd (qcf D b_1.2.1 x0 x1 a4) fun b_2↦br b_2.1.1 (K0 b_2.2.1) (br (decide (x0>0)) (br (decide (0≤wrap .i64 (x0 - 1))&&decide (wrap .i64 (x0 - 1)<(b_2.2.1.length:Int))) (br (decide (0≤wrap .i64 (wrap .i64 (x1 - 1) - wrap .i64 (b.1.1 - x0)))&&decide (wrap .i64 (wrap .i64 (x1 - 1) - wrap .i64 (b.1.1 - x0))<(b_2.2.1.length:Int))) (qd (qbj ctx D a4 [CapV.val yq21 (List.getD b_2.2.1 y2 (0,0,0,())),CapV.val yq21 (List.getD b_2.2.1 (Int.toNat (wrap .i64 (wrap .i64 (x1 - 1) - wrap .i64 (b.1.1 - x0)))) (0,0,0,()))] yq34) fun b_3↦br (!decide (b_3<0)) (qd (qbc D b_2.2.1 x0 x1 (wrap .i64 (wrap .i64 (x1 - 1) - wrap .i64 (b.1.1 - x0))) a4) fun b↦go b.1.1 x1 x2 x3 x4 b.2.1) (qd (qm D b_2.2.1 x0 x1 (wrap .i64 (wrap .i64 (x1 - 1) - wrap .i64 (b.1.1 - x0))) a4) fun b↦br (decide (wrap .i64 (b.1.1 - x0)<wrap .i64 (x1 - b.1.1))) (qd (qf D b.2.1 x0 b.1.1 x2 a4) fun b_4↦go (wrap .i64 (b.1.1+1)) x1 x2 (decide (wrap .i64 (b.1.1 - x0)≥wrap .i64 (Int.tdiv y1 8))) b.1.2.1 b_4.2.1) (qd (qf D b.2.1 (wrap .i64 (b.1.1+1)) x1 x2 a4) fun b_4↦go x0 b.1.1 x2 (decide (wrap .i64 (x1 - b.1.1)≥wrap .i64 (Int.tdiv y1 8))) b.1.2.1 b_4.2.1))) none) none) (qd (qm D b_2.2.1 x0 x1 (wrap .i64 (wrap .i64 (x1 - 1) - wrap .i64 (b.1.1 - x0))) a4) fun b↦br (decide (wrap .i64 (b.1.1 - x0)<wrap .i64 (x1 - b.1.1))) (qd (qf D b.2.1 x0 b.1.1 x2 a4) fun b_3↦go (wrap .i64 (b.1.1+1)) x1 x2 (decide (wrap .i64 (b.1.1 - x0)≥wrap .i64 (Int.tdiv y1 8))) b.1.2.1 b_3.2.1) (qd (qf D b.2.1 (wrap .i64 (b.1.1+1)) x1 x2 a4) fun b_3↦go x0 b.1.1 x2 (decide (wrap .i64 (x1 - b.1.1)≥wrap .i64 (Int.tdiv y1 8))) b.1.2.1 b_3.2.1)))) (br (decide (x0>0)) (br (decide (0≤wrap .i64 (x0 - 1))&&decide (wrap .i64 (x0 - 1)<(b_1.2.1.length:Int))) (br (decide (0≤wrap .i64 (wrap .i64 (x1 - 1) - wrap .i64 (b.1.1 - x0)))&&decide (wrap .i64 (wrap .i64 (x1 - 1) - wrap .i64 (b.1.1 - x0))<(b_1.2.1.length:Int))) (qd (qbj ctx D a4 [CapV.val yq21 (List.getD b_1.2.1 y2 (0,0,0,())),CapV.val yq21 (List.getD b_1.2.1 (Int.toNat (wrap .i64 (wrap .i64 (x1 - 1) - wrap .i64 (b.1.1 - x0)))) (0,0,0,()))] yq34) fun b_2↦br (!decide (b_2<0)) (qd (qbc D b_1.2.1 x0 x1 (wrap .i64 (wrap .i64 (x1 - 1) - wrap .i64 (b.1.1 - x0))) a4) fun b↦go b.1.1 x1 x2 x3 x4 b.2.1) (qd (qm D b_1.2.1 x0 x1 (wrap .i64 (wrap .i64 (x1 - 1) - wrap .i64 (b.1.1 - x0))) a4) fun b↦br (decide (wrap .i64 (b.1.1 - x0)<wrap .i64 (x1 - b.1.1))) (qd (qf D b.2.1 x0 b.1.1 x2 a4) fun b_3↦go (wrap .i64 (b.1.1+1)) x1 x2 (decide (wrap .i64 (b.1.1 - x0)≥wrap .i64 (Int.tdiv y1 8))) b.1.2.1 b_3.2.1) (qd (qf D b.2.1 (wrap .i64 (b.1.1+1)) x1 x2 a4) fun b_3↦go x0 b.1.1 x2 (decide (wrap .i64 (x1 - b.1.1)≥wrap .i64 (Int.tdiv y1 8))) b.1.2.1 b_3.2.1))) none) none) (qd (qm D b_1.2.1 x0 x1 (wrap .i64 (wrap .i64 (x1 - 1) - wrap .i64 (b.1.1 - x0))) a4) fun b↦br (decide (wrap .i64 (b.1.1 - x0)<wrap .i64 (x1 - b.1.1))) (qd (qf D b.2.1 x0 b.1.1 x2 a4) fun b_2↦go (wrap .i64 (b.1.1+1)) x1 x2 (decide (wrap .i64 (b.1.1 - x0)≥wrap .i64 (Int.tdiv y1 8))) b.1.2.1 b_2.2.1) (qd (qf D b.2.1 (wrap .i64 (b.1.1+1)) x1 x2 a4) fun b_2↦go x0 b.1.1 x2 (decide (wrap .i64 (x1 - b.1.1)≥wrap .i64 (Int.tdiv y1 8))) b.1.2.1 b_2.2.1)))) (br (bif bif x3 then x4 else false then decide (b.1.2.1=1) else false) (qd (qcf D x5 x0 x1 a4) fun b_1↦br b_1.1.1 (K0 b_1.2.1) (br (decide (x0>0)) (br (decide (0≤wrap .i64 (x0 - 1))&&decide (wrap .i64 (x0 - 1)<(b_1.2.1.length:Int))) (br (decide (0≤b.1.1)&&decide (b.1.1<(b_1.2.1.length:Int))) (qd (qbj ctx D a4 [CapV.val yq21 (List.getD b_1.2.1 y2 (0,0,0,())),CapV.val yq21 (List.getD b_1.2.1 b.1.1.toNat (0,0,0,()))] yq34) fun b_2↦br (!decide (b_2<0)) (qd (qbc D b_1.2.1 x0 x1 b.1.1 a4) fun b↦go b.1.1 x1 x2 x3 x4 b.2.1) (qd (qm D b_1.2.1 x0 x1 b.1.1 a4) fun b↦br (decide (wrap .i64 (b.1.1 - x0)<wrap .i64 (x1 - b.1.1))) (qd (qf D b.2.1 x0 b.1.1 x2 a4) fun b_3↦go (wrap .i64 (b.1.1+1)) x1 x2 (decide (wrap .i64 (b.1.1 - x0)≥wrap .i64 (Int.tdiv y1 8))) b.1.2.1 b_3.2.1) (qd (qf D b.2.1 (wrap .i64 (b.1.1+1)) x1 x2 a4) fun b_3↦go x0 b.1.1 x2 (decide (wrap .i64 (x1 - b.1.1)≥wrap .i64 (Int.tdiv y1 8))) b.1.2.1 b_3.2.1))) none) none) (qd (qm D b_1.2.1 x0 x1 b.1.1 a4) fun b↦br (decide (wrap .i64 (b.1.1 - x0)<wrap .i64 (x1 - b.1.1))) (qd (qf D b.2.1 x0 b.1.1 x2 a4) fun b_2↦go (wrap .i64 (b.1.1+1)) x1 x2 (decide (wrap .i64 (b.1.1 - x0)≥wrap .i64 (Int.tdiv y1 8))) b.1.2.1 b_2.2.1) (qd (qf D b.2.1 (wrap .i64 (b.1.1+1)) x1 x2 a4) fun b_2↦go x0 b.1.1 x2 (decide (wrap .i64 (x1 - b.1.1)≥wrap .i64 (Int.tdiv y1 8))) b.1.2.1 b_2.2.1)))) (br (decide (x0>0)) (br (decide (0≤wrap .i64 (x0 - 1))&&decide (wrap .i64 (x0 - 1)<(x5.length:Int))) (br (decide (0≤b.1.1)&&decide (b.1.1<(x5.length:Int))) (qd (qbj ctx D a4 [CapV.val yq21 (List.getD x5 y2 (0,0,0,())),CapV.val yq21 (List.getD x5 b.1.1.toNat (0,0,0,()))] yq34) fun b_1↦br (!decide (b_1<0)) (qd (qbc D x5 x0 x1 b.1.1 a4) fun b↦go b.1.1 x1 x2 x3 x4 b.2.1) (qd (qm D x5 x0 x1 b.1.1 a4) fun b↦br (decide (wrap .i64 (b.1.1 - x0)<wrap .i64 (x1 - b.1.1))) (qd (qf D b.2.1 x0 b.1.1 x2 a4) fun b_2↦go (wrap .i64 (b.1.1+1)) x1 x2 (decide (wrap .i64 (b.1.1 - x0)≥wrap .i64 (Int.tdiv y1 8))) b.1.2.1 b_2.2.1) (qd (qf D b.2.1 (wrap .i64 (b.1.1+1)) x1 x2 a4) fun b_2↦go x0 b.1.1 x2 (decide (wrap .i64 (x1 - b.1.1)≥wrap .i64 (Int.tdiv y1 8))) b.1.2.1 b_2.2.1))) none) none) (qd (qm D x5 x0 x1 b.1.1 a4) fun b↦br (decide (wrap .i64 (b.1.1 - x0)<wrap .i64 (x1 - b.1.1))) (qd (qf D b.2.1 x0 b.1.1 x2 a4) fun b_1↦go (wrap .i64 (b.1.1+1)) x1 x2 (decide (wrap .i64 (b.1.1 - x0)≥wrap .i64 (Int.tdiv y1 8))) b.1.2.1 b_1.2.1) (qd (qf D b.2.1 (wrap .i64 (b.1.1+1)) x1 x2 a4) fun b_1↦go x0 b.1.1 x2 (decide (wrap .i64 (x1 - b.1.1)≥wrap .i64 (Int.tdiv y1 8))) b.1.2.1 b_1.2.1)))))))
def qda (D:DX)(n:Nat) (a4:Clo) (K0:List tq37→Option tq29):Nat→Int→Int→Int→Bool→Bool→(List tq37)→Option tq29 | 0=>(fun x0 x1 x2 x3 x4 x5=>none) | m+1=>(fun x0 x1 x2 x3 x4 x5=>qfl D n a4 (qda D n a4 K0 m) K0 x0 x1 x2 x3 x4 x5)
def qqf (D:DX)(n:Nat) (a4:Clo) (a:List tq37):Option tq29:=some ((),a,())
def qfh (D:DX)(n:Nat) (a4:Clo):(Int)→(Int)→(Int)→(Bool)→(Bool)→(List tq37)→Option tq29:=(fun x0 x1 x2 x3 x4 x5=>qda D n a4 (fun a=>qqf D n a4 a) n x0 x1 x2 x3 x4 x5)
def qf4 (D:DX)(n:Nat) (a4:Clo) (lp0:Int→Int→Int→Bool→Bool→List tq37→Option tq29) (a0:List tq37) (a1 a2 a3:Int):Option tq29:=lp0 a1 a2 a3 true true a0
def qf0 (D:DX)(n:Nat) (a0:List tq37) (a1 a2 a3:Int) (a4:Clo):Option tq29:=qf4 D n a4 (qfh D n a4) a0 a1 a2 a3
def qfr (a4:Clo) (x0 x1 x2:Int) (x3 x4:Bool) (x5:List tq37):St:=stq 148 [(0,AV.brw 0 [] 1048576),(1,AV.val yq34 x0),(2,AV.val yq34 x1),(3,AV.val yq34 x2),(4,AV.cloV a4),(10,AV.val Ty.bool x3),(11,AV.val Ty.bool x4)] [(0,Root.mk yq19 kq33 x5 false)]
def qim (a4:Clo) (a:List tq37):St:=stq 148 [(0,AV.brw 0 [] 1048576)] [(0,Root.mk yq19 kq33 a false)]
theorem qri (D:DX)(n:Nat) (a4:Clo) (K:KT 187):∀ (m:Nat) (x0 x1 x2:Int) (x3 x4:Bool) (x5:List tq37),LF D n 187 pq15 m (qfr a4 x0 x1 x2 x3 x4 x5) K=qda D n a4 (fun a=>K (Ex.ret) (qim a4 a)) m x0 x1 x2 x3 x4 x5:=eL6 (fun F=>qfl D n a4 F (fun a=>K (Ex.ret) (qim a4 a))) (fun _ _ _ _ _ _ =>q7 ..) (fun _ _ _ _ _ _ _ =>by kernel_rfl) (fun _ _ _ _ _ _ _ =>rfl)
theorem qqe (D:DX)(n:Nat) (a4:Clo) (x0) (x1) (x2) (x3) (x4) (x5):LF D n 187 pq15 n (qfr a4 x0 x1 x2 x3 x4 x5) (CF D n 187 [] pq15 (lF 187))=qfh D n a4 x0 x1 x2 x3 x4 x5 :=by rw[qri];kernel_rfl
theorem qsl (D:DX)(n:Nat) (a0:List tq37) (a1 a2 a3:Int) (a4:Clo):rF D n 187 (a0,(a1,(a2,(a3,(a4,())))))=qf0 D n a0 a1 a2 a3 a4:=by
 have h:rF D n 187 (a0,(a1,(a2,(a3,(a4,())))))=qf4 D n a4 (fun x0 x1 x2 x3 x4 x5=>LF D n 187 pq15 n (qfr a4 x0 x1 x2 x3 x4 x5) (CF D n 187 [] pq15 (lF 187))) a0 a1 a2 a3:=by kernel_rfl
 rw[h]
 simp only[qqe]
 rfl

def qde (D:DX)(n:Nat) (go:Int→Int→Int→Int→List Int→Option tq38) (K0:Int→Int→Int→List Int→Option tq38) (d e f a:Int) (c:List Int):Option tq38:=let y0:=List.getD c (Int.toNat (wrap .i64 (a - 1))) 0;br (decide (a>d)) (br (decide (0≤a)&&decide (a<(c.length:Int))) (br (decide (0≤wrap .i64 (a - 1))&&decide (wrap .i64 (a - 1)<(c.length:Int))) (qd (qdm D (List.getD c a.toNat 0) y0) fun b↦br b.1.1 (br (decide (0≤wrap .i64 (a - 1))&&decide (wrap .i64 (a - 1)<(c.length:Int))) (br (decide (0≤a)&&decide (a<(c.length:Int))) (br (decide (0≤a)&&decide (a<(c.length:Int))) (br (decide (0≤wrap .i64 (a - 1))&&decide (wrap .i64 (a - 1)<((List.set c a.toNat y0).length:Int))) (go d e f (wrap .i64 (a - 1)) (List.set (List.set c a.toNat y0) (Int.toNat (wrap .i64 (a - 1))) (List.getD c a.toNat 0))) none) none) none) none) (K0 d e f c)) none) none) (K0 d e f c)
def qcd (D:DX)(n:Nat) (K0:Int→Int→Int→List Int→Option tq38):Nat→Int→Int→Int→Int→(List Int)→Option tq38 | 0=>(fun a b c d e=>none) | m+1=>(fun a b c d e=>qde D n (qcd D n K0 m) K0 a b c d e)
def qfg (D:DX)(n:Nat) (go:Int→Int→Int→List Int→Option tq38) (K0:List Int→Option tq38) (a b c:Int) (d:List Int):Option tq38:=go a b (wrap .i64 (c+1)) d
def qfp (D:DX)(n:Nat) (go:Int→Int→Int→List Int→Option tq38) (K0:List Int→Option tq38):(Int)→(Int)→(Int)→(Int)→(List Int)→Option tq38:=(fun a f g h i=>qcd D n (fun b c d e=>qfg D n go K0 b c d e) n a f g h i)
def qc0 (D:DX)(n:Nat) (go:Int→Int→Int→List Int→Option tq38) (K0:List Int→Option tq38) (lp1:Int→Int→Int→Int→List Int→Option tq38) (x0 x1 x2:Int) (x3:List Int):Option tq38:=br (decide (x2<x1)) (lp1 x0 x1 x2 x2 x3) (K0 x3)
def qbb (D:DX)(n:Nat) (K0:List Int→Option tq38):Nat→Int→Int→Int→(List Int)→Option tq38 | 0=>(fun x0 x1 x2 x3=>none) | m+1=>(fun x0 x1 x2 x3=>qc0 D n (qbb D n K0 m) K0 (qfp D n (qbb D n K0 m) K0) x0 x1 x2 x3)
def qi8 (D:DX)(n:Nat) (a:List Int):Option tq38:=some ((),a,())
def qfq (D:DX)(n:Nat):(Int)→(Int)→(Int)→(List Int)→Option tq38:=(fun x0 x1 x2 x3=>qbb D n (fun a=>qi8 D n a) n x0 x1 x2 x3)
def qgg (D:DX)(n:Nat) (lp0:Int→Int→Int→List Int→Option tq38) (a0:List Int) (a1 a2:Int):Option tq38:=lp0 a1 a2 (wrap .i64 (a1+1)) a0
def qgh (D:DX)(n:Nat) (a0:List Int) (a1 a2:Int):Option tq38:=qgg D n (qfq D n) a0 a1 a2
def qb5 (x0 x1 x2:Int) (x3:List Int):St:=stq 49 [(0,AV.brw 0 [] 1048576),(1,AV.val yq34 x0),(2,AV.val yq34 x1),(6,AV.val yq34 x2)] [(0,Root.mk yq30 kq33 x3 false)]
def qc8 (a:List Int):St:=stq 49 [(0,AV.brw 0 [] 1048576)] [(0,Root.mk yq30 kq33 a false)]
def qfw (a b c d:Int) (e:List Int):St:=stq 49 [(0,AV.brw 0 [] 1048576),(1,AV.val yq34 a),(2,AV.val yq34 b),(6,AV.val yq34 c),(7,AV.val yq34 d)] [(0,Root.mk yq30 kq33 e false)]
def qja (a b c:Int) (d:List Int):St:=stq 49 [(0,AV.brw 0 [] 1048576),(1,AV.val yq34 a),(2,AV.val yq34 b),(6,AV.val yq34 c)] [(0,Root.mk yq30 kq33 d false)]
theorem qsa (D:DX)(n:Nat) (K:KT 188):∀ (m:Nat) (e f g h:Int) (i:List Int),LF D n 188 pq11 m (qfw e f g h i) K=qcd D n (fun a b c d=>K (Ex.exit 2) (qja a b c d)) m e f g h i:=eL5 (fun F=>qde D n F (fun a b c d=>K (Ex.exit 2) (qja a b c d))) (fun _ _ _ _ _ =>q7 ..) (fun _ _ _ _ _ _ =>by kernel_rfl) (fun _ _ _ _ _ _ =>rfl)
theorem qqt (D:DX)(n:Nat) (m:Nat) (K:KT 188) (a b c d:Int) (e:List Int):LF D n 188 pq11 n (qfw a b c d e) (CF D n 188 [.r,.l,.l] [.r,.l,.l,.r,.l] (KF D n 188 pq12 m K))=qfp D n (fun x0 x1 x2 x3=>LF D n 188 pq12 m (qb5 x0 x1 x2 x3) K) (fun f=>K (Ex.exit 0) (qc8 f)) a b c d e :=by rw[qsa];kernel_rfl
theorem qr9 (D:DX)(n:Nat) (m:Nat) (K:KT 188) (x0) (x1) (x2) (x3):LF D n 188 pq12 (m+1) (qb5 x0 x1 x2 x3) K=qc0 D n (fun x0 x1 x2 x3=>LF D n 188 pq12 m (qb5 x0 x1 x2 x3) K) (fun a=>K (Ex.exit 0) (qc8 a)) (fun b c d e f=>LF D n 188 pq11 n (qfw b c d e f) (CF D n 188 [.r,.l,.l] [.r,.l,.l,.r,.l] (KF D n 188 pq12 m K))) x0 x1 x2 x3:=by kernel_rfl
theorem qjd (D:DX)(n:Nat) (K:KT 188):∀ (m:Nat) (x0 x1 x2:Int) (x3:List Int),LF D n 188 pq12 m (qb5 x0 x1 x2 x3) K=qbb D n (fun a=>K (Ex.exit 0) (qc8 a)) m x0 x1 x2 x3
 | 0,x0,x1,x2,x3=>q7 ..
 | m+1,x0,x1,x2,x3=>by
  have ih:(fun x0 x1 x2 x3=>LF D n 188 pq12 m (qb5 x0 x1 x2 x3) K)=qbb D n (fun a=>K (Ex.exit 0) (qc8 a)) m:=by funext x0 x1 x2 x3;exact qjd D n K m x0 x1 x2 x3
  rw[qr9]
  simp only[qqt]
  rw[ih];rfl
theorem qqy (D:DX)(n:Nat) (x0) (x1) (x2) (x3):LF D n 188 pq12 n (qb5 x0 x1 x2 x3) (CF D n 188 [] pq12 (lF 188))=qfq D n x0 x1 x2 x3 :=by rw[qjd];kernel_rfl
theorem qtu (D:DX)(n:Nat) (a0:List Int) (a1 a2:Int):rF D n 188 (a0,(a1,(a2,())))=qgh D n a0 a1 a2:=by
 have h:rF D n 188 (a0,(a1,(a2,())))=qgg D n (fun x0 x1 x2 x3=>LF D n 188 pq12 n (qb5 x0 x1 x2 x3) (CF D n 188 [] pq12 (lF 188))) a0 a1 a2:=by kernel_rfl
 rw[h]
 simp only[qqy]
 rfl






def q9e (D:DX)(n:Nat) (a0 a1:Int):Option tq41:=qd (qxa D a0) fun b↦br b.1.1 (qd (qxa D a1) fun b↦some ((bif !b.1.1 then true else decide (a0<a1),()),())) (some ((bif false then true else decide (a0<a1),()),()))
def q0g (D:DX)(n:Nat) (a0 a1:Int):Option tq41:=q9e D n a0 a1
theorem qbmp (D:DX)(n:Nat) (a0 a1:Int):rF D n 194 (a0,(a1,()))=q0g D n a0 a1:=by kernel_rfl



def qbgo (D:DX)(n:Nat) (a0:Int):Option tq42:=let y0:=List.toArray ([UInt8.ofNat 0,UInt8.ofNat 1,UInt8.ofNat 2,UInt8.ofNat 2,UInt8.ofNat 3,UInt8.ofNat 3,UInt8.ofNat 3,UInt8.ofNat 3,UInt8.ofNat 4,UInt8.ofNat 4,UInt8.ofNat 4,UInt8.ofNat 4,UInt8.ofNat 4,UInt8.ofNat 4,UInt8.ofNat 4,UInt8.ofNat 4,UInt8.ofNat 5,UInt8.ofNat 5,UInt8.ofNat 5,UInt8.ofNat 5,UInt8.ofNat 5,UInt8.ofNat 5,UInt8.ofNat 5,UInt8.ofNat 5,UInt8.ofNat 5,UInt8.ofNat 5,UInt8.ofNat 5,UInt8.ofNat 5,UInt8.ofNat 5,UInt8.ofNat 5,UInt8.ofNat 5,UInt8.ofNat 5,UInt8.ofNat 6,UInt8.ofNat 6,UInt8.ofNat 6,UInt8.ofNat 6,UInt8.ofNat 6,UInt8.ofNat 6,UInt8.ofNat 6,UInt8.ofNat 6,UInt8.ofNat 6,UInt8.ofNat 6,UInt8.ofNat 6,UInt8.ofNat 6,UInt8.ofNat 6,UInt8.ofNat 6,UInt8.ofNat 6,UInt8.ofNat 6,UInt8.ofNat 6,UInt8.ofNat 6,UInt8.ofNat 6,UInt8.ofNat 6,UInt8.ofNat 6,UInt8.ofNat 6,UInt8.ofNat 6,UInt8.ofNat 6,UInt8.ofNat 6,UInt8.ofNat 6,UInt8.ofNat 6,UInt8.ofNat 6,UInt8.ofNat 6,UInt8.ofNat 6,UInt8.ofNat 6,UInt8.ofNat 6]++[UInt8.ofNat 7,UInt8.ofNat 7,UInt8.ofNat 7,UInt8.ofNat 7,UInt8.ofNat 7,UInt8.ofNat 7,UInt8.ofNat 7,UInt8.ofNat 7,UInt8.ofNat 7,UInt8.ofNat 7,UInt8.ofNat 7,UInt8.ofNat 7,UInt8.ofNat 7,UInt8.ofNat 7,UInt8.ofNat 7,UInt8.ofNat 7,UInt8.ofNat 7,UInt8.ofNat 7,UInt8.ofNat 7,UInt8.ofNat 7,UInt8.ofNat 7,UInt8.ofNat 7,UInt8.ofNat 7,UInt8.ofNat 7,UInt8.ofNat 7,UInt8.ofNat 7,UInt8.ofNat 7,UInt8.ofNat 7,UInt8.ofNat 7,UInt8.ofNat 7,UInt8.ofNat 7,UInt8.ofNat 7,UInt8.ofNat 7,UInt8.ofNat 7,UInt8.ofNat 7,UInt8.ofNat 7,UInt8.ofNat 7,UInt8.ofNat 7,UInt8.ofNat 7,UInt8.ofNat 7,UInt8.ofNat 7,UInt8.ofNat 7,UInt8.ofNat 7,UInt8.ofNat 7,UInt8.ofNat 7,UInt8.ofNat 7,UInt8.ofNat 7,UInt8.ofNat 7,UInt8.ofNat 7,UInt8.ofNat 7,UInt8.ofNat 7,UInt8.ofNat 7,UInt8.ofNat 7,UInt8.ofNat 7,UInt8.ofNat 7,UInt8.ofNat 7,UInt8.ofNat 7,UInt8.ofNat 7,UInt8.ofNat 7,UInt8.ofNat 7,UInt8.ofNat 7,UInt8.ofNat 7,UInt8.ofNat 7,UInt8.ofNat 7]++([UInt8.ofNat 8,UInt8.ofNat 8,UInt8.ofNat 8,UInt8.ofNat 8,UInt8.ofNat 8,UInt8.ofNat 8,UInt8.ofNat 8,UInt8.ofNat 8,UInt8.ofNat 8,UInt8.ofNat 8,UInt8.ofNat 8,UInt8.ofNat 8,UInt8.ofNat 8,UInt8.ofNat 8,UInt8.ofNat 8,UInt8.ofNat 8,UInt8.ofNat 8,UInt8.ofNat 8,UInt8.ofNat 8,UInt8.ofNat 8,UInt8.ofNat 8,UInt8.ofNat 8,UInt8.ofNat 8,UInt8.ofNat 8,UInt8.ofNat 8,UInt8.ofNat 8,UInt8.ofNat 8,UInt8.ofNat 8,UInt8.ofNat 8,UInt8.ofNat 8,UInt8.ofNat 8,UInt8.ofNat 8,UInt8.ofNat 8,UInt8.ofNat 8,UInt8.ofNat 8,UInt8.ofNat 8,UInt8.ofNat 8,UInt8.ofNat 8,UInt8.ofNat 8,UInt8.ofNat 8,UInt8.ofNat 8,UInt8.ofNat 8,UInt8.ofNat 8,UInt8.ofNat 8,UInt8.ofNat 8,UInt8.ofNat 8,UInt8.ofNat 8,UInt8.ofNat 8,UInt8.ofNat 8,UInt8.ofNat 8,UInt8.ofNat 8,UInt8.ofNat 8,UInt8.ofNat 8,UInt8.ofNat 8,UInt8.ofNat 8,UInt8.ofNat 8,UInt8.ofNat 8,UInt8.ofNat 8,UInt8.ofNat 8,UInt8.ofNat 8,UInt8.ofNat 8,UInt8.ofNat 8,UInt8.ofNat 8,UInt8.ofNat 8]++[UInt8.ofNat 8,UInt8.ofNat 8,UInt8.ofNat 8,UInt8.ofNat 8,UInt8.ofNat 8,UInt8.ofNat 8,UInt8.ofNat 8,UInt8.ofNat 8,UInt8.ofNat 8,UInt8.ofNat 8,UInt8.ofNat 8,UInt8.ofNat 8,UInt8.ofNat 8,UInt8.ofNat 8,UInt8.ofNat 8,UInt8.ofNat 8,UInt8.ofNat 8,UInt8.ofNat 8,UInt8.ofNat 8,UInt8.ofNat 8,UInt8.ofNat 8,UInt8.ofNat 8,UInt8.ofNat 8,UInt8.ofNat 8,UInt8.ofNat 8,UInt8.ofNat 8,UInt8.ofNat 8,UInt8.ofNat 8,UInt8.ofNat 8,UInt8.ofNat 8,UInt8.ofNat 8,UInt8.ofNat 8,UInt8.ofNat 8,UInt8.ofNat 8,UInt8.ofNat 8,UInt8.ofNat 8,UInt8.ofNat 8,UInt8.ofNat 8,UInt8.ofNat 8,UInt8.ofNat 8,UInt8.ofNat 8,UInt8.ofNat 8,UInt8.ofNat 8,UInt8.ofNat 8,UInt8.ofNat 8,UInt8.ofNat 8,UInt8.ofNat 8,UInt8.ofNat 8,UInt8.ofNat 8,UInt8.ofNat 8,UInt8.ofNat 8,UInt8.ofNat 8,UInt8.ofNat 8,UInt8.ofNat 8,UInt8.ofNat 8,UInt8.ofNat 8,UInt8.ofNat 8,UInt8.ofNat 8,UInt8.ofNat 8,UInt8.ofNat 8,UInt8.ofNat 8,UInt8.ofNat 8,UInt8.ofNat 8,UInt8.ofNat 8]));let y1:=Int.pow 2 (if Int.toNat 32≤IntKind.bits .u64 then Int.toNat 32 else IntKind.bits .u64);let y2:=Int.pow 2 (if Int.toNat 16≤IntKind.bits .u64 then Int.toNat 16 else IntKind.bits .u64);let y3:=Int.pow 2 (if Int.toNat 8≤IntKind.bits .u64 then Int.toNat 8 else IntKind.bits .u64);let y4:=Int.fdiv a0 y1;let y5:=ByteArray.mk y0;let y6:=Int.fdiv y4 y2;let y7:=Int.fdiv a0 y2;br (decide (a0≥4294967296)) (br (decide (y4≥65536)) (br (decide (y6≥256)) (br (decide (0≤wrap .u8 (Int.fdiv y6 y3))&&decide (wrap .u8 (Int.fdiv y6 y3)<(↑(ByteArray.size y5):Int))) (some ((wrap .i64 (wrap .i64 (wrap .i64 (32+16)+8)+wrap .i64 (↑(UInt8.toNat (Array.getD y0 (Int.toNat (wrap .u8 (Int.fdiv y6 y3))) (UInt8.ofNat 0))):Int)),()),())) none) (br (decide (0≤wrap .u8 y6)&&decide (wrap .u8 y6<(↑(ByteArray.size y5):Int))) (some ((wrap .i64 (wrap .i64 (32+16)+wrap .i64 (↑(UInt8.toNat (Array.getD y0 (Int.toNat (wrap .u8 y6)) (UInt8.ofNat 0))):Int)),()),())) none)) (br (decide (y4≥256)) (br (decide (0≤wrap .u8 (Int.fdiv y4 y3))&&decide (wrap .u8 (Int.fdiv y4 y3)<(↑(ByteArray.size y5):Int))) (some ((wrap .i64 (wrap .i64 (32+8)+wrap .i64 (↑(UInt8.toNat (Array.getD y0 (Int.toNat (wrap .u8 (Int.fdiv y4 y3))) (UInt8.ofNat 0))):Int)),()),())) none) (br (decide (0≤wrap .u8 y4)&&decide (wrap .u8 y4<(↑(ByteArray.size y5):Int))) (some ((wrap .i64 (32+wrap .i64 (↑(UInt8.toNat (Array.getD y0 (Int.toNat (wrap .u8 y4)) (UInt8.ofNat 0))):Int)),()),())) none))) (br (decide (a0≥65536)) (br (decide (y7≥256)) (br (decide (0≤wrap .u8 (Int.fdiv y7 y3))&&decide (wrap .u8 (Int.fdiv y7 y3)<(↑(ByteArray.size y5):Int))) (some ((wrap .i64 (wrap .i64 (wrap .i64 (0+16)+8)+wrap .i64 (↑(UInt8.toNat (Array.getD y0 (Int.toNat (wrap .u8 (Int.fdiv y7 y3))) (UInt8.ofNat 0))):Int)),()),())) none) (br (decide (0≤wrap .u8 y7)&&decide (wrap .u8 y7<(↑(ByteArray.size y5):Int))) (some ((wrap .i64 (wrap .i64 (0+16)+wrap .i64 (↑(UInt8.toNat (Array.getD y0 (Int.toNat (wrap .u8 y7)) (UInt8.ofNat 0))):Int)),()),())) none)) (br (decide (a0≥256)) (br (decide (0≤wrap .u8 (Int.fdiv a0 y3))&&decide (wrap .u8 (Int.fdiv a0 y3)<(↑(ByteArray.size y5):Int))) (some ((wrap .i64 (wrap .i64 (0+8)+wrap .i64 (↑(UInt8.toNat (Array.getD y0 (Int.toNat (wrap .u8 (Int.fdiv a0 y3))) (UInt8.ofNat 0))):Int)),()),())) none) (br (decide (0≤wrap .u8 a0)&&decide (wrap .u8 a0<(↑(ByteArray.size y5):Int))) (some ((wrap .i64 (0+wrap .i64 (↑(UInt8.toNat (Array.getD y0 (Int.toNat (wrap .u8 a0)) (UInt8.ofNat 0))):Int)),()),())) none)))
def qbw (D:DX)(n:Nat) (a0:Int):Option tq42:=qbgo D n a0
theorem qbfm (D:DX)(n:Nat) (a0:Int):rF D n 198 (a0,())=qbw D n a0:=by kernel_rfl

def qcw (D:DX)(n:Nat) (a3:Clo) (go:Int→Int→Int→Int→List tq37→Option tq29) (K0:Int→Int→Int→List tq37→Option tq29) (d e f a:Int) (c:List tq37):Option tq29:=let y0:=List.getD c (Int.toNat (wrap .i64 (a - 1))) (0,0,0,());br (decide (a>d)) (br (decide (0≤a)&&decide (a<(c.length:Int))) (br (decide (0≤wrap .i64 (a - 1))&&decide (wrap .i64 (a - 1)<(c.length:Int))) (qd (qbj ctx D a3 [CapV.val yq21 (List.getD c a.toNat (0,0,0,())),CapV.val yq21 y0] yq34) fun b↦br (decide (b<0)) (br (decide (0≤wrap .i64 (a - 1))&&decide (wrap .i64 (a - 1)<(c.length:Int))) (br (decide (0≤a)&&decide (a<(c.length:Int))) (br (decide (0≤a)&&decide (a<(c.length:Int))) (br (decide (0≤wrap .i64 (a - 1))&&decide (wrap .i64 (a - 1)<((List.set c a.toNat y0).length:Int))) (go d e f (wrap .i64 (a - 1)) (List.set (List.set c a.toNat y0) (Int.toNat (wrap .i64 (a - 1))) (List.getD c a.toNat (0,0,0,())))) none) none) none) none) (K0 d e f c)) none) none) (K0 d e f c)
def qbx (D:DX)(n:Nat) (a3:Clo) (K0:Int→Int→Int→List tq37→Option tq29):Nat→Int→Int→Int→Int→(List tq37)→Option tq29 | 0=>(fun a b c d e=>none) | m+1=>(fun a b c d e=>qcw D n a3 (qbx D n a3 K0 m) K0 a b c d e)
def qdd (D:DX)(n:Nat) (a3:Clo) (go:Int→Int→Int→List tq37→Option tq29) (K0:List tq37→Option tq29) (a b c:Int) (d:List tq37):Option tq29:=go a b (wrap .i64 (c+1)) d
def qdh (D:DX)(n:Nat) (a3:Clo) (go:Int→Int→Int→List tq37→Option tq29) (K0:List tq37→Option tq29):(Int)→(Int)→(Int)→(Int)→(List tq37)→Option tq29:=(fun a f g h i=>qbx D n a3 (fun b c d e=>qdd D n a3 go K0 b c d e) n a f g h i)
def qca (D:DX)(n:Nat) (a3:Clo) (go:Int→Int→Int→List tq37→Option tq29) (K0:List tq37→Option tq29) (lp1:Int→Int→Int→Int→List tq37→Option tq29) (x0 x1 x2:Int) (x3:List tq37):Option tq29:=br (decide (x2<x1)) (lp1 x0 x1 x2 x2 x3) (K0 x3)
def qz (D:DX)(n:Nat) (a3:Clo) (K0:List tq37→Option tq29):Nat→Int→Int→Int→(List tq37)→Option tq29 | 0=>(fun x0 x1 x2 x3=>none) | m+1=>(fun x0 x1 x2 x3=>qca D n a3 (qz D n a3 K0 m) K0 (qdh D n a3 (qz D n a3 K0 m) K0) x0 x1 x2 x3)
def qgk (D:DX)(n:Nat) (a3:Clo) (a:List tq37):Option tq29:=some ((),a,())
def qdk (D:DX)(n:Nat) (a3:Clo):(Int)→(Int)→(Int)→(List tq37)→Option tq29:=(fun x0 x1 x2 x3=>qz D n a3 (fun a=>qgk D n a3 a) n x0 x1 x2 x3)
def qeb (D:DX)(n:Nat) (a3:Clo) (lp0:Int→Int→Int→List tq37→Option tq29) (a0:List tq37) (a1 a2:Int):Option tq29:=lp0 a1 a2 (wrap .i64 (a1+1)) a0
def qec (D:DX)(n:Nat) (a0:List tq37) (a1 a2:Int) (a3:Clo):Option tq29:=qeb D n a3 (qdk D n a3) a0 a1 a2
def qbl (a3:Clo) (x0 x1 x2:Int) (x3:List tq37):St:=stq 53 [(0,AV.brw 0 [] 1048576),(1,AV.val yq34 x0),(2,AV.val yq34 x1),(3,AV.cloV a3),(8,AV.val yq34 x2)] [(0,Root.mk yq19 kq33 x3 false)]
def qco (a3:Clo) (a:List tq37):St:=stq 53 [(0,AV.brw 0 [] 1048576)] [(0,Root.mk yq19 kq33 a false)]
def qd2 (a3:Clo) (a b c d:Int) (e:List tq37):St:=stq 53 [(0,AV.brw 0 [] 1048576),(1,AV.val yq34 a),(2,AV.val yq34 b),(3,AV.cloV a3),(8,AV.val yq34 c),(9,AV.val yq34 d)] [(0,Root.mk yq19 kq33 e false)]
def qgl (a3:Clo) (a b c:Int) (d:List tq37):St:=stq 53 [(0,AV.brw 0 [] 1048576),(1,AV.val yq34 a),(2,AV.val yq34 b),(3,AV.cloV a3),(8,AV.val yq34 c)] [(0,Root.mk yq19 kq33 d false)]
theorem qmf (D:DX)(n:Nat) (a3:Clo) (K:KT 199):∀ (m:Nat) (e f g h:Int) (i:List tq37),LF D n 199 pq11 m (qd2 a3 e f g h i) K=qbx D n a3 (fun a b c d=>K (Ex.exit 2) (qgl a3 a b c d)) m e f g h i:=eL5 (fun F=>qcw D n a3 F (fun a b c d=>K (Ex.exit 2) (qgl a3 a b c d))) (fun _ _ _ _ _ =>q7 ..) (fun _ _ _ _ _ _ =>by kernel_rfl) (fun _ _ _ _ _ _ =>rfl)
theorem ql4 (D:DX)(n:Nat) (a3:Clo) (m:Nat) (K:KT 199) (a b c d:Int) (e:List tq37):LF D n 199 pq11 n (qd2 a3 a b c d e) (CF D n 199 [.r,.l,.l] [.r,.l,.l,.r,.l] (KF D n 199 pq12 m K))=qdh D n a3 (fun x0 x1 x2 x3=>LF D n 199 pq12 m (qbl a3 x0 x1 x2 x3) K) (fun f=>K (Ex.exit 0) (qco a3 f)) a b c d e :=by rw[qmf];kernel_rfl
theorem qm3 (D:DX)(n:Nat) (a3:Clo) (m:Nat) (K:KT 199) (x0) (x1) (x2) (x3):LF D n 199 pq12 (m+1) (qbl a3 x0 x1 x2 x3) K=qca D n a3 (fun x0 x1 x2 x3=>LF D n 199 pq12 m (qbl a3 x0 x1 x2 x3) K) (fun a=>K (Ex.exit 0) (qco a3 a)) (fun b c d e f=>LF D n 199 pq11 n (qd2 a3 b c d e f) (CF D n 199 [.r,.l,.l] [.r,.l,.l,.r,.l] (KF D n 199 pq12 m K))) x0 x1 x2 x3:=by kernel_rfl
theorem qgs (D:DX)(n:Nat) (a3:Clo) (K:KT 199):∀ (m:Nat) (x0 x1 x2:Int) (x3:List tq37),LF D n 199 pq12 m (qbl a3 x0 x1 x2 x3) K=qz D n a3 (fun a=>K (Ex.exit 0) (qco a3 a)) m x0 x1 x2 x3
 | 0,x0,x1,x2,x3=>q7 ..
 | m+1,x0,x1,x2,x3=>by
  have ih:(fun x0 x1 x2 x3=>LF D n 199 pq12 m (qbl a3 x0 x1 x2 x3) K)=qz D n a3 (fun a=>K (Ex.exit 0) (qco a3 a)) m:=by funext x0 x1 x2 x3;exact qgs D n a3 K m x0 x1 x2 x3
  rw[qm3]
  simp only[ql4]
  rw[ih];rfl
theorem ql5 (D:DX)(n:Nat) (a3:Clo) (x0) (x1) (x2) (x3):LF D n 199 pq12 n (qbl a3 x0 x1 x2 x3) (CF D n 199 [] pq12 (lF 199))=qdk D n a3 x0 x1 x2 x3 :=by rw[qgs];kernel_rfl
theorem qn7 (D:DX)(n:Nat) (a0:List tq37) (a1 a2:Int) (a3:Clo):rF D n 199 (a0,(a1,(a2,(a3,()))))=qec D n a0 a1 a2 a3:=by
 have h:rF D n 199 (a0,(a1,(a2,(a3,()))))=qeb D n a3 (fun x0 x1 x2 x3=>LF D n 199 pq12 n (qbl a3 x0 x1 x2 x3) (CF D n 199 [] pq12 (lF 199))) a0 a1 a2:=by kernel_rfl
 rw[h]
 simp only[ql5]
 rfl













def q7e (D:DX)(n:Nat) (a0:Int):Option tq41:=some ((a0 != a0,()),())
def qxu (D:DX)(n:Nat) (a0:Int):Option tq41:=q7e D n a0
theorem qbjv (D:DX)(n:Nat) (a0:Int):rF D n 212 (a0,())=qxu D n a0:=by kernel_rfl





end
end Go.G

namespace Go.G
set_option maxRecDepth 100000
open Go Go.V Go.Proofs
def XOk (X:Ext):Prop:=∀ k:Nat,(Nat.beq k 128)=false→X.is k=false
theorem qbsg:XOk qbk4:=fun _ _=>rfl
section
variable {X:Ext}(hX:XOk X)(n:Nat)
include hX
theorem sQ {g:FuncId}{fn:Func}{a:PDen (ctx.sig g).params}{r:Option (Out ctx g)}(hf:Tryz.prog.funcs[g]?=some fn)(ht:qk0 g=some fn)(hg:Nat.beq g 128=false)(e:rF (DD X n) n g a=r):DD X (n+1) g a=r:=(qb14 X hf ht (hX g hg) n a).trans e
theorem qbc9 (a0):q1p (DD X (n+1)) a0=qqv (DD X n) n a0:=sQ hX n Tryz.func6 (by kernel_rfl) rfl (qbdt ..)
theorem qbxq (a0):qbbm (DD X (n+1)) a0=qbll (DD X n) n a0:=sQ hX n Tryz.func12 (by kernel_rfl) rfl (qbwm ..)
theorem qbcr (a0):qpr (DD X (n+1)) a0=qpo (DD X n) n a0:=sQ hX n Tryz.func13 (by kernel_rfl) rfl (qbct ..)
theorem qbfo (a0 a1):qsy (DD X (n+1)) a0 a1=qtf (DD X n) n a0 a1:=sQ hX n Tryz.func14 (by kernel_rfl) rfl (qbfu ..)
theorem qbf5 (a0 a1):qtb (DD X (n+1)) a0 a1=qso (DD X n) n a0 a1:=sQ hX n Tryz.func15 (by kernel_rfl) rfl (qbgq ..)
theorem qbuv (a0 a1):q01 (DD X (n+1)) a0 a1=q8k (DD X n) n a0 a1:=sQ hX n Tryz.func16 (by kernel_rfl) rfl (qbut ..)
theorem q3x (a0):q38 (DD X (n+1)) a0=ql8 (DD X n) n a0:=sQ hX n Tryz.func17 (by kernel_rfl) rfl (qbft ..)
theorem qbmm (a0 a1):qyg (DD X (n+1)) a0 a1=qzm (DD X n) n a0 a1:=sQ hX n Tryz.func28 (by kernel_rfl) rfl (qbnf ..)
theorem qbtp (a0):qej (DD X (n+1)) a0=q6d (DD X n) n a0:=sQ hX n Tryz.func35 (by kernel_rfl) rfl (qbsf ..)
theorem qbib (a0):qgp (DD X (n+1)) a0=qut (DD X n) n a0:=sQ hX n Tryz.func40 (by kernel_rfl) rfl (qbhu ..)
theorem qbt6 (a0):q6n (DD X (n+1)) a0=q50 (DD X n) n a0:=sQ hX n Tryz.func44 (by kernel_rfl) rfl (qbro ..)
theorem qbev (a0):qqm (DD X (n+1)) a0=qrg (DD X n) n a0:=sQ hX n Tryz.func45 (by kernel_rfl) rfl (qbd3 ..)
theorem qbhz (a0):qug (DD X (n+1)) a0=qu6 (DD X n) n a0:=sQ hX n Tryz.func46 (by kernel_rfl) rfl (qbh7 ..)
theorem qbn8 (a0 a1):qce (DD X (n+1)) a0 a1=qzr (DD X n) n a0 a1:=sQ hX n Tryz.func47 (by kernel_rfl) rfl (qblt ..)
theorem qbpy (a0 a1 a2):q2a (DD X (n+1)) a0 a1 a2=q25 (DD X n) n a0 a1 a2:=sQ hX n Tryz.func48 (by kernel_rfl) rfl (qbp6 ..)
theorem qbp0 (a0 a1):q20 (DD X (n+1)) a0 a1=q29 (DD X n) n a0 a1:=sQ hX n Tryz.func49 (by kernel_rfl) rfl (qbqt ..)
theorem qbjm (a0):qp8 (DD X (n+1)) a0=qxj (DD X n) n a0:=sQ hX n Tryz.func50 (by kernel_rfl) rfl (qbjf ..)
theorem qbh1 (a0):q59 (DD X (n+1)) a0=qu5 (DD X n) n a0:=sQ hX n Tryz.func51 (by kernel_rfl) rfl (qbih ..)
theorem qbp1 (a0 a1):q2j (DD X (n+1)) a0 a1=q3d (DD X n) n a0 a1:=sQ hX n Tryz.func52 (by kernel_rfl) rfl (qbqk ..)
theorem qbqg (a0):q22 (DD X (n+1)) a0=q18 (DD X n) n a0:=sQ hX n Tryz.func53 (by kernel_rfl) rfl (qbqq ..)
theorem qbhr (a0):q5y (DD X (n+1)) a0=quf (DD X n) n a0:=sQ hX n Tryz.func54 (by kernel_rfl) rfl (qbiy ..)
theorem qbii (a0):qvd (DD X (n+1)) a0=qur (DD X n) n a0:=sQ hX n Tryz.func55 (by kernel_rfl) rfl (qbia ..)
theorem qbeo (a0):qi9 (DD X (n+1)) a0=qrd (DD X n) n a0:=sQ hX n Tryz.func56 (by kernel_rfl) rfl (qbdu ..)
theorem qbgv (a0 a1):qtx (DD X (n+1)) a0 a1=q0z (DD X n) n a0 a1:=sQ hX n Tryz.func57 (by kernel_rfl) rfl (qbug ..)
theorem qbu0 (a0 a1 a2):qbp (DD X (n+1)) a0 a1 a2=qbha (DD X n) n a0 a1 a2:=sQ hX n Tryz.func58 (by kernel_rfl) rfl (qbuu ..)
theorem qbsb (a0):qkd (DD X (n+1)) a0=q6j (DD X n) n a0:=sQ hX n Tryz.func63 (by kernel_rfl) rfl (qbsn ..)
theorem qm7 (a0 a1):qdu (DD X (n+1)) a0 a1=qdz (DD X n) n a0 a1:=sQ hX n Tryz.func64 (by kernel_rfl) rfl (qm9 ..)
theorem qbqb (a0):qt9 (DD X (n+1)) a0=q14 (DD X n) n a0:=sQ hX n Tryz.func66 (by kernel_rfl) rfl (qbpm ..)
theorem q8y (a0 a1):qlw (DD X (n+1)) a0 a1=qlz (DD X n) n a0 a1:=sQ hX n Tryz.func67 (by kernel_rfl) rfl (q8m ..)
theorem qblv (a0):qr5 (DD X (n+1)) a0=qyf (DD X n) n a0:=sQ hX n Tryz.func68 (by kernel_rfl) rfl (qblp ..)
theorem qt0 (a0):qgc (DD X (n+1)) a0=qip (DD X n) n a0:=sQ hX n Tryz.func69 (by kernel_rfl) rfl (q8h ..)
theorem qbl4:qcp (DD X (n+1))=q81 (DD X n) n:=sQ hX n Tryz.func70 (by kernel_rfl) rfl (qbl6 ..)
theorem qbl2 (a0):qdj (DD X (n+1)) a0=qzo (DD X n) n a0:=sQ hX n Tryz.func73 (by kernel_rfl) rfl (qbnr ..)
theorem q8p (a0 a1):qlx (DD X (n+1)) a0 a1=qlt (DD X n) n a0 a1:=sQ hX n Tryz.func74 (by kernel_rfl) rfl (q8d ..)
theorem qbpo (a0 a1):qk4 (DD X (n+1)) a0 a1=qbb4 (DD X n) n a0 a1:=sQ hX n Tryz.func75 (by kernel_rfl) rfl (qbpq ..)
theorem qbtb (a0):qhn (DD X (n+1)) a0=q5l (DD X n) n a0:=sQ hX n Tryz.func76 (by kernel_rfl) rfl (qbs6 ..)
theorem qbl3 (a0):qc3 (DD X (n+1)) a0=q0c (DD X n) n a0:=sQ hX n Tryz.func77 (by kernel_rfl) rfl (qbm5 ..)
theorem qbdf (a0 a1 a2):qli (DD X (n+1)) a0 a1 a2=qrs (DD X n) n a0 a1 a2:=sQ hX n Tryz.func79 (by kernel_rfl) rfl (qbdk ..)
theorem qbu6 (a0):qlv (DD X (n+1)) a0=q8q (DD X n) n a0:=sQ hX n Tryz.func80 (by kernel_rfl) rfl (qbuk ..)
theorem qbjb (a0 a1):qxd (DD X (n+1)) a0 a1=qxh (DD X n) n a0 a1:=sQ hX n Tryz.func81 (by kernel_rfl) rfl (qbke ..)
theorem qbng (a0 a1):q0l (DD X (n+1)) a0 a1=qy6 (DD X n) n a0 a1:=sQ hX n Tryz.func82 (by kernel_rfl) rfl (qbly ..)
theorem qbl1 (a0):qzw (DD X (n+1)) a0=qyj (DD X n) n a0:=sQ hX n Tryz.func83 (by kernel_rfl) rfl (qbnn ..)
theorem qbmv (a0):qif (DD X (n+1)) a0=qz3 (DD X n) n a0:=sQ hX n Tryz.func85 (by kernel_rfl) rfl (qbmr ..)
theorem qbnh:qy3 (DD X (n+1))=qbas (DD X n) n:=sQ hX n Tryz.func90 (by kernel_rfl) rfl (qbmk ..)
theorem qbs5 (a0 a1):qw3 (DD X (n+1)) a0 a1=q49 (DD X n) n a0 a1:=sQ hX n Tryz.func91 (by kernel_rfl) rfl (qbsi ..)
theorem qbh6 (a0 a1):qnz (DD X (n+1)) a0 a1=qvc (DD X n) n a0 a1:=sQ hX n Tryz.func92 (by kernel_rfl) rfl (qbi3 ..)
theorem qbef (a0):qqq (DD X (n+1)) a0=qrh (DD X n) n a0:=sQ hX n Tryz.func93 (by kernel_rfl) rfl (qbc5 ..)
theorem qbqf (a0):qjh (DD X (n+1)) a0=q2h (DD X n) n a0:=sQ hX n Tryz.func94 (by kernel_rfl) rfl (qbqd ..)
theorem qxn (a0):qe3 (DD X (n+1)) a0=qhi (DD X n) n a0:=sQ hX n Tryz.func95 (by kernel_rfl) rfl (qwi ..)
theorem qbms (a0):qyt (DD X (n+1)) a0=qyk (DD X n) n a0:=sQ hX n Tryz.func96 (by kernel_rfl) rfl (qbn4 ..)
theorem qbu5 (a0 a1 a2):qbo (DD X (n+1)) a0 a1 a2=qbhe (DD X n) n a0 a1 a2:=sQ hX n Tryz.func97 (by kernel_rfl) rfl (qbuw ..)
theorem qbsj (a0):qqk (DD X (n+1)) a0=q5z (DD X n) n a0:=sQ hX n Tryz.func98 (by kernel_rfl) rfl (qbtl ..)
theorem qbqi (a0):qt6 (DD X (n+1)) a0=q2c (DD X n) n a0:=sQ hX n Tryz.func99 (by kernel_rfl) rfl (qbpn ..)
theorem qbma (a0):q0h (DD X (n+1)) a0=qzq (DD X n) n a0:=sQ hX n Tryz.func100 (by kernel_rfl) rfl (qbmn ..)
theorem qbld (a0 a1):qww (DD X (n+1)) a0 a1=qwl (DD X n) n a0 a1:=sQ hX n Tryz.func101 (by kernel_rfl) rfl (qbjw ..)
theorem qbji (a0 a1):qw1 (DD X (n+1)) a0 a1=qwh (DD X n) n a0 a1:=sQ hX n Tryz.func102 (by kernel_rfl) rfl (qblj ..)
theorem qbnq (a0):qj9 (DD X (n+1)) a0=qzn (DD X n) n a0:=sQ hX n Tryz.func103 (by kernel_rfl) rfl (qbnc ..)
theorem qbfy (a0):qhp (DD X (n+1)) a0=qst (DD X n) n a0:=sQ hX n Tryz.func104 (by kernel_rfl) rfl (qbf9 ..)
theorem q9n (a0 a1):qm1 (DD X (n+1)) a0 a1=qmx (DD X n) n a0 a1:=sQ hX n Tryz.func105 (by kernel_rfl) rfl (q88 ..)
theorem qbcw (a0 a1):qpn (DD X (n+1)) a0 a1=qpp (DD X n) n a0 a1:=sQ hX n Tryz.func106 (by kernel_rfl) rfl (qbcm ..)
theorem qbmy (a0 a1):qzz (DD X (n+1)) a0 a1=qy9 (DD X n) n a0 a1:=sQ hX n Tryz.func107 (by kernel_rfl) rfl (qbnw ..)
theorem qnc (a0 a1):qds (DD X (n+1)) a0 a1=qdr (DD X n) n a0 a1:=sQ hX n Tryz.func109 (by kernel_rfl) rfl (qm8 ..)
theorem qbnt (a0):qbaj (DD X (n+1)) a0=q0s (DD X n) n a0:=sQ hX n Tryz.func110 (by kernel_rfl) rfl (qbmj ..)
theorem qbp2 (a0):q3c (DD X (n+1)) a0=q2n (DD X n) n a0:=sQ hX n Tryz.func111 (by kernel_rfl) rfl (qbpu ..)
theorem qbqj (a0 a1):q1y (DD X (n+1)) a0 a1=q2p (DD X n) n a0 a1:=sQ hX n Tryz.func112 (by kernel_rfl) rfl (qbp4 ..)
theorem qpd (a0 a1):qh8 (DD X (n+1)) a0 a1=qew (DD X n) n a0 a1:=sQ hX n Tryz.func113 (by kernel_rfl) rfl (qpy ..)
theorem q4m (a0 a1):qgx (DD X (n+1)) a0 a1=qju (DD X n) n a0 a1:=sQ hX n Tryz.func114 (by kernel_rfl) rfl (q4o ..)
theorem qbns (a0):qdi (DD X (n+1)) a0=qz4 (DD X n) n a0:=sQ hX n Tryz.func115 (by kernel_rfl) rfl (qbn7 ..)
theorem qbtj (a0):qqx (DD X (n+1)) a0=q5b (DD X n) n a0:=sQ hX n Tryz.func118 (by kernel_rfl) rfl (qbrm ..)
theorem qbnb (a0):qry (DD X (n+1)) a0=qza (DD X n) n a0:=sQ hX n Tryz.func119 (by kernel_rfl) rfl (qbne ..)
theorem qqd (a0 a1):qe7 (DD X (n+1)) a0 a1=qe9 (DD X n) n a0 a1:=sQ hX n Tryz.func120 (by kernel_rfl) rfl (qqg ..)
theorem qbgs (a0):q35 (DD X (n+1)) a0=qsg (DD X n) n a0:=sQ hX n Tryz.func121 (by kernel_rfl) rfl (qbfp ..)
theorem qnh (a0 a1):qcy (DD X (n+1)) a0 a1=qd1 (DD X n) n a0 a1:=sQ hX n Tryz.func122 (by kernel_rfl) rfl (qnb ..)
theorem qbgc (a0):q36 (DD X (n+1)) a0=qsx (DD X n) n a0:=sQ hX n Tryz.func123 (by kernel_rfl) rfl (qbf0 ..)
theorem qbnv (a0):qrx (DD X (n+1)) a0=qym (DD X n) n a0:=sQ hX n Tryz.func124 (by kernel_rfl) rfl (qbl5 ..)
theorem qbh9 (a0):qij (DD X (n+1)) a0=qum (DD X n) n a0:=sQ hX n Tryz.func125 (by kernel_rfl) rfl (qbho ..)
theorem qna (a0 a1):qcx (DD X (n+1)) a0 a1=qd0 (DD X n) n a0 a1:=sQ hX n Tryz.func126 (by kernel_rfl) rfl (qne ..)
theorem qbfl (a0 a1):q31 (DD X (n+1)) a0 a1=qs3 (DD X n) n a0 a1:=sQ hX n Tryz.func127 (by kernel_rfl) rfl (qbgl ..)
theorem qbt9 (a0):qxx (DD X (n+1)) a0=q5f (DD X n) n a0:=sQ hX n Tryz.func132 (by kernel_rfl) rfl (qbsu ..)
theorem qbs9 (a0):qhf (DD X (n+1)) a0=qbc0 (DD X n) n a0:=sQ hX n Tryz.func133 (by kernel_rfl) rfl (qbtx ..)
theorem qbtz (a0):q48 (DD X (n+1)) a0=q6l (DD X n) n a0:=sQ hX n Tryz.func134 (by kernel_rfl) rfl (qbr0 ..)
theorem qbl7 (a0):q0n (DD X (n+1)) a0=q0r (DD X n) n a0:=sQ hX n Tryz.func135 (by kernel_rfl) rfl (qbn0 ..)
theorem qbta (a0):q66 (DD X (n+1)) a0=q54 (DD X n) n a0:=sQ hX n Tryz.func136 (by kernel_rfl) rfl (qbtt ..)
theorem qbni (a0 a1):qz0 (DD X (n+1)) a0 a1=qzc (DD X n) n a0 a1:=sQ hX n Tryz.func137 (by kernel_rfl) rfl (qbm9 ..)
theorem qbn3 (a0):qz7 (DD X (n+1)) a0=qy8 (DD X n) n a0:=sQ hX n Tryz.func138 (by kernel_rfl) rfl (qbmq ..)
theorem qbmx:qr8 (DD X (n+1))=q92 (DD X n) n:=sQ hX n Tryz.func139 (by kernel_rfl) rfl (qbn5 ..)
theorem qbqc (a0):q2o (DD X (n+1)) a0=q16 (DD X n) n a0:=sQ hX n Tryz.func140 (by kernel_rfl) rfl (qbqs ..)
theorem qbpz (a0 a1):qbcd (DD X (n+1)) a0 a1=q10 (DD X n) n a0 a1:=sQ hX n Tryz.func141 (by kernel_rfl) rfl (qbqe ..)
theorem qbrt (a0):qjb (DD X (n+1)) a0=q65 (DD X n) n a0:=sQ hX n Tryz.func143 (by kernel_rfl) rfl (qbq9 ..)
theorem qbra (a0):qq0 (DD X (n+1)) a0=qbd6 (DD X n) n a0:=sQ hX n Tryz.func145 (by kernel_rfl) rfl (qbt3 ..)
theorem qbuc (a0):q0x (DD X (n+1)) a0=q8i (DD X n) n a0:=sQ hX n Tryz.func146 (by kernel_rfl) rfl (qbuo ..)
theorem qbqa (a0 a1):q15 (DD X (n+1)) a0 a1=q2d (DD X n) n a0 a1:=sQ hX n Tryz.func147 (by kernel_rfl) rfl (qbql ..)
theorem qs1 (a0):qfz (DD X (n+1)) a0=qfy (DD X n) n a0:=sQ hX n Tryz.func148 (by kernel_rfl) rfl (qsp ..)
theorem qrw (a0):qc7 (DD X (n+1)) a0=qfi (DD X n) n a0:=sQ hX n Tryz.func149 (by kernel_rfl) rfl (qqw ..)
theorem qs2 (a0):qf6 (DD X (n+1)) a0=qf5 (DD X n) n a0:=sQ hX n Tryz.func150 (by kernel_rfl) rfl (qss ..)
theorem qsu (a0):qf7 (DD X (n+1)) a0=qfx (DD X n) n a0:=sQ hX n Tryz.func151 (by kernel_rfl) rfl (qsq ..)
theorem qbxp (a0):qbbo (DD X (n+1)) a0=qba8 (DD X n) n a0:=sQ hX n Tryz.func152 (by kernel_rfl) rfl (qbw0 ..)
theorem qbps (a0 a1):q19 (DD X (n+1)) a0 a1=q2g (DD X n) n a0 a1:=sQ hX n Tryz.func153 (by kernel_rfl) rfl (qbpv ..)
theorem qbu4 (a0 a1):qo0 (DD X (n+1)) a0 a1=q8u (DD X n) n a0 a1:=sQ hX n Tryz.func154 (by kernel_rfl) rfl (qbun ..)
theorem qbul (a0 a1):qtv (DD X (n+1)) a0 a1=q8j (DD X n) n a0 a1:=sQ hX n Tryz.func155 (by kernel_rfl) rfl (qbu7 ..)
theorem qbxi (a0):qbav (DD X (n+1)) a0=qbbw (DD X n) n a0:=sQ hX n Tryz.func156 (by kernel_rfl) rfl (qbwq ..)
theorem qbdn (a0 a1 a2):qi4 (DD X (n+1)) a0 a1 a2=qq4 (DD X n) n a0 a1 a2:=sQ hX n Tryz.func157 (by kernel_rfl) rfl (qbew ..)
theorem qbgn (a0 a1 a2):qjm (DD X (n+1)) a0 a1 a2=qs8 (DD X n) n a0 a1 a2:=sQ hX n Tryz.func158 (by kernel_rfl) rfl (qbf8 ..)
theorem qbuz (a0 a1):q8f (DD X (n+1)) a0 a1=q8g (DD X n) n a0 a1:=sQ hX n Tryz.func159 (by kernel_rfl) rfl (qbuf ..)
theorem qbpt (a0 a1):qt8 (DD X (n+1)) a0 a1=q3f (DD X n) n a0 a1:=sQ hX n Tryz.func160 (by kernel_rfl) rfl (qbqp ..)
theorem qbsd (a0 a1 a2 a3):qw0 (DD X (n+1)) a0 a1 a2 a3=q5s (DD X n) n a0 a1 a2 a3:=sQ hX n Tryz.func161 (by kernel_rfl) rfl (qbr2 ..)
theorem qph (a0 a1):qh2 (DD X (n+1)) a0 a1=qev (DD X n) n a0 a1:=sQ hX n Tryz.func162 (by kernel_rfl) rfl (qpk ..)
theorem qtg (a0 a1):qjt (DD X (n+1)) a0 a1=qf1 (DD X n) n a0 a1:=sQ hX n Tryz.func163 (by kernel_rfl) rfl (qte ..)
theorem qo8 (a0 a1):qh3 (DD X (n+1)) a0 a1=qe0 (DD X n) n a0 a1:=sQ hX n Tryz.func164 (by kernel_rfl) rfl (qpa ..)
theorem qpu (a0 a1):qh5 (DD X (n+1)) a0 a1=qey (DD X n) n a0 a1:=sQ hX n Tryz.func165 (by kernel_rfl) rfl (qpl ..)
theorem qbr6 (a0):qv5 (DD X (n+1)) a0=q5x (DD X n) n a0:=sQ hX n Tryz.func166 (by kernel_rfl) rfl (qbsl ..)
theorem qbn6 (a0):q0a (DD X (n+1)) a0=qzx (DD X n) n a0:=sQ hX n Tryz.func167 (by kernel_rfl) rfl (qbl0 ..)
theorem qbwo (a0 a1):q4e (DD X (n+1)) a0 a1=qbax (DD X n) n a0 a1:=sQ hX n Tryz.func168 (by kernel_rfl) rfl (qbxk ..)
theorem q67 (a0 a1):qhw (DD X (n+1)) a0 a1=qkx (DD X n) n a0 a1:=sQ hX n Tryz.func169 (by kernel_rfl) rfl (q68 ..)
theorem qbtd (a0 a1):qw5 (DD X (n+1)) a0 a1=q5n (DD X n) n a0 a1:=sQ hX n Tryz.func170 (by kernel_rfl) rfl (qbq5 ..)
theorem qbpr (a0 a1):q3b (DD X (n+1)) a0 a1=q2u (DD X n) n a0 a1:=sQ hX n Tryz.func171 (by kernel_rfl) rfl (qbp9 ..)
theorem qbu1 (a0 a1):qer (DD X (n+1)) a0 a1=q8l (DD X n) n a0 a1:=sQ hX n Tryz.func172 (by kernel_rfl) rfl (qbue ..)
theorem qbr9 (a0):qfd (DD X (n+1)) a0=q6g (DD X n) n a0:=sQ hX n Tryz.func173 (by kernel_rfl) rfl (qbry ..)
theorem qbnz (a0 a1 a2 a3):qr2 (DD X (n+1)) a0 a1 a2 a3=qze (DD X n) n a0 a1 a2 a3:=sQ hX n Tryz.func174 (by kernel_rfl) rfl (qblo ..)
theorem q93 (a0):qjc (DD X (n+1)) a0=qmi (DD X n) n a0:=sQ hX n Tryz.func175 (by kernel_rfl) rfl (qbap ..)
theorem qbqh (a0 a1 a2 a3 a4):q3g (DD X (n+1)) a0 a1 a2 a3 a4=q23 (DD X n) n a0 a1 a2 a3 a4:=sQ hX n Tryz.func176 (by kernel_rfl) rfl (qbqo ..)
theorem qbnx (a0 a1):q9a (DD X (n+1)) a0 a1=q0u (DD X n) n a0 a1:=sQ hX n Tryz.func177 (by kernel_rfl) rfl (qbmw ..)
theorem qps (a0 a1):qhx (DD X (n+1)) a0 a1=qh0 (DD X n) n a0 a1:=sQ hX n Tryz.func178 (by kernel_rfl) rfl (qbcp ..)
theorem qu0 (a0 a1):qs (DD X (n+1)) a0 a1=qko (DD X n) n a0 a1:=sQ hX n Tryz.func179 (by kernel_rfl) rfl (qbit ..)
theorem qbfs (a0 a1):qb9 (DD X (n+1)) a0 a1=q3i (DD X n) n a0 a1:=sQ hX n Tryz.func180 (by kernel_rfl) rfl (qbf7 ..)
theorem qve (a0 a1 a2 a3 a4):qcu (DD X (n+1)) a0 a1 a2 a3 a4=qkf (DD X n) n a0 a1 a2 a3 a4:=sQ hX n Tryz.func181 (by kernel_rfl) rfl (qbh8 ..)
theorem qoi (a0 a1):qc4 (DD X (n+1)) a0 a1=qen (DD X n) n a0 a1:=sQ hX n Tryz.func182 (by kernel_rfl) rfl (qou ..)
theorem qbhm (a0 a1):q6c (DD X (n+1)) a0 a1=quy (DD X n) n a0 a1:=sQ hX n Tryz.func183 (by kernel_rfl) rfl (qbir ..)
theorem q1l (a0 a1 a2 a3):qj (DD X (n+1)) a0 a1 a2 a3=qi5 (DD X n) n a0 a1 a2 a3:=sQ hX n Tryz.func184 (by kernel_rfl) rfl (q07 ..)
theorem q6t (a0 a1 a2):qgm (DD X (n+1)) a0 a1 a2=qn3 (DD X n) n a0 a1 a2:=sQ hX n Tryz.func186 (by kernel_rfl) rfl (qbil ..)
theorem qs0 (a0 a1 a2 a3 a4):qf (DD X (n+1)) a0 a1 a2 a3 a4=qf0 (DD X n) n a0 a1 a2 a3 a4:=sQ hX n Tryz.func187 (by kernel_rfl) rfl (qsl ..)
theorem qtq (a0 a1 a2):qjy (DD X (n+1)) a0 a1 a2=qgh (DD X n) n a0 a1 a2:=sQ hX n Tryz.func188 (by kernel_rfl) rfl (qtu ..)
theorem qbnp (a0 a1):qdm (DD X (n+1)) a0 a1=q0g (DD X n) n a0 a1:=sQ hX n Tryz.func194 (by kernel_rfl) rfl (qbmp ..)
theorem qn2 (a0 a1 a2 a3):qhk (DD X (n+1)) a0 a1 a2 a3=qec (DD X n) n a0 a1 a2 a3:=sQ hX n Tryz.func199 (by kernel_rfl) rfl (qn7 ..)
theorem qbkd (a0):qxa (DD X (n+1)) a0=qxu (DD X n) n a0:=sQ hX n Tryz.func212 (by kernel_rfl) rfl (qbjv ..)
theorem qbko (a0):qqb (DD X (n+1)) a0=qwa (DD X n) n a0:=sQ hX n Tryz.func185 (by kernel_rfl) rfl (qbln ..)
theorem qbf4 (a0):q32 (DD X (n+1)) a0=qbw (DD X n) n a0:=sQ hX n Tryz.func198 (by kernel_rfl) rfl (qbfm ..)
end
end Go.G


/- The row FnPlans holds: for all bytes the law returns true and the argument reads as before. No condition. -/
import Derived.Test.YtcdcbckcploljaaGreatAPFnPlans2
set_option linter.unusedVariables false
set_option linter.unusedSimpArgs false
set_option linter.unusedSectionVars false
namespace Go.G
set_option maxRecDepth 100000
open Go Go.V Go.Proofs
theorem qxy (v:Int):∀ (l:List Int) (i:Nat),v∉l→keyF v l i = -1
 | [],i,_=>rfl
 | x::l,i,h=>by
  simp only[keyF]
  rw[if_neg (fun e=>h (by rw[e];exact List.mem_cons_self)),qxy v l (i+1) (fun m=>h (List.mem_cons_of_mem _ m))]
section
variable {X:Ext} (hX:XOk X) {n:Nat}
include hX
theorem qbgb (D:Den ctx) (n:Nat) (K0:Int→Option ((Int×Unit)×Unit)) (K1:Option ((Int×Unit)×Unit)) (hK:K0 (-1)=K1) (l:List Int) (hl:l.length≤1000) (v:Int):∀ (m i:Nat),i≤l.length→l.length - i<m→
  qd5 D n K0 K1 m l v (l.length:Int) (i:Int)=K0 (keyF v (l.drop i) i)
 | 0,_,_,h=>by omega
 | m+1,i,hi,hf=>by
  simp only[qd5,qi9]
  by_cases h:i<l.length
  ·rw[ql (by omega),ix h,br_t,Int.toNat_natCast,qc9 h,qll h]
   simp only[keyF]
   by_cases e:l[i]=v
   ·rw[ql e.symm,if_pos e]
   ·rw[qi (fun k=>e k.symm),if_neg e,qbh (by omega)]
    exact qbgb D n K0 K1 hK l hl v m (i+1) (by omega) (by omega)
  ·rw[qi (by omega),qnw h]
   exact hK.symm
theorem qbfk (hn:W+1≤n) (l:List Int) (hl:l.length≤1000) (v:Int):qg4 (DD X n) l v=some ((keyF v l 0,()),()):=by
 obtain ⟨n,rfl⟩:∃ k,n=k+1:=⟨n - 1,by omega⟩
 have hW:=qca
 rw[qym hX]
 simp only[qj7,qj9,qi0]
 have e:=qbgb hX (DD X n) n (fun v0_0=>qh5 (DD X n) n v0_0) (qib (DD X n) n) rfl l hl v n 0 (by omega) (by omega)
 rw[show ((0:Nat):Int)=0 from rfl] at e
 rw[e];rfl
theorem qbes (hn:W+2≤n) (r:q8) (hr:r.1.length≤1000) (v:Int):qrf (DD X n) r v=some ((keyF v r.1 0,()),()):=by
 obtain ⟨n,rfl⟩:∃ k,n=k+1:=⟨n - 1,by omega⟩
 rw[qbc8 hX]
 simp only[qw8,q2e]
 rw[qbfk hX (by omega) r.1 hr,qc]
theorem qbgs (hn:W+2≤n) (l:List Int) (hl:l.length≤1000) (v:Int) (h:v∉l):qh9 (DD X n) l v=some ((false,()),()):=by
 obtain ⟨n,rfl⟩:∃ k,n=k+1:=⟨n - 1,by omega⟩
 rw[qvf hX]
 simp only[qh8,qmx]
 rw[qbfk hX (by omega) l hl,qc,qxy v l 0 h]
 rfl
theorem q0f (N n:Nat) (hN:W+3≤N) (K0:Bool→q8→Option ((Bool×Unit)×Unit)) (K1:q8→Option ((Bool×Unit)×Unit)) {r:q8} (hr:RightR r):∀ (m i:Nat),i≤r.1.length→r.1.length - i<m→
  qij (DD X N) n K0 K1 m r.1 (r.1.length:Int) (i:Int) r=K1 r
 | 0,_,_,h=>by omega
 | m+1,i,hi,hf=>by
  have hl:=hr.len
  have hW:=qca
  simp only[qij,qtc]
  by_cases h:i<r.1.length
  ·rw[ql (by omega),ix h,br_t,Int.toNat_natCast,qc9 h]
   by_cases e:r.1[i]=0
   ·rw[bned,decide_eq_true e,Bool.not_true,br_f,qbh (by omega)]
    exact q0f N n hN K0 K1 hr m (i+1) (by omega) (by omega)
   ·have hv:=hr.rng r.1[i] (List.getElem_mem h)
    rw[bned,decide_eq_false e,Bool.not_false,br_t,qlj hX (by omega),qc]
    dsimp only
    rw[qbz.2 (by omega),Bool.not_true,br_f]
    rw[show (decide ((0:Nat)≤0)&&decide ((0:Int)≤(i:Int))&&decide ((i:Int)≤(r.1.length:Int)))=true by
     rw[decide_eq_true (by omega:(0:Int)≤(i:Int)),decide_eq_true (by omega:(i:Int)≤(r.1.length:Int))];rfl]
    rw[br_t,Int.toNat_zero,List.drop_zero]
    have hnot:r.1[i]∉r.1.take i:=fun hm=>by
     obtain ⟨j,hj⟩:=List.mem_iff_getElem?.1 hm
     rw[List.getElem?_take] at hj
     split at hj
     ·exact e (hr.once j i (by assumption) _ hj (List.getElem?_eq_getElem h))
     ·simp at hj
    rw[qbgs hX (by omega) _ (by rw[List.length_take];omega) _ hnot,qc]
    dsimp only
    rw[br_f,qbh (by omega)]
    exact q0f N n hN K0 K1 hr m (i+1) (by omega) (by omega)
  ·rw[qi (by omega)]
theorem qv1 (hn:W+4≤n) {r:q8} (hr:RightR r):qmj (DD X n) r=some ((true,()),()):=by
 obtain ⟨n,rfl⟩:∃ k,n=k+1:=⟨n - 1,by omega⟩
 have hW:=qca
 have hl:=hr.len
 rw[qbaq hX]
 simp only[qus,qua,qqt]
 have e:=q0f hX n n (by omega) (fun v0_0 v0_1=>qpi (DD X n) n v0_0 v0_1) (fun v1_0=>ql1 (DD X n) n v1_0) hr n 0 (by omega) (by omega)
 rw[show ((0:Nat):Int)=0 from rfl] at e
 rw[e]
 simp only[ql1]
 rw[ql (by omega),q6x hX (by omega),qc,qbz.2 hr.st]
theorem qu4 (N n:Nat) (hN:4≤N) (K:Int→Option ((Int×Unit)×Unit)) (l:List Int) (hr:l.length≤1000) (c:Int):∀ (m i:Nat) (a:Int),i≤l.length→l.length - i<m→0≤a∧a≤i→
  qhv (DD X N) n K m c a l (l.length:Int) (i:Int)=K (a+many c (l.drop i))
 | 0,_,_,_,h,_=>by omega
 | m+1,i,a,hi,hf,ha=>by
  simp only[qhv,qqm]
  by_cases h:i<l.length
  ·rw[ql (by omega),ix h,br_t,Int.toNat_natCast,qc9 h,qlj hX (by omega),qc,qll h]
   simp only[many]
   cases hv:inR l[i] 1 6
   ·rw[br_f,qbh (by omega),qu4 N n hN K l hr c m (i+1) _ (by omega) (by omega) (by omega)]
    congr 1
    simp only[Bool.false_and,cond_false]
    omega
   ·rw[br_t,qf7 hX (by omega),qc]
    dsimp only
    by_cases e:qh l[i]=c
    ·rw[ql e,qbl (by omega) (by omega),qbh (by omega),qu4 N n hN K l hr c m (i+1) _ (by omega) (by omega) (by omega)]
     congr 1
     simp only[e,Bool.true_and,decide_true,cond_true]
     omega
    ·rw[qi e,qbh (by omega),qu4 N n hN K l hr c m (i+1) _ (by omega) (by omega) (by omega)]
     congr 1
     simp only[decide_eq_false e,Bool.true_and,cond_false]
     omega
  ·rw[qi (by omega),qnw h]
   congr 1;simp[many]
theorem qbat (hn:W+1≤n) (r:q8) (hr:r.1.length≤1000) (c:Int):qrq (DD X n) r c=some ((many c r.1,()),()):=by
 obtain ⟨n,rfl⟩:∃ k,n=k+1:=⟨n - 1,by omega⟩
 have hW:=qca
 rw[q7j hX]
 simp only[qro,qss,qpu]
 have e:=qu4 hX n n (by omega) (fun v0_0=>qoo (DD X n) n v0_0) r.1 hr c n 0 0 (by omega) (by omega) (by omega)
 rw[show ((0:Nat):Int)=0 from rfl,List.drop_zero,Int.zero_add] at e
 rw[e];rfl
theorem qbl8 (hn:1≤n) (r:q8):qj4 (DD X n) r=some ((decide (r.2.1=5),()),()):=by
 obtain ⟨n,rfl⟩:∃ k,n=k+1:=⟨n - 1,by omega⟩
 rw[qber hX];rfl
theorem qbf0 (D:Den ctx) (n:Nat) (K0:Bool→Option ((Bool×Unit)×Unit)) (K1:Option ((Bool×Unit)×Unit)) (l:List Int) (hl:l.length≤1000):∀ (m i:Nat),i≤l.length→l.length - i<m→
  qd7 D n K0 K1 m l l (l.length:Int) (i:Int)=K1
 | 0,_,_,h=>by omega
 | m+1,i,hi,hf=>by
  simp only[qd7,qi8]
  by_cases h:i<l.length
  ·rw[ql (by omega),ix h,br_t,br_t,bned,decide_eq_true rfl,Bool.not_true,br_f,qbh (by omega)]
   exact qbf0 D n K0 K1 l hl m (i+1) (by omega) (by omega)
  ·rw[qi (by omega)]
theorem qbk9 (hn:W+1≤n) (l:List Int) (hl:l.length≤1000):qj6 (DD X n) l l=some ((true,()),()):=by
 obtain ⟨n,rfl⟩:∃ k,n=k+1:=⟨n - 1,by omega⟩
 have hW:=qca
 rw[qya hX]
 simp only[qkb,qkc,qiz]
 have e:=qbf0 hX (DD X n) n (fun v0_0=>qh7 (DD X n) n v0_0) (qia (DD X n) n) l hl n 0 (by omega) (by omega)
 rw[show ((0:Nat):Int)=0 from rfl] at e
 rw[show ((l.length:Int) != (l.length:Int))=false by simp,br_f,e]
 rfl
theorem qbiq (D:Den ctx) (n:Nat) (K0:Bool→Option ((Bool×Unit)×Unit)) (K1:Option ((Bool×Unit)×Unit)) (l:List Int) (hl:l.length≤1000):∀ (m i:Nat),i≤l.length→l.length - i<m→
  qgv D n K0 K1 m l l (i:Int)=K1
 | 0,_,_,h=>by omega
 | m+1,i,hi,hf=>by
  simp only[qgv,qpl]
  by_cases h:i<l.length
  ·rw[ql (by omega),ix h,br_t,br_t,bned,decide_eq_true rfl,Bool.not_true,br_f,qbh (by omega)]
   exact qbiq D n K0 K1 l hl m (i+1) (by omega) (by omega)
  ·rw[qi (by omega)]
theorem q7c (hn:W+1≤n) (l:List Int) (hl:l.length≤1000):qm0 (DD X n) l l=some ((true,()),()):=by
 obtain ⟨n,rfl⟩:∃ k,n=k+1:=⟨n - 1,by omega⟩
 have hW:=qca
 rw[q6d hX]
 simp only[qrk,qp3,qom]
 have e:=qbiq hX (DD X n) n (fun v0_0=>qnd (DD X n) n v0_0) (qnp (DD X n) n) l hl n 0 (by omega) (by omega)
 rw[show ((0:Nat):Int)=0 from rfl] at e
 rw[show ((l.length:Int) != (l.length:Int))=false by simp,br_f,e]
 rfl
theorem qbgh (hn:2≤n) {r:q8} (hr:RightR r):qqy (DD X n) r=some ((r,()),()):=by
 obtain ⟨n,rfl⟩:∃ k,n=k+2:=⟨n - 2,by omega⟩
 have hl:=hr.len
 have hb:=qfw
 rw[q65 hX]
 simp only[qqc,qxt]
 rw[qyg hX]
 simp only[qj8,qo0]
 rw[qi (by rw[Int.toNat_natCast];omega),ql (by omega),qc]
 rfl
end
end Go.G

namespace Go.G
set_option maxRecDepth 100000
open Go Go.V Go.Proofs
def qe6 (r:q8) (o:Op3) (code:Int):q8:=
 if code≠0 then r else if o.1=1∨o.1=2 then (r.1.set o.2.1.toNat o.2.2.1,r.2) else if o.1=3 then (r.1.set o.2.1.toNat 0,r.2) else
 if o.1=8∨o.1=9 then (r.1,IntKind.wrap IntKind.i64 (r.2.1+1),()) else r
section
variable {X:Ext} (hX:XOk X) {n:Nat}
include hX
theorem q9v (hn:W+6≤n) {r:q8} (hr:RightR r) {o:Op3} (ho:opOk o=true) {code:Int} {list:List Int} (h:Out r o code list):qn9 (DD X n) r o (code,list,())=some ((true,()),()):=by
 obtain ⟨n,rfl⟩:∃ k,n=k+2:=⟨n - 2,by omega⟩
 have hW:=qca
 have hl:=hr.len
 have hkd:=qm2 ho
 have hkey:=fun v=>qbes hX (n:=n) (by omega) r (by omega) v
 have hmade:=qbl8 hX (n:=n) (by omega) r
 have hmany:=fun c=>qbat hX (n:=n) (by omega) r (by omega) c
 have heq:=fun l hl=>qbk9 hX (n:=n+1) (by omega) l hl
 obtain ⟨k,K,V,⟨⟩⟩:=o
 dsimp only at hkd
 rw[q7p hX]
 simp only[qr2,qzz]
 rw[qv1 hX (by omega) hr,qc]
 dsimp only
 rw[Bool.not_true,br_f,q0s hX (by omega),ho,qc]
 dsimp only
 rw[Bool.not_true,br_f]
 have hix:k=1∨k=2∨k=3∨k=4→(decide (0≤K)&&decide (K<(r.1.length:Int)))=true:=fun q=>ixn (by omega) (by omega)
 have hkk:=qlf V r.1 0
 have hkV:r.1.getD K.toNat 0=V→(0≤K∧K≤3)→V≠0→keyF V r.1 0=K:=fun e hK hV=>by
  have hget:r.1[K.toNat]? = some V:=by rw[←e,List.getElem?_eq_getElem (by omega),qc9 (by omega)]
  rw[qry V r.1 0 K.toNat hget (fun j hj hc=>hV (hr.once j K.toNat hj V hc hget))]
  omega
 cases h with
 | put1 hk h1=>
  dsimp only at hk h1
  subst hk
  have hI:=hix (by omega)
  rw[show ((1:Int) != 0)=true by decide,br_t,ql (by simp),qdw hX]
  simp only[qc3,qdd]
  rw[hkey V,qc]
  generalize r.1.getD K.toNat 0=x at *
  simp only[hmade]
  simp[br,bned,qe,hI,h1]
 | put2 hk h1 h2=>
  dsimp only at hk h1 h2
  subst hk
  have hI:=hix (by omega)
  rw[show ((2:Int) != 0)=true by decide,br_t,ql (by simp),qdw hX]
  simp only[qc3,qdd]
  rw[hkey V,qc]
  generalize r.1.getD K.toNat 0=x at *
  simp only[hmade]
  simp[br,bned,qe,hI,h1,h2]
 | put0 hk h1 h2=>
  dsimp only at hk h1 h2
  subst hk
  have hI:=hix (by omega)
  rw[show ((0:Int) != 0)=false by decide,br_f,qdt hX]
  simp only[qc6,qde]
  rw[hkey V,qc]
  generalize r.1.getD K.toNat 0=x at *
  simp only[hmade,hmany]
  have hq:=heq ([]:List Int) (by simp)
  simp[br,bned,qe,hq,hI,h1,h2]
 | set3 hk h1=>
  dsimp only at hk h1
  subst hk
  have hI:=hix (by omega)
  rw[show ((3:Int) != 0)=true by decide,br_t,ql (by simp),qdw hX]
  simp only[qc3,qdd]
  rw[hkey V,qc]
  generalize r.1.getD K.toNat 0=x at *
  simp only[hmade]
  simp[br,bned,qe,hI,h1]
 | setS hk h1 h2=>
  dsimp only at hk h1 h2
  subst hk
  have hI:=hix (by omega)
  have hkv:=hkV h2 (by omega) (by omega)
  rw[show ((0:Int) != 0)=false by decide,br_f,qdt hX]
  simp only[qc6,qde]
  rw[hkey V,qc]
  generalize r.1.getD K.toNat 0=x at *
  simp only[hmade,hmany]
  have hq:=heq ([]:List Int) (by simp)
  simp[br,bned,qe,hq,hI,h1,h2,hkv,(show ¬ V=0 from fun e=>h1 (h2.trans e))]
 | set2 hk h1 h2 h3=>
  dsimp only at hk h1 h2 h3
  subst hk
  have hI:=hix (by omega)
  rw[show ((2:Int) != 0)=true by decide,br_t,ql (by simp),qdw hX]
  simp only[qc3,qdd]
  rw[hkey V,qc]
  generalize r.1.getD K.toNat 0=x at *
  simp only[hmade]
  simp[br,bned,qe,hI,h1,h2,h3]
 | set0 hk h1 h2 h3=>
  dsimp only at hk h1 h2 h3
  subst hk
  have hI:=hix (by omega)
  rw[show ((0:Int) != 0)=false by decide,br_f,qdt hX]
  simp only[qc6,qde]
  rw[hkey V,qc]
  generalize r.1.getD K.toNat 0=x at *
  simp only[hmade,hmany]
  have hq:=heq ([]:List Int) (by simp)
  simp[br,bned,qe,hq,hI,h1,h2,h3]
 | del3 hk h1=>
  dsimp only at hk h1
  subst hk
  have hI:=hix (by omega)
  rw[show ((3:Int) != 0)=true by decide,br_t,ql (by simp),qdw hX]
  simp only[qc3,qdd]
  rw[hkey V,qc]
  generalize r.1.getD K.toNat 0=x at *
  simp only[hmade]
  simp[br,bned,qe,hI,h1]
 | del0 hk h1=>
  dsimp only at hk h1
  subst hk
  have hI:=hix (by omega)
  rw[show ((0:Int) != 0)=false by decide,br_f,qdt hX]
  simp only[qc6,qde]
  rw[hkey V,qc]
  generalize r.1.getD K.toNat 0=x at *
  simp only[hmade,hmany]
  have hq:=heq ([]:List Int) (by simp)
  simp[br,bned,qe,hq,hI,h1]
 | get3 hk h1=>
  dsimp only at hk h1
  subst hk
  have hI:=hix (by omega)
  rw[show ((3:Int) != 0)=true by decide,br_t,ql (by simp),qdw hX]
  simp only[qc3,qdd]
  rw[hkey V,qc]
  generalize r.1.getD K.toNat 0=x at *
  simp only[hmade]
  simp[br,bned,qe,hI,h1]
 | get0 hk h1=>
  dsimp only at hk h1
  subst hk
  have hI:=hix (by omega)
  rw[show ((0:Int) != 0)=false by decide,br_f,qdt hX]
  simp only[qc6,qde]
  rw[hkey V,qc]
  generalize r.1.getD K.toNat 0=x at *
  simp only[hmade,hmany]
  have hq:=heq [x] (by simp)
  simp[br,bned,qe,hq,hI,h1]
 | find3 hk h1=>
  dsimp only at hk h1
  subst hk
  rw[show ((3:Int) != 0)=true by decide,br_t,ql (by simp),qdw hX]
  simp only[qc3,qdd]
  rw[hkey V,qc]
  simp only[hmade]
  simp[br,bned,qe,h1]
 | find0 hk h1=>
  dsimp only at hk h1
  subst hk
  rw[show ((0:Int) != 0)=false by decide,br_f,qdt hX]
  simp only[qc6,qde]
  rw[hkey V,qc]
  simp only[hmade,hmany]
  have hq:=heq [keyF V r.1 0] (by simp)
  simp[br,bned,qe,hq,h1]
 | cnt0 hk=>
  dsimp only at hk
  subst hk
  rw[show ((0:Int) != 0)=false by decide,br_f,qdt hX]
  simp only[qc6,qde]
  rw[hkey V,qc]
  simp only[hmade,hmany]
  have hq:=heq [many K r.1] (by simp)
  simp[br,bned,qe,hq]
 | scan0 hk=>
  dsimp only at hk
  subst hk
  rw[show ((0:Int) != 0)=false by decide,br_f,qdt hX]
  simp only[qc6,qde]
  rw[hkey V,qc]
  simp only[hmade,hmany]
  have hq:=heq r.1 (by omega)
  simp[br,bned,qe,hq]
 | open4 hk h1=>
  dsimp only at hk h1
  subst hk
  rw[show ((4:Int) != 0)=true by decide,br_t,ql (by simp),qdw hX]
  simp only[qc3,qdd]
  rw[hkey V,qc]
  simp only[hmade]
  simp[br,bned,qe,h1]
 | open0 hk h1=>
  dsimp only at hk h1
  subst hk
  rw[show ((0:Int) != 0)=false by decide,br_f,qdt hX]
  simp only[qc6,qde]
  rw[hkey V,qc]
  simp only[hmade,hmany]
  have hq:=heq ([]:List Int) (by simp)
  simp[br,bned,qe,hq,h1]
 | make4 hk h1=>
  dsimp only at hk h1
  subst hk
  rw[show ((4:Int) != 0)=true by decide,br_t,ql (by simp),qdw hX]
  simp only[qc3,qdd]
  rw[hkey V,qc]
  simp only[hmade]
  rcases h1 with h1 | h1<;>simp[br,bned,qe,h1]
 | make0 hk h1=>
  dsimp only at hk h1
  subst hk
  rw[show ((0:Int) != 0)=false by decide,br_f,qdt hX]
  simp only[qc6,qde]
  rw[hkey V,qc]
  simp only[hmade,hmany]
  have hq:=heq ([]:List Int) (by simp)
  simp[br,bned,qe,hq,show ¬ r.2.1=0 by omega,show ¬ r.2.1=5 by omega]
 | via4 hk h1=>
  dsimp only at hk h1
  subst hk
  rw[show ((4:Int) != 0)=true by decide,br_t,ql (by simp),qdw hX]
  simp only[qc3,qdd]
  rw[hkey V,qc]
  simp only[hmade]
  simp[br,bned,qe,h1]
 | via3 hk h1 h2=>
  dsimp only at hk h1 h2
  subst hk
  rw[show ((3:Int) != 0)=true by decide,br_t,ql (by simp),qdw hX]
  simp only[qc3,qdd]
  rw[hkey V,qc]
  simp only[hmade]
  simp[br,bned,qe,h1,h2]
 | via0 hk h1 h2=>
  dsimp only at hk h1 h2
  subst hk
  rw[show ((0:Int) != 0)=false by decide,br_f,qdt hX]
  simp only[qc6,qde]
  rw[hkey V,qc]
  simp only[hmade,hmany]
  have hq:=heq [keyF V r.1 0] (by simp)
  simp[br,bned,qe,hq,h1,h2]
theorem qbfz (hn:W+7≤n) {r:q8} (hr:RightR r) {o:Op3} (ho:opOk o=true) {code:Int} {list:List Int} (h:Out r o code list):qqz (DD X n) r o (code,list,())=some ((qe6 r o code,()),()):=by
 obtain ⟨n,rfl⟩:∃ k,n=k+1:=⟨n - 1,by omega⟩
 have hW:=qca
 have hl:=hr.len
 have hkd:=qm2 ho
 have hal:=q9v hX (n:=n) (by omega) hr ho h
 have hcp:=qbgh hX (n:=n) (by omega) hr
 obtain ⟨k,K,V,⟨⟩⟩:=o
 dsimp only at hkd
 rw[qbc3 hX]
 simp only[qxe,q1j]
 rw[hcp,qc,hal,qc]
 dsimp only
 rw[Bool.not_true,cond_false]
 unfold qe6
 by_cases hc:code=0
 ·subst hc
  rw[show ((0:Int) != 0)=false by decide,br_f,if_neg (by omega)]
  dsimp only
  by_cases k1:k=1
  ·rw[ql k1,ql k1,ixn (by omega) (by omega),br_t,if_pos (.inl k1)]
  rw[qi k1]
  by_cases k2:k=2
  ·rw[ql k2,ixn (by omega) (by omega),br_t,if_pos (.inr k2)]
  rw[qi k2,if_neg (by omega)]
  by_cases k3:k=3
  ·rw[ql k3,ixn (by omega) (by omega),br_t,if_pos k3]
  rw[qi k3,if_neg k3]
  by_cases k8:k=8
  ·rw[ql k8,ql k8,if_pos (.inl k8)]
  rw[qi k8]
  by_cases k9:k=9
  ·rw[ql k9,if_pos (.inr k9)]
  rw[qi k9,if_neg (by omega)]
 ·rw[show (code != 0)=true by rw[bned,decide_eq_false hc];rfl,br_t,if_pos hc]
end
end Go.G

namespace Go.G
set_option maxRecDepth 100000
open Go Go.V Go.Proofs
def cls (c v:Int):Int:=bif inR v 1 6&&decide (qh v=c) then 1 else 0
theorem qbcz (c:Int):∀ (l k:List Int),many c (l++k)=many c l+many c k
 | [],k=>by simp[many]
 | x::l,k=>by
  rw[List.cons_append]
  simp only[many]
  rw[qbcz c l k];omega
theorem qbib (c:Int) (l:List Int) {i:Nat} (h:i<l.length):many c (l.take (i+1))=many c (l.take i)+cls c l[i]:=by
 rw[List.take_succ_eq_append_getElem h,qbcz]
 simp only[many,cls];omega
def qxx (r:q8) (i p:Nat):Int:=if p<4 then r.1.getD p 0 else if 10≤p∧p<13 then many ((p:Int) - 10) (r.1.take i) else qpa r i p
section
variable {X:Ext} (hX:XOk X) {n:Nat}
include hX
theorem qz3 (N n:Nat) (hN:W+4≤N) (K:q8→List Int→Option ((List Int×Unit)×Unit)) {r:q8} (hr:RightR r):∀ (m i:Nat) (ws:List Int),i≤4→4 - i<m→ws.length=20→(∀ p<20,ws.getD p 0=qxx r i p)→
  ∃ ws',ws'.length=20∧(∀ p<20,ws'.getD p 0=qxx r 4 p)∧qhr (DD X N) n K m r.1 (r.1.length:Int) (i:Int) r ws=K r ws'
 | 0,_,_,_,h,_,_=>by omega
 | m+1,i,ws,hi,hf,hlw,hw=>by
  have hl:=hr.len
  have hst:=hr.st
  have hW:=qca
  simp only[qhr,qqj]
  by_cases h:i<4
  ·have hi2:i<r.1.length:=by omega
   have hv:=hr.rng r.1[i] (List.getElem_mem hi2)
   have hps:=q9t hX hr h hi2
   have hmt:=fun c=>qbib c r.1 hi2
   rw[ql (by omega),ix hi2,br_t,Int.toNat_natCast,qc9 hi2]
   by_cases h0:r.1[i]=0
   ·rw[ql h0,qbh (by omega)]
    refine qz3 N n hN K hr m (i+1) ws (by omega) (by omega) hlw (fun p hp=>?_)
    rw[hw p hp]
    unfold qxx
    by_cases a1:p<4
    ·rw[if_pos a1,if_pos a1]
    rw[if_neg a1,if_neg a1]
    by_cases a2:10≤p∧p<13
    ·rw[if_pos a2,if_pos a2,hmt,h0]
     have:cls ((p:Int) - 10) 0=0:=rfl
     rw[this];omega
    rw[if_neg a2,if_neg a2,hps p hp,if_neg a1]
    rw[if_neg (show ¬ (r.1[i]≠0∧(p:Int)=3+r.1[i]) from fun k=>k.1 h0),if_neg (show ¬ (r.1[i]≠0∧(p:Int)=13+r.1[i]∧(i:Int)<r.2.1 - 1) from fun k=>k.1 h0)]
   ·have ho:=qgy r.1[i]
    have hvi:=qfo r.1[i]
    have hcl:=qi1 r.1[i]
    have hc:=qf9 (qh r.1[i])
    have ho2:qv r.1[i]=3+r.1[i]:=by omega
    have hvi2:q9 r.1[i]=13+r.1[i]:=by omega
    have hc2:qbg (qh r.1[i])=10+qh r.1[i]:=by omega
    have hws:IntKind.wrap IntKind.i64 (r.2.1 - 1)=r.2.1 - 1:=qbl (by omega) (by omega)
    have hmr:=qr3 (qh r.1[i]) (r.1.take i)
    rw[List.length_take] at hmr
    have hcnt:(ws.set (3+r.1[i]).toNat ((i:Int)+1)).getD (10+qh r.1[i]).toNat 0=many (qh r.1[i]) (r.1.take i):=by
     rw[qd9 _ _ _ _ (by omega),if_neg (by omega),hw _ (by omega)]
     unfold qxx
     rw[if_neg (by omega),if_pos (by omega),show (((10+qh r.1[i]).toNat:Nat):Int) - 10=qh r.1[i] by omega]
    have hcls:∀ c,cls c r.1[i]=if qh r.1[i]=c then 1 else 0:=fun c=>by
     unfold cls
     rw[qbz.2 (by omega),Bool.true_and]
     by_cases e:qh r.1[i]=c
     ·rw[decide_eq_true e,if_pos e];rfl
     ·rw[decide_eq_false e,if_neg e];rfl
    rw[qi h0,qex hX (by omega),qc]
    dsimp only
    rw[ho2,ixn (by omega) (by omega),br_t,qf7 hX (by omega),qc]
    dsimp only
    rw[qez hX (by omega),qc]
    dsimp only
    have hw1:IntKind.wrap IntKind.i64 ((i:Int)+1)=(i:Int)+1:=qbl (by omega) (by omega)
    rw[hc2,hw1,ixn (by omega) (by rw[List.length_set,hlw];omega),br_t,br_t,hcnt,qbl (x:=many (qh r.1[i]) (r.1.take i)+1) (by omega) (by omega),hws]
    have hfin:∀ p<20,p<4∨¬ (p<4):=fun p _=>by omega
    by_cases hs:(i:Int)<r.2.1 - 1
    ·rw[ql hs,qgo hX (by omega),qc]
     dsimp only
     rw[hvi2,ixn (by omega) (by rw[List.length_set,List.length_set,hlw];omega),br_t]
     refine qz3 N n hN K hr m (i+1) _ (by omega) (by omega) (by rw[List.length_set,List.length_set,List.length_set];exact hlw) (fun p hp=>?_)
     rw[qd9 _ _ _ _ (by rw[List.length_set,List.length_set,hlw];omega),qd9 _ _ _ _ (by rw[List.length_set,hlw];omega),qd9 _ _ _ _ (by omega),hw p hp]
     unfold qxx
     by_cases a1:p<4
     ·rw[if_neg (by omega),if_neg (by omega),if_neg (by omega),if_pos a1,if_pos a1]
     rw[if_neg a1,if_neg a1]
     by_cases a2:10≤p∧p<13
     ·rw[if_neg (show ¬ p=(13+r.1[i]).toNat by omega),if_neg (show ¬ p=(3+r.1[i]).toNat by omega),if_pos a2,if_pos a2,hmt,hcls]
      by_cases e:p=(10+qh r.1[i]).toNat
      ·rw[if_pos e,if_pos (by omega),show (p:Int) - 10=qh r.1[i] by omega]
      ·rw[if_neg e,if_neg (by omega)];omega
     rw[if_neg a2,if_neg a2,hps p hp,if_neg a1]
     by_cases e3:p=(13+r.1[i]).toNat
     ·rw[if_pos e3,if_neg (by omega),if_pos ⟨h0,by omega,hs⟩]
     rw[if_neg e3,if_neg (show ¬ p=(10+qh r.1[i]).toNat by omega)]
     by_cases e2:p=(3+r.1[i]).toNat
     ·rw[if_pos e2,if_pos ⟨h0,by omega⟩]
     rw[if_neg e2,if_neg (show ¬ (r.1[i]≠0∧(p:Int)=3+r.1[i]) by omega),if_neg (show ¬ (r.1[i]≠0∧(p:Int)=13+r.1[i]∧(i:Int)<r.2.1 - 1) by omega)]
    ·rw[qi hs]
     refine qz3 N n hN K hr m (i+1) _ (by omega) (by omega) (by rw[List.length_set,List.length_set];exact hlw) (fun p hp=>?_)
     rw[qd9 _ _ _ _ (by rw[List.length_set,hlw];omega),qd9 _ _ _ _ (by omega),hw p hp]
     unfold qxx
     by_cases a1:p<4
     ·rw[if_neg (by omega),if_neg (by omega),if_pos a1,if_pos a1]
     rw[if_neg a1,if_neg a1]
     by_cases a2:10≤p∧p<13
     ·rw[if_neg (show ¬ p=(3+r.1[i]).toNat by omega),if_pos a2,if_pos a2,hmt,hcls]
      by_cases e:p=(10+qh r.1[i]).toNat
      ·rw[if_pos e,if_pos (by omega),show (p:Int) - 10=qh r.1[i] by omega]
      ·rw[if_neg e,if_neg (by omega)];omega
     rw[if_neg a2,if_neg a2,hps p hp,if_neg a1]
     rw[if_neg (show ¬ p=(10+qh r.1[i]).toNat by omega),if_neg (show ¬ (r.1[i]≠0∧(p:Int)=13+r.1[i]∧(i:Int)<r.2.1 - 1) from fun k=>hs k.2.2)]
     by_cases e2:p=(3+r.1[i]).toNat
     ·rw[if_pos e2,if_pos ⟨h0,by omega⟩]
     rw[if_neg e2,if_neg (show ¬ (r.1[i]≠0∧(p:Int)=3+r.1[i]) by omega)]
  ·rw[qi (by omega)]
   have:i=4:=by omega
   subst this
   exact ⟨ws,hlw,hw,rfl⟩
theorem qbci (hn:W+6≤n) {r:q8} (hr:RightR r):∃ ws:List Int,ws.length=20∧(∀ p<20,ws.getD p 0=qdl r p)∧qk3 (DD X n) r=some ((ws,()),()):=by
 obtain ⟨n,rfl⟩:∃ k,n=k+1:=⟨n - 1,by omega⟩
 have hW:=qca
 have hst:=hr.st
 have hl:=hr.len
 rw[q7u hX]
 simp only[qrs,qrn]
 rw[qv1 hX (by omega) hr,qc]
 dsimp only
 rw[Bool.not_true,br_f]
 simp only[qpv]
 have hcp:(decide (0<r.1.length)&&decide (0<(List.replicate (Int.toNat 20) (0:Int)).length))=true:=by
  rw[decide_eq_true (by omega),List.length_replicate];rfl
 obtain ⟨w1,l1,h1,e1⟩:=qz3 hX n n (by omega) (fun v0_0 v0_1=>qkk (DD X n) n v0_0 v0_1) hr n 0 (qmc (Ty.int IntKind.i64) (List.replicate (Int.toNat 20) 0) r.1) (by omega) (by omega)
  (by rw[q6k];rfl) (fun p hp=>by
  have e0:(List.replicate (Int.toNat 20) (0:Int)).getD p 0=0:=by
   simp only[List.getD,List.getElem?_replicate];split<;>rfl
  have e1:=q6l (t:=Ty.int IntKind.i64) (xs:=List.replicate (Int.toNat 20) 0) (ys:=r.1) p (by rw[List.length_replicate];exact hp)
  rw[List.length_replicate,hl] at e1
  refine Eq.trans e1 ?_
  unfold qxx
  by_cases a1:p<4
  ·rw[if_pos (by omega),if_pos a1];rfl
  ·rw[if_neg (by omega),if_neg a1]
   refine Eq.trans e0 ?_
   by_cases a2:10≤p∧p<13
   ·rw[if_pos a2,List.take_zero];rfl
   rw[if_neg a2]
   unfold qpa ownW viaW
   rw[if_neg a1]
   split
   ·rw[if_neg (by omega)]
   ·split
    ·rfl
    ·rw[if_neg (by omega)])
 rw[show ((0:Nat):Int)=0 from rfl] at e1
 refine ⟨w1.set 13 r.2.1,by rw[List.length_set];exact l1,fun p hp=>?_,(congrArg (fun c=>br c _ _) hcp).trans (e1.trans ?_)⟩
 ·rw[qd9 _ _ _ _ (by omega),h1 p hp]
  unfold qdl qxx qpa
  by_cases e:p=13
  ·rw[if_pos e,if_neg (by omega),if_neg (by omega),if_neg (by omega),if_pos e]
  rw[if_neg e]
  by_cases a1:p<4
  ·rw[if_pos a1,if_pos a1]
  by_cases a2:p<10
  ·rw[if_neg a1,if_neg (by omega),if_neg a1,if_pos a2,if_neg a1,if_pos a2];rfl
  by_cases a3:p<13
  ·rw[if_neg a1,if_pos (by omega),if_neg a1,if_neg a2,if_pos a3,List.take_of_length_le (by omega)]
  ·rw[if_neg a1,if_neg (by omega),if_neg a1,if_neg a2,if_neg (by omega),if_neg a1,if_neg a2,if_neg a3,if_neg e];rfl
 simp only[qkk]
 rw[qdi hX (by omega),qc]
 dsimp only
 rw[ixn (by omega) (by rw[l1];omega),br_t]
 rfl
end
end Go.G

namespace Go.G
set_option maxRecDepth 100000
open Go Go.V Go.Proofs
theorem q43 (c:Int):∀ (l:List Int) (k:Nat) (V:Int),k<l.length→many c (l.set k V)=many c l+cls c V - cls c (l.getD k 0)
 | [],k,V,h=>by simp at h
 | x::l,0,V,_=>by
  simp only[List.set_cons_zero,many,List.getD_cons_zero,cls];omega
 | x::l,k+1,V,h=>by
  simp only[List.set_cons_succ,many,List.getD_cons_succ]
  rw[q43 c l k V (by simpa using h)];omega
theorem q54 {r:q8} (hr:RightR r) {v:Int} (hv:v≠0) {k:Nat} (h:r.1[k]? = some v):keyF v r.1 0=k:=by
 rw[qry v r.1 0 k h (fun j hj hc=>hv (hr.once j k hj v hc h))]
 congr 1;omega
theorem qbc0 {r:q8} (hr:RightR r) {K:Nat} (hK:K<4) {V:Int} (hV:V=0∨keyF V r.1 0<0) {v:Int} (hv:1≤v) :
  keyF v (r.1.set K V) 0=if v=V then (K:Int) else if v=r.1.getD K 0 then -1 else keyF v r.1 0:=by
 have hl:=hr.len
 have hget:∀ j,j≠K→(r.1.set K V)[j]? = r.1[j]?:=fun j hj=>by rw[List.getElem?_set,if_neg (fun e=>hj e.symm)]
 have hgK:(r.1.set K V)[K]? = some V:=by rw[List.getElem?_set,if_pos rfl,if_pos (by omega)]
 have hrK:r.1[K]? = some (r.1.getD K 0):=by rw[List.getElem?_eq_getElem (by omega),qc9 (by omega)]
 by_cases e:v=V
 ·rw[if_pos e]
  subst e
  have hno:v∉r.1:=qw1 v r.1 0 (by omega)
  rw[qry v _ 0 K hgK (fun j hj hc=>by
   rw[hget j (by omega)] at hc
   exact hno (List.mem_iff_getElem?.2 ⟨j,hc⟩))]
  congr 1;omega
 rw[if_neg e]
 by_cases e2:v=r.1.getD K 0
 ·rw[if_pos e2]
  refine qxy v _ 0 (fun hm=>?_)
  obtain ⟨j,hj⟩:=List.mem_iff_getElem?.1 hm
  by_cases q:j=K
  ·subst q;rw[hgK] at hj;exact e (Option.some.inj hj).symm
  ·rw[hget j q] at hj
   rw[←e2] at hrK
   by_cases lt:j<K
   ·have:=hr.once j K lt v hj hrK;omega
   ·have:=hr.once K j (by omega) v hrK hj;omega
 rw[if_neg e2]
 by_cases h0:keyF v r.1 0<0
 ·have hno:v∉r.1:=qw1 _ _ _ h0
  have:=qlf v r.1 0
  rw[qxy v _ 0 (fun hm=>by
   obtain ⟨j,hj⟩:=List.mem_iff_getElem?.1 hm
   by_cases q:j=K
   ·subst q;rw[hgK] at hj;exact e (Option.some.inj hj).symm
   ·rw[hget j q] at hj;exact hno (List.mem_iff_getElem?.2 ⟨j,hj⟩))]
  omega
 ·obtain ⟨k,hk⟩:∃ k:Nat,keyF v r.1 0=k:=⟨(keyF v r.1 0).toNat,by omega⟩
  obtain ⟨_,h2⟩:=qv3 v r.1 0 k hk
  rw[Nat.sub_zero] at h2
  have hkK:k≠K:=fun q=>by subst q;rw[hrK] at h2;exact e2 (Option.some.inj h2).symm
  rw[hk,qry v _ 0 k (by rw[hget k hkK];exact h2) (fun j hj hc=>by
   by_cases q:j=K
   ·subst q;rw[hgK] at hc;exact e (Option.some.inj hc).symm
   ·rw[hget j q] at hc
    have:=hr.once j k hj v hc h2;omega)]
  congr 1;omega
theorem qbho {r:q8} (hr:RightR r) {K:Nat} (hK:K<4) {V:Int} (hV:V=0∨keyF V r.1 0<0) (hV6:0≤V∧V≤6):RightR (r.1.set K V,r.2):=by
 have hl:=hr.len
 have hget:∀ j,j≠K→(r.1.set K V)[j]? = r.1[j]?:=fun j hj=>by rw[List.getElem?_set,if_neg (fun e=>hj e.symm)]
 have hgK:(r.1.set K V)[K]? = some V:=by rw[List.getElem?_set,if_pos rfl,if_pos (by omega)]
 have hno:V≠0→V∉r.1:=fun h=>qw1 V r.1 0 (by omega)
 refine ⟨by show (r.1.set K V).length=4;rw[List.length_set];exact hl,fun x hx=>?_,fun i j hij v g1 g2=>?_,hr.st⟩
 ·rcases List.mem_or_eq_of_mem_set hx with q | rfl
  ·exact hr.rng x q
  ·exact hV6
 ·show v=0
  have h1:(r.1.set K V)[i]? = some v:=g1
  have h2:(r.1.set K V)[j]? = some v:=g2
  clear g1 g2
  by_cases q:i=K
  ·subst q
   rw[hgK] at h1
   rw[hget j (by omega)] at h2
   have:=Option.some.inj h1
   subst this
   by_cases z:V=0
   ·exact z
   ·exact absurd (List.mem_iff_getElem?.2 ⟨j,h2⟩) (hno z)
  ·rw[hget i q] at h1
   by_cases q2:j=K
   ·subst q2
    rw[hgK] at h2
    have:=Option.some.inj h2
    subst this
    by_cases z:V=0
    ·exact z
    ·exact absurd (show V∈r.1 from List.mem_iff_getElem?.2 ⟨i,h1⟩) (hno z)
   ·rw[hget j q2] at h2
    exact hr.once i j hij v h1 h2
theorem qbd7 {r:q8} (hr:RightR r) {K:Nat} (hK:K<4) {V:Int} (hV:V=0∨keyF V r.1 0<0) {p:Nat} (hp:p<20) :
  qdl (r.1.set K V,r.2) p=if p<4 then (if p=K then V else qdl r p)
   else if p<10 then (if (p:Int) - 3=V then (K:Int)+1 else if (p:Int) - 3=r.1.getD K 0 then 0 else qdl r p)
   else if p<13 then qdl r p+cls ((p:Int) - 10) V - cls ((p:Int) - 10) (r.1.getD K 0)
   else if p=13 then qdl r p
   else (if (p:Int) - 13=V then (if (K:Int)<r.2.1 - 1 then (K:Int)+1 else 0) else if (p:Int) - 13=r.1.getD K 0 then 0 else qdl r p):=by
 have hl:=hr.len
 unfold qdl
 by_cases a1:p<4
 ·simp only[if_pos a1]
  rw[qd9 _ _ _ _ (by omega)]
 simp only[if_neg a1]
 by_cases a2:p<10
 ·simp only[if_pos a2]
  unfold ownW
  rw[qbc0 hr hK hV (by omega)]
  by_cases e:(p:Int) - 3=V
  ·simp only[if_pos e];rw[if_pos (by omega)]
  simp only[if_neg e]
  by_cases e2:(p:Int) - 3=r.1.getD K 0
  ·simp only[if_pos e2];rw[if_neg (by omega)]
  simp only[if_neg e2]
 simp only[if_neg a2]
 by_cases a3:p<13
 ·simp only[if_pos a3]
  exact q43 _ _ _ _ (by omega)
 simp only[if_neg a3]
 by_cases a4:p=13
 ·simp only[if_pos a4]
 simp only[if_neg a4]
 unfold viaW
 rw[qbc0 hr hK hV (by omega)]
 by_cases e:(p:Int) - 13=V
 ·simp only[if_pos e]
  by_cases q:(K:Int)<r.2.1 - 1
  ·rw[if_pos ⟨by omega,by omega,q⟩,if_pos q]
  ·rw[if_neg (fun z=>q z.2.2),if_neg q]
 simp only[if_neg e]
 by_cases e2:(p:Int) - 13=r.1.getD K 0
 ·simp only[if_pos e2];rw[if_neg (by omega)]
 simp only[if_neg e2]
theorem qw6 {v:Int} (hv:1≤v∧v≤6) (c:Int):cls c v=if qh v=c then 1 else 0:=by
 unfold cls
 rw[qbz.2 hv,Bool.true_and]
 by_cases e:qh v=c
 ·rw[decide_eq_true e,if_pos e];rfl
 ·rw[decide_eq_false e,if_neg e];rfl
structure Must (r:q8) (K V:Int) (l:List Int):Prop where
 k:K∈l
 s:13∈l
 o:∀ v,v=r.1.getD K.toNat 0∨v=V→1≤v→3+v∈l
 c:qh (r.1.getD K.toNat 0)≠qh V→∀ v,v=r.1.getD K.toNat 0∨v=V→1≤v→10+qh v∈l
 v:K+1<r.2.1→∀ v,v=r.1.getD K.toNat 0∨v=V→1≤v→13+v∈l
 x:∀ p∈l,14≤p→K+1<r.2.1
structure Chg (r:q8) (K V:Int):Prop where
 k:0≤K∧K≤3
 v:0≤V∧V≤6
 h:0≤r.1.getD K.toNat 0∧r.1.getD K.toNat 0≤6
 z:V=0∨keyF V r.1 0<0
 n:r.1.getD K.toNat 0≠V
theorem qbi2 {r:q8} (hr:RightR r) {K V:Int} {l:List Int} (hc:Chg r K V) (hm:Must r K V l) {p:Nat} (hp:p<20) (hn:(p:Int)∉l) :
  qdl (r.1.set K.toNat V,r.2) p=qdl r p:=by
 have hK:=hc.k
 have hV:=hc.v
 have hh:=hc.h
 have hz:=hc.z
 have hne:=hc.n
 have hl:=hr.len
 have hk4:K.toNat<4:=by omega
 have hcV:=qi1 V
 have hcH:=qi1 (r.1.getD K.toNat 0)
 rw[qbd7 hr hk4 hc.z hp]
 have hno:∀ q,q∈l→(p:Int)≠q:=fun q hq e=>hn (e ▸ hq)
 by_cases a1:p<4
 ·rw[if_pos a1,if_neg (by have:=hno K hm.k;omega)]
 rw[if_neg a1]
 by_cases a2:p<10
 ·rw[if_pos a2,if_neg (fun e=>by have:=hno _ (hm.o V (.inr rfl) (by omega));omega),if_neg (fun e=>by have:=hno _ (hm.o _ (.inl rfl) (by omega));omega)]
 rw[if_neg a2]
 by_cases a3:p<13
 ·rw[if_pos a3]
  by_cases e:qh (r.1.getD K.toNat 0)=qh V
  ·have h1:1≤V:=by omega
   have h2:1≤r.1.getD K.toNat 0:=by omega
   rw[qw6 (by omega),qw6 (by omega),e];omega
  ·have q:=hm.c e
   have f1:cls ((p:Int) - 10) V=0:=by
    by_cases z:1≤V
    ·rw[qw6 (by omega),if_neg (fun e=>by have:=hno _ (q V (.inr rfl) z);omega)]
    ·rw[show V=0 by omega];rfl
   have f2:cls ((p:Int) - 10) (r.1.getD K.toNat 0)=0:=by
    by_cases z:1≤r.1.getD K.toNat 0
    ·rw[qw6 (by omega),if_neg (fun e=>by have:=hno _ (q _ (.inl rfl) z);omega)]
    ·rw[show r.1.getD K.toNat 0=0 by omega];rfl
   rw[f1,f2];omega
 rw[if_neg a3]
 by_cases a4:p=13
 ·rw[if_pos a4]
 rw[if_neg a4]
 have hw:qdl r p=viaW ((p:Int) - 13) r.1 4 r.2.1:=by
  unfold qdl;rw[if_neg a1,if_neg a2,if_neg a3,if_neg a4]
 by_cases e:(p:Int) - 13=V
 ·have hk:¬ K+1<r.2.1:=fun q=>by have:=hno _ (hm.v q V (.inr rfl) (by omega));omega
  rw[if_pos e,if_neg (by omega),hw,e]
  unfold viaW
  rw[if_neg (by omega)]
 rw[if_neg e]
 by_cases e2:(p:Int) - 13=r.1.getD K.toNat 0
 ·have hk:¬ K+1<r.2.1:=fun q=>by have:=hno _ (hm.v q _ (.inl rfl) (by omega));omega
  have hkey:keyF (r.1.getD K.toNat 0) r.1 0=K.toNat:=q54 hr (by omega) (by rw[List.getElem?_eq_getElem (by omega),qc9 (by omega)])
  rw[if_pos e2,hw,e2]
  unfold viaW
  rw[hkey,if_neg (by omega)]
 rw[if_neg e2]
theorem qbk6 {k:Int} (h:0≤qr k):qr k=k:=by have:=qjz k;omega
theorem q9u {v:Int} (h:0≤qv v):(1≤v∧v≤6)∧qv v=3+v:=by have:=qgy v;omega
theorem qbf7 {v:Int} (h:0≤q9 v):(1≤v∧v≤6)∧q9 v=13+v:=by have:=qfo v;omega
theorem q9z {v:Int} (h:0≤qbg (qh v)):(1≤v∧v≤6)∧(0≤qh v∧qh v≤2)∧qbg (qh v)=10+qh v:=by
 have:=qf9 (qh v)
 have:=qi1 v
 omega
theorem qbfs {c V:Int} (hV:0≤V∧V≤6) (h:qh V≠c):cls c V=0:=by
 by_cases z:1≤V
 ·rw[qw6 (by omega),if_neg h]
 ·rw[show V=0 by omega];rfl
theorem q6i (r:q8) {c:Int} (hc:0≤c∧c≤2):qdl r (10+c).toNat=many c r.1:=by
 unfold qdl
 rw[if_neg (by omega),if_neg (by omega),if_pos (by omega),show (((10+c).toNat:Nat):Int) - 10=c by omega]
theorem qbly {r:q8} (hr:RightR r) {K V:Int} {l:List Int} (hc:Chg r K V) (hm:Must r K V l) {q:Want} (hq:q∈chgL K V (r.1.getD K.toNat 0) r.2.1) (hl:q.1∈l) (h0:0≤q.1) :
  q.1<20∧q.2 (wOf r q.1)=wOf (r.1.set K.toNat V,r.2) q.1:=by
 have hb:=qfw
 have hK:=hc.k
 have hV:=hc.v
 have hh:=hc.h
 have hne:=hc.n
 have hlen:=hr.len
 have hst:=hr.st
 have hk4:K.toNat<4:=by omega
 have hlt:=qbfm K V (r.1.getD K.toNat 0) r.2.1 q hq
 have hws:=qbd7 hr hk4 hc.z (p:=q.1.toNat) (by omega)
 refine ⟨by omega,?_⟩
 have hx:=fun h=>hm.x _ hl h
 have hlK:K.toNat<r.1.length:=by omega
 have hms:=fun c=>q43 c r.1 K.toNat V hlK
 have hmr2:=fun c=>qr3 c (r.1.set K.toNat V)
 unfold wOf
 rw[hws]
 clear hws hlt hl hm
 unfold chgL at hq
 generalize hheld:r.1.getD K.toNat 0=H at *
 rcases List.mem_append.1 hq with hq | hq
 ·simp only[List.mem_cons,List.not_mem_nil,or_false] at hq
  rcases hq with rfl | rfl | rfl | rfl | rfl | rfl<;>dsimp only at *
  ·rw[qbk6 h0,if_pos (by omega),if_pos rfl]
  ·rw[if_neg (by decide),if_neg (by decide),if_neg (by decide),if_pos (by decide)];rfl
  ·obtain ⟨e1,e⟩:=q9u h0
   rw[e,if_neg (by omega),if_pos (by omega),if_neg (by omega),if_pos (by omega)]
  ·obtain ⟨e1,e⟩:=qbf7 h0
   rw[e,if_neg (by omega),if_neg (by omega),if_neg (by omega),if_neg (by omega),if_neg (by omega),if_pos (by omega)]
  ·obtain ⟨e1,e⟩:=q9u h0
   rw[e,if_neg (by omega),if_pos (by omega),if_pos (by omega),qbl (by omega) (by omega)];omega
  ·obtain ⟨e1,e⟩:=qbf7 h0
   have hx:=hx (by omega)
   rw[e,if_neg (by omega),if_neg (by omega),if_neg (by omega),if_neg (by omega),if_pos (by omega),if_pos (by omega),qbl (by omega) (by omega)];omega
 ·cases hcc:qh H != qh V
  ·rw[hcc] at hq;simp at hq
  rw[hcc,cond_true] at hq
  have hcne:qh H≠qh V:=by simpa using hcc
  simp only[List.mem_cons,List.not_mem_nil,or_false] at hq
  rcases hq with rfl | rfl<;>dsimp only at *
  ·obtain ⟨hH,ec,e⟩:=q9z h0
   have a1:=qr3 (qh H) r.1
   have a2:=hms (qh H)
   have a3:=hmr2 (qh H)
   have f1:cls (qh H) H=1:=by rw[qw6 hH,if_pos rfl]
   have f2:cls (qh H) V=0:=qbfs hV (fun q=>hcne q.symm)
   rw[f1,f2] at a2
   rw[e,if_neg (by omega),if_neg (by omega),if_pos (by omega),q6i r ec,show (((10+qh H).toNat:Nat):Int) - 10=qh H by omega,f1,f2]
   unfold less
   rw[qbl (by omega) (by omega)]
   split<;>omega
  ·obtain ⟨hH,ec,e⟩:=q9z h0
   have a1:=qr3 (qh V) r.1
   have f1:cls (qh V) V=1:=by rw[qw6 hH,if_pos rfl]
   have f2:cls (qh V) H=0:=qbfs hh hcne
   rw[e,if_neg (by omega),if_neg (by omega),if_pos (by omega),q6i r ec,show (((10+qh V).toNat:Nat):Int) - 10=qh V by omega,f1,f2]
   unfold one
   rw[qbl (by omega) (by omega)];omega
end Go.G

namespace Go.G
set_option maxRecDepth 100000
open Go Go.V Go.Proofs
theorem qbmd {r:q8} (hr:RightR r) {o:Op3} (ho:opOk o=true) (h123:o.1=1∨o.1=2∨o.1=3) (hne:1≤r.1.getD o.2.1.toNat 0∧r.1.getD o.2.1.toNat 0≤6→r.1.getD o.2.1.toNat 0≠o.2.2.1) {c:Int} {L:List Int} (hc:c=0) (h:Out r o c L) :
  Chg r o.2.1 o.2.2.1∧(o.1=1→r.1.getD o.2.1.toNat 0=0)∧(o.1≠1→r.1.getD o.2.1.toNat 0≠0):=by
 have hk:=qm2 ho
 have hl:=hr.len
 have hK:0≤o.2.1∧o.2.1≤3:=by omega
 have hh:0≤r.1.getD o.2.1.toNat 0∧r.1.getD o.2.1.toNat 0≤6:=by
  rw[qc9 (by omega)];exact hr.rng _ (List.getElem_mem _)
 have mk:(o.2.2.1=0∨keyF o.2.2.1 r.1 0<0)→r.1.getD o.2.1.toNat 0≠o.2.2.1→Chg r o.2.1 o.2.2.1:=fun a b=>⟨hK,by omega,hh,a,b⟩
 cases h with
 | put0 k h1 h2=>exact ⟨mk (.inr h2) (by omega),fun _=>h1,fun q=>absurd k q⟩
 | set0 k h1 h2 h3=>exact ⟨mk (.inr h3) h2,fun q=>by omega,fun _=>h1⟩
 | del0 k h1=>exact ⟨mk (.inl (by omega)) (by omega),fun q=>by omega,fun _=>h1⟩
 | setS k h1 h2=>exact absurd h2 (hne (by omega))
 | _=>omega
theorem qbld {r:q8} (hr:RightR r) {o:Op3} (ho:opOk o=true) (h123:o.1=1∨o.1=2∨o.1=3) (hc:Chg r o.2.1 o.2.2.1) (h1:o.1=1→r.1.getD o.2.1.toNat 0=0) (h2:o.1≠1→r.1.getD o.2.1.toNat 0≠0) :
  Must r o.2.1 o.2.2.1 (path (wOf r) (prog o)):=by
 have hk:=qm2 ho
 have hb:=qfw
 have hh:=hc.h
 have hz:=hc.z
 have hne:=hc.n
 have hst:=hr.st
 have hK:0≤o.2.1∧o.2.1≤3:=hc.k
 have hrow:qr o.2.1=o.2.1:=by have:=qjz o.2.1;omega
 have hwK:=(qio hr hK).1
 have hwo:1≤o.2.2.1→wOf r (qv o.2.2.1)=0:=fun z=>by
  rw[qx6 hr (by have:=hc.v;omega)]
  have:=qlf o.2.2.1 r.1 0
  omega
 have hws:=qtu r
 have hwr:IntKind.wrap IntKind.i64 (o.2.1+1)=o.2.1+1:=qbl (by omega) (by omega)
 have hown:∀ v,1≤v∧v≤6→qv v=3+v:=fun v hv=>by have:=qgy v;omega
 have hvia:∀ v,1≤v∧v≤6→q9 v=13+v:=fun v hv=>by have:=qfo v;omega
 have hcnt:∀ v,1≤v∧v≤6→qbg (qh v)=10+qh v:=fun v hv=>by have:=qf9 (qh v);have:=qi1 v;omega
 have hclr:∀ v,1≤v∧v≤6→0≤qh v∧qh v≤2:=fun v hv=>by have:=qi1 v;omega
 have hV:=hc.v
 generalize hheld:r.1.getD o.2.1.toNat 0=H at *
 unfold prog
 rcases h123 with k | k | k
 ·rw[if_pos k]
  have hH:=h1 k
  have hV1:1≤o.2.2.1∧o.2.2.1≤6:=by omega
  have e:path (wOf r) (qjn o)=o.2.1::(3+o.2.2.1)::(10+qh o.2.2.1)::13::(if r.2.1≤o.2.1+1 then [] else [13+o.2.2.1]):=by
   unfold qjn
   simp only[path]
   rw[hrow,hwK,hH]
   simp only[bned,decide_true,Bool.not_true,cond_false,path]
   rw[hwo hV1.1]
   simp only[decide_true,Bool.not_true,cond_false,path,qlv,List.map_cons,List.map_nil]
   rw[hws,hwr,hown _ hV1,hvia _ hV1,hcnt _ hV1]
  rw[e]
  have hc2:=hclr _ hV1
  refine ⟨by simp,by simp,fun v hv z=>?_,fun _ v hv z=>?_,fun q v hv z=>?_,fun p hp h14=>?_⟩
  ·have:v=o.2.2.1:=by omega
   subst this;simp
  ·have:v=o.2.2.1:=by omega
   subst this;simp
  ·have:v=o.2.2.1:=by omega
   subst this;rw[if_neg (by omega)];simp
  ·by_cases q:r.2.1≤o.2.1+1
   ·rw[if_pos q] at hp
    simp only[List.mem_cons,List.not_mem_nil,or_false] at hp
    omega
   ·omega
 ·have hH:=h2 (by omega)
  rw[if_neg (by omega),if_pos k]
  have hV1:1≤o.2.2.1∧o.2.2.1≤6:=by omega
  have hH1:1≤H∧H≤6:=by omega
  have e:path (wOf r) (qhl o)=o.2.1::(3+o.2.2.1)::(3+H)::((bif qh H != qh o.2.2.1 then [10+qh H,10+qh o.2.2.1] else [])++13::(if r.2.1≤o.2.1+1 then [] else [13+H,13+o.2.2.1])):=by
   unfold qhl
   simp only[path]
   rw[hrow,hwK,decide_eq_false hH,decide_eq_false hne]
   simp only[cond_false,path]
   rw[hwo hV1.1]
   simp only[bned,decide_true,Bool.not_true,cond_false,path]
   cases decide (qh H=qh o.2.2.1)
   ·simp only[Bool.not_false,cond_true,path,qlv,List.map_cons,List.map_nil,List.cons_append,List.nil_append]
    rw[hws,hwr,hown _ hV1,hvia _ hV1,hcnt _ hV1,hown _ hH1,hvia _ hH1,hcnt _ hH1]
   ·simp only[Bool.not_true,cond_false,path,qlv,List.map_cons,List.map_nil,List.cons_append,List.nil_append]
    rw[hws,hwr,hown _ hV1,hvia _ hV1,hown _ hH1,hvia _ hH1]
  rw[e]
  have hc2:=hclr _ hV1
  have hc3:=hclr _ hH1
  refine ⟨by simp,by simp,fun v hv z=>?_,fun q v hv z=>?_,fun q v hv z=>?_,fun p hp h14=>?_⟩
  ·rw[hheld] at hv
   rcases hv with rfl | rfl<;>simp
  ·rw[hheld] at hv q
   rw[bned,decide_eq_false q]
   rcases hv with rfl | rfl<;>simp
  ·rw[hheld] at hv
   rw[if_neg (by omega)]
   rcases hv with rfl | rfl<;>simp
  ·by_cases q:r.2.1≤o.2.1+1
   ·rw[if_pos q] at hp
    cases hq:qh H != qh o.2.2.1
    ·rw[hq] at hp
     simp only[cond_false,List.nil_append,List.mem_cons,List.not_mem_nil,or_false] at hp
     omega
    ·rw[hq] at hp
     simp only[cond_true,List.cons_append,List.nil_append,List.mem_cons,List.not_mem_nil,or_false] at hp
     omega
   ·omega
 ·have hH:=h2 (by omega)
  rw[if_neg (by omega),if_neg (by omega),if_pos k]
  have hH1:1≤H∧H≤6:=by omega
  have e:path (wOf r) (qmr o)=o.2.1::(3+H)::(10+qh H)::13::(if r.2.1≤o.2.1+1 then [] else [13+H]):=by
   unfold qmr
   simp only[path]
   rw[hrow,hwK,decide_eq_false hH]
   simp only[cond_false,path,qlv,List.map_cons,List.map_nil]
   rw[hws,hwr,hown _ hH1,hvia _ hH1,hcnt _ hH1]
  rw[e]
  have hc3:=hclr _ hH1
  refine ⟨by simp,by simp,fun v hv z=>?_,fun q v hv z=>?_,fun q v hv z=>?_,fun p hp h14=>?_⟩
  ·have:v=H:=by omega
   subst this;simp
  ·have:v=H:=by omega
   subst this;simp
  ·have:v=H:=by omega
   subst this;rw[if_neg (by omega)];simp
  ·by_cases q:r.2.1≤o.2.1+1
   ·rw[if_pos q] at hp
    simp only[List.mem_cons,List.not_mem_nil,or_false] at hp
    omega
   ·omega
theorem q2t {r:q8} (hr:RightR r) {p:Nat} (hp:p<20) (h13:p≠13) (hk:14≤p→keyF ((p:Int) - 13) r.1 0≠r.2.1 - 1∨r.2.1=0):qdl (r.1,r.2.1+1,()) p=qdl r p:=by
 have hst:=hr.st
 unfold qdl
 by_cases a1:p<4
 ·rw[if_pos a1,if_pos a1]
 rw[if_neg a1,if_neg a1]
 by_cases a2:p<10
 ·rw[if_pos a2,if_pos a2]
 rw[if_neg a2,if_neg a2]
 by_cases a3:p<13
 ·rw[if_pos a3,if_pos a3]
 rw[if_neg a3,if_neg a3,if_neg h13,if_neg h13]
 have hk:=hk (by omega)
 unfold viaW
 dsimp only
 by_cases e:0≤keyF ((p:Int) - 13) r.1 0∧keyF ((p:Int) - 13) r.1 0<4∧keyF ((p:Int) - 13) r.1 0<r.2.1 - 1
 ·rw[if_pos e,if_pos (by omega)]
 ·rw[if_neg e,if_neg (by omega)]
theorem q4c {r:q8} {o:Op3} (c:Int) (h:¬ (o.1=1∨o.1=2)∧¬ o.1=3∧¬ (o.1=8∨o.1=9)):qe6 r o c=r:=by
 unfold qe6
 rw[if_neg h.1,if_neg h.2.1,if_neg h.2.2]
 split<;>rfl
structure Turns (w w':Int→Int) (E:List qbr):Prop where
 asc:Asc E
 old:∀ e∈E,0≤e.1∧e.1<20∧e.2.1=w e.1∧e.2.2.1=w' e.1
 rest:∀ p:Nat,p<20→(∀ e∈E,e.1≠(p:Int))→w p=w' p
theorem qbgq {r:q8} (hr:RightR r) {o:Op3} (ho:opOk o=true) (hnow:qe2 o (q0 r o)=none) :
  Turns (wOf r) (wOf (qe6 r o (resP o (q0 r o)).1)) (entP o (q0 r o))∧RightR (qe6 r o (resP o (q0 r o)).1):=by
 have hb:=qfw
 have hw:=fun k hk=>(qio hr (k:=k) hk).2
 have hpk:=qvl ho (wOf r) hw
 have hrun:=q1n hr ho
 have hkn:=qti r o
 have hkd:=qm2 ho
 have hst:=hr.st
 have hl:=hr.len
 have hcond:opOk o=true∧(run (q0 r o) (prog o)).2<0:=⟨ho,by rw[hrun];show (-1:Int)<0;omega⟩
 have hrd:∀ p,p∈path (wOf r) (prog o)→(qt (q0 r o) p).1=wOf r p:=fun p hp=>by rw[hkn p,if_pos hp]
 have hhit:∀ p,0≤p→(hit (q0 r o) p=true↔p∈path (wOf r) (prog o)):=fun p hp=>by rw[qx7 hkn hp,decide_eq_true_eq]
 have hout:=qbgf hr ho
 have hpl:qic o (q0 r o)=((false,resP o (q0 r o),entP o (q0 r o),()),true,()):=by unfold qic;rw[if_pos hcond,hnow]
 rw[hpl] at hout
 dsimp only at hout
 obtain ⟨hA,hB⟩:=qblz ho hw hkn hrun hnow
 by_cases h123:o.1=1∨o.1=2∨o.1=3
 ·obtain ⟨hv,hsub⟩:=qbcl ho hw hkn hnow h123
  have hne:=q83 ho hnow h123
  have hwr:=(qio hr (k:=o.2.1) (by omega)).1
  rw[hv,hwr] at hne
  have hres:resP o (q0 r o)=(0,[],()):=by unfold resP;rw[if_neg (by omega),if_neg (by omega)]
  rw[hres] at hout ⊢
  obtain ⟨hc,h1,h2⟩:=qbmd hr ho h123 hne rfl hout
  have hm:=qbld hr ho h123 hc h1 h2
  have haf:qe6 r o 0=(r.1.set o.2.1.toNat o.2.2.1,r.2):=by
   unfold qe6
   rw[if_neg (by omega)]
   by_cases k12:o.1=1∨o.1=2
   ·rw[if_pos k12]
   ·rw[if_neg k12,if_pos (by omega),show o.2.2.1=0 by omega]
  show Turns _ (wOf (qe6 r o 0)) _∧RightR (qe6 r o 0)
  rw[haf]
  have h13:val (q0 r o) 13=r.2.1:=hrd 13 hm.s
  have hE:entP o (q0 r o)=(ents (q0 r o) (chgL o.2.1 o.2.2.1 (r.1.getD o.2.1.toNat 0) r.2.1)).foldl insS []:=by
   unfold entP;rw[if_pos h123,hv,hwr,h13]
  obtain ⟨_,r2,r3,r4⟩:=q5g (got:=q0 r o) (K:=o.2.1) (V:=o.2.2.1) (held:=r.1.getD o.2.1.toNat 0) (st:=r.2.1) hne
  refine ⟨⟨by rw[hE];exact r2,fun e he=>?_,fun p hp hno=>?_⟩,qbho hr (by have:=hc.k;omega) hc.z hc.v⟩
  ·rw[hE] at he
   obtain ⟨q,hq,hh,rfl⟩:=(qvv _ _ _).1 ((r3 e).1 he)
   have hp0:=q21 hh
   have hqm:=(hhit q.1 hp0).1 hh
   have hn:=qbly hr hc hm hq hqm hp0
   have:=hrd q.1 hqm
   refine ⟨hp0,hn.1,this,?_⟩
   show q.2 (qt (q0 r o) q.1).1=_
   rw[this];exact hn.2
  ·have hnp:(p:Int)∉path (wOf r) (prog o):=fun hm=>by
    obtain ⟨e,he,e1,_⟩:=hA _ hm
    exact hno e he e1
   exact (qbi2 hr hc hm hp hnp).symm
 ·obtain ⟨_,pl⟩:=qxk ho hnow hcond.2 h123
  have hr1:(run (q0 r o) (prog o)).1=path (wOf r) (prog o):=by rw[hrun]
  rw[hr1] at pl
  have hmem:∀ L:List Int,(path (wOf r) (prog o)).foldl (bub ikey) []=L→∀ p∈L,p∈path (wOf r) (prog o):=by
   intro L hL p hp
   rw[←hL,qx2] at hp
   rcases hp with h | h
   ·simp at h
   ·exact h
  have hsame:∀ p,p∈path (wOf r) (prog o)→val (q0 r o) p=wOf r p:=hrd
  rcases pl with ⟨k,hp⟩ | ⟨k,hz,hp⟩ | ⟨k,hz,hp⟩ | ⟨k,hp⟩
  ·have m:=hmem _ hp
   have haf:∀ c,qe6 r o c=r:=fun c=>q4c c (by omega)
   rw[haf]
   refine ⟨?_,hr⟩
   have hE:entP o (q0 r o)=[same (q0 r o) 0,same (q0 r o) 1,same (q0 r o) 2,same (q0 r o) 3]:=by unfold entP;rw[if_neg h123,if_pos k]
   rw[hE]
   refine ⟨by simp[Asc,same],fun e he=>?_,fun p _ _=>rfl⟩
   simp only[List.mem_cons,List.not_mem_nil,or_false] at he
   rcases he with rfl | rfl | rfl | rfl<;>exact ⟨by simp[same],by simp[same],hsame _ (m _ (by simp)),hsame _ (m _ (by simp))⟩
  ·have m:=hmem _ hp
   have h13:=hsame 13 (m _ (by simp))
   have hws:=qtu r
   have hst0:r.2.1=0:=by omega
   have hres:resP o (q0 r o)=(0,[],()):=by unfold resP;rw[if_neg (by omega),if_neg (by omega)]
   have haf:qe6 r o 0=(r.1,r.2.1+1,()):=by
    unfold qe6
    rw[if_neg (by omega),if_neg (by omega),if_neg (by omega),if_pos (.inl k),qbl (by omega) (by omega)]
   rw[hres]
   show Turns _ (wOf (qe6 r o 0)) _∧RightR (qe6 r o 0)
   rw[haf]
   refine ⟨?_,⟨hl,hr.rng,hr.once,by show 0≤r.2.1+1∧r.2.1+1≤5;omega⟩⟩
   have hE:entP o (q0 r o)=[(13,val (q0 r o) 13,1,())]:=by unfold entP;rw[if_neg h123,if_neg (by omega),if_pos k]
   rw[hE]
   refine ⟨List.pairwise_singleton _ _,fun e he=>?_,fun p hp hno=>?_⟩
   ·simp only[List.mem_cons,List.not_mem_nil,or_false] at he
    subst he
    refine ⟨by simp[same],by simp[same],h13,?_⟩
    show (1:Int)=r.2.1+1
    omega
   ·have h1:=hno _ (List.mem_singleton.2 rfl)
    dsimp only at h1
    exact (q2t hr hp (by omega) (fun _=>.inr hst0)).symm
  ·have m:=hmem _ hp
   have h13:=hsame 13 (m _ (by simp))
   have hws:=qtu r
   have hres:resP o (q0 r o)=(0,[],()):=by unfold resP;rw[if_neg (by omega),if_neg (by omega)]
   have haf:qe6 r o 0=(r.1,r.2.1+1,()):=by
    unfold qe6
    rw[if_neg (by omega),if_neg (by omega),if_neg (by omega),if_pos (.inr k),qbl (by omega) (by omega)]
   rw[hres]
   show Turns _ (wOf (qe6 r o 0)) _∧RightR (qe6 r o 0)
   rw[haf]
   refine ⟨?_,⟨hl,hr.rng,hr.once,by show 0≤r.2.1+1∧r.2.1+1≤5;omega⟩⟩
   have hv13:val (q0 r o) 13=r.2.1:=h13
   have hrow:qr (IntKind.wrap IntKind.i64 (val (q0 r o) 13 - 1))=r.2.1 - 1:=by
    rw[hv13,qbl (by omega) (by omega)]
    have:=qjz (r.2.1 - 1);omega
   have hE:entP o (q0 r o)=same (q0 r o) (qr (IntKind.wrap IntKind.i64 (val (q0 r o) 13 - 1)))::(13,val (q0 r o) 13,IntKind.wrap IntKind.i64 (val (q0 r o) 13+1),())::
     (bif inR (val (q0 r o) (qr (IntKind.wrap IntKind.i64 (val (q0 r o) 13 - 1)))) 1 6 then [(q9 (val (q0 r o) (qr (IntKind.wrap IntKind.i64 (val (q0 r o) 13 - 1)))),val (q0 r o) (q9 (val (q0 r o) (qr (IntKind.wrap IntKind.i64 (val (q0 r o) 13 - 1))))),val (q0 r o) 13,())] else []):=by
    unfold entP;rw[if_neg h123,if_neg (by omega),if_neg (by omega),if_pos k]
   rw[hE]
   rw[hrow] at m ⊢
   have hvr:=hsame (r.2.1 - 1) (m _ (by simp))
   have hwrow:=qio hr (k:=r.2.1 - 1) (by omega)
   rw[hvr,hwrow.1] at m ⊢
   rw[hv13,qbl (by omega) (by omega)]
   have hget:r.1[(r.2.1 - 1).toNat]? = some (r.1.getD (r.2.1 - 1).toNat 0):=by rw[List.getElem?_eq_getElem (by omega),qc9 (by omega)]
   have hrg:=hwrow.2
   rw[hwrow.1] at hrg
   generalize r.1.getD (r.2.1 - 1).toNat 0=v at *
   have hx:qdl (r.1,r.2.1+1,()) (r.2.1 - 1).toNat=qdl r (r.2.1 - 1).toNat:=q2t hr (by omega) (by omega) (fun q=>by omega)
   by_cases hv1:1≤v
   ·have hin:inR v 1 6=true:=qbz.2 (by omega)
    rw[hin,cond_true] at m ⊢
    have hvia:q9 v=13+v:=by have:=qfo v;omega
    have hkey:keyF v r.1 0=r.2.1 - 1:=by rw[q54 hr (by omega) hget];omega
    have hvv:=hsame (q9 v) (m _ (by simp))
    rw[hvia] at hvv ⊢
    have hnew:qdl (r.1,r.2.1+1,()) (13+v).toNat=r.2.1:=by
     unfold qdl
     rw[if_neg (by omega),if_neg (by omega),if_neg (by omega),if_neg (by omega),show (((13+v).toNat:Nat):Int) - 13=v by omega]
     unfold viaW
     dsimp only
     rw[hkey,if_pos (by omega)];omega
    refine ⟨?_,fun e he=>?_,fun p hp hno=>?_⟩
    ·simp only[Asc,same,List.pairwise_cons,List.mem_cons,List.not_mem_nil,or_false,forall_eq_or_imp,forall_eq,List.Pairwise.nil,and_true,false_implies,implies_true,forall_const]
     omega
    ·simp only[List.mem_cons,List.not_mem_nil,or_false] at he
     rcases he with rfl | rfl | rfl
     ·refine ⟨by show 0≤r.2.1 - 1;omega,by show r.2.1 - 1<20;omega,hvr,?_⟩
      show val (q0 r o) (r.2.1 - 1)=qdl (r.1,r.2.1+1,()) (r.2.1 - 1).toNat
      rw[hx];exact hvr
     ·exact ⟨by simp[same],by simp[same],by show r.2.1=wOf r 13;omega,rfl⟩
     ·exact ⟨by show 0≤13+v;omega,by show 13+v<20;omega,hvv,hnew.symm⟩
    ·have h1:=hno _ (List.mem_cons_of_mem _ List.mem_cons_self)
     have h2:=hno _ (List.mem_cons_of_mem _ (List.mem_cons_of_mem _ List.mem_cons_self))
     dsimp only at h1 h2
     refine (q2t hr hp (by omega) (fun _=>.inl (fun q=>?_))).symm
     obtain ⟨_,g⟩:=qv3 _ r.1 0 (r.2.1 - 1).toNat (q.trans (by omega))
     rw[Nat.sub_zero,hget] at g
     have:=Option.some.inj g
     omega
   ·have hin:inR v 1 6=false:=qjt (by omega)
    rw[hin,cond_false] at m ⊢
    refine ⟨?_,fun e he=>?_,fun p hp hno=>?_⟩
    ·simp only[Asc,same,List.pairwise_cons,List.mem_cons,List.not_mem_nil,or_false,forall_eq_or_imp,forall_eq,List.Pairwise.nil,and_true,false_implies,implies_true,forall_const]
     omega
    ·simp only[List.mem_cons,List.not_mem_nil,or_false] at he
     rcases he with rfl | rfl
     ·refine ⟨by show 0≤r.2.1 - 1;omega,by show r.2.1 - 1<20;omega,hvr,?_⟩
      show val (q0 r o) (r.2.1 - 1)=qdl (r.1,r.2.1+1,()) (r.2.1 - 1).toNat
      rw[hx];exact hvr
     ·exact ⟨by simp[same],by simp[same],by show r.2.1=wOf r 13;omega,rfl⟩
    ·have h1:=hno _ (List.mem_cons_of_mem _ List.mem_cons_self)
     dsimp only at h1
     refine (q2t hr hp (by omega) (fun _=>.inl (fun q=>?_))).symm
     obtain ⟨_,g⟩:=qv3 _ r.1 0 (r.2.1 - 1).toNat (q.trans (by omega))
     rw[Nat.sub_zero,hget] at g
     have:=Option.some.inj g
     omega
  ·have m:=hmem _ hp
   have haf:∀ c,qe6 r o c=r:=fun c=>q4c c (by omega)
   rw[haf]
   refine ⟨?_,hr⟩
   have hE:entP o (q0 r o)=[same (q0 r o) 13,same (q0 r o) (q9 o.2.2.1)]:=by unfold entP;rw[if_neg h123,if_neg (by omega),if_neg (by omega),if_neg (by omega),if_pos k]
   have hv:q9 o.2.2.1=13+o.2.2.1:=by have:=qfo o.2.2.1;omega
   rw[hE]
   rw[hv] at m ⊢
   refine ⟨by simp[Asc,same];omega,fun e he=>?_,fun p _ _=>rfl⟩
   simp only[List.mem_cons,List.not_mem_nil,or_false] at he
   rcases he with rfl | rfl
   ·exact ⟨by simp[same],by simp[same],hsame _ (m _ (by simp)),hsame _ (m _ (by simp))⟩
   ·exact ⟨by show 0≤13+o.2.2.1;omega,by show 13+o.2.2.1<20;omega,hsame _ (m _ (by simp)),hsame _ (m _ (by simp))⟩
theorem qbj0 {r:q8} (hr:RightR r) {o:Op3} (ho:opOk o=true) {x:Int×List Int} (hnow:qe2 o (q0 r o)=some x):qe6 r o x.1=r:=by
 have hkd:=qm2 ho
 have hl:=hr.len
 unfold qe6
 by_cases hc:x.1≠0
 ·rw[if_pos hc]
 rw[if_neg hc]
 unfold qe2 nowP at hnow
 by_cases k1:o.1=1
 ·by_cases a:(qt (q0 r o) (qr o.2.1)).1≠0
  ·rw[if_pos ⟨k1,a⟩] at hnow;obtain rfl:=Option.some.inj hnow;exact absurd (show (1:Int)≠0 by decide) hc
  rw[if_neg (by omega)] at hnow
  by_cases b:(qt (q0 r o) (qv o.2.2.1)).1≠0
  ·rw[if_pos ⟨k1,b⟩] at hnow;obtain rfl:=Option.some.inj hnow;exact absurd (show (2:Int)≠0 by decide) hc
  rw[if_neg (by omega),if_neg (by omega),if_neg (by omega),if_neg (by omega),if_neg (by omega),if_neg (by omega),if_neg (by omega),if_neg (by omega),if_neg (by omega),if_neg (by omega),if_neg (by omega)] at hnow
  cases hnow
 by_cases k2:o.1=2
 ·rw[if_pos (.inr k2)]
  rw[if_neg (by omega),if_neg (by omega)] at hnow
  have hp:prog o=qhl o:=by unfold prog;rw[if_neg k1,if_pos k2]
  have hK:qr o.2.1=o.2.1:=by have:=qjz o.2.1;omega
  have hw:=qio hr (k:=o.2.1) (by omega)
  have m1:qr o.2.1∈path (wOf r) (prog o):=by rw[hp];unfold qhl;simp only[path];exact List.mem_cons_self
  have r1:(qt (q0 r o) (qr o.2.1)).1=wOf r o.2.1:=by rw[qti r o (qr o.2.1),if_pos m1,hK]
  rw[r1,hw.1] at hnow
  by_cases a:r.1.getD o.2.1.toNat 0=0
  ·rw[if_pos ⟨.inl k2,a⟩] at hnow;obtain rfl:=Option.some.inj hnow;exact absurd (show (3:Int)≠0 by decide) hc
  rw[if_neg (by omega)] at hnow
  by_cases b:r.1.getD o.2.1.toNat 0=o.2.2.1
  ·have hs:r.1.set o.2.1.toNat o.2.2.1=r.1:=by
    rw[←b,qc9 (by omega)]
    exact List.set_getElem_self _
   rw[hs]
  rw[if_neg (by omega)] at hnow
  by_cases d:(qt (q0 r o) (qv o.2.2.1)).1≠0
  ·rw[if_pos ⟨k2,d⟩] at hnow;obtain rfl:=Option.some.inj hnow;exact absurd (show (2:Int)≠0 by decide) hc
  rw[if_neg (by omega),if_neg (by omega),if_neg (by omega),if_neg (by omega),if_neg (by omega),if_neg (by omega),if_neg (by omega),if_neg (by omega)] at hnow
  cases hnow
 rw[if_neg (by omega)]
 rw[if_neg (by omega),if_neg (by omega)] at hnow
 by_cases k3:o.1=3
 ·by_cases a:(qt (q0 r o) (qr o.2.1)).1=0
  ·rw[if_pos ⟨by omega,a⟩] at hnow;obtain rfl:=Option.some.inj hnow;exact absurd (show (3:Int)≠0 by decide) hc
  rw[if_neg (by omega),if_neg (by omega),if_neg (by omega),if_neg (by omega),if_neg (by omega),if_neg (by omega),if_neg (by omega),if_neg (by omega),if_neg (by omega),if_neg (by omega)] at hnow
  cases hnow
 rw[if_neg k3]
 by_cases k8:o.1=8
 ·rw[if_neg (by omega),if_neg (by omega),if_neg (by omega),if_neg (by omega),if_neg (by omega),if_neg (by omega),if_neg (by omega)] at hnow
  by_cases a:(qt (q0 r o) 13).1≠0
  ·rw[if_pos ⟨k8,a⟩] at hnow;obtain rfl:=Option.some.inj hnow;exact absurd (show (4:Int)≠0 by decide) hc
  rw[if_neg (by omega),if_neg (by omega),if_neg (by omega)] at hnow
  cases hnow
 by_cases k9:o.1=9
 ·rw[if_neg (by omega),if_neg (by omega),if_neg (by omega),if_neg (by omega),if_neg (by omega),if_neg (by omega),if_neg (by omega),if_neg (by omega)] at hnow
  by_cases a:(qt (q0 r o) 13).1<1∨(qt (q0 r o) 13).1>4
  ·rw[if_pos ⟨k9,a⟩] at hnow;obtain rfl:=Option.some.inj hnow;exact absurd (show (4:Int)≠0 by decide) hc
  rw[if_neg (fun q=>a q.2),if_neg (by omega)] at hnow
  cases hnow
 rw[if_neg (by omega)]
end Go.G

/- The row FnPlans holds: for all bytes the law returns true and the argument reads as before. No condition. -/
namespace Go.G
set_option linter.unusedVariables false
set_option linter.unusedSimpArgs false
set_option maxRecDepth 100000
open Go Go.V Go.Proofs

theorem qbf6 (D:Den ctx) (n:Nat) (K0:Bool→q8→Op3→Plan→List Int→Option ((Bool×Unit)×Unit)) (K1:q8→Op3→Plan→List Int→Option ((Bool×Unit)×Unit)) (r:q8) (o:Op3) (pl:Plan) {w w':Int→Int} (hT:Turns w w' pl.2.2.1) (hl:pl.2.2.1.length≤1000) :
  ∀ (m i:Nat) (ws:List Int),i≤pl.2.2.1.length→pl.2.2.1.length - i<m→ws.length=20→(∀ p:Nat,p<20→((∃ e∈pl.2.2.1.take i,e.1=(p:Int))→ws.getD p 0=w' p)∧((∀ e∈pl.2.2.1.take i,e.1≠(p:Int))→ws.getD p 0=w p))→
  ∃ ws',ws'.length=20∧(∀ p:Nat,p<20→ws'.getD p 0=w' p)∧qgc D n K0 K1 m (i:Int) r o pl ws=K1 r o pl ws'
 | 0,_,_,_,h,_,_=>by omega
 | m+1,i,ws,hi,hf,hlw,hw=>by
  simp only[qgc,qqx]
  by_cases h:i<pl.2.2.1.length
  ·have hmem:=List.getElem_mem h
   obtain ⟨h0,h20,hold,hnew⟩:=hT.old _ hmem
   have hbef:∀ j,j<i→∀ hj:j<pl.2.2.1.length,pl.2.2.1[j].1<pl.2.2.1[i].1:=fun j hj hj2=>(List.pairwise_iff_getElem.1 hT.asc) j i hj2 h hj
   have hnot:∀ e∈pl.2.2.1.take i,e.1≠((pl.2.2.1[i].1.toNat:Nat):Int):=fun e he=>by
    obtain ⟨j,hj,rfl⟩:=List.mem_iff_getElem.1 he
    rw[List.length_take] at hj
    rw[List.getElem_take]
    have:=hbef j (by omega) (by omega)
    omega
   have hcur:=(hw pl.2.2.1[i].1.toNat (by omega)).2 hnot
   rw[show ((pl.2.2.1[i].1.toNat:Nat):Int)=pl.2.2.1[i].1 by omega] at hcur
   have hbr:((ws.getD pl.2.2.1[i].1.toNat 0) != pl.2.2.1[i].2.1)=false:=by rw[hcur,hold,bned,decide_eq_true rfl];rfl
   have hstep:∃ ws',ws'.length=20∧(∀ p:Nat,p<20→ws'.getD p 0=w' p)∧qgc D n K0 K1 m ((i+1:Nat):Int) r o pl (ws.set pl.2.2.1[i].1.toNat pl.2.2.1[i].2.2.1)=K1 r o pl ws':=by
    refine qbf6 D n K0 K1 r o pl hT hl m (i+1) _ (by omega) (by omega) (by rw[List.length_set];exact hlw) (fun p hp=>?_)
    rw[qd9 _ _ _ _ (by omega),List.take_succ_eq_append_getElem h]
    by_cases e:p=pl.2.2.1[i].1.toNat
    ·rw[if_pos e]
     refine ⟨fun _=>?_,fun q=>absurd (by omega) (q pl.2.2.1[i] (List.mem_append.2 (.inr (List.mem_singleton.2 rfl))))⟩
     rw[hnew];congr 1;omega
    ·rw[if_neg e]
     refine ⟨fun ⟨x,hx,ex⟩=>?_,fun q=>(hw p hp).2 (fun x hx=>q x (List.mem_append.2 (.inl hx)))⟩
     rcases List.mem_append.1 hx with hx | hx
     ·exact (hw p hp).1 ⟨x,hx,ex⟩
     ·rw[List.mem_singleton] at hx
      subst hx;omega
   rw[ql (by omega),ix h,br_t,Int.toNat_natCast,qc9 h,ixn h0 (by omega),br_t,hbr,br_f,br_t]
   by_cases hi0:i=0
   ·subst hi0
    rw[show decide (((0:Nat):Int)>0)=false from rfl,br_f,qbh (by omega)]
    exact hstep
   ·rw[ql (show (i:Int)>0 by omega),qbl (x:=(i:Int) - 1) (by omega) (by omega),show ((i:Int) - 1)=((i - 1:Nat):Int) by omega,ix (by omega),br_t,Int.toNat_natCast,qc9 (by omega)]
    have:=hbef (i - 1) (by omega) (by omega)
    rw[qi (by omega),qbh (by omega)]
    exact hstep
  ·rw[qi (by omega)]
   refine ⟨ws,hlw,fun p hp=>?_,rfl⟩
   have hw:=hw p hp
   rw[List.take_of_length_le (by omega)] at hw
   by_cases q:∃ e∈pl.2.2.1,e.1=(p:Int)
   ·exact hw.1 q
   ·have q2:∀ e∈pl.2.2.1,e.1≠(p:Int):=fun e he ee=>q ⟨e,he,ee⟩
    rw[hw.2 q2];exact hT.rest p hp q2
theorem qbi6 {a b:List Int} (ha:a.length=20) (hb:b.length=20) (h:∀ p:Nat,p<20→a.getD p 0=b.getD p 0):a=b:=by
 refine List.ext_getElem (by omega) (fun p h1 h2=>?_)
 have:=h p (by omega)
 rwa [qc9 h1,qc9 h2] at this
theorem qbfe (a:List Int):qyq (DD q0n (W+20)) a=some ((true,()),()):=by
 have hX:XOk q0n:=qbj9
 have hW:=qca
 rw[q85 hX]
 simp only[qtb,qs2,qpk]
 rw[qbms hX (by omega),qc]
 dsimp only
 by_cases hbig:(a.length:Int)>1048576
 ·rw[ql hbig]
 rw[qi hbig]
 obtain ⟨r,o,hr,ho,e1⟩:=qbe5 hX (n:=W+19) (by omega) a (by omega)
 have hpk:=qvl ho (wOf r) (fun k hk=>(qio hr hk).2)
 have hlen:(q0 r o).length≤8:=by unfold q0;rw[List.length_map];exact hpk.len
 have hrun:=q1n hr ho
 have hv:=qbg8 hr ho
 have hl:=hr.len
 have hkd:=qm2 ho
 have hout:=qbgf hr ho
 have hpl:=qbhv o (q0 r o)
 rw[e1,qc]
 dsimp only
 rw[qbca hX (by omega) (by omega),qc,qbb6 hX (by omega) (by omega) hv,qc]
 dsimp only
 have hcond:opOk o=true∧(run (q0 r o) (prog o)).2<0:=⟨ho,by rw[hrun];show (-1:Int)<0;omega⟩
 have hok:(qic o (q0 r o)).2.1=true:=by
  unfold qic
  rw[if_pos hcond]
  cases qe2 o (q0 r o)<;>rfl
 rw[hok,decide_eq_true rfl,Bool.not_true,br_f]
 have hsp:=qbgy hX (n:=W+19) (by omega) (qic o (q0 r o)).1 (by omega) (by omega)
 refine Eq.trans (congrArg (fun z=>qe z _) hsp) ?_
 rw[qc]
 dsimp only
 rw[Bool.not_true,br_f,br_f,show (r.1,r.2)=r from rfl,qv1 hX (by omega) hr,qc]
 dsimp only
 rw[Bool.not_true,br_f,q0s hX (by omega),ho,qc]
 dsimp only
 rw[Bool.not_true,br_f,q9v hX (by omega) hr ho hout,qc]
 dsimp only
 obtain ⟨ws,hwl,hw,e4⟩:=qbci hX (n:=W+19) (by omega) hr
 rw[Bool.not_true,br_f,e4,qc]
 dsimp only
 cases hnow:qe2 o (q0 r o) with
 | some x=>
  have hp:(qic o (q0 r o)).1=(true,(x.1,x.2,()),[],()):=by unfold qic;rw[if_pos hcond,hnow]
  rw[hp] at hout ⊢
  dsimp only at hout ⊢
  rw[br_t,ql (by simp),qbfz hX (by omega) hr ho hout,qc,qbj0 hr ho hnow]
  dsimp only
  rw[show (r.1,r.2)=r from rfl,e4,qc]
  dsimp only
  rw[q7c hX (by omega) ws (by omega),qc]
 | none=>
  have hp:(qic o (q0 r o)).1=(false,resP o (q0 r o),entP o (q0 r o),()):=by unfold qic;rw[if_pos hcond,hnow]
  obtain ⟨hT,hr2⟩:=qbgq hr ho hnow
  rw[hp] at hout hpl ⊢
  dsimp only at hout hpl ⊢
  rw[br_f]
  have hlE:(entP o (q0 r o)).length≤1000:=by omega
  obtain ⟨ws2,l2,h2,e2⟩:=qbf6 (DD q0n (W+19)) (W+19) (fun v0_0 v0_1 v0_2 v0_3 v0_4=>qop (DD q0n (W+19)) (W+19) v0_0 v0_1 v0_2 v0_3 v0_4) (fun v1_0 v1_1 v1_2 v1_3=>qkm (DD q0n (W+19)) (W+19) v1_0 v1_1 v1_2 v1_3) r o (false,resP o (q0 r o),entP o (q0 r o),()) hT hlE (W+19) 0 ws (Nat.zero_le _) (by show (entP o (q0 r o)).length - 0<_;omega) hwl (fun p hp=>⟨fun q=>by simp at q,fun _=>hw p hp⟩)
  rw[show ((0:Nat):Int)=0 from rfl] at e2
  refine Eq.trans e2 ?_
  simp only[qkm]
  rw[show (r.1,r.2)=r from rfl,qbfz hX (by omega) hr ho hout,qc]
  dsimp only
  obtain ⟨ws3,l3,h3,e3⟩:=qbci hX (n:=W+19) (by omega) hr2
  rw[show ∀ z:q8,(z.1,z.2)=z from fun _=>rfl,e3,qc]
  dsimp only
  rw[qbi6 l2 l3 (fun p hp=>by rw[h2 p hp,h3 p hp];rfl),q7c hX (by omega) ws3 (by omega),qc]
end Go.G
namespace Go.Proofs.YtcdcbckcploljaaGreat
open Go.ChangeShapes Go.WideShapes Go.ChangeAt Go.RowKit Go.V Go.G
set_option maxRecDepth 100000
theorem fnPlans_lifted (os:Os) (started:os.Started) (H:Type) (enc:TypeId×Value→H) :
  ReturnsInHanded {} Tryz.checked os 6 .any (Rows.fnPlansSpec.pre6 enc Tryz.prog Tryz.f6 Rows.fnPlansRow.domain false) (Rows.fnPlansSpec.post enc Tryz.prog Tryz.f6 false true false false):=
 qbht (X:=q0n) (tb:=4) started Tryz.func6 (by kernel_rfl)
  (ChangeSpec.witness6 (enc:=enc) (C:=Tryz.checked) false ⟨#[],Tryz.f6.params.map fun t=>((Tryz.prog.info? t).bind (·.zero)).getD .nilIface,[]⟩ 8 (by kernel_rfl) (by kernel_rfl) (by kernel_rfl) (by kernel_rfl))
  ⟨rfl,rfl,trivial⟩ (by kernel_rfl) (by kernel_rfl) (by kernel_rfl) rfl
  (fun ds h=>by
   match ds,h with
   | [d0],_=>exact ⟨rfl,rfl,rfl⟩)
  (fun a wa=>⟨W+20,((true,()),()),qbfe a.1,fun h Pr Gs us k=>by
   obtain ⟨v,vs,rfl,⟨c,r,rfl⟩,e⟩:=k
   obtain rfl:vs=[]:=e
   simp only[Rep] at r
   subst r
   rfl⟩)
theorem fnPlans_holds:Rows.FnPlansSaid:=
 OpenClaim.holds_of_wide 6 Tryz.f6 rfl rfl rfl rfl rfl rfl rfl ⟨rfl,rfl,rfl,rfl,rfl⟩ rfl rfl rfl rfl rfl (by kernel_rfl) Tryz.func6 (by kernel_rfl)
  (of_decide_eq_true (by kernel_rfl)) (by unfold Func.isWrapper;first | (rw[if_pos (by decide +kernel)];kernel_rfl) | (rw[if_neg (by decide +kernel)];exact ⟨rfl,rfl⟩))
  (fun os started H enc _=>fnPlans_lifted os started H enc)
#print axioms fnPlans_holds
end Go.Proofs.YtcdcbckcploljaaGreat


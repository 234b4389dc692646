/- FnToldStays holds: what was told by a drawn schedule stays as it was told, whatever comes behind; tries are numbered up. No condition beyond the given statement's. -/
import Derived.Test.YtpmimbgkiindbaaGreatAPFnToldStays3
set_option linter.unusedVariables false
set_option linter.unusedSimpArgs false
set_option linter.unusedSectionVars false
open Go.IntKind (wrap)
namespace Go.G
set_option maxRecDepth 100000
open Go Go.V Go.Proofs
structure Kept (a b:Mach):Prop where
 time:a.2.2.1≤b.2.2.1
 calls:a.2.2.2.1.length≤b.2.2.2.1.length
 each:∀ k:Int,0≤k→k<a.2.2.2.1.length→(getC a.2.2.2.1 k).1=(getC b.2.2.2.1 k).1∧(getC a.2.2.2.1 k).2.1=(getC b.2.2.2.1 k).2.1∧(getC a.2.2.2.1 k).2.2.1=(getC b.2.2.2.1 k).2.2.1∧
  (0≤(getC a.2.2.2.1 k).2.2.2.1→(getC a.2.2.2.1 k).2.2.2.1=(getC b.2.2.2.1 k).2.2.2.1∧(getC a.2.2.2.1 k).2.2.2.2.2.1=(getC b.2.2.2.1 k).2.2.2.2.2.1)∧
  (0≤(getC a.2.2.2.1 k).2.2.2.2.1→(getC a.2.2.2.1 k).2.2.2.2.1=(getC b.2.2.2.1 k).2.2.2.2.1)
 order:∃ o,b.2.2.2.2.1=a.2.2.2.2.1++o
 dlen:b.1.2.1.length=a.1.2.1.length
 seq:∀ t:Int,0≤t→t<a.1.2.1.length→(dsc a.1 t).1≤(dsc b.1 t).1
theorem Kept.refl (a:Mach):Kept a a:=⟨Int.le_refl _,Nat.le_refl _,fun k _ _=>⟨rfl,rfl,rfl,fun _=>⟨rfl,rfl⟩,fun _=>rfl⟩,⟨[],by simp⟩,rfl,fun t _ _=>Int.le_refl _⟩
theorem Kept.trans {a b c:Mach} (h:Kept a b) (h2:Kept b c):Kept a c:=by
 obtain ⟨o,ho⟩:=h.order
 obtain ⟨o2,ho2⟩:=h2.order
 have hd:=h.dlen
 have hc:=h.calls
 refine ⟨Int.le_trans h.time h2.time,Nat.le_trans h.calls h2.calls,fun k k0 k1=>?_,⟨o++o2,by rw[ho2,ho,z33]⟩,h2.dlen.trans h.dlen,fun t t0 t1=>Int.le_trans (h.seq t t0 t1) (h2.seq t t0 (by omega))⟩
 obtain ⟨a1,a2,a3,a4,a5⟩:=h.each k k0 k1
 obtain ⟨b1,b2,b3,b4,b5⟩:=h2.each k k0 (by omega)
 refine ⟨a1.trans b1,a2.trans b2,a3.trans b3,fun q=>?_,fun q=>?_⟩
 ·obtain ⟨c1,c2⟩:=a4 q
  obtain ⟨d1,d2⟩:=b4 (by omega)
  exact ⟨c1.trans d1,c2.trans d2⟩
 ·have c1:=a5 q
  exact c1.trans (b5 (by omega))
theorem Kept.thr {a b:Mach} (h:Kept a b) (t:Int) (x:ThT):Kept a (setT b t x):=⟨h.time,h.calls,h.each,h.order,h.dlen,h.seq⟩
theorem Kept.mem {a:Mach} {x:MemT} (hd:x.2.1.length=a.1.2.1.length) (hs:∀ t:Int,0≤t→t<a.1.2.1.length→(dsc a.1 t).1≤(dsc x t).1):Kept a (putM a x):=
 ⟨Int.le_refl _,Nat.le_refl _,fun k _ _=>⟨rfl,rfl,rfl,fun _=>⟨rfl,rfl⟩,fun _=>rfl⟩,⟨[],by show a.2.2.2.2.1=_;simp⟩,hd,hs⟩
theorem qbow (l:List qci) (t:Int):∀ j:Nat,j≤l.length→0≤qfj l t j→qfj l t j<j∧(getC l (qfj l t j)).1=t∧(getC l (qfj l t j)).2.2.2.2.1<0
 | 0,_,h=>by simp[qfj] at h
 | j+1,hj,h=>by
  simp only[qfj] at h ⊢
  by_cases e:(l.getD j dC).1=t∧(l.getD j dC).2.2.2.2.1<0
  ·rw[z6 e,qih]
   exact ⟨by omega,e⟩
  ·rw[z5 e] at h ⊢
   have:=qbow l t j (by omega) h
   exact ⟨by omega,this.2⟩
theorem qbbt {l:List qci} {t:Int} (h:0≤qbs l t):qbs l t<l.length∧(getC l (qbs l t)).1=t∧(getC l (qbs l t)).2.2.2.2.1<0:=qbow l t l.length (Nat.le_refl _) h
theorem qbvj {m:Mach} {u:Int} {s:ResT} (h:0≤qbs m.2.2.2.1 u→(getC m.2.2.2.1 (qbs m.2.2.2.1 u)).2.2.2.1<0):Kept m (soP m u s):=by
 unfold soP
 by_cases e:qbs m.2.2.2.1 u<0
 ·rw[z6 e];exact Kept.refl m
 rw[z5 e]
 have e0:0≤qbs m.2.2.2.1 u:=by omega
 have hk:=qbbt e0
 have hl:=h e0
 refine ⟨Int.le_refl _,by show _≤(List.set _ _ _).length;rw[z17];exact Nat.le_refl _,fun k k0 k1=>?_,⟨[qbs m.2.2.2.1 u],rfl⟩,rfl,fun t _ _=>Int.le_refl _⟩
 dsimp only
 rw[qkl ⟨e0,hk.1⟩ k0]
 by_cases q:k=qbs m.2.2.2.1 u
 ·rw[z6 q,q]
  exact ⟨rfl,rfl,rfl,fun z=>by omega,fun z=>by rfl⟩
 ·rw[z5 q];exact ⟨rfl,rfl,rfl,fun _=>⟨rfl,rfl⟩,fun _=>rfl⟩
theorem qbt2 {m:Mach} {t:Int} {s:ResT} (h:0≤qbs m.2.2.2.1 t→0≤(getC m.2.2.2.1 (qbs m.2.2.2.1 t)).2.2.2.1→(getC m.2.2.2.1 (qbs m.2.2.2.1 t)).2.2.2.2.2.1=s):Kept m (endP m t s):=by
 unfold endP
 refine Kept.thr ?_ _ _
 unfold endC
 by_cases e:qbs m.2.2.2.1 t<0
 ·rw[z6 e];exact Kept.refl m
 rw[z5 e]
 have e0:0≤qbs m.2.2.2.1 t:=by omega
 have hk:=qbbt e0
 refine ⟨Int.le_refl _,by show _≤(List.set _ _ _).length;rw[z17];exact Nat.le_refl _,fun k k0 k1=>?_,⟨[],by show m.2.2.2.2.1=_;simp⟩,rfl,fun t _ _=>Int.le_refl _⟩
 dsimp only
 rw[qkl ⟨e0,hk.1⟩ k0]
 by_cases q:k=qbs m.2.2.2.1 t
 ·rw[z6 q,q]
  exact ⟨rfl,rfl,rfl,fun z=>⟨rfl,h e0 z⟩,fun z=>by omega⟩
 ·rw[z5 q];exact ⟨rfl,rfl,rfl,fun _=>⟨rfl,rfl⟩,fun _=>rfl⟩
theorem qbe9 {m:Mach} (I:Inv m) {t:Int} (h:0≤qbs m.2.2.2.1 t):OpenC m.2.2.2.1 t (qbs m.2.2.2.1 t):=by
 obtain ⟨h1,h2,h3⟩:=qbbt h
 have:=(I.call.c _ h h1).fin
 exact ⟨⟨h,h1⟩,h2,by omega⟩
theorem qbw6 {m:MemT} {h:qep} (hu:0≤h.1∧h.1<m.2.1.length):(q8 m h).1.2.1.length=m.2.1.length∧∀ t:Int,0≤t→(dsc (q8 m h).1 t).1=(dsc m t).1:=by
 have hD:∀ d:qhv,d.1=(dsc m h.1).1→(setD m h.1 d).2.1.length=m.2.1.length∧∀ t:Int,0≤t→(dsc (setD m h.1 d) t).1=(dsc m t).1:=fun d e=>by
  refine ⟨by unfold setD;simp,fun t t0=>?_⟩
  rw[qrq hu t0]
  by_cases q:t=h.1
  ·rw[z6 q,q,e]
  ·rw[z5 q]
 have hS:∀ p w,(setW m p w).2.1.length=m.2.1.length∧∀ t:Int,0≤t→(dsc (setW m p w) t).1=(dsc m t).1:=fun p w=>⟨rfl,fun t _=>rfl⟩
 have hR:m.2.1.length=m.2.1.length∧∀ t:Int,0≤t→(dsc m t).1=(dsc m t).1:=⟨rfl,fun _ _=>rfl⟩
 unfold q8
 split
 ·exact hR
 split
 ·split
  ·exact hD _ rfl
  split
  ·exact hR
  split
  ·exact hR
  split
  ·exact hS _ _
  ·exact hD _ rfl
 ·split
  ·exact hR
  ·dsimp only
   split
   ·exact hS _ _
   ·exact hR
theorem qb1e {m:MemT} {h:qep} (e:(q8 m h).2.2.2.1=3):(dsc m h.1).2.1=1:=by
 unfold q8 at e
 split at e
 ·cases e
 split at e
 ·next q=>exact q
 ·split at e<;>cases e
theorem qbyk {m:Mach} (I:Inv m) {t:Int} (t0:0≤t) (t1:t<m.2.1.length) (hs:(thr m t).2.2.2.2.1≠[]):Kept m (qlr m t):=by
 have T:=I.th t t0 t1
 have ho:=T.isOn hs
 have H:=T.help _ (q6f hs)
 have hdl:=I.mem.dlen
 have hA:=qbw6 (m:=m.1) (h:=topH (thr m t)) ⟨H.t.1,by have:=H.t.2;omega⟩
 have kA:Kept m (putM m (q8 m.1 (topH (thr m t))).1):=Kept.mem hA.1 fun t t0 _=>by rw[hA.2 t t0];exact Int.le_refl _
 unfold qlr
 split
 ·split<;>exact kA.thr _ _
 split
 ·split
  ·exact kA.thr _ _
  ·next q=>
   split
   ·next q2=>
    refine kA.trans (qbt2 fun e z=>?_)
    have hk:=qbe9 I (t:=t) e
    have hyes:qeq m t=some (dsc m.1 t).2.2.2.1:=by
     unfold qeq
     rw[z6 ⟨(qbmh T hs (by omega)).1,q2⟩]
    exact ((I.call.lin t _ t0 t1 hk).2 _ hyes).2
   ·exact kA.thr _ _
 split
 ·next q=>
  refine (kA.trans (qbvj fun e=>?_)).thr _ _
  have hk:=qbe9 I (t:=(topH (thr m t)).1) e
  have h1:=qb1e q
  have hyes:qeq m (topH (thr m t)).1=none:=by
   unfold qeq
   rw[z5 (fun z=>by rw[h1] at z;cases z.2)]
  have:=(I.call.lin _ _ H.t.1 H.t.2 hk).1 hyes
  show (getC m.2.2.2.1 (qbs m.2.2.2.1 (topH (thr m t)).1)).2.2.2.1<0
  omega
 ·exact kA.thr _ _
theorem qbzx {m:Mach} (I:Inv m) {t:Int} (t0:0≤t) (t1:t<m.2.1.length) (ho:(thr m t).2.2.1=true) (hs:(thr m t).2.2.2.2.1=[]):Kept m (q4k m t):=by
 have hyn:qeq m t=none:=by unfold qeq;rw[z5 (fun z=>by rw[qy2 hs] at z;cases z.1)]
 have hdl:=I.mem.dlen
 unfold q4k
 split
 ·exact (Kept.refl m).thr _ _
 split
 ·exact (Kept.refl m).thr _ _
 split
 ·generalize (qch (opT (thr m t)) (gotX m (thr m t))).1.2.1=s
  have hlin:0≤qbs m.2.2.2.1 t→(getC m.2.2.2.1 (qbs m.2.2.2.1 t)).2.2.2.1<0:=fun e=>by
   have:=(I.call.lin _ _ t0 t1 (qbe9 I e)).1 hyn
   omega
  refine (qbvj hlin).trans (qbt2 fun e z=>?_)
  have hk:=qbbt e
  unfold soP at e z hk ⊢
  by_cases q:qbs m.2.2.2.1 t<0
  ·rw[z6 q] at e;omega
  rw[z5 q] at e z hk ⊢
  dsimp only at e z hk ⊢
  have q0:0≤qbs m.2.2.2.1 t:=by omega
  have hq:=qbe9 I q0
  generalize hg:qbs (m.2.2.2.1.set (qbs m.2.2.2.1 t).toNat ((cal m (qbs m.2.2.2.1 t)).1,(cal m (qbs m.2.2.2.1 t)).2.1,(cal m (qbs m.2.2.2.1 t)).2.2.1,m.2.2.1,(cal m (qbs m.2.2.2.1 t)).2.2.2.2.1,s,())) t=g at *
  rw[qkl hq.rng e] at hk ⊢
  rw[z17] at hk
  by_cases w:g=qbs m.2.2.2.1 t
  ·rw[z6 w]
  ·rw[z5 w] at hk
   have:=(I.call.c g e hk.1).fin
   have hg2:OpenC m.2.2.2.1 t g:=⟨⟨e,hk.1⟩,hk.2.1,by omega⟩
   have:=I.call.uniq hg2 hq
   omega
 ·refine Kept.thr (Kept.mem (by unfold setD;simp) fun u u0 u1=>?_) _ _
  rw[qrq ⟨t0,by omega⟩ u0]
  by_cases w:u=t
  ·rw[z6 w,w];dsimp only;omega
  ·rw[z5 w];exact Int.le_refl _
theorem qbxr {m:Mach} (I:Inv m) {t:Int} (t0:0≤t) (t1:t<m.2.1.length):Kept m (qvy m t):=by
 have kt:Kept m (tick m):=⟨by show m.2.2.1≤m.2.2.1+1;omega,Nat.le_refl _,fun k _ _=>⟨rfl,rfl,rfl,fun _=>⟨rfl,rfl⟩,fun _=>rfl⟩,⟨[],by show m.2.2.2.2.1=_;simp⟩,rfl,fun t _ _=>Int.le_refl _⟩
 unfold qvy
 by_cases h1:(thr m t).2.2.1=false
 ·rw[z6 h1]
  refine kt.trans ?_
  unfold begP
  have hb:∀ c:qci,Kept (tick m) (m.1,m.2.1,m.2.2.1+1,m.2.2.2.1++[c],m.2.2.2.2):=fun c=>by
   refine ⟨Int.le_refl _,?_,fun k k0 k1=>?_,⟨[],?_⟩,rfl,fun t _ _=>Int.le_refl _⟩
   ·show m.2.2.2.1.length≤(m.2.2.2.1++[c]).length
    rw[z19];omega
   ·show (getC m.2.2.2.1 k).1=(getC (m.2.2.2.1++[c]) k).1∧(getC m.2.2.2.1 k).2.1=(getC (m.2.2.2.1++[c]) k).2.1∧(getC m.2.2.2.1 k).2.2.1=(getC (m.2.2.2.1++[c]) k).2.2.1∧(0≤(getC m.2.2.2.1 k).2.2.2.1→(getC m.2.2.2.1 k).2.2.2.1=(getC (m.2.2.2.1++[c]) k).2.2.2.1∧(getC m.2.2.2.1 k).2.2.2.2.2.1=(getC (m.2.2.2.1++[c]) k).2.2.2.2.2.1)∧(0≤(getC m.2.2.2.1 k).2.2.2.2.1→(getC m.2.2.2.1 k).2.2.2.2.1=(getC (m.2.2.2.1++[c]) k).2.2.2.2.1)
    rw[qbbh k0,z6 (show k<m.2.2.2.1.length from k1)]
    exact ⟨rfl,rfl,rfl,fun _=>⟨rfl,rfl⟩,fun _=>rfl⟩
   ·show m.2.2.2.2.1=m.2.2.2.2.1++[]
    simp
  exact (hb _).thr _ _
 rw[z5 h1]
 have h1':(thr m t).2.2.1=true:=by simpa using h1
 by_cases h2:(thr m t).2.2.2.2.1≠[]
 ·rw[z6 h2];exact kt.trans (qbyk (qz2 I) t0 t1 h2)
 ·rw[z5 h2];exact kt.trans (qbzx (qz2 I) t0 t1 h1' (by show (thr m t).2.2.2.2.1=[];simpa using h2))
theorem qb2f {m:Mach} (I:Inv m) {t:Int} (t0:0≤t) (t1:t<m.2.1.length):Kept m (goP m t):=by
 unfold goP;split
 ·exact qbxr I t0 t1
 ·exact Kept.refl m
theorem qby8 (who:List Int):∀ {m:Mach},Inv m→(∀ t∈who,0≤t∧t<m.2.1.length)→Kept m (qjf m who):=by
 induction who with
 | nil=>intro m I _;exact Kept.refl m
 | cons t who ih=>
  intro m I h
  have ht:=h t z14
  exact (qb2f I ht.1 ht.2).trans (ih (qbrk I ht.1 ht.2) (fun u hu=>by rw[qbk2];exact h u (z16 _ hu)))
theorem qb0m (m:Mach) (a b:List Int):qjf (qjf m a) b=qjf m (a++b):=by
 unfold qjf;rw[List.foldl_append]
end Go.G

/- FnToldStays holds: what was told by a drawn schedule stays as it was told, whatever comes behind; tries are numbered up. No condition beyond the given statement's. -/
namespace Go.G
set_option linter.unusedVariables false
set_option linter.unusedSimpArgs false
set_option linter.unusedSectionVars false
set_option maxRecDepth 100000
open Go Go.V Go.Proofs

section
variable {X:Ext} (hX:XOk X) {n:Nat}
include hX
theorem qbx8 (hn:W+2≤n) (r:ResT) (hl:r.2.1.length≤1000):qyg (DD X n) r r=some ((true,()),()):=by
 obtain ⟨n,rfl⟩:∃ k,n=k+1:=⟨n - 1,by omega⟩
 rw[qbmm hX]
 simp only[qzm,q90]
 rw[qh trivial,qb15 hX (by omega) _ hl,qc]
theorem qbv7 (N n:Nat) (hN:W+3≤N) (K0:Bool→Mach→Mach→Option ((Bool×Unit)×Unit)) (K1:Mach→Mach→Option ((Bool×Unit)×Unit)) {a b:Mach} (I:Inv a) (h:Kept a b) (hl:a.2.2.2.1.length≤1000):∀ (c i:Nat),i≤a.2.2.2.1.length→a.2.2.2.1.length - i<c→
  qh4 (DD X N) n K0 K1 c (i:Int) a b=K1 a b
 | 0,i,_,h2=>by omega
 | c+1,i,h0,h2=>by
  simp only[qh4,qpe]
  by_cases hi:i<a.2.2.2.1.length
  ·have ih:=qbv7 N n hN K0 K1 I h hl c (i+1) (by omega) (by omega)
   have hcl:=h.calls
   have hlen:=(I.call.c (i:Int) (by omega) (by omega)).len
   obtain ⟨e1,e2,e3,e4,e5⟩:=h.each (i:Int) (by omega) (by omega)
   have da:List.getD a.2.2.2.1 (Int.toNat (i:Int)) (0,(0,0,0,()),0,0,0,(0,[],()),())=getC a.2.2.2.1 (i:Int):=rfl
   have db:List.getD b.2.2.2.1 (Int.toNat (i:Int)) (0,(0,0,0,()),0,0,0,(0,[],()),())=getC b.2.2.2.1 (i:Int):=rfl
   rw[qh (by omega),ix hi,br_t,ix (by omega),br_t,da,db,e2,eqOp hX,e1,e3]
   generalize getC a.2.2.2.1 (i:Int)=x at *
   generalize getC b.2.2.2.1 (i:Int)=y at *
   have nn:∀ z:Int,(z != z)=false:=fun z=>by rw[bned,z11 rfl];rfl
   rw[z13,z20,nn,z20,nn,br_f,qt (by omega)]
   have en:(bif decide (x.2.2.2.2.1≥0) then x.2.2.2.2.1 != y.2.2.2.2.1 else false)=false:=by
    by_cases q:x.2.2.2.2.1≥0
    ·rw[z11 q,z21,e5 q,nn]
    ·rw[z10 q,z20]
   by_cases q:x.2.2.2.1≥0
   ·obtain ⟨q1,q2⟩:=e4 q
    rw[qh q,en,q1,nn,br_f,q2]
    rw[q2] at hlen
    rw[qbx8 hX (by omega) _ (by omega),qc]
    dsimp only
    rw[z13,z20,br_f]
    exact ih
   ·rw[qi q,en,z20,br_f]
    exact ih
  ·rw[qi (by omega)]
theorem qbv4 (N n:Nat) (K0:Bool→Mach→Mach→Option ((Bool×Unit)×Unit)) (K1:Mach→Mach→Option ((Bool×Unit)×Unit)) {a b:Mach} (h:Kept a b) (hl:a.2.2.2.2.1.length≤1000):∀ (c i:Nat),i≤a.2.2.2.2.1.length→a.2.2.2.2.1.length - i<c→
  qh1 (DD X N) n K0 K1 c (i:Int) a b=K1 a b
 | 0,i,_,h2=>by omega
 | c+1,i,h0,h2=>by
  simp only[qh1,qo6]
  by_cases hi:i<a.2.2.2.2.1.length
  ·have ih:=qbv4 N n K0 K1 h hl c (i+1) (by omega) (by omega)
   obtain ⟨o,ho⟩:=h.order
   have hi2:i<b.2.2.2.2.1.length:=by rw[ho,z19];omega
   have e:b.2.2.2.2.1.getD i 0=a.2.2.2.2.1.getD i 0:=by
    rw[ho,List.getD_eq_getElem?_getD,List.getD_eq_getElem?_getD,z43 hi]
   have nn:∀ z:Int,(z != z)=false:=fun z=>by rw[bned,z11 rfl];rfl
   rw[qh (by omega),ix hi,br_t,ix hi2,br_t,z12,e,nn,br_f,qt (by omega)]
   exact ih
  ·rw[qi (by omega)]
theorem qbwg (N n:Nat) (K0:Bool→Option ((Bool×Unit)×Unit)) (K1:Option ((Bool×Unit)×Unit)) {a b:Mach} (h:Kept a b) (hl:a.1.2.1.length≤1000):∀ (c i:Nat),i≤a.1.2.1.length→a.1.2.1.length - i<c→
  qhz (DD X N) n K0 K1 c (i:Int) a b=K1
 | 0,i,_,h2=>by omega
 | c+1,i,h0,h2=>by
  simp only[qhz,qpm]
  by_cases hi:i<a.1.2.1.length
  ·have ih:=qbwg N n K0 K1 h hl c (i+1) (by omega) (by omega)
   have hd:=h.dlen
   have hs:=h.seq (i:Int) (by omega) (by omega)
   have da:List.getD a.1.2.1 (Int.toNat (i:Int)) (0,0,[],(0,[],()),())=dsc a.1 (i:Int):=rfl
   have db:List.getD b.1.2.1 (Int.toNat (i:Int)) (0,0,[],(0,[],()),())=dsc b.1 (i:Int):=rfl
   rw[qh (by omega),ix (by omega),br_t,ix hi,br_t,da,db,qi (by omega),qt (by omega)]
   exact ih
  ·rw[qi (by omega)]
end
theorem qbj3 (a:List Int):q1p (DD qbk4 (W+30)) a=some ((true,()),()):=by
 have hX:XOk qbk4:=qbsg
 have hW:=qbk
 rw[qbc9 hX]
 simp only[qqv,qra]
 rw[qb4k hX (by omega),qc]
 dsimp only
 by_cases hbig:(a.length:Int)>1048576
 ·rw[qh hbig]
 rw[qi hbig]
 obtain ⟨r,L,who,hr,hL,hw,e1⟩:=qbwl hX (n:=W+29) (by omega) a (by omega)
 obtain ⟨I,ht,_,h1,h2,h3⟩:=qbw1 hr hL hw
 rw[e1,qc]
 dsimp only
 rw[qbyy hX (by omega) hr hL,qc,qbqm hX (by omega) hr hL,qc]
 dsimp only
 rw[z11 rfl,z13,z20,br_f]
 have eh:wrap .i64 (Int.tdiv (who.length:Int) 2)=((who.length / 2:Nat):Int):=by
  rw[show Int.tdiv (who.length:Int) 2=((who.length / 2:Nat):Int) by rw[Int.tdiv_eq_ediv_of_nonneg (by omega)];omega]
  exact qn (by omega) (by omega)
 rw[eh]
 have hk:who.length / 2≤who.length:=by omega
 generalize who.length / 2=k at hk ⊢
 have b1:(decide ((0:Nat)≤0)&&decide (0≤(k:Int))&&decide ((k:Int)≤(who.length:Int)))=true:=by simp;omega
 have b2:(decide (0≤(k:Int))&&decide ((k:Int)≤(who.length:Int))&&decide ((who.length:Int)≤(who.length:Int)))=true:=by simp;omega
 rw[b1,br_t,show (0:Int).toNat=0 from rfl,List.drop_zero,z12]
 have hI0:=qba3 hr hL
 have hm1:∀ t∈who.take k,0≤t∧t<(qbt r L).2.1.length:=fun t h=>h2 t (List.mem_of_mem_take h)
 have hm2:∀ t∈who.drop k,0≤t∧t<(qjf (qbt r L) (who.take k)).2.1.length:=fun t h=>by rw[qbte];exact h2 t (List.mem_of_mem_drop h)
 have hl1:(who.take k).length=k:=by rw[z27];omega
 have hl2:(who.drop k).length=who.length - k:=List.length_drop
 rw[qbyx hX (by omega) hI0 (who.take k) (by omega) hm1 (by omega),qc]
 dsimp only
 obtain ⟨I1,ht1,_⟩:=qbsk hX (who.take k) hI0 hm1
 have hK:=qby8 (who.drop k) I1 hm2
 have e0:(qbt r L).2.2.1=0:=rfl
 rw[b2,br_t,z12,List.take_length,qbyx hX (by omega) I1 (who.drop k) (by omega) hm2 (by omega),qc]
 dsimp only
 rw[qb0m,List.take_append_drop] at hK ⊢
 have s1:=qvu hX I1
 have hcl:=qru hX I1
 have hol:=s1.o
 have hdl:=I1.mem.dlen
 have hnn:=I1.n
 obtain ⟨o,ho⟩:=hK.order
 have hol2:(qjf (qbt r L) who).2.2.2.2.1.length=(qjf (qbt r L) (who.take k)).2.2.2.2.1.length+o.length:=by rw[ho,z19]
 have hkc:=hK.calls
 have hkt:=hK.time
 rw[z10 (by omega),z20,z10 (by omega),z20,z10 (by omega),br_f]
 simp only[qof]
 refine Eq.trans (qbv7 hX (W+29) (W+29) (by omega) _ _ I1 hK (by omega) (W+29) 0 (Nat.zero_le _) (by omega)) ?_
 simp only[qm0,qn5]
 refine Eq.trans (qbv4 hX (W+29) (W+29) _ _ hK (by omega) (W+29) 0 (Nat.zero_le _) (by omega)) ?_
 simp only[qmc,qn9]
 exact qbwg hX (W+29) (W+29) _ _ hK (by omega) (W+29) 0 (Nat.zero_le _) (by omega)
end Go.G
namespace Go.Proofs.YtpmimbgkiindbaaGreat
open Go.ChangeShapes Go.WideShapes Go.ChangeAt Go.RowKit Go.V Go.G
set_option maxRecDepth 100000
theorem fnToldStays_lifted (os:Os) (started:os.Started) (H:Type) (enc:TypeId×Value→H) :
  ReturnsInHanded {} Tryz.checked os 6 .any (Rows.fnToldStaysSpec.pre6 enc Tryz.prog Tryz.f6 Rows.fnToldStaysRow.domain false) (Rows.fnToldStaysSpec.post enc Tryz.prog Tryz.f6 false true false false):=
 qbzl (X:=qbk4) (tb:=4) started Tryz.func6 (by kernel_rfl)
  (ChangeSpec.witness6 (enc:=enc) (C:=Tryz.checked) false ⟨#[],Tryz.f6.params.map fun t=>((Tryz.prog.info? t).bind (·.zero)).getD .nilIface,[]⟩ 8 (by kernel_rfl) (by kernel_rfl) (by kernel_rfl) (by kernel_rfl))
  ⟨rfl,rfl,trivial⟩ (by kernel_rfl) (by kernel_rfl) (by kernel_rfl) rfl
  (fun ds h=>by
   match ds,h with
   | [d0],_=>exact ⟨rfl,rfl,rfl⟩)
  (fun a wa=>⟨W+30,((true,()),()),qbj3 a.1,fun h Pr Gs us k=>by
   obtain ⟨v,vs,rfl,⟨c,r,rfl⟩,e⟩:=k
   obtain rfl:vs=[]:=e
   simp only[Rep] at r
   subst r
   rfl⟩)
theorem fnToldStays_holds:Rows.FnToldStaysSaid:=
 OpenClaim.holds_of_wide 6 Tryz.f6 rfl rfl rfl rfl rfl rfl rfl ⟨rfl,rfl,rfl,rfl,rfl⟩ rfl rfl rfl rfl rfl (by kernel_rfl) Tryz.func6 (by kernel_rfl)
  (of_decide_eq_true (by kernel_rfl)) (by unfold Func.isWrapper;first | (rw[z6 (by decide +kernel)];kernel_rfl) | (rw[z5 (by decide +kernel)];exact ⟨rfl,rfl⟩))
  (fun os started H enc _=>fnToldStays_lifted os started H enc)
#print axioms fnToldStays_holds
end Go.Proofs.YtpmimbgkiindbaaGreat


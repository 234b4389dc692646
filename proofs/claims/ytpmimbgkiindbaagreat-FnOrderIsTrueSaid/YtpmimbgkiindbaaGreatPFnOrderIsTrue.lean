/- FnOrderIsTrue holds: by any drawn schedule what ended before another one began is so ahead of it; what one thread does is so in its order. No condition beyond the given statement's. -/
import Derived.Test.YtpmimbgkiindbaaGreatAPFnOrderIsTrue3
set_option linter.unusedVariables false
set_option linter.unusedSimpArgs false
set_option linter.unusedSectionVars false
namespace Go.G
set_option maxRecDepth 100000
open Go Go.V Go.Proofs
section
variable {X:Ext} (hX:XOk X) {n:Nat}
include hX
theorem qbrj (N n:Nat) (hN:1≤N) (K0:Bool→List qcc→Int→Int→Mach→Option ((Bool×Unit)×Unit)) (K1:List qcc→Int→Int→Mach→Option ((Bool×Unit)×Unit)) (l:List qcc) (a b:Int) (d:List qcc) (hd:d.length≤1000) (m:Mach) (x:qcc)
  (h:∀ y∈d,y.1=x.1→0≤y.2.2.2.2.1∧y.2.2.2.2.1<x.2.2.1):∀ (c i:Nat),i≤d.length→d.length - i<c→
  qi8 (DD X N) n K0 K1 c l a b d (d.length:Int) (i:Int) m x=K1 l a b m
 | 0,i,_,h2=>by omega
 | c+1,i,h0,h2=>by
  simp only[qi8,qp8]
  by_cases hi:i<d.length
  ·have ih:=qbrj N n hN K0 K1 l a b d hd m x h c (i+1) (by omega) (by omega)
   have hy:=h _ (z24 hi)
   rw[qh (by omega),ix hi,br_t,z12,qt hi,qu (by omega)]
   by_cases e:d[i].1=x.1
   ·obtain ⟨y0,y1⟩:=hy e
    obtain ⟨N,rfl⟩:∃ k,N=k+1:=⟨N - 1,by omega⟩
    rw[qh e,qbdz hX]
    simp only[qwn,q5h]
    rw[qc]
    dsimp only
    rw[z11 (show d[i].2.2.2.2.1≥0 from y0),z21,z11 y1,z13,br_f]
    exact ih
   ·rw[qi e];exact ih
  ·rw[qi (by omega)]
theorem qbra (N n:Nat) (hN:1≤N) (hnW:W≤n) (K0:Bool→Option ((Bool×Unit)×Unit)) (K1:Option ((Bool×Unit)×Unit)) {m:Mach} (I:Inv m) (hl:m.2.2.2.1.length≤1000):∀ (c i:Nat),i≤m.2.2.2.1.length→m.2.2.2.1.length - i<c→
  qfl (DD X N) n K0 K1 c m.2.2.2.1 (m.2.2.2.1.length:Int) (i:Int) m=K1
 | 0,i,_,h2=>by omega
 | c+1,i,h0,h2=>by
  have hW:=qbi
  simp only[qfl,qrd]
  by_cases hi:i<m.2.2.2.1.length
  ·have ih:=qbra N n hN hnW K0 K1 I hl c (i+1) (by omega) (by omega)
   have C:=I.call.c (i:Int) (by omega) (by omega)
   have hd:m.2.2.2.1.getD i (0,(0,0,0,()),0,0,0,(0,[],()),())=getC m.2.2.2.1 (i:Int):=by rw[qhj];rfl
   have hfin:=C.fin
   rw[qh (by omega),ix hi,br_t,z12,hd]
   have e:(bif decide ((getC m.2.2.2.1 (i:Int)).2.2.2.2.1≥0) then bif decide ((getC m.2.2.2.1 (i:Int)).2.2.2.1<0) then true else decide ((getC m.2.2.2.1 (i:Int)).2.2.2.1>(getC m.2.2.2.1 (i:Int)).2.2.2.2.1) else false)=false:=by
    by_cases a:(getC m.2.2.2.1 (i:Int)).2.2.2.2.1≥0
    ·rw[z11 a,z21,z10 (by omega),z20,z10 (by omega)]
    ·rw[z10 a];rfl
   rw[e,br_f,show (decide ((0:Nat)≤0)&&decide (0≤(i:Int))&&decide ((i:Int)≤(m.2.2.2.1.length:Int)))=true by simp;omega,br_t]
   simp only[qpo]
   rw[show (0:Int).toNat=0 from rfl,List.drop_zero]
   refine Eq.trans (qbrj hX N n hN _ _ m.2.2.2.1 (m.2.2.2.1.length:Int) (i:Int) (m.2.2.2.1.take i) (by rw[z27];omega) m (getC m.2.2.2.1 (i:Int)) (fun y hy hyt=>?_) n 0 (Nat.zero_le _) (by rw[z27];omega)) ?_
   ·obtain ⟨j,hj,rfl⟩:=z52.1 hy
    rw[z27] at hj
    rw[List.getElem_take] at hyt ⊢
    have e3:m.2.2.2.1[j]'(by omega)=getC m.2.2.2.1 (j:Int):=by rw[qhj,qt (by omega)]
    rw[e3] at hyt ⊢
    exact I.call.before (j:Int) (i:Int) (by omega) (by omega) (by omega) hyt
   ·simp only[qv4]
    rw[qu (by omega)]
    exact ih
  ·rw[qi (by omega)]
theorem qbrn (hn:W+11≤n) {m:Mach} (I:Inv m) (ht:m.2.2.1≤100000):qta (DD X n) m=some ((true,()),()):=by
 obtain ⟨n,rfl⟩:∃ k,n=k+1:=⟨n - 1,by omega⟩
 have hW:=qbi
 have hcl:=qrk hX I
 rw[qbfq hX]
 simp only[qsy,qti,qo9]
 rw[qtt hX (by omega) I ht,qc]
 dsimp only
 rw[z13,br_f]
 refine Eq.trans (qbra hX n n (by omega) (by omega) _ _ I (by omega) n 0 (Nat.zero_le _) (by omega)) ?_
 rfl
end
theorem qbwq {r:qv} (hr:RightR r) {L:List (List Op3)} (hL:OpsOk L) {who:List Int} (hw:qbeu L who 720):Inv (qt9 (qb4 r L) who)∧(qt9 (qb4 r L) who).2.2.1≤720∧(qt9 (qb4 r L) who).2.1.length=L.length∧who.length≤2000∧
  (∀ t∈who,0≤t∧t<(qb4 r L).2.1.length)∧(qb4 r L).2.2.1+who.length≤100000:=by
 have hthl:(qb4 r L).2.1.length=L.length:=by unfold qb4;simp
 have hwl:=hw.1
 have hall:∀ t∈who,0≤t∧t<(qb4 r L).2.1.length:=fun t h=>by rw[hthl];exact hw.2 t h
 have hX:XOk qbk0:=qbsb
 obtain ⟨h1,h2,_⟩:=qb0j hX who (qbas hr hL) hall
 have e:(qb4 r L).2.2.1=0:=rfl
 refine ⟨h1,by omega,by rw[qb0t,hthl],by omega,hall,by omega⟩
end Go.G

/- FnOrderIsTrue holds: by any drawn schedule what ended before another one began is so ahead of it; what one thread does is so in its order. No condition beyond the given statement's. -/
namespace Go.G
set_option linter.unusedVariables false
set_option linter.unusedSimpArgs false
set_option linter.unusedSectionVars false
set_option maxRecDepth 100000
open Go Go.V Go.Proofs

theorem qb3e {m:Mach} (I:Inv m) {i k:Nat} (hk:k<i) (hi:i<m.2.2.2.2.1.length) :
  (bif decide ((getC m.2.2.2.1 m.2.2.2.2.1[i]).2.2.2.2.1≥0) then decide ((getC m.2.2.2.1 m.2.2.2.2.1[i]).2.2.2.2.1<(getC m.2.2.2.1 (m.2.2.2.2.1[k]'(by omega))).2.2.1) else false)=false∧
  ((getC m.2.2.2.1 (m.2.2.2.2.1[k]'(by omega))).1=(getC m.2.2.2.1 m.2.2.2.2.1[i]).1→¬ (getC m.2.2.2.1 (m.2.2.2.2.1[k]'(by omega))).2.2.1>(getC m.2.2.2.1 m.2.2.2.2.1[i]).2.2.1):=by
 have ha:=I.call.ordr _ (z24 (show k<m.2.2.2.2.1.length by omega))
 have hb:=I.call.ordr _ (z24 hi)
 have hs:=List.pairwise_iff_getElem.1 I.call.sort k i (by omega) hi hk
 have hne:=List.pairwise_iff_getElem.1 I.call.nodup k i (by omega) hi hk
 have ca:=I.call.c _ ha.1 ha.2.1
 have cb:=I.call.c _ hb.1 hb.2.1
 have h1:=ca.lin
 have h2:=cb.lin
 have h3:=ca.fin
 have h4:=cb.fin
 have h5:=I.call.before m.2.2.2.2.1[k] m.2.2.2.2.1[i] ha.1
 have h6:=I.call.before m.2.2.2.2.1[i] m.2.2.2.2.1[k] hb.1
 generalize m.2.2.2.2.1[k]=ka at *
 generalize m.2.2.2.2.1[i]=kb at *
 refine ⟨?_,fun e=>?_⟩
 ·by_cases q:(getC m.2.2.2.1 kb).2.2.2.2.1≥0
  ·rw[z11 q,z21,z10 (by omega)]
  ·rw[z10 q,z20]
 ·rcases Int.lt_or_gt_of_ne hne with q | q
  ·have:=h5 q hb.2.1 e
   omega
  ·have:=h6 q ha.2.1 e.symm
   omega
section
variable {X:Ext} (hX:XOk X) {n:Nat}
include hX
theorem qbxl (N n:Nat) (hN:1≤N) (K0:Bool→Int→Mach→Option ((Bool×Unit)×Unit)) (K1:Int→Mach→Option ((Bool×Unit)×Unit)) {m:Mach} (I:Inv m) (hl:m.2.2.2.2.1.length≤1000) {i:Nat} (hi:i<m.2.2.2.2.1.length):∀ (c k:Nat),k≤i→i - k<c→
  qgs (DD X N) n K0 K1 c (i:Int) (k:Int) m=K1 (i:Int) m
 | 0,k,_,h2=>by omega
 | c+1,k,h0,h2=>by
  simp only[qgs,qmc]
  by_cases hk:k<i
  ·have ih:=qbxl N n hN K0 K1 I hl hi c (k+1) (by omega) (by omega)
   have hk2:k<m.2.2.2.2.1.length:=by omega
   have ha:=I.call.ordr _ (z24 hk2)
   have hb:=I.call.ordr _ (z24 hi)
   obtain ⟨o1,o2⟩:=qb3e I hk hi
   have da:List.getD m.2.2.2.1 (Int.toNat m.2.2.2.2.1[k]) (0,(0,0,0,()),0,0,0,(0,[],()),())=getC m.2.2.2.1 m.2.2.2.2.1[k]:=rfl
   have db:List.getD m.2.2.2.1 (Int.toNat m.2.2.2.2.1[i]) (0,(0,0,0,()),0,0,0,(0,[],()),())=getC m.2.2.2.1 m.2.2.2.2.1[i]:=rfl
   rw[qh (by omega),ix hk2,br_t,z12,qt hk2,ixn ha.1 ha.2.1,br_t,ix hi,br_t,z12,qt hi,ixn hb.1 hb.2.1,br_t,da,db]
   obtain ⟨N,rfl⟩:∃ k,N=k+1:=⟨N - 1,by omega⟩
   rw[qbdz hX]
   simp only[qwn,q5h]
   rw[qc]
   dsimp only
   rw[o1,z20]
   have e:(bif decide ((getC m.2.2.2.1 m.2.2.2.2.1[k]).1=(getC m.2.2.2.1 m.2.2.2.2.1[i]).1) then decide ((getC m.2.2.2.1 m.2.2.2.2.1[k]).2.2.1>(getC m.2.2.2.1 m.2.2.2.2.1[i]).2.2.1) else false)=false:=by
    by_cases q:(getC m.2.2.2.1 m.2.2.2.2.1[k]).1=(getC m.2.2.2.1 m.2.2.2.2.1[i]).1
    ·rw[z11 q,z21,z10 (o2 q)]
    ·rw[z10 q,z20]
   rw[e,br_f,qu (by omega)]
   exact ih
  ·rw[qi (by omega)]
theorem qbyl (N n:Nat) (hN:1≤N) (hnW:W≤n) (K0:Mach→Option ((Bool×Unit)×Unit)) (K1:Bool→Mach→Option ((Bool×Unit)×Unit)) {m:Mach} (I:Inv m) (hl:m.2.2.2.2.1.length≤1000):∀ (c i:Nat),i≤m.2.2.2.2.1.length→m.2.2.2.2.1.length - i<c→
  qde (DD X N) n K0 K1 c (i:Int) m=K0 m
 | 0,i,_,h2=>by omega
 | c+1,i,h0,h2=>by
  have hW:=qbi
  simp only[qde,qmy]
  by_cases hi:i<m.2.2.2.2.1.length
  ·have ih:=qbyl N n hN hnW K0 K1 I hl c (i+1) (by omega) (by omega)
   rw[qh (by omega)]
   simp only[qlv]
   refine Eq.trans (qbxl hX N n hN _ _ I hl hi n 0 (Nat.zero_le _) (by omega)) ?_
   simp only[qr6]
   rw[qu (by omega)]
   exact ih
  ·rw[qi (by omega)]
end
theorem qbf0 (a:List Int):qv3 (DD qbk0 (W+30)) a=some ((true,()),()):=by
 have hX:XOk qbk0:=qbsb
 have hW:=qbi
 rw[qbbt hX]
 simp only[qn9,qn4]
 rw[qb35 hX (by omega),qc]
 dsimp only
 by_cases hbig:(a.length:Int)>1048576
 ·rw[qh hbig]
 rw[qi hbig]
 obtain ⟨r,L,who,hr,hL,hw,e1⟩:=qbwa hX (n:=W+29) (by omega) a (by omega)
 obtain ⟨I,ht,_,h1,h2,h3⟩:=qbwq hr hL hw
 have hol:=(qvq hX I).o
 rw[e1,qc]
 dsimp only
 rw[qbyk hX (by omega) hr hL,qc,qbqe hX (by omega) hr hL,qc]
 dsimp only
 rw[z11 rfl,z13,z20,br_f,qb3l hX (by omega) (qbas hr hL) who h1 h2 h3,qc]
 dsimp only
 simp only[ql0]
 refine Eq.trans (qbyl hX (W+29) (W+29) (by omega) (by omega) _ _ I hol (W+29) 0 (Nat.zero_le _) (by omega)) ?_
 simp only[qr8]
 rw[qbrn hX (by omega) I (by omega),qc]
end Go.G
namespace Go.Proofs.YtpmimbgkiindbaaGreat
open Go.ChangeShapes Go.WideShapes Go.ChangeAt Go.RowKit Go.V Go.G
set_option maxRecDepth 100000
theorem fnOrderIsTrue_lifted (os:Os) (started:os.Started) (H:Type) (enc:TypeId×Value→H) :
  ReturnsInHanded {} Tryz.checked os 7 .any (Rows.fnOrderIsTrueSpec.pre6 enc Tryz.prog Tryz.f7 Rows.fnOrderIsTrueRow.domain false) (Rows.fnOrderIsTrueSpec.post enc Tryz.prog Tryz.f7 false true false false):=
 qby7 (X:=qbk0) (tb:=4) started Tryz.func7 (by kernel_rfl)
  (ChangeSpec.witness6 (enc:=enc) (C:=Tryz.checked) false ⟨#[],Tryz.f7.params.map fun t=>((Tryz.prog.info? t).bind (·.zero)).getD .nilIface,[]⟩ 8 (by kernel_rfl) (by kernel_rfl) (by kernel_rfl) (by kernel_rfl))
  ⟨rfl,rfl,trivial⟩ (by kernel_rfl) (by kernel_rfl) (by kernel_rfl) rfl
  (fun ds h=>by
   match ds,h with
   | [d0],_=>exact ⟨rfl,rfl,rfl⟩)
  (fun a wa=>⟨W+30,((true,()),()),qbf0 a.1,fun h Pr Gs us k=>by
   obtain ⟨v,vs,rfl,⟨c,r,rfl⟩,e⟩:=k
   obtain rfl:vs=[]:=e
   simp only[Rep] at r
   subst r
   rfl⟩)
theorem fnOrderIsTrue_holds:Rows.FnOrderIsTrueSaid:=
 OpenClaim.holds_of_wide 7 Tryz.f7 rfl rfl rfl rfl rfl rfl rfl ⟨rfl,rfl,rfl,rfl,rfl⟩ rfl rfl rfl rfl rfl (by kernel_rfl) Tryz.func7 (by kernel_rfl)
  (of_decide_eq_true (by kernel_rfl)) (by unfold Func.isWrapper;first | (rw[z6 (by decide +kernel)];kernel_rfl) | (rw[z5 (by decide +kernel)];exact ⟨rfl,rfl⟩))
  (fun os started H enc _=>fnOrderIsTrue_lifted os started H enc)
#print axioms fnOrderIsTrue_holds
end Go.Proofs.YtpmimbgkiindbaaGreat


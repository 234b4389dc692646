/- FnScans holds: each scan of a drawn schedule tells all rows as they were together, at one moment. No condition beyond the given statement's. -/
import Derived.Test.YtpmimbgkiindbaaGreatAPFnScans3
set_option linter.unusedVariables false
set_option linter.unusedSimpArgs false
set_option linter.unusedSectionVars false
open Go.IntKind (wrap)
namespace Go.G
set_option maxRecDepth 100000
open Go Go.V Go.Proofs
section
variable {X:Ext} (hX:XOk X) {n:Nat}
include hX
theorem qby6 (N n:Nat) (hN:W+2≤N) (hN6:6≤N) (K:Int→Cur→List (List Op3)→List Op3→Option ((List (List Op3)×Unit)×Cur×Unit)) (z:Int) (out:List (List Op3)):∀ (m i:Nat) (c:Cur) (l:List Op3),qhi c→i≤4→4 - i<m→l.length=i→(∀ o∈l,opOk o=true)→
  ∃ (c':Cur) (l':List Op3),qhi c'∧l'.length≤4∧(∀ o∈l',opOk o=true)∧qjs (DD X N) n K m z (i:Int) c out l=K z c' out l'
 | 0,_,_,_,_,_,h,_,_=>by omega
 | m+1,i,c,l,hc,hi,hf,hl,ho=>by
  have hW:=qbf
  have hb:=qbi
  simp only[qjs,qth]
  obtain ⟨x,c1,h1,_,hc1,e1⟩:=qj8 hX (n:=N) (by omega) hc 4
  obtain ⟨x0,x1⟩:=h1 (by omega)
  rw[e1,qc]
  dsimp only
  rw[qo (by omega) (by omega)]
  by_cases h:(i:Int)<1+x
  ·obtain ⟨o,c2,hc2,hoo,e2⟩:=qbrl hX (n:=N) (by omega) hc1
   rw[qg h,e2,qc]
   dsimp only
   rw[qg (by omega),qs (by omega)]
   exact qby6 N n hN hN6 K z out m (i+1) c2 (l++[o]) hc2 (by omega) (by omega) (by rw[z19,List.length_singleton];omega) (fun p hp=>by
    rcases z18.1 hp with q | q
    ·exact ho p q
    ·rw[z23] at q;rw[q];exact hoo)
  ·rw[qh h]
   exact ⟨c1,l,hc1,by omega,ho,rfl⟩
theorem qb0b (N n:Nat) (hN:W+2≤N) (hn:W≤n) (K:Cur→List (List Op3)→Option ((List (List Op3)×Unit)×Cur×Unit)):∀ (m i:Nat) (c:Cur) (L:List (List Op3)),qhi c→i≤3→3 - i<m→L.length=i→(∀ ops∈L,ops.length≤4∧∀ o∈ops,opOk o=true)→
  ∃ (c':Cur) (L':List (List Op3)),qhi c'∧OpsOk L'∧qew (DD X N) n K m (i:Int) c L=K c' L'
 | 0,_,_,_,_,_,h,_,_=>by omega
 | m+1,i,c,L,hc,hi,hf,hl,ho=>by
  have hW:=qbf
  have hb:=qbi
  simp only[qew,qsi]
  obtain ⟨x,c1,h1,_,hc1,e1⟩:=qj8 hX (n:=N) (by omega) hc 3
  obtain ⟨x0,x1⟩:=h1 (by omega)
  rw[e1,qc]
  dsimp only
  rw[qo (by omega) (by omega)]
  by_cases h:(i:Int)<1+x
  ·rw[qg h]
   simp only[qq4]
   obtain ⟨c2,l,hc2,hl4,hlo,e2⟩:=qby6 hX N n hN (by omega) (fun v0_0 v0_1 v0_2 v0_3=>qo4 (DD X N) n (qew (DD X N) n K m) K v0_0 v0_1 v0_2 v0_3) (i:Int) L n 0 c1 [] hc1 (by omega) (by omega) rfl (fun o h=>by simp at h)
   rw[show ((0:Nat):Int)=0 from rfl] at e2
   obtain ⟨c3,L',hc3,hL',e3⟩:=qb0b N n hN hn K m (i+1) c2 (L++[l]) hc2 (by omega) (by omega) (by rw[z19,List.length_singleton];omega) (fun p hp=>by
    rcases z18.1 hp with q | q
    ·exact ho p q
    ·rw[z23] at q;rw[q];exact ⟨hl4,hlo⟩)
   refine ⟨c3,L',hc3,hL',?_⟩
   refine Eq.trans e2 ?_
   simp only[qo4]
   rw[qg (by omega),qs (by omega)]
   exact e3
  ·rw[qh h]
   exact ⟨c1,L,hc1,⟨by omega,ho⟩,rfl⟩
theorem qbza (hn:W+3≤n) {c:Cur} (hc:qhi c):∃ (L:List (List Op3)) (c':Cur),qhi c'∧OpsOk L∧qud (DD X n) c=some ((L,()),(c',())):=by
 obtain ⟨n,rfl⟩:∃ k,n=k+1:=⟨n - 1,by omega⟩
 have hW:=qbf
 rw[qbil hX]
 simp only[qu6,quf,qq1]
 obtain ⟨c',L,h1,h2,e⟩:=qb0b hX n n (by omega) (by omega) (fun v0_0 v0_1=>qyc (DD X n) n v0_0 v0_1) n 0 c [] hc (by omega) (by omega) rfl (fun o h=>by simp at h)
 rw[show ((0:Nat):Int)=0 from rfl] at e
 exact ⟨L,c',h1,h2,e⟩
def qbfg (L:List (List Op3)) (who:List Int) (k:Nat):Prop:=who.length≤k∧∀ t∈who,0≤t∧t<L.length
theorem qb0n (N n:Nat) (hN:W+2≤N) (K:Int→Int→qm→qm→List (List Op3)→List Int→Cur→Option ((qm×List (List Op3)×List Int×Unit)×Unit)) (a b t:Int) (r s:qm) (L:List (List Op3)) (ht:0≤t∧t<L.length) (k:Nat) (hk:k≤1000):∀ (m i:Nat) (c:Cur) (who:List Int),qhi c→i≤6→6 - i<m→qbfg L who (k+i)→
  ∃ (c':Cur) (who':List Int),qhi c'∧qbfg L who' (k+6)∧qhq (DD X N) n K m a b t (i:Int) r s L who c=K a b r s L who' c'
 | 0,_,_,_,_,_,h,_=>by omega
 | m+1,i,c,who,hc,hi,hf,hw=>by
  have hW:=qbf
  have hb:=qbi
  simp only[qhq,qn6]
  obtain ⟨x,c1,h1,_,hc1,e1⟩:=qj8 hX (n:=N) (by omega) hc 6
  obtain ⟨x0,x1⟩:=h1 (by omega)
  rw[e1,qc]
  dsimp only
  rw[qo (by omega) (by omega)]
  have hwl:=hw.1
  by_cases h:(i:Int)<1+x
  ·rw[qg h,qg (by omega),qs (by omega)]
   exact qb0n N n hN K a b t r s L ht k hk m (i+1) c1 (who++[t]) hc1 (by omega) (by omega) ⟨by rw[z19,List.length_singleton];omega,fun u hu=>by
    rcases z18.1 hu with q | q
    ·exact hw.2 u q
    ·rw[z23] at q;rw[q];exact ht⟩
  ·rw[qh h]
   exact ⟨c1,who,hc1,⟨by omega,hw.2⟩,rfl⟩
theorem qbzw (N n:Nat) (hN:W+2≤N) (hn:W≤n) (K:qm→qm→List (List Op3)→List Int→Option ((qm×List (List Op3)×List Int×Unit)×Unit)) (a:Int) (ha:a≤120) (r s:qm) (L:List (List Op3)) (hL:0<L.length∧L.length≤3):∀ (m i:Nat) (c:Cur) (who:List Int),qhi c→i≤120→120 - i<m→qbfg L who (6 * i)→
  ∃ (who':List Int),qbfg L who' 720∧qdc (DD X N) n K m a (i:Int) r s L who c=K r s L who'
 | 0,_,_,_,_,_,h,_=>by omega
 | m+1,i,c,who,hc,hi,hf,hw=>by
  have hW:=qbf
  simp only[qdc,qno]
  by_cases h:(i:Int)<a
  ·obtain ⟨x,c1,h1,_,hc1,e1⟩:=qj8 hX (n:=N) (by omega) hc (L.length:Int)
   have hx:=h1 (by omega)
   rw[qg h,e1,qc]
   dsimp only
   simp only[qmi]
   obtain ⟨c2,who2,hc2,hw2,e2⟩:=qb0n hX N n hN (fun v0_0 v0_1 v0_2 v0_3 v0_4 v0_5 v0_6=>ql6 (DD X N) n (qdc (DD X N) n K m) K v0_0 v0_1 v0_2 v0_3 v0_4 v0_5 v0_6) a (i:Int) x r s L hx (6 * i) (by omega) n 0 c1 who hc1 (by omega) (by omega) hw
   rw[show ((0:Nat):Int)=0 from rfl] at e2
   obtain ⟨who3,hw3,e3⟩:=qbzw N n hN hn K a ha r s L hL m (i+1) c2 who2 hc2 (by omega) (by omega) ⟨by have:=hw2.1;omega,hw2.2⟩
   refine ⟨who3,hw3,Eq.trans e2 ?_⟩
   simp only[ql6]
   rw[qs (by omega)]
   exact e3
  ·rw[qh h]
   exact ⟨who,⟨by have:=hw.1;omega,hw.2⟩,rfl⟩
theorem qbxr (hn:W+4≤n) (a:List Int) (ha:a.length≤1048576):∃ (r:qm) (L:List (List Op3)) (who:List Int),RightR r∧OpsOk L∧qbfg L who 720∧qpo (DD X n) a=some ((r,L,who,()),()):=by
 obtain ⟨n,rfl⟩:∃ k,n=k+1:=⟨n - 1,by omega⟩
 have hW:=qbf
 rw[qbc7 hX]
 simp only[qpl,qps,qm2]
 obtain ⟨c,hc,e1⟩:=qb3f hX (n:=n) (by omega) a ha
 obtain ⟨r,c1,hr,_,hc1,e2⟩:=qbqm hX (n:=n) (by omega) hc
 obtain ⟨L,c2,hc2,hL,e3⟩:=qbza hX (n:=n) (by omega) hc1
 rw[e1,qc,e2,qc]
 dsimp only
 rw[e3,qc]
 dsimp only
 have hlong:∃ k:Int,60≤k∧k≤120∧q2m (DD X n) a 60 120=some ((k,()),()):=by
  obtain ⟨n,rfl⟩:∃ k,n=k+1:=⟨n - 1,by omega⟩
  rw[qbqv hX]
  simp only[q3g,qbcv]
  have ht:Int.tdiv (a.length:Int) 4=(a.length:Int) / 4:=Int.tdiv_eq_ediv_of_nonneg (by omega)
  rw[ht,qo (show -9223372036854775808≤(a.length:Int) / 4 by omega) (by omega),qo (by omega) (by omega)]
  by_cases h:60+(a.length:Int) / 4>120
  ·rw[qg h];exact ⟨120,by omega,by omega,rfl⟩
  ·rw[qh h];exact ⟨_,by omega,by omega,rfl⟩
 obtain ⟨k,hk0,hk1,e4⟩:=hlong
 obtain ⟨x,c3,h1,_,hc3,e5⟩:=qj8 hX (n:=n) (by omega) hc2 k
 have hx:=h1 (by omega)
 rw[e4,qc]
 dsimp only
 rw[e5,qc]
 dsimp only
 obtain ⟨who,hw,e6⟩:=qbzw hX n n (by omega) (by omega) (fun v0_0 v0_1 v0_2 v0_3=>qtw (DD X n) n v0_0 v0_1 v0_2 v0_3) x (by omega) ([],0,()) r L (by have:=hL.n;omega) n 0 c3 [] hc3 (by omega) (by omega) ⟨by simp,fun t h=>by simp at h⟩
 rw[show ((0:Nat):Int)=0 from rfl] at e6
 exact ⟨r,L,who,hr,hL,hw,e6⟩
theorem qbzy (hn:1≤n):q2z (DD X n) dD=some ((true,()),()):=by
 obtain ⟨n,rfl⟩:∃ k,n=k+1:=⟨n - 1,by omega⟩
 rw[qbra hX]
 simp only[q2h,q2n]
 rw[qg (show dD.1=0 from rfl)]
 simp[dD]
theorem qbly (N n:Nat) (hN:1≤N) (K0:Bool→MemT→Option ((Bool×Unit)×Unit)) (K1:MemT→Option ((Bool×Unit)×Unit)) (w:List qgd) (k:Nat) (hk:k≤3):∀ (c i:Nat),i≤k→k - i<c→
  qou (DD X N) n K0 K1 c (i:Int) (w,List.replicate k dD,())=K1 (w,List.replicate k dD,())
 | 0,i,_,h=>by omega
 | c+1,i,h1,h2=>by
  simp only[qou,q2d,List.length_replicate]
  by_cases hi:i<k
  ·have e:(List.replicate k dD).getD i (0,0,[],(0,[],()),())=dD:=by rw[qv (by simpa using hi),List.getElem_replicate]
   rw[qg (by omega),show (decide (0≤(i:Int))&&decide ((i:Int)<(k:Int)))=true by simp;omega,br_t,z12,e,qbzy hX hN,qc]
   dsimp only
   rw[z13,br_f,qs (by omega)]
   exact qbly N n hN K0 K1 w k hk c (i+1) (by omega) (by omega)
  ·rw[qh (by omega)]
theorem qbk9 (N n:Nat) (hN:2≤N) (K0:Bool→Option ((Bool×Unit)×Unit)) (K1:Option ((Bool×Unit)×Unit)) (m:MemT) (hl:m.1.length≤1000) (hw:∀ x∈m.1,Num x):∀ (c i:Nat),i≤m.1.length→m.1.length - i<c→
  qot (DD X N) n K0 K1 c (i:Int) m=K1
 | 0,i,_,h=>by omega
 | c+1,i,h1,h2=>by
  simp only[qot,q3r]
  by_cases hi:i<m.1.length
  ·have hx:=hw _ (z24 hi)
   obtain ⟨N,rfl⟩:∃ k,N=k+1:=⟨N - 1,by omega⟩
   rw[qg (by omega),ix hi,br_t,z12,qv hi,qbqw hX]
   simp only[q2b,qbck]
   rw[qg hx.1,qg hx.2.1,qqd hX (by omega),qc,qc]
   dsimp only
   rw[qck hx.2.2,z13,br_f,qh (by have:=hx.1;omega),qs (by omega)]
   exact qbk9 (N+1) n hN K0 K1 m hl hw c (i+1) (by omega) (by omega)
  ·rw[qh (by omega)]
theorem qbpc (hn:W+3≤n) (w:List qgd) (hw:∀ x∈w,Num x) (hl:w.length=20) (k:Nat) (h1:1≤k) (hk:k≤3):qqf (DD X n) (w,List.replicate k dD,())=some ((true,()),()):=by
 obtain ⟨n,rfl⟩:∃ k,n=k+1:=⟨n - 1,by omega⟩
 have hW:=qbf
 rw[qbth hX]
 simp only[q6k,q56,q0v]
 rw[show ((w.length:Int) != 20)=false by rw[bned,z11 (by omega)];rfl,br_f,qqd hX (by omega),qc]
 dsimp only
 rw[List.length_replicate,qck ⟨by omega,by omega⟩,z13,br_f]
 refine Eq.trans (qbly hX n n (by omega) _ _ w k hk n 0 (Nat.zero_le _) (by omega)) ?_
 simp only[qx6,qy0]
 refine Eq.trans (qbk9 hX n n (by omega) _ _ _ (by dsimp only;omega) hw n 0 (Nat.zero_le _) (by dsimp only;omega)) ?_
 rfl
theorem qbpg (N n:Nat) (hN:4≤N) (K0:Int→Bool→ThT→Option ((Bool×Unit)×Unit)) (K1:Int→ThT→Option ((Bool×Unit)×Unit)) (z:Int) (x:ThT) (hl:x.1.length≤1000) (ho:∀ o∈x.1,opOk o=true):∀ (c i:Nat),i≤x.1.length→x.1.length - i<c→
  qkt (DD X N) n K0 K1 c z (i:Int) x=K1 z x
 | 0,i,_,h=>by omega
 | c+1,i,h1,h2=>by
  simp only[qkt,qvc]
  by_cases hi:i<x.1.length
  ·have hx:=ho _ (z24 hi)
   have hop:q06 (DD X N) x.1[i]=some ((true,()),()):=by
    have:=qbyj hX (n:=N) (by omega) x.1[i].1 x.1[i].2.1 x.1[i].2.2.1
    rw[show (x.1[i].1,x.1[i].2.1,x.1[i].2.2.1,())=x.1[i] from rfl,hx] at this
    exact this
   rw[qg (by omega),ix hi,br_t,z12,qv hi,hop,qc]
   dsimp only
   rw[z13,br_f,qs (by omega)]
   exact qbpg N n hN K0 K1 z x hl ho c (i+1) (by omega) (by omega)
  ·rw[qh (by omega)]
theorem qbsq (hn:W+5≤n) (ops:List Op3) (hl:ops.length≤4) (ho:∀ o∈ops,opOk o=true) (k:Int):qww (DD X n) (ops,0,false,[],[],()) k=some ((true,()),()):=by
 obtain ⟨n,rfl⟩:∃ k,n=k+1:=⟨n - 1,by omega⟩
 have hW:=qbf
 obtain ⟨p,hp⟩:∃ p,n=p+1:=⟨n - 1,by omega⟩
 rw[qbl4 hX]
 simp only[qwk,qxm,qs6]
 rw[qh (by omega),qqd hX (by omega),qc]
 dsimp only
 rw[qck ⟨by omega,by omega⟩]
 simp only[z13,z20,br_f,Bool.not_false,br_t,List.length_nil]
 rw[z10 (show ¬ wrap .i64 (((0:Nat):Int)+((0:Nat):Int))>0 by decide),z10 (show ¬ ((0:Nat):Int)>12 by decide),z10 (show ¬ ((0:Nat):Int)>2 by decide),z20,z20,br_f]
 refine Eq.trans (qbpg hX n n (by omega) _ _ k (ops,0,false,[],[],()) (by dsimp only;omega) ho n 0 (Nat.zero_le _) (by dsimp only;omega)) ?_
 simp only[qq9,qta]
 rw[hp]
 simp only[qod,qu1,List.length_nil]
 rw[qh (by decide)]
 simp only[qqk,qsd]
 simp only[qnx,qu0,List.length_nil]
 rw[qh (by decide)]
 rfl
theorem qbx5 (hn:3≤n) {m:Mach} (hc:m.2.2.2.1=[]) {t:Int} (t0:0≤t) (t1:t<m.2.1.length) (hp:(thr m t).2.1=0) (ho:(thr m t).2.2.1=false):qw1 (DD X n) m t=some ((true,()),()):=by
 obtain ⟨n,rfl⟩:∃ k,n=k+2:=⟨n - 2,by omega⟩
 obtain ⟨p,hpn⟩:∃ p,n=p+1:=⟨n - 1,by omega⟩
 have hx:m.2.1.getD t.toNat ([],0,false,[],[],())=thr m t:=rfl
 have hlast:q2g (DD X (n+1)) m t=some ((-1,()),()):=by
  rw[qbq7 hX]
  simp only[q2p,q3j,qxc]
  rw[hc,hpn]
  simp only[qr2,q04,List.length_nil]
  rw[qh (by rw[qo (by decide) (by decide)];decide)]
  rfl
 rw[qbj8 hX]
 simp only[qwf,qv4,qs1]
 rw[ixn t0 t1,br_t,hlast,qc,hx]
 dsimp only
 simp only[qnw,qug]
 rw[hc,qh (by simp)]
 simp only[q11]
 rw[hp,ho]
 rfl
theorem qbld (N n:Nat) (hN:W+5≤N) (K0:Bool→Option ((Bool×Unit)×Unit)) (K1:Option ((Bool×Unit)×Unit)) {r:qm} {L:List (List Op3)} (hL:OpsOk L):∀ (c i:Nat),i≤L.length→L.length - i<c→
  qjq (DD X N) n K0 K1 c (i:Int) (qb4 r L)=K1
 | 0,i,_,h=>by omega
 | c+1,i,h1,h2=>by
  have hln:=hL.n
  have hthl:(qb4 r L).2.1.length=L.length:=by unfold qb4;simp
  simp only[qjq,qtl,hthl]
  by_cases hi:i<L.length
  ·have hx:=hL.ops _ (z24 hi)
   have e:thr (qb4 r L) (i:Int)=(L[i],0,false,[],[],()):=by
    unfold thr qb4
    dsimp only
    rw[z12,qv (by simpa using hi),List.getElem_map]
   have e2:(qb4 r L).2.1.getD i ([],0,false,[],[],())=(L[i],0,false,[],[],()):=by
    unfold thr at e
    rw[z12] at e
    exact e
   rw[qg (by omega),ixn (by omega) (by omega),br_t,z12,e2,qbsq hX (by omega) _ hx.1 hx.2,qc]
   dsimp only
   rw[z13,br_f,qbx5 hX (by omega) rfl (by omega) (by rw[hthl];omega) (by rw[e]) (by rw[e]),qc]
   dsimp only
   rw[z13,br_f,qs (by omega)]
   exact qbld N n hN K0 K1 hL c (i+1) (by omega) (by omega)
  ·rw[qh (by omega)]
theorem qbsx (hn:W+6≤n) {r:qm} (hr:RightR r) {L:List (List Op3)} (hL:OpsOk L):qve (DD X n) (qb4 r L)=some ((true,()),()):=by
 obtain ⟨n,rfl⟩:∃ k,n=k+2:=⟨n - 2,by omega⟩
 obtain ⟨p,hpn⟩:∃ p,n=p+1:=⟨n - 1,by omega⟩
 have hW:=qbf
 have hln:=hL.n
 have hthl:(qb4 r L).2.1.length=L.length:=by unfold qb4;simp
 have hdl:(qb4 r L).1.2.1.length=L.length:=by unfold qb4;simp
 have hcalls:q0l (DD X (n+1)) (qb4 r L)=some ((true,()),()):=by
  rw[qbm3 hX]
  simp only[qzv,q0c,qub]
  rw[hpn]
  simp only[qpz,qwc]
  rw[qh (by simp[qb4])]
  simp only[qss,qu4,qjj,qwv]
  rw[qh (by simp[qb4])]
  simp[q35,qb4]
 rw[qbi7 hX]
 simp only[qun,quv,qqp]
 have hm:=qbpc hX (n:=n+1) (by omega) ((qr7 r).map fun v=>((v,0,0,()):qgd)) (fun x hx=>by
  obtain ⟨v,hv,rfl⟩:=z37.1 hx
  unfold qr7 at hv
  obtain ⟨q,hq,rfl⟩:=z37.1 hv
  have:=qbrs hr (q:Int) (by have:=List.mem_range.1 hq;omega)
  exact ⟨rfl,rfl,this.1,by dsimp only;omega⟩) (by rw[z49,qja]) L.length hln.1 hln.2
 refine Eq.trans (congrArg (fun z=>qd z _) hm) ?_
 rw[qc]
 dsimp only
 rw[z13,z20,hdl,hthl,show ((L.length:Int) != (L.length:Int))=false by simp,br_f,qqd hX (by omega),qc]
 dsimp only
 rw[show (qb4 r L).2.2.1=0 from rfl,qck ⟨by decide,by decide⟩,z13,br_f,show (qb4 r L).2.2.2.2.2.1=r from rfl,qbfa hX (by omega) hr,qc]
 dsimp only
 rw[z13,br_f,hcalls,qc]
 dsimp only
 rw[z13,br_f]
 refine Eq.trans (qbld hX (n+1) (n+1) (by omega) _ _ hL (n+1) 0 (Nat.zero_le _) (by omega)) ?_
 rfl
theorem qbd0 (D:Den ctx) (n:Nat) (K:Int→MemT→MemT→Option ((MemT×Bool×Unit)×Unit)) (a:Int) (ws:List Int) (hl:ws.length≤1000) (z:MemT) (d:List qis×Unit):∀ (c i:Nat),i≤ws.length→ws.length - i<c→
  qmw D n K c a (i:Int) z ((ws.take i).map (fun v=>((v,0,0,()):qgd)),d) ws=K a z (ws.map (fun v=>((v,0,0,()):qgd)),d)
 | 0,i,_,h2=>by omega
 | c+1,i,h0,h2=>by
  have hb:=qbi
  simp only[qmw,qzq]
  by_cases hi:i<ws.length
  ·have ih:=qbd0 D n K a ws hl z d c (i+1) (by omega) (by omega)
   rw[qg (by omega),ix hi,br_t,z12,qv hi,qs (by omega)]
   rw[qg (by rw[z49,z27];omega)]
   rw[z32 hi,List.map_append] at ih
   exact ih
  ·rw[qh (by omega),show ws.take i=ws from z42 (by omega)]
theorem qbcr (N n:Nat) (hN:1≤N) (K:Bool→Mach→Mach→Option ((Mach×Bool×Unit)×Unit)) (L:List (List Op3)) (hl:L.length≤1000) (h1:∀ ops∈L,ops.length≤1000) (b:Bool) (z:Mach) (a:MemT) (e:Int×List qcg×List Int×qm×Unit):∀ (c i:Nat),i≤L.length→L.length - i<c→
  qi2 (DD X N) n K c L b (i:Int) z (a,(L.take i).map (fun ops=>((ops,0,false,[],[],()):ThT)),e)=K b z (a,L.map (fun ops=>((ops,0,false,[],[],()):ThT)),e)
 | 0,i,_,h2=>by omega
 | c+1,i,h0,h2=>by
  have hb:=qbi
  simp only[qi2,qrf]
  by_cases hi:i<L.length
  ·have ih:=qbcr N n hN K L hl h1 b z a e c (i+1) (by omega) (by omega)
   have hd:=h1 _ (z24 hi)
   obtain ⟨N,rfl⟩:∃ k,N=k+1:=⟨N - 1,by omega⟩
   rw[qg (by omega),ix hi,br_t,z12,qv hi,qs (by omega),qbic hX]
   simp only[quc,q7a]
   rw[qg (by omega),qc]
   dsimp only
   rw[qg (by rw[z49,z27];omega)]
   rw[z32 hi,List.map_append] at ih
   exact ih
  ·rw[qh (by omega),show L.take i=L from z42 (by omega)]
theorem qbrk (hn:W+8≤n) {r:qm} (hr:RightR r) {L:List (List Op3)} (hL:OpsOk L):qs8 (DD X n) r L=some ((qb4 r L,true,()),()):=by
 obtain ⟨n,rfl⟩:∃ k,n=k+2:=⟨n - 2,by omega⟩
 have hW:=qbf
 have hb:=qbi
 have hln:=hL.n
 have hrl:=hr.len
 have hmem:q2v (DD X (n+1)) r (L.length:Int)=some (((qb4 r L).1,true,()),()):=by
  rw[qbqy hX]
  simp only[q3q,q2c,qvv]
  obtain ⟨ws,w1,w2,w3⟩:=qb2e hX (n:=n) (by omega) hr
  have hws:ws=qr7 r:=qblo w1 (qja r) (fun p hp=>by rw[w2 p hp,qbed r hp];rfl)
  rw[w3,qc,hws]
  dsimp only
  refine Eq.trans (qbd0 hX (DD X n) n _ (L.length:Int) (qr7 r) (by rw[qja];omega) ([],[],()) ([],()) n 0 (Nat.zero_le _) (by rw[qja];omega)) ?_
  simp only[q5u]
  rw[qqd hX (by omega),qc]
  dsimp only
  rw[qck ⟨by omega,by omega⟩,br_t,show (decide (0≤(L.length:Int))&&decide ((L.length:Int)≤(L.length:Int))&&decide ((L.length:Int)≤(qb7:Int)))=true by simp;omega,br_t]
  have hm:=qbpc hX (n:=n) (by omega) ((qr7 r).map fun v=>((v,0,0,()):qgd)) (fun x hx=>by
   obtain ⟨v,hv,rfl⟩:=z37.1 hx
   unfold qr7 at hv
   obtain ⟨q,hq,rfl⟩:=z37.1 hv
   have:=qbrs hr (q:Int) (by have:=List.mem_range.1 hq;omega)
   exact ⟨rfl,rfl,this.1,by dsimp only;omega⟩) (by rw[z49,qja]) L.length hln.1 hln.2
  rw[z12]
  refine Eq.trans (congrArg (fun z=>qd z _) hm) ?_
  rw[qc]
  dsimp only
  rw[z13,br_f]
  rfl
 have hcp:q3d (DD X (n+1)) r=some ((r,()),()):=by
  rw[qbre hX]
  simp only[q2j,qbcq]
  rw[qg (by omega)]
  rfl
 rw[qbgn hX]
 simp only[qsk,qs7,qpd]
 rw[hmem,qc,hcp,qc]
 dsimp only
 refine Eq.trans (qbcr hX (n+1) (n+1) (by omega) _ L (by omega) (fun ops h=>by have:=(hL.ops ops h).1;omega) true (([],[],()),[],0,[],[],([],0,()),()) (qb4 r L).1 (0,[],[],r,()) (n+1) 0 (Nat.zero_le _) (by omega)) ?_
 simp only[qwe]
 have hm:=qbsx hX (n:=n+1) (by omega) hr hL
 rw[z13,br_f]
 refine Eq.trans (congrArg (fun z=>qd z _) hm) ?_
 rw[qc]
 dsimp only
 rw[z13,br_f]
 rfl
end
end Go.G

namespace Go.G
set_option maxRecDepth 100000
open Go Go.V Go.Proofs
def repF (l:List qcg) (r:qm) (ks:List Int):qm:=ks.foldl (fun s k=>qch s (getC l k).2.1 (getC l k).2.2.2.2.2.1.1) r
theorem qbeb (l:List qcg) (r:qm) (ks:List Int) (k:Int):repF l r (ks++[k])=qch (repF l r ks) (getC l k).2.1 (getC l k).2.2.2.2.2.1.1:=by
 unfold repF;rw[List.foldl_append];rfl
theorem qbut {l:List qcg} {r:qm} {ks:List Int} {s:qm} (h:RepR l r ks s):s=repF l r ks:=by
 induction h with
 | nil=>rfl
 | snoc h1 h2 h3 ih=>rw[qbeb,←ih]
theorem qby1 {l:List qcg} {r:qm} {ks:List Int} {s:qm} (h:RepR l r ks s):∀ (i:Nat) (hi:i<ks.length),RightR (repF l r (ks.take i))∧Out (repF l r (ks.take i)) (getC l ks[i]).2.1 (getC l ks[i]).2.2.2.2.2.1.1 (getC l ks[i]).2.2.2.2.2.1.2.1:=by
 induction h with
 | nil=>intro i hi;simp at hi
 | @snoc s ks k h1 h2 h3 ih=>
  intro i hi
  by_cases e:i<ks.length
  ·have:=ih i e
   rw[List.take_append_of_le_length (by omega),List.getElem_append_left e]
   exact this
  ·have:i=ks.length:=by rw[z19,List.length_singleton] at hi;omega
   subst this
   have e2:=qbut h1
   rw[List.take_append_of_le_length (Nat.le_refl _),List.take_length,←e2,List.getElem_append_right (Nat.le_refl _)]
   simp only[Nat.sub_self,List.getElem_cons_zero]
   exact ⟨h2,h3⟩
section
variable {X:Ext} (hX:XOk X) {n:Nat}
include hX
theorem qbux (N n:Nat) (hN:W+7≤N) (K:Bool→qm→qm→Option ((qm×Bool×Unit)×Unit)) {m:Mach} (I:Inv m) (hl:m.2.2.2.2.1.length≤1000) {R:qm} (hR:RepR m.2.2.2.1 m.2.2.2.2.2.1 m.2.2.2.2.1 R) (z:qm):∀ (c i:Nat),i≤m.2.2.2.2.1.length→m.2.2.2.2.1.length - i<c→
  qml (DD X N) n K c true m.2.2.2.2.1 (m.2.2.2.2.1.length:Int) (i:Int) m z (repF m.2.2.2.1 m.2.2.2.2.2.1 (m.2.2.2.2.1.take i))=K true z R
 | 0,i,_,h2=>by omega
 | c+1,i,h0,h2=>by
  simp only[qml,q0u]
  by_cases hi:i<m.2.2.2.2.1.length
  ·have ih:=qbux N n hN K I hl hR z c (i+1) (by omega) (by omega)
   have hk:=I.call.ordr _ (z24 hi)
   have hop:=(I.call.c _ hk.1 hk.2.1).op
   obtain ⟨r1,r2⟩:=qby1 hR i hi
   have hd:List.getD m.2.2.2.1 (Int.toNat m.2.2.2.2.1[i]) (0,(0,0,0,()),0,0,0,(0,[],()),())=getC m.2.2.2.1 m.2.2.2.2.1[i]:=rfl
   rw[qg (by omega),ix hi,br_t,z12,qv hi,ixn hk.1 hk.2.1,br_t,br_t,hd]
   generalize hs:repF m.2.2.2.1 m.2.2.2.2.2.1 (m.2.2.2.2.1.take i)=s at *
   have ha:=qbpd hX (n:=N) (by omega) r1 hop r2
   have hf:=qbw4 hX (n:=N) (by omega) r1 hop r2
   rw[show ((s.1,s.2):qm)=s from rfl]
   refine Eq.trans (congrArg (fun z=>qd z _) ha) ?_
   rw[qc]
   refine Eq.trans (congrArg (fun z=>qd z _) hf) ?_
   rw[qc]
   dsimp only
   rw[qs (by omega)]
   rw[z32 hi,qbeb,hs] at ih
   exact ih
  ·rw[qh (by omega),show m.2.2.2.2.1.take i=m.2.2.2.2.1 from z42 (by omega),←qbut hR]
theorem qb06 (hn:W+11≤n) {m:Mach} (I:Inv m) (ht:m.2.2.1≤100000) {R:qm} (hR:RepR m.2.2.2.1 m.2.2.2.2.2.1 m.2.2.2.2.1 R):q3n (DD X n) m=some ((R,true,()),()):=by
 obtain ⟨n,rfl⟩:∃ k,n=k+1:=⟨n - 1,by omega⟩
 have hW:=qbf
 have hol:=(qrh hX I).o
 rw[qbql hX]
 simp only[q3o,q19,qx1]
 rw[qtt hX (by omega) I ht,qc]
 dsimp only
 rw[z13,br_f,q4y hX (by omega) I.first,qc]
 dsimp only
 exact qbux hX n n (by omega) _ I hol hR ([],0,()) n 0 (Nat.zero_le _) (by omega)
end
theorem qbx7 {r:qm} (hr:RightR r) {L:List (List Op3)} (hL:OpsOk L) {who:List Int} (hw:qbfg L who 720):Inv (qt7 (qb4 r L) who)∧(qt7 (qb4 r L) who).2.2.1≤720∧(qt7 (qb4 r L) who).2.1.length=L.length∧who.length≤2000∧
  (∀ t∈who,0≤t∧t<(qb4 r L).2.1.length)∧(qb4 r L).2.2.1+who.length≤100000:=by
 have hthl:(qb4 r L).2.1.length=L.length:=by unfold qb4;simp
 have hwl:=hw.1
 have hall:∀ t∈who,0≤t∧t<(qb4 r L).2.1.length:=fun t h=>by rw[hthl];exact hw.2 t h
 have hX:XOk qblv:=qbte
 obtain ⟨h1,h2,_⟩:=qb12 hX who (qbbj hr hL) hall
 have e:(qb4 r L).2.2.1=0:=rfl
 refine ⟨h1,by omega,by rw[qb2d,hthl],by omega,hall,by omega⟩
end Go.G

/- FnScans holds: each scan of a drawn schedule tells all rows as they were together, at one moment. No condition beyond the given statement's. -/
namespace Go.G
set_option linter.unusedVariables false
set_option linter.unusedSimpArgs false
set_option linter.unusedSectionVars false
set_option maxRecDepth 100000
open Go Go.V Go.Proofs

theorem qb2a {r:qm} {o:Op3} {code:Int} {list:List Int} (h:Out r o code list) (e:o.1=7):code=0∧list=r.1:=by
 cases h<;>first | exact ⟨rfl,rfl⟩ | omega
theorem qby8 {r:qm} {o:Op3} {code:Int} {list:List Int} (h:Out r o code list) (e:o.1=6):list=[many o.2.1 r.1]:=by
 cases h<;>first | rfl | omega
section
variable {X:Ext} (hX:XOk X) {n:Nat}
include hX
theorem qbwp (N n:Nat) (hN:W+8≤N) (K0:Bool→Mach→qm→Option ((Bool×Unit)×Unit)) (K1:Mach→qm→Option ((Bool×Unit)×Unit)) {m:Mach} (I:Inv m) (hl:m.2.2.2.2.1.length≤1000) {R:qm} (hR:RepR m.2.2.2.1 m.2.2.2.2.2.1 m.2.2.2.2.1 R):∀ (c i:Nat),i≤m.2.2.2.2.1.length→m.2.2.2.2.1.length - i<c→
  qjk (DD X N) n K0 K1 c (i:Int) m (repF m.2.2.2.1 m.2.2.2.2.2.1 (m.2.2.2.2.1.take i))=K1 m R
 | 0,i,_,h2=>by omega
 | c+1,i,h0,h2=>by
  simp only[qjk,qwr]
  by_cases hi:i<m.2.2.2.2.1.length
  ·have ih:=qbwp N n hN K0 K1 I hl hR c (i+1) (by omega) (by omega)
   have hk:=I.call.ordr _ (z24 hi)
   have hop:=(I.call.c _ hk.1 hk.2.1).op
   obtain ⟨r1,r2⟩:=qby1 hR i hi
   have hd:List.getD m.2.2.2.1 (Int.toNat m.2.2.2.2.1[i]) (0,(0,0,0,()),0,0,0,(0,[],()),())=getC m.2.2.2.1 m.2.2.2.2.1[i]:=rfl
   rw[qg (by omega),ix hi,br_t,z12,qv hi,ixn hk.1 hk.2.1,br_t,hd]
   rw[z32 hi,qbeb] at ih
   generalize hs:repF m.2.2.2.1 m.2.2.2.2.2.1 (m.2.2.2.2.1.take i)=s at *
   have hl4:=r1.len
   have hf:=qbw4 hX (n:=N) (by omega) r1 hop r2
   generalize hc:getC m.2.2.2.1 m.2.2.2.2.1[i]=q at *
   have hf2:qkn (DD X N) s q.2.1 q.2.2.2.2.2.1=some ((qch s q.2.1 q.2.2.2.2.2.1.1,()),()):=hf
   have fin:(qd (qkn (DD X N) s q.2.1 q.2.2.2.2.2.1) fun b=>qjk (DD X N) n K0 K1 c (wrap .i64 ((i:Int)+1)) m (Prod.fst (Prod.fst (Prod.fst b)),Prod.snd (Prod.fst (Prod.fst b))))=K1 m R:=by
    rw[hf2,qc]
    dsimp only
    rw[qs (by omega)]
    exact ih
   by_cases k7:q.2.1.1=7
   ·obtain ⟨e1,e2⟩:=qb2a r2 k7
    rw[qg k7,e1,show ((0:Int) != 0)=false by decide,br_f,e2,qbj9 hX (by omega) _ (by omega),qc]
    dsimp only
    rw[z13,br_f,qh (by omega)]
    exact fin
   ·rw[qh k7]
    by_cases k6:q.2.1.1=6
    ·have e2:=qby8 r2 k6
     rw[qg k6,e2]
     rw[show (([many q.2.1.2.1 s.1].length:Int) != 1)=false by rfl,br_f,show (decide ((0:Nat)≤0)&&decide ((0:Int)<([many q.2.1.2.1 s.1].length:Int)))=true by rfl,br_t,qbcs hX (by omega) s (by omega),qc]
     dsimp only
     rw[show (List.getD [many q.2.1.2.1 s.1] (Int.toNat 0) 0 != many q.2.1.2.1 s.1)=false by rw[show List.getD [many q.2.1.2.1 s.1] (Int.toNat 0) 0=many q.2.1.2.1 s.1 from rfl,bned,z11 rfl];rfl,br_f]
     exact fin
    ·rw[qh k6]
     exact fin
  ·rw[qh (by omega),show m.2.2.2.2.1.take i=m.2.2.2.2.1 from z42 (by omega),←qbut hR]
end
theorem qbv0 (a:List Int):qba6 (DD qblv (W+30)) a=some ((true,()),()):=by
 have hX:XOk qblv:=qbte
 have hW:=qbf
 rw[qbms hX]
 simp only[qzu,qzl]
 rw[qb5p hX (by omega),qc]
 dsimp only
 by_cases hbig:(a.length:Int)>1048576
 ·rw[qg hbig]
 rw[qh hbig]
 obtain ⟨r,L,who,hr,hL,hw,e1⟩:=qbxr hX (n:=W+29) (by omega) a (by omega)
 obtain ⟨I,ht,_,h1,h2,h3⟩:=qbx7 hr hL hw
 have hol:=(qrh hX I).o
 rw[e1,qc]
 dsimp only
 rw[qbz3 hX (by omega) hr hL,qc,qbrk hX (by omega) hr hL,qc]
 dsimp only
 rw[z11 rfl,z13,z20,br_f,qb44 hX (by omega) (qbbj hr hL) who h1 h2 h3,qc]
 dsimp only
 obtain ⟨R,hR1,hR,_⟩:=I.rep
 have hl4:=hR1.len
 simp only[quw]
 refine Eq.trans (qbwp hX (W+29) (W+29) (by omega) _ _ I hol hR (W+29) 0 (Nat.zero_le _) (by omega)) ?_
 simp only[q4q]
 rw[qb06 hX (by omega) I (by omega) hR,qc]
 dsimp only
 rw[br_t,qbj9 hX (by omega) _ (by omega),qc]
 dsimp only
 rw[z11 rfl,z21]
end Go.G
namespace Go.Proofs.YtpmimbgkiindbaaGreat
open Go.ChangeShapes Go.WideShapes Go.ChangeAt Go.RowKit Go.V Go.G
set_option maxRecDepth 100000
theorem fnScans_lifted (os:Os) (started:os.Started) (H:Type) (enc:TypeId×Value→H) :
  ReturnsInHanded {} Tryz.checked os 9 .any (Rows.fnScansSpec.pre6 enc Tryz.prog Tryz.f9 Rows.fnScansRow.domain false) (Rows.fnScansSpec.post enc Tryz.prog Tryz.f9 false true false false):=
 qb0p (X:=qblv) (tb:=4) started Tryz.func9 (by kernel_rfl)
  (ChangeSpec.witness6 (enc:=enc) (C:=Tryz.checked) false ⟨#[],Tryz.f9.params.map fun t=>((Tryz.prog.info? t).bind (·.zero)).getD .nilIface,[]⟩ 8 (by kernel_rfl) (by kernel_rfl) (by kernel_rfl) (by kernel_rfl))
  ⟨rfl,rfl,trivial⟩ (by kernel_rfl) (by kernel_rfl) (by kernel_rfl) rfl
  (fun ds h=>by
   match ds,h with
   | [d0],_=>exact ⟨rfl,rfl,rfl⟩)
  (fun a wa=>⟨W+30,((true,()),()),qbv0 a.1,fun h Pr Gs us k=>by
   obtain ⟨v,vs,rfl,⟨c,r,rfl⟩,e⟩:=k
   obtain rfl:vs=[]:=e
   simp only[Rep] at r
   subst r
   rfl⟩)
theorem fnScans_holds:Rows.FnScansSaid:=
 OpenClaim.holds_of_wide 9 Tryz.f9 rfl rfl rfl rfl rfl rfl rfl ⟨rfl,rfl,rfl,rfl,rfl⟩ rfl rfl rfl rfl rfl (by kernel_rfl) Tryz.func9 (by kernel_rfl)
  (of_decide_eq_true (by kernel_rfl)) (by unfold Func.isWrapper;first | (rw[z6 (by decide +kernel)];kernel_rfl) | (rw[z5 (by decide +kernel)];exact ⟨rfl,rfl⟩))
  (fun os started H enc _=>fnScans_lifted os started H enc)
#print axioms fnScans_holds
end Go.Proofs.YtpmimbgkiindbaaGreat


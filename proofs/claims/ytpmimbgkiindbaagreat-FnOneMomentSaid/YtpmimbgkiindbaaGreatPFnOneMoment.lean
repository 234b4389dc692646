/- FnOneMoment holds: whatever schedule is drawn, each op comes of the table as it was at one moment. No condition beyond the given statement's. -/
import Derived.Test.YtpmimbgkiindbaaGreatAPFnOneMoment3
set_option linter.unusedVariables false
set_option linter.unusedSimpArgs false
set_option linter.unusedSectionVars false
open Go.IntKind (wrap)
namespace Go.G
set_option maxRecDepth 100000
open Go Go.V Go.Proofs
section
variable {X:Ext} (hX:XOk X) {n:Nat}
include hX
theorem qb0d (N n:Nat) (hN:W+2≤N) (hN6:6≤N) (K:Int→Cur→List (List Op3)→List Op3→Option ((List (List Op3)×Unit)×Cur×Unit)) (z:Int) (out:List (List Op3)):∀ (m i:Nat) (c:Cur) (l:List Op3),qhm c→i≤4→4 - i<m→l.length=i→(∀ o∈l,opOk o=true)→
  ∃ (c':Cur) (l':List Op3),qhm c'∧l'.length≤4∧(∀ o∈l',opOk o=true)∧qjv (DD X N) n K m z (i:Int) c out l=K z c' out l'
 | 0,_,_,_,_,_,h,_,_=>by omega
 | m+1,i,c,l,hc,hi,hf,hl,ho=>by
  have hW:=qbb
  have hb:=qbg
  simp only[qjv,qtv]
  obtain ⟨x,c1,h1,_,hc1,e1⟩:=qkf hX (n:=N) (by omega) hc 4
  obtain ⟨x0,x1⟩:=h1 (by omega)
  rw[e1,qc]
  dsimp only
  rw[qo (by omega) (by omega)]
  by_cases h:(i:Int)<1+x
  ·obtain ⟨o,c2,hc2,hoo,e2⟩:=qbsp hX (n:=N) (by omega) hc1
   rw[qg h,e2,qc]
   dsimp only
   rw[qg (by omega),qr (by omega)]
   exact qb0d N n hN hN6 K z out m (i+1) c2 (l++[o]) hc2 (by omega) (by omega) (by rw[z19,List.length_singleton];omega) (fun p hp=>by
    rcases z18.1 hp with q | q
    ·exact ho p q
    ·rw[z23] at q;rw[q];exact hoo)
  ·rw[qh h]
   exact ⟨c1,l,hc1,by omega,ho,rfl⟩
theorem qb1j (N n:Nat) (hN:W+2≤N) (hn:W≤n) (K:Cur→List (List Op3)→Option ((List (List Op3)×Unit)×Cur×Unit)):∀ (m i:Nat) (c:Cur) (L:List (List Op3)),qhm c→i≤3→3 - i<m→L.length=i→(∀ ops∈L,ops.length≤4∧∀ o∈ops,opOk o=true)→
  ∃ (c':Cur) (L':List (List Op3)),qhm c'∧OpsOk L'∧qex (DD X N) n K m (i:Int) c L=K c' L'
 | 0,_,_,_,_,_,h,_,_=>by omega
 | m+1,i,c,L,hc,hi,hf,hl,ho=>by
  have hW:=qbb
  have hb:=qbg
  simp only[qex,qst]
  obtain ⟨x,c1,h1,_,hc1,e1⟩:=qkf hX (n:=N) (by omega) hc 3
  obtain ⟨x0,x1⟩:=h1 (by omega)
  rw[e1,qc]
  dsimp only
  rw[qo (by omega) (by omega)]
  by_cases h:(i:Int)<1+x
  ·rw[qg h]
   simp only[qre]
   obtain ⟨c2,l,hc2,hl4,hlo,e2⟩:=qb0d hX N n hN (by omega) (fun v0_0 v0_1 v0_2 v0_3=>qpa (DD X N) n (qex (DD X N) n K m) K v0_0 v0_1 v0_2 v0_3) (i:Int) L n 0 c1 [] hc1 (by omega) (by omega) rfl (fun o h=>by simp at h)
   rw[show ((0:Nat):Int)=0 from rfl] at e2
   obtain ⟨c3,L',hc3,hL',e3⟩:=qb1j N n hN hn K m (i+1) c2 (L++[l]) hc2 (by omega) (by omega) (by rw[z19,List.length_singleton];omega) (fun p hp=>by
    rcases z18.1 hp with q | q
    ·exact ho p q
    ·rw[z23] at q;rw[q];exact ⟨hl4,hlo⟩)
   refine ⟨c3,L',hc3,hL',?_⟩
   refine Eq.trans e2 ?_
   simp only[qpa]
   rw[qg (by omega),qr (by omega)]
   exact e3
  ·rw[qh h]
   exact ⟨c1,L,hc1,⟨by omega,ho⟩,rfl⟩
theorem qb0g (hn:W+3≤n) {c:Cur} (hc:qhm c):∃ (L:List (List Op3)) (c':Cur),qhm c'∧OpsOk L∧qut (DD X n) c=some ((L,()),(c',())):=by
 obtain ⟨n,rfl⟩:∃ k,n=k+1:=⟨n - 1,by omega⟩
 have hW:=qbb
 rw[qbjh hX]
 simp only[qvj,quw,qrb]
 obtain ⟨c',L,h1,h2,e⟩:=qb1j hX n n (by omega) (by omega) (fun v0_0 v0_1=>qyr (DD X n) n v0_0 v0_1) n 0 c [] hc (by omega) (by omega) rfl (fun o h=>by simp at h)
 rw[show ((0:Nat):Int)=0 from rfl] at e
 exact ⟨L,c',h1,h2,e⟩
def qbf8 (L:List (List Op3)) (who:List Int) (k:Nat):Prop:=who.length≤k∧∀ t∈who,0≤t∧t<L.length
theorem qb1u (N n:Nat) (hN:W+2≤N) (K:Int→Int→qm→qm→List (List Op3)→List Int→Cur→Option ((qm×List (List Op3)×List Int×Unit)×Unit)) (a b t:Int) (r s:qm) (L:List (List Op3)) (ht:0≤t∧t<L.length) (k:Nat) (hk:k≤1000):∀ (m i:Nat) (c:Cur) (who:List Int),qhm c→i≤6→6 - i<m→qbf8 L who (k+i)→
  ∃ (c':Cur) (who':List Int),qhm c'∧qbf8 L who' (k+6)∧qhu (DD X N) n K m a b t (i:Int) r s L who c=K a b r s L who' c'
 | 0,_,_,_,_,_,h,_=>by omega
 | m+1,i,c,who,hc,hi,hf,hw=>by
  have hW:=qbb
  have hb:=qbg
  simp only[qhu,qoc]
  obtain ⟨x,c1,h1,_,hc1,e1⟩:=qkf hX (n:=N) (by omega) hc 6
  obtain ⟨x0,x1⟩:=h1 (by omega)
  rw[e1,qc]
  dsimp only
  rw[qo (by omega) (by omega)]
  have hwl:=hw.1
  by_cases h:(i:Int)<1+x
  ·rw[qg h,qg (by omega),qr (by omega)]
   exact qb1u N n hN K a b t r s L ht k hk m (i+1) c1 (who++[t]) hc1 (by omega) (by omega) ⟨by rw[z19,List.length_singleton];omega,fun u hu=>by
    rcases z18.1 hu with q | q
    ·exact hw.2 u q
    ·rw[z23] at q;rw[q];exact ht⟩
  ·rw[qh h]
   exact ⟨c1,who,hc1,⟨by omega,hw.2⟩,rfl⟩
theorem qb01 (N n:Nat) (hN:W+2≤N) (hn:W≤n) (K:qm→qm→List (List Op3)→List Int→Option ((qm×List (List Op3)×List Int×Unit)×Unit)) (a:Int) (ha:a≤120) (r s:qm) (L:List (List Op3)) (hL:0<L.length∧L.length≤3):∀ (m i:Nat) (c:Cur) (who:List Int),qhm c→i≤120→120 - i<m→qbf8 L who (6 * i)→
  ∃ (who':List Int),qbf8 L who' 720∧qdd (DD X N) n K m a (i:Int) r s L who c=K r s L who'
 | 0,_,_,_,_,_,h,_=>by omega
 | m+1,i,c,who,hc,hi,hf,hw=>by
  have hW:=qbb
  simp only[qdd,qnu]
  by_cases h:(i:Int)<a
  ·obtain ⟨x,c1,h1,_,hc1,e1⟩:=qkf hX (n:=N) (by omega) hc (L.length:Int)
   have hx:=h1 (by omega)
   rw[qg h,e1,qc]
   dsimp only
   simp only[qmn]
   obtain ⟨c2,who2,hc2,hw2,e2⟩:=qb1u hX N n hN (fun v0_0 v0_1 v0_2 v0_3 v0_4 v0_5 v0_6=>qmb (DD X N) n (qdd (DD X N) n K m) K v0_0 v0_1 v0_2 v0_3 v0_4 v0_5 v0_6) a (i:Int) x r s L hx (6 * i) (by omega) n 0 c1 who hc1 (by omega) (by omega) hw
   rw[show ((0:Nat):Int)=0 from rfl] at e2
   obtain ⟨who3,hw3,e3⟩:=qb01 N n hN hn K a ha r s L hL m (i+1) c2 who2 hc2 (by omega) (by omega) ⟨by have:=hw2.1;omega,hw2.2⟩
   refine ⟨who3,hw3,Eq.trans e2 ?_⟩
   simp only[qmb]
   rw[qr (by omega)]
   exact e3
  ·rw[qh h]
   exact ⟨who,⟨by have:=hw.1;omega,hw.2⟩,rfl⟩
theorem qbyz (hn:W+4≤n) (a:List Int) (ha:a.length≤1048576):∃ (r:qm) (L:List (List Op3)) (who:List Int),RightR r∧OpsOk L∧qbf8 L who 720∧qpv (DD X n) a=some ((r,L,who,()),()):=by
 obtain ⟨n,rfl⟩:∃ k,n=k+1:=⟨n - 1,by omega⟩
 have hW:=qbb
 rw[qbdy hX]
 simp only[qps,qp0,qm7]
 obtain ⟨c,hc,e1⟩:=qb4k hX (n:=n) (by omega) a ha
 obtain ⟨r,c1,hr,_,hc1,e2⟩:=qbrp hX (n:=n) (by omega) hc
 obtain ⟨L,c2,hc2,hL,e3⟩:=qb0g hX (n:=n) (by omega) hc1
 rw[e1,qc,e2,qc]
 dsimp only
 rw[e3,qc]
 dsimp only
 have hlong:∃ k:Int,60≤k∧k≤120∧q25 (DD X n) a 60 120=some ((k,()),()):=by
  obtain ⟨n,rfl⟩:∃ k,n=k+1:=⟨n - 1,by omega⟩
  rw[qbry hX]
  simp only[q3z,qbdk]
  have ht:Int.tdiv (a.length:Int) 4=(a.length:Int) / 4:=Int.tdiv_eq_ediv_of_nonneg (by omega)
  rw[ht,qo (show -9223372036854775808≤(a.length:Int) / 4 by omega) (by omega),qo (by omega) (by omega)]
  by_cases h:60+(a.length:Int) / 4>120
  ·rw[qg h];exact ⟨120,by omega,by omega,rfl⟩
  ·rw[qh h];exact ⟨_,by omega,by omega,rfl⟩
 obtain ⟨k,hk0,hk1,e4⟩:=hlong
 obtain ⟨x,c3,h1,_,hc3,e5⟩:=qkf hX (n:=n) (by omega) hc2 k
 have hx:=h1 (by omega)
 rw[e4,qc]
 dsimp only
 rw[e5,qc]
 dsimp only
 obtain ⟨who,hw,e6⟩:=qb01 hX n n (by omega) (by omega) (fun v0_0 v0_1 v0_2 v0_3=>qua (DD X n) n v0_0 v0_1 v0_2 v0_3) x (by omega) ([],0,()) r L (by have:=hL.n;omega) n 0 c3 [] hc3 (by omega) (by omega) ⟨by simp,fun t h=>by simp at h⟩
 rw[show ((0:Nat):Int)=0 from rfl] at e6
 exact ⟨r,L,who,hr,hL,hw,e6⟩
theorem qb04 (hn:1≤n):q3i (DD X n) dD=some ((true,()),()):=by
 obtain ⟨n,rfl⟩:∃ k,n=k+1:=⟨n - 1,by omega⟩
 rw[qbsd hX]
 simp only[q21,q26]
 rw[qg (show dD.1=0 from rfl)]
 simp[dD]
theorem qbms (N n:Nat) (hN:1≤N) (K0:Bool→MemT→Option ((Bool×Unit)×Unit)) (K1:MemT→Option ((Bool×Unit)×Unit)) (w:List qgg) (k:Nat) (hk:k≤3):∀ (c i:Nat),i≤k→k - i<c→
  qo0 (DD X N) n K0 K1 c (i:Int) (w,List.replicate k dD,())=K1 (w,List.replicate k dD,())
 | 0,i,_,h=>by omega
 | c+1,i,h1,h2=>by
  simp only[qo0,q2x,List.length_replicate]
  by_cases hi:i<k
  ·have e:(List.replicate k dD).getD i (0,0,[],(0,[],()),())=dD:=by rw[qu (by simpa using hi),List.getElem_replicate]
   rw[qg (by omega),show (decide (0≤(i:Int))&&decide ((i:Int)<(k:Int)))=true by simp;omega,br_t,z12,e,qb04 hX hN,qc]
   dsimp only
   rw[z13,br_f,qr (by omega)]
   exact qbms N n hN K0 K1 w k hk c (i+1) (by omega) (by omega)
  ·rw[qh (by omega)]
theorem qbl4 (N n:Nat) (hN:2≤N) (K0:Bool→Option ((Bool×Unit)×Unit)) (K1:Option ((Bool×Unit)×Unit)) (m:MemT) (hl:m.1.length≤1000) (hw:∀ x∈m.1,Num x):∀ (c i:Nat),i≤m.1.length→m.1.length - i<c→
  qoz (DD X N) n K0 K1 c (i:Int) m=K1
 | 0,i,_,h=>by omega
 | c+1,i,h1,h2=>by
  simp only[qoz,q39]
  by_cases hi:i<m.1.length
  ·have hx:=hw _ (z24 hi)
   obtain ⟨N,rfl⟩:∃ k,N=k+1:=⟨N - 1,by omega⟩
   rw[qg (by omega),ix hi,br_t,z12,qu hi,qbrz hX]
   simp only[q2v,qbda]
   rw[qg hx.1,qg hx.2.1,qqk hX (by omega),qc,qc]
   dsimp only
   rw[qce hx.2.2,z13,br_f,qh (by have:=hx.1;omega),qr (by omega)]
   exact qbl4 (N+1) n hN K0 K1 m hl hw c (i+1) (by omega) (by omega)
  ·rw[qh (by omega)]
theorem qbqc (hn:W+3≤n) (w:List qgg) (hw:∀ x∈w,Num x) (hl:w.length=20) (k:Nat) (h1:1≤k) (hk:k≤3):qqn (DD X n) (w,List.replicate k dD,())=some ((true,()),()):=by
 obtain ⟨n,rfl⟩:∃ k,n=k+1:=⟨n - 1,by omega⟩
 have hW:=qbb
 rw[qbuq hX]
 simp only[q62,q6n,q1f]
 rw[show ((w.length:Int) != 20)=false by rw[bned,z11 (by omega)];rfl,br_f,qqk hX (by omega),qc]
 dsimp only
 rw[List.length_replicate,qce ⟨by omega,by omega⟩,z13,br_f]
 refine Eq.trans (qbms hX n n (by omega) _ _ w k hk n 0 (Nat.zero_le _) (by omega)) ?_
 simp only[qyl,qzh]
 refine Eq.trans (qbl4 hX n n (by omega) _ _ _ (by dsimp only;omega) hw n 0 (Nat.zero_le _) (by dsimp only;omega)) ?_
 rfl
theorem qbqh (N n:Nat) (hN:4≤N) (K0:Int→Bool→ThT→Option ((Bool×Unit)×Unit)) (K1:Int→ThT→Option ((Bool×Unit)×Unit)) (z:Int) (x:ThT) (hl:x.1.length≤1000) (ho:∀ o∈x.1,opOk o=true):∀ (c i:Nat),i≤x.1.length→x.1.length - i<c→
  qky (DD X N) n K0 K1 c z (i:Int) x=K1 z x
 | 0,i,_,h=>by omega
 | c+1,i,h1,h2=>by
  simp only[qky,qvo]
  by_cases hi:i<x.1.length
  ·have hx:=ho _ (z24 hi)
   have hop:q1r (DD X N) x.1[i]=some ((true,()),()):=by
    have:=qbzs hX (n:=N) (by omega) x.1[i].1 x.1[i].2.1 x.1[i].2.2.1
    rw[show (x.1[i].1,x.1[i].2.1,x.1[i].2.2.1,())=x.1[i] from rfl,hx] at this
    exact this
   rw[qg (by omega),ix hi,br_t,z12,qu hi,hop,qc]
   dsimp only
   rw[z13,br_f,qr (by omega)]
   exact qbqh N n hN K0 K1 z x hl ho c (i+1) (by omega) (by omega)
  ·rw[qh (by omega)]
theorem qbty (hn:W+5≤n) (ops:List Op3) (hl:ops.length≤4) (ho:∀ o∈ops,opOk o=true) (k:Int):qw7 (DD X n) (ops,0,false,[],[],()) k=some ((true,()),()):=by
 obtain ⟨n,rfl⟩:∃ k,n=k+1:=⟨n - 1,by omega⟩
 have hW:=qbb
 obtain ⟨p,hp⟩:∃ p,n=p+1:=⟨n - 1,by omega⟩
 rw[qbmz hX]
 simp only[qww,qxy,qtj]
 rw[qh (by omega),qqk hX (by omega),qc]
 dsimp only
 rw[qce ⟨by omega,by omega⟩]
 simp only[z13,z20,br_f,Bool.not_false,br_t,List.length_nil]
 rw[z10 (show ¬ wrap .i64 (((0:Nat):Int)+((0:Nat):Int))>0 by decide),z10 (show ¬ ((0:Nat):Int)>12 by decide),z10 (show ¬ ((0:Nat):Int)>2 by decide),z20,z20,br_f]
 refine Eq.trans (qbqh hX n n (by omega) _ _ k (ops,0,false,[],[],()) (by dsimp only;omega) ho n 0 (Nat.zero_le _) (by dsimp only;omega)) ?_
 simp only[qrj,qtn]
 rw[hp]
 simp only[qoj,qvf,List.length_nil]
 rw[qh (by decide)]
 simp only[qqs,qso]
 simp only[qn3,qve,List.length_nil]
 rw[qh (by decide)]
 rfl
theorem qbze (hn:3≤n) {m:Mach} (hc:m.2.2.2.1=[]) {t:Int} (t0:0≤t) (t1:t<m.2.1.length) (hp:(thr m t).2.1=0) (ho:(thr m t).2.2.1=false):qxc (DD X n) m t=some ((true,()),()):=by
 obtain ⟨n,rfl⟩:∃ k,n=k+2:=⟨n - 2,by omega⟩
 obtain ⟨p,hpn⟩:∃ p,n=p+1:=⟨n - 1,by omega⟩
 have hx:m.2.1.getD t.toNat ([],0,false,[],[],())=thr m t:=rfl
 have hlast:q20 (DD X (n+1)) m t=some ((-1,()),()):=by
  rw[qbsa hX]
  simp only[q28,q32,qxn]
  rw[hc,hpn]
  simp only[qse,q1p,List.length_nil]
  rw[qh (by rw[qo (by decide) (by decide)];decide)]
  rfl
 rw[qbk3 hX]
 simp only[qwr,qwf,qte]
 rw[ixn t0 t1,br_t,hlast,qc,hx]
 dsimp only
 simp only[qn2,qux]
 rw[hc,qh (by simp)]
 simp only[q2k]
 rw[hp,ho]
 rfl
theorem qbl8 (N n:Nat) (hN:W+5≤N) (K0:Bool→Option ((Bool×Unit)×Unit)) (K1:Option ((Bool×Unit)×Unit)) {r:qm} {L:List (List Op3)} (hL:OpsOk L):∀ (c i:Nat),i≤L.length→L.length - i<c→
  qjt (DD X N) n K0 K1 c (i:Int) (qb4 r L)=K1
 | 0,i,_,h=>by omega
 | c+1,i,h1,h2=>by
  have hln:=hL.n
  have hthl:(qb4 r L).2.1.length=L.length:=by unfold qb4;simp
  simp only[qjt,qt0,hthl]
  by_cases hi:i<L.length
  ·have hx:=hL.ops _ (z24 hi)
   have e:thr (qb4 r L) (i:Int)=(L[i],0,false,[],[],()):=by
    unfold thr qb4
    dsimp only
    rw[z12,qu (by simpa using hi),List.getElem_map]
   have e2:(qb4 r L).2.1.getD i ([],0,false,[],[],())=(L[i],0,false,[],[],()):=by
    unfold thr at e
    rw[z12] at e
    exact e
   rw[qg (by omega),ixn (by omega) (by omega),br_t,z12,e2,qbty hX (by omega) _ hx.1 hx.2,qc]
   dsimp only
   rw[z13,br_f,qbze hX (by omega) rfl (by omega) (by rw[hthl];omega) (by rw[e]) (by rw[e]),qc]
   dsimp only
   rw[z13,br_f,qr (by omega)]
   exact qbl8 N n hN K0 K1 hL c (i+1) (by omega) (by omega)
  ·rw[qh (by omega)]
theorem qbt6 (hn:W+6≤n) {r:qm} (hr:RightR r) {L:List (List Op3)} (hL:OpsOk L):qvq (DD X n) (qb4 r L)=some ((true,()),()):=by
 obtain ⟨n,rfl⟩:∃ k,n=k+2:=⟨n - 2,by omega⟩
 obtain ⟨p,hpn⟩:∃ p,n=p+1:=⟨n - 1,by omega⟩
 have hW:=qbb
 have hln:=hL.n
 have hthl:(qb4 r L).2.1.length=L.length:=by unfold qb4;simp
 have hdl:(qb4 r L).1.2.1.length=L.length:=by unfold qb4;simp
 have hcalls:q05 (DD X (n+1)) (qb4 r L)=some ((true,()),()):=by
  rw[qbny hX]
  simp only[q0c,q0w,qur]
  rw[hpn]
  simp only[qp6,qwo]
  rw[qh (by simp[qb4])]
  simp only[qs3,qvh,qjo,qw6]
  rw[qh (by simp[qb4])]
  simp[q4n,qb4]
 rw[qbj3 hX]
 simp only[qu3,qva,qqy]
 have hm:=qbqc hX (n:=n+1) (by omega) ((qj7 r).map fun v=>((v,0,0,()):qgg)) (fun x hx=>by
  obtain ⟨v,hv,rfl⟩:=z37.1 hx
  unfold qj7 at hv
  obtain ⟨q,hq,rfl⟩:=z37.1 hv
  have:=qbsw hr (q:Int) (by have:=List.mem_range.1 hq;omega)
  exact ⟨rfl,rfl,this.1,by dsimp only;omega⟩) (by rw[z49,qg5]) L.length hln.1 hln.2
 refine Eq.trans (congrArg (fun z=>qd z _) hm) ?_
 rw[qc]
 dsimp only
 rw[z13,z20,hdl,hthl,show ((L.length:Int) != (L.length:Int))=false by simp,br_f,qqk hX (by omega),qc]
 dsimp only
 rw[show (qb4 r L).2.2.1=0 from rfl,qce ⟨by decide,by decide⟩,z13,br_f,show (qb4 r L).2.2.2.2.2.1=r from rfl,qbf2 hX (by omega) hr,qc]
 dsimp only
 rw[z13,br_f,hcalls,qc]
 dsimp only
 rw[z13,br_f]
 refine Eq.trans (qbl8 hX (n+1) (n+1) (by omega) _ _ hL (n+1) 0 (Nat.zero_le _) (by omega)) ?_
 rfl
theorem qbes (D:Den ctx) (n:Nat) (K:Int→MemT→MemT→Option ((MemT×Bool×Unit)×Unit)) (a:Int) (ws:List Int) (hl:ws.length≤1000) (z:MemT) (d:List qiw×Unit):∀ (c i:Nat),i≤ws.length→ws.length - i<c→
  qm1 D n K c a (i:Int) z ((ws.take i).map (fun v=>((v,0,0,()):qgg)),d) ws=K a z (ws.map (fun v=>((v,0,0,()):qgg)),d)
 | 0,i,_,h2=>by omega
 | c+1,i,h0,h2=>by
  have hb:=qbg
  simp only[qm1,qz8]
  by_cases hi:i<ws.length
  ·have ih:=qbes D n K a ws hl z d c (i+1) (by omega) (by omega)
   rw[qg (by omega),ix hi,br_t,z12,qu hi,qr (by omega)]
   rw[qg (by rw[z49,z27];omega)]
   rw[z32 hi,List.map_append] at ih
   exact ih
  ·rw[qh (by omega),show ws.take i=ws from z42 (by omega)]
theorem qbdh (N n:Nat) (hN:1≤N) (K:Bool→Mach→Mach→Option ((Mach×Bool×Unit)×Unit)) (L:List (List Op3)) (hl:L.length≤1000) (h1:∀ ops∈L,ops.length≤1000) (b:Bool) (z:Mach) (a:MemT) (e:Int×List qb8×List Int×qm×Unit):∀ (c i:Nat),i≤L.length→L.length - i<c→
  qi7 (DD X N) n K c L b (i:Int) z (a,(L.take i).map (fun ops=>((ops,0,false,[],[],()):ThT)),e)=K b z (a,L.map (fun ops=>((ops,0,false,[],[],()):ThT)),e)
 | 0,i,_,h2=>by omega
 | c+1,i,h0,h2=>by
  have hb:=qbg
  simp only[qi7,qrp]
  by_cases hi:i<L.length
  ·have ih:=qbdh N n hN K L hl h1 b z a e c (i+1) (by omega) (by omega)
   have hd:=h1 _ (z24 hi)
   obtain ⟨N,rfl⟩:∃ k,N=k+1:=⟨N - 1,by omega⟩
   rw[qg (by omega),ix hi,br_t,z12,qu hi,qr (by omega),qbi8 hX]
   simp only[qus,q7s]
   rw[qg (by omega),qc]
   dsimp only
   rw[qg (by rw[z49,z27];omega)]
   rw[z32 hi,List.map_append] at ih
   exact ih
  ·rw[qh (by omega),show L.take i=L from z42 (by omega)]
theorem qbso (hn:W+8≤n) {r:qm} (hr:RightR r) {L:List (List Op3)} (hL:OpsOk L):qtl (DD X n) r L=some ((qb4 r L,true,()),()):=by
 obtain ⟨n,rfl⟩:∃ k,n=k+2:=⟨n - 2,by omega⟩
 have hW:=qbb
 have hb:=qbg
 have hln:=hL.n
 have hrl:=hr.len
 have hmem:q3e (DD X (n+1)) r (L.length:Int)=some (((qb4 r L).1,true,()),()):=by
  rw[qbr1 hX]
  simp only[q38,q2w,qv6]
  obtain ⟨ws,w1,w2,w3⟩:=qb3k hX (n:=n) (by omega) hr
  have hws:ws=qj7 r:=qbmj w1 (qg5 r) (fun p hp=>by rw[w2 p hp,q8v r hp];rfl)
  rw[w3,qc,hws]
  dsimp only
  refine Eq.trans (qbes hX (DD X n) n _ (L.length:Int) (qj7 r) (by rw[qg5];omega) ([],[],()) ([],()) n 0 (Nat.zero_le _) (by rw[qg5];omega)) ?_
  simp only[q6b]
  rw[qqk hX (by omega),qc]
  dsimp only
  rw[qce ⟨by omega,by omega⟩,br_t,show (decide (0≤(L.length:Int))&&decide ((L.length:Int)≤(L.length:Int))&&decide ((L.length:Int)≤(qb6:Int)))=true by simp;omega,br_t]
  have hm:=qbqc hX (n:=n) (by omega) ((qj7 r).map fun v=>((v,0,0,()):qgg)) (fun x hx=>by
   obtain ⟨v,hv,rfl⟩:=z37.1 hx
   unfold qj7 at hv
   obtain ⟨q,hq,rfl⟩:=z37.1 hv
   have:=qbsw hr (q:Int) (by have:=List.mem_range.1 hq;omega)
   exact ⟨rfl,rfl,this.1,by dsimp only;omega⟩) (by rw[z49,qg5]) L.length hln.1 hln.2
  rw[z12]
  refine Eq.trans (congrArg (fun z=>qd z _) hm) ?_
  rw[qc]
  dsimp only
  rw[z13,br_f]
  rfl
 have hcp:q3w (DD X (n+1)) r=some ((r,()),()):=by
  rw[qbsh hX]
  simp only[q23,qbdg]
  rw[qg (by omega)]
  rfl
 rw[qbhg hX]
 simp only[qsv,qtk,qpk]
 rw[hmem,qc,hcp,qc]
 dsimp only
 refine Eq.trans (qbdh hX (n+1) (n+1) (by omega) _ L (by omega) (fun ops h=>by have:=(hL.ops ops h).1;omega) true (([],[],()),[],0,[],[],([],0,()),()) (qb4 r L).1 (0,[],[],r,()) (n+1) 0 (Nat.zero_le _) (by omega)) ?_
 simp only[qwq]
 have hm:=qbt6 hX (n:=n+1) (by omega) hr hL
 rw[z13,br_f]
 refine Eq.trans (congrArg (fun z=>qd z _) hm) ?_
 rw[qc]
 dsimp only
 rw[z13,br_f]
 rfl
end
end Go.G

namespace Go.G
set_option maxRecDepth 100000
open Go Go.V Go.Proofs
def repF (l:List qb8) (r:qm) (ks:List Int):qm:=ks.foldl (fun s k=>qci s (getC l k).2.1 (getC l k).2.2.2.2.2.1.1) r
theorem qbqu (l:List qb8) (r:qm) (ks:List Int) (k:Int):repF l r (ks++[k])=qci (repF l r ks) (getC l k).2.1 (getC l k).2.2.2.2.2.1.1:=by
 unfold repF;rw[List.foldl_append];rfl
theorem qb1w {l:List qb8} {r:qm} {ks:List Int} {s:qm} (h:RepR l r ks s):s=repF l r ks:=by
 induction h with
 | nil=>rfl
 | snoc h1 h2 h3 ih=>rw[qbqu,←ih]
theorem qb52 {l:List qb8} {r:qm} {ks:List Int} {s:qm} (h:RepR l r ks s):∀ (i:Nat) (hi:i<ks.length),RightR (repF l r (ks.take i))∧Out (repF l r (ks.take i)) (getC l ks[i]).2.1 (getC l ks[i]).2.2.2.2.2.1.1 (getC l ks[i]).2.2.2.2.2.1.2.1:=by
 induction h with
 | nil=>intro i hi;simp at hi
 | @snoc s ks k h1 h2 h3 ih=>
  intro i hi
  by_cases e:i<ks.length
  ·have:=ih i e
   rw[List.take_append_of_le_length (by omega),List.getElem_append_left e]
   exact this
  ·have:i=ks.length:=by rw[z19,List.length_singleton] at hi;omega
   subst this
   have e2:=qb1w h1
   rw[List.take_append_of_le_length (Nat.le_refl _),List.take_length,←e2,List.getElem_append_right (Nat.le_refl _)]
   simp only[Nat.sub_self,List.getElem_cons_zero]
   exact ⟨h2,h3⟩
section
variable {X:Ext} (hX:XOk X) {n:Nat}
include hX
theorem qb1h (hn:W+2≤n) {m:MemT} {k:Nat} {time:Int} {own:Int→Prop} (I:MemI m k time own) (hk:k≤3) {p:Int} (p0:0≤p) (p1:p<20):q1g (DD X n) m.1 m.2.1 p=some ((qgf m p,()),()):=by
 obtain ⟨n,rfl⟩:∃ k,n=k+1:=⟨n - 1,by omega⟩
 have hW:=qbb
 have hlen:=I.len
 have hdl:=I.dlen
 have hwd:m.1.getD p.toNat (0,0,0,())=wd m p:=rfl
 rw[qbn4 hX]
 simp only[q0s,qbbg]
 rw[qo (by omega) (by omega),qdg hX (by omega),qc]
 dsimp only
 rw[qce ⟨p0,by omega⟩,z13,br_f,ixn p0 (by omega),br_t,hwd]
 rcases I.word p p0 p1 with h | ⟨u,u0,u1,uo,e,j,j0,j1,je⟩
 ·rw[qg h.1,qr4 h.1]
 ·have hdl2:=(I.dok u u0 u1).len
  have e2:(wd m p).2.1=u+1:=by rw[e];rfl
  have e3:(wd m p).2.2.1=(dsc m u).1:=by rw[e];rfl
  have e1:wrap .i64 ((wd m p).2.1 - 1)=u:=by rw[qo (by omega) (by omega)];omega
  have hdu:m.2.1.getD u.toNat (0,0,[],(0,[],()),())=dsc m u:=rfl
  rw[qh (by omega),qdg hX (by omega),qc]
  dsimp only
  rw[qce ⟨by omega,by omega⟩,z13,br_f,e1,ixn u0 (by omega),br_t,hdu,qbrb hX (by omega) _ (by omega),qc]
  dsimp only
  rw[z11 e3.symm,z21,qqw u0 e]
  by_cases h2:(dsc m u).2.1=2
  ·rw[qg h2,z6 h2]
  ·rw[qh h2,z5 h2]
theorem qbqe (N n:Nat) (hN:W+2≤N) (K:List Int→Option ((List Int×Unit)×Unit)) {m:MemT} {k:Nat} {time:Int} {own:Int→Prop} (I:MemI m k time own) (hk:k≤3) {R:qm} (hv:∀ p:Int,0≤p→p<20→qgf m p=wOf R p):∀ (c i:Nat),i≤20→20 - i<c→
  ql2 (DD X N) n K c m.1 m.2.1 20 (i:Int) ((qj7 R).take i)=K (qj7 R)
 | 0,i,_,h2=>by omega
 | c+1,i,h0,h2=>by
  have hb:=qbg
  have hl:=qg5 R
  simp only[ql2,qwh]
  by_cases hi:i<20
  ·have ih:=qbqe N n hN K I hk hv c (i+1) (by omega) (by omega)
   have hi2:i<(qj7 R).length:=by omega
   rw[qg (by omega),qb1h hX (by omega) I hk (by omega) (by omega),qc]
   dsimp only
   rw[qg (by rw[z27];omega),qr (by omega),hv _ (by omega) (by omega)]
   rw[z32 hi2] at ih
   have:=q8v R hi
   rw[qu hi2] at this
   rw[←this]
   exact ih
  ·rw[qh (by omega),show (qj7 R).take i=qj7 R from z42 (by omega)]
theorem qb1i (hn:W+3≤n) {m:MemT} {k:Nat} {time:Int} {own:Int→Prop} (I:MemI m k time own) (hk:k≤3) {R:qm} (hv:∀ p:Int,0≤p→p<20→qgf m p=wOf R p):q0f (DD X n) m.1 m.2.1=some ((qj7 R,()),()):=by
 obtain ⟨n,rfl⟩:∃ k,n=k+1:=⟨n - 1,by omega⟩
 have hW:=qbb
 have hlen:=I.len
 rw[qbps hX]
 simp only[qy9,qzq,quv]
 rw[hlen]
 exact qbqe hX n n (by omega) _ I hk hv n 0 (by omega) (by omega)
theorem qbv7 (N n:Nat) (hN:W+7≤N) (K:Bool→qm→qm→Option ((qm×Bool×Unit)×Unit)) {m:Mach} (I:Inv m) (hl:m.2.2.2.2.1.length≤1000) {R:qm} (hR:RepR m.2.2.2.1 m.2.2.2.2.2.1 m.2.2.2.2.1 R) (z:qm):∀ (c i:Nat),i≤m.2.2.2.2.1.length→m.2.2.2.2.1.length - i<c→
  qmq (DD X N) n K c true m.2.2.2.2.1 (m.2.2.2.2.1.length:Int) (i:Int) m z (repF m.2.2.2.1 m.2.2.2.2.2.1 (m.2.2.2.2.1.take i))=K true z R
 | 0,i,_,h2=>by omega
 | c+1,i,h0,h2=>by
  simp only[qmq,q1e]
  by_cases hi:i<m.2.2.2.2.1.length
  ·have ih:=qbv7 N n hN K I hl hR z c (i+1) (by omega) (by omega)
   have hk:=I.call.ordr _ (z24 hi)
   have hop:=(I.call.c _ hk.1 hk.2.1).op
   obtain ⟨r1,r2⟩:=qb52 hR i hi
   have hd:List.getD m.2.2.2.1 (Int.toNat m.2.2.2.2.1[i]) (0,(0,0,0,()),0,0,0,(0,[],()),())=getC m.2.2.2.1 m.2.2.2.2.1[i]:=rfl
   rw[qg (by omega),ix hi,br_t,z12,qu hi,ixn hk.1 hk.2.1,br_t,br_t,hd]
   generalize hs:repF m.2.2.2.1 m.2.2.2.2.2.1 (m.2.2.2.2.1.take i)=s at *
   have ha:=qbqd hX (n:=N) (by omega) r1 hop r2
   have hf:=qb5a hX (n:=N) (by omega) r1 hop r2
   rw[show ((s.1,s.2):qm)=s from rfl]
   refine Eq.trans (congrArg (fun z=>qd z _) ha) ?_
   rw[qc]
   refine Eq.trans (congrArg (fun z=>qd z _) hf) ?_
   rw[qc]
   dsimp only
   rw[qr (by omega)]
   rw[z32 hi,qbqu,hs] at ih
   exact ih
  ·rw[qh (by omega),show m.2.2.2.2.1.take i=m.2.2.2.2.1 from z42 (by omega),←qb1w hR]
theorem qbs9 (hn:W+11≤n) {m:Mach} (I:Inv m) (ht:m.2.2.1≤100000) {R:qm} (hR:RepR m.2.2.2.1 m.2.2.2.2.2.1 m.2.2.2.2.1 R):qul (DD X n) m=some ((R,true,()),()):=by
 obtain ⟨n,rfl⟩:∃ k,n=k+1:=⟨n - 1,by omega⟩
 have hW:=qbb
 have hol:=(qv2 hX I).o
 rw[qbro hX]
 simp only[q36,q2t,qyf]
 rw[qkd hX (by omega) I ht,qc]
 dsimp only
 rw[z13,br_f,q5f hX (by omega) I.first,qc]
 dsimp only
 exact qbv7 hX n n (by omega) _ I hol hR ([],0,()) n 0 (Nat.zero_le _) (by omega)
theorem qb02 (hn:W+12≤n) {m:Mach} (I:Inv m) (ht:m.2.2.1≤100000):q0q (DD X n) m=some ((true,()),()):=by
 obtain ⟨n,rfl⟩:∃ k,n=k+1:=⟨n - 1,by omega⟩
 obtain ⟨R,_,h2,_⟩:=I.rep
 rw[qbpb hX]
 simp only[qzo,qbbd]
 rw[qbs9 hX (by omega) I ht h2,qc]
theorem qbvm (hn:W+12≤n) {m:Mach} (I:Inv m) (ht:m.2.2.1≤100000):qs8 (DD X n) m=some ((true,()),()):=by
 obtain ⟨n,rfl⟩:∃ k,n=k+1:=⟨n - 1,by omega⟩
 obtain ⟨R,h1,h2,h3⟩:=I.rep
 have hnn:=I.n
 rw[qbgx hX]
 simp only[qtb,q4r]
 rw[qbs9 hX (by omega) I ht h2,qc,qkd hX (by omega) I ht,qc]
 dsimp only
 rw[br_t,qb1i hX (by omega) I.mem (by omega) h3,qc]
 dsimp only
 rw[show ((R.1,R.2):qm)=R from rfl,qbqb hX (by omega) h1,qc]
 dsimp only
 rw[qbxp hX (by omega) _ (by rw[qg5];omega),qc]
theorem qbtv (N n:Nat) (hN:1≤N) (K0:Bool→List qb8→Int→Int→Mach→Option ((Bool×Unit)×Unit)) (K1:List qb8→Int→Int→Mach→Option ((Bool×Unit)×Unit)) (l:List qb8) (a b:Int) (d:List qb8) (hd:d.length≤1000) (m:Mach) (x:qb8)
  (h:∀ y∈d,y.1=x.1→0≤y.2.2.2.2.1∧y.2.2.2.2.1<x.2.2.1):∀ (c i:Nat),i≤d.length→d.length - i<c→
  qje (DD X N) n K0 K1 c l a b d (d.length:Int) (i:Int) m x=K1 l a b m
 | 0,i,_,h2=>by omega
 | c+1,i,h0,h2=>by
  simp only[qje,qql]
  by_cases hi:i<d.length
  ·have ih:=qbtv N n hN K0 K1 l a b d hd m x h c (i+1) (by omega) (by omega)
   have hy:=h _ (z24 hi)
   rw[qg (by omega),ix hi,br_t,z12,qu hi,qr (by omega)]
   by_cases e:d[i].1=x.1
   ·obtain ⟨y0,y1⟩:=hy e
    obtain ⟨N,rfl⟩:∃ k,N=k+1:=⟨N - 1,by omega⟩
    rw[qg e,qbu3 hX]
    simp only[q6u,qben]
    rw[qc]
    dsimp only
    rw[z11 (show d[i].2.2.2.2.1≥0 from y0),z21,z11 y1,z13,br_f]
    exact ih
   ·rw[qh e];exact ih
  ·rw[qh (by omega)]
theorem qbtm (N n:Nat) (hN:1≤N) (hnW:W≤n) (K0:Bool→Option ((Bool×Unit)×Unit)) (K1:Option ((Bool×Unit)×Unit)) {m:Mach} (I:Inv m) (hl:m.2.2.2.1.length≤1000):∀ (c i:Nat),i≤m.2.2.2.1.length→m.2.2.2.1.length - i<c→
  qfq (DD X N) n K0 K1 c m.2.2.2.1 (m.2.2.2.1.length:Int) (i:Int) m=K1
 | 0,i,_,h2=>by omega
 | c+1,i,h0,h2=>by
  have hW:=qbb
  simp only[qfq,qrt]
  by_cases hi:i<m.2.2.2.1.length
  ·have ih:=qbtm N n hN hnW K0 K1 I hl c (i+1) (by omega) (by omega)
   have C:=I.call.c (i:Int) (by omega) (by omega)
   have hd:m.2.2.2.1.getD i (0,(0,0,0,()),0,0,0,(0,[],()),())=getC m.2.2.2.1 (i:Int):=by rw[qhq];rfl
   have hfin:=C.fin
   rw[qg (by omega),ix hi,br_t,z12,hd]
   have e:(bif decide ((getC m.2.2.2.1 (i:Int)).2.2.2.2.1≥0) then bif decide ((getC m.2.2.2.1 (i:Int)).2.2.2.1<0) then true else decide ((getC m.2.2.2.1 (i:Int)).2.2.2.1>(getC m.2.2.2.1 (i:Int)).2.2.2.2.1) else false)=false:=by
    by_cases a:(getC m.2.2.2.1 (i:Int)).2.2.2.2.1≥0
    ·rw[z11 a,z21,z10 (by omega),z20,z10 (by omega)]
    ·rw[z10 a];rfl
   rw[e,br_f,show (decide ((0:Nat)≤0)&&decide (0≤(i:Int))&&decide ((i:Int)≤(m.2.2.2.1.length:Int)))=true by simp;omega,br_t]
   simp only[qpy]
   rw[show (0:Int).toNat=0 from rfl,List.drop_zero]
   refine Eq.trans (qbtv hX N n hN _ _ m.2.2.2.1 (m.2.2.2.1.length:Int) (i:Int) (m.2.2.2.1.take i) (by rw[z27];omega) m (getC m.2.2.2.1 (i:Int)) (fun y hy hyt=>?_) n 0 (Nat.zero_le _) (by rw[z27];omega)) ?_
   ·obtain ⟨j,hj,rfl⟩:=z52.1 hy
    rw[z27] at hj
    rw[List.getElem_take] at hyt ⊢
    have e3:m.2.2.2.1[j]'(by omega)=getC m.2.2.2.1 (j:Int):=by rw[qhq,qu (by omega)]
    rw[e3] at hyt ⊢
    exact I.call.before (j:Int) (i:Int) (by omega) (by omega) (by omega) hyt
   ·simp only[qwi]
    rw[qr (by omega)]
    exact ih
  ·rw[qh (by omega)]
theorem qbtz (hn:W+11≤n) {m:Mach} (I:Inv m) (ht:m.2.2.1≤100000):qtp (DD X n) m=some ((true,()),()):=by
 obtain ⟨n,rfl⟩:∃ k,n=k+1:=⟨n - 1,by omega⟩
 have hW:=qbb
 have hcl:=qr0 hX I
 rw[qbg5 hX]
 simp only[qtd,qtx,qpj]
 rw[qkd hX (by omega) I ht,qc]
 dsimp only
 rw[z13,br_f]
 refine Eq.trans (qbtm hX n n (by omega) (by omega) _ _ I (by omega) n 0 (Nat.zero_le _) (by omega)) ?_
 rfl
theorem qby8 (hn:W+13≤n) {m:Mach} (I:Inv m) (ht:m.2.2.1≤100000):qx4 (DD X n) m=some ((true,()),()):=by
 obtain ⟨n,rfl⟩:∃ k,n=k+1:=⟨n - 1,by omega⟩
 rw[qbmv hX]
 simp only[qyc,q8u]
 rw[qb02 hX (by omega) I ht,qc]
 dsimp only
 rw[br_t,qbvm hX (by omega) I ht,qc]
 dsimp only
 rw[br_t,qbtz hX (by omega) I ht,qc]
end
theorem qbzg {r:qm} (hr:RightR r) {L:List (List Op3)} (hL:OpsOk L) {who:List Int} (hw:qbf8 L who 720):Inv (qum (qb4 r L) who)∧(qum (qb4 r L) who).2.2.1≤720∧(qum (qb4 r L) who).2.1.length=L.length∧who.length≤2000∧
  (∀ t∈who,0≤t∧t<(qb4 r L).2.1.length)∧(qb4 r L).2.2.1+who.length≤100000:=by
 have hthl:(qb4 r L).2.1.length=L.length:=by unfold qb4;simp
 have hwl:=hw.1
 have hall:∀ t∈who,0≤t∧t<(qb4 r L).2.1.length:=fun t h=>by rw[hthl];exact hw.2 t h
 have hX:XOk qbmp:=qbun
 obtain ⟨h1,h2,_⟩:=qb29 hX who (qbb5 hr hL) hall
 have e:(qb4 r L).2.2.1=0:=rfl
 refine ⟨h1,by omega,by rw[qb3j,hthl],by omega,hall,by omega⟩
end Go.G

/- FnOneMoment holds: whatever schedule is drawn, each op comes of the table as it was at one moment. No condition beyond the given statement's. -/
namespace Go.G
set_option linter.unusedVariables false
set_option linter.unusedSimpArgs false
set_option linter.unusedSectionVars false
set_option maxRecDepth 100000
open Go Go.V Go.Proofs

theorem qbly (a:List Int):q15 (DD qbmp (W+30)) a=some ((true,()),()):=by
 have hX:XOk qbmp:=qbun
 have hW:=qbb
 rw[qbev hX]
 simp only[qq9,q2n]
 rw[qb6w hX (by omega),qc]
 dsimp only
 by_cases hbig:(a.length:Int)>1048576
 ·rw[qg hbig]
 rw[qh hbig]
 obtain ⟨r,L,who,hr,hL,hw,e1⟩:=qbyz hX (n:=W+29) (by omega) a (by omega)
 obtain ⟨I,ht,_,h1,h2,h3⟩:=qbzg hr hL hw
 rw[e1,qc]
 dsimp only
 rw[qb09 hX (by omega) hr hL,qc,qbso hX (by omega) hr hL,qc]
 dsimp only
 rw[z11 rfl,z13,z20,br_f,qb6b hX (by omega) (qbb5 hr hL) who h1 h2 h3,qc]
 dsimp only
 rw[qkd hX (by omega) I (by omega),qc]
 dsimp only
 rw[br_t,qby8 hX (by omega) I (by omega),qc]
end Go.G
namespace Go.Proofs.YtpmimbgkiindbaaGreat
open Go.ChangeShapes Go.WideShapes Go.ChangeAt Go.RowKit Go.V Go.G
set_option maxRecDepth 100000
theorem fnOneMoment_lifted (os:Os) (started:os.Started) (H:Type) (enc:TypeId×Value→H) :
  ReturnsInHanded {} Tryz.checked os 10 .any (Rows.fnOneMomentSpec.pre6 enc Tryz.prog Tryz.f10 Rows.fnOneMomentRow.domain false) (Rows.fnOneMomentSpec.post enc Tryz.prog Tryz.f10 false true false false):=
 qb1x (X:=qbmp) (tb:=4) started Tryz.func10 (by kernel_rfl)
  (ChangeSpec.witness6 (enc:=enc) (C:=Tryz.checked) false ⟨#[],Tryz.f10.params.map fun t=>((Tryz.prog.info? t).bind (·.zero)).getD .nilIface,[]⟩ 8 (by kernel_rfl) (by kernel_rfl) (by kernel_rfl) (by kernel_rfl))
  ⟨rfl,rfl,trivial⟩ (by kernel_rfl) (by kernel_rfl) (by kernel_rfl) rfl
  (fun ds h=>by
   match ds,h with
   | [d0],_=>exact ⟨rfl,rfl,rfl⟩)
  (fun a wa=>⟨W+30,((true,()),()),qbly a.1,fun h Pr Gs us k=>by
   obtain ⟨v,vs,rfl,⟨c,r,rfl⟩,e⟩:=k
   obtain rfl:vs=[]:=e
   simp only[Rep] at r
   subst r
   rfl⟩)
theorem fnOneMoment_holds:Rows.FnOneMomentSaid:=
 OpenClaim.holds_of_wide 10 Tryz.f10 rfl rfl rfl rfl rfl rfl rfl ⟨rfl,rfl,rfl,rfl,rfl⟩ rfl rfl rfl rfl rfl (by kernel_rfl) Tryz.func10 (by kernel_rfl)
  (of_decide_eq_true (by kernel_rfl)) (by unfold Func.isWrapper;first | (rw[z6 (by decide +kernel)];kernel_rfl) | (rw[z5 (by decide +kernel)];exact ⟨rfl,rfl⟩))
  (fun os started H enc _=>fnOneMoment_lifted os started H enc)
#print axioms fnOneMoment_holds
end Go.Proofs.YtpmimbgkiindbaaGreat


/- FnOtherWay holds: as far as the other way is made it tells just the rows, and nobody is told by it before it is. No condition beyond the given statement's. -/
import Derived.Test.YtpmimbgkiindbaaGreatAPFnOtherWay3
set_option maxRecDepth 100000
set_option linter.unusedVariables false
set_option linter.unusedSimpArgs false
set_option linter.unusedSectionVars false
open Go.IntKind (wrap)
namespace Go.G
open Go Go.V Go.Proofs
section
variable {X:Ext} (hX:fI X) {n:Nat}
include hX
theorem Nt(N n:Nat)(hN:W+2<=N)(hN6:6<=N)(K:Int->jY->List (List cH)->List cH->Option ((List (List cH)×Unit)×jY×Unit))(z:Int)(out:List (List cH)):∀(m i:Nat)(c:jY)(l:List cH),nv c->i<=4->4-i<m->l.length=i->(∀o∈l,dF o=true)->
  ∃(c':jY)(l':List cH),nv c'/\l'.length<=4/\(∀o∈l',dF o=true)/\S4 (DD X N) n K m z (i:Int) c out l=K z c' out l'
 | 0,_,_,_,_,_,h,_,_=>by omega
 | m+1,i,c,l,hc,hi,hf,hl,ho=>by
  have hW:=ez;have hb:=i7;simp only[S4,qu7];obtain⟨x,c1,h1,_,jJ,e1⟩:=zw hX (n:=N) (by omega) hc 4;obtain⟨x0,x1⟩:=h1 (by omega);rw[e1,qc];dsimp only;rw[qs (by omega) (by omega)];by_cases h:(i:Int)<1+x
  .obtain⟨o,c2,g8,K_,e2⟩:=ail hX (n:=N) (by omega) jJ;rw[qf h,e2,qc];dsimp only;rw[qf (by omega),qu (by omega)];exact Nt N n hN hN6 K z out m (i+1) c2 (l++[o]) g8 (by omega) (by omega) (by rw[cI,l9];omega) (fun p hp=>by
    rcases bL.1 hp with q | q
    .exact ho p q
    .rw[d6]at q;rw[q];exact K_)
  .rw[qg h];exact⟨c1,l,jJ,by omega,ho,rfl⟩
theorem Ns(N n:Nat)(hN:W+2<=N)(hn:W<=n)(K:jY->List (List cH)->Option ((List (List cH)×Unit)×jY×Unit)):∀(m i:Nat)(c:jY)(L:List (List cH)),nv c->i<=3->3-i<m->L.length=i->(∀ops∈L,ops.length<=4/\∀o∈ops,dF o=true)->
  ∃(c':jY)(L':List (List cH)),nv c'/\iF L'/\C3 (DD X N) n K m (i:Int) c L=K c' L'
 | 0,_,_,_,_,_,h,_,_=>by omega
 | m+1,i,c,L,hc,hi,hf,hl,ho=>by
  have hW:=ez;have hb:=i7;simp only[C3,qu6];obtain⟨x,c1,h1,_,jJ,e1⟩:=zw hX (n:=N) (by omega) hc 3;obtain⟨x0,x1⟩:=h1 (by omega);rw[e1,qc];dsimp only;rw[qs (by omega) (by omega)];by_cases h:(i:Int)<1+x
  .rw[qf h];simp only[qs4];obtain⟨c2,l,g8,hl4,hlo,e2⟩:=Nt hX N n hN (by omega) (fun bT dU iX jw=>qq2 (DD X N) n (C3 (DD X N) n K m) K bT dU iX jw) (i:Int) L n 0 c1 [] jJ (by omega) (by omega) rfl (fun o h=>by simp at h);rw[show((0:Nat):Int)=0 from rfl]at e2;obtain⟨c3,L',rO,hL',e3⟩:=Ns N n hN hn K m (i+1) c2 (L++[l]) g8 (by omega) (by omega) (by rw[cI,l9];omega) (fun p hp=>by
    rcases bL.1 hp with q | q
    .exact ho p q
    .rw[d6]at q;rw[q];exact⟨hl4,hlo⟩)
   refine⟨c3,L',rO,hL',?_⟩;refine dI e2 ?_;simp only[qq2];rw[qf (by omega),qu (by omega)];exact e3
  .rw[qg h];exact⟨c1,L,jJ,⟨by omega,ho⟩,rfl⟩
theorem abn(hn:W+3<=n){c:jY}(hc:nv c):∃(L:List (List cH))(c':jY),nv c'/\iF L/\qvw (DD X n) c=some ((L,()),(c',())):=by
 obtain⟨n,rfl⟩:∃k,n=k+1:=⟨n-1,by omega⟩
 have hW:=ez;rw[afs hX];simp only[qv4,qw0,qs3];obtain⟨c',L,h1,h2,e⟩:=Ns hX n n (by omega) (by omega) (fun bT dU=>q0h (DD X n) n bT dU) n 0 c [] hc (by omega) (by omega) rfl (fun o h=>by simp at h);rw[show((0:Nat):Int)=0 from rfl]at e;exact⟨L,c',h1,h2,e⟩
def uK(L:List (List cH))(who:List Int)(k:Nat):Prop:=who.length<=k/\∀t∈who,0<=t/\t<L.length
theorem NQ(N n:Nat)(hN:W+2<=N)(K:Int->Int->qp->qp->List (List cH)->List Int->jY->Option ((qp×List (List cH)×List Int×Unit)×Unit))(a b t:Int)(r s:qp)(L:List (List cH))(ht:0<=t/\t<L.length)(k:Nat)(hk:k<=1000):∀(m i:Nat)(c:jY)(who:List Int),nv c->i<=6->6-i<m->uK L who (k+i)->
  ∃(c':jY)(yT:List Int),nv c'/\uK L yT (k+6)/\SK (DD X N) n K m a b t (i:Int) r s L who c=K a b r s L yT c'
 | 0,_,_,_,_,_,h,_=>by omega
 | m+1,i,c,who,hc,hi,hf,hw=>by
  have hW:=ez;have hb:=i7;simp only[SK,qpa];obtain⟨x,c1,h1,_,jJ,e1⟩:=zw hX (n:=N) (by omega) hc 6;obtain⟨x0,x1⟩:=h1 (by omega);rw[e1,qc];dsimp only;rw[qs (by omega) (by omega)];have hwl:=hw.1;by_cases h:(i:Int)<1+x
  .rw[qf h,qf (by omega),qu (by omega)];exact NQ N n hN K a b t r s L ht k hk m (i+1) c1 (who++[t]) jJ (by omega) (by omega) ⟨by rw[cI,l9];omega,fun u hu=>by
    rcases bL.1 hu with q | q
    .exact hw.2 u q
    .rw[d6]at q;rw[q];exact ht⟩
  .rw[qg h];exact⟨c1,who,jJ,⟨by omega,hw.2⟩,rfl⟩
theorem NP(N n:Nat)(hN:W+2<=N)(hn:W<=n)(K:qp->qp->List (List cH)->List Int->Option ((qp×List (List cH)×List Int×Unit)×Unit))(a:Int)(ha:a<=120)(r s:qp)(L:List (List cH))(hL:0<L.length/\L.length<=3):∀(m i:Nat)(c:jY)(who:List Int),nv c->i<=120->120-i<m->uK L who (6 * i)->
  ∃(yT:List Int),uK L yT 720/\C1 (DD X N) n K m a (i:Int) r s L who c=K r s L yT
 | 0,_,_,_,_,_,h,_=>by omega
 | m+1,i,c,who,hc,hi,hf,hw=>by
  have hW:=ez;simp only[C1,qo9];by_cases h:(i:Int)<a
  .obtain⟨x,c1,h1,_,jJ,e1⟩:=zw hX (n:=N) (by omega) hc (L.length:Int);have hx:=h1 (by omega);rw[qf h,e1,qc];dsimp only;simp only[qn4];obtain⟨c2,ali,g8,hw2,e2⟩:=NQ hX N n hN (fun bT dU iX jw yS ale alf=>qm1 (DD X N) n (C1 (DD X N) n K m) K bT dU iX jw yS ale alf) a (i:Int) x r s L hx (6 * i) (by omega) n 0 c1 who jJ (by omega) (by omega) hw;rw[show((0:Nat):Int)=0 from rfl]at e2;obtain⟨alj,hw3,e3⟩:=NP N n hN hn K a ha r s L hL m (i+1) c2 ali g8 (by omega) (by omega) ⟨by have:=hw2.1;omega,hw2.2⟩;refine⟨alj,hw3,dI e2 ?_⟩;simp only[qm1];rw[qu (by omega)];exact e3
  .rw[qg h];exact⟨who,⟨by have:=hw.1;omega,hw.2⟩,rfl⟩
theorem abb(hn:W+4<=n)(a:List Int)(ha:a.length<=1048576):∃(r:qp)(L:List (List cH))(who:List Int),aS r/\iF L/\uK L who 720/\qqb (DD X n) a=some ((r,L,who,()),()):=by
 obtain⟨n,rfl⟩:∃k,n=k+1:=⟨n-1,by omega⟩
 have hW:=ez;rw[ad6 hX];simp only[qqh,qqy,qn3];obtain⟨c,hc,e1⟩:=ajt hX (n:=n) (by omega) a ha;obtain⟨r,c1,hr,_,jJ,e2⟩:=ahU hX (n:=n) (by omega) hc;obtain⟨L,c2,g8,hL,e3⟩:=abn hX (n:=n) (by omega) jJ;rw[e1,qc,e2,qc];dsimp only;rw[e3,qc];dsimp only;have KW:∃k:Int,60<=k/\k<=120/\Zj (DD X n) a 60 120=some ((k,()),()):=by
  obtain⟨n,rfl⟩:∃k,n=k+1:=⟨n-1,by omega⟩
  rw[ahP hX];simp only[Y9,O5];have ht:Int.tdiv (a.length:Int) 4=(a.length:Int) / 4:=Int.tdiv_eq_ediv_of_nonneg (by omega);rw[ht,qs (show -9223372036854775808<=(a.length:Int) / 4 by omega) (by omega),qs (by omega) (by omega)];by_cases h:60+(a.length:Int) / 4>120
  .rw[qf h];exact⟨120,by omega,by omega,rfl⟩
  .rw[qg h];exact⟨_,by omega,by omega,rfl⟩
 obtain⟨k,KQ,Uk,e4⟩:=KW;obtain⟨x,c3,h1,_,rO,e5⟩:=zw hX (n:=n) (by omega) g8 k;have hx:=h1 (by omega);rw[e4,qc];dsimp only;rw[e5,qc];dsimp only;obtain⟨who,hw,e6⟩:=NP hX n n (by omega) (by omega) (fun bT dU iX jw=>qvj (DD X n) n bT dU iX jw) x (by omega) ([],0,()) r L (by have:=hL.n;omega) n 0 c3 [] rO (by omega) (by omega) ⟨by simp,fun t h=>by simp at h⟩;rw[show((0:Nat):Int)=0 from rfl]at e6;exact⟨r,L,who,hr,hL,hw,e6⟩
theorem acr(hn:1<=n):Zh (DD X n) dD=some ((true,()),()):=by
 obtain⟨n,rfl⟩:∃k,n=k+1:=⟨n-1,by omega⟩
 rw[aih hX];simp only[Y4,ZI];rw[qf (show dD.1=0 from rfl)];simp[dD]
theorem Qq(N n:Nat)(hN:1<=N)(K0:Bool->aT->Option ((Bool×Unit)×Unit))(K1:aT->Option ((Bool×Unit)×Unit))(w:List lX)(k:Nat)(hk:k<=3):∀(c i:Nat),i<=k->k-i<c->
  Tv (DD X N) n K0 K1 c (i:Int) (w,List.replicate k dD,())=K1 (w,List.replicate k dD,())
 | 0,i,_,h=>by omega
 | c+1,i,h1,h2=>by
  simp only[Tv,ZO,om];by_cases hi:i<k
  .have e:(List.replicate k dD).getD i (0,0,[],(0,[],()),())=dD:=by rw[qv (by simpa using hi),List.getElem_replicate]
   rw[qf (by omega),show(decide (0<=(i:Int))&&decide ((i:Int)<(k:Int)))=true by simp;omega,aJ,eB,e,acr hX hN,qc];dsimp only;rw[cQ,aN,qu (by omega)];exact Qq N n hN K0 K1 w k hk c (i+1) (by omega) (by omega)
  .rw[qg (by omega)]
theorem Qr(N n:Nat)(hN:2<=N)(K0:Bool->Option ((Bool×Unit)×Unit))(K1:Option ((Bool×Unit)×Unit))(m:aT)(hl:m.1.length<=1000)(hw:∀x∈m.1,T5 x):∀(c i:Nat),i<=m.1.length->m.1.length-i<c->
  Tw (DD X N) n K0 K1 c (i:Int) m=K1
 | 0,i,_,h=>by omega
 | c+1,i,h1,h2=>by
  simp only[Tw,ZP];by_cases hi:i<m.1.length
  .have hx:=hw _ (er hi);obtain⟨N,rfl⟩:∃k,N=k+1:=⟨N-1,by omega⟩
   rw[qf (by omega),ix hi,aJ,eB,qv hi,ahN hX];simp only[Y7,O3];rw[qf hx.1,qf hx.2.1,yF hX (by omega),qc,qc];dsimp only;rw[jP hx.2.2,cQ,aN,qg (by have:=hx.1;omega),qu (by omega)];exact Qr (N+1) n hN K0 K1 m hl hw c (i+1) (by omega) (by omega)
  .rw[qg (by omega)]
theorem QV(hn:W+3<=n)(w:List lX)(hw:∀x∈w,T5 x)(hl:w.length=20)(k:Nat)(h1:1<=k)(hk:k<=3):TA (DD X n) (w,List.replicate k dD,())=some ((true,()),()):=by
 obtain⟨n,rfl⟩:∃k,n=k+1:=⟨n-1,by omega⟩
 have hW:=ez;rw[aiw hX];simp only[Z8,q9x,YH];rw[show((w.length:Int) != 20)=false by rw[cM,bC (by omega)];rfl,aN,yF hX (by omega),qc];dsimp only;rw[om,jP ⟨by omega,by omega⟩,cQ,aN];refine dI (Qq hX n n (by omega) _ _ w k hk n 0 (fF _) (by omega)) ?_;simp only[qzn,YI];refine dI (Qr hX n n (by omega) _ _ _ (by dsimp only;omega) hw n 0 (fF _) (by dsimp only;omega)) ?_;rfl
theorem Ro(N n:Nat)(hN:4<=N)(K0:Int->Bool->cK->Option ((Bool×Unit)×Unit))(K1:Int->cK->Option ((Bool×Unit)×Unit))(z:Int)(x:cK)(hl:x.1.length<=1000)(ho:∀o∈x.1,dF o=true):∀(c i:Nat),i<=x.1.length->x.1.length-i<c->
  S8 (DD X N) n K0 K1 c z (i:Int) x=K1 z x
 | 0,i,_,h=>by omega
 | c+1,i,h1,h2=>by
  simp only[S8,qwu];by_cases hi:i<x.1.length
  .have hx:=ho _ (er hi);have hop:UF (DD X N) x.1[i]=some ((true,()),()):=by have:=abc hX (n:=N) (by omega) x.1[i].1 x.1[i].2.1 x.1[i].2.2.1;rw[show(x.1[i].1,x.1[i].2.1,x.1[i].2.2.1,())=x.1[i] from rfl,hx]at this;exact this
   rw[qf (by omega),ix hi,aJ,eB,qv hi,hop,qc];dsimp only;rw[cQ,aN,qu (by omega)];exact Ro N n hN K0 K1 z x hl ho c (i+1) (by omega) (by omega)
  .rw[qg (by omega)]
theorem ai5(hn:W+5<=n)(ops:List cH)(hl:ops.length<=4)(ho:∀o∈ops,dF o=true)(k:Int):qxr (DD X n) (ops,0,false,[],[],()) k=some ((true,()),()):=by
 obtain⟨n,rfl⟩:∃k,n=k+1:=⟨n-1,by omega⟩
 have hW:=ez;obtain⟨p,hp⟩:∃p,n=p+1:=⟨n-1,by omega⟩
 rw[afV hX];simp only[qx0,qzp,qux];rw[qg (by omega),yF hX (by omega),qc];dsimp only;rw[jP ⟨by omega,by omega⟩];simp only[cQ,bg,aN,iN,aJ,gy];rw[b8 (show ¬ wrap .i64 (((0:Nat):Int)+((0:Nat):Int))>0 by decide),b8 (show ¬ ((0:Nat):Int)>12 by decide),b8 (show ¬ ((0:Nat):Int)>2 by decide),bg,bg,aN];refine dI (Ro hX n n (by omega) _ _ k (ops,0,false,[],[],()) (by dsimp only;omega) ho n 0 (fF _) (by dsimp only;omega)) ?_;simp only[qs0,quy];rw[hp];simp only[Vt,qwv,gy];rw[qg (by decide)];simp only[qs1,quz];simp only[Vu,qww,gy];rw[qg (by decide)];rfl
theorem aaP(hn:3<=n){m:aH}(hc:m.2.2.2.1=[]){t:Int}(t0:0<=t)(t1:t<m.2.1.length)(hp:(ai m t).2.1=0)(ho:(ai m t).2.2.1=false):qxt (DD X n) m t=some ((true,()),()):=by
 obtain⟨n,rfl⟩:∃k,n=k+2:=⟨n-2,by omega⟩
 obtain⟨p,W9⟩:∃p,n=p+1:=⟨n-1,by omega⟩
 have hx:m.2.1.getD t.toNat ([],0,false,[],[],())=ai m t:=rfl;have a_:Zl (DD X (n+1)) m t=some ((-1,()),()):=by rw[ahR hX];simp only[Za,Zv,qzz];rw[hc,W9];simp only[VF,YZ,gy];rw[qg (by rw[qs (by decide) (by decide)];decide)];rfl
 rw[afW hX];simp only[qx1,qz0,qu8];rw[fU t0 t1,aJ,a_,qc,hx];dsimp only;simp only[Vw,qw2];rw[hc,qg (by simp)];simp only[q4e];rw[hp,ho];rfl
theorem Qp(N n:Nat)(hN:W+5<=N)(K0:Bool->Option ((Bool×Unit)×Unit))(K1:Option ((Bool×Unit)×Unit)){r:qp}{L:List (List cH)}(hL:iF L):∀(c i:Nat),i<=L.length->L.length-i<c->
  S0 (DD X N) n K0 K1 c (i:Int) (dX r L)=K1
 | 0,i,_,h=>by omega
 | c+1,i,h1,h2=>by
  have vI:=hL.n;have j5:(dX r L).2.1.length=L.length:=by unfold dX;simp
  simp only[S0,quw,j5];by_cases hi:i<L.length
  .have hx:=hL.ops _ (er hi);have e:ai (dX r L) (i:Int)=(L[i],0,false,[],[],()):=by unfold ai dX;dsimp only;rw[eB,qv (by simpa using hi),yb]
   have e2:(dX r L).2.1.getD i ([],0,false,[],[],())=(L[i],0,false,[],[],()):=by unfold ai at e;rw[eB]at e;exact e
   rw[qf (by omega),fU (by omega) (by omega),aJ,eB,e2,ai5 hX (by omega) _ hx.1 hx.2,qc];dsimp only;rw[cQ,aN,aaP hX (by omega) rfl (by omega) (by rw[j5];omega) (by rw[e]) (by rw[e]),qc];dsimp only;rw[cQ,aN,qu (by omega)];exact Qp N n hN K0 K1 hL c (i+1) (by omega) (by omega)
  .rw[qg (by omega)]
theorem ai4(hn:W+6<=n){r:qp}(hr:aS r){L:List (List cH)}(hL:iF L):qvv (DD X n) (dX r L)=some ((true,()),()):=by
 obtain⟨n,rfl⟩:∃k,n=k+2:=⟨n-2,by omega⟩
 obtain⟨p,W9⟩:∃p,n=p+1:=⟨n-1,by omega⟩
 have hW:=ez;have vI:=hL.n;have j5:(dX r L).2.1.length=L.length:=by unfold dX;simp
 have mg:(dX r L).1.2.1.length=L.length:=by unfold dX;simp
 have DL:Yc (DD X (n+1)) (dX r L)=some ((true,()),()):=by rw[aht hX];simp only[YA,YX,qwy];rw[W9];simp only[Vz,qzx];rw[qg (by simp[dX])];simp only[qu4,qwz,JP,qzy];rw[qg (by simp[dX])];simp[q61,dX]
 rw[afp hX];simp only[qv1,qwp,qsv];have hm:=QV hX (n:=n+1) (by omega) ((kF r).map fun v=>((v,0,0,()):lX)) (fun x hx=>by
  obtain⟨v,hv,rfl⟩:=eH.1 hx;unfold kF at hv;obtain⟨q,hq,rfl⟩:=eH.1 hv;have:=BN hr (q:Int) (by have:=yh.1 hq;omega);exact⟨rfl,rfl,this.1,by dsimp only;omega⟩) (by rw[jz,rU]) L.length vI.1 vI.2
 refine dI (ew (fun z=>qd z _) hm) ?_;rw[qc];dsimp only;rw[cQ,bg,mg,j5,show((L.length:Int) != (L.length:Int))=false by simp,aN,yF hX (by omega),qc];dsimp only;rw[show(dX r L).2.2.1=0 from rfl,jP ⟨by decide,by decide⟩,cQ,aN,show(dX r L).2.2.2.2.2.1=r from rfl,Pf hX (by omega) hr,qc];dsimp only;rw[cQ,aN,DL,qc];dsimp only;rw[cQ,aN];refine dI (Qp hX (n+1) (n+1) (by omega) _ _ hL (n+1) 0 (fF _) (by omega)) ?_;rfl
theorem Pn(D:Den ctx)(n:Nat)(K:Int->aT->aT->Option ((aT×Bool×Unit)×Unit))(a:Int)(ws:List Int)(hl:ws.length<=1000)(z:aT)(d:List nw×Unit):∀(c i:Nat),i<=ws.length->ws.length-i<c->
  Th D n K c a (i:Int) z ((ws.take i).map (fun v=>((v,0,0,()):lX)),d) ws=K a z (ws.map (fun v=>((v,0,0,()):lX)),d)
 | 0,i,_,h2=>by omega
 | c+1,i,h0,h2=>by
  have hb:=i7;simp only[Th,YG];by_cases hi:i<ws.length
  .have ih:=Pn D n K a ws hl z d c (i+1) (by omega) (by omega);rw[qf (by omega),ix hi,aJ,eB,qv hi,qu (by omega)];rw[qf (by rw[jz,e9];omega)];rw[nG hi,pI]at ih;exact ih
  .rw[qg (by omega),show ws.take i=ws from kq (by omega)]
theorem O2(N n:Nat)(hN:1<=N)(K:Bool->aH->aH->Option ((aH×Bool×Unit)×Unit))(L:List (List cH))(hl:L.length<=1000)(h1:∀ops∈L,ops.length<=1000)(b:Bool)(z:aH)(a:aT)(e:Int×List gH×List Int×qp×Unit):∀(c i:Nat),i<=L.length->L.length-i<c->
  SW (DD X N) n K c L b (i:Int) z (a,(L.take i).map (fun ops=>((ops,0,false,[],[],()):cK)),e)=K b z (a,L.map (fun ops=>((ops,0,false,[],[],()):cK)),e)
 | 0,i,_,h2=>by omega
 | c+1,i,h0,h2=>by
  have hb:=i7;simp only[SW,qsu];by_cases hi:i<L.length
  .have ih:=O2 N n hN K L hl h1 b z a e c (i+1) (by omega) (by omega);have hd:=h1 _ (er hi);obtain⟨N,rfl⟩:∃k,N=k+1:=⟨N-1,by omega⟩
   rw[qf (by omega),ix hi,aJ,eB,qv hi,qu (by omega),afq hX];simp only[qv2,q91];rw[qf (by omega),qc];dsimp only;rw[qf (by rw[jz,e9];omega)];rw[nG hi,pI]at ih;exact ih
  .rw[qg (by omega),show L.take i=L from kq (by omega)]
theorem ain(hn:W+8<=n){r:qp}(hr:aS r){L:List (List cH)}(hL:iF L):qtw (DD X n) r L=some ((dX r L,true,()),()):=by
 obtain⟨n,rfl⟩:∃k,n=k+2:=⟨n-2,by omega⟩
 have hW:=ez;have hb:=i7;have vI:=hL.n;have hrl:=hr.len;have hmem:Zi (DD X (n+1)) r (L.length:Int)=some (((dX r L).1,true,()),()):=by
  rw[aii hX];simp only[Y5,ZL,qzk];obtain⟨ws,w1,w2,w3⟩:=acL hX (n:=n) (by omega) hr;have qF:ws=kF r:=Qk w1 (rU r) (fun p hp=>by rw[w2 p hp,qQ r hp];rfl);rw[w3,qc,qF];dsimp only;refine dI (Pn hX (DD X n) n _ (L.length:Int) (kF r) (by rw[rU];omega) ([],[],()) ([],()) n 0 (fF _) (by rw[rU];omega)) ?_;simp only[q9w];rw[yF hX (by omega),qc];dsimp only;rw[jP ⟨by omega,by omega⟩,aJ,show(decide (0<=(L.length:Int))&&decide ((L.length:Int)<=(L.length:Int))&&decide ((L.length:Int)<=(f_:Int)))=true by simp;omega,aJ];have hm:=QV hX (n:=n) (by omega) ((kF r).map fun v=>((v,0,0,()):lX)) (fun x hx=>by
   obtain⟨v,hv,rfl⟩:=eH.1 hx;unfold kF at hv;obtain⟨q,hq,rfl⟩:=eH.1 hv;have:=BN hr (q:Int) (by have:=yh.1 hq;omega);exact⟨rfl,rfl,this.1,by dsimp only;omega⟩) (by rw[jz,rU]) L.length vI.1 vI.2
  rw[eB];refine dI (ew (fun z=>qd z _) hm) ?_;rw[qc];dsimp only;rw[cQ,aN];rfl
 have Ww:Zk (DD X (n+1)) r=some ((r,()),()):=by rw[ahQ hX];simp only[Y_,O6];rw[qf (by omega)];rfl
 rw[ae2 hX];simp only[qua,quu,qqz];rw[hmem,qc,Ww,qc];dsimp only;refine dI (O2 hX (n+1) (n+1) (by omega) _ L (by omega) (fun ops h=>by have:=(hL.ops ops h).1;omega) true (([],[],()),[],0,[],[],([],0,()),()) (dX r L).1 (0,[],[],r,()) (n+1) 0 (fF _) (by omega)) ?_;simp only[qzj];have hm:=ai4 hX (n:=n+1) (by omega) hr hL;rw[cQ,aN];refine dI (ew (fun z=>qd z _) hm) ?_;rw[qc];dsimp only;rw[cQ,aN];rfl
end
def o_(l:List gH)(r:qp)(ks:List Int):qp:=ks.foldl (fun s k=>jg s (ay l k).2.1 (ay l k).2.2.2.2.2.1.1) r
theorem Rd(l:List gH)(r:qp)(ks:List Int)(k:Int):o_ l r (ks++[k])=jg (o_ l r ks) (ay l k).2.1 (ay l k).2.2.2.2.2.1.1:=by unfold o_;rw[List.foldl_append];rfl
theorem ND{l:List gH}{r:qp}{ks:List Int}{s:qp}(h:iS l r ks s):s=o_ l r ks:=by
 induction h with
 | nil=>rfl
 | snoc h1 h2 h3 ih=>rw[Rd,<-ih]
theorem aj9{l:List gH}{r:qp}{ks:List Int}{s:qp}(h:iS l r ks s):∀(i:Nat)(hi:i<ks.length),aS (o_ l r (ks.take i))/\Out (o_ l r (ks.take i)) (ay l ks[i]).2.1 (ay l ks[i]).2.2.2.2.2.1.1 (ay l ks[i]).2.2.2.2.2.1.2.1:=by
 induction h with
 | nil=>intro i hi;simp at hi
 | @snoc s ks k h1 h2 h3 ih=>
  intro i hi;by_cases e:i<ks.length
  .have:=ih i e;rw[og (by omega),List.getElem_append_left e];exact this
  .have:i=ks.length:=by rw[cI,l9]at hi;omega
   subst this;have e2:=ND h1;rw[og (ck _),ye,<-e2,List.getElem_append_right (ck _)];simp only[Nat.sub_self,Su];exact⟨h2,h3⟩
section
variable {X:Ext} (hX:fI X) {n:Nat}
include hX
theorem abw(hn:W+2<=n){m:aT}{k:Nat}{time:Int}{own:Int->Prop}(I:eR m k time own)(hk:k<=3){p:Int}(p0:0<=p)(p1:p<20):X4 (DD X n) m.1 m.2.1 p=some ((fW m p,()),()):=by
 obtain⟨n,rfl⟩:∃k,n=k+1:=⟨n-1,by omega⟩
 have hW:=ez;have hlen:=I.len;have mg:=I.di;have mF:m.1.getD p.toNat (0,0,0,())=wd m p:=rfl;rw[ahh hX];simp only[X1,OE];rw[qs (by omega) (by omega),lD hX (by omega),qc];dsimp only;rw[jP ⟨p0,by omega⟩,cQ,aN,fU p0 (by omega),aJ,mF];rcases I.word p p0 p1 with h | ⟨u,u0,u1,uo,e,j,j0,j1,je⟩
 .rw[qf h.1,u6 h.1]
 .have alq:=(I.dj u u0 u1).len;have e2:(wd m p).2.1=u+1:=by rw[e];rfl
  have e3:(wd m p).2.2.1=(aq m u).1:=by rw[e];rfl
  have e1:wrap .i64 ((wd m p).2.1-1)=u:=by rw[qs (by omega) (by omega)];omega
  have zW:m.2.1.getD u.toNat (0,0,[],(0,[],()),())=aq m u:=rfl;rw[qg (by omega),lD hX (by omega),qc];dsimp only;rw[jP ⟨by omega,by omega⟩,cQ,aN,e1,fU u0 (by omega),aJ,zW,QS hX (by omega) _ (by omega),qc];dsimp only;rw[bC e3.symm,bz,zB u0 e];by_cases h2:(aq m u).2.1=2
  .rw[qf h2,aj h2]
  .rw[qg h2,af h2]
theorem Q7(N n:Nat)(hN:W+2<=N)(K:List Int->Option ((List Int×Unit)×Unit)){m:aT}{k:Nat}{time:Int}{own:Int->Prop}(I:eR m k time own)(hk:k<=3){R:qp}(hv:∀p:Int,0<=p->p<20->fW m p=bV R p):∀(c i:Nat),i<=20->20-i<c->
  S6 (DD X N) n K c m.1 m.2.1 20 (i:Int) ((kF R).take i)=K (kF R)
 | 0,i,_,h2=>by omega
 | c+1,i,h0,h2=>by
  have hb:=i7;have hl:=rU R;simp only[S6,qyo];by_cases hi:i<20
  .have ih:=Q7 N n hN K I hk hv c (i+1) (by omega) (by omega);have hi2:i<(kF R).length:=by omega
   rw[qf (by omega),abw hX (by omega) I hk (by omega) (by omega),qc];dsimp only;rw[qf (by rw[e9];omega),qu (by omega),hv _ (by omega) (by omega)];rw[nG hi2]at ih;have:=qQ R hi;rw[qv hi2]at this;rw[<-this];exact ih
  .rw[qg (by omega),show(kF R).take i=kF R from kq (by omega)]
theorem abr(hn:W+3<=n){m:aT}{k:Nat}{time:Int}{own:Int->Prop}(I:eR m k time own)(hk:k<=3){R:qp}(hv:∀p:Int,0<=p->p<20->fW m p=bV R p):X3 (DD X n) m.1 m.2.1=some ((kF R,()),()):=by
 obtain⟨n,rfl⟩:∃k,n=k+1:=⟨n-1,by omega⟩
 have hW:=ez;have hlen:=I.len;rw[ahe hX];simp only[XY,Yi,qwc];rw[hlen];exact Q7 hX n n (by omega) _ I hk hv n 0 (by omega) (by omega)
end
theorem abi{r:qp}(hr:aS r){L:List (List cH)}(hL:iF L){who:List Int}(hw:uK L who 720):Inv (tM (dX r L) who)/\(tM (dX r L) who).2.2.1<=720/\(tM (dX r L) who).2.1.length=L.length/\who.length<=2000/\
  (∀t∈who,0<=t/\t<(dX r L).2.1.length)/\(dX r L).2.2.1+who.length<=100000:=by
 have j5:(dX r L).2.1.length=L.length:=by unfold dX;simp
 have hwl:=hw.1;have hall:∀t∈who,0<=t/\t<(dX r L).2.1.length:=fun t h=>by rw[j5];exact hw.2 t h
 have hX:fI xV:=Sj;obtain⟨h1,h2,_⟩:=acG hX who (Mg hr hL) hall;have e:(dX r L).2.2.1=0:=rfl;refine⟨h1,by omega,by rw[ac7,j5],by omega,hall,by omega⟩
structure Kept (a b:aH):Prop where
 time:a.2.2.1<=b.2.2.1
 calls:a.2.2.2.1.length<=b.2.2.2.1.length
 each:∀k:Int,0<=k->k<a.2.2.2.1.length->(ay a.2.2.2.1 k).1=(ay b.2.2.2.1 k).1/\(ay a.2.2.2.1 k).2.1=(ay b.2.2.2.1 k).2.1/\(ay a.2.2.2.1 k).2.2.1=(ay b.2.2.2.1 k).2.2.1/\
  (0<=(ay a.2.2.2.1 k).2.2.2.1->(ay a.2.2.2.1 k).2.2.2.1=(ay b.2.2.2.1 k).2.2.2.1/\(ay a.2.2.2.1 k).2.2.2.2.2.1=(ay b.2.2.2.1 k).2.2.2.2.2.1)/\
  (0<=(ay a.2.2.2.1 k).2.2.2.2.1->(ay a.2.2.2.1 k).2.2.2.2.1=(ay b.2.2.2.1 k).2.2.2.2.1)
 order:∃o,b.2.2.2.2.1=a.2.2.2.2.1++o
 di:b.1.2.1.length=a.1.2.1.length
 seq:∀t:Int,0<=t->t<a.1.2.1.length->(aq a.1 t).1<=(aq b.1 t).1
theorem Kept.refl(a:aH):Kept a a:=⟨e_ _,ck _,fun k _ _=>⟨rfl,rfl,rfl,fun _=>⟨rfl,rfl⟩,fun _=>rfl⟩,⟨[],by simp⟩,rfl,fun t _ _=>e_ _⟩
theorem Kept.trans{a b c:aH}(h:Kept a b)(h2:Kept b c):Kept a c:=by
 obtain⟨o,ho⟩:=h.order;obtain⟨o2,nY⟩:=h2.order;have hd:=h.di;have hc:=h.calls;refine⟨Ip h.time h2.time,nK h.calls h2.calls,fun k k0 k1=>?_,⟨o++o2,by rw[nY,ho,eG]⟩,h2.di.trans h.di,fun t t0 t1=>Ip (h.seq t t0 t1) (h2.seq t t0 (by omega))⟩;obtain⟨a1,a2,a3,a4,a5⟩:=h.each k k0 k1;obtain⟨b1,b2,b3,b4,b5⟩:=h2.each k k0 (by omega);refine⟨a1.trans b1,a2.trans b2,a3.trans b3,fun q=>?_,fun q=>?_⟩
 .obtain⟨c1,c2⟩:=a4 q;obtain⟨d1,d2⟩:=b4 (by omega);exact⟨c1.trans d1,c2.trans d2⟩
 .have c1:=a5 q;exact c1.trans (b5 (by omega))
theorem Kept.ai{a b:aH}(h:Kept a b)(t:Int)(x:cK):Kept a (ct b t x):=⟨h.time,h.calls,h.each,h.order,h.di,h.seq⟩
theorem Kept.mem{a:aH}{x:aT}(hd:x.2.1.length=a.1.2.1.length)(hs:∀t:Int,0<=t->t<a.1.2.1.length->(aq a.1 t).1<=(aq x t).1):Kept a (cE a x):=
 ⟨e_ _,ck _,fun k _ _=>⟨rfl,rfl,rfl,fun _=>⟨rfl,rfl⟩,fun _=>rfl⟩,⟨[],by show a.2.2.2.2.1=_;simp⟩,hd,hs⟩
open Classical in
noncomputable def ind(p:Prop):Int:=if p then 1 else 0
theorem vU{p:Prop}(h:p):ind p=1:=aj h
theorem o8{p:Prop}(h:¬ p):ind p=0:=af h
theorem nP(p:Prop):0<=ind p/\ind p<=1:=by unfold ind;split<;>omega
theorem B4{p q:Prop}(h:p->q):ind p<=ind q:=by
 by_cases hp:p
 .rw[vU hp,vU (h hp)];exact e_ _
 .rw[o8 hp];exact(nP q).1
theorem xJ{p q:Prop}(h:p↔q):ind p=ind q:=ew ind (propext h)
def fD(n:Nat)(T:Int)(f:Int->Int):Int:=
 (if (0:Int)<n/\(0:Int)≠T then f 0 else 0)+(if (1:Int)<n/\(1:Int)≠T then f 1 else 0)+(if (2:Int)<n/\(2:Int)≠T then f 2 else 0)
theorem Jy{n:Nat}{T:Int}{f g:Int->Int}(h:∀U:Int,0<=U->U<n->U≠T->f U<=g U):fD n T f<=fD n T g:=by
 have one:∀U:Int,0<=U->(if U<n/\U≠T then f U else 0)<=(if U<n/\U≠T then g U else 0):=fun U u0=>by
  by_cases c:U<n/\U≠T
  .rw[aj c,aj c];exact h U u0 c.1 c.2
  .rw[af c,af c];exact e_ _
 have a:=one 0 (by omega);have b:=one 1 (by omega);have c:=one 2 (by omega);unfold fD;omega
theorem HR{n:Nat}{T:Int}{f g:Int->Int}(h:∀U:Int,0<=U->U<n->U≠T->f U=g U):fD n T f=fD n T g:=
 Int.le_antisymm (Jy fun U a b c=>kA (h U a b c)) (Jy fun U a b c=>kA (h U a b c).symm)
theorem Bh{n:Nat}(hn:n<=3){T V d:Int}{f g:Int->Int}(v0:0<=V)(v1:V<n)(vT:V≠T)(hV:f V+d<=g V)(h:∀U:Int,0<=U->U<n->U≠T->U≠V->f U<=g U):fD n T f+d<=fD n T g:=by
 have one:∀U:Int,0<=U->U≠V->(if U<n/\U≠T then f U else 0)<=(if U<n/\U≠T then g U else 0):=fun U u0 uV=>by
  by_cases c:U<n/\U≠T
  .rw[aj c,aj c];exact h U u0 c.1 c.2 uV
  .rw[af c,af c];exact e_ _
 have eV:∀f:Int->Int,(if V<n/\V≠T then f V else 0)=f V:=fun f=>aj ⟨v1,vT⟩;have e1:=eV f;have e2:=eV g;unfold fD;have hv:V=0\/V=1\/V=2:=by omega
 rcases hv with rfl | rfl | rfl
 .have b:=one 1 (by omega) (by omega);have c:=one 2 (by omega) (by omega);omega
 .have b:=one 0 (by omega) (by omega);have c:=one 2 (by omega) (by omega);omega
 .have b:=one 0 (by omega) (by omega);have c:=one 1 (by omega) (by omega);omega
theorem PX{n:Nat}{T:Int}{f:Int->Int}(h:∀U:Int,0<=U->U<n->U≠T->0<=f U):0<=fD n T f:=by
 have:=Jy (f:=fun _=>0) h;have e:fD n T (fun _=>0)=0:=by unfold fD;split<;>split<;>split<;>rfl
 omega
def lf(m:aH)(U:Int):Int:=((ai m U).1.length:Int)-(ai m U).2.1
def gt(m:aH)(U:Int):dK:=(ai m U).2.2.2.1
def bad(m:aT)(g:dK):Prop:=∃x∈g,fW m x.1≠x.2.1
def lG(m:aH)(U:Int):Prop:=bw m U/\(aq m.1 U).2.1=2
noncomputable def Yv(m:aH)(U:Int):Int:=lf m U-ind (lG m U)
def pM(m:aH)(U:Int):Prop:=(bw m U/\(aq m.1 U).2.1=3)\/(¬ lG m U/\bad m.1 (gt m U))
noncomputable def AA(m:aH)(U:Int):Int:=lf m U+fD m.2.1.length U (Yv m)+ind (pM m U)
noncomputable def o3(m:aH)(T:Int):Int:=
 match (ai m T).2.2.2.2.1 with
 | h::_=>if h.1=T then 1+h.2.2.1+ind ((aq m.1 T).2.1≠1)+h.2.2.2.1 else 0
 | []=>0
noncomputable def j7(m:aH)(T:Int):Int:=ind ((ai m T).2.2.1=true)+(gt m T).length+o3 m T
noncomputable def PP(m:aH)(T:Int):Int:=28 * AA m T-j7 m T
def lK(x:cK)(T:Int):Option gv:=if x.2.2.2.2.1=[] then none else if (au x).1=T then none else some (au x)
def oa(m:aH)(h:gv):Prop:=bw m h.1/\h.2.1=(aq m.1 h.1).1
def vn(m:aT)(U:Int):Prop:=∃p:Int,0<=p/\p<20/\wd m p=dL U (aq m U).1
def nT(m:aT)(C U:Int):Prop:=(aq m C).2.1=1/\∃i:Int,0<=i/\i<(aq m C).2.2.1.length/\(∀j:Int,0<=j->j<i->wd m (qi (aq m C).2.2.1 j).1=dL C (aq m C).1)/\wd m (qi (aq m C).2.2.1 i).1=dL U (aq m U).1
def Ag(m:aH)(T U:Int):Prop:=∃C:Int,0<=C/\C<m.2.1.length/\C≠T/\C≠U/\nT m.1 C U
open Classical in
noncomputable def m9(m:aH)(T:Int)(h:gv):Int:=if oa m h/\(aq m.1 h.1).2.1=1 then 1+10 * ind (Ag m T h.1)+h.2.2.1 else 20+h.2.2.2.1
noncomputable def kQ(m:aH)(T U:Int):Int:=match lK (ai m T) T with | none=>0 | some h=>if h.1=U then m9 m T h else 0
def rf(m:aH)(T U:Int):Prop:=∃h,lK (ai m T) T=some h/\h.1=U/\¬ oa m h
def we(m:aH)(T U:Int):Prop:=∃h,lK (ai m T) T=some h/\h.1=U/\oa m h
def q_(m:aH)(T U:Int):Prop:=bw m U/\(aq m.1 U).2.1≠1/\¬ vn m.1 U/\¬ we m T U
noncomputable def QQ(m:aH)(T U:Int):Int:=29 * (AA m U+ind (rf m T U)-ind (q_ m T U))-kQ m T U
noncomputable def iQ(m:aH)(T:Int):Int:=PP m T+fD m.2.1.length T (QQ m T)
structure jI (m m':aH) (t:Int) (a:aT) (x:cK):Prop where
 n:m'.2.1.length=m.2.1.length
 mem:m'.1=a
 ai:∀U:Int,0<=U->ai m' U=if U=t then x else ai m U
inductive Kind (m:aH) (t:Int):aT->cK->Prop
 | yY:(ai m t).2.2.1=false->Kind m t m.1 ((ai m t).1,(ai m t).2.1,true,(ai m t).2.2.2)
 | push (v p:Int):(ai m t).2.2.1=true->((ai m t).2.2.2.2.1=[]\/∃k,(ai m t).2.2.2.2.1=[k]/\k.1=t/\nT m.1 t v)->0<=v->v<m.2.1.length->v≠t->bw m v->0<=p->p<20->wd m.1 p=dL v (aq m.1 v).1->
   Kind m t m.1 (rm (ai m t) (v,(aq m.1 v).1,0,0,()))
 | got (q:Int):(ai m t).2.2.1=true->(ai m t).2.2.2.2.1=[]->(0<=q/\q<20)->Kind m t m.1 (rX (ai m t) ((ai m t).2.2.2.1++[(q,fW m.1 q,())]))
 | now:(ai m t).2.2.1=true->(ai m t).2.2.2.2.1=[]->Kind m t m.1 ((ai m t).1,(ai m t).2.1+1,false,[],[],())
 | new (q:Int) (E:List eu) (r:fz):(ai m t).2.2.1=true->(ai m t).2.2.2.2.1=[]->(∀p:Int,0<=p->p<20->fW (bI m.1 t ((aq m.1 t).1+1,1,E,r,())) p=fW m.1 p)->(0<=q/\q<20)->
   Kind m t (bI m.1 t ((aq m.1 t).1+1,1,E,r,())) (rm (rX (ai m t) ((ai m t).2.2.2.1++[(q,fW m.1 q,())])) (t,(aq m.1 t).1+1,0,0,()))
 | qJ:(ai m t).2.2.2.2.1≠[]->(au (ai m t)).1≠t->((au (ai m t)).2.1=(aq m.1 (au (ai m t)).1).1->(aq m.1 (au (ai m t)).1).2.1≠1/\¬ vn m.1 (au (ai m t)).1)->Kind m t m.1 (jf (ai m t))
 | yes:(ai m t).2.2.2.2.1≠[]->(au (ai m t)).2.1=(aq m.1 (au (ai m t)).1).1->(aq m.1 (au (ai m t)).1).2.1=1->
   (∀i:Int,0<=i->i<(aq m.1 (au (ai m t)).1).2.2.1.length->wd m.1 (qi (aq m.1 (au (ai m t)).1).2.2.1 i).1=dL (au (ai m t)).1 (aq m.1 (au (ai m t)).1).1)->
   Kind m t (bI m.1 (au (ai m t)).1 ((aq m.1 (au (ai m t)).1).1,2,(aq m.1 (au (ai m t)).1).2.2)) (ai m t)
 | mA:(ai m t).2.2.2.2.1≠[]->(au (ai m t)).2.1=(aq m.1 (au (ai m t)).1).1->(aq m.1 (au (ai m t)).1).2.1=1->
   Kind m t m.1 (j_ (ai m t) ((au (ai m t)).1,(au (ai m t)).2.1,(au (ai m t)).2.2.1+1,(au (ai m t)).2.2.2))
 | swap (v:Int):(ai m t).2.2.2.2.1≠[]->(au (ai m t)).2.1=(aq m.1 (au (ai m t)).1).1->(aq m.1 (au (ai m t)).1).2.1=1->(au (ai m t)).1≠t->v≠(au (ai m t)).1->0<=v->v<m.2.1.length->bw m v->
   nT m.1 (au (ai m t)).1 v->Kind m t m.1 (j_ (ai m t) (v,(aq m.1 v).1,0,0,()))
 | lay (p:Int):(ai m t).2.2.2.2.1≠[]->(au (ai m t)).2.1=(aq m.1 (au (ai m t)).1).1->(aq m.1 (au (ai m t)).1).2.1=1->0<=p->p<20->(wd m.1 p).2.1=0->
   (∀q:Int,0<=q->q<20->fW (ep m.1 p (dL (au (ai m t)).1 (au (ai m t)).2.1)) q=fW m.1 q)->
   Kind m t (ep m.1 p (dL (au (ai m t)).1 (au (ai m t)).2.1)) (j_ (ai m t) ((au (ai m t)).1,(au (ai m t)).2.1,(au (ai m t)).2.2.1+1,(au (ai m t)).2.2.2))
 | no (i:Int):(ai m t).2.2.2.2.1≠[]->(au (ai m t)).2.1=(aq m.1 (au (ai m t)).1).1->(aq m.1 (au (ai m t)).1).2.1=1->0<=i->i<(aq m.1 (au (ai m t)).1).2.2.1.length->
   (∀j:Int,0<=j->j<i->wd m.1 (qi (aq m.1 (au (ai m t)).1).2.2.1 j).1=dL (au (ai m t)).1 (aq m.1 (au (ai m t)).1).1)->
   (wd m.1 (qi (aq m.1 (au (ai m t)).1).2.2.1 i).1).2.1=0->(wd m.1 (qi (aq m.1 (au (ai m t)).1).2.2.1 i).1).1≠(qi (aq m.1 (au (ai m t)).1).2.2.1 i).2.1->
   (∀q:Int,0<=q->q<20->fW (bI m.1 (au (ai m t)).1 ((aq m.1 (au (ai m t)).1).1,3,(aq m.1 (au (ai m t)).1).2.2)) q=fW m.1 q)->
   Kind m t (bI m.1 (au (ai m t)).1 ((aq m.1 (au (ai m t)).1).1,3,(aq m.1 (au (ai m t)).1).2.2)) (ai m t)
 | pX:(ai m t).2.2.2.2.1≠[]->(au (ai m t)).2.1=(aq m.1 (au (ai m t)).1).1->(aq m.1 (au (ai m t)).1).2.1≠1->
   Kind m t m.1 (j_ (ai m t) ((au (ai m t)).1,(au (ai m t)).2.1,(au (ai m t)).2.2.1,(au (ai m t)).2.2.2.1+1,()))
 | oQ (p y:Int):(ai m t).2.2.2.2.1≠[]->(au (ai m t)).2.1=(aq m.1 (au (ai m t)).1).1->(aq m.1 (au (ai m t)).1).2.1≠1->0<=p->p<20->wd m.1 p=dL (au (ai m t)).1 (au (ai m t)).2.1->
   (∀q:Int,0<=q->q<20->fW (ep m.1 p (y,0,0,())) q=fW m.1 q)->
   Kind m t (ep m.1 p (y,0,0,())) (j_ (ai m t) ((au (ai m t)).1,(au (ai m t)).2.1,(au (ai m t)).2.2.1,(au (ai m t)).2.2.2.1+1,()))
 | pW:(ai m t).2.2.2.2.1≠[]->(au (ai m t)).1=t->(aq m.1 t).2.1=2->¬ vn m.1 t->Kind m t m.1 ((ai m t).1,(ai m t).2.1+1,false,[],[],())
 | Cs:(ai m t).2.2.2.2.1≠[]->(au (ai m t)).1=t->(aq m.1 t).2.1=3->¬ vn m.1 t->Kind m t m.1 ((ai m t).1,(ai m t).2.1,(ai m t).2.2.1,[],[],())
theorem ac5{m:aH}(I:Inv m){u:Int}(u0:0<=u)(h:∀i:Int,0<=i->i<(aq m.1 u).2.2.1.length->wd m.1 (qi (aq m.1 u).2.2.1 i).1≠dL u (aq m.1 u).1):¬ vn m.1 u:=by
 rintro⟨p,p0,p1,e⟩;rcases I.mem.word p p0 p1 with q | ⟨v,v0,v1,vo,vm,i,i0,i1,ie⟩
 .exact vg q.1 u0 e
 .obtain⟨rfl,_⟩:=tJ (vm.symm.trans e);exact h i i0 i1 (by rw[ie];exact e)
theorem RC{m:aH}{t:Int}(t0:0<=t)(t1:t<m.2.1.length)(a:aT)(x:cK):jI m (ct (cE m a) t x) t a x:=
 ⟨o7 _ _ _,rfl,fun U u0=>Bj _ ⟨t0,t1⟩ u0⟩
theorem abT{m m':aH}{t:Int}(e:m'.2.1=m.2.1){a:aT}(ha:m'.1=a):jI m m' t a (ai m t):=
 ⟨by rw[e],ha,fun U u0=>by
  rw[zA e U];by_cases q:U=t
  .rw[aj q,q]
  .rw[af q]⟩
theorem abW{m:aH}(I:Inv m){t:Int}(t0:0<=t)(t1:t<m.2.1.length)(hs:(ai m t).2.2.2.2.1≠[])(h2:∀k k',(ai m t).2.2.2.2.1=[k,k']->k'.1≠t):∃a x,Kind m t a x/\jI m (kD m t) t a x:=by
 have T:=I.th t t0 t1;have ho:=T.Ac hs;have H:=T.dZ _ (mI hs);have hw:=fun e=>T.own _ (mI hs) e;have Uw:=Mw T hs;have kd:∀{a x},(hk:Kind m t a x)->kD m t=ct (cE m a) t x->∃a x,Kind m t a x/\jI m (kD m t) t a x:=fun {a x} hk e=>⟨a,x,hk,by rw[e];exact RC t0 t1 a x⟩
 have K1:=@Kind.qJ m t hs;have K2:=@Kind.yes m t hs;have K3:=@Kind.mA m t hs;have K4:=fun v=>@Kind.swap m t v hs;have K5:=fun p=>@Kind.lay m t p hs;have K6:=fun i=>@Kind.no m t i hs;have K7:=@Kind.pX m t hs;have K8:=fun p y=>@Kind.oQ m t p y hs;have K9:=@Kind.pW m t hs;have K10:=@Kind.Cs m t hs;have hone:∀k,(ai m t).2.2.2.2.1=[k]->au (ai m t)=k:=fun k e=>by unfold au;rw[e];rfl
 have Xp:∀k k',(ai m t).2.2.2.2.1=[k,k']->au (ai m t)=k':=fun k k' e=>by unfold au;rw[e];rfl
 generalize hh:au (ai m t)=h at *;have u0:=H.t.1;have u1:=H.t.2;by_cases hd:(aq m.1 h.1).1≠h.2.1
 .have e:q7 m.1 h=(m.1,h,dH,2,()):=by unfold q7;rw[aj hd]
  have hne:h.1≠t:=fun q=>hd (by rw[q];exact(hw q).symm);refine kd (K1 hne (fun q=>absurd q.symm hd)) ?_;unfold kD;rw[hh,e];dsimp only;rw[af (by decide),aj rfl,aj hne]
 have hd':h.2.1=(aq m.1 h.1).1:=by omega
 obtain⟨c1,c2,c3,c4⟩:=H.cur hd';by_cases hst:(aq m.1 h.1).2.1=1
 .have zT:∀j:Int,0<=j->j<h.2.2.1->wd m.1 (qi (aq m.1 h.1).2.2.1 j).1=dL h.1 (aq m.1 h.1).1:=fun j a b=>by rw[<-hd'];exact(c3 hst).2 j a b
  by_cases ef:((aq m.1 h.1).2.2.1.length:Int)<=h.2.2.1
  .have e:q7 m.1 h=(bI m.1 h.1 ((aq m.1 h.1).1,2,(aq m.1 h.1).2.2),h,dH,3,()):=by unfold q7;rw[af hd,aj hst,aj ef]
   refine⟨_,_,K2 hd' hst (fun i i0 i1=>zT i i0 (by omega)),?_⟩;unfold kD;rw[hh,e];dsimp only;rw[af (by decide),af (by decide),aj rfl,Uw];have e2:(iD (cE m (bI m.1 h.1 ((aq m.1 h.1).1,2,(aq m.1 h.1).2.2))) h.1 (aq m.1 h.1).2.2.2.1).2.1=m.2.1:=by unfold iD;split<;>rfl
   have e4:(iD (cE m (bI m.1 h.1 ((aq m.1 h.1).1,2,(aq m.1 h.1).2.2))) h.1 (aq m.1 h.1).2.2.2.1).1=bI m.1 h.1 ((aq m.1 h.1).1,2,(aq m.1 h.1).2.2):=by unfold iD;split<;>rfl
   have e3:=zA e2 t;rw[<-e3,Ri t0 (by rw[e2];exact t1),e3];exact abT e2 e4
  have hlt:h.2.2.1<(aq m.1 h.1).2.2.1.length:=by omega
  have i0:=H.r8.1;have iT:=I.mem.gU u0 u1 i0 hlt;by_cases hmk:wd m.1 (qi (aq m.1 h.1).2.2.1 h.2.2.1).1=dL h.1 h.2.1
  .have e:q7 m.1 h=(m.1,(h.1,h.2.1,h.2.2.1+1,h.2.2.2),dH,0,()):=by unfold q7;rw[af hd,aj hst,af ef,aj hmk]
   refine kd (K3 hd' hst) ?_;unfold kD;rw[hh,e];dsimp only;rw[af (by decide),af (by decide),af (by decide)]
  by_cases xk:(wd m.1 (qi (aq m.1 h.1).2.2.1 h.2.2.1).1).2.1≠0
  .have e:q7 m.1 h=(m.1,h,((wd m.1 (qi (aq m.1 h.1).2.2.1 h.2.2.1).1).2.1-1,(wd m.1 (qi (aq m.1 h.1).2.2.1 h.2.2.1).1).2.2.1,0,0,()),1,()):=by unfold q7;rw[af hd,aj hst,af ef,af hmk,aj xk]
   rcases I.mem.word _ iT.1.1 iT.1.2 with hq | ⟨v,v0,v1,vo,vm,j,j0,j1,je⟩
   .exact absurd hq.1 xk
   have e2:((wd m.1 (qi (aq m.1 h.1).2.2.1 h.2.2.1).1).2.1-1,(wd m.1 (qi (aq m.1 h.1).2.2.1 h.2.2.1).1).2.2.1,(0:Int),(0:Int),())=(v,(aq m.1 v).1,0,0,()):=by rw[vm];simp only[dL];rw[show v+1-1=v by omega]
   rw[e2]at e;have Ux:v≠h.1:=fun q=>hmk (by rw[vm,q,hd']);have f6:nT m.1 h.1 v:=⟨hst,h.2.2.1,i0,hlt,zT,vm⟩
   by_cases hc:h.1=t/\(ai m t).2.2.2.2.1.length=1
   .have hk:∃k,(ai m t).2.2.2.2.1=[k]:=by
     match hq:(ai m t).2.2.2.2.1,hc.2 with
     | [k],_=>exact⟨k,rfl⟩
    obtain⟨k,hk⟩:=hk;have DU:k.1=t:=by rw[<-hone k hk];exact hc.1
    refine kd (Kind.push v _ ho (.inr ⟨k,hk,DU,hc.1 ▸ f6⟩) v0 v1 (by rw[<-hc.1];exact Ux) vo iT.1.1 iT.1.2 vm) ?_;unfold kD;rw[hh,e];dsimp only;rw[aj rfl,aj hc]
   .have hne:h.1≠t:=fun q=>by
     rcases T.st with z | ⟨k,z⟩ | ⟨k,k',z,zt⟩
     .exact hs z
     .exact hc ⟨q,by rw[z];rfl⟩
     .exact h2 k k' z (by rw[<-Xp k k' z];exact q)
    refine kd (K4 v hd' hst hne Ux v0 v1 vo f6) ?_;unfold kD;rw[hh,e];dsimp only;rw[aj rfl,af hc]
  have hw0:(wd m.1 (qi (aq m.1 h.1).2.2.1 h.2.2.1).1).2.1=0:=by omega
  by_cases hold:(wd m.1 (qi (aq m.1 h.1).2.2.1 h.2.2.1).1).1=(qi (aq m.1 h.1).2.2.1 h.2.2.1).2.1
  .have e:q7 m.1 h=(ep m.1 (qi (aq m.1 h.1).2.2.1 h.2.2.1).1 (dL h.1 h.2.1),(h.1,h.2.1,h.2.2.1+1,h.2.2.2),dH,0,()):=by unfold q7;rw[af hd,aj hst,af ef,af hmk,af xk,aj hold]
   obtain⟨_,hV,_⟩:=EB I.mem u0 u1 hst i0 hlt hw0 hold zT;rw[<-hd']at hV;refine kd (K5 _ hd' hst iT.1.1 iT.1.2 hw0 hV) ?_;unfold kD;rw[hh,e];dsimp only;rw[af (by decide),af (by decide),af (by decide)]
  .have e:q7 m.1 h=(bI m.1 h.1 ((aq m.1 h.1).1,3,(aq m.1 h.1).2.2),h,dH,0,()):=by unfold q7;rw[af hd,aj hst,af ef,af hmk,af xk,af hold]
   obtain⟨_,_,hV⟩:=HI I.mem u0 u1 (c:=3) hst (.inr rfl);refine kd (K6 h.2.2.1 hd' hst i0 hlt zT hw0 hold (fun q a b=>by rw[hV q a b,af (by omega)])) ?_;unfold kD;rw[hh,e];dsimp only;rw[af (by decide),af (by decide),af (by decide),Uw]
 .by_cases kN:((aq m.1 h.1).2.2.1.length:Int)<=h.2.2.2.1
  .have e:q7 m.1 h=(m.1,h,dH,2,()):=by unfold q7;rw[af hd,af hst,aj kN]
   have hnm:¬ vn m.1 h.1:=ac5 I u0 fun i a b=>by rw[<-hd'];exact c4 hst i a (by omega)
   by_cases hne:h.1≠t
   .refine kd (K1 hne (fun _=>⟨hst,hnm⟩)) ?_;unfold kD;rw[hh,e];dsimp only;rw[af (by decide),aj rfl,aj hne]
   have CB:h.1=t:=by omega
   have hown:=(Jv T hs (by rw[hh];exact CB)).1;have oX:=I.mem.kW t t0 t1 hown;have Xi:=(I.mem.dj t t0 t1).st.2 oX;rw[CB]at hst hnm;by_cases hy:(aq m.1 t).2.1=2
   .refine⟨_,_,K9 CB hy hnm,?_⟩;unfold kD;rw[hh,e];dsimp only;rw[af (by decide),aj rfl,af hne,aj hy];have h2:(ir (cE m m.1) t (aq m.1 t).2.2.2.1).2.1=m.2.1:=by unfold ir;split<;>rfl
    have h1:(ir (cE m m.1) t (aq m.1 t).2.2.2.1).1=m.1:=by unfold ir;split<;>rfl
    unfold d_;refine⟨by rw[o7,h2],h1,fun u u0=>?_⟩;rw[qX (by rw[h2];exact⟨t0,t1⟩) u0,zA h2 u];rfl
   .refine kd (K10 CB (by omega) hnm) ?_;unfold kD;rw[hh,e];dsimp only;rw[af (by decide),aj rfl,af hne,af hy]
  .have hlt:h.2.2.2.1<(aq m.1 h.1).2.2.1.length:=by omega
   have i0:=H.fin.1;have iT:=I.mem.gU u0 u1 i0 hlt;by_cases hmk:wd m.1 (qi (aq m.1 h.1).2.2.1 h.2.2.2.1).1=dL h.1 h.2.1
   .have e:q7 m.1 h=(ep m.1 (qi (aq m.1 h.1).2.2.1 h.2.2.2.1).1 (if (aq m.1 h.1).2.1=2 then (qi (aq m.1 h.1).2.2.1 h.2.2.2.1).2.2.1 else (qi (aq m.1 h.1).2.2.1 h.2.2.2.1).2.1,0,0,()),(h.1,h.2.1,h.2.2.1,h.2.2.2.1+1,()),dH,0,()):=by unfold q7;rw[af hd,af hst,af kN,aj hmk]
    obtain⟨_,hV,_⟩:=MZ I.mem u0 u1 hst i0 hlt (by rw[<-hd'];exact hmk);refine kd (K8 _ _ hd' hst iT.1.1 iT.1.2 hmk hV) ?_;unfold kD;rw[hh,e];dsimp only;rw[af (by decide),af (by decide),af (by decide)]
   .have e:q7 m.1 h=(m.1,(h.1,h.2.1,h.2.2.1,h.2.2.2.1+1,()),dH,0,()):=by unfold q7;rw[af hd,af hst,af kN,af hmk]
    refine kd (K7 hd' hst) ?_;unfold kD;rw[hh,e];dsimp only;rw[af (by decide),af (by decide),af (by decide)]
theorem abX{m:aH}(I:Inv m){t:Int}(t0:0<=t)(t1:t<m.2.1.length)(ho:(ai m t).2.2.1=true)(hs:(ai m t).2.2.2.2.1=[])(oX:(aq m.1 t).1+1<=m.2.2.1):∃a x,Kind m t a x/\jI m (tN m t) t a x:=by
 have T:=I.th t t0 t1;have hop:=T.op ho;have i6:=zC (t:=t) hs;have hno:¬ bw m t:=by unfold bw;rw[i6];simp
 obtain⟨q,B,hq⟩:=T.read ho i6;have oy:=T.along ho;obtain⟨I4,zi⟩:=J4 hop T.got oy;have oD:CU (ai m t)=q/\(0<=q/\q<20)/\q∉gY (ai m t).2.2.2.1/\(ai m t).2.2.2.1.length<8:=by
  rcases zi with h | ⟨q',B',h,h2,h3,h4,h5⟩
  .rw[hq]at h;have:=ew List.length h.1;simp at this
  .rw[hq]at h;have:=Fu h;simp only[eS]at this;obtain⟨rfl,_⟩:=this;exact⟨h2,h3,h4,h5⟩
 obtain⟨oD,qC,Xb,hlen⟩:=oD;have kd:∀{a x},(hk:Kind m t a x)->tN m t=ct (cE m a) t x->∃a x,Kind m t a x/\jI m (tN m t) t a x:=fun {a x} hk e=>⟨a,x,hk,by rw[e];exact RC t0 t1 a x⟩
 have DT:iw m (ai m t)=(ai m t).2.2.2.1++[(q,(wd m.1 q).1,())]:=by unfold iw;rw[oD]
 by_cases hw:(wd m.1 q).2.1≠0
 .rcases I.mem.word q qC.1 qC.2 with h | ⟨v,v0,v1,vo,vm,j,j0,j1,je⟩
  .exact absurd h.1 hw
  have e2:((wd m.1 q).2.1-1,(wd m.1 q).2.2.1,(0:Int),(0:Int),())=(v,(aq m.1 v).1,0,0,()):=by rw[vm];simp only[dL];rw[show v+1-1=v by omega]
  refine kd (Kind.push v q ho (.inl hs) v0 v1 (fun e=>hno (by rw[<-e];exact vo)) vo qC.1 qC.2 vm) ?_;unfold tN;rw[oD,aj hw,e2];rfl
 have hw0:(wd m.1 q).2.1=0:=by omega
 have hv:(wd m.1 q).1=fW m.1 q:=(u6 hw0).symm;rw[hv]at DT;by_cases h1:(gh (aX (ai m t)) (iw m (ai m t))).2.1=false
 .refine kd (Kind.got q ho hs qC) ?_;unfold tN;rw[oD,af hw,aj h1,DT];rfl
 by_cases h2:(gh (aX (ai m t)) (iw m (ai m t))).1.1=true
 .refine⟨_,_,Kind.now ho hs,?_⟩;unfold tN;rw[oD,af hw,af h1,aj h2];generalize (gh (aX (ai m t)) (iw m (ai m t))).1.2.1=s;have a1:(ir (iD m t s) t s).2.1=m.2.1:=by
   have h3:(iD m t s).2.1=m.2.1:=by unfold iD;split<;>rfl
   unfold ir;split
   .exact h3
   .exact h3
  have a2:(ir (iD m t s) t s).1=m.1:=by
   have h3:(iD m t s).1=m.1:=by unfold iD;split<;>rfl
   unfold ir;split
   .exact h3
   .exact h3
  have a3:ai (iD m t s) t=ai m t:=zA (by unfold iD;split<;>rfl) t;unfold d_;refine⟨by rw[o7,a1],a2,fun u u0=>?_⟩;rw[qX (by rw[a1];exact⟨t0,t1⟩) u0,zA a1 u,a3]
 .have hV:∀p:Int,0<=p->p<20->fW (bI m.1 t ((aq m.1 t).1+1,1,(gh (aX (ai m t)) (iw m (ai m t))).1.2.2.1,(gh (aX (ai m t)) (iw m (ai m t))).1.2.1,())) p=fW m.1 p:=fun p p0 p1=>by
   have mg:=I.mem.di;have hnm:=Q8 I.mem t0 hno p0 p1;have e:=fun v (v0:0<=v)=>n7 (m:=m.1) (u:=t) (t:=v) (d:=((aq m.1 t).1+1,1,(gh (aX (ai m t)) (iw m (ai m t))).1.2.2.1,(gh (aX (ai m t)) (iw m (ai m t))).1.2.1,())) ⟨t0,by omega⟩ v0;rcases I.mem.word p p0 p1 with z | ⟨v,v0,v1,vo,vm,_⟩
   .rw[u6 (m:=m.1) z.1,u6 (by rw[HW];exact z.1),HW]
   .have hvt:v≠t:=fun z=>hno (z ▸ vo);rw[zB v0 vm,zB (u:=v) v0 (by rw[HW,e v v0,af hvt];exact vm),e v v0,af hvt]
  refine kd (Kind.new q _ _ ho hs hV qC) ?_;unfold tN;rw[oD,af hw,af h1,af h2];rw[DT]
theorem Q4{m:aH}(I:Inv m){t:Int}(t0:0<=t)(t1:t<m.2.1.length)(h2:∀k k',(ai m t).2.2.2.2.1=[k,k']->k'.1≠t):∃a x,Kind (tick m) t a x/\jI (tick m) (vp m t) t a x:=by
 unfold vp;by_cases c1:(ai m t).2.2.1=false
 .rw[aj c1];refine⟨_,_,Kind.yY (m:=tick m) c1,?_⟩;unfold pT;exact⟨o7 _ _ _,rfl,fun U u0=>qX (m:=(m.1,m.2.1,_)) ⟨t0,t1⟩ u0⟩
 rw[af c1];have yZ:(ai m t).2.2.1=true:=by simpa using c1
 by_cases c2:(ai m t).2.2.2.2.1≠[]
 .rw[aj c2];exact abW (IG I) t0 t1 c2 h2
 .rw[af c2];refine abX (IG I) t0 t1 yZ (by show(ai m t).2.2.2.2.1=[];simpa using c2) ?_;have:=(I.mem.dj t t0 t1).seq.2;show(aq m.1 t).1+1<=m.2.2.1+1;omega
theorem akm{l:List eu}(h:lI l){i j:Int}(i0:0<=i)(ij:i<j)(j1:j<l.length):(qi l i).1<(qi l j).1:=by unfold qi;rw[qv (show i.toNat<l.length by omega),qv (show j.toNat<l.length by omega)];exact xA.1 h i.toNat j.toNat (by omega) (by omega) (by omega)
theorem L6{m:aH}(I:Inv m){C U:Int}(c0:0<=C)(c1:C<m.2.1.length)(h:nT m.1 C U)(hne:C≠U):∃p:Int,(0<=p/\p<20)/\wd m.1 p=dL U (aq m.1 U).1/\∀q:Int,0<=q->q<20->wd m.1 q=dL C (aq m.1 C).1->q<p:=by
 obtain⟨hs,i,i0,i1,hb,hi⟩:=h;have he:=I.mem.gU c0 c1 i0 i1;refine⟨_,he.1,hi,fun q q0 q1 hq=>?_⟩;rcases I.mem.word q q0 q1 with z | ⟨v,v0,v1,vo,vm,j,j0,j1,je⟩
 .exact absurd hq (vg z.1 c0)
 .obtain⟨rfl,_⟩:=tJ (vm.symm.trans hq);have hji:j<i:=by
   rcases BE j i with z | z | z
   .exact z
   .rw[z]at je;rw[je]at hi;exact absurd (tJ (hi.symm.trans hq)).1.symm hne
   .have:=I.mem.pre v c0 c1 hs i j i0 z j1 (by rw[je];exact hq);exact absurd (tJ (this.symm.trans hi)).1 hne
  have oR:=(I.mem.dj v c0 c1).zL;rw[<-je];exact akm oR j0 hji i1
theorem UD{m:aH}(I:Inv m){A B:Int}(a0:0<=A)(a1:A<m.2.1.length)(b0:0<=B)(b1:B<m.2.1.length)(h:nT m.1 A B)(h2:nT m.1 B A)(hne:A≠B):False:=by obtain⟨p,pr,pm,pl⟩:=L6 I a0 a1 h hne;obtain⟨q,qr,qm,ql⟩:=L6 I b0 b1 h2 hne.symm;have:=pl q qr.1 qr.2 qm;have:=ql p pr.1 pr.2 pm;omega
theorem no3{m:aH}(I:Inv m){A B C:Int}(a0:0<=A)(a1:A<m.2.1.length)(b0:0<=B)(b1:B<m.2.1.length)(c0:0<=C)(c1:C<m.2.1.length)(h:nT m.1 A B)(h2:nT m.1 B C)(h3:nT m.1 C A)
  (n1:A≠B) (n2:B≠C) (n3:C≠A):False:=by
 obtain⟨p,pr,pm,pl⟩:=L6 I a0 a1 h n1;obtain⟨q,qr,qm,ql⟩:=L6 I b0 b1 h2 n2;obtain⟨s,sr,sm,sl⟩:=L6 I c0 c1 h3 n3;have:=pl s sr.1 sr.2 sm;have:=ql p pr.1 pr.2 pm;have:=sl q qr.1 qr.2 qm;omega
theorem air{m:aT}{C U:Int}(h:nT m C U)(hne:C≠U)(hall:∀i:Int,0<=i->i<(aq m C).2.2.1.length->wd m (qi (aq m C).2.2.1 i).1=dL C (aq m C).1):False:=by obtain⟨hs,i,i0,i1,hb,hi⟩:=h;exact hne (tJ ((hall i i0 i1).symm.trans hi)).1
theorem ahG{m:aT}{C U:Int}(u0:0<=U)(c0:0<=C)(h:nT m C U)(hne:C≠U){k:Int}(k0:0<=k)(k1:k<(aq m C).2.2.1.length)(hb:∀j:Int,0<=j->j<k->wd m (qi (aq m C).2.2.1 j).1=dL C (aq m C).1)
  (hk:(wd m (qi (aq m C).2.2.1 k).1).2.1=0):False:=by
 obtain⟨hs,i,i0,i1,Uf,hi⟩:=h;rcases BE i k with z | z | z
 .exact hne (tJ ((hb i i0 z).symm.trans hi)).1
 .rw[z]at hi;exact vg hk u0 hi
 .exact vg hk c0 (Uf k k0 z)
theorem TM{m:aH}(I:Inv m){t:Int}(t0:0<=t)(t1:t<m.2.1.length){a:aT}{x:cK}(K:Kind m t a x){C U:Int}(c0:0<=C)(c1:C<m.2.1.length)(u0:0<=U)(u1:U<m.2.1.length)(hne:C≠U)
  (hU:(aq m.1 U).2.1=1) (IX:(aq a U).2.1=1) (h:nT m.1 C U):nT a C U:=by
 have mg:=I.mem.di;have hlen:=I.mem.len;have T:=I.th t t0 t1;have uj:∀u:Int,0<=u->u<m.2.1.length->∀d:nw,u≠C->u≠U->nT (bI m.1 u d) C U:=fun u a0 a1 d n1 n2=>by
  obtain⟨hs,i,i0,i1,hb,hi⟩:=h;have e:∀v:Int,0<=v->v≠u->aq (bI m.1 u d) v=aq m.1 v:=fun v v0 q=>by rw[n7 ⟨a0,by omega⟩ v0,af q]
  have eC:=e C c0 (fun q=>n1 q.symm);have eU:=e U u0 (fun q=>n2 q.symm);unfold nT;rw[eC,eU];exact⟨hs,i,i0,i1,hb,hi⟩
 have oG:∀(p:Int)(w:lX),0<=p->p<20->wd m.1 p≠dL C (aq m.1 C).1->wd m.1 p≠dL U (aq m.1 U).1->nT (ep m.1 p w) C U:=fun p w p0 p1 q1 q2=>by
  obtain⟨hs,i,i0,i1,hb,hi⟩:=h;have hw:∀q:Int,0<=q->q≠p->wd (ep m.1 p w) q=wd m.1 q:=fun q q0 qn=>by rw[EH (by omega) q0,af qn]
  refine⟨hs,i,i0,i1,fun j j0 j1=>?_,?_⟩
  .have he:=I.mem.gU c0 c1 j0 (show j<(aq m.1 C).2.2.1.length by omega);show wd (ep m.1 p w) (qi (aq m.1 C).2.2.1 j).1=dL C (aq m.1 C).1;rw[hw _ he.1.1 (fun z=>q1 (by rw[<-z];exact hb j j0 j1))];exact hb j j0 j1
  .have he:=I.mem.gU c0 c1 i0 i1;show wd (ep m.1 p w) (qi (aq m.1 C).2.2.1 i).1=dL U (aq m.1 U).1;rw[hw _ he.1.1 (fun z=>q2 (by rw[<-z];exact hi))];exact hi
 cases K with
 | yY=>exact h
 | push=>exact h
 | got=>exact h
 | now=>exact h
 | qJ=>exact h
 | mA=>exact h
 | swap=>exact h
 | pX=>exact h
 | pW=>exact h
 | Cs=>exact h
 | new q E r ho hs hv=>
  have hno:¬ bw m t:=by unfold bw;rw[zC hs];simp
  exact uj t t0 t1 _ (fun z=>hno (I.mem.jN t t0 t1 (by rw[z];exact h.1))) (fun z=>hno (I.mem.jN t t0 t1 (by rw[z];exact hU)))
 | yes hs h1 h2 h3=>have H:=T.dZ _ (mI hs);refine uj _ H.t.1 H.t.2 _ (fun z=>air h hne (by rw[<-z];exact h3)) (fun z=>?_);rw[z]at IX;rw[n7 ⟨u0,by omega⟩ u0,aj rfl]at IX;dsimp only at IX;omega
 | no i hs h1 h2 i0 i1 hb hw hv hval=>
  have H:=T.dZ _ (mI hs);refine uj _ H.t.1 H.t.2 _ (fun z=>?_) (fun z=>?_)
  .rw[z]at i1 hb hw;exact ahG u0 c0 h hne i0 i1 hb hw
  .rw[z]at IX;rw[n7 ⟨u0,by omega⟩ u0,aj rfl]at IX;dsimp only at IX;omega
 | lay p hs h1 h2 p0 p1 hw hv=>exact oG p _ p0 p1 (vg hw c0) (vg hw u0)
 | oQ p y hs h1 h2 p0 p1 hw hv=>
  refine oG p _ p0 p1 (fun z=>?_) (fun z=>?_)
  .have:=(tJ (hw.symm.trans z)).1;rw[this]at h2;exact h2 h.1
  .have:=(tJ (hw.symm.trans z)).1;rw[this]at h2;exact h2 hU
def sB(m:aT)(n:Nat)(t u:Int):Prop:=nT m t u\/∃v:Int,0<=v/\v<n/\v≠t/\v≠u/\nT m t v/\nT m v u
def Live(m:aH):Prop:=∀t:Int,0<=t->t<m.2.1.length->∀k k',(ai m t).2.2.2.2.1=[k,k']->k'.1≠t/\(k'.2.1=(aq m.1 k'.1).1->(aq m.1 k'.1).2.1=1->sB m.1 m.2.1.length t k'.1)
theorem aaS{m:aH}(I:Inv m){t:Int}(t0:0<=t)(t1:t<m.2.1.length){a:aT}{x:cK}(K:Kind m t a x){u w:Int}(u0:0<=u)(u1:u<m.2.1.length)(w0:0<=w)(w1:w<m.2.1.length)(hne:u≠w)
  (hw:(aq m.1 w).2.1=1) (iU:(aq a w).2.1=1) (h:sB m.1 m.2.1.length u w):sB a m.2.1.length u w:=by
 rcases h with h | ⟨v,v0,v1,vu,vw,h1,h2⟩
 .exact .inl (TM I t0 t1 K u0 u1 w0 w1 hne hw iU h)
 .have k2:=TM I t0 t1 K v0 v1 w0 w1 vw hw iU h2;exact .inr ⟨v,v0,v1,vu,vw,TM I t0 t1 K u0 u1 v0 v1 vu.symm h2.1 k2.1 h1,k2⟩
theorem AM{m:aH}(I:Inv m){t:Int}(t0:0<=t)(t1:t<m.2.1.length){a:aT}{x:cK}(K:Kind m t a x){w:Int}(w0:0<=w)(w1:w<m.2.1.length)(iU:(aq a w).2.1=1) :
  (w=t/\(aq a w).1=(aq m.1 w).1+1)\/((aq a w).1=(aq m.1 w).1/\(aq m.1 w).2.1=1):=by
 have mg:=I.mem.di;have T:=I.th t t0 t1;cases K with
 | yY=>exact .inr ⟨rfl,iU⟩
 | push=>exact .inr ⟨rfl,iU⟩
 | got=>exact .inr ⟨rfl,iU⟩
 | now=>exact .inr ⟨rfl,iU⟩
 | qJ=>exact .inr ⟨rfl,iU⟩
 | mA=>exact .inr ⟨rfl,iU⟩
 | swap=>exact .inr ⟨rfl,iU⟩
 | pX=>exact .inr ⟨rfl,iU⟩
 | pW=>exact .inr ⟨rfl,iU⟩
 | Cs=>exact .inr ⟨rfl,iU⟩
 | lay=>exact .inr ⟨rfl,iU⟩
 | oQ=>exact .inr ⟨rfl,iU⟩
 | new q E r ho hs hv=>
  rw[n7 ⟨t0,by omega⟩ w0]at iU⊢;by_cases z:w=t
  .rw[aj z,z];exact .inl ⟨rfl,rfl⟩
  .rw[af z]at iU⊢;exact .inr ⟨rfl,iU⟩
 | yes hs h1 h2 h3=>
  have H:=T.dZ _ (mI hs);rw[n7 ⟨H.t.1,by have:=H.t.2;omega⟩ w0]at iU⊢;by_cases z:w=(au (ai m t)).1
  .rw[aj z]at iU;dsimp only at iU;omega
  .rw[af z]at iU⊢;exact .inr ⟨rfl,iU⟩
 | no i hs h1 h2 i0 i1 hb hw hv hval=>
  have H:=T.dZ _ (mI hs);rw[n7 ⟨H.t.1,by have:=H.t.2;omega⟩ w0]at iU⊢;by_cases z:w=(au (ai m t)).1
  .rw[aj z]at iU;dsimp only at iU;omega
  .rw[af z]at iU⊢;exact .inr ⟨rfl,iU⟩
theorem ab1{m m':aH}(I:Inv m)(L:Live m){t:Int}(t0:0<=t)(t1:t<m.2.1.length){a:aT}{x:cK}(K:Kind m t a x)(G:jI m m' t a x):Live m':=by
 intro u u0 u1 k k' hk;rw[G.n]at u1⊢;rw[G.mem];rw[G.ai u u0]at hk;have keep:∀{k':gv},bR m.1 m.2.1.length k'->k'.1≠u->(k'.2.1=(aq m.1 k'.1).1->(aq m.1 k'.1).2.1=1->sB m.1 m.2.1.length u k'.1)->(k'.2.1=(aq a k'.1).1->(aq a k'.1).2.1=1->sB a m.2.1.length u k'.1):=by
  intro k' H hn hc e1 e2;rcases AM I t0 t1 K H.t.1 H.t.2 e2 with⟨_,z⟩ | ⟨z,z2⟩
  .have:=H.seq.2;omega
  .exact aaS I t0 t1 K u0 u1 H.t.1 H.t.2 hn.symm z2 e2 (hc (by omega) z2)
 by_cases hu:u=t
 .rw[aj hu]at hk;subst hu;have T:=I.th u u0 u1;have hsame:∀{h':gv},(ai m u).2.2.2.2.1≠[]->(j_ (ai m u) h').2.2.2.2.1=[k,k']->(ai m u).2.2.2.2.1=[k,au (ai m u)]/\k'=h':=by
   intro h' hs e;unfold j_ at e;dsimp only at e;rcases T.st with z | ⟨q,z⟩ | ⟨q,q',z,zt⟩
   .exact absurd z hs
   .rw[z]at e;cases e
   .rw[z]at e⊢;simp only[cq,gy,Fe,As,eS]at e;refine⟨?_,e.2.1.symm⟩;rw[e.1];unfold au;rw[z];rfl
  have iJ:∀{h':gv},(j_ (ai m u) h').2.2.2.2.1=[k,k']->(ai m u).2.2.2.2.1≠[]->h'.1=(au (ai m u)).1->h'.2.1=(au (ai m u)).2.1->k'.1≠u/\(k'.2.1=(aq a k'.1).1->(aq a k'.1).2.1=1->sB a m.2.1.length u k'.1):=by intro h' e hs e1 e2;obtain⟨z,rfl⟩:=hsame hs e;have l:=L u u0 u1 _ _ z;rw[e1,e2];exact⟨l.1,keep (T.dZ _ (mI hs)) l.1 l.2⟩
  have hst:(ai m u).2.2.2.2.1=[k,k']->k'.1≠u/\(k'.2.1=(aq a k'.1).1->(aq a k'.1).2.1=1->sB a m.2.1.length u k'.1):=fun e=>by
   have l:=L u u0 u1 _ _ e;exact⟨l.1,keep (T.dZ _ (by rw[e];simp)) l.1 l.2⟩
  cases K with
  | yY h=>exact hst hk
  | got q ho hs=>exact hst hk
  | now=>cases hk
  | pW=>cases hk
  | Cs=>cases hk
  | new q E r ho hs hv=>have e:(ai m u).2.2.2.2.1++[(u,(aq m.1 u).1+1,0,0,())]=[k,k']:=hk;rw[hs]at e;cases e
  | qJ hs hne _=>have e:(ai m u).2.2.2.2.1.take ((ai m u).2.2.2.2.1.length-1)=[k,k']:=hk;have e2:=ew List.length e;rw[e9]at e2;simp only[cq,gy]at e2;rcases T.st with z | ⟨q,z⟩ | ⟨q,q',z,zt⟩<;>rw[z]at e2<;>simp at e2
  | yes hs h1 h2 h3=>exact hst hk
  | no i hs h1 h2 i0 i1 hb hw hv hval=>exact hst hk
  | mA hs h1 h2=>exact iJ hk hs rfl rfl
  | pX hs h1 h2=>exact iJ hk hs rfl rfl
  | lay p hs h1 h2 p0 p1 hw hv=>exact iJ hk hs rfl rfl
  | oQ p y hs h1 h2 p0 p1 hw hv=>exact iJ hk hs rfl rfl
  | push v p ho hs v0 v1 vt vo p0 p1 hw=>
   have e:(ai m u).2.2.2.2.1++[(v,(aq m.1 v).1,0,0,())]=[k,k']:=hk;rcases hs with hs | ⟨q,hs,qt,Xh⟩
   .rw[hs]at e;cases e
   .rw[hs]at e;simp only[fE,gx,eS]at e;rw[<-e.2.1];exact⟨vt,fun _ _=>.inl Xh⟩
  | swap v hs h1 h2 hne vh v0 v1 vo f6=>
   obtain⟨z,rfl⟩:=hsame hs hk;have l:=L u u0 u1 _ _ z;have H:=T.dZ _ (mI hs);have n3:=I.n.2;have hc:=l.2 h1 h2;generalize hh:au (ai m u)=h at *;have a0:=H.t.1;have a1:=H.t.2;have vu:v≠u:=fun q=>by
    subst q;rcases hc with c | ⟨w,w0,w1,wu,wh,c1,c2⟩
    .exact UD I u0 u1 a0 a1 c f6 hne.symm
    .exact no3 I u0 u1 w0 w1 a0 a1 c1 c2 f6 wu.symm wh hne
   refine⟨vu,fun _ _=>?_⟩;rcases hc with c | ⟨w,w0,w1,wu,wh,c1,c2⟩
   .exact .inr ⟨h.1,a0,a1,hne,vh.symm,c,f6⟩
   .exfalso;have:v=w:=by omega
    subst this;exact UD I w0 w1 a0 a1 c2 f6 wh
 .rw[af hu]at hk;have l:=L u u0 u1 _ _ hk;exact⟨l.1,keep ((I.th u u0 u1).dZ _ (by rw[hk];simp)) l.1 l.2⟩
theorem Bu{m:aH}(I:Inv m){U:Int}(u0:0<=U)(u1:U<m.2.1.length):(∀g∈gt m U,0<=g.1/\g.1<20)/\(gt m U).length<=8:=by
 have T:=I.th U u0 u1;unfold gt;cases h:(ai m U).2.2.1 with
 | true=>obtain⟨_,h2,h3⟩:=J2 (T.op h) T.got (T.along h);exact⟨fun g hg=>h2 g.1 (eH.2 ⟨g,hg,rfl⟩),h3⟩
 | false=>rw[(T.off h).1];exact⟨fun g hg=>by simp at hg,by simp⟩
theorem Jp{m a:aT}{G:dK}(hv:∀p:Int,0<=p->p<20->fW a p=fW m p)(hg:∀g∈G,0<=g.1/\g.1<20):bad a G↔bad m G:=
 ⟨fun⟨x,hx,e⟩=>⟨x,hx,by rw[<-hv _ (hg x hx).1 (hg x hx).2];exact e⟩,fun⟨x,hx,e⟩=>⟨x,hx,by rw[hv _ (hg x hx).1 (hg x hx).2];exact e⟩⟩
theorem RE{m:aT}{G:dK}(q:Int):bad m (G++[(q,fW m q,())])↔bad m G:=
 ⟨fun⟨x,hx,e⟩=>by
  rcases bL.1 hx with h | h
  .exact⟨x,h,e⟩
  .rw[d6]at h;subst h;exact absurd rfl e,fun⟨x,hx,e⟩=>⟨x,Ar _ hx,e⟩⟩
theorem akA{m:aH}(I:Inv m){u:Int}(u0:0<=u)(u1:u<m.2.1.length)(hs:(aq m.1 u).2.1=1){i:Int}(i0:0<=i)(i1:i<(aq m.1 u).2.2.1.length)(hw:(wd m.1 (qi (aq m.1 u).2.2.1 i).1).2.1=0)
  (hv:(wd m.1 (qi (aq m.1 u).2.2.1 i).1).1≠(qi (aq m.1 u).2.2.1 i).2.1):bad m.1 (gt m u):=by
 have hown:bw m u:=I.mem.jN u u0 u1 hs;have T:=I.th u u0 u1;have oE:=T.o5 hown;have ho:=T.op oE;obtain⟨hp,dn,hl,hr⟩:=T.plan hown;have he:=L2 i0 i1;rw[hl]at he;obtain⟨g,hg,e1,e2⟩:=(A4 ho T.got (T.along oE) hp dn).2.1 _ he;rw[<-hl]at e1 e2;exact⟨g,hg,by rw[e1,e2,u6 hw];exact hv⟩
theorem Hs{x:cK}{t:Int}{h':gv}(hs:x.2.2.2.2.1=[]\/∃k,x.2.2.2.2.1=[k]/\k.1=t)(hv:h'.1≠t):bA (rm x h') t=bA x t:=by
 unfold rm bA;dsimp only;rcases hs with hs | ⟨q,hs,qt⟩
 .rw[hs];simp[hv]
 .rw[hs];rfl
theorem Hz{m:aT}{n:Nat}{x:cK}{t:Int}(T:jr m n x t)(hs:x.2.2.2.2.1≠[])(hne:(au x).1≠t):bA (jf x) t=bA x t:=by
 unfold jf bA;dsimp only;rcases T.st with z | ⟨q,z⟩ | ⟨q,q',z,zt⟩
 .exact absurd z hs
 .have:au x=q:=by unfold au;rw[z];rfl
  rw[this]at hne;rw[z];simp[hne]
 .rw[z];rfl
theorem Jo{m:aT}{n:Nat}{x:cK}{t:Int}(T:jr m n x t){h':gv}(hs:x.2.2.2.2.1≠[])(e:h'.1=t↔(au x).1=t):bA (j_ x h') t=bA x t:=by
 unfold j_ bA;rcases T.st with z | ⟨q,z⟩ | ⟨q,q',z,zt⟩
 .exact absurd z hs
 .have:au x=q:=by unfold au;rw[z];rfl
  rw[this]at e;dsimp only;rw[z];simp only[cq,gy,As];exact decide_eq_decide.2 e
 .dsimp only;rw[z];rfl
theorem Db{m:aT}{n:Nat}{x:cK}{t:Int}(T:jr m n x t)(hs:x.2.2.2.2.1≠[])(b c:Int)(d:Int×Unit):bA (j_ x ((au x).1,b,c,d)) t=bA x t:=Jo T hs i5
theorem GJ{m:aH}{t:Int}(T:jr m.1 m.2.1.length (ai m t) t){v s:Int}(hs:(ai m t).2.2.2.2.1≠[])(hne:(au (ai m t)).1≠t)(vo:bw m v):bA (j_ (ai m t) (v,s,0,0,())) t=bA (ai m t) t:=by
 rcases T.st with z | ⟨q,z⟩ | ⟨q,q',z,zt⟩
 .exact absurd z hs
 .refine Jo T hs ⟨fun e=>?_,fun e=>absurd e hne⟩;have:au (ai m t)=q:=by unfold au;rw[z];rfl
  rw[this]at hne;dsimp only at e;subst e;unfold bw bA at vo;rw[z]at vo;exact absurd (by simpa using vo) hne
 .unfold j_ bA;dsimp only;rw[z];rfl
section
variable {m m':aH} (I:Inv m) {t:Int} (t0:0<=t) (t1:t<m.2.1.length) {a:aT} {x:cK} (K:Kind m t a x) (G:jI m m' t a x)
include I t0 t1 K G
theorem EY(hl:∀U:Int,0<=U->U<m.2.1.length->lf m' U=lf m U)(hy:∀U:Int,0<=U->U<m.2.1.length->(lG m' U↔lG m U))(hs:∀U:Int,0<=U->U<m.2.1.length->(pM m' U↔pM m U)){U:Int}(u0:0<=U)(u1:U<m.2.1.length):AA m' U=AA m U:=by unfold AA;rw[G.n,hl U u0 u1,xJ (hs U u0 u1),HR (f:=Yv m') (g:=Yv m) fun V a b _=>by unfold Yv;rw[hl V a b,xJ (hy V a b)]]
theorem Eh(U:Int)(u0:0<=U)(hU:U≠t):ai m' U=ai m U:=by rw[G.ai U u0,af hU]
theorem wj:ai m' t=x:=by rw[G.ai t t0,aj rfl]
theorem Cf(hv:∀p:Int,0<=p->p<20->fW a p=fW m.1 p)(hd:∀U:Int,0<=U->U<m.2.1.length->aq a U=aq m.1 U)
  (ho:bA x t=bA (ai m t) t/\x.1=(ai m t).1/\x.2.1=(ai m t).2.1/\(x.2.2.2.1=(ai m t).2.2.2.1\/∃q,0<=q/\q<20/\x.2.2.2.1=(ai m t).2.2.2.1++[(q,fW m.1 q,())])) {U:Int} (u0:0<=U) (u1:U<m.2.1.length):AA m' U=AA m U:=by
 have hO:=Eh I t0 t1 K G;have hS:=wj I t0 t1 K G;have hown:∀U:Int,0<=U->(bw m' U↔bw m U):=fun U u0=>by
  unfold bw;by_cases q:U=t
  .rw[q,hS,ho.1]
  .rw[hO U u0 q]
 have DJ:∀U:Int,0<=U->U<m.2.1.length->(bad m'.1 (gt m' U)↔bad m.1 (gt m U)):=fun U u0 u1=>by
  have hr:=(Bu I u0 u1).1;rw[G.mem];by_cases q:U=t
  .subst q;unfold gt at hr⊢;rw[hS];rcases ho.2.2.2 with e | ⟨q,q0,q1,e⟩
   .rw[e];exact Jp hv hr
   .rw[e];refine(Jp hv fun g hg=>?_).trans (RE q);rcases bL.1 hg with h | h
    .exact hr g h
    .rw[d6]at h;rw[h];exact⟨q0,q1⟩
  .unfold gt at hr⊢;rw[hO U u0 q];exact Jp hv hr
 have hy:∀U:Int,0<=U->U<m.2.1.length->(lG m' U↔lG m U):=fun U u0 u1=>by
  unfold lG;rw[hown U u0,G.mem,hd U u0 u1]
 refine EY I t0 t1 K G (fun U u0 u1=>?_) hy (fun U u0 u1=>?_) u0 u1
 .unfold lf;by_cases q:U=t
  .rw[q,hS,ho.2.1,ho.2.2.1]
  .rw[hO U u0 q]
 .unfold pM;rw[hy U u0 u1,hown U u0,DJ U u0 u1,G.mem,hd U u0 u1]
theorem Ce(ha:a=m.1)(hx:x.2.2.2=([],[],()))(hl:x.1=(ai m t).1)(he:x.2.1=(ai m t).2.1+1\/(x.2.1=(ai m t).2.1/\bw m t/\(aq m.1 t).2.1=3)) :
  AA m' t+1<=AA m t/\∀U:Int,0<=U->U<m.2.1.length->U≠t->AA m' U<=AA m U:=by
 have hO:=Eh I t0 t1 K G;have hS:=wj I t0 t1 K G;have hno:¬ bw m' t:=by unfold bw bA;rw[hS,hx];simp
 have Uq:¬ lG m' t:=fun z=>hno z.1;have vJ:¬ pM m' t:=by
  rintro(z | ⟨_,g,hg,_⟩)
  .exact hno z.1
  .unfold gt at hg;rw[hS,hx]at hg;simp at hg
 have hlt:lf m' t=lf m t-(x.2.1-(ai m t).2.1):=by unfold lf;rw[hS,hl];omega
 have hlU:∀U:Int,0<=U->U≠t->lf m' U=lf m U:=fun U u0 q=>by unfold lf;rw[hO U u0 q]
 have zl:∀U:Int,0<=U->U≠t->(lG m' U↔lG m U):=fun U u0 q=>by unfold lG bw;rw[hO U u0 q,G.mem,ha]
 have hsU:∀U:Int,0<=U->U≠t->(pM m' U↔pM m U):=fun U u0 q=>by unfold pM bw gt;rw[zl U u0 q,hO U u0 q,G.mem,ha]
 have hYt:Yv m' t<=Yv m t:=by
  unfold Yv;rw[hlt,o8 Uq];have:=nP (lG m t);rcases he with e | ⟨e,e2,e3⟩
  .omega
  .rw[o8 (fun z:lG m t=>by have:=z.2;omega)];omega
 have Ky:∀U:Int,0<=U->U≠t->Yv m' U=Yv m U:=fun U u0 q=>by unfold Yv;rw[hlU U u0 q,xJ (zl U u0 q)]
 refine⟨?_,fun U u0 u1 hU=>?_⟩
 .unfold AA;rw[G.n,o8 vJ,hlt,HR (f:=Yv m') (g:=Yv m) fun V a b q=>Ky V a q];have:=nP (pM m t);rcases he with e | ⟨e,e2,e3⟩
  .omega
  .rw[vU (show pM m t from .inl ⟨e2,e3⟩)];omega
 .unfold AA;rw[G.n,xJ (hsU U u0 hU),hlU U u0 hU];have:=Jy (n:=m.2.1.length) (T:=U) (f:=Yv m') (g:=Yv m) fun V a b _=>by
   by_cases q:V=t
   .rw[q];exact hYt
   .exact kA (Ky V a q)
  omega
theorem akk(hx:x=ai m t)(hs:(ai m t).2.2.2.2.1≠[])(h1:(au (ai m t)).2.1=(aq m.1 (au (ai m t)).1).1)(h2:(aq m.1 (au (ai m t)).1).2.1=1)
  (h3:∀i:Int,0<=i->i<(aq m.1 (au (ai m t)).1).2.2.1.length->wd m.1 (qi (aq m.1 (au (ai m t)).1).2.2.1 i).1=dL (au (ai m t)).1 (aq m.1 (au (ai m t)).1).1)
  (ha:a=bI m.1 (au (ai m t)).1 ((aq m.1 (au (ai m t)).1).1,2,(aq m.1 (au (ai m t)).1).2.2)):∀U:Int,0<=U->U<m.2.1.length->AA m' U<=AA m U:=by
 have mg:=I.mem.di;have T:=I.th t t0 t1;have H:=T.dZ _ (mI hs);have hO:∀U:Int,0<=U->ai m' U=ai m U:=fun U u0=>by
  rw[G.ai U u0];by_cases q:U=t
  .rw[aj q,hx,q]
  .rw[af q]
 have w0:=H.t.1;have w1:=H.t.2;clear H;generalize (au (ai m t)).1=u at *;have hd:∀v:Int,0<=v->aq a v=if v=u then ((aq m.1 u).1,2,(aq m.1 u).2.2) else aq m.1 v:=fun v v0=>by rw[ha];exact n7 ⟨w0,by omega⟩ v0
 have hown:∀U:Int,0<=U->(bw m' U↔bw m U):=fun U u0=>by unfold bw;rw[hO U u0]
 have ou:bw m u:=I.mem.jN u w0 w1 h2;have hl:∀U:Int,0<=U->lf m' U=lf m U:=fun U u0=>by unfold lf;rw[hO U u0]
 have hyu:lG m' u:=⟨(hown u w0).2 ou,by rw[G.mem,hd u w0,aj rfl]⟩
 have hnu:¬ lG m u:=fun z=>by have:=z.2;omega
 have zl:∀U:Int,0<=U->U≠u->(lG m' U↔lG m U):=fun U u0 q=>by unfold lG;rw[hown U u0,G.mem,hd U u0,af q]
 have hYu:Yv m' u+1<=Yv m u:=by unfold Yv;rw[hl u w0,vU hyu,o8 hnu];omega
 have Ky:∀U:Int,0<=U->U≠u->Yv m' U=Yv m U:=fun U u0 q=>by unfold Yv;rw[hl U u0,xJ (zl U u0 q)]
 intro U u0 u1;unfold AA;rw[G.n,hl U u0];by_cases q:U=u
 .have e1:¬ pM m' U:=by
   rintro(z | ⟨z,_⟩)
   .have:=z.2;rw[G.mem,hd U u0,aj q]at this;dsimp only at this;omega
   .exact z (q ▸ hyu)
  rw[o8 e1,HR (f:=Yv m') (g:=Yv m) fun V b _ d=>Ky V b (by rw[<-q];exact d)];have:=nP (pM m U);omega
 .have e1:=Bh (n:=m.2.1.length) I.n.2 (T:=U) (V:=u) (d:=1) (f:=Yv m') (g:=Yv m) w0 w1 (fun z=>q z.symm) hYu (fun V b _ _ d=>kA (Ky V b d));have:=nP (pM m U);have:=nP (pM m' U);omega
theorem ake(hx:x=ai m t)(hs:(ai m t).2.2.2.2.1≠[])(h2:(aq m.1 (au (ai m t)).1).2.1=1)(DJ:bad m.1 (gt m (au (ai m t)).1))
  (ha:a=bI m.1 (au (ai m t)).1 ((aq m.1 (au (ai m t)).1).1,3,(aq m.1 (au (ai m t)).1).2.2)) (hv:∀q:Int,0<=q->q<20->fW a q=fW m.1 q):∀U:Int,0<=U->U<m.2.1.length->AA m' U=AA m U:=by
 have mg:=I.mem.di;have T:=I.th t t0 t1;have H:=T.dZ _ (mI hs);have hO:∀U:Int,0<=U->ai m' U=ai m U:=fun U u0=>by
  rw[G.ai U u0];by_cases q:U=t
  .rw[aj q,hx,q]
  .rw[af q]
 have w0:=H.t.1;have w1:=H.t.2;clear H;generalize (au (ai m t)).1=u at *;have hd:∀v:Int,0<=v->aq a v=if v=u then ((aq m.1 u).1,3,(aq m.1 u).2.2) else aq m.1 v:=fun v v0=>by rw[ha];exact n7 ⟨w0,by omega⟩ v0
 have hown:∀U:Int,0<=U->(bw m' U↔bw m U):=fun U u0=>by unfold bw;rw[hO U u0]
 have ou:bw m u:=I.mem.jN u w0 w1 h2;have zl:∀U:Int,0<=U->U<m.2.1.length->(lG m' U↔lG m U):=fun U u0 u1=>by
  unfold lG;rw[hown U u0,G.mem,hd U u0];by_cases q:U=u
  .rw[aj q,q];exact⟨fun z=>by have:=z.2;dsimp only at this;omega,fun z=>by have:=z.2;omega⟩
  .rw[af q]
 intro U u0 u1;refine EY I t0 t1 K G (fun U u0 u1=>by unfold lf;rw[hO U u0]) zl (fun U u0 u1=>?_) u0 u1;by_cases q:U=u
 .subst q;refine⟨fun _=>.inr ⟨fun z=>by have:=z.2;omega,DJ⟩,fun _=>.inl ⟨(hown U u0).2 ou,by rw[G.mem,hd U u0,aj rfl]⟩⟩
 .unfold pM;have e:gt m' U=gt m U:=by unfold gt;rw[hO U u0]
  rw[zl U u0 u1,hown U u0,G.mem,hd U u0,af q,e,Jp hv (Bu I u0 u1).1]
theorem akj{q:Int}{E:List eu}{r:fz}(hs:(ai m t).2.2.2.2.1=[])(hq:0<=q/\q<20)(ha:a=bI m.1 t ((aq m.1 t).1+1,1,E,r,()))(hv:∀p:Int,0<=p->p<20->fW a p=fW m.1 p)
  (hx:x=rm (rX (ai m t) ((ai m t).2.2.2.1++[(q,fW m.1 q,())])) (t,(aq m.1 t).1+1,0,0,())):∀U:Int,0<=U->U<m.2.1.length->AA m' U=AA m U:=by
 have mg:=I.mem.di;have hO:=Eh I t0 t1 K G;have hS:=wj I t0 t1 K G;have hd:∀v:Int,0<=v->aq a v=if v=t then ((aq m.1 t).1+1,1,E,r,()) else aq m.1 v:=fun v v0=>by rw[ha];exact n7 ⟨t0,by omega⟩ v0
 have hno:¬ bw m t:=by unfold bw;rw[zC hs];simp
 have Uq:¬ lG m' t:=fun z=>by have:=z.2;rw[G.mem,hd t t0,aj rfl]at this;dsimp only at this;omega
 have hnm:¬ lG m t:=fun z=>hno z.1;have zl:∀U:Int,0<=U->U<m.2.1.length->(lG m' U↔lG m U):=fun U u0 u1=>by
  by_cases w:U=t
  .rw[w];exact⟨fun z=>absurd z Uq,fun z=>absurd z hnm⟩
  .unfold lG bw;rw[hO U u0 w,G.mem,hd U u0,af w]
 intro U u0 u1;refine EY I t0 t1 K G (fun U u0 u1=>?_) zl (fun U u0 u1=>?_) u0 u1
 .unfold lf;by_cases w:U=t
  .rw[w,hS,hx];rfl
  .rw[hO U u0 w]
 .have hr:=(Bu I u0 u1).1;by_cases w:U=t
  .subst w;have hb:bad m'.1 (gt m' U)↔bad m.1 (gt m U):=by
    have e:gt m' U=gt m U++[(q,fW m.1 q,())]:=by unfold gt;rw[hS,hx];rfl
    rw[e,G.mem];refine(Jp hv fun g hg=>?_).trans (RE q);rcases bL.1 hg with h | h
    .exact hr g h
    .rw[d6]at h;rw[h];exact hq
   refine⟨fun z=>?_,fun z=>?_⟩
   .rcases z with z | z
    .have:=z.2;rw[G.mem,hd U u0,aj rfl]at this;dsimp only at this;omega
    .exact .inr ⟨hnm,hb.1 z.2⟩
   .rcases z with z | z
    .exact absurd z.1 hno
    .exact .inr ⟨Uq,hb.2 z.2⟩
  .unfold pM bw;have e:gt m' U=gt m U:=by unfold gt;rw[hO U u0 w]
   rw[zl U u0 u1,hO U u0 w,G.mem,hd U u0,af w,e,Jp hv hr]
theorem xT:∀U:Int,0<=U->U<m.2.1.length->AA m' U<=AA m U:=by
 have T:=I.th t t0 t1;have hK:=K;have one:AA m' t+1<=AA m t/\(∀U:Int,0<=U->U<m.2.1.length->U≠t->AA m' U<=AA m U)->∀U:Int,0<=U->U<m.2.1.length->AA m' U<=AA m U:=fun h U u0 u1=>by
  by_cases q:U=t
  .rw[q];omega
  .exact h.2 U u0 u1 q
 cases K with
 | yY h=>intro U u0 u1;exact kA (Cf I t0 t1 hK G (fun _ _ _=>rfl) (fun _ _ _=>rfl) ⟨rfl,rfl,rfl,.inl rfl⟩ u0 u1)
 | got q ho hs hq=>intro U u0 u1;exact kA (Cf I t0 t1 hK G (fun _ _ _=>rfl) (fun _ _ _=>rfl) ⟨rfl,rfl,rfl,.inr ⟨q,hq.1,hq.2,rfl⟩⟩ u0 u1)
 | push v p ho hs v0 v1 vt vo p0 p1 hw=>intro U u0 u1;exact kA (Cf I t0 t1 hK G (fun _ _ _=>rfl) (fun _ _ _=>rfl) ⟨Hs (hs.imp id fun⟨k,e,e2,_⟩=>⟨k,e,e2⟩) vt,rfl,rfl,.inl rfl⟩ u0 u1)
 | qJ hs hne h=>intro U u0 u1;exact kA (Cf I t0 t1 hK G (fun _ _ _=>rfl) (fun _ _ _=>rfl) ⟨Hz T hs hne,rfl,rfl,.inl rfl⟩ u0 u1)
 | mA hs h1 h2=>intro U u0 u1;exact kA (Cf I t0 t1 hK G (fun _ _ _=>rfl) (fun _ _ _=>rfl) ⟨Jo T hs i5,rfl,rfl,.inl rfl⟩ u0 u1)
 | pX hs h1 h2=>intro U u0 u1;exact kA (Cf I t0 t1 hK G (fun _ _ _=>rfl) (fun _ _ _=>rfl) ⟨Jo T hs i5,rfl,rfl,.inl rfl⟩ u0 u1)
 | swap v hs h1 h2 hne vh v0 v1 vo f6=>intro U u0 u1;exact kA (Cf I t0 t1 hK G (fun _ _ _=>rfl) (fun _ _ _=>rfl) ⟨GJ T hs hne vo,rfl,rfl,.inl rfl⟩ u0 u1)
 | lay p hs h1 h2 p0 p1 hw hv=>intro U u0 u1;exact kA (Cf I t0 t1 hK G hv (fun _ _ _=>rfl) ⟨Jo T hs i5,rfl,rfl,.inl rfl⟩ u0 u1)
 | oQ p y hs h1 h2 p0 p1 hw hv=>intro U u0 u1;exact kA (Cf I t0 t1 hK G hv (fun _ _ _=>rfl) ⟨Jo T hs i5,rfl,rfl,.inl rfl⟩ u0 u1)
 | yes hs h1 h2 h3=>exact akk I t0 t1 hK G rfl hs h1 h2 h3 rfl
 | no i hs h1 h2 i0 i1 hb hw hv hval=>have H:=T.dZ _ (mI hs);intro U u0 u1;exact kA (ake I t0 t1 hK G rfl hs h2 (akA I H.t.1 H.t.2 h2 i0 i1 hw hv) rfl hval U u0 u1)
 | new q E r ho hs hv hq=>intro U u0 u1;exact kA (akj I t0 t1 hK G hs hq rfl hv rfl U u0 u1)
 | now ho hs=>exact one (Ce I t0 t1 hK G rfl rfl rfl (.inl rfl))
 | pW hs h1 h2 h3=>exact one (Ce I t0 t1 hK G rfl rfl rfl (.inl rfl))
 | Cs hs h1 h2 h3=>exact one (Ce I t0 t1 hK G rfl rfl rfl (.inr ⟨rfl,(Jv T hs h1).1,h2⟩))
end
theorem akW{m m':aH}{T U:Int}(ha:AA m' U<=AA m U)(hd:rf m' T U->rf m T U)(hc:q_ m T U->q_ m' T U)(hh:kQ m T U<=kQ m' T U):QQ m' T U<=QQ m T U:=by unfold QQ;have:=B4 hd;have:=B4 hc;omega
theorem A8{m:aH}(I:Inv m){T:Int}{h:gv}(H:bR m.1 m.2.1.length h):1<=m9 m T h/\m9 m T h<=28/\(oa m h/\(aq m.1 h.1).2.1=1->m9 m T h<=19):=by
 unfold m9;have:=H.r8;have:=H.fin;have:=nP (Ag m T h.1);split
 .exact⟨by omega,by omega,fun _=>by omega⟩
 .next q=>exact⟨by omega,by omega,fun z=>absurd z q⟩
section
variable {m m':aH} (I:Inv m) {t:Int} (t0:0<=t) (t1:t<m.2.1.length) {a:aT} {x:cK} (K:Kind m t a x) (G:jI m m' t a x)
include I t0 t1 K G
theorem B5{U:Int}(u0:0<=U)(hU:U≠t):bw m' U↔bw m U:=by unfold bw;rw[Eh I t0 t1 K G U u0 hU]
theorem Jq{w:Int}(w0:0<=w)(w1:w<m.2.1.length):(aq a w).1=(aq m.1 w).1\/(w=t/\(aq a w).1=(aq m.1 w).1+1/\¬ bw m t):=by
 have mg:=I.mem.di;have T:=I.th t t0 t1;cases K with
 | new q E r ho hs hv=>
  rw[n7 ⟨t0,by omega⟩ w0];by_cases z:w=t
  .rw[aj z,z];exact .inr ⟨rfl,rfl,by unfold bw;rw[zC hs];simp⟩
  .rw[af z];exact .inl rfl
 | yes hs h1 h2 h3=>
  have H:=T.dZ _ (mI hs);rw[n7 ⟨H.t.1,by have:=H.t.2;omega⟩ w0];by_cases z:w=(au (ai m t)).1
  .rw[aj z,z];exact .inl rfl
  .rw[af z];exact .inl rfl
 | no i hs h1 h2 i0 i1 hb hw hv hval=>
  have H:=T.dZ _ (mI hs);rw[n7 ⟨H.t.1,by have:=H.t.2;omega⟩ w0];by_cases z:w=(au (ai m t)).1
  .rw[aj z,z];exact .inl rfl
  .rw[af z];exact .inl rfl
 | _=>exact .inl rfl
theorem P4{w:Int}(w0:0<=w)(w1:w<m.2.1.length)(hs:(aq m.1 w).2.1≠1)(hq:(aq a w).1=(aq m.1 w).1)(h:vn a w):vn m.1 w:=by
 have hlen:=I.mem.len;obtain⟨p,p0,p1,e⟩:=h;rw[hq]at e;refine⟨p,p0,p1,?_⟩;cases K with
 | lay q lN h1 h2 q0 q1 hw hv=>
  rw[EH (by omega) p0]at e;by_cases z:p=q
  .rw[aj z]at e;exact absurd h2 ((tJ e).1 ▸ hs)
  .rw[af z]at e;exact e
 | oQ q y lN h1 h2 q0 q1 hw hv=>
  rw[EH (by omega) p0]at e;by_cases z:p=q
  .rw[aj z]at e;exact absurd e (vg rfl w0)
  .rw[af z]at e;exact e
 | _=>exact e
theorem MQ{w:Int}(w0:0<=w)(w1:w<m.2.1.length)(hs:(aq m.1 w).2.1≠1)(hown:bw m w):(aq a w).2.1≠1:=fun z=>by
 rcases AM I t0 t1 K w0 w1 z with⟨rfl,e⟩ | ⟨_,e⟩
 .rcases Jq I t0 t1 K G w0 w1 with q | ⟨_,_,q⟩
  .omega
  .exact q hown
 .exact hs e
theorem Gh{h:gv}(H:bR m.1 m.2.1.length h)(ha:oa m' h):oa m h:=by
 obtain⟨h1,h2⟩:=ha;rw[G.mem]at h2;have hq:=H.seq.2;rcases Jq I t0 t1 K G H.t.1 H.t.2 with q | ⟨_,q,_⟩
 .refine⟨?_,by omega⟩;by_cases z:h.1=t
  .rw[z]at h1 q⊢;have T:=I.th t t0 t1;unfold bw at h1⊢;rw[wj I t0 t1 K G]at h1;cases K with
   | yY=>exact h1
   | got=>exact h1
   | push v p ho hs v0 v1 vt vo p0 p1 hw=>rw[Hs (hs.imp id fun⟨k,e,e2,_⟩=>⟨k,e,e2⟩) vt]at h1;exact h1
   | qJ hs hne h=>rw[Hz T hs hne]at h1;exact h1
   | mA hs tW h2=>rw[Db T hs]at h1;exact h1
   | pX hs tW h2=>rw[Db T hs]at h1;exact h1
   | lay p hs tW h2=>rw[Db T hs]at h1;exact h1
   | oQ p y hs tW h2=>rw[Db T hs]at h1;exact h1
   | swap v hs tW h2 hne vh v0 v1 vo f6=>rw[GJ T hs hne vo]at h1;exact h1
   | yes=>exact h1
   | no=>exact h1
   | new q' E r ho hs hv=>have mg:=I.mem.di;rw[n7 ⟨t0,by omega⟩ t0,aj rfl]at q;dsimp only at q;omega
   | now=>simp[bA]at h1
   | pW=>simp[bA]at h1
   | Cs=>simp[bA]at h1
  .exact(B5 I t0 t1 K G H.t.1 z).1 h1
 .omega
theorem akz{T:Int}{h:gv}(hT:0<=T/\T<m.2.1.length)(hne:h.1≠T)(H:bR m.1 m.2.1.length h):m9 m T h<=m9 m' T h:=by
 have hr:=(A8 (T:=T) I H).2.2;have hf:=H.fin;by_cases c:oa m' h/\(aq m'.1 h.1).2.1=1
 .have c1:=Gh I t0 t1 K G H c.1;have c2:=c.2;rw[G.mem]at c2;have c3:(aq m.1 h.1).2.1=1:=by
   rcases AM I t0 t1 K H.t.1 H.t.2 c2 with⟨_,z⟩ | ⟨_,z⟩
   .have:=c.1.2;rw[G.mem]at this;have:=H.seq.2;omega
   .exact z
  unfold m9;rw[aj c,aj ⟨c1,c3⟩];have:ind (Ag m T h.1)<=ind (Ag m' T h.1):=B4 fun⟨C,a0,a1,n1,n2,s⟩=>⟨C,a0,by rw[G.n];exact a1,n1,n2,by rw[G.mem];exact TM I t0 t1 K a0 a1 H.t.1 H.t.2 n2 c3 c2 s⟩
  omega
 .by_cases d:oa m h/\(aq m.1 h.1).2.1=1
  .have:=hr d;unfold m9 at this⊢;rw[af c];omega
  .unfold m9;rw[af c,af d];exact e_ _
theorem Hj{T:Int}{h:gv}(hT:0<=T/\T<m.2.1.length)(e:lK (ai m T) T=some h):bR m.1 m.2.1.length h/\h.1≠T:=by
 unfold lK at e;split at e
 .cases e
 .next q=>
  split at e
  .cases e
  .next q2=>cases e;exact⟨(I.th T hT.1 hT.2).dZ _ (mI q),q2⟩
theorem acB(ho:bw m t)(hn:¬ bw m' t):AA m' t+1<=AA m t:=by
 have T:=I.th t t0 t1;have hK:=K;unfold bw at ho hn;rw[wj I t0 t1 K G]at hn;cases K with
 | yY=>exact absurd ho hn
 | got=>exact absurd ho hn
 | push v p _ hs v0 v1 vt vo p0 p1 hw=>rw[Hs (hs.imp id fun⟨k,e,e2,_⟩=>⟨k,e,e2⟩) vt]at hn;exact absurd ho hn
 | qJ hs hne h=>rw[Hz T hs hne]at hn;exact absurd ho hn
 | mA hs tW h2=>rw[Db T hs]at hn;exact absurd ho hn
 | pX hs tW h2=>rw[Db T hs]at hn;exact absurd ho hn
 | lay p hs tW h2=>rw[Db T hs]at hn;exact absurd ho hn
 | oQ p y hs tW h2=>rw[Db T hs]at hn;exact absurd ho hn
 | swap v hs tW h2 hne vh v0 v1 vo f6=>rw[GJ T hs hne vo]at hn;exact absurd ho hn
 | yes=>exact absurd ho hn
 | no=>exact absurd ho hn
 | new q' E r _ hs hv=>rw[zC hs]at ho;cases ho
 | now _ hs=>exact(Ce I t0 t1 hK G rfl rfl rfl (.inl rfl)).1
 | pW hs h1 h2 h3=>exact(Ce I t0 t1 hK G rfl rfl rfl (.inl rfl)).1
 | Cs hs h1 h2 h3=>exact(Ce I t0 t1 hK G rfl rfl rfl (.inr ⟨rfl,(Jv T hs h1).1,h2⟩)).1
theorem ac_{T U:Int}(hT:0<=T/\T<m.2.1.length)(vG:T≠t)(u0:0<=U)(u1:U<m.2.1.length)(hU:U≠T):QQ m' T U<=QQ m T U:=by
 have fK:=Eh I t0 t1 K G T hT.1 vG;have hA:=xT I t0 t1 K G U u0 u1;have hh:kQ m T U<=kQ m' T U:=by
  unfold kQ;rw[fK];cases e:lK (ai m T) T with
  | none=>exact e_ _
  | some h=>
   obtain⟨H,hne⟩:=Hj I t0 t1 K G hT e;dsimp only;split
   .exact akz I t0 t1 K G hT hne H
   .exact e_ _
 have eO:we m' T U->we m T U:=fun⟨h,e,e2,e3⟩=>by
  rw[fK]at e;exact⟨h,e,e2,Gh I t0 t1 K G (Hj I t0 t1 K G hT e).1 e3⟩
 -- yP try of U stays,or ends
 by_cases hend:bw m U/\¬ bw m' U
 .have Wm:U=t:=by
   by_cases q:U=t
   .exact q
   .exact absurd ((B5 I t0 t1 K G u0 q).2 hend.1) hend.2
  have hA1:AA m' U+1<=AA m U:=by rw[Wm];exact acB I t0 t1 K G (Wm ▸ hend.1) (Wm ▸ hend.2)
  have KD:¬ q_ m' T U:=fun z=>hend.2 z.1;unfold QQ;rw[o8 KD];have b1:=nP (rf m' T U);have b2:=nP (q_ m T U);have b3:=nP (rf m T U);by_cases hp:we m T U
  .rw[o8 (fun z:q_ m T U=>z.2.2.2 hp)];omega
  .have hd:rf m' T U->rf m T U:=fun⟨h,e,e2,e3⟩=>by
    rw[fK]at e;exact⟨h,e,e2,fun z=>hp ⟨h,e,e2,z⟩⟩
   have:=B4 hd;omega
 .have hkeep:bw m U->bw m' U:=fun z=>by
   by_cases q:bw m' U
   .exact q
   .exact absurd ⟨z,q⟩ hend
  refine akW hA (fun⟨h,e,e2,e3⟩=>?_) (fun⟨c1,c2,c3,c4⟩=>?_) hh
  .rw[fK]at e;have H:=(Hj I t0 t1 K G hT e).1;refine⟨h,e,e2,fun z=>e3 ⟨by rw[e2];exact hkeep (e2 ▸ z.1),?_⟩⟩;rw[G.mem];rcases Jq I t0 t1 K G H.t.1 H.t.2 with q | ⟨q1,_,q3⟩
   .rw[q];exact z.2
   .exact absurd (q1 ▸ z.1) q3
  .have hs:=MQ I t0 t1 K G u0 u1 c2 c1;have hq:(aq a U).1=(aq m.1 U).1:=by
    rcases Jq I t0 t1 K G u0 u1 with q | ⟨q1,_,q3⟩
    .exact q
    .exact absurd (q1 ▸ c1) q3
   exact⟨hkeep c1,by rw[G.mem];exact hs,fun z=>c3 (P4 I t0 t1 K G u0 u1 c2 hq (by rw[<-G.mem];exact z)),fun z=>c4 (eO z)⟩
theorem ac8{T:Int}(hT:0<=T/\T<m.2.1.length)(vG:T≠t):PP m' T<=PP m T:=by
 have fK:=Eh I t0 t1 K G T hT.1 vG;have hA:=xT I t0 t1 K G T hT.1 hT.2;have hs:ind ((aq m.1 T).2.1≠1)<=ind ((aq m'.1 T).2.1≠1):=B4 fun z=>by
  rw[G.mem];intro q;rcases AM I t0 t1 K hT.1 hT.2 q with⟨w,_⟩ | ⟨_,w⟩
  .exact vG w
  .exact z w
 have ho:o3 m T<=o3 m' T:=by
  unfold o3;rw[fK];cases (ai m T).2.2.2.2.1 with
  | nil=>exact e_ _
  | cons h r=>
   dsimp only;split
   .omega
   .exact e_ _
 unfold PP j7 gt;rw[fK];omega
theorem abH{T:Int}(hT:0<=T/\T<m.2.1.length)(vG:T≠t):iQ m' T<=iQ m T:=by unfold iQ;rw[G.n];have:=ac8 I t0 t1 K G hT vG;have:=Jy (n:=m.2.1.length) (T:=T) (f:=QQ m' T) (g:=QQ m T) fun U a b c=>ac_ I t0 t1 K G hT vG a b c;omega
end
theorem Ig{m:aH}(I:Inv m){U:Int}(u0:0<=U)(u1:U<m.2.1.length):0<=lf m U/\(bw m U->1<=lf m U)/\((ai m U).2.2.1=true->1<=lf m U):=by have T:=I.th U u0 u1;have:=T.pc;unfold lf;exact⟨by omega,fun h=>by have:=T.on (T.o5 h);omega,fun h=>by have:=T.on h;omega⟩
theorem Np{m:aH}(I:Inv m){U:Int}(u0:0<=U)(u1:U<m.2.1.length):lf m U<=AA m U:=by
 have h:=PX (n:=m.2.1.length) (T:=U) (f:=Yv m) fun V a b _=>by
  have:=Ig I a b;unfold Yv;by_cases q:lG m V
  .have:=this.2.1 q.1;rw[vU q];omega
  .rw[o8 q];omega
 have:=nP (pM m U);unfold AA;omega
theorem Nh{m:aH}(I:Inv m){T:Int}(hT:0<=T/\T<m.2.1.length):0<=j7 m T/\j7 m T<=27/\((ai m T).2.2.1=false->j7 m T=0):=by
 have X:=I.th T hT.1 hT.2;have hg:=(Bu I hT.1 hT.2).2;have hi:=nP ((ai m T).2.2.1=true);have ha:0<=o3 m T/\o3 m T<=18:=by
  unfold o3;have hh:=X.dZ;revert hh;cases (ai m T).2.2.2.2.1 with
  | nil=>intro _;exact⟨e_ _,show(0:Int)<=18 by decide⟩
  | cons h r=>intro hh;have H:=hh h eW;have:=H.r8;have:=H.fin;have:=nP ((aq m.1 T).2.1≠1);dsimp only;split<;>omega
 refine⟨by unfold j7;omega,by unfold j7;omega,fun h=>?_⟩;have z:=X.off h;unfold j7 o3 gt;rw[z.1,z.2,o8 (fun q=>by rw[h]at q;cases q)];rfl
theorem abL{m:aH}(I:Inv m){T:Int}(hT:0<=T/\T<m.2.1.length):0<=PP m T:=by
 have h1:=Nh I hT;have h2:=Np I hT.1 hT.2;have h3:=Ig I hT.1 hT.2;unfold PP;cases h:(ai m T).2.2.1 with
 | true=>have:=h3.2.2 h;omega
 | false=>have:=h1.2.2 h;omega
theorem abM{m:aH}(I:Inv m){T U:Int}(hT:0<=T/\T<m.2.1.length)(u0:0<=U)(u1:U<m.2.1.length):0<=QQ m T U:=by
 have h2:=Np I u0 u1;have h3:=Ig I u0 u1;have b1:=nP (rf m T U);have hc:ind (q_ m T U)<=AA m U:=by
  by_cases q:q_ m T U
  .have:=h3.2.1 q.1;rw[vU q];omega
  .rw[o8 q];omega
 have hp:kQ m T U<=28/\(kQ m T U<=0\/rf m T U\/we m T U):=by
  unfold kQ;cases e:lK (ai m T) T with
  | none=>exact⟨show(0:Int)<=28 by decide,.inl (e_ _)⟩
  | some h=>
   have H:bR m.1 m.2.1.length h:=by
    unfold lK at e;split at e
    .cases e
    .next q=>
     split at e
     .cases e
     .cases e;exact(I.th T hT.1 hT.2).dZ _ (mI q)
   dsimp only;split
   .next q=>
    refine⟨(A8 I H).2.1,.inr ?_⟩;by_cases z:oa m h
    .exact .inr ⟨h,e,q,z⟩
    .exact .inl ⟨h,e,q,z⟩
   .exact⟨by decide,.inl (e_ _)⟩
 unfold QQ;rcases hp.2 with q | q | q
 .omega
 .rw[vU q];omega
 .rw[o8 (fun z:q_ m T U=>z.2.2.2 q)];have:1<=lf m U:=by obtain⟨h,_,e,z⟩:=q;exact h3.2.1 (e ▸ z.1)
  omega
theorem abg{m:aH}(I:Inv m){T:Int}(hT:0<=T/\T<m.2.1.length):0<=iQ m T:=by have:=abL I hT;have:=PX (n:=m.2.1.length) (T:=T) (f:=QQ m T) fun U a b _=>abM I hT a b;unfold iQ;omega
theorem vR{x:cK}{t:Int}(h:x.2.2.2.2.1=[]):lK x t=none:=by unfold lK;rw[aj h]
theorem yB{x:cK}{t:Int}(h:(au x).1=t):lK x t=none:=by unfold lK;rw[aj h];split<;>rfl
theorem zF{x:cK}{t:Int}(hs:x.2.2.2.2.1≠[])(h:(au x).1≠t):lK x t=some (au x):=by unfold lK;rw[af hs,af h]
theorem Hu{x:cK}(hs:x.2.2.2.2.1≠[])(h':gv):au (j_ x h')=h'/\(j_ x h').2.2.2.2.1≠[]:=by
 have hl:0<x.2.2.2.2.1.length:=pH.2 hs;constructor
 .unfold au j_;dsimp only;rw[b6,qv (by rw[b6];omega),List.getElem_set_self]
 .unfold j_;dsimp only;intro e;have:=ew List.length e;rw[b6]at this;exact hs (lB.1 this)
theorem Mx(x:cK)(h':gv):au (rm x h')=h'/\(rm x h').2.2.2.2.1≠[]:=by
 constructor
 .unfold au rm;dsimp only;rw[qv (by simp)];simp
 .unfold rm;dsimp only;simp
section
variable {m m':aH} (I:Inv m) {t:Int} (t0:0<=t) (t1:t<m.2.1.length) {a:aT} {x:cK} (K:Kind m t a x) (G:jI m m' t a x)
include I t0 t1 K G
theorem EF{U d:Int}(u0:0<=U)(u1:U<m.2.1.length)(hU:U≠t)(hd:rf m' t U->rf m t U)(hh:we m' t U->we m t U\/vn m.1 U)(hp:kQ m t U+d<=kQ m' t U):QQ m' t U+d<=QQ m t U:=by
 have hA:=xT I t0 t1 K G U u0 u1;have h1:=B4 hd;have h2:ind (q_ m t U)<=ind (q_ m' t U):=B4 fun⟨c1,c2,c3,c4⟩=>by
  have hs:=MQ I t0 t1 K G u0 u1 c2 c1;have hq:(aq a U).1=(aq m.1 U).1:=by
   rcases Jq I t0 t1 K G u0 u1 with q | ⟨q1,_,q3⟩
   .exact q
   .exact absurd (q1 ▸ c1) q3
  exact⟨(B5 I t0 t1 K G u0 hU).2 c1,by rw[G.mem];exact hs,fun z=>c3 (P4 I t0 t1 K G u0 u1 c2 hq (by rw[<-G.mem];exact z)),fun z=>(hh z).elim c4 c3⟩
 unfold QQ;omega
theorem Cc(h1:lK (ai m t) t=none)(h2:lK x t=none):fD m.2.1.length t (QQ m' t)<=fD m.2.1.length t (QQ m t):=by have hS:=wj I t0 t1 K G;refine Jy fun U u0 u1 hU=>?_;have:=EF I t0 t1 K G (d:=0) u0 u1 hU (fun⟨h,e,_⟩=>by rw[hS,h2]at e;cases e) (fun⟨h,e,_⟩=>by rw[hS,h2]at e;cases e) (by unfold kQ;rw[hS,h1,h2];exact e_ _);omega
theorem EO{h h':gv}(H:bR m.1 m.2.1.length h)(hne:h.1≠t)(h1:lK (ai m t) t=some h)(h2:lK x t=some h')(e1:h'.1=h.1)(e2:h'.2.1=h.2.1)(tB:m9 m t h+1<=m9 m' t h') :
  fD m.2.1.length t (QQ m' t)+1<=fD m.2.1.length t (QQ m t):=by
 have hS:=wj I t0 t1 K G;have oy:oa m' h'->oa m h:=fun z=>Gh I t0 t1 K G H (by unfold oa at z⊢;rw[e1,e2]at z;exact z);have KX:oa m h->oa m' h':=fun z=>by
  refine⟨by rw[e1];exact(B5 I t0 t1 K G H.t.1 hne).2 z.1,?_⟩;rw[e1,e2,G.mem];rcases Jq I t0 t1 K G H.t.1 H.t.2 with q | ⟨q1,_,q3⟩
  .rw[q];exact z.2
  .exact absurd q1 hne
 have one:∀{U d:Int},0<=U->U<m.2.1.length->U≠t->(kQ m t U+d<=kQ m' t U)->QQ m' t U+d<=QQ m t U:=fun {U d} u0 u1 hU hp=>
  EF I t0 t1 K G u0 u1 hU (fun⟨k,e,e3,e4⟩=>by
   rw[hS,h2]at e;cases e;exact⟨h,h1,by rw[<-e1];exact e3,fun z=>e4 (KX z)⟩) (fun⟨k,e,e3,e4⟩=>by
   rw[hS,h2]at e;cases e;exact .inl ⟨h,h1,by rw[<-e1];exact e3,oy e4⟩) hp
 refine Bh I.n.2 H.t.1 H.t.2 hne ?_ fun U u0 u1 hU IY=>?_
 .refine one H.t.1 H.t.2 hne ?_;unfold kQ;rw[hS,h1,h2];dsimp only;rw[aj rfl,aj e1];exact tB
 .have:=one (d:=0) u0 u1 hU (by
   unfold kQ;rw[hS,h1,h2];dsimp only;rw[af (fun z=>IY z.symm),af (fun z=>IY (by rw[<-z,e1]))];exact e_ _)
  omega
theorem aj8(hx:x=jf (ai m t))(ha:a=m.1)(hs:(ai m t).2.2.2.2.1≠[])(hne:(au (ai m t)).1≠t)(hc:(au (ai m t)).2.1=(aq m.1 (au (ai m t)).1).1->(aq m.1 (au (ai m t)).1).2.1≠1/\¬ vn m.1 (au (ai m t)).1) :
  fD m.2.1.length t (QQ m' t)+1<=fD m.2.1.length t (QQ m t):=by
 have hS:=wj I t0 t1 K G;have T:=I.th t t0 t1;have H:=T.dZ _ (mI hs);have h1:=zF hs hne;have h2:lK x t=none:=by
  rw[hx];rcases T.st with z | ⟨q,z⟩ | ⟨q,q',z,zt⟩
  .exact absurd z hs
  .exact vR (by unfold jf;dsimp only;rw[z];rfl)
  .exact yB (by unfold au jf;dsimp only;rw[z];exact zt)
 generalize au (ai m t)=h at *;have nd:∀U,¬ rf m' t U:=fun U ⟨k,e,_⟩=>by rw[hS,h2]at e;cases e
 have nh:∀U,¬ we m' t U:=fun U ⟨k,e,_⟩=>by rw[hS,h2]at e;cases e
 have np:∀U,kQ m' t U=0:=fun U=>by unfold kQ;rw[hS,h2]
 refine Bh I.n.2 H.t.1 H.t.2 hne ?_ fun U u0 u1 hU IY=>?_
 .have hA:=xT I t0 t1 K G h.1 H.t.1 H.t.2;have hr:=(A8 (T:=t) I H).2.1;have hp:kQ m t h.1=m9 m t h:=by unfold kQ;rw[h1];dsimp only;rw[aj rfl]
  unfold QQ;rw[np,o8 (nd h.1),hp];have b1:=nP (q_ m' t h.1);by_cases z:oa m h
  .have e1:¬ q_ m t h.1:=fun w=>w.2.2.2 ⟨h,h1,rfl,z⟩;obtain⟨w1,w2⟩:=hc z.2;have e2:q_ m' t h.1:=⟨(B5 I t0 t1 K G H.t.1 hne).2 z.1,by rw[G.mem,ha];exact w1,by rw[G.mem,ha];exact w2,nh _⟩
   have b2:=nP (rf m t h.1);rw[o8 e1,vU e2];omega
  .have e1:rf m t h.1:=⟨h,h1,rfl,z⟩
   have e2:ind (q_ m t h.1)<=ind (q_ m' t h.1):=B4 fun⟨c1,c2,c3,c4⟩=>⟨(B5 I t0 t1 K G H.t.1 hne).2 c1,by rw[G.mem,ha];exact c2,by rw[G.mem,ha];exact c3,nh _⟩
   rw[vU e1];omega
 .have:=EF I t0 t1 K G (d:=0) u0 u1 hU (fun z=>absurd z (nd U)) (fun z=>absurd z (nh U)) (by
   rw[np];unfold kQ;rw[h1];dsimp only;rw[af (fun z=>IY z.symm)];exact e_ _)
  omega
theorem aj6{v p:Int}(h1:lK (ai m t) t=none)(hx:lK x t=some (v,(aq m.1 v).1,0,0,()))(ha:a=m.1)(v0:0<=v)(v1:v<m.2.1.length)(vt:v≠t)(vo:bw m v)(p0:0<=p)(p1:p<20)(hw:wd m.1 p=dL v (aq m.1 v).1) :
  fD m.2.1.length t (QQ m' t)+1<=fD m.2.1.length t (QQ m t):=by
 have hS:=wj I t0 t1 K G;have oy:oa m' (v,(aq m.1 v).1,0,0,()):=⟨(B5 I t0 t1 K G v0 vt).2 vo,by rw[G.mem,ha]⟩
 have nd:∀U,¬ rf m' t U:=fun U ⟨k,e,_,z⟩=>by rw[hS,hx]at e;cases e;exact z oy
 have hh:∀U,we m' t U->we m t U\/vn m.1 U:=fun U ⟨k,e,e2,z⟩=>by
  rw[hS,hx]at e;cases e;dsimp only at e2;rw[<-e2];exact .inr ⟨p,p0,p1,hw⟩
 have np:∀U,kQ m t U=0:=fun U=>by unfold kQ;rw[h1]
 have hv:1<=m9 m' t (v,(aq m.1 v).1,0,0,()):=by unfold m9;have:=nP (Ag m' t v);split<;>dsimp only<;>omega
 refine Bh I.n.2 v0 v1 vt ?_ fun U u0 u1 hU IY=>?_
 .refine EF I t0 t1 K G v0 v1 vt (fun z=>absurd z (nd v)) (hh v) ?_;rw[np];unfold kQ;rw[hS,hx];dsimp only;rw[aj rfl];omega
 .have:=EF I t0 t1 K G (d:=0) u0 u1 hU (fun z=>absurd z (nd U)) (hh U) (by
   rw[np];unfold kQ;rw[hS,hx];dsimp only;rw[af (fun z=>IY z.symm)];exact e_ _)
  omega
end
theorem adk{n:Nat}(hn:n<=3){T V W d e:Int}{f g:Int->Int}(hT:0<=T/\T<n)(hV:0<=V/\V<n)(hW:0<=W/\W<n)(h1:V≠T)(h2:W≠T)(h3:V≠W)(a:f V+d<=g V)(b:f W+e<=g W):fD n T f+(d+e)<=fD n T g:=by
 have WW:n=3:=by omega
 subst WW;have t3:T=0\/T=1\/T=2:=by omega
 have v3:V=0\/V=1\/V=2:=by omega
 have w3:W=0\/W=1\/W=2:=by omega
 unfold fD;rcases t3 with rfl | rfl | rfl<;>rcases v3 with rfl | rfl | rfl<;>rcases w3 with rfl | rfl | rfl<;>first | (exfalso;omega) | (simp;omega)
theorem Nl{m:aH}(I:Inv m)(L:Live m){t v:Int}(t0:0<=t)(t1:t<m.2.1.length)(hs:(ai m t).2.2.2.2.1≠[])(h1:(au (ai m t)).2.1=(aq m.1 (au (ai m t)).1).1)(h2:(aq m.1 (au (ai m t)).1).2.1=1)
  (hne:(au (ai m t)).1≠t) (vo:bw m v) (f6:nT m.1 (au (ai m t)).1 v):v≠t:=by
 intro q;subst q;have T:=I.th v t0 t1;have H:=T.dZ _ (mI hs);rcases T.st with z | ⟨q,z⟩ | ⟨q,q',z,zt⟩
 .exact hs z
 .have:au (ai m v)=q:=by unfold au;rw[z];rfl
  rw[this]at hne;unfold bw bA at vo;rw[z]at vo;exact hne (by simpa using vo)
 .have e:au (ai m v)=q':=by unfold au;rw[z];rfl
  have l:=L v t0 t1 _ _ z;rw[<-e]at l;rcases l.2 h1 h2 with c | ⟨w,w0,w1,wu,wh,c1,c2⟩
  .exact UD I t0 t1 H.t.1 H.t.2 c f6 hne.symm
  .exact no3 I t0 t1 w0 w1 H.t.1 H.t.2 c1 c2 f6 wu.symm wh hne
noncomputable def iB(s:Int)(l:List gv)(T:Int):Int:=
 match l with
 | h::_=>if h.1=T then 1+h.2.2.1+ind (s≠1)+h.2.2.2.1 else 0
 | []=>0
theorem Bc(m:aH)(T:Int):o3 m T=iB (aq m.1 T).2.1 (ai m T).2.2.2.2.1 T:=rfl
theorem II(s:Int)(h:gv){T:Int}(e:h.1=T):iB s [h] T=1+h.2.2.1+ind (s≠1)+h.2.2.2.1:=aj e
theorem AR(s:Int)(h:gv)(r:List gv){T:Int}(e:h.1≠T):iB s (h::r) T=0:=af e
theorem GI{m:aT}{n:Nat}{x:cK}{t:Int}(T:jr m n x t)(s:Int){h':gv}(hs:x.2.2.2.2.1≠[])(hne:(au x).1≠t)(WZ:h'.1≠t):iB s (j_ x h').2.2.2.2.1 t=iB s x.2.2.2.2.1 t:=by
 unfold j_;dsimp only;rcases T.st with z | ⟨q,z⟩ | ⟨q,q',z,zt⟩
 .exact absurd z hs
 .have:au x=q:=by unfold au;rw[z];rfl
  rw[this]at hne;rw[z];show iB s [h'] t=iB s [q] t;rw[AR s q [] hne,AR s h' [] WZ]
 .rw[z];rfl
theorem acA{m:aT}{n:Nat}{x:cK}{t:Int}(T:jr m n x t)(s:Int)(hs:x.2.2.2.2.1≠[])(hne:(au x).1≠t):iB s (jf x).2.2.2.2.1 t=iB s x.2.2.2.2.1 t:=by
 unfold jf;dsimp only;rcases T.st with z | ⟨q,z⟩ | ⟨q,q',z,zt⟩
 .exact absurd z hs
 .have:au x=q:=by unfold au;rw[z];rfl
  rw[this]at hne;rw[z,AR s q [] hne];rfl
 .rw[z];rfl
theorem Hy{m:aH}(I:Inv m)(L:Live m){t:Int}(t0:0<=t)(t1:t<m.2.1.length)(hs:(ai m t).2.2.2.2.1≠[])(he:(au (ai m t)).1=t):(ai m t).2.2.2.2.1=[au (ai m t)]:=by
 rcases(I.th t t0 t1).st with z | ⟨q,z⟩ | ⟨q,q',z,zt⟩
 .exact absurd z hs
 .have:au (ai m t)=q:=by unfold au;rw[z];rfl
  rw[this,z]
 .have:au (ai m t)=q':=by unfold au;rw[z];rfl
  exact absurd (this ▸ he) (L t t0 t1 _ _ z).1
section
variable {m m':aH} (I:Inv m) (L:Live m) {t:Int} (t0:0<=t) (t1:t<m.2.1.length) {a:aT} {x:cK} (K:Kind m t a x) (G:jI m m' t a x)
include I L t0 t1 K G
theorem aj7{v:Int}(hs:(ai m t).2.2.2.2.1≠[])(h1:(au (ai m t)).2.1=(aq m.1 (au (ai m t)).1).1)(h2:(aq m.1 (au (ai m t)).1).2.1=1)(hne:(au (ai m t)).1≠t)(vh:v≠(au (ai m t)).1)(v0:0<=v)(v1:v<m.2.1.length)
  (vo:bw m v) (f6:nT m.1 (au (ai m t)).1 v) (ha:a=m.1) (hx:x=j_ (ai m t) (v,(aq m.1 v).1,0,0,())):fD m.2.1.length t (QQ m' t)+2<=fD m.2.1.length t (QQ m t):=by
 have vt:=Nl I L t0 t1 hs h1 h2 hne vo f6;have hS:=wj I t0 t1 K G;have H:=(I.th t t0 t1).dZ _ (mI hs);have f1:=zF hs hne;have f2:lK x t=some (v,(aq m.1 v).1,0,0,()):=by obtain⟨e,e2⟩:=Hu hs (v,(aq m.1 v).1,0,0,());have:=zF (x:=j_ (ai m t) (v,(aq m.1 v).1,0,0,())) (t:=t) e2 (by rw[e];exact vt);rw[hx,this,e]
 have n3:=I.n.2;generalize au (ai m t)=h at *;have w0:=H.t.1;have w1:=H.t.2;have hop:bw m h.1:=I.mem.jN h.1 w0 w1 h2;have oy:oa m h:=⟨hop,h1⟩
 have CG:¬ Ag m t h.1:=fun⟨C,c0,c1,c2,c3,c4⟩=>by
  have:C=v:=by omega
  subst this;exact UD I w0 w1 c0 c1 f6 c4 vh.symm
 have hp:m9 m t h<=9:=by unfold m9;rw[aj ⟨oy,h2⟩,o8 CG];have:=H.r8;omega
 have hlv:Ag m' t v:=⟨h.1,w0,by rw[G.n];exact w1,hne,vh.symm,by rw[G.mem,ha];exact f6⟩
 have hq:11<=m9 m' t (v,(aq m.1 v).1,0,0,()):=by unfold m9;rw[vU hlv];split<;>dsimp only<;>omega
 have hmk:vn m.1 v:=by obtain⟨_,i,i0,i1,_,hi⟩:=f6;have he:=I.mem.gU w0 w1 i0 i1;exact⟨_,he.1.1,he.1.2,hi⟩
 have hvl:oa m' (v,(aq m.1 v).1,0,0,()):=⟨(B5 I t0 t1 K G v0 vt).2 vo,by rw[G.mem,ha]⟩
 have nd:∀U,¬ rf m' t U:=fun U ⟨k,e,_,z⟩=>by rw[hS,f2]at e;cases e;exact z hvl
 have hh:∀U,we m' t U->we m t U\/vn m.1 U:=fun U ⟨k,e,e2,z⟩=>by
  rw[hS,f2]at e;cases e;dsimp only at e2;rw[<-e2];exact .inr hmk
 have A:=EF I t0 t1 K G (d:=-9) w0 w1 hne (fun z=>absurd z (nd _)) (hh _) (by
  unfold kQ;rw[hS,f1,f2];dsimp only;rw[aj rfl,af vh];omega)
 have B:=EF I t0 t1 K G (d:=11) v0 v1 vt (fun z=>absurd z (nd _)) (hh _) (by
  unfold kQ;rw[hS,f1,f2];dsimp only;rw[af vh.symm,aj rfl];omega)
 have:=adk n3 (T:=t) ⟨t0,t1⟩ ⟨w0,w1⟩ ⟨v0,v1⟩ hne vt vh.symm A B;omega
omit L in
theorem akV{d:Int}(ho:j7 m t+d<=j7 m' t):PP m' t+d<=PP m t:=by have:=xT I t0 t1 K G t t0 t1;unfold PP;omega
omit L in
theorem EN(hA:AA m' t+1<=AA m t)(hx:x.2.2.2=([],[],())):PP m' t+1<=PP m t:=by
 have h1:=Nh I (T:=t) ⟨t0,t1⟩;have hS:=wj I t0 t1 K G;have h2:0<=j7 m' t:=by unfold j7 gt;rw[Bc,hS,hx];have:=nP (x.2.2.1=true);show 0<=ind (x.2.2.1=true)+(0:Int)+0;omega
 unfold PP;omega
omit L in
theorem v7{d:Int}(hg:((ai m t).2.2.2.1.length:Int)+ind ((ai m t).2.2.1=true)+iB (aq m.1 t).2.1 (ai m t).2.2.2.2.1 t+d<=(x.2.2.2.1.length:Int)+ind (x.2.2.1=true)+iB (aq a t).2.1 x.2.2.2.2.1 t):PP m' t+d<=PP m t:=by refine akV I t0 t1 K G ?_;unfold j7 gt;rw[Bc,Bc,wj I t0 t1 K G,G.mem];omega
omit L in
theorem akC{u:Int}(u0:0<=u)(u1:u<m.2.1.length)(h1:(aq m.1 u).2.1=1)(h2:(aq a u).2.1=1):ind (Ag m t u)<=ind (Ag m' t u):=
 B4 fun⟨C,a0,a1,n1,n2,s⟩=>⟨C,a0,by rw[G.n];exact a1,n1,n2,by rw[G.mem];exact TM I t0 t1 K a0 a1 u0 u1 n2 h1 h2 s⟩
theorem M1(hs:(ai m t).2.2.2.2.1≠[])(h1:(au (ai m t)).2.1=(aq m.1 (au (ai m t)).1).1)(h2:(aq m.1 (au (ai m t)).1).2.1=1)(hd:∀u,aq a u=aq m.1 u)
  (hx:x=j_ (ai m t) ((au (ai m t)).1,(au (ai m t)).2.1,(au (ai m t)).2.2.1+1,(au (ai m t)).2.2.2)):iQ m' t+1<=iQ m t:=by
 have T:=I.th t t0 t1;have H:=T.dZ _ (mI hs);obtain⟨p1,p2⟩:=Hu hs ((au (ai m t)).1,(au (ai m t)).2.1,(au (ai m t)).2.2.1+1,(au (ai m t)).2.2.2);by_cases he:(au (ai m t)).1=t
 .have o1:=Hy I L t0 t1 hs he;have e1:x.2.2.2.2.1=[((au (ai m t)).1,(au (ai m t)).2.1,(au (ai m t)).2.2.1+1,(au (ai m t)).2.2.2)]:=by rw[hx];unfold j_;dsimp only;rw[o1];rfl
  have l1:iB (aq m.1 t).2.1 (ai m t).2.2.2.2.1 t=1+(au (ai m t)).2.2.1+ind ((aq m.1 t).2.1≠1)+(au (ai m t)).2.2.2.1:=by rw[o1];exact II _ _ he
  have l2:iB (aq a t).2.1 x.2.2.2.2.1 t=1+((au (ai m t)).2.2.1+1)+ind ((aq m.1 t).2.1≠1)+(au (ai m t)).2.2.2.1:=by rw[e1,hd t];exact II _ _ he
  have g1:x.2.2.2.1=(ai m t).2.2.2.1:=by rw[hx];rfl
  have g2:x.2.2.1=(ai m t).2.2.1:=by rw[hx];rfl
  have A:=v7 I t0 t1 K G (d:=1) (by
   rw[l1,l2,g1,g2];omega)
  have B:=Cc I t0 t1 K G (yB he) (by rw[hx];exact yB (by rw[p1];exact he));unfold iQ;rw[G.n];omega
 .have A:=v7 I t0 t1 K G (d:=0) (by
   rw[hx,hd t,GI T _ hs he (h':=((au (ai m t)).1,(au (ai m t)).2.1,(au (ai m t)).2.2.1+1,(au (ai m t)).2.2.2)) he];show((ai m t).2.2.2.1.length:Int)+ind ((ai m t).2.2.1=true)+_+0<=((ai m t).2.2.2.1.length:Int)+ind ((ai m t).2.2.1=true)+_;omega)
  have f2:lK x t=some ((au (ai m t)).1,(au (ai m t)).2.1,(au (ai m t)).2.2.1+1,(au (ai m t)).2.2.2):=by rw[hx,zF p2 (by rw[p1];exact he),p1]
  have c:oa m (au (ai m t)):=⟨I.mem.jN _ H.t.1 H.t.2 h2,h1⟩
  have c':oa m' ((au (ai m t)).1,(au (ai m t)).2.1,(au (ai m t)).2.2.1+1,(au (ai m t)).2.2.2):=⟨(B5 I t0 t1 K G H.t.1 he).2 c.1,by rw[G.mem,hd];exact h1⟩
  have tc:(aq m'.1 (au (ai m t)).1).2.1=1:=by rw[G.mem,hd];exact h2
  have lv:=akC I t0 t1 K G H.t.1 H.t.2 h2 (by rw[hd];exact h2);have B:=EO I t0 t1 K G H he (zF hs he) f2 rfl rfl (by
   unfold m9;rw[aj ⟨c,h2⟩,aj ⟨c',tc⟩];dsimp only;omega)
  unfold iQ;rw[G.n];omega
theorem M0(hs:(ai m t).2.2.2.2.1≠[])(h2:(aq m.1 (au (ai m t)).1).2.1≠1)(hd:∀u,aq a u=aq m.1 u)
  (hx:x=j_ (ai m t) ((au (ai m t)).1,(au (ai m t)).2.1,(au (ai m t)).2.2.1,(au (ai m t)).2.2.2.1+1,())):iQ m' t+1<=iQ m t:=by
 have T:=I.th t t0 t1;have H:=T.dZ _ (mI hs);obtain⟨p1,p2⟩:=Hu hs ((au (ai m t)).1,(au (ai m t)).2.1,(au (ai m t)).2.2.1,(au (ai m t)).2.2.2.1+1,());by_cases he:(au (ai m t)).1=t
 .have o1:=Hy I L t0 t1 hs he;have e1:x.2.2.2.2.1=[((au (ai m t)).1,(au (ai m t)).2.1,(au (ai m t)).2.2.1,(au (ai m t)).2.2.2.1+1,())]:=by rw[hx];unfold j_;dsimp only;rw[o1];rfl
  have l1:iB (aq m.1 t).2.1 (ai m t).2.2.2.2.1 t=1+(au (ai m t)).2.2.1+ind ((aq m.1 t).2.1≠1)+(au (ai m t)).2.2.2.1:=by rw[o1];exact II _ _ he
  have l2:iB (aq a t).2.1 x.2.2.2.2.1 t=1+(au (ai m t)).2.2.1+ind ((aq m.1 t).2.1≠1)+((au (ai m t)).2.2.2.1+1):=by rw[e1,hd t];exact II _ _ he
  have g1:x.2.2.2.1=(ai m t).2.2.2.1:=by rw[hx];rfl
  have g2:x.2.2.1=(ai m t).2.2.1:=by rw[hx];rfl
  have A:=v7 I t0 t1 K G (d:=1) (by
   rw[l1,l2,g1,g2];omega)
  have B:=Cc I t0 t1 K G (yB he) (by rw[hx];exact yB (by rw[p1];exact he));unfold iQ;rw[G.n];omega
 .have A:=v7 I t0 t1 K G (d:=0) (by
   rw[hx,hd t,GI T _ hs he (h':=((au (ai m t)).1,(au (ai m t)).2.1,(au (ai m t)).2.2.1,(au (ai m t)).2.2.2.1+1,())) he];show((ai m t).2.2.2.1.length:Int)+ind ((ai m t).2.2.1=true)+_+0<=((ai m t).2.2.2.1.length:Int)+ind ((ai m t).2.2.1=true)+_;omega)
  have f2:lK x t=some ((au (ai m t)).1,(au (ai m t)).2.1,(au (ai m t)).2.2.1,(au (ai m t)).2.2.2.1+1,()):=by rw[hx,zF p2 (by rw[p1];exact he),p1]
  have B:=EO I t0 t1 K G H he (zF hs he) f2 rfl rfl (by
   unfold m9;rw[af (fun z=>h2 z.2),af (fun z=>h2 (by have:=z.2;rw[G.mem,hd]at this;exact this))];dsimp only;omega)
  unfold iQ;rw[G.n];omega
theorem Ny{c:Int}(hc:c≠1)(hs:(ai m t).2.2.2.2.1≠[])(h1:(au (ai m t)).2.1=(aq m.1 (au (ai m t)).1).1)(h2:(aq m.1 (au (ai m t)).1).2.1=1)(ha:a=bI m.1 (au (ai m t)).1 ((aq m.1 (au (ai m t)).1).1,c,(aq m.1 (au (ai m t)).1).2.2))
  (hx:x=ai m t):iQ m' t+1<=iQ m t:=by
 have T:=I.th t t0 t1;have H:=T.dZ _ (mI hs);have mg:=I.mem.di;have hd:∀v:Int,0<=v->aq a v=if v=(au (ai m t)).1 then ((aq m.1 (au (ai m t)).1).1,c,(aq m.1 (au (ai m t)).1).2.2) else aq m.1 v:=fun v v0=>by rw[ha];exact n7 ⟨H.t.1,by have:=H.t.2;omega⟩ v0
 by_cases he:(au (ai m t)).1=t
 .have o1:=Hy I L t0 t1 hs he;have hst:(aq a t).2.1=c:=by rw[hd t t0,aj he.symm]
  have D7:(aq m.1 t).2.1=1:=he ▸ h2;have l1:iB (aq m.1 t).2.1 (ai m t).2.2.2.2.1 t=1+(au (ai m t)).2.2.1+0+(au (ai m t)).2.2.2.1:=by rw[o1,II _ _ he,o8 (p:=(aq m.1 t).2.1≠1) (fun z=>z D7)]
  have l2:iB (aq a t).2.1 (ai m t).2.2.2.2.1 t=1+(au (ai m t)).2.2.1+1+(au (ai m t)).2.2.2.1:=by rw[o1,II _ _ he,vU (p:=(aq a t).2.1≠1) (by rw[hst];exact hc)]
  have A:=v7 I t0 t1 K G (d:=1) (by
   rw[hx,l1,l2];omega)
  have B:=Cc I t0 t1 K G (yB he) (by rw[hx];exact yB he);unfold iQ;rw[G.n];omega
 .have A:=v7 I t0 t1 K G (d:=0) (by
   rw[hx,hd t t0,af (fun z=>he z.symm)];omega)
  have c0:oa m (au (ai m t)):=⟨I.mem.jN _ H.t.1 H.t.2 h2,h1⟩
  have hr:=(A8 (T:=t) I H).2.2 ⟨c0,h2⟩;have B:=EO I t0 t1 K G H he (zF hs he) (by rw[hx];exact zF hs he) rfl rfl (by
   have e:m9 m' t (au (ai m t))=20+(au (ai m t)).2.2.2.1:=by unfold m9;exact af (fun z=>hc (by have:=z.2;rw[G.mem,hd _ H.t.1,aj rfl]at this;exact this))
   have:=H.fin;omega)
  unfold iQ;rw[G.n];omega
theorem acE:iQ m' t+1<=iQ m t:=by
 have T:=I.th t t0 t1;have hK:=K;have mg:=I.mem.di;have fin:∀{d e:Int},PP m' t+d<=PP m t->fD m.2.1.length t (QQ m' t)+e<=fD m.2.1.length t (QQ m t)->1<=d+e->iQ m' t+1<=iQ m t:=fun h1 h2 h3=>by
  unfold iQ;rw[G.n];omega
 have z0:∀{p q:Int},p<=q->p+0<=q:=fun h=>by omega
 cases K with
 | yY h=>have z:=T.off h;refine fin (d:=1) (e:=0) (v7 I t0 t1 hK G ?_) (z0 (Cc I t0 t1 hK G (vR z.2) (vR z.2))) (by omega);dsimp only;rw[o8 (fun q=>by rw[h]at q;cases q),vU rfl];omega
 | got q ho hs hq=>refine fin (d:=1) (e:=0) (v7 I t0 t1 hK G ?_) (z0 (Cc I t0 t1 hK G (vR hs) (vR hs))) (by omega);show _<=(((ai m t).2.2.2.1++[(q,fW m.1 q,())]).length:Int)+ind ((ai m t).2.2.1=true)+iB (aq m.1 t).2.1 (ai m t).2.2.2.2.1 t;rw[cI,l9];omega
 | new q E r ho hs hv hq=>
  have e1:(rm (rX (ai m t) ((ai m t).2.2.2.1++[(q,fW m.1 q,())])) (t,(aq m.1 t).1+1,0,0,())).2.2.2.2.1=[(t,(aq m.1 t).1+1,0,0,())]:=by show(ai m t).2.2.2.2.1++_=_;rw[hs];rfl
  refine fin (d:=1) (e:=0) (v7 I t0 t1 hK G ?_) (z0 (Cc I t0 t1 hK G (vR hs) (yB (by rw[(Mx _ _).1])))) (by omega);rw[e1,hs,II _ _ rfl];show((ai m t).2.2.2.1.length:Int)+ind ((ai m t).2.2.1=true)+0+1<=(((ai m t).2.2.2.1++[(q,fW m.1 q,())]).length:Int)+ind ((ai m t).2.2.1=true)+(1+0+ind _+0)
  rw[cI,l9];have:=nP ((aq (bI m.1 t ((aq m.1 t).1+1,1,E,r,())) t).2.1≠1);omega
 | now ho hs=>exact fin (d:=1) (e:=0) (EN I t0 t1 hK G (Ce I t0 t1 hK G rfl rfl rfl (.inl rfl)).1 rfl) (z0 (Cc I t0 t1 hK G (vR hs) (vR rfl))) (by omega)
 | pW hs h1 h2 h3=>exact fin (d:=1) (e:=0) (EN I t0 t1 hK G (Ce I t0 t1 hK G rfl rfl rfl (.inl rfl)).1 rfl) (z0 (Cc I t0 t1 hK G (yB h1) (vR rfl))) (by omega)
 | Cs hs h1 h2 h3=>exact fin (d:=1) (e:=0) (EN I t0 t1 hK G (Ce I t0 t1 hK G rfl rfl rfl (.inr ⟨rfl,(Jv T hs h1).1,h2⟩)).1 rfl) (z0 (Cc I t0 t1 hK G (yB h1) (vR rfl))) (by omega)
 | push v p ho hs v0 v1 vt vo p0 p1 hw=>
  have f1:lK (ai m t) t=none:=by
   rcases hs with hs | ⟨k,hs,kt,_⟩
   .exact vR hs
   .exact yB (by unfold au;rw[hs];exact kt)
  have f2:lK (rm (ai m t) (v,(aq m.1 v).1,0,0,())) t=some (v,(aq m.1 v).1,0,0,()):=by obtain⟨e,e2⟩:=Mx (ai m t) (v,(aq m.1 v).1,0,0,());have:=zF (x:=rm (ai m t) (v,(aq m.1 v).1,0,0,())) (t:=t) e2 (by rw[e];exact vt);rw[this,e]
  refine fin (d:=0) (e:=1) (v7 I t0 t1 hK G ?_) (aj6 I t0 t1 hK G f1 f2 rfl v0 v1 vt vo p0 p1 hw) (by omega);show _<=((ai m t).2.2.2.1.length:Int)+ind ((ai m t).2.2.1=true)+iB (aq m.1 t).2.1 ((ai m t).2.2.2.2.1++[(v,(aq m.1 v).1,0,0,())]) t;rcases hs with hs | ⟨k,hs,kt,_⟩
  .rw[hs];rw[show([]++[(v,(aq m.1 v).1,0,0,())]:List gv)=[(v,(aq m.1 v).1,0,0,())] from rfl,AR _ _ _ vt];show _+(0:Int)+0<=_;omega
  .rw[hs];show _+iB (aq m.1 t).2.1 [k] t+0<=_+iB (aq m.1 t).2.1 [k] t;omega
 | qJ hs hne hc=>refine fin (d:=0) (e:=1) (v7 I t0 t1 hK G ?_) (aj8 I t0 t1 hK G rfl rfl hs hne hc) (by omega);rw[acA T _ hs hne];show _<=((ai m t).2.2.2.1.length:Int)+ind ((ai m t).2.2.1=true)+_;omega
 | swap v hs h1 h2 hne vh v0 v1 vo f6=>refine fin (d:=0) (e:=2) (v7 I t0 t1 hK G ?_) (aj7 I L t0 t1 hK G hs h1 h2 hne vh v0 v1 vo f6 rfl rfl) (by omega);rw[GI T _ hs hne (h':=(v,(aq m.1 v).1,0,0,())) (Nl I L t0 t1 hs h1 h2 hne vo f6)];show _<=((ai m t).2.2.2.1.length:Int)+ind ((ai m t).2.2.1=true)+_;omega
 | mA hs h1 h2=>exact M1 I L t0 t1 hK G hs h1 h2 (fun _=>rfl) rfl
 | lay p hs h1 h2 p0 p1 hw hv=>exact M1 I L t0 t1 hK G hs h1 h2 (fun _=>rfl) rfl
 | pX hs h1 h2=>exact M0 I L t0 t1 hK G hs h2 (fun _=>rfl) rfl
 | oQ p y hs h1 h2 p0 p1 hw hv=>exact M0 I L t0 t1 hK G hs h2 (fun _=>rfl) rfl
 | yes hs h1 h2 h3=>exact Ny I L t0 t1 hK G (c:=2) (by decide) hs h1 h2 rfl rfl
 | no i hs h1 h2 i0 i1 hb hw hv hval=>exact Ny I L t0 t1 hK G (c:=3) (by decide) hs h1 h2 rfl rfl
end
theorem Qv{m:aH}(I:Inv m)(L:Live m){t:Int}(t0:0<=t)(t1:t<m.2.1.length):Live (jW m t)/\(∀T:Int,0<=T->T<m.2.1.length->iQ (jW m t) T<=iQ m T)/\((ai m t).2.1<(ai m t).1.length->iQ (jW m t) t+1<=iQ m t):=by
 by_cases h:(ai m t).2.1<(ai m t).1.length
 .have e:jW m t=vp m t:=by unfold jW;rw[aj h]
  rw[e];obtain⟨a,x,K,G⟩:=Q4 I t0 t1 (fun k k' z=>(L t t0 t1 k k' z).1);have I':=IG I;have L':Live (tick m):=L;have s:=acE I' L' t0 t1 K G;have e2:∀T,iQ (tick m) T=iQ m T:=fun T=>rfl;refine⟨ab1 I' L' t0 t1 K G,fun T T0 T1=>?_,fun _=>by rw[<-e2 t];exact s⟩;by_cases q:T=t
  .subst q;rw[<-e2 T];omega
  .rw[<-e2 T];exact abH I' t0 t1 K G ⟨T0,T1⟩ q
 .have e:jW m t=m:=by unfold jW;rw[af h]
  rw[e];exact⟨L,fun _ _ _=>e_ _,fun z=>absurd z h⟩
theorem abK(who:List Int):∀{m:aH},Inv m->Live m->(∀t∈who,0<=t/\t<m.2.1.length)->Live (tM m who)/\∀T:Int,0<=T->T<m.2.1.length->iQ (tM m who) T<=iQ m T:=by
 induction who with
 | nil=>intro m I L _;exact⟨L,fun _ _ _=>e_ _⟩
 | cons t who ih=>intro m I L h;have ht:=h t eW;obtain⟨g1,g2,_⟩:=Qv I L ht.1 ht.2;obtain⟨a,b⟩:=ih (AU I ht.1 ht.2) g1 (fun u hu=>by rw[JA];exact h u (cB _ hu));exact⟨a,fun T T0 T1=>Ip (b T T0 (by rw[JA];exact T1)) (g2 T T0 T1)⟩
theorem Jj{r:qp}{L:List (List cH)}(hL:iF L){U:Int}(u0:0<=U)(u1:U<L.length):∃ops:List cH,ai (dX r L) U=(ops,0,false,[],[],())/\ops.length<=4:=by refine⟨L[U.toNat]'(by omega),?_,(hL.ops _ (er _)).1⟩;unfold ai dX;dsimp only;rw[qv (by rw[jz];omega),yb]
theorem ab0{r:qp}{L:List (List cH)}(hL:iF L):Live (dX r L):=by
 intro t t0 t1 k k' h;have hl:(dX r L).2.1.length=L.length:=by unfold dX;simp
 obtain⟨ops,e,_⟩:=Jj (r:=r) hL t0 (by omega);rw[e]at h;cases h
theorem Mv{n:Nat}(hn:n<=3){T c:Int}(hc:0<=c)(hT:0<=T/\T<n){f:Int->Int}(h:∀U:Int,0<=U->U<n->U≠T->f U<=c):fD n T f<=((n:Int)-1) * c:=by
 have one:∀U:Int,0<=U->(if U<n/\U≠T then f U else 0)<=(if U<n/\U≠T then c else 0):=fun U u0=>by
  by_cases q:U<n/\U≠T
  .rw[aj q,aj q];exact h U u0 q.1 q.2
  .rw[af q,af q];exact e_ _
 have a:=one 0 (by omega);have b:=one 1 (by omega);have d:=one 2 (by omega);have t3:T=0\/T=1\/T=2:=by omega
 have n3:n=1\/n=2\/n=3:=by omega
 unfold fD;rcases n3 with rfl | rfl | rfl<;>rcases t3 with rfl | rfl | rfl<;>first | (exfalso;omega) | (simp at a b d⊢<;>omega)
theorem acD{r:qp}{L:List (List cH)}(hL:iF L){T:Int}(hT:0<=T/\T<L.length):iQ (dX r L) T<=1032/\iQ (dX r L) T<=400 * L.length-1:=by
 have hl:(dX r L).2.1.length=L.length:=by unfold dX;simp
 have hn:=hL.n;have hno:∀U:Int,0<=U->U<L.length->¬ bw (dX r L) U:=fun U u0 u1=>by
  obtain⟨ops,e,_⟩:=Jj (r:=r) hL u0 u1;unfold bw;rw[e];simp[bA]
 have hlf:∀U:Int,0<=U->U<L.length->lf (dX r L) U<=4:=fun U u0 u1=>by
  obtain⟨ops,e,h⟩:=Jj (r:=r) hL u0 u1;unfold lf;rw[e];dsimp only;omega
 have hY:∀U:Int,0<=U->U<L.length->Yv (dX r L) U<=4:=fun U u0 u1=>by
  have:=hlf U u0 u1;have:=nP (lG (dX r L) U);unfold Yv;omega
 have hA:∀U:Int,0<=U->U<L.length->AA (dX r L) U<=4 * L.length:=fun U u0 u1=>by
  have h1:=hlf U u0 u1;have h2:¬ pM (dX r L) U:=by
   obtain⟨ops,e,h⟩:=Jj (r:=r) hL u0 u1;rintro(z | ⟨_,g,hg,_⟩)
   .exact hno U u0 u1 z.1
   .unfold gt at hg;rw[e]at hg;simp at hg
  have h3:=Mv (n:=L.length) hn.2 (T:=U) (c:=4) (f:=Yv (dX r L)) (by omega) ⟨u0,u1⟩ (fun V a b _=>hY V a b);unfold AA;rw[hl,o8 h2];omega
 have hQ:∀U:Int,0<=U->U<L.length->QQ (dX r L) T U<=29 * (4 * L.length):=fun U u0 u1=>by
  have h1:=hA U u0 u1;obtain⟨ops,e,_⟩:=Jj (r:=r) hL hT.1 hT.2;have f:lK (ai (dX r L) T) T=none:=vR (by rw[e]);have h2:¬ rf (dX r L) T U:=fun⟨h,q,_⟩=>by rw[f]at q;cases q
  have h3:=nP (q_ (dX r L) T U);have h4:kQ (dX r L) T U=0:=by unfold kQ;rw[f]
  unfold QQ;rw[o8 h2,h4];omega
 have h5:=Mv (n:=L.length) hn.2 (T:=T) (c:=29 * (4 * (L.length:Int))) (f:=QQ (dX r L) T) (by omega) hT (fun V a b _=>hQ V a b);have h6:=hA T hT.1 hT.2;have h7:0<=j7 (dX r L) T:=by obtain⟨ops,e,_⟩:=Jj (r:=r) hL hT.1 hT.2;unfold j7 gt;rw[Bc,e];have:=nP (false=true);show 0<=ind (false=true)+(0:Int)+0;omega
 unfold iQ PP;rw[hl];have n3:L.length=1\/L.length=2\/L.length=3:=by omega
 rcases n3 with q | q | q<;>rw[q]at h5 h6⊢<;>omega
theorem ajK{m:aH}{t:Int}{a:aT}{x:cK}(K:Kind m t a x):x.1=(ai m t).1/\(x.2.1=(ai m t).2.1\/x.2.1=(ai m t).2.1+1):=by cases K<;>first | exact⟨rfl,.inl rfl⟩ | exact⟨rfl,.inr rfl⟩
theorem abS{m:aH}(I:Inv m)(L:Live m){t:Int}(t0:0<=t)(t1:t<m.2.1.length):(∀U:Int,0<=U->U≠t->ai (jW m t) U=ai m U)/\(ai (jW m t) t).1=(ai m t).1/\((ai (jW m t) t).2.1=(ai m t).2.1\/(ai (jW m t) t).2.1=(ai m t).2.1+1):=by
 by_cases h:(ai m t).2.1<(ai m t).1.length
 .have e:jW m t=vp m t:=by unfold jW;rw[aj h]
  rw[e];obtain⟨a,x,K,G⟩:=Q4 I t0 t1 (fun k k' z=>(L t t0 t1 k k' z).1);have:=ajK K;refine⟨fun U u0 q=>by rw[G.ai U u0,af q];rfl,?_⟩;rw[G.ai t t0,aj rfl];exact this
 .have e:jW m t=m:=by unfold jW;rw[af h]
  rw[e];exact⟨fun _ _ _=>rfl,rfl,.inl rfl⟩
structure VZ (m a:aH) (t pc:Int) (k:Nat):Prop where
 inv:Inv a
 live:Live a
 len:a.2.1.length=m.2.1.length
 time:m.2.2.1<=a.2.2.1/\a.2.2.1<=m.2.2.1+k
 Eh:∀U:Int,0<=U->U≠t->ai a U=ai m U
 ops:(ai a t).1=(ai m t).1
 low:∀T:Int,0<=T->T<m.2.1.length->iQ a T<=iQ m T
 pc:((ai a t).2.1=pc/\(iQ a t+k<=iQ m t\/¬ pc<(ai m t).1.length))\/(ai a t).2.1=pc+1
section
variable {X:Ext} (hX:fI X) {n:Nat}
include hX
end
section
variable {X:Ext} (hX:fI X) {n:Nat}
include hX
theorem ako(hn:1<=n)(x:cK):Vh (DD X n) x=some ((decide (x.2.1=(x.1.length:Int)),()),()):=by
 obtain⟨n,rfl⟩:∃k,n=k+1:=⟨n-1,by omega⟩
 rw[qub hX];rfl
end
def lp(g:aH)(T:Int):Prop:=(ai g T).2.1=((ai g T).1.length:Int)
structure RI (n0:Nat) (stop:Int) (j i:Nat) (g:aH):Prop where
 inv:Inv g
 live:Live g
 len:g.2.1.length=n0
 time:g.2.2.1<=1000+120 * j+40 * i
 low:∀T:Int,0<=T->T<n0->T≠stop->lp g T\/iQ g T+40 * lf g T+40 * j+(if T<i then 40 else 0)<=1192
section
variable {X:Ext} (hX:fI X) {n:Nat}
include hX
end
section
variable {X:Ext} (hX:fI X) {n:Nat}
include hX
theorem akZ(hn:2<=n)(x:cK):gZ ctx (DD X n) (bf.mk 62 []) [bD.val BR x] Ty.bool=some (!decide (x.2.1=(x.1.length:Int))):=by
 obtain⟨n,rfl⟩:∃k,n=k+1:=⟨n-1,by omega⟩
 have e:∀D:Den ctx,gZ ctx D (bf.mk 62 []) [bD.val BR x] Ty.bool=(Qf D x).bind fun r=>some r.1.1:=fun D=>by kernel_rfl
 rw[e,akI hX];simp only[FO,Qt];rw[ako hX (by omega),qc];rfl
theorem akM(hn:W+11<=n){m:aH}(I:Inv m)(ht:m.2.2.1<=100000):ZR (DD X n) m=some ((!(m.2.1.any fun x=>!decide (x.2.1=(x.1.length:Int))),()),()):=by
 obtain⟨n,rfl⟩:∃k,n=k+1:=⟨n-1,by omega⟩
 have n3:=I.n;rw[akL hX];simp only[GR,Sx];rw[Tg hX (by omega) I ht,qc];dsimp only;rw[aJ,akJ hX (by omega) (by omega) (f:=fun x=>!decide (x.2.1=(x.1.length:Int))) (fun x _=>akZ hX (by omega) x),qc]
structure FI (n0 j i:Nat) (g:aH):Prop where
 inv:Inv g
 live:Live g
 len:g.2.1.length=n0
 time:g.2.2.1<=1000+3 * j+i
 low:∀T:Int,0<=T->T<n0->lp g T\/iQ g T+j+(if T<i then 1 else 0)<=1032
theorem SF(N n:Nat)(hN:W+17<=N)(K0:Int->Int->Bool->aH->aH->Option ((aH×Unit)×Unit))(x0 x1:Int)(z:aH){n0:Nat}{j:Nat}(hj:j<=2000):∀(c i:Nat)(mv:Bool)(g:aH),FI n0 j i g->(mv=true\/∃T:Int,i<=T/\T<n0/\¬ lp g T)->i<=n0->n0-i<c->
  ∃g',FI n0 (j+1) 0 g'/\Mc (DD X N) n K0 c x0 x1 mv (n0:Int) (i:Int) g z=K0 x0 x1 true g' z
 | 0,i,_,_,_,_,_,h2=>by omega
 | c+1,i,mv,g,R,I3,h1,h2=>by
  have hW:=ez;have vI:=R.len;have n3:=R.inv.n;have hgt:=R.time;simp only[Mc,FL];by_cases hi:i<n0
  .have T:=R.inv.th (i:Int) (by omega) (by omega);have z_:=T.pc;have I':=AU R.inv (t:=(i:Int)) (by omega) (by omega);obtain⟨L',g1,g2⟩:=Qv R.inv R.live (t:=(i:Int)) (by omega) (by omega);obtain⟨h3,h4,h5⟩:=abS R.inv R.live (t:=(i:Int)) (by omega) (by omega);have hl:=JA g (i:Int);have ht:=GQ hX g (i:Int);rw[qf (by omega),qu (by omega),Kh hX (by omega) R.inv (by omega) (by omega) (by omega),qc];dsimp only;refine SF N n hN K0 x0 x1 z hj c (i+1) _ (jW g (i:Int)) ⟨I',L',hl.trans R.len,by omega,fun U U0 U1=>?_⟩ ?_ (by omega) (by omega)
   .have alu:=g1 U U0 (by omega);by_cases w:U=(i:Int)
    .subst w;by_cases q:(ai g (i:Int)).2.1<(ai g (i:Int)).1.length
     .have hs:=g2 q;rcases R.low _ U0 U1 with h | h
      .exact absurd h (by unfold lp;omega)
      .rw[af (by omega)]at h;rw[aj (by omega)];exact .inr (by omega)
     .refine .inl ?_;have e:jW g (i:Int)=g:=by unfold jW;rw[af q]
      unfold lp;rw[e];omega
    .rcases R.low U U0 U1 with h | h
     .refine .inl ?_;unfold lp at h⊢;rw[h3 U U0 w];exact h
     .refine .inr ?_;by_cases q:U<i
      .rw[aj q]at h;rw[aj (by omega)];omega
      .rw[af q]at h;rw[af (by omega)];omega
   .rcases I3 with h | ⟨U,a0,a1,a2⟩
    .rw[h];exact .inl rfl
    .by_cases w:U=(i:Int)
     .left;subst w;have q:(ai g (i:Int)).2.1<(ai g (i:Int)).1.length:=by unfold lp at a2;omega
      rw[bC q];cases mv<;>rfl
     .right;refine⟨U,by omega,a1,fun z=>a2 ?_⟩;unfold lp at z⊢;rw[h3 U (by omega) w]at z;exact z
  .rw[qg (by omega)];have hm:mv=true:=by
    rcases I3 with h | ⟨U,a0,a1,_⟩
    .exact h
    .omega
   refine⟨g,⟨R.inv,R.live,R.len,by omega,fun U U0 U1=>?_⟩,by rw[hm]⟩;rcases R.low U U0 U1 with h | h
   .exact .inl h
   .rw[aj (by omega)]at h;rw[af (by omega)];exact .inr (by omega)
theorem SE(N n:Nat)(hN:W+19<=N)(hnW:W<=n)(K0:aH->aH->Option ((aH×Unit)×Unit))(z:aH){n0:Nat}:∀(c j:Nat)(g:aH),FI n0 j 0 g->j<=2000->2000-j<c->
  ∃g',Inv g'/\Live g'/\g'.2.1.length=n0/\g'.2.2.1<=7000/\(∀T:Int,0<=T->T<n0->lp g' T)/\CT (DD X N) n K0 c 2000 (j:Int) g z=K0 g' z
 | 0,j,_,_,_,h2=>by omega
 | c+1,j,g,R,h1,h2=>by
  have hW:=ez;have n3:=R.inv.n;have vI:=R.len;have hgt:=R.time;simp only[CT,ET];by_cases hj:j<2000
  .rw[bC (show(j:Int)<2000 by omega),bz,aJ,akM hX (by omega) R.inv (by omega),qc];dsimp only;cases zS:g.2.1.any fun x=>!decide (x.2.1=(x.1.length:Int)) with
   | false=>
    rw[iN,cQ,aN];refine⟨g,R.inv,R.live,R.len,by omega,fun T T0 T1=>?_,rfl⟩;have e:ai g T=g.2.1[T.toNat]'(by omega):=by unfold ai;rw[qv (by omega)]
    have:=List.any_eq_false.1 zS _ (er (show T.toNat<g.2.1.length by omega));unfold lp;rw[e];simpa using this
   | true=>
    rw[cQ,iN,aJ];simp only[Ho];have hex:∃T:Int,((0:Nat):Int)<=T/\T<n0/\¬ lp g T:=by
     obtain⟨x,hx,hp⟩:=HY.1 zS;obtain⟨k,hk,rfl⟩:=mT.1 hx;refine⟨(k:Int),by omega,by omega,?_⟩;have e:ai g (k:Int)=g.2.1[k]:=by unfold ai;rw[eB,qv hk]
     unfold lp;rw[e];simpa using hp
    rw[vI];obtain⟨g1,R1,e1⟩:=SF hX N n (by omega) (fun bT dU iX jw yS=>GS (DD X N) n (CT (DD X N) n K0 c) K0 bT dU iX jw yS) 2000 (j:Int) z h1 n 0 false g R (.inr hex) (fF _) (by omega);obtain⟨g2,a1,a2,a3,a4,a5,e2⟩:=SE N n hN hnW K0 z c (j+1) g1 R1 (by omega) (by omega);refine⟨g2,a1,a2,a3,a4,a5,dI e1 ?_⟩;simp only[GS];rw[cQ,aN,qu (by omega)];exact e2
  .rw[b8 (show ¬ (j:Int)<2000 by omega),bg,aN];refine⟨g,R.inv,R.live,R.len,by omega,fun T T0 T1=>?_,rfl⟩;rcases R.low T T0 T1 with h | h
   .exact h
   .exfalso;have:=abg R.inv (T:=T) ⟨T0,by omega⟩;rw[af (by omega)]at h;omega
theorem ak1(hn:W+20<=n){g:aH}(I:Inv g)(L:Live g)(ht:g.2.2.1<=1000)(hp:∀T:Int,0<=T->T<g.2.1.length->iQ g T<=1032) :
  ∃g',Inv g'/\Live g'/\g'.2.1.length=g.2.1.length/\g'.2.2.1<=7000/\(∀T:Int,0<=T->T<g.2.1.length->lp g' T)/\Ik (DD X n) g 2000=some ((g',()),()):=by
 obtain⟨n,rfl⟩:∃k,n=k+1:=⟨n-1,by omega⟩
 have hW:=ez;obtain⟨g',a1,a2,a3,a4,a5,e⟩:=SE hX n n (by omega) (by omega) (fun bT dU=>SA (DD X n) n bT dU) (([],[],()),[],0,[],[],([],0,()),()) n 0 g
  ⟨I,L,rfl,by omega,fun T T0 T1=>.inr (by have:=hp T T0 T1;rw[af (by omega)];omega)⟩ (by omega) (by omega)
 refine⟨g',a1,a2,a3,a4,a5,?_⟩;rw[ala hX];simp only[Il,Im,GV];rw[VI hX (by omega) (J1 hX I),qc];dsimp only;exact e
end
section
variable {X:Ext} (hX:fI X) {n:Nat}
include hX
theorem Io(hn:3<=n){R:qp}(hR:aS R):xB (DD X n) (kF R)=some ((R,()),()):=by
 obtain⟨n,rfl⟩:∃k,n=k+1:=⟨n-1,by omega⟩
 have hl:=rU R;have hr:=hR.len;rw[ak5 hX];simp only[GU,SC];rw[hl,show(((20:Nat):Int) != 20)=false by rfl,aN,show(decide ((0:Nat)<=0)&&decide ((0:Nat)<=4)&&decide ((4:Int)<=((20:Nat):Int)))=true by rfl,aJ,show(0:Int).toNat=0 from rfl,show(4:Int).toNat=4 from rfl,jV];have e4:(kF R).take 4=R.1:=by apply x_ (by rw[e9,hl,hr];rfl);intro i h1 h2;rw[List.getElem_take];have:=qQ R (p:=i) (by omega);rw[qv (by omega)]at this;rw[this,(tH hR (k:=(i:Int)) ⟨by omega,by omega⟩).1,eB,qv h2]
 rw[e4,FN hX (by omega) _ (by omega),qc];dsimp only;obtain⟨n,rfl⟩:∃k,n=k+1:=⟨n-1,by omega⟩
 rw[Qu hX];simp only[Ga,Qw];rw[qc];dsimp only;rw[show(decide ((0:Int)<=13)&&decide ((13:Int)<((20:Nat):Int)))=true by rfl,aJ,show(13:Int).toNat=13 from rfl,qQ R (by omega)];rfl
theorem ak0(hn:W+8<=n){R:qp}(hR:aS R):HZ (DD X n) (kF R)=some ((true,()),()):=by
 obtain⟨n,rfl⟩:∃k,n=k+1:=⟨n-1,by omega⟩
 have hl:=rU R;rw[ak9 hX];simp only[H_,SD];rw[Io hX (by omega) hR,qc];dsimp only;rw[show((R.1,R.2):qp)=R from rfl,q8n hX (by omega) hR,qc];dsimp only;rw[aJ,QZ hX (by omega) hR,qc];dsimp only;rw[aap hX (by omega) _ (by omega),qc]
end
end Go.G
/- FnOtherWay holds: as far as the other way is made it tells just the rows, and nobody is told by it before it is. No condition beyond the given statement's. -/
namespace Go.G
set_option linter.unusedVariables false
set_option linter.unusedSimpArgs false
set_option linter.unusedSectionVars false
open Go Go.V Go.Proofs
theorem q6e{r:qp}{o:cH}{code:Int}{list:List Int}(h:Out r o code list)(e:o.1=10)(z:code=0):r.2.1=5:=by cases h<;>first | assumption | omega
theorem q69{r:qp}{o:cH}{code:Int}{list:List Int}(h:Out r o code list)(h5:r.2.1=5):(jg r o code).2.1=5:=by
 unfold jg;by_cases hc:code≠0
 .rw[aj hc];exact h5
 rw[af hc];have hc0:code=0:=by omega
 by_cases k1:o.1=1\/o.1=2
 .rw[aj k1];exact h5
 rw[af k1];by_cases k3:o.1=3
 .rw[aj k3];exact h5
 rw[af k3];by_cases k8:o.1=8\/o.1=9
 .exfalso;cases h<;>omega
 .rw[af k8];exact h5
theorem alb{l:List gH}{r:qp}{ks:List Int}{s:qp}(h:iS l r ks s):∀(i:Nat),i<=ks.length->(o_ l r (ks.take i)).2.1=5->s.2.1=5:=by
 induction h with
 | nil=>intro i hi h5;simpa [o_] using h5
 | @snoc s ks k h1 h2 h3 ih=>
  intro i hi h5;have e2:=ND h1;rw[cI,l9]at hi;by_cases e:i<=ks.length
  .rw[og e]at h5;exact q69 h3 (ih i e h5)
  .have:i=(ks++[k]).length:=by rw[cI,l9];omega
   rw[this,ye,Rd,<-e2]at h5;exact h5
section
variable {X:Ext} (hX:fI X) {n:Nat}
include hX
theorem q2d(hn:W+10<=n){R:qp}(hR:aS R){p:Int}(p0:0<=p)(p1:p<20):Vy (DD X n) (kF R) p=some ((if bV R p=0 then ((0,false,()):Int×Bool×Unit) else (bV R p-1,true,())),()):=by
 obtain⟨n,rfl⟩:∃k,n=k+1:=⟨n-1,by omega⟩
 have hl:=rU R;have hr:=q6f hR p ⟨p0,p1⟩;have hg:(kF R).getD p.toNat 0=bV R p:=by rw[qQ R (by omega)];congr 1;omega
 rw[q04 hX];simp only[qtu,qyi];rw[ak0 hX (by omega) hR,qc];dsimp only;rw[cQ,bg,qg (by omega),fU p0 (by omega),aJ,hg];by_cases h:bV R p=0
 .rw[qf h,aj h]
 .rw[qg h,aJ,af h,qs (by omega) (by omega)]
theorem q70(hn:W+11<=n){R:qp}(hR:aS R){v:Int}(hv:1<=v/\v<=6):qt2 (DD X n) (kF R) v=some ((if aU v R.1 0<0 then ((0,false,()):Int×Bool×Unit) else (aU v R.1 0,true,())),()):=by
 obtain⟨n,rfl⟩:∃k,n=k+1:=⟨n-1,by omega⟩
 have ho:=tE v;have hk:=rZ v R.1 0;rw[q2c hX];simp only[qt3,qz6];rw[BZ hX (by omega),qc];dsimp only;rw[q2d hX (by omega) hR (by omega) (by omega),qc,Dh hR hv];by_cases h:aU v R.1 0<0
 .rw[aj (by omega),aj h]
 .rw[af (by omega),af h,show aU v R.1 0+1-1=aU v R.1 0 by omega]
theorem q4x(hn:W+11<=n){R:qp}(hR:aS R){v:Int}(hv:1<=v/\v<=6):qsa (DD X n) (kF R) v=some ((if R.2.1=5/\0<=aU v R.1 0 then ((aU v R.1 0,true,()):Int×Bool×Unit) else (0,false,())),()):=by
 obtain⟨n,rfl⟩:∃k,n=k+1:=⟨n-1,by omega⟩
 have ho:=nS v;have hl:=hR.len;have hk:=rZ v R.1 0;have Ul:aU v R.1 0<4:=by have:=rZ v R.1 0;omega
 rw[q0j hX];simp only[qs6,quh];rw[Io hX (by omega) hR,qc];dsimp only;rw[show((R.1,R.2):qp)=R from rfl,akq hX (by omega),qc];dsimp only;by_cases h5:R.2.1=5
 .rw[bC h5,cQ,aN,yu hX (by omega),qc];dsimp only;rw[q2d hX (by omega) hR (by omega) (by omega),qc,Ij hv];unfold jx;by_cases h:0<=aU v R.1 0
  .rw[aj (show 0<=aU v R.1 0/\aU v R.1 0<4/\aU v R.1 0<R.2.1-1 by omega),af (by omega),aj ⟨h5,h⟩,show aU v R.1 0+1-1=aU v R.1 0 by omega]
  .rw[af (show ¬ (0<=aU v R.1 0/\aU v R.1 0<4/\aU v R.1 0<R.2.1-1) by omega),aj rfl,af (fun z=>h z.2)]
 .rw[b8 h5,iN,aJ,af (fun z=>h5 z.1)]
theorem q5m(N n:Nat)(hN:W+11<=N)(K0:Bool->aH->qp->Option ((Bool×Unit)×Unit))(K1:aH->qp->Option ((Bool×Unit)×Unit))(g:aH){R:qp}(hR:aS R):∀(c i:Nat),1<=i->i<=7->7-i<c->
  Sl (DD X N) n K0 K1 c (i:Int) g (kF R) R=K1 g R
 | 0,i,_,_,h2=>by omega
 | c+1,i,h0,h1,h2=>by
  have hW:=ez;have hl:=hR.len;have I1:=rU R;have hst:=hR.st;simp only[Sl,qki];by_cases hi:i<7
  .have ih:=q5m N n hN K0 K1 g hR c (i+1) (by omega) (by omega) (by omega);have hk:=rZ (i:Int) R.1 0;have hv:=nS (i:Int);have hvw:=Ij (r:=R) (v:=(i:Int)) ⟨by omega,by omega⟩;unfold jx at hvw;rw[qf (by omega),q4x hX (by omega) hR (by omega),qc,q70 hX (by omega) hR (by omega),qc,show((R.1,R.2):qp)=R from rfl,aaB hX (by omega) R (by omega),qc,qu (by omega),ih];dsimp only;generalize aU (i:Int) R.1 0=k at *;by_cases KQ:k<0
   .rw[aj KQ,af (fun z=>by omega)];dsimp only;rw[show decide (k>=0)=false from b8 (by omega)];rfl
   .have Dr:br (bif true then decide (k<wrap .i64 (R.2.1-1)) else false) (qd (sI (DD X N) (i:Int)) fun b=>br (decide (0<=b.1.1)&&decide (b.1.1<((kF R).length:Int))) (br (List.getD (kF R) (Int.toNat b.1.1) 0 != wrap .i64 (k+1)) (K0 false g R) (K1 g R)) none) (K1 g R)=K1 g R:=by
     rw[bz,qs (by omega) (by omega)];by_cases hs:k<R.2.1-1
     .rw[qf hs,yu hX (by omega),qc];dsimp only;have hg:(kF R).getD (fG (i:Int)).toNat 0=k+1:=by rw[qQ R (by omega),show(((fG (i:Int)).toNat:Nat):Int)=fG (i:Int) by omega,hvw,aj ⟨by omega,by omega,hs⟩]
      rw[fU (by omega) (by omega),aJ,hg,qs (by omega) (by omega),show(k+1 != k+1)=false by rw[cM,bC rfl];rfl,aN]
     .rw[qg hs]
    rw[af KQ,show decide (k>=0)=true from bC (by omega)];by_cases h5:R.2.1=5
    .rw[aj ⟨h5,by omega⟩,bC h5];dsimp only;rw[show(bif !decide (true=bif true then true else false) then true else bif true then k != k else false)=false by simp,aN,show(!decide (true=true))=false by rfl,aN];exact Dr
    .rw[af (fun z=>h5 z.1),b8 h5];dsimp only;rw[show(bif !decide (false=bif true then false else false) then true else bif false then (0:Int) != k else false)=false by simp,aN,show(!decide (true=true))=false by rfl,aN];exact Dr
  .rw[qg (by omega)]
theorem q6d(N n:Nat)(K0:Bool->Option ((Bool×Unit)×Unit))(K1:Option ((Bool×Unit)×Unit))(g:aH)(R:qp)(hl:g.2.2.2.1.length<=1000)(h:∀k:Int,0<=k->k<g.2.2.2.1.length->(ay g.2.2.2.1 k).2.1.1=10->(ay g.2.2.2.1 k).2.2.2.2.2.1.1=0->R.2.1=5):∀(c i:Nat),i<=g.2.2.2.1.length->g.2.2.2.1.length-i<c->
  SH (DD X N) n K0 K1 c (i:Int) g R=K1
 | 0,i,_,h2=>by omega
 | c+1,i,h1,h2=>by
  simp only[SH,qkj];by_cases hi:i<g.2.2.2.1.length
  .have ih:=q6d N n K0 K1 g R hl h c (i+1) (by omega) (by omega);have hd:List.getD g.2.2.2.1 (Int.toNat (i:Int)) (0,(0,0,0,()),0,0,0,(0,[],()),())=ay g.2.2.2.1 (i:Int):=rfl;rw[qf (by omega),ix hi,aJ,aJ,hd,qu (by omega),ih];by_cases q:(ay g.2.2.2.1 (i:Int)).2.1.1=10
   .rw[qf q];by_cases z:(ay g.2.2.2.1 (i:Int)).2.2.2.2.2.1.1=0
    .rw[bC z,bz,h (i:Int) (by omega) (by omega) q z,show((5:Int) != 5)=false by rfl,aN]
    .rw[b8 z,bg,aN]
   .rw[qg q]
  .rw[qg (by omega)]
end
theorem q0y(a:List Int):qtt (DD xV (W+30)) a=some ((true,()),()):=by
 have hX:fI xV:=Sj;have hW:=ez;rw[qyr hX];simp only[ql8,qnq];rw[akf hX (by omega),qc];dsimp only;by_cases KC:(a.length:Int)>1048576
 .rw[qf KC]
 rw[qg KC];obtain⟨r,L,who,hr,hL,hw,e1⟩:=abb hX (n:=W+29) (by omega) a (by omega);obtain⟨I,ht,hlen,h1,h2,h3⟩:=abi hr hL hw;rw[e1,qc];dsimp only;rw[abo hX (by omega) hr hL,qc,ain hX (by omega) hr hL,qc];dsimp only;rw[bC rfl,cQ,bg,aN,akr hX (by omega) (Mg hr hL) who h1 h2 h3,qc];dsimp only;obtain⟨LL,W8⟩:=abK who (Mg hr hL) (ab0 hL) h2;have I1:(dX r L).2.1.length=L.length:=by unfold dX;simp
 obtain⟨g,G1,G2,G3,G4,G5,e⟩:=ak1 hX (n:=W+29) (by omega) I LL (by omega) (fun T T0 T1=>by
  have h4:=W8 T T0 (by omega);have h5:=(acD (r:=r) hL (T:=T) ⟨T0,by omega⟩).1;omega)
 have nn:=G1.n;have jK:=IE hX G1;obtain⟨R,hR,oW,hv⟩:=G1.rep;rw[e,qc];dsimp only;rw[abr hX (by omega) G1.mem (by omega) hv,qc];dsimp only;rw[Io hX (by omega) hR,qc];dsimp only;simp only[qdw];refine dI (q5m hX (W+29) (W+29) (by omega) _ _ g hR (W+29) 1 (by omega) (by omega) (by omega)) ?_;simp only[qdv,qfx];refine dI (q6d hX (W+29) (W+29) _ _ g R (by omega) (fun k k0 k1 q z=>?_) (W+29) 0 (fF _) (by omega)) ?_
 .have C:=G1.call.c k k0 k1;have I0:=C.t;have T:=G1.th (ay g.2.2.2.1 k).1 I0.1 I0.2;have hoff:(ai g (ay g.2.2.2.1 k).1).2.2.1=false:=by
   cases ho:(ai g (ay g.2.2.2.1 k).1).2.2.1 with
   | false=>rfl
   | true=>have:=T.on ho;have:=G5 _ I0.1 (by rw[<-G3];exact I0.2);unfold lp at this;omega
  have kN:=G1.call.off _ I0.1 I0.2 hoff k k0 k1 rfl;have hf:=C.fin;have hin:=G1.call.all k k0 k1 (by omega);obtain⟨i,hi,rfl⟩:=mT.1 hin;obtain⟨r1,r2⟩:=aj9 oW i hi;have h5:(o_ g.2.2.2.1 g.2.2.2.2.2.1 (g.2.2.2.2.1.take i)).2.1=5:=by exact q6e r2 q z
  exact alb oW i (by omega) h5
 .rfl
end Go.G
namespace Go.Proofs.YtpmimbgkiindbaaGreat
open Go.ChangeShapes Go.WideShapes Go.ChangeAt Go.RowKit Go.V Go.G
theorem kL(os:Os)(started:os.Started)(H:Type)(enc:TypeId×Value->H) :
  ReturnsInHanded {} Tryz.checked os 8 .any (Rows.fnOtherWaySpec.pre6 enc Tryz.prog Tryz.f8 Rows.fnOtherWayRow.domain false) (Rows.fnOtherWaySpec.post enc Tryz.prog Tryz.f8 false true false false):=
 abZ (X:=xV) (tb:=4) started Tryz.func8 (by kernel_rfl)
  (ChangeSpec.witness6 (enc:=enc) (C:=Tryz.checked) false ⟨#[],Tryz.f8.params.map fun t=>((Tryz.prog.info? t).bind (·.zero)).getD .nilIface,[]⟩ 8 (by kernel_rfl) (by kernel_rfl) (by kernel_rfl) (by kernel_rfl))
  ⟨rfl,rfl,trivial⟩ (by kernel_rfl) (by kernel_rfl) (by kernel_rfl) rfl
  (fun ds h=>by
   match ds,h with
   | [d0],_=>exact⟨rfl,rfl,rfl⟩)
  (fun a wa=>⟨W+30,((true,()),()),q0y a.1,fun h Pr Gs us k=>by
   obtain⟨v,vs,rfl,⟨c,r,rfl⟩,e⟩:=k;obtain rfl:vs=[]:=e;simp only[az]at r;subst r;rfl⟩)
theorem fnOtherWay_holds:Rows.FnOtherWaySaid:=
 OpenClaim.holds_of_wide 8 Tryz.f8 rfl rfl rfl rfl rfl rfl rfl ⟨rfl,rfl,rfl,rfl,rfl⟩ rfl rfl rfl rfl rfl (by kernel_rfl) Tryz.func8 (by kernel_rfl)
  (of_decide_eq_true (by kernel_rfl)) (by unfold Func.isWrapper;first | (rw[aj (by decide +kernel)];kernel_rfl) | (rw[af (by decide +kernel)];exact⟨rfl,rfl⟩))
  (fun os started H enc _=>kL os started H enc)
#print axioms fnOtherWay_holds
end Go.Proofs.YtpmimbgkiindbaaGreat

/- FnStopped holds: one that is stopped for good holds nobody up. No condition beyond the given statement's. -/
import Derived.Test.YtpmimbgkiindbaaGreatAPFnStopped3
set_option maxRecDepth 100000
set_option linter.unusedVariables false
set_option linter.unusedSimpArgs false
set_option linter.unusedSectionVars false
open Go.IntKind (wrap)
namespace Go.G
open Go Go.V Go.Proofs
section
variable {X:Ext} (hX:fW X) {n:Nat}
include hX
theorem Nx(N n:Nat)(hN:W+2<=N)(hN6:6<=N)(K:Int->j3->List (List cL)->List cL->Option ((List (List cL)×Unit)×j3×Unit))(z:Int)(out:List (List cL)):∀(m i:Nat)(c:j3)(l:List cL),nu c->i<=4->4-i<m->l.length=i->(∀o∈l,di o=true)->
  ∃(c':j3)(l':List cL),nu c'/\l'.length<=4/\(∀o∈l',di o=true)/\Th (DD X N) n K m z (i:Int) c out l=K z c' out l'
 | 0,_,_,_,_,_,h,_,_=>by omega
 | m+1,i,c,l,hc,hi,hf,hl,ho=>by
  have hW:=d7;have hb:=i_;simp only[Th,qu7];obtain⟨x,c1,h1,_,jM,e1⟩:=zP hX (n:=N) (by omega) hc 4;obtain⟨x0,x1⟩:=h1 (by omega);rw[e1,qc];dsimp only;rw[qs (by omega) (by omega)];by_cases h:(i:Int)<1+x
  .obtain⟨o,c2,g9,Ld,e2⟩:=ai4 hX (n:=N) (by omega) jM;rw[qf h,e2,qc];dsimp only;rw[qf (by omega),qu (by omega)];exact Nx N n hN hN6 K z out m (i+1) c2 (l++[o]) g9 (by omega) (by omega) (by rw[cT,nI];omega) (fun p hp=>by
    rcases bN.1 hp with q | q
    .exact ho p q
    .rw[d9]at q;rw[q];exact Ld)
  .rw[qg h];exact⟨c1,l,jM,by omega,ho,rfl⟩
theorem Nw(N n:Nat)(hN:W+2<=N)(hn:W<=n)(K:j3->List (List cL)->Option ((List (List cL)×Unit)×j3×Unit)):∀(m i:Nat)(c:j3)(L:List (List cL)),nu c->i<=3->3-i<m->L.length=i->(∀ops∈L,ops.length<=4/\∀o∈ops,di o=true)->
  ∃(c':j3)(L':List (List cL)),nu c'/\iF L'/\Dl (DD X N) n K m (i:Int) c L=K c' L'
 | 0,_,_,_,_,_,h,_,_=>by omega
 | m+1,i,c,L,hc,hi,hf,hl,ho=>by
  have hW:=d7;have hb:=i_;simp only[Dl,qu6];obtain⟨x,c1,h1,_,jM,e1⟩:=zP hX (n:=N) (by omega) hc 3;obtain⟨x0,x1⟩:=h1 (by omega);rw[e1,qc];dsimp only;rw[qs (by omega) (by omega)];by_cases h:(i:Int)<1+x
  .rw[qf h];simp only[qs4];obtain⟨c2,l,g9,hl4,hlo,e2⟩:=Nx hX N n hN (by omega) (fun bR dY iY kr=>qq2 (DD X N) n (Dl (DD X N) n K m) K bR dY iY kr) (i:Int) L n 0 c1 [] jM (by omega) (by omega) rfl (fun o h=>by simp at h);rw[show((0:Nat):Int)=0 from rfl]at e2;obtain⟨c3,L',rL,hL',e3⟩:=Nw N n hN hn K m (i+1) c2 (L++[l]) g9 (by omega) (by omega) (by rw[cT,nI];omega) (fun p hp=>by
    rcases bN.1 hp with q | q
    .exact ho p q
    .rw[d9]at q;rw[q];exact⟨hl4,hlo⟩)
   refine⟨c3,L',rL,hL',?_⟩;refine cZ e2 ?_;simp only[qq2];rw[qf (by omega),qu (by omega)];exact e3
  .rw[qg h];exact⟨c1,L,jM,⟨by omega,ho⟩,rfl⟩
theorem abo(hn:W+3<=n){c:j3}(hc:nu c):∃(L:List (List cL))(c':j3),nu c'/\iF L/\qvw (DD X n) c=some ((L,()),(c',())):=by
 obtain⟨n,rfl⟩:∃k,n=k+1:=⟨n-1,by omega⟩
 have hW:=d7;rw[afJ hX];simp only[qv4,qw0,qs3];obtain⟨c',L,h1,h2,e⟩:=Nw hX n n (by omega) (by omega) (fun bR dY=>q0h (DD X n) n bR dY) n 0 c [] hc (by omega) (by omega) rfl (fun o h=>by simp at h);rw[show((0:Nat):Int)=0 from rfl]at e;exact⟨L,c',h1,h2,e⟩
def uM(L:List (List cL))(who:List Int)(k:Nat):Prop:=who.length<=k/\∀t∈who,0<=t/\t<L.length
theorem NV(N n:Nat)(hN:W+2<=N)(K:Int->Int->qp->qp->List (List cL)->List Int->j3->Option ((qp×List (List cL)×List Int×Unit)×Unit))(a b t:Int)(r s:qp)(L:List (List cL))(ht:0<=t/\t<L.length)(k:Nat)(hk:k<=1000):∀(m i:Nat)(c:j3)(who:List Int),nu c->i<=6->6-i<m->uM L who (k+i)->
  ∃(c':j3)(zf:List Int),nu c'/\uM L zf (k+6)/\SY (DD X N) n K m a b t (i:Int) r s L who c=K a b r s L zf c'
 | 0,_,_,_,_,_,h,_=>by omega
 | m+1,i,c,who,hc,hi,hf,hw=>by
  have hW:=d7;have hb:=i_;simp only[SY,qpa];obtain⟨x,c1,h1,_,jM,e1⟩:=zP hX (n:=N) (by omega) hc 6;obtain⟨x0,x1⟩:=h1 (by omega);rw[e1,qc];dsimp only;rw[qs (by omega) (by omega)];have hwl:=hw.1;by_cases h:(i:Int)<1+x
  .rw[qf h,qf (by omega),qu (by omega)];exact NV N n hN K a b t r s L ht k hk m (i+1) c1 (who++[t]) jM (by omega) (by omega) ⟨by rw[cT,nI];omega,fun u hu=>by
    rcases bN.1 hu with q | q
    .exact hw.2 u q
    .rw[d9]at q;rw[q];exact ht⟩
  .rw[qg h];exact⟨c1,who,jM,⟨by omega,hw.2⟩,rfl⟩
theorem NU(N n:Nat)(hN:W+2<=N)(hn:W<=n)(K:qp->qp->List (List cL)->List Int->Option ((qp×List (List cL)×List Int×Unit)×Unit))(a:Int)(ha:a<=120)(r s:qp)(L:List (List cL))(hL:0<L.length/\L.length<=3):∀(m i:Nat)(c:j3)(who:List Int),nu c->i<=120->120-i<m->uM L who (6 * i)->
  ∃(zf:List Int),uM L zf 720/\Dk (DD X N) n K m a (i:Int) r s L who c=K r s L zf
 | 0,_,_,_,_,_,h,_=>by omega
 | m+1,i,c,who,hc,hi,hf,hw=>by
  have hW:=d7;simp only[Dk,qo9];by_cases h:(i:Int)<a
  .obtain⟨x,c1,h1,_,jM,e1⟩:=zP hX (n:=N) (by omega) hc (L.length:Int);have hx:=h1 (by omega);rw[qf h,e1,qc];dsimp only;simp only[qn4];obtain⟨c2,alU,g9,hw2,e2⟩:=NV hX N n hN (fun bR dY iY kr I9 alS alT=>qm1 (DD X N) n (Dk (DD X N) n K m) K bR dY iY kr I9 alS alT) a (i:Int) x r s L hx (6 * i) (by omega) n 0 c1 who jM (by omega) (by omega) hw;rw[show((0:Nat):Int)=0 from rfl]at e2;obtain⟨alV,hw3,e3⟩:=NU N n hN hn K a ha r s L hL m (i+1) c2 alU g9 (by omega) (by omega) ⟨by have:=hw2.1;omega,hw2.2⟩;refine⟨alV,hw3,cZ e2 ?_⟩;simp only[qm1];rw[qu (by omega)];exact e3
  .rw[qg h];exact⟨who,⟨by have:=hw.1;omega,hw.2⟩,rfl⟩
theorem abc(hn:W+4<=n)(a:List Int)(ha:a.length<=1048576):∃(r:qp)(L:List (List cL))(who:List Int),aW r/\iF L/\uM L who 720/\qqb (DD X n) a=some ((r,L,who,()),()):=by
 obtain⟨n,rfl⟩:∃k,n=k+1:=⟨n-1,by omega⟩
 have hW:=d7;rw[aed hX];simp only[qqh,qqy,qn3];obtain⟨c,hc,e1⟩:=akk hX (n:=n) (by omega) a ha;obtain⟨r,c1,hr,_,jM,e2⟩:=aiy hX (n:=n) (by omega) hc;obtain⟨L,c2,g9,hL,e3⟩:=abo hX (n:=n) (by omega) jM;rw[e1,qc,e2,qc];dsimp only;rw[e3,qc];dsimp only;have K_:∃k:Int,60<=k/\k<=120/\ZS (DD X n) a 60 120=some ((k,()),()):=by
  obtain⟨n,rfl⟩:∃k,n=k+1:=⟨n-1,by omega⟩
  rw[ais hX];simp only[ZH,Pk];have ht:Int.tdiv (a.length:Int) 4=(a.length:Int) / 4:=Int.tdiv_eq_ediv_of_nonneg (by omega);rw[ht,qs (show -9223372036854775808<=(a.length:Int) / 4 by omega) (by omega),qs (by omega) (by omega)];by_cases h:60+(a.length:Int) / 4>120
  .rw[qf h];exact⟨120,by omega,by omega,rfl⟩
  .rw[qg h];exact⟨_,by omega,by omega,rfl⟩
 obtain⟨k,hk0,UD,e4⟩:=K_;obtain⟨x,c3,h1,_,rL,e5⟩:=zP hX (n:=n) (by omega) g9 k;have hx:=h1 (by omega);rw[e4,qc];dsimp only;rw[e5,qc];dsimp only;obtain⟨who,hw,e6⟩:=NU hX n n (by omega) (by omega) (fun bR dY iY kr=>qvj (DD X n) n bR dY iY kr) x (by omega) ([],0,()) r L (by have:=hL.n;omega) n 0 c3 [] rL (by omega) (by omega) ⟨by simp,fun t h=>by simp at h⟩;rw[show((0:Nat):Int)=0 from rfl]at e6;exact⟨r,L,who,hr,hL,hw,e6⟩
theorem acs(hn:1<=n):ZQ (DD X n) dD=some ((true,()),()):=by
 obtain⟨n,rfl⟩:∃k,n=k+1:=⟨n-1,by omega⟩
 rw[aiX hX];simp only[ZC,q5s];rw[qf (show dD.1=0 from rfl)];simp[dD]
theorem QL(N n:Nat)(hN:1<=N)(K0:Bool->aS->Option ((Bool×Unit)×Unit))(K1:aS->Option ((Bool×Unit)×Unit))(w:List l_)(k:Nat)(hk:k<=3):∀(c i:Nat),i<=k->k-i<c->
  TR (DD X N) n K0 K1 c (i:Int) (w,List.replicate k dD,())=K1 (w,List.replicate k dD,())
 | 0,i,_,h=>by omega
 | c+1,i,h1,h2=>by
  simp only[TR,q5y,om];by_cases hi:i<k
  .have e:(List.replicate k dD).getD i (0,0,[],(0,[],()),())=dD:=by rw[qv (by simpa using hi),List.getElem_replicate]
   rw[qf (by omega),show(decide (0<=(i:Int))&&decide ((i:Int)<(k:Int)))=true by simp;omega,aG,eE,e,acs hX hN,qc];dsimp only;rw[cJ,aL,qu (by omega)];exact QL N n hN K0 K1 w k hk c (i+1) (by omega) (by omega)
  .rw[qg (by omega)]
theorem QM(N n:Nat)(hN:2<=N)(K0:Bool->Option ((Bool×Unit)×Unit))(K1:Option ((Bool×Unit)×Unit))(m:aS)(hl:m.1.length<=1000)(hw:∀x∈m.1,Um x):∀(c i:Nat),i<=m.1.length->m.1.length-i<c->
  TS (DD X N) n K0 K1 c (i:Int) m=K1
 | 0,i,_,h=>by omega
 | c+1,i,h1,h2=>by
  simp only[TS,q5z];by_cases hi:i<m.1.length
  .have hx:=hw _ (eB hi);obtain⟨N,rfl⟩:∃k,N=k+1:=⟨N-1,by omega⟩
   rw[qf (by omega),ix hi,aG,eE,qv hi,aiq hX];simp only[ZF,Ph];rw[qf hx.1,qf hx.2.1,yR hX (by omega),qc,qc];dsimp only;rw[jF hx.2.2,cJ,aL,qg (by have:=hx.1;omega),qu (by omega)];exact QM (N+1) n hN K0 K1 m hl hw c (i+1) (by omega) (by omega)
  .rw[qg (by omega)]
theorem Rc(hn:W+3<=n)(w:List l_)(hw:∀x∈w,Um x)(hl:w.length=20)(k:Nat)(h1:1<=k)(hk:k<=3):TV (DD X n) (w,List.replicate k dD,())=some ((true,()),()):=by
 obtain⟨n,rfl⟩:∃k,n=k+1:=⟨n-1,by omega⟩
 have hW:=d7;rw[aje hX];simp only[q8e,q9x,Zd];rw[show((w.length:Int) != 20)=false by rw[bH,bw (by omega)];rfl,aL,yR hX (by omega),qc];dsimp only;rw[om,jF ⟨by omega,by omega⟩,cJ,aL];refine cZ (QL hX n n (by omega) _ _ w k hk n 0 (e7 _) (by omega)) ?_;simp only[qzn,Ze];refine cZ (QM hX n n (by omega) _ _ _ (by dsimp only;omega) hw n 0 (e7 _) (by dsimp only;omega)) ?_;rfl
theorem RJ(N n:Nat)(hN:4<=N)(K0:Int->Bool->cU->Option ((Bool×Unit)×Unit))(K1:Int->cU->Option ((Bool×Unit)×Unit))(z:Int)(x:cU)(hl:x.1.length<=1000)(ho:∀o∈x.1,di o=true):∀(c i:Nat),i<=x.1.length->x.1.length-i<c->
  Tm (DD X N) n K0 K1 c z (i:Int) x=K1 z x
 | 0,i,_,h=>by omega
 | c+1,i,h1,h2=>by
  simp only[Tm,qwu];by_cases hi:i<x.1.length
  .have hx:=ho _ (eB hi);have hop:UX (DD X N) x.1[i]=some ((true,()),()):=by have:=abd hX (n:=N) (by omega) x.1[i].1 x.1[i].2.1 x.1[i].2.2.1;rw[show(x.1[i].1,x.1[i].2.1,x.1[i].2.2.1,())=x.1[i] from rfl,hx]at this;exact this
   rw[qf (by omega),ix hi,aG,eE,qv hi,hop,qc];dsimp only;rw[cJ,aL,qu (by omega)];exact RJ N n hN K0 K1 z x hl ho c (i+1) (by omega) (by omega)
  .rw[qg (by omega)]
theorem ajT(hn:W+5<=n)(ops:List cL)(hl:ops.length<=4)(ho:∀o∈ops,di o=true)(k:Int):qxr (DD X n) (ops,0,false,[],[],()) k=some ((true,()),()):=by
 obtain⟨n,rfl⟩:∃k,n=k+1:=⟨n-1,by omega⟩
 have hW:=d7;obtain⟨p,hp⟩:∃p,n=p+1:=⟨n-1,by omega⟩
 rw[agh hX];simp only[qx0,qzp,qux];rw[qg (by omega),yR hX (by omega),qc];dsimp only;rw[jF ⟨by omega,by omega⟩];simp only[cJ,bf,aL,i6,aG,gB];rw[b7 (show ¬ wrap .i64 (((0:Nat):Int)+((0:Nat):Int))>0 by decide),b7 (show ¬ ((0:Nat):Int)>12 by decide),b7 (show ¬ ((0:Nat):Int)>2 by decide),bf,bf,aL];refine cZ (RJ hX n n (by omega) _ _ k (ops,0,false,[],[],()) (by dsimp only;omega) ho n 0 (e7 _) (by dsimp only;omega)) ?_;simp only[qs0,quy];rw[hp];simp only[VK,qwv,gB];rw[qg (by decide)];simp only[qs1,quz];simp only[VL,qww,gB];rw[qg (by decide)];rfl
theorem aaP(hn:3<=n){m:aF}(hc:m.2.2.2.1=[]){t:Int}(t0:0<=t)(t1:t<m.2.1.length)(hp:(ai m t).2.1=0)(ho:(ai m t).2.2.1=false):qxt (DD X n) m t=some ((true,()),()):=by
 obtain⟨n,rfl⟩:∃k,n=k+2:=⟨n-2,by omega⟩
 obtain⟨p,Xw⟩:∃p,n=p+1:=⟨n-1,by omega⟩
 have hx:m.2.1.getD t.toNat ([],0,false,[],[],())=ai m t:=rfl;have aZ:ZU (DD X (n+1)) m t=some ((-1,()),()):=by rw[aiu hX];simp only[ZJ,Z5,qzz];rw[hc,Xw];simp only[VW,Zy,gB];rw[qg (by rw[qs (by decide) (by decide)];decide)];rfl
 rw[agi hX];simp only[qx1,qz0,qu8];rw[fJ t0 t1,aG,aZ,qc,hx];dsimp only;simp only[VN,qw2];rw[hc,qg (by simp)];simp only[q4e];rw[hp,ho];rfl
theorem QK(N n:Nat)(hN:W+5<=N)(K0:Bool->Option ((Bool×Unit)×Unit))(K1:Option ((Bool×Unit)×Unit)){r:qp}{L:List (List cL)}(hL:iF L):∀(c i:Nat),i<=L.length->L.length-i<c->
  Tg (DD X N) n K0 K1 c (i:Int) (dR r L)=K1
 | 0,i,_,h=>by omega
 | c+1,i,h1,h2=>by
  have wZ:=hL.n;have j7:(dR r L).2.1.length=L.length:=by unfold dR;simp
  simp only[Tg,quw,j7];by_cases hi:i<L.length
  .have hx:=hL.ops _ (eB hi);have e:ai (dR r L) (i:Int)=(L[i],0,false,[],[],()):=by unfold ai dR;dsimp only;rw[eE,qv (by simpa using hi),yl]
   have e2:(dR r L).2.1.getD i ([],0,false,[],[],())=(L[i],0,false,[],[],()):=by unfold ai at e;rw[eE]at e;exact e
   rw[qf (by omega),fJ (by omega) (by omega),aG,eE,e2,ajT hX (by omega) _ hx.1 hx.2,qc];dsimp only;rw[cJ,aL,aaP hX (by omega) rfl (by omega) (by rw[j7];omega) (by rw[e]) (by rw[e]),qc];dsimp only;rw[cJ,aL,qu (by omega)];exact QK N n hN K0 K1 hL c (i+1) (by omega) (by omega)
  .rw[qg (by omega)]
theorem ajS(hn:W+6<=n){r:qp}(hr:aW r){L:List (List cL)}(hL:iF L):qvv (DD X n) (dR r L)=some ((true,()),()):=by
 obtain⟨n,rfl⟩:∃k,n=k+2:=⟨n-2,by omega⟩
 obtain⟨p,Xw⟩:∃p,n=p+1:=⟨n-1,by omega⟩
 have hW:=d7;have wZ:=hL.n;have j7:(dR r L).2.1.length=L.length:=by unfold dR;simp
 have mu:(dR r L).1.2.1.length=L.length:=by unfold dR;simp
 have Ei:YG (DD X (n+1)) (dR r L)=some ((true,()),()):=by rw[ah4 hX];simp only[Y7,Zw,qwy];rw[Xw];simp only[VP,qzx];rw[qg (by simp[dR])];simp only[qu4,qwz,J0,qzy];rw[qg (by simp[dR])];simp[q61,dR]
 rw[afG hX];simp only[qv1,qwp,qsv];have hm:=Rc hX (n:=n+1) (by omega) ((o7 r).map fun v=>((v,0,0,()):l_)) (fun x hx=>by
  obtain⟨v,hv,rfl⟩:=eJ.1 hx;unfold o7 at hv;obtain⟨q,hq,rfl⟩:=eJ.1 hv;have:=B3 hr (q:Int) (by have:=yp.1 hq;omega);exact⟨rfl,rfl,this.1,by dsimp only;omega⟩) (by rw[jC,uW]) L.length wZ.1 wZ.2
 refine cZ (ew (fun z=>qd z _) hm) ?_;rw[qc];dsimp only;rw[cJ,bf,mu,j7,show((L.length:Int) != (L.length:Int))=false by simp,aL,yR hX (by omega),qc];dsimp only;rw[show(dR r L).2.2.1=0 from rfl,jF ⟨by decide,by decide⟩,cJ,aL,show(dR r L).2.2.2.2.2.1=r from rfl,PA hX (by omega) hr,qc];dsimp only;rw[cJ,aL,Ei,qc];dsimp only;rw[cJ,aL];refine cZ (QK hX (n+1) (n+1) (by omega) _ _ hL (n+1) 0 (e7 _) (by omega)) ?_;rfl
theorem PL(D:Den ctx)(n:Nat)(K:Int->aS->aS->Option ((aS×Bool×Unit)×Unit))(a:Int)(ws:List Int)(hl:ws.length<=1000)(z:aS)(d:List nv×Unit):∀(c i:Nat),i<=ws.length->ws.length-i<c->
  TA D n K c a (i:Int) z ((ws.take i).map (fun v=>((v,0,0,()):l_)),d) ws=K a z (ws.map (fun v=>((v,0,0,()):l_)),d)
 | 0,i,_,h2=>by omega
 | c+1,i,h0,h2=>by
  have hb:=i_;simp only[TA,Zc];by_cases hi:i<ws.length
  .have ih:=PL D n K a ws hl z d c (i+1) (by omega) (by omega);rw[qf (by omega),ix hi,aG,eE,qv hi,qu (by omega)];rw[qf (by rw[jC,eR];omega)];rw[mR hi,pG]at ih;exact ih
  .rw[qg (by omega),show ws.take i=ws from jT (by omega)]
theorem Pg(N n:Nat)(hN:1<=N)(K:Bool->aF->aF->Option ((aF×Bool×Unit)×Unit))(L:List (List cL))(hl:L.length<=1000)(h1:∀ops∈L,ops.length<=1000)(b:Bool)(z:aF)(a:aS)(e:Int×List gi×List Int×qp×Unit):∀(c i:Nat),i<=L.length->L.length-i<c->
  Tc (DD X N) n K c L b (i:Int) z (a,(L.take i).map (fun ops=>((ops,0,false,[],[],()):cU)),e)=K b z (a,L.map (fun ops=>((ops,0,false,[],[],()):cU)),e)
 | 0,i,_,h2=>by omega
 | c+1,i,h0,h2=>by
  have hb:=i_;simp only[Tc,qsu];by_cases hi:i<L.length
  .have ih:=Pg N n hN K L hl h1 b z a e c (i+1) (by omega) (by omega);have hd:=h1 _ (eB hi);obtain⟨N,rfl⟩:∃k,N=k+1:=⟨N-1,by omega⟩
   rw[qf (by omega),ix hi,aG,eE,qv hi,qu (by omega),afH hX];simp only[qv2,q91];rw[qf (by omega),qc];dsimp only;rw[qf (by rw[jC,eR];omega)];rw[mR hi,pG]at ih;exact ih
  .rw[qg (by omega),show L.take i=L from jT (by omega)]
theorem ai6(hn:W+8<=n){r:qp}(hr:aW r){L:List (List cL)}(hL:iF L):qtw (DD X n) r L=some ((dR r L,true,()),()):=by
 obtain⟨n,rfl⟩:∃k,n=k+2:=⟨n-2,by omega⟩
 have hW:=d7;have hb:=i_;have wZ:=hL.n;have hrl:=hr.len;have hmem:ZR (DD X (n+1)) r (L.length:Int)=some (((dR r L).1,true,()),()):=by
  rw[aiY hX];simp only[ZD,q5v,qzk];obtain⟨ws,w1,w2,w3⟩:=acM hX (n:=n) (by omega) hr;have qD:ws=o7 r:=QF w1 (uW r) (fun p hp=>by rw[w2 p hp,AP r hp];rfl);rw[w3,qc,qD];dsimp only;refine cZ (PL hX (DD X n) n _ (L.length:Int) (o7 r) (by rw[uW];omega) ([],[],()) ([],()) n 0 (e7 _) (by rw[uW];omega)) ?_;simp only[q9w];rw[yR hX (by omega),qc];dsimp only;rw[jF ⟨by omega,by omega⟩,aG,show(decide (0<=(L.length:Int))&&decide ((L.length:Int)<=(L.length:Int))&&decide ((L.length:Int)<=(ga:Int)))=true by simp;omega,aG];have hm:=Rc hX (n:=n) (by omega) ((o7 r).map fun v=>((v,0,0,()):l_)) (fun x hx=>by
   obtain⟨v,hv,rfl⟩:=eJ.1 hx;unfold o7 at hv;obtain⟨q,hq,rfl⟩:=eJ.1 hv;have:=B3 hr (q:Int) (by have:=yp.1 hq;omega);exact⟨rfl,rfl,this.1,by dsimp only;omega⟩) (by rw[jC,uW]) L.length wZ.1 wZ.2
  rw[eE];refine cZ (ew (fun z=>qd z _) hm) ?_;rw[qc];dsimp only;rw[cJ,aL];rfl
 have KM:ZT (DD X (n+1)) r=some ((r,()),()):=by rw[ait hX];simp only[ZI,Pm];rw[qf (by omega)];rfl
 rw[afg hX];simp only[qua,quu,qqz];rw[hmem,qc,KM,qc];dsimp only;refine cZ (Pg hX (n+1) (n+1) (by omega) _ L (by omega) (fun ops h=>by have:=(hL.ops ops h).1;omega) true (([],[],()),[],0,[],[],([],0,()),()) (dR r L).1 (0,[],[],r,()) (n+1) 0 (e7 _) (by omega)) ?_;simp only[qzj];have hm:=ajS hX (n:=n+1) (by omega) hr hL;rw[cJ,aL];refine cZ (ew (fun z=>qd z _) hm) ?_;rw[qc];dsimp only;rw[cJ,aL];rfl
end
def rm(l:List gi)(r:qp)(ks:List Int):qp:=ks.foldl (fun s k=>jj s (ay l k).2.1 (ay l k).2.2.2.2.2.1.1) r
theorem Ry(l:List gi)(r:qp)(ks:List Int)(k:Int):rm l r (ks++[k])=jj (rm l r ks) (ay l k).2.1 (ay l k).2.2.2.2.2.1.1:=by unfold rm;rw[List.foldl_append];rfl
theorem NJ{l:List gi}{r:qp}{ks:List Int}{s:qp}(h:iG l r ks s):s=rm l r ks:=by
 induction h with
 | nil=>rfl
 | snoc h1 h2 h3 ih=>rw[Ry,<-ih]
theorem ak1{l:List gi}{r:qp}{ks:List Int}{s:qp}(h:iG l r ks s):∀(i:Nat)(hi:i<ks.length),aW (rm l r (ks.take i))/\Out (rm l r (ks.take i)) (ay l ks[i]).2.1 (ay l ks[i]).2.2.2.2.2.1.1 (ay l ks[i]).2.2.2.2.2.1.2.1:=by
 induction h with
 | nil=>intro i hi;simp at hi
 | @snoc s ks k h1 h2 h3 ih=>
  intro i hi;by_cases e:i<ks.length
  .have:=ih i e;rw[pn (by omega),List.getElem_append_left e];exact this
  .have:i=ks.length:=by rw[cT,nI]at hi;omega
   subst this;have e2:=NJ h1;rw[pn (cq _),Cc,<-e2,List.getElem_append_right (cq _)];simp only[Nat.sub_self,SM];exact⟨h2,h3⟩
section
variable {X:Ext} (hX:fW X) {n:Nat}
include hX
theorem aby(hn:W+2<=n){m:aS}{k:Nat}{time:Int}{own:Int->Prop}(I:eY m k time own)(hk:k<=3){p:Int}(p0:0<=p)(p1:p<20):Yx (DD X n) m.1 m.2.1 p=some ((fZ m p,()),()):=by
 obtain⟨n,rfl⟩:∃k,n=k+1:=⟨n-1,by omega⟩
 have hW:=d7;have hlen:=I.len;have mu:=I.dy;have mH:m.1.getD p.toNat (0,0,0,())=wd m p:=rfl;rw[ahS hX];simp only[Yr,OO];rw[qs (by omega) (by omega),lq hX (by omega),qc];dsimp only;rw[jF ⟨p0,by omega⟩,cJ,aL,fJ p0 (by omega),aG,mH];rcases I.word p p0 p1 with h | ⟨u,u0,u1,uo,e,j,j0,j1,je⟩
 .rw[qf h.1,u9 h.1]
 .have al1:=(I.dz u u0 u1).len;have e2:(wd m p).2.1=u+1:=by rw[e];rfl
  have e3:(wd m p).2.2.1=(aq m u).1:=by rw[e];rfl
  have e1:wrap .i64 ((wd m p).2.1-1)=u:=by rw[qs (by omega) (by omega)];omega
  have Ag:m.2.1.getD u.toNat (0,0,[],(0,[],()),())=aq m u:=rfl;rw[qg (by omega),lq hX (by omega),qc];dsimp only;rw[jF ⟨by omega,by omega⟩,cJ,aL,e1,fJ u0 (by omega),aG,Ag,Q_ hX (by omega) _ (by omega),qc];dsimp only;rw[bw e3.symm,bA,zS u0 e];by_cases h2:(aq m u).2.1=2
  .rw[qf h2,aj h2]
  .rw[qg h2,af h2]
theorem Rp(N n:Nat)(hN:W+2<=N)(K:List Int->Option ((List Int×Unit)×Unit)){m:aS}{k:Nat}{time:Int}{own:Int->Prop}(I:eY m k time own)(hk:k<=3){R:qp}(hv:∀p:Int,0<=p->p<20->fZ m p=b_ R p):∀(c i:Nat),i<=20->20-i<c->
  Tk (DD X N) n K c m.1 m.2.1 20 (i:Int) ((o7 R).take i)=K (o7 R)
 | 0,i,_,h2=>by omega
 | c+1,i,h0,h2=>by
  have hb:=i_;have hl:=uW R;simp only[Tk,qyo];by_cases hi:i<20
  .have ih:=Rp N n hN K I hk hv c (i+1) (by omega) (by omega);have hi2:i<(o7 R).length:=by omega
   rw[qf (by omega),aby hX (by omega) I hk (by omega) (by omega),qc];dsimp only;rw[qf (by rw[eR];omega),qu (by omega),hv _ (by omega) (by omega)];rw[mR hi2]at ih;have:=AP R hi;rw[qv hi2]at this;rw[<-this];exact ih
  .rw[qg (by omega),show(o7 R).take i=o7 R from jT (by omega)]
theorem abu(hn:W+3<=n){m:aS}{k:Nat}{time:Int}{own:Int->Prop}(I:eY m k time own)(hk:k<=3){R:qp}(hv:∀p:Int,0<=p->p<20->fZ m p=b_ R p):Yw (DD X n) m.1 m.2.1=some ((o7 R,()),()):=by
 obtain⟨n,rfl⟩:∃k,n=k+1:=⟨n-1,by omega⟩
 have hW:=d7;have hlen:=I.len;rw[ahO hX];simp only[Yo,YP,qwc];rw[hlen];exact Rp hX n n (by omega) _ I hk hv n 0 (by omega) (by omega)
theorem Mn(N n:Nat)(hN:W+7<=N)(K:Bool->qp->qp->Option ((qp×Bool×Unit)×Unit)){m:aF}(I:Inv m)(hl:m.2.2.2.2.1.length<=1000){R:qp}(hR:iG m.2.2.2.1 m.2.2.2.2.2.1 m.2.2.2.2.1 R)(z:qp):∀(c i:Nat),i<=m.2.2.2.2.1.length->m.2.2.2.2.1.length-i<c->
  TH (DD X N) n K c true m.2.2.2.2.1 (m.2.2.2.2.1.length:Int) (i:Int) m z (rm m.2.2.2.1 m.2.2.2.2.2.1 (m.2.2.2.2.1.take i))=K true z R
 | 0,i,_,h2=>by omega
 | c+1,i,h0,h2=>by
  simp only[TH,Zk];by_cases hi:i<m.2.2.2.2.1.length
  .have ih:=Mn N n hN K I hl hR z c (i+1) (by omega) (by omega);have hk:=I.call.gK _ (eB hi);have hop:=(I.call.c _ hk.1 hk.2.1).op;obtain⟨r1,r2⟩:=ak1 hR i hi;have hd:List.getD m.2.2.2.1 (Int.toNat m.2.2.2.2.1[i]) (0,(0,0,0,()),0,0,0,(0,[],()),())=ay m.2.2.2.1 m.2.2.2.2.1[i]:=rfl;rw[qf (by omega),ix hi,aG,eE,qv hi,fJ hk.1 hk.2.1,aG,aG,hd];generalize hs:rm m.2.2.2.1 m.2.2.2.2.2.1 (m.2.2.2.2.1.take i)=s at *;have ha:=Q9 hX (n:=N) (by omega) r1 hop r2;have hf:=akg hX (n:=N) (by omega) r1 hop r2;rw[show((s.1,s.2):qp)=s from rfl];refine cZ (ew (fun z=>qd z _) ha) ?_;rw[qc];refine cZ (ew (fun z=>qd z _) hf) ?_;rw[qc];dsimp only;rw[qu (by omega)];rw[mR hi,Ry,hs]at ih;exact ih
  .rw[qg (by omega),show m.2.2.2.2.1.take i=m.2.2.2.2.1 from jT (by omega),<-NJ hR]
theorem R7(hn:W+11<=n){m:aF}(I:Inv m)(ht:m.2.2.1<=100000){R:qp}(hR:iG m.2.2.2.1 m.2.2.2.2.2.1 m.2.2.2.2.1 R):VY (DD X n) m=some ((R,true,()),()):=by
 obtain⟨n,rfl⟩:∃k,n=k+1:=⟨n-1,by omega⟩
 have hW:=d7;have Ap:=(IY hX I).o;rw[aiR hX];simp only[ZZ,q5m,qyr];rw[IM hX (by omega) I ht,qc];dsimp only;rw[cJ,aL,U4 hX (by omega) I.first,qc];dsimp only;exact Mn hX n n (by omega) _ I Ap hR ([],0,()) n 0 (e7 _) (by omega)
theorem abp(hn:W+12<=n){m:aF}(I:Inv m)(ht:m.2.2.1<=100000):Yu (DD X n) m=some ((true,()),()):=by
 obtain⟨n,rfl⟩:∃k,n=k+1:=⟨n-1,by omega⟩
 obtain⟨R,_,h2,_⟩:=I.rep;rw[ahN hX];simp only[Yn,OG];rw[R7 hX (by omega) I ht h2,qc]
theorem ajR(hn:W+12<=n){m:aF}(I:Inv m)(ht:m.2.2.1<=100000):qtu (DD X n) m=some ((true,()),()):=by
 obtain⟨n,rfl⟩:∃k,n=k+1:=⟨n-1,by omega⟩
 obtain⟨R,h1,h2,h3⟩:=I.rep;have UH:=I.n;rw[ae8 hX];simp only[qt3,q6f];rw[R7 hX (by omega) I ht h2,qc,IM hX (by omega) I ht,qc];dsimp only;rw[aG,abu hX (by omega) I.mem (by omega) h3,qc];dsimp only;rw[show((R.1,R.2):qp)=R from rfl,Rg hX (by omega) h1,qc];dsimp only;rw[MG hX (by omega) _ (by rw[uW];omega),qc]
theorem My(N n:Nat)(hN:1<=N)(K0:Bool->List gi->Int->Int->aF->Option ((Bool×Unit)×Unit))(K1:List gi->Int->Int->aF->Option ((Bool×Unit)×Unit))(l:List gi)(a b:Int)(d:List gi)(hd:d.length<=1000)(m:aF)(x:gi)
  (h:∀y∈d,y.1=x.1->0<=y.2.2.2.2.1/\y.2.2.2.2.1<x.2.2.1):∀(c i:Nat),i<=d.length->d.length-i<c->
  Ta (DD X N) n K0 K1 c l a b d (d.length:Int) (i:Int) m x=K1 l a b m
 | 0,i,_,h2=>by omega
 | c+1,i,h0,h2=>by
  simp only[Ta,qsa];by_cases hi:i<d.length
  .have ih:=My N n hN K0 K1 l a b d hd m x h c (i+1) (by omega) (by omega);have hy:=h _ (eB hi);rw[qf (by omega),ix hi,aG,eE,qv hi,qu (by omega)];by_cases e:d[i].1=x.1
   .obtain⟨y0,y1⟩:=hy e;obtain⟨N,rfl⟩:∃k,N=k+1:=⟨N-1,by omega⟩
    rw[qf e,ajB hX];simp only[q71,PC];rw[qc];dsimp only;rw[bw (show d[i].2.2.2.2.1>=0 from y0),bA,bw y1,cJ,aL];exact ih
   .rw[qg e];exact ih
  .rw[qg (by omega)]
theorem Mx(N n:Nat)(hN:1<=N)(Xl:W<=n)(K0:Bool->Option ((Bool×Unit)×Unit))(K1:Option ((Bool×Unit)×Unit)){m:aF}(I:Inv m)(hl:m.2.2.2.1.length<=1000):∀(c i:Nat),i<=m.2.2.2.1.length->m.2.2.2.1.length-i<c->
  IA (DD X N) n K0 K1 c m.2.2.2.1 (m.2.2.2.1.length:Int) (i:Int) m=K1
 | 0,i,_,h2=>by omega
 | c+1,i,h0,h2=>by
  have hW:=d7;simp only[IA,qr9];by_cases hi:i<m.2.2.2.1.length
  .have ih:=Mx N n hN Xl K0 K1 I hl c (i+1) (by omega) (by omega);have C:=I.call.c (i:Int) (by omega) (by omega);have hd:m.2.2.2.1.getD i (0,(0,0,0,()),0,0,0,(0,[],()),())=ay m.2.2.2.1 (i:Int):=by rw[tE];rfl
   have kO:=C.fin;rw[qf (by omega),ix hi,aG,eE,hd];have e:(bif decide ((ay m.2.2.2.1 (i:Int)).2.2.2.2.1>=0) then bif decide ((ay m.2.2.2.1 (i:Int)).2.2.2.1<0) then true else decide ((ay m.2.2.2.1 (i:Int)).2.2.2.1>(ay m.2.2.2.1 (i:Int)).2.2.2.2.1) else false)=false:=by
    by_cases a:(ay m.2.2.2.1 (i:Int)).2.2.2.2.1>=0
    .rw[bw a,bA,b7 (by omega),bf,b7 (by omega)]
    .rw[b7 a];rfl
   rw[e,aL,show(decide ((0:Nat)<=0)&&decide (0<=(i:Int))&&decide ((i:Int)<=(m.2.2.2.1.length:Int)))=true by simp;omega,aG];simp only[qqo];rw[show(0:Int).toNat=0 from rfl,jW];refine cZ (My hX N n hN _ _ m.2.2.2.1 (m.2.2.2.1.length:Int) (i:Int) (m.2.2.2.1.take i) (by rw[eR];omega) m (ay m.2.2.2.1 (i:Int)) (fun y hy XT=>?_) n 0 (e7 _) (by rw[eR];omega)) ?_
   .obtain⟨j,hj,rfl⟩:=nJ.1 hy;rw[eR]at hj;rw[List.getElem_take]at XT⊢;have e3:m.2.2.2.1[j]'(by omega)=ay m.2.2.2.1 (j:Int):=by rw[tE,qv (by omega)]
    rw[e3]at XT⊢;exact I.call.before (j:Int) (i:Int) (by omega) (by omega) (by omega) XT
   .simp only[qyj];rw[qu (by omega)];exact ih
  .rw[qg (by omega)]
theorem ajQ(hn:W+11<=n){m:aF}(I:Inv m)(ht:m.2.2.1<=100000):qtt (DD X n) m=some ((true,()),()):=by
 obtain⟨n,rfl⟩:∃k,n=k+1:=⟨n-1,by omega⟩
 have hW:=d7;have jN:=IX hX I;rw[ae7 hX];simp only[qt2,quh,qqn];rw[IM hX (by omega) I ht,qc];dsimp only;rw[cJ,aL];refine cZ (Mx hX n n (by omega) (by omega) _ _ I (by omega) n 0 (e7 _) (by omega)) ?_;rfl
theorem abb(hn:W+13<=n){m:aF}(I:Inv m)(ht:m.2.2.1<=100000):qxl (DD X n) m=some ((true,()),()):=by
 obtain⟨n,rfl⟩:∃k,n=k+1:=⟨n-1,by omega⟩
 rw[agC hX];simp only[qxw,Oq];rw[abp hX (by omega) I ht,qc];dsimp only;rw[aG,ajR hX (by omega) I ht,qc];dsimp only;rw[aG,ajQ hX (by omega) I ht,qc]
end
theorem abj{r:qp}(hr:aW r){L:List (List cL)}(hL:iF L){who:List Int}(hw:uM L who 720):Inv (rT (dR r L) who)/\(rT (dR r L) who).2.2.1<=720/\(rT (dR r L) who).2.1.length=L.length/\who.length<=2000/\
  (∀t∈who,0<=t/\t<(dR r L).2.1.length)/\(dR r L).2.2.1+who.length<=100000:=by
 have j7:(dR r L).2.1.length=L.length:=by unfold dR;simp
 have hwl:=hw.1;have hall:∀t∈who,0<=t/\t<(dR r L).2.1.length:=fun t h=>by rw[j7];exact hw.2 t h
 have hX:fW sE:=SD;obtain⟨h1,h2,_⟩:=acH hX who (Me hr hL) hall;have e:(dR r L).2.2.1=0:=rfl;refine⟨h1,by omega,by rw[ac_,j7],by omega,hall,by omega⟩
structure Kept (a b:aF):Prop where
 time:a.2.2.1<=b.2.2.1
 calls:a.2.2.2.1.length<=b.2.2.2.1.length
 each:∀k:Int,0<=k->k<a.2.2.2.1.length->(ay a.2.2.2.1 k).1=(ay b.2.2.2.1 k).1/\(ay a.2.2.2.1 k).2.1=(ay b.2.2.2.1 k).2.1/\(ay a.2.2.2.1 k).2.2.1=(ay b.2.2.2.1 k).2.2.1/\
  (0<=(ay a.2.2.2.1 k).2.2.2.1->(ay a.2.2.2.1 k).2.2.2.1=(ay b.2.2.2.1 k).2.2.2.1/\(ay a.2.2.2.1 k).2.2.2.2.2.1=(ay b.2.2.2.1 k).2.2.2.2.2.1)/\
  (0<=(ay a.2.2.2.1 k).2.2.2.2.1->(ay a.2.2.2.1 k).2.2.2.2.1=(ay b.2.2.2.1 k).2.2.2.2.1)
 order:∃o,b.2.2.2.2.1=a.2.2.2.2.1++o
 dy:b.1.2.1.length=a.1.2.1.length
 seq:∀t:Int,0<=t->t<a.1.2.1.length->(aq a.1 t).1<=(aq b.1 t).1
theorem Kept.refl(a:aF):Kept a a:=⟨eD _,cq _,fun k _ _=>⟨rfl,rfl,rfl,fun _=>⟨rfl,rfl⟩,fun _=>rfl⟩,⟨[],by simp⟩,rfl,fun t _ _=>eD _⟩
theorem Kept.trans{a b c:aF}(h:Kept a b)(h2:Kept b c):Kept a c:=by
 obtain⟨o,ho⟩:=h.order;obtain⟨o2,nZ⟩:=h2.order;have hd:=h.dy;have hc:=h.calls;refine⟨BV h.time h2.time,nL h.calls h2.calls,fun k k0 k1=>?_,⟨o++o2,by rw[nZ,ho,eI]⟩,h2.dy.trans h.dy,fun t t0 t1=>BV (h.seq t t0 t1) (h2.seq t t0 (by omega))⟩;obtain⟨a1,a2,a3,a4,a5⟩:=h.each k k0 k1;obtain⟨b1,b2,b3,b4,b5⟩:=h2.each k k0 (by omega);refine⟨a1.trans b1,a2.trans b2,a3.trans b3,fun q=>?_,fun q=>?_⟩
 .obtain⟨c1,c2⟩:=a4 q;obtain⟨d1,d2⟩:=b4 (by omega);exact⟨c1.trans d1,c2.trans d2⟩
 .have c1:=a5 q;exact c1.trans (b5 (by omega))
theorem Kept.ai{a b:aF}(h:Kept a b)(t:Int)(x:cU):Kept a (cA b t x):=⟨h.time,h.calls,h.each,h.order,h.dy,h.seq⟩
theorem Kept.mem{a:aF}{x:aS}(hd:x.2.1.length=a.1.2.1.length)(hs:∀t:Int,0<=t->t<a.1.2.1.length->(aq a.1 t).1<=(aq x t).1):Kept a (cH a x):=
 ⟨eD _,cq _,fun k _ _=>⟨rfl,rfl,rfl,fun _=>⟨rfl,rfl⟩,fun _=>rfl⟩,⟨[],by show a.2.2.2.2.1=_;simp⟩,hd,hs⟩
open Classical in
noncomputable def ind(p:Prop):Int:=if p then 1 else 0
theorem vY{p:Prop}(h:p):ind p=1:=aj h
theorem o6{p:Prop}(h:¬ p):ind p=0:=af h
theorem nR(p:Prop):0<=ind p/\ind p<=1:=by unfold ind;split<;>omega
theorem Cq{p q:Prop}(h:p->q):ind p<=ind q:=by
 by_cases hp:p
 .rw[vY hp,vY (h hp)];exact eD _
 .rw[o6 hp];exact(nR q).1
theorem xQ{p q:Prop}(h:p↔q):ind p=ind q:=ew ind (propext h)
def fH(n:Nat)(T:Int)(f:Int->Int):Int:=
 (if (0:Int)<n/\(0:Int)≠T then f 0 else 0)+(if (1:Int)<n/\(1:Int)≠T then f 1 else 0)+(if (2:Int)<n/\(2:Int)≠T then f 2 else 0)
theorem JM{n:Nat}{T:Int}{f g:Int->Int}(h:∀U:Int,0<=U->U<n->U≠T->f U<=g U):fH n T f<=fH n T g:=by
 have one:∀U:Int,0<=U->(if U<n/\U≠T then f U else 0)<=(if U<n/\U≠T then g U else 0):=fun U u0=>by
  by_cases c:U<n/\U≠T
  .rw[aj c,aj c];exact h U u0 c.1 c.2
  .rw[af c,af c];exact eD _
 have a:=one 0 (by omega);have b:=one 1 (by omega);have c:=one 2 (by omega);unfold fH;omega
theorem Ij{n:Nat}{T:Int}{f g:Int->Int}(h:∀U:Int,0<=U->U<n->U≠T->f U=g U):fH n T f=fH n T g:=
 Int.le_antisymm (JM fun U a b c=>kC (h U a b c)) (JM fun U a b c=>kC (h U a b c).symm)
theorem Bw{n:Nat}(hn:n<=3){T V d:Int}{f g:Int->Int}(v0:0<=V)(v1:V<n)(vT:V≠T)(hV:f V+d<=g V)(h:∀U:Int,0<=U->U<n->U≠T->U≠V->f U<=g U):fH n T f+d<=fH n T g:=by
 have one:∀U:Int,0<=U->U≠V->(if U<n/\U≠T then f U else 0)<=(if U<n/\U≠T then g U else 0):=fun U u0 uV=>by
  by_cases c:U<n/\U≠T
  .rw[aj c,aj c];exact h U u0 c.1 c.2 uV
  .rw[af c,af c];exact eD _
 have eV:∀f:Int->Int,(if V<n/\V≠T then f V else 0)=f V:=fun f=>aj ⟨v1,vT⟩;have e1:=eV f;have e2:=eV g;unfold fH;have hv:V=0\/V=1\/V=2:=by omega
 rcases hv with rfl | rfl | rfl
 .have b:=one 1 (by omega) (by omega);have c:=one 2 (by omega) (by omega);omega
 .have b:=one 0 (by omega) (by omega);have c:=one 2 (by omega) (by omega);omega
 .have b:=one 0 (by omega) (by omega);have c:=one 1 (by omega) (by omega);omega
theorem Qj{n:Nat}{T:Int}{f:Int->Int}(h:∀U:Int,0<=U->U<n->U≠T->0<=f U):0<=fH n T f:=by
 have:=JM (f:=fun _=>0) h;have e:fH n T (fun _=>0)=0:=by unfold fH;split<;>split<;>split<;>rfl
 omega
def lf(m:aF)(U:Int):Int:=((ai m U).1.length:Int)-(ai m U).2.1
def gt(m:aF)(U:Int):dM:=(ai m U).2.2.2.1
def bad(m:aS)(g:dM):Prop:=∃x∈g,fZ m x.1≠x.2.1
def lJ(m:aF)(U:Int):Prop:=bx m U/\(aq m.1 U).2.1=2
noncomputable def Yv(m:aF)(U:Int):Int:=lf m U-ind (lJ m U)
def pK(m:aF)(U:Int):Prop:=(bx m U/\(aq m.1 U).2.1=3)\/(¬ lJ m U/\bad m.1 (gt m U))
noncomputable def AA(m:aF)(U:Int):Int:=lf m U+fH m.2.1.length U (Yv m)+ind (pK m U)
noncomputable def oZ(m:aF)(T:Int):Int:=
 match (ai m T).2.2.2.2.1 with
 | h::_=>if h.1=T then 1+h.2.2.1+ind ((aq m.1 T).2.1≠1)+h.2.2.2.1 else 0
 | []=>0
noncomputable def j9(m:aF)(T:Int):Int:=ind ((ai m T).2.2.1=true)+(gt m T).length+oZ m T
noncomputable def PP(m:aF)(T:Int):Int:=28 * AA m T-j9 m T
def lQ(x:cU)(T:Int):Option gx:=if x.2.2.2.2.1=[] then none else if (au x).1=T then none else some (au x)
def oa(m:aF)(h:gx):Prop:=bx m h.1/\h.2.1=(aq m.1 h.1).1
def vr(m:aS)(U:Int):Prop:=∃p:Int,0<=p/\p<20/\wd m p=dN U (aq m U).1
def nU(m:aS)(C U:Int):Prop:=(aq m C).2.1=1/\∃i:Int,0<=i/\i<(aq m C).2.2.1.length/\(∀j:Int,0<=j->j<i->wd m (qi (aq m C).2.2.1 j).1=dN C (aq m C).1)/\wd m (qi (aq m C).2.2.1 i).1=dN U (aq m U).1
def Ax(m:aF)(T U:Int):Prop:=∃C:Int,0<=C/\C<m.2.1.length/\C≠T/\C≠U/\nU m.1 C U
open Classical in
noncomputable def m9(m:aF)(T:Int)(h:gx):Int:=if oa m h/\(aq m.1 h.1).2.1=1 then 1+10 * ind (Ax m T h.1)+h.2.2.1 else 20+h.2.2.2.1
noncomputable def kR(m:aF)(T U:Int):Int:=match lQ (ai m T) T with | none=>0 | some h=>if h.1=U then m9 m T h else 0
def qX(m:aF)(T U:Int):Prop:=∃h,lQ (ai m T) T=some h/\h.1=U/\¬ oa m h
def wk(m:aF)(T U:Int):Prop:=∃h,lQ (ai m T) T=some h/\h.1=U/\oa m h
def qW(m:aF)(T U:Int):Prop:=bx m U/\(aq m.1 U).2.1≠1/\¬ vr m.1 U/\¬ wk m T U
noncomputable def QQ(m:aF)(T U:Int):Int:=29 * (AA m U+ind (qX m T U)-ind (qW m T U))-kR m T U
noncomputable def iW(m:aF)(T:Int):Int:=PP m T+fH m.2.1.length T (QQ m T)
structure jL (m m':aF) (t:Int) (a:aS) (x:cU):Prop where
 n:m'.2.1.length=m.2.1.length
 mem:m'.1=a
 ai:∀U:Int,0<=U->ai m' U=if U=t then x else ai m U
inductive Kind (m:aF) (t:Int):aS->cU->Prop
 | zl:(ai m t).2.2.1=false->Kind m t m.1 ((ai m t).1,(ai m t).2.1,true,(ai m t).2.2.2)
 | push (v p:Int):(ai m t).2.2.1=true->((ai m t).2.2.2.2.1=[]\/∃k,(ai m t).2.2.2.2.1=[k]/\k.1=t/\nU m.1 t v)->0<=v->v<m.2.1.length->v≠t->bx m v->0<=p->p<20->wd m.1 p=dN v (aq m.1 v).1->
   Kind m t m.1 (qY (ai m t) (v,(aq m.1 v).1,0,0,()))
 | got (q:Int):(ai m t).2.2.1=true->(ai m t).2.2.2.2.1=[]->(0<=q/\q<20)->Kind m t m.1 (rR (ai m t) ((ai m t).2.2.2.1++[(q,fZ m.1 q,())]))
 | now:(ai m t).2.2.1=true->(ai m t).2.2.2.2.1=[]->Kind m t m.1 ((ai m t).1,(ai m t).2.1+1,false,[],[],())
 | new (q:Int) (E:List ez) (r:fD):(ai m t).2.2.1=true->(ai m t).2.2.2.2.1=[]->(∀p:Int,0<=p->p<20->fZ (bJ m.1 t ((aq m.1 t).1+1,1,E,r,())) p=fZ m.1 p)->(0<=q/\q<20)->
   Kind m t (bJ m.1 t ((aq m.1 t).1+1,1,E,r,())) (qY (rR (ai m t) ((ai m t).2.2.2.1++[(q,fZ m.1 q,())])) (t,(aq m.1 t).1+1,0,0,()))
 | qI:(ai m t).2.2.2.2.1≠[]->(au (ai m t)).1≠t->((au (ai m t)).2.1=(aq m.1 (au (ai m t)).1).1->(aq m.1 (au (ai m t)).1).2.1≠1/\¬ vr m.1 (au (ai m t)).1)->Kind m t m.1 (jh (ai m t))
 | yes:(ai m t).2.2.2.2.1≠[]->(au (ai m t)).2.1=(aq m.1 (au (ai m t)).1).1->(aq m.1 (au (ai m t)).1).2.1=1->
   (∀i:Int,0<=i->i<(aq m.1 (au (ai m t)).1).2.2.1.length->wd m.1 (qi (aq m.1 (au (ai m t)).1).2.2.1 i).1=dN (au (ai m t)).1 (aq m.1 (au (ai m t)).1).1)->
   Kind m t (bJ m.1 (au (ai m t)).1 ((aq m.1 (au (ai m t)).1).1,2,(aq m.1 (au (ai m t)).1).2.2)) (ai m t)
 | mD:(ai m t).2.2.2.2.1≠[]->(au (ai m t)).2.1=(aq m.1 (au (ai m t)).1).1->(aq m.1 (au (ai m t)).1).2.1=1->
   Kind m t m.1 (ki (ai m t) ((au (ai m t)).1,(au (ai m t)).2.1,(au (ai m t)).2.2.1+1,(au (ai m t)).2.2.2))
 | swap (v:Int):(ai m t).2.2.2.2.1≠[]->(au (ai m t)).2.1=(aq m.1 (au (ai m t)).1).1->(aq m.1 (au (ai m t)).1).2.1=1->(au (ai m t)).1≠t->v≠(au (ai m t)).1->0<=v->v<m.2.1.length->bx m v->
   nU m.1 (au (ai m t)).1 v->Kind m t m.1 (ki (ai m t) (v,(aq m.1 v).1,0,0,()))
 | lay (p:Int):(ai m t).2.2.2.2.1≠[]->(au (ai m t)).2.1=(aq m.1 (au (ai m t)).1).1->(aq m.1 (au (ai m t)).1).2.1=1->0<=p->p<20->(wd m.1 p).2.1=0->
   (∀q:Int,0<=q->q<20->fZ (eu m.1 p (dN (au (ai m t)).1 (au (ai m t)).2.1)) q=fZ m.1 q)->
   Kind m t (eu m.1 p (dN (au (ai m t)).1 (au (ai m t)).2.1)) (ki (ai m t) ((au (ai m t)).1,(au (ai m t)).2.1,(au (ai m t)).2.2.1+1,(au (ai m t)).2.2.2))
 | no (i:Int):(ai m t).2.2.2.2.1≠[]->(au (ai m t)).2.1=(aq m.1 (au (ai m t)).1).1->(aq m.1 (au (ai m t)).1).2.1=1->0<=i->i<(aq m.1 (au (ai m t)).1).2.2.1.length->
   (∀j:Int,0<=j->j<i->wd m.1 (qi (aq m.1 (au (ai m t)).1).2.2.1 j).1=dN (au (ai m t)).1 (aq m.1 (au (ai m t)).1).1)->
   (wd m.1 (qi (aq m.1 (au (ai m t)).1).2.2.1 i).1).2.1=0->(wd m.1 (qi (aq m.1 (au (ai m t)).1).2.2.1 i).1).1≠(qi (aq m.1 (au (ai m t)).1).2.2.1 i).2.1->
   (∀q:Int,0<=q->q<20->fZ (bJ m.1 (au (ai m t)).1 ((aq m.1 (au (ai m t)).1).1,3,(aq m.1 (au (ai m t)).1).2.2)) q=fZ m.1 q)->
   Kind m t (bJ m.1 (au (ai m t)).1 ((aq m.1 (au (ai m t)).1).1,3,(aq m.1 (au (ai m t)).1).2.2)) (ai m t)
 | pV:(ai m t).2.2.2.2.1≠[]->(au (ai m t)).2.1=(aq m.1 (au (ai m t)).1).1->(aq m.1 (au (ai m t)).1).2.1≠1->
   Kind m t m.1 (ki (ai m t) ((au (ai m t)).1,(au (ai m t)).2.1,(au (ai m t)).2.2.1,(au (ai m t)).2.2.2.1+1,()))
 | oQ (p y:Int):(ai m t).2.2.2.2.1≠[]->(au (ai m t)).2.1=(aq m.1 (au (ai m t)).1).1->(aq m.1 (au (ai m t)).1).2.1≠1->0<=p->p<20->wd m.1 p=dN (au (ai m t)).1 (au (ai m t)).2.1->
   (∀q:Int,0<=q->q<20->fZ (eu m.1 p (y,0,0,())) q=fZ m.1 q)->
   Kind m t (eu m.1 p (y,0,0,())) (ki (ai m t) ((au (ai m t)).1,(au (ai m t)).2.1,(au (ai m t)).2.2.1,(au (ai m t)).2.2.2.1+1,()))
 | pU:(ai m t).2.2.2.2.1≠[]->(au (ai m t)).1=t->(aq m.1 t).2.1=2->¬ vr m.1 t->Kind m t m.1 ((ai m t).1,(ai m t).2.1+1,false,[],[],())
 | CR:(ai m t).2.2.2.2.1≠[]->(au (ai m t)).1=t->(aq m.1 t).2.1=3->¬ vr m.1 t->Kind m t m.1 ((ai m t).1,(ai m t).2.1,(ai m t).2.2.1,[],[],())
theorem ac6{m:aF}(I:Inv m){u:Int}(u0:0<=u)(h:∀i:Int,0<=i->i<(aq m.1 u).2.2.1.length->wd m.1 (qi (aq m.1 u).2.2.1 i).1≠dN u (aq m.1 u).1):¬ vr m.1 u:=by
 rintro⟨p,p0,p1,e⟩;rcases I.mem.word p p0 p1 with q | ⟨v,v0,v1,vo,vm,i,i0,i1,ie⟩
 .exact vk q.1 u0 e
 .obtain⟨rfl,_⟩:=tI (vm.symm.trans e);exact h i i0 i1 (by rw[ie];exact e)
theorem RV{m:aF}{t:Int}(t0:0<=t)(t1:t<m.2.1.length)(a:aS)(x:cU):jL m (cA (cH m a) t x) t a x:=
 ⟨o5 _ _ _,rfl,fun U u0=>By _ ⟨t0,t1⟩ u0⟩
theorem abU{m m':aF}{t:Int}(e:m'.2.1=m.2.1){a:aS}(ha:m'.1=a):jL m m' t a (ai m t):=
 ⟨by rw[e],ha,fun U u0=>by
  rw[zR e U];by_cases q:U=t
  .rw[aj q,q]
  .rw[af q]⟩
theorem abX{m:aF}(I:Inv m){t:Int}(t0:0<=t)(t1:t<m.2.1.length)(hs:(ai m t).2.2.2.2.1≠[])(h2:∀k k',(ai m t).2.2.2.2.1=[k,k']->k'.1≠t):∃a x,Kind m t a x/\jL m (kH m t) t a x:=by
 have T:=I.th t t0 t1;have ho:=T.At hs;have H:=T.d6 _ (mK hs);have hw:=fun e=>T.own _ (mK hs) e;have UO:=Mw T hs;have kd:∀{a x},(hk:Kind m t a x)->kH m t=cA (cH m a) t x->∃a x,Kind m t a x/\jL m (kH m t) t a x:=fun {a x} hk e=>⟨a,x,hk,by rw[e];exact RV t0 t1 a x⟩
 have K1:=@Kind.qI m t hs;have K2:=@Kind.yes m t hs;have K3:=@Kind.mD m t hs;have K4:=fun v=>@Kind.swap m t v hs;have K5:=fun p=>@Kind.lay m t p hs;have K6:=fun i=>@Kind.no m t i hs;have K7:=@Kind.pV m t hs;have K8:=fun p y=>@Kind.oQ m t p y hs;have K9:=@Kind.pU m t hs;have K10:=@Kind.CR m t hs;have hone:∀k,(ai m t).2.2.2.2.1=[k]->au (ai m t)=k:=fun k e=>by unfold au;rw[e];rfl
 have XN:∀k k',(ai m t).2.2.2.2.1=[k,k']->au (ai m t)=k':=fun k k' e=>by unfold au;rw[e];rfl
 generalize hh:au (ai m t)=h at *;have u0:=H.t.1;have u1:=H.t.2;by_cases hd:(aq m.1 h.1).1≠h.2.1
 .have e:q7 m.1 h=(m.1,h,dH,2,()):=by unfold q7;rw[aj hd]
  have hne:h.1≠t:=fun q=>hd (by rw[q];exact(hw q).symm);refine kd (K1 hne (fun q=>absurd q.symm hd)) ?_;unfold kH;rw[hh,e];dsimp only;rw[af (by decide),aj rfl,aj hne]
 have hd':h.2.1=(aq m.1 h.1).1:=by omega
 obtain⟨c1,c2,c3,c4⟩:=H.cur hd';by_cases hst:(aq m.1 h.1).2.1=1
 .have Ad:∀j:Int,0<=j->j<h.2.2.1->wd m.1 (qi (aq m.1 h.1).2.2.1 j).1=dN h.1 (aq m.1 h.1).1:=fun j a b=>by rw[<-hd'];exact(c3 hst).2 j a b
  by_cases ej:((aq m.1 h.1).2.2.1.length:Int)<=h.2.2.1
  .have e:q7 m.1 h=(bJ m.1 h.1 ((aq m.1 h.1).1,2,(aq m.1 h.1).2.2),h,dH,3,()):=by unfold q7;rw[af hd,aj hst,aj ej]
   refine⟨_,_,K2 hd' hst (fun i i0 i1=>Ad i i0 (by omega)),?_⟩;unfold kH;rw[hh,e];dsimp only;rw[af (by decide),af (by decide),aj rfl,UO];have e2:(iD (cH m (bJ m.1 h.1 ((aq m.1 h.1).1,2,(aq m.1 h.1).2.2))) h.1 (aq m.1 h.1).2.2.2.1).2.1=m.2.1:=by unfold iD;split<;>rfl
   have e4:(iD (cH m (bJ m.1 h.1 ((aq m.1 h.1).1,2,(aq m.1 h.1).2.2))) h.1 (aq m.1 h.1).2.2.2.1).1=bJ m.1 h.1 ((aq m.1 h.1).1,2,(aq m.1 h.1).2.2):=by unfold iD;split<;>rfl
   have e3:=zR e2 t;rw[<-e3,RD t0 (by rw[e2];exact t1),e3];exact abU e2 e4
  have hlt:h.2.2.1<(aq m.1 h.1).2.2.1.length:=by omega
  have i0:=H.rY.1;have iT:=I.mem.gW u0 u1 i0 hlt;by_cases hmk:wd m.1 (qi (aq m.1 h.1).2.2.1 h.2.2.1).1=dN h.1 h.2.1
  .have e:q7 m.1 h=(m.1,(h.1,h.2.1,h.2.2.1+1,h.2.2.2),dH,0,()):=by unfold q7;rw[af hd,aj hst,af ej,aj hmk]
   refine kd (K3 hd' hst) ?_;unfold kH;rw[hh,e];dsimp only;rw[af (by decide),af (by decide),af (by decide)]
  by_cases xx:(wd m.1 (qi (aq m.1 h.1).2.2.1 h.2.2.1).1).2.1≠0
  .have e:q7 m.1 h=(m.1,h,((wd m.1 (qi (aq m.1 h.1).2.2.1 h.2.2.1).1).2.1-1,(wd m.1 (qi (aq m.1 h.1).2.2.1 h.2.2.1).1).2.2.1,0,0,()),1,()):=by unfold q7;rw[af hd,aj hst,af ej,af hmk,aj xx]
   rcases I.mem.word _ iT.1.1 iT.1.2 with hq | ⟨v,v0,v1,vo,vm,j,j0,j1,je⟩
   .exact absurd hq.1 xx
   have e2:((wd m.1 (qi (aq m.1 h.1).2.2.1 h.2.2.1).1).2.1-1,(wd m.1 (qi (aq m.1 h.1).2.2.1 h.2.2.1).1).2.2.1,(0:Int),(0:Int),())=(v,(aq m.1 v).1,0,0,()):=by rw[vm];simp only[dN];rw[show v+1-1=v by omega]
   rw[e2]at e;have UP:v≠h.1:=fun q=>hmk (by rw[vm,q,hd']);have f_:nU m.1 h.1 v:=⟨hst,h.2.2.1,i0,hlt,Ad,vm⟩
   by_cases hc:h.1=t/\(ai m t).2.2.2.2.1.length=1
   .have hk:∃k,(ai m t).2.2.2.2.1=[k]:=by
     match hq:(ai m t).2.2.2.2.1,hc.2 with
     | [k],_=>exact⟨k,rfl⟩
    obtain⟨k,hk⟩:=hk;have Et:k.1=t:=by rw[<-hone k hk];exact hc.1
    refine kd (Kind.push v _ ho (.inr ⟨k,hk,Et,hc.1 ▸ f_⟩) v0 v1 (by rw[<-hc.1];exact UP) vo iT.1.1 iT.1.2 vm) ?_;unfold kH;rw[hh,e];dsimp only;rw[aj rfl,aj hc]
   .have hne:h.1≠t:=fun q=>by
     rcases T.st with z | ⟨k,z⟩ | ⟨k,k',z,zt⟩
     .exact hs z
     .exact hc ⟨q,by rw[z];rfl⟩
     .exact h2 k k' z (by rw[<-XN k k' z];exact q)
    refine kd (K4 v hd' hst hne UP v0 v1 vo f_) ?_;unfold kH;rw[hh,e];dsimp only;rw[aj rfl,af hc]
  have hw0:(wd m.1 (qi (aq m.1 h.1).2.2.1 h.2.2.1).1).2.1=0:=by omega
  by_cases hold:(wd m.1 (qi (aq m.1 h.1).2.2.1 h.2.2.1).1).1=(qi (aq m.1 h.1).2.2.1 h.2.2.1).2.1
  .have e:q7 m.1 h=(eu m.1 (qi (aq m.1 h.1).2.2.1 h.2.2.1).1 (dN h.1 h.2.1),(h.1,h.2.1,h.2.2.1+1,h.2.2.2),dH,0,()):=by unfold q7;rw[af hd,aj hst,af ej,af hmk,af xx,aj hold]
   obtain⟨_,hV,_⟩:=Fg I.mem u0 u1 hst i0 hlt hw0 hold Ad;rw[<-hd']at hV;refine kd (K5 _ hd' hst iT.1.1 iT.1.2 hw0 hV) ?_;unfold kH;rw[hh,e];dsimp only;rw[af (by decide),af (by decide),af (by decide)]
  .have e:q7 m.1 h=(bJ m.1 h.1 ((aq m.1 h.1).1,3,(aq m.1 h.1).2.2),h,dH,0,()):=by unfold q7;rw[af hd,aj hst,af ej,af hmk,af xx,af hold]
   obtain⟨_,_,hV⟩:=H8 I.mem u0 u1 (c:=3) hst (.inr rfl);refine kd (K6 h.2.2.1 hd' hst i0 hlt Ad hw0 hold (fun q a b=>by rw[hV q a b,af (by omega)])) ?_;unfold kH;rw[hh,e];dsimp only;rw[af (by decide),af (by decide),af (by decide),UO]
 .by_cases kO:((aq m.1 h.1).2.2.1.length:Int)<=h.2.2.2.1
  .have e:q7 m.1 h=(m.1,h,dH,2,()):=by unfold q7;rw[af hd,af hst,aj kO]
   have hnm:¬ vr m.1 h.1:=ac6 I u0 fun i a b=>by rw[<-hd'];exact c4 hst i a (by omega)
   by_cases hne:h.1≠t
   .refine kd (K1 hne (fun _=>⟨hst,hnm⟩)) ?_;unfold kH;rw[hh,e];dsimp only;rw[af (by decide),aj rfl,aj hne]
   have CY:h.1=t:=by omega
   have hown:=(JJ T hs (by rw[hh];exact CY)).1;have oW:=I.mem.kX t t0 t1 hown;have XG:=(I.mem.dz t t0 t1).st.2 oW;rw[CY]at hst hnm;by_cases hy:(aq m.1 t).2.1=2
   .refine⟨_,_,K9 CY hy hnm,?_⟩;unfold kH;rw[hh,e];dsimp only;rw[af (by decide),aj rfl,af hne,aj hy];have h2:(ir (cH m m.1) t (aq m.1 t).2.2.2.1).2.1=m.2.1:=by unfold ir;split<;>rfl
    have h1:(ir (cH m m.1) t (aq m.1 t).2.2.2.1).1=m.1:=by unfold ir;split<;>rfl
    unfold eg;refine⟨by rw[o5,h2],h1,fun u u0=>?_⟩;rw[qT (by rw[h2];exact⟨t0,t1⟩) u0,zR h2 u];rfl
   .refine kd (K10 CY (by omega) hnm) ?_;unfold kH;rw[hh,e];dsimp only;rw[af (by decide),aj rfl,af hne,af hy]
  .have hlt:h.2.2.2.1<(aq m.1 h.1).2.2.1.length:=by omega
   have i0:=H.fin.1;have iT:=I.mem.gW u0 u1 i0 hlt;by_cases hmk:wd m.1 (qi (aq m.1 h.1).2.2.1 h.2.2.2.1).1=dN h.1 h.2.1
   .have e:q7 m.1 h=(eu m.1 (qi (aq m.1 h.1).2.2.1 h.2.2.2.1).1 (if (aq m.1 h.1).2.1=2 then (qi (aq m.1 h.1).2.2.1 h.2.2.2.1).2.2.1 else (qi (aq m.1 h.1).2.2.1 h.2.2.2.1).2.1,0,0,()),(h.1,h.2.1,h.2.2.1,h.2.2.2.1+1,()),dH,0,()):=by unfold q7;rw[af hd,af hst,af kO,aj hmk]
    obtain⟨_,hV,_⟩:=M4 I.mem u0 u1 hst i0 hlt (by rw[<-hd'];exact hmk);refine kd (K8 _ _ hd' hst iT.1.1 iT.1.2 hmk hV) ?_;unfold kH;rw[hh,e];dsimp only;rw[af (by decide),af (by decide),af (by decide)]
   .have e:q7 m.1 h=(m.1,(h.1,h.2.1,h.2.2.1,h.2.2.2.1+1,()),dH,0,()):=by unfold q7;rw[af hd,af hst,af kO,af hmk]
    refine kd (K7 hd' hst) ?_;unfold kH;rw[hh,e];dsimp only;rw[af (by decide),af (by decide),af (by decide)]
theorem abY{m:aF}(I:Inv m){t:Int}(t0:0<=t)(t1:t<m.2.1.length)(ho:(ai m t).2.2.1=true)(hs:(ai m t).2.2.2.2.1=[])(oW:(aq m.1 t).1+1<=m.2.2.1):∃a x,Kind m t a x/\jL m (tM m t) t a x:=by
 have T:=I.th t t0 t1;have hop:=T.op ho;have i9:=zT (t:=t) hs;have hno:¬ bx m t:=by unfold bx;rw[i9];simp
 obtain⟨q,B,hq⟩:=T.read ho i9;have nN:=T.along ho;obtain⟨Ji,zB⟩:=Kc hop T.got nN;have oC:De (ai m t)=q/\(0<=q/\q<20)/\q∉g6 (ai m t).2.2.2.1/\(ai m t).2.2.2.1.length<8:=by
  rcases zB with h | ⟨q',B',h,h2,h3,h4,h5⟩
  .rw[hq]at h;have:=ew List.length h.1;simp at this
  .rw[hq]at h;have:=F5 h;simp only[eZ]at this;obtain⟨rfl,_⟩:=this;exact⟨h2,h3,h4,h5⟩
 obtain⟨oC,qA,Xz,hlen⟩:=oC;have kd:∀{a x},(hk:Kind m t a x)->tM m t=cA (cH m a) t x->∃a x,Kind m t a x/\jL m (tM m t) t a x:=fun {a x} hk e=>⟨a,x,hk,by rw[e];exact RV t0 t1 a x⟩
 have Es:iw m (ai m t)=(ai m t).2.2.2.1++[(q,(wd m.1 q).1,())]:=by unfold iw;rw[oC]
 by_cases hw:(wd m.1 q).2.1≠0
 .rcases I.mem.word q qA.1 qA.2 with h | ⟨v,v0,v1,vo,vm,j,j0,j1,je⟩
  .exact absurd h.1 hw
  have e2:((wd m.1 q).2.1-1,(wd m.1 q).2.2.1,(0:Int),(0:Int),())=(v,(aq m.1 v).1,0,0,()):=by rw[vm];simp only[dN];rw[show v+1-1=v by omega]
  refine kd (Kind.push v q ho (.inl hs) v0 v1 (fun e=>hno (by rw[<-e];exact vo)) vo qA.1 qA.2 vm) ?_;unfold tM;rw[oC,aj hw,e2];rfl
 have hw0:(wd m.1 q).2.1=0:=by omega
 have hv:(wd m.1 q).1=fZ m.1 q:=(u9 hw0).symm;rw[hv]at Es;by_cases h1:(gj (aV (ai m t)) (iw m (ai m t))).2.1=false
 .refine kd (Kind.got q ho hs qA) ?_;unfold tM;rw[oC,af hw,aj h1,Es];rfl
 by_cases h2:(gj (aV (ai m t)) (iw m (ai m t))).1.1=true
 .refine⟨_,_,Kind.now ho hs,?_⟩;unfold tM;rw[oC,af hw,af h1,aj h2];generalize (gj (aV (ai m t)) (iw m (ai m t))).1.2.1=s;have a1:(ir (iD m t s) t s).2.1=m.2.1:=by
   have h3:(iD m t s).2.1=m.2.1:=by unfold iD;split<;>rfl
   unfold ir;split
   .exact h3
   .exact h3
  have a2:(ir (iD m t s) t s).1=m.1:=by
   have h3:(iD m t s).1=m.1:=by unfold iD;split<;>rfl
   unfold ir;split
   .exact h3
   .exact h3
  have a3:ai (iD m t s) t=ai m t:=zR (by unfold iD;split<;>rfl) t;unfold eg;refine⟨by rw[o5,a1],a2,fun u u0=>?_⟩;rw[qT (by rw[a1];exact⟨t0,t1⟩) u0,zR a1 u,a3]
 .have hV:∀p:Int,0<=p->p<20->fZ (bJ m.1 t ((aq m.1 t).1+1,1,(gj (aV (ai m t)) (iw m (ai m t))).1.2.2.1,(gj (aV (ai m t)) (iw m (ai m t))).1.2.1,())) p=fZ m.1 p:=fun p p0 p1=>by
   have mu:=I.mem.dy;have hnm:=Rq I.mem t0 hno p0 p1;have e:=fun v (v0:0<=v)=>n7 (m:=m.1) (u:=t) (t:=v) (d:=((aq m.1 t).1+1,1,(gj (aV (ai m t)) (iw m (ai m t))).1.2.2.1,(gj (aV (ai m t)) (iw m (ai m t))).1.2.1,())) ⟨t0,by omega⟩ v0;rcases I.mem.word p p0 p1 with z | ⟨v,v0,v1,vo,vm,_⟩
   .rw[u9 (m:=m.1) z.1,u9 (by rw[Ip];exact z.1),Ip]
   .have hvt:v≠t:=fun z=>hno (z ▸ vo);rw[zS v0 vm,zS (u:=v) v0 (by rw[Ip,e v v0,af hvt];exact vm),e v v0,af hvt]
  refine kd (Kind.new q _ _ ho hs hV qA) ?_;unfold tM;rw[oC,af hw,af h1,af h2];rw[Es]
theorem Rl{m:aF}(I:Inv m){t:Int}(t0:0<=t)(t1:t<m.2.1.length)(h2:∀k k',(ai m t).2.2.2.2.1=[k,k']->k'.1≠t):∃a x,Kind (tick m) t a x/\jL (tick m) (vv m t) t a x:=by
 unfold vv;by_cases c1:(ai m t).2.2.1=false
 .rw[aj c1];refine⟨_,_,Kind.zl (m:=tick m) c1,?_⟩;unfold pR;exact⟨o5 _ _ _,rfl,fun U u0=>qT (m:=(m.1,m.2.1,_)) ⟨t0,t1⟩ u0⟩
 rw[af c1];have zm:(ai m t).2.2.1=true:=by simpa using c1
 by_cases c2:(ai m t).2.2.2.2.1≠[]
 .rw[aj c2];exact abX (I0 I) t0 t1 c2 h2
 .rw[af c2];refine abY (I0 I) t0 t1 zm (by show(ai m t).2.2.2.2.1=[];simpa using c2) ?_;have:=(I.mem.dz t t0 t1).seq.2;show(aq m.1 t).1+1<=m.2.2.1+1;omega
theorem ale{l:List ez}(h:lM l){i j:Int}(i0:0<=i)(ij:i<j)(j1:j<l.length):(qi l i).1<(qi l j).1:=by unfold qi;rw[qv (show i.toNat<l.length by omega),qv (show j.toNat<l.length by omega)];exact yc.1 h i.toNat j.toNat (by omega) (by omega) (by omega)
theorem L6{m:aF}(I:Inv m){C U:Int}(c0:0<=C)(c1:C<m.2.1.length)(h:nU m.1 C U)(hne:C≠U):∃p:Int,(0<=p/\p<20)/\wd m.1 p=dN U (aq m.1 U).1/\∀q:Int,0<=q->q<20->wd m.1 q=dN C (aq m.1 C).1->q<p:=by
 obtain⟨hs,i,i0,i1,hb,hi⟩:=h;have he:=I.mem.gW c0 c1 i0 i1;refine⟨_,he.1,hi,fun q q0 q1 hq=>?_⟩;rcases I.mem.word q q0 q1 with z | ⟨v,v0,v1,vo,vm,j,j0,j1,je⟩
 .exact absurd hq (vk z.1 c0)
 .obtain⟨rfl,_⟩:=tI (vm.symm.trans hq);have hji:j<i:=by
   rcases Ca j i with z | z | z
   .exact z
   .rw[z]at je;rw[je]at hi;exact absurd (tI (hi.symm.trans hq)).1.symm hne
   .have:=I.mem.pre v c0 c1 hs i j i0 z j1 (by rw[je];exact hq);exact absurd (tI (this.symm.trans hi)).1 hne
  have oR:=(I.mem.dz v c0 c1).z7;rw[<-je];exact ale oR j0 hji i1
theorem UU{m:aF}(I:Inv m){A B:Int}(a0:0<=A)(a1:A<m.2.1.length)(b0:0<=B)(b1:B<m.2.1.length)(h:nU m.1 A B)(h2:nU m.1 B A)(hne:A≠B):False:=by obtain⟨p,pr,pm,pl⟩:=L6 I a0 a1 h hne;obtain⟨q,qr,qm,ql⟩:=L6 I b0 b1 h2 hne.symm;have:=pl q qr.1 qr.2 qm;have:=ql p pr.1 pr.2 pm;omega
theorem no3{m:aF}(I:Inv m){A B C:Int}(a0:0<=A)(a1:A<m.2.1.length)(b0:0<=B)(b1:B<m.2.1.length)(c0:0<=C)(c1:C<m.2.1.length)(h:nU m.1 A B)(h2:nU m.1 B C)(h3:nU m.1 C A)
  (n1:A≠B) (n2:B≠C) (n3:C≠A):False:=by
 obtain⟨p,pr,pm,pl⟩:=L6 I a0 a1 h n1;obtain⟨q,qr,qm,ql⟩:=L6 I b0 b1 h2 n2;obtain⟨s,sr,sm,sl⟩:=L6 I c0 c1 h3 n3;have:=pl s sr.1 sr.2 sm;have:=ql p pr.1 pr.2 pm;have:=sl q qr.1 qr.2 qm;omega
theorem ai_{m:aS}{C U:Int}(h:nU m C U)(hne:C≠U)(hall:∀i:Int,0<=i->i<(aq m C).2.2.1.length->wd m (qi (aq m C).2.2.1 i).1=dN C (aq m C).1):False:=by obtain⟨hs,i,i0,i1,hb,hi⟩:=h;exact hne (tI ((hall i i0 i1).symm.trans hi)).1
theorem aij{m:aS}{C U:Int}(u0:0<=U)(c0:0<=C)(h:nU m C U)(hne:C≠U){k:Int}(k0:0<=k)(k1:k<(aq m C).2.2.1.length)(hb:∀j:Int,0<=j->j<k->wd m (qi (aq m C).2.2.1 j).1=dN C (aq m C).1)
  (hk:(wd m (qi (aq m C).2.2.1 k).1).2.1=0):False:=by
 obtain⟨hs,i,i0,i1,Uy,hi⟩:=h;rcases Ca i k with z | z | z
 .exact hne (tI ((hb i i0 z).symm.trans hi)).1
 .rw[z]at hi;exact vk hk u0 hi
 .exact vk hk c0 (Uy k k0 z)
theorem Ub{m:aF}(I:Inv m){t:Int}(t0:0<=t)(t1:t<m.2.1.length){a:aS}{x:cU}(K:Kind m t a x){C U:Int}(c0:0<=C)(c1:C<m.2.1.length)(u0:0<=U)(u1:U<m.2.1.length)(hne:C≠U)
  (hU:(aq m.1 U).2.1=1) (Je:(aq a U).2.1=1) (h:nU m.1 C U):nU a C U:=by
 have mu:=I.mem.dy;have hlen:=I.mem.len;have T:=I.th t t0 t1;have uk:∀u:Int,0<=u->u<m.2.1.length->∀d:nv,u≠C->u≠U->nU (bJ m.1 u d) C U:=fun u a0 a1 d n1 n2=>by
  obtain⟨hs,i,i0,i1,hb,hi⟩:=h;have e:∀v:Int,0<=v->v≠u->aq (bJ m.1 u d) v=aq m.1 v:=fun v v0 q=>by rw[n7 ⟨a0,by omega⟩ v0,af q]
  have eC:=e C c0 (fun q=>n1 q.symm);have eU:=e U u0 (fun q=>n2 q.symm);unfold nU;rw[eC,eU];exact⟨hs,i,i0,i1,hb,hi⟩
 have oF:∀(p:Int)(w:l_),0<=p->p<20->wd m.1 p≠dN C (aq m.1 C).1->wd m.1 p≠dN U (aq m.1 U).1->nU (eu m.1 p w) C U:=fun p w p0 p1 q1 q2=>by
  obtain⟨hs,i,i0,i1,hb,hi⟩:=h;have hw:∀q:Int,0<=q->q≠p->wd (eu m.1 p w) q=wd m.1 q:=fun q q0 qn=>by rw[Fm (by omega) q0,af qn]
  refine⟨hs,i,i0,i1,fun j j0 j1=>?_,?_⟩
  .have he:=I.mem.gW c0 c1 j0 (show j<(aq m.1 C).2.2.1.length by omega);show wd (eu m.1 p w) (qi (aq m.1 C).2.2.1 j).1=dN C (aq m.1 C).1;rw[hw _ he.1.1 (fun z=>q1 (by rw[<-z];exact hb j j0 j1))];exact hb j j0 j1
  .have he:=I.mem.gW c0 c1 i0 i1;show wd (eu m.1 p w) (qi (aq m.1 C).2.2.1 i).1=dN U (aq m.1 U).1;rw[hw _ he.1.1 (fun z=>q2 (by rw[<-z];exact hi))];exact hi
 cases K with
 | zl=>exact h
 | push=>exact h
 | got=>exact h
 | now=>exact h
 | qI=>exact h
 | mD=>exact h
 | swap=>exact h
 | pV=>exact h
 | pU=>exact h
 | CR=>exact h
 | new q E r ho hs hv=>
  have hno:¬ bx m t:=by unfold bx;rw[zT hs];simp
  exact uk t t0 t1 _ (fun z=>hno (I.mem.jP t t0 t1 (by rw[z];exact h.1))) (fun z=>hno (I.mem.jP t t0 t1 (by rw[z];exact hU)))
 | yes hs h1 h2 h3=>have H:=T.d6 _ (mK hs);refine uk _ H.t.1 H.t.2 _ (fun z=>ai_ h hne (by rw[<-z];exact h3)) (fun z=>?_);rw[z]at Je;rw[n7 ⟨u0,by omega⟩ u0,aj rfl]at Je;dsimp only at Je;omega
 | no i hs h1 h2 i0 i1 hb hw hv hval=>
  have H:=T.d6 _ (mK hs);refine uk _ H.t.1 H.t.2 _ (fun z=>?_) (fun z=>?_)
  .rw[z]at i1 hb hw;exact aij u0 c0 h hne i0 i1 hb hw
  .rw[z]at Je;rw[n7 ⟨u0,by omega⟩ u0,aj rfl]at Je;dsimp only at Je;omega
 | lay p hs h1 h2 p0 p1 hw hv=>exact oF p _ p0 p1 (vk hw c0) (vk hw u0)
 | oQ p y hs h1 h2 p0 p1 hw hv=>
  refine oF p _ p0 p1 (fun z=>?_) (fun z=>?_)
  .have:=(tI (hw.symm.trans z)).1;rw[this]at h2;exact h2 h.1
  .have:=(tI (hw.symm.trans z)).1;rw[this]at h2;exact h2 hU
def sn(m:aS)(n:Nat)(t u:Int):Prop:=nU m t u\/∃v:Int,0<=v/\v<n/\v≠t/\v≠u/\nU m t v/\nU m v u
def Live(m:aF):Prop:=∀t:Int,0<=t->t<m.2.1.length->∀k k',(ai m t).2.2.2.2.1=[k,k']->k'.1≠t/\(k'.2.1=(aq m.1 k'.1).1->(aq m.1 k'.1).2.1=1->sn m.1 m.2.1.length t k'.1)
theorem aaS{m:aF}(I:Inv m){t:Int}(t0:0<=t)(t1:t<m.2.1.length){a:aS}{x:cU}(K:Kind m t a x){u w:Int}(u0:0<=u)(u1:u<m.2.1.length)(w0:0<=w)(w1:w<m.2.1.length)(hne:u≠w)
  (hw:(aq m.1 w).2.1=1) (iV:(aq a w).2.1=1) (h:sn m.1 m.2.1.length u w):sn a m.2.1.length u w:=by
 rcases h with h | ⟨v,v0,v1,vu,vw,h1,h2⟩
 .exact .inl (Ub I t0 t1 K u0 u1 w0 w1 hne hw iV h)
 .have k2:=Ub I t0 t1 K v0 v1 w0 w1 vw hw iV h2;exact .inr ⟨v,v0,v1,vu,vw,Ub I t0 t1 K u0 u1 v0 v1 vu.symm h2.1 k2.1 h1,k2⟩
theorem A4{m:aF}(I:Inv m){t:Int}(t0:0<=t)(t1:t<m.2.1.length){a:aS}{x:cU}(K:Kind m t a x){w:Int}(w0:0<=w)(w1:w<m.2.1.length)(iV:(aq a w).2.1=1) :
  (w=t/\(aq a w).1=(aq m.1 w).1+1)\/((aq a w).1=(aq m.1 w).1/\(aq m.1 w).2.1=1):=by
 have mu:=I.mem.dy;have T:=I.th t t0 t1;cases K with
 | zl=>exact .inr ⟨rfl,iV⟩
 | push=>exact .inr ⟨rfl,iV⟩
 | got=>exact .inr ⟨rfl,iV⟩
 | now=>exact .inr ⟨rfl,iV⟩
 | qI=>exact .inr ⟨rfl,iV⟩
 | mD=>exact .inr ⟨rfl,iV⟩
 | swap=>exact .inr ⟨rfl,iV⟩
 | pV=>exact .inr ⟨rfl,iV⟩
 | pU=>exact .inr ⟨rfl,iV⟩
 | CR=>exact .inr ⟨rfl,iV⟩
 | lay=>exact .inr ⟨rfl,iV⟩
 | oQ=>exact .inr ⟨rfl,iV⟩
 | new q E r ho hs hv=>
  rw[n7 ⟨t0,by omega⟩ w0]at iV⊢;by_cases z:w=t
  .rw[aj z,z];exact .inl ⟨rfl,rfl⟩
  .rw[af z]at iV⊢;exact .inr ⟨rfl,iV⟩
 | yes hs h1 h2 h3=>
  have H:=T.d6 _ (mK hs);rw[n7 ⟨H.t.1,by have:=H.t.2;omega⟩ w0]at iV⊢;by_cases z:w=(au (ai m t)).1
  .rw[aj z]at iV;dsimp only at iV;omega
  .rw[af z]at iV⊢;exact .inr ⟨rfl,iV⟩
 | no i hs h1 h2 i0 i1 hb hw hv hval=>
  have H:=T.d6 _ (mK hs);rw[n7 ⟨H.t.1,by have:=H.t.2;omega⟩ w0]at iV⊢;by_cases z:w=(au (ai m t)).1
  .rw[aj z]at iV;dsimp only at iV;omega
  .rw[af z]at iV⊢;exact .inr ⟨rfl,iV⟩
theorem ab2{m m':aF}(I:Inv m)(L:Live m){t:Int}(t0:0<=t)(t1:t<m.2.1.length){a:aS}{x:cU}(K:Kind m t a x)(G:jL m m' t a x):Live m':=by
 intro u u0 u1 k k' hk;rw[G.n]at u1⊢;rw[G.mem];rw[G.ai u u0]at hk;have keep:∀{k':gx},bW m.1 m.2.1.length k'->k'.1≠u->(k'.2.1=(aq m.1 k'.1).1->(aq m.1 k'.1).2.1=1->sn m.1 m.2.1.length u k'.1)->(k'.2.1=(aq a k'.1).1->(aq a k'.1).2.1=1->sn a m.2.1.length u k'.1):=by
  intro k' H hn hc e1 e2;rcases A4 I t0 t1 K H.t.1 H.t.2 e2 with⟨_,z⟩ | ⟨z,z2⟩
  .have:=H.seq.2;omega
  .exact aaS I t0 t1 K u0 u1 H.t.1 H.t.2 hn.symm z2 e2 (hc (by omega) z2)
 by_cases hu:u=t
 .rw[aj hu]at hk;subst hu;have T:=I.th u u0 u1;have hsame:∀{h':gx},(ai m u).2.2.2.2.1≠[]->(ki (ai m u) h').2.2.2.2.1=[k,k']->(ai m u).2.2.2.2.1=[k,au (ai m u)]/\k'=h':=by
   intro h' hs e;unfold ki at e;dsimp only at e;rcases T.st with z | ⟨q,z⟩ | ⟨q,q',z,zt⟩
   .exact absurd z hs
   .rw[z]at e;cases e
   .rw[z]at e⊢;simp only[ct,gB,FL,B9,eZ]at e;refine⟨?_,e.2.1.symm⟩;rw[e.1];unfold au;rw[z];rfl
  have iK:∀{h':gx},(ki (ai m u) h').2.2.2.2.1=[k,k']->(ai m u).2.2.2.2.1≠[]->h'.1=(au (ai m u)).1->h'.2.1=(au (ai m u)).2.1->k'.1≠u/\(k'.2.1=(aq a k'.1).1->(aq a k'.1).2.1=1->sn a m.2.1.length u k'.1):=by intro h' e hs e1 e2;obtain⟨z,rfl⟩:=hsame hs e;have l:=L u u0 u1 _ _ z;rw[e1,e2];exact⟨l.1,keep (T.d6 _ (mK hs)) l.1 l.2⟩
  have hst:(ai m u).2.2.2.2.1=[k,k']->k'.1≠u/\(k'.2.1=(aq a k'.1).1->(aq a k'.1).2.1=1->sn a m.2.1.length u k'.1):=fun e=>by
   have l:=L u u0 u1 _ _ e;exact⟨l.1,keep (T.d6 _ (by rw[e];simp)) l.1 l.2⟩
  cases K with
  | zl h=>exact hst hk
  | got q ho hs=>exact hst hk
  | now=>cases hk
  | pU=>cases hk
  | CR=>cases hk
  | new q E r ho hs hv=>have e:(ai m u).2.2.2.2.1++[(u,(aq m.1 u).1+1,0,0,())]=[k,k']:=hk;rw[hs]at e;cases e
  | qI hs hne _=>have e:(ai m u).2.2.2.2.1.take ((ai m u).2.2.2.2.1.length-1)=[k,k']:=hk;have e2:=ew List.length e;rw[eR]at e2;simp only[ct,gB]at e2;rcases T.st with z | ⟨q,z⟩ | ⟨q,q',z,zt⟩<;>rw[z]at e2<;>simp at e2
  | yes hs h1 h2 h3=>exact hst hk
  | no i hs h1 h2 i0 i1 hb hw hv hval=>exact hst hk
  | mD hs h1 h2=>exact iK hk hs rfl rfl
  | pV hs h1 h2=>exact iK hk hs rfl rfl
  | lay p hs h1 h2 p0 p1 hw hv=>exact iK hk hs rfl rfl
  | oQ p y hs h1 h2 p0 p1 hw hv=>exact iK hk hs rfl rfl
  | push v p ho hs v0 v1 vt vo p0 p1 hw=>
   have e:(ai m u).2.2.2.2.1++[(v,(aq m.1 v).1,0,0,())]=[k,k']:=hk;rcases hs with hs | ⟨q,hs,qt,XF⟩
   .rw[hs]at e;cases e
   .rw[hs]at e;simp only[fI,gA,eZ]at e;rw[<-e.2.1];exact⟨vt,fun _ _=>.inl XF⟩
  | swap v hs h1 h2 hne vh v0 v1 vo f_=>
   obtain⟨z,rfl⟩:=hsame hs hk;have l:=L u u0 u1 _ _ z;have H:=T.d6 _ (mK hs);have n3:=I.n.2;have hc:=l.2 h1 h2;generalize hh:au (ai m u)=h at *;have a0:=H.t.1;have a1:=H.t.2;have vu:v≠u:=fun q=>by
    subst q;rcases hc with c | ⟨w,w0,w1,wu,wh,c1,c2⟩
    .exact UU I u0 u1 a0 a1 c f_ hne.symm
    .exact no3 I u0 u1 w0 w1 a0 a1 c1 c2 f_ wu.symm wh hne
   refine⟨vu,fun _ _=>?_⟩;rcases hc with c | ⟨w,w0,w1,wu,wh,c1,c2⟩
   .exact .inr ⟨h.1,a0,a1,hne,vh.symm,c,f_⟩
   .exfalso;have:v=w:=by omega
    subst this;exact UU I w0 w1 a0 a1 c2 f_ wh
 .rw[af hu]at hk;have l:=L u u0 u1 _ _ hk;exact⟨l.1,keep ((I.th u u0 u1).d6 _ (by rw[hk];simp)) l.1 l.2⟩
theorem BI{m:aF}(I:Inv m){U:Int}(u0:0<=U)(u1:U<m.2.1.length):(∀g∈gt m U,0<=g.1/\g.1<20)/\(gt m U).length<=8:=by
 have T:=I.th U u0 u1;unfold gt;cases h:(ai m U).2.2.1 with
 | true=>obtain⟨_,h2,h3⟩:=Ka (T.op h) T.got (T.along h);exact⟨fun g hg=>h2 g.1 (eJ.2 ⟨g,hg,rfl⟩),h3⟩
 | false=>rw[(T.off h).1];exact⟨fun g hg=>by simp at hg,by simp⟩
theorem JD{m a:aS}{G:dM}(hv:∀p:Int,0<=p->p<20->fZ a p=fZ m p)(hg:∀g∈G,0<=g.1/\g.1<20):bad a G↔bad m G:=
 ⟨fun⟨x,hx,e⟩=>⟨x,hx,by rw[<-hv _ (hg x hx).1 (hg x hx).2];exact e⟩,fun⟨x,hx,e⟩=>⟨x,hx,by rw[hv _ (hg x hx).1 (hg x hx).2];exact e⟩⟩
theorem RY{m:aS}{G:dM}(q:Int):bad m (G++[(q,fZ m q,())])↔bad m G:=
 ⟨fun⟨x,hx,e⟩=>by
  rcases bN.1 hx with h | h
  .exact⟨x,h,e⟩
  .rw[d9]at h;subst h;exact absurd rfl e,fun⟨x,hx,e⟩=>⟨x,B7 _ hx,e⟩⟩
theorem als{m:aF}(I:Inv m){u:Int}(u0:0<=u)(u1:u<m.2.1.length)(hs:(aq m.1 u).2.1=1){i:Int}(i0:0<=i)(i1:i<(aq m.1 u).2.2.1.length)(hw:(wd m.1 (qi (aq m.1 u).2.2.1 i).1).2.1=0)
  (hv:(wd m.1 (qi (aq m.1 u).2.2.1 i).1).1≠(qi (aq m.1 u).2.2.1 i).2.1):bad m.1 (gt m u):=by
 have hown:bx m u:=I.mem.jP u u0 u1 hs;have T:=I.th u u0 u1;have oD:=T.o3 hown;have ho:=T.op oD;obtain⟨hp,dF,hl,hr⟩:=T.plan hown;have he:=L2 i0 i1;rw[hl]at he;obtain⟨g,hg,e1,e2⟩:=(Bh ho T.got (T.along oD) hp dF).2.1 _ he;rw[<-hl]at e1 e2;exact⟨g,hg,by rw[e1,e2,u9 hw];exact hv⟩
theorem HM{x:cU}{t:Int}{h':gx}(hs:x.2.2.2.2.1=[]\/∃k,x.2.2.2.2.1=[k]/\k.1=t)(hv:h'.1≠t):bC (qY x h') t=bC x t:=by
 unfold qY bC;dsimp only;rcases hs with hs | ⟨q,hs,qt⟩
 .rw[hs];simp[hv]
 .rw[hs];rfl
theorem HT{m:aS}{n:Nat}{x:cU}{t:Int}(T:jv m n x t)(hs:x.2.2.2.2.1≠[])(hne:(au x).1≠t):bC (jh x) t=bC x t:=by
 unfold jh bC;dsimp only;rcases T.st with z | ⟨q,z⟩ | ⟨q,q',z,zt⟩
 .exact absurd z hs
 .have:au x=q:=by unfold au;rw[z];rfl
  rw[this]at hne;rw[z];simp[hne]
 .rw[z];rfl
theorem JC{m:aS}{n:Nat}{x:cU}{t:Int}(T:jv m n x t){h':gx}(hs:x.2.2.2.2.1≠[])(e:h'.1=t↔(au x).1=t):bC (ki x h') t=bC x t:=by
 unfold ki bC;rcases T.st with z | ⟨q,z⟩ | ⟨q,q',z,zt⟩
 .exact absurd z hs
 .have:au x=q:=by unfold au;rw[z];rfl
  rw[this]at e;dsimp only;rw[z];simp only[ct,gB,B9];exact decide_eq_decide.2 e
 .dsimp only;rw[z];rfl
theorem DA{m:aS}{n:Nat}{x:cU}{t:Int}(T:jv m n x t)(hs:x.2.2.2.2.1≠[])(b c:Int)(d:Int×Unit):bC (ki x ((au x).1,b,c,d)) t=bC x t:=JC T hs i7
theorem Hj{m:aF}{t:Int}(T:jv m.1 m.2.1.length (ai m t) t){v s:Int}(hs:(ai m t).2.2.2.2.1≠[])(hne:(au (ai m t)).1≠t)(vo:bx m v):bC (ki (ai m t) (v,s,0,0,())) t=bC (ai m t) t:=by
 rcases T.st with z | ⟨q,z⟩ | ⟨q,q',z,zt⟩
 .exact absurd z hs
 .refine JC T hs ⟨fun e=>?_,fun e=>absurd e hne⟩;have:au (ai m t)=q:=by unfold au;rw[z];rfl
  rw[this]at hne;dsimp only at e;subst e;unfold bx bC at vo;rw[z]at vo;exact absurd (by simpa using vo) hne
 .unfold ki bC;dsimp only;rw[z];rfl
section
variable {m m':aF} (I:Inv m) {t:Int} (t0:0<=t) (t1:t<m.2.1.length) {a:aS} {x:cU} (K:Kind m t a x) (G:jL m m' t a x)
include I t0 t1 K G
theorem FD(hl:∀U:Int,0<=U->U<m.2.1.length->lf m' U=lf m U)(hy:∀U:Int,0<=U->U<m.2.1.length->(lJ m' U↔lJ m U))(hs:∀U:Int,0<=U->U<m.2.1.length->(pK m' U↔pK m U)){U:Int}(u0:0<=U)(u1:U<m.2.1.length):AA m' U=AA m U:=by unfold AA;rw[G.n,hl U u0 u1,xQ (hs U u0 u1),Ij (f:=Yv m') (g:=Yv m) fun V a b _=>by unfold Yv;rw[hl V a b,xQ (hy V a b)]]
theorem Az(U:Int)(u0:0<=U)(hU:U≠t):ai m' U=ai m U:=by rw[G.ai U u0,af hU]
theorem wo:ai m' t=x:=by rw[G.ai t t0,aj rfl]
theorem CC(hv:∀p:Int,0<=p->p<20->fZ a p=fZ m.1 p)(hd:∀U:Int,0<=U->U<m.2.1.length->aq a U=aq m.1 U)
  (ho:bC x t=bC (ai m t) t/\x.1=(ai m t).1/\x.2.1=(ai m t).2.1/\(x.2.2.2.1=(ai m t).2.2.2.1\/∃q,0<=q/\q<20/\x.2.2.2.1=(ai m t).2.2.2.1++[(q,fZ m.1 q,())])) {U:Int} (u0:0<=U) (u1:U<m.2.1.length):AA m' U=AA m U:=by
 have hO:=Az I t0 t1 K G;have hS:=wo I t0 t1 K G;have hown:∀U:Int,0<=U->(bx m' U↔bx m U):=fun U u0=>by
  unfold bx;by_cases q:U=t
  .rw[q,hS,ho.1]
  .rw[hO U u0 q]
 have Eg:∀U:Int,0<=U->U<m.2.1.length->(bad m'.1 (gt m' U)↔bad m.1 (gt m U)):=fun U u0 u1=>by
  have hr:=(BI I u0 u1).1;rw[G.mem];by_cases q:U=t
  .subst q;unfold gt at hr⊢;rw[hS];rcases ho.2.2.2 with e | ⟨q,q0,q1,e⟩
   .rw[e];exact JD hv hr
   .rw[e];refine(JD hv fun g hg=>?_).trans (RY q);rcases bN.1 hg with h | h
    .exact hr g h
    .rw[d9]at h;rw[h];exact⟨q0,q1⟩
  .unfold gt at hr⊢;rw[hO U u0 q];exact JD hv hr
 have hy:∀U:Int,0<=U->U<m.2.1.length->(lJ m' U↔lJ m U):=fun U u0 u1=>by
  unfold lJ;rw[hown U u0,G.mem,hd U u0 u1]
 refine FD I t0 t1 K G (fun U u0 u1=>?_) hy (fun U u0 u1=>?_) u0 u1
 .unfold lf;by_cases q:U=t
  .rw[q,hS,ho.2.1,ho.2.2.1]
  .rw[hO U u0 q]
 .unfold pK;rw[hy U u0 u1,hown U u0,Eg U u0 u1,G.mem,hd U u0 u1]
theorem CB(ha:a=m.1)(hx:x.2.2.2=([],[],()))(hl:x.1=(ai m t).1)(he:x.2.1=(ai m t).2.1+1\/(x.2.1=(ai m t).2.1/\bx m t/\(aq m.1 t).2.1=3)) :
  AA m' t+1<=AA m t/\∀U:Int,0<=U->U<m.2.1.length->U≠t->AA m' U<=AA m U:=by
 have hO:=Az I t0 t1 K G;have hS:=wo I t0 t1 K G;have hno:¬ bx m' t:=by unfold bx bC;rw[hS,hx];simp
 have UI:¬ lJ m' t:=fun z=>hno z.1;have vL:¬ pK m' t:=by
  rintro(z | ⟨_,g,hg,_⟩)
  .exact hno z.1
  .unfold gt at hg;rw[hS,hx]at hg;simp at hg
 have hlt:lf m' t=lf m t-(x.2.1-(ai m t).2.1):=by unfold lf;rw[hS,hl];omega
 have hlU:∀U:Int,0<=U->U≠t->lf m' U=lf m U:=fun U u0 q=>by unfold lf;rw[hO U u0 q]
 have zE:∀U:Int,0<=U->U≠t->(lJ m' U↔lJ m U):=fun U u0 q=>by unfold lJ bx;rw[hO U u0 q,G.mem,ha]
 have hsU:∀U:Int,0<=U->U≠t->(pK m' U↔pK m U):=fun U u0 q=>by unfold pK bx gt;rw[zE U u0 q,hO U u0 q,G.mem,ha]
 have hYt:Yv m' t<=Yv m t:=by
  unfold Yv;rw[hlt,o6 UI];have:=nR (lJ m t);rcases he with e | ⟨e,e2,e3⟩
  .omega
  .rw[o6 (fun z:lJ m t=>by have:=z.2;omega)];omega
 have KB:∀U:Int,0<=U->U≠t->Yv m' U=Yv m U:=fun U u0 q=>by unfold Yv;rw[hlU U u0 q,xQ (zE U u0 q)]
 refine⟨?_,fun U u0 u1 hU=>?_⟩
 .unfold AA;rw[G.n,o6 vL,hlt,Ij (f:=Yv m') (g:=Yv m) fun V a b q=>KB V a q];have:=nR (pK m t);rcases he with e | ⟨e,e2,e3⟩
  .omega
  .rw[vY (show pK m t from .inl ⟨e2,e3⟩)];omega
 .unfold AA;rw[G.n,xQ (hsU U u0 hU),hlU U u0 hU];have:=JM (n:=m.2.1.length) (T:=U) (f:=Yv m') (g:=Yv m) fun V a b _=>by
   by_cases q:V=t
   .rw[q];exact hYt
   .exact kC (KB V a q)
  omega
theorem alc(hx:x=ai m t)(hs:(ai m t).2.2.2.2.1≠[])(h1:(au (ai m t)).2.1=(aq m.1 (au (ai m t)).1).1)(h2:(aq m.1 (au (ai m t)).1).2.1=1)
  (h3:∀i:Int,0<=i->i<(aq m.1 (au (ai m t)).1).2.2.1.length->wd m.1 (qi (aq m.1 (au (ai m t)).1).2.2.1 i).1=dN (au (ai m t)).1 (aq m.1 (au (ai m t)).1).1)
  (ha:a=bJ m.1 (au (ai m t)).1 ((aq m.1 (au (ai m t)).1).1,2,(aq m.1 (au (ai m t)).1).2.2)):∀U:Int,0<=U->U<m.2.1.length->AA m' U<=AA m U:=by
 have mu:=I.mem.dy;have T:=I.th t t0 t1;have H:=T.d6 _ (mK hs);have hO:∀U:Int,0<=U->ai m' U=ai m U:=fun U u0=>by
  rw[G.ai U u0];by_cases q:U=t
  .rw[aj q,hx,q]
  .rw[af q]
 have w0:=H.t.1;have w1:=H.t.2;clear H;generalize (au (ai m t)).1=u at *;have hd:∀v:Int,0<=v->aq a v=if v=u then ((aq m.1 u).1,2,(aq m.1 u).2.2) else aq m.1 v:=fun v v0=>by rw[ha];exact n7 ⟨w0,by omega⟩ v0
 have hown:∀U:Int,0<=U->(bx m' U↔bx m U):=fun U u0=>by unfold bx;rw[hO U u0]
 have ou:bx m u:=I.mem.jP u w0 w1 h2;have hl:∀U:Int,0<=U->lf m' U=lf m U:=fun U u0=>by unfold lf;rw[hO U u0]
 have hyu:lJ m' u:=⟨(hown u w0).2 ou,by rw[G.mem,hd u w0,aj rfl]⟩
 have hnu:¬ lJ m u:=fun z=>by have:=z.2;omega
 have zE:∀U:Int,0<=U->U≠u->(lJ m' U↔lJ m U):=fun U u0 q=>by unfold lJ;rw[hown U u0,G.mem,hd U u0,af q]
 have hYu:Yv m' u+1<=Yv m u:=by unfold Yv;rw[hl u w0,vY hyu,o6 hnu];omega
 have KB:∀U:Int,0<=U->U≠u->Yv m' U=Yv m U:=fun U u0 q=>by unfold Yv;rw[hl U u0,xQ (zE U u0 q)]
 intro U u0 u1;unfold AA;rw[G.n,hl U u0];by_cases q:U=u
 .have e1:¬ pK m' U:=by
   rintro(z | ⟨z,_⟩)
   .have:=z.2;rw[G.mem,hd U u0,aj q]at this;dsimp only at this;omega
   .exact z (q ▸ hyu)
  rw[o6 e1,Ij (f:=Yv m') (g:=Yv m) fun V b _ d=>KB V b (by rw[<-q];exact d)];have:=nR (pK m U);omega
 .have e1:=Bw (n:=m.2.1.length) I.n.2 (T:=U) (V:=u) (d:=1) (f:=Yv m') (g:=Yv m) w0 w1 (fun z=>q z.symm) hYu (fun V b _ _ d=>kC (KB V b d));have:=nR (pK m U);have:=nR (pK m' U);omega
theorem ak7(hx:x=ai m t)(hs:(ai m t).2.2.2.2.1≠[])(h2:(aq m.1 (au (ai m t)).1).2.1=1)(Eg:bad m.1 (gt m (au (ai m t)).1))
  (ha:a=bJ m.1 (au (ai m t)).1 ((aq m.1 (au (ai m t)).1).1,3,(aq m.1 (au (ai m t)).1).2.2)) (hv:∀q:Int,0<=q->q<20->fZ a q=fZ m.1 q):∀U:Int,0<=U->U<m.2.1.length->AA m' U=AA m U:=by
 have mu:=I.mem.dy;have T:=I.th t t0 t1;have H:=T.d6 _ (mK hs);have hO:∀U:Int,0<=U->ai m' U=ai m U:=fun U u0=>by
  rw[G.ai U u0];by_cases q:U=t
  .rw[aj q,hx,q]
  .rw[af q]
 have w0:=H.t.1;have w1:=H.t.2;clear H;generalize (au (ai m t)).1=u at *;have hd:∀v:Int,0<=v->aq a v=if v=u then ((aq m.1 u).1,3,(aq m.1 u).2.2) else aq m.1 v:=fun v v0=>by rw[ha];exact n7 ⟨w0,by omega⟩ v0
 have hown:∀U:Int,0<=U->(bx m' U↔bx m U):=fun U u0=>by unfold bx;rw[hO U u0]
 have ou:bx m u:=I.mem.jP u w0 w1 h2;have zE:∀U:Int,0<=U->U<m.2.1.length->(lJ m' U↔lJ m U):=fun U u0 u1=>by
  unfold lJ;rw[hown U u0,G.mem,hd U u0];by_cases q:U=u
  .rw[aj q,q];exact⟨fun z=>by have:=z.2;dsimp only at this;omega,fun z=>by have:=z.2;omega⟩
  .rw[af q]
 intro U u0 u1;refine FD I t0 t1 K G (fun U u0 u1=>by unfold lf;rw[hO U u0]) zE (fun U u0 u1=>?_) u0 u1;by_cases q:U=u
 .subst q;refine⟨fun _=>.inr ⟨fun z=>by have:=z.2;omega,Eg⟩,fun _=>.inl ⟨(hown U u0).2 ou,by rw[G.mem,hd U u0,aj rfl]⟩⟩
 .unfold pK;have e:gt m' U=gt m U:=by unfold gt;rw[hO U u0]
  rw[zE U u0 u1,hown U u0,G.mem,hd U u0,af q,e,JD hv (BI I u0 u1).1]
theorem alb{q:Int}{E:List ez}{r:fD}(hs:(ai m t).2.2.2.2.1=[])(hq:0<=q/\q<20)(ha:a=bJ m.1 t ((aq m.1 t).1+1,1,E,r,()))(hv:∀p:Int,0<=p->p<20->fZ a p=fZ m.1 p)
  (hx:x=qY (rR (ai m t) ((ai m t).2.2.2.1++[(q,fZ m.1 q,())])) (t,(aq m.1 t).1+1,0,0,())):∀U:Int,0<=U->U<m.2.1.length->AA m' U=AA m U:=by
 have mu:=I.mem.dy;have hO:=Az I t0 t1 K G;have hS:=wo I t0 t1 K G;have hd:∀v:Int,0<=v->aq a v=if v=t then ((aq m.1 t).1+1,1,E,r,()) else aq m.1 v:=fun v v0=>by rw[ha];exact n7 ⟨t0,by omega⟩ v0
 have hno:¬ bx m t:=by unfold bx;rw[zT hs];simp
 have UI:¬ lJ m' t:=fun z=>by have:=z.2;rw[G.mem,hd t t0,aj rfl]at this;dsimp only at this;omega
 have hnm:¬ lJ m t:=fun z=>hno z.1;have zE:∀U:Int,0<=U->U<m.2.1.length->(lJ m' U↔lJ m U):=fun U u0 u1=>by
  by_cases w:U=t
  .rw[w];exact⟨fun z=>absurd z UI,fun z=>absurd z hnm⟩
  .unfold lJ bx;rw[hO U u0 w,G.mem,hd U u0,af w]
 intro U u0 u1;refine FD I t0 t1 K G (fun U u0 u1=>?_) zE (fun U u0 u1=>?_) u0 u1
 .unfold lf;by_cases w:U=t
  .rw[w,hS,hx];rfl
  .rw[hO U u0 w]
 .have hr:=(BI I u0 u1).1;by_cases w:U=t
  .subst w;have hb:bad m'.1 (gt m' U)↔bad m.1 (gt m U):=by
    have e:gt m' U=gt m U++[(q,fZ m.1 q,())]:=by unfold gt;rw[hS,hx];rfl
    rw[e,G.mem];refine(JD hv fun g hg=>?_).trans (RY q);rcases bN.1 hg with h | h
    .exact hr g h
    .rw[d9]at h;rw[h];exact hq
   refine⟨fun z=>?_,fun z=>?_⟩
   .rcases z with z | z
    .have:=z.2;rw[G.mem,hd U u0,aj rfl]at this;dsimp only at this;omega
    .exact .inr ⟨hnm,hb.1 z.2⟩
   .rcases z with z | z
    .exact absurd z.1 hno
    .exact .inr ⟨UI,hb.2 z.2⟩
  .unfold pK bx;have e:gt m' U=gt m U:=by unfold gt;rw[hO U u0 w]
   rw[zE U u0 u1,hO U u0 w,G.mem,hd U u0,af w,e,JD hv hr]
theorem x9:∀U:Int,0<=U->U<m.2.1.length->AA m' U<=AA m U:=by
 have T:=I.th t t0 t1;have hK:=K;have one:AA m' t+1<=AA m t/\(∀U:Int,0<=U->U<m.2.1.length->U≠t->AA m' U<=AA m U)->∀U:Int,0<=U->U<m.2.1.length->AA m' U<=AA m U:=fun h U u0 u1=>by
  by_cases q:U=t
  .rw[q];omega
  .exact h.2 U u0 u1 q
 cases K with
 | zl h=>intro U u0 u1;exact kC (CC I t0 t1 hK G (fun _ _ _=>rfl) (fun _ _ _=>rfl) ⟨rfl,rfl,rfl,.inl rfl⟩ u0 u1)
 | got q ho hs hq=>intro U u0 u1;exact kC (CC I t0 t1 hK G (fun _ _ _=>rfl) (fun _ _ _=>rfl) ⟨rfl,rfl,rfl,.inr ⟨q,hq.1,hq.2,rfl⟩⟩ u0 u1)
 | push v p ho hs v0 v1 vt vo p0 p1 hw=>intro U u0 u1;exact kC (CC I t0 t1 hK G (fun _ _ _=>rfl) (fun _ _ _=>rfl) ⟨HM (hs.imp id fun⟨k,e,e2,_⟩=>⟨k,e,e2⟩) vt,rfl,rfl,.inl rfl⟩ u0 u1)
 | qI hs hne h=>intro U u0 u1;exact kC (CC I t0 t1 hK G (fun _ _ _=>rfl) (fun _ _ _=>rfl) ⟨HT T hs hne,rfl,rfl,.inl rfl⟩ u0 u1)
 | mD hs h1 h2=>intro U u0 u1;exact kC (CC I t0 t1 hK G (fun _ _ _=>rfl) (fun _ _ _=>rfl) ⟨JC T hs i7,rfl,rfl,.inl rfl⟩ u0 u1)
 | pV hs h1 h2=>intro U u0 u1;exact kC (CC I t0 t1 hK G (fun _ _ _=>rfl) (fun _ _ _=>rfl) ⟨JC T hs i7,rfl,rfl,.inl rfl⟩ u0 u1)
 | swap v hs h1 h2 hne vh v0 v1 vo f_=>intro U u0 u1;exact kC (CC I t0 t1 hK G (fun _ _ _=>rfl) (fun _ _ _=>rfl) ⟨Hj T hs hne vo,rfl,rfl,.inl rfl⟩ u0 u1)
 | lay p hs h1 h2 p0 p1 hw hv=>intro U u0 u1;exact kC (CC I t0 t1 hK G hv (fun _ _ _=>rfl) ⟨JC T hs i7,rfl,rfl,.inl rfl⟩ u0 u1)
 | oQ p y hs h1 h2 p0 p1 hw hv=>intro U u0 u1;exact kC (CC I t0 t1 hK G hv (fun _ _ _=>rfl) ⟨JC T hs i7,rfl,rfl,.inl rfl⟩ u0 u1)
 | yes hs h1 h2 h3=>exact alc I t0 t1 hK G rfl hs h1 h2 h3 rfl
 | no i hs h1 h2 i0 i1 hb hw hv hval=>have H:=T.d6 _ (mK hs);intro U u0 u1;exact kC (ak7 I t0 t1 hK G rfl hs h2 (als I H.t.1 H.t.2 h2 i0 i1 hw hv) rfl hval U u0 u1)
 | new q E r ho hs hv hq=>intro U u0 u1;exact kC (alb I t0 t1 hK G hs hq rfl hv rfl U u0 u1)
 | now ho hs=>exact one (CB I t0 t1 hK G rfl rfl rfl (.inl rfl))
 | pU hs h1 h2 h3=>exact one (CB I t0 t1 hK G rfl rfl rfl (.inl rfl))
 | CR hs h1 h2 h3=>exact one (CB I t0 t1 hK G rfl rfl rfl (.inr ⟨rfl,(JJ T hs h1).1,h2⟩))
end
theorem alJ{m m':aF}{T U:Int}(ha:AA m' U<=AA m U)(hd:qX m' T U->qX m T U)(hc:qW m T U->qW m' T U)(hh:kR m T U<=kR m' T U):QQ m' T U<=QQ m T U:=by unfold QQ;have:=Cq hd;have:=Cq hc;omega
theorem Bm{m:aF}(I:Inv m){T:Int}{h:gx}(H:bW m.1 m.2.1.length h):1<=m9 m T h/\m9 m T h<=28/\(oa m h/\(aq m.1 h.1).2.1=1->m9 m T h<=19):=by
 unfold m9;have:=H.rY;have:=H.fin;have:=nR (Ax m T h.1);split
 .exact⟨by omega,by omega,fun _=>by omega⟩
 .next q=>exact⟨by omega,by omega,fun z=>absurd z q⟩
section
variable {m m':aF} (I:Inv m) {t:Int} (t0:0<=t) (t1:t<m.2.1.length) {a:aS} {x:cU} (K:Kind m t a x) (G:jL m m' t a x)
include I t0 t1 K G
theorem Cr{U:Int}(u0:0<=U)(hU:U≠t):bx m' U↔bx m U:=by unfold bx;rw[Az I t0 t1 K G U u0 hU]
theorem JE{w:Int}(w0:0<=w)(w1:w<m.2.1.length):(aq a w).1=(aq m.1 w).1\/(w=t/\(aq a w).1=(aq m.1 w).1+1/\¬ bx m t):=by
 have mu:=I.mem.dy;have T:=I.th t t0 t1;cases K with
 | new q E r ho hs hv=>
  rw[n7 ⟨t0,by omega⟩ w0];by_cases z:w=t
  .rw[aj z,z];exact .inr ⟨rfl,rfl,by unfold bx;rw[zT hs];simp⟩
  .rw[af z];exact .inl rfl
 | yes hs h1 h2 h3=>
  have H:=T.d6 _ (mK hs);rw[n7 ⟨H.t.1,by have:=H.t.2;omega⟩ w0];by_cases z:w=(au (ai m t)).1
  .rw[aj z,z];exact .inl rfl
  .rw[af z];exact .inl rfl
 | no i hs h1 h2 i0 i1 hb hw hv hval=>
  have H:=T.d6 _ (mK hs);rw[n7 ⟨H.t.1,by have:=H.t.2;omega⟩ w0];by_cases z:w=(au (ai m t)).1
  .rw[aj z,z];exact .inl rfl
  .rw[af z];exact .inl rfl
 | _=>exact .inl rfl
theorem Qp{w:Int}(w0:0<=w)(w1:w<m.2.1.length)(hs:(aq m.1 w).2.1≠1)(hq:(aq a w).1=(aq m.1 w).1)(h:vr a w):vr m.1 w:=by
 have hlen:=I.mem.len;obtain⟨p,p0,p1,e⟩:=h;rw[hq]at e;refine⟨p,p0,p1,?_⟩;cases K with
 | lay q lS h1 h2 q0 q1 hw hv=>
  rw[Fm (by omega) p0]at e;by_cases z:p=q
  .rw[aj z]at e;exact absurd h2 ((tI e).1 ▸ hs)
  .rw[af z]at e;exact e
 | oQ q y lS h1 h2 q0 q1 hw hv=>
  rw[Fm (by omega) p0]at e;by_cases z:p=q
  .rw[aj z]at e;exact absurd e (vk rfl w0)
  .rw[af z]at e;exact e
 | _=>exact e
theorem MU{w:Int}(w0:0<=w)(w1:w<m.2.1.length)(hs:(aq m.1 w).2.1≠1)(hown:bx m w):(aq a w).2.1≠1:=fun z=>by
 rcases A4 I t0 t1 K w0 w1 z with⟨rfl,e⟩ | ⟨_,e⟩
 .rcases JE I t0 t1 K G w0 w1 with q | ⟨_,_,q⟩
  .omega
  .exact q hown
 .exact hs e
theorem GN{h:gx}(H:bW m.1 m.2.1.length h)(ha:oa m' h):oa m h:=by
 obtain⟨h1,h2⟩:=ha;rw[G.mem]at h2;have hq:=H.seq.2;rcases JE I t0 t1 K G H.t.1 H.t.2 with q | ⟨_,q,_⟩
 .refine⟨?_,by omega⟩;by_cases z:h.1=t
  .rw[z]at h1 q⊢;have T:=I.th t t0 t1;unfold bx at h1⊢;rw[wo I t0 t1 K G]at h1;cases K with
   | zl=>exact h1
   | got=>exact h1
   | push v p ho hs v0 v1 vt vo p0 p1 hw=>rw[HM (hs.imp id fun⟨k,e,e2,_⟩=>⟨k,e,e2⟩) vt]at h1;exact h1
   | qI hs hne h=>rw[HT T hs hne]at h1;exact h1
   | mD hs tV h2=>rw[DA T hs]at h1;exact h1
   | pV hs tV h2=>rw[DA T hs]at h1;exact h1
   | lay p hs tV h2=>rw[DA T hs]at h1;exact h1
   | oQ p y hs tV h2=>rw[DA T hs]at h1;exact h1
   | swap v hs tV h2 hne vh v0 v1 vo f_=>rw[Hj T hs hne vo]at h1;exact h1
   | yes=>exact h1
   | no=>exact h1
   | new q' E r ho hs hv=>have mu:=I.mem.dy;rw[n7 ⟨t0,by omega⟩ t0,aj rfl]at q;dsimp only at q;omega
   | now=>simp[bC]at h1
   | pU=>simp[bC]at h1
   | CR=>simp[bC]at h1
  .exact(Cr I t0 t1 K G H.t.1 z).1 h1
 .omega
theorem alr{T:Int}{h:gx}(hT:0<=T/\T<m.2.1.length)(hne:h.1≠T)(H:bW m.1 m.2.1.length h):m9 m T h<=m9 m' T h:=by
 have hr:=(Bm (T:=T) I H).2.2;have hf:=H.fin;by_cases c:oa m' h/\(aq m'.1 h.1).2.1=1
 .have c1:=GN I t0 t1 K G H c.1;have c2:=c.2;rw[G.mem]at c2;have c3:(aq m.1 h.1).2.1=1:=by
   rcases A4 I t0 t1 K H.t.1 H.t.2 c2 with⟨_,z⟩ | ⟨_,z⟩
   .have:=c.1.2;rw[G.mem]at this;have:=H.seq.2;omega
   .exact z
  unfold m9;rw[aj c,aj ⟨c1,c3⟩];have:ind (Ax m T h.1)<=ind (Ax m' T h.1):=Cq fun⟨C,a0,a1,n1,n2,s⟩=>⟨C,a0,by rw[G.n];exact a1,n1,n2,by rw[G.mem];exact Ub I t0 t1 K a0 a1 H.t.1 H.t.2 n2 c3 c2 s⟩
  omega
 .by_cases d:oa m h/\(aq m.1 h.1).2.1=1
  .have:=hr d;unfold m9 at this⊢;rw[af c];omega
  .unfold m9;rw[af c,af d];exact eD _
theorem HH{T:Int}{h:gx}(hT:0<=T/\T<m.2.1.length)(e:lQ (ai m T) T=some h):bW m.1 m.2.1.length h/\h.1≠T:=by
 unfold lQ at e;split at e
 .cases e
 .next q=>
  split at e
  .cases e
  .next q2=>cases e;exact⟨(I.th T hT.1 hT.2).d6 _ (mK q),q2⟩
theorem acC(ho:bx m t)(hn:¬ bx m' t):AA m' t+1<=AA m t:=by
 have T:=I.th t t0 t1;have hK:=K;unfold bx at ho hn;rw[wo I t0 t1 K G]at hn;cases K with
 | zl=>exact absurd ho hn
 | got=>exact absurd ho hn
 | push v p _ hs v0 v1 vt vo p0 p1 hw=>rw[HM (hs.imp id fun⟨k,e,e2,_⟩=>⟨k,e,e2⟩) vt]at hn;exact absurd ho hn
 | qI hs hne h=>rw[HT T hs hne]at hn;exact absurd ho hn
 | mD hs tV h2=>rw[DA T hs]at hn;exact absurd ho hn
 | pV hs tV h2=>rw[DA T hs]at hn;exact absurd ho hn
 | lay p hs tV h2=>rw[DA T hs]at hn;exact absurd ho hn
 | oQ p y hs tV h2=>rw[DA T hs]at hn;exact absurd ho hn
 | swap v hs tV h2 hne vh v0 v1 vo f_=>rw[Hj T hs hne vo]at hn;exact absurd ho hn
 | yes=>exact absurd ho hn
 | no=>exact absurd ho hn
 | new q' E r _ hs hv=>rw[zT hs]at ho;cases ho
 | now _ hs=>exact(CB I t0 t1 hK G rfl rfl rfl (.inl rfl)).1
 | pU hs h1 h2 h3=>exact(CB I t0 t1 hK G rfl rfl rfl (.inl rfl)).1
 | CR hs h1 h2 h3=>exact(CB I t0 t1 hK G rfl rfl rfl (.inr ⟨rfl,(JJ T hs h1).1,h2⟩)).1
theorem ade{T U:Int}(hT:0<=T/\T<m.2.1.length)(vJ:T≠t)(u0:0<=U)(u1:U<m.2.1.length)(hU:U≠T):QQ m' T U<=QQ m T U:=by
 have fM:=Az I t0 t1 K G T hT.1 vJ;have hA:=x9 I t0 t1 K G U u0 u1;have hh:kR m T U<=kR m' T U:=by
  unfold kR;rw[fM];cases e:lQ (ai m T) T with
  | none=>exact eD _
  | some h=>
   obtain⟨H,hne⟩:=HH I t0 t1 K G hT e;dsimp only;split
   .exact alr I t0 t1 K G hT hne H
   .exact eD _
 have eS:wk m' T U->wk m T U:=fun⟨h,e,e2,e3⟩=>by
  rw[fM]at e;exact⟨h,e,e2,GN I t0 t1 K G (HH I t0 t1 K G hT e).1 e3⟩
 -- zb try of U stays,or ends
 by_cases hend:bx m U/\¬ bx m' U
 .have WI:U=t:=by
   by_cases q:U=t
   .exact q
   .exact absurd ((Cr I t0 t1 K G u0 q).2 hend.1) hend.2
  have hA1:AA m' U+1<=AA m U:=by rw[WI];exact acC I t0 t1 K G (WI ▸ hend.1) (WI ▸ hend.2)
  have KH:¬ qW m' T U:=fun z=>hend.2 z.1;unfold QQ;rw[o6 KH];have b1:=nR (qX m' T U);have b2:=nR (qW m T U);have b3:=nR (qX m T U);by_cases hp:wk m T U
  .rw[o6 (fun z:qW m T U=>z.2.2.2 hp)];omega
  .have hd:qX m' T U->qX m T U:=fun⟨h,e,e2,e3⟩=>by
    rw[fM]at e;exact⟨h,e,e2,fun z=>hp ⟨h,e,e2,z⟩⟩
   have:=Cq hd;omega
 .have hkeep:bx m U->bx m' U:=fun z=>by
   by_cases q:bx m' U
   .exact q
   .exact absurd ⟨z,q⟩ hend
  refine alJ hA (fun⟨h,e,e2,e3⟩=>?_) (fun⟨c1,c2,c3,c4⟩=>?_) hh
  .rw[fM]at e;have H:=(HH I t0 t1 K G hT e).1;refine⟨h,e,e2,fun z=>e3 ⟨by rw[e2];exact hkeep (e2 ▸ z.1),?_⟩⟩;rw[G.mem];rcases JE I t0 t1 K G H.t.1 H.t.2 with q | ⟨q1,_,q3⟩
   .rw[q];exact z.2
   .exact absurd (q1 ▸ z.1) q3
  .have hs:=MU I t0 t1 K G u0 u1 c2 c1;have hq:(aq a U).1=(aq m.1 U).1:=by
    rcases JE I t0 t1 K G u0 u1 with q | ⟨q1,_,q3⟩
    .exact q
    .exact absurd (q1 ▸ c1) q3
   exact⟨hkeep c1,by rw[G.mem];exact hs,fun z=>c3 (Qp I t0 t1 K G u0 u1 c2 hq (by rw[<-G.mem];exact z)),fun z=>c4 (eS z)⟩
theorem ada{T:Int}(hT:0<=T/\T<m.2.1.length)(vJ:T≠t):PP m' T<=PP m T:=by
 have fM:=Az I t0 t1 K G T hT.1 vJ;have hA:=x9 I t0 t1 K G T hT.1 hT.2;have hs:ind ((aq m.1 T).2.1≠1)<=ind ((aq m'.1 T).2.1≠1):=Cq fun z=>by
  rw[G.mem];intro q;rcases A4 I t0 t1 K hT.1 hT.2 q with⟨w,_⟩ | ⟨_,w⟩
  .exact vJ w
  .exact z w
 have ho:oZ m T<=oZ m' T:=by
  unfold oZ;rw[fM];cases (ai m T).2.2.2.2.1 with
  | nil=>exact eD _
  | cons h r=>
   dsimp only;split
   .omega
   .exact eD _
 unfold PP j9 gt;rw[fM];omega
theorem abJ{T:Int}(hT:0<=T/\T<m.2.1.length)(vJ:T≠t):iW m' T<=iW m T:=by unfold iW;rw[G.n];have:=ada I t0 t1 K G hT vJ;have:=JM (n:=m.2.1.length) (T:=T) (f:=QQ m' T) (g:=QQ m T) fun U a b c=>ade I t0 t1 K G hT vJ a b c;omega
end
theorem Cg{m:aF}(I:Inv m){U:Int}(u0:0<=U)(u1:U<m.2.1.length):0<=lf m U/\(bx m U->1<=lf m U)/\((ai m U).2.2.1=true->1<=lf m U):=by have T:=I.th U u0 u1;have:=T.pc;unfold lf;exact⟨by omega,fun h=>by have:=T.on (T.o3 h);omega,fun h=>by have:=T.on h;omega⟩
theorem Nt{m:aF}(I:Inv m){U:Int}(u0:0<=U)(u1:U<m.2.1.length):lf m U<=AA m U:=by
 have h:=Qj (n:=m.2.1.length) (T:=U) (f:=Yv m) fun V a b _=>by
  have:=Cg I a b;unfold Yv;by_cases q:lJ m V
  .have:=this.2.1 q.1;rw[vY q];omega
  .rw[o6 q];omega
 have:=nR (pK m U);unfold AA;omega
theorem Nl{m:aF}(I:Inv m){T:Int}(hT:0<=T/\T<m.2.1.length):0<=j9 m T/\j9 m T<=27/\((ai m T).2.2.1=false->j9 m T=0):=by
 have X:=I.th T hT.1 hT.2;have hg:=(BI I hT.1 hT.2).2;have hi:=nR ((ai m T).2.2.1=true);have ha:0<=oZ m T/\oZ m T<=18:=by
  unfold oZ;have hh:=X.d6;revert hh;cases (ai m T).2.2.2.2.1 with
  | nil=>intro _;exact⟨eD _,show(0:Int)<=18 by decide⟩
  | cons h r=>intro hh;have H:=hh h e8;have:=H.rY;have:=H.fin;have:=nR ((aq m.1 T).2.1≠1);dsimp only;split<;>omega
 refine⟨by unfold j9;omega,by unfold j9;omega,fun h=>?_⟩;have z:=X.off h;unfold j9 oZ gt;rw[z.1,z.2,o6 (fun q=>by rw[h]at q;cases q)];rfl
theorem abN{m:aF}(I:Inv m){T:Int}(hT:0<=T/\T<m.2.1.length):0<=PP m T:=by
 have h1:=Nl I hT;have h2:=Nt I hT.1 hT.2;have h3:=Cg I hT.1 hT.2;unfold PP;cases h:(ai m T).2.2.1 with
 | true=>have:=h3.2.2 h;omega
 | false=>have:=h1.2.2 h;omega
theorem abO{m:aF}(I:Inv m){T U:Int}(hT:0<=T/\T<m.2.1.length)(u0:0<=U)(u1:U<m.2.1.length):0<=QQ m T U:=by
 have h2:=Nt I u0 u1;have h3:=Cg I u0 u1;have b1:=nR (qX m T U);have hc:ind (qW m T U)<=AA m U:=by
  by_cases q:qW m T U
  .have:=h3.2.1 q.1;rw[vY q];omega
  .rw[o6 q];omega
 have hp:kR m T U<=28/\(kR m T U<=0\/qX m T U\/wk m T U):=by
  unfold kR;cases e:lQ (ai m T) T with
  | none=>exact⟨show(0:Int)<=28 by decide,.inl (eD _)⟩
  | some h=>
   have H:bW m.1 m.2.1.length h:=by
    unfold lQ at e;split at e
    .cases e
    .next q=>
     split at e
     .cases e
     .cases e;exact(I.th T hT.1 hT.2).d6 _ (mK q)
   dsimp only;split
   .next q=>
    refine⟨(Bm I H).2.1,.inr ?_⟩;by_cases z:oa m h
    .exact .inr ⟨h,e,q,z⟩
    .exact .inl ⟨h,e,q,z⟩
   .exact⟨by decide,.inl (eD _)⟩
 unfold QQ;rcases hp.2 with q | q | q
 .omega
 .rw[vY q];omega
 .rw[o6 (fun z:qW m T U=>z.2.2.2 q)];have:1<=lf m U:=by obtain⟨h,_,e,z⟩:=q;exact h3.2.1 (e ▸ z.1)
  omega
theorem abh{m:aF}(I:Inv m){T:Int}(hT:0<=T/\T<m.2.1.length):0<=iW m T:=by have:=abN I hT;have:=Qj (n:=m.2.1.length) (T:=T) (f:=QQ m T) fun U a b _=>abO I hT a b;unfold iW;omega
theorem vW{x:cU}{t:Int}(h:x.2.2.2.2.1=[]):lQ x t=none:=by unfold lQ;rw[aj h]
theorem yM{x:cU}{t:Int}(h:(au x).1=t):lQ x t=none:=by unfold lQ;rw[aj h];split<;>rfl
theorem zW{x:cU}{t:Int}(hs:x.2.2.2.2.1≠[])(h:(au x).1≠t):lQ x t=some (au x):=by unfold lQ;rw[af hs,af h]
theorem HO{x:cU}(hs:x.2.2.2.2.1≠[])(h':gx):au (ki x h')=h'/\(ki x h').2.2.2.2.1≠[]:=by
 have hl:0<x.2.2.2.2.1.length:=pF.2 hs;constructor
 .unfold au ki;dsimp only;rw[b8,qv (by rw[b8];omega),List.getElem_set_self]
 .unfold ki;dsimp only;intro e;have:=ew List.length e;rw[b8]at this;exact hs (lG.1 this)
theorem Mz(x:cU)(h':gx):au (qY x h')=h'/\(qY x h').2.2.2.2.1≠[]:=by
 constructor
 .unfold au qY;dsimp only;rw[qv (by simp)];simp
 .unfold qY;dsimp only;simp
section
variable {m m':aF} (I:Inv m) {t:Int} (t0:0<=t) (t1:t<m.2.1.length) {a:aS} {x:cU} (K:Kind m t a x) (G:jL m m' t a x)
include I t0 t1 K G
theorem Fk{U d:Int}(u0:0<=U)(u1:U<m.2.1.length)(hU:U≠t)(hd:qX m' t U->qX m t U)(hh:wk m' t U->wk m t U\/vr m.1 U)(hp:kR m t U+d<=kR m' t U):QQ m' t U+d<=QQ m t U:=by
 have hA:=x9 I t0 t1 K G U u0 u1;have h1:=Cq hd;have h2:ind (qW m t U)<=ind (qW m' t U):=Cq fun⟨c1,c2,c3,c4⟩=>by
  have hs:=MU I t0 t1 K G u0 u1 c2 c1;have hq:(aq a U).1=(aq m.1 U).1:=by
   rcases JE I t0 t1 K G u0 u1 with q | ⟨q1,_,q3⟩
   .exact q
   .exact absurd (q1 ▸ c1) q3
  exact⟨(Cr I t0 t1 K G u0 hU).2 c1,by rw[G.mem];exact hs,fun z=>c3 (Qp I t0 t1 K G u0 u1 c2 hq (by rw[<-G.mem];exact z)),fun z=>(hh z).elim c4 c3⟩
 unfold QQ;omega
theorem Cz(h1:lQ (ai m t) t=none)(h2:lQ x t=none):fH m.2.1.length t (QQ m' t)<=fH m.2.1.length t (QQ m t):=by have hS:=wo I t0 t1 K G;refine JM fun U u0 u1 hU=>?_;have:=Fk I t0 t1 K G (d:=0) u0 u1 hU (fun⟨h,e,_⟩=>by rw[hS,h2]at e;cases e) (fun⟨h,e,_⟩=>by rw[hS,h2]at e;cases e) (by unfold kR;rw[hS,h1,h2];exact eD _);omega
theorem Fw{h h':gx}(H:bW m.1 m.2.1.length h)(hne:h.1≠t)(h1:lQ (ai m t) t=some h)(h2:lQ x t=some h')(e1:h'.1=h.1)(e2:h'.2.1=h.2.1)(tv:m9 m t h+1<=m9 m' t h') :
  fH m.2.1.length t (QQ m' t)+1<=fH m.2.1.length t (QQ m t):=by
 have hS:=wo I t0 t1 K G;have nN:oa m' h'->oa m h:=fun z=>GN I t0 t1 K G H (by unfold oa at z⊢;rw[e1,e2]at z;exact z);have La:oa m h->oa m' h':=fun z=>by
  refine⟨by rw[e1];exact(Cr I t0 t1 K G H.t.1 hne).2 z.1,?_⟩;rw[e1,e2,G.mem];rcases JE I t0 t1 K G H.t.1 H.t.2 with q | ⟨q1,_,q3⟩
  .rw[q];exact z.2
  .exact absurd q1 hne
 have one:∀{U d:Int},0<=U->U<m.2.1.length->U≠t->(kR m t U+d<=kR m' t U)->QQ m' t U+d<=QQ m t U:=fun {U d} u0 u1 hU hp=>
  Fk I t0 t1 K G u0 u1 hU (fun⟨k,e,e3,e4⟩=>by
   rw[hS,h2]at e;cases e;exact⟨h,h1,by rw[<-e1];exact e3,fun z=>e4 (La z)⟩) (fun⟨k,e,e3,e4⟩=>by
   rw[hS,h2]at e;cases e;exact .inl ⟨h,h1,by rw[<-e1];exact e3,nN e4⟩) hp
 refine Bw I.n.2 H.t.1 H.t.2 hne ?_ fun U u0 u1 hU Jf=>?_
 .refine one H.t.1 H.t.2 hne ?_;unfold kR;rw[hS,h1,h2];dsimp only;rw[aj rfl,aj e1];exact tv
 .have:=one (d:=0) u0 u1 hU (by
   unfold kR;rw[hS,h1,h2];dsimp only;rw[af (fun z=>Jf z.symm),af (fun z=>Jf (by rw[<-z,e1]))];exact eD _)
  omega
theorem ak0(hx:x=jh (ai m t))(ha:a=m.1)(hs:(ai m t).2.2.2.2.1≠[])(hne:(au (ai m t)).1≠t)(hc:(au (ai m t)).2.1=(aq m.1 (au (ai m t)).1).1->(aq m.1 (au (ai m t)).1).2.1≠1/\¬ vr m.1 (au (ai m t)).1) :
  fH m.2.1.length t (QQ m' t)+1<=fH m.2.1.length t (QQ m t):=by
 have hS:=wo I t0 t1 K G;have T:=I.th t t0 t1;have H:=T.d6 _ (mK hs);have h1:=zW hs hne;have h2:lQ x t=none:=by
  rw[hx];rcases T.st with z | ⟨q,z⟩ | ⟨q,q',z,zt⟩
  .exact absurd z hs
  .exact vW (by unfold jh;dsimp only;rw[z];rfl)
  .exact yM (by unfold au jh;dsimp only;rw[z];exact zt)
 generalize au (ai m t)=h at *;have nd:∀U,¬ qX m' t U:=fun U ⟨k,e,_⟩=>by rw[hS,h2]at e;cases e
 have nh:∀U,¬ wk m' t U:=fun U ⟨k,e,_⟩=>by rw[hS,h2]at e;cases e
 have np:∀U,kR m' t U=0:=fun U=>by unfold kR;rw[hS,h2]
 refine Bw I.n.2 H.t.1 H.t.2 hne ?_ fun U u0 u1 hU Jf=>?_
 .have hA:=x9 I t0 t1 K G h.1 H.t.1 H.t.2;have hr:=(Bm (T:=t) I H).2.1;have hp:kR m t h.1=m9 m t h:=by unfold kR;rw[h1];dsimp only;rw[aj rfl]
  unfold QQ;rw[np,o6 (nd h.1),hp];have b1:=nR (qW m' t h.1);by_cases z:oa m h
  .have e1:¬ qW m t h.1:=fun w=>w.2.2.2 ⟨h,h1,rfl,z⟩;obtain⟨w1,w2⟩:=hc z.2;have e2:qW m' t h.1:=⟨(Cr I t0 t1 K G H.t.1 hne).2 z.1,by rw[G.mem,ha];exact w1,by rw[G.mem,ha];exact w2,nh _⟩
   have b2:=nR (qX m t h.1);rw[o6 e1,vY e2];omega
  .have e1:qX m t h.1:=⟨h,h1,rfl,z⟩
   have e2:ind (qW m t h.1)<=ind (qW m' t h.1):=Cq fun⟨c1,c2,c3,c4⟩=>⟨(Cr I t0 t1 K G H.t.1 hne).2 c1,by rw[G.mem,ha];exact c2,by rw[G.mem,ha];exact c3,nh _⟩
   rw[vY e1];omega
 .have:=Fk I t0 t1 K G (d:=0) u0 u1 hU (fun z=>absurd z (nd U)) (fun z=>absurd z (nh U)) (by
   rw[np];unfold kR;rw[h1];dsimp only;rw[af (fun z=>Jf z.symm)];exact eD _)
  omega
theorem akY{v p:Int}(h1:lQ (ai m t) t=none)(hx:lQ x t=some (v,(aq m.1 v).1,0,0,()))(ha:a=m.1)(v0:0<=v)(v1:v<m.2.1.length)(vt:v≠t)(vo:bx m v)(p0:0<=p)(p1:p<20)(hw:wd m.1 p=dN v (aq m.1 v).1) :
  fH m.2.1.length t (QQ m' t)+1<=fH m.2.1.length t (QQ m t):=by
 have hS:=wo I t0 t1 K G;have nN:oa m' (v,(aq m.1 v).1,0,0,()):=⟨(Cr I t0 t1 K G v0 vt).2 vo,by rw[G.mem,ha]⟩
 have nd:∀U,¬ qX m' t U:=fun U ⟨k,e,_,z⟩=>by rw[hS,hx]at e;cases e;exact z nN
 have hh:∀U,wk m' t U->wk m t U\/vr m.1 U:=fun U ⟨k,e,e2,z⟩=>by
  rw[hS,hx]at e;cases e;dsimp only at e2;rw[<-e2];exact .inr ⟨p,p0,p1,hw⟩
 have np:∀U,kR m t U=0:=fun U=>by unfold kR;rw[h1]
 have hv:1<=m9 m' t (v,(aq m.1 v).1,0,0,()):=by unfold m9;have:=nR (Ax m' t v);split<;>dsimp only<;>omega
 refine Bw I.n.2 v0 v1 vt ?_ fun U u0 u1 hU Jf=>?_
 .refine Fk I t0 t1 K G v0 v1 vt (fun z=>absurd z (nd v)) (hh v) ?_;rw[np];unfold kR;rw[hS,hx];dsimp only;rw[aj rfl];omega
 .have:=Fk I t0 t1 K G (d:=0) u0 u1 hU (fun z=>absurd z (nd U)) (hh U) (by
   rw[np];unfold kR;rw[hS,hx];dsimp only;rw[af (fun z=>Jf z.symm)];exact eD _)
  omega
end
theorem adn{n:Nat}(hn:n<=3){T V W d e:Int}{f g:Int->Int}(hT:0<=T/\T<n)(hV:0<=V/\V<n)(hW:0<=W/\W<n)(h1:V≠T)(h2:W≠T)(h3:V≠W)(a:f V+d<=g V)(b:f W+e<=g W):fH n T f+(d+e)<=fH n T g:=by
 have Xj:n=3:=by omega
 subst Xj;have t3:T=0\/T=1\/T=2:=by omega
 have v3:V=0\/V=1\/V=2:=by omega
 have w3:W=0\/W=1\/W=2:=by omega
 unfold fH;rcases t3 with rfl | rfl | rfl<;>rcases v3 with rfl | rfl | rfl<;>rcases w3 with rfl | rfl | rfl<;>first | (exfalso;omega) | (simp;omega)
theorem Nq{m:aF}(I:Inv m)(L:Live m){t v:Int}(t0:0<=t)(t1:t<m.2.1.length)(hs:(ai m t).2.2.2.2.1≠[])(h1:(au (ai m t)).2.1=(aq m.1 (au (ai m t)).1).1)(h2:(aq m.1 (au (ai m t)).1).2.1=1)
  (hne:(au (ai m t)).1≠t) (vo:bx m v) (f_:nU m.1 (au (ai m t)).1 v):v≠t:=by
 intro q;subst q;have T:=I.th v t0 t1;have H:=T.d6 _ (mK hs);rcases T.st with z | ⟨q,z⟩ | ⟨q,q',z,zt⟩
 .exact hs z
 .have:au (ai m v)=q:=by unfold au;rw[z];rfl
  rw[this]at hne;unfold bx bC at vo;rw[z]at vo;exact hne (by simpa using vo)
 .have e:au (ai m v)=q':=by unfold au;rw[z];rfl
  have l:=L v t0 t1 _ _ z;rw[<-e]at l;rcases l.2 h1 h2 with c | ⟨w,w0,w1,wu,wh,c1,c2⟩
  .exact UU I t0 t1 H.t.1 H.t.2 c f_ hne.symm
  .exact no3 I t0 t1 w0 w1 H.t.1 H.t.2 c1 c2 f_ wu.symm wh hne
noncomputable def iB(s:Int)(l:List gx)(T:Int):Int:=
 match l with
 | h::_=>if h.1=T then 1+h.2.2.1+ind (s≠1)+h.2.2.2.1 else 0
 | []=>0
theorem Br(m:aF)(T:Int):oZ m T=iB (aq m.1 T).2.1 (ai m T).2.2.2.2.1 T:=rfl
theorem I1(s:Int)(h:gx){T:Int}(e:h.1=T):iB s [h] T=1+h.2.2.1+ind (s≠1)+h.2.2.2.1:=aj e
theorem A9(s:Int)(h:gx)(r:List gx){T:Int}(e:h.1≠T):iB s (h::r) T=0:=af e
theorem Hi{m:aS}{n:Nat}{x:cU}{t:Int}(T:jv m n x t)(s:Int){h':gx}(hs:x.2.2.2.2.1≠[])(hne:(au x).1≠t)(Xn:h'.1≠t):iB s (ki x h').2.2.2.2.1 t=iB s x.2.2.2.2.1 t:=by
 unfold ki;dsimp only;rcases T.st with z | ⟨q,z⟩ | ⟨q,q',z,zt⟩
 .exact absurd z hs
 .have:au x=q:=by unfold au;rw[z];rfl
  rw[this]at hne;rw[z];show iB s [h'] t=iB s [q] t;rw[A9 s q [] hne,A9 s h' [] Xn]
 .rw[z];rfl
theorem acB{m:aS}{n:Nat}{x:cU}{t:Int}(T:jv m n x t)(s:Int)(hs:x.2.2.2.2.1≠[])(hne:(au x).1≠t):iB s (jh x).2.2.2.2.1 t=iB s x.2.2.2.2.1 t:=by
 unfold jh;dsimp only;rcases T.st with z | ⟨q,z⟩ | ⟨q,q',z,zt⟩
 .exact absurd z hs
 .have:au x=q:=by unfold au;rw[z];rfl
  rw[this]at hne;rw[z,A9 s q [] hne];rfl
 .rw[z];rfl
theorem HS{m:aF}(I:Inv m)(L:Live m){t:Int}(t0:0<=t)(t1:t<m.2.1.length)(hs:(ai m t).2.2.2.2.1≠[])(he:(au (ai m t)).1=t):(ai m t).2.2.2.2.1=[au (ai m t)]:=by
 rcases(I.th t t0 t1).st with z | ⟨q,z⟩ | ⟨q,q',z,zt⟩
 .exact absurd z hs
 .have:au (ai m t)=q:=by unfold au;rw[z];rfl
  rw[this,z]
 .have:au (ai m t)=q':=by unfold au;rw[z];rfl
  exact absurd (this ▸ he) (L t t0 t1 _ _ z).1
section
variable {m m':aF} (I:Inv m) (L:Live m) {t:Int} (t0:0<=t) (t1:t<m.2.1.length) {a:aS} {x:cU} (K:Kind m t a x) (G:jL m m' t a x)
include I L t0 t1 K G
theorem akZ{v:Int}(hs:(ai m t).2.2.2.2.1≠[])(h1:(au (ai m t)).2.1=(aq m.1 (au (ai m t)).1).1)(h2:(aq m.1 (au (ai m t)).1).2.1=1)(hne:(au (ai m t)).1≠t)(vh:v≠(au (ai m t)).1)(v0:0<=v)(v1:v<m.2.1.length)
  (vo:bx m v) (f_:nU m.1 (au (ai m t)).1 v) (ha:a=m.1) (hx:x=ki (ai m t) (v,(aq m.1 v).1,0,0,())):fH m.2.1.length t (QQ m' t)+2<=fH m.2.1.length t (QQ m t):=by
 have vt:=Nq I L t0 t1 hs h1 h2 hne vo f_;have hS:=wo I t0 t1 K G;have H:=(I.th t t0 t1).d6 _ (mK hs);have f1:=zW hs hne;have f2:lQ x t=some (v,(aq m.1 v).1,0,0,()):=by obtain⟨e,e2⟩:=HO hs (v,(aq m.1 v).1,0,0,());have:=zW (x:=ki (ai m t) (v,(aq m.1 v).1,0,0,())) (t:=t) e2 (by rw[e];exact vt);rw[hx,this,e]
 have n3:=I.n.2;generalize au (ai m t)=h at *;have w0:=H.t.1;have w1:=H.t.2;have hop:bx m h.1:=I.mem.jP h.1 w0 w1 h2;have nN:oa m h:=⟨hop,h1⟩
 have C2:¬ Ax m t h.1:=fun⟨C,c0,c1,c2,c3,c4⟩=>by
  have:C=v:=by omega
  subst this;exact UU I w0 w1 c0 c1 f_ c4 vh.symm
 have hp:m9 m t h<=9:=by unfold m9;rw[aj ⟨nN,h2⟩,o6 C2];have:=H.rY;omega
 have hlv:Ax m' t v:=⟨h.1,w0,by rw[G.n];exact w1,hne,vh.symm,by rw[G.mem,ha];exact f_⟩
 have hq:11<=m9 m' t (v,(aq m.1 v).1,0,0,()):=by unfold m9;rw[vY hlv];split<;>dsimp only<;>omega
 have hmk:vr m.1 v:=by obtain⟨_,i,i0,i1,_,hi⟩:=f_;have he:=I.mem.gW w0 w1 i0 i1;exact⟨_,he.1.1,he.1.2,hi⟩
 have hvl:oa m' (v,(aq m.1 v).1,0,0,()):=⟨(Cr I t0 t1 K G v0 vt).2 vo,by rw[G.mem,ha]⟩
 have nd:∀U,¬ qX m' t U:=fun U ⟨k,e,_,z⟩=>by rw[hS,f2]at e;cases e;exact z hvl
 have hh:∀U,wk m' t U->wk m t U\/vr m.1 U:=fun U ⟨k,e,e2,z⟩=>by
  rw[hS,f2]at e;cases e;dsimp only at e2;rw[<-e2];exact .inr hmk
 have A:=Fk I t0 t1 K G (d:=-9) w0 w1 hne (fun z=>absurd z (nd _)) (hh _) (by
  unfold kR;rw[hS,f1,f2];dsimp only;rw[aj rfl,af vh];omega)
 have B:=Fk I t0 t1 K G (d:=11) v0 v1 vt (fun z=>absurd z (nd _)) (hh _) (by
  unfold kR;rw[hS,f1,f2];dsimp only;rw[af vh.symm,aj rfl];omega)
 have:=adn n3 (T:=t) ⟨t0,t1⟩ ⟨w0,w1⟩ ⟨v0,v1⟩ hne vt vh.symm A B;omega
omit L in
theorem alI{d:Int}(ho:j9 m t+d<=j9 m' t):PP m' t+d<=PP m t:=by have:=x9 I t0 t1 K G t t0 t1;unfold PP;omega
omit L in
theorem Fv(hA:AA m' t+1<=AA m t)(hx:x.2.2.2=([],[],())):PP m' t+1<=PP m t:=by
 have h1:=Nl I (T:=t) ⟨t0,t1⟩;have hS:=wo I t0 t1 K G;have h2:0<=j9 m' t:=by unfold j9 gt;rw[Br,hS,hx];have:=nR (x.2.2.1=true);show 0<=ind (x.2.2.1=true)+(0:Int)+0;omega
 unfold PP;omega
omit L in
theorem we{d:Int}(hg:((ai m t).2.2.2.1.length:Int)+ind ((ai m t).2.2.1=true)+iB (aq m.1 t).2.1 (ai m t).2.2.2.2.1 t+d<=(x.2.2.2.1.length:Int)+ind (x.2.2.1=true)+iB (aq a t).2.1 x.2.2.2.2.1 t):PP m' t+d<=PP m t:=by refine alI I t0 t1 K G ?_;unfold j9 gt;rw[Br,Br,wo I t0 t1 K G,G.mem];omega
omit L in
theorem alv{u:Int}(u0:0<=u)(u1:u<m.2.1.length)(h1:(aq m.1 u).2.1=1)(h2:(aq a u).2.1=1):ind (Ax m t u)<=ind (Ax m' t u):=
 Cq fun⟨C,a0,a1,n1,n2,s⟩=>⟨C,a0,by rw[G.n];exact a1,n1,n2,by rw[G.mem];exact Ub I t0 t1 K a0 a1 u0 u1 n2 h1 h2 s⟩
theorem M6(hs:(ai m t).2.2.2.2.1≠[])(h1:(au (ai m t)).2.1=(aq m.1 (au (ai m t)).1).1)(h2:(aq m.1 (au (ai m t)).1).2.1=1)(hd:∀u,aq a u=aq m.1 u)
  (hx:x=ki (ai m t) ((au (ai m t)).1,(au (ai m t)).2.1,(au (ai m t)).2.2.1+1,(au (ai m t)).2.2.2)):iW m' t+1<=iW m t:=by
 have T:=I.th t t0 t1;have H:=T.d6 _ (mK hs);obtain⟨p1,p2⟩:=HO hs ((au (ai m t)).1,(au (ai m t)).2.1,(au (ai m t)).2.2.1+1,(au (ai m t)).2.2.2);by_cases he:(au (ai m t)).1=t
 .have o1:=HS I L t0 t1 hs he;have e1:x.2.2.2.2.1=[((au (ai m t)).1,(au (ai m t)).2.1,(au (ai m t)).2.2.1+1,(au (ai m t)).2.2.2)]:=by rw[hx];unfold ki;dsimp only;rw[o1];rfl
  have l1:iB (aq m.1 t).2.1 (ai m t).2.2.2.2.1 t=1+(au (ai m t)).2.2.1+ind ((aq m.1 t).2.1≠1)+(au (ai m t)).2.2.2.1:=by rw[o1];exact I1 _ _ he
  have l2:iB (aq a t).2.1 x.2.2.2.2.1 t=1+((au (ai m t)).2.2.1+1)+ind ((aq m.1 t).2.1≠1)+(au (ai m t)).2.2.2.1:=by rw[e1,hd t];exact I1 _ _ he
  have g1:x.2.2.2.1=(ai m t).2.2.2.1:=by rw[hx];rfl
  have g2:x.2.2.1=(ai m t).2.2.1:=by rw[hx];rfl
  have A:=we I t0 t1 K G (d:=1) (by
   rw[l1,l2,g1,g2];omega)
  have B:=Cz I t0 t1 K G (yM he) (by rw[hx];exact yM (by rw[p1];exact he));unfold iW;rw[G.n];omega
 .have A:=we I t0 t1 K G (d:=0) (by
   rw[hx,hd t,Hi T _ hs he (h':=((au (ai m t)).1,(au (ai m t)).2.1,(au (ai m t)).2.2.1+1,(au (ai m t)).2.2.2)) he];show((ai m t).2.2.2.1.length:Int)+ind ((ai m t).2.2.1=true)+_+0<=((ai m t).2.2.2.1.length:Int)+ind ((ai m t).2.2.1=true)+_;omega)
  have f2:lQ x t=some ((au (ai m t)).1,(au (ai m t)).2.1,(au (ai m t)).2.2.1+1,(au (ai m t)).2.2.2):=by rw[hx,zW p2 (by rw[p1];exact he),p1]
  have c:oa m (au (ai m t)):=⟨I.mem.jP _ H.t.1 H.t.2 h2,h1⟩
  have c':oa m' ((au (ai m t)).1,(au (ai m t)).2.1,(au (ai m t)).2.2.1+1,(au (ai m t)).2.2.2):=⟨(Cr I t0 t1 K G H.t.1 he).2 c.1,by rw[G.mem,hd];exact h1⟩
  have s8:(aq m'.1 (au (ai m t)).1).2.1=1:=by rw[G.mem,hd];exact h2
  have lv:=alv I t0 t1 K G H.t.1 H.t.2 h2 (by rw[hd];exact h2);have B:=Fw I t0 t1 K G H he (zW hs he) f2 rfl rfl (by
   unfold m9;rw[aj ⟨c,h2⟩,aj ⟨c',s8⟩];dsimp only;omega)
  unfold iW;rw[G.n];omega
theorem M5(hs:(ai m t).2.2.2.2.1≠[])(h2:(aq m.1 (au (ai m t)).1).2.1≠1)(hd:∀u,aq a u=aq m.1 u)
  (hx:x=ki (ai m t) ((au (ai m t)).1,(au (ai m t)).2.1,(au (ai m t)).2.2.1,(au (ai m t)).2.2.2.1+1,())):iW m' t+1<=iW m t:=by
 have T:=I.th t t0 t1;have H:=T.d6 _ (mK hs);obtain⟨p1,p2⟩:=HO hs ((au (ai m t)).1,(au (ai m t)).2.1,(au (ai m t)).2.2.1,(au (ai m t)).2.2.2.1+1,());by_cases he:(au (ai m t)).1=t
 .have o1:=HS I L t0 t1 hs he;have e1:x.2.2.2.2.1=[((au (ai m t)).1,(au (ai m t)).2.1,(au (ai m t)).2.2.1,(au (ai m t)).2.2.2.1+1,())]:=by rw[hx];unfold ki;dsimp only;rw[o1];rfl
  have l1:iB (aq m.1 t).2.1 (ai m t).2.2.2.2.1 t=1+(au (ai m t)).2.2.1+ind ((aq m.1 t).2.1≠1)+(au (ai m t)).2.2.2.1:=by rw[o1];exact I1 _ _ he
  have l2:iB (aq a t).2.1 x.2.2.2.2.1 t=1+(au (ai m t)).2.2.1+ind ((aq m.1 t).2.1≠1)+((au (ai m t)).2.2.2.1+1):=by rw[e1,hd t];exact I1 _ _ he
  have g1:x.2.2.2.1=(ai m t).2.2.2.1:=by rw[hx];rfl
  have g2:x.2.2.1=(ai m t).2.2.1:=by rw[hx];rfl
  have A:=we I t0 t1 K G (d:=1) (by
   rw[l1,l2,g1,g2];omega)
  have B:=Cz I t0 t1 K G (yM he) (by rw[hx];exact yM (by rw[p1];exact he));unfold iW;rw[G.n];omega
 .have A:=we I t0 t1 K G (d:=0) (by
   rw[hx,hd t,Hi T _ hs he (h':=((au (ai m t)).1,(au (ai m t)).2.1,(au (ai m t)).2.2.1,(au (ai m t)).2.2.2.1+1,())) he];show((ai m t).2.2.2.1.length:Int)+ind ((ai m t).2.2.1=true)+_+0<=((ai m t).2.2.2.1.length:Int)+ind ((ai m t).2.2.1=true)+_;omega)
  have f2:lQ x t=some ((au (ai m t)).1,(au (ai m t)).2.1,(au (ai m t)).2.2.1,(au (ai m t)).2.2.2.1+1,()):=by rw[hx,zW p2 (by rw[p1];exact he),p1]
  have B:=Fw I t0 t1 K G H he (zW hs he) f2 rfl rfl (by
   unfold m9;rw[af (fun z=>h2 z.2),af (fun z=>h2 (by have:=z.2;rw[G.mem,hd]at this;exact this))];dsimp only;omega)
  unfold iW;rw[G.n];omega
theorem NC{c:Int}(hc:c≠1)(hs:(ai m t).2.2.2.2.1≠[])(h1:(au (ai m t)).2.1=(aq m.1 (au (ai m t)).1).1)(h2:(aq m.1 (au (ai m t)).1).2.1=1)(ha:a=bJ m.1 (au (ai m t)).1 ((aq m.1 (au (ai m t)).1).1,c,(aq m.1 (au (ai m t)).1).2.2))
  (hx:x=ai m t):iW m' t+1<=iW m t:=by
 have T:=I.th t t0 t1;have H:=T.d6 _ (mK hs);have mu:=I.mem.dy;have hd:∀v:Int,0<=v->aq a v=if v=(au (ai m t)).1 then ((aq m.1 (au (ai m t)).1).1,c,(aq m.1 (au (ai m t)).1).2.2) else aq m.1 v:=fun v v0=>by rw[ha];exact n7 ⟨H.t.1,by have:=H.t.2;omega⟩ v0
 by_cases he:(au (ai m t)).1=t
 .have o1:=HS I L t0 t1 hs he;have hst:(aq a t).2.1=c:=by rw[hd t t0,aj he.symm]
  have EB:(aq m.1 t).2.1=1:=he ▸ h2;have l1:iB (aq m.1 t).2.1 (ai m t).2.2.2.2.1 t=1+(au (ai m t)).2.2.1+0+(au (ai m t)).2.2.2.1:=by rw[o1,I1 _ _ he,o6 (p:=(aq m.1 t).2.1≠1) (fun z=>z EB)]
  have l2:iB (aq a t).2.1 (ai m t).2.2.2.2.1 t=1+(au (ai m t)).2.2.1+1+(au (ai m t)).2.2.2.1:=by rw[o1,I1 _ _ he,vY (p:=(aq a t).2.1≠1) (by rw[hst];exact hc)]
  have A:=we I t0 t1 K G (d:=1) (by
   rw[hx,l1,l2];omega)
  have B:=Cz I t0 t1 K G (yM he) (by rw[hx];exact yM he);unfold iW;rw[G.n];omega
 .have A:=we I t0 t1 K G (d:=0) (by
   rw[hx,hd t t0,af (fun z=>he z.symm)];omega)
  have c0:oa m (au (ai m t)):=⟨I.mem.jP _ H.t.1 H.t.2 h2,h1⟩
  have hr:=(Bm (T:=t) I H).2.2 ⟨c0,h2⟩;have B:=Fw I t0 t1 K G H he (zW hs he) (by rw[hx];exact zW hs he) rfl rfl (by
   have e:m9 m' t (au (ai m t))=20+(au (ai m t)).2.2.2.1:=by unfold m9;exact af (fun z=>hc (by have:=z.2;rw[G.mem,hd _ H.t.1,aj rfl]at this;exact this))
   have:=H.fin;omega)
  unfold iW;rw[G.n];omega
theorem acF:iW m' t+1<=iW m t:=by
 have T:=I.th t t0 t1;have hK:=K;have mu:=I.mem.dy;have fin:∀{d e:Int},PP m' t+d<=PP m t->fH m.2.1.length t (QQ m' t)+e<=fH m.2.1.length t (QQ m t)->1<=d+e->iW m' t+1<=iW m t:=fun h1 h2 h3=>by
  unfold iW;rw[G.n];omega
 have z0:∀{p q:Int},p<=q->p+0<=q:=fun h=>by omega
 cases K with
 | zl h=>have z:=T.off h;refine fin (d:=1) (e:=0) (we I t0 t1 hK G ?_) (z0 (Cz I t0 t1 hK G (vW z.2) (vW z.2))) (by omega);dsimp only;rw[o6 (fun q=>by rw[h]at q;cases q),vY rfl];omega
 | got q ho hs hq=>refine fin (d:=1) (e:=0) (we I t0 t1 hK G ?_) (z0 (Cz I t0 t1 hK G (vW hs) (vW hs))) (by omega);show _<=(((ai m t).2.2.2.1++[(q,fZ m.1 q,())]).length:Int)+ind ((ai m t).2.2.1=true)+iB (aq m.1 t).2.1 (ai m t).2.2.2.2.1 t;rw[cT,nI];omega
 | new q E r ho hs hv hq=>
  have e1:(qY (rR (ai m t) ((ai m t).2.2.2.1++[(q,fZ m.1 q,())])) (t,(aq m.1 t).1+1,0,0,())).2.2.2.2.1=[(t,(aq m.1 t).1+1,0,0,())]:=by show(ai m t).2.2.2.2.1++_=_;rw[hs];rfl
  refine fin (d:=1) (e:=0) (we I t0 t1 hK G ?_) (z0 (Cz I t0 t1 hK G (vW hs) (yM (by rw[(Mz _ _).1])))) (by omega);rw[e1,hs,I1 _ _ rfl];show((ai m t).2.2.2.1.length:Int)+ind ((ai m t).2.2.1=true)+0+1<=(((ai m t).2.2.2.1++[(q,fZ m.1 q,())]).length:Int)+ind ((ai m t).2.2.1=true)+(1+0+ind _+0)
  rw[cT,nI];have:=nR ((aq (bJ m.1 t ((aq m.1 t).1+1,1,E,r,())) t).2.1≠1);omega
 | now ho hs=>exact fin (d:=1) (e:=0) (Fv I t0 t1 hK G (CB I t0 t1 hK G rfl rfl rfl (.inl rfl)).1 rfl) (z0 (Cz I t0 t1 hK G (vW hs) (vW rfl))) (by omega)
 | pU hs h1 h2 h3=>exact fin (d:=1) (e:=0) (Fv I t0 t1 hK G (CB I t0 t1 hK G rfl rfl rfl (.inl rfl)).1 rfl) (z0 (Cz I t0 t1 hK G (yM h1) (vW rfl))) (by omega)
 | CR hs h1 h2 h3=>exact fin (d:=1) (e:=0) (Fv I t0 t1 hK G (CB I t0 t1 hK G rfl rfl rfl (.inr ⟨rfl,(JJ T hs h1).1,h2⟩)).1 rfl) (z0 (Cz I t0 t1 hK G (yM h1) (vW rfl))) (by omega)
 | push v p ho hs v0 v1 vt vo p0 p1 hw=>
  have f1:lQ (ai m t) t=none:=by
   rcases hs with hs | ⟨k,hs,kt,_⟩
   .exact vW hs
   .exact yM (by unfold au;rw[hs];exact kt)
  have f2:lQ (qY (ai m t) (v,(aq m.1 v).1,0,0,())) t=some (v,(aq m.1 v).1,0,0,()):=by obtain⟨e,e2⟩:=Mz (ai m t) (v,(aq m.1 v).1,0,0,());have:=zW (x:=qY (ai m t) (v,(aq m.1 v).1,0,0,())) (t:=t) e2 (by rw[e];exact vt);rw[this,e]
  refine fin (d:=0) (e:=1) (we I t0 t1 hK G ?_) (akY I t0 t1 hK G f1 f2 rfl v0 v1 vt vo p0 p1 hw) (by omega);show _<=((ai m t).2.2.2.1.length:Int)+ind ((ai m t).2.2.1=true)+iB (aq m.1 t).2.1 ((ai m t).2.2.2.2.1++[(v,(aq m.1 v).1,0,0,())]) t;rcases hs with hs | ⟨k,hs,kt,_⟩
  .rw[hs];rw[show([]++[(v,(aq m.1 v).1,0,0,())]:List gx)=[(v,(aq m.1 v).1,0,0,())] from rfl,A9 _ _ _ vt];show _+(0:Int)+0<=_;omega
  .rw[hs];show _+iB (aq m.1 t).2.1 [k] t+0<=_+iB (aq m.1 t).2.1 [k] t;omega
 | qI hs hne hc=>refine fin (d:=0) (e:=1) (we I t0 t1 hK G ?_) (ak0 I t0 t1 hK G rfl rfl hs hne hc) (by omega);rw[acB T _ hs hne];show _<=((ai m t).2.2.2.1.length:Int)+ind ((ai m t).2.2.1=true)+_;omega
 | swap v hs h1 h2 hne vh v0 v1 vo f_=>refine fin (d:=0) (e:=2) (we I t0 t1 hK G ?_) (akZ I L t0 t1 hK G hs h1 h2 hne vh v0 v1 vo f_ rfl rfl) (by omega);rw[Hi T _ hs hne (h':=(v,(aq m.1 v).1,0,0,())) (Nq I L t0 t1 hs h1 h2 hne vo f_)];show _<=((ai m t).2.2.2.1.length:Int)+ind ((ai m t).2.2.1=true)+_;omega
 | mD hs h1 h2=>exact M6 I L t0 t1 hK G hs h1 h2 (fun _=>rfl) rfl
 | lay p hs h1 h2 p0 p1 hw hv=>exact M6 I L t0 t1 hK G hs h1 h2 (fun _=>rfl) rfl
 | pV hs h1 h2=>exact M5 I L t0 t1 hK G hs h2 (fun _=>rfl) rfl
 | oQ p y hs h1 h2 p0 p1 hw hv=>exact M5 I L t0 t1 hK G hs h2 (fun _=>rfl) rfl
 | yes hs h1 h2 h3=>exact NC I L t0 t1 hK G (c:=2) (by decide) hs h1 h2 rfl rfl
 | no i hs h1 h2 i0 i1 hb hw hv hval=>exact NC I L t0 t1 hK G (c:=3) (by decide) hs h1 h2 rfl rfl
end
theorem Ib{m:aF}(I:Inv m)(L:Live m){t:Int}(t0:0<=t)(t1:t<m.2.1.length):Live (jr m t)/\(∀T:Int,0<=T->T<m.2.1.length->iW (jr m t) T<=iW m T)/\((ai m t).2.1<(ai m t).1.length->iW (jr m t) t+1<=iW m t):=by
 by_cases h:(ai m t).2.1<(ai m t).1.length
 .have e:jr m t=vv m t:=by unfold jr;rw[aj h]
  rw[e];obtain⟨a,x,K,G⟩:=Rl I t0 t1 (fun k k' z=>(L t t0 t1 k k' z).1);have I':=I0 I;have L':Live (tick m):=L;have s:=acF I' L' t0 t1 K G;have e2:∀T,iW (tick m) T=iW m T:=fun T=>rfl;refine⟨ab2 I' L' t0 t1 K G,fun T T0 T1=>?_,fun _=>by rw[<-e2 t];exact s⟩;by_cases q:T=t
  .subst q;rw[<-e2 T];omega
  .rw[<-e2 T];exact abJ I' t0 t1 K G ⟨T0,T1⟩ q
 .have e:jr m t=m:=by unfold jr;rw[af h]
  rw[e];exact⟨L,fun _ _ _=>eD _,fun z=>absurd z h⟩
theorem abM(who:List Int):∀{m:aF},Inv m->Live m->(∀t∈who,0<=t/\t<m.2.1.length)->Live (rT m who)/\∀T:Int,0<=T->T<m.2.1.length->iW (rT m who) T<=iW m T:=by
 induction who with
 | nil=>intro m I L _;exact⟨L,fun _ _ _=>eD _⟩
 | cons t who ih=>intro m I L h;have ht:=h t e8;obtain⟨g1,g2,_⟩:=Ib I L ht.1 ht.2;obtain⟨a,b⟩:=ih (xX I ht.1 ht.2) g1 (fun u hu=>by rw[Fp];exact h u (cF _ hu));exact⟨a,fun T T0 T1=>BV (b T T0 (by rw[Fp];exact T1)) (g2 T T0 T1)⟩
theorem Jy{r:qp}{L:List (List cL)}(hL:iF L){U:Int}(u0:0<=U)(u1:U<L.length):∃ops:List cL,ai (dR r L) U=(ops,0,false,[],[],())/\ops.length<=4:=by refine⟨L[U.toNat]'(by omega),?_,(hL.ops _ (eB _)).1⟩;unfold ai dR;dsimp only;rw[qv (by rw[jC];omega),yl]
theorem ab1{r:qp}{L:List (List cL)}(hL:iF L):Live (dR r L):=by
 intro t t0 t1 k k' h;have hl:(dR r L).2.1.length=L.length:=by unfold dR;simp
 obtain⟨ops,e,_⟩:=Jy (r:=r) hL t0 (by omega);rw[e]at h;cases h
theorem Mv{n:Nat}(hn:n<=3){T c:Int}(hc:0<=c)(hT:0<=T/\T<n){f:Int->Int}(h:∀U:Int,0<=U->U<n->U≠T->f U<=c):fH n T f<=((n:Int)-1) * c:=by
 have one:∀U:Int,0<=U->(if U<n/\U≠T then f U else 0)<=(if U<n/\U≠T then c else 0):=fun U u0=>by
  by_cases q:U<n/\U≠T
  .rw[aj q,aj q];exact h U u0 q.1 q.2
  .rw[af q,af q];exact eD _
 have a:=one 0 (by omega);have b:=one 1 (by omega);have d:=one 2 (by omega);have t3:T=0\/T=1\/T=2:=by omega
 have n3:n=1\/n=2\/n=3:=by omega
 unfold fH;rcases n3 with rfl | rfl | rfl<;>rcases t3 with rfl | rfl | rfl<;>first | (exfalso;omega) | (simp at a b d⊢<;>omega)
theorem acE{r:qp}{L:List (List cL)}(hL:iF L){T:Int}(hT:0<=T/\T<L.length):iW (dR r L) T<=1032/\iW (dR r L) T<=400 * L.length-1:=by
 have hl:(dR r L).2.1.length=L.length:=by unfold dR;simp
 have hn:=hL.n;have hno:∀U:Int,0<=U->U<L.length->¬ bx (dR r L) U:=fun U u0 u1=>by
  obtain⟨ops,e,_⟩:=Jy (r:=r) hL u0 u1;unfold bx;rw[e];simp[bC]
 have hlf:∀U:Int,0<=U->U<L.length->lf (dR r L) U<=4:=fun U u0 u1=>by
  obtain⟨ops,e,h⟩:=Jy (r:=r) hL u0 u1;unfold lf;rw[e];dsimp only;omega
 have hY:∀U:Int,0<=U->U<L.length->Yv (dR r L) U<=4:=fun U u0 u1=>by
  have:=hlf U u0 u1;have:=nR (lJ (dR r L) U);unfold Yv;omega
 have hA:∀U:Int,0<=U->U<L.length->AA (dR r L) U<=4 * L.length:=fun U u0 u1=>by
  have h1:=hlf U u0 u1;have h2:¬ pK (dR r L) U:=by
   obtain⟨ops,e,h⟩:=Jy (r:=r) hL u0 u1;rintro(z | ⟨_,g,hg,_⟩)
   .exact hno U u0 u1 z.1
   .unfold gt at hg;rw[e]at hg;simp at hg
  have h3:=Mv (n:=L.length) hn.2 (T:=U) (c:=4) (f:=Yv (dR r L)) (by omega) ⟨u0,u1⟩ (fun V a b _=>hY V a b);unfold AA;rw[hl,o6 h2];omega
 have hQ:∀U:Int,0<=U->U<L.length->QQ (dR r L) T U<=29 * (4 * L.length):=fun U u0 u1=>by
  have h1:=hA U u0 u1;obtain⟨ops,e,_⟩:=Jy (r:=r) hL hT.1 hT.2;have f:lQ (ai (dR r L) T) T=none:=vW (by rw[e]);have h2:¬ qX (dR r L) T U:=fun⟨h,q,_⟩=>by rw[f]at q;cases q
  have h3:=nR (qW (dR r L) T U);have h4:kR (dR r L) T U=0:=by unfold kR;rw[f]
  unfold QQ;rw[o6 h2,h4];omega
 have h5:=Mv (n:=L.length) hn.2 (T:=T) (c:=29 * (4 * (L.length:Int))) (f:=QQ (dR r L) T) (by omega) hT (fun V a b _=>hQ V a b);have h6:=hA T hT.1 hT.2;have h7:0<=j9 (dR r L) T:=by obtain⟨ops,e,_⟩:=Jy (r:=r) hL hT.1 hT.2;unfold j9 gt;rw[Br,e];have:=nR (false=true);show 0<=ind (false=true)+(0:Int)+0;omega
 unfold iW PP;rw[hl];have n3:L.length=1\/L.length=2\/L.length=3:=by omega
 rcases n3 with q | q | q<;>rw[q]at h5 h6⊢<;>omega
def z4(t pc:Int):Nat->aF->aF
 | 0,m=>m
 | k+1,m=>if (ai m t).2.1=pc/\pc<(ai m t).1.length then z4 t pc k (jr m t) else m
theorem akC{m:aF}{t:Int}{a:aS}{x:cU}(K:Kind m t a x):x.1=(ai m t).1/\(x.2.1=(ai m t).2.1\/x.2.1=(ai m t).2.1+1):=by cases K<;>first | exact⟨rfl,.inl rfl⟩ | exact⟨rfl,.inr rfl⟩
theorem ND{m:aF}(I:Inv m)(L:Live m){t:Int}(t0:0<=t)(t1:t<m.2.1.length):(∀U:Int,0<=U->U≠t->ai (jr m t) U=ai m U)/\(ai (jr m t) t).1=(ai m t).1/\((ai (jr m t) t).2.1=(ai m t).2.1\/(ai (jr m t) t).2.1=(ai m t).2.1+1):=by
 by_cases h:(ai m t).2.1<(ai m t).1.length
 .have e:jr m t=vv m t:=by unfold jr;rw[aj h]
  rw[e];obtain⟨a,x,K,G⟩:=Rl I t0 t1 (fun k k' z=>(L t t0 t1 k k' z).1);have:=akC K;refine⟨fun U u0 q=>by rw[G.ai U u0,af q];rfl,?_⟩;rw[G.ai t t0,aj rfl];exact this
 .have e:jr m t=m:=by unfold jr;rw[af h]
  rw[e];exact⟨fun _ _ _=>rfl,rfl,.inl rfl⟩
structure wz (m a:aF) (t pc:Int) (k:Nat):Prop where
 inv:Inv a
 live:Live a
 len:a.2.1.length=m.2.1.length
 time:m.2.2.1<=a.2.2.1/\a.2.2.1<=m.2.2.1+k
 Az:∀U:Int,0<=U->U≠t->ai a U=ai m U
 ops:(ai a t).1=(ai m t).1
 low:∀T:Int,0<=T->T<m.2.1.length->iW a T<=iW m T
 pc:((ai a t).2.1=pc/\(iW a t+k<=iW m t\/¬ pc<(ai m t).1.length))\/(ai a t).2.1=pc+1
section
variable {X:Ext} (hX:fW X) {n:Nat}
include hX
theorem RW{t pc:Int}(t0:0<=t):∀(k:Nat){m:aF},Inv m->Live m->t<m.2.1.length->(ai m t).2.1=pc->wz m (z4 t pc k m) t pc k
 | 0,m,I,L,t1,hp=>⟨I,L,rfl,⟨eD _,by show m.2.2.1<=_;omega⟩,fun _ _ _=>rfl,rfl,fun _ _ _=>eD _,.inl ⟨hp,.inl (by show iW m t+_<=_;omega)⟩⟩
 | k+1,m,I,L,t1,hp=>by
  simp only[z4];by_cases h:pc<(ai m t).1.length
  .rw[aj ⟨hp,h⟩];have I':=xX I t0 t1;obtain⟨L',g1,g2⟩:=Ib I L t0 t1;obtain⟨h1,h2,h3⟩:=ND I L t0 t1;have hl:=Fp m t;have ht:=Bk hX m t;have hs:=g2 (by rw[hp];exact h);have main:wz (jr m t) (z4 t pc k (jr m t)) t pc k\/((ai (jr m t) t).2.1=pc+1/\z4 t pc k (jr m t)=jr m t):=by
    rcases h3 with e | e
    .exact .inl (RW t0 k I' L' (by rw[hl];exact t1) (e.trans hp))
    .refine .inr ⟨by rw[e,hp],?_⟩;cases k with
     | zero=>rfl
     | succ k=>simp only[z4];rw[af (fun z=>by have:=z.1;rw[e,hp]at this;omega)]
   rcases main with A | ⟨e,e2⟩
   .refine⟨A.inv,A.live,A.len.trans hl,⟨by have:=A.time.1;omega,by have:=A.time.2;omega⟩,fun U u0 q=>(A.Az U u0 q).trans (h1 U u0 q),A.ops.trans h2,fun T a b=>BV (A.low T a (by rw[hl];exact b)) (g1 T a b),?_⟩;rcases A.pc with⟨p,q⟩ | p
    .refine .inl ⟨p,.inl ?_⟩;rcases q with q | q
     .omega
     .rw[h2]at q;exact absurd h q
    .exact .inr p
   .rw[e2];exact⟨I',L',hl,⟨by omega,by omega⟩,h1,h2,g1,.inr e⟩
  .rw[af (fun z=>h z.2)];exact⟨I,L,rfl,⟨eD _,by omega⟩,fun _ _ _=>rfl,rfl,fun _ _ _=>eD _,.inl ⟨hp,.inr h⟩⟩
theorem MD(N n:Nat)(hN:W+17<=N)(K:aF->aF->Option ((aF×Unit)×Unit)){t pc:Int}(t0:0<=t)(b:Nat)(hb:b<=2000)(z:aF):∀(c i:Nat)(m:aF),i<=b->b-i<c->Inv m->Live m->t<m.2.1.length->((ai m t).2.1=pc\/(ai m t).2.1=pc+1)->m.2.2.1+(b-i:Nat)<=100000->
  TM (DD X N) n K c t (b:Int) pc (i:Int) m z=K (z4 t pc (b-i) m) z
 | 0,i,m,h1,h2,_,_,_,_,_=>by omega
 | c+1,i,m,h1,h2,I,L,t1,hp,ht=>by
  simp only[TM,Z7];have hd:List.getD m.2.1 t.toNat ([],0,false,[],[],())=ai m t:=rfl;by_cases hi:i<b
  .obtain⟨j,hj⟩:∃j,b-i=j+1:=⟨b-i-1,by omega⟩
   rw[bw (show(i:Int)<(b:Int) by omega),bA,bw (show(i:Int)<2000 by omega),aG,fJ t0 t1,aG,hd,hj];simp only[z4];by_cases e:(ai m t).2.1=pc
   .have hg:=Bk hX m t;have hl:=Fp m t;have I':=xX I t0 t1;have h3:=(ND I L t0 t1).2.2;rw[qf e,Kq hX (by omega) I t0 t1 (by omega),qc];dsimp only;by_cases h:(ai m t).2.1<(ai m t).1.length
    .rw[bw h,cJ,aL,aj ⟨e,by rw[<-e];exact h⟩,qu (by omega)];have ih:=MD N n hN K t0 b hb z c (i+1) (jr m t) (by omega) (by omega) I' (Ib I L t0 t1).1 (by rw[hl];exact t1) (by rw[e]at h3;exact h3) (by omega);rw[ih,show b-(i+1)=j by omega]
    .rw[b7 h,i6,aG,af (fun q=>h (by rw[e];exact q.2))]
   .rw[qg e,af (fun q=>e q.1)]
  .rw[b7 (show ¬ (i:Int)<(b:Int) by omega),bf,aL,show b-i=0 by omega];rfl
theorem akh(hn:W+18<=n){m:aF}(I:Inv m)(L:Live m){t:Int}(t0:0<=t)(t1:t<m.2.1.length)(b:Nat)(hb:b<=2000)(ht:m.2.2.1+b<=100000):q7t (DD X n) m t (b:Int)=some ((z4 t (ai m t).2.1 b m,()),()):=by
 obtain⟨n,rfl⟩:∃k,n=k+1:=⟨n-1,by omega⟩
 have hW:=d7;have n3:=I.n;rw[ajC hX];simp only[q72,q8t,YK];rw[V0 hX (by omega) (IY hX I),qc];dsimp only;rw[qs (by omega) (by omega),lq hX (by omega),qc];dsimp only;rw[jF ⟨t0,by omega⟩,cJ,aL,fJ t0 t1,aG];exact MD hX n n (by omega) _ t0 b hb _ n 0 m (e7 _) (by omega) I L t1 (.inl rfl) (by omega)
end
section
variable {X:Ext} (hX:fW X) {n:Nat}
include hX
theorem SP(hn:1<=n)(x:cU):Tn (DD X n) x=some ((decide (x.2.1=(x.1.length:Int)),()),()):=by
 obtain⟨n,rfl⟩:∃k,n=k+1:=⟨n-1,by omega⟩
 rw[qub hX];rfl
end
end Go.G
/- FnStopped holds: one that is stopped for good holds nobody up. No condition beyond the given statement's. -/
namespace Go.G
set_option linter.unusedVariables false
set_option linter.unusedSimpArgs false
set_option linter.unusedSectionVars false
open Go Go.V Go.Proofs
def Iy(g:aF)(T:Int):Prop:=(ai g T).2.1=((ai g T).1.length:Int)
structure RI (n0:Nat) (stop:Int) (j i:Nat) (g:aF):Prop where
 inv:Inv g
 live:Live g
 len:g.2.1.length=n0
 time:g.2.2.1<=1000+120 * j+40 * i
 low:∀T:Int,0<=T->T<n0->T≠stop->Iy g T\/iW g T+40 * lf g T+40 * j+(if T<i then 40 else 0)<=1192
section
variable {X:Ext} (hX:fW X) {n:Nat}
include hX
theorem alP(hn:1<=n)(a:List Int):∃v,HR (DD X n) a 1=some ((v,()),()):=by
 obtain⟨n,rfl⟩:∃k,n=k+1:=⟨n-1,by omega⟩
 rw[alO hX];simp only[Ir,SQ];by_cases h:(1:Int)<(a.length:Int)
 .rw[qf h,show(decide ((0:Int)<=1)&&decide ((1:Int)<(a.length:Int)))=true by rw[bw h];rfl,aG];exact⟨_,rfl⟩
 .rw[qg h];exact⟨_,rfl⟩
theorem Ch(N n:Nat)(hN:W+19<=N)(K0:Int->Int->aF->Option ((Bool×Unit)×Unit)){n0:Nat}{stop:Int}{j:Nat}(hj:j<=60):∀(c i:Nat)(g:aF),RI n0 stop j i g->i<=n0->n0-i<c->
  ∃g',RI n0 stop (j+1) 0 g'/\TC (DD X N) n K0 c stop (j:Int) (i:Int) g=K0 stop (j:Int) g'
 | 0,i,_,_,_,h2=>by omega
 | c+1,i,g,R,h1,h2=>by
  have hW:=d7;have wZ:=R.len;have n3:=R.inv.n;simp only[TC,q6s];by_cases hi:i<n0
  .rw[qf (by omega),qu (by omega)];by_cases q:(i:Int)=stop
   .rw[show((i:Int) != stop)=false by rw[bH,bw q];rfl,aL];refine Ch N n hN K0 hj c (i+1) g ⟨R.inv,R.live,R.len,by have:=R.time;omega,fun T T0 T1 Ts=>?_⟩ (by omega) (by omega);rcases R.low T T0 T1 Ts with h | h
    .exact .inl h
    .refine .inr ?_;by_cases z:T<i
     .rw[aj z]at h;rw[aj (by omega)];exact h
     .rw[af z]at h;rw[af (by omega)];exact h
   .have hd:List.getD g.2.1 (Int.toNat (i:Int)) ([],0,false,[],[],())=ai g (i:Int):=rfl;have T:=R.inv.th (i:Int) (by omega) (by omega);rw[show((i:Int) != stop)=true by rw[bH,b7 q];rfl,aG,ix (by omega),aG,hd,SP hX (by omega),qc];dsimp only;by_cases dn:(ai g (i:Int)).2.1=((ai g (i:Int)).1.length:Int)
    .rw[bw dn,cJ,aL];refine Ch N n hN K0 hj c (i+1) g ⟨R.inv,R.live,R.len,by have:=R.time;omega,fun T T0 T1 Ts=>?_⟩ (by omega) (by omega);by_cases w:T=(i:Int)
     .rw[w];exact .inl dn
     .rcases R.low T T0 T1 Ts with h | h
      .exact .inl h
      .refine .inr ?_;by_cases z:T<i
       .rw[aj z]at h;rw[aj (by omega)];exact h
       .rw[af z]at h;rw[af (by omega)];exact h
    .have Aq:=T.pc;have hgt:=R.time;rw[b7 dn,i6,aG,show(40:Int)=((40:Nat):Int) from rfl,akh hX (by omega) R.inv R.live (by omega) (by omega) 40 (by omega) (by omega),qc];dsimp only;have A:=RW hX (show 0<=(i:Int) by omega) 40 R.inv R.live (by omega) rfl;generalize z4 (i:Int) (ai g (i:Int)).2.1 40 g=a at *;refine Ch N n hN K0 hj c (i+1) a ⟨A.inv,A.live,A.len.trans R.len,by have:=A.time.2;omega,fun T T0 T1 Ts=>?_⟩ (by omega) (by omega);have al4:=A.low T T0 (by omega);by_cases w:T=(i:Int)
     .subst w;have Xs:=A.ops;rcases R.low _ T0 T1 Ts with h | h
      .exact absurd h dn
      .rw[af (by omega)]at h;rw[aj (by omega)];refine .inr ?_;unfold lf at h⊢;rw[Xs];rcases A.pc with⟨z,z2 | z2⟩ | z
       .rw[z];omega
       .omega
       .rw[z];omega
     .have ht:=A.Az T T0 w;rcases R.low T T0 T1 Ts with h | h
      .refine .inl ?_;unfold Iy at h⊢;rw[ht];exact h
      .refine .inr ?_;have e:lf a T=lf g T:=by unfold lf;rw[ht]
       rw[e];by_cases z:T<i
       .rw[aj z]at h;rw[aj (by omega)];omega
       .rw[af z]at h;rw[af (by omega)];omega
  .rw[qg (by omega)];refine⟨g,⟨R.inv,R.live,R.len,by have:=R.time;omega,fun T T0 T1 Ts=>?_⟩,rfl⟩;rcases R.low T T0 T1 Ts with h | h
   .exact .inl h
   .refine .inr ?_;rw[aj (by omega)]at h;rw[af (by omega)];omega
theorem SR(N n:Nat)(hN:W+19<=N)(Xl:W<=n)(K0:Int->aF->Option ((Bool×Unit)×Unit)){n0:Nat}{stop:Int}:∀(c j:Nat)(g:aF),RI n0 stop j 0 g->j<=60->60-j<c->
  ∃g',RI n0 stop 60 0 g'/\Dm (DD X N) n K0 c stop (j:Int) g=K0 stop g'
 | 0,j,_,_,_,h2=>by omega
 | c+1,j,g,R,h1,h2=>by
  have hW:=d7;have n3:=R.inv.n;have wZ:=R.len;simp only[Dm,Zs];by_cases hj:j<60
  .rw[qf (by omega)];simp only[qy4];obtain⟨g1,R1,e1⟩:=Ch hX N n hN (fun bR dY iY=>qxk (DD X N) n (Dm (DD X N) n K0 c) K0 bR dY iY) h1 n 0 g R (e7 _) (by omega);obtain⟨g2,R2,e2⟩:=SR N n hN Xl K0 c (j+1) g1 R1 (by omega) (by omega);refine⟨g2,R2,cZ e1 ?_⟩;simp only[qxk];rw[qu (by omega)];exact e2
  .rw[qg (by omega)];have:j=60:=by omega
   subst this;exact⟨g,R,rfl⟩
theorem SS(N n:Nat)(hN:W+19<=N)(K0:Bool->aF->Option ((Bool×Unit)×Unit))(K1:aF->Option ((Bool×Unit)×Unit)){stop:Int}{g:aF}(h3:g.2.1.length<=3)(h:∀T:Int,0<=T->T<g.2.1.length->T≠stop->Iy g T):∀(c i:Nat),i<=g.2.1.length->g.2.1.length-i<c->
  TD (DD X N) n K0 K1 c stop (i:Int) g=K1 g
 | 0,i,_,h2=>by omega
 | c+1,i,h1,h2=>by
  have hW:=d7;simp only[TD,q6t];by_cases hi:i<g.2.1.length
  .have ih:=SS N n hN K0 K1 h3 h c (i+1) (by omega) (by omega);rw[qf (by omega),qu (by omega),ih];by_cases q:(i:Int)=stop
   .rw[show((i:Int) != stop)=false by rw[bH,bw q];rfl,aL]
   .have hd:List.getD g.2.1 (Int.toNat (i:Int)) ([],0,false,[],[],())=ai g (i:Int):=rfl;rw[show((i:Int) != stop)=true by rw[bH,b7 q];rfl,aG,ix hi,aG,hd,SP hX (by omega),qc];dsimp only;rw[bw (show(ai g (i:Int)).2.1=((ai g (i:Int)).1.length:Int) from h (i:Int) (by omega) (by omega) q),cJ,aL]
  .rw[qg (by omega)]
end
theorem alM(a:List Int):P4 (DD sE (W+30)) a=some ((true,()),()):=by
 have hX:fW sE:=SD;have hW:=d7;rw[akj hX];simp only[q6u,q74];rw[ak8 hX (by omega),qc];dsimp only;by_cases KG:(a.length:Int)>1048576
 .rw[qf KG]
 rw[qg KG];obtain⟨r,L,who,hr,hL,hw,e1⟩:=abc hX (n:=W+29) (by omega) a (by omega);obtain⟨I,ht,hlen,h1,h2,h3⟩:=abj hr hL hw;rw[e1,qc];dsimp only;rw[abq hX (by omega) hr hL,qc,ai6 hX (by omega) hr hL,qc];dsimp only;rw[bw rfl,cJ,bf,aL,ali hX (by omega) (Me hr hL) who h1 h2 h3,qc];dsimp only;obtain⟨v,ev⟩:=alP hX (n:=W+29) (by omega) a;rw[ev,qc];dsimp only;obtain⟨LL,Xv⟩:=abM who (Me hr hL) (ab1 hL) h2;have KR:(dR r L).2.1.length=L.length:=by unfold dR;simp
 have hn:=hL.n;rw[qg (by omega)];generalize hst:Int.tmod v ((rT (dR r L) who).2.1.length:Int)=stop;simp only[qy3];have R0:RI L.length stop 0 0 (rT (dR r L) who):=⟨I,LL,hlen,by omega,fun T T0 T1 _=>.inr (by
  have h4:=Xv T T0 (by omega);have h5:=(acE (r:=r) hL (T:=T) ⟨T0,by omega⟩).1;have T:=I.th T T0 (by omega);have:=T.pc;have:=T.ops.1;unfold lf;rw[af (by omega)];omega)⟩
 obtain⟨g,R,e⟩:=SR hX (W+29) (W+29) (by omega) (by omega) (fun bR dY=>V3 (DD sE (W+29)) (W+29) (V4 (DD sE (W+29)) (W+29)) bR dY) (W+29) 0 _ R0 (by omega) (by omega);refine cZ e ?_;simp only[V3,V4];have n3:=R.inv.n;refine cZ (SS hX (W+29) (W+29) (by omega) _ _ n3.2 (fun T T0 T1 Ts=>?_) (W+29) 0 (e7 _) (by omega)) ?_
 .rcases R.low T T0 (by rw[<-R.len];exact T1) Ts with h | h
  .exact h
  .exfalso;have:=abh R.inv (T:=T) ⟨T0,T1⟩;have:=(Cg R.inv T0 T1).1;rw[af (by omega)]at h;omega
 .simp only[P2];have:=R.time;rw[abb hX (by omega) R.inv (by omega),qc]
end Go.G
namespace Go.Proofs.YtpmimbgkiindbaaGreat
open Go.ChangeShapes Go.WideShapes Go.ChangeAt Go.RowKit Go.V Go.G
theorem lP(os:Os)(started:os.Started)(H:Type)(enc:TypeId×Value->H) :
  ReturnsInHanded {} Tryz.checked os 4 .any (Rows.fnStoppedSpec.pre6 enc Tryz.prog Tryz.f4 Rows.fnStoppedRow.domain false) (Rows.fnStoppedSpec.post enc Tryz.prog Tryz.f4 false true false false):=
 ab0 (X:=sE) (tb:=4) started Tryz.func4 (by kernel_rfl)
  (ChangeSpec.witness6 (enc:=enc) (C:=Tryz.checked) false ⟨#[],Tryz.f4.params.map fun t=>((Tryz.prog.info? t).bind (·.zero)).getD .nilIface,[]⟩ 8 (by kernel_rfl) (by kernel_rfl) (by kernel_rfl) (by kernel_rfl))
  ⟨rfl,rfl,trivial⟩ (by kernel_rfl) (by kernel_rfl) (by kernel_rfl) rfl
  (fun ds h=>by
   match ds,h with
   | [d0],_=>exact⟨rfl,rfl,rfl⟩)
  (fun a wa=>⟨W+30,((true,()),()),alM a.1,fun h Pr Gs us k=>by
   obtain⟨v,vs,rfl,⟨c,r,rfl⟩,e⟩:=k;obtain rfl:vs=[]:=e;simp only[az]at r;subst r;rfl⟩)
theorem fnStopped_holds:Rows.FnStoppedSaid:=
 OpenClaim.holds_of_wide 4 Tryz.f4 rfl rfl rfl rfl rfl rfl rfl ⟨rfl,rfl,rfl,rfl,rfl⟩ rfl rfl rfl rfl rfl (by kernel_rfl) Tryz.func4 (by kernel_rfl)
  (of_decide_eq_true (by kernel_rfl)) (by unfold Func.isWrapper;first | (rw[aj (by decide +kernel)];kernel_rfl) | (rw[af (by decide +kernel)];exact⟨rfl,rfl⟩))
  (fun os started H enc _=>lP os started H enc)
#print axioms fnStopped_holds
end Go.Proofs.YtpmimbgkiindbaaGreat

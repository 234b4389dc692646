/- FnAlone holds: behind any drawn schedule, whoever goes on alone gets its op done within the bound. No condition beyond the given statement's. -/
import Derived.Test.YtpmimbgkiindbaaGreatAPFnAlone3
set_option maxRecDepth 100000
set_option linter.unusedVariables false
set_option linter.unusedSimpArgs false
set_option linter.unusedSectionVars false
open Go.IntKind (wrap)
namespace Go.G
open Go Go.V Go.Proofs
section
variable {X:Ext} (hX:f4 X) {n:Nat}
include hX
theorem Nn(N n:Nat)(hN:W+2<=N)(hN6:6<=N)(K:Int->jY->List (List cK)->List cK->Option ((List (List cK)×Unit)×jY×Unit))(z:Int)(out:List (List cK)):∀(m i:Nat)(c:jY)(l:List cK),nr c->i<=4->4-i<m->l.length=i->(∀o∈l,dh o=true)->
  ∃(c':jY)(l':List cK),nr c'/\l'.length<=4/\(∀o∈l',dh o=true)/\S0 (DD X N) n K m z (i:Int) c out l=K z c' out l'
 | 0,_,_,_,_,_,h,_,_=>by omega
 | m+1,i,c,l,hc,hi,hf,hl,ho=>by
  have hW:=ej;have hb:=i5;simp only[S0,qu7];obtain⟨x,c1,h1,_,jK,e1⟩:=zM hX (n:=N) (by omega) hc 4;obtain⟨x0,x1⟩:=h1 (by omega);rw[e1,qc];dsimp only;rw[qs (by omega) (by omega)];by_cases h:(i:Int)<1+x
  .obtain⟨o,c2,g7,KW,e2⟩:=ai7 hX (n:=N) (by omega) jK;rw[qf h,e2,qc];dsimp only;rw[qf (by omega),qu (by omega)];exact Nn N n hN hN6 K z out m (i+1) c2 (l++[o]) g7 (by omega) (by omega) (by rw[cT,nG];omega) (fun p hp=>by
    rcases bN.1 hp with q | q
    .exact ho p q
    .rw[d6]at q;rw[q];exact KW)
  .rw[qg h];exact⟨c1,l,jK,by omega,ho,rfl⟩
theorem Nm(N n:Nat)(hN:W+2<=N)(hn:W<=n)(K:jY->List (List cK)->Option ((List (List cK)×Unit)×jY×Unit)):∀(m i:Nat)(c:jY)(L:List (List cK)),nr c->i<=3->3-i<m->L.length=i->(∀ops∈L,ops.length<=4/\∀o∈ops,dh o=true)->
  ∃(c':jY)(L':List (List cK)),nr c'/\iD L'/\Dg (DD X N) n K m (i:Int) c L=K c' L'
 | 0,_,_,_,_,_,h,_,_=>by omega
 | m+1,i,c,L,hc,hi,hf,hl,ho=>by
  have hW:=ej;have hb:=i5;simp only[Dg,qu6];obtain⟨x,c1,h1,_,jK,e1⟩:=zM hX (n:=N) (by omega) hc 3;obtain⟨x0,x1⟩:=h1 (by omega);rw[e1,qc];dsimp only;rw[qs (by omega) (by omega)];by_cases h:(i:Int)<1+x
  .rw[qf h];simp only[qs4];obtain⟨c2,l,g7,hl4,hlo,e2⟩:=Nn hX N n hN (by omega) (fun bY eG jy ko=>qq2 (DD X N) n (Dg (DD X N) n K m) K bY eG jy ko) (i:Int) L n 0 c1 [] jK (by omega) (by omega) rfl (fun o h=>by simp at h);rw[show((0:Nat):Int)=0 from rfl]at e2;obtain⟨c3,L',rJ,hL',e3⟩:=Nm N n hN hn K m (i+1) c2 (L++[l]) g7 (by omega) (by omega) (by rw[cT,nG];omega) (fun p hp=>by
    rcases bN.1 hp with q | q
    .exact ho p q
    .rw[d6]at q;rw[q];exact⟨hl4,hlo⟩)
   refine⟨c3,L',rJ,hL',?_⟩;refine dj e2 ?_;simp only[qq2];rw[qf (by omega),qu (by omega)];exact e3
  .rw[qg h];exact⟨c1,L,jK,⟨by omega,ho⟩,rfl⟩
theorem abo(hn:W+3<=n){c:jY}(hc:nr c):∃(L:List (List cK))(c':jY),nr c'/\iD L/\qvw (DD X n) c=some ((L,()),(c',())):=by
 obtain⟨n,rfl⟩:∃k,n=k+1:=⟨n-1,by omega⟩
 have hW:=ej;rw[afK hX];simp only[qv4,qw0,qs3];obtain⟨c',L,h1,h2,e⟩:=Nm hX n n (by omega) (by omega) (fun bY eG=>q0h (DD X n) n bY eG) n 0 c [] hc (by omega) (by omega) rfl (fun o h=>by simp at h);rw[show((0:Nat):Int)=0 from rfl]at e;exact⟨L,c',h1,h2,e⟩
def uI(L:List (List cK))(who:List Int)(k:Nat):Prop:=who.length<=k/\∀t∈who,0<=t/\t<L.length
theorem NM(N n:Nat)(hN:W+2<=N)(K:Int->Int->qp->qp->List (List cK)->List Int->jY->Option ((qp×List (List cK)×List Int×Unit)×Unit))(a b t:Int)(r s:qp)(L:List (List cK))(ht:0<=t/\t<L.length)(k:Nat)(hk:k<=1000):∀(m i:Nat)(c:jY)(who:List Int),nr c->i<=6->6-i<m->uI L who (k+i)->
  ∃(c':jY)(zb:List Int),nr c'/\uI L zb (k+6)/\SI (DD X N) n K m a b t (i:Int) r s L who c=K a b r s L zb c'
 | 0,_,_,_,_,_,h,_=>by omega
 | m+1,i,c,who,hc,hi,hf,hw=>by
  have hW:=ej;have hb:=i5;simp only[SI,qpa];obtain⟨x,c1,h1,_,jK,e1⟩:=zM hX (n:=N) (by omega) hc 6;obtain⟨x0,x1⟩:=h1 (by omega);rw[e1,qc];dsimp only;rw[qs (by omega) (by omega)];have hwl:=hw.1;by_cases h:(i:Int)<1+x
  .rw[qf h,qf (by omega),qu (by omega)];exact NM N n hN K a b t r s L ht k hk m (i+1) c1 (who++[t]) jK (by omega) (by omega) ⟨by rw[cT,nG];omega,fun u hu=>by
    rcases bN.1 hu with q | q
    .exact hw.2 u q
    .rw[d6]at q;rw[q];exact ht⟩
  .rw[qg h];exact⟨c1,who,jK,⟨by omega,hw.2⟩,rfl⟩
theorem NL(N n:Nat)(hN:W+2<=N)(hn:W<=n)(K:qp->qp->List (List cK)->List Int->Option ((qp×List (List cK)×List Int×Unit)×Unit))(a:Int)(ha:a<=120)(r s:qp)(L:List (List cK))(hL:0<L.length/\L.length<=3):∀(m i:Nat)(c:jY)(who:List Int),nr c->i<=120->120-i<m->uI L who (6 * i)->
  ∃(zb:List Int),uI L zb 720/\Df (DD X N) n K m a (i:Int) r s L who c=K r s L zb
 | 0,_,_,_,_,_,h,_=>by omega
 | m+1,i,c,who,hc,hi,hf,hw=>by
  have hW:=ej;simp only[Df,qo9];by_cases h:(i:Int)<a
  .obtain⟨x,c1,h1,_,jK,e1⟩:=zM hX (n:=N) (by omega) hc (L.length:Int);have hx:=h1 (by omega);rw[qf h,e1,qc];dsimp only;simp only[qn4];obtain⟨c2,alU,g7,hw2,e2⟩:=NM hX N n hN (fun bY eG jy ko I1 alS alT=>qm1 (DD X N) n (Df (DD X N) n K m) K bY eG jy ko I1 alS alT) a (i:Int) x r s L hx (6 * i) (by omega) n 0 c1 who jK (by omega) (by omega) hw;rw[show((0:Nat):Int)=0 from rfl]at e2;obtain⟨alV,hw3,e3⟩:=NL N n hN hn K a ha r s L hL m (i+1) c2 alU g7 (by omega) (by omega) ⟨by have:=hw2.1;omega,hw2.2⟩;refine⟨alV,hw3,dj e2 ?_⟩;simp only[qm1];rw[qu (by omega)];exact e3
  .rw[qg h];exact⟨who,⟨by have:=hw.1;omega,hw.2⟩,rfl⟩
theorem abc(hn:W+4<=n)(a:List Int)(ha:a.length<=1048576):∃(r:qp)(L:List (List cK))(who:List Int),aW r/\iD L/\uI L who 720/\qqb (DD X n) a=some ((r,L,who,()),()):=by
 obtain⟨n,rfl⟩:∃k,n=k+1:=⟨n-1,by omega⟩
 have hW:=ej;rw[aeb hX];simp only[qqh,qqy,qn3];obtain⟨c,hc,e1⟩:=akn hX (n:=n) (by omega) a ha;obtain⟨r,c1,hr,_,jK,e2⟩:=aiA hX (n:=n) (by omega) hc;obtain⟨L,c2,g7,hL,e3⟩:=abo hX (n:=n) (by omega) jK;rw[e1,qc,e2,qc];dsimp only;rw[e3,qc];dsimp only;have KQ:∃k:Int,60<=k/\k<=120/\ZC (DD X n) a 60 120=some ((k,()),()):=by
  obtain⟨n,rfl⟩:∃k,n=k+1:=⟨n-1,by omega⟩
  rw[aiu hX];simp only[Zr,Pc];have ht:Int.tdiv (a.length:Int) 4=(a.length:Int) / 4:=Int.tdiv_eq_ediv_of_nonneg (by omega);rw[ht,qs (show -9223372036854775808<=(a.length:Int) / 4 by omega) (by omega),qs (by omega) (by omega)];by_cases h:60+(a.length:Int) / 4>120
  .rw[qf h];exact⟨120,by omega,by omega,rfl⟩
  .rw[qg h];exact⟨_,by omega,by omega,rfl⟩
 obtain⟨k,hk0,Uj,e4⟩:=KQ;obtain⟨x,c3,h1,_,rJ,e5⟩:=zM hX (n:=n) (by omega) g7 k;have hx:=h1 (by omega);rw[e4,qc];dsimp only;rw[e5,qc];dsimp only;obtain⟨who,hw,e6⟩:=NL hX n n (by omega) (by omega) (fun bY eG jy ko=>qvj (DD X n) n bY eG jy ko) x (by omega) ([],0,()) r L (by have:=hL.n;omega) n 0 c3 [] rJ (by omega) (by omega) ⟨by simp,fun t h=>by simp at h⟩;rw[show((0:Nat):Int)=0 from rfl]at e6;exact⟨r,L,who,hr,hL,hw,e6⟩
theorem acs(hn:1<=n):ZA (DD X n) dD=some ((true,()),()):=by
 obtain⟨n,rfl⟩:∃k,n=k+1:=⟨n-1,by omega⟩
 rw[aiZ hX];simp only[Zm,Z5];rw[qf (show dD.1=0 from rfl)];simp[dD]
theorem QB(N n:Nat)(hN:1<=N)(K0:Bool->aS->Option ((Bool×Unit)×Unit))(K1:aS->Option ((Bool×Unit)×Unit))(w:List lX)(k:Nat)(hk:k<=3):∀(c i:Nat),i<=k->k-i<c->
  Tx (DD X N) n K0 K1 c (i:Int) (w,List.replicate k dD,())=K1 (w,List.replicate k dD,())
 | 0,i,_,h=>by omega
 | c+1,i,h1,h2=>by
  simp only[Tx,q5y,oe];by_cases hi:i<k
  .have e:(List.replicate k dD).getD i (0,0,[],(0,[],()),())=dD:=by rw[qv (by simpa using hi),List.getElem_replicate]
   rw[qf (by omega),show(decide (0<=(i:Int))&&decide ((i:Int)<(k:Int)))=true by simp;omega,aF,eB,e,acs hX hN,qc];dsimp only;rw[cJ,aL,qu (by omega)];exact QB N n hN K0 K1 w k hk c (i+1) (by omega) (by omega)
  .rw[qg (by omega)]
theorem QC(N n:Nat)(hN:2<=N)(K0:Bool->Option ((Bool×Unit)×Unit))(K1:Option ((Bool×Unit)×Unit))(m:aS)(hl:m.1.length<=1000)(hw:∀x∈m.1,T4 x):∀(c i:Nat),i<=m.1.length->m.1.length-i<c->
  Tz (DD X N) n K0 K1 c (i:Int) m=K1
 | 0,i,_,h=>by omega
 | c+1,i,h1,h2=>by
  simp only[Tz,q5z];by_cases hi:i<m.1.length
  .have hx:=hw _ (ez hi);obtain⟨N,rfl⟩:∃k,N=k+1:=⟨N-1,by omega⟩
   rw[qf (by omega),ix hi,aF,eB,qv hi,ais hX];simp only[Zp,Pa];rw[qf hx.1,qf hx.2.1,yO hX (by omega),qc,qc];dsimp only;rw[jD hx.2.2,cJ,aL,qg (by have:=hx.1;omega),qu (by omega)];exact QC (N+1) n hN K0 K1 m hl hw c (i+1) (by omega) (by omega)
  .rw[qg (by omega)]
theorem Q3(hn:W+3<=n)(w:List lX)(hw:∀x∈w,T4 x)(hl:w.length=20)(k:Nat)(h1:1<=k)(hk:k<=3):TC (DD X n) (w,List.replicate k dD,())=some ((true,()),()):=by
 obtain⟨n,rfl⟩:∃k,n=k+1:=⟨n-1,by omega⟩
 have hW:=ej;rw[ajh hX];simp only[q8e,q9x,YY];rw[show((w.length:Int) != 20)=false by rw[bH,bz (by omega)];rfl,aL,yO hX (by omega),qc];dsimp only;rw[oe,jD ⟨by omega,by omega⟩,cJ,aL];refine dj (QB hX n n (by omega) _ _ w k hk n 0 (eZ _) (by omega)) ?_;simp only[qzn,YZ];refine dj (QC hX n n (by omega) _ _ _ (by dsimp only;omega) hw n 0 (eZ _) (by dsimp only;omega)) ?_;rfl
theorem Ry(N n:Nat)(hN:4<=N)(K0:Int->Bool->cU->Option ((Bool×Unit)×Unit))(K1:Int->cU->Option ((Bool×Unit)×Unit))(z:Int)(x:cU)(hl:x.1.length<=1000)(ho:∀o∈x.1,dh o=true):∀(c i:Nat),i<=x.1.length->x.1.length-i<c->
  S8 (DD X N) n K0 K1 c z (i:Int) x=K1 z x
 | 0,i,_,h=>by omega
 | c+1,i,h1,h2=>by
  simp only[S8,qwu];by_cases hi:i<x.1.length
  .have hx:=ho _ (ez hi);have hop:UD (DD X N) x.1[i]=some ((true,()),()):=by have:=abd hX (n:=N) (by omega) x.1[i].1 x.1[i].2.1 x.1[i].2.2.1;rw[show(x.1[i].1,x.1[i].2.1,x.1[i].2.2.1,())=x.1[i] from rfl,hx]at this;exact this
   rw[qf (by omega),ix hi,aF,eB,qv hi,hop,qc];dsimp only;rw[cJ,aL,qu (by omega)];exact Ry N n hN K0 K1 z x hl ho c (i+1) (by omega) (by omega)
  .rw[qg (by omega)]
theorem ajW(hn:W+5<=n)(ops:List cK)(hl:ops.length<=4)(ho:∀o∈ops,dh o=true)(k:Int):qxr (DD X n) (ops,0,false,[],[],()) k=some ((true,()),()):=by
 obtain⟨n,rfl⟩:∃k,n=k+1:=⟨n-1,by omega⟩
 have hW:=ej;obtain⟨p,hp⟩:∃p,n=p+1:=⟨n-1,by omega⟩
 rw[agi hX];simp only[qx0,qzp,qux];rw[qg (by omega),yO hX (by omega),qc];dsimp only;rw[jD ⟨by omega,by omega⟩];simp only[cJ,bf,aL,jm,aF,gz];rw[b7 (show ¬ wrap .i64 (((0:Nat):Int)+((0:Nat):Int))>0 by decide),b7 (show ¬ ((0:Nat):Int)>12 by decide),b7 (show ¬ ((0:Nat):Int)>2 by decide),bf,bf,aL];refine dj (Ry hX n n (by omega) _ _ k (ops,0,false,[],[],()) (by dsimp only;omega) ho n 0 (eZ _) (by dsimp only;omega)) ?_;simp only[qs0,quy];rw[hp];simp only[Vu,qwv,gz];rw[qg (by decide)];simp only[qs1,quz];simp only[Vv,qww,gz];rw[qg (by decide)];rfl
theorem aaP(hn:3<=n){m:aG}(hc:m.2.2.2.1=[]){t:Int}(t0:0<=t)(t1:t<m.2.1.length)(hp:(ai m t).2.1=0)(ho:(ai m t).2.2.1=false):qxt (DD X n) m t=some ((true,()),()):=by
 obtain⟨n,rfl⟩:∃k,n=k+2:=⟨n-2,by omega⟩
 obtain⟨p,Xf⟩:∃p,n=p+1:=⟨n-1,by omega⟩
 have hx:m.2.1.getD t.toNat ([],0,false,[],[],())=ai m t:=rfl;have aZ:ZE (DD X (n+1)) m t=some ((-1,()),()):=by rw[aiw hX];simp only[Zt,ZP,qzz];rw[hc,Xf];simp only[VG,Zi,gz];rw[qg (by rw[qs (by decide) (by decide)];decide)];rfl
 rw[agj hX];simp only[qx1,qz0,qu8];rw[fI t0 t1,aF,aZ,qc,hx];dsimp only;simp only[Vx,qw2];rw[hc,qg (by simp)];simp only[q4e];rw[hp,ho];rfl
theorem QA(N n:Nat)(hN:W+5<=N)(K0:Bool->Option ((Bool×Unit)×Unit))(K1:Option ((Bool×Unit)×Unit)){r:qp}{L:List (List cK)}(hL:iD L):∀(c i:Nat),i<=L.length->L.length-i<c->
  SZ (DD X N) n K0 K1 c (i:Int) (dX r L)=K1
 | 0,i,_,h=>by omega
 | c+1,i,h1,h2=>by
  have Ai:=hL.n;have j5:(dX r L).2.1.length=L.length:=by unfold dX;simp
  simp only[SZ,quw,j5];by_cases hi:i<L.length
  .have hx:=hL.ops _ (ez hi);have e:ai (dX r L) (i:Int)=(L[i],0,false,[],[],()):=by unfold ai dX;dsimp only;rw[eB,qv (by simpa using hi),yg]
   have e2:(dX r L).2.1.getD i ([],0,false,[],[],())=(L[i],0,false,[],[],()):=by unfold ai at e;rw[eB]at e;exact e
   rw[qf (by omega),fI (by omega) (by omega),aF,eB,e2,ajW hX (by omega) _ hx.1 hx.2,qc];dsimp only;rw[cJ,aL,aaP hX (by omega) rfl (by omega) (by rw[j5];omega) (by rw[e]) (by rw[e]),qc];dsimp only;rw[cJ,aL,qu (by omega)];exact QA N n hN K0 K1 hL c (i+1) (by omega) (by omega)
  .rw[qg (by omega)]
theorem ajV(hn:W+6<=n){r:qp}(hr:aW r){L:List (List cK)}(hL:iD L):qvv (DD X n) (dX r L)=some ((true,()),()):=by
 obtain⟨n,rfl⟩:∃k,n=k+2:=⟨n-2,by omega⟩
 obtain⟨p,Xf⟩:∃p,n=p+1:=⟨n-1,by omega⟩
 have hW:=ej;have Ai:=hL.n;have j5:(dX r L).2.1.length=L.length:=by unfold dX;simp
 have me:(dX r L).1.2.1.length=L.length:=by unfold dX;simp
 have Ec:Yp (DD X (n+1)) (dX r L)=some ((true,()),()):=by rw[ah6 hX];simp only[YR,Zg,qwy];rw[Xf];simp only[Vz,qzx];rw[qg (by simp[dX])];simp only[qu4,qwz,JR,qzy];rw[qg (by simp[dX])];simp[q61,dX]
 rw[afH hX];simp only[qv1,qwp,qsv];have hm:=Q3 hX (n:=n+1) (by omega) ((o4 r).map fun v=>((v,0,0,()):lX)) (fun x hx=>by
  obtain⟨v,hv,rfl⟩:=eI.1 hx;unfold o4 at hv;obtain⟨q,hq,rfl⟩:=eI.1 hv;have:=BY hr (q:Int) (by have:=yl.1 hq;omega);exact⟨rfl,rfl,this.1,by dsimp only;omega⟩) (by rw[jA,uR]) L.length Ai.1 Ai.2
 refine dj (er (fun z=>qd z _) hm) ?_;rw[qc];dsimp only;rw[cJ,bf,me,j5,show((L.length:Int) != (L.length:Int))=false by simp,aL,yO hX (by omega),qc];dsimp only;rw[show(dX r L).2.2.1=0 from rfl,jD ⟨by decide,by decide⟩,cJ,aL,show(dX r L).2.2.2.2.2.1=r from rfl,Pt hX (by omega) hr,qc];dsimp only;rw[cJ,aL,Ec,qc];dsimp only;rw[cJ,aL];refine dj (QA hX (n+1) (n+1) (by omega) _ _ hL (n+1) 0 (eZ _) (by omega)) ?_;rfl
theorem PB(D:Den ctx)(n:Nat)(K:Int->aS->aS->Option ((aS×Bool×Unit)×Unit))(a:Int)(ws:List Int)(hl:ws.length<=1000)(z:aS)(d:List nt×Unit):∀(c i:Nat),i<=ws.length->ws.length-i<c->
  Th D n K c a (i:Int) z ((ws.take i).map (fun v=>((v,0,0,()):lX)),d) ws=K a z (ws.map (fun v=>((v,0,0,()):lX)),d)
 | 0,i,_,h2=>by omega
 | c+1,i,h0,h2=>by
  have hb:=i5;simp only[Th,YX];by_cases hi:i<ws.length
  .have ih:=PB D n K a ws hl z d c (i+1) (by omega) (by omega);rw[qf (by omega),ix hi,aF,eB,qv hi,qu (by omega)];rw[qf (by rw[jA,eP];omega)];rw[mO hi,pE]at ih;exact ih
  .rw[qg (by omega),show ws.take i=ws from jR (by omega)]
theorem O_(N n:Nat)(hN:1<=N)(K:Bool->aG->aG->Option ((aG×Bool×Unit)×Unit))(L:List (List cK))(hl:L.length<=1000)(h1:∀ops∈L,ops.length<=1000)(b:Bool)(z:aG)(a:aS)(e:Int×List gf×List Int×qp×Unit):∀(c i:Nat),i<=L.length->L.length-i<c->
  SV (DD X N) n K c L b (i:Int) z (a,(L.take i).map (fun ops=>((ops,0,false,[],[],()):cU)),e)=K b z (a,L.map (fun ops=>((ops,0,false,[],[],()):cU)),e)
 | 0,i,_,h2=>by omega
 | c+1,i,h0,h2=>by
  have hb:=i5;simp only[SV,qsu];by_cases hi:i<L.length
  .have ih:=O_ N n hN K L hl h1 b z a e c (i+1) (by omega) (by omega);have hd:=h1 _ (ez hi);obtain⟨N,rfl⟩:∃k,N=k+1:=⟨N-1,by omega⟩
   rw[qf (by omega),ix hi,aF,eB,qv hi,qu (by omega),afI hX];simp only[qv2,q91];rw[qf (by omega),qc];dsimp only;rw[qf (by rw[jA,eP];omega)];rw[mO hi,pE]at ih;exact ih
  .rw[qg (by omega),show L.take i=L from jR (by omega)]
theorem ai9(hn:W+8<=n){r:qp}(hr:aW r){L:List (List cK)}(hL:iD L):qtw (DD X n) r L=some ((dX r L,true,()),()):=by
 obtain⟨n,rfl⟩:∃k,n=k+2:=⟨n-2,by omega⟩
 have hW:=ej;have hb:=i5;have Ai:=hL.n;have hrl:=hr.len;have hmem:ZB (DD X (n+1)) r (L.length:Int)=some (((dX r L).1,true,()),()):=by
  rw[ai0 hX];simp only[Zn,Z8,qzk];obtain⟨ws,w1,w2,w3⟩:=acM hX (n:=n) (by omega) hr;have qB:ws=o4 r:=Qv w1 (uR r) (fun p hp=>by rw[w2 p hp,AM r hp];rfl);rw[w3,qc,qB];dsimp only;refine dj (PB hX (DD X n) n _ (L.length:Int) (o4 r) (by rw[uR];omega) ([],[],()) ([],()) n 0 (eZ _) (by rw[uR];omega)) ?_;simp only[q9w];rw[yO hX (by omega),qc];dsimp only;rw[jD ⟨by omega,by omega⟩,aF,show(decide (0<=(L.length:Int))&&decide ((L.length:Int)<=(L.length:Int))&&decide ((L.length:Int)<=(f9:Int)))=true by simp;omega,aF];have hm:=Q3 hX (n:=n) (by omega) ((o4 r).map fun v=>((v,0,0,()):lX)) (fun x hx=>by
   obtain⟨v,hv,rfl⟩:=eI.1 hx;unfold o4 at hv;obtain⟨q,hq,rfl⟩:=eI.1 hv;have:=BY hr (q:Int) (by have:=yl.1 hq;omega);exact⟨rfl,rfl,this.1,by dsimp only;omega⟩) (by rw[jA,uR]) L.length Ai.1 Ai.2
  rw[eB];refine dj (er (fun z=>qd z _) hm) ?_;rw[qc];dsimp only;rw[cJ,aL];rfl
 have KC:ZD (DD X (n+1)) r=some ((r,()),()):=by rw[aiv hX];simp only[Zs,Pd];rw[qf (by omega)];rfl
 rw[afe hX];simp only[qua,quu,qqz];rw[hmem,qc,KC,qc];dsimp only;refine dj (O_ hX (n+1) (n+1) (by omega) _ L (by omega) (fun ops h=>by have:=(hL.ops ops h).1;omega) true (([],[],()),[],0,[],[],([],0,()),()) (dX r L).1 (0,[],[],r,()) (n+1) 0 (eZ _) (by omega)) ?_;simp only[qzj];have hm:=ajV hX (n:=n+1) (by omega) hr hL;rw[cJ,aL];refine dj (er (fun z=>qd z _) hm) ?_;rw[qc];dsimp only;rw[cJ,aL];rfl
end
def q_(l:List gf)(r:qp)(ks:List Int):qp:=ks.foldl (fun s k=>jf s (ay l k).2.1 (ay l k).2.2.2.2.2.1.1) r
theorem Rl(l:List gf)(r:qp)(ks:List Int)(k:Int):q_ l r (ks++[k])=jf (q_ l r ks) (ay l k).2.1 (ay l k).2.2.2.2.2.1.1:=by unfold q_;rw[List.foldl_append];rfl
theorem Nz{l:List gf}{r:qp}{ks:List Int}{s:qp}(h:iE l r ks s):s=q_ l r ks:=by
 induction h with
 | nil=>rfl
 | snoc h1 h2 h3 ih=>rw[Rl,<-ih]
theorem ak4{l:List gf}{r:qp}{ks:List Int}{s:qp}(h:iE l r ks s):∀(i:Nat)(hi:i<ks.length),aW (q_ l r (ks.take i))/\Out (q_ l r (ks.take i)) (ay l ks[i]).2.1 (ay l ks[i]).2.2.2.2.2.1.1 (ay l ks[i]).2.2.2.2.2.1.2.1:=by
 induction h with
 | nil=>intro i hi;simp at hi
 | @snoc s ks k h1 h2 h3 ih=>
  intro i hi;by_cases e:i<ks.length
  .have:=ih i e;rw[pe (by omega),List.getElem_append_left e];exact this
  .have:i=ks.length:=by rw[cT,nG]at hi;omega
   subst this;have e2:=Nz h1;rw[pe (cq _),B_,<-e2,List.getElem_append_right (cq _)];simp only[Nat.sub_self,SB];exact⟨h2,h3⟩
section
variable {X:Ext} (hX:f4 X) {n:Nat}
include hX
theorem aby(hn:W+2<=n){m:aS}{k:Nat}{time:Int}{own:Int->Prop}(I:eX m k time own)(hk:k<=3){p:Int}(p0:0<=p)(p1:p<20):Yg (DD X n) m.1 m.2.1 p=some ((fX m p,()),()):=by
 obtain⟨n,rfl⟩:∃k,n=k+1:=⟨n-1,by omega⟩
 have hW:=ej;have hlen:=I.len;have me:=I.dw;have mE:m.1.getD p.toNat (0,0,0,())=wd m p:=rfl;rw[ahU hX];simp only[Yb,OH];rw[qs (by omega) (by omega),k_ hX (by omega),qc];dsimp only;rw[jD ⟨p0,by omega⟩,cJ,aL,fI p0 (by omega),aF,mE];rcases I.word p p0 p1 with h | ⟨u,u0,u1,uo,e,j,j0,j1,je⟩
 .rw[qf h.1,uZ h.1]
 .have al1:=(I.dy u u0 u1).len;have e2:(wd m p).2.1=u+1:=by rw[e];rfl
  have e3:(wd m p).2.2.1=(aq m u).1:=by rw[e];rfl
  have e1:wrap .i64 ((wd m p).2.1-1)=u:=by rw[qs (by omega) (by omega)];omega
  have Ac:m.2.1.getD u.toNat (0,0,[],(0,[],()),())=aq m u:=rfl;rw[qg (by omega),k_ hX (by omega),qc];dsimp only;rw[jD ⟨by omega,by omega⟩,cJ,aL,e1,fI u0 (by omega),aF,Ac,Q0 hX (by omega) _ (by omega),qc];dsimp only;rw[bz e3.symm,bA,zP u0 e];by_cases h2:(aq m u).2.1=2
  .rw[qf h2,aj h2]
  .rw[qg h2,af h2]
theorem Re(N n:Nat)(hN:W+2<=N)(K:List Int->Option ((List Int×Unit)×Unit)){m:aS}{k:Nat}{time:Int}{own:Int->Prop}(I:eX m k time own)(hk:k<=3){R:qp}(hv:∀p:Int,0<=p->p<20->fX m p=b_ R p):∀(c i:Nat),i<=20->20-i<c->
  S6 (DD X N) n K c m.1 m.2.1 20 (i:Int) ((o4 R).take i)=K (o4 R)
 | 0,i,_,h2=>by omega
 | c+1,i,h0,h2=>by
  have hb:=i5;have hl:=uR R;simp only[S6,qyo];by_cases hi:i<20
  .have ih:=Re N n hN K I hk hv c (i+1) (by omega) (by omega);have hi2:i<(o4 R).length:=by omega
   rw[qf (by omega),aby hX (by omega) I hk (by omega) (by omega),qc];dsimp only;rw[qf (by rw[eP];omega),qu (by omega),hv _ (by omega) (by omega)];rw[mO hi2]at ih;have:=AM R hi;rw[qv hi2]at this;rw[<-this];exact ih
  .rw[qg (by omega),show(o4 R).take i=o4 R from jR (by omega)]
theorem abu(hn:W+3<=n){m:aS}{k:Nat}{time:Int}{own:Int->Prop}(I:eX m k time own)(hk:k<=3){R:qp}(hv:∀p:Int,0<=p->p<20->fX m p=b_ R p):Yf (DD X n) m.1 m.2.1=some ((o4 R,()),()):=by
 obtain⟨n,rfl⟩:∃k,n=k+1:=⟨n-1,by omega⟩
 have hW:=ej;have hlen:=I.len;rw[ahQ hX];simp only[X9,Yz,qwc];rw[hlen];exact Re hX n n (by omega) _ I hk hv n 0 (by omega) (by omega)
theorem Md(N n:Nat)(hN:W+7<=N)(K:Bool->qp->qp->Option ((qp×Bool×Unit)×Unit)){m:aG}(I:Inv m)(hl:m.2.2.2.2.1.length<=1000){R:qp}(hR:iE m.2.2.2.1 m.2.2.2.2.2.1 m.2.2.2.2.1 R)(z:qp):∀(c i:Nat),i<=m.2.2.2.2.1.length->m.2.2.2.2.1.length-i<c->
  Tm (DD X N) n K c true m.2.2.2.2.1 (m.2.2.2.2.1.length:Int) (i:Int) m z (q_ m.2.2.2.1 m.2.2.2.2.2.1 (m.2.2.2.2.1.take i))=K true z R
 | 0,i,_,h2=>by omega
 | c+1,i,h0,h2=>by
  simp only[Tm,Y5];by_cases hi:i<m.2.2.2.2.1.length
  .have ih:=Md N n hN K I hl hR z c (i+1) (by omega) (by omega);have hk:=I.call.gI _ (ez hi);have hop:=(I.call.c _ hk.1 hk.2.1).op;obtain⟨r1,r2⟩:=ak4 hR i hi;have hd:List.getD m.2.2.2.1 (Int.toNat m.2.2.2.2.1[i]) (0,(0,0,0,()),0,0,0,(0,[],()),())=ay m.2.2.2.1 m.2.2.2.2.1[i]:=rfl;rw[qf (by omega),ix hi,aF,eB,qv hi,fI hk.1 hk.2.1,aF,aF,hd];generalize hs:q_ m.2.2.2.1 m.2.2.2.2.2.1 (m.2.2.2.2.1.take i)=s at *;have ha:=QZ hX (n:=N) (by omega) r1 hop r2;have hf:=akj hX (n:=N) (by omega) r1 hop r2;rw[show((s.1,s.2):qp)=s from rfl];refine dj (er (fun z=>qd z _) ha) ?_;rw[qc];refine dj (er (fun z=>qd z _) hf) ?_;rw[qc];dsimp only;rw[qu (by omega)];rw[mO hi,Rl,hs]at ih;exact ih
  .rw[qg (by omega),show m.2.2.2.2.1.take i=m.2.2.2.2.1 from jR (by omega),<-Nz hR]
theorem RT(hn:W+11<=n){m:aG}(I:Inv m)(ht:m.2.2.1<=100000){R:qp}(hR:iE m.2.2.2.1 m.2.2.2.2.2.1 m.2.2.2.2.1 R):VI (DD X n) m=some ((R,true,()),()):=by
 obtain⟨n,rfl⟩:∃k,n=k+1:=⟨n-1,by omega⟩
 have hW:=ej;have Am:=(IN hX I).o;rw[aiT hX];simp only[ZJ,ZZ,qyr];rw[ID hX (by omega) I ht,qc];dsimp only;rw[cJ,aL,UK hX (by omega) I.first,qc];dsimp only;exact Md hX n n (by omega) _ I Am hR ([],0,()) n 0 (eZ _) (by omega)
theorem abp(hn:W+12<=n){m:aG}(I:Inv m)(ht:m.2.2.1<=100000):Ye (DD X n) m=some ((true,()),()):=by
 obtain⟨n,rfl⟩:∃k,n=k+1:=⟨n-1,by omega⟩
 obtain⟨R,_,h2,_⟩:=I.rep;rw[ahP hX];simp only[X8,Oz];rw[RT hX (by omega) I ht h2,qc]
theorem ajU(hn:W+12<=n){m:aG}(I:Inv m)(ht:m.2.2.1<=100000):qtu (DD X n) m=some ((true,()),()):=by
 obtain⟨n,rfl⟩:∃k,n=k+1:=⟨n-1,by omega⟩
 obtain⟨R,h1,h2,h3⟩:=I.rep;have KU:=I.n;rw[ae6 hX];simp only[qt3,q6f];rw[RT hX (by omega) I ht h2,qc,ID hX (by omega) I ht,qc];dsimp only;rw[aF,abu hX (by omega) I.mem (by omega) h3,qc];dsimp only;rw[show((R.1,R.2):qp)=R from rfl,Q7 hX (by omega) h1,qc];dsimp only;rw[Mx hX (by omega) _ (by rw[uR];omega),qc]
theorem Mp(N n:Nat)(hN:1<=N)(K0:Bool->List gf->Int->Int->aG->Option ((Bool×Unit)×Unit))(K1:List gf->Int->Int->aG->Option ((Bool×Unit)×Unit))(l:List gf)(a b:Int)(d:List gf)(hd:d.length<=1000)(m:aG)(x:gf)
  (h:∀y∈d,y.1=x.1->0<=y.2.2.2.2.1/\y.2.2.2.2.1<x.2.2.1):∀(c i:Nat),i<=d.length->d.length-i<c->
  SS (DD X N) n K0 K1 c l a b d (d.length:Int) (i:Int) m x=K1 l a b m
 | 0,i,_,h2=>by omega
 | c+1,i,h0,h2=>by
  simp only[SS,qsa];by_cases hi:i<d.length
  .have ih:=Mp N n hN K0 K1 l a b d hd m x h c (i+1) (by omega) (by omega);have hy:=h _ (ez hi);rw[qf (by omega),ix hi,aF,eB,qv hi,qu (by omega)];by_cases e:d[i].1=x.1
   .obtain⟨y0,y1⟩:=hy e;obtain⟨N,rfl⟩:∃k,N=k+1:=⟨N-1,by omega⟩
    rw[qf e,ajE hX];simp only[q71,Pv];rw[qc];dsimp only;rw[bz (show d[i].2.2.2.2.1>=0 from y0),bA,bz y1,cJ,aL];exact ih
   .rw[qg e];exact ih
  .rw[qg (by omega)]
theorem Mo(N n:Nat)(hN:1<=N)(W5:W<=n)(K0:Bool->Option ((Bool×Unit)×Unit))(K1:Option ((Bool×Unit)×Unit)){m:aG}(I:Inv m)(hl:m.2.2.2.1.length<=1000):∀(c i:Nat),i<=m.2.2.2.1.length->m.2.2.2.1.length-i<c->
  Ir (DD X N) n K0 K1 c m.2.2.2.1 (m.2.2.2.1.length:Int) (i:Int) m=K1
 | 0,i,_,h2=>by omega
 | c+1,i,h0,h2=>by
  have hW:=ej;simp only[Ir,qr9];by_cases hi:i<m.2.2.2.1.length
  .have ih:=Mo N n hN W5 K0 K1 I hl c (i+1) (by omega) (by omega);have C:=I.call.c (i:Int) (by omega) (by omega);have hd:m.2.2.2.1.getD i (0,(0,0,0,()),0,0,0,(0,[],()),())=ay m.2.2.2.1 (i:Int):=by rw[tA];rfl
   have kM:=C.fin;rw[qf (by omega),ix hi,aF,eB,hd];have e:(bif decide ((ay m.2.2.2.1 (i:Int)).2.2.2.2.1>=0) then bif decide ((ay m.2.2.2.1 (i:Int)).2.2.2.1<0) then true else decide ((ay m.2.2.2.1 (i:Int)).2.2.2.1>(ay m.2.2.2.1 (i:Int)).2.2.2.2.1) else false)=false:=by
    by_cases a:(ay m.2.2.2.1 (i:Int)).2.2.2.2.1>=0
    .rw[bz a,bA,b7 (by omega),bf,b7 (by omega)]
    .rw[b7 a];rfl
   rw[e,aL,show(decide ((0:Nat)<=0)&&decide (0<=(i:Int))&&decide ((i:Int)<=(m.2.2.2.1.length:Int)))=true by simp;omega,aF];simp only[qqo];rw[show(0:Int).toNat=0 from rfl,jU];refine dj (Mp hX N n hN _ _ m.2.2.2.1 (m.2.2.2.1.length:Int) (i:Int) (m.2.2.2.1.take i) (by rw[eP];omega) m (ay m.2.2.2.1 (i:Int)) (fun y hy XC=>?_) n 0 (eZ _) (by rw[eP];omega)) ?_
   .obtain⟨j,hj,rfl⟩:=nH.1 hy;rw[eP]at hj;rw[List.getElem_take]at XC⊢;have e3:m.2.2.2.1[j]'(by omega)=ay m.2.2.2.1 (j:Int):=by rw[tA,qv (by omega)]
    rw[e3]at XC⊢;exact I.call.before (j:Int) (i:Int) (by omega) (by omega) (by omega) XC
   .simp only[qyj];rw[qu (by omega)];exact ih
  .rw[qg (by omega)]
theorem ajT(hn:W+11<=n){m:aG}(I:Inv m)(ht:m.2.2.1<=100000):qtt (DD X n) m=some ((true,()),()):=by
 obtain⟨n,rfl⟩:∃k,n=k+1:=⟨n-1,by omega⟩
 have hW:=ej;have jL:=IM hX I;rw[ae5 hX];simp only[qt2,quh,qqn];rw[ID hX (by omega) I ht,qc];dsimp only;rw[cJ,aL];refine dj (Mo hX n n (by omega) (by omega) _ _ I (by omega) n 0 (eZ _) (by omega)) ?_;rfl
theorem abb(hn:W+13<=n){m:aG}(I:Inv m)(ht:m.2.2.1<=100000):qxl (DD X n) m=some ((true,()),()):=by
 obtain⟨n,rfl⟩:∃k,n=k+1:=⟨n-1,by omega⟩
 rw[agD hX];simp only[qxw,Oi];rw[abp hX (by omega) I ht,qc];dsimp only;rw[aF,ajU hX (by omega) I ht,qc];dsimp only;rw[aF,ajT hX (by omega) I ht,qc]
end
theorem abj{r:qp}(hr:aW r){L:List (List cK)}(hL:iD L){who:List Int}(hw:uI L who 720):Inv (tI (dX r L) who)/\(tI (dX r L) who).2.2.1<=720/\(tI (dX r L) who).2.1.length=L.length/\who.length<=2000/\
  (∀t∈who,0<=t/\t<(dX r L).2.1.length)/\(dX r L).2.2.1+who.length<=100000:=by
 have j5:(dX r L).2.1.length=L.length:=by unfold dX;simp
 have hwl:=hw.1;have hall:∀t∈who,0<=t/\t<(dX r L).2.1.length:=fun t h=>by rw[j5];exact hw.2 t h
 have hX:f4 xY:=Sr;obtain⟨h1,h2,_⟩:=acH hX who (L6 hr hL) hall;have e:(dX r L).2.2.1=0:=rfl;refine⟨h1,by omega,by rw[ac8,j5],by omega,hall,by omega⟩
structure Kept (a b:aG):Prop where
 time:a.2.2.1<=b.2.2.1
 calls:a.2.2.2.1.length<=b.2.2.2.1.length
 each:∀k:Int,0<=k->k<a.2.2.2.1.length->(ay a.2.2.2.1 k).1=(ay b.2.2.2.1 k).1/\(ay a.2.2.2.1 k).2.1=(ay b.2.2.2.1 k).2.1/\(ay a.2.2.2.1 k).2.2.1=(ay b.2.2.2.1 k).2.2.1/\
  (0<=(ay a.2.2.2.1 k).2.2.2.1->(ay a.2.2.2.1 k).2.2.2.1=(ay b.2.2.2.1 k).2.2.2.1/\(ay a.2.2.2.1 k).2.2.2.2.2.1=(ay b.2.2.2.1 k).2.2.2.2.2.1)/\
  (0<=(ay a.2.2.2.1 k).2.2.2.2.1->(ay a.2.2.2.1 k).2.2.2.2.1=(ay b.2.2.2.1 k).2.2.2.2.1)
 order:∃o,b.2.2.2.2.1=a.2.2.2.2.1++o
 dw:b.1.2.1.length=a.1.2.1.length
 seq:∀t:Int,0<=t->t<a.1.2.1.length->(aq a.1 t).1<=(aq b.1 t).1
theorem Kept.refl(a:aG):Kept a a:=⟨eA _,cq _,fun k _ _=>⟨rfl,rfl,rfl,fun _=>⟨rfl,rfl⟩,fun _=>rfl⟩,⟨[],by simp⟩,rfl,fun t _ _=>eA _⟩
theorem Kept.trans{a b c:aG}(h:Kept a b)(h2:Kept b c):Kept a c:=by
 obtain⟨o,ho⟩:=h.order;obtain⟨o2,nX⟩:=h2.order;have hd:=h.dw;have hc:=h.calls;refine⟨BR h.time h2.time,nJ h.calls h2.calls,fun k k0 k1=>?_,⟨o++o2,by rw[nX,ho,eH]⟩,h2.dw.trans h.dw,fun t t0 t1=>BR (h.seq t t0 t1) (h2.seq t t0 (by omega))⟩;obtain⟨a1,a2,a3,a4,a5⟩:=h.each k k0 k1;obtain⟨b1,b2,b3,b4,b5⟩:=h2.each k k0 (by omega);refine⟨a1.trans b1,a2.trans b2,a3.trans b3,fun q=>?_,fun q=>?_⟩
 .obtain⟨c1,c2⟩:=a4 q;obtain⟨d1,d2⟩:=b4 (by omega);exact⟨c1.trans d1,c2.trans d2⟩
 .have c1:=a5 q;exact c1.trans (b5 (by omega))
theorem Kept.ai{a b:aG}(h:Kept a b)(t:Int)(x:cU):Kept a (cA b t x):=⟨h.time,h.calls,h.each,h.order,h.dw,h.seq⟩
theorem Kept.mem{a:aG}{x:aS}(hd:x.2.1.length=a.1.2.1.length)(hs:∀t:Int,0<=t->t<a.1.2.1.length->(aq a.1 t).1<=(aq x t).1):Kept a (cH a x):=
 ⟨eA _,cq _,fun k _ _=>⟨rfl,rfl,rfl,fun _=>⟨rfl,rfl⟩,fun _=>rfl⟩,⟨[],by show a.2.2.2.2.1=_;simp⟩,hd,hs⟩
open Classical in
noncomputable def ind(p:Prop):Int:=if p then 1 else 0
theorem vS{p:Prop}(h:p):ind p=1:=aj h
theorem o3{p:Prop}(h:¬ p):ind p=0:=af h
theorem nP(p:Prop):0<=ind p/\ind p<=1:=by unfold ind;split<;>omega
theorem Cl{p q:Prop}(h:p->q):ind p<=ind q:=by
 by_cases hp:p
 .rw[vS hp,vS (h hp)];exact eA _
 .rw[o3 hp];exact(nP q).1
theorem xM{p q:Prop}(h:p↔q):ind p=ind q:=er ind (propext h)
def fG(n:Nat)(T:Int)(f:Int->Int):Int:=
 (if (0:Int)<n/\(0:Int)≠T then f 0 else 0)+(if (1:Int)<n/\(1:Int)≠T then f 1 else 0)+(if (2:Int)<n/\(2:Int)≠T then f 2 else 0)
theorem JD{n:Nat}{T:Int}{f g:Int->Int}(h:∀U:Int,0<=U->U<n->U≠T->f U<=g U):fG n T f<=fG n T g:=by
 have one:∀U:Int,0<=U->(if U<n/\U≠T then f U else 0)<=(if U<n/\U≠T then g U else 0):=fun U u0=>by
  by_cases c:U<n/\U≠T
  .rw[aj c,aj c];exact h U u0 c.1 c.2
  .rw[af c,af c];exact eA _
 have a:=one 0 (by omega);have b:=one 1 (by omega);have c:=one 2 (by omega);unfold fG;omega
theorem H_{n:Nat}{T:Int}{f g:Int->Int}(h:∀U:Int,0<=U->U<n->U≠T->f U=g U):fG n T f=fG n T g:=
 Int.le_antisymm (JD fun U a b c=>kA (h U a b c)) (JD fun U a b c=>kA (h U a b c).symm)
theorem Bt{n:Nat}(hn:n<=3){T V d:Int}{f g:Int->Int}(v0:0<=V)(v1:V<n)(vT:V≠T)(hV:f V+d<=g V)(h:∀U:Int,0<=U->U<n->U≠T->U≠V->f U<=g U):fG n T f+d<=fG n T g:=by
 have one:∀U:Int,0<=U->U≠V->(if U<n/\U≠T then f U else 0)<=(if U<n/\U≠T then g U else 0):=fun U u0 uV=>by
  by_cases c:U<n/\U≠T
  .rw[aj c,aj c];exact h U u0 c.1 c.2 uV
  .rw[af c,af c];exact eA _
 have eV:∀f:Int->Int,(if V<n/\V≠T then f V else 0)=f V:=fun f=>aj ⟨v1,vT⟩;have e1:=eV f;have e2:=eV g;unfold fG;have hv:V=0\/V=1\/V=2:=by omega
 rcases hv with rfl | rfl | rfl
 .have b:=one 1 (by omega) (by omega);have c:=one 2 (by omega) (by omega);omega
 .have b:=one 0 (by omega) (by omega);have c:=one 2 (by omega) (by omega);omega
 .have b:=one 0 (by omega) (by omega);have c:=one 1 (by omega) (by omega);omega
theorem P_{n:Nat}{T:Int}{f:Int->Int}(h:∀U:Int,0<=U->U<n->U≠T->0<=f U):0<=fG n T f:=by
 have:=JD (f:=fun _=>0) h;have e:fG n T (fun _=>0)=0:=by unfold fG;split<;>split<;>split<;>rfl
 omega
def lf(m:aG)(U:Int):Int:=((ai m U).1.length:Int)-(ai m U).2.1
def gt(m:aG)(U:Int):dL:=(ai m U).2.2.2.1
def bad(m:aS)(g:dL):Prop:=∃x∈g,fX m x.1≠x.2.1
def lH(m:aG)(U:Int):Prop:=bw m U/\(aq m.1 U).2.1=2
noncomputable def Yv(m:aG)(U:Int):Int:=lf m U-ind (lH m U)
def pH(m:aG)(U:Int):Prop:=(bw m U/\(aq m.1 U).2.1=3)\/(¬ lH m U/\bad m.1 (gt m U))
noncomputable def AA(m:aG)(U:Int):Int:=lf m U+fG m.2.1.length U (Yv m)+ind (pH m U)
noncomputable def oW(m:aG)(T:Int):Int:=
 match (ai m T).2.2.2.2.1 with
 | h::_=>if h.1=T then 1+h.2.2.1+ind ((aq m.1 T).2.1≠1)+h.2.2.2.1 else 0
 | []=>0
noncomputable def j7(m:aG)(T:Int):Int:=ind ((ai m T).2.2.1=true)+(gt m T).length+oW m T
noncomputable def PP(m:aG)(T:Int):Int:=28 * AA m T-j7 m T
def lM(x:cU)(T:Int):Option gv:=if x.2.2.2.2.1=[] then none else if (au x).1=T then none else some (au x)
def n9(m:aG)(h:gv):Prop:=bw m h.1/\h.2.1=(aq m.1 h.1).1
def vk(m:aS)(U:Int):Prop:=∃p:Int,0<=p/\p<20/\wd m p=dM U (aq m U).1
def nS(m:aS)(C U:Int):Prop:=(aq m C).2.1=1/\∃i:Int,0<=i/\i<(aq m C).2.2.1.length/\(∀j:Int,0<=j->j<i->wd m (qi (aq m C).2.2.1 j).1=dM C (aq m C).1)/\wd m (qi (aq m C).2.2.1 i).1=dM U (aq m U).1
def Au(m:aG)(T U:Int):Prop:=∃C:Int,0<=C/\C<m.2.1.length/\C≠T/\C≠U/\nS m.1 C U
open Classical in
noncomputable def m7(m:aG)(T:Int)(h:gv):Int:=if n9 m h/\(aq m.1 h.1).2.1=1 then 1+10 * ind (Au m T h.1)+h.2.2.1 else 20+h.2.2.2.1
noncomputable def kO(m:aG)(T U:Int):Int:=match lM (ai m T) T with | none=>0 | some h=>if h.1=U then m7 m T h else 0
def qV(m:aG)(T U:Int):Prop:=∃h,lM (ai m T) T=some h/\h.1=U/\¬ n9 m h
def v9(m:aG)(T U:Int):Prop:=∃h,lM (ai m T) T=some h/\h.1=U/\n9 m h
def qU(m:aG)(T U:Int):Prop:=bw m U/\(aq m.1 U).2.1≠1/\¬ vk m.1 U/\¬ v9 m T U
noncomputable def QQ(m:aG)(T U:Int):Int:=29 * (AA m U+ind (qV m T U)-ind (qU m T U))-kO m T U
noncomputable def iU(m:aG)(T:Int):Int:=PP m T+fG m.2.1.length T (QQ m T)
structure jJ (m m':aG) (t:Int) (a:aS) (x:cU):Prop where
 n:m'.2.1.length=m.2.1.length
 mem:m'.1=a
 ai:∀U:Int,0<=U->ai m' U=if U=t then x else ai m U
inductive Kind (m:aG) (t:Int):aS->cU->Prop
 | zi:(ai m t).2.2.1=false->Kind m t m.1 ((ai m t).1,(ai m t).2.1,true,(ai m t).2.2.2)
 | push (v p:Int):(ai m t).2.2.1=true->((ai m t).2.2.2.2.1=[]\/∃k,(ai m t).2.2.2.2.1=[k]/\k.1=t/\nS m.1 t v)->0<=v->v<m.2.1.length->v≠t->bw m v->0<=p->p<20->wd m.1 p=dM v (aq m.1 v).1->
   Kind m t m.1 (qW (ai m t) (v,(aq m.1 v).1,0,0,()))
 | got (q:Int):(ai m t).2.2.1=true->(ai m t).2.2.2.2.1=[]->(0<=q/\q<20)->Kind m t m.1 (rP (ai m t) ((ai m t).2.2.2.1++[(q,fX m.1 q,())]))
 | now:(ai m t).2.2.1=true->(ai m t).2.2.2.2.1=[]->Kind m t m.1 ((ai m t).1,(ai m t).2.1+1,false,[],[],())
 | new (q:Int) (E:List eu) (r:fC):(ai m t).2.2.1=true->(ai m t).2.2.2.2.1=[]->(∀p:Int,0<=p->p<20->fX (bJ m.1 t ((aq m.1 t).1+1,1,E,r,())) p=fX m.1 p)->(0<=q/\q<20)->
   Kind m t (bJ m.1 t ((aq m.1 t).1+1,1,E,r,())) (qW (rP (ai m t) ((ai m t).2.2.2.1++[(q,fX m.1 q,())])) (t,(aq m.1 t).1+1,0,0,()))
 | qG:(ai m t).2.2.2.2.1≠[]->(au (ai m t)).1≠t->((au (ai m t)).2.1=(aq m.1 (au (ai m t)).1).1->(aq m.1 (au (ai m t)).1).2.1≠1/\¬ vk m.1 (au (ai m t)).1)->Kind m t m.1 (ja (ai m t))
 | yes:(ai m t).2.2.2.2.1≠[]->(au (ai m t)).2.1=(aq m.1 (au (ai m t)).1).1->(aq m.1 (au (ai m t)).1).2.1=1->
   (∀i:Int,0<=i->i<(aq m.1 (au (ai m t)).1).2.2.1.length->wd m.1 (qi (aq m.1 (au (ai m t)).1).2.2.1 i).1=dM (au (ai m t)).1 (aq m.1 (au (ai m t)).1).1)->
   Kind m t (bJ m.1 (au (ai m t)).1 ((aq m.1 (au (ai m t)).1).1,2,(aq m.1 (au (ai m t)).1).2.2)) (ai m t)
 | mz:(ai m t).2.2.2.2.1≠[]->(au (ai m t)).2.1=(aq m.1 (au (ai m t)).1).1->(aq m.1 (au (ai m t)).1).2.1=1->
   Kind m t m.1 (j_ (ai m t) ((au (ai m t)).1,(au (ai m t)).2.1,(au (ai m t)).2.2.1+1,(au (ai m t)).2.2.2))
 | swap (v:Int):(ai m t).2.2.2.2.1≠[]->(au (ai m t)).2.1=(aq m.1 (au (ai m t)).1).1->(aq m.1 (au (ai m t)).1).2.1=1->(au (ai m t)).1≠t->v≠(au (ai m t)).1->0<=v->v<m.2.1.length->bw m v->
   nS m.1 (au (ai m t)).1 v->Kind m t m.1 (j_ (ai m t) (v,(aq m.1 v).1,0,0,()))
 | lay (p:Int):(ai m t).2.2.2.2.1≠[]->(au (ai m t)).2.1=(aq m.1 (au (ai m t)).1).1->(aq m.1 (au (ai m t)).1).2.1=1->0<=p->p<20->(wd m.1 p).2.1=0->
   (∀q:Int,0<=q->q<20->fX (ep m.1 p (dM (au (ai m t)).1 (au (ai m t)).2.1)) q=fX m.1 q)->
   Kind m t (ep m.1 p (dM (au (ai m t)).1 (au (ai m t)).2.1)) (j_ (ai m t) ((au (ai m t)).1,(au (ai m t)).2.1,(au (ai m t)).2.2.1+1,(au (ai m t)).2.2.2))
 | no (i:Int):(ai m t).2.2.2.2.1≠[]->(au (ai m t)).2.1=(aq m.1 (au (ai m t)).1).1->(aq m.1 (au (ai m t)).1).2.1=1->0<=i->i<(aq m.1 (au (ai m t)).1).2.2.1.length->
   (∀j:Int,0<=j->j<i->wd m.1 (qi (aq m.1 (au (ai m t)).1).2.2.1 j).1=dM (au (ai m t)).1 (aq m.1 (au (ai m t)).1).1)->
   (wd m.1 (qi (aq m.1 (au (ai m t)).1).2.2.1 i).1).2.1=0->(wd m.1 (qi (aq m.1 (au (ai m t)).1).2.2.1 i).1).1≠(qi (aq m.1 (au (ai m t)).1).2.2.1 i).2.1->
   (∀q:Int,0<=q->q<20->fX (bJ m.1 (au (ai m t)).1 ((aq m.1 (au (ai m t)).1).1,3,(aq m.1 (au (ai m t)).1).2.2)) q=fX m.1 q)->
   Kind m t (bJ m.1 (au (ai m t)).1 ((aq m.1 (au (ai m t)).1).1,3,(aq m.1 (au (ai m t)).1).2.2)) (ai m t)
 | pT:(ai m t).2.2.2.2.1≠[]->(au (ai m t)).2.1=(aq m.1 (au (ai m t)).1).1->(aq m.1 (au (ai m t)).1).2.1≠1->
   Kind m t m.1 (j_ (ai m t) ((au (ai m t)).1,(au (ai m t)).2.1,(au (ai m t)).2.2.1,(au (ai m t)).2.2.2.1+1,()))
 | oN (p y:Int):(ai m t).2.2.2.2.1≠[]->(au (ai m t)).2.1=(aq m.1 (au (ai m t)).1).1->(aq m.1 (au (ai m t)).1).2.1≠1->0<=p->p<20->wd m.1 p=dM (au (ai m t)).1 (au (ai m t)).2.1->
   (∀q:Int,0<=q->q<20->fX (ep m.1 p (y,0,0,())) q=fX m.1 q)->
   Kind m t (ep m.1 p (y,0,0,())) (j_ (ai m t) ((au (ai m t)).1,(au (ai m t)).2.1,(au (ai m t)).2.2.1,(au (ai m t)).2.2.2.1+1,()))
 | pS:(ai m t).2.2.2.2.1≠[]->(au (ai m t)).1=t->(aq m.1 t).2.1=2->¬ vk m.1 t->Kind m t m.1 ((ai m t).1,(ai m t).2.1+1,false,[],[],())
 | CL:(ai m t).2.2.2.2.1≠[]->(au (ai m t)).1=t->(aq m.1 t).2.1=3->¬ vk m.1 t->Kind m t m.1 ((ai m t).1,(ai m t).2.1,(ai m t).2.2.1,[],[],())
theorem ac6{m:aG}(I:Inv m){u:Int}(u0:0<=u)(h:∀i:Int,0<=i->i<(aq m.1 u).2.2.1.length->wd m.1 (qi (aq m.1 u).2.2.1 i).1≠dM u (aq m.1 u).1):¬ vk m.1 u:=by
 rintro⟨p,p0,p1,e⟩;rcases I.mem.word p p0 p1 with q | ⟨v,v0,v1,vo,vm,i,i0,i1,ie⟩
 .exact vf q.1 u0 e
 .obtain⟨rfl,_⟩:=tE (vm.symm.trans e);exact h i i0 i1 (by rw[ie];exact e)
theorem RJ{m:aG}{t:Int}(t0:0<=t)(t1:t<m.2.1.length)(a:aS)(x:cU):jJ m (cA (cH m a) t x) t a x:=
 ⟨oZ _ _ _,rfl,fun U u0=>Bv _ ⟨t0,t1⟩ u0⟩
theorem abU{m m':aG}{t:Int}(e:m'.2.1=m.2.1){a:aS}(ha:m'.1=a):jJ m m' t a (ai m t):=
 ⟨by rw[e],ha,fun U u0=>by
  rw[zO e U];by_cases q:U=t
  .rw[aj q,q]
  .rw[af q]⟩
theorem abX{m:aG}(I:Inv m){t:Int}(t0:0<=t)(t1:t<m.2.1.length)(hs:(ai m t).2.2.2.2.1≠[])(h2:∀k k',(ai m t).2.2.2.2.1=[k,k']->k'.1≠t):∃a x,Kind m t a x/\jJ m (kE m t) t a x:=by
 have T:=I.th t t0 t1;have ho:=T.Aq hs;have H:=T.dZ _ (mH hs);have hw:=fun e=>T.own _ (mH hs) e;have Uu:=Mn T hs;have kd:∀{a x},(hk:Kind m t a x)->kE m t=cA (cH m a) t x->∃a x,Kind m t a x/\jJ m (kE m t) t a x:=fun {a x} hk e=>⟨a,x,hk,by rw[e];exact RJ t0 t1 a x⟩
 have K1:=@Kind.qG m t hs;have K2:=@Kind.yes m t hs;have K3:=@Kind.mz m t hs;have K4:=fun v=>@Kind.swap m t v hs;have K5:=fun p=>@Kind.lay m t p hs;have K6:=fun i=>@Kind.no m t i hs;have K7:=@Kind.pT m t hs;have K8:=fun p y=>@Kind.oN m t p y hs;have K9:=@Kind.pS m t hs;have K10:=@Kind.CL m t hs;have hone:∀k,(ai m t).2.2.2.2.1=[k]->au (ai m t)=k:=fun k e=>by unfold au;rw[e];rfl
 have Xw:∀k k',(ai m t).2.2.2.2.1=[k,k']->au (ai m t)=k':=fun k k' e=>by unfold au;rw[e];rfl
 generalize hh:au (ai m t)=h at *;have u0:=H.t.1;have u1:=H.t.2;by_cases hd:(aq m.1 h.1).1≠h.2.1
 .have e:q7 m.1 h=(m.1,h,dH,2,()):=by unfold q7;rw[aj hd]
  have hne:h.1≠t:=fun q=>hd (by rw[q];exact(hw q).symm);refine kd (K1 hne (fun q=>absurd q.symm hd)) ?_;unfold kE;rw[hh,e];dsimp only;rw[af (by decide),aj rfl,aj hne]
 have hd':h.2.1=(aq m.1 h.1).1:=by omega
 obtain⟨c1,c2,c3,c4⟩:=H.cur hd';by_cases hst:(aq m.1 h.1).2.1=1
 .have Aa:∀j:Int,0<=j->j<h.2.2.1->wd m.1 (qi (aq m.1 h.1).2.2.1 j).1=dM h.1 (aq m.1 h.1).1:=fun j a b=>by rw[<-hd'];exact(c3 hst).2 j a b
  by_cases d8:((aq m.1 h.1).2.2.1.length:Int)<=h.2.2.1
  .have e:q7 m.1 h=(bJ m.1 h.1 ((aq m.1 h.1).1,2,(aq m.1 h.1).2.2),h,dH,3,()):=by unfold q7;rw[af hd,aj hst,aj d8]
   refine⟨_,_,K2 hd' hst (fun i i0 i1=>Aa i i0 (by omega)),?_⟩;unfold kE;rw[hh,e];dsimp only;rw[af (by decide),af (by decide),aj rfl,Uu];have e2:(iB (cH m (bJ m.1 h.1 ((aq m.1 h.1).1,2,(aq m.1 h.1).2.2))) h.1 (aq m.1 h.1).2.2.2.1).2.1=m.2.1:=by unfold iB;split<;>rfl
   have e4:(iB (cH m (bJ m.1 h.1 ((aq m.1 h.1).1,2,(aq m.1 h.1).2.2))) h.1 (aq m.1 h.1).2.2.2.1).1=bJ m.1 h.1 ((aq m.1 h.1).1,2,(aq m.1 h.1).2.2):=by unfold iB;split<;>rfl
   have e3:=zO e2 t;rw[<-e3,Rr t0 (by rw[e2];exact t1),e3];exact abU e2 e4
  have hlt:h.2.2.1<(aq m.1 h.1).2.2.1.length:=by omega
  have i0:=H.rU.1;have iR:=I.mem.gU u0 u1 i0 hlt;by_cases hmk:wd m.1 (qi (aq m.1 h.1).2.2.1 h.2.2.1).1=dM h.1 h.2.1
  .have e:q7 m.1 h=(m.1,(h.1,h.2.1,h.2.2.1+1,h.2.2.2),dH,0,()):=by unfold q7;rw[af hd,aj hst,af d8,aj hmk]
   refine kd (K3 hd' hst) ?_;unfold kE;rw[hh,e];dsimp only;rw[af (by decide),af (by decide),af (by decide)]
  by_cases xo:(wd m.1 (qi (aq m.1 h.1).2.2.1 h.2.2.1).1).2.1≠0
  .have e:q7 m.1 h=(m.1,h,((wd m.1 (qi (aq m.1 h.1).2.2.1 h.2.2.1).1).2.1-1,(wd m.1 (qi (aq m.1 h.1).2.2.1 h.2.2.1).1).2.2.1,0,0,()),1,()):=by unfold q7;rw[af hd,aj hst,af d8,af hmk,aj xo]
   rcases I.mem.word _ iR.1.1 iR.1.2 with hq | ⟨v,v0,v1,vo,vm,j,j0,j1,je⟩
   .exact absurd hq.1 xo
   have e2:((wd m.1 (qi (aq m.1 h.1).2.2.1 h.2.2.1).1).2.1-1,(wd m.1 (qi (aq m.1 h.1).2.2.1 h.2.2.1).1).2.2.1,(0:Int),(0:Int),())=(v,(aq m.1 v).1,0,0,()):=by rw[vm];simp only[dM];rw[show v+1-1=v by omega]
   rw[e2]at e;have Uv:v≠h.1:=fun q=>hmk (by rw[vm,q,hd']);have f8:nS m.1 h.1 v:=⟨hst,h.2.2.1,i0,hlt,Aa,vm⟩
   by_cases hc:h.1=t/\(ai m t).2.2.2.2.1.length=1
   .have hk:∃k,(ai m t).2.2.2.2.1=[k]:=by
     match hq:(ai m t).2.2.2.2.1,hc.2 with
     | [k],_=>exact⟨k,rfl⟩
    obtain⟨k,hk⟩:=hk;have Em:k.1=t:=by rw[<-hone k hk];exact hc.1
    refine kd (Kind.push v _ ho (.inr ⟨k,hk,Em,hc.1 ▸ f8⟩) v0 v1 (by rw[<-hc.1];exact Uv) vo iR.1.1 iR.1.2 vm) ?_;unfold kE;rw[hh,e];dsimp only;rw[aj rfl,aj hc]
   .have hne:h.1≠t:=fun q=>by
     rcases T.st with z | ⟨k,z⟩ | ⟨k,k',z,zt⟩
     .exact hs z
     .exact hc ⟨q,by rw[z];rfl⟩
     .exact h2 k k' z (by rw[<-Xw k k' z];exact q)
    refine kd (K4 v hd' hst hne Uv v0 v1 vo f8) ?_;unfold kE;rw[hh,e];dsimp only;rw[aj rfl,af hc]
  have hw0:(wd m.1 (qi (aq m.1 h.1).2.2.1 h.2.2.1).1).2.1=0:=by omega
  by_cases hold:(wd m.1 (qi (aq m.1 h.1).2.2.1 h.2.2.1).1).1=(qi (aq m.1 h.1).2.2.1 h.2.2.1).2.1
  .have e:q7 m.1 h=(ep m.1 (qi (aq m.1 h.1).2.2.1 h.2.2.1).1 (dM h.1 h.2.1),(h.1,h.2.1,h.2.2.1+1,h.2.2.2),dH,0,()):=by unfold q7;rw[af hd,aj hst,af d8,af hmk,af xo,aj hold]
   obtain⟨_,hV,_⟩:=EZ I.mem u0 u1 hst i0 hlt hw0 hold Aa;rw[<-hd']at hV;refine kd (K5 _ hd' hst iR.1.1 iR.1.2 hw0 hV) ?_;unfold kE;rw[hh,e];dsimp only;rw[af (by decide),af (by decide),af (by decide)]
  .have e:q7 m.1 h=(bJ m.1 h.1 ((aq m.1 h.1).1,3,(aq m.1 h.1).2.2),h,dH,0,()):=by unfold q7;rw[af hd,aj hst,af d8,af hmk,af xo,af hold]
   obtain⟨_,_,hV⟩:=HU I.mem u0 u1 (c:=3) hst (.inr rfl);refine kd (K6 h.2.2.1 hd' hst i0 hlt Aa hw0 hold (fun q a b=>by rw[hV q a b,af (by omega)])) ?_;unfold kE;rw[hh,e];dsimp only;rw[af (by decide),af (by decide),af (by decide),Uu]
 .by_cases kM:((aq m.1 h.1).2.2.1.length:Int)<=h.2.2.2.1
  .have e:q7 m.1 h=(m.1,h,dH,2,()):=by unfold q7;rw[af hd,af hst,aj kM]
   have hnm:¬ vk m.1 h.1:=ac6 I u0 fun i a b=>by rw[<-hd'];exact c4 hst i a (by omega)
   by_cases hne:h.1≠t
   .refine kd (K1 hne (fun _=>⟨hst,hnm⟩)) ?_;unfold kE;rw[hh,e];dsimp only;rw[af (by decide),aj rfl,aj hne]
   have CT:h.1=t:=by omega
   have hown:=(JA T hs (by rw[hh];exact CT)).1;have oT:=I.mem.kV t t0 t1 hown;have Xp:=(I.mem.dy t t0 t1).st.2 oT;rw[CT]at hst hnm;by_cases hy:(aq m.1 t).2.1=2
   .refine⟨_,_,K9 CT hy hnm,?_⟩;unfold kE;rw[hh,e];dsimp only;rw[af (by decide),aj rfl,af hne,aj hy];have h2:(ig (cH m m.1) t (aq m.1 t).2.2.2.1).2.1=m.2.1:=by unfold ig;split<;>rfl
    have h1:(ig (cH m m.1) t (aq m.1 t).2.2.2.1).1=m.1:=by unfold ig;split<;>rfl
    unfold d_;refine⟨by rw[oZ,h2],h1,fun u u0=>?_⟩;rw[qR (by rw[h2];exact⟨t0,t1⟩) u0,zO h2 u];rfl
   .refine kd (K10 CT (by omega) hnm) ?_;unfold kE;rw[hh,e];dsimp only;rw[af (by decide),aj rfl,af hne,af hy]
  .have hlt:h.2.2.2.1<(aq m.1 h.1).2.2.1.length:=by omega
   have i0:=H.fin.1;have iR:=I.mem.gU u0 u1 i0 hlt;by_cases hmk:wd m.1 (qi (aq m.1 h.1).2.2.1 h.2.2.2.1).1=dM h.1 h.2.1
   .have e:q7 m.1 h=(ep m.1 (qi (aq m.1 h.1).2.2.1 h.2.2.2.1).1 (if (aq m.1 h.1).2.1=2 then (qi (aq m.1 h.1).2.2.1 h.2.2.2.1).2.2.1 else (qi (aq m.1 h.1).2.2.1 h.2.2.2.1).2.1,0,0,()),(h.1,h.2.1,h.2.2.1,h.2.2.2.1+1,()),dH,0,()):=by unfold q7;rw[af hd,af hst,af kM,aj hmk]
    obtain⟨_,hV,_⟩:=MU I.mem u0 u1 hst i0 hlt (by rw[<-hd'];exact hmk);refine kd (K8 _ _ hd' hst iR.1.1 iR.1.2 hmk hV) ?_;unfold kE;rw[hh,e];dsimp only;rw[af (by decide),af (by decide),af (by decide)]
   .have e:q7 m.1 h=(m.1,(h.1,h.2.1,h.2.2.1,h.2.2.2.1+1,()),dH,0,()):=by unfold q7;rw[af hd,af hst,af kM,af hmk]
    refine kd (K7 hd' hst) ?_;unfold kE;rw[hh,e];dsimp only;rw[af (by decide),af (by decide),af (by decide)]
theorem abY{m:aG}(I:Inv m){t:Int}(t0:0<=t)(t1:t<m.2.1.length)(ho:(ai m t).2.2.1=true)(hs:(ai m t).2.2.2.2.1=[])(oT:(aq m.1 t).1+1<=m.2.2.1):∃a x,Kind m t a x/\jJ m (tJ m t) t a x:=by
 have T:=I.th t t0 t1;have hop:=T.op ho;have iZ:=zQ (t:=t) hs;have hno:¬ bw m t:=by unfold bw;rw[iZ];simp
 obtain⟨q,B,hq⟩:=T.read ho iZ;have nL:=T.along ho;obtain⟨Ja,zw⟩:=J4 hop T.got nL;have oz:C9 (ai m t)=q/\(0<=q/\q<20)/\q∉gY (ai m t).2.2.2.1/\(ai m t).2.2.2.1.length<8:=by
  rcases zw with h | ⟨q',B',h,h2,h3,h4,h5⟩
  .rw[hq]at h;have:=er List.length h.1;simp at this
  .rw[hq]at h;have:=FU h;simp only[eY]at this;obtain⟨rfl,_⟩:=this;exact⟨h2,h3,h4,h5⟩
 obtain⟨oz,pZ,Xi,hlen⟩:=oz;have kd:∀{a x},(hk:Kind m t a x)->tJ m t=cA (cH m a) t x->∃a x,Kind m t a x/\jJ m (tJ m t) t a x:=fun {a x} hk e=>⟨a,x,hk,by rw[e];exact RJ t0 t1 a x⟩
 have Ek:ir m (ai m t)=(ai m t).2.2.2.1++[(q,(wd m.1 q).1,())]:=by unfold ir;rw[oz]
 by_cases hw:(wd m.1 q).2.1≠0
 .rcases I.mem.word q pZ.1 pZ.2 with h | ⟨v,v0,v1,vo,vm,j,j0,j1,je⟩
  .exact absurd h.1 hw
  have e2:((wd m.1 q).2.1-1,(wd m.1 q).2.2.1,(0:Int),(0:Int),())=(v,(aq m.1 v).1,0,0,()):=by rw[vm];simp only[dM];rw[show v+1-1=v by omega]
  refine kd (Kind.push v q ho (.inl hs) v0 v1 (fun e=>hno (by rw[<-e];exact vo)) vo pZ.1 pZ.2 vm) ?_;unfold tJ;rw[oz,aj hw,e2];rfl
 have hw0:(wd m.1 q).2.1=0:=by omega
 have hv:(wd m.1 q).1=fX m.1 q:=(uZ hw0).symm;rw[hv]at Ek;by_cases h1:(gh (aV (ai m t)) (ir m (ai m t))).2.1=false
 .refine kd (Kind.got q ho hs pZ) ?_;unfold tJ;rw[oz,af hw,aj h1,Ek];rfl
 by_cases h2:(gh (aV (ai m t)) (ir m (ai m t))).1.1=true
 .refine⟨_,_,Kind.now ho hs,?_⟩;unfold tJ;rw[oz,af hw,af h1,aj h2];generalize (gh (aV (ai m t)) (ir m (ai m t))).1.2.1=s;have a1:(ig (iB m t s) t s).2.1=m.2.1:=by
   have h3:(iB m t s).2.1=m.2.1:=by unfold iB;split<;>rfl
   unfold ig;split
   .exact h3
   .exact h3
  have a2:(ig (iB m t s) t s).1=m.1:=by
   have h3:(iB m t s).1=m.1:=by unfold iB;split<;>rfl
   unfold ig;split
   .exact h3
   .exact h3
  have a3:ai (iB m t s) t=ai m t:=zO (by unfold iB;split<;>rfl) t;unfold d_;refine⟨by rw[oZ,a1],a2,fun u u0=>?_⟩;rw[qR (by rw[a1];exact⟨t0,t1⟩) u0,zO a1 u,a3]
 .have hV:∀p:Int,0<=p->p<20->fX (bJ m.1 t ((aq m.1 t).1+1,1,(gh (aV (ai m t)) (ir m (ai m t))).1.2.2.1,(gh (aV (ai m t)) (ir m (ai m t))).1.2.1,())) p=fX m.1 p:=fun p p0 p1=>by
   have me:=I.mem.dw;have hnm:=Rf I.mem t0 hno p0 p1;have e:=fun v (v0:0<=v)=>n5 (m:=m.1) (u:=t) (t:=v) (d:=((aq m.1 t).1+1,1,(gh (aV (ai m t)) (ir m (ai m t))).1.2.2.1,(gh (aV (ai m t)) (ir m (ai m t))).1.2.1,())) ⟨t0,by omega⟩ v0;rcases I.mem.word p p0 p1 with z | ⟨v,v0,v1,vo,vm,_⟩
   .rw[uZ (m:=m.1) z.1,uZ (by rw[Ig];exact z.1),Ig]
   .have hvt:v≠t:=fun z=>hno (z ▸ vo);rw[zP v0 vm,zP (u:=v) v0 (by rw[Ig,e v v0,af hvt];exact vm),e v v0,af hvt]
  refine kd (Kind.new q _ _ ho hs hV pZ) ?_;unfold tJ;rw[oz,af hw,af h1,af h2];rw[Ek]
theorem Rb{m:aG}(I:Inv m){t:Int}(t0:0<=t)(t1:t<m.2.1.length)(h2:∀k k',(ai m t).2.2.2.2.1=[k,k']->k'.1≠t):∃a x,Kind (tick m) t a x/\jJ (tick m) (vn m t) t a x:=by
 unfold vn;by_cases c1:(ai m t).2.2.1=false
 .rw[aj c1];refine⟨_,_,Kind.zi (m:=tick m) c1,?_⟩;unfold pO;exact⟨oZ _ _ _,rfl,fun U u0=>qR (m:=(m.1,m.2.1,_)) ⟨t0,t1⟩ u0⟩
 rw[af c1];have zj:(ai m t).2.2.1=true:=by simpa using c1
 by_cases c2:(ai m t).2.2.2.2.1≠[]
 .rw[aj c2];exact abX (IQ I) t0 t1 c2 h2
 .rw[af c2];refine abY (IQ I) t0 t1 zj (by show(ai m t).2.2.2.2.1=[];simpa using c2) ?_;have:=(I.mem.dy t t0 t1).seq.2;show(aq m.1 t).1+1<=m.2.2.1+1;omega
theorem alh{l:List eu}(h:lJ l){i j:Int}(i0:0<=i)(ij:i<j)(j1:j<l.length):(qi l i).1<(qi l j).1:=by unfold qi;rw[qv (show i.toNat<l.length by omega),qv (show j.toNat<l.length by omega)];exact x9.1 h i.toNat j.toNat (by omega) (by omega) (by omega)
theorem LX{m:aG}(I:Inv m){C U:Int}(c0:0<=C)(c1:C<m.2.1.length)(h:nS m.1 C U)(hne:C≠U):∃p:Int,(0<=p/\p<20)/\wd m.1 p=dM U (aq m.1 U).1/\∀q:Int,0<=q->q<20->wd m.1 q=dM C (aq m.1 C).1->q<p:=by
 obtain⟨hs,i,i0,i1,hb,hi⟩:=h;have he:=I.mem.gU c0 c1 i0 i1;refine⟨_,he.1,hi,fun q q0 q1 hq=>?_⟩;rcases I.mem.word q q0 q1 with z | ⟨v,v0,v1,vo,vm,j,j0,j1,je⟩
 .exact absurd hq (vf z.1 c0)
 .obtain⟨rfl,_⟩:=tE (vm.symm.trans hq);have hji:j<i:=by
   rcases B8 j i with z | z | z
   .exact z
   .rw[z]at je;rw[je]at hi;exact absurd (tE (hi.symm.trans hq)).1.symm hne
   .have:=I.mem.pre v c0 c1 hs i j i0 z j1 (by rw[je];exact hq);exact absurd (tE (this.symm.trans hi)).1 hne
  have oO:=(I.mem.dy v c0 c1).z4;rw[<-je];exact alh oO j0 hji i1
theorem UB{m:aG}(I:Inv m){A B:Int}(a0:0<=A)(a1:A<m.2.1.length)(b0:0<=B)(b1:B<m.2.1.length)(h:nS m.1 A B)(h2:nS m.1 B A)(hne:A≠B):False:=by obtain⟨p,pr,pm,pl⟩:=LX I a0 a1 h hne;obtain⟨q,qr,qm,ql⟩:=LX I b0 b1 h2 hne.symm;have:=pl q qr.1 qr.2 qm;have:=ql p pr.1 pr.2 pm;omega
theorem no3{m:aG}(I:Inv m){A B C:Int}(a0:0<=A)(a1:A<m.2.1.length)(b0:0<=B)(b1:B<m.2.1.length)(c0:0<=C)(c1:C<m.2.1.length)(h:nS m.1 A B)(h2:nS m.1 B C)(h3:nS m.1 C A)
  (n1:A≠B) (n2:B≠C) (n3:C≠A):False:=by
 obtain⟨p,pr,pm,pl⟩:=LX I a0 a1 h n1;obtain⟨q,qr,qm,ql⟩:=LX I b0 b1 h2 n2;obtain⟨s,sr,sm,sl⟩:=LX I c0 c1 h3 n3;have:=pl s sr.1 sr.2 sm;have:=ql p pr.1 pr.2 pm;have:=sl q qr.1 qr.2 qm;omega
theorem ajc{m:aS}{C U:Int}(h:nS m C U)(hne:C≠U)(hall:∀i:Int,0<=i->i<(aq m C).2.2.1.length->wd m (qi (aq m C).2.2.1 i).1=dM C (aq m C).1):False:=by obtain⟨hs,i,i0,i1,hb,hi⟩:=h;exact hne (tE ((hall i i0 i1).symm.trans hi)).1
theorem ail{m:aS}{C U:Int}(u0:0<=U)(c0:0<=C)(h:nS m C U)(hne:C≠U){k:Int}(k0:0<=k)(k1:k<(aq m C).2.2.1.length)(hb:∀j:Int,0<=j->j<k->wd m (qi (aq m C).2.2.1 j).1=dM C (aq m C).1)
  (hk:(wd m (qi (aq m C).2.2.1 k).1).2.1=0):False:=by
 obtain⟨hs,i,i0,i1,Ue,hi⟩:=h;rcases B8 i k with z | z | z
 .exact hne (tE ((hb i i0 z).symm.trans hi)).1
 .rw[z]at hi;exact vf hk u0 hi
 .exact vf hk c0 (Ue k k0 z)
theorem TP{m:aG}(I:Inv m){t:Int}(t0:0<=t)(t1:t<m.2.1.length){a:aS}{x:cU}(K:Kind m t a x){C U:Int}(c0:0<=C)(c1:C<m.2.1.length)(u0:0<=U)(u1:U<m.2.1.length)(hne:C≠U)
  (hU:(aq m.1 U).2.1=1) (I7:(aq a U).2.1=1) (h:nS m.1 C U):nS a C U:=by
 have me:=I.mem.dw;have hlen:=I.mem.len;have T:=I.th t t0 t1;have ug:∀u:Int,0<=u->u<m.2.1.length->∀d:nt,u≠C->u≠U->nS (bJ m.1 u d) C U:=fun u a0 a1 d n1 n2=>by
  obtain⟨hs,i,i0,i1,hb,hi⟩:=h;have e:∀v:Int,0<=v->v≠u->aq (bJ m.1 u d) v=aq m.1 v:=fun v v0 q=>by rw[n5 ⟨a0,by omega⟩ v0,af q]
  have eC:=e C c0 (fun q=>n1 q.symm);have eU:=e U u0 (fun q=>n2 q.symm);unfold nS;rw[eC,eU];exact⟨hs,i,i0,i1,hb,hi⟩
 have oC:∀(p:Int)(w:lX),0<=p->p<20->wd m.1 p≠dM C (aq m.1 C).1->wd m.1 p≠dM U (aq m.1 U).1->nS (ep m.1 p w) C U:=fun p w p0 p1 q1 q2=>by
  obtain⟨hs,i,i0,i1,hb,hi⟩:=h;have hw:∀q:Int,0<=q->q≠p->wd (ep m.1 p w) q=wd m.1 q:=fun q q0 qn=>by rw[Ff (by omega) q0,af qn]
  refine⟨hs,i,i0,i1,fun j j0 j1=>?_,?_⟩
  .have he:=I.mem.gU c0 c1 j0 (show j<(aq m.1 C).2.2.1.length by omega);show wd (ep m.1 p w) (qi (aq m.1 C).2.2.1 j).1=dM C (aq m.1 C).1;rw[hw _ he.1.1 (fun z=>q1 (by rw[<-z];exact hb j j0 j1))];exact hb j j0 j1
  .have he:=I.mem.gU c0 c1 i0 i1;show wd (ep m.1 p w) (qi (aq m.1 C).2.2.1 i).1=dM U (aq m.1 U).1;rw[hw _ he.1.1 (fun z=>q2 (by rw[<-z];exact hi))];exact hi
 cases K with
 | zi=>exact h
 | push=>exact h
 | got=>exact h
 | now=>exact h
 | qG=>exact h
 | mz=>exact h
 | swap=>exact h
 | pT=>exact h
 | pS=>exact h
 | CL=>exact h
 | new q E r ho hs hv=>
  have hno:¬ bw m t:=by unfold bw;rw[zQ hs];simp
  exact ug t t0 t1 _ (fun z=>hno (I.mem.jN t t0 t1 (by rw[z];exact h.1))) (fun z=>hno (I.mem.jN t t0 t1 (by rw[z];exact hU)))
 | yes hs h1 h2 h3=>have H:=T.dZ _ (mH hs);refine ug _ H.t.1 H.t.2 _ (fun z=>ajc h hne (by rw[<-z];exact h3)) (fun z=>?_);rw[z]at I7;rw[n5 ⟨u0,by omega⟩ u0,aj rfl]at I7;dsimp only at I7;omega
 | no i hs h1 h2 i0 i1 hb hw hv hval=>
  have H:=T.dZ _ (mH hs);refine ug _ H.t.1 H.t.2 _ (fun z=>?_) (fun z=>?_)
  .rw[z]at i1 hb hw;exact ail u0 c0 h hne i0 i1 hb hw
  .rw[z]at I7;rw[n5 ⟨u0,by omega⟩ u0,aj rfl]at I7;dsimp only at I7;omega
 | lay p hs h1 h2 p0 p1 hw hv=>exact oC p _ p0 p1 (vf hw c0) (vf hw u0)
 | oN p y hs h1 h2 p0 p1 hw hv=>
  refine oC p _ p0 p1 (fun z=>?_) (fun z=>?_)
  .have:=(tE (hw.symm.trans z)).1;rw[this]at h2;exact h2 h.1
  .have:=(tE (hw.symm.trans z)).1;rw[this]at h2;exact h2 hU
def si(m:aS)(n:Nat)(t u:Int):Prop:=nS m t u\/∃v:Int,0<=v/\v<n/\v≠t/\v≠u/\nS m t v/\nS m v u
def Live(m:aG):Prop:=∀t:Int,0<=t->t<m.2.1.length->∀k k',(ai m t).2.2.2.2.1=[k,k']->k'.1≠t/\(k'.2.1=(aq m.1 k'.1).1->(aq m.1 k'.1).2.1=1->si m.1 m.2.1.length t k'.1)
theorem aaS{m:aG}(I:Inv m){t:Int}(t0:0<=t)(t1:t<m.2.1.length){a:aS}{x:cU}(K:Kind m t a x){u w:Int}(u0:0<=u)(u1:u<m.2.1.length)(w0:0<=w)(w1:w<m.2.1.length)(hne:u≠w)
  (hw:(aq m.1 w).2.1=1) (iT:(aq a w).2.1=1) (h:si m.1 m.2.1.length u w):si a m.2.1.length u w:=by
 rcases h with h | ⟨v,v0,v1,vu,vw,h1,h2⟩
 .exact .inl (TP I t0 t1 K u0 u1 w0 w1 hne hw iT h)
 .have k2:=TP I t0 t1 K v0 v1 w0 w1 vw hw iT h2;exact .inr ⟨v,v0,v1,vu,vw,TP I t0 t1 K u0 u1 v0 v1 vu.symm h2.1 k2.1 h1,k2⟩
theorem AZ{m:aG}(I:Inv m){t:Int}(t0:0<=t)(t1:t<m.2.1.length){a:aS}{x:cU}(K:Kind m t a x){w:Int}(w0:0<=w)(w1:w<m.2.1.length)(iT:(aq a w).2.1=1) :
  (w=t/\(aq a w).1=(aq m.1 w).1+1)\/((aq a w).1=(aq m.1 w).1/\(aq m.1 w).2.1=1):=by
 have me:=I.mem.dw;have T:=I.th t t0 t1;cases K with
 | zi=>exact .inr ⟨rfl,iT⟩
 | push=>exact .inr ⟨rfl,iT⟩
 | got=>exact .inr ⟨rfl,iT⟩
 | now=>exact .inr ⟨rfl,iT⟩
 | qG=>exact .inr ⟨rfl,iT⟩
 | mz=>exact .inr ⟨rfl,iT⟩
 | swap=>exact .inr ⟨rfl,iT⟩
 | pT=>exact .inr ⟨rfl,iT⟩
 | pS=>exact .inr ⟨rfl,iT⟩
 | CL=>exact .inr ⟨rfl,iT⟩
 | lay=>exact .inr ⟨rfl,iT⟩
 | oN=>exact .inr ⟨rfl,iT⟩
 | new q E r ho hs hv=>
  rw[n5 ⟨t0,by omega⟩ w0]at iT⊢;by_cases z:w=t
  .rw[aj z,z];exact .inl ⟨rfl,rfl⟩
  .rw[af z]at iT⊢;exact .inr ⟨rfl,iT⟩
 | yes hs h1 h2 h3=>
  have H:=T.dZ _ (mH hs);rw[n5 ⟨H.t.1,by have:=H.t.2;omega⟩ w0]at iT⊢;by_cases z:w=(au (ai m t)).1
  .rw[aj z]at iT;dsimp only at iT;omega
  .rw[af z]at iT⊢;exact .inr ⟨rfl,iT⟩
 | no i hs h1 h2 i0 i1 hb hw hv hval=>
  have H:=T.dZ _ (mH hs);rw[n5 ⟨H.t.1,by have:=H.t.2;omega⟩ w0]at iT⊢;by_cases z:w=(au (ai m t)).1
  .rw[aj z]at iT;dsimp only at iT;omega
  .rw[af z]at iT⊢;exact .inr ⟨rfl,iT⟩
theorem ab2{m m':aG}(I:Inv m)(L:Live m){t:Int}(t0:0<=t)(t1:t<m.2.1.length){a:aS}{x:cU}(K:Kind m t a x)(G:jJ m m' t a x):Live m':=by
 intro u u0 u1 k k' hk;rw[G.n]at u1⊢;rw[G.mem];rw[G.ai u u0]at hk;have keep:∀{k':gv},bV m.1 m.2.1.length k'->k'.1≠u->(k'.2.1=(aq m.1 k'.1).1->(aq m.1 k'.1).2.1=1->si m.1 m.2.1.length u k'.1)->(k'.2.1=(aq a k'.1).1->(aq a k'.1).2.1=1->si a m.2.1.length u k'.1):=by
  intro k' H hn hc e1 e2;rcases AZ I t0 t1 K H.t.1 H.t.2 e2 with⟨_,z⟩ | ⟨z,z2⟩
  .have:=H.seq.2;omega
  .exact aaS I t0 t1 K u0 u1 H.t.1 H.t.2 hn.symm z2 e2 (hc (by omega) z2)
 by_cases hu:u=t
 .rw[aj hu]at hk;subst hu;have T:=I.th u u0 u1;have hsame:∀{h':gv},(ai m u).2.2.2.2.1≠[]->(j_ (ai m u) h').2.2.2.2.1=[k,k']->(ai m u).2.2.2.2.1=[k,au (ai m u)]/\k'=h':=by
   intro h' hs e;unfold j_ at e;dsimp only at e;rcases T.st with z | ⟨q,z⟩ | ⟨q,q',z,zt⟩
   .exact absurd z hs
   .rw[z]at e;cases e
   .rw[z]at e⊢;simp only[ct,gz,FD,B6,eY]at e;refine⟨?_,e.2.1.symm⟩;rw[e.1];unfold au;rw[z];rfl
  have iI:∀{h':gv},(j_ (ai m u) h').2.2.2.2.1=[k,k']->(ai m u).2.2.2.2.1≠[]->h'.1=(au (ai m u)).1->h'.2.1=(au (ai m u)).2.1->k'.1≠u/\(k'.2.1=(aq a k'.1).1->(aq a k'.1).2.1=1->si a m.2.1.length u k'.1):=by intro h' e hs e1 e2;obtain⟨z,rfl⟩:=hsame hs e;have l:=L u u0 u1 _ _ z;rw[e1,e2];exact⟨l.1,keep (T.dZ _ (mH hs)) l.1 l.2⟩
  have hst:(ai m u).2.2.2.2.1=[k,k']->k'.1≠u/\(k'.2.1=(aq a k'.1).1->(aq a k'.1).2.1=1->si a m.2.1.length u k'.1):=fun e=>by
   have l:=L u u0 u1 _ _ e;exact⟨l.1,keep (T.dZ _ (by rw[e];simp)) l.1 l.2⟩
  cases K with
  | zi h=>exact hst hk
  | got q ho hs=>exact hst hk
  | now=>cases hk
  | pS=>cases hk
  | CL=>cases hk
  | new q E r ho hs hv=>have e:(ai m u).2.2.2.2.1++[(u,(aq m.1 u).1+1,0,0,())]=[k,k']:=hk;rw[hs]at e;cases e
  | qG hs hne _=>have e:(ai m u).2.2.2.2.1.take ((ai m u).2.2.2.2.1.length-1)=[k,k']:=hk;have e2:=er List.length e;rw[eP]at e2;simp only[ct,gz]at e2;rcases T.st with z | ⟨q,z⟩ | ⟨q,q',z,zt⟩<;>rw[z]at e2<;>simp at e2
  | yes hs h1 h2 h3=>exact hst hk
  | no i hs h1 h2 i0 i1 hb hw hv hval=>exact hst hk
  | mz hs h1 h2=>exact iI hk hs rfl rfl
  | pT hs h1 h2=>exact iI hk hs rfl rfl
  | lay p hs h1 h2 p0 p1 hw hv=>exact iI hk hs rfl rfl
  | oN p y hs h1 h2 p0 p1 hw hv=>exact iI hk hs rfl rfl
  | push v p ho hs v0 v1 vt vo p0 p1 hw=>
   have e:(ai m u).2.2.2.2.1++[(v,(aq m.1 v).1,0,0,())]=[k,k']:=hk;rcases hs with hs | ⟨q,hs,qt,Xo⟩
   .rw[hs]at e;cases e
   .rw[hs]at e;simp only[fH,gy,eY]at e;rw[<-e.2.1];exact⟨vt,fun _ _=>.inl Xo⟩
  | swap v hs h1 h2 hne vh v0 v1 vo f8=>
   obtain⟨z,rfl⟩:=hsame hs hk;have l:=L u u0 u1 _ _ z;have H:=T.dZ _ (mH hs);have n3:=I.n.2;have hc:=l.2 h1 h2;generalize hh:au (ai m u)=h at *;have a0:=H.t.1;have a1:=H.t.2;have vu:v≠u:=fun q=>by
    subst q;rcases hc with c | ⟨w,w0,w1,wu,wh,c1,c2⟩
    .exact UB I u0 u1 a0 a1 c f8 hne.symm
    .exact no3 I u0 u1 w0 w1 a0 a1 c1 c2 f8 wu.symm wh hne
   refine⟨vu,fun _ _=>?_⟩;rcases hc with c | ⟨w,w0,w1,wu,wh,c1,c2⟩
   .exact .inr ⟨h.1,a0,a1,hne,vh.symm,c,f8⟩
   .exfalso;have:v=w:=by omega
    subst this;exact UB I w0 w1 a0 a1 c2 f8 wh
 .rw[af hu]at hk;have l:=L u u0 u1 _ _ hk;exact⟨l.1,keep ((I.th u u0 u1).dZ _ (by rw[hk];simp)) l.1 l.2⟩
theorem BF{m:aG}(I:Inv m){U:Int}(u0:0<=U)(u1:U<m.2.1.length):(∀g∈gt m U,0<=g.1/\g.1<20)/\(gt m U).length<=8:=by
 have T:=I.th U u0 u1;unfold gt;cases h:(ai m U).2.2.1 with
 | true=>obtain⟨_,h2,h3⟩:=J2 (T.op h) T.got (T.along h);exact⟨fun g hg=>h2 g.1 (eI.2 ⟨g,hg,rfl⟩),h3⟩
 | false=>rw[(T.off h).1];exact⟨fun g hg=>by simp at hg,by simp⟩
theorem Ju{m a:aS}{G:dL}(hv:∀p:Int,0<=p->p<20->fX a p=fX m p)(hg:∀g∈G,0<=g.1/\g.1<20):bad a G↔bad m G:=
 ⟨fun⟨x,hx,e⟩=>⟨x,hx,by rw[<-hv _ (hg x hx).1 (hg x hx).2];exact e⟩,fun⟨x,hx,e⟩=>⟨x,hx,by rw[hv _ (hg x hx).1 (hg x hx).2];exact e⟩⟩
theorem RN{m:aS}{G:dL}(q:Int):bad m (G++[(q,fX m q,())])↔bad m G:=
 ⟨fun⟨x,hx,e⟩=>by
  rcases bN.1 hx with h | h
  .exact⟨x,h,e⟩
  .rw[d6]at h;subst h;exact absurd rfl e,fun⟨x,hx,e⟩=>⟨x,B4 _ hx,e⟩⟩
theorem alx{m:aG}(I:Inv m){u:Int}(u0:0<=u)(u1:u<m.2.1.length)(hs:(aq m.1 u).2.1=1){i:Int}(i0:0<=i)(i1:i<(aq m.1 u).2.2.1.length)(hw:(wd m.1 (qi (aq m.1 u).2.2.1 i).1).2.1=0)
  (hv:(wd m.1 (qi (aq m.1 u).2.2.1 i).1).1≠(qi (aq m.1 u).2.2.1 i).2.1):bad m.1 (gt m u):=by
 have hown:bw m u:=I.mem.jN u u0 u1 hs;have T:=I.th u u0 u1;have oA:=T.oX hown;have ho:=T.op oA;obtain⟨hp,dz,hl,hr⟩:=T.plan hown;have he:=LS i0 i1;rw[hl]at he;obtain⟨g,hg,e1,e2⟩:=(Be ho T.got (T.along oA) hp dz).2.1 _ he;rw[<-hl]at e1 e2;exact⟨g,hg,by rw[e1,e2,uZ hw];exact hv⟩
theorem HF{x:cU}{t:Int}{h':gv}(hs:x.2.2.2.2.1=[]\/∃k,x.2.2.2.2.1=[k]/\k.1=t)(hv:h'.1≠t):bC (qW x h') t=bC x t:=by
 unfold qW bC;dsimp only;rcases hs with hs | ⟨q,hs,qt⟩
 .rw[hs];simp[hv]
 .rw[hs];rfl
theorem HL{m:aS}{n:Nat}{x:cU}{t:Int}(T:js m n x t)(hs:x.2.2.2.2.1≠[])(hne:(au x).1≠t):bC (ja x) t=bC x t:=by
 unfold ja bC;dsimp only;rcases T.st with z | ⟨q,z⟩ | ⟨q,q',z,zt⟩
 .exact absurd z hs
 .have:au x=q:=by unfold au;rw[z];rfl
  rw[this]at hne;rw[z];simp[hne]
 .rw[z];rfl
theorem Jt{m:aS}{n:Nat}{x:cU}{t:Int}(T:js m n x t){h':gv}(hs:x.2.2.2.2.1≠[])(e:h'.1=t↔(au x).1=t):bC (j_ x h') t=bC x t:=by
 unfold j_ bC;rcases T.st with z | ⟨q,z⟩ | ⟨q,q',z,zt⟩
 .exact absurd z hs
 .have:au x=q:=by unfold au;rw[z];rfl
  rw[this]at e;dsimp only;rw[z];simp only[ct,gz,B6];exact decide_eq_decide.2 e
 .dsimp only;rw[z];rfl
theorem Dt{m:aS}{n:Nat}{x:cU}{t:Int}(T:js m n x t)(hs:x.2.2.2.2.1≠[])(b c:Int)(d:Int×Unit):bC (j_ x ((au x).1,b,c,d)) t=bC x t:=Jt T hs iY
theorem G8{m:aG}{t:Int}(T:js m.1 m.2.1.length (ai m t) t){v s:Int}(hs:(ai m t).2.2.2.2.1≠[])(hne:(au (ai m t)).1≠t)(vo:bw m v):bC (j_ (ai m t) (v,s,0,0,())) t=bC (ai m t) t:=by
 rcases T.st with z | ⟨q,z⟩ | ⟨q,q',z,zt⟩
 .exact absurd z hs
 .refine Jt T hs ⟨fun e=>?_,fun e=>absurd e hne⟩;have:au (ai m t)=q:=by unfold au;rw[z];rfl
  rw[this]at hne;dsimp only at e;subst e;unfold bw bC at vo;rw[z]at vo;exact absurd (by simpa using vo) hne
 .unfold j_ bC;dsimp only;rw[z];rfl
section
variable {m m':aG} (I:Inv m) {t:Int} (t0:0<=t) (t1:t<m.2.1.length) {a:aS} {x:cU} (K:Kind m t a x) (G:jJ m m' t a x)
include I t0 t1 K G
theorem Fw(hl:∀U:Int,0<=U->U<m.2.1.length->lf m' U=lf m U)(hy:∀U:Int,0<=U->U<m.2.1.length->(lH m' U↔lH m U))(hs:∀U:Int,0<=U->U<m.2.1.length->(pH m' U↔pH m U)){U:Int}(u0:0<=U)(u1:U<m.2.1.length):AA m' U=AA m U:=by unfold AA;rw[G.n,hl U u0 u1,xM (hs U u0 u1),H_ (f:=Yv m') (g:=Yv m) fun V a b _=>by unfold Yv;rw[hl V a b,xM (hy V a b)]]
theorem Aw(U:Int)(u0:0<=U)(hU:U≠t):ai m' U=ai m U:=by rw[G.ai U u0,af hU]
theorem we:ai m' t=x:=by rw[G.ai t t0,aj rfl]
theorem Cx(hv:∀p:Int,0<=p->p<20->fX a p=fX m.1 p)(hd:∀U:Int,0<=U->U<m.2.1.length->aq a U=aq m.1 U)
  (ho:bC x t=bC (ai m t) t/\x.1=(ai m t).1/\x.2.1=(ai m t).2.1/\(x.2.2.2.1=(ai m t).2.2.2.1\/∃q,0<=q/\q<20/\x.2.2.2.1=(ai m t).2.2.2.1++[(q,fX m.1 q,())])) {U:Int} (u0:0<=U) (u1:U<m.2.1.length):AA m' U=AA m U:=by
 have hO:=Aw I t0 t1 K G;have hS:=we I t0 t1 K G;have hown:∀U:Int,0<=U->(bw m' U↔bw m U):=fun U u0=>by
  unfold bw;by_cases q:U=t
  .rw[q,hS,ho.1]
  .rw[hO U u0 q]
 have D9:∀U:Int,0<=U->U<m.2.1.length->(bad m'.1 (gt m' U)↔bad m.1 (gt m U)):=fun U u0 u1=>by
  have hr:=(BF I u0 u1).1;rw[G.mem];by_cases q:U=t
  .subst q;unfold gt at hr⊢;rw[hS];rcases ho.2.2.2 with e | ⟨q,q0,q1,e⟩
   .rw[e];exact Ju hv hr
   .rw[e];refine(Ju hv fun g hg=>?_).trans (RN q);rcases bN.1 hg with h | h
    .exact hr g h
    .rw[d6]at h;rw[h];exact⟨q0,q1⟩
  .unfold gt at hr⊢;rw[hO U u0 q];exact Ju hv hr
 have hy:∀U:Int,0<=U->U<m.2.1.length->(lH m' U↔lH m U):=fun U u0 u1=>by
  unfold lH;rw[hown U u0,G.mem,hd U u0 u1]
 refine Fw I t0 t1 K G (fun U u0 u1=>?_) hy (fun U u0 u1=>?_) u0 u1
 .unfold lf;by_cases q:U=t
  .rw[q,hS,ho.2.1,ho.2.2.1]
  .rw[hO U u0 q]
 .unfold pH;rw[hy U u0 u1,hown U u0,D9 U u0 u1,G.mem,hd U u0 u1]
theorem Cw(ha:a=m.1)(hx:x.2.2.2=([],[],()))(hl:x.1=(ai m t).1)(he:x.2.1=(ai m t).2.1+1\/(x.2.1=(ai m t).2.1/\bw m t/\(aq m.1 t).2.1=3)) :
  AA m' t+1<=AA m t/\∀U:Int,0<=U->U<m.2.1.length->U≠t->AA m' U<=AA m U:=by
 have hO:=Aw I t0 t1 K G;have hS:=we I t0 t1 K G;have hno:¬ bw m' t:=by unfold bw bC;rw[hS,hx];simp
 have Uo:¬ lH m' t:=fun z=>hno z.1;have vH:¬ pH m' t:=by
  rintro(z | ⟨_,g,hg,_⟩)
  .exact hno z.1
  .unfold gt at hg;rw[hS,hx]at hg;simp at hg
 have hlt:lf m' t=lf m t-(x.2.1-(ai m t).2.1):=by unfold lf;rw[hS,hl];omega
 have hlU:∀U:Int,0<=U->U≠t->lf m' U=lf m U:=fun U u0 q=>by unfold lf;rw[hO U u0 q]
 have zB:∀U:Int,0<=U->U≠t->(lH m' U↔lH m U):=fun U u0 q=>by unfold lH bw;rw[hO U u0 q,G.mem,ha]
 have hsU:∀U:Int,0<=U->U≠t->(pH m' U↔pH m U):=fun U u0 q=>by unfold pH bw gt;rw[zB U u0 q,hO U u0 q,G.mem,ha]
 have hYt:Yv m' t<=Yv m t:=by
  unfold Yv;rw[hlt,o3 Uo];have:=nP (lH m t);rcases he with e | ⟨e,e2,e3⟩
  .omega
  .rw[o3 (fun z:lH m t=>by have:=z.2;omega)];omega
 have Ks:∀U:Int,0<=U->U≠t->Yv m' U=Yv m U:=fun U u0 q=>by unfold Yv;rw[hlU U u0 q,xM (zB U u0 q)]
 refine⟨?_,fun U u0 u1 hU=>?_⟩
 .unfold AA;rw[G.n,o3 vH,hlt,H_ (f:=Yv m') (g:=Yv m) fun V a b q=>Ks V a q];have:=nP (pH m t);rcases he with e | ⟨e,e2,e3⟩
  .omega
  .rw[vS (show pH m t from .inl ⟨e2,e3⟩)];omega
 .unfold AA;rw[G.n,xM (hsU U u0 hU),hlU U u0 hU];have:=JD (n:=m.2.1.length) (T:=U) (f:=Yv m') (g:=Yv m) fun V a b _=>by
   by_cases q:V=t
   .rw[q];exact hYt
   .exact kA (Ks V a q)
  omega
theorem alf(hx:x=ai m t)(hs:(ai m t).2.2.2.2.1≠[])(h1:(au (ai m t)).2.1=(aq m.1 (au (ai m t)).1).1)(h2:(aq m.1 (au (ai m t)).1).2.1=1)
  (h3:∀i:Int,0<=i->i<(aq m.1 (au (ai m t)).1).2.2.1.length->wd m.1 (qi (aq m.1 (au (ai m t)).1).2.2.1 i).1=dM (au (ai m t)).1 (aq m.1 (au (ai m t)).1).1)
  (ha:a=bJ m.1 (au (ai m t)).1 ((aq m.1 (au (ai m t)).1).1,2,(aq m.1 (au (ai m t)).1).2.2)):∀U:Int,0<=U->U<m.2.1.length->AA m' U<=AA m U:=by
 have me:=I.mem.dw;have T:=I.th t t0 t1;have H:=T.dZ _ (mH hs);have hO:∀U:Int,0<=U->ai m' U=ai m U:=fun U u0=>by
  rw[G.ai U u0];by_cases q:U=t
  .rw[aj q,hx,q]
  .rw[af q]
 have w0:=H.t.1;have w1:=H.t.2;clear H;generalize (au (ai m t)).1=u at *;have hd:∀v:Int,0<=v->aq a v=if v=u then ((aq m.1 u).1,2,(aq m.1 u).2.2) else aq m.1 v:=fun v v0=>by rw[ha];exact n5 ⟨w0,by omega⟩ v0
 have hown:∀U:Int,0<=U->(bw m' U↔bw m U):=fun U u0=>by unfold bw;rw[hO U u0]
 have ou:bw m u:=I.mem.jN u w0 w1 h2;have hl:∀U:Int,0<=U->lf m' U=lf m U:=fun U u0=>by unfold lf;rw[hO U u0]
 have hyu:lH m' u:=⟨(hown u w0).2 ou,by rw[G.mem,hd u w0,aj rfl]⟩
 have hnu:¬ lH m u:=fun z=>by have:=z.2;omega
 have zB:∀U:Int,0<=U->U≠u->(lH m' U↔lH m U):=fun U u0 q=>by unfold lH;rw[hown U u0,G.mem,hd U u0,af q]
 have hYu:Yv m' u+1<=Yv m u:=by unfold Yv;rw[hl u w0,vS hyu,o3 hnu];omega
 have Ks:∀U:Int,0<=U->U≠u->Yv m' U=Yv m U:=fun U u0 q=>by unfold Yv;rw[hl U u0,xM (zB U u0 q)]
 intro U u0 u1;unfold AA;rw[G.n,hl U u0];by_cases q:U=u
 .have e1:¬ pH m' U:=by
   rintro(z | ⟨z,_⟩)
   .have:=z.2;rw[G.mem,hd U u0,aj q]at this;dsimp only at this;omega
   .exact z (q ▸ hyu)
  rw[o3 e1,H_ (f:=Yv m') (g:=Yv m) fun V b _ d=>Ks V b (by rw[<-q];exact d)];have:=nP (pH m U);omega
 .have e1:=Bt (n:=m.2.1.length) I.n.2 (T:=U) (V:=u) (d:=1) (f:=Yv m') (g:=Yv m) w0 w1 (fun z=>q z.symm) hYu (fun V b _ _ d=>kA (Ks V b d));have:=nP (pH m U);have:=nP (pH m' U);omega
theorem ak_(hx:x=ai m t)(hs:(ai m t).2.2.2.2.1≠[])(h2:(aq m.1 (au (ai m t)).1).2.1=1)(D9:bad m.1 (gt m (au (ai m t)).1))
  (ha:a=bJ m.1 (au (ai m t)).1 ((aq m.1 (au (ai m t)).1).1,3,(aq m.1 (au (ai m t)).1).2.2)) (hv:∀q:Int,0<=q->q<20->fX a q=fX m.1 q):∀U:Int,0<=U->U<m.2.1.length->AA m' U=AA m U:=by
 have me:=I.mem.dw;have T:=I.th t t0 t1;have H:=T.dZ _ (mH hs);have hO:∀U:Int,0<=U->ai m' U=ai m U:=fun U u0=>by
  rw[G.ai U u0];by_cases q:U=t
  .rw[aj q,hx,q]
  .rw[af q]
 have w0:=H.t.1;have w1:=H.t.2;clear H;generalize (au (ai m t)).1=u at *;have hd:∀v:Int,0<=v->aq a v=if v=u then ((aq m.1 u).1,3,(aq m.1 u).2.2) else aq m.1 v:=fun v v0=>by rw[ha];exact n5 ⟨w0,by omega⟩ v0
 have hown:∀U:Int,0<=U->(bw m' U↔bw m U):=fun U u0=>by unfold bw;rw[hO U u0]
 have ou:bw m u:=I.mem.jN u w0 w1 h2;have zB:∀U:Int,0<=U->U<m.2.1.length->(lH m' U↔lH m U):=fun U u0 u1=>by
  unfold lH;rw[hown U u0,G.mem,hd U u0];by_cases q:U=u
  .rw[aj q,q];exact⟨fun z=>by have:=z.2;dsimp only at this;omega,fun z=>by have:=z.2;omega⟩
  .rw[af q]
 intro U u0 u1;refine Fw I t0 t1 K G (fun U u0 u1=>by unfold lf;rw[hO U u0]) zB (fun U u0 u1=>?_) u0 u1;by_cases q:U=u
 .subst q;refine⟨fun _=>.inr ⟨fun z=>by have:=z.2;omega,D9⟩,fun _=>.inl ⟨(hown U u0).2 ou,by rw[G.mem,hd U u0,aj rfl]⟩⟩
 .unfold pH;have e:gt m' U=gt m U:=by unfold gt;rw[hO U u0]
  rw[zB U u0 u1,hown U u0,G.mem,hd U u0,af q,e,Ju hv (BF I u0 u1).1]
theorem ale{q:Int}{E:List eu}{r:fC}(hs:(ai m t).2.2.2.2.1=[])(hq:0<=q/\q<20)(ha:a=bJ m.1 t ((aq m.1 t).1+1,1,E,r,()))(hv:∀p:Int,0<=p->p<20->fX a p=fX m.1 p)
  (hx:x=qW (rP (ai m t) ((ai m t).2.2.2.1++[(q,fX m.1 q,())])) (t,(aq m.1 t).1+1,0,0,())):∀U:Int,0<=U->U<m.2.1.length->AA m' U=AA m U:=by
 have me:=I.mem.dw;have hO:=Aw I t0 t1 K G;have hS:=we I t0 t1 K G;have hd:∀v:Int,0<=v->aq a v=if v=t then ((aq m.1 t).1+1,1,E,r,()) else aq m.1 v:=fun v v0=>by rw[ha];exact n5 ⟨t0,by omega⟩ v0
 have hno:¬ bw m t:=by unfold bw;rw[zQ hs];simp
 have Uo:¬ lH m' t:=fun z=>by have:=z.2;rw[G.mem,hd t t0,aj rfl]at this;dsimp only at this;omega
 have hnm:¬ lH m t:=fun z=>hno z.1;have zB:∀U:Int,0<=U->U<m.2.1.length->(lH m' U↔lH m U):=fun U u0 u1=>by
  by_cases w:U=t
  .rw[w];exact⟨fun z=>absurd z Uo,fun z=>absurd z hnm⟩
  .unfold lH bw;rw[hO U u0 w,G.mem,hd U u0,af w]
 intro U u0 u1;refine Fw I t0 t1 K G (fun U u0 u1=>?_) zB (fun U u0 u1=>?_) u0 u1
 .unfold lf;by_cases w:U=t
  .rw[w,hS,hx];rfl
  .rw[hO U u0 w]
 .have hr:=(BF I u0 u1).1;by_cases w:U=t
  .subst w;have hb:bad m'.1 (gt m' U)↔bad m.1 (gt m U):=by
    have e:gt m' U=gt m U++[(q,fX m.1 q,())]:=by unfold gt;rw[hS,hx];rfl
    rw[e,G.mem];refine(Ju hv fun g hg=>?_).trans (RN q);rcases bN.1 hg with h | h
    .exact hr g h
    .rw[d6]at h;rw[h];exact hq
   refine⟨fun z=>?_,fun z=>?_⟩
   .rcases z with z | z
    .have:=z.2;rw[G.mem,hd U u0,aj rfl]at this;dsimp only at this;omega
    .exact .inr ⟨hnm,hb.1 z.2⟩
   .rcases z with z | z
    .exact absurd z.1 hno
    .exact .inr ⟨Uo,hb.2 z.2⟩
  .unfold pH bw;have e:gt m' U=gt m U:=by unfold gt;rw[hO U u0 w]
   rw[zB U u0 u1,hO U u0 w,G.mem,hd U u0,af w,e,Ju hv hr]
theorem xW:∀U:Int,0<=U->U<m.2.1.length->AA m' U<=AA m U:=by
 have T:=I.th t t0 t1;have hK:=K;have one:AA m' t+1<=AA m t/\(∀U:Int,0<=U->U<m.2.1.length->U≠t->AA m' U<=AA m U)->∀U:Int,0<=U->U<m.2.1.length->AA m' U<=AA m U:=fun h U u0 u1=>by
  by_cases q:U=t
  .rw[q];omega
  .exact h.2 U u0 u1 q
 cases K with
 | zi h=>intro U u0 u1;exact kA (Cx I t0 t1 hK G (fun _ _ _=>rfl) (fun _ _ _=>rfl) ⟨rfl,rfl,rfl,.inl rfl⟩ u0 u1)
 | got q ho hs hq=>intro U u0 u1;exact kA (Cx I t0 t1 hK G (fun _ _ _=>rfl) (fun _ _ _=>rfl) ⟨rfl,rfl,rfl,.inr ⟨q,hq.1,hq.2,rfl⟩⟩ u0 u1)
 | push v p ho hs v0 v1 vt vo p0 p1 hw=>intro U u0 u1;exact kA (Cx I t0 t1 hK G (fun _ _ _=>rfl) (fun _ _ _=>rfl) ⟨HF (hs.imp id fun⟨k,e,e2,_⟩=>⟨k,e,e2⟩) vt,rfl,rfl,.inl rfl⟩ u0 u1)
 | qG hs hne h=>intro U u0 u1;exact kA (Cx I t0 t1 hK G (fun _ _ _=>rfl) (fun _ _ _=>rfl) ⟨HL T hs hne,rfl,rfl,.inl rfl⟩ u0 u1)
 | mz hs h1 h2=>intro U u0 u1;exact kA (Cx I t0 t1 hK G (fun _ _ _=>rfl) (fun _ _ _=>rfl) ⟨Jt T hs iY,rfl,rfl,.inl rfl⟩ u0 u1)
 | pT hs h1 h2=>intro U u0 u1;exact kA (Cx I t0 t1 hK G (fun _ _ _=>rfl) (fun _ _ _=>rfl) ⟨Jt T hs iY,rfl,rfl,.inl rfl⟩ u0 u1)
 | swap v hs h1 h2 hne vh v0 v1 vo f8=>intro U u0 u1;exact kA (Cx I t0 t1 hK G (fun _ _ _=>rfl) (fun _ _ _=>rfl) ⟨G8 T hs hne vo,rfl,rfl,.inl rfl⟩ u0 u1)
 | lay p hs h1 h2 p0 p1 hw hv=>intro U u0 u1;exact kA (Cx I t0 t1 hK G hv (fun _ _ _=>rfl) ⟨Jt T hs iY,rfl,rfl,.inl rfl⟩ u0 u1)
 | oN p y hs h1 h2 p0 p1 hw hv=>intro U u0 u1;exact kA (Cx I t0 t1 hK G hv (fun _ _ _=>rfl) ⟨Jt T hs iY,rfl,rfl,.inl rfl⟩ u0 u1)
 | yes hs h1 h2 h3=>exact alf I t0 t1 hK G rfl hs h1 h2 h3 rfl
 | no i hs h1 h2 i0 i1 hb hw hv hval=>have H:=T.dZ _ (mH hs);intro U u0 u1;exact kA (ak_ I t0 t1 hK G rfl hs h2 (alx I H.t.1 H.t.2 h2 i0 i1 hw hv) rfl hval U u0 u1)
 | new q E r ho hs hv hq=>intro U u0 u1;exact kA (ale I t0 t1 hK G hs hq rfl hv rfl U u0 u1)
 | now ho hs=>exact one (Cw I t0 t1 hK G rfl rfl rfl (.inl rfl))
 | pS hs h1 h2 h3=>exact one (Cw I t0 t1 hK G rfl rfl rfl (.inl rfl))
 | CL hs h1 h2 h3=>exact one (Cw I t0 t1 hK G rfl rfl rfl (.inr ⟨rfl,(JA T hs h1).1,h2⟩))
end
theorem alN{m m':aG}{T U:Int}(ha:AA m' U<=AA m U)(hd:qV m' T U->qV m T U)(hc:qU m T U->qU m' T U)(hh:kO m T U<=kO m' T U):QQ m' T U<=QQ m T U:=by unfold QQ;have:=Cl hd;have:=Cl hc;omega
theorem Bj{m:aG}(I:Inv m){T:Int}{h:gv}(H:bV m.1 m.2.1.length h):1<=m7 m T h/\m7 m T h<=28/\(n9 m h/\(aq m.1 h.1).2.1=1->m7 m T h<=19):=by
 unfold m7;have:=H.rU;have:=H.fin;have:=nP (Au m T h.1);split
 .exact⟨by omega,by omega,fun _=>by omega⟩
 .next q=>exact⟨by omega,by omega,fun z=>absurd z q⟩
section
variable {m m':aG} (I:Inv m) {t:Int} (t0:0<=t) (t1:t<m.2.1.length) {a:aS} {x:cU} (K:Kind m t a x) (G:jJ m m' t a x)
include I t0 t1 K G
theorem Cm{U:Int}(u0:0<=U)(hU:U≠t):bw m' U↔bw m U:=by unfold bw;rw[Aw I t0 t1 K G U u0 hU]
theorem Jv{w:Int}(w0:0<=w)(w1:w<m.2.1.length):(aq a w).1=(aq m.1 w).1\/(w=t/\(aq a w).1=(aq m.1 w).1+1/\¬ bw m t):=by
 have me:=I.mem.dw;have T:=I.th t t0 t1;cases K with
 | new q E r ho hs hv=>
  rw[n5 ⟨t0,by omega⟩ w0];by_cases z:w=t
  .rw[aj z,z];exact .inr ⟨rfl,rfl,by unfold bw;rw[zQ hs];simp⟩
  .rw[af z];exact .inl rfl
 | yes hs h1 h2 h3=>
  have H:=T.dZ _ (mH hs);rw[n5 ⟨H.t.1,by have:=H.t.2;omega⟩ w0];by_cases z:w=(au (ai m t)).1
  .rw[aj z,z];exact .inl rfl
  .rw[af z];exact .inl rfl
 | no i hs h1 h2 i0 i1 hb hw hv hval=>
  have H:=T.dZ _ (mH hs);rw[n5 ⟨H.t.1,by have:=H.t.2;omega⟩ w0];by_cases z:w=(au (ai m t)).1
  .rw[aj z,z];exact .inl rfl
  .rw[af z];exact .inl rfl
 | _=>exact .inl rfl
theorem Qf{w:Int}(w0:0<=w)(w1:w<m.2.1.length)(hs:(aq m.1 w).2.1≠1)(hq:(aq a w).1=(aq m.1 w).1)(h:vk a w):vk m.1 w:=by
 have hlen:=I.mem.len;obtain⟨p,p0,p1,e⟩:=h;rw[hq]at e;refine⟨p,p0,p1,?_⟩;cases K with
 | lay q lO h1 h2 q0 q1 hw hv=>
  rw[Ff (by omega) p0]at e;by_cases z:p=q
  .rw[aj z]at e;exact absurd h2 ((tE e).1 ▸ hs)
  .rw[af z]at e;exact e
 | oN q y lO h1 h2 q0 q1 hw hv=>
  rw[Ff (by omega) p0]at e;by_cases z:p=q
  .rw[aj z]at e;exact absurd e (vf rfl w0)
  .rw[af z]at e;exact e
 | _=>exact e
theorem ML{w:Int}(w0:0<=w)(w1:w<m.2.1.length)(hs:(aq m.1 w).2.1≠1)(hown:bw m w):(aq a w).2.1≠1:=fun z=>by
 rcases AZ I t0 t1 K w0 w1 z with⟨rfl,e⟩ | ⟨_,e⟩
 .rcases Jv I t0 t1 K G w0 w1 with q | ⟨_,_,q⟩
  .omega
  .exact q hown
 .exact hs e
theorem GG{h:gv}(H:bV m.1 m.2.1.length h)(ha:n9 m' h):n9 m h:=by
 obtain⟨h1,h2⟩:=ha;rw[G.mem]at h2;have hq:=H.seq.2;rcases Jv I t0 t1 K G H.t.1 H.t.2 with q | ⟨_,q,_⟩
 .refine⟨?_,by omega⟩;by_cases z:h.1=t
  .rw[z]at h1 q⊢;have T:=I.th t t0 t1;unfold bw at h1⊢;rw[we I t0 t1 K G]at h1;cases K with
   | zi=>exact h1
   | got=>exact h1
   | push v p ho hs v0 v1 vt vo p0 p1 hw=>rw[HF (hs.imp id fun⟨k,e,e2,_⟩=>⟨k,e,e2⟩) vt]at h1;exact h1
   | qG hs hne h=>rw[HL T hs hne]at h1;exact h1
   | mz hs tS h2=>rw[Dt T hs]at h1;exact h1
   | pT hs tS h2=>rw[Dt T hs]at h1;exact h1
   | lay p hs tS h2=>rw[Dt T hs]at h1;exact h1
   | oN p y hs tS h2=>rw[Dt T hs]at h1;exact h1
   | swap v hs tS h2 hne vh v0 v1 vo f8=>rw[G8 T hs hne vo]at h1;exact h1
   | yes=>exact h1
   | no=>exact h1
   | new q' E r ho hs hv=>have me:=I.mem.dw;rw[n5 ⟨t0,by omega⟩ t0,aj rfl]at q;dsimp only at q;omega
   | now=>simp[bC]at h1
   | pS=>simp[bC]at h1
   | CL=>simp[bC]at h1
  .exact(Cm I t0 t1 K G H.t.1 z).1 h1
 .omega
theorem alw{T:Int}{h:gv}(hT:0<=T/\T<m.2.1.length)(hne:h.1≠T)(H:bV m.1 m.2.1.length h):m7 m T h<=m7 m' T h:=by
 have hr:=(Bj (T:=T) I H).2.2;have hf:=H.fin;by_cases c:n9 m' h/\(aq m'.1 h.1).2.1=1
 .have c1:=GG I t0 t1 K G H c.1;have c2:=c.2;rw[G.mem]at c2;have c3:(aq m.1 h.1).2.1=1:=by
   rcases AZ I t0 t1 K H.t.1 H.t.2 c2 with⟨_,z⟩ | ⟨_,z⟩
   .have:=c.1.2;rw[G.mem]at this;have:=H.seq.2;omega
   .exact z
  unfold m7;rw[aj c,aj ⟨c1,c3⟩];have:ind (Au m T h.1)<=ind (Au m' T h.1):=Cl fun⟨C,a0,a1,n1,n2,s⟩=>⟨C,a0,by rw[G.n];exact a1,n1,n2,by rw[G.mem];exact TP I t0 t1 K a0 a1 H.t.1 H.t.2 n2 c3 c2 s⟩
  omega
 .by_cases d:n9 m h/\(aq m.1 h.1).2.1=1
  .have:=hr d;unfold m7 at this⊢;rw[af c];omega
  .unfold m7;rw[af c,af d];exact eA _
theorem HA{T:Int}{h:gv}(hT:0<=T/\T<m.2.1.length)(e:lM (ai m T) T=some h):bV m.1 m.2.1.length h/\h.1≠T:=by
 unfold lM at e;split at e
 .cases e
 .next q=>
  split at e
  .cases e
  .next q2=>cases e;exact⟨(I.th T hT.1 hT.2).dZ _ (mH q),q2⟩
theorem acC(ho:bw m t)(hn:¬ bw m' t):AA m' t+1<=AA m t:=by
 have T:=I.th t t0 t1;have hK:=K;unfold bw at ho hn;rw[we I t0 t1 K G]at hn;cases K with
 | zi=>exact absurd ho hn
 | got=>exact absurd ho hn
 | push v p _ hs v0 v1 vt vo p0 p1 hw=>rw[HF (hs.imp id fun⟨k,e,e2,_⟩=>⟨k,e,e2⟩) vt]at hn;exact absurd ho hn
 | qG hs hne h=>rw[HL T hs hne]at hn;exact absurd ho hn
 | mz hs tS h2=>rw[Dt T hs]at hn;exact absurd ho hn
 | pT hs tS h2=>rw[Dt T hs]at hn;exact absurd ho hn
 | lay p hs tS h2=>rw[Dt T hs]at hn;exact absurd ho hn
 | oN p y hs tS h2=>rw[Dt T hs]at hn;exact absurd ho hn
 | swap v hs tS h2 hne vh v0 v1 vo f8=>rw[G8 T hs hne vo]at hn;exact absurd ho hn
 | yes=>exact absurd ho hn
 | no=>exact absurd ho hn
 | new q' E r _ hs hv=>rw[zQ hs]at ho;cases ho
 | now _ hs=>exact(Cw I t0 t1 hK G rfl rfl rfl (.inl rfl)).1
 | pS hs h1 h2 h3=>exact(Cw I t0 t1 hK G rfl rfl rfl (.inl rfl)).1
 | CL hs h1 h2 h3=>exact(Cw I t0 t1 hK G rfl rfl rfl (.inr ⟨rfl,(JA T hs h1).1,h2⟩)).1
theorem ada{T U:Int}(hT:0<=T/\T<m.2.1.length)(vF:T≠t)(u0:0<=U)(u1:U<m.2.1.length)(hU:U≠T):QQ m' T U<=QQ m T U:=by
 have fL:=Aw I t0 t1 K G T hT.1 vF;have hA:=xW I t0 t1 K G U u0 u1;have hh:kO m T U<=kO m' T U:=by
  unfold kO;rw[fL];cases e:lM (ai m T) T with
  | none=>exact eA _
  | some h=>
   obtain⟨H,hne⟩:=HA I t0 t1 K G hT e;dsimp only;split
   .exact alw I t0 t1 K G hT hne H
   .exact eA _
 have eR:v9 m' T U->v9 m T U:=fun⟨h,e,e2,e3⟩=>by
  rw[fL]at e;exact⟨h,e,e2,GG I t0 t1 K G (HA I t0 t1 K G hT e).1 e3⟩
 -- yZ try of U stays,or ends
 by_cases hend:bw m U/\¬ bw m' U
 .have Wq:U=t:=by
   by_cases q:U=t
   .exact q
   .exact absurd ((Cm I t0 t1 K G u0 q).2 hend.1) hend.2
  have hA1:AA m' U+1<=AA m U:=by rw[Wq];exact acC I t0 t1 K G (Wq ▸ hend.1) (Wq ▸ hend.2)
  have Kx:¬ qU m' T U:=fun z=>hend.2 z.1;unfold QQ;rw[o3 Kx];have b1:=nP (qV m' T U);have b2:=nP (qU m T U);have b3:=nP (qV m T U);by_cases hp:v9 m T U
  .rw[o3 (fun z:qU m T U=>z.2.2.2 hp)];omega
  .have hd:qV m' T U->qV m T U:=fun⟨h,e,e2,e3⟩=>by
    rw[fL]at e;exact⟨h,e,e2,fun z=>hp ⟨h,e,e2,z⟩⟩
   have:=Cl hd;omega
 .have hkeep:bw m U->bw m' U:=fun z=>by
   by_cases q:bw m' U
   .exact q
   .exact absurd ⟨z,q⟩ hend
  refine alN hA (fun⟨h,e,e2,e3⟩=>?_) (fun⟨c1,c2,c3,c4⟩=>?_) hh
  .rw[fL]at e;have H:=(HA I t0 t1 K G hT e).1;refine⟨h,e,e2,fun z=>e3 ⟨by rw[e2];exact hkeep (e2 ▸ z.1),?_⟩⟩;rw[G.mem];rcases Jv I t0 t1 K G H.t.1 H.t.2 with q | ⟨q1,_,q3⟩
   .rw[q];exact z.2
   .exact absurd (q1 ▸ z.1) q3
  .have hs:=ML I t0 t1 K G u0 u1 c2 c1;have hq:(aq a U).1=(aq m.1 U).1:=by
    rcases Jv I t0 t1 K G u0 u1 with q | ⟨q1,_,q3⟩
    .exact q
    .exact absurd (q1 ▸ c1) q3
   exact⟨hkeep c1,by rw[G.mem];exact hs,fun z=>c3 (Qf I t0 t1 K G u0 u1 c2 hq (by rw[<-G.mem];exact z)),fun z=>c4 (eR z)⟩
theorem ac9{T:Int}(hT:0<=T/\T<m.2.1.length)(vF:T≠t):PP m' T<=PP m T:=by
 have fL:=Aw I t0 t1 K G T hT.1 vF;have hA:=xW I t0 t1 K G T hT.1 hT.2;have hs:ind ((aq m.1 T).2.1≠1)<=ind ((aq m'.1 T).2.1≠1):=Cl fun z=>by
  rw[G.mem];intro q;rcases AZ I t0 t1 K hT.1 hT.2 q with⟨w,_⟩ | ⟨_,w⟩
  .exact vF w
  .exact z w
 have ho:oW m T<=oW m' T:=by
  unfold oW;rw[fL];cases (ai m T).2.2.2.2.1 with
  | nil=>exact eA _
  | cons h r=>
   dsimp only;split
   .omega
   .exact eA _
 unfold PP j7 gt;rw[fL];omega
theorem abJ{T:Int}(hT:0<=T/\T<m.2.1.length)(vF:T≠t):iU m' T<=iU m T:=by unfold iU;rw[G.n];have:=ac9 I t0 t1 K G hT vF;have:=JD (n:=m.2.1.length) (T:=T) (f:=QQ m' T) (g:=QQ m T) fun U a b c=>ada I t0 t1 K G hT vF a b c;omega
end
theorem Im{m:aG}(I:Inv m){U:Int}(u0:0<=U)(u1:U<m.2.1.length):0<=lf m U/\(bw m U->1<=lf m U)/\((ai m U).2.2.1=true->1<=lf m U):=by have T:=I.th U u0 u1;have:=T.pc;unfold lf;exact⟨by omega,fun h=>by have:=T.on (T.oX h);omega,fun h=>by have:=T.on h;omega⟩
theorem Nj{m:aG}(I:Inv m){U:Int}(u0:0<=U)(u1:U<m.2.1.length):lf m U<=AA m U:=by
 have h:=P_ (n:=m.2.1.length) (T:=U) (f:=Yv m) fun V a b _=>by
  have:=Im I a b;unfold Yv;by_cases q:lH m V
  .have:=this.2.1 q.1;rw[vS q];omega
  .rw[o3 q];omega
 have:=nP (pH m U);unfold AA;omega
theorem Nb{m:aG}(I:Inv m){T:Int}(hT:0<=T/\T<m.2.1.length):0<=j7 m T/\j7 m T<=27/\((ai m T).2.2.1=false->j7 m T=0):=by
 have X:=I.th T hT.1 hT.2;have hg:=(BF I hT.1 hT.2).2;have hi:=nP ((ai m T).2.2.1=true);have ha:0<=oW m T/\oW m T<=18:=by
  unfold oW;have hh:=X.dZ;revert hh;cases (ai m T).2.2.2.2.1 with
  | nil=>intro _;exact⟨eA _,show(0:Int)<=18 by decide⟩
  | cons h r=>intro hh;have H:=hh h e7;have:=H.rU;have:=H.fin;have:=nP ((aq m.1 T).2.1≠1);dsimp only;split<;>omega
 refine⟨by unfold j7;omega,by unfold j7;omega,fun h=>?_⟩;have z:=X.off h;unfold j7 oW gt;rw[z.1,z.2,o3 (fun q=>by rw[h]at q;cases q)];rfl
theorem abN{m:aG}(I:Inv m){T:Int}(hT:0<=T/\T<m.2.1.length):0<=PP m T:=by
 have h1:=Nb I hT;have h2:=Nj I hT.1 hT.2;have h3:=Im I hT.1 hT.2;unfold PP;cases h:(ai m T).2.2.1 with
 | true=>have:=h3.2.2 h;omega
 | false=>have:=h1.2.2 h;omega
theorem abO{m:aG}(I:Inv m){T U:Int}(hT:0<=T/\T<m.2.1.length)(u0:0<=U)(u1:U<m.2.1.length):0<=QQ m T U:=by
 have h2:=Nj I u0 u1;have h3:=Im I u0 u1;have b1:=nP (qV m T U);have hc:ind (qU m T U)<=AA m U:=by
  by_cases q:qU m T U
  .have:=h3.2.1 q.1;rw[vS q];omega
  .rw[o3 q];omega
 have hp:kO m T U<=28/\(kO m T U<=0\/qV m T U\/v9 m T U):=by
  unfold kO;cases e:lM (ai m T) T with
  | none=>exact⟨show(0:Int)<=28 by decide,.inl (eA _)⟩
  | some h=>
   have H:bV m.1 m.2.1.length h:=by
    unfold lM at e;split at e
    .cases e
    .next q=>
     split at e
     .cases e
     .cases e;exact(I.th T hT.1 hT.2).dZ _ (mH q)
   dsimp only;split
   .next q=>
    refine⟨(Bj I H).2.1,.inr ?_⟩;by_cases z:n9 m h
    .exact .inr ⟨h,e,q,z⟩
    .exact .inl ⟨h,e,q,z⟩
   .exact⟨by decide,.inl (eA _)⟩
 unfold QQ;rcases hp.2 with q | q | q
 .omega
 .rw[vS q];omega
 .rw[o3 (fun z:qU m T U=>z.2.2.2 q)];have:1<=lf m U:=by obtain⟨h,_,e,z⟩:=q;exact h3.2.1 (e ▸ z.1)
  omega
theorem abh{m:aG}(I:Inv m){T:Int}(hT:0<=T/\T<m.2.1.length):0<=iU m T:=by have:=abN I hT;have:=P_ (n:=m.2.1.length) (T:=T) (f:=QQ m T) fun U a b _=>abO I hT a b;unfold iU;omega
theorem vQ{x:cU}{t:Int}(h:x.2.2.2.2.1=[]):lM x t=none:=by unfold lM;rw[aj h]
theorem yJ{x:cU}{t:Int}(h:(au x).1=t):lM x t=none:=by unfold lM;rw[aj h];split<;>rfl
theorem zT{x:cU}{t:Int}(hs:x.2.2.2.2.1≠[])(h:(au x).1≠t):lM x t=some (au x):=by unfold lM;rw[af hs,af h]
theorem HH{x:cU}(hs:x.2.2.2.2.1≠[])(h':gv):au (j_ x h')=h'/\(j_ x h').2.2.2.2.1≠[]:=by
 have hl:0<x.2.2.2.2.1.length:=pz.2 hs;constructor
 .unfold au j_;dsimp only;rw[b8,qv (by rw[b8];omega),List.getElem_set_self]
 .unfold j_;dsimp only;intro e;have:=er List.length e;rw[b8]at this;exact hs (lD.1 this)
theorem Mq(x:cU)(h':gv):au (qW x h')=h'/\(qW x h').2.2.2.2.1≠[]:=by
 constructor
 .unfold au qW;dsimp only;rw[qv (by simp)];simp
 .unfold qW;dsimp only;simp
section
variable {m m':aG} (I:Inv m) {t:Int} (t0:0<=t) (t1:t<m.2.1.length) {a:aS} {x:cU} (K:Kind m t a x) (G:jJ m m' t a x)
include I t0 t1 K G
theorem Fc{U d:Int}(u0:0<=U)(u1:U<m.2.1.length)(hU:U≠t)(hd:qV m' t U->qV m t U)(hh:v9 m' t U->v9 m t U\/vk m.1 U)(hp:kO m t U+d<=kO m' t U):QQ m' t U+d<=QQ m t U:=by
 have hA:=xW I t0 t1 K G U u0 u1;have h1:=Cl hd;have h2:ind (qU m t U)<=ind (qU m' t U):=Cl fun⟨c1,c2,c3,c4⟩=>by
  have hs:=ML I t0 t1 K G u0 u1 c2 c1;have hq:(aq a U).1=(aq m.1 U).1:=by
   rcases Jv I t0 t1 K G u0 u1 with q | ⟨q1,_,q3⟩
   .exact q
   .exact absurd (q1 ▸ c1) q3
  exact⟨(Cm I t0 t1 K G u0 hU).2 c1,by rw[G.mem];exact hs,fun z=>c3 (Qf I t0 t1 K G u0 u1 c2 hq (by rw[<-G.mem];exact z)),fun z=>(hh z).elim c4 c3⟩
 unfold QQ;omega
theorem Cu(h1:lM (ai m t) t=none)(h2:lM x t=none):fG m.2.1.length t (QQ m' t)<=fG m.2.1.length t (QQ m t):=by have hS:=we I t0 t1 K G;refine JD fun U u0 u1 hU=>?_;have:=Fc I t0 t1 K G (d:=0) u0 u1 hU (fun⟨h,e,_⟩=>by rw[hS,h2]at e;cases e) (fun⟨h,e,_⟩=>by rw[hS,h2]at e;cases e) (by unfold kO;rw[hS,h1,h2];exact eA _);omega
theorem Fm{h h':gv}(H:bV m.1 m.2.1.length h)(hne:h.1≠t)(h1:lM (ai m t) t=some h)(h2:lM x t=some h')(e1:h'.1=h.1)(e2:h'.2.1=h.2.1)(tj:m7 m t h+1<=m7 m' t h') :
  fG m.2.1.length t (QQ m' t)+1<=fG m.2.1.length t (QQ m t):=by
 have hS:=we I t0 t1 K G;have nL:n9 m' h'->n9 m h:=fun z=>GG I t0 t1 K G H (by unfold n9 at z⊢;rw[e1,e2]at z;exact z);have KR:n9 m h->n9 m' h':=fun z=>by
  refine⟨by rw[e1];exact(Cm I t0 t1 K G H.t.1 hne).2 z.1,?_⟩;rw[e1,e2,G.mem];rcases Jv I t0 t1 K G H.t.1 H.t.2 with q | ⟨q1,_,q3⟩
  .rw[q];exact z.2
  .exact absurd q1 hne
 have one:∀{U d:Int},0<=U->U<m.2.1.length->U≠t->(kO m t U+d<=kO m' t U)->QQ m' t U+d<=QQ m t U:=fun {U d} u0 u1 hU hp=>
  Fc I t0 t1 K G u0 u1 hU (fun⟨k,e,e3,e4⟩=>by
   rw[hS,h2]at e;cases e;exact⟨h,h1,by rw[<-e1];exact e3,fun z=>e4 (KR z)⟩) (fun⟨k,e,e3,e4⟩=>by
   rw[hS,h2]at e;cases e;exact .inl ⟨h,h1,by rw[<-e1];exact e3,nL e4⟩) hp
 refine Bt I.n.2 H.t.1 H.t.2 hne ?_ fun U u0 u1 hU I8=>?_
 .refine one H.t.1 H.t.2 hne ?_;unfold kO;rw[hS,h1,h2];dsimp only;rw[aj rfl,aj e1];exact tj
 .have:=one (d:=0) u0 u1 hU (by
   unfold kO;rw[hS,h1,h2];dsimp only;rw[af (fun z=>I8 z.symm),af (fun z=>I8 (by rw[<-z,e1]))];exact eA _)
  omega
theorem ak3(hx:x=ja (ai m t))(ha:a=m.1)(hs:(ai m t).2.2.2.2.1≠[])(hne:(au (ai m t)).1≠t)(hc:(au (ai m t)).2.1=(aq m.1 (au (ai m t)).1).1->(aq m.1 (au (ai m t)).1).2.1≠1/\¬ vk m.1 (au (ai m t)).1) :
  fG m.2.1.length t (QQ m' t)+1<=fG m.2.1.length t (QQ m t):=by
 have hS:=we I t0 t1 K G;have T:=I.th t t0 t1;have H:=T.dZ _ (mH hs);have h1:=zT hs hne;have h2:lM x t=none:=by
  rw[hx];rcases T.st with z | ⟨q,z⟩ | ⟨q,q',z,zt⟩
  .exact absurd z hs
  .exact vQ (by unfold ja;dsimp only;rw[z];rfl)
  .exact yJ (by unfold au ja;dsimp only;rw[z];exact zt)
 generalize au (ai m t)=h at *;have nd:∀U,¬ qV m' t U:=fun U ⟨k,e,_⟩=>by rw[hS,h2]at e;cases e
 have nh:∀U,¬ v9 m' t U:=fun U ⟨k,e,_⟩=>by rw[hS,h2]at e;cases e
 have np:∀U,kO m' t U=0:=fun U=>by unfold kO;rw[hS,h2]
 refine Bt I.n.2 H.t.1 H.t.2 hne ?_ fun U u0 u1 hU I8=>?_
 .have hA:=xW I t0 t1 K G h.1 H.t.1 H.t.2;have hr:=(Bj (T:=t) I H).2.1;have hp:kO m t h.1=m7 m t h:=by unfold kO;rw[h1];dsimp only;rw[aj rfl]
  unfold QQ;rw[np,o3 (nd h.1),hp];have b1:=nP (qU m' t h.1);by_cases z:n9 m h
  .have e1:¬ qU m t h.1:=fun w=>w.2.2.2 ⟨h,h1,rfl,z⟩;obtain⟨w1,w2⟩:=hc z.2;have e2:qU m' t h.1:=⟨(Cm I t0 t1 K G H.t.1 hne).2 z.1,by rw[G.mem,ha];exact w1,by rw[G.mem,ha];exact w2,nh _⟩
   have b2:=nP (qV m t h.1);rw[o3 e1,vS e2];omega
  .have e1:qV m t h.1:=⟨h,h1,rfl,z⟩
   have e2:ind (qU m t h.1)<=ind (qU m' t h.1):=Cl fun⟨c1,c2,c3,c4⟩=>⟨(Cm I t0 t1 K G H.t.1 hne).2 c1,by rw[G.mem,ha];exact c2,by rw[G.mem,ha];exact c3,nh _⟩
   rw[vS e1];omega
 .have:=Fc I t0 t1 K G (d:=0) u0 u1 hU (fun z=>absurd z (nd U)) (fun z=>absurd z (nh U)) (by
   rw[np];unfold kO;rw[h1];dsimp only;rw[af (fun z=>I8 z.symm)];exact eA _)
  omega
theorem ak1{v p:Int}(h1:lM (ai m t) t=none)(hx:lM x t=some (v,(aq m.1 v).1,0,0,()))(ha:a=m.1)(v0:0<=v)(v1:v<m.2.1.length)(vt:v≠t)(vo:bw m v)(p0:0<=p)(p1:p<20)(hw:wd m.1 p=dM v (aq m.1 v).1) :
  fG m.2.1.length t (QQ m' t)+1<=fG m.2.1.length t (QQ m t):=by
 have hS:=we I t0 t1 K G;have nL:n9 m' (v,(aq m.1 v).1,0,0,()):=⟨(Cm I t0 t1 K G v0 vt).2 vo,by rw[G.mem,ha]⟩
 have nd:∀U,¬ qV m' t U:=fun U ⟨k,e,_,z⟩=>by rw[hS,hx]at e;cases e;exact z nL
 have hh:∀U,v9 m' t U->v9 m t U\/vk m.1 U:=fun U ⟨k,e,e2,z⟩=>by
  rw[hS,hx]at e;cases e;dsimp only at e2;rw[<-e2];exact .inr ⟨p,p0,p1,hw⟩
 have np:∀U,kO m t U=0:=fun U=>by unfold kO;rw[h1]
 have hv:1<=m7 m' t (v,(aq m.1 v).1,0,0,()):=by unfold m7;have:=nP (Au m' t v);split<;>dsimp only<;>omega
 refine Bt I.n.2 v0 v1 vt ?_ fun U u0 u1 hU I8=>?_
 .refine Fc I t0 t1 K G v0 v1 vt (fun z=>absurd z (nd v)) (hh v) ?_;rw[np];unfold kO;rw[hS,hx];dsimp only;rw[aj rfl];omega
 .have:=Fc I t0 t1 K G (d:=0) u0 u1 hU (fun z=>absurd z (nd U)) (hh U) (by
   rw[np];unfold kO;rw[hS,hx];dsimp only;rw[af (fun z=>I8 z.symm)];exact eA _)
  omega
end
theorem adl{n:Nat}(hn:n<=3){T V W d e:Int}{f g:Int->Int}(hT:0<=T/\T<n)(hV:0<=V/\V<n)(hW:0<=W/\W<n)(h1:V≠T)(h2:W≠T)(h3:V≠W)(a:f V+d<=g V)(b:f W+e<=g W):fG n T f+(d+e)<=fG n T g:=by
 have W3:n=3:=by omega
 subst W3;have t3:T=0\/T=1\/T=2:=by omega
 have v3:V=0\/V=1\/V=2:=by omega
 have w3:W=0\/W=1\/W=2:=by omega
 unfold fG;rcases t3 with rfl | rfl | rfl<;>rcases v3 with rfl | rfl | rfl<;>rcases w3 with rfl | rfl | rfl<;>first | (exfalso;omega) | (simp;omega)
theorem Ng{m:aG}(I:Inv m)(L:Live m){t v:Int}(t0:0<=t)(t1:t<m.2.1.length)(hs:(ai m t).2.2.2.2.1≠[])(h1:(au (ai m t)).2.1=(aq m.1 (au (ai m t)).1).1)(h2:(aq m.1 (au (ai m t)).1).2.1=1)
  (hne:(au (ai m t)).1≠t) (vo:bw m v) (f8:nS m.1 (au (ai m t)).1 v):v≠t:=by
 intro q;subst q;have T:=I.th v t0 t1;have H:=T.dZ _ (mH hs);rcases T.st with z | ⟨q,z⟩ | ⟨q,q',z,zt⟩
 .exact hs z
 .have:au (ai m v)=q:=by unfold au;rw[z];rfl
  rw[this]at hne;unfold bw bC at vo;rw[z]at vo;exact hne (by simpa using vo)
 .have e:au (ai m v)=q':=by unfold au;rw[z];rfl
  have l:=L v t0 t1 _ _ z;rw[<-e]at l;rcases l.2 h1 h2 with c | ⟨w,w0,w1,wu,wh,c1,c2⟩
  .exact UB I t0 t1 H.t.1 H.t.2 c f8 hne.symm
  .exact no3 I t0 t1 w0 w1 H.t.1 H.t.2 c1 c2 f8 wu.symm wh hne
noncomputable def iw(s:Int)(l:List gv)(T:Int):Int:=
 match l with
 | h::_=>if h.1=T then 1+h.2.2.1+ind (s≠1)+h.2.2.2.1 else 0
 | []=>0
theorem Bo(m:aG)(T:Int):oW m T=iw (aq m.1 T).2.1 (ai m T).2.2.2.2.1 T:=rfl
theorem IT(s:Int)(h:gv){T:Int}(e:h.1=T):iw s [h] T=1+h.2.2.1+ind (s≠1)+h.2.2.2.1:=aj e
theorem A6(s:Int)(h:gv)(r:List gv){T:Int}(e:h.1≠T):iw s (h::r) T=0:=af e
theorem G7{m:aS}{n:Nat}{x:cU}{t:Int}(T:js m n x t)(s:Int){h':gv}(hs:x.2.2.2.2.1≠[])(hne:(au x).1≠t)(W7:h'.1≠t):iw s (j_ x h').2.2.2.2.1 t=iw s x.2.2.2.2.1 t:=by
 unfold j_;dsimp only;rcases T.st with z | ⟨q,z⟩ | ⟨q,q',z,zt⟩
 .exact absurd z hs
 .have:au x=q:=by unfold au;rw[z];rfl
  rw[this]at hne;rw[z];show iw s [h'] t=iw s [q] t;rw[A6 s q [] hne,A6 s h' [] W7]
 .rw[z];rfl
theorem acB{m:aS}{n:Nat}{x:cU}{t:Int}(T:js m n x t)(s:Int)(hs:x.2.2.2.2.1≠[])(hne:(au x).1≠t):iw s (ja x).2.2.2.2.1 t=iw s x.2.2.2.2.1 t:=by
 unfold ja;dsimp only;rcases T.st with z | ⟨q,z⟩ | ⟨q,q',z,zt⟩
 .exact absurd z hs
 .have:au x=q:=by unfold au;rw[z];rfl
  rw[this]at hne;rw[z,A6 s q [] hne];rfl
 .rw[z];rfl
theorem HK{m:aG}(I:Inv m)(L:Live m){t:Int}(t0:0<=t)(t1:t<m.2.1.length)(hs:(ai m t).2.2.2.2.1≠[])(he:(au (ai m t)).1=t):(ai m t).2.2.2.2.1=[au (ai m t)]:=by
 rcases(I.th t t0 t1).st with z | ⟨q,z⟩ | ⟨q,q',z,zt⟩
 .exact absurd z hs
 .have:au (ai m t)=q:=by unfold au;rw[z];rfl
  rw[this,z]
 .have:au (ai m t)=q':=by unfold au;rw[z];rfl
  exact absurd (this ▸ he) (L t t0 t1 _ _ z).1
section
variable {m m':aG} (I:Inv m) (L:Live m) {t:Int} (t0:0<=t) (t1:t<m.2.1.length) {a:aS} {x:cU} (K:Kind m t a x) (G:jJ m m' t a x)
include I L t0 t1 K G
theorem ak2{v:Int}(hs:(ai m t).2.2.2.2.1≠[])(h1:(au (ai m t)).2.1=(aq m.1 (au (ai m t)).1).1)(h2:(aq m.1 (au (ai m t)).1).2.1=1)(hne:(au (ai m t)).1≠t)(vh:v≠(au (ai m t)).1)(v0:0<=v)(v1:v<m.2.1.length)
  (vo:bw m v) (f8:nS m.1 (au (ai m t)).1 v) (ha:a=m.1) (hx:x=j_ (ai m t) (v,(aq m.1 v).1,0,0,())):fG m.2.1.length t (QQ m' t)+2<=fG m.2.1.length t (QQ m t):=by
 have vt:=Ng I L t0 t1 hs h1 h2 hne vo f8;have hS:=we I t0 t1 K G;have H:=(I.th t t0 t1).dZ _ (mH hs);have f1:=zT hs hne;have f2:lM x t=some (v,(aq m.1 v).1,0,0,()):=by obtain⟨e,e2⟩:=HH hs (v,(aq m.1 v).1,0,0,());have:=zT (x:=j_ (ai m t) (v,(aq m.1 v).1,0,0,())) (t:=t) e2 (by rw[e];exact vt);rw[hx,this,e]
 have n3:=I.n.2;generalize au (ai m t)=h at *;have w0:=H.t.1;have w1:=H.t.2;have hop:bw m h.1:=I.mem.jN h.1 w0 w1 h2;have nL:n9 m h:=⟨hop,h1⟩
 have CX:¬ Au m t h.1:=fun⟨C,c0,c1,c2,c3,c4⟩=>by
  have:C=v:=by omega
  subst this;exact UB I w0 w1 c0 c1 f8 c4 vh.symm
 have hp:m7 m t h<=9:=by unfold m7;rw[aj ⟨nL,h2⟩,o3 CX];have:=H.rU;omega
 have hlv:Au m' t v:=⟨h.1,w0,by rw[G.n];exact w1,hne,vh.symm,by rw[G.mem,ha];exact f8⟩
 have hq:11<=m7 m' t (v,(aq m.1 v).1,0,0,()):=by unfold m7;rw[vS hlv];split<;>dsimp only<;>omega
 have hmk:vk m.1 v:=by obtain⟨_,i,i0,i1,_,hi⟩:=f8;have he:=I.mem.gU w0 w1 i0 i1;exact⟨_,he.1.1,he.1.2,hi⟩
 have hvl:n9 m' (v,(aq m.1 v).1,0,0,()):=⟨(Cm I t0 t1 K G v0 vt).2 vo,by rw[G.mem,ha]⟩
 have nd:∀U,¬ qV m' t U:=fun U ⟨k,e,_,z⟩=>by rw[hS,f2]at e;cases e;exact z hvl
 have hh:∀U,v9 m' t U->v9 m t U\/vk m.1 U:=fun U ⟨k,e,e2,z⟩=>by
  rw[hS,f2]at e;cases e;dsimp only at e2;rw[<-e2];exact .inr hmk
 have A:=Fc I t0 t1 K G (d:=-9) w0 w1 hne (fun z=>absurd z (nd _)) (hh _) (by
  unfold kO;rw[hS,f1,f2];dsimp only;rw[aj rfl,af vh];omega)
 have B:=Fc I t0 t1 K G (d:=11) v0 v1 vt (fun z=>absurd z (nd _)) (hh _) (by
  unfold kO;rw[hS,f1,f2];dsimp only;rw[af vh.symm,aj rfl];omega)
 have:=adl n3 (T:=t) ⟨t0,t1⟩ ⟨w0,w1⟩ ⟨v0,v1⟩ hne vt vh.symm A B;omega
omit L in
theorem alM{d:Int}(ho:j7 m t+d<=j7 m' t):PP m' t+d<=PP m t:=by have:=xW I t0 t1 K G t t0 t1;unfold PP;omega
omit L in
theorem Fl(hA:AA m' t+1<=AA m t)(hx:x.2.2.2=([],[],())):PP m' t+1<=PP m t:=by
 have h1:=Nb I (T:=t) ⟨t0,t1⟩;have hS:=we I t0 t1 K G;have h2:0<=j7 m' t:=by unfold j7 gt;rw[Bo,hS,hx];have:=nP (x.2.2.1=true);show 0<=ind (x.2.2.1=true)+(0:Int)+0;omega
 unfold PP;omega
omit L in
theorem v5{d:Int}(hg:((ai m t).2.2.2.1.length:Int)+ind ((ai m t).2.2.1=true)+iw (aq m.1 t).2.1 (ai m t).2.2.2.2.1 t+d<=(x.2.2.2.1.length:Int)+ind (x.2.2.1=true)+iw (aq a t).2.1 x.2.2.2.2.1 t):PP m' t+d<=PP m t:=by refine alM I t0 t1 K G ?_;unfold j7 gt;rw[Bo,Bo,we I t0 t1 K G,G.mem];omega
omit L in
theorem alz{u:Int}(u0:0<=u)(u1:u<m.2.1.length)(h1:(aq m.1 u).2.1=1)(h2:(aq a u).2.1=1):ind (Au m t u)<=ind (Au m' t u):=
 Cl fun⟨C,a0,a1,n1,n2,s⟩=>⟨C,a0,by rw[G.n];exact a1,n1,n2,by rw[G.mem];exact TP I t0 t1 K a0 a1 u0 u1 n2 h1 h2 s⟩
theorem MW(hs:(ai m t).2.2.2.2.1≠[])(h1:(au (ai m t)).2.1=(aq m.1 (au (ai m t)).1).1)(h2:(aq m.1 (au (ai m t)).1).2.1=1)(hd:∀u,aq a u=aq m.1 u)
  (hx:x=j_ (ai m t) ((au (ai m t)).1,(au (ai m t)).2.1,(au (ai m t)).2.2.1+1,(au (ai m t)).2.2.2)):iU m' t+1<=iU m t:=by
 have T:=I.th t t0 t1;have H:=T.dZ _ (mH hs);obtain⟨p1,p2⟩:=HH hs ((au (ai m t)).1,(au (ai m t)).2.1,(au (ai m t)).2.2.1+1,(au (ai m t)).2.2.2);by_cases he:(au (ai m t)).1=t
 .have o1:=HK I L t0 t1 hs he;have e1:x.2.2.2.2.1=[((au (ai m t)).1,(au (ai m t)).2.1,(au (ai m t)).2.2.1+1,(au (ai m t)).2.2.2)]:=by rw[hx];unfold j_;dsimp only;rw[o1];rfl
  have l1:iw (aq m.1 t).2.1 (ai m t).2.2.2.2.1 t=1+(au (ai m t)).2.2.1+ind ((aq m.1 t).2.1≠1)+(au (ai m t)).2.2.2.1:=by rw[o1];exact IT _ _ he
  have l2:iw (aq a t).2.1 x.2.2.2.2.1 t=1+((au (ai m t)).2.2.1+1)+ind ((aq m.1 t).2.1≠1)+(au (ai m t)).2.2.2.1:=by rw[e1,hd t];exact IT _ _ he
  have g1:x.2.2.2.1=(ai m t).2.2.2.1:=by rw[hx];rfl
  have g2:x.2.2.1=(ai m t).2.2.1:=by rw[hx];rfl
  have A:=v5 I t0 t1 K G (d:=1) (by
   rw[l1,l2,g1,g2];omega)
  have B:=Cu I t0 t1 K G (yJ he) (by rw[hx];exact yJ (by rw[p1];exact he));unfold iU;rw[G.n];omega
 .have A:=v5 I t0 t1 K G (d:=0) (by
   rw[hx,hd t,G7 T _ hs he (h':=((au (ai m t)).1,(au (ai m t)).2.1,(au (ai m t)).2.2.1+1,(au (ai m t)).2.2.2)) he];show((ai m t).2.2.2.1.length:Int)+ind ((ai m t).2.2.1=true)+_+0<=((ai m t).2.2.2.1.length:Int)+ind ((ai m t).2.2.1=true)+_;omega)
  have f2:lM x t=some ((au (ai m t)).1,(au (ai m t)).2.1,(au (ai m t)).2.2.1+1,(au (ai m t)).2.2.2):=by rw[hx,zT p2 (by rw[p1];exact he),p1]
  have c:n9 m (au (ai m t)):=⟨I.mem.jN _ H.t.1 H.t.2 h2,h1⟩
  have c':n9 m' ((au (ai m t)).1,(au (ai m t)).2.1,(au (ai m t)).2.2.1+1,(au (ai m t)).2.2.2):=⟨(Cm I t0 t1 K G H.t.1 he).2 c.1,by rw[G.mem,hd];exact h1⟩
  have sW:(aq m'.1 (au (ai m t)).1).2.1=1:=by rw[G.mem,hd];exact h2
  have lv:=alz I t0 t1 K G H.t.1 H.t.2 h2 (by rw[hd];exact h2);have B:=Fm I t0 t1 K G H he (zT hs he) f2 rfl rfl (by
   unfold m7;rw[aj ⟨c,h2⟩,aj ⟨c',sW⟩];dsimp only;omega)
  unfold iU;rw[G.n];omega
theorem MV(hs:(ai m t).2.2.2.2.1≠[])(h2:(aq m.1 (au (ai m t)).1).2.1≠1)(hd:∀u,aq a u=aq m.1 u)
  (hx:x=j_ (ai m t) ((au (ai m t)).1,(au (ai m t)).2.1,(au (ai m t)).2.2.1,(au (ai m t)).2.2.2.1+1,())):iU m' t+1<=iU m t:=by
 have T:=I.th t t0 t1;have H:=T.dZ _ (mH hs);obtain⟨p1,p2⟩:=HH hs ((au (ai m t)).1,(au (ai m t)).2.1,(au (ai m t)).2.2.1,(au (ai m t)).2.2.2.1+1,());by_cases he:(au (ai m t)).1=t
 .have o1:=HK I L t0 t1 hs he;have e1:x.2.2.2.2.1=[((au (ai m t)).1,(au (ai m t)).2.1,(au (ai m t)).2.2.1,(au (ai m t)).2.2.2.1+1,())]:=by rw[hx];unfold j_;dsimp only;rw[o1];rfl
  have l1:iw (aq m.1 t).2.1 (ai m t).2.2.2.2.1 t=1+(au (ai m t)).2.2.1+ind ((aq m.1 t).2.1≠1)+(au (ai m t)).2.2.2.1:=by rw[o1];exact IT _ _ he
  have l2:iw (aq a t).2.1 x.2.2.2.2.1 t=1+(au (ai m t)).2.2.1+ind ((aq m.1 t).2.1≠1)+((au (ai m t)).2.2.2.1+1):=by rw[e1,hd t];exact IT _ _ he
  have g1:x.2.2.2.1=(ai m t).2.2.2.1:=by rw[hx];rfl
  have g2:x.2.2.1=(ai m t).2.2.1:=by rw[hx];rfl
  have A:=v5 I t0 t1 K G (d:=1) (by
   rw[l1,l2,g1,g2];omega)
  have B:=Cu I t0 t1 K G (yJ he) (by rw[hx];exact yJ (by rw[p1];exact he));unfold iU;rw[G.n];omega
 .have A:=v5 I t0 t1 K G (d:=0) (by
   rw[hx,hd t,G7 T _ hs he (h':=((au (ai m t)).1,(au (ai m t)).2.1,(au (ai m t)).2.2.1,(au (ai m t)).2.2.2.1+1,())) he];show((ai m t).2.2.2.1.length:Int)+ind ((ai m t).2.2.1=true)+_+0<=((ai m t).2.2.2.1.length:Int)+ind ((ai m t).2.2.1=true)+_;omega)
  have f2:lM x t=some ((au (ai m t)).1,(au (ai m t)).2.1,(au (ai m t)).2.2.1,(au (ai m t)).2.2.2.1+1,()):=by rw[hx,zT p2 (by rw[p1];exact he),p1]
  have B:=Fm I t0 t1 K G H he (zT hs he) f2 rfl rfl (by
   unfold m7;rw[af (fun z=>h2 z.2),af (fun z=>h2 (by have:=z.2;rw[G.mem,hd]at this;exact this))];dsimp only;omega)
  unfold iU;rw[G.n];omega
theorem Nt{c:Int}(hc:c≠1)(hs:(ai m t).2.2.2.2.1≠[])(h1:(au (ai m t)).2.1=(aq m.1 (au (ai m t)).1).1)(h2:(aq m.1 (au (ai m t)).1).2.1=1)(ha:a=bJ m.1 (au (ai m t)).1 ((aq m.1 (au (ai m t)).1).1,c,(aq m.1 (au (ai m t)).1).2.2))
  (hx:x=ai m t):iU m' t+1<=iU m t:=by
 have T:=I.th t t0 t1;have H:=T.dZ _ (mH hs);have me:=I.mem.dw;have hd:∀v:Int,0<=v->aq a v=if v=(au (ai m t)).1 then ((aq m.1 (au (ai m t)).1).1,c,(aq m.1 (au (ai m t)).1).2.2) else aq m.1 v:=fun v v0=>by rw[ha];exact n5 ⟨H.t.1,by have:=H.t.2;omega⟩ v0
 by_cases he:(au (ai m t)).1=t
 .have o1:=HK I L t0 t1 hs he;have hst:(aq a t).2.1=c:=by rw[hd t t0,aj he.symm]
  have Eu:(aq m.1 t).2.1=1:=he ▸ h2;have l1:iw (aq m.1 t).2.1 (ai m t).2.2.2.2.1 t=1+(au (ai m t)).2.2.1+0+(au (ai m t)).2.2.2.1:=by rw[o1,IT _ _ he,o3 (p:=(aq m.1 t).2.1≠1) (fun z=>z Eu)]
  have l2:iw (aq a t).2.1 (ai m t).2.2.2.2.1 t=1+(au (ai m t)).2.2.1+1+(au (ai m t)).2.2.2.1:=by rw[o1,IT _ _ he,vS (p:=(aq a t).2.1≠1) (by rw[hst];exact hc)]
  have A:=v5 I t0 t1 K G (d:=1) (by
   rw[hx,l1,l2];omega)
  have B:=Cu I t0 t1 K G (yJ he) (by rw[hx];exact yJ he);unfold iU;rw[G.n];omega
 .have A:=v5 I t0 t1 K G (d:=0) (by
   rw[hx,hd t t0,af (fun z=>he z.symm)];omega)
  have c0:n9 m (au (ai m t)):=⟨I.mem.jN _ H.t.1 H.t.2 h2,h1⟩
  have hr:=(Bj (T:=t) I H).2.2 ⟨c0,h2⟩;have B:=Fm I t0 t1 K G H he (zT hs he) (by rw[hx];exact zT hs he) rfl rfl (by
   have e:m7 m' t (au (ai m t))=20+(au (ai m t)).2.2.2.1:=by unfold m7;exact af (fun z=>hc (by have:=z.2;rw[G.mem,hd _ H.t.1,aj rfl]at this;exact this))
   have:=H.fin;omega)
  unfold iU;rw[G.n];omega
theorem acF:iU m' t+1<=iU m t:=by
 have T:=I.th t t0 t1;have hK:=K;have me:=I.mem.dw;have fin:∀{d e:Int},PP m' t+d<=PP m t->fG m.2.1.length t (QQ m' t)+e<=fG m.2.1.length t (QQ m t)->1<=d+e->iU m' t+1<=iU m t:=fun h1 h2 h3=>by
  unfold iU;rw[G.n];omega
 have z0:∀{p q:Int},p<=q->p+0<=q:=fun h=>by omega
 cases K with
 | zi h=>have z:=T.off h;refine fin (d:=1) (e:=0) (v5 I t0 t1 hK G ?_) (z0 (Cu I t0 t1 hK G (vQ z.2) (vQ z.2))) (by omega);dsimp only;rw[o3 (fun q=>by rw[h]at q;cases q),vS rfl];omega
 | got q ho hs hq=>refine fin (d:=1) (e:=0) (v5 I t0 t1 hK G ?_) (z0 (Cu I t0 t1 hK G (vQ hs) (vQ hs))) (by omega);show _<=(((ai m t).2.2.2.1++[(q,fX m.1 q,())]).length:Int)+ind ((ai m t).2.2.1=true)+iw (aq m.1 t).2.1 (ai m t).2.2.2.2.1 t;rw[cT,nG];omega
 | new q E r ho hs hv hq=>
  have e1:(qW (rP (ai m t) ((ai m t).2.2.2.1++[(q,fX m.1 q,())])) (t,(aq m.1 t).1+1,0,0,())).2.2.2.2.1=[(t,(aq m.1 t).1+1,0,0,())]:=by show(ai m t).2.2.2.2.1++_=_;rw[hs];rfl
  refine fin (d:=1) (e:=0) (v5 I t0 t1 hK G ?_) (z0 (Cu I t0 t1 hK G (vQ hs) (yJ (by rw[(Mq _ _).1])))) (by omega);rw[e1,hs,IT _ _ rfl];show((ai m t).2.2.2.1.length:Int)+ind ((ai m t).2.2.1=true)+0+1<=(((ai m t).2.2.2.1++[(q,fX m.1 q,())]).length:Int)+ind ((ai m t).2.2.1=true)+(1+0+ind _+0)
  rw[cT,nG];have:=nP ((aq (bJ m.1 t ((aq m.1 t).1+1,1,E,r,())) t).2.1≠1);omega
 | now ho hs=>exact fin (d:=1) (e:=0) (Fl I t0 t1 hK G (Cw I t0 t1 hK G rfl rfl rfl (.inl rfl)).1 rfl) (z0 (Cu I t0 t1 hK G (vQ hs) (vQ rfl))) (by omega)
 | pS hs h1 h2 h3=>exact fin (d:=1) (e:=0) (Fl I t0 t1 hK G (Cw I t0 t1 hK G rfl rfl rfl (.inl rfl)).1 rfl) (z0 (Cu I t0 t1 hK G (yJ h1) (vQ rfl))) (by omega)
 | CL hs h1 h2 h3=>exact fin (d:=1) (e:=0) (Fl I t0 t1 hK G (Cw I t0 t1 hK G rfl rfl rfl (.inr ⟨rfl,(JA T hs h1).1,h2⟩)).1 rfl) (z0 (Cu I t0 t1 hK G (yJ h1) (vQ rfl))) (by omega)
 | push v p ho hs v0 v1 vt vo p0 p1 hw=>
  have f1:lM (ai m t) t=none:=by
   rcases hs with hs | ⟨k,hs,kt,_⟩
   .exact vQ hs
   .exact yJ (by unfold au;rw[hs];exact kt)
  have f2:lM (qW (ai m t) (v,(aq m.1 v).1,0,0,())) t=some (v,(aq m.1 v).1,0,0,()):=by obtain⟨e,e2⟩:=Mq (ai m t) (v,(aq m.1 v).1,0,0,());have:=zT (x:=qW (ai m t) (v,(aq m.1 v).1,0,0,())) (t:=t) e2 (by rw[e];exact vt);rw[this,e]
  refine fin (d:=0) (e:=1) (v5 I t0 t1 hK G ?_) (ak1 I t0 t1 hK G f1 f2 rfl v0 v1 vt vo p0 p1 hw) (by omega);show _<=((ai m t).2.2.2.1.length:Int)+ind ((ai m t).2.2.1=true)+iw (aq m.1 t).2.1 ((ai m t).2.2.2.2.1++[(v,(aq m.1 v).1,0,0,())]) t;rcases hs with hs | ⟨k,hs,kt,_⟩
  .rw[hs];rw[show([]++[(v,(aq m.1 v).1,0,0,())]:List gv)=[(v,(aq m.1 v).1,0,0,())] from rfl,A6 _ _ _ vt];show _+(0:Int)+0<=_;omega
  .rw[hs];show _+iw (aq m.1 t).2.1 [k] t+0<=_+iw (aq m.1 t).2.1 [k] t;omega
 | qG hs hne hc=>refine fin (d:=0) (e:=1) (v5 I t0 t1 hK G ?_) (ak3 I t0 t1 hK G rfl rfl hs hne hc) (by omega);rw[acB T _ hs hne];show _<=((ai m t).2.2.2.1.length:Int)+ind ((ai m t).2.2.1=true)+_;omega
 | swap v hs h1 h2 hne vh v0 v1 vo f8=>refine fin (d:=0) (e:=2) (v5 I t0 t1 hK G ?_) (ak2 I L t0 t1 hK G hs h1 h2 hne vh v0 v1 vo f8 rfl rfl) (by omega);rw[G7 T _ hs hne (h':=(v,(aq m.1 v).1,0,0,())) (Ng I L t0 t1 hs h1 h2 hne vo f8)];show _<=((ai m t).2.2.2.1.length:Int)+ind ((ai m t).2.2.1=true)+_;omega
 | mz hs h1 h2=>exact MW I L t0 t1 hK G hs h1 h2 (fun _=>rfl) rfl
 | lay p hs h1 h2 p0 p1 hw hv=>exact MW I L t0 t1 hK G hs h1 h2 (fun _=>rfl) rfl
 | pT hs h1 h2=>exact MV I L t0 t1 hK G hs h2 (fun _=>rfl) rfl
 | oN p y hs h1 h2 p0 p1 hw hv=>exact MV I L t0 t1 hK G hs h2 (fun _=>rfl) rfl
 | yes hs h1 h2 h3=>exact Nt I L t0 t1 hK G (c:=2) (by decide) hs h1 h2 rfl rfl
 | no i hs h1 h2 i0 i1 hb hw hv hval=>exact Nt I L t0 t1 hK G (c:=3) (by decide) hs h1 h2 rfl rfl
end
theorem HY{m:aG}(I:Inv m)(L:Live m){t:Int}(t0:0<=t)(t1:t<m.2.1.length):Live (jn m t)/\(∀T:Int,0<=T->T<m.2.1.length->iU (jn m t) T<=iU m T)/\((ai m t).2.1<(ai m t).1.length->iU (jn m t) t+1<=iU m t):=by
 by_cases h:(ai m t).2.1<(ai m t).1.length
 .have e:jn m t=vn m t:=by unfold jn;rw[aj h]
  rw[e];obtain⟨a,x,K,G⟩:=Rb I t0 t1 (fun k k' z=>(L t t0 t1 k k' z).1);have I':=IQ I;have L':Live (tick m):=L;have s:=acF I' L' t0 t1 K G;have e2:∀T,iU (tick m) T=iU m T:=fun T=>rfl;refine⟨ab2 I' L' t0 t1 K G,fun T T0 T1=>?_,fun _=>by rw[<-e2 t];exact s⟩;by_cases q:T=t
  .subst q;rw[<-e2 T];omega
  .rw[<-e2 T];exact abJ I' t0 t1 K G ⟨T0,T1⟩ q
 .have e:jn m t=m:=by unfold jn;rw[af h]
  rw[e];exact⟨L,fun _ _ _=>eA _,fun z=>absurd z h⟩
theorem abM(who:List Int):∀{m:aG},Inv m->Live m->(∀t∈who,0<=t/\t<m.2.1.length)->Live (tI m who)/\∀T:Int,0<=T->T<m.2.1.length->iU (tI m who) T<=iU m T:=by
 induction who with
 | nil=>intro m I L _;exact⟨L,fun _ _ _=>eA _⟩
 | cons t who ih=>intro m I L h;have ht:=h t e7;obtain⟨g1,g2,_⟩:=HY I L ht.1 ht.2;obtain⟨a,b⟩:=ih (xT I ht.1 ht.2) g1 (fun u hu=>by rw[Fh];exact h u (cF _ hu));exact⟨a,fun T T0 T1=>BR (b T T0 (by rw[Fh];exact T1)) (g2 T T0 T1)⟩
theorem Jp{r:qp}{L:List (List cK)}(hL:iD L){U:Int}(u0:0<=U)(u1:U<L.length):∃ops:List cK,ai (dX r L) U=(ops,0,false,[],[],())/\ops.length<=4:=by refine⟨L[U.toNat]'(by omega),?_,(hL.ops _ (ez _)).1⟩;unfold ai dX;dsimp only;rw[qv (by rw[jA];omega),yg]
theorem ab1{r:qp}{L:List (List cK)}(hL:iD L):Live (dX r L):=by
 intro t t0 t1 k k' h;have hl:(dX r L).2.1.length=L.length:=by unfold dX;simp
 obtain⟨ops,e,_⟩:=Jp (r:=r) hL t0 (by omega);rw[e]at h;cases h
theorem Mm{n:Nat}(hn:n<=3){T c:Int}(hc:0<=c)(hT:0<=T/\T<n){f:Int->Int}(h:∀U:Int,0<=U->U<n->U≠T->f U<=c):fG n T f<=((n:Int)-1) * c:=by
 have one:∀U:Int,0<=U->(if U<n/\U≠T then f U else 0)<=(if U<n/\U≠T then c else 0):=fun U u0=>by
  by_cases q:U<n/\U≠T
  .rw[aj q,aj q];exact h U u0 q.1 q.2
  .rw[af q,af q];exact eA _
 have a:=one 0 (by omega);have b:=one 1 (by omega);have d:=one 2 (by omega);have t3:T=0\/T=1\/T=2:=by omega
 have n3:n=1\/n=2\/n=3:=by omega
 unfold fG;rcases n3 with rfl | rfl | rfl<;>rcases t3 with rfl | rfl | rfl<;>first | (exfalso;omega) | (simp at a b d⊢<;>omega)
theorem acE{r:qp}{L:List (List cK)}(hL:iD L){T:Int}(hT:0<=T/\T<L.length):iU (dX r L) T<=1032/\iU (dX r L) T<=400 * L.length-1:=by
 have hl:(dX r L).2.1.length=L.length:=by unfold dX;simp
 have hn:=hL.n;have hno:∀U:Int,0<=U->U<L.length->¬ bw (dX r L) U:=fun U u0 u1=>by
  obtain⟨ops,e,_⟩:=Jp (r:=r) hL u0 u1;unfold bw;rw[e];simp[bC]
 have hlf:∀U:Int,0<=U->U<L.length->lf (dX r L) U<=4:=fun U u0 u1=>by
  obtain⟨ops,e,h⟩:=Jp (r:=r) hL u0 u1;unfold lf;rw[e];dsimp only;omega
 have hY:∀U:Int,0<=U->U<L.length->Yv (dX r L) U<=4:=fun U u0 u1=>by
  have:=hlf U u0 u1;have:=nP (lH (dX r L) U);unfold Yv;omega
 have hA:∀U:Int,0<=U->U<L.length->AA (dX r L) U<=4 * L.length:=fun U u0 u1=>by
  have h1:=hlf U u0 u1;have h2:¬ pH (dX r L) U:=by
   obtain⟨ops,e,h⟩:=Jp (r:=r) hL u0 u1;rintro(z | ⟨_,g,hg,_⟩)
   .exact hno U u0 u1 z.1
   .unfold gt at hg;rw[e]at hg;simp at hg
  have h3:=Mm (n:=L.length) hn.2 (T:=U) (c:=4) (f:=Yv (dX r L)) (by omega) ⟨u0,u1⟩ (fun V a b _=>hY V a b);unfold AA;rw[hl,o3 h2];omega
 have hQ:∀U:Int,0<=U->U<L.length->QQ (dX r L) T U<=29 * (4 * L.length):=fun U u0 u1=>by
  have h1:=hA U u0 u1;obtain⟨ops,e,_⟩:=Jp (r:=r) hL hT.1 hT.2;have f:lM (ai (dX r L) T) T=none:=vQ (by rw[e]);have h2:¬ qV (dX r L) T U:=fun⟨h,q,_⟩=>by rw[f]at q;cases q
  have h3:=nP (qU (dX r L) T U);have h4:kO (dX r L) T U=0:=by unfold kO;rw[f]
  unfold QQ;rw[o3 h2,h4];omega
 have h5:=Mm (n:=L.length) hn.2 (T:=T) (c:=29 * (4 * (L.length:Int))) (f:=QQ (dX r L) T) (by omega) hT (fun V a b _=>hQ V a b);have h6:=hA T hT.1 hT.2;have h7:0<=j7 (dX r L) T:=by obtain⟨ops,e,_⟩:=Jp (r:=r) hL hT.1 hT.2;unfold j7 gt;rw[Bo,e];have:=nP (false=true);show 0<=ind (false=true)+(0:Int)+0;omega
 unfold iU PP;rw[hl];have n3:L.length=1\/L.length=2\/L.length=3:=by omega
 rcases n3 with q | q | q<;>rw[q]at h5 h6⊢<;>omega
def zX(t pc:Int):Nat->aG->aG
 | 0,m=>m
 | k+1,m=>if (ai m t).2.1=pc/\pc<(ai m t).1.length then zX t pc k (jn m t) else m
theorem akF{m:aG}{t:Int}{a:aS}{x:cU}(K:Kind m t a x):x.1=(ai m t).1/\(x.2.1=(ai m t).2.1\/x.2.1=(ai m t).2.1+1):=by cases K<;>first | exact⟨rfl,.inl rfl⟩ | exact⟨rfl,.inr rfl⟩
theorem Nu{m:aG}(I:Inv m)(L:Live m){t:Int}(t0:0<=t)(t1:t<m.2.1.length):(∀U:Int,0<=U->U≠t->ai (jn m t) U=ai m U)/\(ai (jn m t) t).1=(ai m t).1/\((ai (jn m t) t).2.1=(ai m t).2.1\/(ai (jn m t) t).2.1=(ai m t).2.1+1):=by
 by_cases h:(ai m t).2.1<(ai m t).1.length
 .have e:jn m t=vn m t:=by unfold jn;rw[aj h]
  rw[e];obtain⟨a,x,K,G⟩:=Rb I t0 t1 (fun k k' z=>(L t t0 t1 k k' z).1);have:=akF K;refine⟨fun U u0 q=>by rw[G.ai U u0,af q];rfl,?_⟩;rw[G.ai t t0,aj rfl];exact this
 .have e:jn m t=m:=by unfold jn;rw[af h]
  rw[e];exact⟨fun _ _ _=>rfl,rfl,.inl rfl⟩
structure wk (m a:aG) (t pc:Int) (k:Nat):Prop where
 inv:Inv a
 live:Live a
 len:a.2.1.length=m.2.1.length
 time:m.2.2.1<=a.2.2.1/\a.2.2.1<=m.2.2.1+k
 Aw:∀U:Int,0<=U->U≠t->ai a U=ai m U
 ops:(ai a t).1=(ai m t).1
 low:∀T:Int,0<=T->T<m.2.1.length->iU a T<=iU m T
 pc:((ai a t).2.1=pc/\(iU a t+k<=iU m t\/¬ pc<(ai m t).1.length))\/(ai a t).2.1=pc+1
section
variable {X:Ext} (hX:f4 X) {n:Nat}
include hX
theorem RL{t pc:Int}(t0:0<=t):∀(k:Nat){m:aG},Inv m->Live m->t<m.2.1.length->(ai m t).2.1=pc->wk m (zX t pc k m) t pc k
 | 0,m,I,L,t1,hp=>⟨I,L,rfl,⟨eA _,by show m.2.2.1<=_;omega⟩,fun _ _ _=>rfl,rfl,fun _ _ _=>eA _,.inl ⟨hp,.inl (by show iU m t+_<=_;omega)⟩⟩
 | k+1,m,I,L,t1,hp=>by
  simp only[zX];by_cases h:pc<(ai m t).1.length
  .rw[aj ⟨hp,h⟩];have I':=xT I t0 t1;obtain⟨L',g1,g2⟩:=HY I L t0 t1;obtain⟨h1,h2,h3⟩:=Nu I L t0 t1;have hl:=Fh m t;have ht:=Bh hX m t;have hs:=g2 (by rw[hp];exact h);have main:wk (jn m t) (zX t pc k (jn m t)) t pc k\/((ai (jn m t) t).2.1=pc+1/\zX t pc k (jn m t)=jn m t):=by
    rcases h3 with e | e
    .exact .inl (RL t0 k I' L' (by rw[hl];exact t1) (e.trans hp))
    .refine .inr ⟨by rw[e,hp],?_⟩;cases k with
     | zero=>rfl
     | succ k=>simp only[zX];rw[af (fun z=>by have:=z.1;rw[e,hp]at this;omega)]
   rcases main with A | ⟨e,e2⟩
   .refine⟨A.inv,A.live,A.len.trans hl,⟨by have:=A.time.1;omega,by have:=A.time.2;omega⟩,fun U u0 q=>(A.Aw U u0 q).trans (h1 U u0 q),A.ops.trans h2,fun T a b=>BR (A.low T a (by rw[hl];exact b)) (g1 T a b),?_⟩;rcases A.pc with⟨p,q⟩ | p
    .refine .inl ⟨p,.inl ?_⟩;rcases q with q | q
     .omega
     .rw[h2]at q;exact absurd h q
    .exact .inr p
   .rw[e2];exact⟨I',L',hl,⟨by omega,by omega⟩,h1,h2,g1,.inr e⟩
  .rw[af (fun z=>h z.2)];exact⟨I,L,rfl,⟨eA _,by omega⟩,fun _ _ _=>rfl,rfl,fun _ _ _=>eA _,.inl ⟨hp,.inr h⟩⟩
theorem Mu(N n:Nat)(hN:W+17<=N)(K:aG->aG->Option ((aG×Unit)×Unit)){t pc:Int}(t0:0<=t)(b:Nat)(hb:b<=2000)(z:aG):∀(c i:Nat)(m:aG),i<=b->b-i<c->Inv m->Live m->t<m.2.1.length->((ai m t).2.1=pc\/(ai m t).2.1=pc+1)->m.2.2.1+(b-i:Nat)<=100000->
  Ts (DD X N) n K c t (b:Int) pc (i:Int) m z=K (zX t pc (b-i) m) z
 | 0,i,m,h1,h2,_,_,_,_,_=>by omega
 | c+1,i,m,h1,h2,I,L,t1,hp,ht=>by
  simp only[Ts,ZR];have hd:List.getD m.2.1 t.toNat ([],0,false,[],[],())=ai m t:=rfl;by_cases hi:i<b
  .obtain⟨j,hj⟩:∃j,b-i=j+1:=⟨b-i-1,by omega⟩
   rw[bz (show(i:Int)<(b:Int) by omega),bA,bz (show(i:Int)<2000 by omega),aF,fI t0 t1,aF,hd,hj];simp only[zX];by_cases e:(ai m t).2.1=pc
   .have hg:=Bh hX m t;have hl:=Fh m t;have I':=xT I t0 t1;have h3:=(Nu I L t0 t1).2.2;rw[qf e,Kg hX (by omega) I t0 t1 (by omega),qc];dsimp only;by_cases h:(ai m t).2.1<(ai m t).1.length
    .rw[bz h,cJ,aL,aj ⟨e,by rw[<-e];exact h⟩,qu (by omega)];have ih:=Mu N n hN K t0 b hb z c (i+1) (jn m t) (by omega) (by omega) I' (HY I L t0 t1).1 (by rw[hl];exact t1) (by rw[e]at h3;exact h3) (by omega);rw[ih,show b-(i+1)=j by omega]
    .rw[b7 h,jm,aF,af (fun q=>h (by rw[e];exact q.2))]
   .rw[qg e,af (fun q=>e q.1)]
  .rw[b7 (show ¬ (i:Int)<(b:Int) by omega),bf,aL,show b-i=0 by omega];rfl
theorem akk(hn:W+18<=n){m:aG}(I:Inv m)(L:Live m){t:Int}(t0:0<=t)(t1:t<m.2.1.length)(b:Nat)(hb:b<=2000)(ht:m.2.2.1+b<=100000):q7t (DD X n) m t (b:Int)=some ((zX t (ai m t).2.1 b m,()),()):=by
 obtain⟨n,rfl⟩:∃k,n=k+1:=⟨n-1,by omega⟩
 have hW:=ej;have n3:=I.n;rw[ajF hX];simp only[q72,q8t,Yt];rw[VK hX (by omega) (IN hX I),qc];dsimp only;rw[qs (by omega) (by omega),k_ hX (by omega),qc];dsimp only;rw[jD ⟨t0,by omega⟩,cJ,aL,fI t0 t1,aF];exact Mu hX n n (by omega) _ t0 b hb _ n 0 m (eZ _) (by omega) I L t1 (.inl rfl) (by omega)
end
end Go.G
/- FnAlone holds: behind any drawn schedule, whoever goes on alone gets its op done within the bound. No condition beyond the given statement's. -/
namespace Go.G
set_option linter.unusedVariables false
set_option linter.unusedSimpArgs false
set_option linter.unusedSectionVars false
open Go Go.V Go.Proofs
section
variable {X:Ext} (hX:f4 X) {n:Nat}
include hX
theorem alj(hn:1<=n)(x:cU):Vg (DD X n) x=some ((decide (x.2.1=(x.1.length:Int)),()),()):=by
 obtain⟨n,rfl⟩:∃k,n=k+1:=⟨n-1,by omega⟩
 rw[qub hX];rfl
theorem akm(hn:1<=n){k:Int}(h:0<=k/\k<=3):VR (DD X n) k=some ((400 * k,()),()):=by
 obtain⟨n,rfl⟩:∃k,n=k+1:=⟨n-1,by omega⟩
 rw[ajH hX];simp only[q74,Pg];rw[qs (by omega) (by omega)]
theorem NP(N n:Nat)(K0:Bool->Int->aG->Option ((Bool×Unit)×Unit))(K1:Int->aG->Option ((Bool×Unit)×Unit)){g a:aG}{t:Int}(hl:a.2.1.length=g.2.1.length)(h3:g.2.1.length<=3)(h:∀U:Int,0<=U->U≠t->ai a U=ai g U):∀(c i:Nat),i<=g.2.1.length->g.2.1.length-i<c->
  Td (DD X N) n K0 K1 c t (i:Int) g a=K1 t g
 | 0,i,_,h2=>by omega
 | c+1,i,h1,h2=>by
  simp only[Td,qy5];by_cases hi:i<g.2.1.length
  .have ih:=NP N n K0 K1 hl h3 h c (i+1) (by omega) (by omega);rw[qf (by omega),qu (by omega),ih];by_cases q:(i:Int)=t
   .rw[show((i:Int) != t)=false by rw[bH,bz q];rfl,aL]
   .rw[show((i:Int) != t)=true by rw[bH,b7 q];rfl,aF,ix (by omega),aF,ix hi,aF];have e:List.getD a.2.1 (Int.toNat (i:Int)) ([],0,false,[],[],())=List.getD g.2.1 (Int.toNat (i:Int)) ([],0,false,[],[],()):=h (i:Int) (by omega) q;rw[e,show(∀z:Int,(z != z)=false) from fun z=>by rw[bH,bz rfl];rfl,aL]
  .rw[qg (by omega)]
theorem NO(N n:Nat)(hN:W+19<=N)(W5:W<=n)(K0:Bool->Option ((Bool×Unit)×Unit))(K1:Option ((Bool×Unit)×Unit)){g:aG}(I:Inv g)(L:Live g)(ht:g.2.2.1<=1000)(hp:∀T:Int,0<=T->T<g.2.1.length->iU g T<=400 * g.2.1.length-1):∀(c i:Nat),i<=g.2.1.length->g.2.1.length-i<c->
  Iw (DD X N) n K0 K1 c (i:Int) g=K1
 | 0,i,_,h2=>by omega
 | c+1,i,h1,h2=>by
  have hW:=ej;have n3:=I.n;simp only[Iw,qy4];by_cases hi:i<g.2.1.length
  .have ih:=NO N n hN W5 K0 K1 I L ht hp c (i+1) (by omega) (by omega);have hd:List.getD g.2.1 (Int.toNat (i:Int)) ([],0,false,[],[],())=ai g (i:Int):=rfl;have T:=I.th (i:Int) (by omega) (by omega);rw[qf (by omega),ix hi,aF,hd,alj hX (by omega),qc];dsimp only;by_cases q:(ai g (i:Int)).2.1=((ai g (i:Int)).1.length:Int)
   .rw[bz q,aF,qu (by omega)];exact ih
   .have An:=T.pc;have hb:(400 * (g.2.1.length:Int))=((400 * g.2.1.length:Nat):Int):=by omega
    rw[b7 q,aL,akm hX (by omega) (by omega),qc];dsimp only;rw[hb,akk hX (by omega) I L (by omega) (by omega) (400 * g.2.1.length) (by omega) (by omega),qc];dsimp only;have A:=RL hX (show 0<=(i:Int) by omega) (400 * g.2.1.length) I L (by omega) rfl;generalize zX (i:Int) (ai g (i:Int)).2.1 (400 * g.2.1.length) g=a at *;have KU:=abh A.inv (T:=(i:Int)) ⟨by omega,by rw[A.len];omega⟩;have hpi:=hp (i:Int) (by omega) (by omega);have Xd:(ai a (i:Int)).2.1=(ai g (i:Int)).2.1+1:=by
     rcases A.pc with⟨_,z | z⟩ | z
     .omega
     .omega
     .exact z
    have wM:List.getD a.2.1 (Int.toNat (i:Int)) ([],0,false,[],[],())=ai a (i:Int):=rfl;have d8:=A.time;have hlen:=T.ops.1;rw[ix (by rw[A.len];exact hi),aF,aF,wM,qs (by omega) (by omega),Xd,show(∀z:Int,(z != z)=false) from fun z=>by rw[bH,bz rfl];rfl,aL,qc];dsimp only;have hgt:=I.time;rw[qs (by omega) (by omega),qg (by omega),abb hX (by omega) A.inv (by omega),qc];dsimp only;rw[cJ,aL];simp only[qwl];refine dj (NP hX N n _ _ A.len n3.2 A.Aw n 0 (eZ _) (by omega)) ?_;simp only[q6u];rw[qu (by omega)];exact ih
  .rw[qg (by omega)]
end
theorem aaH(a:List Int):OL (DD xY (W+30)) a=some ((true,()),()):=by
 have hX:f4 xY:=Sr;have hW:=ej;rw[aht hX];simp only[YK,Zc];rw[ala hX (by omega),qc];dsimp only;by_cases Kw:(a.length:Int)>1048576
 .rw[qf Kw]
 rw[qg Kw];obtain⟨r,L,who,hr,hL,hw,e1⟩:=abc hX (n:=W+29) (by omega) a (by omega);obtain⟨I,ht,hlen,h1,h2,h3⟩:=abj hr hL hw;rw[e1,qc];dsimp only;rw[abq hX (by omega) hr hL,qc,ai9 hX (by omega) hr hL,qc];dsimp only;rw[bz rfl,cJ,bf,aL,aln hX (by omega) (L6 hr hL) who h1 h2 h3,qc];dsimp only;obtain⟨LL,Xe⟩:=abM who (L6 hr hL) (ab1 hL) h2;have KI:(dX r L).2.1.length=L.length:=by unfold dX;simp
 have hn:=hL.n;simp only[qwk];exact NO hX (W+29) (W+29) (by omega) (by omega) _ _ I LL (by omega) (fun T T0 T1=>by
  have h4:=Xe T T0 (by omega);have h5:=(acE (r:=r) hL (T:=T) ⟨T0,by omega⟩).2;omega) (W+29) 0 (eZ _) (by omega)
end Go.G
namespace Go.Proofs.YtpmimbgkiindbaaGreat
open Go.ChangeShapes Go.WideShapes Go.ChangeAt Go.RowKit Go.V Go.G
theorem m4(os:Os)(started:os.Started)(H:Type)(enc:TypeId×Value->H) :
  ReturnsInHanded {} Tryz.checked os 3 .any (Rows.fnAloneSpec.pre6 enc Tryz.prog Tryz.f3 Rows.fnAloneRow.domain false) (Rows.fnAloneSpec.post enc Tryz.prog Tryz.f3 false true false false):=
 ab0 (X:=xY) (tb:=4) started Tryz.func3 (by kernel_rfl)
  (ChangeSpec.witness6 (enc:=enc) (C:=Tryz.checked) false ⟨#[],Tryz.f3.params.map fun t=>((Tryz.prog.info? t).bind (·.zero)).getD .nilIface,[]⟩ 8 (by kernel_rfl) (by kernel_rfl) (by kernel_rfl) (by kernel_rfl))
  ⟨rfl,rfl,trivial⟩ (by kernel_rfl) (by kernel_rfl) (by kernel_rfl) rfl
  (fun ds h=>by
   match ds,h with
   | [d0],_=>exact⟨rfl,rfl,rfl⟩)
  (fun a wa=>⟨W+30,((true,()),()),aaH a.1,fun h Pr Gs us k=>by
   obtain⟨v,vs,rfl,⟨c,r,rfl⟩,e⟩:=k;obtain rfl:vs=[]:=e;simp only[az]at r;subst r;rfl⟩)
theorem fnAlone_holds:Rows.FnAloneSaid:=
 OpenClaim.holds_of_wide 3 Tryz.f3 rfl rfl rfl rfl rfl rfl rfl ⟨rfl,rfl,rfl,rfl,rfl⟩ rfl rfl rfl rfl rfl (by kernel_rfl) Tryz.func3 (by kernel_rfl)
  (of_decide_eq_true (by kernel_rfl)) (by unfold Func.isWrapper;first | (rw[aj (by decide +kernel)];kernel_rfl) | (rw[af (by decide +kernel)];exact⟨rfl,rfl⟩))
  (fun os started H enc _=>m4 os started H enc)
#print axioms fnAlone_holds
end Go.Proofs.YtpmimbgkiindbaaGreat

/- FnFound's law: what was told by a drawn schedule is found. No condition. -/
import Derived.WalkKit
import Derived.Lib.Walk
import Derived.Lib.SliceRun
import Derived.Lib.JoinLaws
import Derived.Lib.AppendZeros
import Derived.Lib.Overlaps
import Derived.Laws.Externs
import Derived.Laws.IdiomCopy
import Derived.Lib.AppendZerosOnto
import Derived.Shelf.RegionOpenPlain
import Derived.Test.YtpmimbgkiindbaaGreatAPFnFound3
set_option maxRecDepth 100000
set_option linter.unusedVariables false
set_option linter.unusedSimpArgs false
set_option linter.unusedSectionVars false
open Go.IntKind (wrap)
namespace Go.G
open Go Go.V Go.Proofs
section
variable {X:Ext} (hX:fR X) {n:Nat}
include hX
theorem LX(N n:Nat)(hN:W+2<=N)(hN6:6<=N)(K:Int->jE->List (List cL)->List cL->Option ((List (List cL)×Unit)×jE×Unit))(z:Int)(out:List (List cL)):∀(m i:Nat)(c:jE)(l:List cL),m_ c->i<=4->4-i<m->l.length=i->(∀o∈l,cH o=true)->
  ∃(c':jE)(l':List cL),m_ c'/\l'.length<=4/\(∀o∈l',cH o=true)/\Rg (DD X N) n K m z (i:Int) c out l=K z c' out l'
 | 0,_,_,_,_,_,h,_,_=>by omega
 | m+1,i,c,l,hc,hi,hf,hl,ho=>by
  have hW:=d7;have hb:=iG;simp only[Rg,qu7];obtain⟨x,c1,h1,_,jq,e1⟩:=zk hX (n:=N) (by omega) hc 4;obtain⟨x0,x1⟩:=h1 (by omega);rw[e1,qc];dsimp only;rw[qs (by omega) (by omega)];by_cases h:(i:Int)<1+x
  .obtain⟨o,c2,gS,JK,e2⟩:=ahQ hX (n:=N) (by omega) jq;rw[qf h,e2,qc];dsimp only;rw[qf (by omega),qu (by omega)];exact LX N n hN hN6 K z out m (i+1) c2 (l++[o]) gS (by omega) (by omega) (by rw[cw,o3];omega) (fun p hp=>by
    rcases bL.1 hp with q | q
    .exact ho p q
    .rw[er]at q;rw[q];exact JK)
  .rw[qg h];exact⟨c1,l,jq,by omega,ho,rfl⟩
theorem LW(N n:Nat)(hN:W+2<=N)(hn:W<=n)(K:jE->List (List cL)->Option ((List (List cL)×Unit)×jE×Unit)):∀(m i:Nat)(c:jE)(L:List (List cL)),m_ c->i<=3->3-i<m->L.length=i->(∀ops∈L,ops.length<=4/\∀o∈ops,cH o=true)->
  ∃(c':jE)(L':List (List cL)),m_ c'/\jy L'/\CD (DD X N) n K m (i:Int) c L=K c' L'
 | 0,_,_,_,_,_,h,_,_=>by omega
 | m+1,i,c,L,hc,hi,hf,hl,ho=>by
  have hW:=d7;have hb:=iG;simp only[CD,qu6];obtain⟨x,c1,h1,_,jq,e1⟩:=zk hX (n:=N) (by omega) hc 3;obtain⟨x0,x1⟩:=h1 (by omega);rw[e1,qc];dsimp only;rw[qs (by omega) (by omega)];by_cases h:(i:Int)<1+x
  .rw[qf h];simp only[qs4];obtain⟨c2,l,gS,hl4,hlo,e2⟩:=LX hX N n hN (by omega) (fun bN eD ja jS=>qq2 (DD X N) n (CD (DD X N) n K m) K bN eD ja jS) (i:Int) L n 0 c1 [] jq (by omega) (by omega) rfl (fun o h=>by simp at h);rw[show((0:Nat):Int)=0 from rfl]at e2;obtain⟨c3,L',qV,hL',e3⟩:=LW N n hN hn K m (i+1) c2 (L++[l]) gS (by omega) (by omega) (by rw[cw,o3];omega) (fun p hp=>by
    rcases bL.1 hp with q | q
    .exact ho p q
    .rw[er]at q;rw[q];exact⟨hl4,hlo⟩)
   refine⟨c3,L',qV,hL',?_⟩;refine dF e2 ?_;simp only[qq2];rw[qf (by omega),qu (by omega)];exact e3
  .rw[qg h];exact⟨c1,L,jq,⟨by omega,ho⟩,rfl⟩
theorem aah(hn:W+3<=n){c:jE}(hc:m_ c):∃(L:List (List cL))(c':jE),m_ c'/\jy L/\qvw (DD X n) c=some ((L,()),(c',())):=by
 obtain⟨n,rfl⟩:∃k,n=k+1:=⟨n-1,by omega⟩
 have hW:=d7;rw[aet hX];simp only[qv4,qw0,qs3];obtain⟨c',L,h1,h2,e⟩:=LW hX n n (by omega) (by omega) (fun bN eD=>q0h (DD X n) n bN eD) n 0 c [] hc (by omega) (by omega) rfl (fun o h=>by simp at h);rw[show((0:Nat):Int)=0 from rfl]at e;exact⟨L,c',h1,h2,e⟩
def uC(L:List (List cL))(who:List Int)(k:Nat):Prop:=who.length<=k/\∀t∈who,0<=t/\t<L.length
theorem Mh(N n:Nat)(hN:W+2<=N)(K:Int->Int->qp->qp->List (List cL)->List Int->jE->Option ((qp×List (List cL)×List Int×Unit)×Unit))(a b t:Int)(r s:qp)(L:List (List cL))(ht:0<=t/\t<L.length)(k:Nat)(hk:k<=1000):∀(m i:Nat)(c:jE)(who:List Int),m_ c->i<=6->6-i<m->uC L who (k+i)->
  ∃(c':jE)(yM:List Int),m_ c'/\uC L yM (k+6)/\Q1 (DD X N) n K m a b t (i:Int) r s L who c=K a b r s L yM c'
 | 0,_,_,_,_,_,h,_=>by omega
 | m+1,i,c,who,hc,hi,hf,hw=>by
  have hW:=d7;have hb:=iG;simp only[Q1,qpa];obtain⟨x,c1,h1,_,jq,e1⟩:=zk hX (n:=N) (by omega) hc 6;obtain⟨x0,x1⟩:=h1 (by omega);rw[e1,qc];dsimp only;rw[qs (by omega) (by omega)];have hwl:=hw.1;by_cases h:(i:Int)<1+x
  .rw[qf h,qf (by omega),qu (by omega)];exact Mh N n hN K a b t r s L ht k hk m (i+1) c1 (who++[t]) jq (by omega) (by omega) ⟨by rw[cw,o3];omega,fun u hu=>by
    rcases bL.1 hu with q | q
    .exact hw.2 u q
    .rw[er]at q;rw[q];exact ht⟩
  .rw[qg h];exact⟨c1,who,jq,⟨by omega,hw.2⟩,rfl⟩
theorem Mg(N n:Nat)(hN:W+2<=N)(hn:W<=n)(K:qp->qp->List (List cL)->List Int->Option ((qp×List (List cL)×List Int×Unit)×Unit))(a:Int)(ha:a<=120)(r s:qp)(L:List (List cL))(hL:0<L.length/\L.length<=3):∀(m i:Nat)(c:jE)(who:List Int),m_ c->i<=120->120-i<m->uC L who (6 * i)->
  ∃(yM:List Int),uC L yM 720/\CB (DD X N) n K m a (i:Int) r s L who c=K r s L yM
 | 0,_,_,_,_,_,h,_=>by omega
 | m+1,i,c,who,hc,hi,hf,hw=>by
  have hW:=d7;simp only[CB,qo9];by_cases h:(i:Int)<a
  .obtain⟨x,c1,h1,_,jq,e1⟩:=zk hX (n:=N) (by omega) hc (L.length:Int);have hx:=h1 (by omega);rw[qf h,e1,qc];dsimp only;simp only[qn4];obtain⟨c2,akj,gS,hw2,e2⟩:=Mh hX N n hN (fun bN eD ja jS HJ akh aki=>qm1 (DD X N) n (CB (DD X N) n K m) K bN eD ja jS HJ akh aki) a (i:Int) x r s L hx (6 * i) (by omega) n 0 c1 who jq (by omega) (by omega) hw;rw[show((0:Nat):Int)=0 from rfl]at e2;obtain⟨akk,hw3,e3⟩:=Mg N n hN hn K a ha r s L hL m (i+1) c2 akj gS (by omega) (by omega) ⟨by have:=hw2.1;omega,hw2.2⟩;refine⟨akk,hw3,dF e2 ?_⟩;simp only[qm1];rw[qu (by omega)];exact e3
  .rw[qg h];exact⟨who,⟨by have:=hw.1;omega,hw.2⟩,rfl⟩
theorem Z7(hn:W+4<=n)(a:List Int)(ha:a.length<=1048576):∃(r:qp)(L:List (List cL))(who:List Int),aM r/\jy L/\uC L who 720/\qqb (DD X n) a=some ((r,L,who,()),()):=by
 obtain⟨n,rfl⟩:∃k,n=k+1:=⟨n-1,by omega⟩
 have hW:=d7;rw[acM hX];simp only[qqh,qqy,qn3];obtain⟨c,hc,e1⟩:=ai7 hX (n:=n) (by omega) a ha;obtain⟨r,c1,hr,_,jq,e2⟩:=ahl hX (n:=n) (by omega) hc;obtain⟨L,c2,gS,hL,e3⟩:=aah hX (n:=n) (by omega) jq;rw[e1,qc,e2,qc];dsimp only;rw[e3,qc];dsimp only;have JG:∃k:Int,60<=k/\k<=120/\X1 (DD X n) a 60 120=some ((k,()),()):=by
  obtain⟨n,rfl⟩:∃k,n=k+1:=⟨n-1,by omega⟩
  rw[ahg hX];simp only[XQ,Nx];have ht:Int.tdiv (a.length:Int) 4=(a.length:Int) / 4:=Int.tdiv_eq_ediv_of_nonneg (by omega);rw[ht,qs (show -9223372036854775808<=(a.length:Int) / 4 by omega) (by omega),qs (by omega) (by omega)];by_cases h:60+(a.length:Int) / 4>120
  .rw[qf h];exact⟨120,by omega,by omega,rfl⟩
  .rw[qg h];exact⟨_,by omega,by omega,rfl⟩
 obtain⟨k,hk0,JA,e4⟩:=JG;obtain⟨x,c3,h1,_,qV,e5⟩:=zk hX (n:=n) (by omega) gS k;have hx:=h1 (by omega);rw[e4,qc];dsimp only;rw[e5,qc];dsimp only;obtain⟨who,hw,e6⟩:=Mg hX n n (by omega) (by omega) (fun bN eD ja jS=>qvj (DD X n) n bN eD ja jS) x (by omega) ([],0,()) r L (by have:=hL.n;omega) n 0 c3 [] qV (by omega) (by omega) ⟨by simp,fun t h=>by simp at h⟩;rw[show((0:Nat):Int)=0 from rfl]at e6;exact⟨r,L,who,hr,hL,hw,e6⟩
theorem aa4(hn:1<=n):XZ (DD X n) dD=some ((true,()),()):=by
 obtain⟨n,rfl⟩:∃k,n=k+1:=⟨n-1,by omega⟩
 rw[ahI hX];simp only[XL,Ys];rw[qf (show dD.1=0 from rfl)];simp[dD]
theorem OV(N n:Nat)(hN:1<=N)(K0:Bool->bw->Option ((Bool×Unit)×Unit))(K1:bw->Option ((Bool×Unit)×Unit))(w:List lQ)(k:Nat)(hk:k<=3):∀(c i:Nat),i<=k->k-i<c->
  RQ (DD X N) n K0 K1 c (i:Int) (w,List.replicate k dD,())=K1 (w,List.replicate k dD,())
 | 0,i,_,h=>by omega
 | c+1,i,h1,h2=>by
  simp only[RQ,Yy,kQ];by_cases hi:i<k
  .have e:(List.replicate k dD).getD i (0,0,[],(0,[],()),())=dD:=by rw[qv (by simpa using hi),List.getElem_replicate]
   rw[qf (by omega),show(decide (0<=(i:Int))&&decide ((i:Int)<(k:Int)))=true by simp;omega,aA,dQ,e,aa4 hX hN,qc];dsimp only;rw[cE,aJ,qu (by omega)];exact OV N n hN K0 K1 w k hk c (i+1) (by omega) (by omega)
  .rw[qg (by omega)]
theorem OW(N n:Nat)(hN:2<=N)(K0:Bool->Option ((Bool×Unit)×Unit))(K1:Option ((Bool×Unit)×Unit))(m:bw)(hl:m.1.length<=1000)(hw:∀x∈m.1,Sn x):∀(c i:Nat),i<=m.1.length->m.1.length-i<c->
  RR (DD X N) n K0 K1 c (i:Int) m=K1
 | 0,i,_,h=>by omega
 | c+1,i,h1,h2=>by
  simp only[RR,Yz];by_cases hi:i<m.1.length
  .have hx:=hw _ (ef hi);obtain⟨N,rfl⟩:∃k,N=k+1:=⟨N-1,by omega⟩
   rw[qf (by omega),ix hi,aA,dQ,qv hi,ahe hX];simp only[XO,Nv];rw[qf hx.1,qf hx.2.1,yw hX (by omega),qc,qc];dsimp only;rw[jM hx.2.2,cE,aJ,qg (by have:=hx.1;omega),qu (by omega)];exact OW (N+1) n hN K0 K1 m hl hw c (i+1) (by omega) (by omega)
  .rw[qg (by omega)]
theorem Pn(hn:W+3<=n)(w:List lQ)(hw:∀x∈w,Sn x)(hl:w.length=20)(k:Nat)(h1:1<=k)(hk:k<=3):RU (DD X n) (w,List.replicate k dD,())=some ((true,()),()):=by
 obtain⟨n,rfl⟩:∃k,n=k+1:=⟨n-1,by omega⟩
 have hW:=d7;rw[ah1 hX];simp only[YS,Y5,Xl];rw[show((w.length:Int) != 20)=false by rw[bA,cT (by omega)];rfl,aJ,yw hX (by omega),qc];dsimp only;rw[kQ,jM ⟨by omega,by omega⟩,cE,aJ];refine dF (OV hX n n (by omega) _ _ w k hk n 0 (eU _) (by omega)) ?_;simp only[qzn,Xm];refine dF (OW hX n n (by omega) _ _ _ (by dsimp only;omega) hw n 0 (eU _) (by dsimp only;omega)) ?_;rfl
theorem PT(N n:Nat)(hN:4<=N)(K0:Int->Bool->eP->Option ((Bool×Unit)×Unit))(K1:Int->eP->Option ((Bool×Unit)×Unit))(z:Int)(x:eP)(hl:x.1.length<=1000)(ho:∀o∈x.1,cH o=true):∀(c i:Nat),i<=x.1.length->x.1.length-i<c->
  Rj (DD X N) n K0 K1 c z (i:Int) x=K1 z x
 | 0,i,_,h=>by omega
 | c+1,i,h1,h2=>by
  simp only[Rj,qwu];by_cases hi:i<x.1.length
  .have hx:=ho _ (ef hi);have hop:SU (DD X N) x.1[i]=some ((true,()),()):=by have:=Z8 hX (n:=N) (by omega) x.1[i].1 x.1[i].2.1 x.1[i].2.2.1;rw[show(x.1[i].1,x.1[i].2.1,x.1[i].2.2.1,())=x.1[i] from rfl,hx]at this;exact this
   rw[qf (by omega),ix hi,aA,dQ,qv hi,hop,qc];dsimp only;rw[cE,aJ,qu (by omega)];exact PT N n hN K0 K1 z x hl ho c (i+1) (by omega) (by omega)
  .rw[qg (by omega)]
theorem aiH(hn:W+5<=n)(ops:List cL)(hl:ops.length<=4)(ho:∀o∈ops,cH o=true)(k:Int):qxr (DD X n) (ops,0,false,[],[],()) k=some ((true,()),()):=by
 obtain⟨n,rfl⟩:∃k,n=k+1:=⟨n-1,by omega⟩
 have hW:=d7;obtain⟨p,hp⟩:∃p,n=p+1:=⟨n-1,by omega⟩
 rw[aeY hX];simp only[qx0,qzp,qux];rw[qg (by omega),yw hX (by omega),qc];dsimp only;rw[jM ⟨by omega,by omega⟩];simp only[cE,aW,aJ,gf,aA,ic];rw[bJ (show ¬ wrap .i64 (((0:Nat):Int)+((0:Nat):Int))>0 by decide),bJ (show ¬ ((0:Nat):Int)>12 by decide),bJ (show ¬ ((0:Nat):Int)>2 by decide),aW,aW,aJ];refine dF (PT hX n n (by omega) _ _ k (ops,0,false,[],[],()) (by dsimp only;omega) ho n 0 (eU _) (by dsimp only;omega)) ?_;simp only[qs0,quy];rw[hp];simp only[TT,qwv,ic];rw[qg (by decide)];simp only[qs1,quz];simp only[TU,qww,ic];rw[qg (by decide)];rfl
theorem ZL(hn:3<=n){m:aN}(hc:m.2.2.2.1=[]){t:Int}(t0:0<=t)(t1:t<m.2.1.length)(hp:(aG m t).2.1=0)(ho:(aG m t).2.2.1=false):qxt (DD X n) m t=some ((true,()),()):=by
 obtain⟨n,rfl⟩:∃k,n=k+2:=⟨n-2,by omega⟩
 obtain⟨p,VL⟩:∃p,n=p+1:=⟨n-1,by omega⟩
 have hx:m.2.1.getD t.toNat ([],0,false,[],[],())=aG m t:=rfl;have bf:X3 (DD X (n+1)) m t=some ((-1,()),()):=by rw[ahi hX];simp only[XS,Yc,qzz];rw[hc,VL];simp only[T8,XH,ic];rw[qg (by rw[qs (by decide) (by decide)];decide)];rfl
 rw[aeZ hX];simp only[qx1,qz0,qu8];rw[fL t0 t1,aA,bf,qc,hx];dsimp only;simp only[TW,qw2];rw[hc,qg (by simp)];simp only[q4e];rw[hp,ho];rfl
theorem OU(N n:Nat)(hN:W+5<=N)(K0:Bool->Option ((Bool×Unit)×Unit))(K1:Option ((Bool×Unit)×Unit)){r:qp}{L:List (List cL)}(hL:jy L):∀(c i:Nat),i<=L.length->L.length-i<c->
  Rf (DD X N) n K0 K1 c (i:Int) (fZ r L)=K1
 | 0,i,_,h=>by omega
 | c+1,i,h1,h2=>by
  have zR:=hL.n;have jK:(fZ r L).2.1.length=L.length:=by unfold fZ;simp
  simp only[Rf,quw,jK];by_cases hi:i<L.length
  .have hx:=hL.ops _ (ef hi);have e:aG (fZ r L) (i:Int)=(L[i],0,false,[],[],()):=by unfold aG fZ;dsimp only;rw[dQ,qv (by simpa using hi),um]
   have e2:(fZ r L).2.1.getD i ([],0,false,[],[],())=(L[i],0,false,[],[],()):=by unfold aG at e;rw[dQ]at e;exact e
   rw[qf (by omega),fL (by omega) (by omega),aA,dQ,e2,aiH hX (by omega) _ hx.1 hx.2,qc];dsimp only;rw[cE,aJ,ZL hX (by omega) rfl (by omega) (by rw[jK];omega) (by rw[e]) (by rw[e]),qc];dsimp only;rw[cE,aJ,qu (by omega)];exact OU N n hN K0 K1 hL c (i+1) (by omega) (by omega)
  .rw[qg (by omega)]
theorem aiG(hn:W+6<=n){r:qp}(hr:aM r){L:List (List cL)}(hL:jy L):qvv (DD X n) (fZ r L)=some ((true,()),()):=by
 obtain⟨n,rfl⟩:∃k,n=k+2:=⟨n-2,by omega⟩
 obtain⟨p,VL⟩:∃p,n=p+1:=⟨n-1,by omega⟩
 have hW:=d7;have zR:=hL.n;have jK:(fZ r L).2.1.length=L.length:=by unfold fZ;simp
 have nA:(fZ r L).1.2.1.length=L.length:=by unfold fZ;simp
 have Di:WR (DD X (n+1)) (fZ r L)=some ((true,()),()):=by rw[agJ hX];simp only[Xe,XF,qwy];rw[VL];simp only[TY,qzx];rw[qg (by simp[fZ])];simp only[qu4,qwz,IJ,qzy];rw[qg (by simp[fZ])];simp[q61,fZ]
 rw[aeq hX];simp only[qv1,qwp,qsv];have hm:=Pn hX (n:=n+1) (by omega) ((uS r).map fun v=>((v,0,0,()):lQ)) (fun x hx=>by
  obtain⟨v,hv,rfl⟩:=eE.1 hx;unfold uS at hv;obtain⟨q,hq,rfl⟩:=eE.1 hv;have:=Bu hr (q:Int) (by have:=se.1 hq;omega);exact⟨rfl,rfl,this.1,by dsimp only;omega⟩) (by rw[jw,ye]) L.length zR.1 zR.2
 refine dF (eM (fun z=>qd z _) hm) ?_;rw[qc];dsimp only;rw[cE,aW,nA,jK,show((L.length:Int) != (L.length:Int))=false by simp,aJ,yw hX (by omega),qc];dsimp only;rw[show(fZ r L).2.2.1=0 from rfl,jM ⟨by decide,by decide⟩,cE,aJ,show(fZ r L).2.2.2.2.2.1=r from rfl,NJ hX (by omega) hr,qc];dsimp only;rw[cE,aJ,Di,qc];dsimp only;rw[cE,aJ];refine dF (OU hX (n+1) (n+1) (by omega) _ _ hL (n+1) 0 (eU _) (by omega)) ?_;rfl
theorem NQ(D:Den ctx)(n:Nat)(K:Int->bw->bw->Option ((bw×Bool×Unit)×Unit))(a:Int)(ws:List Int)(hl:ws.length<=1000)(z:bw)(d:List nW×Unit):∀(c i:Nat),i<=ws.length->ws.length-i<c->
  RA D n K c a (i:Int) z ((ws.take i).map (fun v=>((v,0,0,()):lQ)),d) ws=K a z (ws.map (fun v=>((v,0,0,()):lQ)),d)
 | 0,i,_,h2=>by omega
 | c+1,i,h0,h2=>by
  have hb:=iG;simp only[RA,Xk];by_cases hi:i<ws.length
  .have ih:=NQ D n K a ws hl z d c (i+1) (by omega) (by omega);rw[qf (by omega),ix hi,aA,dQ,qv hi,qu (by omega)];rw[qf (by rw[jw,cY];omega)];rw[mw hi,o5]at ih;exact ih
  .rw[qg (by omega),show ws.take i=ws from jf (by omega)]
theorem Nu(N n:Nat)(hN:1<=N)(K:Bool->aN->aN->Option ((aN×Bool×Unit)×Unit))(L:List (List cL))(hl:L.length<=1000)(h1:∀ops∈L,ops.length<=1000)(b:Bool)(z:aN)(a:bw)(e:Int×List d8×List Int×qp×Unit):∀(c i:Nat),i<=L.length->L.length-i<c->
  Rb (DD X N) n K c L b (i:Int) z (a,(L.take i).map (fun ops=>((ops,0,false,[],[],()):eP)),e)=K b z (a,L.map (fun ops=>((ops,0,false,[],[],()):eP)),e)
 | 0,i,_,h2=>by omega
 | c+1,i,h0,h2=>by
  have hb:=iG;simp only[Rb,qsu];by_cases hi:i<L.length
  .have ih:=Nu N n hN K L hl h1 b z a e c (i+1) (by omega) (by omega);have hd:=h1 _ (ef hi);obtain⟨N,rfl⟩:∃k,N=k+1:=⟨N-1,by omega⟩
   rw[qf (by omega),ix hi,aA,dQ,qv hi,qu (by omega),aer hX];simp only[qv2,q91];rw[qf (by omega),qc];dsimp only;rw[qf (by rw[jw,cY];omega)];rw[mw hi,o5]at ih;exact ih
  .rw[qg (by omega),show L.take i=L from jf (by omega)]
theorem ahS(hn:W+8<=n){r:qp}(hr:aM r){L:List (List cL)}(hL:jy L):qtw (DD X n) r L=some ((fZ r L,true,()),()):=by
 obtain⟨n,rfl⟩:∃k,n=k+2:=⟨n-2,by omega⟩
 have hW:=d7;have hb:=iG;have zR:=hL.n;have hrl:=hr.len;have hmem:X0 (DD X (n+1)) r (L.length:Int)=some (((fZ r L).1,true,()),()):=by
  rw[ahJ hX];simp only[XM,Yv,qzk];obtain⟨ws,w1,w2,w3⟩:=abh hX (n:=n) (by omega) hr;have pP:ws=uS r:=OP w1 (ye r) (fun p hp=>by rw[w2 p hp,EI r hp];rfl);rw[w3,qc,pP];dsimp only;refine dF (NQ hX (DD X n) n _ (L.length:Int) (uS r) (by rw[ye];omega) ([],[],()) ([],()) n 0 (eU _) (by rw[ye];omega)) ?_;simp only[q9w];rw[yw hX (by omega),qc];dsimp only;rw[jM ⟨by omega,by omega⟩,aA,show(decide (0<=(L.length:Int))&&decide ((L.length:Int)<=(L.length:Int))&&decide ((L.length:Int)<=(fY:Int)))=true by simp;omega,aA];have hm:=Pn hX (n:=n) (by omega) ((uS r).map fun v=>((v,0,0,()):lQ)) (fun x hx=>by
   obtain⟨v,hv,rfl⟩:=eE.1 hx;unfold uS at hv;obtain⟨q,hq,rfl⟩:=eE.1 hv;have:=Bu hr (q:Int) (by have:=se.1 hq;omega);exact⟨rfl,rfl,this.1,by dsimp only;omega⟩) (by rw[jw,ye]) L.length zR.1 zR.2
  rw[dQ];refine dF (eM (fun z=>qd z _) hm) ?_;rw[qc];dsimp only;rw[cE,aJ];rfl
 have Js:X2 (DD X (n+1)) r=some ((r,()),()):=by rw[ahh hX];simp only[XR,Ny];rw[qf (by omega)];rfl
 rw[adX hX];simp only[qua,quu,qqz];rw[hmem,qc,Js,qc];dsimp only;refine dF (Nu hX (n+1) (n+1) (by omega) _ L (by omega) (fun ops h=>by have:=(hL.ops ops h).1;omega) true (([],[],()),[],0,[],[],([],0,()),()) (fZ r L).1 (0,[],[],r,()) (n+1) 0 (eU _) (by omega)) ?_;simp only[qzj];have hm:=aiG hX (n:=n+1) (by omega) hr hL;rw[cE,aJ];refine dF (eM (fun z=>qd z _) hm) ?_;rw[qc];dsimp only;rw[cE,aJ];rfl
end
def qJ(l:List d8)(r:qp)(ks:List Int):qp:=ks.foldl (fun s k=>gX s (au l k).2.1 (au l k).2.2.2.2.2.1.1) r
theorem PE(l:List d8)(r:qp)(ks:List Int)(k:Int):qJ l r (ks++[k])=gX (qJ l r ks) (au l k).2.1 (au l k).2.2.2.2.2.1.1:=by unfold qJ;rw[List.foldl_append];rfl
theorem L6{l:List d8}{r:qp}{ks:List Int}{s:qp}(h:iq l r ks s):s=qJ l r ks:=by
 induction h with
 | nil=>rfl
 | snoc h1 h2 h3 ih=>rw[PE,<-ih]
theorem QT{l:List d8}{r:qp}{ks:List Int}{s:qp}(h:iq l r ks s):∀(i:Nat)(hi:i<ks.length),aM (qJ l r (ks.take i))/\Out (qJ l r (ks.take i)) (au l ks[i]).2.1 (au l ks[i]).2.2.2.2.2.1.1 (au l ks[i]).2.2.2.2.2.1.2.1:=by
 induction h with
 | nil=>intro i hi;simp at hi
 | @snoc s ks k h1 h2 h3 ih=>
  intro i hi;by_cases e:i<ks.length
  .have:=ih i e;rw[nv (by omega),List.getElem_append_left e];exact this
  .have:i=ks.length:=by rw[cw,o3]at hi;omega
   subst this;have e2:=L6 h1;rw[nv (b7 _),Ag,<-e2,List.getElem_append_right (b7 _)];simp only[Nat.sub_self,G3];exact⟨h2,h3⟩
section
variable {X:Ext} (hX:fR X) {n:Nat}
include hX
theorem Oq(N n:Nat)(hN:W+7<=N)(K:Bool->qp->qp->Option ((qp×Bool×Unit)×Unit)){m:aN}(I:Inv m)(hl:m.2.2.2.2.1.length<=1000){R:qp}(hR:iq m.2.2.2.1 m.2.2.2.2.2.1 m.2.2.2.2.1 R)(z:qp):∀(c i:Nat),i<=m.2.2.2.2.1.length->m.2.2.2.2.1.length-i<c->
  RO (DD X N) n K c true m.2.2.2.2.1 (m.2.2.2.2.1.length:Int) (i:Int) m z (qJ m.2.2.2.1 m.2.2.2.2.2.1 (m.2.2.2.2.1.take i))=K true z R
 | 0,i,_,h2=>by omega
 | c+1,i,h0,h2=>by
  simp only[RO,qz2];by_cases hi:i<m.2.2.2.2.1.length
  .have ih:=Oq N n hN K I hl hR z c (i+1) (by omega) (by omega);have hk:=I.call.f6 _ (ef hi);have hop:=(I.call.c _ hk.1 hk.2.1).op;obtain⟨r1,r2⟩:=QT hR i hi;have hd:List.getD m.2.2.2.1 (Int.toNat m.2.2.2.2.1[i]) (0,(0,0,0,()),0,0,0,(0,[],()),())=au m.2.2.2.1 m.2.2.2.2.1[i]:=rfl;rw[qf (by omega),ix hi,aA,dQ,qv hi,fL hk.1 hk.2.1,aA,aA,hd];generalize hs:qJ m.2.2.2.1 m.2.2.2.2.2.1 (m.2.2.2.2.1.take i)=s at *;have ha:=YA hX (n:=N) (by omega) r1 hop r2;have hf:=OH hX (n:=N) (by omega) r1 hop r2;rw[show((s.1,s.2):qp)=s from rfl];refine dF (eM (fun z=>qd z _) ha) ?_;rw[qc];refine dF (eM (fun z=>qd z _) hf) ?_;rw[qc];dsimp only;rw[qu (by omega)];rw[mw hi,PE,hs]at ih;exact ih
  .rw[qg (by omega),show m.2.2.2.2.1.take i=m.2.2.2.2.1 from jf (by omega),<-L6 hR]
theorem agQ(hn:W+11<=n){m:aN}(I:Inv m)(ht:m.2.2.1<=100000){R:qp}(hR:iq m.2.2.2.1 m.2.2.2.2.2.1 m.2.2.2.2.1 R):WG (DD X n) m=some ((R,true,()),()):=by
 obtain⟨n,rfl⟩:∃k,n=k+1:=⟨n-1,by omega⟩
 have hW:=d7;have zU:=(HC hX I).o;rw[adD hX];simp only[WT,Wz,qx4];rw[Ry hX (by omega) I ht,qc];dsimp only;rw[cE,aJ,S4 hX (by omega) I.first,qc];dsimp only;exact Oq hX n n (by omega) _ I zU hR ([],0,()) n 0 (eU _) (by omega)
theorem afP(hn:W+12<=n){m:aN}(I:Inv m)(ht:m.2.2.1<=100000):qyi (DD X n) m=some ((true,()),()):=by
 obtain⟨n,rfl⟩:∃k,n=k+1:=⟨n-1,by omega⟩
 obtain⟨R,_,h2,_⟩:=I.rep;rw[ac8 hX];simp only[qyn,q6t];rw[agQ hX (by omega) I ht h2,qc]
end
theorem aac{r:qp}(hr:aM r){L:List (List cL)}(hL:jy L){who:List Int}(hw:uC L who 720):Inv (uZ (fZ r L) who)/\(uZ (fZ r L) who).2.2.1<=720/\(uZ (fZ r L) who).2.1.length=L.length/\who.length<=2000/\
  (∀t∈who,0<=t/\t<(fZ r L).2.1.length)/\(fZ r L).2.2.1+who.length<=100000:=by
 have jK:(fZ r L).2.1.length=L.length:=by unfold fZ;simp
 have hwl:=hw.1;have hall:∀t∈who,0<=t/\t<(fZ r L).2.1.length:=fun t h=>by rw[jK];exact hw.2 t h
 have hX:fR Oz:=aiP;obtain⟨h1,h2,_⟩:=abc hX who (S9 hr hL) hall;have e:(fZ r L).2.2.1=0:=rfl;refine⟨h1,by omega,by rw[abD,jK],by omega,hall,by omega⟩
end Go.G
namespace Go.V
open Go
theorem El.take{h:Array Obj}{Pr:BS}{e:Ty}{mi:Mk}{xs:List e.den}{cells:List Value}{Fs:Nat->BS}(k:El h Pr e mi xs cells Fs)(n:Nat)(hn:n<=xs.length)(hl:cells.length=xs.length * e.width):El h Pr e mi (xs.take n) (cells.take (n * e.width)) Fs:=by
 refine⟨fun i hi=>?_,k.dG⟩;rw[cY]at hi;have hin:i<n:=by omega
 have h1:(xs.take n).getD i e.zero=xs.getD i e.zero:=by simp only[List.getD,fk];rw[aj hin]
 have h2:((cells.take (n * e.width)).drop (i * e.width)).take e.width=(cells.drop (i * e.width)).take e.width:=by rw[si,oQ];congr 1;have:(i+1) * e.width<=n * e.width:=dz _ hin;rw[jh]at this;omega
 rw[h1,h2];exact k.rep i (by omega)
theorem El.drop{h:Array Obj}{Pr:BS}{e:Ty}{mi:Mk}{xs:List e.den}{cells:List Value}{Fs:Nat->BS}(k:El h Pr e mi xs cells Fs)(n:Nat)(hn:n<=xs.length):El h Pr e mi (xs.drop n) (cells.drop (n * e.width)) (fun i=>Fs (n+i)):=by
 refine⟨fun i hi=>?_,fun i j hij=>k.dG _ _ (by omega)⟩;rw[mz]at hi;have h1:(xs.drop n).getD i e.zero=xs.getD (n+i) e.zero:=by simp only[List.getD,f8]
 have h2:((cells.drop (n * e.width)).drop (i * e.width)).take e.width=(cells.drop ((n+i) * e.width)).take e.width:=by rw[oS,iE]
 rw[h1,h2];exact k.rep (n+i) (by omega)
def upTo(n:Nat)(Fs:Nat->BS)(i:Nat):BS:=if i<n then Fs i else Nil
theorem E9(n:Nat)(Fs:Nat->BS)(i:Nat):Sub (upTo n Fs i) (Fs i):=by
 unfold upTo;split
 .exact Sub.refl _
 .exact Sub.nil _
theorem El.upTo{h:Array Obj}{Pr:BS}{e:Ty}{mi:Mk}{xs:List e.den}{cells:List Value}{Fs:Nat->BS}(k:El h Pr e mi xs cells Fs):El h Pr e mi xs cells (upTo xs.length Fs):=by refine⟨fun i hi=>?_,fun i j hij=>(k.dG i j hij).mono (E9 _ _ _) (E9 _ _ _)⟩;have:Go.V.upTo xs.length Fs i=Fs i:=aj hi;rw[this];exact k.rep i hi
theorem El.cut{h:Array Obj}{Pr:BS}{e:Ty}{mi:Mk}{xs:List e.den}{cells:List Value}{Fs:Nat->BS}(k:El h Pr e mi xs cells Fs)(i j:Nat)(hij:i<=j)(hj:j<=xs.length)(hl:cells.length=xs.length * e.width) :
  ∃FF:Nat->BS,El h Pr e mi (xs.take i++xs.drop j) (cells.take (i * e.width)++cells.drop (j * e.width)) FF/\∀a b,FF a b->∃c,Fs c b:=by
 have k1:=(k.take i (by omega) hl).upTo;have k2:=k.drop j hj;have hlen:(xs.take i).length=i:=by rw[cY];omega
 rw[hlen]at k1;have hiw:i * e.width<=cells.length:=by rw[hl];exact dz _ (by omega)
 have hjw:j * e.width<=cells.length:=by rw[hl];exact dz _ hj
 refine⟨_,El.append k1 k2 (by rw[cY,hlen];omega) (by rw[mz,mz,hl,Nat.sub_mul]) (fun a b=>?_),?_⟩
 .unfold Go.V.upTo;split
  .exact k.dG _ _ (by omega)
  .exact cq.nil _
 .intro a b hb;split at hb
  .exact⟨_,E9 _ _ _ b hb⟩
  .exact⟨_,hb⟩
theorem ahM{w w2:World}{Pr:BS}{Fs:Nat->BS}{ks:List PK}{a:eV ks}{vs:List Value}(pre:Pre w.heap Pr Fs ks a vs){e:Ty}{mi:Mk}{zs:List e.den}{v:Value}{G:BS}
  (rep:aq w2.heap Pr (.sl e) (.own 0 mi) zs [v] G) (hG:∀z,G z->rE w.heap.size Fs z) (hGP:cq G Pr) (hGl:∀z,G z->z<w2.heap.size) (hsz:w.heap.size<=w2.heap.size)
  (o:cR ks) (out:mH w2.heap Pr (fun _=>Nil) 0 ks o vs) (fr:jW (rE w.heap.size Fs) w w2) :
  HP w w2 Pr Fs ks [.val (.sl e) (.own 0 mi)] (zs,()) o vs v Pr (fun i=>if i=0 then G else Nil) (fun _=>Nil) [v] where
 res:=⟨v,[],rfl,⟨[v],rep,rfl⟩,rfl⟩
 val:=rfl
 out:=out
 pr:=Sub.refl _
 jY:=fun b hb=>.inl hb
 gL:=fun i b hb=>by
  split at hb
  .exact hG b hb
  .exact hb.elim
 oL:=fun _ _ hb=>hb.elim
 wk:=fun i j hij=>by
  split
  .split
   .omega
   .exact fun _ _ h=>h.elim
  .exact cq.nil _
 Kb:=fun _ _ _=>cq.nil _
 go:=fun _ _=>fun _ _ h=>h.elim
 gp:=fun i=>by
  split
  .exact hGP
  .exact cq.nil _
 op:=fun _=>cq.nil _
 tP:=fun i b hb=>by
  split at hb
  .exact hGl b hb
  .exact hb.elim
 xb:=fun _ _ hb=>hb.elim
 xo:=fun b hb=>Nat.lt_of_lt_of_le (pre.bP b hb) hsz
 fr:=fr
set_option maxHeartbeats 4000000
open Go.Proofs Go.RowKit Go.Lib
abbrev me:Ty:=.pair (.int .i64) (.pair (.pair (.int .i64) (.pair (.int .i64) (.pair (.int .i64) .unit))) (.pair (.int .i64) (.pair (.int .i64) (.pair (.int .i64) (.pair (.pair (.int .i64) (.pair (.sl (.int .i64)) .unit)) .unit)))))
abbrev v9:rI:=⟨[.own (.sl me) (Mk.own 0 Mk.no),.val (.int .i64),.val (.int .i64)],[.val (.sl me) (Mk.own 0 Mk.no)]⟩
theorem B0:ctx.sig 128=v9:=by kernel_rfl
def PY(P:Program)(sg:rI)(f:FuncId)(d:eV sg.params->Option (fc sg.res×cR sg.params)):Prop:=
 ∀a r,d a=some r->∀(w:World)(Pr:BS)(Fs:Nat->BS)(vs:List Value),Pre w.heap Pr Fs sg.params a vs->
  Calls P f vs.toArray w fun e w'=>∃val fD Gs Os us,e=.returned val/\HP w w' Pr Fs sg.params sg.res r.1 r.2 vs val fD Gs Os us
def A6{C:Ctx}{f:FuncId}{sg:rI}(h:C.sig f=sg)(d:eV sg.params->Option (fc sg.res×cR sg.params)):eV (C.sig f).params->Option (fc (C.sig f).res×cR (C.sig f).params):=by rw[h];exact d
theorem ahL{P:Program}{C:Ctx}{D:Den C}{f:FuncId}{sg:rI}(h:C.sig f=sg){d:eV sg.params->Option (fc sg.res×cR sg.params)}(hd:D f=A6 h d)(k:PY P sg f d):vY P C D f:=by unfold vY;rw[hd];subst h;exact k
theorem aiC:Tryz.f128.ntmps=33:=by kernel_rfl
def wg(xs:List me.den)(i j:Int):Option (List me.den):=if 0<=i/\i<j/\j<=xs.length/\xs.length<=1048576 then some (xs.take i.toNat++xs.drop j.toNat) else none
theorem ab8{P:Program}{ops:Array Oper}{o:Oper}{a:Act}{w:World}{K:Act->World->Prop}{Q:Exit->Act->World->Prop}{E:Prop}
  (hg:o.guard=none) (d x:Operand) (dT sT:TypeId) (hop:o.op=Op.call { callee:=Callee.builtin Builtin.append,args:=#[d,x],argTypes:=#[dT,sT] })
  (v u:Value) (hd:a.eval d=v) (hx:a.eval x=u) {v':Value} {w':World} (hr:(Builtin.append_ #[dT,sT] o.type #[v,u]).run P w=.ok v' w') (hK:K (a.put o.dst v') w') :
  if Region.wanted o (yielded ops a.tmps)=true then Oper.wp P o a w K Q else E:=by
 have hw:Region.wanted o (yielded ops a.tmps)=true:=by simp[Region.wanted,hg]
 rw[aj hw];exact Lib.wp_append_run w d x dT sT hop v u hd hx v' w' hr hK
theorem agZ(b n c i j:Nat)(w w1 w2:World)(r2:Value)(hij:i<j)(hj:j<=n)(hnc:n<=c)(akt:n<=9223372036854775807)
  (hA:∀ty a,(a=(if c=j then some (⟨b,0,none⟩:Addr) else some ⟨b,j * 9,none⟩))->(Builtin.append_ #[35,35] ty #[.slice (some ⟨b,0,none⟩) i c,.slice a (n-j) (c-j)]).run Tryz.prog w.drew=.ok (.slice (some ⟨b,0,none⟩) (i+(n-j)) c) w1)
  (hC:∀ty,(Builtin.clear_ #[35] ty #[.slice (some ⟨b,(i+(n-j)) * 9,none⟩) (n-(i+(n-j))) (c-(i+(n-j)))]).run Tryz.prog w1=.ok r2 w2) :
  Calls Tryz.prog 128 #[.slice (some ⟨b,0,none⟩) n c,.int .i64 i,.int .i64 j] w fun e w'=>e=.returned (.slice (some ⟨b,0,none⟩) (i+(n-j)) c)/\w'=w2:=by
 have mx:=QV;have Us:Tryz.prog.underlying 35=some (.slice 61):=by kernel_rfl
 have u3:Tryz.prog.underlying 3=some (.int .i64):=by kernel_rfl
 have v67:=run_underlying Us;have v3:=run_underlying u3;have BX:(Tryz.prog.info? 61).map (·.size)=some 9:=by kernel_rfl
 obtain⟨i0,SB⟩:∃i0,Tryz.prog.info? 61=some i0:=by cases h:Tryz.prog.info? 61 with | none=>rw[h]at BX;cases BX | some x=>exact⟨x,rfl⟩
 have hs0:i0.size=9:=by rw[SB]at BX;simpa using BX
 have SN:¬ ((i:Int)=(j:Int)):=by omega
 have akq:i<=j:=by omega
 have hic:i<=c:=by omega
 have hjc:j<=c:=by omega
 have hin:i<=n:=by omega
 have JA:i+(n-j)<=n:=by omega
 have hk2:i+(n-j)<=c:=by omega
 have hk3:¬ (c=i+(n-j)):=by omega
 obtain⟨A,hAe⟩:∃A:Option Addr,A=(if c=j then some (⟨b,0,none⟩:Addr) else some ⟨b,j * 9,none⟩):=⟨_,rfl⟩
 go_enter Tryz.func128,aiC
 go_wp2_with fail
 go_region_law_o (refine ab8 rfl (.tmp 22) (.tmp 25) 35 35 rfl _ _ (by simp[Act.eval,Act.put]) (by simp[Act.eval,Act.put]) (hA _ _ rfl) ?_)
 all_goals (go_wp2_with (simp only[hC]))
 all_goals (try (go_ret;exact⟨rfl,rfl⟩))
theorem aip{w:World}{b o n k:Nat}(hn:0<n)(ht:w.there b o (n * me.width))(ty:TypeId) :
  (Builtin.clear_ #[35] ty #[.slice (some ⟨b,o,none⟩) n k]).run Tryz.prog w=.ok (.tuple #[]) (w.setCells b o (zs me n)):=by
 have h1:Tryz.prog.underlying 35=some (.slice 61):=by kernel_rfl
 have hT:ctx.ty 61=me:=by kernel_rfl
 have h3:(ctx.ty 61).nz=true:=by kernel_rfl
 have ku:=EG 61 h3;have hz:∀w:World,(zeroValue 61).run Tryz.prog w=.ok (cU me (zc me)) w:=fun w=>by
  have:=ku.nh (w:=w);rw[hT]at this;exact this
 have hl:=Km me n;have h1c:∀v∈zs me n,v.oneCell'=true:=by intro v hv;obtain⟨i,hi,rfl⟩:=kR.1 hv;have:=Gg me n i (by rw[<-hl];exact hi);rw[fN hi]at this;exact aq.one _ (aq.zero (h:=#[]) (Pr:=Nil) me .no) _ (List.mem_of_getElem? this.symm)
 have:=run_storeCells_cells (P:=Tryz.prog) b o (zs me n) 0 w (fun j hj=>by simpa using (ht j (by rw[<-hl];exact hj)).1) (fun j hj=>by simpa using (ht j (by rw[<-hl];exact hj)).2) h1c;simp only[nS]at this;obtain⟨n',rfl⟩:∃n',n=n'+1:=⟨n-1,by omega⟩
 have e0:(Builtin.zeroCells (cU me (zc me)).cells (n'+1)).toList=zs me (n'+1):=rfl;simp[Builtin.clear_,run_underlying h1,hz,Sem.run_bind,e0,this]
theorem El.all{h:Array Obj}{Pr:BS}{e:Ty}{mi:Mk}{xs:List e.den}{cells:List Value}{F:Nat->BS}(el:El h Pr e mi xs cells F)(hw:0<e.width)(hl:cells.length=xs.length * e.width):∀u∈cells,u.oneCell'=true:=by
 intro u hu;obtain⟨k,hk,rfl⟩:=EF hu;have hk2:k / e.width<xs.length:=by rw[QW hw];omega
 have r:=el.rep (k / e.width) hk2;refine aq.one _ r _ ?_;rw[lE];refine⟨k % e.width,?_⟩;have e1:k / e.width * e.width+k % e.width=k:=by rw[qB];exact Bo k e.width
 rw[fk,aj (xX _ hw),f8,e1,fN]
theorem air:PY Tryz.prog v9 128 fun a=>(wg a.1 a.2.1 a.2.2.1).map fun r=>((r,()),()):=by
 intro a r h w Pr Fs vs pre;obtain⟨xs,i,j,⟨⟩⟩:=a;change List me.den at xs;change Int at i;change Int at j;obtain⟨v1,vs1,rfl,⟨c1,nc,rfl⟩,v2,vs2,rfl,⟨c2,r2,rfl⟩,v3,vs3,rfl,⟨c3,r3,rfl⟩,k3⟩:=pre.rel;obtain rfl:vs3=[]:=k3;simp only[aq]at r2 r3;subst r2;subst r3;dsimp only at h;unfold wg at h;split at h
 .rename_i hc;obtain⟨h0,hij,hj,hbd⟩:=hc;replace hbd:xs.length<=1048576:=hbd;replace h0:0<=i:=h0;replace hij:i<j:=hij;replace hj:j<=xs.length:=hj;simp only[dV,aI]at h;subst h;obtain⟨i,rfl⟩:=LP h0;obtain⟨j,rfl⟩:=LP (show 0<=j by omega);obtain⟨ad,cap,cells,F,rfl,hl,hlc,hsrc,el,hF,hown⟩:=HF (by simp) (by simp) nc;rcases hown 0 _ rfl with hc0 | ⟨b,cs,rfl,oh,sS,jz,hFb,d9⟩
  .replace hlc:xs.length<=cap:=hlc;omega
  .have hw1:me.width=9:=rfl;have JJ:=el.all (by decide) hl;replace hlc:xs.length<=cap:=hlc;replace hl:cells.length=xs.length * 9:=by rw[hl,hw1]
   replace jz:cap * 9<=cs.size:=by rw[hw1]at jz;exact jz
   replace d9:cells=sub cs 0 (xs.length * 9):=by rw[d9,hw1]
   have Vm:i<j:=by omega
   have hj2:j<=xs.length:=by omega
   have Us:Tryz.prog.underlying 35=some (.slice 61):=by kernel_rfl
   have BX:(Tryz.prog.info? 61).map (·.size)=some 9:=by kernel_rfl
   obtain⟨i0,SB⟩:∃i0,Tryz.prog.info? 61=some i0:=by cases h:Tryz.prog.info? 61 with | none=>rw[h]at BX;cases BX | some x=>exact⟨x,rfl⟩
   have hs0:i0.size=9:=by rw[SB]at BX;simpa using BX
   have hcd:cells.drop (j * 9)=sub cs (j * 9) ((xs.length-j) * 9):=by rw[d9];simp only[sub,iD,si];congr 1;omega
   have nA:(cells.drop (j * 9)).length=(xs.length-j) * 9:=by rw[mz,hl];omega
   have hone:∀u∈cells.drop (j * 9),u.oneCell'=true:=fun u hu=>JJ u (List.mem_of_mem_drop hu);have hA:∀ty a,(a=(if cap=j then some (⟨b,0,none⟩:Addr) else some ⟨b,j * 9,none⟩))->(Builtin.append_ #[35,35] ty #[.slice (some ⟨b,0,none⟩) i cap,.slice a (xs.length-j) (cap-j)]).run Tryz.prog w.drew=.ok (.slice (some ⟨b,0,none⟩) (i+(xs.length-j)) cap) (w.drew.setCells b (i * 9) (cells.drop (j * 9))):=by
    intro ty a ha;refine Se (P:=Tryz.prog) w.drew (ty:=ty) rfl rfl Us Us SB (news:=cells.drop (j * 9)) ?_ (by omega) (fun ad e=>?_) (fun e=>by simp at e)
    .rw[hs0];refine BL nA ?_;by_cases h0:xs.length-j=0
     .exact .inl ⟨h0,jU.1 (by rw[nA,h0])⟩
     .refine .inr ⟨b,j * 9,by rw[ha,af (by omega)],?_⟩;rw[hcd];exact Sd (BD sS.zA (by omega))
    .simp only[aI]at e;subst e;rw[Addr.add_mid,jx,hs0];have th:=rY (w:=w) (o:=i * 9) (n:=(cells.drop (j * 9)).length) sS (by rw[nA];omega);have:=run_storeCells_cells (P:=Tryz.prog) b (i * 9) (cells.drop (j * 9)) 0 w.drew (fun t ht=>by simpa using (th t ht).1) (fun t ht=>by simpa using (th t ht).2) hone;simpa using this
   obtain⟨ty,lo,hi,he,hfz⟩:=sS;have hfit:i * 9+(cells.drop (j * 9)).length<=cs.size:=by rw[nA];omega
   obtain⟨Ca,Jt,Cf⟩:=Il (cells.drop (j * 9)) (i * 9) w.drew cs he hfit;have akz:Ca.size=cs.size:=by rw[<-eS,Cf,yj (by simpa using hfit),eS]
   have VG:iS (w.drew.setCells b (i * 9) (cells.drop (j * 9))).heap b Ca:=⟨ty,lo,hi,Jt,fun t ht=>hfz t (by omega)⟩
   have hzl:(zs me (xs.length-(i+(xs.length-j)))).length=(xs.length-(i+(xs.length-j))) * 9:=Km _ _;generalize hzs:zs me (xs.length-(i+(xs.length-j)))=zz at hzl;have mP:(i+(xs.length-j)) * 9+zz.length<=Ca.size:=by rw[hzl];omega
   have th1:=rY (w:=w.drew.setCells b (i * 9) (cells.drop (j * 9))) (o:=(i+(xs.length-j)) * 9) (n:=zz.length) VG mP;have hC:∀ty,(Builtin.clear_ #[35] ty #[.slice (some ⟨b,(i+(xs.length-j)) * 9,none⟩) (xs.length-(i+(xs.length-j))) (cap-(i+(xs.length-j)))]).run Tryz.prog (w.drew.setCells b (i * 9) (cells.drop (j * 9)))=.ok (.tuple #[]) ((w.drew.setCells b (i * 9) (cells.drop (j * 9))).setCells b ((i+(xs.length-j)) * 9) zz):=fun ty=>by
    rw[<-hzs];exact aip (by omega) (by rw[hw1,<-hzl];exact th1) ty
   obtain⟨fH,wD,lK⟩:=Il zz ((i+(xs.length-j)) * 9) _ Ca Jt mP;have nL:fH.size=Ca.size:=by rw[<-eS,lK,yj (by simpa using mP),eS]
   have mS:iS ((w.drew.setCells b (i * 9) (cells.drop (j * 9))).setCells b ((i+(xs.length-j)) * 9) zz).heap b fH:=⟨ty,lo,hi,wD,fun t ht=>hfz t (by omega)⟩
   have bT:∀b',b'≠b->((w.drew.setCells b (i * 9) (cells.drop (j * 9))).setCells b ((i+(xs.length-j)) * 9) zz).heap[b']? = w.heap[b']?:=fun b' hb'=>(zj zz _ _ b' hb').trans (zj (cells.drop (j * 9)) _ w.drew b' hb');have UR:¬ Pr b:=fun hb=>pre.dK 0 b oh hb;obtain⟨FF,elc,Jg⟩:=el.cut i j (by omega) hj2 (by rw[hw1];exact hl);have wo:∀a,¬ FF a b:=fun a hb=>by obtain⟨c,hc⟩:=Jg a b hb;exact hFb c hc
   have vj:=elc.mono (h':=((w.drew.setCells b (i * 9) (cells.drop (j * 9))).setCells b ((i+(xs.length-j)) * 9) zz).heap) (Sub.refl _) (fun b' hb'=>bT b' (fun e0=>UR (e0 ▸ hb'))) (fun a b' hb'=>bT b' (fun e0=>wo a (e0 ▸ hb')));have hlen:(xs.take i++xs.drop j).length=i+(xs.length-j):=by rw[cw,cY,mz];omega
   have pO:fH.toList.take ((i+(xs.length-j)) * 9)=cells.take (i * me.width)++cells.drop (j * me.width):=by
    have h7:cs.toList.length=cs.size:=eS;rw[lK,hw1];have e1:Ca.toList.take ((i+(xs.length-j)) * 9)=cells.take (i * 9)++cells.drop (j * 9):=by rw[Cf];simp only[bM];rw[nv (by rw[cw,cY,nA];omega),jf (by rw[cw,cY,nA];omega)];congr 1;rw[d9];simp only[sub,iD,oQ];congr 1;omega
    rw[<-e1];simp only[bM];have h8:Ca.toList.length=Ca.size:=eS;rw[eu,nv (by rw[cY];omega),oQ,Nat.min_self]
   have h_:=vj.row mS (cap:=cap) (by rw[hw1];omega) (by rw[hlen];omega) (fun t ht=>Ks pO (by rw[hw1];rw[hlen]at ht;omega)) wo 0;rw[hlen]at h_;have rR:=CR (b:=b) (cells.drop (j * 9)) (i * 9) w.drew;have mU:=CR (b:=b) zz ((i+(xs.length-j)) * 9) (w.drew.setCells b (i * 9) (cells.drop (j * 9)));have hsize:((w.drew.setCells b (i * 9) (cells.drop (j * 9))).setCells b ((i+(xs.length-j)) * 9) zz).heap.size=w.heap.size:=by rw[qD,qD];rfl
   have UO:∀z,(z=b\/∃t,FF t z)->Fs 0 z:=by
    rintro z (rfl | ⟨t,ht⟩)
    .exact oh
    .obtain⟨c,hc⟩:=Jg t z ht;exact hF c z hc
   refine(agZ b xs.length cap i j w _ _ _ Vm hj2 hlc (by omega) hA hC).mono ?_;rintro e w' ⟨rfl,rfl⟩;exact⟨_,Pr,_,_,_,rfl,ahM pre h_ (fun z hz=>.inr ⟨0,UO z hz⟩) (fun z hz hp=>pre.dK 0 z (UO z hz) hp) (fun z hz=>by rw[hsize];exact pre.lim 0 z (UO z hz)) (by rw[hsize];exact b7 _) () ⟨_,_,rfl,_,_,rfl,_,_,rfl,rfl⟩
    ⟨mU.1.trans rR.1,mU.2.1.trans rR.2.1,mU.2.2.trans rR.2.2,by rw[hsize];exact b7 _,fun b' _ hb'=>bT b' (fun e0=>hb' (e0 ▸ .inr ⟨0,oh⟩))⟩⟩
 .simp at h
def tM(a:eV v9.params):Option (fc v9.res×cR v9.params):=(wg a.1 a.2.1 a.2.2.1).map fun r=>((r,()),())
noncomputable def Gb:Den ctx:=fun g a=>
 if h:g=128 then A6 (f:=g) (by rw[h];exact B0) tM a else none
theorem Na:Gb 128=A6 B0 tM:=by funext a;simp only[Gb,dif_pos]
def aiB(f:FuncId):Bool:=f.beq 128
theorem aeL:DN Tryz.prog 128:=⟨Tryz.f128,Tryz.func128,by decide +kernel,rfl⟩
noncomputable def mK:Ext where
 den:=Gb
 is:=aiB
 ok:=fun f hf=>by
  obtain rfl:f=128:=kO hf;exact ahL B0 Na air
 call:=fun f a r hf _=>by
  obtain rfl:f=128:=kO hf;exact aeL
theorem aiF(xs:List me.den)(i j:Int):A6 B0 tM (xs,i,j,())=tM (xs,i,j,()):=by kernel_rfl
theorem ahK(n:Nat)(xs:List me.den)(i j:Int):DD mK (n+1) 128 (xs,i,j,())=tM (xs,i,j,()):=
 (ain mK (g:=128) rfl n (xs,i,j,())).trans ((congrFun Na (xs,i,j,())).trans (aiF xs i j))
end Go.V
namespace Go.G
open Go Go.V Go.Proofs
theorem Oo(v:Int):∀(l:List Int)(i:Nat)(q:Int),aV v l i=q->0<=q->(i:Int)<=q/\l[(q-i).toNat]? = some v
 | [],i,q,h,h0=>by simp only[aV]at h;omega
 | x::l,i,q,h,h0=>by
  simp only[aV]at h;by_cases e:x=v
  .rw[aj e]at h;subst h;refine⟨vA _,?_⟩;rw[Int.sub_self];simp[e]
  .rw[af e]at h;obtain⟨h1,h2⟩:=Oo v l (i+1) q h h0;refine⟨by omega,?_⟩;rw[show(q-(i:Int)).toNat=(q-((i+1:Nat):Int)).toNat+1 by omega,QN];exact h2
theorem afk{r:qp}(hr:aM r){o:cL}(ho:cH o=true){code:Int}{list:List Int}(h:Out r o code list):aM (gX r o code):=by
 have qX:=rz ho;have hl:=hr.len;have hst:=hr.st;have wV:(o.1=1\/o.1=2)->aV o.2.2.1 r.1 0<0->aM (r.1.set o.2.1.toNat o.2.2.1,r.2):=fun k hk=>EC hr (by omega) (.inr hk) (by omega);unfold gX;by_cases hc:code≠0
 .rw[aj hc];exact hr
 rw[af hc];by_cases w7:o.1=1\/o.1=2
 .rw[aj w7];cases h with
  | xu | xw | yJ | yI=>exact absurd (by decide) hc
  | xq _ _ h2=>exact wV w7 h2
  | u_ k h1 h2=>
   have e:r.1.set o.2.1.toNat o.2.2.1=r.1:=by rw[<-h2,qv (by omega),Ac]
   rw[e];exact hr
  | yH _ _ _ h3=>exact wV w7 h3
  | _=>omega
 rw[af w7];by_cases k3:o.1=3
 .rw[aj k3];exact EC hr (by omega) (.inl rfl) (by omega)
 rw[af k3];by_cases k89:o.1=8\/o.1=9
 .rw[aj k89];have e:0<=r.2.1/\r.2.1<=4:=by
   cases h with
   | pT | ou=>exact absurd (by decide) hc
   | tf _ h1=>omega
   | tc _ h1=>omega
   | _=>omega
  rw[qs (by omega) (by omega)];exact⟨hr.len,hr.dL,hr.once,by show 0<=r.2.1+1/\r.2.1+1<=5;omega⟩
 .rw[af k89];exact hr
section
variable {X:Ext} (hX:fR X) {n:Nat}
include hX
theorem On(D:Den ctx)(n:Nat)(K0:Bool->Option ((Bool×Unit)×Unit))(K1:Option ((Bool×Unit)×Unit))(a b:List Int)(hl:a.length<=1000)(hb:b.length=a.length):∀(m i:Nat),i<=a.length->a.length-i<m->
  Hi D n K0 K1 m a b (a.length:Int) (i:Int)=if a.drop i=b.drop i then K1 else K0 false
 | 0,_,_,h=>by omega
 | m+1,i,hi,hf=>by
  simp only[Hi,TE];by_cases h:i<a.length
  .have h2:i<b.length:=by omega
   have ih:=On D n K0 K1 a b hl hb m (i+1) (by omega) (by omega);rw[qf (by omega),ix h,aA,ix h2,aA,dQ,qv h,qv h2,bA,qu (by omega),rf h,rf h2];by_cases e:a[i]=b[i]
   .rw[cT e,cE,aJ];refine ih.trans ?_;by_cases e2:a.drop (i+1)=b.drop (i+1)
    .rw[aj e2,aj (by rw[e,e2])]
    .rw[af e2,af (fun q=>e2 (List.cons.inj q).2)]
   .rw[bJ e,gf,aA,af (fun q=>e (List.cons.inj q).1)]
  .rw[qg (by omega),rm h,rm (by omega),aj rfl]
theorem af6(hn:W+1<=n)(a b:List Int)(hl:a.length<=1000):Tv (DD X n) a b=some ((decide (a=b),()),()):=by
 obtain⟨n,rfl⟩:∃k,n=k+1:=⟨n-1,by omega⟩
 have hW:=d7;rw[MU hX];simp only[TH,TI,TB];by_cases hlen:b.length=a.length
 .have e:=On hX (DD X n) n (fun bN=>qrb (DD X n) n bN) (qrc (DD X n) n) a b hl hlen n 0 (by omega) (by omega);rw[show((0:Nat):Int)=0 from rfl,iD,iD]at e;rw[hlen,show((a.length:Int) != (a.length:Int))=false by simp,aJ,e];by_cases e2:a=b
  .rw[aj e2,cT e2];rfl
  .rw[af e2,bJ e2];rfl
 .rw[show((a.length:Int) != (b.length:Int))=true by rw[bA,bJ (by omega)];rfl,aA,bJ (fun q=>hlen (by rw[q]))]
theorem ad6(hn:W+6<=n){r:qp}(hr:aM r){o:cL}(ho:cH o=true)(code:Int)(list:List Int):∃b,IQ (DD X n) r o (code,list,())=some ((b,()),())/\(b=true->Out r o code list):=by
 obtain⟨n,rfl⟩:∃k,n=k+2:=⟨n-2,by omega⟩
 have hW:=d7;have hl:=hr.len;have hst:=hr.st;have qX:=rz ho;have hkey:=fun v=>K7 hX (n:=n) (by omega) r (by omega) v;have di:=QU hX (n:=n) (by omega) r;have iA:=fun c=>q7j hX (n:=n) (by omega) r (by omega) c;have heq:=fun a b ha=>af6 hX (n:=n+1) (by omega) a b ha;obtain⟨k,K,V,⟨⟩⟩:=o;dsimp only at qX;rw[q6h hX];simp only[T9,qy3];rw[Kz hX (by omega) hr,qc];dsimp only;rw[cE,aJ,I1 hX (by omega),ho,qc];dsimp only;rw[cE,aJ];have oq:k=1\/k=2\/k=3\/k=4->(decide (0<=K)&&decide (K<(r.1.length:Int)))=true:=fun q=>fL (by omega) (by omega);have hkk:=vO V r.1 0;have gT:0<=K/\K<=3->r.1[K.toNat]? = some (r.1.getD K.toNat 0):=fun q=>by rw[fN (by omega),qv (by omega)]
 have Vp:r.1.getD K.toNat 0=V->(0<=K/\K<=3)->V≠0->aV V r.1 0=K:=fun e hK hV=>by
  have hg:=gT hK;rw[e]at hg;rw[Cu V r.1 0 K.toNat hg (fun j hj hc=>hV (hr.once j K.toNat hj V hc hg))];omega
 have hVk:(0<=K/\K<=3)->aV V r.1 0=K->r.1.getD K.toNat 0=V:=fun hK e=>by
  have hg:=gT hK;have:=(Oo V r.1 0 K e hK.1).2;rw[show(K-((0:Nat):Int)).toNat=K.toNat by omega,hg]at this;exact gu this
 by_cases hc:code=0
 .subst hc;rw[show((0:Int) != 0)=false by decide,aJ,vD hX];simp only[qn,uJ];rw[hkey V,qc];dsimp only;by_cases k1:k=1
  .rw[qf k1,oq (by omega),aA,qc];dsimp only;by_cases h1:r.1.getD K.toNat 0=0
   .by_cases h2:aV V r.1 0<0
    .rw[cT h1,cT h2,bg,aA,heq [] list (by simp),qc];refine⟨_,rfl,fun q=>?_⟩;rw[<-lG q];exact .xq k1 h1 h2
    .rw[cT h1,bJ h2,bg,aJ];exact⟨_,rfl,fun q=>by cases q⟩
   .rw[bJ h1,aW,aJ];exact⟨_,rfl,fun q=>by cases q⟩
  rw[qg k1];by_cases k2:k=2
  .rw[qf k2,oq (by omega),aA,qc,bA];dsimp only;by_cases h1:r.1.getD K.toNat 0=0
   .rw[cT h1,cE,aW,aJ];exact⟨_,rfl,fun q=>by cases q⟩
   .rw[bJ h1,gf,bg];by_cases h2:aV V r.1 0<0
    .rw[cT h2,bg,aA,heq [] list (by simp),qc];refine⟨_,rfl,fun q=>?_⟩;rw[<-lG q];exact .yH k2 h1 (fun e=>by have:=Vp e (by omega) (by omega);omega) h2
    .rw[bJ h2,aW];by_cases h3:aV V r.1 0=K
     .rw[cT h3,aA,heq [] list (by simp),qc];refine⟨_,rfl,fun q=>?_⟩;rw[<-lG q];exact .u_ k2 h1 (hVk (by omega) h3)
     .rw[bJ h3,aJ];exact⟨_,rfl,fun q=>by cases q⟩
  rw[qg k2];by_cases k3:k=3
  .rw[qf k3,oq (by omega),aA,qc,bA];dsimp only;by_cases h1:r.1.getD K.toNat 0=0
   .rw[cT h1,cE,aJ];exact⟨_,rfl,fun q=>by cases q⟩
   .rw[bJ h1,gf,aA,heq [] list (by simp),qc];refine⟨_,rfl,fun q=>?_⟩;rw[<-lG q];exact .zC k3 h1
  rw[qg k3];by_cases k4:k=4
  .rw[qf k4,oq (by omega),aA,aA,qc,bA];dsimp only;by_cases h1:r.1.getD K.toNat 0=0
   .rw[cT h1,cE,aJ];exact⟨_,rfl,fun q=>by cases q⟩
   .rw[bJ h1,gf,aA,heq [_] list (by simp),qc];refine⟨_,rfl,fun q=>?_⟩;rw[<-lG q];exact .zF k4 h1
  rw[qg k4];by_cases k5:k=5
  .rw[qf k5,qc];dsimp only;by_cases h2:aV V r.1 0>=0
   .rw[cT h2,aA,heq [_] list (by simp),qc];refine⟨_,rfl,fun q=>?_⟩;rw[<-lG q];exact .sN k5 h2
   .rw[bJ h2,aJ];exact⟨_,rfl,fun q=>by cases q⟩
  rw[qg k5];by_cases k6:k=6
  .rw[qf k6,iA,qc,qc];dsimp only;rw[aA,heq [_] list (by simp),qc];refine⟨_,rfl,fun q=>?_⟩;rw[<-lG q];exact .zB k6
  rw[qg k6];by_cases k7:k=7
  .rw[qf k7,qc];dsimp only;rw[aA,heq _ list (by omega),qc];refine⟨_,rfl,fun q=>?_⟩;rw[<-lG q];exact .yG k7
  rw[qg k7];by_cases k8:k=8
  .rw[qf k8,qc];dsimp only;by_cases h2:r.2.1=0
   .rw[cT h2,aA,heq [] list (by simp),qc];refine⟨_,rfl,fun q=>?_⟩;rw[<-lG q];exact .tf k8 h2
   .rw[bJ h2,aJ];exact⟨_,rfl,fun q=>by cases q⟩
  rw[qg k8];by_cases k9:k=9
  .rw[qf k9,bA];by_cases h2:r.2.1=0
   .rw[cT h2,cE,aJ,qc];dsimp only;rw[aJ];exact⟨_,rfl,fun q=>by cases q⟩
   .rw[bJ h2,gf,aA,di,qc,qc];dsimp only;by_cases h3:r.2.1=5
    .rw[cT h3,cE,aJ];exact⟨_,rfl,fun q=>by cases q⟩
    .rw[bJ h3,gf,aA,heq [] list (by simp),qc];refine⟨_,rfl,fun q=>?_⟩;rw[<-lG q];exact .tc k9 (by omega)
  rw[qg k9];have gO:k=10:=by omega
  by_cases h2:aV V r.1 0>=0
  .rw[qf h2,di,qc,qc];dsimp only;by_cases h3:r.2.1=5
   .rw[cT h3,aA,heq [_] list (by simp),qc];refine⟨_,rfl,fun q=>?_⟩;rw[<-lG q];exact .HK gO h3 h2
   .rw[bJ h3,aJ];exact⟨_,rfl,fun q=>by cases q⟩
  .rw[qg h2,qc];dsimp only;rw[aJ];exact⟨_,rfl,fun q=>by cases q⟩
 .rw[bA,bJ hc,gf,aA];cases list with
  | cons a l=>rw[qg (by simp only[ct];omega)];exact⟨_,rfl,fun q=>by cases q⟩
  | nil=>
   rw[qf (by simp),vC hX];simp only[qm,uI];rw[hkey V,qc];dsimp only;have hno:∀{P:Prop},∃b,qd (some ((false,()),()):Option ((Bool×Unit)×Unit)) (fun b=>some ((b.1.1,()),()))=some ((b,()),())/\(b=true->P):=⟨false,rfl,fun q=>by cases q⟩
   by_cases c1:code=1
   .subst c1;rw[qf rfl];by_cases k1:k=1
    .rw[qf k1,oq (by omega),aA,qc,bA];dsimp only;refine⟨_,rfl,fun q=>?_⟩;exact .xu k1 (by simpa using q)
    .rw[qg k1];exact hno
   rw[qg c1];by_cases c2:code=2
   .subst c2;rw[qf rfl,qc];dsimp only;refine⟨_,rfl,fun q=>?_⟩;by_cases k1:k=1
    .rw[cT k1,bg,bg]at q;exact .xw k1 (by simpa using q)
    .rw[bJ k1,aW]at q;by_cases k2:k=2
     .rw[cT k2,bg]at q;exact .yI k2 (by simpa using q)
     .rw[bJ k2,aW]at q;cases q
   rw[qg c2];by_cases c3:code=3
   .subst c3;rw[cT rfl,bg];by_cases k2:k=2
    .rw[cT k2,bg,bg,aA,oq (by omega),aA,qc];exact⟨_,rfl,fun q=>.yJ k2 (by simpa using q)⟩
    rw[bJ k2,aW];by_cases k3:k=3
    .rw[cT k3,bg,aA,oq (by omega),aA,qc];exact⟨_,rfl,fun q=>.zD k3 (by simpa using q)⟩
    rw[bJ k3,aW];by_cases k4:k=4
    .rw[cT k4,aA,oq (by omega),aA,qc];exact⟨_,rfl,fun q=>.zG k4 (by simpa using q)⟩
    rw[bJ k4,aJ,aA];by_cases h2:aV V r.1 0<0
    .rw[qf h2];by_cases k5:k=5
     .rw[qf k5,qc];exact⟨_,rfl,fun _=>.sO k5 h2⟩
     rw[qg k5];by_cases gO:k=10
     .rw[qf gO,di,qc,qc];exact⟨_,rfl,fun q=>.HL gO (by simpa using q) h2⟩
     .rw[qg gO];exact hno
    .rw[qg h2];exact hno
   rw[bJ c3,aW,aJ,aJ];by_cases c4:code=4
   .subst c4;rw[cT rfl,bg,bg,bg];by_cases k8:k=8
    .rw[qf k8,qc,bA];exact⟨_,rfl,fun q=>.pT k8 (by simpa using q)⟩
    rw[qg k8];by_cases k9:k=9
    .rw[qf k9];by_cases h2:r.2.1=0
     .rw[qf h2,qc];exact⟨_,rfl,fun _=>.ou k9 (.inl h2)⟩
     .rw[qg h2,di,qc,qc];exact⟨_,rfl,fun q=>.ou k9 (.inr (by simpa using q))⟩
    rw[qg k9];by_cases gO:k=10
    .rw[qf gO,di,qc,qc];exact⟨_,rfl,fun q=>.B6 gO (by simpa using q)⟩
    .rw[qg gO];exact hno
   .rw[bJ c4,aW,aJ,aW,aJ,aW,aJ];exact hno
end
def BU(a b:d8):Bool:=bif decide (a.2.2.2.2.1>=0) then decide (a.2.2.2.2.1<b.2.2.1) else false
def iJ(c:d8):Bool:=bif decide (c.2.2.2.2.1>=0) then true else decide (c.2.2.2.1>=0)
def jG(cs:List d8)(i:Nat):List d8:=cs.take i++cs.drop (i+1)
inductive Ord:qp->List d8->Prop
 | nil (r:qp):Ord r []
 | pick {r:qp} {cs:List d8} (i:Nat) (hi:i<cs.length):(∀d∈jG cs i,BU d cs[i]=false)->Out r cs[i].2.1 cs[i].2.2.2.2.2.1.1 cs[i].2.2.2.2.2.1.2.1->
   Ord (gX r cs[i].2.1 cs[i].2.2.2.2.2.1.1) (jG cs i)->Ord r cs
theorem agD{cs:List d8}{i:Nat}{d:d8}(h:d∈jG cs i):d∈cs:=by
 unfold jG at h;rcases bL.1 h with h | h
 .exact List.mem_of_mem_take h
 .exact List.mem_of_mem_drop h
theorem Om{cs:List d8}{i:Nat}(h:i<cs.length):(jG cs i).length+1=cs.length:=by unfold jG;rw[cw,cY,mz];omega
theorem iN:fR mK:=fun k h=>h
theorem N5{n:Nat}(hn:1<=n)(l:List d8)(hl:l.length<=1000000):Tn (DD mK n) l=some ((l,()),()):=by
 obtain⟨n,rfl⟩:∃k,n=k+1:=⟨n-1,by omega⟩
 have hb:=iG;rw[qvm iN];simp only[qlt,qnq];cases l with
 | nil=>simp[rZ,both,iG]
 | cons a l=>rw[qg (by rw[dQ];simp),qf (by simp only[ct]at hl⊢;omega)];rfl
theorem afO{n:Nat}(hn:1<=n)(l:List d8)(hl:l.length<=1000000){i:Nat}(hi:i<l.length):qnn (DD mK n) l (i:Int) ((i+1:Nat):Int)=some ((jG l i,()),()):=by
 obtain⟨n,rfl⟩:∃k,n=k+1:=⟨n-1,by omega⟩
 have:=ahK n l (i:Int) ((i+1:Nat):Int);refine dF this ?_;have e:wg l (i:Int) ((i+1:Nat):Int)=some (jG l i):=by unfold wg;rw[aj ⟨by omega,by omega,by exact_mod_cast hi,by omega⟩,dQ,dQ];rfl
 unfold tM;dsimp only;rw[e];rfl
theorem ahW{n:Nat}(hn:1<=n)(a b:d8):Xr (DD mK n) a b=some ((BU a b,()),()):=by
 obtain⟨n,rfl⟩:∃k,n=k+1:=⟨n-1,by omega⟩
 rw[ad4 iN];rfl
theorem afN{n:Nat}(hn:2<=n)(c x:d8):gl ctx (DD mK n) (aZ.mk 130 [bt.bZ BV c]) [bt.val BV x] Ty.bool=some (BU x c):=by
 obtain⟨n,rfl⟩:∃k,n=k+1:=⟨n-1,by omega⟩
 have e:qvs (DD mK (n+1)) x c=some ((BU x c,()),()):=by rw[q9i iN];simp only[qwa,q4h];rw[ahW (by omega),qc]
 have e2:∀D:Den ctx,gl ctx D (aZ.mk 130 [bt.bZ BV c]) [bt.val BV x] Ty.bool=(qvs D x c).bind fun r=>some r.1.1:=fun D=>by kernel_rfl
 rw[e2,e];rfl
theorem PZ{n:Nat}(hn:1<=n)(c:d8):Ue (DD mK n) c=some ((iJ c,()),()):=by
 obtain⟨n,rfl⟩:∃k,n=k+1:=⟨n-1,by omega⟩
 rw[ad5 iN];rfl
theorem ahO{n:Nat}(hn:2<=n)(x:d8):gl ctx (DD mK n) (aZ.mk 89 []) [bt.val BV x] Ty.bool=some (!iJ x):=by
 obtain⟨n,rfl⟩:∃k,n=k+1:=⟨n-1,by omega⟩
 have e:qwl (DD mK (n+1)) x=some ((!iJ x,()),()):=by rw[ab9 iN];simp only[qxi,q4x];rw[PZ (by omega),qc]
 have e2:∀D:Den ctx,gl ctx D (aZ.mk 89 []) [bt.val BV x] Ty.bool=(qwl D x).bind fun r=>some r.1.1:=fun D=>by kernel_rfl
 rw[e2,e];rfl
theorem NU(N n:Nat)(hN:W+10<=N)(K0:Bool->Option ((Bool×Unit)×Unit))(K1:Option ((Bool×Unit)×Unit)){cs:List d8}(hl:cs.length<=1000)(hop:∀c∈cs,cH c.2.1=true)
  (IH:∀(r:qp)(ds:List d8),aM r->ds.length+1=cs.length->(∀c∈ds,cH c.2.1=true)->∃b,RL (DD mK N) r ds=some ((b,()),())/\(Ord r ds->b=true)) {r:qp} (hr:aM r):∀(c i:Nat),i<=cs.length->cs.length-i<c->
  ∃b:Bool,RG (DD mK N) n K0 K1 c cs cs (cs.length:Int) (i:Int) r=(if b=true then K0 true else K1)/\
   (∀(j:Nat)(hj:j<cs.length),i<=j->(∀d∈jG cs j,BU d cs[j]=false)->Out r cs[j].2.1 cs[j].2.2.2.2.2.1.1 cs[j].2.2.2.2.2.1.2.1->Ord (gX r cs[j].2.1 cs[j].2.2.2.2.2.1.1) (jG cs j)->b=true)
 | 0,i,_,h2=>by omega
 | c+1,i,h0,h2=>by
  have hW:=d7;simp only[RG,qyf];by_cases hi:i<cs.length
  .obtain⟨b,hb,fK⟩:=NU N n hN K0 K1 hl hop IH hr c (i+1) (by omega) (by omega);have hd:List.getD cs (Int.toNat (i:Int)) (0,(0,0,0,()),0,0,0,(0,[],()),())=cs[i]:=by rw[dQ,qv hi]
   have ho:=hop _ (ef hi);rw[qf (by omega),ix hi,aA,N5 (by omega) cs (by omega),qc];dsimp only;rw[qu (by omega),afO (by omega) cs (by omega) hi,qc];dsimp only;rw[hd,acQ iN (by omega) (show(jG cs i).length<=1000000 by have:=Om hi;omega) (f:=fun d=>BU d cs[i]) (fun x _=>afN (by omega) _ x),qc];dsimp only;by_cases ha:(jG cs i).any (fun d=>BU d cs[i])=true
   .rw[ha,aA];refine⟨b,hb,fun j hj hij h1 h3 h4=>?_⟩;by_cases e:i=j
    .subst e;obtain⟨d,rO,vr⟩:=Ez.1 ha;rw[h1 d rO]at vr;cases vr
    .exact fK j hj (by omega) h1 h3 h4
   .rw[Bool.not_eq_true]at ha;rw[ha,aJ];obtain⟨q,hq,JR⟩:=ad6 iN (n:=N) (by omega) hr ho cs[i].2.2.2.2.2.1.1 cs[i].2.2.2.2.2.1.2.1;rw[show(cs[i].2.2.2.2.2.1:fF)=(cs[i].2.2.2.2.2.1.1,cs[i].2.2.2.2.2.1.2.1,()) from rfl,hq,qc];dsimp only;cases q with
    | false=>
     rw[gf,aA];refine⟨b,hb,fun j hj hij h1 h3 h4=>?_⟩;by_cases e:i=j
     .subst e;have:=YA iN (n:=N) (by omega) hr ho h3;rw[hq]at this;simp at this
     .exact fK j hj (by omega) h1 h3 h4
    | true=>
     have hout:=JR rfl;obtain⟨p,hp,Dw⟩:=IH _ (jG cs i) (afk hr ho hout) (Om hi) (fun c hc=>hop c (agD hc));rw[cE,aJ,OH iN (by omega) hr ho hout,qc];dsimp only;rw[show((gX r cs[i].2.1 cs[i].2.2.2.2.2.1.1).1,(gX r cs[i].2.1 cs[i].2.2.2.2.2.1.1).2)=gX r cs[i].2.1 cs[i].2.2.2.2.2.1.1 from rfl,hp,qc];dsimp only;cases p with
     | true=>rw[aA];exact⟨true,by rw[aj rfl],fun _ _ _ _ _ _=>rfl⟩
     | false=>
      rw[aJ];refine⟨b,hb,fun j hj hij h1 h3 h4=>?_⟩;by_cases e:i=j
      .subst e;have:=Dw h4;cases this
      .exact fK j hj (by omega) h1 h3 h4
  .rw[qg (by omega)];exact⟨false,by rw[af (by simp)],fun j hj hij=>by omega⟩
theorem NO:∀(k:Nat){n:Nat},W+12+k<=n->∀{r:qp},aM r->∀(cs:List d8),cs.length=k->k<=1000->(∀c∈cs,cH c.2.1=true)->∃b,RL (DD mK n) r cs=some ((b,()),())/\(Ord r cs->b=true)
 | 0,n,hn,r,hr,cs,hc,_,_=>by
  obtain⟨n,rfl⟩:∃k,n=k+1:=⟨n-1,by omega⟩
  obtain rfl:=jU.1 hc;rw[q6s iN];exact⟨true,rfl,fun _=>rfl⟩
 | k+1,n,hn,r,hr,cs,hc,h7,hop=>by
  have hW:=d7;obtain⟨n,rfl⟩:∃k,n=k+1:=⟨n-1,by omega⟩
  rw[q6s iN];simp only[qyo,qz6,qwk];rw[qg (by omega)];obtain⟨b,hb,fK⟩:=NU n n (by omega) (fun bN=>q15 (DD mK n) n bN) (q16 (DD mK n) n) (cs:=cs) (by omega) hop
   (fun r ds yY hd ho=>NO k (by omega) yY ds (by omega) (by omega) ho) hr n 0 (eU _) (by omega)
  rw[show((0:Nat):Int)=0 from rfl]at hb;rw[hb];refine⟨b,by cases b<;>rfl,fun ho=>?_⟩;cases ho with
  | nil=>simp at hc
  | pick i hi h1 h2 h3=>exact fK i hi (eU _) h1 h2 h3
theorem ag0{D:Den ctx}{n:Nat}{l:List d8}(hl:l.length<=1000000)(h:∀x∈l,gl ctx D (aZ.mk 89 []) [bt.val BV x] Ty.bool=some false)(hn:l.length<n)(K0:Int->Option ((Int×Unit)×Unit))(K1:Option ((Int×Unit)×Unit)) :
  ql D n (aZ.mk 89 []) K0 K1 n l (l.length:Int) 0=K1:=by
 have key:=EH (D:=D) (n:=n) (c:=aZ.mk 89 []) (K0:=K0) (K1:=K1) hl (f:=fun _=>false) h n 0 (eU _) (by omega);exact key.1 (by rw[List.any_eq_false];simp)
theorem agP{n:Nat}(hn:W+30<=n){r:qp}(hr:aM r){cs:List d8}(h7:cs.length<=7)(hop:∀c∈cs,cH c.2.1=true)(hw:∀c∈cs,iJ c=true)(ho:Ord r cs):WE (DD mK n) r cs=some ((true,()),()):=by
 have hW:=d7;obtain⟨n,rfl⟩:∃k,n=k+1:=⟨n-1,by omega⟩
 rw[adC iN];simp only[WH,q7r];rw[Kz iN (by omega) hr,qc];dsimp only;rw[cE,aW,qg (by omega),N5 (by omega) cs (by omega),qc];dsimp only;have e:qh8 (DD mK n) cs (aZ.mk 89 [])=some ((cs,()),()):=by
  obtain⟨n,rfl⟩:∃k,n=k+2:=⟨n-2,by omega⟩
  rw[qtl iN];simp only[qh9,qil];rw[qnc iN];simp only[Th,Ti,qt];rw[ag0 (by omega) (fun x hx=>by rw[ahO (by omega),hw x hx];rfl) (by omega)];simp only[qr];rw[qc];rfl
 rw[e,qc];dsimp only;obtain⟨b,hb,fK⟩:=NO cs.length (n:=n) (by omega) hr cs rfl (by omega) hop;rw[hb,qc,fK ho]
theorem OZ(N n:Nat)(hN:2<=N)(K:List d8->Option ((List d8×Unit)×Unit))(l:List d8)(hl:l.length<=1000)(h1:∀x∈l,x.2.2.2.2.2.1.2.1.length<=1000):∀(c i:Nat),i<=l.length->l.length-i<c->
  R3 (DD mK N) n K c l (l.length:Int) (i:Int) ((l.take i).filter iJ)=K (l.filter iJ)
 | 0,i,_,h2=>by omega
 | c+1,i,h0,h2=>by
  have hb:=iG;simp only[R3,XB];by_cases hi:i<l.length
  .have ih:=OZ N n hN K l hl h1 c (i+1) (by omega) (by omega);have hd:List.getD l (Int.toNat (i:Int)) (0,(0,0,0,()),0,0,0,(0,[],()),())=l[i]:=by rw[dQ,qv hi]
   have hlen:=h1 _ (ef hi);have hf:((l.take i).filter iJ).length<=l.length:=mB (List.length_filter_le ..) (by rw[cY];omega);rw[mw hi,G_]at ih;rw[qf (by omega),ix hi,aA,hd,PZ (by omega),qc,qu (by omega)];dsimp only;cases hw:iJ l[i]
   .rw[aJ];rw[show List.filter iJ [l[i]]=[] by simp[List.filter,hw],gr]at ih;exact ih
   .rw[aA,Im iN (by omega) _ (by omega),qc,qf (by omega)];rw[show List.filter iJ [l[i]]=[l[i]] by simp[List.filter,hw]]at ih;exact ih
  .rw[qg (by omega),show l.take i=l from jf (by omega)]
theorem aio{n:Nat}(hn:W+3<=n){m:aN}(hl:m.2.2.2.1.length<=1000)(h1:∀x∈m.2.2.2.1,x.2.2.2.2.2.1.2.1.length<=1000):Yd (DD mK n) m=some ((m.2.2.2.1.filter iJ,()),()):=by
 obtain⟨n,rfl⟩:∃k,n=k+1:=⟨n-1,by omega⟩
 have hW:=d7;rw[afd iN];simp only[Ye,Ym,WA];have:=OZ n n (by omega) (fun bN=>q69 (DD mK n) n bN) m.2.2.2.1 hl h1 n 0 (eU _) (by omega);exact this
theorem OY{r:qp}:∀(ys:List d8)(xs:List d8)(r:qp),List.Perm xs ys->ys.Pairwise (fun a b=>BU b a=false)->
  (∀(i:Nat)(hi:i<ys.length),Out ((ys.take i).foldl (fun s c=>gX s c.2.1 c.2.2.2.2.2.1.1) r) ys[i].2.1 ys[i].2.2.2.2.2.1.1 ys[i].2.2.2.2.2.1.2.1)->Ord r xs
 | [],xs,r,h,_,_=>by rw[List.perm_nil.1 h];exact .nil r
 | y::ys,xs,r,h,hp,ho=>by
  have hy:y∈xs:=h.symm.subset (bO ..);obtain⟨i,hi,e⟩:=kR.1 hy;have hx:xs=xs.take i++y::xs.drop (i+1):=by rw[<-e,<-Gm hi,oZ]
  have hq:List.Perm (jG xs i) ys:=by
   have h2:List.Perm (y::jG xs i) (y::ys):=by refine List.Perm.trans ?_ h;have h3:List.Perm (xs.take i++y::xs.drop (i+1)) (y::(xs.take i++xs.drop (i+1))):=List.perm_middle;rw[<-hx]at h3;exact h3.symm
   exact(List.perm_cons y).1 h2
  rw[kS]at hp;have h0:=ho 0 (by simp);simp only[Gq,Ak,G3]at h0;refine .pick i hi (fun d hd=>?_) ?_ ?_
  .rw[e];exact hp.1 d (hq.subset hd)
  .rw[e];exact h0
  .rw[e];refine OY (r:=r) ys _ _ hq hp.2 (fun j hj=>?_);have:=ho (j+1) (by simp only[ct];omega);simpa only [List.take_succ_cons,mA,EE] using this
end Go.G
/- FnFound's law: what was told by a drawn schedule is found. No condition. -/
namespace Go.G
set_option linter.unusedVariables false
set_option linter.unusedSimpArgs false
set_option linter.unusedSectionVars false
open Go Go.V Go.Proofs
theorem Nl:∀(a b:List Int),a.Nodup->b.Nodup->(∀x,x∈a↔x∈b)->List.Perm a b
 | [],b,_,_,h=>by
  cases b with
  | nil=>exact .nil
  | cons y b=>exact absurd ((h y).2 (bO ..)) (by simp)
 | x::a,b,ha,hb,h=>by
  have hx:x∈b:=(h x).1 (bO ..);rw[Ab]at ha;refine List.Perm.trans (List.Perm.cons x (Nl a (b.erase x) ha.2 (hb.erase x) (fun y=>?_))) (List.perm_cons_erase hx).symm;rw[hb.mem_erase_iff];constructor
  .intro hy;exact⟨fun e=>ha.1 (e ▸ hy),(h y).1 (cD _ hy)⟩
  .rintro⟨hne,hy⟩;rcases bk.1 ((h y).2 hy) with e | e
   .exact absurd e hne
   .exact e
def idxs(n:Nat):List Int:=(List.range n).map fun i:Nat=>(i:Int)
theorem ag1(l:List d8):(idxs l.length).map (au l)=l:=by
 unfold idxs;rw[xx];apply xA
 .simp
 .intro i h1 h2;simp only[um,List.getElem_range,Function.comp];unfold au;rw[dQ,qv h2]
theorem ag2(n:Nat)(k:Int):k∈idxs n↔0<=k/\k<n:=by
 unfold idxs;rw[eE];constructor
 .rintro⟨i,hi,rfl⟩;rw[se]at hi;omega
 .rintro⟨h1,h2⟩;exact⟨k.toNat,se.2 (by omega),by omega⟩
theorem afn(n:Nat):(idxs n).Nodup:=by unfold idxs;rw[P2,Af];exact(P2.1 List.nodup_range).imp (fun h e=>h (by omega))
theorem agv{m:aN}(I:Inv m):List.Perm (m.2.2.2.1.filter iJ) (m.2.2.2.2.1.map (au m.2.2.2.1)):=by
 have e:m.2.2.2.1.filter iJ=((idxs m.2.2.2.1.length).filter (fun k=>iJ (au m.2.2.2.1 k))).map (au m.2.2.2.1):=by have:=List.filter_map (f:=au m.2.2.2.1) (p:=iJ) (l:=idxs m.2.2.2.1.length);rw[ag1]at this;exact this
 rw[e];refine List.Perm.map _ (Nl _ _ ((afn _).filter _) I.call.nodup (fun k=>?_));rw[A5,ag2];constructor
 .rintro⟨⟨h1,h2⟩,h3⟩;refine I.call.all k h1 h2 ?_;have hf:=(I.call.c k h1 h2).fin;unfold iJ at h3;by_cases q:(au m.2.2.2.1 k).2.2.2.2.1>=0
  .omega
  .rw[bJ q,aW]at h3;exact lG h3
 .intro h;obtain⟨h1,h2,h3⟩:=I.call.f6 k h;refine⟨⟨h1,h2⟩,?_⟩;unfold iJ;rw[cT (show(au m.2.2.2.1 k).2.2.2.1>=0 from h3)];cases decide ((au m.2.2.2.1 k).2.2.2.2.1>=0)<;>rfl
theorem aha{m:aN}(I:Inv m):Ord m.2.2.2.2.2.1 (m.2.2.2.1.filter iJ):=by
 obtain⟨R,_,h2,_⟩:=I.rep;refine OY (r:=m.2.2.2.2.2.1) _ _ _ (agv I) ?_ (fun i hi=>?_)
 .rw[Af];refine I.call.sort.imp_of_mem (fun {a b} ha hb hab=>?_);obtain⟨a1,a2,a3⟩:=I.call.f6 a ha;obtain⟨b1,b2,b3⟩:=I.call.f6 b hb;have ca:=(I.call.c a a1 a2).o6;have cb:=(I.call.c b b1 b2).fin;unfold BU;by_cases q:(au m.2.2.2.1 b).2.2.2.2.1>=0
  .rw[cT q,bg];exact bJ (by omega)
  .rw[bJ q,aW]
 .have hi2:i<m.2.2.2.2.1.length:=by simpa using hi
  have:=(QT h2 i hi2).2;rw[um,<-List.map_take,List.foldl_map];exact this
theorem ae0(a:List Int):q6f (DD mK (W+40)) a=some ((true,()),()):=by
 have hX:fR mK:=iN;have hW:=d7;rw[ac9 hX];simp only[qyr,q7i];rw[ajO hX (by omega),qc];dsimp only;by_cases Jn:(a.length:Int)>1048576
 .rw[qf Jn]
 rw[qg Jn];obtain⟨r,L,who,hr,hL,hw,e1⟩:=Z7 hX (n:=W+39) (by omega) a (by omega);obtain⟨I,ht,_,h1,h2,h3⟩:=aac hr hL hw;rw[e1,qc];dsimp only;rw[aai hX (by omega) hr hL,qc,ahS hX (by omega) hr hL,qc];dsimp only;rw[cT rfl,cE,aW,aJ,ajV hX (by omega) (S9 hr hL) who h1 h2 h3,qc];dsimp only;generalize uZ (fZ r L) who=m at *;have hs:=HC hX I;have hmem:∀x∈m.2.2.2.1,∃k:Int,(0<=k/\k<m.2.2.2.1.length)/\au m.2.2.2.1 k=x:=fun x hx=>by
  obtain⟨i,hi,e⟩:=kR.1 hx;exact⟨(i:Int),⟨by omega,by omega⟩,by unfold au;rw[dQ,qv hi,e]⟩
 rw[aio (by omega) hs.c (fun x hx=>by
  obtain⟨k,hk,rfl⟩:=hmem x hx;have:=(I.call.c k hk.1 hk.2).len;omega),qc]
 dsimp only;by_cases h7:((m.2.2.2.1.filter iJ).length:Int)>7
 .rw[qf h7,afP hX (by omega) I (by omega),qc]
 .rw[qg h7,agP (by omega) I.first (by omega) (fun c hc=>by
   obtain⟨k,hk,rfl⟩:=hmem c (A5.1 hc).1;exact(I.call.c k hk.1 hk.2).op) (fun c hc=>(A5.1 hc).2) (aha I),qc]
end Go.G
namespace Go.Proofs.YtpmimbgkiindbaaGreat
open Go.ChangeShapes Go.WideShapes Go.ChangeAt Go.RowKit Go.V Go.G
theorem mO(os:Os)(started:os.Started)(H:Type)(enc:TypeId×Value->H) :
  ReturnsInHanded {} Tryz.checked os 11 .any (Rows.fnFoundSpec.pre6 enc Tryz.prog Tryz.f11 Rows.fnFoundRow.domain false) (Rows.fnFoundSpec.post enc Tryz.prog Tryz.f11 false true false false):=
 aaI (X:=mK) (tb:=4) started Tryz.func11 (by kernel_rfl)
  (ChangeSpec.witness6 (enc:=enc) (C:=Tryz.checked) false ⟨#[],Tryz.f11.params.map fun t=>((Tryz.prog.info? t).bind (·.zero)).getD .nilIface,[]⟩ 8 (by kernel_rfl) (by kernel_rfl) (by kernel_rfl) (by kernel_rfl))
  ⟨rfl,rfl,trivial⟩ (by kernel_rfl) (by kernel_rfl) (by kernel_rfl) rfl
  (fun ds h=>by
   match ds,h with
   | [d0],_=>exact⟨rfl,rfl,rfl⟩)
  (fun a wa=>⟨W+40,((true,()),()),ae0 a.1,fun h Pr Gs us k=>by
   obtain⟨v,vs,rfl,⟨c,r,rfl⟩,e⟩:=k;obtain rfl:vs=[]:=e;simp only[aq]at r;subst r;rfl⟩)
theorem fnFound_holds:Rows.FnFoundSaid:=
 OpenClaim.holds_of_wide 11 Tryz.f11 rfl rfl rfl rfl rfl rfl rfl ⟨rfl,rfl,rfl,rfl,rfl⟩ rfl rfl rfl rfl rfl (by kernel_rfl) Tryz.func11 (by kernel_rfl)
  (lG (by kernel_rfl)) (by unfold Func.isWrapper;first | (rw[aj (by decide +kernel)];kernel_rfl) | (rw[af (by decide +kernel)];exact⟨rfl,rfl⟩))
  (fun os started H enc _=>mO os started H enc)
#print axioms fnFound_holds
end Go.Proofs.YtpmimbgkiindbaaGreat

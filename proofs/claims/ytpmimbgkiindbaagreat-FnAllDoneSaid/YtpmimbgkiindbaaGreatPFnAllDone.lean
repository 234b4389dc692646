/- FnAllDone holds: behind any drawn schedule, let go on in turn, all get done, no mark is left, and the words are the table. No condition beyond the given statement's. -/
import Derived.Test.YtpmimbgkiindbaaGreatAPFnAllDone3
set_option maxRecDepth 100000
set_option linter.unusedVariables false
set_option linter.unusedSimpArgs false
set_option linter.unusedSectionVars false
open Go.IntKind (wrap)
namespace Go.G
open Go Go.V Go.Proofs
section
variable {X:Ext} (hX:fO X) {n:Nat}
include hX
theorem N9(N n:Nat)(hN:W+2<=N)(hN6:6<=N)(K:Int->j6->List (List cL)->List cL->Option ((List (List cL)×Unit)×j6×Unit))(z:Int)(out:List (List cL)):∀(m i:Nat)(c:j6)(l:List cL),nx c->i<=4->4-i<m->l.length=i->(∀o∈l,dh o=true)->
  ∃(c':j6)(l':List cL),nx c'/\l'.length<=4/\(∀o∈l',dh o=true)/\TX (DD X N) n K m z (i:Int) c out l=K z c' out l'
 | 0,_,_,_,_,_,h,_,_=>by omega
 | m+1,i,c,l,hc,hi,hf,hl,ho=>by
  have hW:=dZ;have hb:=i9;simp only[TX,qu7];obtain⟨x,c1,h1,_,jN,e1⟩:=zQ hX (n:=N) (by omega) hc 4;obtain⟨x0,x1⟩:=h1 (by omega);rw[e1,qc];dsimp only;rw[qs (by omega) (by omega)];by_cases h:(i:Int)<1+x
  .obtain⟨o,c2,g_,LN,e2⟩:=aiP hX (n:=N) (by omega) jN;rw[qf h,e2,qc];dsimp only;rw[qf (by omega),qu (by omega)];exact N9 N n hN hN6 K z out m (i+1) c2 (l++[o]) g_ (by omega) (by omega) (by rw[cV,nL];omega) (fun p hp=>by
    rcases bN.1 hp with q | q
    .exact ho p q
    .rw[d9]at q;rw[q];exact LN)
  .rw[qg h];exact⟨c1,l,jN,by omega,ho,rfl⟩
theorem N8(N n:Nat)(hN:W+2<=N)(hn:W<=n)(K:j6->List (List cL)->Option ((List (List cL)×Unit)×j6×Unit)):∀(m i:Nat)(c:j6)(L:List (List cL)),nx c->i<=3->3-i<m->L.length=i->(∀ops∈L,ops.length<=4/\∀o∈ops,dh o=true)->
  ∃(c':j6)(L':List (List cL)),nx c'/\iG L'/\Dj (DD X N) n K m (i:Int) c L=K c' L'
 | 0,_,_,_,_,_,h,_,_=>by omega
 | m+1,i,c,L,hc,hi,hf,hl,ho=>by
  have hW:=dZ;have hb:=i9;simp only[Dj,qu6];obtain⟨x,c1,h1,_,jN,e1⟩:=zQ hX (n:=N) (by omega) hc 3;obtain⟨x0,x1⟩:=h1 (by omega);rw[e1,qc];dsimp only;rw[qs (by omega) (by omega)];by_cases h:(i:Int)<1+x
  .rw[qf h];simp only[qs4];obtain⟨c2,l,g_,hl4,hlo,e2⟩:=N9 hX N n hN (by omega) (fun bS dV iY jB=>qq2 (DD X N) n (Dj (DD X N) n K m) K bS dV iY jB) (i:Int) L n 0 c1 [] jN (by omega) (by omega) rfl (fun o h=>by simp at h);rw[show((0:Nat):Int)=0 from rfl]at e2;obtain⟨c3,L',rO,hL',e3⟩:=N8 N n hN hn K m (i+1) c2 (L++[l]) g_ (by omega) (by omega) (by rw[cV,nL];omega) (fun p hp=>by
    rcases bN.1 hp with q | q
    .exact ho p q
    .rw[d9]at q;rw[q];exact⟨hl4,hlo⟩)
   refine⟨c3,L',rO,hL',?_⟩;refine dj e2 ?_;simp only[qq2];rw[qf (by omega),qu (by omega)];exact e3
  .rw[qg h];exact⟨c1,L,jN,⟨by omega,ho⟩,rfl⟩
theorem abn(hn:W+3<=n){c:j6}(hc:nx c):∃(L:List (List cL))(c':j6),nx c'/\iG L/\qvw (DD X n) c=some ((L,()),(c',())):=by
 obtain⟨n,rfl⟩:∃k,n=k+1:=⟨n-1,by omega⟩
 have hW:=dZ;rw[afE hX];simp only[qv4,qw0,qs3];obtain⟨c',L,h1,h2,e⟩:=N8 hX n n (by omega) (by omega) (fun bS dV=>q0h (DD X n) n bS dV) n 0 c [] hc (by omega) (by omega) rfl (fun o h=>by simp at h);rw[show((0:Nat):Int)=0 from rfl]at e;exact⟨L,c',h1,h2,e⟩
def uX(L:List (List cL))(who:List Int)(k:Nat):Prop:=who.length<=k/\∀t∈who,0<=t/\t<L.length
theorem Oz(N n:Nat)(hN:W+2<=N)(K:Int->Int->qp->qp->List (List cL)->List Int->j6->Option ((qp×List (List cL)×List Int×Unit)×Unit))(a b t:Int)(r s:qp)(L:List (List cL))(ht:0<=t/\t<L.length)(k:Nat)(hk:k<=1000):∀(m i:Nat)(c:j6)(who:List Int),nx c->i<=6->6-i<m->uX L who (k+i)->
  ∃(c':j6)(zj:List Int),nx c'/\uX L zj (k+6)/\TF (DD X N) n K m a b t (i:Int) r s L who c=K a b r s L zj c'
 | 0,_,_,_,_,_,h,_=>by omega
 | m+1,i,c,who,hc,hi,hf,hw=>by
  have hW:=dZ;have hb:=i9;simp only[TF,qpa];obtain⟨x,c1,h1,_,jN,e1⟩:=zQ hX (n:=N) (by omega) hc 6;obtain⟨x0,x1⟩:=h1 (by omega);rw[e1,qc];dsimp only;rw[qs (by omega) (by omega)];have hwl:=hw.1;by_cases h:(i:Int)<1+x
  .rw[qf h,qf (by omega),qu (by omega)];exact Oz N n hN K a b t r s L ht k hk m (i+1) c1 (who++[t]) jN (by omega) (by omega) ⟨by rw[cV,nL];omega,fun u hu=>by
    rcases bN.1 hu with q | q
    .exact hw.2 u q
    .rw[d9]at q;rw[q];exact ht⟩
  .rw[qg h];exact⟨c1,who,jN,⟨by omega,hw.2⟩,rfl⟩
theorem Oy(N n:Nat)(hN:W+2<=N)(hn:W<=n)(K:qp->qp->List (List cL)->List Int->Option ((qp×List (List cL)×List Int×Unit)×Unit))(a:Int)(ha:a<=120)(r s:qp)(L:List (List cL))(hL:0<L.length/\L.length<=3):∀(m i:Nat)(c:j6)(who:List Int),nx c->i<=120->120-i<m->uX L who (6 * i)->
  ∃(zj:List Int),uX L zj 720/\Di (DD X N) n K m a (i:Int) r s L who c=K r s L zj
 | 0,_,_,_,_,_,h,_=>by omega
 | m+1,i,c,who,hc,hi,hf,hw=>by
  have hW:=dZ;simp only[Di,qo9];by_cases h:(i:Int)<a
  .obtain⟨x,c1,h1,_,jN,e1⟩:=zQ hX (n:=N) (by omega) hc (L.length:Int);have hx:=h1 (by omega);rw[qf h,e1,qc];dsimp only;simp only[qn4];obtain⟨c2,al6,g_,hw2,e2⟩:=Oz hX N n hN (fun bS dV iY jB zi al4 al5=>qm1 (DD X N) n (Di (DD X N) n K m) K bS dV iY jB zi al4 al5) a (i:Int) x r s L hx (6 * i) (by omega) n 0 c1 who jN (by omega) (by omega) hw;rw[show((0:Nat):Int)=0 from rfl]at e2;obtain⟨al7,hw3,e3⟩:=Oy N n hN hn K a ha r s L hL m (i+1) c2 al6 g_ (by omega) (by omega) ⟨by have:=hw2.1;omega,hw2.2⟩;refine⟨al7,hw3,dj e2 ?_⟩;simp only[qm1];rw[qu (by omega)];exact e3
  .rw[qg h];exact⟨who,⟨by have:=hw.1;omega,hw.2⟩,rfl⟩
theorem abb(hn:W+4<=n)(a:List Int)(ha:a.length<=1048576):∃(r:qp)(L:List (List cL))(who:List Int),aS r/\iG L/\uX L who 720/\qqb (DD X n) a=some ((r,L,who,()),()):=by
 obtain⟨n,rfl⟩:∃k,n=k+1:=⟨n-1,by omega⟩
 have hW:=dZ;rw[aea hX];simp only[qqh,qqy,qn3];obtain⟨c,hc,e1⟩:=aj2 hX (n:=n) (by omega) a ha;obtain⟨r,c1,hr,_,jN,e2⟩:=aik hX (n:=n) (by omega) hc;obtain⟨L,c2,g_,hL,e3⟩:=abn hX (n:=n) (by omega) jN;rw[e1,qc,e2,qc];dsimp only;rw[e3,qc];dsimp only;have LH:∃k:Int,60<=k/\k<=120/\q4q (DD X n) a 60 120=some ((k,()),()):=by
  obtain⟨n,rfl⟩:∃k,n=k+1:=⟨n-1,by omega⟩
  rw[aid hX];simp only[q47,PW];have ht:Int.tdiv (a.length:Int) 4=(a.length:Int) / 4:=Int.tdiv_eq_ediv_of_nonneg (by omega);rw[ht,qs (show -9223372036854775808<=(a.length:Int) / 4 by omega) (by omega),qs (by omega) (by omega)];by_cases h:60+(a.length:Int) / 4>120
  .rw[qf h];exact⟨120,by omega,by omega,rfl⟩
  .rw[qg h];exact⟨_,by omega,by omega,rfl⟩
 obtain⟨k,hk0,Vb,e4⟩:=LH;obtain⟨x,c3,h1,_,rO,e5⟩:=zQ hX (n:=n) (by omega) g_ k;have hx:=h1 (by omega);rw[e4,qc];dsimp only;rw[e5,qc];dsimp only;obtain⟨who,hw,e6⟩:=Oy hX n n (by omega) (by omega) (fun bS dV iY jB=>qvj (DD X n) n bS dV iY jB) x (by omega) ([],0,()) r L (by have:=hL.n;omega) n 0 c3 [] rO (by omega) (by omega) ⟨by simp,fun t h=>by simp at h⟩;rw[show((0:Nat):Int)=0 from rfl]at e6;exact⟨r,L,who,hr,hL,hw,e6⟩
theorem acr(hn:1<=n):q4o (DD X n) dD=some ((true,()),()):=by
 obtain⟨n,rfl⟩:∃k,n=k+1:=⟨n-1,by omega⟩
 rw[aiJ hX];simp only[Z_,q5s];rw[qf (show dD.1=0 from rfl)];simp[dD]
theorem Rd(N n:Nat)(hN:1<=N)(K0:Bool->aU->Option ((Bool×Unit)×Unit))(K1:aU->Option ((Bool×Unit)×Unit))(w:List lK)(k:Nat)(hk:k<=3):∀(c i:Nat),i<=k->k-i<c->
  Ur (DD X N) n K0 K1 c (i:Int) (w,List.replicate k dD,())=K1 (w,List.replicate k dD,())
 | 0,i,_,h=>by omega
 | c+1,i,h1,h2=>by
  simp only[Ur,q5y,ot];by_cases hi:i<k
  .have e:(List.replicate k dD).getD i (0,0,[],(0,[],()),())=dD:=by rw[qv (by simpa using hi),List.getElem_replicate]
   rw[qf (by omega),show(decide (0<=(i:Int))&&decide ((i:Int)<(k:Int)))=true by simp;omega,aG,d5,e,acr hX hN,qc];dsimp only;rw[cK,aM,qu (by omega)];exact Rd N n hN K0 K1 w k hk c (i+1) (by omega) (by omega)
  .rw[qg (by omega)]
theorem Re(N n:Nat)(hN:2<=N)(K0:Bool->Option ((Bool×Unit)×Unit))(K1:Option ((Bool×Unit)×Unit))(m:aU)(hl:m.1.length<=1000)(hw:∀x∈m.1,UT x):∀(c i:Nat),i<=m.1.length->m.1.length-i<c->
  Us (DD X N) n K0 K1 c (i:Int) m=K1
 | 0,i,_,h=>by omega
 | c+1,i,h1,h2=>by
  simp only[Us,q5z];by_cases hi:i<m.1.length
  .have hx:=hw _ (d_ hi);obtain⟨N,rfl⟩:∃k,N=k+1:=⟨N-1,by omega⟩
   rw[qf (by omega),ix hi,aG,d5,qv hi,aib hX];simp only[q45,PU];rw[qf hx.1,qf hx.2.1,yU hX (by omega),qc,qc];dsimp only;rw[jT hx.2.2,cK,aM,qg (by have:=hx.1;omega),qu (by omega)];exact Re (N+1) n hN K0 K1 m hl hw c (i+1) (by omega) (by omega)
  .rw[qg (by omega)]
theorem RM(hn:W+3<=n)(w:List lK)(hw:∀x∈w,UT x)(hl:w.length=20)(k:Nat)(h1:1<=k)(hk:k<=3):Uv (DD X n) (w,List.replicate k dD,())=some ((true,()),()):=by
 obtain⟨n,rfl⟩:∃k,n=k+1:=⟨n-1,by omega⟩
 have hW:=dZ;rw[ai0 hX];simp only[q8e,q9x,ZL];rw[show((w.length:Int) != 20)=false by rw[bL,bG (by omega)];rfl,aM,yU hX (by omega),qc];dsimp only;rw[ot,jT ⟨by omega,by omega⟩,cK,aM];refine dj (Rd hX n n (by omega) _ _ w k hk n 0 (e7 _) (by omega)) ?_;simp only[qzn,ZM];refine dj (Re hX n n (by omega) _ _ _ (by dsimp only;omega) hw n 0 (e7 _) (by dsimp only;omega)) ?_;rfl
theorem Sh(N n:Nat)(hN:4<=N)(K0:Int->Bool->cN->Option ((Bool×Unit)×Unit))(K1:Int->cN->Option ((Bool×Unit)×Unit))(z:Int)(x:cN)(hl:x.1.length<=1000)(ho:∀o∈x.1,dh o=true):∀(c i:Nat),i<=x.1.length->x.1.length-i<c->
  T6 (DD X N) n K0 K1 c z (i:Int) x=K1 z x
 | 0,i,_,h=>by omega
 | c+1,i,h1,h2=>by
  simp only[T6,qwu];by_cases hi:i<x.1.length
  .have hx:=ho _ (d_ hi);have hop:Vw (DD X N) x.1[i]=some ((true,()),()):=by have:=abc hX (n:=N) (by omega) x.1[i].1 x.1[i].2.1 x.1[i].2.2.1;rw[show(x.1[i].1,x.1[i].2.1,x.1[i].2.2.1,())=x.1[i] from rfl,hx]at this;exact this
   rw[qf (by omega),ix hi,aG,d5,qv hi,hop,qc];dsimp only;rw[cK,aM,qu (by omega)];exact Sh N n hN K0 K1 z x hl ho c (i+1) (by omega) (by omega)
  .rw[qg (by omega)]
theorem ajC(hn:W+5<=n)(ops:List cL)(hl:ops.length<=4)(ho:∀o∈ops,dh o=true)(k:Int):qxr (DD X n) (ops,0,false,[],[],()) k=some ((true,()),()):=by
 obtain⟨n,rfl⟩:∃k,n=k+1:=⟨n-1,by omega⟩
 have hW:=dZ;obtain⟨p,hp⟩:∃p,n=p+1:=⟨n-1,by omega⟩
 rw[af_ hX];simp only[qx0,qzp,qux];rw[qg (by omega),yU hX (by omega),qc];dsimp only;rw[jT ⟨by omega,by omega⟩];simp only[cK,bg,aM,iP,aG,gB];rw[b_ (show ¬ wrap .i64 (((0:Nat):Int)+((0:Nat):Int))>0 by decide),b_ (show ¬ ((0:Nat):Int)>12 by decide),b_ (show ¬ ((0:Nat):Int)>2 by decide),bg,bg,aM];refine dj (Sh hX n n (by omega) _ _ k (ops,0,false,[],[],()) (by dsimp only;omega) ho n 0 (e7 _) (by dsimp only;omega)) ?_;simp only[qs0,quy];rw[hp];simp only[Wo,qwv,gB];rw[qg (by decide)];simp only[qs1,quz];simp only[Wp,qww,gB];rw[qg (by decide)];rfl
theorem aaO(hn:3<=n){m:aH}(hc:m.2.2.2.1=[]){t:Int}(t0:0<=t)(t1:t<m.2.1.length)(hp:(ai m t).2.1=0)(ho:(ai m t).2.2.1=false):qxt (DD X n) m t=some ((true,()),()):=by
 obtain⟨n,rfl⟩:∃k,n=k+2:=⟨n-2,by omega⟩
 obtain⟨p,X6⟩:∃p,n=p+1:=⟨n-1,by omega⟩
 have hx:m.2.1.getD t.toNat ([],0,false,[],[],())=ai m t:=rfl;have aZ:q4s (DD X (n+1)) m t=some ((-1,()),()):=by rw[aif hX];simp only[q49,q53,qzz];rw[hc,X6];simp only[WA,Z5,gB];rw[qg (by rw[qs (by decide) (by decide)];decide)];rfl
 rw[aga hX];simp only[qx1,qz0,qu8];rw[fP t0 t1,aG,aZ,qc,hx];dsimp only;simp only[Wr,qw2];rw[hc,qg (by simp)];simp only[q4e];rw[hp,ho];rfl
theorem Rc(N n:Nat)(hN:W+5<=N)(K0:Bool->Option ((Bool×Unit)×Unit))(K1:Option ((Bool×Unit)×Unit)){r:qp}{L:List (List cL)}(hL:iG L):∀(c i:Nat),i<=L.length->L.length-i<c->
  TW (DD X N) n K0 K1 c (i:Int) (dY r L)=K1
 | 0,i,_,h=>by omega
 | c+1,i,h1,h2=>by
  have vS:=hL.n;have j_:(dY r L).2.1.length=L.length:=by unfold dY;simp
  simp only[TW,quw,j_];by_cases hi:i<L.length
  .have hx:=hL.ops _ (d_ hi);have e:ai (dY r L) (i:Int)=(L[i],0,false,[],[],()):=by unfold ai dY;dsimp only;rw[d5,qv (by simpa using hi),yw]
   have e2:(dY r L).2.1.getD i ([],0,false,[],[],())=(L[i],0,false,[],[],()):=by unfold ai at e;rw[d5]at e;exact e
   rw[qf (by omega),fP (by omega) (by omega),aG,d5,e2,ajC hX (by omega) _ hx.1 hx.2,qc];dsimp only;rw[cK,aM,aaO hX (by omega) rfl (by omega) (by rw[j_];omega) (by rw[e]) (by rw[e]),qc];dsimp only;rw[cK,aM,qu (by omega)];exact Rc N n hN K0 K1 hL c (i+1) (by omega) (by omega)
  .rw[qg (by omega)]
theorem ajB(hn:W+6<=n){r:qp}(hr:aS r){L:List (List cL)}(hL:iG L):qvv (DD X n) (dY r L)=some ((true,()),()):=by
 obtain⟨n,rfl⟩:∃k,n=k+2:=⟨n-2,by omega⟩
 obtain⟨p,X6⟩:∃p,n=p+1:=⟨n-1,by omega⟩
 have hW:=dZ;have vS:=hL.n;have j_:(dY r L).2.1.length=L.length:=by unfold dY;simp
 have mu:(dY r L).1.2.1.length=L.length:=by unfold dY;simp
 have Eg:Zf (DD X (n+1)) (dY r L)=some ((true,()),()):=by rw[ahT hX];simp only[ZE,Z3,qwy];rw[X6];simp only[Wt,qzx];rw[qg (by simp[dY])];simp only[qu4,qwz,Kt,qzy];rw[qg (by simp[dY])];simp[q61,dY]
 rw[afB hX];simp only[qv1,qwp,qsv];have hm:=RM hX (n:=n+1) (by omega) ((m5 r).map fun v=>((v,0,0,()):lK)) (fun x hx=>by
  obtain⟨v,hv,rfl⟩:=eI.1 hx;unfold m5 at hv;obtain⟨q,hq,rfl⟩:=eI.1 hv;have:=B_ hr (q:Int) (by have:=yz.1 hq;omega);exact⟨rfl,rfl,this.1,by dsimp only;omega⟩) (by rw[jD,rU]) L.length vS.1 vS.2
 refine dj (eg (fun z=>qd z _) hm) ?_;rw[qc];dsimp only;rw[cK,bg,mu,j_,show((L.length:Int) != (L.length:Int))=false by simp,aM,yU hX (by omega),qc];dsimp only;rw[show(dY r L).2.2.1=0 from rfl,jT ⟨by decide,by decide⟩,cK,aM,show(dY r L).2.2.2.2.2.1=r from rfl,P9 hX (by omega) hr,qc];dsimp only;rw[cK,aM,Eg,qc];dsimp only;rw[cK,aM];refine dj (Rc hX (n+1) (n+1) (by omega) _ _ hL (n+1) 0 (e7 _) (by omega)) ?_;rfl
theorem Qg(D:Den ctx)(n:Nat)(K:Int->aU->aU->Option ((aU×Bool×Unit)×Unit))(a:Int)(ws:List Int)(hl:ws.length<=1000)(z:aU)(d:List ny×Unit):∀(c i:Nat),i<=ws.length->ws.length-i<c->
  Ue D n K c a (i:Int) z ((ws.take i).map (fun v=>((v,0,0,()):lK)),d) ws=K a z (ws.map (fun v=>((v,0,0,()):lK)),d)
 | 0,i,_,h2=>by omega
 | c+1,i,h0,h2=>by
  have hb:=i9;simp only[Ue,ZK];by_cases hi:i<ws.length
  .have ih:=Qg D n K a ws hl z d c (i+1) (by omega) (by omega);rw[qf (by omega),ix hi,aG,d5,qv hi,qu (by omega)];rw[qf (by rw[jD,eH];omega)];rw[mR hi,pI]at ih;exact ih
  .rw[qg (by omega),show ws.take i=ws from jX (by omega)]
theorem PT(N n:Nat)(hN:1<=N)(K:Bool->aH->aH->Option ((aH×Bool×Unit)×Unit))(L:List (List cL))(hl:L.length<=1000)(h1:∀ops∈L,ops.length<=1000)(b:Bool)(z:aH)(a:aU)(e:Int×List gi×List Int×qp×Unit):∀(c i:Nat),i<=L.length->L.length-i<c->
  TS (DD X N) n K c L b (i:Int) z (a,(L.take i).map (fun ops=>((ops,0,false,[],[],()):cN)),e)=K b z (a,L.map (fun ops=>((ops,0,false,[],[],()):cN)),e)
 | 0,i,_,h2=>by omega
 | c+1,i,h0,h2=>by
  have hb:=i9;simp only[TS,qsu];by_cases hi:i<L.length
  .have ih:=PT N n hN K L hl h1 b z a e c (i+1) (by omega) (by omega);have hd:=h1 _ (d_ hi);obtain⟨N,rfl⟩:∃k,N=k+1:=⟨N-1,by omega⟩
   rw[qf (by omega),ix hi,aG,d5,qv hi,qu (by omega),afC hX];simp only[qv2,q91];rw[qf (by omega),qc];dsimp only;rw[qf (by rw[jD,eH];omega)];rw[mR hi,pI]at ih;exact ih
  .rw[qg (by omega),show L.take i=L from jX (by omega)]
theorem aiR(hn:W+8<=n){r:qp}(hr:aS r){L:List (List cL)}(hL:iG L):qtw (DD X n) r L=some ((dY r L,true,()),()):=by
 obtain⟨n,rfl⟩:∃k,n=k+2:=⟨n-2,by omega⟩
 have hW:=dZ;have hb:=i9;have vS:=hL.n;have hrl:=hr.len;have hmem:q4p (DD X (n+1)) r (L.length:Int)=some (((dY r L).1,true,()),()):=by
  rw[aiK hX];simp only[q43,q5v,qzk];obtain⟨ws,w1,w2,w3⟩:=acL hX (n:=n) (by omega) hr;have qF:ws=m5 r:=Q8 w1 (rU r) (fun p hp=>by rw[w2 p hp,uH r hp];rfl);rw[w3,qc,qF];dsimp only;refine dj (Qg hX (DD X n) n _ (L.length:Int) (m5 r) (by rw[rU];omega) ([],[],()) ([],()) n 0 (e7 _) (by rw[rU];omega)) ?_;simp only[q9w];rw[yU hX (by omega),qc];dsimp only;rw[jT ⟨by omega,by omega⟩,aG,show(decide (0<=(L.length:Int))&&decide ((L.length:Int)<=(L.length:Int))&&decide ((L.length:Int)<=(f_:Int)))=true by simp;omega,aG];have hm:=RM hX (n:=n) (by omega) ((m5 r).map fun v=>((v,0,0,()):lK)) (fun x hx=>by
   obtain⟨v,hv,rfl⟩:=eI.1 hx;unfold m5 at hv;obtain⟨q,hq,rfl⟩:=eI.1 hv;have:=B_ hr (q:Int) (by have:=yz.1 hq;omega);exact⟨rfl,rfl,this.1,by dsimp only;omega⟩) (by rw[jD,rU]) L.length vS.1 vS.2
  rw[d5];refine dj (eg (fun z=>qd z _) hm) ?_;rw[qc];dsimp only;rw[cK,aM];rfl
 have Lr:q4r (DD X (n+1)) r=some ((r,()),()):=by rw[aie hX];simp only[q48,PX];rw[qf (by omega)];rfl
 rw[afd hX];simp only[qua,quu,qqz];rw[hmem,qc,Lr,qc];dsimp only;refine dj (PT hX (n+1) (n+1) (by omega) _ L (by omega) (fun ops h=>by have:=(hL.ops ops h).1;omega) true (([],[],()),[],0,[],[],([],0,()),()) (dY r L).1 (0,[],[],r,()) (n+1) 0 (e7 _) (by omega)) ?_;simp only[qzj];have hm:=ajB hX (n:=n+1) (by omega) hr hL;rw[cK,aM];refine dj (eg (fun z=>qd z _) hm) ?_;rw[qc];dsimp only;rw[cK,aM];rfl
end
def rz(l:List gi)(r:qp)(ks:List Int):qp:=ks.foldl (fun s k=>jh s (ay l k).2.1 (ay l k).2.2.2.2.2.1.1) r
theorem R7(l:List gi)(r:qp)(ks:List Int)(k:Int):rz l r (ks++[k])=jh (rz l r ks) (ay l k).2.1 (ay l k).2.2.2.2.2.1.1:=by unfold rz;rw[List.foldl_append];rfl
theorem Ok{l:List gi}{r:qp}{ks:List Int}{s:qp}(h:iH l r ks s):s=rz l r ks:=by
 induction h with
 | nil=>rfl
 | snoc h1 h2 h3 ih=>rw[R7,<-ih]
theorem akI{l:List gi}{r:qp}{ks:List Int}{s:qp}(h:iH l r ks s):∀(i:Nat)(hi:i<ks.length),aS (rz l r (ks.take i))/\Out (rz l r (ks.take i)) (ay l ks[i]).2.1 (ay l ks[i]).2.2.2.2.2.1.1 (ay l ks[i]).2.2.2.2.2.1.2.1:=by
 induction h with
 | nil=>intro i hi;simp at hi
 | @snoc s ks k h1 h2 h3 ih=>
  intro i hi;by_cases e:i<ks.length
  .have:=ih i e;rw[pz (by omega),List.getElem_append_left e];exact this
  .have:i=ks.length:=by rw[cV,nL]at hi;omega
   subst this;have e2:=Ok h1;rw[pz (ct _),AO,<-e2,List.getElem_append_right (ct _)];simp only[Nat.sub_self,N3];exact⟨h2,h3⟩
section
variable {X:Ext} (hX:fO X) {n:Nat}
include hX
theorem abw(hn:W+2<=n){m:aU}{k:Nat}{time:Int}{own:Int->Prop}(I:eY m k time own)(hk:k<=3){p:Int}(p0:0<=p)(p1:p<20):Y7 (DD X n) m.1 m.2.1 p=some ((fY m p,()),()):=by
 obtain⟨n,rfl⟩:∃k,n=k+1:=⟨n-1,by omega⟩
 have hW:=dZ;have hlen:=I.len;have mu:=I.dw;have mH:m.1.getD p.toNat (0,0,0,())=wd m p:=rfl;rw[ahH hX];simp only[Y3,Pj];rw[qs (by omega) (by omega),lI hX (by omega),qc];dsimp only;rw[jT ⟨p0,by omega⟩,cK,aM,fP p0 (by omega),aG,mH];rcases I.word p p0 p1 with h | ⟨u,u0,u1,uo,e,j,j0,j1,je⟩
 .rw[qf h.1,vk h.1]
 .have amc:=(I.dy u u0 u1).len;have e2:(wd m p).2.1=u+1:=by rw[e];rfl
  have e3:(wd m p).2.2.1=(aq m u).1:=by rw[e];rfl
  have e1:wrap .i64 ((wd m p).2.1-1)=u:=by rw[qs (by omega) (by omega)];omega
  have Ah:m.2.1.getD u.toNat (0,0,[],(0,[],()),())=aq m u:=rfl;rw[qg (by omega),lI hX (by omega),qc];dsimp only;rw[jT ⟨by omega,by omega⟩,cK,aM,e1,fP u0 (by omega),aG,Ah,RH hX (by omega) _ (by omega),qc];dsimp only;rw[bG e3.symm,bA,zT u0 e];by_cases h2:(aq m u).2.1=2
  .rw[qf h2,ak h2]
  .rw[qg h2,af h2]
theorem RX(N n:Nat)(hN:W+2<=N)(K:List Int->Option ((List Int×Unit)×Unit)){m:aU}{k:Nat}{time:Int}{own:Int->Prop}(I:eY m k time own)(hk:k<=3){R:qp}(hv:∀p:Int,0<=p->p<20->fY m p=cg R p):∀(c i:Nat),i<=20->20-i<c->
  T4 (DD X N) n K c m.1 m.2.1 20 (i:Int) ((m5 R).take i)=K (m5 R)
 | 0,i,_,h2=>by omega
 | c+1,i,h0,h2=>by
  have hb:=i9;have hl:=rU R;simp only[T4,qyo];by_cases hi:i<20
  .have ih:=RX N n hN K I hk hv c (i+1) (by omega) (by omega);have hi2:i<(m5 R).length:=by omega
   rw[qf (by omega),abw hX (by omega) I hk (by omega) (by omega),qc];dsimp only;rw[qf (by rw[eH];omega),qu (by omega),hv _ (by omega) (by omega)];rw[mR hi2]at ih;have:=uH R hi;rw[qv hi2]at this;rw[<-this];exact ih
  .rw[qg (by omega),show(m5 R).take i=m5 R from jX (by omega)]
theorem NZ(hn:W+3<=n){m:aU}{k:Nat}{time:Int}{own:Int->Prop}(I:eY m k time own)(hk:k<=3){R:qp}(hv:∀p:Int,0<=p->p<20->fY m p=cg R p):Vv (DD X n) m.1 m.2.1=some ((m5 R,()),()):=by
 obtain⟨n,rfl⟩:∃k,n=k+1:=⟨n-1,by omega⟩
 have hW:=dZ;have hlen:=I.len;rw[ahE hX];simp only[Y0,Zn,qwc];rw[hlen];exact RX hX n n (by omega) _ I hk hv n 0 (by omega) (by omega)
theorem MT(N n:Nat)(hN:W+7<=N)(K:Bool->qp->qp->Option ((qp×Bool×Unit)×Unit)){m:aH}(I:Inv m)(hl:m.2.2.2.2.1.length<=1000){R:qp}(hR:iH m.2.2.2.1 m.2.2.2.2.2.1 m.2.2.2.2.1 R)(z:qp):∀(c i:Nat),i<=m.2.2.2.2.1.length->m.2.2.2.2.1.length-i<c->
  Ui (DD X N) n K c true m.2.2.2.2.1 (m.2.2.2.2.1.length:Int) (i:Int) m z (rz m.2.2.2.1 m.2.2.2.2.2.1 (m.2.2.2.2.1.take i))=K true z R
 | 0,i,_,h2=>by omega
 | c+1,i,h0,h2=>by
  simp only[Ui,ZS];by_cases hi:i<m.2.2.2.2.1.length
  .have ih:=MT N n hN K I hl hR z c (i+1) (by omega) (by omega);have hk:=I.call.gM _ (d_ hi);have hop:=(I.call.c _ hk.1 hk.2.1).op;obtain⟨r1,r2⟩:=akI hR i hi;have hd:List.getD m.2.2.2.1 (Int.toNat m.2.2.2.2.1[i]) (0,(0,0,0,()),0,0,0,(0,[],()),())=ay m.2.2.2.1 m.2.2.2.2.1[i]:=rfl;rw[qf (by omega),ix hi,aG,d5,qv hi,fP hk.1 hk.2.1,aG,aG,hd];generalize hs:rz m.2.2.2.1 m.2.2.2.2.2.1 (m.2.2.2.2.1.take i)=s at *;have ha:=RG hX (n:=N) (by omega) r1 hop r2;have hf:=aj0 hX (n:=N) (by omega) r1 hop r2;rw[show((s.1,s.2):qp)=s from rfl];refine dj (eg (fun z=>qd z _) ha) ?_;rw[qc];refine dj (eg (fun z=>qd z _) hf) ?_;rw[qc];dsimp only;rw[qu (by omega)];rw[mR hi,R7,hs]at ih;exact ih
  .rw[qg (by omega),show m.2.2.2.2.1.take i=m.2.2.2.2.1 from jX (by omega),<-Ok hR]
theorem SF(hn:W+11<=n){m:aH}(I:Inv m)(ht:m.2.2.1<=100000){R:qp}(hR:iH m.2.2.2.1 m.2.2.2.2.2.1 m.2.2.2.2.1 R):WC (DD X n) m=some ((R,true,()),()):=by
 obtain⟨n,rfl⟩:∃k,n=k+1:=⟨n-1,by omega⟩
 have hW:=dZ;have Aq:=(Jl hX I).o;rw[aiD hX];simp only[q4x,q5m,qyr];rw[Dx hX (by omega) I ht,qc];dsimp only;rw[cK,aM,VD hX (by omega) I.first,qc];dsimp only;exact MT hX n n (by omega) _ I Aq hR ([],0,()) n 0 (e7 _) (by omega)
theorem abo(hn:W+12<=n){m:aH}(I:Inv m)(ht:m.2.2.1<=100000):Y6 (DD X n) m=some ((true,()),()):=by
 obtain⟨n,rfl⟩:∃k,n=k+1:=⟨n-1,by omega⟩
 obtain⟨R,_,h2,_⟩:=I.rep;rw[ahD hX];simp only[YZ,Pa];rw[SF hX (by omega) I ht h2,qc]
theorem ajA(hn:W+12<=n){m:aH}(I:Inv m)(ht:m.2.2.1<=100000):qtu (DD X n) m=some ((true,()),()):=by
 obtain⟨n,rfl⟩:∃k,n=k+1:=⟨n-1,by omega⟩
 obtain⟨R,h1,h2,h3⟩:=I.rep;have Vf:=I.n;rw[ae5 hX];simp only[qt3,q6f];rw[SF hX (by omega) I ht h2,qc,Dx hX (by omega) I ht,qc];dsimp only;rw[aG,NZ hX (by omega) I.mem (by omega) h3,qc];dsimp only;rw[show((R.1,R.2):qp)=R from rfl,BZ hX (by omega) h1,qc];dsimp only;rw[Fx hX (by omega) _ (by rw[rU];omega),qc]
theorem M5(N n:Nat)(hN:1<=N)(K0:Bool->List gi->Int->Int->aH->Option ((Bool×Unit)×Unit))(K1:List gi->Int->Int->aH->Option ((Bool×Unit)×Unit))(l:List gi)(a b:Int)(d:List gi)(hd:d.length<=1000)(m:aH)(x:gi)
  (h:∀y∈d,y.1=x.1->0<=y.2.2.2.2.1/\y.2.2.2.2.1<x.2.2.1):∀(c i:Nat),i<=d.length->d.length-i<c->
  TQ (DD X N) n K0 K1 c l a b d (d.length:Int) (i:Int) m x=K1 l a b m
 | 0,i,_,h2=>by omega
 | c+1,i,h0,h2=>by
  simp only[TQ,qsa];by_cases hi:i<d.length
  .have ih:=M5 N n hN K0 K1 l a b d hd m x h c (i+1) (by omega) (by omega);have hy:=h _ (d_ hi);rw[qf (by omega),ix hi,aG,d5,qv hi,qu (by omega)];by_cases e:d[i].1=x.1
   .obtain⟨y0,y1⟩:=hy e;obtain⟨N,rfl⟩:∃k,N=k+1:=⟨N-1,by omega⟩
    rw[qf e,ajm hX];simp only[q71,Qa];rw[qc];dsimp only;rw[bG (show d[i].2.2.2.2.1>=0 from y0),bA,bG y1,cK,aM];exact ih
   .rw[qg e];exact ih
  .rw[qg (by omega)]
theorem M4(N n:Nat)(hN:1<=N)(XW:W<=n)(K0:Bool->Option ((Bool×Unit)×Unit))(K1:Option ((Bool×Unit)×Unit)){m:aH}(I:Inv m)(hl:m.2.2.2.1.length<=1000):∀(c i:Nat),i<=m.2.2.2.1.length->m.2.2.2.1.length-i<c->
  I4 (DD X N) n K0 K1 c m.2.2.2.1 (m.2.2.2.1.length:Int) (i:Int) m=K1
 | 0,i,_,h2=>by omega
 | c+1,i,h0,h2=>by
  have hW:=dZ;simp only[I4,qr9];by_cases hi:i<m.2.2.2.1.length
  .have ih:=M4 N n hN XW K0 K1 I hl c (i+1) (by omega) (by omega);have C:=I.call.c (i:Int) (by omega) (by omega);have hd:m.2.2.2.1.getD i (0,(0,0,0,()),0,0,0,(0,[],()),())=ay m.2.2.2.1 (i:Int):=by rw[tF];rfl
   have kO:=C.fin;rw[qf (by omega),ix hi,aG,d5,hd];have e:(bif decide ((ay m.2.2.2.1 (i:Int)).2.2.2.2.1>=0) then bif decide ((ay m.2.2.2.1 (i:Int)).2.2.2.1<0) then true else decide ((ay m.2.2.2.1 (i:Int)).2.2.2.1>(ay m.2.2.2.1 (i:Int)).2.2.2.2.1) else false)=false:=by
    by_cases a:(ay m.2.2.2.1 (i:Int)).2.2.2.2.1>=0
    .rw[bG a,bA,b_ (by omega),bg,b_ (by omega)]
    .rw[b_ a];rfl
   rw[e,aM,show(decide ((0:Nat)<=0)&&decide (0<=(i:Int))&&decide ((i:Int)<=(m.2.2.2.1.length:Int)))=true by simp;omega,aG];simp only[qqo];rw[show(0:Int).toNat=0 from rfl,jo];refine dj (M5 hX N n hN _ _ m.2.2.2.1 (m.2.2.2.1.length:Int) (i:Int) (m.2.2.2.1.take i) (by rw[eH];omega) m (ay m.2.2.2.1 (i:Int)) (fun y hy Ys=>?_) n 0 (e7 _) (by rw[eH];omega)) ?_
   .obtain⟨j,hj,rfl⟩:=lG.1 hy;rw[eH]at hj;rw[IT]at Ys⊢;have e3:m.2.2.2.1[j]'(by omega)=ay m.2.2.2.1 (j:Int):=by rw[tF,qv (by omega)]
    rw[e3]at Ys⊢;exact I.call.before (j:Int) (i:Int) (by omega) (by omega) (by omega) Ys
   .simp only[qyj];rw[qu (by omega)];exact ih
  .rw[qg (by omega)]
theorem ajz(hn:W+11<=n){m:aH}(I:Inv m)(ht:m.2.2.1<=100000):qtt (DD X n) m=some ((true,()),()):=by
 obtain⟨n,rfl⟩:∃k,n=k+1:=⟨n-1,by omega⟩
 have hW:=dZ;have jO:=Jk hX I;rw[ae4 hX];simp only[qt2,quh,qqn];rw[Dx hX (by omega) I ht,qc];dsimp only;rw[cK,aM];refine dj (M4 hX n n (by omega) (by omega) _ _ I (by omega) n 0 (e7 _) (by omega)) ?_;rfl
theorem aba(hn:W+13<=n){m:aH}(I:Inv m)(ht:m.2.2.1<=100000):qxl (DD X n) m=some ((true,()),()):=by
 obtain⟨n,rfl⟩:∃k,n=k+1:=⟨n-1,by omega⟩
 rw[agv hX];simp only[qxw,OX];rw[abo hX (by omega) I ht,qc];dsimp only;rw[aG,ajA hX (by omega) I ht,qc];dsimp only;rw[aG,ajz hX (by omega) I ht,qc]
end
theorem abi{r:qp}(hr:aS r){L:List (List cL)}(hL:iG L){who:List Int}(hw:uX L who 720):Inv (tQ (dY r L) who)/\(tQ (dY r L) who).2.2.1<=720/\(tQ (dY r L) who).2.1.length=L.length/\who.length<=2000/\
  (∀t∈who,0<=t/\t<(dY r L).2.1.length)/\(dY r L).2.2.1+who.length<=100000:=by
 have j_:(dY r L).2.1.length=L.length:=by unfold dY;simp
 have hwl:=hw.1;have hall:∀t∈who,0<=t/\t<(dY r L).2.1.length:=fun t h=>by rw[j_];exact hw.2 t h
 have hX:fO yh:=Td;obtain⟨h1,h2,_⟩:=acG hX who (ML hr hL) hall;have e:(dY r L).2.2.1=0:=rfl;refine⟨h1,by omega,by rw[ac7,j_],by omega,hall,by omega⟩
structure Kept (a b:aH):Prop where
 time:a.2.2.1<=b.2.2.1
 calls:a.2.2.2.1.length<=b.2.2.2.1.length
 each:∀k:Int,0<=k->k<a.2.2.2.1.length->(ay a.2.2.2.1 k).1=(ay b.2.2.2.1 k).1/\(ay a.2.2.2.1 k).2.1=(ay b.2.2.2.1 k).2.1/\(ay a.2.2.2.1 k).2.2.1=(ay b.2.2.2.1 k).2.2.1/\
  (0<=(ay a.2.2.2.1 k).2.2.2.1->(ay a.2.2.2.1 k).2.2.2.1=(ay b.2.2.2.1 k).2.2.2.1/\(ay a.2.2.2.1 k).2.2.2.2.2.1=(ay b.2.2.2.1 k).2.2.2.2.2.1)/\
  (0<=(ay a.2.2.2.1 k).2.2.2.2.1->(ay a.2.2.2.1 k).2.2.2.2.1=(ay b.2.2.2.1 k).2.2.2.2.1)
 order:∃o,b.2.2.2.2.1=a.2.2.2.2.1++o
 dw:b.1.2.1.length=a.1.2.1.length
 seq:∀t:Int,0<=t->t<a.1.2.1.length->(aq a.1 t).1<=(aq b.1 t).1
theorem Kept.refl(a:aH):Kept a a:=⟨fh _,ct _,fun k _ _=>⟨rfl,rfl,rfl,fun _=>⟨rfl,rfl⟩,fun _=>rfl⟩,⟨[],by simp⟩,rfl,fun t _ _=>fh _⟩
theorem Kept.trans{a b c:aH}(h:Kept a b)(h2:Kept b c):Kept a c:=by
 obtain⟨o,ho⟩:=h.order;obtain⟨o2,n5⟩:=h2.order;have hd:=h.dw;have hc:=h.calls;refine⟨I0 h.time h2.time,nN h.calls h2.calls,fun k k0 k1=>?_,⟨o++o2,by rw[n5,ho,eG]⟩,h2.dw.trans h.dw,fun t t0 t1=>I0 (h.seq t t0 t1) (h2.seq t t0 (by omega))⟩;obtain⟨a1,a2,a3,a4,a5⟩:=h.each k k0 k1;obtain⟨b1,b2,b3,b4,b5⟩:=h2.each k k0 (by omega);refine⟨a1.trans b1,a2.trans b2,a3.trans b3,fun q=>?_,fun q=>?_⟩
 .obtain⟨c1,c2⟩:=a4 q;obtain⟨d1,d2⟩:=b4 (by omega);exact⟨c1.trans d1,c2.trans d2⟩
 .have c1:=a5 q;exact c1.trans (b5 (by omega))
theorem Kept.ai{a b:aH}(h:Kept a b)(t:Int)(x:cN):Kept a (cB b t x):=⟨h.time,h.calls,h.each,h.order,h.dw,h.seq⟩
theorem Kept.mem{a:aH}{x:aU}(hd:x.2.1.length=a.1.2.1.length)(hs:∀t:Int,0<=t->t<a.1.2.1.length->(aq a.1 t).1<=(aq x t).1):Kept a (cI a x):=
 ⟨fh _,ct _,fun k _ _=>⟨rfl,rfl,rfl,fun _=>⟨rfl,rfl⟩,fun _=>rfl⟩,⟨[],by show a.2.2.2.2.1=_;simp⟩,hd,hs⟩
open Classical in
noncomputable def ind(p:Prop):Int:=if p then 1 else 0
theorem we{p:Prop}(h:p):ind p=1:=ak h
theorem o8{p:Prop}(h:¬ p):ind p=0:=af h
theorem nT(p:Prop):0<=ind p/\ind p<=1:=by unfold ind;split<;>omega
theorem Cn{p q:Prop}(h:p->q):ind p<=ind q:=by
 by_cases hp:p
 .rw[we hp,we (h hp)];exact fh _
 .rw[o8 hp];exact(nT q).1
theorem xX{p q:Prop}(h:p↔q):ind p=ind q:=eg ind (propext h)
def fG(n:Nat)(T:Int)(f:Int->Int):Int:=
 (if (0:Int)<n/\(0:Int)≠T then f 0 else 0)+(if (1:Int)<n/\(1:Int)≠T then f 1 else 0)+(if (2:Int)<n/\(2:Int)≠T then f 2 else 0)
theorem Kb{n:Nat}{T:Int}{f g:Int->Int}(h:∀U:Int,0<=U->U<n->U≠T->f U<=g U):fG n T f<=fG n T g:=by
 have one:∀U:Int,0<=U->(if U<n/\U≠T then f U else 0)<=(if U<n/\U≠T then g U else 0):=fun U u0=>by
  by_cases c:U<n/\U≠T
  .rw[ak c,ak c];exact h U u0 c.1 c.2
  .rw[af c,af c];exact fh _
 have a:=one 0 (by omega);have b:=one 1 (by omega);have c:=one 2 (by omega);unfold fG;omega
theorem Ir{n:Nat}{T:Int}{f g:Int->Int}(h:∀U:Int,0<=U->U<n->U≠T->f U=g U):fG n T f=fG n T g:=
 Int.le_antisymm (Kb fun U a b c=>kD (h U a b c)) (Kb fun U a b c=>kD (h U a b c).symm)
theorem BC{n:Nat}(hn:n<=3){T V d:Int}{f g:Int->Int}(v0:0<=V)(v1:V<n)(vT:V≠T)(hV:f V+d<=g V)(h:∀U:Int,0<=U->U<n->U≠T->U≠V->f U<=g U):fG n T f+d<=fG n T g:=by
 have one:∀U:Int,0<=U->U≠V->(if U<n/\U≠T then f U else 0)<=(if U<n/\U≠T then g U else 0):=fun U u0 uV=>by
  by_cases c:U<n/\U≠T
  .rw[ak c,ak c];exact h U u0 c.1 c.2 uV
  .rw[af c,af c];exact fh _
 have eV:∀f:Int->Int,(if V<n/\V≠T then f V else 0)=f V:=fun f=>ak ⟨v1,vT⟩;have e1:=eV f;have e2:=eV g;unfold fG;have hv:V=0\/V=1\/V=2:=by omega
 rcases hv with rfl | rfl | rfl
 .have b:=one 1 (by omega) (by omega);have c:=one 2 (by omega) (by omega);omega
 .have b:=one 0 (by omega) (by omega);have c:=one 2 (by omega) (by omega);omega
 .have b:=one 0 (by omega) (by omega);have c:=one 1 (by omega) (by omega);omega
theorem QI{n:Nat}{T:Int}{f:Int->Int}(h:∀U:Int,0<=U->U<n->U≠T->0<=f U):0<=fG n T f:=by
 have:=Kb (f:=fun _=>0) h;have e:fG n T (fun _=>0)=0:=by unfold fG;split<;>split<;>split<;>rfl
 omega
def lf(m:aH)(U:Int):Int:=((ai m U).1.length:Int)-(ai m U).2.1
def gt(m:aH)(U:Int):dL:=(ai m U).2.2.2.1
def bad(m:aU)(g:dL):Prop:=∃x∈g,fY m x.1≠x.2.1
def lM(m:aH)(U:Int):Prop:=bx m U/\(aq m.1 U).2.1=2
noncomputable def Yv(m:aH)(U:Int):Int:=lf m U-ind (lM m U)
def pM(m:aH)(U:Int):Prop:=(bx m U/\(aq m.1 U).2.1=3)\/(¬ lM m U/\bad m.1 (gt m U))
noncomputable def AA(m:aH)(U:Int):Int:=lf m U+fG m.2.1.length U (Yv m)+ind (pM m U)
noncomputable def o4(m:aH)(T:Int):Int:=
 match (ai m T).2.2.2.2.1 with
 | h::_=>if h.1=T then 1+h.2.2.1+ind ((aq m.1 T).2.1≠1)+h.2.2.2.1 else 0
 | []=>0
noncomputable def ki(m:aH)(T:Int):Int:=ind ((ai m T).2.2.1=true)+(gt m T).length+o4 m T
noncomputable def PP(m:aH)(T:Int):Int:=28 * AA m T-ki m T
def lR(x:cN)(T:Int):Option gx:=if x.2.2.2.2.1=[] then none else if (au x).1=T then none else some (au x)
def og(m:aH)(h:gx):Prop:=bx m h.1/\h.2.1=(aq m.1 h.1).1
def vE(m:aU)(U:Int):Prop:=∃p:Int,0<=p/\p<20/\wd m p=dM U (aq m U).1
def nW(m:aU)(C U:Int):Prop:=(aq m C).2.1=1/\∃i:Int,0<=i/\i<(aq m C).2.2.1.length/\(∀j:Int,0<=j->j<i->wd m (qi (aq m C).2.2.1 j).1=dM C (aq m C).1)/\wd m (qi (aq m C).2.2.1 i).1=dM U (aq m U).1
def Ay(m:aH)(T U:Int):Prop:=∃C:Int,0<=C/\C<m.2.1.length/\C≠T/\C≠U/\nW m.1 C U
open Classical in
noncomputable def nc(m:aH)(T:Int)(h:gx):Int:=if og m h/\(aq m.1 h.1).2.1=1 then 1+10 * ind (Ay m T h.1)+h.2.2.1 else 20+h.2.2.2.1
noncomputable def kR(m:aH)(T U:Int):Int:=match lR (ai m T) T with | none=>0 | some h=>if h.1=U then nc m T h else 0
def q_(m:aH)(T U:Int):Prop:=∃h,lR (ai m T) T=some h/\h.1=U/\¬ og m h
def wB(m:aH)(T U:Int):Prop:=∃h,lR (ai m T) T=some h/\h.1=U/\og m h
def qZ(m:aH)(T U:Int):Prop:=bx m U/\(aq m.1 U).2.1≠1/\¬ vE m.1 U/\¬ wB m T U
noncomputable def QQ(m:aH)(T U:Int):Int:=29 * (AA m U+ind (q_ m T U)-ind (qZ m T U))-kR m T U
noncomputable def iS(m:aH)(T:Int):Int:=PP m T+fG m.2.1.length T (QQ m T)
structure jM (m m':aH) (t:Int) (a:aU) (x:cN):Prop where
 n:m'.2.1.length=m.2.1.length
 mem:m'.1=a
 ai:∀U:Int,0<=U->ai m' U=if U=t then x else ai m U
inductive Kind (m:aH) (t:Int):aU->cN->Prop
 | zp:(ai m t).2.2.1=false->Kind m t m.1 ((ai m t).1,(ai m t).2.1,true,(ai m t).2.2.2)
 | push (v p:Int):(ai m t).2.2.1=true->((ai m t).2.2.2.2.1=[]\/∃k,(ai m t).2.2.2.2.1=[k]/\k.1=t/\nW m.1 t v)->0<=v->v<m.2.1.length->v≠t->bx m v->0<=p->p<20->wd m.1 p=dM v (aq m.1 v).1->
   Kind m t m.1 (rf (ai m t) (v,(aq m.1 v).1,0,0,()))
 | got (q:Int):(ai m t).2.2.1=true->(ai m t).2.2.2.2.1=[]->(0<=q/\q<20)->Kind m t m.1 (rX (ai m t) ((ai m t).2.2.2.1++[(q,fY m.1 q,())]))
 | now:(ai m t).2.2.1=true->(ai m t).2.2.2.2.1=[]->Kind m t m.1 ((ai m t).1,(ai m t).2.1+1,false,[],[],())
 | new (q:Int) (E:List eB) (r:fC):(ai m t).2.2.1=true->(ai m t).2.2.2.2.1=[]->(∀p:Int,0<=p->p<20->fY (bJ m.1 t ((aq m.1 t).1+1,1,E,r,())) p=fY m.1 p)->(0<=q/\q<20)->
   Kind m t (bJ m.1 t ((aq m.1 t).1+1,1,E,r,())) (rf (rX (ai m t) ((ai m t).2.2.2.1++[(q,fY m.1 q,())])) (t,(aq m.1 t).1+1,0,0,()))
 | qK:(ai m t).2.2.2.2.1≠[]->(au (ai m t)).1≠t->((au (ai m t)).2.1=(aq m.1 (au (ai m t)).1).1->(aq m.1 (au (ai m t)).1).2.1≠1/\¬ vE m.1 (au (ai m t)).1)->Kind m t m.1 (jg (ai m t))
 | yes:(ai m t).2.2.2.2.1≠[]->(au (ai m t)).2.1=(aq m.1 (au (ai m t)).1).1->(aq m.1 (au (ai m t)).1).2.1=1->
   (∀i:Int,0<=i->i<(aq m.1 (au (ai m t)).1).2.2.1.length->wd m.1 (qi (aq m.1 (au (ai m t)).1).2.2.1 i).1=dM (au (ai m t)).1 (aq m.1 (au (ai m t)).1).1)->
   Kind m t (bJ m.1 (au (ai m t)).1 ((aq m.1 (au (ai m t)).1).1,2,(aq m.1 (au (ai m t)).1).2.2)) (ai m t)
 | mD:(ai m t).2.2.2.2.1≠[]->(au (ai m t)).2.1=(aq m.1 (au (ai m t)).1).1->(aq m.1 (au (ai m t)).1).2.1=1->
   Kind m t m.1 (ko (ai m t) ((au (ai m t)).1,(au (ai m t)).2.1,(au (ai m t)).2.2.1+1,(au (ai m t)).2.2.2))
 | swap (v:Int):(ai m t).2.2.2.2.1≠[]->(au (ai m t)).2.1=(aq m.1 (au (ai m t)).1).1->(aq m.1 (au (ai m t)).1).2.1=1->(au (ai m t)).1≠t->v≠(au (ai m t)).1->0<=v->v<m.2.1.length->bx m v->
   nW m.1 (au (ai m t)).1 v->Kind m t m.1 (ko (ai m t) (v,(aq m.1 v).1,0,0,()))
 | lay (p:Int):(ai m t).2.2.2.2.1≠[]->(au (ai m t)).2.1=(aq m.1 (au (ai m t)).1).1->(aq m.1 (au (ai m t)).1).2.1=1->0<=p->p<20->(wd m.1 p).2.1=0->
   (∀q:Int,0<=q->q<20->fY (eA m.1 p (dM (au (ai m t)).1 (au (ai m t)).2.1)) q=fY m.1 q)->
   Kind m t (eA m.1 p (dM (au (ai m t)).1 (au (ai m t)).2.1)) (ko (ai m t) ((au (ai m t)).1,(au (ai m t)).2.1,(au (ai m t)).2.2.1+1,(au (ai m t)).2.2.2))
 | no (i:Int):(ai m t).2.2.2.2.1≠[]->(au (ai m t)).2.1=(aq m.1 (au (ai m t)).1).1->(aq m.1 (au (ai m t)).1).2.1=1->0<=i->i<(aq m.1 (au (ai m t)).1).2.2.1.length->
   (∀j:Int,0<=j->j<i->wd m.1 (qi (aq m.1 (au (ai m t)).1).2.2.1 j).1=dM (au (ai m t)).1 (aq m.1 (au (ai m t)).1).1)->
   (wd m.1 (qi (aq m.1 (au (ai m t)).1).2.2.1 i).1).2.1=0->(wd m.1 (qi (aq m.1 (au (ai m t)).1).2.2.1 i).1).1≠(qi (aq m.1 (au (ai m t)).1).2.2.1 i).2.1->
   (∀q:Int,0<=q->q<20->fY (bJ m.1 (au (ai m t)).1 ((aq m.1 (au (ai m t)).1).1,3,(aq m.1 (au (ai m t)).1).2.2)) q=fY m.1 q)->
   Kind m t (bJ m.1 (au (ai m t)).1 ((aq m.1 (au (ai m t)).1).1,3,(aq m.1 (au (ai m t)).1).2.2)) (ai m t)
 | pX:(ai m t).2.2.2.2.1≠[]->(au (ai m t)).2.1=(aq m.1 (au (ai m t)).1).1->(aq m.1 (au (ai m t)).1).2.1≠1->
   Kind m t m.1 (ko (ai m t) ((au (ai m t)).1,(au (ai m t)).2.1,(au (ai m t)).2.2.1,(au (ai m t)).2.2.2.1+1,()))
 | oS (p y:Int):(ai m t).2.2.2.2.1≠[]->(au (ai m t)).2.1=(aq m.1 (au (ai m t)).1).1->(aq m.1 (au (ai m t)).1).2.1≠1->0<=p->p<20->wd m.1 p=dM (au (ai m t)).1 (au (ai m t)).2.1->
   (∀q:Int,0<=q->q<20->fY (eA m.1 p (y,0,0,())) q=fY m.1 q)->
   Kind m t (eA m.1 p (y,0,0,())) (ko (ai m t) ((au (ai m t)).1,(au (ai m t)).2.1,(au (ai m t)).2.2.1,(au (ai m t)).2.2.2.1+1,()))
 | pW:(ai m t).2.2.2.2.1≠[]->(au (ai m t)).1=t->(aq m.1 t).2.1=2->¬ vE m.1 t->Kind m t m.1 ((ai m t).1,(ai m t).2.1+1,false,[],[],())
 | CN:(ai m t).2.2.2.2.1≠[]->(au (ai m t)).1=t->(aq m.1 t).2.1=3->¬ vE m.1 t->Kind m t m.1 ((ai m t).1,(ai m t).2.1,(ai m t).2.2.1,[],[],())
theorem ac5{m:aH}(I:Inv m){u:Int}(u0:0<=u)(h:∀i:Int,0<=i->i<(aq m.1 u).2.2.1.length->wd m.1 (qi (aq m.1 u).2.2.1 i).1≠dM u (aq m.1 u).1):¬ vE m.1 u:=by
 rintro⟨p,p0,p1,e⟩;rcases I.mem.word p p0 p1 with q | ⟨v,v0,v1,vo,vm,i,i0,i1,ie⟩
 .exact vA q.1 u0 e
 .obtain⟨rfl,_⟩:=tM (vm.symm.trans e);exact h i i0 i1 (by rw[ie];exact e)
theorem Sx{m:aH}{t:Int}(t0:0<=t)(t1:t<m.2.1.length)(a:aU)(x:cN):jM m (cB (cI m a) t x) t a x:=
 ⟨o7 _ _ _,rfl,fun U u0=>BE _ ⟨t0,t1⟩ u0⟩
theorem abT{m m':aH}{t:Int}(e:m'.2.1=m.2.1){a:aU}(ha:m'.1=a):jM m m' t a (ai m t):=
 ⟨by rw[e],ha,fun U u0=>by
  rw[zS e U];by_cases q:U=t
  .rw[ak q,q]
  .rw[af q]⟩
theorem abW{m:aH}(I:Inv m){t:Int}(t0:0<=t)(t1:t<m.2.1.length)(hs:(ai m t).2.2.2.2.1≠[])(h2:∀k k',(ai m t).2.2.2.2.1=[k,k']->k'.1≠t):∃a x,Kind m t a x/\jM m (kH m t) t a x:=by
 have T:=I.th t t0 t1;have ho:=T.Au hs;have H:=T.d7 _ (mK hs);have hw:=fun e=>T.own _ (mK hs) e;have Vm:=M3 T hs;have kd:∀{a x},(hk:Kind m t a x)->kH m t=cB (cI m a) t x->∃a x,Kind m t a x/\jM m (kH m t) t a x:=fun {a x} hk e=>⟨a,x,hk,by rw[e];exact Sx t0 t1 a x⟩
 have K1:=@Kind.qK m t hs;have K2:=@Kind.yes m t hs;have K3:=@Kind.mD m t hs;have K4:=fun v=>@Kind.swap m t v hs;have K5:=fun p=>@Kind.lay m t p hs;have K6:=fun i=>@Kind.no m t i hs;have K7:=@Kind.pX m t hs;have K8:=fun p y=>@Kind.oS m t p y hs;have K9:=@Kind.pW m t hs;have K10:=@Kind.CN m t hs;have hone:∀k,(ai m t).2.2.2.2.1=[k]->au (ai m t)=k:=fun k e=>by unfold au;rw[e];rfl
 have Ym:∀k k',(ai m t).2.2.2.2.1=[k,k']->au (ai m t)=k':=fun k k' e=>by unfold au;rw[e];rfl
 generalize hh:au (ai m t)=h at *;have u0:=H.t.1;have u1:=H.t.2;by_cases hd:(aq m.1 h.1).1≠h.2.1
 .have e:q7 m.1 h=(m.1,h,dH,2,()):=by unfold q7;rw[ak hd]
  have hne:h.1≠t:=fun q=>hd (by rw[q];exact(hw q).symm);refine kd (K1 hne (fun q=>absurd q.symm hd)) ?_;unfold kH;rw[hh,e];dsimp only;rw[af (by decide),ak rfl,ak hne]
 have hd':h.2.1=(aq m.1 h.1).1:=by omega
 obtain⟨c1,c2,c3,c4⟩:=H.cur hd';by_cases hst:(aq m.1 h.1).2.1=1
 .have Ae:∀j:Int,0<=j->j<h.2.2.1->wd m.1 (qi (aq m.1 h.1).2.2.1 j).1=dM h.1 (aq m.1 h.1).1:=fun j a b=>by rw[<-hd'];exact(c3 hst).2 j a b
  by_cases eu:((aq m.1 h.1).2.2.1.length:Int)<=h.2.2.1
  .have e:q7 m.1 h=(bJ m.1 h.1 ((aq m.1 h.1).1,2,(aq m.1 h.1).2.2),h,dH,3,()):=by unfold q7;rw[af hd,ak hst,ak eu]
   refine⟨_,_,K2 hd' hst (fun i i0 i1=>Ae i i0 (by omega)),?_⟩;unfold kH;rw[hh,e];dsimp only;rw[af (by decide),af (by decide),ak rfl,Vm];have e2:(iE (cI m (bJ m.1 h.1 ((aq m.1 h.1).1,2,(aq m.1 h.1).2.2))) h.1 (aq m.1 h.1).2.2.2.1).2.1=m.2.1:=by unfold iE;split<;>rfl
   have e4:(iE (cI m (bJ m.1 h.1 ((aq m.1 h.1).1,2,(aq m.1 h.1).2.2))) h.1 (aq m.1 h.1).2.2.2.1).1=bJ m.1 h.1 ((aq m.1 h.1).1,2,(aq m.1 h.1).2.2):=by unfold iE;split<;>rfl
   have e3:=zS e2 t;rw[<-e3,Sb t0 (by rw[e2];exact t1),e3];exact abT e2 e4
  have hlt:h.2.2.1<(aq m.1 h.1).2.2.1.length:=by omega
  have i0:=H.r7.1;have iU:=I.mem.gX u0 u1 i0 hlt;by_cases hmk:wd m.1 (qi (aq m.1 h.1).2.2.1 h.2.2.1).1=dM h.1 h.2.1
  .have e:q7 m.1 h=(m.1,(h.1,h.2.1,h.2.2.1+1,h.2.2.2),dH,0,()):=by unfold q7;rw[af hd,ak hst,af eu,ak hmk]
   refine kd (K3 hd' hst) ?_;unfold kH;rw[hh,e];dsimp only;rw[af (by decide),af (by decide),af (by decide)]
  by_cases xC:(wd m.1 (qi (aq m.1 h.1).2.2.1 h.2.2.1).1).2.1≠0
  .have e:q7 m.1 h=(m.1,h,((wd m.1 (qi (aq m.1 h.1).2.2.1 h.2.2.1).1).2.1-1,(wd m.1 (qi (aq m.1 h.1).2.2.1 h.2.2.1).1).2.2.1,0,0,()),1,()):=by unfold q7;rw[af hd,ak hst,af eu,af hmk,ak xC]
   rcases I.mem.word _ iU.1.1 iU.1.2 with hq | ⟨v,v0,v1,vo,vm,j,j0,j1,je⟩
   .exact absurd hq.1 xC
   have e2:((wd m.1 (qi (aq m.1 h.1).2.2.1 h.2.2.1).1).2.1-1,(wd m.1 (qi (aq m.1 h.1).2.2.1 h.2.2.1).1).2.2.1,(0:Int),(0:Int),())=(v,(aq m.1 v).1,0,0,()):=by rw[vm];simp only[dM];rw[show v+1-1=v by omega]
   rw[e2]at e;have Vn:v≠h.1:=fun q=>hmk (by rw[vm,q,hd']);have f9:nW m.1 h.1 v:=⟨hst,h.2.2.1,i0,hlt,Ae,vm⟩
   by_cases hc:h.1=t/\(ai m t).2.2.2.2.1.length=1
   .have hk:∃k,(ai m t).2.2.2.2.1=[k]:=by
     match hq:(ai m t).2.2.2.2.1,hc.2 with
     | [k],_=>exact⟨k,rfl⟩
    obtain⟨k,hk⟩:=hk;have Er:k.1=t:=by rw[<-hone k hk];exact hc.1
    refine kd (Kind.push v _ ho (.inr ⟨k,hk,Er,hc.1 ▸ f9⟩) v0 v1 (by rw[<-hc.1];exact Vn) vo iU.1.1 iU.1.2 vm) ?_;unfold kH;rw[hh,e];dsimp only;rw[ak rfl,ak hc]
   .have hne:h.1≠t:=fun q=>by
     rcases T.st with z | ⟨k,z⟩ | ⟨k,k',z,zt⟩
     .exact hs z
     .exact hc ⟨q,by rw[z];rfl⟩
     .exact h2 k k' z (by rw[<-Ym k k' z];exact q)
    refine kd (K4 v hd' hst hne Vn v0 v1 vo f9) ?_;unfold kH;rw[hh,e];dsimp only;rw[ak rfl,af hc]
  have hw0:(wd m.1 (qi (aq m.1 h.1).2.2.1 h.2.2.1).1).2.1=0:=by omega
  by_cases hold:(wd m.1 (qi (aq m.1 h.1).2.2.1 h.2.2.1).1).1=(qi (aq m.1 h.1).2.2.1 h.2.2.1).2.1
  .have e:q7 m.1 h=(eA m.1 (qi (aq m.1 h.1).2.2.1 h.2.2.1).1 (dM h.1 h.2.1),(h.1,h.2.1,h.2.2.1+1,h.2.2.2),dH,0,()):=by unfold q7;rw[af hd,ak hst,af eu,af hmk,af xC,ak hold]
   obtain⟨_,hV,_⟩:=Fc I.mem u0 u1 hst i0 hlt hw0 hold Ae;rw[<-hd']at hV;refine kd (K5 _ hd' hst iU.1.1 iU.1.2 hw0 hV) ?_;unfold kH;rw[hh,e];dsimp only;rw[af (by decide),af (by decide),af (by decide)]
  .have e:q7 m.1 h=(bJ m.1 h.1 ((aq m.1 h.1).1,3,(aq m.1 h.1).2.2),h,dH,0,()):=by unfold q7;rw[af hd,ak hst,af eu,af hmk,af xC,af hold]
   obtain⟨_,_,hV⟩:=Ig I.mem u0 u1 (c:=3) hst (.inr rfl);refine kd (K6 h.2.2.1 hd' hst i0 hlt Ae hw0 hold (fun q a b=>by rw[hV q a b,af (by omega)])) ?_;unfold kH;rw[hh,e];dsimp only;rw[af (by decide),af (by decide),af (by decide),Vm]
 .by_cases kO:((aq m.1 h.1).2.2.1.length:Int)<=h.2.2.2.1
  .have e:q7 m.1 h=(m.1,h,dH,2,()):=by unfold q7;rw[af hd,af hst,ak kO]
   have hnm:¬ vE m.1 h.1:=ac5 I u0 fun i a b=>by rw[<-hd'];exact c4 hst i a (by omega)
   by_cases hne:h.1≠t
   .refine kd (K1 hne (fun _=>⟨hst,hnm⟩)) ?_;unfold kH;rw[hh,e];dsimp only;rw[af (by decide),ak rfl,ak hne]
   have CV:h.1=t:=by omega
   have hown:=(J9 T hs (by rw[hh];exact CV)).1;have oY:=I.mem.kX t t0 t1 hown;have Yf:=(I.mem.dy t t0 t1).st.2 oY;rw[CV]at hst hnm;by_cases hy:(aq m.1 t).2.1=2
   .refine⟨_,_,K9 CV hy hnm,?_⟩;unfold kH;rw[hh,e];dsimp only;rw[af (by decide),ak rfl,af hne,ak hy];have h2:(iu (cI m m.1) t (aq m.1 t).2.2.2.1).2.1=m.2.1:=by unfold iu;split<;>rfl
    have h1:(iu (cI m m.1) t (aq m.1 t).2.2.2.1).1=m.1:=by unfold iu;split<;>rfl
    unfold er;refine⟨by rw[o7,h2],h1,fun u u0=>?_⟩;rw[qW (by rw[h2];exact⟨t0,t1⟩) u0,zS h2 u];rfl
   .refine kd (K10 CV (by omega) hnm) ?_;unfold kH;rw[hh,e];dsimp only;rw[af (by decide),ak rfl,af hne,af hy]
  .have hlt:h.2.2.2.1<(aq m.1 h.1).2.2.1.length:=by omega
   have i0:=H.fin.1;have iU:=I.mem.gX u0 u1 i0 hlt;by_cases hmk:wd m.1 (qi (aq m.1 h.1).2.2.1 h.2.2.2.1).1=dM h.1 h.2.1
   .have e:q7 m.1 h=(eA m.1 (qi (aq m.1 h.1).2.2.1 h.2.2.2.1).1 (if (aq m.1 h.1).2.1=2 then (qi (aq m.1 h.1).2.2.1 h.2.2.2.1).2.2.1 else (qi (aq m.1 h.1).2.2.1 h.2.2.2.1).2.1,0,0,()),(h.1,h.2.1,h.2.2.1,h.2.2.2.1+1,()),dH,0,()):=by unfold q7;rw[af hd,af hst,af kO,ak hmk]
    obtain⟨_,hV,_⟩:=Nz I.mem u0 u1 hst i0 hlt (by rw[<-hd'];exact hmk);refine kd (K8 _ _ hd' hst iU.1.1 iU.1.2 hmk hV) ?_;unfold kH;rw[hh,e];dsimp only;rw[af (by decide),af (by decide),af (by decide)]
   .have e:q7 m.1 h=(m.1,(h.1,h.2.1,h.2.2.1,h.2.2.2.1+1,()),dH,0,()):=by unfold q7;rw[af hd,af hst,af kO,af hmk]
    refine kd (K7 hd' hst) ?_;unfold kH;rw[hh,e];dsimp only;rw[af (by decide),af (by decide),af (by decide)]
theorem abX{m:aH}(I:Inv m){t:Int}(t0:0<=t)(t1:t<m.2.1.length)(ho:(ai m t).2.2.1=true)(hs:(ai m t).2.2.2.2.1=[])(oY:(aq m.1 t).1+1<=m.2.2.1):∃a x,Kind m t a x/\jM m (tR m t) t a x:=by
 have T:=I.th t t0 t1;have hop:=T.op ho;have i7:=zU (t:=t) hs;have hno:¬ bx m t:=by unfold bx;rw[i7];simp
 obtain⟨q,B,hq⟩:=T.read ho i7;have nP:=T.along ho;obtain⟨JI,zE⟩:=KI hop T.got nP;have oF:Db (ai m t)=q/\(0<=q/\q<20)/\q∉g7 (ai m t).2.2.2.1/\(ai m t).2.2.2.1.length<8:=by
  rcases zE with h | ⟨q',B',h,h2,h3,h4,h5⟩
  .rw[hq]at h;have:=eg List.length h.1;simp at this
  .rw[hq]at h;have:=FR h;simp only[eZ]at this;obtain⟨rfl,_⟩:=this;exact⟨h2,h3,h4,h5⟩
 obtain⟨oF,qC,X9,hlen⟩:=oF;have kd:∀{a x},(hk:Kind m t a x)->tR m t=cB (cI m a) t x->∃a x,Kind m t a x/\jM m (tR m t) t a x:=fun {a x} hk e=>⟨a,x,hk,by rw[e];exact Sx t0 t1 a x⟩
 have Ep:iA m (ai m t)=(ai m t).2.2.2.1++[(q,(wd m.1 q).1,())]:=by unfold iA;rw[oF]
 by_cases hw:(wd m.1 q).2.1≠0
 .rcases I.mem.word q qC.1 qC.2 with h | ⟨v,v0,v1,vo,vm,j,j0,j1,je⟩
  .exact absurd h.1 hw
  have e2:((wd m.1 q).2.1-1,(wd m.1 q).2.2.1,(0:Int),(0:Int),())=(v,(aq m.1 v).1,0,0,()):=by rw[vm];simp only[dM];rw[show v+1-1=v by omega]
  refine kd (Kind.push v q ho (.inl hs) v0 v1 (fun e=>hno (by rw[<-e];exact vo)) vo qC.1 qC.2 vm) ?_;unfold tR;rw[oF,ak hw,e2];rfl
 have hw0:(wd m.1 q).2.1=0:=by omega
 have hv:(wd m.1 q).1=fY m.1 q:=(vk hw0).symm;rw[hv]at Ep;by_cases h1:(gj (aW (ai m t)) (iA m (ai m t))).2.1=false
 .refine kd (Kind.got q ho hs qC) ?_;unfold tR;rw[oF,af hw,ak h1,Ep];rfl
 by_cases h2:(gj (aW (ai m t)) (iA m (ai m t))).1.1=true
 .refine⟨_,_,Kind.now ho hs,?_⟩;unfold tR;rw[oF,af hw,af h1,ak h2];generalize (gj (aW (ai m t)) (iA m (ai m t))).1.2.1=s;have a1:(iu (iE m t s) t s).2.1=m.2.1:=by
   have h3:(iE m t s).2.1=m.2.1:=by unfold iE;split<;>rfl
   unfold iu;split
   .exact h3
   .exact h3
  have a2:(iu (iE m t s) t s).1=m.1:=by
   have h3:(iE m t s).1=m.1:=by unfold iE;split<;>rfl
   unfold iu;split
   .exact h3
   .exact h3
  have a3:ai (iE m t s) t=ai m t:=zS (by unfold iE;split<;>rfl) t;unfold er;refine⟨by rw[o7,a1],a2,fun u u0=>?_⟩;rw[qW (by rw[a1];exact⟨t0,t1⟩) u0,zS a1 u,a3]
 .have hV:∀p:Int,0<=p->p<20->fY (bJ m.1 t ((aq m.1 t).1+1,1,(gj (aW (ai m t)) (iA m (ai m t))).1.2.2.1,(gj (aW (ai m t)) (iA m (ai m t))).1.2.1,())) p=fY m.1 p:=fun p p0 p1=>by
   have mu:=I.mem.dw;have hnm:=RY I.mem t0 hno p0 p1;have e:=fun v (v0:0<=v)=>n_ (m:=m.1) (u:=t) (t:=v) (d:=((aq m.1 t).1+1,1,(gj (aW (ai m t)) (iA m (ai m t))).1.2.2.1,(gj (aW (ai m t)) (iA m (ai m t))).1.2.1,())) ⟨t0,by omega⟩ v0;rcases I.mem.word p p0 p1 with z | ⟨v,v0,v1,vo,vm,_⟩
   .rw[vk (m:=m.1) z.1,vk (by rw[Iw];exact z.1),Iw]
   .have hvt:v≠t:=fun z=>hno (z ▸ vo);rw[zT v0 vm,zT (u:=v) v0 (by rw[Iw,e v v0,af hvt];exact vm),e v v0,af hvt]
  refine kd (Kind.new q _ _ ho hs hV qC) ?_;unfold tR;rw[oF,af hw,af h1,af h2];rw[Ep]
theorem RU{m:aH}(I:Inv m){t:Int}(t0:0<=t)(t1:t<m.2.1.length)(h2:∀k k',(ai m t).2.2.2.2.1=[k,k']->k'.1≠t):∃a x,Kind (tick m) t a x/\jM (tick m) (vF m t) t a x:=by
 unfold vF;by_cases c1:(ai m t).2.2.1=false
 .rw[ak c1];refine⟨_,_,Kind.zp (m:=tick m) c1,?_⟩;unfold pT;exact⟨o7 _ _ _,rfl,fun U u0=>qW (m:=(m.1,m.2.1,_)) ⟨t0,t1⟩ u0⟩
 rw[af c1];have zq:(ai m t).2.2.1=true:=by simpa using c1
 by_cases c2:(ai m t).2.2.2.2.1≠[]
 .rw[ak c2];exact abW (Jn I) t0 t1 c2 h2
 .rw[af c2];refine abX (Jn I) t0 t1 zq (by show(ai m t).2.2.2.2.1=[];simpa using c2) ?_;have:=(I.mem.dy t t0 t1).seq.2;show(aq m.1 t).1+1<=m.2.2.1+1;omega
theorem akW{l:List eB}(h:lO l){i j:Int}(i0:0<=i)(ij:i<j)(j1:j<l.length):(qi l i).1<(qi l j).1:=by unfold qi;rw[qv (show i.toNat<l.length by omega),qv (show j.toNat<l.length by omega)];exact yl.1 h i.toNat j.toNat (by omega) (by omega) (by omega)
theorem Mz{m:aH}(I:Inv m){C U:Int}(c0:0<=C)(c1:C<m.2.1.length)(h:nW m.1 C U)(hne:C≠U):∃p:Int,(0<=p/\p<20)/\wd m.1 p=dM U (aq m.1 U).1/\∀q:Int,0<=q->q<20->wd m.1 q=dM C (aq m.1 C).1->q<p:=by
 obtain⟨hs,i,i0,i1,hb,hi⟩:=h;have he:=I.mem.gX c0 c1 i0 i1;refine⟨_,he.1,hi,fun q q0 q1 hq=>?_⟩;rcases I.mem.word q q0 q1 with z | ⟨v,v0,v1,vo,vm,j,j0,j1,je⟩
 .exact absurd hq (vA z.1 c0)
 .obtain⟨rfl,_⟩:=tM (vm.symm.trans hq);have hji:j<i:=by
   rcases AN j i with z | z | z
   .exact z
   .rw[z]at je;rw[je]at hi;exact absurd (tM (hi.symm.trans hq)).1.symm hne
   .have:=I.mem.pre v c0 c1 hs i j i0 z j1 (by rw[je];exact hq);exact absurd (tM (this.symm.trans hi)).1 hne
  have oT:=(I.mem.dy v c0 c1).z7;rw[<-je];exact akW oT j0 hji i1
theorem Vt{m:aH}(I:Inv m){A B:Int}(a0:0<=A)(a1:A<m.2.1.length)(b0:0<=B)(b1:B<m.2.1.length)(h:nW m.1 A B)(h2:nW m.1 B A)(hne:A≠B):False:=by obtain⟨p,pr,pm,pl⟩:=Mz I a0 a1 h hne;obtain⟨q,qr,qm,ql⟩:=Mz I b0 b1 h2 hne.symm;have:=pl q qr.1 qr.2 qm;have:=ql p pr.1 pr.2 pm;omega
theorem no3{m:aH}(I:Inv m){A B C:Int}(a0:0<=A)(a1:A<m.2.1.length)(b0:0<=B)(b1:B<m.2.1.length)(c0:0<=C)(c1:C<m.2.1.length)(h:nW m.1 A B)(h2:nW m.1 B C)(h3:nW m.1 C A)
  (n1:A≠B) (n2:B≠C) (n3:C≠A):False:=by
 obtain⟨p,pr,pm,pl⟩:=Mz I a0 a1 h n1;obtain⟨q,qr,qm,ql⟩:=Mz I b0 b1 h2 n2;obtain⟨s,sr,sm,sl⟩:=Mz I c0 c1 h3 n3;have:=pl s sr.1 sr.2 sm;have:=ql p pr.1 pr.2 pm;have:=sl q qr.1 qr.2 qm;omega
theorem aiV{m:aU}{C U:Int}(h:nW m C U)(hne:C≠U)(hall:∀i:Int,0<=i->i<(aq m C).2.2.1.length->wd m (qi (aq m C).2.2.1 i).1=dM C (aq m C).1):False:=by obtain⟨hs,i,i0,i1,hb,hi⟩:=h;exact hne (tM ((hall i i0 i1).symm.trans hi)).1
theorem ah5{m:aU}{C U:Int}(u0:0<=U)(c0:0<=C)(h:nW m C U)(hne:C≠U){k:Int}(k0:0<=k)(k1:k<(aq m C).2.2.1.length)(hb:∀j:Int,0<=j->j<k->wd m (qi (aq m C).2.2.1 j).1=dM C (aq m C).1)
  (hk:(wd m (qi (aq m C).2.2.1 k).1).2.1=0):False:=by
 obtain⟨hs,i,i0,i1,U7,hi⟩:=h;rcases AN i k with z | z | z
 .exact hne (tM ((hb i i0 z).symm.trans hi)).1
 .rw[z]at hi;exact vA hk u0 hi
 .exact vA hk c0 (U7 k k0 z)
theorem UI{m:aH}(I:Inv m){t:Int}(t0:0<=t)(t1:t<m.2.1.length){a:aU}{x:cN}(K:Kind m t a x){C U:Int}(c0:0<=C)(c1:C<m.2.1.length)(u0:0<=U)(u1:U<m.2.1.length)(hne:C≠U)
  (hU:(aq m.1 U).2.1=1) (JD:(aq a U).2.1=1) (h:nW m.1 C U):nW a C U:=by
 have mu:=I.mem.dw;have hlen:=I.mem.len;have T:=I.th t t0 t1;have uw:∀u:Int,0<=u->u<m.2.1.length->∀d:ny,u≠C->u≠U->nW (bJ m.1 u d) C U:=fun u a0 a1 d n1 n2=>by
  obtain⟨hs,i,i0,i1,hb,hi⟩:=h;have e:∀v:Int,0<=v->v≠u->aq (bJ m.1 u d) v=aq m.1 v:=fun v v0 q=>by rw[n_ ⟨a0,by omega⟩ v0,af q]
  have eC:=e C c0 (fun q=>n1 q.symm);have eU:=e U u0 (fun q=>n2 q.symm);unfold nW;rw[eC,eU];exact⟨hs,i,i0,i1,hb,hi⟩
 have oI:∀(p:Int)(w:lK),0<=p->p<20->wd m.1 p≠dM C (aq m.1 C).1->wd m.1 p≠dM U (aq m.1 U).1->nW (eA m.1 p w) C U:=fun p w p0 p1 q1 q2=>by
  obtain⟨hs,i,i0,i1,hb,hi⟩:=h;have hw:∀q:Int,0<=q->q≠p->wd (eA m.1 p w) q=wd m.1 q:=fun q q0 qn=>by rw[Fj (by omega) q0,af qn]
  refine⟨hs,i,i0,i1,fun j j0 j1=>?_,?_⟩
  .have he:=I.mem.gX c0 c1 j0 (show j<(aq m.1 C).2.2.1.length by omega);show wd (eA m.1 p w) (qi (aq m.1 C).2.2.1 j).1=dM C (aq m.1 C).1;rw[hw _ he.1.1 (fun z=>q1 (by rw[<-z];exact hb j j0 j1))];exact hb j j0 j1
  .have he:=I.mem.gX c0 c1 i0 i1;show wd (eA m.1 p w) (qi (aq m.1 C).2.2.1 i).1=dM U (aq m.1 U).1;rw[hw _ he.1.1 (fun z=>q2 (by rw[<-z];exact hi))];exact hi
 cases K with
 | zp=>exact h
 | push=>exact h
 | got=>exact h
 | now=>exact h
 | qK=>exact h
 | mD=>exact h
 | swap=>exact h
 | pX=>exact h
 | pW=>exact h
 | CN=>exact h
 | new q E r ho hs hv=>
  have hno:¬ bx m t:=by unfold bx;rw[zU hs];simp
  exact uw t t0 t1 _ (fun z=>hno (I.mem.jQ t t0 t1 (by rw[z];exact h.1))) (fun z=>hno (I.mem.jQ t t0 t1 (by rw[z];exact hU)))
 | yes hs h1 h2 h3=>have H:=T.d7 _ (mK hs);refine uw _ H.t.1 H.t.2 _ (fun z=>aiV h hne (by rw[<-z];exact h3)) (fun z=>?_);rw[z]at JD;rw[n_ ⟨u0,by omega⟩ u0,ak rfl]at JD;dsimp only at JD;omega
 | no i hs h1 h2 i0 i1 hb hw hv hval=>
  have H:=T.d7 _ (mK hs);refine uw _ H.t.1 H.t.2 _ (fun z=>?_) (fun z=>?_)
  .rw[z]at i1 hb hw;exact ah5 u0 c0 h hne i0 i1 hb hw
  .rw[z]at JD;rw[n_ ⟨u0,by omega⟩ u0,ak rfl]at JD;dsimp only at JD;omega
 | lay p hs h1 h2 p0 p1 hw hv=>exact oI p _ p0 p1 (vA hw c0) (vA hw u0)
 | oS p y hs h1 h2 p0 p1 hw hv=>
  refine oI p _ p0 p1 (fun z=>?_) (fun z=>?_)
  .have:=(tM (hw.symm.trans z)).1;rw[this]at h2;exact h2 h.1
  .have:=(tM (hw.symm.trans z)).1;rw[this]at h2;exact h2 hU
def sw(m:aU)(n:Nat)(t u:Int):Prop:=nW m t u\/∃v:Int,0<=v/\v<n/\v≠t/\v≠u/\nW m t v/\nW m v u
def Live(m:aH):Prop:=∀t:Int,0<=t->t<m.2.1.length->∀k k',(ai m t).2.2.2.2.1=[k,k']->k'.1≠t/\(k'.2.1=(aq m.1 k'.1).1->(aq m.1 k'.1).2.1=1->sw m.1 m.2.1.length t k'.1)
theorem aaR{m:aH}(I:Inv m){t:Int}(t0:0<=t)(t1:t<m.2.1.length){a:aU}{x:cN}(K:Kind m t a x){u w:Int}(u0:0<=u)(u1:u<m.2.1.length)(w0:0<=w)(w1:w<m.2.1.length)(hne:u≠w)
  (hw:(aq m.1 w).2.1=1) (iW:(aq a w).2.1=1) (h:sw m.1 m.2.1.length u w):sw a m.2.1.length u w:=by
 rcases h with h | ⟨v,v0,v1,vu,vw,h1,h2⟩
 .exact .inl (UI I t0 t1 K u0 u1 w0 w1 hne hw iW h)
 .have k2:=UI I t0 t1 K v0 v1 w0 w1 vw hw iW h2;exact .inr ⟨v,v0,v1,vu,vw,UI I t0 t1 K u0 u1 v0 v1 vu.symm h2.1 k2.1 h1,k2⟩
theorem A9{m:aH}(I:Inv m){t:Int}(t0:0<=t)(t1:t<m.2.1.length){a:aU}{x:cN}(K:Kind m t a x){w:Int}(w0:0<=w)(w1:w<m.2.1.length)(iW:(aq a w).2.1=1) :
  (w=t/\(aq a w).1=(aq m.1 w).1+1)\/((aq a w).1=(aq m.1 w).1/\(aq m.1 w).2.1=1):=by
 have mu:=I.mem.dw;have T:=I.th t t0 t1;cases K with
 | zp=>exact .inr ⟨rfl,iW⟩
 | push=>exact .inr ⟨rfl,iW⟩
 | got=>exact .inr ⟨rfl,iW⟩
 | now=>exact .inr ⟨rfl,iW⟩
 | qK=>exact .inr ⟨rfl,iW⟩
 | mD=>exact .inr ⟨rfl,iW⟩
 | swap=>exact .inr ⟨rfl,iW⟩
 | pX=>exact .inr ⟨rfl,iW⟩
 | pW=>exact .inr ⟨rfl,iW⟩
 | CN=>exact .inr ⟨rfl,iW⟩
 | lay=>exact .inr ⟨rfl,iW⟩
 | oS=>exact .inr ⟨rfl,iW⟩
 | new q E r ho hs hv=>
  rw[n_ ⟨t0,by omega⟩ w0]at iW⊢;by_cases z:w=t
  .rw[ak z,z];exact .inl ⟨rfl,rfl⟩
  .rw[af z]at iW⊢;exact .inr ⟨rfl,iW⟩
 | yes hs h1 h2 h3=>
  have H:=T.d7 _ (mK hs);rw[n_ ⟨H.t.1,by have:=H.t.2;omega⟩ w0]at iW⊢;by_cases z:w=(au (ai m t)).1
  .rw[ak z]at iW;dsimp only at iW;omega
  .rw[af z]at iW⊢;exact .inr ⟨rfl,iW⟩
 | no i hs h1 h2 i0 i1 hb hw hv hval=>
  have H:=T.d7 _ (mK hs);rw[n_ ⟨H.t.1,by have:=H.t.2;omega⟩ w0]at iW⊢;by_cases z:w=(au (ai m t)).1
  .rw[ak z]at iW;dsimp only at iW;omega
  .rw[af z]at iW⊢;exact .inr ⟨rfl,iW⟩
theorem ab1{m m':aH}(I:Inv m)(L:Live m){t:Int}(t0:0<=t)(t1:t<m.2.1.length){a:aU}{x:cN}(K:Kind m t a x)(G:jM m m' t a x):Live m':=by
 intro u u0 u1 k k' hk;rw[G.n]at u1⊢;rw[G.mem];rw[G.ai u u0]at hk;have keep:∀{k':gx},bW m.1 m.2.1.length k'->k'.1≠u->(k'.2.1=(aq m.1 k'.1).1->(aq m.1 k'.1).2.1=1->sw m.1 m.2.1.length u k'.1)->(k'.2.1=(aq a k'.1).1->(aq a k'.1).2.1=1->sw a m.2.1.length u k'.1):=by
  intro k' H hn hc e1 e2;rcases A9 I t0 t1 K H.t.1 H.t.2 e2 with⟨_,z⟩ | ⟨z,z2⟩
  .have:=H.seq.2;omega
  .exact aaR I t0 t1 K u0 u1 H.t.1 H.t.2 hn.symm z2 e2 (hc (by omega) z2)
 by_cases hu:u=t
 .rw[ak hu]at hk;subst hu;have T:=I.th u u0 u1;have hsame:∀{h':gx},(ai m u).2.2.2.2.1≠[]->(ko (ai m u) h').2.2.2.2.1=[k,k']->(ai m u).2.2.2.2.1=[k,au (ai m u)]/\k'=h':=by
   intro h' hs e;unfold ko at e;dsimp only at e;rcases T.st with z | ⟨q,z⟩ | ⟨q,q',z,zt⟩
   .exact absurd z hs
   .rw[z]at e;cases e
   .rw[z]at e⊢;simp only[cw,gB,F9,BX,eZ]at e;refine⟨?_,e.2.1.symm⟩;rw[e.1];unfold au;rw[z];rfl
  have iL:∀{h':gx},(ko (ai m u) h').2.2.2.2.1=[k,k']->(ai m u).2.2.2.2.1≠[]->h'.1=(au (ai m u)).1->h'.2.1=(au (ai m u)).2.1->k'.1≠u/\(k'.2.1=(aq a k'.1).1->(aq a k'.1).2.1=1->sw a m.2.1.length u k'.1):=by intro h' e hs e1 e2;obtain⟨z,rfl⟩:=hsame hs e;have l:=L u u0 u1 _ _ z;rw[e1,e2];exact⟨l.1,keep (T.d7 _ (mK hs)) l.1 l.2⟩
  have hst:(ai m u).2.2.2.2.1=[k,k']->k'.1≠u/\(k'.2.1=(aq a k'.1).1->(aq a k'.1).2.1=1->sw a m.2.1.length u k'.1):=fun e=>by
   have l:=L u u0 u1 _ _ e;exact⟨l.1,keep (T.d7 _ (by rw[e];simp)) l.1 l.2⟩
  cases K with
  | zp h=>exact hst hk
  | got q ho hs=>exact hst hk
  | now=>cases hk
  | pW=>cases hk
  | CN=>cases hk
  | new q E r ho hs hv=>have e:(ai m u).2.2.2.2.1++[(u,(aq m.1 u).1+1,0,0,())]=[k,k']:=hk;rw[hs]at e;cases e
  | qK hs hne _=>have e:(ai m u).2.2.2.2.1.take ((ai m u).2.2.2.2.1.length-1)=[k,k']:=hk;have e2:=eg List.length e;rw[eH]at e2;simp only[cw,gB]at e2;rcases T.st with z | ⟨q,z⟩ | ⟨q,q',z,zt⟩<;>rw[z]at e2<;>simp at e2
  | yes hs h1 h2 h3=>exact hst hk
  | no i hs h1 h2 i0 i1 hb hw hv hval=>exact hst hk
  | mD hs h1 h2=>exact iL hk hs rfl rfl
  | pX hs h1 h2=>exact iL hk hs rfl rfl
  | lay p hs h1 h2 p0 p1 hw hv=>exact iL hk hs rfl rfl
  | oS p y hs h1 h2 p0 p1 hw hv=>exact iL hk hs rfl rfl
  | push v p ho hs v0 v1 vt vo p0 p1 hw=>
   have e:(ai m u).2.2.2.2.1++[(v,(aq m.1 v).1,0,0,())]=[k,k']:=hk;rcases hs with hs | ⟨q,hs,qt,Ye⟩
   .rw[hs]at e;cases e
   .rw[hs]at e;simp only[fH,gA,eZ]at e;rw[<-e.2.1];exact⟨vt,fun _ _=>.inl Ye⟩
  | swap v hs h1 h2 hne vh v0 v1 vo f9=>
   obtain⟨z,rfl⟩:=hsame hs hk;have l:=L u u0 u1 _ _ z;have H:=T.d7 _ (mK hs);have n3:=I.n.2;have hc:=l.2 h1 h2;generalize hh:au (ai m u)=h at *;have a0:=H.t.1;have a1:=H.t.2;have vu:v≠u:=fun q=>by
    subst q;rcases hc with c | ⟨w,w0,w1,wu,wh,c1,c2⟩
    .exact Vt I u0 u1 a0 a1 c f9 hne.symm
    .exact no3 I u0 u1 w0 w1 a0 a1 c1 c2 f9 wu.symm wh hne
   refine⟨vu,fun _ _=>?_⟩;rcases hc with c | ⟨w,w0,w1,wu,wh,c1,c2⟩
   .exact .inr ⟨h.1,a0,a1,hne,vh.symm,c,f9⟩
   .exfalso;have:v=w:=by omega
    subst this;exact Vt I w0 w1 a0 a1 c2 f9 wh
 .rw[af hu]at hk;have l:=L u u0 u1 _ _ hk;exact⟨l.1,keep ((I.th u u0 u1).d7 _ (by rw[hk];simp)) l.1 l.2⟩
theorem BO{m:aH}(I:Inv m){U:Int}(u0:0<=U)(u1:U<m.2.1.length):(∀g∈gt m U,0<=g.1/\g.1<20)/\(gt m U).length<=8:=by
 have T:=I.th U u0 u1;unfold gt;cases h:(ai m U).2.2.1 with
 | true=>obtain⟨_,h2,h3⟩:=KG (T.op h) T.got (T.along h);exact⟨fun g hg=>h2 g.1 (eI.2 ⟨g,hg,rfl⟩),h3⟩
 | false=>rw[(T.off h).1];exact⟨fun g hg=>by simp at hg,by simp⟩
theorem J3{m a:aU}{G:dL}(hv:∀p:Int,0<=p->p<20->fY a p=fY m p)(hg:∀g∈G,0<=g.1/\g.1<20):bad a G↔bad m G:=
 ⟨fun⟨x,hx,e⟩=>⟨x,hx,by rw[<-hv _ (hg x hx).1 (hg x hx).2];exact e⟩,fun⟨x,hx,e⟩=>⟨x,hx,by rw[hv _ (hg x hx).1 (hg x hx).2];exact e⟩⟩
theorem Sz{m:aU}{G:dL}(q:Int):bad m (G++[(q,fY m q,())])↔bad m G:=
 ⟨fun⟨x,hx,e⟩=>by
  rcases bN.1 hx with h | h
  .exact⟨x,h,e⟩
  .rw[d9]at h;subst h;exact absurd rfl e,fun⟨x,hx,e⟩=>⟨x,AL _ hx,e⟩⟩
theorem ak_{m:aH}(I:Inv m){u:Int}(u0:0<=u)(u1:u<m.2.1.length)(hs:(aq m.1 u).2.1=1){i:Int}(i0:0<=i)(i1:i<(aq m.1 u).2.2.1.length)(hw:(wd m.1 (qi (aq m.1 u).2.2.1 i).1).2.1=0)
  (hv:(wd m.1 (qi (aq m.1 u).2.2.1 i).1).1≠(qi (aq m.1 u).2.2.1 i).2.1):bad m.1 (gt m u):=by
 have hown:bx m u:=I.mem.jQ u u0 u1 hs;have T:=I.th u u0 u1;have oG:=T.nt hown;have ho:=T.op oG;obtain⟨hp,dz,hl,hr⟩:=T.plan hown;have he:=Mv i0 i1;rw[hl]at he;obtain⟨g,hg,e1,e2⟩:=(Bo ho T.got (T.along oG) hp dz).2.1 _ he;rw[<-hl]at e1 e2;exact⟨g,hg,by rw[e1,e2,vk hw];exact hv⟩
theorem HQ{x:cN}{t:Int}{h':gx}(hs:x.2.2.2.2.1=[]\/∃k,x.2.2.2.2.1=[k]/\k.1=t)(hv:h'.1≠t):bD (rf x h') t=bD x t:=by
 unfold rf bD;dsimp only;rcases hs with hs | ⟨q,hs,qt⟩
 .rw[hs];simp[hv]
 .rw[hs];rfl
theorem H6{m:aU}{n:Nat}{x:cN}{t:Int}(T:jt m n x t)(hs:x.2.2.2.2.1≠[])(hne:(au x).1≠t):bD (jg x) t=bD x t:=by
 unfold jg bD;dsimp only;rcases T.st with z | ⟨q,z⟩ | ⟨q,q',z,zt⟩
 .exact absurd z hs
 .have:au x=q:=by unfold au;rw[z];rfl
  rw[this]at hne;rw[z];simp[hne]
 .rw[z];rfl
theorem J2{m:aU}{n:Nat}{x:cN}{t:Int}(T:jt m n x t){h':gx}(hs:x.2.2.2.2.1≠[])(e:h'.1=t↔(au x).1=t):bD (ko x h') t=bD x t:=by
 unfold ko bD;rcases T.st with z | ⟨q,z⟩ | ⟨q,q',z,zt⟩
 .exact absurd z hs
 .have:au x=q:=by unfold au;rw[z];rfl
  rw[this]at e;dsimp only;rw[z];simp only[cw,gB,BX];exact decide_eq_decide.2 e
 .dsimp only;rw[z];rfl
theorem Dz{m:aU}{n:Nat}{x:cN}{t:Int}(T:jt m n x t)(hs:x.2.2.2.2.1≠[])(b c:Int)(d:Int×Unit):bD (ko x ((au x).1,b,c,d)) t=bD x t:=J2 T hs i6
theorem G9{m:aH}{t:Int}(T:jt m.1 m.2.1.length (ai m t) t){v s:Int}(hs:(ai m t).2.2.2.2.1≠[])(hne:(au (ai m t)).1≠t)(vo:bx m v):bD (ko (ai m t) (v,s,0,0,())) t=bD (ai m t) t:=by
 rcases T.st with z | ⟨q,z⟩ | ⟨q,q',z,zt⟩
 .exact absurd z hs
 .refine J2 T hs ⟨fun e=>?_,fun e=>absurd e hne⟩;have:au (ai m t)=q:=by unfold au;rw[z];rfl
  rw[this]at hne;dsimp only at e;subst e;unfold bx bD at vo;rw[z]at vo;exact absurd (by simpa using vo) hne
 .unfold ko bD;dsimp only;rw[z];rfl
section
variable {m m':aH} (I:Inv m) {t:Int} (t0:0<=t) (t1:t<m.2.1.length) {a:aU} {x:cN} (K:Kind m t a x) (G:jM m m' t a x)
include I t0 t1 K G
theorem FC(hl:∀U:Int,0<=U->U<m.2.1.length->lf m' U=lf m U)(hy:∀U:Int,0<=U->U<m.2.1.length->(lM m' U↔lM m U))(hs:∀U:Int,0<=U->U<m.2.1.length->(pM m' U↔pM m U)){U:Int}(u0:0<=U)(u1:U<m.2.1.length):AA m' U=AA m U:=by unfold AA;rw[G.n,hl U u0 u1,xX (hs U u0 u1),Ir (f:=Yv m') (g:=Yv m) fun V a b _=>by unfold Yv;rw[hl V a b,xX (hy V a b)]]
theorem EI(U:Int)(u0:0<=U)(hU:U≠t):ai m' U=ai m U:=by rw[G.ai U u0,af hU]
theorem wD:ai m' t=x:=by rw[G.ai t t0,ak rfl]
theorem Cz(hv:∀p:Int,0<=p->p<20->fY a p=fY m.1 p)(hd:∀U:Int,0<=U->U<m.2.1.length->aq a U=aq m.1 U)
  (ho:bD x t=bD (ai m t) t/\x.1=(ai m t).1/\x.2.1=(ai m t).2.1/\(x.2.2.2.1=(ai m t).2.2.2.1\/∃q,0<=q/\q<20/\x.2.2.2.1=(ai m t).2.2.2.1++[(q,fY m.1 q,())])) {U:Int} (u0:0<=U) (u1:U<m.2.1.length):AA m' U=AA m U:=by
 have hO:=EI I t0 t1 K G;have hS:=wD I t0 t1 K G;have hown:∀U:Int,0<=U->(bx m' U↔bx m U):=fun U u0=>by
  unfold bx;by_cases q:U=t
  .rw[q,hS,ho.1]
  .rw[hO U u0 q]
 have Ee:∀U:Int,0<=U->U<m.2.1.length->(bad m'.1 (gt m' U)↔bad m.1 (gt m U)):=fun U u0 u1=>by
  have hr:=(BO I u0 u1).1;rw[G.mem];by_cases q:U=t
  .subst q;unfold gt at hr⊢;rw[hS];rcases ho.2.2.2 with e | ⟨q,q0,q1,e⟩
   .rw[e];exact J3 hv hr
   .rw[e];refine(J3 hv fun g hg=>?_).trans (Sz q);rcases bN.1 hg with h | h
    .exact hr g h
    .rw[d9]at h;rw[h];exact⟨q0,q1⟩
  .unfold gt at hr⊢;rw[hO U u0 q];exact J3 hv hr
 have hy:∀U:Int,0<=U->U<m.2.1.length->(lM m' U↔lM m U):=fun U u0 u1=>by
  unfold lM;rw[hown U u0,G.mem,hd U u0 u1]
 refine FC I t0 t1 K G (fun U u0 u1=>?_) hy (fun U u0 u1=>?_) u0 u1
 .unfold lf;by_cases q:U=t
  .rw[q,hS,ho.2.1,ho.2.2.1]
  .rw[hO U u0 q]
 .unfold pM;rw[hy U u0 u1,hown U u0,Ee U u0 u1,G.mem,hd U u0 u1]
theorem Cy(ha:a=m.1)(hx:x.2.2.2=([],[],()))(hl:x.1=(ai m t).1)(he:x.2.1=(ai m t).2.1+1\/(x.2.1=(ai m t).2.1/\bx m t/\(aq m.1 t).2.1=3)) :
  AA m' t+1<=AA m t/\∀U:Int,0<=U->U<m.2.1.length->U≠t->AA m' U<=AA m U:=by
 have hO:=EI I t0 t1 K G;have hS:=wD I t0 t1 K G;have hno:¬ bx m' t:=by unfold bx bD;rw[hS,hx];simp
 have Vg:¬ lM m' t:=fun z=>hno z.1;have vU:¬ pM m' t:=by
  rintro(z | ⟨_,g,hg,_⟩)
  .exact hno z.1
  .unfold gt at hg;rw[hS,hx]at hg;simp at hg
 have hlt:lf m' t=lf m t-(x.2.1-(ai m t).2.1):=by unfold lf;rw[hS,hl];omega
 have hlU:∀U:Int,0<=U->U≠t->lf m' U=lf m U:=fun U u0 q=>by unfold lf;rw[hO U u0 q]
 have zH:∀U:Int,0<=U->U≠t->(lM m' U↔lM m U):=fun U u0 q=>by unfold lM bx;rw[hO U u0 q,G.mem,ha]
 have hsU:∀U:Int,0<=U->U≠t->(pM m' U↔pM m U):=fun U u0 q=>by unfold pM bx gt;rw[zH U u0 q,hO U u0 q,G.mem,ha]
 have hYt:Yv m' t<=Yv m t:=by
  unfold Yv;rw[hlt,o8 Vg];have:=nT (lM m t);rcases he with e | ⟨e,e2,e3⟩
  .omega
  .rw[o8 (fun z:lM m t=>by have:=z.2;omega)];omega
 have Lg:∀U:Int,0<=U->U≠t->Yv m' U=Yv m U:=fun U u0 q=>by unfold Yv;rw[hlU U u0 q,xX (zH U u0 q)]
 refine⟨?_,fun U u0 u1 hU=>?_⟩
 .unfold AA;rw[G.n,o8 vU,hlt,Ir (f:=Yv m') (g:=Yv m) fun V a b q=>Lg V a q];have:=nT (pM m t);rcases he with e | ⟨e,e2,e3⟩
  .omega
  .rw[we (show pM m t from .inl ⟨e2,e3⟩)];omega
 .unfold AA;rw[G.n,xX (hsU U u0 hU),hlU U u0 hU];have:=Kb (n:=m.2.1.length) (T:=U) (f:=Yv m') (g:=Yv m) fun V a b _=>by
   by_cases q:V=t
   .rw[q];exact hYt
   .exact kD (Lg V a q)
  omega
theorem akU(hx:x=ai m t)(hs:(ai m t).2.2.2.2.1≠[])(h1:(au (ai m t)).2.1=(aq m.1 (au (ai m t)).1).1)(h2:(aq m.1 (au (ai m t)).1).2.1=1)
  (h3:∀i:Int,0<=i->i<(aq m.1 (au (ai m t)).1).2.2.1.length->wd m.1 (qi (aq m.1 (au (ai m t)).1).2.2.1 i).1=dM (au (ai m t)).1 (aq m.1 (au (ai m t)).1).1)
  (ha:a=bJ m.1 (au (ai m t)).1 ((aq m.1 (au (ai m t)).1).1,2,(aq m.1 (au (ai m t)).1).2.2)):∀U:Int,0<=U->U<m.2.1.length->AA m' U<=AA m U:=by
 have mu:=I.mem.dw;have T:=I.th t t0 t1;have H:=T.d7 _ (mK hs);have hO:∀U:Int,0<=U->ai m' U=ai m U:=fun U u0=>by
  rw[G.ai U u0];by_cases q:U=t
  .rw[ak q,hx,q]
  .rw[af q]
 have w0:=H.t.1;have w1:=H.t.2;clear H;generalize (au (ai m t)).1=u at *;have hd:∀v:Int,0<=v->aq a v=if v=u then ((aq m.1 u).1,2,(aq m.1 u).2.2) else aq m.1 v:=fun v v0=>by rw[ha];exact n_ ⟨w0,by omega⟩ v0
 have hown:∀U:Int,0<=U->(bx m' U↔bx m U):=fun U u0=>by unfold bx;rw[hO U u0]
 have ou:bx m u:=I.mem.jQ u w0 w1 h2;have hl:∀U:Int,0<=U->lf m' U=lf m U:=fun U u0=>by unfold lf;rw[hO U u0]
 have hyu:lM m' u:=⟨(hown u w0).2 ou,by rw[G.mem,hd u w0,ak rfl]⟩
 have hnu:¬ lM m u:=fun z=>by have:=z.2;omega
 have zH:∀U:Int,0<=U->U≠u->(lM m' U↔lM m U):=fun U u0 q=>by unfold lM;rw[hown U u0,G.mem,hd U u0,af q]
 have hYu:Yv m' u+1<=Yv m u:=by unfold Yv;rw[hl u w0,we hyu,o8 hnu];omega
 have Lg:∀U:Int,0<=U->U≠u->Yv m' U=Yv m U:=fun U u0 q=>by unfold Yv;rw[hl U u0,xX (zH U u0 q)]
 intro U u0 u1;unfold AA;rw[G.n,hl U u0];by_cases q:U=u
 .have e1:¬ pM m' U:=by
   rintro(z | ⟨z,_⟩)
   .have:=z.2;rw[G.mem,hd U u0,ak q]at this;dsimp only at this;omega
   .exact z (q ▸ hyu)
  rw[o8 e1,Ir (f:=Yv m') (g:=Yv m) fun V b _ d=>Lg V b (by rw[<-q];exact d)];have:=nT (pM m U);omega
 .have e1:=BC (n:=m.2.1.length) I.n.2 (T:=U) (V:=u) (d:=1) (f:=Yv m') (g:=Yv m) w0 w1 (fun z=>q z.symm) hYu (fun V b _ _ d=>kD (Lg V b d));have:=nT (pM m U);have:=nT (pM m' U);omega
theorem akO(hx:x=ai m t)(hs:(ai m t).2.2.2.2.1≠[])(h2:(aq m.1 (au (ai m t)).1).2.1=1)(Ee:bad m.1 (gt m (au (ai m t)).1))
  (ha:a=bJ m.1 (au (ai m t)).1 ((aq m.1 (au (ai m t)).1).1,3,(aq m.1 (au (ai m t)).1).2.2)) (hv:∀q:Int,0<=q->q<20->fY a q=fY m.1 q):∀U:Int,0<=U->U<m.2.1.length->AA m' U=AA m U:=by
 have mu:=I.mem.dw;have T:=I.th t t0 t1;have H:=T.d7 _ (mK hs);have hO:∀U:Int,0<=U->ai m' U=ai m U:=fun U u0=>by
  rw[G.ai U u0];by_cases q:U=t
  .rw[ak q,hx,q]
  .rw[af q]
 have w0:=H.t.1;have w1:=H.t.2;clear H;generalize (au (ai m t)).1=u at *;have hd:∀v:Int,0<=v->aq a v=if v=u then ((aq m.1 u).1,3,(aq m.1 u).2.2) else aq m.1 v:=fun v v0=>by rw[ha];exact n_ ⟨w0,by omega⟩ v0
 have hown:∀U:Int,0<=U->(bx m' U↔bx m U):=fun U u0=>by unfold bx;rw[hO U u0]
 have ou:bx m u:=I.mem.jQ u w0 w1 h2;have zH:∀U:Int,0<=U->U<m.2.1.length->(lM m' U↔lM m U):=fun U u0 u1=>by
  unfold lM;rw[hown U u0,G.mem,hd U u0];by_cases q:U=u
  .rw[ak q,q];exact⟨fun z=>by have:=z.2;dsimp only at this;omega,fun z=>by have:=z.2;omega⟩
  .rw[af q]
 intro U u0 u1;refine FC I t0 t1 K G (fun U u0 u1=>by unfold lf;rw[hO U u0]) zH (fun U u0 u1=>?_) u0 u1;by_cases q:U=u
 .subst q;refine⟨fun _=>.inr ⟨fun z=>by have:=z.2;omega,Ee⟩,fun _=>.inl ⟨(hown U u0).2 ou,by rw[G.mem,hd U u0,ak rfl]⟩⟩
 .unfold pM;have e:gt m' U=gt m U:=by unfold gt;rw[hO U u0]
  rw[zH U u0 u1,hown U u0,G.mem,hd U u0,af q,e,J3 hv (BO I u0 u1).1]
theorem akT{q:Int}{E:List eB}{r:fC}(hs:(ai m t).2.2.2.2.1=[])(hq:0<=q/\q<20)(ha:a=bJ m.1 t ((aq m.1 t).1+1,1,E,r,()))(hv:∀p:Int,0<=p->p<20->fY a p=fY m.1 p)
  (hx:x=rf (rX (ai m t) ((ai m t).2.2.2.1++[(q,fY m.1 q,())])) (t,(aq m.1 t).1+1,0,0,())):∀U:Int,0<=U->U<m.2.1.length->AA m' U=AA m U:=by
 have mu:=I.mem.dw;have hO:=EI I t0 t1 K G;have hS:=wD I t0 t1 K G;have hd:∀v:Int,0<=v->aq a v=if v=t then ((aq m.1 t).1+1,1,E,r,()) else aq m.1 v:=fun v v0=>by rw[ha];exact n_ ⟨t0,by omega⟩ v0
 have hno:¬ bx m t:=by unfold bx;rw[zU hs];simp
 have Vg:¬ lM m' t:=fun z=>by have:=z.2;rw[G.mem,hd t t0,ak rfl]at this;dsimp only at this;omega
 have hnm:¬ lM m t:=fun z=>hno z.1;have zH:∀U:Int,0<=U->U<m.2.1.length->(lM m' U↔lM m U):=fun U u0 u1=>by
  by_cases w:U=t
  .rw[w];exact⟨fun z=>absurd z Vg,fun z=>absurd z hnm⟩
  .unfold lM bx;rw[hO U u0 w,G.mem,hd U u0,af w]
 intro U u0 u1;refine FC I t0 t1 K G (fun U u0 u1=>?_) zH (fun U u0 u1=>?_) u0 u1
 .unfold lf;by_cases w:U=t
  .rw[w,hS,hx];rfl
  .rw[hO U u0 w]
 .have hr:=(BO I u0 u1).1;by_cases w:U=t
  .subst w;have hb:bad m'.1 (gt m' U)↔bad m.1 (gt m U):=by
    have e:gt m' U=gt m U++[(q,fY m.1 q,())]:=by unfold gt;rw[hS,hx];rfl
    rw[e,G.mem];refine(J3 hv fun g hg=>?_).trans (Sz q);rcases bN.1 hg with h | h
    .exact hr g h
    .rw[d9]at h;rw[h];exact hq
   refine⟨fun z=>?_,fun z=>?_⟩
   .rcases z with z | z
    .have:=z.2;rw[G.mem,hd U u0,ak rfl]at this;dsimp only at this;omega
    .exact .inr ⟨hnm,hb.1 z.2⟩
   .rcases z with z | z
    .exact absurd z.1 hno
    .exact .inr ⟨Vg,hb.2 z.2⟩
  .unfold pM bx;have e:gt m' U=gt m U:=by unfold gt;rw[hO U u0 w]
   rw[zH U u0 u1,hO U u0 w,G.mem,hd U u0,af w,e,J3 hv hr]
theorem yf:∀U:Int,0<=U->U<m.2.1.length->AA m' U<=AA m U:=by
 have T:=I.th t t0 t1;have hK:=K;have one:AA m' t+1<=AA m t/\(∀U:Int,0<=U->U<m.2.1.length->U≠t->AA m' U<=AA m U)->∀U:Int,0<=U->U<m.2.1.length->AA m' U<=AA m U:=fun h U u0 u1=>by
  by_cases q:U=t
  .rw[q];omega
  .exact h.2 U u0 u1 q
 cases K with
 | zp h=>intro U u0 u1;exact kD (Cz I t0 t1 hK G (fun _ _ _=>rfl) (fun _ _ _=>rfl) ⟨rfl,rfl,rfl,.inl rfl⟩ u0 u1)
 | got q ho hs hq=>intro U u0 u1;exact kD (Cz I t0 t1 hK G (fun _ _ _=>rfl) (fun _ _ _=>rfl) ⟨rfl,rfl,rfl,.inr ⟨q,hq.1,hq.2,rfl⟩⟩ u0 u1)
 | push v p ho hs v0 v1 vt vo p0 p1 hw=>intro U u0 u1;exact kD (Cz I t0 t1 hK G (fun _ _ _=>rfl) (fun _ _ _=>rfl) ⟨HQ (hs.imp id fun⟨k,e,e2,_⟩=>⟨k,e,e2⟩) vt,rfl,rfl,.inl rfl⟩ u0 u1)
 | qK hs hne h=>intro U u0 u1;exact kD (Cz I t0 t1 hK G (fun _ _ _=>rfl) (fun _ _ _=>rfl) ⟨H6 T hs hne,rfl,rfl,.inl rfl⟩ u0 u1)
 | mD hs h1 h2=>intro U u0 u1;exact kD (Cz I t0 t1 hK G (fun _ _ _=>rfl) (fun _ _ _=>rfl) ⟨J2 T hs i6,rfl,rfl,.inl rfl⟩ u0 u1)
 | pX hs h1 h2=>intro U u0 u1;exact kD (Cz I t0 t1 hK G (fun _ _ _=>rfl) (fun _ _ _=>rfl) ⟨J2 T hs i6,rfl,rfl,.inl rfl⟩ u0 u1)
 | swap v hs h1 h2 hne vh v0 v1 vo f9=>intro U u0 u1;exact kD (Cz I t0 t1 hK G (fun _ _ _=>rfl) (fun _ _ _=>rfl) ⟨G9 T hs hne vo,rfl,rfl,.inl rfl⟩ u0 u1)
 | lay p hs h1 h2 p0 p1 hw hv=>intro U u0 u1;exact kD (Cz I t0 t1 hK G hv (fun _ _ _=>rfl) ⟨J2 T hs i6,rfl,rfl,.inl rfl⟩ u0 u1)
 | oS p y hs h1 h2 p0 p1 hw hv=>intro U u0 u1;exact kD (Cz I t0 t1 hK G hv (fun _ _ _=>rfl) ⟨J2 T hs i6,rfl,rfl,.inl rfl⟩ u0 u1)
 | yes hs h1 h2 h3=>exact akU I t0 t1 hK G rfl hs h1 h2 h3 rfl
 | no i hs h1 h2 i0 i1 hb hw hv hval=>have H:=T.d7 _ (mK hs);intro U u0 u1;exact kD (akO I t0 t1 hK G rfl hs h2 (ak_ I H.t.1 H.t.2 h2 i0 i1 hw hv) rfl hval U u0 u1)
 | new q E r ho hs hv hq=>intro U u0 u1;exact kD (akT I t0 t1 hK G hs hq rfl hv rfl U u0 u1)
 | now ho hs=>exact one (Cy I t0 t1 hK G rfl rfl rfl (.inl rfl))
 | pW hs h1 h2 h3=>exact one (Cy I t0 t1 hK G rfl rfl rfl (.inl rfl))
 | CN hs h1 h2 h3=>exact one (Cy I t0 t1 hK G rfl rfl rfl (.inr ⟨rfl,(J9 T hs h1).1,h2⟩))
end
theorem alz{m m':aH}{T U:Int}(ha:AA m' U<=AA m U)(hd:q_ m' T U->q_ m T U)(hc:qZ m T U->qZ m' T U)(hh:kR m T U<=kR m' T U):QQ m' T U<=QQ m T U:=by unfold QQ;have:=Cn hd;have:=Cn hc;omega
theorem Bs{m:aH}(I:Inv m){T:Int}{h:gx}(H:bW m.1 m.2.1.length h):1<=nc m T h/\nc m T h<=28/\(og m h/\(aq m.1 h.1).2.1=1->nc m T h<=19):=by
 unfold nc;have:=H.r7;have:=H.fin;have:=nT (Ay m T h.1);split
 .exact⟨by omega,by omega,fun _=>by omega⟩
 .next q=>exact⟨by omega,by omega,fun z=>absurd z q⟩
section
variable {m m':aH} (I:Inv m) {t:Int} (t0:0<=t) (t1:t<m.2.1.length) {a:aU} {x:cN} (K:Kind m t a x) (G:jM m m' t a x)
include I t0 t1 K G
theorem Co{U:Int}(u0:0<=U)(hU:U≠t):bx m' U↔bx m U:=by unfold bx;rw[EI I t0 t1 K G U u0 hU]
theorem J4{w:Int}(w0:0<=w)(w1:w<m.2.1.length):(aq a w).1=(aq m.1 w).1\/(w=t/\(aq a w).1=(aq m.1 w).1+1/\¬ bx m t):=by
 have mu:=I.mem.dw;have T:=I.th t t0 t1;cases K with
 | new q E r ho hs hv=>
  rw[n_ ⟨t0,by omega⟩ w0];by_cases z:w=t
  .rw[ak z,z];exact .inr ⟨rfl,rfl,by unfold bx;rw[zU hs];simp⟩
  .rw[af z];exact .inl rfl
 | yes hs h1 h2 h3=>
  have H:=T.d7 _ (mK hs);rw[n_ ⟨H.t.1,by have:=H.t.2;omega⟩ w0];by_cases z:w=(au (ai m t)).1
  .rw[ak z,z];exact .inl rfl
  .rw[af z];exact .inl rfl
 | no i hs h1 h2 i0 i1 hb hw hv hval=>
  have H:=T.d7 _ (mK hs);rw[n_ ⟨H.t.1,by have:=H.t.2;omega⟩ w0];by_cases z:w=(au (ai m t)).1
  .rw[ak z,z];exact .inl rfl
  .rw[af z];exact .inl rfl
 | _=>exact .inl rfl
theorem QO{w:Int}(w0:0<=w)(w1:w<m.2.1.length)(hs:(aq m.1 w).2.1≠1)(hq:(aq a w).1=(aq m.1 w).1)(h:vE a w):vE m.1 w:=by
 have hlen:=I.mem.len;obtain⟨p,p0,p1,e⟩:=h;rw[hq]at e;refine⟨p,p0,p1,?_⟩;cases K with
 | lay q lU h1 h2 q0 q1 hw hv=>
  rw[Fj (by omega) p0]at e;by_cases z:p=q
  .rw[ak z]at e;exact absurd h2 ((tM e).1 ▸ hs)
  .rw[af z]at e;exact e
 | oS q y lU h1 h2 q0 q1 hw hv=>
  rw[Fj (by omega) p0]at e;by_cases z:p=q
  .rw[ak z]at e;exact absurd e (vA rfl w0)
  .rw[af z]at e;exact e
 | _=>exact e
theorem Nq{w:Int}(w0:0<=w)(w1:w<m.2.1.length)(hs:(aq m.1 w).2.1≠1)(hown:bx m w):(aq a w).2.1≠1:=fun z=>by
 rcases A9 I t0 t1 K w0 w1 z with⟨rfl,e⟩ | ⟨_,e⟩
 .rcases J4 I t0 t1 K G w0 w1 with q | ⟨_,_,q⟩
  .omega
  .exact q hown
 .exact hs e
theorem GB{h:gx}(H:bW m.1 m.2.1.length h)(ha:og m' h):og m h:=by
 obtain⟨h1,h2⟩:=ha;rw[G.mem]at h2;have hq:=H.seq.2;rcases J4 I t0 t1 K G H.t.1 H.t.2 with q | ⟨_,q,_⟩
 .refine⟨?_,by omega⟩;by_cases z:h.1=t
  .rw[z]at h1 q⊢;have T:=I.th t t0 t1;unfold bx at h1⊢;rw[wD I t0 t1 K G]at h1;cases K with
   | zp=>exact h1
   | got=>exact h1
   | push v p ho hs v0 v1 vt vo p0 p1 hw=>rw[HQ (hs.imp id fun⟨k,e,e2,_⟩=>⟨k,e,e2⟩) vt]at h1;exact h1
   | qK hs hne h=>rw[H6 T hs hne]at h1;exact h1
   | mD hs t9 h2=>rw[Dz T hs]at h1;exact h1
   | pX hs t9 h2=>rw[Dz T hs]at h1;exact h1
   | lay p hs t9 h2=>rw[Dz T hs]at h1;exact h1
   | oS p y hs t9 h2=>rw[Dz T hs]at h1;exact h1
   | swap v hs t9 h2 hne vh v0 v1 vo f9=>rw[G9 T hs hne vo]at h1;exact h1
   | yes=>exact h1
   | no=>exact h1
   | new q' E r ho hs hv=>have mu:=I.mem.dw;rw[n_ ⟨t0,by omega⟩ t0,ak rfl]at q;dsimp only at q;omega
   | now=>simp[bD]at h1
   | pW=>simp[bD]at h1
   | CN=>simp[bD]at h1
  .exact(Co I t0 t1 K G H.t.1 z).1 h1
 .omega
theorem ak9{T:Int}{h:gx}(hT:0<=T/\T<m.2.1.length)(hne:h.1≠T)(H:bW m.1 m.2.1.length h):nc m T h<=nc m' T h:=by
 have hr:=(Bs (T:=T) I H).2.2;have hf:=H.fin;by_cases c:og m' h/\(aq m'.1 h.1).2.1=1
 .have c1:=GB I t0 t1 K G H c.1;have c2:=c.2;rw[G.mem]at c2;have c3:(aq m.1 h.1).2.1=1:=by
   rcases A9 I t0 t1 K H.t.1 H.t.2 c2 with⟨_,z⟩ | ⟨_,z⟩
   .have:=c.1.2;rw[G.mem]at this;have:=H.seq.2;omega
   .exact z
  unfold nc;rw[ak c,ak ⟨c1,c3⟩];have:ind (Ay m T h.1)<=ind (Ay m' T h.1):=Cn fun⟨C,a0,a1,n1,n2,s⟩=>⟨C,a0,by rw[G.n];exact a1,n1,n2,by rw[G.mem];exact UI I t0 t1 K a0 a1 H.t.1 H.t.2 n2 c3 c2 s⟩
  omega
 .by_cases d:og m h/\(aq m.1 h.1).2.1=1
  .have:=hr d;unfold nc at this⊢;rw[af c];omega
  .unfold nc;rw[af c,af d];exact fh _
theorem HJ{T:Int}{h:gx}(hT:0<=T/\T<m.2.1.length)(e:lR (ai m T) T=some h):bW m.1 m.2.1.length h/\h.1≠T:=by
 unfold lR at e;split at e
 .cases e
 .next q=>
  split at e
  .cases e
  .next q2=>cases e;exact⟨(I.th T hT.1 hT.2).d7 _ (mK q),q2⟩
theorem acB(ho:bx m t)(hn:¬ bx m' t):AA m' t+1<=AA m t:=by
 have T:=I.th t t0 t1;have hK:=K;unfold bx at ho hn;rw[wD I t0 t1 K G]at hn;cases K with
 | zp=>exact absurd ho hn
 | got=>exact absurd ho hn
 | push v p _ hs v0 v1 vt vo p0 p1 hw=>rw[HQ (hs.imp id fun⟨k,e,e2,_⟩=>⟨k,e,e2⟩) vt]at hn;exact absurd ho hn
 | qK hs hne h=>rw[H6 T hs hne]at hn;exact absurd ho hn
 | mD hs t9 h2=>rw[Dz T hs]at hn;exact absurd ho hn
 | pX hs t9 h2=>rw[Dz T hs]at hn;exact absurd ho hn
 | lay p hs t9 h2=>rw[Dz T hs]at hn;exact absurd ho hn
 | oS p y hs t9 h2=>rw[Dz T hs]at hn;exact absurd ho hn
 | swap v hs t9 h2 hne vh v0 v1 vo f9=>rw[G9 T hs hne vo]at hn;exact absurd ho hn
 | yes=>exact absurd ho hn
 | no=>exact absurd ho hn
 | new q' E r _ hs hv=>rw[zU hs]at ho;cases ho
 | now _ hs=>exact(Cy I t0 t1 hK G rfl rfl rfl (.inl rfl)).1
 | pW hs h1 h2 h3=>exact(Cy I t0 t1 hK G rfl rfl rfl (.inl rfl)).1
 | CN hs h1 h2 h3=>exact(Cy I t0 t1 hK G rfl rfl rfl (.inr ⟨rfl,(J9 T hs h1).1,h2⟩)).1
theorem ac_{T U:Int}(hT:0<=T/\T<m.2.1.length)(vQ:T≠t)(u0:0<=U)(u1:U<m.2.1.length)(hU:U≠T):QQ m' T U<=QQ m T U:=by
 have fK:=EI I t0 t1 K G T hT.1 vQ;have hA:=yf I t0 t1 K G U u0 u1;have hh:kR m T U<=kR m' T U:=by
  unfold kR;rw[fK];cases e:lR (ai m T) T with
  | none=>exact fh _
  | some h=>
   obtain⟨H,hne⟩:=HJ I t0 t1 K G hT e;dsimp only;split
   .exact ak9 I t0 t1 K G hT hne H
   .exact fh _
 have eS:wB m' T U->wB m T U:=fun⟨h,e,e2,e3⟩=>by
  rw[fK]at e;exact⟨h,e,e2,GB I t0 t1 K G (HJ I t0 t1 K G hT e).1 e3⟩
 -- zf try of U stays,or ends
 by_cases hend:bx m U/\¬ bx m' U
 .have Xm:U=t:=by
   by_cases q:U=t
   .exact q
   .exact absurd ((Co I t0 t1 K G u0 q).2 hend.1) hend.2
  have hA1:AA m' U+1<=AA m U:=by rw[Xm];exact acB I t0 t1 K G (Xm ▸ hend.1) (Xm ▸ hend.2)
  have Lm:¬ qZ m' T U:=fun z=>hend.2 z.1;unfold QQ;rw[o8 Lm];have b1:=nT (q_ m' T U);have b2:=nT (qZ m T U);have b3:=nT (q_ m T U);by_cases hp:wB m T U
  .rw[o8 (fun z:qZ m T U=>z.2.2.2 hp)];omega
  .have hd:q_ m' T U->q_ m T U:=fun⟨h,e,e2,e3⟩=>by
    rw[fK]at e;exact⟨h,e,e2,fun z=>hp ⟨h,e,e2,z⟩⟩
   have:=Cn hd;omega
 .have hkeep:bx m U->bx m' U:=fun z=>by
   by_cases q:bx m' U
   .exact q
   .exact absurd ⟨z,q⟩ hend
  refine alz hA (fun⟨h,e,e2,e3⟩=>?_) (fun⟨c1,c2,c3,c4⟩=>?_) hh
  .rw[fK]at e;have H:=(HJ I t0 t1 K G hT e).1;refine⟨h,e,e2,fun z=>e3 ⟨by rw[e2];exact hkeep (e2 ▸ z.1),?_⟩⟩;rw[G.mem];rcases J4 I t0 t1 K G H.t.1 H.t.2 with q | ⟨q1,_,q3⟩
   .rw[q];exact z.2
   .exact absurd (q1 ▸ z.1) q3
  .have hs:=Nq I t0 t1 K G u0 u1 c2 c1;have hq:(aq a U).1=(aq m.1 U).1:=by
    rcases J4 I t0 t1 K G u0 u1 with q | ⟨q1,_,q3⟩
    .exact q
    .exact absurd (q1 ▸ c1) q3
   exact⟨hkeep c1,by rw[G.mem];exact hs,fun z=>c3 (QO I t0 t1 K G u0 u1 c2 hq (by rw[<-G.mem];exact z)),fun z=>c4 (eS z)⟩
theorem ac8{T:Int}(hT:0<=T/\T<m.2.1.length)(vQ:T≠t):PP m' T<=PP m T:=by
 have fK:=EI I t0 t1 K G T hT.1 vQ;have hA:=yf I t0 t1 K G T hT.1 hT.2;have hs:ind ((aq m.1 T).2.1≠1)<=ind ((aq m'.1 T).2.1≠1):=Cn fun z=>by
  rw[G.mem];intro q;rcases A9 I t0 t1 K hT.1 hT.2 q with⟨w,_⟩ | ⟨_,w⟩
  .exact vQ w
  .exact z w
 have ho:o4 m T<=o4 m' T:=by
  unfold o4;rw[fK];cases (ai m T).2.2.2.2.1 with
  | nil=>exact fh _
  | cons h r=>
   dsimp only;split
   .omega
   .exact fh _
 unfold PP ki gt;rw[fK];omega
theorem abH{T:Int}(hT:0<=T/\T<m.2.1.length)(vQ:T≠t):iS m' T<=iS m T:=by unfold iS;rw[G.n];have:=ac8 I t0 t1 K G hT vQ;have:=Kb (n:=m.2.1.length) (T:=T) (f:=QQ m' T) (g:=QQ m T) fun U a b c=>ac_ I t0 t1 K G hT vQ a b c;omega
end
theorem IM{m:aH}(I:Inv m){U:Int}(u0:0<=U)(u1:U<m.2.1.length):0<=lf m U/\(bx m U->1<=lf m U)/\((ai m U).2.2.1=true->1<=lf m U):=by have T:=I.th U u0 u1;have:=T.pc;unfold lf;exact⟨by omega,fun h=>by have:=T.on (T.nt h);omega,fun h=>by have:=T.on h;omega⟩
theorem N5{m:aH}(I:Inv m){U:Int}(u0:0<=U)(u1:U<m.2.1.length):lf m U<=AA m U:=by
 have h:=QI (n:=m.2.1.length) (T:=U) (f:=Yv m) fun V a b _=>by
  have:=IM I a b;unfold Yv;by_cases q:lM m V
  .have:=this.2.1 q.1;rw[we q];omega
  .rw[o8 q];omega
 have:=nT (pM m U);unfold AA;omega
theorem NR{m:aH}(I:Inv m){T:Int}(hT:0<=T/\T<m.2.1.length):0<=ki m T/\ki m T<=27/\((ai m T).2.2.1=false->ki m T=0):=by
 have X:=I.th T hT.1 hT.2;have hg:=(BO I hT.1 hT.2).2;have hi:=nT ((ai m T).2.2.1=true);have ha:0<=o4 m T/\o4 m T<=18:=by
  unfold o4;have hh:=X.d7;revert hh;cases (ai m T).2.2.2.2.1 with
  | nil=>intro _;exact⟨fh _,show(0:Int)<=18 by decide⟩
  | cons h r=>intro hh;have H:=hh h e8;have:=H.r7;have:=H.fin;have:=nT ((aq m.1 T).2.1≠1);dsimp only;split<;>omega
 refine⟨by unfold ki;omega,by unfold ki;omega,fun h=>?_⟩;have z:=X.off h;unfold ki o4 gt;rw[z.1,z.2,o8 (fun q=>by rw[h]at q;cases q)];rfl
theorem abL{m:aH}(I:Inv m){T:Int}(hT:0<=T/\T<m.2.1.length):0<=PP m T:=by
 have h1:=NR I hT;have h2:=N5 I hT.1 hT.2;have h3:=IM I hT.1 hT.2;unfold PP;cases h:(ai m T).2.2.1 with
 | true=>have:=h3.2.2 h;omega
 | false=>have:=h1.2.2 h;omega
theorem abM{m:aH}(I:Inv m){T U:Int}(hT:0<=T/\T<m.2.1.length)(u0:0<=U)(u1:U<m.2.1.length):0<=QQ m T U:=by
 have h2:=N5 I u0 u1;have h3:=IM I u0 u1;have b1:=nT (q_ m T U);have hc:ind (qZ m T U)<=AA m U:=by
  by_cases q:qZ m T U
  .have:=h3.2.1 q.1;rw[we q];omega
  .rw[o8 q];omega
 have hp:kR m T U<=28/\(kR m T U<=0\/q_ m T U\/wB m T U):=by
  unfold kR;cases e:lR (ai m T) T with
  | none=>exact⟨show(0:Int)<=28 by decide,.inl (fh _)⟩
  | some h=>
   have H:bW m.1 m.2.1.length h:=by
    unfold lR at e;split at e
    .cases e
    .next q=>
     split at e
     .cases e
     .cases e;exact(I.th T hT.1 hT.2).d7 _ (mK q)
   dsimp only;split
   .next q=>
    refine⟨(Bs I H).2.1,.inr ?_⟩;by_cases z:og m h
    .exact .inr ⟨h,e,q,z⟩
    .exact .inl ⟨h,e,q,z⟩
   .exact⟨by decide,.inl (fh _)⟩
 unfold QQ;rcases hp.2 with q | q | q
 .omega
 .rw[we q];omega
 .rw[o8 (fun z:qZ m T U=>z.2.2.2 q)];have:1<=lf m U:=by obtain⟨h,_,e,z⟩:=q;exact h3.2.1 (e ▸ z.1)
  omega
theorem abg{m:aH}(I:Inv m){T:Int}(hT:0<=T/\T<m.2.1.length):0<=iS m T:=by have:=abL I hT;have:=QI (n:=m.2.1.length) (T:=T) (f:=QQ m T) fun U a b _=>abM I hT a b;unfold iS;omega
theorem v9{x:cN}{t:Int}(h:x.2.2.2.2.1=[]):lR x t=none:=by unfold lR;rw[ak h]
theorem yP{x:cN}{t:Int}(h:(au x).1=t):lR x t=none:=by unfold lR;rw[ak h];split<;>rfl
theorem zX{x:cN}{t:Int}(hs:x.2.2.2.2.1≠[])(h:(au x).1≠t):lR x t=some (au x):=by unfold lR;rw[af hs,af h]
theorem HS{x:cN}(hs:x.2.2.2.2.1≠[])(h':gx):au (ko x h')=h'/\(ko x h').2.2.2.2.1≠[]:=by
 have hl:0<x.2.2.2.2.1.length:=pH.2 hs;constructor
 .unfold au ko;dsimp only;rw[b9,qv (by rw[b9];omega),List.getElem_set_self]
 .unfold ko;dsimp only;intro e;have:=eg List.length e;rw[b9]at this;exact hs (lE.1 this)
theorem M6(x:cN)(h':gx):au (rf x h')=h'/\(rf x h').2.2.2.2.1≠[]:=by
 constructor
 .unfold au rf;dsimp only;rw[qv (by simp)];simp
 .unfold rf;dsimp only;simp
section
variable {m m':aH} (I:Inv m) {t:Int} (t0:0<=t) (t1:t<m.2.1.length) {a:aU} {x:cN} (K:Kind m t a x) (G:jM m m' t a x)
include I t0 t1 K G
theorem Fh{U d:Int}(u0:0<=U)(u1:U<m.2.1.length)(hU:U≠t)(hd:q_ m' t U->q_ m t U)(hh:wB m' t U->wB m t U\/vE m.1 U)(hp:kR m t U+d<=kR m' t U):QQ m' t U+d<=QQ m t U:=by
 have hA:=yf I t0 t1 K G U u0 u1;have h1:=Cn hd;have h2:ind (qZ m t U)<=ind (qZ m' t U):=Cn fun⟨c1,c2,c3,c4⟩=>by
  have hs:=Nq I t0 t1 K G u0 u1 c2 c1;have hq:(aq a U).1=(aq m.1 U).1:=by
   rcases J4 I t0 t1 K G u0 u1 with q | ⟨q1,_,q3⟩
   .exact q
   .exact absurd (q1 ▸ c1) q3
  exact⟨(Co I t0 t1 K G u0 hU).2 c1,by rw[G.mem];exact hs,fun z=>c3 (QO I t0 t1 K G u0 u1 c2 hq (by rw[<-G.mem];exact z)),fun z=>(hh z).elim c4 c3⟩
 unfold QQ;omega
theorem Cw(h1:lR (ai m t) t=none)(h2:lR x t=none):fG m.2.1.length t (QQ m' t)<=fG m.2.1.length t (QQ m t):=by have hS:=wD I t0 t1 K G;refine Kb fun U u0 u1 hU=>?_;have:=Fh I t0 t1 K G (d:=0) u0 u1 hU (fun⟨h,e,_⟩=>by rw[hS,h2]at e;cases e) (fun⟨h,e,_⟩=>by rw[hS,h2]at e;cases e) (by unfold kR;rw[hS,h1,h2];exact fh _);omega
theorem Fq{h h':gx}(H:bW m.1 m.2.1.length h)(hne:h.1≠t)(h1:lR (ai m t) t=some h)(h2:lR x t=some h')(e1:h'.1=h.1)(e2:h'.2.1=h.2.1)(tB:nc m t h+1<=nc m' t h') :
  fG m.2.1.length t (QQ m' t)+1<=fG m.2.1.length t (QQ m t):=by
 have hS:=wD I t0 t1 K G;have nP:og m' h'->og m h:=fun z=>GB I t0 t1 K G H (by unfold og at z⊢;rw[e1,e2]at z;exact z);have LI:og m h->og m' h':=fun z=>by
  refine⟨by rw[e1];exact(Co I t0 t1 K G H.t.1 hne).2 z.1,?_⟩;rw[e1,e2,G.mem];rcases J4 I t0 t1 K G H.t.1 H.t.2 with q | ⟨q1,_,q3⟩
  .rw[q];exact z.2
  .exact absurd q1 hne
 have one:∀{U d:Int},0<=U->U<m.2.1.length->U≠t->(kR m t U+d<=kR m' t U)->QQ m' t U+d<=QQ m t U:=fun {U d} u0 u1 hU hp=>
  Fh I t0 t1 K G u0 u1 hU (fun⟨k,e,e3,e4⟩=>by
   rw[hS,h2]at e;cases e;exact⟨h,h1,by rw[<-e1];exact e3,fun z=>e4 (LI z)⟩) (fun⟨k,e,e3,e4⟩=>by
   rw[hS,h2]at e;cases e;exact .inl ⟨h,h1,by rw[<-e1];exact e3,nP e4⟩) hp
 refine BC I.n.2 H.t.1 H.t.2 hne ?_ fun U u0 u1 hU JE=>?_
 .refine one H.t.1 H.t.2 hne ?_;unfold kR;rw[hS,h1,h2];dsimp only;rw[ak rfl,ak e1];exact tB
 .have:=one (d:=0) u0 u1 hU (by
   unfold kR;rw[hS,h1,h2];dsimp only;rw[af (fun z=>JE z.symm),af (fun z=>JE (by rw[<-z,e1]))];exact fh _)
  omega
theorem akH(hx:x=jg (ai m t))(ha:a=m.1)(hs:(ai m t).2.2.2.2.1≠[])(hne:(au (ai m t)).1≠t)(hc:(au (ai m t)).2.1=(aq m.1 (au (ai m t)).1).1->(aq m.1 (au (ai m t)).1).2.1≠1/\¬ vE m.1 (au (ai m t)).1) :
  fG m.2.1.length t (QQ m' t)+1<=fG m.2.1.length t (QQ m t):=by
 have hS:=wD I t0 t1 K G;have T:=I.th t t0 t1;have H:=T.d7 _ (mK hs);have h1:=zX hs hne;have h2:lR x t=none:=by
  rw[hx];rcases T.st with z | ⟨q,z⟩ | ⟨q,q',z,zt⟩
  .exact absurd z hs
  .exact v9 (by unfold jg;dsimp only;rw[z];rfl)
  .exact yP (by unfold au jg;dsimp only;rw[z];exact zt)
 generalize au (ai m t)=h at *;have nd:∀U,¬ q_ m' t U:=fun U ⟨k,e,_⟩=>by rw[hS,h2]at e;cases e
 have nh:∀U,¬ wB m' t U:=fun U ⟨k,e,_⟩=>by rw[hS,h2]at e;cases e
 have np:∀U,kR m' t U=0:=fun U=>by unfold kR;rw[hS,h2]
 refine BC I.n.2 H.t.1 H.t.2 hne ?_ fun U u0 u1 hU JE=>?_
 .have hA:=yf I t0 t1 K G h.1 H.t.1 H.t.2;have hr:=(Bs (T:=t) I H).2.1;have hp:kR m t h.1=nc m t h:=by unfold kR;rw[h1];dsimp only;rw[ak rfl]
  unfold QQ;rw[np,o8 (nd h.1),hp];have b1:=nT (qZ m' t h.1);by_cases z:og m h
  .have e1:¬ qZ m t h.1:=fun w=>w.2.2.2 ⟨h,h1,rfl,z⟩;obtain⟨w1,w2⟩:=hc z.2;have e2:qZ m' t h.1:=⟨(Co I t0 t1 K G H.t.1 hne).2 z.1,by rw[G.mem,ha];exact w1,by rw[G.mem,ha];exact w2,nh _⟩
   have b2:=nT (q_ m t h.1);rw[o8 e1,we e2];omega
  .have e1:q_ m t h.1:=⟨h,h1,rfl,z⟩
   have e2:ind (qZ m t h.1)<=ind (qZ m' t h.1):=Cn fun⟨c1,c2,c3,c4⟩=>⟨(Co I t0 t1 K G H.t.1 hne).2 c1,by rw[G.mem,ha];exact c2,by rw[G.mem,ha];exact c3,nh _⟩
   rw[we e1];omega
 .have:=Fh I t0 t1 K G (d:=0) u0 u1 hU (fun z=>absurd z (nd U)) (fun z=>absurd z (nh U)) (by
   rw[np];unfold kR;rw[h1];dsimp only;rw[af (fun z=>JE z.symm)];exact fh _)
  omega
theorem akF{v p:Int}(h1:lR (ai m t) t=none)(hx:lR x t=some (v,(aq m.1 v).1,0,0,()))(ha:a=m.1)(v0:0<=v)(v1:v<m.2.1.length)(vt:v≠t)(vo:bx m v)(p0:0<=p)(p1:p<20)(hw:wd m.1 p=dM v (aq m.1 v).1) :
  fG m.2.1.length t (QQ m' t)+1<=fG m.2.1.length t (QQ m t):=by
 have hS:=wD I t0 t1 K G;have nP:og m' (v,(aq m.1 v).1,0,0,()):=⟨(Co I t0 t1 K G v0 vt).2 vo,by rw[G.mem,ha]⟩
 have nd:∀U,¬ q_ m' t U:=fun U ⟨k,e,_,z⟩=>by rw[hS,hx]at e;cases e;exact z nP
 have hh:∀U,wB m' t U->wB m t U\/vE m.1 U:=fun U ⟨k,e,e2,z⟩=>by
  rw[hS,hx]at e;cases e;dsimp only at e2;rw[<-e2];exact .inr ⟨p,p0,p1,hw⟩
 have np:∀U,kR m t U=0:=fun U=>by unfold kR;rw[h1]
 have hv:1<=nc m' t (v,(aq m.1 v).1,0,0,()):=by unfold nc;have:=nT (Ay m' t v);split<;>dsimp only<;>omega
 refine BC I.n.2 v0 v1 vt ?_ fun U u0 u1 hU JE=>?_
 .refine Fh I t0 t1 K G v0 v1 vt (fun z=>absurd z (nd v)) (hh v) ?_;rw[np];unfold kR;rw[hS,hx];dsimp only;rw[ak rfl];omega
 .have:=Fh I t0 t1 K G (d:=0) u0 u1 hU (fun z=>absurd z (nd U)) (hh U) (by
   rw[np];unfold kR;rw[hS,hx];dsimp only;rw[af (fun z=>JE z.symm)];exact fh _)
  omega
end
theorem adk{n:Nat}(hn:n<=3){T V W d e:Int}{f g:Int->Int}(hT:0<=T/\T<n)(hV:0<=V/\V<n)(hW:0<=W/\W<n)(h1:V≠T)(h2:W≠T)(h3:V≠W)(a:f V+d<=g V)(b:f W+e<=g W):fG n T f+(d+e)<=fG n T g:=by
 have XU:n=3:=by omega
 subst XU;have t3:T=0\/T=1\/T=2:=by omega
 have v3:V=0\/V=1\/V=2:=by omega
 have w3:W=0\/W=1\/W=2:=by omega
 unfold fG;rcases t3 with rfl | rfl | rfl<;>rcases v3 with rfl | rfl | rfl<;>rcases w3 with rfl | rfl | rfl<;>first | (exfalso;omega) | (simp;omega)
theorem NV{m:aH}(I:Inv m)(L:Live m){t v:Int}(t0:0<=t)(t1:t<m.2.1.length)(hs:(ai m t).2.2.2.2.1≠[])(h1:(au (ai m t)).2.1=(aq m.1 (au (ai m t)).1).1)(h2:(aq m.1 (au (ai m t)).1).2.1=1)
  (hne:(au (ai m t)).1≠t) (vo:bx m v) (f9:nW m.1 (au (ai m t)).1 v):v≠t:=by
 intro q;subst q;have T:=I.th v t0 t1;have H:=T.d7 _ (mK hs);rcases T.st with z | ⟨q,z⟩ | ⟨q,q',z,zt⟩
 .exact hs z
 .have:au (ai m v)=q:=by unfold au;rw[z];rfl
  rw[this]at hne;unfold bx bD at vo;rw[z]at vo;exact hne (by simpa using vo)
 .have e:au (ai m v)=q':=by unfold au;rw[z];rfl
  have l:=L v t0 t1 _ _ z;rw[<-e]at l;rcases l.2 h1 h2 with c | ⟨w,w0,w1,wu,wh,c1,c2⟩
  .exact Vt I t0 t1 H.t.1 H.t.2 c f9 hne.symm
  .exact no3 I t0 t1 w0 w1 H.t.1 H.t.2 c1 c2 f9 wu.symm wh hne
noncomputable def iC(s:Int)(l:List gx)(T:Int):Int:=
 match l with
 | h::_=>if h.1=T then 1+h.2.2.1+ind (s≠1)+h.2.2.2.1 else 0
 | []=>0
theorem Bx(m:aH)(T:Int):o4 m T=iC (aq m.1 T).2.1 (ai m T).2.2.2.2.1 T:=rfl
theorem Jo(s:Int)(h:gx){T:Int}(e:h.1=T):iC s [h] T=1+h.2.2.1+ind (s≠1)+h.2.2.2.1:=ak e
theorem Bd(s:Int)(h:gx)(r:List gx){T:Int}(e:h.1≠T):iC s (h::r) T=0:=af e
theorem G8{m:aU}{n:Nat}{x:cN}{t:Int}(T:jt m n x t)(s:Int){h':gx}(hs:x.2.2.2.2.1≠[])(hne:(au x).1≠t)(XY:h'.1≠t):iC s (ko x h').2.2.2.2.1 t=iC s x.2.2.2.2.1 t:=by
 unfold ko;dsimp only;rcases T.st with z | ⟨q,z⟩ | ⟨q,q',z,zt⟩
 .exact absurd z hs
 .have:au x=q:=by unfold au;rw[z];rfl
  rw[this]at hne;rw[z];show iC s [h'] t=iC s [q] t;rw[Bd s q [] hne,Bd s h' [] XY]
 .rw[z];rfl
theorem acA{m:aU}{n:Nat}{x:cN}{t:Int}(T:jt m n x t)(s:Int)(hs:x.2.2.2.2.1≠[])(hne:(au x).1≠t):iC s (jg x).2.2.2.2.1 t=iC s x.2.2.2.2.1 t:=by
 unfold jg;dsimp only;rcases T.st with z | ⟨q,z⟩ | ⟨q,q',z,zt⟩
 .exact absurd z hs
 .have:au x=q:=by unfold au;rw[z];rfl
  rw[this]at hne;rw[z,Bd s q [] hne];rfl
 .rw[z];rfl
theorem HZ{m:aH}(I:Inv m)(L:Live m){t:Int}(t0:0<=t)(t1:t<m.2.1.length)(hs:(ai m t).2.2.2.2.1≠[])(he:(au (ai m t)).1=t):(ai m t).2.2.2.2.1=[au (ai m t)]:=by
 rcases(I.th t t0 t1).st with z | ⟨q,z⟩ | ⟨q,q',z,zt⟩
 .exact absurd z hs
 .have:au (ai m t)=q:=by unfold au;rw[z];rfl
  rw[this,z]
 .have:au (ai m t)=q':=by unfold au;rw[z];rfl
  exact absurd (this ▸ he) (L t t0 t1 _ _ z).1
section
variable {m m':aH} (I:Inv m) (L:Live m) {t:Int} (t0:0<=t) (t1:t<m.2.1.length) {a:aU} {x:cN} (K:Kind m t a x) (G:jM m m' t a x)
include I L t0 t1 K G
theorem akG{v:Int}(hs:(ai m t).2.2.2.2.1≠[])(h1:(au (ai m t)).2.1=(aq m.1 (au (ai m t)).1).1)(h2:(aq m.1 (au (ai m t)).1).2.1=1)(hne:(au (ai m t)).1≠t)(vh:v≠(au (ai m t)).1)(v0:0<=v)(v1:v<m.2.1.length)
  (vo:bx m v) (f9:nW m.1 (au (ai m t)).1 v) (ha:a=m.1) (hx:x=ko (ai m t) (v,(aq m.1 v).1,0,0,())):fG m.2.1.length t (QQ m' t)+2<=fG m.2.1.length t (QQ m t):=by
 have vt:=NV I L t0 t1 hs h1 h2 hne vo f9;have hS:=wD I t0 t1 K G;have H:=(I.th t t0 t1).d7 _ (mK hs);have f1:=zX hs hne;have f2:lR x t=some (v,(aq m.1 v).1,0,0,()):=by obtain⟨e,e2⟩:=HS hs (v,(aq m.1 v).1,0,0,());have:=zX (x:=ko (ai m t) (v,(aq m.1 v).1,0,0,())) (t:=t) e2 (by rw[e];exact vt);rw[hx,this,e]
 have n3:=I.n.2;generalize au (ai m t)=h at *;have w0:=H.t.1;have w1:=H.t.2;have hop:bx m h.1:=I.mem.jQ h.1 w0 w1 h2;have nP:og m h:=⟨hop,h1⟩
 have CZ:¬ Ay m t h.1:=fun⟨C,c0,c1,c2,c3,c4⟩=>by
  have:C=v:=by omega
  subst this;exact Vt I w0 w1 c0 c1 f9 c4 vh.symm
 have hp:nc m t h<=9:=by unfold nc;rw[ak ⟨nP,h2⟩,o8 CZ];have:=H.r7;omega
 have hlv:Ay m' t v:=⟨h.1,w0,by rw[G.n];exact w1,hne,vh.symm,by rw[G.mem,ha];exact f9⟩
 have hq:11<=nc m' t (v,(aq m.1 v).1,0,0,()):=by unfold nc;rw[we hlv];split<;>dsimp only<;>omega
 have hmk:vE m.1 v:=by obtain⟨_,i,i0,i1,_,hi⟩:=f9;have he:=I.mem.gX w0 w1 i0 i1;exact⟨_,he.1.1,he.1.2,hi⟩
 have hvl:og m' (v,(aq m.1 v).1,0,0,()):=⟨(Co I t0 t1 K G v0 vt).2 vo,by rw[G.mem,ha]⟩
 have nd:∀U,¬ q_ m' t U:=fun U ⟨k,e,_,z⟩=>by rw[hS,f2]at e;cases e;exact z hvl
 have hh:∀U,wB m' t U->wB m t U\/vE m.1 U:=fun U ⟨k,e,e2,z⟩=>by
  rw[hS,f2]at e;cases e;dsimp only at e2;rw[<-e2];exact .inr hmk
 have A:=Fh I t0 t1 K G (d:=-9) w0 w1 hne (fun z=>absurd z (nd _)) (hh _) (by
  unfold kR;rw[hS,f1,f2];dsimp only;rw[ak rfl,af vh];omega)
 have B:=Fh I t0 t1 K G (d:=11) v0 v1 vt (fun z=>absurd z (nd _)) (hh _) (by
  unfold kR;rw[hS,f1,f2];dsimp only;rw[af vh.symm,ak rfl];omega)
 have:=adk n3 (T:=t) ⟨t0,t1⟩ ⟨w0,w1⟩ ⟨v0,v1⟩ hne vt vh.symm A B;omega
omit L in
theorem aly{d:Int}(ho:ki m t+d<=ki m' t):PP m' t+d<=PP m t:=by have:=yf I t0 t1 K G t t0 t1;unfold PP;omega
omit L in
theorem Fp(hA:AA m' t+1<=AA m t)(hx:x.2.2.2=([],[],())):PP m' t+1<=PP m t:=by
 have h1:=NR I (T:=t) ⟨t0,t1⟩;have hS:=wD I t0 t1 K G;have h2:0<=ki m' t:=by unfold ki gt;rw[Bx,hS,hx];have:=nT (x.2.2.1=true);show 0<=ind (x.2.2.1=true)+(0:Int)+0;omega
 unfold PP;omega
omit L in
theorem wv{d:Int}(hg:((ai m t).2.2.2.1.length:Int)+ind ((ai m t).2.2.1=true)+iC (aq m.1 t).2.1 (ai m t).2.2.2.2.1 t+d<=(x.2.2.2.1.length:Int)+ind (x.2.2.1=true)+iC (aq a t).2.1 x.2.2.2.2.1 t):PP m' t+d<=PP m t:=by refine aly I t0 t1 K G ?_;unfold ki gt;rw[Bx,Bx,wD I t0 t1 K G,G.mem];omega
omit L in
theorem alb{u:Int}(u0:0<=u)(u1:u<m.2.1.length)(h1:(aq m.1 u).2.1=1)(h2:(aq a u).2.1=1):ind (Ay m t u)<=ind (Ay m' t u):=
 Cn fun⟨C,a0,a1,n1,n2,s⟩=>⟨C,a0,by rw[G.n];exact a1,n1,n2,by rw[G.mem];exact UI I t0 t1 K a0 a1 u0 u1 n2 h1 h2 s⟩
theorem NB(hs:(ai m t).2.2.2.2.1≠[])(h1:(au (ai m t)).2.1=(aq m.1 (au (ai m t)).1).1)(h2:(aq m.1 (au (ai m t)).1).2.1=1)(hd:∀u,aq a u=aq m.1 u)
  (hx:x=ko (ai m t) ((au (ai m t)).1,(au (ai m t)).2.1,(au (ai m t)).2.2.1+1,(au (ai m t)).2.2.2)):iS m' t+1<=iS m t:=by
 have T:=I.th t t0 t1;have H:=T.d7 _ (mK hs);obtain⟨p1,p2⟩:=HS hs ((au (ai m t)).1,(au (ai m t)).2.1,(au (ai m t)).2.2.1+1,(au (ai m t)).2.2.2);by_cases he:(au (ai m t)).1=t
 .have o1:=HZ I L t0 t1 hs he;have e1:x.2.2.2.2.1=[((au (ai m t)).1,(au (ai m t)).2.1,(au (ai m t)).2.2.1+1,(au (ai m t)).2.2.2)]:=by rw[hx];unfold ko;dsimp only;rw[o1];rfl
  have l1:iC (aq m.1 t).2.1 (ai m t).2.2.2.2.1 t=1+(au (ai m t)).2.2.1+ind ((aq m.1 t).2.1≠1)+(au (ai m t)).2.2.2.1:=by rw[o1];exact Jo _ _ he
  have l2:iC (aq a t).2.1 x.2.2.2.2.1 t=1+((au (ai m t)).2.2.1+1)+ind ((aq m.1 t).2.1≠1)+(au (ai m t)).2.2.2.1:=by rw[e1,hd t];exact Jo _ _ he
  have g1:x.2.2.2.1=(ai m t).2.2.2.1:=by rw[hx];rfl
  have g2:x.2.2.1=(ai m t).2.2.1:=by rw[hx];rfl
  have A:=wv I t0 t1 K G (d:=1) (by
   rw[l1,l2,g1,g2];omega)
  have B:=Cw I t0 t1 K G (yP he) (by rw[hx];exact yP (by rw[p1];exact he));unfold iS;rw[G.n];omega
 .have A:=wv I t0 t1 K G (d:=0) (by
   rw[hx,hd t,G8 T _ hs he (h':=((au (ai m t)).1,(au (ai m t)).2.1,(au (ai m t)).2.2.1+1,(au (ai m t)).2.2.2)) he];show((ai m t).2.2.2.1.length:Int)+ind ((ai m t).2.2.1=true)+_+0<=((ai m t).2.2.2.1.length:Int)+ind ((ai m t).2.2.1=true)+_;omega)
  have f2:lR x t=some ((au (ai m t)).1,(au (ai m t)).2.1,(au (ai m t)).2.2.1+1,(au (ai m t)).2.2.2):=by rw[hx,zX p2 (by rw[p1];exact he),p1]
  have c:og m (au (ai m t)):=⟨I.mem.jQ _ H.t.1 H.t.2 h2,h1⟩
  have c':og m' ((au (ai m t)).1,(au (ai m t)).2.1,(au (ai m t)).2.2.1+1,(au (ai m t)).2.2.2):=⟨(Co I t0 t1 K G H.t.1 he).2 c.1,by rw[G.mem,hd];exact h1⟩
  have tc:(aq m'.1 (au (ai m t)).1).2.1=1:=by rw[G.mem,hd];exact h2
  have lv:=alb I t0 t1 K G H.t.1 H.t.2 h2 (by rw[hd];exact h2);have B:=Fq I t0 t1 K G H he (zX hs he) f2 rfl rfl (by
   unfold nc;rw[ak ⟨c,h2⟩,ak ⟨c',tc⟩];dsimp only;omega)
  unfold iS;rw[G.n];omega
theorem NA(hs:(ai m t).2.2.2.2.1≠[])(h2:(aq m.1 (au (ai m t)).1).2.1≠1)(hd:∀u,aq a u=aq m.1 u)
  (hx:x=ko (ai m t) ((au (ai m t)).1,(au (ai m t)).2.1,(au (ai m t)).2.2.1,(au (ai m t)).2.2.2.1+1,())):iS m' t+1<=iS m t:=by
 have T:=I.th t t0 t1;have H:=T.d7 _ (mK hs);obtain⟨p1,p2⟩:=HS hs ((au (ai m t)).1,(au (ai m t)).2.1,(au (ai m t)).2.2.1,(au (ai m t)).2.2.2.1+1,());by_cases he:(au (ai m t)).1=t
 .have o1:=HZ I L t0 t1 hs he;have e1:x.2.2.2.2.1=[((au (ai m t)).1,(au (ai m t)).2.1,(au (ai m t)).2.2.1,(au (ai m t)).2.2.2.1+1,())]:=by rw[hx];unfold ko;dsimp only;rw[o1];rfl
  have l1:iC (aq m.1 t).2.1 (ai m t).2.2.2.2.1 t=1+(au (ai m t)).2.2.1+ind ((aq m.1 t).2.1≠1)+(au (ai m t)).2.2.2.1:=by rw[o1];exact Jo _ _ he
  have l2:iC (aq a t).2.1 x.2.2.2.2.1 t=1+(au (ai m t)).2.2.1+ind ((aq m.1 t).2.1≠1)+((au (ai m t)).2.2.2.1+1):=by rw[e1,hd t];exact Jo _ _ he
  have g1:x.2.2.2.1=(ai m t).2.2.2.1:=by rw[hx];rfl
  have g2:x.2.2.1=(ai m t).2.2.1:=by rw[hx];rfl
  have A:=wv I t0 t1 K G (d:=1) (by
   rw[l1,l2,g1,g2];omega)
  have B:=Cw I t0 t1 K G (yP he) (by rw[hx];exact yP (by rw[p1];exact he));unfold iS;rw[G.n];omega
 .have A:=wv I t0 t1 K G (d:=0) (by
   rw[hx,hd t,G8 T _ hs he (h':=((au (ai m t)).1,(au (ai m t)).2.1,(au (ai m t)).2.2.1,(au (ai m t)).2.2.2.1+1,())) he];show((ai m t).2.2.2.1.length:Int)+ind ((ai m t).2.2.1=true)+_+0<=((ai m t).2.2.2.1.length:Int)+ind ((ai m t).2.2.1=true)+_;omega)
  have f2:lR x t=some ((au (ai m t)).1,(au (ai m t)).2.1,(au (ai m t)).2.2.1,(au (ai m t)).2.2.2.1+1,()):=by rw[hx,zX p2 (by rw[p1];exact he),p1]
  have B:=Fq I t0 t1 K G H he (zX hs he) f2 rfl rfl (by
   unfold nc;rw[af (fun z=>h2 z.2),af (fun z=>h2 (by have:=z.2;rw[G.mem,hd]at this;exact this))];dsimp only;omega)
  unfold iS;rw[G.n];omega
theorem Of{c:Int}(hc:c≠1)(hs:(ai m t).2.2.2.2.1≠[])(h1:(au (ai m t)).2.1=(aq m.1 (au (ai m t)).1).1)(h2:(aq m.1 (au (ai m t)).1).2.1=1)(ha:a=bJ m.1 (au (ai m t)).1 ((aq m.1 (au (ai m t)).1).1,c,(aq m.1 (au (ai m t)).1).2.2))
  (hx:x=ai m t):iS m' t+1<=iS m t:=by
 have T:=I.th t t0 t1;have H:=T.d7 _ (mK hs);have mu:=I.mem.dw;have hd:∀v:Int,0<=v->aq a v=if v=(au (ai m t)).1 then ((aq m.1 (au (ai m t)).1).1,c,(aq m.1 (au (ai m t)).1).2.2) else aq m.1 v:=fun v v0=>by rw[ha];exact n_ ⟨H.t.1,by have:=H.t.2;omega⟩ v0
 by_cases he:(au (ai m t)).1=t
 .have o1:=HZ I L t0 t1 hs he;have hst:(aq a t).2.1=c:=by rw[hd t t0,ak he.symm]
  have Ez:(aq m.1 t).2.1=1:=he ▸ h2;have l1:iC (aq m.1 t).2.1 (ai m t).2.2.2.2.1 t=1+(au (ai m t)).2.2.1+0+(au (ai m t)).2.2.2.1:=by rw[o1,Jo _ _ he,o8 (p:=(aq m.1 t).2.1≠1) (fun z=>z Ez)]
  have l2:iC (aq a t).2.1 (ai m t).2.2.2.2.1 t=1+(au (ai m t)).2.2.1+1+(au (ai m t)).2.2.2.1:=by rw[o1,Jo _ _ he,we (p:=(aq a t).2.1≠1) (by rw[hst];exact hc)]
  have A:=wv I t0 t1 K G (d:=1) (by
   rw[hx,l1,l2];omega)
  have B:=Cw I t0 t1 K G (yP he) (by rw[hx];exact yP he);unfold iS;rw[G.n];omega
 .have A:=wv I t0 t1 K G (d:=0) (by
   rw[hx,hd t t0,af (fun z=>he z.symm)];omega)
  have c0:og m (au (ai m t)):=⟨I.mem.jQ _ H.t.1 H.t.2 h2,h1⟩
  have hr:=(Bs (T:=t) I H).2.2 ⟨c0,h2⟩;have B:=Fq I t0 t1 K G H he (zX hs he) (by rw[hx];exact zX hs he) rfl rfl (by
   have e:nc m' t (au (ai m t))=20+(au (ai m t)).2.2.2.1:=by unfold nc;exact af (fun z=>hc (by have:=z.2;rw[G.mem,hd _ H.t.1,ak rfl]at this;exact this))
   have:=H.fin;omega)
  unfold iS;rw[G.n];omega
theorem acE:iS m' t+1<=iS m t:=by
 have T:=I.th t t0 t1;have hK:=K;have mu:=I.mem.dw;have fin:∀{d e:Int},PP m' t+d<=PP m t->fG m.2.1.length t (QQ m' t)+e<=fG m.2.1.length t (QQ m t)->1<=d+e->iS m' t+1<=iS m t:=fun h1 h2 h3=>by
  unfold iS;rw[G.n];omega
 have z0:∀{p q:Int},p<=q->p+0<=q:=fun h=>by omega
 cases K with
 | zp h=>have z:=T.off h;refine fin (d:=1) (e:=0) (wv I t0 t1 hK G ?_) (z0 (Cw I t0 t1 hK G (v9 z.2) (v9 z.2))) (by omega);dsimp only;rw[o8 (fun q=>by rw[h]at q;cases q),we rfl];omega
 | got q ho hs hq=>refine fin (d:=1) (e:=0) (wv I t0 t1 hK G ?_) (z0 (Cw I t0 t1 hK G (v9 hs) (v9 hs))) (by omega);show _<=(((ai m t).2.2.2.1++[(q,fY m.1 q,())]).length:Int)+ind ((ai m t).2.2.1=true)+iC (aq m.1 t).2.1 (ai m t).2.2.2.2.1 t;rw[cV,nL];omega
 | new q E r ho hs hv hq=>
  have e1:(rf (rX (ai m t) ((ai m t).2.2.2.1++[(q,fY m.1 q,())])) (t,(aq m.1 t).1+1,0,0,())).2.2.2.2.1=[(t,(aq m.1 t).1+1,0,0,())]:=by show(ai m t).2.2.2.2.1++_=_;rw[hs];rfl
  refine fin (d:=1) (e:=0) (wv I t0 t1 hK G ?_) (z0 (Cw I t0 t1 hK G (v9 hs) (yP (by rw[(M6 _ _).1])))) (by omega);rw[e1,hs,Jo _ _ rfl];show((ai m t).2.2.2.1.length:Int)+ind ((ai m t).2.2.1=true)+0+1<=(((ai m t).2.2.2.1++[(q,fY m.1 q,())]).length:Int)+ind ((ai m t).2.2.1=true)+(1+0+ind _+0)
  rw[cV,nL];have:=nT ((aq (bJ m.1 t ((aq m.1 t).1+1,1,E,r,())) t).2.1≠1);omega
 | now ho hs=>exact fin (d:=1) (e:=0) (Fp I t0 t1 hK G (Cy I t0 t1 hK G rfl rfl rfl (.inl rfl)).1 rfl) (z0 (Cw I t0 t1 hK G (v9 hs) (v9 rfl))) (by omega)
 | pW hs h1 h2 h3=>exact fin (d:=1) (e:=0) (Fp I t0 t1 hK G (Cy I t0 t1 hK G rfl rfl rfl (.inl rfl)).1 rfl) (z0 (Cw I t0 t1 hK G (yP h1) (v9 rfl))) (by omega)
 | CN hs h1 h2 h3=>exact fin (d:=1) (e:=0) (Fp I t0 t1 hK G (Cy I t0 t1 hK G rfl rfl rfl (.inr ⟨rfl,(J9 T hs h1).1,h2⟩)).1 rfl) (z0 (Cw I t0 t1 hK G (yP h1) (v9 rfl))) (by omega)
 | push v p ho hs v0 v1 vt vo p0 p1 hw=>
  have f1:lR (ai m t) t=none:=by
   rcases hs with hs | ⟨k,hs,kt,_⟩
   .exact v9 hs
   .exact yP (by unfold au;rw[hs];exact kt)
  have f2:lR (rf (ai m t) (v,(aq m.1 v).1,0,0,())) t=some (v,(aq m.1 v).1,0,0,()):=by obtain⟨e,e2⟩:=M6 (ai m t) (v,(aq m.1 v).1,0,0,());have:=zX (x:=rf (ai m t) (v,(aq m.1 v).1,0,0,())) (t:=t) e2 (by rw[e];exact vt);rw[this,e]
  refine fin (d:=0) (e:=1) (wv I t0 t1 hK G ?_) (akF I t0 t1 hK G f1 f2 rfl v0 v1 vt vo p0 p1 hw) (by omega);show _<=((ai m t).2.2.2.1.length:Int)+ind ((ai m t).2.2.1=true)+iC (aq m.1 t).2.1 ((ai m t).2.2.2.2.1++[(v,(aq m.1 v).1,0,0,())]) t;rcases hs with hs | ⟨k,hs,kt,_⟩
  .rw[hs];rw[show([]++[(v,(aq m.1 v).1,0,0,())]:List gx)=[(v,(aq m.1 v).1,0,0,())] from rfl,Bd _ _ _ vt];show _+(0:Int)+0<=_;omega
  .rw[hs];show _+iC (aq m.1 t).2.1 [k] t+0<=_+iC (aq m.1 t).2.1 [k] t;omega
 | qK hs hne hc=>refine fin (d:=0) (e:=1) (wv I t0 t1 hK G ?_) (akH I t0 t1 hK G rfl rfl hs hne hc) (by omega);rw[acA T _ hs hne];show _<=((ai m t).2.2.2.1.length:Int)+ind ((ai m t).2.2.1=true)+_;omega
 | swap v hs h1 h2 hne vh v0 v1 vo f9=>refine fin (d:=0) (e:=2) (wv I t0 t1 hK G ?_) (akG I L t0 t1 hK G hs h1 h2 hne vh v0 v1 vo f9 rfl rfl) (by omega);rw[G8 T _ hs hne (h':=(v,(aq m.1 v).1,0,0,())) (NV I L t0 t1 hs h1 h2 hne vo f9)];show _<=((ai m t).2.2.2.1.length:Int)+ind ((ai m t).2.2.1=true)+_;omega
 | mD hs h1 h2=>exact NB I L t0 t1 hK G hs h1 h2 (fun _=>rfl) rfl
 | lay p hs h1 h2 p0 p1 hw hv=>exact NB I L t0 t1 hK G hs h1 h2 (fun _=>rfl) rfl
 | pX hs h1 h2=>exact NA I L t0 t1 hK G hs h2 (fun _=>rfl) rfl
 | oS p y hs h1 h2 p0 p1 hw hv=>exact NA I L t0 t1 hK G hs h2 (fun _=>rfl) rfl
 | yes hs h1 h2 h3=>exact Of I L t0 t1 hK G (c:=2) (by decide) hs h1 h2 rfl rfl
 | no i hs h1 h2 i0 i1 hb hw hv hval=>exact Of I L t0 t1 hK G (c:=3) (by decide) hs h1 h2 rfl rfl
end
theorem Rj{m:aH}(I:Inv m)(L:Live m){t:Int}(t0:0<=t)(t1:t<m.2.1.length):Live (j3 m t)/\(∀T:Int,0<=T->T<m.2.1.length->iS (j3 m t) T<=iS m T)/\((ai m t).2.1<(ai m t).1.length->iS (j3 m t) t+1<=iS m t):=by
 by_cases h:(ai m t).2.1<(ai m t).1.length
 .have e:j3 m t=vF m t:=by unfold j3;rw[ak h]
  rw[e];obtain⟨a,x,K,G⟩:=RU I t0 t1 (fun k k' z=>(L t t0 t1 k k' z).1);have I':=Jn I;have L':Live (tick m):=L;have s:=acE I' L' t0 t1 K G;have e2:∀T,iS (tick m) T=iS m T:=fun T=>rfl;refine⟨ab1 I' L' t0 t1 K G,fun T T0 T1=>?_,fun _=>by rw[<-e2 t];exact s⟩;by_cases q:T=t
  .subst q;rw[<-e2 T];omega
  .rw[<-e2 T];exact abH I' t0 t1 K G ⟨T0,T1⟩ q
 .have e:j3 m t=m:=by unfold j3;rw[af h]
  rw[e];exact⟨L,fun _ _ _=>fh _,fun z=>absurd z h⟩
theorem abK(who:List Int):∀{m:aH},Inv m->Live m->(∀t∈who,0<=t/\t<m.2.1.length)->Live (tQ m who)/\∀T:Int,0<=T->T<m.2.1.length->iS (tQ m who) T<=iS m T:=by
 induction who with
 | nil=>intro m I L _;exact⟨L,fun _ _ _=>fh _⟩
 | cons t who ih=>intro m I L h;have ht:=h t e8;obtain⟨g1,g2,_⟩:=Rj I L ht.1 ht.2;obtain⟨a,b⟩:=ih (Bg I ht.1 ht.2) g1 (fun u hu=>by rw[Kd];exact h u (cG _ hu));exact⟨a,fun T T0 T1=>I0 (b T T0 (by rw[Kd];exact T1)) (g2 T T0 T1)⟩
theorem JY{r:qp}{L:List (List cL)}(hL:iG L){U:Int}(u0:0<=U)(u1:U<L.length):∃ops:List cL,ai (dY r L) U=(ops,0,false,[],[],())/\ops.length<=4:=by refine⟨L[U.toNat]'(by omega),?_,(hL.ops _ (d_ _)).1⟩;unfold ai dY;dsimp only;rw[qv (by rw[jD];omega),yw]
theorem ab0{r:qp}{L:List (List cL)}(hL:iG L):Live (dY r L):=by
 intro t t0 t1 k k' h;have hl:(dY r L).2.1.length=L.length:=by unfold dY;simp
 obtain⟨ops,e,_⟩:=JY (r:=r) hL t0 (by omega);rw[e]at h;cases h
theorem M1{n:Nat}(hn:n<=3){T c:Int}(hc:0<=c)(hT:0<=T/\T<n){f:Int->Int}(h:∀U:Int,0<=U->U<n->U≠T->f U<=c):fG n T f<=((n:Int)-1) * c:=by
 have one:∀U:Int,0<=U->(if U<n/\U≠T then f U else 0)<=(if U<n/\U≠T then c else 0):=fun U u0=>by
  by_cases q:U<n/\U≠T
  .rw[ak q,ak q];exact h U u0 q.1 q.2
  .rw[af q,af q];exact fh _
 have a:=one 0 (by omega);have b:=one 1 (by omega);have d:=one 2 (by omega);have t3:T=0\/T=1\/T=2:=by omega
 have n3:n=1\/n=2\/n=3:=by omega
 unfold fG;rcases n3 with rfl | rfl | rfl<;>rcases t3 with rfl | rfl | rfl<;>first | (exfalso;omega) | (simp at a b d⊢<;>omega)
theorem acD{r:qp}{L:List (List cL)}(hL:iG L){T:Int}(hT:0<=T/\T<L.length):iS (dY r L) T<=1032/\iS (dY r L) T<=400 * L.length-1:=by
 have hl:(dY r L).2.1.length=L.length:=by unfold dY;simp
 have hn:=hL.n;have hno:∀U:Int,0<=U->U<L.length->¬ bx (dY r L) U:=fun U u0 u1=>by
  obtain⟨ops,e,_⟩:=JY (r:=r) hL u0 u1;unfold bx;rw[e];simp[bD]
 have hlf:∀U:Int,0<=U->U<L.length->lf (dY r L) U<=4:=fun U u0 u1=>by
  obtain⟨ops,e,h⟩:=JY (r:=r) hL u0 u1;unfold lf;rw[e];dsimp only;omega
 have hY:∀U:Int,0<=U->U<L.length->Yv (dY r L) U<=4:=fun U u0 u1=>by
  have:=hlf U u0 u1;have:=nT (lM (dY r L) U);unfold Yv;omega
 have hA:∀U:Int,0<=U->U<L.length->AA (dY r L) U<=4 * L.length:=fun U u0 u1=>by
  have h1:=hlf U u0 u1;have h2:¬ pM (dY r L) U:=by
   obtain⟨ops,e,h⟩:=JY (r:=r) hL u0 u1;rintro(z | ⟨_,g,hg,_⟩)
   .exact hno U u0 u1 z.1
   .unfold gt at hg;rw[e]at hg;simp at hg
  have h3:=M1 (n:=L.length) hn.2 (T:=U) (c:=4) (f:=Yv (dY r L)) (by omega) ⟨u0,u1⟩ (fun V a b _=>hY V a b);unfold AA;rw[hl,o8 h2];omega
 have hQ:∀U:Int,0<=U->U<L.length->QQ (dY r L) T U<=29 * (4 * L.length):=fun U u0 u1=>by
  have h1:=hA U u0 u1;obtain⟨ops,e,_⟩:=JY (r:=r) hL hT.1 hT.2;have f:lR (ai (dY r L) T) T=none:=v9 (by rw[e]);have h2:¬ q_ (dY r L) T U:=fun⟨h,q,_⟩=>by rw[f]at q;cases q
  have h3:=nT (qZ (dY r L) T U);have h4:kR (dY r L) T U=0:=by unfold kR;rw[f]
  unfold QQ;rw[o8 h2,h4];omega
 have h5:=M1 (n:=L.length) hn.2 (T:=T) (c:=29 * (4 * (L.length:Int))) (f:=QQ (dY r L) T) (by omega) hT (fun V a b _=>hQ V a b);have h6:=hA T hT.1 hT.2;have h7:0<=ki (dY r L) T:=by obtain⟨ops,e,_⟩:=JY (r:=r) hL hT.1 hT.2;unfold ki gt;rw[Bx,e];have:=nT (false=true);show 0<=ind (false=true)+(0:Int)+0;omega
 unfold iS PP;rw[hl];have n3:L.length=1\/L.length=2\/L.length=3:=by omega
 rcases n3 with q | q | q<;>rw[q]at h5 h6⊢<;>omega
theorem akj{m:aH}{t:Int}{a:aU}{x:cN}(K:Kind m t a x):x.1=(ai m t).1/\(x.2.1=(ai m t).2.1\/x.2.1=(ai m t).2.1+1):=by cases K<;>first | exact⟨rfl,.inl rfl⟩ | exact⟨rfl,.inr rfl⟩
theorem abS{m:aH}(I:Inv m)(L:Live m){t:Int}(t0:0<=t)(t1:t<m.2.1.length):(∀U:Int,0<=U->U≠t->ai (j3 m t) U=ai m U)/\(ai (j3 m t) t).1=(ai m t).1/\((ai (j3 m t) t).2.1=(ai m t).2.1\/(ai (j3 m t) t).2.1=(ai m t).2.1+1):=by
 by_cases h:(ai m t).2.1<(ai m t).1.length
 .have e:j3 m t=vF m t:=by unfold j3;rw[ak h]
  rw[e];obtain⟨a,x,K,G⟩:=RU I t0 t1 (fun k k' z=>(L t t0 t1 k k' z).1);have:=akj K;refine⟨fun U u0 q=>by rw[G.ai U u0,af q];rfl,?_⟩;rw[G.ai t t0,ak rfl];exact this
 .have e:j3 m t=m:=by unfold j3;rw[af h]
  rw[e];exact⟨fun _ _ _=>rfl,rfl,.inl rfl⟩
structure WY (m a:aH) (t pc:Int) (k:Nat):Prop where
 inv:Inv a
 live:Live a
 len:a.2.1.length=m.2.1.length
 time:m.2.2.1<=a.2.2.1/\a.2.2.1<=m.2.2.1+k
 EI:∀U:Int,0<=U->U≠t->ai a U=ai m U
 ops:(ai a t).1=(ai m t).1
 low:∀T:Int,0<=T->T<m.2.1.length->iS a T<=iS m T
 pc:((ai a t).2.1=pc/\(iS a t+k<=iS m t\/¬ pc<(ai m t).1.length))\/(ai a t).2.1=pc+1
section
variable {X:Ext} (hX:fO X) {n:Nat}
include hX
end
section
variable {X:Ext} (hX:fO X) {n:Nat}
include hX
theorem akY(hn:1<=n)(x:cN):Wb (DD X n) x=some ((decide (x.2.1=(x.1.length:Int)),()),()):=by
 obtain⟨n,rfl⟩:∃k,n=k+1:=⟨n-1,by omega⟩
 rw[qub hX];rfl
end
def jS(g:aH)(T:Int):Prop:=(ai g T).2.1=((ai g T).1.length:Int)
structure RI (n0:Nat) (stop:Int) (j i:Nat) (g:aH):Prop where
 inv:Inv g
 live:Live g
 len:g.2.1.length=n0
 time:g.2.2.1<=1000+120 * j+40 * i
 low:∀T:Int,0<=T->T<n0->T≠stop->jS g T\/iS g T+40 * lf g T+40 * j+(if T<i then 40 else 0)<=1192
section
variable {X:Ext} (hX:fO X) {n:Nat}
include hX
end
section
variable {X:Ext} (hX:fO X) {n:Nat}
include hX
theorem alC(hn:2<=n)(x:cN):gF ctx (DD X n) (a_.mk 62 []) [bC.val Ce x] Ty.bool=some (!decide (x.2.1=(x.1.length:Int))):=by
 obtain⟨n,rfl⟩:∃k,n=k+1:=⟨n-1,by omega⟩
 have e:∀D:Den ctx,gF ctx D (a_.mk 62 []) [bC.val Ce x] Ty.bool=(Q3 D x).bind fun r=>some r.1.1:=fun D=>by kernel_rfl
 rw[e,alh hX];simp only[Ga,Rg];rw[akY hX (by omega),qc];rfl
theorem Tl(hn:W+11<=n){m:aH}(I:Inv m)(ht:m.2.2.1<=100000):VH (DD X n) m=some ((!(m.2.1.any fun x=>!decide (x.2.1=(x.1.length:Int))),()),()):=by
 obtain⟨n,rfl⟩:∃k,n=k+1:=⟨n-1,by omega⟩
 have n3:=I.n;rw[aln hX];simp only[Hq,Tk];rw[Dx hX (by omega) I ht,qc];dsimp only;rw[aG,alk hX (by omega) (by omega) (f:=fun x=>!decide (x.2.1=(x.1.length:Int))) (fun x _=>alC hX (by omega) x),qc]
theorem alD(hn:2<=n)(x:lK):gF ctx (DD X n) (a_.mk 65 []) [bC.val uZ x] Ty.bool=some (x.2.1 != 0):=by
 obtain⟨n,rfl⟩:∃k,n=k+1:=⟨n-1,by omega⟩
 have e:∀D:Den ctx,gF ctx D (a_.mk 65 []) [bC.val uZ x] Ty.bool=(To D x).bind fun r=>some r.1.1:=fun D=>by kernel_rfl
 rw[e,alK hX];rfl
structure FI (n0 j i:Nat) (g:aH):Prop where
 inv:Inv g
 live:Live g
 len:g.2.1.length=n0
 time:g.2.2.1<=1000+3 * j+i
 low:∀T:Int,0<=T->T<n0->jS g T\/iS g T+j+(if T<i then 1 else 0)<=1032
theorem TA(N n:Nat)(hN:W+17<=N)(K0:Int->Int->Bool->aH->aH->Option ((aH×Unit)×Unit))(x0 x1:Int)(z:aH){n0:Nat}{j:Nat}(hj:j<=2000):∀(c i:Nat)(mv:Bool)(g:aH),FI n0 j i g->(mv=true\/∃T:Int,i<=T/\T<n0/\¬ jS g T)->i<=n0->n0-i<c->
  ∃g',FI n0 (j+1) 0 g'/\MH (DD X N) n K0 c x0 x1 mv (n0:Int) (i:Int) g z=K0 x0 x1 true g' z
 | 0,i,_,_,_,_,_,h2=>by omega
 | c+1,i,mv,g,R,JH,h1,h2=>by
  have hW:=dZ;have vS:=R.len;have n3:=R.inv.n;have hgt:=R.time;simp only[MH,F6];by_cases hi:i<n0
  .have T:=R.inv.th (i:Int) (by omega) (by omega);have Ar:=T.pc;have I':=Bg R.inv (t:=(i:Int)) (by omega) (by omega);obtain⟨L',g1,g2⟩:=Rj R.inv R.live (t:=(i:Int)) (by omega) (by omega);obtain⟨h3,h4,h5⟩:=abS R.inv R.live (t:=(i:Int)) (by omega) (by omega);have hl:=Kd g (i:Int);have ht:=Hl hX g (i:Int);rw[qf (by omega),qu (by omega),KW hX (by omega) R.inv (by omega) (by omega) (by omega),qc];dsimp only;refine TA N n hN K0 x0 x1 z hj c (i+1) _ (j3 g (i:Int)) ⟨I',L',hl.trans R.len,by omega,fun U U0 U1=>?_⟩ ?_ (by omega) (by omega)
   .have amf:=g1 U U0 (by omega);by_cases w:U=(i:Int)
    .subst w;by_cases q:(ai g (i:Int)).2.1<(ai g (i:Int)).1.length
     .have hs:=g2 q;rcases R.low _ U0 U1 with h | h
      .exact absurd h (by unfold jS;omega)
      .rw[af (by omega)]at h;rw[ak (by omega)];exact .inr (by omega)
     .refine .inl ?_;have e:j3 g (i:Int)=g:=by unfold j3;rw[af q]
      unfold jS;rw[e];omega
    .rcases R.low U U0 U1 with h | h
     .refine .inl ?_;unfold jS at h⊢;rw[h3 U U0 w];exact h
     .refine .inr ?_;by_cases q:U<i
      .rw[ak q]at h;rw[ak (by omega)];omega
      .rw[af q]at h;rw[af (by omega)];omega
   .rcases JH with h | ⟨U,a0,a1,a2⟩
    .rw[h];exact .inl rfl
    .by_cases w:U=(i:Int)
     .left;subst w;have q:(ai g (i:Int)).2.1<(ai g (i:Int)).1.length:=by unfold jS at a2;omega
      rw[bG q];cases mv<;>rfl
     .right;refine⟨U,by omega,a1,fun z=>a2 ?_⟩;unfold jS at z⊢;rw[h3 U (by omega) w]at z;exact z
  .rw[qg (by omega)];have hm:mv=true:=by
    rcases JH with h | ⟨U,a0,a1,_⟩
    .exact h
    .omega
   refine⟨g,⟨R.inv,R.live,R.len,by omega,fun U U0 U1=>?_⟩,by rw[hm]⟩;rcases R.low U U0 U1 with h | h
   .exact .inl h
   .rw[ak (by omega)]at h;rw[af (by omega)];exact .inr (by omega)
theorem Tz(N n:Nat)(hN:W+19<=N)(XW:W<=n)(K0:aH->aH->Option ((aH×Unit)×Unit))(z:aH){n0:Nat}:∀(c j:Nat)(g:aH),FI n0 j 0 g->j<=2000->2000-j<c->
  ∃g',Inv g'/\Live g'/\g'.2.1.length=n0/\g'.2.2.1<=7000/\(∀T:Int,0<=T->T<n0->jS g' T)/\Da (DD X N) n K0 c 2000 (j:Int) g z=K0 g' z
 | 0,j,_,_,_,h2=>by omega
 | c+1,j,g,R,h1,h2=>by
  have hW:=dZ;have n3:=R.inv.n;have vS:=R.len;have hgt:=R.time;simp only[Da,Fw];by_cases hj:j<2000
  .rw[bG (show(j:Int)<2000 by omega),bA,aG,Tl hX (by omega) R.inv (by omega),qc];dsimp only;cases uf:g.2.1.any fun x=>!decide (x.2.1=(x.1.length:Int)) with
   | false=>
    rw[iP,cK,aM];refine⟨g,R.inv,R.live,R.len,by omega,fun T T0 T1=>?_,rfl⟩;have e:ai g T=g.2.1[T.toNat]'(by omega):=by unfold ai;rw[qv (by omega)]
    have:=BY.1 uf _ (d_ (show T.toNat<g.2.1.length by omega));unfold jS;rw[e];simpa using this
   | true=>
    rw[cK,iP,aG];simp only[HL];have hex:∃T:Int,((0:Nat):Int)<=T/\T<n0/\¬ jS g T:=by
     obtain⟨x,hx,hp⟩:=IU.1 uf;obtain⟨k,hk,rfl⟩:=lG.1 hx;refine⟨(k:Int),by omega,by omega,?_⟩;have e:ai g (k:Int)=g.2.1[k]:=by unfold ai;rw[d5,qv hk]
     unfold jS;rw[e];simpa using hp
    rw[vS];obtain⟨g1,R1,e1⟩:=TA hX N n (by omega) (fun bS dV iY jB zi=>Hr (DD X N) n (Da (DD X N) n K0 c) K0 bS dV iY jB zi) 2000 (j:Int) z h1 n 0 false g R (.inr hex) (e7 _) (by omega);obtain⟨g2,a1,a2,a3,a4,a5,e2⟩:=Tz N n hN XW K0 z c (j+1) g1 R1 (by omega) (by omega);refine⟨g2,a1,a2,a3,a4,a5,dj e1 ?_⟩;simp only[Hr];rw[cK,aM,qu (by omega)];exact e2
  .rw[b_ (show ¬ (j:Int)<2000 by omega),bg,aM];refine⟨g,R.inv,R.live,R.len,by omega,fun T T0 T1=>?_,rfl⟩;rcases R.low T T0 T1 with h | h
   .exact h
   .exfalso;have:=abg R.inv (T:=T) ⟨T0,by omega⟩;rw[af (by omega)]at h;omega
theorem alH(hn:W+20<=n){g:aH}(I:Inv g)(L:Live g)(ht:g.2.2.1<=1000)(hp:∀T:Int,0<=T->T<g.2.1.length->iS g T<=1032) :
  ∃g',Inv g'/\Live g'/\g'.2.1.length=g.2.1.length/\g'.2.2.1<=7000/\(∀T:Int,0<=T->T<g.2.1.length->jS g' T)/\IX (DD X n) g 2000=some ((g',()),()):=by
 obtain⟨n,rfl⟩:∃k,n=k+1:=⟨n-1,by omega⟩
 have hW:=dZ;obtain⟨g',a1,a2,a3,a4,a5,e⟩:=Tz hX n n (by omega) (by omega) (fun bS dV=>Ts (DD X n) n bS dV) (([],[],()),[],0,[],[],([],0,()),()) n 0 g
  ⟨I,L,rfl,by omega,fun T T0 T1=>.inr (by have:=hp T T0 T1;rw[af (by omega)];omega)⟩ (by omega) (by omega)
 refine⟨g',a1,a2,a3,a4,a5,?_⟩;rw[al1 hX];simp only[IY,IZ,Hu];rw[WE hX (by omega) (Jl hX I),qc];dsimp only;exact e
end
end Go.G
/- FnAllDone holds: behind any drawn schedule, let go on in turn, all get done, no mark is left, and the words are the table. No condition beyond the given statement's. -/
namespace Go.G
set_option linter.unusedVariables false
set_option linter.unusedSimpArgs false
set_option linter.unusedSectionVars false
open Go Go.V Go.Proofs
section
variable {X:Ext} (hX:fO X) {n:Nat}
include hX
theorem alE(hn:W+9<=n){m:aH}(I:Inv m)(ht:m.2.2.1<=100000)(hd:∀T:Int,0<=T->T<m.2.1.length->jS m T):HY (DD X n) m.1=some ((true,()),()):=by
 obtain⟨n,rfl⟩:∃k,n=k+1:=⟨n-1,by omega⟩
 have n3:=I.n;have hlen:=I.mem.len;rw[alX hX];simp only[IE,Tv];rw[uK hX (by omega) I.mem (by omega) (by omega) (by omega),qc];dsimp only;rw[aG,Ri hX (by omega) (by omega) (f:=fun x=>x.2.1 != 0) (fun x _=>alD hX (by omega) x),qc];dsimp only;have:(m.1.1.any fun x=>x.2.1 != 0)=false:=by
  rw[BY];intro x hx;obtain⟨k,hk,rfl⟩:=lG.1 hx;have e:wd m.1 (k:Int)=m.1.1[k]:=by unfold wd;rw[d5,qv hk]
  rcases I.mem.word (k:Int) (by omega) (by omega) with z | ⟨u,u0,u1,uo,_⟩
  .rw[e]at z;rw[z.1];decide
  .exfalso;have T:=I.th u u0 u1;have:=T.on (T.nt uo);have:=hd u u0 u1;unfold jS at this;omega
 rw[this];rfl
theorem Tx(hn:3<=n){R:qp}(hR:aS R):A3 (DD X n) (m5 R)=some ((R,()),()):=by
 obtain⟨n,rfl⟩:∃k,n=k+1:=⟨n-1,by omega⟩
 have hl:=rU R;have hr:=hR.len;rw[alQ hX];simp only[Ht,Tu];rw[hl,show(((20:Nat):Int) != 20)=false by rfl,aM,show(decide ((0:Nat)<=0)&&decide ((0:Nat)<=4)&&decide ((4:Int)<=((20:Nat):Int)))=true by rfl,aG,show(0:Int).toNat=0 from rfl,show(4:Int).toNat=4 from rfl,jo];have e4:(m5 R).take 4=R.1:=by apply yu (by rw[eH,hl,hr];rfl);intro i h1 h2;rw[IT];have:=uH R (p:=i) (by omega);rw[qv (by omega)]at this;rw[this,(tK hR (k:=(i:Int)) ⟨by omega,by omega⟩).1,d5,qv h2]
 rw[e4,F_ hX (by omega) _ (by omega),qc];dsimp only;obtain⟨n,rfl⟩:∃k,n=k+1:=⟨n-1,by omega⟩
 rw[Rh hX];simp only[Gu,Rk];rw[qc];dsimp only;rw[show(decide ((0:Int)<=13)&&decide ((13:Int)<((20:Nat):Int)))=true by rfl,aG,show(13:Int).toNat=13 from rfl,uH R (by omega)];rfl
theorem alG(hn:W+8<=n){R:qp}(hR:aS R):Iz (DD X n) (m5 R)=some ((true,()),()):=by
 obtain⟨n,rfl⟩:∃k,n=k+1:=⟨n-1,by omega⟩
 have hl:=rU R;rw[alZ hX];simp only[IG,Tw];rw[Tx hX (by omega) hR,qc];dsimp only;rw[show((R.1,R.2):qp)=R from rfl,VK hX (by omega) hR,qc];dsimp only;rw[aG,BZ hX (by omega) hR,qc];dsimp only;rw[Fx hX (by omega) _ (by omega),qc]
theorem TB(N n:Nat)(K0:List Int->Option ((List Int×Unit)×Unit))(l:List Int)(hl:l.length<=1000):∀(c i:Nat),i<=l.length->l.length-i<c->MA (DD X N) n K0 c l (l.length:Int) (i:Int) [] l=K0 []
 | 0,i,_,h2=>by omega
 | c+1,i,h1,h2=>by
  simp only[MA,HU];by_cases hi:i<l.length
  .have ih:=TB N n K0 l hl c (i+1) (by omega) (by omega);rw[qf (by omega),ix hi,aG,aG,show(∀z:Int,(z != z)=false) from fun z=>by rw[bL,bG rfl];rfl,aM,qu (by omega)];exact ih
  .rw[qg (by omega)]
theorem alF(hn:W+8<=n){R:qp}(hR:aS R):Im (DD X n) (m5 R)=some (([],()),()):=by
 obtain⟨n,rfl⟩:∃k,n=k+1:=⟨n-1,by omega⟩
 have hW:=dZ;have hl:=rU R;rw[alY hX];simp only[IF,F7,Hs];rw[Tx hX (by omega) hR,qc];dsimp only;rw[show((R.1,R.2):qp)=R from rfl,BZ hX (by omega) hR,qc];dsimp only;exact TB hX n n _ (m5 R) (by omega) n 0 (e7 _) (by omega)
end
theorem alR(a:List Int):Sl (DD yh (W+30)) a=some ((true,()),()):=by
 have hX:fO yh:=Td;have hW:=dZ;rw[alj hX];simp only[GP,Tj];rw[akP hX (by omega),qc];dsimp only;by_cases Ll:(a.length:Int)>1048576
 .rw[qf Ll]
 rw[qg Ll];obtain⟨r,L,who,hr,hL,hw,e1⟩:=abb hX (n:=W+29) (by omega) a (by omega);obtain⟨I,ht,hlen,h1,h2,h3⟩:=abi hr hL hw;rw[e1,qc];dsimp only;rw[abp hX (by omega) hr hL,qc,aiR hX (by omega) hr hL,qc];dsimp only;rw[bG rfl,cK,bg,aM,ak1 hX (by omega) (ML hr hL) who h1 h2 h3,qc];dsimp only;obtain⟨LL,X5⟩:=abK who (ML hr hL) (ab0 hL) h2;have Lw:(dY r L).2.1.length=L.length:=by unfold dY;simp
 obtain⟨g,G1,G2,G3,G4,G5,e⟩:=alH hX (n:=W+29) (by omega) I LL (by omega) (fun T T0 T1=>by
  have h4:=X5 T T0 (by omega);have h5:=(acD (r:=r) hL (T:=T) ⟨T0,by omega⟩).1;omega)
 have nn:=G1.n;obtain⟨R,hR,_,hv⟩:=G1.rep;rw[e,qc];dsimp only;rw[NZ hX (by omega) G1.mem (by omega) hv,qc,Tl hX (by omega) G1 (by omega),qc];dsimp only;have uf:(g.2.1.any fun x=>!decide (x.2.1=(x.1.length:Int)))=false:=by rw[BY];intro x hx;obtain⟨k,hk,rfl⟩:=lG.1 hx;have:=G5 (k:Int) (by omega) (by omega);unfold jS ai at this;rw[d5,qv hk]at this;rw[bG this];decide
 rw[uf,iP,aG,alE hX (by omega) G1 (by omega) (fun T a b=>G5 T a (by omega)),qc];dsimp only;rw[aG,aba hX (by omega) G1 (by omega),qc];dsimp only;rw[aG,alG hX (by omega) hR,qc];dsimp only;rw[aG,alF hX (by omega) hR,qc];rfl
end Go.G
namespace Go.Proofs.YtpmimbgkiindbaaGreat
open Go.ChangeShapes Go.WideShapes Go.ChangeAt Go.RowKit Go.V Go.G
theorem lQ(os:Os)(started:os.Started)(H:Type)(enc:TypeId×Value->H) :
  ReturnsInHanded {} Tryz.checked os 5 .any (Rows.fnAllDoneSpec.pre6 enc Tryz.prog Tryz.f5 Rows.fnAllDoneRow.domain false) (Rows.fnAllDoneSpec.post enc Tryz.prog Tryz.f5 false true false false):=
 abZ (X:=yh) (tb:=4) started Tryz.func5 (by kernel_rfl)
  (ChangeSpec.witness6 (enc:=enc) (C:=Tryz.checked) false ⟨#[],Tryz.f5.params.map fun t=>((Tryz.prog.info? t).bind (·.zero)).getD .nilIface,[]⟩ 8 (by kernel_rfl) (by kernel_rfl) (by kernel_rfl) (by kernel_rfl))
  ⟨rfl,rfl,trivial⟩ (by kernel_rfl) (by kernel_rfl) (by kernel_rfl) rfl
  (fun ds h=>by
   match ds,h with
   | [d0],_=>exact⟨rfl,rfl,rfl⟩)
  (fun a wa=>⟨W+30,((true,()),()),alR a.1,fun h Pr Gs us k=>by
   obtain⟨v,vs,rfl,⟨c,r,rfl⟩,e⟩:=k;obtain rfl:vs=[]:=e;simp only[az]at r;subst r;rfl⟩)
theorem fnAllDone_holds:Rows.FnAllDoneSaid:=
 OpenClaim.holds_of_wide 5 Tryz.f5 rfl rfl rfl rfl rfl rfl rfl ⟨rfl,rfl,rfl,rfl,rfl⟩ rfl rfl rfl rfl rfl (by kernel_rfl) Tryz.func5 (by kernel_rfl)
  (of_decide_eq_true (by kernel_rfl)) (by unfold Func.isWrapper;first | (rw[ak (by decide +kernel)];kernel_rfl) | (rw[af (by decide +kernel)];exact⟨rfl,rfl⟩))
  (fun os started H enc _=>lQ os started H enc)
#print axioms fnAllDone_holds
end Go.Proofs.YtpmimbgkiindbaaGreat

import Derived.Test.YtpmimbgkiindbaaGreatAV1
set_option linter.unusedVariables false
set_option linter.unusedSimpArgs false
set_option linter.unusedSectionVars false
namespace Go.V
open Go
theorem IV:∀(ks:List PK)(aF:List AV)(rt d5:aO)(gd:i5 ks),ks.all (fun k=>!k.lI)=true->fV rt ks aF=some (gd,d5)->d5=rt
 | [],aF,rt,d5,gd,_,hb=>by
  cases aF with
  | nil=>simp only[fV,aI,a_]at hb;exact hb.2.symm
  | cons a aF=>simp[fV]at hb
 | k::ks,[],rt,d5,gd,_,hb=>by cases k<;>simp[fV]at hb
 | k::ks,a::aF,rt,d5,gd,hn,hb=>by
  simp only[gK,bC]at hn;cases k with
  | own t m=>simp[PK.lI]at hn
  | val t=>exact IV ks aF rt d5 gd hn.2 (by simpa only [fV] using hb)
  | cA t m m'=>exact IV ks aF rt d5 gd hn.2 (by simpa only [fV] using hb)
  | cN t m m'=>exact IV ks aF rt d5 gd hn.2 (by simpa only [fV] using hb)
  | bZ t=>exact IV ks aF rt d5 gd hn.2 (by simpa only [fV] using hb)
  | fn=>exact IV ks aF rt d5 gd hn.2 (by simpa only [fV] using hb)
theorem DY{h h2:Array Obj}{Pr f_:BS}{Fs pn:Nat->BS}:∀(ks:List PK)(i:Nat){gd:i5 ks}{vs:List Value},ks.all (fun k=>!k.lI)=true->nX h Pr Fs i ks gd vs->nX h2 f_ pn i ks gd vs
 | [],_,_,_,_,k=>k
 | q::ks,i,gd,vs,hn,k=>by
  simp only[gK,bC]at hn;cases q with
  | own t m=>simp[PK.lI]at hn
  | val t=>obtain⟨v,vs',e,k⟩:=k;exact⟨v,vs',e,DY ks (i+1) hn.2 k⟩
  | cA t m m'=>obtain⟨v,vs',e,k⟩:=k;exact⟨v,vs',e,DY ks (i+1) hn.2 k⟩
  | cN t m m'=>obtain⟨v,vs',e,k⟩:=k;exact⟨v,vs',e,DY ks (i+1) hn.2 k⟩
  | bZ t=>obtain⟨v,vs',e,k⟩:=k;exact⟨v,vs',e,DY ks (i+1) hn.2 k⟩
  | fn=>obtain⟨v,vs',e,k⟩:=k;exact⟨v,vs',e,DY ks (i+1) hn.2 k⟩
structure v5 (h:Array Obj) (ks:List PK) (aF:List AV) (vs:List Value) (rt e_:aO) (od:cR ks) (n:Nat) (v:Value) (q:Nat) (t:Ty) (m m':Mk) (R:aB) (x:t.den):Prop where
 root:rt.root q=some R
 Sg:m.aQ R.ms=true
 mem:R.mem=true
 cast:qbv R.ty t R.x=some x
 e_:e_=rt.aD q none
 ls:∀Pr Fs i,vP h Pr t m x v (Fs (i+n))->u6 h Pr Fs i ks od vs
 out:∀o:cR ks,∃y:t.den,(∀tI site nG,f9 tI site ks aF o=some nG->m'.ak=true/\nG=tI.aD q (some ⟨t,m'.stamp site,y,true⟩))/\
  ∀h' fD Os i,mH h' fD Os i ks o vs->vP h' fD t m' y v (Os (i+n))
 full:ks.all PK.full=true->m'.full t=true
structure v7 (h:Array Obj) (ks:List PK) (aF:List AV) (vs:List Value) (rt e_:aO) (od:cR ks) (n:Nat) (a:AV) (v:Value) (q:Nat) (p:Path) (R:aB) (md:Mk) (t:Ty) (xd:t.den) (m m' mx:Mk) (x:t.den):Prop where
 place:jZ a=some (q,p)
 root:rt.root q=some R
 C_:focus R.ty R.ms R.x p=some ⟨t,md,xd⟩
 w9:jN q t a p md xd=some (mx,x)
 paths:uP a p=true
 Sg:m.aQ mx=true
 e_:e_=rt.aD q none
 ls:∀Pr Fs i,o_ h Pr t m x v (Fs (i+n))->u6 h Pr Fs i ks od vs
 out:∀o:cR ks,∃y:t.den,(∀tI site nG,f9 tI site ks aF o=some nG->xN tI site t a m' y=some nG)/\
  ∀h' fD Os i,mH h' fD Os i ks o vs->o_ h' fD t m' y v (Os (i+n))
 full:ks.all PK.full=true->m'.full t=true
theorem Uo{h:Array Obj}{Pr:BS}{Fs:Nat->BS}{S:St}{g:ay}{ks:List PK}{aF:List AV}{vs:List Value}{i:Nat}{rt e_:aO}{od:cR ks}(hn:(ks.filter PK.eA).length=0)
  (ha:lC h S g aF vs) (hb:gw rt ks aF=some (od,e_)):e_=rt/\u6 h Pr Fs i ks od vs:=by
 refine IN ks aF vs i rt e_ od ?_ ha hb;rw[jU,LR]at hn;simpa using hn
theorem Ik{site:Nat}:∀(ks:List PK)(aF:List AV)(o:cR ks)(rt nG:aO),(ks.filter PK.eA).length=0->f9 rt site ks aF o=some nG->nG=rt
 | [],aF,o,rt,nG,_,hb=>by
  cases aF with
  | nil=>simp only[f9,aI]at hb;exact hb.symm
  | cons a aF=>simp[f9]at hb
 | k::ks,[],o,rt,nG,_,hb=>by cases k<;>simp[f9]at hb
 | k::ks,a::aF,o,rt,nG,hn,hb=>by
  cases k with
  | cA t m m'=>simp[PK.eA]at hn
  | cN t m m'=>simp[PK.eA]at hn
  | val t=>exact Ik ks aF o rt nG (by simpa [PK.eA] using hn) (by simpa only [f9] using hb)
  | own t m=>exact Ik ks aF o rt nG (by simpa [PK.eA] using hn) (by simpa only [f9] using hb)
  | bZ t=>exact Ik ks aF o rt nG (by simpa [PK.eA] using hn) (by simpa only [f9] using hb)
  | fn=>exact Ik ks aF o rt nG (by simpa [PK.eA] using hn) (by simpa only [f9] using hb)
theorem QD{h:Array Obj}{S:St}{g:ay}:∀(ks:List PK)(aF:List AV)(vs:List Value)(rt e_:aO)(od:cR ks),(ks.filter PK.eA).length=1->lC h S g aF vs->gw rt ks aF=some (od,e_)->vM ks aF=true->
  ∃n a v,qe h S g a v/\((∃q t m m' R x,a=.addr q []/\v5 h ks aF vs rt e_ od n v q t m m' R x)\/(∃q p R md t xd m m' mx x,v7 h ks aF vs rt e_ od n a v q p R md t xd m m' mx x))
 | [],aF,vs,rt,e_,od,hn,ha,hb,hlo=>by simp at hn
 | k::ks,[],vs,rt,e_,od,hn,ha,hb,hlo=>by cases k<;>simp[gw]at hb
 | k::ks,a::aF,vs,rt,e_,od,hn,ha,hb,hlo=>by
  obtain⟨v,vs',rfl,r1,r2⟩:=ha;have step:∀(hk:k.eA=false)(JF:vM ks aF=true)(SQ:cR ks),gw rt ks aF=some (SQ,e_)->
    (∀h Pr Fs i,u6 h Pr Fs (i+1) ks SQ vs'->u6 h Pr Fs i (k::ks) od (v::vs'))->
    (∀o:cR (k::ks),∃o':cR ks,(∀tI site,f9 tI site (k::ks) (a::aF) o=f9 tI site ks aF o')/\∀h' fD Os i,mH h' fD Os i (k::ks) o (v::vs')->mH h' fD Os (i+1) ks o' vs')->
    ∃n a' v',qe h S g a' v'/\((∃q t m m' R x,a'=.addr q []/\v5 h (k::ks) (a::aF) (v::vs') rt e_ od n v' q t m m' R x)\/(∃q p R md t xd m m' mx x,v7 h (k::ks) (a::aF) (v::vs') rt e_ od n a' v' q p R md t xd m m' mx x)):=by
   intro hk JF SQ hb' hls hout;have hn':(ks.filter PK.eA).length=1:=by rw[List.filter_cons_of_neg (by simp[hk])]at hn;exact hn
   obtain⟨n,a',v',ra,wu⟩:=QD ks aF vs' rt e_ SQ hn' r2 hb' JF;refine⟨n+1,a',v',ra,?_⟩;rcases wu with⟨q,t,m,m',R,x,e,L⟩ | ⟨q,p,R,md,t,xd,m,m',mx,x,L⟩
   .refine .inl ⟨q,t,m,m',R,x,e,L.root,L.Sg,L.mem,L.cast,L.e_,?_,?_,?_⟩
    .intro Pr Fs i hp;exact hls _ _ _ _ (L.ls Pr Fs (i+1) (by rw[show i+1+n=i+(n+1) by omega];exact hp))
    .intro o;obtain⟨o',zT,oJ⟩:=hout o;obtain⟨y,hy1,DF⟩:=L.out o';refine⟨y,fun tI site nG hh=>hy1 tI site nG (by rw[<-zT];exact hh),fun h' fD Os i hh=>?_⟩;have:=DF h' fD Os (i+1) (oJ h' fD Os i hh)
     rwa [show i+1+n=i+(n+1) by omega]at this
    .intro hf;simp only[gK,bC]at hf;exact L.full hf.2
   .refine .inr ⟨q,p,R,md,t,xd,m,m',mx,x,L.place,L.root,L.C_,L.w9,L.paths,L.Sg,L.e_,?_,?_,?_⟩
    .intro Pr Fs i hp;exact hls _ _ _ _ (L.ls Pr Fs (i+1) (by rw[show i+1+n=i+(n+1) by omega];exact hp))
    .intro o;obtain⟨o',zT,oJ⟩:=hout o;obtain⟨y,hy1,DF⟩:=L.out o';refine⟨y,fun tI site nG hh=>hy1 tI site nG (by rw[<-zT];exact hh),fun h' fD Os i hh=>?_⟩;have:=DF h' fD Os (i+1) (oJ h' fD Os i hh)
     rwa [show i+1+n=i+(n+1) by omega]at this
    .intro hf;simp only[gK,bC]at hf;exact L.full hf.2
  cases k with
  | val t=>exact step rfl (by simpa only [vM] using hlo) od (by simpa only [gw] using hb) (fun h Pr Fs i k=>⟨v,vs',rfl,k⟩) (fun o=>⟨o,fun _ _=>by simp only[f9],fun h' fD Os i k=>by obtain⟨_,_,e,k⟩:=k;simp only[eL]at e;obtain⟨-,rfl⟩:=e;exact k⟩)
  | own t m=>exact step rfl (by simpa only [vM] using hlo) od (by simpa only [gw] using hb) (fun h Pr Fs i k=>⟨v,vs',rfl,k⟩) (fun o=>⟨o,fun _ _=>by simp only[f9],fun h' fD Os i k=>by obtain⟨_,_,e,k⟩:=k;simp only[eL]at e;obtain⟨-,rfl⟩:=e;exact k⟩)
  | bZ t=>exact step rfl (by simpa only [vM] using hlo) od (by simpa only [gw] using hb) (fun h Pr Fs i k=>⟨v,vs',rfl,k⟩) (fun o=>⟨o,fun _ _=>by simp only[f9],fun h' fD Os i k=>by obtain⟨_,_,e,k⟩:=k;simp only[eL]at e;obtain⟨-,rfl⟩:=e;exact k⟩)
  | fn=>exact step rfl (by simpa only [vM] using hlo) od (by simpa only [gw] using hb) (fun h Pr Fs i k=>⟨v,vs',rfl,k⟩) (fun o=>⟨o,fun _ _=>by simp only[f9],fun h' fD Os i k=>by obtain⟨_,_,e,k⟩:=k;simp only[eL]at e;obtain⟨-,rfl⟩:=e;exact k⟩)
  | cA t m m'=>
   have hn':(ks.filter PK.eA).length=0:=by rw[QM (by rfl)]at hn;simpa using hn
   cases a with
   | addr q p=>
    cases p with
    | nil=>
     simp only[gw]at hb;split at hb
     .rename_i R hR;split at hb
      .rename_i hc;simp only[cJ,aI,a_]at hb;obtain⟨x,hx,⟨od2,yF⟩,hb,e1,e2⟩:=hb;subst e2;obtain⟨e3,_⟩:=Uo (h:=h) (Pr:=Nil) (Fs:=fun _=>Nil) (i:=0) hn' r2 hb;refine⟨0,.addr q [],v,r1,.inl ⟨q,t,m,m',R,x,rfl,hR,hc.1,hc.2,hx,e3,?_,?_,?_⟩⟩
       .intro Pr Fs i hp;subst e1;exact⟨v,vs',rfl,hp,(Uo hn' r2 hb).2⟩
       .intro o;refine⟨o.1,fun tI site nG hh=>?_,fun h' fD Os i hh=>?_⟩
        .simp only[f9]at hh;split at hh
         .rename_i ht;exact⟨ht,Ik ks aF o.2 _ _ hn' hh⟩
         .simp at hh
        .obtain⟨_,_,e,k,_⟩:=hh;simp only[eL]at e;obtain⟨rfl,-⟩:=e;exact k
       .intro hf;simp only[gK,bC]at hf;exact hf.1
      .simp at hb
     .simp at hb
    | cons _ _=>simp[gw]at hb
   | _=>simp[gw]at hb
  | cN t m m'=>
   have hn':(ks.filter PK.eA).length=0:=by rw[QM (by rfl)]at hn;simpa using hn
   simp only[gw]at hb;split at hb
   .rename_i q p ua;split at hb
    .rename_i R hR;simp only[cJ]at hb;obtain⟨⟨td,md,xd⟩,hf,hb⟩:=hb;split at hb
     .rename_i htd;simp only at htd;subst htd;simp only[cJ]at hb;obtain⟨⟨mx,x⟩,rU,hb⟩:=hb;split at hb
      .rename_i hs;simp only[cJ,aI,a_]at hb;obtain⟨⟨od2,nG⟩,hb,e1,e2⟩:=hb;subst e2;obtain⟨e3,_⟩:=Uo (h:=h) (Pr:=Nil) (Fs:=fun _=>Nil) (i:=0) hn' r2 hb;refine⟨0,a,v,r1,.inr ⟨q,p,R,md,_,xd,m,m',mx,x,ua,hR,hf,rU,(by simp only[vM,ua,bC]at hlo;exact hlo.1),hs,e3,?_,?_,?_⟩⟩
       .intro Pr Fs i hp;subst e1;exact⟨v,vs',rfl,hp,(Uo hn' r2 hb).2⟩
       .intro o;refine⟨o.1,fun tI site nG hh=>?_,fun h' fD Os i hh=>?_⟩
        .simp only[f9,cJ]at hh;obtain⟨rt5,h5,h6⟩:=hh;rw[Ik ks aF o.2 _ _ hn' h6];exact h5
        .obtain⟨_,_,e,k,_⟩:=hh;simp only[eL]at e;obtain⟨rfl,-⟩:=e;exact k
       .intro hf;simp only[gK,bC]at hf;exact hf.1
      .simp at hb
     .simp at hb
    .simp at hb
   .simp at hb
theorem Lv{h:Array Obj}{S:St}{g:ay}{tmps:Array Value}{H:BS}(st:az h S g tmps H)(q:Nat):Kp h S g (S.aD q none) g:=by
 have bE:∀r',(S.aD q none).root r'=S.root r'\/(S.aD q none).root r'=none:=by intro r';rw[St.bY];by_cases e:r'=q/\q<S.rt.length<;>simp[e]
 intro u v y;refine(qe.keep (Sub.refl _) (fun _ _=>rfl) u).1 v y (AV.d6 (fun r p=>?_) (fun r p s=>?_) u)
 .exact(nC st (bE r) rfl rfl (fun _ _ _=>rfl)).1 p
 .exact(nC st (bE r) rfl rfl (fun _ _ _=>rfl)).2 p s
theorem ZD{h h2:Array Obj}{t:Ty}{x y:t.den}{m2:Mk}{c c2:List Value}{base:fy}{site:Nat}(hf:m2.fresh site (site+1)) :
  ∀p' t1 n1,jl site (site+1) p'=true->q8 t m2 p'=some (t1,n1)->bq t x p'->bq t y p'/\∀bp cp,b8 h t c base p'=some (bp,cp)->
   ∃ig,b8 h2 t c2 base p'=some (bp,ig)/\(∀s a,n1=.own s a->¬ (site<=s/\s<site+1)->ig=cp):=by
 intro p' t1 n1 hp fX _;obtain⟨hi',t_⟩:=CI p' hf hp fX;refine⟨yh _ _ hi' fX,fun bp cp ha=>?_⟩;obtain⟨ig,h3⟩:=CS (h':=h2) p' _ c2 _ hi' ha;exact⟨ig,h3,fun s a' e hs=>by subst e;exact absurd t_ hs⟩
section
variable {P:Program} {C:Ctx} {D:Den C} {S:St} {g:ay} {w:World} {tmps:Array Value}
variable {A:bV} {site:Nat} (dI:n8 P C D) (st:az w.heap S g tmps Nil)
include dI st
theorem ZB{f:FuncId}{aF:List AV}{vs:List Value}{d:Option Nat}(ok:ny A S d site)(hfr:site<1048576/\∀u,(S.get u).aR site (site+1)=true)
  (ha:lC w.heap S g aF vs) (VD:(C.sig f).params.all (fun k=>!k.lI)=true) {gd:i5 (C.sig f).params} (h1:fV S.rt (C.sig f).params aF=some (gd,S.rt))
  {od:cR (C.sig f).params} {e_:aO} {n:Nat} {v0:Value} {q:Nat} {t:Ty} {m m':Mk} {R:aB} {x:t.den} (qU:qe w.heap S g (.addr q []) v0)
  (L:v5 w.heap (C.sig f).params aF vs S.rt e_ od n v0 q t m m' R x) {a:eV (C.sig f).params} (h3:iR e_ (C.sig f).params aF gd od=some a)
  (hs:mb (C.sig f).params aF=true\/(C.sig f).full=true) {r:fc (C.sig f).res×cR (C.sig f).params} (hD:D f a=some r) {β:Bool} {v:AV} {yF rt':aO}
  (ho:f9 S.rt site (C.sig f).params aF r.2=some yF) (he:(lP A yF d site (C.sig f).res r.1).dec β=some (v,rt')) :
  Calls P f vs.toArray w fun e w'=>∃val,e=.returned val/\Post S g w tmps v rt' val w':=by
 have hR:=L.root;have bH:(S.root q).isSome:=by show(S.rt.root q).isSome=true;rw[hR];rfl
 obtain⟨e1,e2⟩:=CN L.cast;obtain⟨Rt,Rm,Rx,Uw⟩:=R;simp only at e1 e2;subst e1;simp only at e2;subst e2;have hmem:Uw=true:=L.mem;subst hmem;obtain⟨base,c,F,q1,q2,q3,q4,q5,q6⟩:=st.mL hR (Kv Rt Rm Rx) (xI _ _);simp only[qe]at qU;obtain⟨_,b,off,c',eg,Jc⟩:=qU _ hR _ (Kv _ _ _);rw[DQ]at eg q1;simp only[aI,a_]at eg q1;obtain⟨bQ,fK⟩:=q1;obtain⟨Jm,hb4⟩:=eg;obtain⟨F00,_,_,_,mD,_⟩:=st.roots q _ hR;obtain⟨b0,hB,hGb,wO⟩:=mD rfl;have hbase:g.base q=some (b0,0):=by simp[ay.base,hB]
 rw[hbase]at bQ Jm;simp only[aI,a_]at Jm;obtain⟨rfl,rfl⟩:=Jm;subst bQ;subst fK;obtain⟨oh,_⟩:=q4 b0 0 rfl;obtain⟨F1,F2,s1,s2,s3,s4⟩:=aq.aQ Rt L.Sg q2;have oV:=(st.gv bH).cP F2 (fun z hz=>.inr (q3 z (s2 z hz)))
 let g2:ay:={ g with Pr:=Un g.Pr F2 }
 have zY:Kp w.heap S g (S.aD q none) g2:=(Lv st q).trans (Ih (st.gv bH) F2)
 let Fs:Nat->BS:=fun j=>if j=n then (fun z=>z=b0\/F1 z) else Nil
 have oe:∀i,Sub (Fs i) (fun z=>(Nil z\/g.G q z)/\¬ F2 z):=by
  intro i z hz;simp only[Fs]at hz;split at hz
  .rcases hz with rfl | hz
   .exact⟨.inr hGb,fun h=>oh (s2 _ h)⟩
   .exact⟨.inr (q3 z (s1 z hz)),fun h=>s3 z hz h⟩
  .exact hz.elim
 have e2:e_=(S.aD q none).rt:=L.e_;subst e2;obtain⟨gg1,HH1,FF,kk⟩:=BE (sl:=S.sl) (C.sig f).params aF vs S.rt g Nil 0 gd S.rt ha st h1;have hG:=DY (h2:=w.heap) (f_:=g2.Pr) (pn:=Fs) (C.sig f).params 0 VD kk.2.2.2.2.1;have hL:=L.ls g2.Pr Fs 0 (by
  simp only[jx,Fs,aX];exact⟨b0,g.C q,F1,Jc,s4,wO,.inl rfl,fun z hz=>.inr hz,fun h=>oh (s1 _ h)⟩)
 have hps:=yf oV (sh:=mb (C.sig f).params aF) (Fs:=Fs) (C.sig f).params aF vs 0 gd od a (fun h=>h) (ha.kp zY) hG hL h3;have De:∀i j,i≠j->cq (Fs i) (Fs j):=by
  intro i j hij z h1 h2;simp only[Fs]at h1 h2;split at h1
  .split at h2
   .omega
   .exact h2
  .exact h1
 have pre:Pre w.heap (Seen (mb (C.sig f).params aF) (S.aD q none) g2) Fs (C.sig f).params a vs:=
  ⟨hps,De,fun i z hz=>AJ oV _ z (oe i z hz),fun i z hz=>oV.d_ z (oe i z hz),AK oV _⟩
 refine(dI.ok f a r hD w _ Fs vs pre).mono ?_;rintro e w' ⟨val,fD,Gs,Os,us,rfl,p⟩;obtain⟨y,hy1,DF⟩:=L.out r.2;obtain⟨wJ,rfl⟩:=hy1 S.rt site yF ho;obtain⟨b2,c2,Sm,C9,h_,mS,UQ,wm,hnb⟩:=DF _ _ _ _ p.out;rw[jx]at UQ wm;rw[Jc]at C9;simp only[Value.pointer.injEq,aI,Addr.mk.injEq,gM]at C9;subst C9;have iP:∀z,rE w.heap.size Fs z->w.heap.size<=z\/z=b0\/F1 z:=by
  rintro z (h | ⟨i,h⟩)
  .exact .inl h
  .simp only[Fs]at h;split at h
   .exact .inr h
   .exact h.elim
 let Dd:BS:=fun z=>mb (C.sig f).params aF=true/\fD z/\¬ g.Pr z
 have UL:∀z,Dd z->F z\/Nil z\/w.heap.size<=z:=by
  rintro z ⟨hsh,h1,h2⟩;rcases p.jY z h1 with h3 | h3
  .rw[hsh]at h3;simp only[Seen,aX]at h3;rcases h3 with h3 | h3
   .exact absurd h3 h2
   .exact .inl (s2 z h3)
  .rcases iP z h3 with h4 | rfl | h4
   .exact .inr (.inr h4)
   .exact(p.op n z UQ h1).elim
   .exact .inl (s1 z h4)
 have UM:∀z,Sm z->F z\/Nil z\/w.heap.size<=z:=by
  intro z hz;rcases iP z (p.oL n z (wm z hz)) with h4 | rfl | h4
  .exact .inr (.inr h4)
  .exact(hnb hz).elim
  .exact .inl (s1 z h4)
 have hfull:mb (C.sig f).params aF=false->(C.sig f).full=true:=fun h=>hs.resolve_left (by rw[h];simp);have yE:aq w'.heap (Un g.Pr Dd) Rt (m'.stamp site) y c2 Sm:=by
  refine(aq.stamp site _).1 ?_;cases hsh:mb (C.sig f).params aF with
  | true=>
   refine aq.mono (fun z hz=>?_) (fun _ _=>rfl) _ h_ (Sub.refl _) (fun _ _=>rfl);by_cases h1:g.Pr z
   .exact .inl h1
   .exact .inr ⟨hsh,hz,h1⟩
  | false=>have h5:=hfull hsh;simp only[rI.full,bC]at h5;exact aq.kZ _ (L.full h5.1) h_
 have nB:(g.C q).length=Rt.width:=aq.width _ q2;have iw:=aq.width _ h_;have j_:(m'.stamp site).fresh site (site+1):=Mk.dP site wJ;obtain⟨g',k1,k2,k3,k4,k5,k6,k7⟩:=q6 site (site+1) w'.heap (m'.stamp site) y c2 Sm Dd (m'.stamp site) y hfr.2
  (fun z hz wM hbz=>p.fr.block z hz (fun h=>by
   rcases iP z h with h4 | rfl | h4
   .omega
   .exact hbz 0 rfl
   .exact wM (s1 z h4)))
  p.fr.size
  (by
   intro b o e cs hcs;simp only[aI,a_]at e;obtain⟨rfl,rfl⟩:=e;obtain rfl:=iS.uniq wO hcs;exact⟨c2.toArray,mS,by rw[List.toList_toArray,List.toList_toArray];exact(Au (by omega)).symm⟩)
  yE (fun z h1 h2=>p.op n z (wm z h2) h1.2.1) (fun z hz=>hz.elim (UM z) (UL z))
  (fun z hz=>hz.elim (fun h=>p.xb n z (wm z h)) (fun h=>p.xo z h.2.1))
  (by simp[put,qbv]) (Mk.eK _ j_) (aK.ak _ (Mk.cK hfr.1 wJ)) (fun h=>by simp[qx]at h) (ZD j_)
 have hres:kH w'.heap g'.Pr Gs 0 (C.sig f).res r.1 us:=by
  refine kH.conv _ 0 ?_ p.res;cases hsh:mb (C.sig f).params aF with
  | true=>
   refine .inl (fun z hz=>?_);by_cases h1:g.Pr z
   .exact k2 z h1
   .exact k3 z ⟨hsh,hz,h1⟩
  | false=>have h5:=hfull hsh;simp only[rI.full,bC]at h5;exact .inr h5.2
 have UP:∀i,Sub (Gs i) (fun z=>(Nil z\/F z\/(w.heap.size<=z/\z<w'.heap.size))/\¬ (Sm z\/Dd z)):=by
  intro i z hz;refine⟨?_,?_⟩
  .rcases iP z (p.gL i z hz) with h4 | rfl | h4
   .exact .inr (.inr ⟨h4,p.tP i z hz⟩)
   .exact(p.go i n z hz UQ).elim
   .exact .inr (.inl (s1 z h4))
  .rintro(h | h)
   .exact p.go i n z hz (wm z h)
   .exact p.gp i z hz h.2.1
 obtain⟨g4,t1,t2,t3⟩:=FE (S:=S) k1 UP p.wk ok (C.sig f).res hres he;refine⟨val,rfl,g4,t1,by rw[p.val];exact t2,k4.trans t3,p.fr.mono ?_⟩;intro z hz h;rcases iP z h with h4 | rfl | h4
 .omega
 .exact st.own q _ bH hGb
 .exact st.own q _ bH (q3 z (s1 z h4))
end
theorem abz{h:Array Obj}{S:St}{g:ay}{q:Nat}{R:aB}(hR:S.root q=some R):∀(t:Ty){a:AV}{p:Path}{md:Mk}{xd:t.den}{z:Mk×t.den}{cu:List Value}{rp:Nat×Path},
  focus R.ty R.ms R.x p=some ⟨t,md,xd⟩->dc h S g a cu->jN q t a p md xd=some z->uP a p=true->jZ a=some rp->bq R.ty R.x p:=by
 intro t
 induction t with
 | pair ta tb fP ki=>
  intro a p md xd z cu rp hf hc hl jX hp;cases a with
  | pair u v=>
   simp only[jN,cJ]at hl;obtain⟨y,hy,z',hz,-⟩:=hl;simp only[dc]at hc;obtain⟨ca,cb,-,h1,h2⟩:=hc;simp only[uP,bC]at jX;cases hu:jZ u with
   | some rp'=>have:=fP (by rw[uL p _ hf];simp[focus]) h1 hy jX.1 hu;exact((yq p _ hf).1 this).1
   | none=>
    cases hv:jZ v with
    | some rp'=>have:=ki (by rw[uL p _ hf];simp[focus]) h2 hz jX.2 hv;exact((yq p _ hf).1 this).1
    | none=>simp[jZ,hu,hv]at hp
  | b5 r' p' s=>simp[jN]at hl
  | _=>simp[jZ]at hp
 | sl e ih=>
  intro a p md xd z cu rp hf hc hl jX hp;cases a with
  | pair u v=>simp[jN]at hl
  | b5 r' p' s=>
   simp only[jN]at hl;cases md with
   | own s' m0=>
    simp only at hl;split at hl
    .rename_i nK;obtain⟨rfl,rfl⟩:=nK;simp only[uP,gI]at jX;subst jX;simp only[dc]at hc;obtain⟨v,rfl,hb⟩:=hc;exact(hb R hR _ _ _ hf).1
    .simp at hl
   | _=>simp at hl
  | _=>simp[jZ]at hp
 | _=>
  intro a p md xd z cu rp hf hc hl jX hp;cases a with
  | pair u v=>simp[jN]at hl
  | b5 r' p' s=>simp[jN]at hl
  | _=>simp[jZ]at hp
theorem QE{h:Array Obj}{S:St}{g:ay}{q:Nat}{R:aB}(hR:S.root q=some R):∀(t:Ty){a:AV}{p:Path}{md:Mk}{xd:t.den}{mx:Mk}{x:t.den}{c cu:List Value}{base:fy}{F:BS},
  focus R.ty R.ms R.x p=some ⟨t,md,xd⟩->b8 h R.ty (g.C q) (g.base q) p=some (base,c)->aq h g.Pr t md xd c F->dc h S g a cu->
  jN q t a p md xd=some (mx,x)->uP a p=true->aq h g.Pr t mx x cu F:=by
 intro t;have hval:∀(t:Ty)(t':Ty)(x':t'.den)(md:Mk)(mx:Mk)(x:t.den)(cu:List Value)(F:BS),
   (if md.still=true then (qbv t' t x').bind fun y=>some (Mk.no,y) else none)=some (mx,x)->aq h g.Pr t' .no x' cu Nil->aq h g.Pr t mx x cu F:=by
  intro t t' x' md mx x cu F hl hr;split at hl
  .simp only[cJ,aI,a_]at hl;obtain⟨y,hy,rfl,rfl⟩:=hl;exact(aq.cast hy hr).2.room _ (Sub.nil _)
  .simp at hl
 induction t with
 | pair ta tb fP ki=>
  intro a p md xd mx x c cu base F hf ha r hc hl jX;cases a with
  | pair u v=>simp only[jN,cJ,aI,a_]at hl;obtain⟨y,hy,z',hz,rfl,rfl⟩:=hl;simp only[dc]at hc;obtain⟨ca,cb,rfl,h1,h2⟩:=hc;simp only[uP,bC]at jX;simp only[aq]at r;obtain⟨da,db,Fa,Fb,rfl,ra,rb,sa,sb,dd⟩:=r;have hw:=aq.width _ ra;have e1:=fP (base:=base) (F:=Fa) (c:=da) (by rw[uL p _ hf];simp[focus]) (by rw[uT p _ hf ha];simp only[b8];rw[<-hw,iX rfl]) ra h1 hy jX.1;have e2:=ki (base:=base.map fun x=>(x.1,x.2+ta.width)) (F:=Fb) (c:=db) (by rw[uL p _ hf];simp[focus]) (by rw[uT p _ hf ha];simp only[b8];rw[<-hw,iL rfl]) rb h2 hz jX.2;simp only[aq];exact⟨ca,cb,Fa,Fb,rfl,e1,e2,sa,sb,dd⟩
  | val t' x'=>simp only[jN]at hl;simp only[dc]at hc;exact hval _ _ _ _ _ _ _ _ hl hc
  | _=>simp[jN]at hl
 | sl e ih=>
  intro a p md xd mx x c cu base F hf ha r hc hl jX;cases a with
  | b5 r' p' s=>
   simp only[jN]at hl;cases md with
   | own s' m0=>
    simp only at hl;split at hl
    .rename_i nK;obtain⟨rfl,rfl⟩:=nK;simp only[uP,gI]at jX;subst jX;simp only[dc]at hc;obtain⟨v,rfl,hb⟩:=hc;obtain⟨_,b',eg⟩:=hb R hR _ _ _ hf;rw[eg]at ha;simp only[aI,a_]at ha hl;obtain⟨_,rfl⟩:=ha;obtain⟨rfl,rfl⟩:=hl;exact r
    .simp at hl
   | _=>simp at hl
  | val t' x'=>simp only[jN]at hl;simp only[dc]at hc;exact hval _ _ _ _ _ _ _ _ hl hc
  | _=>simp[jN]at hl
 | unit=>
  intro a p md xd mx x c cu base F hf ha r hc hl jX;cases a with
  | val t' x'=>simp only[jN]at hl;simp only[dc]at hc;exact hval _ _ _ _ _ _ _ _ hl hc
  | unit=>simp only[dc]at hc;subst hc;simp only[aq]
  | _=>simp[jN]at hl
 | int k=>
  intro a p md xd mx x c cu base F hf ha r hc hl jX;cases a with
  | val t' x'=>simp only[jN]at hl;simp only[dc]at hc;exact hval _ _ _ _ _ _ _ _ hl hc
  | _=>simp[jN]at hl
 | bool=>
  intro a p md xd mx x c cu base F hf ha r hc hl jX;cases a with
  | val t' x'=>simp only[jN]at hl;simp only[dc]at hc;exact hval _ _ _ _ _ _ _ _ hl hc
  | _=>simp[jN]at hl
 | str=>
  intro a p md xd mx x c cu base F hf ha r hc hl jX;cases a with
  | val t' x'=>simp only[jN]at hl;simp only[dc]at hc;exact hval _ _ _ _ _ _ _ _ hl hc
  | _=>simp[jN]at hl
theorem aaM{h h2:Array Obj}{S:St}{g:ay}{f_:BS}{site q:Nat}{R:aB}(hR:S.root q=some R)(hp:Sub g.Pr f_)(hk:∀b,g.Pr b->h2[b]? = h[b]?) :
  ∀(t:Ty){a:AV}{p:Path}{md:Mk}{xd:t.den}{m mm:Mk}{o yy:t.den}{c cu:List Value}{base:fy}{F Os:BS},
  focus R.ty R.ms R.x p=some ⟨t,md,xd⟩->b8 h R.ty (g.C q) (g.base q) p=some (base,c)->aq h g.Pr t md xd c F->dc h S g a cu->
  aq h2 f_ t m o cu Os->(∃z,jN q t a p md xd=some z)->uP a p=true->gx site q t a p md xd m o=some (mm,yy)->
  ∃F1 F2,Sub F1 Os/\Sub F2 Os/\cq F1 F2/\aq h2 (fun b=>f_ b\/F2 b) t mm yy c F1:=by
 intro t;have hval:∀(t:Ty)(md:Mk)(xd:t.den)(mm:Mk)(yy:t.den)(c:List Value)(F Os:BS),
   (if md.still=true then some (Mk.no,xd) else none)=some (mm,yy)->aq h g.Pr t md xd c F->∃F1 F2,Sub F1 Os/\Sub F2 Os/\cq F1 F2/\aq h2 (fun b=>f_ b\/F2 b) t mm yy c F1:=by
  intro t md xd mm yy c F Os hl hr;split at hl
  .rename_i hs;simp only[aI,a_]at hl;obtain⟨rfl,rfl⟩:=hl;exact⟨Nil,Nil,Sub.nil _,Sub.nil _,cq.nil _,aq.mono (fun b hb=>.inl (hp b hb)) hk t (aq.eH (F':=Nil) t hs hr) (Sub.refl _) (fun _ h=>h.elim)⟩
  .simp at hl
 induction t with
 | pair ta tb fP ki=>
  intro a p md xd m mm o yy c cu base F Os hf ha r hc ro hle jX hl;cases a with
  | pair u v=>
   simp only[gx,cJ,aI,a_]at hl;obtain⟨y,hy,z',hz,rfl,rfl⟩:=hl;simp only[dc]at hc;obtain⟨ca,cb,rfl,h1,vk⟩:=hc;simp only[uP,bC]at jX;simp only[aq]at r;obtain⟨da,db,Fa,Fb,rfl,ra,rb,sa,sb,dd⟩:=r;have hw:=aq.width _ ra;simp only[aq]at ro;obtain⟨ea,eb,Oa,Ob,eo,roa,rob,soa,sob,UA⟩:=ro;have f1:focus R.ty R.ms R.x (p++[.fst])=some ⟨ta,md.fst,xd.1⟩:=by rw[uL p _ hf];simp[focus]
   have f2:focus R.ty R.ms R.x (p++[.snd])=some ⟨tb,md.snd,xd.2⟩:=by rw[uL p _ hf];simp[focus]
   have a1:b8 h R.ty (g.C q) (g.base q) (p++[.fst])=some (base,da):=by rw[uT p _ hf ha];simp only[b8];rw[<-hw,iX rfl]
   have a2:b8 h R.ty (g.C q) (g.base q) (p++[.snd])=some (base.map fun x=>(x.1,x.2+ta.width),db):=by rw[uT p _ hf ha];simp only[b8];rw[<-hw,iL rfl]
   obtain⟨zz,hle⟩:=hle;simp only[jN,cJ]at hle;obtain⟨zy,hzy,zz,V9,-⟩:=hle;have ji:ca=ea/\cb=eb:=by
    have w1:=aq.width _ roa;have w2:=aq.width _ rob;have:ca.length=ea.length:=by rw[w1];exact aq.width _ (QE hR ta f1 a1 ra h1 (mx:=zy.1) (x:=zy.2) hzy jX.1)
    exact List.append_inj eo this
   obtain⟨rfl,rfl⟩:=ji;obtain⟨A1,A2,s1,s2,d1,r1⟩:=fP f1 a1 ra h1 roa ⟨_,hzy⟩ jX.1 hy;obtain⟨B1,B2,s3,s4,d2,r2⟩:=ki f2 a2 rb vk rob ⟨_,V9⟩ jX.2 hz;refine⟨fun b=>A1 b\/B1 b,fun b=>A2 b\/B2 b,?_,?_,?_,?_⟩
   .rintro z (hz | hz)
    .exact soa z (s1 z hz)
    .exact sob z (s3 z hz)
   .rintro z (hz | hz)
    .exact soa z (s2 z hz)
    .exact sob z (s4 z hz)
   .rintro z (hz | hz) (hy | hy)
    .exact d1 z hz hy
    .exact UA z (s1 z hz) (s4 z hy)
    .exact UA z (s2 z hy) (s3 z hz)
    .exact d2 z hz hy
   .simp only[aq];exact⟨da,db,A1,B1,rfl,aq.mono (fun z hz=>hz.imp id .inl) (fun _ _=>rfl) _ r1 (Sub.refl _) (fun _ _=>rfl),
     aq.mono (fun z hz=>hz.imp id .inr) (fun _ _=>rfl) _ r2 (Sub.refl _) (fun _ _=>rfl),fun z hz=>.inl hz,fun z hz=>.inr hz,UA.mono s1 s3⟩
  | val t' x'=>simp only[gx]at hl;exact hval _ _ _ _ _ _ _ _ hl r
  | unit=>simp only[gx]at hl;exact hval _ _ _ _ _ _ _ _ hl r
  | _=>simp[gx]at hl
 | sl e ih=>
  intro a p md xd m mm o yy c cu base F Os hf ha r hc ro hle jX hl;cases a with
  | b5 r' p' s=>
   simp only[gx]at hl;cases md with
   | own s' m0=>
    simp only at hl;split at hl
    .rename_i nK;obtain⟨rfl,rfl,mX,VV⟩:=nK;simp only[uP,gI]at jX;subst jX;simp only[dc]at hc;obtain⟨v,rfl,hb⟩:=hc;obtain⟨_,b',eg⟩:=hb R hR _ _ _ hf;rw[eg]at ha;simp only[aI,a_]at ha hl;obtain⟨_,rfl⟩:=ha;obtain⟨rfl,rfl⟩:=hl;obtain⟨F1,F2,s1,s2,d,rr⟩:=aq.aQ _ VV ro;refine⟨F1,F2,s1,s2,d,?_⟩;have:=(aq.stamp site _).1 rr;simp only[Mk.stamp,aq]at this⊢;exact this
    .simp at hl
   | _=>simp at hl
  | val t' x'=>simp only[gx]at hl;exact hval _ _ _ _ _ _ _ _ hl r
  | unit=>simp only[gx]at hl;exact hval _ _ _ _ _ _ _ _ hl r
  | _=>simp[gx]at hl
 | unit=>
  intro a p md xd m mm o yy c cu base F Os hf ha r hc ro hle jX hl;cases a with
  | val t' x'=>simp only[gx]at hl;exact hval _ _ _ _ _ _ _ _ hl r
  | unit=>simp only[gx]at hl;exact hval _ _ _ _ _ _ _ _ hl r
  | _=>simp[gx]at hl
 | int k=>
  intro a p md xd m mm o yy c cu base F Os hf ha r hc ro hle jX hl;cases a with
  | val t' x'=>simp only[gx]at hl;exact hval _ _ _ _ _ _ _ _ hl r
  | unit=>simp only[gx]at hl;exact hval _ _ _ _ _ _ _ _ hl r
  | _=>simp[gx]at hl
 | bool=>
  intro a p md xd m mm o yy c cu base F Os hf ha r hc ro hle jX hl;cases a with
  | val t' x'=>simp only[gx]at hl;exact hval _ _ _ _ _ _ _ _ hl r
  | unit=>simp only[gx]at hl;exact hval _ _ _ _ _ _ _ _ hl r
  | _=>simp[gx]at hl
 | str=>
  intro a p md xd m mm o yy c cu base F Os hf ha r hc ro hle jX hl;cases a with
  | val t' x'=>simp only[gx]at hl;exact hval _ _ _ _ _ _ _ _ hl r
  | unit=>simp only[gx]at hl;exact hval _ _ _ _ _ _ _ _ hl r
  | _=>simp[gx]at hl
theorem vJ{t:Ty}{md mm:Mk}{xd yy:t.den}(hl:(if md.still=true then some (Mk.no,xd) else none)=some (mm,yy)):md.still=true/\mm=.no/\yy=xd:=by
 split at hl
 .rename_i hs;simp only[aI,a_]at hl;exact⟨hs,hl.1.symm,hl.2.symm⟩
 .simp at hl
theorem aaN{hd:Nat->Value}{site q:Nat}(hs:site<1048576):∀(t:Ty){a:AV}{p:Path}{md:Mk}{xd:t.den}{m mm:Mk}{o yy:t.den}{c:List Value},
  gx site q t a p md xd m o=some (mm,yy)->aK hd t md c->aK hd t mm c/\md.nt site (site+1) mm:=by
 intro t
 induction t with
 | pair ta tb fP ki=>
  intro a p md xd m mm o yy c hl mY;cases a with
  | pair u v=>simp only[gx,cJ,aI,a_]at hl;obtain⟨y,hy,z',hz,rfl,rfl⟩:=hl;simp only[aK]at mY⊢;have h1:=fP hy mY.1;have h2:=ki hz mY.2;exact⟨⟨h1.1,h2.1⟩,h1.2,h2.2⟩
  | val t' x'=>simp only[gx]at hl;obtain⟨_,rfl,rfl⟩:=vJ hl;exact⟨aK.no _ _,trivial⟩
  | unit=>simp only[gx]at hl;obtain⟨_,rfl,rfl⟩:=vJ hl;exact⟨aK.no _ _,trivial⟩
  | _=>simp[gx]at hl
 | sl e ih=>
  intro a p md xd m mm o yy c hl mY;cases a with
  | b5 r' p' s=>
   simp only[gx]at hl;cases md with
   | own s' m0=>
    simp only at hl;split at hl
    .rename_i nK;obtain⟨rfl,rfl,mX,VV⟩:=nK;simp only[aI,a_]at hl;obtain⟨rfl,rfl⟩:=hl;simp only[aK]at mY⊢;exact⟨⟨mY.1,Mk.cK hs mX⟩,.inr ⟨_,rfl,Mk.eK _ (Mk.dP site mX)⟩⟩
    .simp at hl
   | _=>simp at hl
  | val t' x'=>simp only[gx]at hl;obtain⟨_,rfl,rfl⟩:=vJ hl;exact⟨aK.no _ _,trivial⟩
  | unit=>simp only[gx]at hl;obtain⟨_,rfl,rfl⟩:=vJ hl;exact⟨aK.no _ _,trivial⟩
  | _=>simp[gx]at hl
 | _=>
  intro a p md xd m mm o yy c hl mY;cases a with
  | val t' x'=>simp only[gx]at hl;obtain⟨_,rfl,rfl⟩:=vJ hl;exact⟨aK.no _ _,trivial⟩
  | unit=>simp only[gx]at hl;obtain⟨_,rfl,rfl⟩:=vJ hl;exact⟨aK.no _ _,trivial⟩
  | _=>simp[gx]at hl
theorem ZI{h h2:Array Obj}{Pr f_:BS}{site q:Nat}:∀(t:Ty){a:AV}{p:Path}{md:Mk}{xd:t.den}{m mm:Mk}{o yy:t.den}{c:List Value}{base:fy}{F F1:BS},
  gx site q t a p md xd m o=some (mm,yy)->aq h Pr t md xd c F->aq h2 f_ t mm yy c F1->
  ∀p' t1 n1,jl site (site+1) p'=true->q8 t mm p'=some (t1,n1)->bq t xd p'->bq t yy p'/\∀bp cp,b8 h t c base p'=some (bp,cp)->
   ∃ig,b8 h2 t c base p'=some (bp,ig)/\(∀s a,n1=.own s a->¬ (site<=s/\s<site+1)->ig=cp):=by
 intro t;have hval:∀(t:Ty)(c:List Value)(base:fy)(x:t.den)(p':Path)(t1:Ty)(n1:Mk),jl site (site+1) p'=true->q8 t .no p'=some (t1,n1)->bq t x p'->bq t x p'/\∀bp cp,b8 h t c base p'=some (bp,cp)->
   ∃ig,b8 h2 t c base p'=some (bp,ig)/\(∀s a,n1=.own s a->¬ (site<=s/\s<site+1)->ig=cp):=by
  intro t c base x p' t1 n1 hp fX hi;obtain⟨hi',t_⟩:=CI (lo:=site) (hi:=site+1) p' (m:=.no) trivial hp fX;refine⟨hi,fun bp cp ha=>?_⟩;obtain⟨ig,h3⟩:=CS (h':=h2) p' _ c _ hi' ha;exact⟨ig,h3,fun s a' e hs=>by subst e;exact absurd t_ hs⟩
 have zS:∀(t:Ty)(mm:Mk)(c:List Value)(base:fy)(y:t.den)(t1:Ty)(n1:Mk),bq t y []/\∀bp cp,b8 h t c base []=some (bp,cp)->
   ∃ig,b8 h2 t c base []=some (bp,ig)/\(∀s a,n1=.own s a->¬ (site<=s/\s<site+1)->ig=cp):=by
  intro t mm c base y t1 n1;refine⟨xI _ _,fun bp cp ha=>?_⟩;rw[DQ]at ha;exact⟨cp,by rw[DQ];exact ha,fun _ _ _ _=>rfl⟩
 induction t with
 | pair ta tb fP ki=>
  intro a p md xd m mm o yy c base F F1 hl r r2 p' t1 n1 hp fX hi;cases a with
  | pair u v=>
   simp only[gx,cJ,aI,a_]at hl;obtain⟨y,hy,z',hz,rfl,rfl⟩:=hl;simp only[aq]at r r2;obtain⟨da,db,Fa,Fb,rfl,ra,rb,-⟩:=r;obtain⟨ea,eb,Ea,Eb,ee,qa,qb,-⟩:=r2;obtain⟨rfl,rfl⟩:=List.append_inj ee (by rw[aq.width _ ra,aq.width _ qa]);have hw:=aq.width _ ra;cases p' with
   | nil=>exact zS _ (.pr y.1 z'.1) _ _ _ t1 _
   | cons st p'=>
    cases st with
    | fst=>simp only[q8,Mk.fst]at fX;simp only[bq]at hi⊢;obtain⟨h1,h3⟩:=fP (base:=base) hy ra qa p' t1 n1 (by simpa [jl] using hp) fX hi;refine⟨h1,fun bp cp ha=>?_⟩;simp only[b8]at ha⊢;rw[<-hw,iX rfl]at ha⊢;exact h3 _ _ ha
    | snd=>simp only[q8,Mk.snd]at fX;simp only[bq]at hi⊢;obtain⟨h1,h3⟩:=ki (base:=base.map fun x=>(x.1,x.2+ta.width)) hz rb qb p' t1 n1 (by simpa [jl] using hp) fX hi;refine⟨h1,fun bp cp ha=>?_⟩;simp only[b8]at ha⊢;rw[<-hw,iL rfl]at ha⊢;rw[hw]at ha⊢;exact h3 _ _ ha
    | idx i s=>simp[q8]at fX
  | val t' x'=>simp only[gx]at hl;obtain⟨_,rfl,rfl⟩:=vJ hl;exact hval _ _ _ _ _ _ _ hp fX hi
  | unit=>simp only[gx]at hl;obtain⟨_,rfl,rfl⟩:=vJ hl;exact hval _ _ _ _ _ _ _ hp fX hi
  | _=>simp[gx]at hl
 | sl e ih=>
  intro a p md xd m mm o yy c base F F1 hl r r2 p' t1 n1 hp fX hi;cases a with
  | b5 r' p0 s=>
   simp only[gx]at hl;cases md with
   | own s' m0=>
    simp only at hl;split at hl
    .rename_i nK;obtain⟨rfl,rfl,mX,VV⟩:=nK;simp only[aI,a_]at hl;obtain⟨rfl,rfl⟩:=hl;cases p' with
     | nil=>exact zS _ .no _ _ _ t1 _
     | cons st p'=>
      cases st with
      | fst=>simp[q8]at fX
      | snd=>simp[q8]at fX
      | idx i s=>
       simp only[q8]at fX;split at fX
       .rename_i hss;simp only[jl,bC]at hp;obtain⟨hip,t_⟩:=CI p' (Mk.dP site mX) hp.2 fX;simp only[aq]at r r2;obtain⟨a1,k1,rfl,nB,r⟩:=r;obtain⟨a2,k2,e2,iw,r2⟩:=r2;simp only[eL,Value.slice.injEq,gM]at e2;obtain⟨rfl,hlen,rfl⟩:=e2;simp only[bq]at hi⊢;refine⟨⟨hlen ▸ hi.1,yh _ _ hip fX⟩,fun bp cp ha=>?_⟩;rcases r2 with r2 | ⟨b,cs,rfl,fb,hb,hsz,-⟩
        .omega
        obtain⟨ty,lo,hi',he,_⟩:=hb;simp only[b8,he];simp only[b8]at ha;split at ha
        .obtain⟨ig,h3⟩:=CS (h':=h2) p' _ (sub cs (i * e.width) e.width) _ hip ha;exact⟨ig,h3,fun s a' e hs=>by subst e;exact absurd t_ hs⟩
        .simp at ha
       .simp at fX
    .simp at hl
   | _=>simp at hl
  | val t' x'=>simp only[gx]at hl;obtain⟨_,rfl,rfl⟩:=vJ hl;exact hval _ _ _ _ _ _ _ hp fX hi
  | unit=>simp only[gx]at hl;obtain⟨_,rfl,rfl⟩:=vJ hl;exact hval _ _ _ _ _ _ _ hp fX hi
  | _=>simp[gx]at hl
 | _=>
  intro a p md xd m mm o yy c base F F1 hl r r2 p' t1 n1 hp fX hi;cases a with
  | val t' x'=>simp only[gx]at hl;obtain⟨_,rfl,rfl⟩:=vJ hl;exact hval _ _ _ _ _ _ _ hp fX hi
  | unit=>simp only[gx]at hl;obtain⟨_,rfl,rfl⟩:=vJ hl;exact hval _ _ _ _ _ _ _ hp fX hi
  | _=>simp[gx]at hl
theorem aaa{h:Array Obj}{S:St}{g:ay}{q:Nat}{t:Ty}{a:AV}{p:Path}{md:Mk}{xd:t.den}{z:Mk×t.den}{rp:Nat×Path}{v:Value}
  (hp:jZ a=some rp) (hl:jN q t a p md xd=some z) (hv:qe h S g a v):∃c,v=cU t c/\dc h S g a c:=by
 cases a with
 | b5 r' p' s=>
  cases t with
  | sl e=>simp only[qe]at hv;exact⟨[v],by simp[cU,Ty.agg],by simp only[dc];exact⟨v,rfl,hv⟩⟩
  | _=>simp[jN]at hl
 | pair a b=>
  cases t with
  | pair ta tb=>simp only[qe]at hv;obtain⟨ca,cb,rfl,h1,h2⟩:=hv;exact⟨ca++cb,by simp[cU,Ty.agg],by simp only[dc];exact⟨ca,cb,rfl,h1,h2⟩⟩
  | _=>simp[jN]at hl
 | _=>simp[jZ]at hp
section
variable {P:Program} {C:Ctx} {D:Den C} {S:St} {g:ay} {w:World} {tmps:Array Value}
variable {A:bV} {site:Nat} (dI:n8 P C D) (st:az w.heap S g tmps Nil)
include dI st
theorem ZC{f:FuncId}{aF:List AV}{vs:List Value}{d:Option Nat}(ok:ny A S d site)(hfr:site<1048576/\∀u,(S.get u).aR site (site+1)=true)
  (ha:lC w.heap S g aF vs) (VD:(C.sig f).params.all (fun k=>!k.lI)=true) {gd:i5 (C.sig f).params} (h1:fV S.rt (C.sig f).params aF=some (gd,S.rt))
  {od:cR (C.sig f).params} {e_:aO} {n:Nat} {u0:AV} {v0:Value} {q:Nat} {p:Path} {R:aB} {md:Mk} {t:Ty} {xd:t.den} {m m' mx:Mk} {x:t.den} (qU:qe w.heap S g u0 v0)
  (L:v7 w.heap (C.sig f).params aF vs S.rt e_ od n u0 v0 q p R md t xd m m' mx x) {a:eV (C.sig f).params} (h3:iR e_ (C.sig f).params aF gd od=some a)
  (hs:mb (C.sig f).params aF=true\/(C.sig f).full=true) {r:fc (C.sig f).res×cR (C.sig f).params} (hD:D f a=some r) {β:Bool} {v:AV} {yF rt':aO}
  (ho:f9 S.rt site (C.sig f).params aF r.2=some yF) (he:(lP A yF d site (C.sig f).res r.1).dec β=some (v,rt')) :
  Calls P f vs.toArray w fun e w'=>∃val,e=.returned val/\Post S g w tmps v rt' val w':=by
 have hR:=L.root;have bH:(S.root q).isSome:=by show(S.rt.root q).isSome=true;rw[hR];rfl
 obtain⟨cu,Jc,U7⟩:=aaa L.place L.w9 qU;have hin:=abz hR t L.C_ U7 L.w9 L.paths L.place;obtain⟨base,c,F,q1,q2,q3,q4,q5,q6⟩:=st.mL hR L.C_ hin;have q2l:=QE hR t L.C_ q1 q2 U7 L.w9 L.paths;have VZ:aK g.hd t md c:=aK.at p (st.tag q R hR) L.C_ q1;obtain⟨F1,F2,s1,s2,s3,s4⟩:=aq.aQ t L.Sg q2l;have oV:=(st.gv bH).cP F2 (fun z hz=>.inr (q3 z (s2 z hz)))
 let g2:ay:={ g with Pr:=Un g.Pr F2 }
 have zY:Kp w.heap S g (S.aD q none) g2:=(Lv st q).trans (Ih (st.gv bH) F2)
 let Fs:Nat->BS:=fun j=>if j=n then F1 else Nil
 have oe:∀i,Sub (Fs i) (fun z=>(Nil z\/g.G q z)/\¬ F2 z):=by
  intro i z hz;simp only[Fs]at hz;split at hz
  .exact⟨.inr (q3 z (s1 z hz)),fun h=>s3 z hz h⟩
  .exact hz.elim
 have e2:e_=(S.aD q none).rt:=L.e_;subst e2;obtain⟨gg1,HH1,FF,kk⟩:=BE (sl:=S.sl) (C.sig f).params aF vs S.rt g Nil 0 gd S.rt ha st h1;have hG:=DY (h2:=w.heap) (f_:=g2.Pr) (pn:=Fs) (C.sig f).params 0 VD kk.2.2.2.2.1;have hL:=L.ls g2.Pr Fs 0 (by
  simp only[jx,Fs,aX];exact⟨cu,s4,Jc⟩)
 have hps:=yf oV (sh:=mb (C.sig f).params aF) (Fs:=Fs) (C.sig f).params aF vs 0 gd od a (fun h=>h) (ha.kp zY) hG hL h3;have De:∀i j,i≠j->cq (Fs i) (Fs j):=by
  intro i j hij z h1 h2;simp only[Fs]at h1 h2;split at h1
  .split at h2
   .omega
   .exact h2
  .exact h1
 have pre:Pre w.heap (Seen (mb (C.sig f).params aF) (S.aD q none) g2) Fs (C.sig f).params a vs:=
  ⟨hps,De,fun i z hz=>AJ oV _ z (oe i z hz),fun i z hz=>oV.d_ z (oe i z hz),AK oV _⟩
 refine(dI.ok f a r hD w _ Fs vs pre).mono ?_;rintro e w' ⟨val,fD,Gs,Os,us,rfl,p0⟩;obtain⟨y,hy1,DF⟩:=L.out r.2;have fl:=hy1 S.rt site yF ho;obtain⟨cu',BW,C9⟩:=DF _ _ _ _ p0.out;rw[jx]at BW;obtain rfl:cu=cu':=ajA q2l BW (Jc.symm.trans C9);have iP:∀z,rE w.heap.size Fs z->w.heap.size<=z\/F1 z:=by
  rintro z (h | ⟨i,h⟩)
  .exact .inl h
  .simp only[Fs]at h;split at h
   .exact .inr h
   .exact h.elim
 let D0:BS:=fun z=>mb (C.sig f).params aF=true/\fD z/\¬ g.Pr z
 have hD0:∀z,D0 z->F z\/Nil z\/w.heap.size<=z:=by
  rintro z ⟨hsh,h1,h2⟩;rcases p0.jY z h1 with h3 | h3
  .rw[hsh]at h3;simp only[Seen,aX]at h3;rcases h3 with h3 | h3
   .exact absurd h3 h2
   .exact .inl (s2 z h3)
  .rcases iP z h3 with h4 | h4
   .exact .inr (.inr h4)
   .exact .inl (s1 z h4)
 have hOm:∀z,Os n z->F z\/Nil z\/w.heap.size<=z:=by
  intro z hz;rcases iP z (p0.oL n z hz) with h4 | h4
  .exact .inr (.inr h4)
  .exact .inl (s1 z h4)
 have hfull:mb (C.sig f).params aF=false->(C.sig f).full=true:=fun h=>hs.resolve_left (by rw[h];simp);have yE:aq w'.heap (Un g.Pr D0) t m' y cu (Os n):=by
  cases hsh:mb (C.sig f).params aF with
  | true=>
   refine aq.mono (fun z hz=>?_) (fun _ _=>rfl) _ BW (Sub.refl _) (fun _ _=>rfl);by_cases h1:g.Pr z
   .exact .inl h1
   .exact .inr ⟨hsh,hz,h1⟩
  | false=>have h5:=hfull hsh;simp only[rI.full,bC]at h5;exact aq.kZ _ (L.full h5.1) BW
 have Vo:∀z,z<w.heap.size->¬ F z->w'.heap[z]? = w.heap[z]?:=fun z hz wM=>p0.fr.block z hz (fun h=>by
   rcases iP z h with h4 | h4
   .omega
   .exact wM (s1 z h4))
 have HU:∀b,g.Pr b->w'.heap[b]? = w.heap[b]?:=fun b hb=>Vo b (st.bP b hb) (fun h=>st.dK q bH b (q3 b h) hb);unfold xN at fl;rw[L.place]at fl;simp only at fl;rw[hR]at fl;simp only[cJ]at fl;obtain⟨dd,kT,fl⟩:=fl;rw[L.C_]at kT;simp only[aI]at kT;subst kT;simp only[↓reduceDIte,cJ]at fl;obtain⟨⟨mm,yy⟩,Vw,fl⟩:=fl;simp only at fl;split at fl
 .simp at fl
 rename_i hidx;simp only[cJ,aI]at fl;obtain⟨⟨mr,xr⟩,hput,fl⟩:=fl;subst fl;obtain⟨G1,G2,t1,t2,t3,qI⟩:=aaM (site:=site) hR (fun z hz=>Or.inl hz) HU t L.C_ q1 q2 U7 yE ⟨_,L.w9⟩ L.paths Vw;obtain⟨mY,V3⟩:=aaN hfr.1 t Vw VZ;have Dx:=ZI (base:=base) t Vw q2 qI
 let Dd:BS:=fun z=>D0 z\/G2 z
 have UL:∀z,Dd z->F z\/Nil z\/w.heap.size<=z:=by
  rintro z (h | h)
  .exact hD0 z h
  .exact hOm z (t2 z h)
 obtain⟨g',k1,k2,k3,k4,k5,k6,k7⟩:=q6 site (site+1) w'.heap mm yy c G1 Dd mr xr hfr.2
  (fun z hz wM _=>Vo z hz wM)
  p0.fr.size
  (by
   intro b o e cs hcs;obtain⟨fH,h5,h6⟩:=yP.self q4 b o e cs hcs;exact⟨fH,h5.congr (Vo b (by obtain⟨_,_,_,h7,_⟩:=hcs;exact(qO.1 h7).1) (q4 b o e).1),h6⟩)
  (aq.mono (fun z hz=>hz.elim (fun h=>h.imp id .inl) (fun h=>.inr (.inr h))) (fun _ _=>rfl) _ qI (Sub.refl _) (fun _ _=>rfl))
  (fun z h1 h2=>h1.elim (fun h1=>p0.op n z (t1 z h2) h1.2.1) (fun h1=>t3 z h2 h1))
  (fun z hz=>hz.elim (fun h=>hOm z (t1 z h)) (UL z))
  (fun z hz=>hz.elim (fun h=>p0.xb n z (t1 z h)) (fun h=>h.elim (fun h=>p0.xo z h.2.1) (fun h=>p0.xb n z (t2 z h))))
  hput V3 mY (fun h=>by simpa [h] using hidx) Dx
 have hres:kH w'.heap g'.Pr Gs 0 (C.sig f).res r.1 us:=by
  refine kH.conv _ 0 ?_ p0.res;cases hsh:mb (C.sig f).params aF with
  | true=>
   refine .inl (fun z hz=>?_);by_cases h1:g.Pr z
   .exact k2 z h1
   .exact k3 z (.inl ⟨hsh,hz,h1⟩)
  | false=>have h5:=hfull hsh;simp only[rI.full,bC]at h5;exact .inr h5.2
 have UP:∀i,Sub (Gs i) (fun z=>(Nil z\/F z\/(w.heap.size<=z/\z<w'.heap.size))/\¬ (G1 z\/Dd z)):=by
  intro i z hz;refine⟨?_,?_⟩
  .rcases iP z (p0.gL i z hz) with h4 | h4
   .exact .inr (.inr ⟨h4,p0.tP i z hz⟩)
   .exact .inr (.inl (s1 z h4))
  .rintro(h | h | h)
   .exact p0.go i n z hz (t1 z h)
   .exact p0.gp i z hz h.2.1
   .exact p0.go i n z hz (t2 z h)
 obtain⟨g4,u1,u2,u3⟩:=FE (S:=S) k1 UP p0.wk ok (C.sig f).res hres he;refine⟨val,rfl,g4,u1,by rw[p0.val];exact u2,k4.trans u3,p0.fr.mono ?_⟩;intro z hz h;rcases iP z h with h4 | h4
 .omega
 .exact st.own q _ bH (q3 z (s1 z h4))
end
theorem lC.append{h:Array Obj}{S:St}{g:ay}:∀{aF bs:List AV}{vs ws:List Value},lC h S g aF vs->lC h S g bs ws->lC h S g (aF++bs) (vs++ws)
 | [],bs,vs,ws,k,k2=>by simp only[lC]at k;subst k;simpa using k2
 | a::aF,bs,vs,ws,k,k2=>by
  obtain⟨v,vs',rfl,r1,r2⟩:=k;exact⟨v,vs'++ws,rfl,r1,lC.append r2 k2⟩
theorem Md{h:Array Obj}{S:St}{g:ay}:∀{c:AV}{vs:List Value},aL h S g c vs->lC h S g (mG c) vs
 | .unit,vs,k=>by simp only[aL]at k;exact k
 | .pair a b,vs,k=>by
  simp only[aL]at k;obtain⟨v,vs',rfl,r1,r2⟩:=k;exact⟨v,vs',rfl,r1,Md r2⟩
 | .undef,_,k=>by simp only[aL]at k
 | .skip,_,k=>by simp only[aL]at k
 | .cF _,_,k=>by simp only[aL]at k
 | .fe,_,k=>by simp only[aL]at k
 | .val _ _,_,k=>by simp only[aL]at k
 | .b5 _ _ _,_,k=>by simp only[aL]at k
 | .view _ _ _ _ _,_,k=>by simp only[aL]at k
 | .addr _ _,_,k=>by simp only[aL]at k
 | .b_ _ _,_,k=>by simp only[aL]at k
 | .jn _,_,k=>by simp only[aL]at k
 | .gz _ _,_,k=>by simp only[aL]at k
 | .dZ _,_,k=>by simp only[aL]at k
theorem G5{h:Array Obj}{S:St}{g:ay}{ρ:Operand->AV}{ev:Operand->Value}(hρ:∀x,qe h S g (ρ x) (ev x)):∀(l:List Operand),lC h S g (l.map ρ) (l.map ev)
 | []=>rfl
 | x::l=>⟨_,_,rfl,hρ x,G5 hρ l⟩
theorem aaO{h:Array Obj}{Pr:BS}{Gs:Nat->BS}{us:List Value}:∀(rs:List RK)(r:fc rs)(t:Ty)(y:t.den),D_ rs r t=some y->kH h Pr Gs 0 rs r us->
  ∃c F m,us=[cU t c]/\aq h Pr t m y c F
 | [],r,t,y,hy,k=>by simp[D_]at hy
 | [.val t' m],r,t,y,hy,k=>by
  simp only[D_]at hy;obtain⟨u,vs',rfl,⟨c,rr,rfl⟩,k2⟩:=k;simp only[kH]at k2;subst k2;obtain⟨rfl,rr2⟩:=aq.cast hy rr;exact⟨c,_,m,rfl,rr2⟩
 | [.ptr t' m],r,t,y,hy,k=>by simp[D_]at hy
 | .val _ _::_::_,r,t,y,hy,k=>by simp[D_]at hy
 | .ptr _ _::_::_,r,t,y,hy,k=>by simp[D_]at hy
section
variable {P:Program} {C:Ctx} {D:Den C} {S:St} {g:ay} {w:World} {tmps:Array Value} {a:Act} {ρ:Operand->AV}
variable {A:bV} {site:Nat} {hint:Bool} (bn:hY P C) (dI:n8 P C D) (st:az w.heap S g tmps Nil) (hρ:∀x,qe w.heap S g (ρ x) (a.eval x))
include dI st
theorem Qg{f:FuncId}{aF:List AV}{vs:List Value}{d:Option Nat}(ok:ny A S d site)(ha:lC w.heap S g aF vs)(ht:bS (ru C D A S.rt d site f aF)) :
  Calls P f vs.toArray w fun | .returned val,w''=>rG S g w tmps (ru C D A S.rt d site f aF) val w'' | _,_=>False:=by
 obtain⟨⟨v,rt'⟩,hd⟩:=ht true;have sU:∀{Q:Value->World->Prop},Calls P f vs.toArray w (fun e w'=>∃val,e=.returned val/\Post S g w tmps v rt' val w')->
   Calls P f vs.toArray w fun | .returned val,w''=>rG S g w tmps (ru C D A S.rt d site f aF) val w'' | _,_=>False:=by
  intro Q h;refine h.mono ?_;rintro e w' ⟨val,rfl,hp⟩;exact⟨true,v,rt',hd,hp⟩
 refine sU (Q:=fun _ _=>True) ?_;clear sU;unfold ru at hd;cases h1:fV S.rt (C.sig f).params aF with
 | none=>rw[h1]at hd;simp[Tr.dec]at hd
 | some z=>
  obtain⟨gd,d5⟩:=z;rw[h1]at hd;simp only at hd;cases h2:gw d5 (C.sig f).params aF with
  | none=>rw[h2]at hd;simp[Tr.dec]at hd
  | some z=>
   obtain⟨od,e_⟩:=z;rw[h2]at hd;simp only at hd;cases h3:iR e_ (C.sig f).params aF gd od with
   | none=>rw[h3]at hd;simp[Tr.dec]at hd
   | some aa=>
    rw[h3]at hd;simp only at hd;by_cases hc:(GK (C.sig f).params&&(mb (C.sig f).params aF||(C.sig f).full))=true
    .rw[aj hc]at hd;simp only[bC,jg]at hc;simp only[Tr.dec,cJ]at hd;obtain⟨r,hD,hd⟩:=hd;by_cases hn:(C.sig f).params.all (fun k=>!k.eA)=true
     .rw[aj hn]at hd;exact aiI dI st ok ha h1 hn h2 h3 hc.2 hD hd
     .rw[af hn]at hd;by_cases hfr:A.fr=true
      .rw[aj hfr]at hd;cases hlo:vM (C.sig f).params aF with
       | false=>rw[hlo]at hd;simp[Tr.dec]at hd
       | true=>
       rw[hlo]at hd;simp only[Tr.dec]at hd;cases h4:f9 d5 site (C.sig f).params aF r.2 with
       | none=>rw[h4]at hd;simp[Tr.dec]at hd
       | some yF=>
        rw[h4]at hd;simp only at hd;have hone:(List.filter PK.eA (C.sig f).params).length=1/\(C.sig f).params.all (fun k=>!k.lI)=true:=by
         have:=hc.1;unfold GK at this;split at this
         .rename_i h5;exfalso;rw[LR]at h5;exact hn (by simpa using h5)
         .rename_i h5;rw[h5];exact⟨rfl,this⟩
         .simp at this
        obtain rfl:=IV _ _ _ _ _ hone.2 h1;obtain⟨n,a0,v0,qU,wu⟩:=QD (C.sig f).params aF vs S.rt e_ od hone.1 ha h2 hlo;rcases wu with⟨q,t,m,m',R,x,rfl,L⟩ | ⟨q,p,R,md,t,xd,m,m',mx,x,L⟩
        .exact ZB dI st ok (ok.fr hfr) ha hone.2 h1 qU L h3 hc.2 hD h4 hd
        .exact ZC dI st ok (ok.fr hfr) ha hone.2 h1 qU L h3 hc.2 hD h4 hd
      .rw[af hfr]at hd;simp[Tr.dec]at hd
    .rw[af hc]at hd;simp[Tr.dec]at hd
theorem Y3{h:Array Obj}{tmps:Array Value}{sl:List AV}:∀(ks:List PK)(aF:List AV)(vs:List Value)(rt:aO)(g:ay)(z:List AV×aO),
  lC h ⟨sl,rt⟩ g aF vs->az h ⟨sl,rt⟩ g tmps Nil->kE rt ks aF=some z->
  ∃g1,az h ⟨sl,z.2⟩ g1 tmps Nil/\Kp h ⟨sl,rt⟩ g ⟨sl,z.2⟩ g1/\g1.cM g/\lC h ⟨sl,z.2⟩ g1 z.1 vs
 | [],[],vs,rt,g,z,ha,st,hb=>by
  simp only[kE,aI]at hb;subst hb;exact⟨g,st,Kp.refl,.refl _,ha⟩
 | [],_::_,vs,rt,g,z,ha,st,hb=>by simp[kE]at hb
 | k::ks,[],vs,rt,g,z,ha,st,hb=>by cases k<;>simp[kE]at hb
 | k::ks,a::aF,vs,rt,g,z,ha,st,hb=>by
  obtain⟨v,vs',rfl,r1,r2⟩:=ha;have plain:(kE rt ks aF).map (fun z=>(a::z.1,z.2))=some z->∃g1,az h ⟨sl,z.2⟩ g1 tmps Nil/\Kp h ⟨sl,rt⟩ g ⟨sl,z.2⟩ g1/\g1.cM g/\lC h ⟨sl,z.2⟩ g1 z.1 (v::vs'):=by intro hb;simp only[fj]at hb;obtain⟨z',h1,rfl⟩:=hb;obtain⟨g1,k1,k2,k3,k4⟩:=Y3 ks aF vs' rt g z' r2 st h1;exact⟨g1,k1,k2,k3,v,vs',rfl,k2 _ _ r1,k4⟩
  cases k with
  | val t=>
   simp only[kE]at hb;split at hb
   .exact plain hb
   .split at hb
    .rename_i m y e_ rU;split at hb
     .rename_i hm;simp only[fj]at hb;obtain⟨z',h1,rfl⟩:=hb;obtain⟨c,g2,F,ev,cG⟩:=yC (S:=⟨sl,rt⟩) _ st rU r1;have oV:=(cG.st.cP F (fun b hb=>.inr hb)).bx (Sub.nil _);have zY:Kp h ⟨sl,rt⟩ g ⟨sl,e_⟩ { g2 with Pr:=Un g2.Pr F }:=Kp.trans cG.kp (Ih cG.st F);have x:qe h ⟨sl,e_⟩ { g2 with Pr:=Un g2.Pr F } (.val t y) v:=by simp only[qe];exact⟨c,aq.share t hm cG.rep,ev⟩
      obtain⟨g1,k1,k2,k3,k4⟩:=Y3 ks aF vs' e_ _ z' (r2.kp zY) oV h1;exact⟨g1,k1,zY.trans k2,cG.same.trans (ay.cM.trans ⟨rfl,rfl,rfl⟩ k3),v,vs',rfl,k2 _ _ x,k4⟩
     .simp at hb
    .simp at hb
  | _=>exact plain (by simpa only [kE] using hb)
theorem KN:∀(ts:List Ty)(aF:List AV)(vs:List Value)(l:List bt),lC w.heap S g aF vs->yD S.rt ts aF=some l->nF w.heap (PG (yQ S g)) l vs
 | [],aF,vs,l,ha,hb=>by
  cases aF with
  | nil=>simp only[yD,aI]at hb;subst hb;exact ha
  | cons a aF=>simp[yD]at hb
 | t::ts,[],vs,l,ha,hb=>by simp[yD]at hb
 | t::ts,a::aF,vs,l,ha,hb=>by
  obtain⟨v,vs',rfl,r1,r2⟩:=ha;simp only[yD,cJ,aI]at hb;obtain⟨x,hx,l',hl,rfl⟩:=hb;obtain⟨c,e,r⟩:=pX st t hx r1;exact⟨v,vs',rfl,⟨c,r,e⟩,KN ts aF vs' l' r2 hl⟩
theorem N3{h:Array Obj}{g:ay}:∀{l l2:List bt}{vs ws:List Value},nF h g l vs->nF h g l2 ws->nF h g (l++l2) (vs++ws)
 | [],_,vs,ws,k,k2=>by simp only[nF]at k;subst k;simpa using k2
 | c::l,_,vs,ws,k,k2=>by
  obtain⟨v,vs',rfl,r1,r2⟩:=k;exact⟨v,vs'++ws,rfl,r1,N3 r2 k2⟩
theorem Gw{h:Array Obj}{Pr:BS}{Fs:Nat->BS}:∀(ks:List PK)(l:List bt)(vs:List Value)(i:Nat)(aa:eV ks),yt ks l=some aa->nF h (PG Pr) l vs->yA h Pr Fs i ks aa vs/\ks.all PK.plain=true
 | [],l,vs,i,aa,hp,hc=>by
  cases l with
  | nil=>exact⟨hc,rfl⟩
  | cons c l=>simp[yt]at hp
 | k::ks,[],vs,i,aa,hp,hc=>by cases k<;>simp[yt]at hp
 | k::ks,c::l,vs,i,aa,hp,hc=>by
  obtain⟨v,vs',rfl,r1,r2⟩:=hc;cases k with
  | val t=>
   cases c with
   | val t' x=>simp only[yt,cJ,aI]at hp;obtain⟨y,hy,r,hr,rfl⟩:=hp;obtain⟨c,rr,e⟩:=r1;obtain⟨rfl,rr2⟩:=aq.cast hy rr;obtain⟨p1,p2⟩:=Gw ks l vs' (i+1) r hr r2;exact⟨⟨v,vs',rfl,⟨c,rr2,e⟩,p1⟩,by simpa [PK.plain] using p2⟩
   | _=>simp[yt]at hp
  | bZ t=>
   cases c with
   | bZ t' x=>simp only[yt,cJ,aI]at hp;obtain⟨y,hy,r,hr,rfl⟩:=hp;obtain⟨e1,e2⟩:=CN hy;subst e1;simp only at e2;subst e2;obtain⟨p1,p2⟩:=Gw ks l vs' (i+1) r hr r2;exact⟨⟨v,vs',rfl,r1,p1⟩,by simpa [PK.plain] using p2⟩
   | _=>simp[yt]at hp
  | _=>cases c<;>simp[yt]at hp
theorem Zj{h:Array Obj}{Pr f_:BS}{t:Ty}{m:Mk}{x:t.den}{c:List Value}{F F2:BS}(hs:t.scalar=true)(r:aq h Pr t m x c F):aq h f_ t .no x c F2:=by cases t<;>simp[Ty.scalar]at hs<;>simpa only [aq] using r
theorem Zw{cl:aZ}{xs:List bt}{t:Ty}{y:t.den}{vs ws:List Value}(hs:t.scalar=true)(hy:gl C D cl xs t=some y)(hx:nF w.heap (PG (yQ S g)) xs vs)(hw:nF w.heap g cl.caps ws) :
  Calls P cl.f (vs++ws).toArray w fun e w'=>∃val,e=.returned val/\Post S g w tmps (.val t y) S.rt val w':=by
 simp only[gl,cJ]at hy;obtain⟨aa,ha,r,hD,hr⟩:=hy;obtain⟨hps,ua⟩:=Gw dI st (Fs:=fun _=>Nil) (C.sig cl.f).params _ _ 0 aa ha (N3 dI st hx (GD st (fun b hb=>.inl hb:Sub g.Pr (yQ S g)) hw));have hv:=AJ st false;have pre:Pre w.heap (yQ S g) (fun _=>Nil) (C.sig cl.f).params aa (vs++ws):=
  ⟨hps,fun _ _ _=>cq.nil _,fun _=>cq.nil _,fun _ _ h=>h.elim,AK st false⟩
 refine(dI.ok cl.f aa r hD w _ _ _ pre).mono ?_;rintro e w' ⟨val,fD,Gs,Os,us,rfl,p⟩;have iP:∀z,rE w.heap.size (fun _=>Nil) z->w.heap.size<=z:=fun z h=>h.elim id (fun⟨_,h⟩=>h.elim);have C1:=st.grow (h2:=w'.heap) (fun b hb=>p.fr.block b hb (fun h=>absurd (iP b h) (by omega))) p.fr.size Nil (fun b hb=>hb.elim);obtain⟨c,F,m,hus,rr⟩:=aaO _ _ _ _ hr p.res;refine⟨val,rfl,g,C1,?_,.refl g,p.fr.mono (fun z hz h=>absurd (iP z h) (by omega))⟩;rw[p.val,hus];simp only[qe,tF];exact⟨c,Zj dI st hs rr,rfl⟩
include bn hρ
theorem ai_{o:Oper}{c:Call}{f:Operand}(ho:o.op=.call c)(hc:c.callee=.value f)(ok:ny A S o.dst site):Goal P C D S g w tmps a ρ A site hint o:=by
 intro ht;have oF:∀(ff:FuncId)(vs:List Value),DN P ff->a.eval f=.func (.func ff) #[] vs.toArray->
   (execOp a.eval o).run P w=.ok (.enter ff (c.args.toList.map a.eval++vs).toArray) w:=by
  rintro ff vs ⟨fn,h1,h2,h3⟩ hv;have hb:¬ fn.body=none:=by intro hh;rw[hh]at h3;simp at h3
  have j9:c.args.map a.eval++vs.toArray=(c.args.toList.map a.eval++vs).toArray:=by apply m8;simp
  simp[execOp,ho,resolve,hc,Deferred.ofValue,hv,invoke,callFunc,h1,h2,hb,Sem.run_bind,<-j9]
 simp only[aY,ho,hc]at ht⊢;have hf:=hρ f;split at ht
 .rename_i ff caps hv;rw[hv]at hf;simp only[qe]at hf;obtain⟨vs,ev,V1⟩:=hf;have ha:=lC.append (G5 hρ c.args.toList) (Md V1);have Ce:∀{A:bV}{S:aO}{aF:List AV},bS (ru C D A S o.dst site ff aF)->DN P ff:=by
   intro A S aF ht;obtain⟨⟨v,rt'⟩,hd⟩:=ht true;unfold ru at hd;split at hd
   .simp[Tr.dec]at hd
   .split at hd
    .simp[Tr.dec]at hd
    .split at hd
     .simp[Tr.dec]at hd
     .split at hd
      .simp only[Tr.dec,cJ]at hd;obtain⟨r,hD,_⟩:=hd;exact dI.call _ _ _ hD
      .simp[Tr.dec]at hd
  by_cases yV:FG (C.sig ff) (c.args.toList.map ρ++mG caps)=true
  .simp only[p_,aj yV]at ht⊢;cases hsa:kE S.rt (C.sig ff).params (c.args.toList.map ρ++mG caps) with
   | none=>rw[hsa]at ht;exact absurd ht bS.fail
   | some z=>
    rw[hsa]at ht;simp only at ht⊢;obtain⟨g1,C1,_,CZ,ha1⟩:=Y3 dI st (sl:=S.sl) (C.sig ff).params _ _ S.rt g z ha st hsa;rw[oF ff vs (Ce ht) ev];refine(Qg dI (S:=⟨S.sl,z.2⟩) C1 (A:={ A with sh:=hint }) ⟨ok.w_,ok.pl,ok.fr⟩ ha1 ht).mono ?_;rintro e w' he;cases e with
    | returned val=>obtain⟨β,v,rt',h1,g2,h2,h3,h4,h5⟩:=he;exact⟨β,v,rt',h1,g2,h2,h3,CZ.trans h4,by rw[<-CZ.2.1];exact h5⟩
    | _=>exact he
  .simp only[p_,af yV]at ht⊢;rw[oF ff vs (Ce ht) ev];exact Qg dI st (A:={ A with sh:=hint }) ⟨ok.w_,ok.pl,ok.fr⟩ ha ht
 .rename_i cl hv;rw[hv]at hf;simp only[qe]at hf;obtain⟨vs,ev,Jo⟩:=hf;by_cases hsc:(C.ty o.type).scalar=true
  .simp only[hsc,aX]at ht⊢;cases hx:yD S.rt (c.argTypes.toList.map C.ty) (c.args.toList.map ρ) with
   | none=>rw[hx]at ht;exact absurd ht bS.fail
   | some xs=>
    rw[hx]at ht;simp only at ht⊢;obtain⟨⟨v,rt'⟩,hd⟩:=ht true;have hd0:=hd;simp only[Tr.dec,cJ,aI,a_]at hd;obtain⟨y,hy,rfl,rfl⟩:=hd;have U5:DN P cl.f:=by have:=hy;simp only[gl,cJ]at this;obtain⟨aa,_,r,hD,_⟩:=this;exact dI.call _ _ _ hD
    rw[oF cl.f vs U5 ev];have hxs:=KN dI st _ _ _ _ (G5 hρ c.args.toList) hx;refine(Zw dI st hsc hy hxs Jo).mono ?_;rintro e w' ⟨val,rfl,hp⟩;exact⟨true,_,_,hd0,hp⟩
  .rw[af hsc]at ht;exact absurd ht bS.fail
 .exact absurd ht bS.fail
theorem aa8{o:Oper}(ok:ny A S o.dst site):Goal P C D S g w tmps a ρ A site hint o:=
 akc bn st hρ ok fun c f ho hc=>ai_ bn dI st hρ ho hc ok
end
end Go.V
namespace Go.V
noncomputable section
open Go
theorem Qk{d:Nat}:∀(l:List AV)(i:Nat),r9 d i l=true->∀k,i+k≠d->(l.getD k .undef).roots.contains d=false
 | [],i,_,k,_=>by simp[List.getD,AV.roots]
 | v::l,i,h,k,hk=>by
  simp only[r9,bC,jg,jV,K2]at h;cases k with
  | zero=>exact h.1.resolve_left (by simpa using hk)
  | succ k=>simpa [List.getD] using Qk l (i+1) h.2 k (by omega)
theorem LC{d:Nat}:∀(l:List AV)(i:Nat),DZ d i l=true->∀k,i+k≠d->(l.getD k .undef).gB d=true
 | [],i,_,k,_=>by simp[List.getD,AV.gB]
 | v::l,i,h,k,hk=>by
  simp only[DZ,bC,jg,K2]at h;cases k with
  | zero=>exact h.1.resolve_left (by simpa using hk)
  | succ k=>simpa [List.getD] using LC l (i+1) h.2 k (by omega)
theorem Ga{s:Nat}:∀(l:List AV),HD s l=true->∀k,(l.getD k .undef).aR s (s+1)=true
 | [],_,k=>by simp[List.getD,AV.aR]
 | v::l,h,k=>by
  simp only[HD,bC]at h;cases k with
  | zero=>exact h.1
  | succ k=>simpa [List.getD] using Ga l h.2 k
def St.blank(S:St):Option Nat->St
 | some d=>S.set d .undef
 | none=>S
theorem Al(S:St)(d:Nat)(u:Nat):(S.blank (some d)).get u=if u=d then .undef else S.get u:=by
 simp only[St.blank,St.gn];by_cases e:u=d
 .subst e;by_cases h:u<S.sl.length
  .simp[h]
  .simp only[h,and_false,dX,aX];simp only[St.get_eq,List.getD];rw[n5 (by omega)];rfl
 .simp[e]
theorem ai1(S:St)(d:Option Nat)(site:Nat):ny (kV S.sl d site) (S.blank d) d site where
 w_:=by
  intro h d' hd u;subst hd;simp only[kV]at h;rw[Al];split
  .rfl
  .rename_i hu;rw[St.get_eq];exact Qk S.sl 0 h u (by omega)
 pl:=by
  intro h d' hd u;subst hd;simp only[kV]at h;rw[Al];split
  .rfl
  .rename_i hu;rw[St.get_eq];exact LC S.sl 0 h u (by omega)
 fr:=by
  intro h;simp only[kV,bC,nU]at h;refine⟨h.1,fun u=>?_⟩;cases d with
  | none=>rw[St.get_eq];exact Ga S.sl h.2 u
  | some d=>
   rw[Al];split
   .rfl
   .rw[St.get_eq];exact Ga S.sl h.2 u
theorem ZQ{h:Array Obj}{S:St}{g:ay}(v:Value):qe h S g (AP v) v:=by
 unfold AP;split
 .simp only[qe,aq];exact⟨_,rfl,rfl⟩
 .simp only[qe,aq];exact⟨_,rfl,rfl⟩
 .simp only[qe,aq];exact⟨_,rfl,rfl⟩
 .simp only[qe]
 .simp only[qe]
theorem aiV{h:Array Obj}{S:St}{g:ay}{a:AV}{v:Value}(x:qe h S g a v):qe h S g a.flat v:=by
 cases a with
 | cF b=>simp only[qe]at x;subst x;simp only[AV.flat,qe,aq];exact⟨_,rfl,rfl⟩
 | _=>exact x
theorem Mw{h:Array Obj}{S:St}{g:ay}{a:Act}{H:BS}(st:az h S g a.tmps H)(x:Operand):qe h S g (ev S x) (a.eval x):=by
 cases x with
 | tmp t=>exact aiV (st.slots t)
 | const v=>exact ZQ v
 | func f=>simp only[ev,qe,Act.eval];exact⟨[],rfl,by simp only[aL]⟩
 | global n=>simp only[ev,qe]
def DW:List AV->List Nat->List AV
 | sl,[]=>sl
 | sl,t::ts=>DW (sl.set t .undef) ts
theorem Kn:∀(ts:List Nat)(S:St),S.forget ts=⟨DW S.sl ts,S.rt⟩
 | [],_=>rfl
 | t::ts,S=>by simp only[St.forget,DW];rw[Kn ts,St.gb]
theorem N4(d:Nat)(x v:AV):∀(ts:List Nat)(sl:List AV),(DW (sl.set d x) ts).set d v=(DW sl ts).set d v
 | [],sl=>by simp[DW]
 | t::ts,sl=>by
  simp only[DW];by_cases e:d=t
  .subst e;rw[oR]
  .rw[List.set_comm _ _ e];exact N4 d x v ts _
theorem az.oc{h:Array Obj}{g:ay}{tmps:Array Value}{H:BS}:∀(ts:List Nat){S:St},az h S g tmps H->az h (S.forget ts) g tmps H
 | [],_,st=>st
 | t::ts,_,st=>az.oc ts (st.forget t)
section
variable (C:Ctx) (D:Den C)
def nV(ops:Array Oper)(S:St)(o:Oper):Option Bool:=
 match o.guard with
 | none=>some true
 | some (j,b)=>
  match S.get (kI ops j) with
  | .skip=>some false
  | .cF c=>some (c == b)
  | .val .bool c=>some (c == b)
  | _=>none
noncomputable def gQ(hints:Hints)(id:Nat)(ops:Array Oper)(β:Bool)(S:St)(i:Nat)(o:Oper):Option (St×jo):=
 match nV ops S o with
 | some true=>((iB C D S (id * 256+i+1) (hints.share.contains (id,i)) o).dec β).map fun x=>(fin ops ⟨S.sl,x.2⟩ i o x.1,jm C ops S (id * 256+i+1) i o x.1 x.2)
 | some false=>some (fin ops S i o .skip,oz ops S (id * 256+i+1) i o)
 | none=>none
end
def u5(np:List Nat)(a a':Act):Prop:=∀t,t∈np->a'.tmps.getD t Go.undef=a.tmps.getD t Go.undef
theorem u5.refl(np:List Nat)(a:Act):u5 np a a:=fun _ _=>rfl
theorem u5.trans{np:List Nat}{a b c:Act}(h:u5 np a b)(k:u5 np b c):u5 np a c:=fun t ht=>(k t ht).trans (h t ht)
theorem u5.put{np:List Nat}{a:Act}{d:Option Nat}{v:Value}(h:∀d',d=some d'->d'∉np):u5 np a (a.put d v):=by
 intro t ht;cases d with
 | none=>rfl
 | some d=>have:=h d rfl;simp only[Act.put,oX,GX];rw[af (by rintro rfl;exact this ht)]
section
variable {P:Program} {C:Ctx} {D:Den C} {S:St} {g:ay} {w:World} {a:Act} {np:List Nat}
variable (bn:hY P C) (dI:n8 P C D) (st:az w.heap S g a.tmps Nil)
include bn dI st
theorem L1{ops:Array Oper}{i:Nat}{o:Oper}{rt':aO}{g':ay}{h':Array Obj}{v:AV}{val:Value}(st':az h' ⟨(S.blank o.dst).sl,rt'⟩ g' a.tmps Nil)
  (x:qe h' ⟨(S.blank o.dst).sl,rt'⟩ g' v val):az h' (fin ops ⟨S.sl,rt'⟩ i o v) g' (a.put o.dst val).tmps Nil:=by
 have s1:=az.oc (sr ops i o) st';have e1:=Kn (sr ops i o) (⟨(S.blank o.dst).sl,rt'⟩:St);unfold fin uA;cases hd:o.dst with
 | none=>rw[hd]at s1;simp only[Act.put];exact s1
 | some d=>
  rw[hd]at s1 x e1;have x1:qe h' ((⟨(S.blank (some d)).sl,rt'⟩:St).forget (sr ops i o)) g' v val:=by have vc:=st';rw[hd]at vc;exact qe.gy vc (by rw[e1]) x
  have s2:=s1.tJ d x1;simp only[Act.put];have e2:(((⟨(S.blank (some d)).sl,rt'⟩:St).forget (sr ops i o)).set d v)=(((⟨S.sl,rt'⟩:St).forget (sr ops i o)).set d v):=by rw[Kn,Kn];simp only[St.gb,St.blank,St.mk.injEq,gM];exact N4 d _ _ _ _
  rw[e2]at s2;exact s2
theorem abq{ops:Array Oper}{o:Oper}{b:Bool}(hj:∀j c,o.guard=some (j,c)->∃oj t,ops[j]? = some oj/\oj.dst=some t)(hg:nV ops S o=some b):Region.wanted o (yielded ops a.tmps)=b:=by
 unfold nV at hg;unfold Region.wanted;cases hgd:o.guard with
 | none=>rw[hgd]at hg;simp only[aI]at hg;exact hg
 | some jc=>
  obtain⟨j,c⟩:=jc;rw[hgd]at hg;obtain⟨oj,t,h1,h2⟩:=hj j c hgd;have hd:kI ops j=t:=by simp[kI,h1,h2]
  have hs:=st.slots t;simp only at hg⊢;rw[hd]at hg;have hy:yielded ops a.tmps j=match a.tmps.getD t Go.undef with | .bool b=>some b | _=>none:=by
   simp only[yielded,h1,h2,dn,oX];cases hq:a.tmps[t]? with
   | none=>simp[Go.undef]
   | some q=>cases q<;>simp
  rw[hy];cases hS:S.get t with
  | skip=>rw[hS]at hg hs;simp only[qe]at hs;simp only[aI]at hg;subst hg;rw[hs];rfl
  | cF q=>rw[hS]at hg hs;simp only[qe]at hs;simp only[aI]at hg;subst hg;rw[hs];cases q<;>cases c<;>rfl
  | val t x=>
   rw[hS]at hg hs;cases t with
   | bool=>simp only[aI]at hg;subst hg;rw[Ax hs];cases x<;>cases c<;>rfl
   | _=>simp at hg
  | _=>rw[hS]at hg;simp at hg
theorem LI{Q:Exit->Act->World->Prop}{hints:Hints}{id:Nat}{ops:Array Oper}{i:Nat}{o:Oper}(hi:ops[i]? = some o)(hj:∀j c,o.guard=some (j,c)->∃oj t,ops[j]? = some oj/\oj.dst=some t)
  (hdf:a.defers=[]) (hnp:∀d,o.dst=some d->d∉np) (ht:∀β,∃x,gQ C D hints id ops β S i o=some x) {K:Act->World->Prop}
  (hK:∀β S' e a' w' g',gQ C D hints id ops β S i o=some (S',e)->az w'.heap S' g' a'.tmps Nil->g'.cM g->jW g.L w w'->a'.defers=[]->u5 np a a'->K a' w'):wpOp P ops Q i K a w:=by
 obtain⟨x0,hx0⟩:=ht true;unfold wpOp;simp only[hi];cases hg:nV ops S o with
 | none=>unfold gQ at hx0;rw[hg]at hx0;simp at hx0
 | some b=>
  rw[abq bn dI st hj hg];cases b with
  | false=>
   simp only[e7,dX];have hst:gQ C D hints id ops true S i o=some (fin ops S i o .skip,oz ops S (id * 256+i+1) i o):=by unfold gQ;rw[hg]
   refine hK true _ _ (a.put o.dst Go.undef) w g hst ?_ (.refl g) (.refl _ _) ?_ (.put hnp)
   .have s0:az w.heap ⟨(S.blank o.dst).sl,S.rt⟩ g a.tmps Nil:=by
     cases hd:o.dst with
     | none=>exact st
     | some d=>exact st.forget d
    exact L1 bn dI st s0 (by simp only[qe])
   .cases o.dst<;>exact hdf
  | true=>
   simp only[aX];refine .inl ?_;have s0:az w.heap (S.blank o.dst) g a.tmps Nil:=by
    cases hd:o.dst with
    | none=>exact st
    | some d=>exact st.forget d
   have rS:(S.blank o.dst).rt=S.rt:=by cases o.dst<;>rfl
   have hρ:∀x,qe w.heap (S.blank o.dst) g (ev S x) (a.eval x):=fun x=>qe.gy st rS (Mw st x);have hstep:∀β,gQ C D hints id ops β S i o=((iB C D S (id * 256+i+1) (hints.share.contains (id,i)) o).dec β).map fun x=>(fin ops ⟨S.sl,x.2⟩ i o x.1,jm C ops S (id * 256+i+1) i o x.1 x.2):=by intro β;unfold gQ;rw[hg]
   have htot:bS (aY C D (kV S.sl o.dst (id * 256+i+1)) (ev S) (S.blank o.dst).rt (id * 256+i+1) (hints.share.contains (id,i)) o):=by intro β;obtain⟨x,hx⟩:=ht β;rw[hstep]at hx;simp only[fj]at hx;obtain⟨y,hy,_⟩:=hx;rw[rS];exact⟨y,hy⟩
   have hres:=aa8 bn dI s0 hρ (ai1 S o.dst (id * 256+i+1)) htot;have hout:∀val w',rG (S.blank o.dst) g w a.tmps (aY C D (kV S.sl o.dst (id * 256+i+1)) (ev S) (S.blank o.dst).rt (id * 256+i+1) (hints.share.contains (id,i)) o) val w'->K (a.put o.dst val) w':=by rintro val w' ⟨β,v,rt',hd,g',p1,p2,p3,p4⟩;rw[rS]at hd;refine hK β (fin ops ⟨S.sl,rt'⟩ i o v) _ _ w' g' (by rw[hstep];unfold iB;rw[hd];rfl) (L1 bn dI st p1 p2) p3 p4 ?_ (.put hnp);cases o.dst<;>exact hdf
   unfold Oper.wp;revert hres;generalize (execOp a.eval o).run P w=r;intro hres;unfold e8 at hres;split at hres
   .exact hout _ _ hres
   .exact hout _ _ hres
   .refine Calls.mono hres ?_;rintro e w'' he;cases e with
    | returned val=>exact hout _ _ he
    | panicked _=>exact he.elim
    | outgrown=>exact he.elim
   .exact hres.elim
end
end
section
variable (C:Ctx) (D:Den C)
noncomputable def eI(hints:Hints)(id:Nat)(ops:Array Oper):List Bool->List (Nat×Oper)->St->Option (St×Log)
 | _,[],S=>some (S,[])
 | βs,(i,o)::l,S=>(gQ C D hints id ops (βs.headD true) S i o).bind fun x=>(eI hints id ops βs.tail l x.1).map fun y=>(y.1,x.2::y.2)
end
structure fA (S T:St):Prop where
 rt:T.rt=S.rt
 len:T.sl.length=S.sl.length
 get:∀t,T.get t=S.get t\/∃b,S.get t=.cF b/\T.get t=.val .bool b
theorem fA.refl(S:St):fA S S:=⟨rfl,rfl,fun _=>.inl rfl⟩
theorem fA.flat{S T:St}(h:fA S T)(t:Nat):(T.get t).flat=(S.get t).flat:=by
 rcases h.get t with e | ⟨b,e1,e2⟩
 .rw[e]
 .rw[e1,e2];rfl
theorem fA.ev{S T:St}(h:fA S T):ev T=ev S:=by
 funext x;cases x with
 | tmp t=>exact h.flat t
 | _=>rfl
theorem fA.roots{S T:St}(h:fA S T)(t:Nat):(T.get t).roots=(S.get t).roots:=by
 rcases h.get t with e | ⟨b,e1,e2⟩
 .rw[e]
 .rw[e1,e2];rfl
theorem fA.stamps{S T:St}(h:fA S T)(t:Nat):(T.get t).stamps=(S.get t).stamps:=by
 rcases h.get t with e | ⟨b,e1,e2⟩
 .rw[e]
 .rw[e1,e2];rfl
theorem NX(s:Nat):∀(l l2:List AV),l2.length=l.length->(∀k,(l2.getD k .undef).aR s (s+1)=(l.getD k .undef).aR s (s+1))->HD s l2=HD s l
 | [],[],_,_=>rfl
 | [],_::_,h,_=>by simp at h
 | _::_,[],h,_=>by simp at h
 | v::l,u::l2,h,hk=>by
  have h0:=hk 0;simp only[I4]at h0;simp only[HD];rw[h0,NX s l l2 (by simpa using h) (fun k=>by have:=hk (k+1);simpa [List.getD] using this)]
theorem KZ{sl C0:List AV}(d:Option Nat)(s:Nat)(hl:C0.length=sl.length)(hr:∀d',d=some d'->∀k,k≠d'->(C0.getD k .undef).roots.contains d'=(sl.getD k .undef).roots.contains d')
  (hp:∀d',d=some d'->∀k,k≠d'->(C0.getD k .undef).gB d'=(sl.getD k .undef).gB d') (hs:∀k,(C0.getD k .undef).aR s (s+1)=(sl.getD k .undef).aR s (s+1)):kV C0 d s=kV sl d s:=by
 have hf:=NX s sl C0 hl hs;cases d with
 | none=>simp only[kV,hf]
 | some d=>
  have hm:∀(l l2:List AV)(i:Nat),l2.length=l.length->(∀k,i+k≠d->(l2.getD k .undef).roots.contains d=(l.getD k .undef).roots.contains d)->r9 d i l2=r9 d i l:=by
   intro l
   induction l with
   | nil=>intro l2 i h _;cases l2 with
    | nil=>rfl
    | cons _ _=>simp at h
   | cons v l ih=>
    intro l2 i h hk;cases l2 with
    | nil=>simp at h
    | cons u l2=>
     simp only[r9];rw[ih l2 (i+1) (by simpa using h) (fun k qX=>by have:=hk (k+1) (by omega);simpa [List.getD] using this)];by_cases e:i=d
     .subst e;simp
     .have:=hk 0 (by omega);simp only[I4]at this;rw[this]
  have ua:∀(l l2:List AV)(i:Nat),l2.length=l.length->(∀k,i+k≠d->(l2.getD k .undef).gB d=(l.getD k .undef).gB d)->DZ d i l2=DZ d i l:=by
   intro l
   induction l with
   | nil=>intro l2 i h _;cases l2 with
    | nil=>rfl
    | cons _ _=>simp at h
   | cons v l ih=>
    intro l2 i h hk;cases l2 with
    | nil=>simp at h
    | cons u l2=>
     simp only[DZ];rw[ih l2 (i+1) (by simpa using h) (fun k qX=>by have:=hk (k+1) (by omega);simpa [List.getD] using this)];by_cases e:i=d
     .subst e;simp
     .have:=hk 0 (by omega);simp only[I4]at this;rw[this]
  simp only[kV,hf];rw[hm sl C0 0 hl (fun k h=>hr d rfl k (by omega)),ua sl C0 0 hl (fun k h=>hp d rfl k (by omega))]
theorem fA.asks{S T:St}(h:fA S T)(d:Option Nat)(s:Nat):kV T.sl d s=kV S.sl d s:=by
 refine KZ d s h.len (fun d' _ k _=>?_) (fun d' _ k _=>?_) (fun k=>?_)
 .have:=h.roots k;simp only[St.get_eq]at this;rw[this]
 .rcases h.get k with e | ⟨b,e1,e2⟩
  .simp only[St.get_eq]at e;rw[e]
  .simp only[St.get_eq]at e1 e2;rw[e1,e2];rfl
 .rcases h.get k with e | ⟨b,e1,e2⟩
  .simp only[St.get_eq]at e;rw[e]
  .simp only[St.get_eq]at e1 e2;rw[e1,e2];rfl
theorem fA.set{S T:St}(h:fA S T)(t:Nat)(v:AV):fA (S.set t v) (T.set t v) where
 rt:=h.rt
 len:=by simp[St.gb,h.len]
 get:=by
  intro u;rw[St.gn,St.gn,h.len];by_cases e:u=t/\t<S.sl.length
  .rw[aj e,aj e];exact .inl rfl
  .rw[af e,af e];exact h.get u
theorem fA.forget{S T:St}(h:fA S T):∀ts:List Nat,fA (S.forget ts) (T.forget ts):=by
 intro ts
 induction ts generalizing S T with
 | nil=>exact h
 | cons t ts ih=>exact ih (h.set t .undef)
theorem fA.HM{S T:St}(h:fA S T)(rt:aO):fA ⟨S.sl,rt⟩ ⟨T.sl,rt⟩:=⟨rfl,h.len,h.get⟩
theorem fA.fin{S T:St}(h:fA S T)(ops:Array Oper)(i:Nat)(o:Oper)(v:AV):fA (fin ops S i o v) (fin ops T i o v):=by
 unfold V.fin uA;cases o.dst with
 | none=>exact h.forget _
 | some d=>exact(h.forget _).set d v
theorem fA.dS{S T:St}(h:fA S T):∀ts,dS T ts=dS S ts
 | []=>rfl
 | t::ts=>by simp only[V.dS];rw[h.roots,fA.dS h ts]
theorem fA.cS{S T:St}(h:fA S T):∀ts,cS T ts=cS S ts
 | []=>rfl
 | t::ts=>by simp only[V.cS];rw[h.stamps,fA.cS h ts]
section
variable {C:Ctx} {D:Den C}
theorem fA.iB{S T:St}(h:fA S T)(site:Nat)(hint:Bool)(o:Oper):iB C D T site hint o=iB C D S site hint o:=by unfold V.iB;rw[h.asks,h.ev,h.rt]
theorem fA.iF{S T:St}(h:fA S T)(ops:Array Oper)(site i:Nat)(o:Oper)(v:AV)(rt':aO):jm C ops T site i o v rt'=jm C ops S site i o v rt':=by unfold jm uy;rw[h.ev,h.dS,h.cS,h.rt]
theorem fA.skip{S T:St}(h:fA S T)(ops:Array Oper)(site i:Nat)(o:Oper):oz ops T site i o=oz ops S site i o:=by unfold oz;rw[h.dS,h.cS]
theorem LH{hints:Hints}{id:Nat}{ops:Array Oper}{S T:St}(h:fA S T){i:Nat}{o:Oper}{β:Bool}(hg:nV ops T o=some true){x:AV×aO}
  (hd:(iB C D S (id * 256+i+1) (hints.share.contains (id,i)) o).dec β=some x) :
  gQ C D hints id ops β T i o=some (fin ops ⟨T.sl,x.2⟩ i o x.1,jm C ops S (id * 256+i+1) i o x.1 x.2)/\fA (fin ops ⟨S.sl,x.2⟩ i o x.1) (fin ops ⟨T.sl,x.2⟩ i o x.1):=by
 refine⟨?_,(h.HM x.2).fin ops i o x.1⟩;unfold gQ;rw[hg,h.iB,hd,<-h.iF];rfl
theorem PU{hints:Hints}{id:Nat}{ops:Array Oper}{S T:St}(h:fA S T){i:Nat}{o:Oper}{β:Bool}(hg:nV ops T o=some false) :
  gQ C D hints id ops β T i o=some (fin ops T i o .skip,oz ops S (id * 256+i+1) i o)/\fA (fin ops S i o .skip) (fin ops T i o .skip):=by
 refine⟨?_,h.fin ops i o .skip⟩;unfold gQ;rw[hg,<-h.skip]
end
section
variable {P:Program} {C:Ctx} {D:Den C} (bn:hY P C) (dI:n8 P C D)
include bn dI
theorem L_{np:List Nat}{Q:Exit->Act->World->Prop}{hints:Hints}{id:Nat}{ops:Array Oper}(hj:∀(i:Nat) o j c,ops[i]? = some o->o.guard=some (j,c)->∃oj t,ops[j]? = some oj/\oj.dst=some t) :
  ∀(l:List (Nat×Oper))(S:St)(g:ay)(a:Act)(w:World),(∀x∈l,ops[x.1]? = some x.2)->(∀x∈l,∀d,x.2.dst=some d->d∉np)->az w.heap S g a.tmps Nil->a.defers=[]->(∀βs,∃x,eI C D hints id ops βs l S=some x)->
   (∀βs S' lg a' w' g',eI C D hints id ops βs l S=some (S',lg)->az w'.heap S' g' a'.tmps Nil->g'.cM g->jW g.L w w'->a'.defers=[]->u5 np a a'->Q .normal a' w')->wpOps P ops Q (l.map (·.1)) a w
 | [],S,g,a,w,hl,hnp,st,hdf,ht,hQ=>by
  simp only[fO,wpOps];exact hQ [] S [] a w g rfl st (.refl g) (.refl _ _) hdf (.refl _ _)
 | (i,o)::l,S,g,a,w,hl,hnp,st,hdf,ht,hQ=>by
  simp only[cm];rw[wpOps_cons];have hi:=hl (i,o) bO;refine LI bn dI st (hints:=hints) (id:=id) hi (fun j c=>hj i o j c hi) hdf (hnp (i,o) bO) (fun β=>?_) ?_
  .obtain⟨x,hx⟩:=ht [β];simp only[eI,sj,cJ]at hx;obtain⟨y,hy,_⟩:=hx;exact⟨y,hy⟩
  .intro β S' e a' w' g' hs st' iY hfr iu om;refine L_ (hints:=hints) (id:=id) hj l S' g' a' w' (fun x hx=>hl x (cD _ hx)) (fun x hx=>hnp x (cD _ hx)) st' iu (fun βs=>?_) ?_
   .obtain⟨x,hx⟩:=ht (β::βs);simp only[eI,sj,Gj,cJ]at hx;obtain⟨y,hy,hx⟩:=hx;rw[hs]at hy;simp only[aI]at hy;subst hy;simp only[fj]at hx;obtain⟨z,hz,_⟩:=hx;exact⟨z,hz⟩
   .intro βs v8 lg HQ w'' tO hr vc wW pI wE wG;refine hQ (β::βs) v8 (e::lg) HQ w'' tO ?_ vc (iY.trans wW) (hfr.trans (by rw[iY.2.1]at pI;exact pI)) wE (om.trans wG);simp only[eI,sj,Gj,hs,dn,hr,dV]
end
end Go.V
namespace Go.V
noncomputable section
open Go
section
variable {C:Ctx} {D:Den C}
theorem Bt{α:Type}{x:Option α}{f:α->AV}{S:aO}{β:Bool}{v:AV}{rt':aO}(h:(Tr.of (x.map fun v=>(f v,S))).dec β=some (v,rt')):rt'=S:=by
 cases x with
 | none=>simp[Tr.of,Tr.dec]at h
 | some y=>simp only[dV,Tr.of,Tr.dec,aI,a_]at h;exact h.2.symm
theorem abM{A:bV}{ρ:Operand->AV}{S:aO}{site:Nat}{hint:Bool}{o:Oper}(hT:o9 o=true){β:Bool}{v:AV}{rt':aO}(h:(aY C D A ρ S site hint o).dec β=some (v,rt')):rt'=S:=by
 cases ho:o.op with
 | move x=>simp only[aY,ho,Tr.dec,aI,a_]at h;exact h.2.symm
 | pick c a b=>
  simp only[aY,ho]at h;split at h
  .rename_i c' _;cases c'<;>(simp only[Tr.dec,aI,a_]at h;exact h.2.symm)
  .simp[Tr.dec]at h
 | unOp op t x=>
  simp only[aY,ho]at h;split at h
  .simp only[Tr.dec,aI,a_]at h;exact h.2.symm
  .simp only[Tr.dec,aI,a_]at h;exact h.2.symm
  .simp[Tr.dec]at h
 | fieldAddr t x f=>simp only[aY,ho]at h;exact Bt (f:=fun v=>v) h
 | field t x f=>
  simp only[aY,ho]at h;split at h
  .split at h
   .split at h
    .simp only[Tr.dec,aI,a_]at h;exact h.2.symm
    .simp[Tr.dec]at h
   .simp[Tr.dec]at h
  .simp[Tr.dec]at h
 | load t x=>
  simp only[aY,ho]at h;split at h
  .exact Bt (f:=fun v=>v) h
  .simp[Tr.dec]at h
 | extract x i=>simp only[aY,ho]at h;exact Bt (f:=fun v=>v) h
 | binOp op t x y t2=>
  simp only[aY,ho]at h;split at h
  .split at h
   .simp only[Tr.dec,aI,a_]at h;exact h.2.symm
   .simp only[Tr.dec,aI,a_]at h;exact h.2.symm
   .simp[Tr.dec]at h
  .exact(Pu (T:=j7 (C.ty t) op (ρ x) (ρ y)) (S:=S) (β:=β) (v:=v) (rt:=rt') (by unfold Bv;exact h)).2
 | call c=>
  cases hc:c.callee with
  | builtin b=>
   cases b with
   | len=>
    simp only[aY,ho,hc]at h;split at h<;>first
     | (simp only[Tr.dec,aI,a_]at h;exact h.2.symm)
     | exact Bt (f:=fun n=>AV.val (Ty.int IntKind.i64) n) h
     | (exfalso;contradiction)
     | (exfalso;revert h;simp only[Tr.dec];intro h;contradiction)
   | _=>simp[o9,ho,hc]at hT
  | _=>simp[o9,ho,hc]at hT
 | _=>simp[o9,ho]at hT
theorem aag{A:bV}{ρ:Operand->AV}{S:aO}{site:Nat}{h1 h2:Bool}{o:Oper}(hT:o9 o=true):aY C D A ρ S site h1 o=aY C D A ρ S site h2 o:=by
  cases ho:o.op with
  | call c=>
    cases hc:c.callee with
    | builtin b=>
      cases b with
      | len=>
        simp only[aY,ho,hc];generalize List.map ρ c.args.toList=l1;generalize List.map C.ty c.argTypes.toList=l2;rcases l1 with _ | ⟨x,_ | ⟨y,l⟩⟩
        . rfl
        . rcases l2 with _ | ⟨t,l2⟩
          . cases x with
            | val ty s=>cases ty<;>rfl
            | _=>rfl
          . cases x with
            | val ty s=>cases ty<;>cases t<;>rfl
            | _=>cases t<;>rfl
        . rcases l with _ | ⟨z,l⟩<;>rcases l2 with _ | ⟨t,_ | ⟨t',l2⟩⟩<;>first
            | rfl
            | (cases t<;>first | rfl | (cases t'<;>rfl))
            | (cases x with
               | val ty s=>cases ty<;>first | rfl | (cases t<;>first | rfl | (cases t'<;>rfl))
               | _=>first | rfl | (cases t<;>first | rfl | (cases t'<;>rfl)))
      | _=>simp[o9,ho,hc]at hT
    | _=>simp[o9,ho,hc]at hT
  | _=>first | (simp[o9,ho]at hT;done) | simp only[aY,ho]
theorem Fo:∀(ts:List Nat)(S:St)(u:Nat),(S.forget ts).get u=if u∈ts then .undef else S.get u
 | [],S,u=>by simp[St.forget]
 | t::ts,S,u=>by
  simp only[St.forget,Fo ts,bk];have:=Al S t u;simp only[St.blank]at this;rw[this];by_cases h1:u∈ts
  .simp[h1]
  .by_cases h2:u=t<;>simp[h1,h2]
theorem Fp(ts:List Nat)(S:St):(S.forget ts).sl.length=S.sl.length:=by
 induction ts generalizing S with
 | nil=>rfl
 | cons t ts ih=>simp only[St.forget];rw[ih];simp[St.gb]
theorem O9(ts:List Nat)(S:St):(S.forget ts).rt=S.rt:=by rw[Kn]
theorem zm(ops:Array Oper)(S:St)(i:Nat)(o:Oper)(v:AV)(u:Nat) :
  (fin ops S i o v).get u=if o.dst=some u/\u<S.sl.length then v else if u∈sr ops i o then .undef else S.get u:=by
 unfold fin uA;cases hd:o.dst with
 | none=>simp[Fo]
 | some d=>
  rw[St.gn,Fo,Fp];by_cases e:u=d
  .subst e;simp
  .have:¬ d=u:=fun h=>e h.symm;simp[e,this]
theorem oB(ops:Array Oper)(S:St)(i:Nat)(o:Oper)(v:AV):(fin ops S i o v).rt=S.rt:=by
 unfold fin uA;cases o.dst with
 | none=>exact O9 _ _
 | some d=>exact O9 _ _
theorem Io(ops:Array Oper)(S:St)(i:Nat)(o:Oper)(v:AV):(fin ops S i o v).sl.length=S.sl.length:=by
 unfold fin uA;cases o.dst with
 | none=>exact Fp _ _
 | some d=>simp only[St.gb,ck];exact Fp _ _
theorem EN{hints:Hints}{id:Nat}{ops:Array Oper}{β:Bool}{S S':St}{i:Nat}{o:Oper}{e:jo}(h:gQ C D hints id ops β S i o=some (S',e)){u:Nat}(hu:u∉jk ops i o) :
  S'.get u=S.get u/\S'.sl.length=S.sl.length/\(o9 o=true->S'.rt=S.rt):=by
 have hn:¬ (o.dst=some u):=fun h=>hu (by simp[jk,h]);have hn2:u∉sr ops i o:=fun h=>hu (by simp[jk,h]);unfold gQ at h;split at h
 .simp only[fj,a_]at h;obtain⟨x,hx,rfl,_⟩:=h;refine⟨?_,?_,fun ht=>?_⟩
  .rw[zm,af (fun h=>hn h.1),af hn2];rfl
  .rw[Io]
  .rw[oB];exact abM ht hx
 .simp only[aI,a_]at h;obtain⟨rfl,_⟩:=h;refine⟨?_,?_,fun ht=>?_⟩
  .rw[zm,af (fun h=>hn h.1),af hn2]
  .rw[Io]
  .rw[oB]
 .simp at h
theorem OT{hints:Hints}{id:Nat}{ops:Array Oper}{Dd:List Nat}:∀(l:List (Nat×Oper))(βs:List Bool)(S S':St)(lg:Log),eI C D hints id ops βs l S=some (S',lg)->
  (∀x∈l,o9 x.2=true/\∀u∈jk ops x.1 x.2,u∈Dd)->(∀u,u∉Dd->S'.get u=S.get u)/\S'.rt=S.rt/\S'.sl.length=S.sl.length
 | [],βs,S,S',lg,h,_=>by
  simp only[eI,aI,a_]at h;obtain⟨rfl,_⟩:=h;exact⟨fun _ _=>rfl,rfl,rfl⟩
 | (i,o)::l,βs,S,S',lg,h,hl=>by
  simp only[eI,cJ,fj,a_]at h;obtain⟨⟨S1,e⟩,hs,⟨S2,H_⟩,hr,rfl,_⟩:=h;obtain⟨ht,ho⟩:=hl (i,o) bO;obtain⟨k1,k2,k3⟩:=OT l βs.tail S1 S2 H_ hr (fun x hx=>hl x (cD _ hx));have hex:∃u,u∉jk ops i o:=by
   refine⟨(jk ops i o).foldr max 0+1,fun h=>?_⟩;have:∀(l:List Nat)(u:Nat),u∈l->u<=l.foldr max 0:=by
    intro l
    induction l with
    | nil=>intro u h;simp at h
    | cons a l ih=>
     intro u h;simp only[He];rcases bk.1 h with rfl | h
     .exact Nat.le_max_left _ _
     .exact mB (ih u h) (Nat.le_max_right _ _)
   have:=this _ _ h;omega
  obtain⟨u0,hu0⟩:=hex;obtain⟨_,f2,f3⟩:=EN hs hu0;exact⟨fun u hu=>(k1 u hu).trans (EN hs (fun h=>hu (ho u h))).1,k2.trans (f3 ht),k3.trans f2⟩
theorem EM{hints:Hints}{id:Nat}{ops:Array Oper}:∀(l1 l2:List (Nat×Oper))(βs:List Bool)(S:St),
  eI C D hints id ops βs (l1++l2) S=(eI C D hints id ops βs l1 S).bind fun x=>(eI C D hints id ops (βs.drop l1.length) l2 x.1).map fun y=>(y.1,x.2++y.2)
 | [],l2,βs,S=>by simp[eI]
 | (i,o)::l1,l2,βs,S=>by
  simp only[fJ,eI];cases hs:gQ C D hints id ops (βs.headD true) S i o with
  | none=>simp
  | some x=>
   simp only[dn];rw[EM l1 l2 βs.tail x.1];cases hr:eI C D hints id ops βs.tail l1 x.1 with
   | none=>simp
   | some y=>
    simp only[dn,dV,ct];have:βs.tail.drop l1.length=βs.drop (l1.length+1):=by cases βs<;>simp
    rw[this];cases eI C D hints id ops (βs.drop (l1.length+1)) l2 y.1<;>simp
theorem aiT{S:St}{x:Operand}{b:Bool}(h:V.asBool (ev S x)=some b):ev S x=.val .bool b:=by
 cases x with
 | tmp t=>
  simp only[ev]at h⊢;cases hS:S.get t with
  | val t y=>rw[hS]at h;cases t<;>simp[AV.flat,V.asBool]at h;subst h;rfl
  | cF c=>rw[hS]at h;simp[AV.flat,V.asBool]at h;subst h;rfl
  | _=>rw[hS]at h;simp[AV.flat,V.asBool]at h
 | const v=>simp only[ev]at h⊢;unfold AP at h⊢;split at h<;>simp[V.asBool]at h;subst h;rfl
 | _=>simp[ev,V.asBool]at h
def Mr(C:Ctx)(D:Den C)(hints:Hints)(id:Nat)(ops:Array Oper)(qH:List (Nat×Oper)->St->Log->Option (St×Log)):Prop:=
 ∀l S lg S1 gA,qH l S lg=some (S1,gA)->(∀x∈l,o9 x.2=true)->∀T,fA S T->∀βs,∃T1 gj,eI C D hints id ops βs l T=some (T1,gj)/\fA S1 T1/\(∀e∈gj,e∈gA)/\(∀e∈lg,e∈gA)
theorem KU{t:Nat}:∀(l:List (Nat×Oper)){seg:List (Nat×Oper)}{x:Nat×Oper}{rest:List (Nat×Oper)},Kw t l=some (seg,x,rest)->l=seg++x::rest/\G8 t x.2=true
 | [],_,_,_,h=>by simp[Kw]at h
 | y::l,seg,x,rest,h=>by
  simp only[Kw]at h;split at h
  .rename_i hp;simp only[aI,a_]at h;obtain⟨rfl,rfl,rfl⟩:=h;exact⟨rfl,hp⟩
  .split at h
   .rename_i z hz;obtain⟨z1,z2,z3⟩:=z;simp only[aI,a_]at h;obtain⟨rfl,rfl,rfl⟩:=h;obtain⟨e,hp⟩:=KU l hz;exact⟨by rw[e];rfl,hp⟩
   .simp at h
theorem Lt{hints:Hints}{id:Nat}{ops:Array Oper}{qH:List (Nat×Oper)->St->Log->Option (St×Log)}(VN:Mr C D hints id ops qH){t:Nat}{c:Bool}{l rest:List (Nat×Oper)}{S S':St}{lg DH:Log}
  (h:Ba C ops id qH t c l S lg=some (S',DH,rest)) (Jj:S.get t=.val .bool c) {T:St} (hs:fA S T) (βs:List Bool) :
  ∃seg i o T' gj,l=seg++(i,o)::rest/\eI C D hints id ops βs (seg++[(i,o)]) T=some (T',gj)/\fA S' T'/\(∀e∈gj,e∈DH)/\(∀e∈lg,e∈DH)/\o9 o=true:=by
 unfold Ba at h;split at h
 .rename_i seg i o rest' hsp;obtain⟨hl,hpick⟩:=KU l hsp;simp only at h;split at h
  .rename_i hc;simp only[bC,qC,jV]at hc;obtain⟨⟨jq,gS⟩,qV⟩:=hc;split at h
   .rename_i cc a b S1 l1 S2 l2 hop h1 h2;split at h
    .rename_i x y hx hy;simp only[aI,a_]at h;obtain⟨rfl,rfl,rfl⟩:=h;have Sw:T.get t=.val .bool c:=by
      rcases hs.get t with e | ⟨b,e1,_⟩
      .rw[e];exact Jj
      .rw[Jj]at e1;simp at e1
     have htl:t<S.sl.length:=by
      rcases Ah t S.sl.length with h | h
      .exact h
      .simp only[St.get_eq,List.getD]at Jj;rw[n5 h]at Jj;simp at Jj
     have pL:fA (S.set t (.cF c)) T:=by
      refine⟨hs.rt,by simp[St.gb,hs.len],fun u=>?_⟩;rw[St.gn];by_cases e:u=t
      .subst e;rw[aj ⟨rfl,htl⟩];exact .inr ⟨c,rfl,Sw⟩
      .rw[af (fun h=>e h.1)];exact hs.get u
     have lJ:cc=.tmp t:=by
      unfold G8 at hpick;rw[hop]at hpick;split at hpick
      .rename_i c' _ _ he;simp only[Op.pick.injEq]at he;rw[he.1];rw[kO hpick]
      .simp at hpick
     have JX:∀x∈seg,o9 x.2=true/\∀u∈jk ops x.1 x.2,u∈sr ops i o:=by intro z hz;have:=jq z hz;exact⟨this.1,fun u hu=>by have:=this.2 u hu;simpa using this⟩
     -- zu way akf is gone
     have key:∀(Sc:St)(lc:Log),qH seg (S.set t (.cF c)) []=some (Sc,lc)->∀z,V.asBool (ev Sc (if c then a else b))=some z->
       ∃T' gj,eI C D hints id ops βs (seg++[(i,o)]) T=some (T',gj)/\fA (fin ops S i o (.val .bool z)) T'/\∀e∈gj,e∈lc\/e=jm C ops Sc (id * 256+i+1) i o (.val .bool z) Sc.rt:=by
      intro Sc lc hr z hz;obtain⟨T1,gj,k1,k2,k3,_⟩:=VN seg _ _ Sc lc hr (fun x hx=>(JX x hx).1) T pL βs;obtain⟨f1,f2,f3⟩:=OT seg βs T T1 gj k1 JX;have htD:t∉sr ops i o:=by simpa using qV
      have UT:T1.get t=.val .bool c:=by rw[f1 t htD];exact Sw
      have hg:nV ops T1 o=some true:=by
       unfold Ml at gS;unfold nV;split at gS
       .rename_i hgd;rw[hgd]
       .rename_i j b' hgd;simp only[bC,jV]at gS;rw[hgd];simp only;have hjD:kI ops j∉sr ops i o:=by simpa using gS.1
        rw[f1 _ hjD];have h5:=gS.2;split at h5
        .rename_i c' hS;rcases hs.get (kI ops j) with e | ⟨b2,e1,e2⟩
         .rw[e,hS];simp only[aI];exact h5
         .rw[e2];rw[hS]at e1;simp only[AV.cF.injEq]at e1;subst e1;simp only[aI];exact h5
        .simp at h5
      have Vc:ev T1 (if c then a else b)=.val .bool z:=by rw[k2.ev];exact aiT hz
      have U9:(iB C D T1 (id * 256+i+1) (hints.share.contains (id,i)) o).dec ((βs.drop seg.length).headD true)=some (.val .bool z,T1.rt):=by unfold iB;simp only[aY,hop,lJ,ev,UT,AV.flat,V.asBool];cases c<;>simp only[Tr.dec,aI,a_,gM]<;>exact Vc
      have hstep:gQ C D hints id ops ((βs.drop seg.length).headD true) T1 i o=some (fin ops T1 i o (.val .bool z),jm C ops Sc (id * 256+i+1) i o (.val .bool z) Sc.rt):=by unfold gQ;rw[hg,U9,<-k2.iF,<-k2.rt];rfl
      refine⟨fin ops T1 i o (.val .bool z),gj++[jm C ops Sc (id * 256+i+1) i o (.val .bool z) Sc.rt],?_,?_,?_⟩
      .rw[EM,k1];simp only[dn,eI,hstep,dV]
      .refine⟨?_,?_,fun u=>?_⟩
       .rw[oB,oB,f2,hs.rt]
       .rw[Io,Io,f3,hs.len]
       .rw[zm,zm,f3,hs.len];by_cases h1:o.dst=some u/\u<S.sl.length
        .rw[aj h1,aj h1];exact .inl rfl
        .rw[af h1,af h1];by_cases h2:u∈sr ops i o
         .rw[aj h2,aj h2];exact .inl rfl
         .rw[af h2,af h2,f1 u h2];exact hs.get u
      .intro e he;rcases bL.1 he with he | he
       .exact .inl (k3 e he)
       .exact .inr (by simpa using he)
     have htot:o9 o=true:=by unfold o9;rw[hop]
     cases c with
     | true=>
      obtain⟨T',gj,k1,k2,k3⟩:=key S1 l1 h1 x (by simpa using hx);refine⟨seg,i,o,T',gj,hl,k1,k2,fun e he=>?_,fun e he=>?_,htot⟩
      .rcases k3 e he with h | rfl
       .simp[h]
       .simp
      .simp[he]
     | false=>
      obtain⟨T',gj,k1,k2,k3⟩:=key S2 l2 h2 y (by simpa using hy);refine⟨seg,i,o,T',gj,hl,k1,k2,fun e he=>?_,fun e he=>?_,htot⟩
      .rcases k3 e he with h | rfl
       .simp[h]
       .simp
      .simp[he]
    .simp at h
   .simp at h
  .simp at h
 .simp at h
end
end
section
variable {C:Ctx} {D:Den C}
theorem PI{hints:Hints}{id:Nat}{ops:Array Oper}{seg rest:List (Nat×Oper)}{x:Nat×Oper}{T T':St}{gj:Log}{βs:List Bool}
  (h:eI C D hints id ops βs (seg++[x]) T=some (T',gj)) :
  eI C D hints id ops βs (seg++x::rest) T=(eI C D hints id ops (βs.drop (seg.length+1)) rest T').map fun y=>(y.1,gj++y.2):=by
 have e:seg++x::rest=(seg++[x])++rest:=by simp
 rw[e,EM,h];simp only[dn,cw,ct,ic]
theorem FB{ops:Array Oper}{S T:St}(h:fA S T){o:Oper}{j:Nat}{b c:Bool}(hg:o.guard=some (j,b))(hS:S.get (kI ops j)=.cF c\/S.get (kI ops j)=.val .bool c) :
  nV ops T o=some (c == b):=by
 unfold nV;rw[hg];simp only;rcases hS with hS | hS
 .rcases h.get (kI ops j) with e | ⟨c',e1,e2⟩
  .rw[e,hS]
  .rw[hS]at e1;simp only[AV.cF.injEq]at e1;subst e1;rw[e2]
 .rcases h.get (kI ops j) with e | ⟨c',e1,e2⟩
  .rw[e,hS]
  .rw[hS]at e1;simp at e1
theorem OJ{ops:Array Oper}{S T:St}(h:fA S T){o:Oper}{j:Nat}{b:Bool}(hg:o.guard=some (j,b))(hS:S.get (kI ops j)=.skip):nV ops T o=some false:=by
 unfold nV;rw[hg];simp only;rcases h.get (kI ops j) with e | ⟨c',e1,e2⟩
 .rw[e,hS]
 .rw[hS]at e1;simp at e1
theorem Pv{ops:Array Oper}{T:St}{o:Oper}(hg:o.guard=none):nV ops T o=some true:=by unfold nV;rw[hg]
theorem xK{hints:Hints}{id:Nat}{ops:Array Oper}:∀n,Mr C D hints id ops (mg C D id ops n)
 | 0=>by intro l S lg S1 gA h;simp[mg]at h
 | n+1=>by
  intro l S lg S1 gA h hl T hs βs;cases l with
  | nil=>simp only[mg,aI,a_]at h;obtain⟨rfl,rfl⟩:=h;exact⟨T,[],rfl,hs,by simp,fun e he=>he⟩
  | cons x rest=>
   obtain⟨i,o⟩:=x;have htot:=hl (i,o) bO;have eN:∀x∈rest,o9 x.2=true:=fun x hx=>hl x (cD _ hx);have qW:nV ops T o=some true->(match iB C D S (id * 256+i+1) false o with
     | .ret (v,rt')=>mg C D id ops n rest (fin ops ⟨S.sl,rt'⟩ i o v) (jm C ops S (id * 256+i+1) i o v rt'::lg)
     | _=>none)=some (S1,gA)->∃T1 gj,eI C D hints id ops βs ((i,o)::rest) T=some (T1,gj)/\fA S1 T1/\(∀e∈gj,e∈gA)/\(∀e∈lg,e∈gA):=by
    intro hg h;split at h
    .rename_i v rt' hop;have Du:(iB C D S (id * 256+i+1) (hints.share.contains (id,i)) o).dec (βs.headD true)=some (v,rt'):=by unfold iB at hop⊢;rw[aag htot (h2:=false),hop];rfl
     obtain⟨k1,k2⟩:=LH (hints:=hints) (id:=id) hs hg Du;obtain⟨T1,gj,q1,q2,q3,q4⟩:=xK (hints:=hints) n rest _ _ S1 gA h eN _ k2 βs.tail;refine⟨T1,jm C ops S (id * 256+i+1) i o v rt'::gj,?_,q2,?_,fun e he=>q4 e (cD _ he)⟩
     .simp only[eI,k1,dn,q1,dV]
     .intro e he;rcases bk.1 he with rfl | he
      .exact q4 _ bO
      .exact q3 e he
    .simp at h
   have mV:nV ops T o=some false->mg C D id ops n rest (fin ops S i o .skip) (oz ops S (id * 256+i+1) i o::lg)=some (S1,gA)->
     ∃T1 gj,eI C D hints id ops βs ((i,o)::rest) T=some (T1,gj)/\fA S1 T1/\(∀e∈gj,e∈gA)/\(∀e∈lg,e∈gA):=by
    intro hg h;obtain⟨k1,k2⟩:=PU (C:=C) (D:=D) (hints:=hints) (id:=id) (β:=βs.headD true) hs hg;obtain⟨T1,gj,q1,q2,q3,q4⟩:=xK (hints:=hints) n rest _ _ S1 gA h eN _ k2 βs.tail;refine⟨T1,oz ops S (id * 256+i+1) i o::gj,?_,q2,?_,fun e he=>q4 e (cD _ he)⟩
    .simp only[eI,k1,dn,q1,dV]
    .intro e he;rcases bk.1 he with rfl | he
     .exact q4 _ bO
     .exact q3 e he
   simp only[mg]at h;split at h
   .rename_i hgd;exact qW (Pv hgd) h
   .rename_i j b hgd;split at h
    .rename_i hS;exact mV (OJ hs hgd hS) h
    .rename_i c hS;have hg:=FB hs hgd (.inl hS);split at h
     .rename_i hcb;subst hcb;exact qW (by simpa using hg) h
     .rename_i hcb;exact mV (by rw[hg];simpa using hcb) h
    .rename_i c hS;split at h
     .rename_i S2 H_ tH hj;obtain⟨seg,i2,o2,T',gj,e1,k1,k2,k3,k4,k5⟩:=Lt (xK (hints:=hints) n) hj hS hs βs;have mU:∀x∈tH,o9 x.2=true:=fun x hx=>hl x (by rw[e1];simp[hx]);obtain⟨T1,DI,q1,q2,q3,q4⟩:=xK (hints:=hints) n tH _ _ S1 gA h mU _ k2 (βs.drop (seg.length+1));refine⟨T1,gj++DI,?_,q2,?_,fun e he=>q4 e (k4 e he)⟩
      .rw[e1,PI k1,q1];rfl
      .intro e he;rcases bL.1 he with he | he
       .exact q4 e (k3 e he)
       .exact q3 e he
     .simp at h
    .simp at h
theorem Kq{R:Type}{r:R}{hints:Hints}{id:Nat}{ops:Array Oper}{k:Log->St->Option R}:∀(n:Nat)(l:List (Nat×Oper))(S:St)(lg:Log),yu C D hints id ops n l S lg k=some r->∀T,fA S T->∀βs,
  ∃T1 gj S1 gA,eI C D hints id ops βs l T=some (T1,gj)/\k gA S1=some r/\fA S1 T1/\(∀e∈gj,e∈gA)/\(∀e∈lg,e∈gA)
 | 0,l,S,lg,h=>by simp[yu]at h
 | n+1,[],S,lg,h=>by
  intro T hs βs;simp only[yu]at h;exact⟨T,[],S,lg,rfl,h,hs,by simp,fun e he=>he⟩
 | n+1,(i,o)::rest,S,lg,h=>by
  intro T hs βs;have qW:∀S,fA S T->nV ops T o=some true->((iB C D S (id * 256+i+1) (hints.share.contains (id,i)) o).run fun x=>yu C D hints id ops n rest (fin ops ⟨S.sl,x.2⟩ i o x.1) (jm C ops S (id * 256+i+1) i o x.1 x.2::lg) k)=some r->
    ∃T1 gj S1 gA,eI C D hints id ops βs ((i,o)::rest) T=some (T1,gj)/\k gA S1=some r/\fA S1 T1/\(∀e∈gj,e∈gA)/\(∀e∈lg,e∈gA):=by
   intro S hs hg h;obtain⟨x,hx,h⟩:=Tr.iI (βs.headD true) _ h;obtain⟨k1,k2⟩:=LH (hints:=hints) (id:=id) hs hg hx;obtain⟨T1,gj,S1,gA,q1,q2,q3,q4,q5⟩:=Kq (hints:=hints) n rest _ _ h _ k2 βs.tail;refine⟨T1,jm C ops S (id * 256+i+1) i o x.1 x.2::gj,S1,gA,?_,q2,q3,?_,fun e he=>q5 e (cD _ he)⟩
   .simp only[eI,k1,dn,q1,dV]
   .intro e he;rcases bk.1 he with rfl | he
    .exact q5 _ bO
    .exact q4 e he
  have mV:∀S,fA S T->nV ops T o=some false->yu C D hints id ops n rest (fin ops S i o .skip) (oz ops S (id * 256+i+1) i o::lg) k=some r->
    ∃T1 gj S1 gA,eI C D hints id ops βs ((i,o)::rest) T=some (T1,gj)/\k gA S1=some r/\fA S1 T1/\(∀e∈gj,e∈gA)/\(∀e∈lg,e∈gA):=by
   intro S hs hg h;obtain⟨k1,k2⟩:=PU (C:=C) (D:=D) (hints:=hints) (id:=id) (β:=βs.headD true) hs hg;obtain⟨T1,gj,S1,gA,q1,q2,q3,q4,q5⟩:=Kq (hints:=hints) n rest _ _ h _ k2 βs.tail;refine⟨T1,oz ops S (id * 256+i+1) i o::gj,S1,gA,?_,q2,q3,?_,fun e he=>q5 e (cD _ he)⟩
   .simp only[eI,k1,dn,q1,dV]
   .intro e he;rcases bk.1 he with rfl | he
    .exact q5 _ bO
    .exact q4 e he
  simp only[yu]at h;split at h
  .rename_i hgd;exact qW S hs (Pv hgd) h
  .rename_i j b hgd;split at h
   .rename_i hS;exact mV S hs (OJ hs hgd hS) h
   .rename_i c hS;have hg:=FB hs hgd (.inl hS);split at h
    .rename_i hcb;subst hcb;exact qW S hs (by simpa using hg) h
    .rename_i hcb;exact mV S hs (by rw[hg];simpa using hcb) h
   .rename_i c hS;split at h
    .rename_i S2 H_ tH hj;obtain⟨seg,i2,o2,T',gj,e1,k1,k2,k3,k4,k5⟩:=Lt (xK (hints:=hints) n) hj hS hs βs;obtain⟨T1,DI,S1,gA,q1,q2,q3,q4,q5⟩:=Kq (hints:=hints) n tH _ _ h _ k2 (βs.drop (seg.length+1));refine⟨T1,gj++DI,S1,gA,?_,q2,q3,?_,fun e he=>q5 e (k4 e he)⟩
     .rw[e1,PI k1,q1];rfl
     .intro e he;rcases bL.1 he with he | he
      .exact q5 e (k3 e he)
      .exact q4 e he
    .have hg:=FB hs hgd (.inr hS);have pL:fA (S.set (kI ops j) (.cF c)) T:=by
      have Sw:T.get (kI ops j)=.val .bool c:=by
       rcases hs.get (kI ops j) with e | ⟨b,e1,_⟩
       .rw[e];exact hS
       .rw[hS]at e1;simp at e1
      refine⟨hs.rt,by simp[St.gb,hs.len],fun u=>?_⟩;rw[St.gn];by_cases e:u=kI ops j/\kI ops j<S.sl.length
      .rw[aj e,e.1];exact .inr ⟨c,rfl,Sw⟩
      .rw[af e];exact hs.get u
     cases c with
     | true=>
      simp only[br]at h;split at h
      .rename_i hb;subst hb;exact qW _ pL (by simpa using hg) h
      .rename_i hb;exact mV _ pL (by rw[hg];cases b<;>simp_all) h
     | false=>
      simp only[br]at h;split at h
      .rename_i hb;subst hb;exact qW _ pL (by simpa using hg) h
      .rename_i hb;exact mV _ pL (by rw[hg];cases b<;>simp_all) h
   .simp at h
end
theorem Lf{h:Array Obj}{S T:St}(hs:fA S T){g:ay}{tmps:Array Value}{H:BS}(st:az h T g tmps H):az h S g tmps H:=by
 have hr:∀r,S.root r=T.root r:=fun r=>by simp only[St.root,hs.rt]
 have hi:∀{r},(S.root r).isSome->(T.root r).isSome:=fun {r} h=>by rw[<-hr];exact h
 have he:∀{r R},S.root r=some R->T.root r=some R:=fun {r R} h=>by rw[<-hr];exact h
 have hl:S.sl.length=tmps.size:=by rw[<-hs.len];exact st.len
 have iw:S.rt.length=tmps.size:=by rw[<-hs.rt];exact st.gq
 refine⟨hl,iw,?_,fun r R hR=>st.roots r R (he hR),fun r r' hn h1 h2=>st.dG r r' hn (hi h1) (hi h2),fun r h1=>st.dK r (hi h1),fun r h1=>st.hand r (hi h1),st.bI,st.bP,fun r b h1=>st.b6 r b (hi h1),st.d_,fun r R hR=>st.tag r R (he hR),fun r b h1=>st.own r b (hi h1),st.eY,st.fS,st.p0,st.jY⟩;intro t;have:=st.slots t;have h2:=qe.gy (S':=S) st hs.rt.symm this;rcases hs.get t with e | ⟨b,e1,e2⟩
 .rw[e]at h2;exact h2
 .rw[e2]at h2;rw[e1];simp only[qe,aq]at h2⊢;obtain⟨c,rfl,e⟩:=h2;exact e
theorem Kx{h:Array Obj}:∀(p:Path)(t:Ty)(c:List Value)(base:fy),b8 h t c base (p.map n9.zero)=b8 h t c base p
 | [],t,c,base=>rfl
 | .fst::p,t,c,base=>by cases t<;>simp only[cm,n9.zero,b8];exact Kx p _ _ _
 | .snd::p,t,c,base=>by cases t<;>simp only[cm,n9.zero,b8];exact Kx p _ _ _
 | .idx i s::p,t,c,base=>by
  cases t<;>simp only[cm,n9.zero,b8];split
  .split
   .exact Kx p _ _ _
   .rfl
  .rfl
theorem KG:∀(p:Path)(t:Ty)(x:t.den),bq t x (p.map n9.zero)↔bq t x p
 | [],t,x=>kD
 | .fst::p,t,x=>by cases t<;>simp only[cm,n9.zero,bq];exact KG p _ _
 | .snd::p,t,x=>by cases t<;>simp only[cm,n9.zero,bq];exact KG p _ _
 | .idx i s::p,t,x=>by
  cases t<;>simp only[cm,n9.zero,bq];rw[KG p]
theorem aK.bh{hd:Nat->Value}:∀(t:Ty){m:Mk}{c:List Value},aK hd t m c->aK hd t m.bh c
 | .unit,_,_,_=>by simp only[aK]
 | .int _,_,_,_=>by simp only[aK]
 | .bool,_,_,_=>by simp only[aK]
 | .str,_,_,_=>by simp only[aK]
 | .pair a b,m,c,h=>by
  simp only[aK]at h⊢;have h1:=Mk.lR m;have h2:=Mk.lS m;rw[h1,h2];exact⟨aK.bh a h.1,aK.bh b h.2⟩
 | .sl t,m,c,h=>by
  cases m with
  | own s mi=>
   have hf:∀m:Mk,m.ak=true->m.bh.ak=true:=by
    intro m
    induction m with
    | no=>intro _;rfl
    | gone=>intro _;rfl
    | own s m ih=>intro h;simp only[Mk.ak,bC,nU]at h;simp only[Mk.bh,Mk.ak,bC,nU];exact⟨by rw[aj h.1];omega,ih h.2⟩
    | pr a b fP ki=>intro h;simp only[Mk.ak,bC]at h;simp only[Mk.bh,Mk.pV,bC];exact⟨fP h.1,ki h.2⟩
   simp only[Mk.bh,aK]at h⊢;refine⟨fun h2=>?_,hf _ h.2⟩;split at h2
   .omega
   .rename_i hn;rw[af hn];exact h.1 h2
  | no=>simp only[Mk.bh,aK]
  | gone=>simp only[Mk.bh,aK]
  | pr a b=>simp only[Mk.bh];rcases Mk.ov a.bh b.bh with e | e<;>rw[e]<;>simp only[aK]
theorem agO{x:Option aB}{R':aB}(h:Kt x=some R'):∃R,x=some R/\R'={ R with ms:=R.ms.bh }:=by
 unfold Kt at h;cases x with
 | none=>simp at h
 | some R=>
  simp only[dn]at h;split at h
  .simp at h
  .simp only[aI]at h;exact⟨R,rfl,h.symm⟩
theorem OB(oN:List Nat):∀(l:List (Option aB))(i r:Nat),(DS oN i l).getD r none=if oN.contains (i+r) then Kt (l.getD r none) else none
 | [],i,r=>by simp[DS,Kt,List.getD]
 | x::l,i,r=>by
  simp only[DS];cases r with
  | zero=>simp only[I4,nS]
  | succ r=>simp only[G4];rw[OB oN l (i+1) r,show i+1+r=i+(r+1) by omega]
theorem N1(oN:List Nat):∀(l:List (Option aB))(i:Nat),(DS oN i l).length=l.length
 | [],_=>rfl
 | x::l,i=>by simp[DS,N1 oN l]
theorem OC(S:St)(keep:List Nat):∀(l:List AV)(i t:Nat),(DT S keep i l).getD t .undef=if keep.contains (i+t) then (l.getD t .undef).canon S else .undef
 | [],i,t=>by simp[DT,AV.canon,List.getD]
 | x::l,i,t=>by
  simp only[DT];cases t with
  | zero=>simp only[I4,nS]
  | succ t=>simp only[G4];rw[OC S keep l (i+1) t,show i+1+t=i+(t+1) by omega]
theorem N2(S:St)(keep:List Nat):∀(l:List AV)(i:Nat),(DT S keep i l).length=l.length
 | [],_=>rfl
 | x::l,i=>by simp[DT,N2 S keep l]
section
variable {h:Array Obj} {S:St} {g:ay} {tmps:Array Value} {H:BS} (st:az h S g tmps H)
include st
theorem Sb{keep extra:List Nat}{r:Nat}{R':aB}(hr:(S.canon keep extra).root r=some R'):∃R,S.root r=some R/\R'={ R with ms:=R.ms.bh }:=by
 simp only[St.canon,St.root,aO.g8]at hr;rw[OB]at hr;split at hr
 .rw[<-aO.g8]at hr;exact agO hr
 .simp at hr
theorem Pg{keep extra:List Nat}{r:Nat}{p:Path}{s:Nat}{v:Value}{t:Ty}{m:Mk}{xs:(Ty.sl t).den}(hf:S.rt.focus r p=some ⟨.sl t,.own s m,xs⟩)(x:pZ h S g r p s v) :
  pZ h (S.canon keep extra) g r (p.map n9.zero) (if s<1048576 then 0 else s) v:=by
 obtain⟨R,base,F,hR,yT,hin,eg,_⟩:=Ky st hf rfl x;intro R' cg t' m' xs' hf';obtain⟨R2,vp,rfl⟩:=Sb st cg;rw[hR]at vp;simp only[aI]at vp;subst vp;exact⟨(KG p _ _).2 hin,base,by rw[Kx];exact eg⟩
theorem Z1{keep extra:List Nat}{r:Nat}{p:Path}{v:Value}{d:Dy}(hf:S.rt.focus r p=some d)(x:uu h S g r p v):uu h (S.canon keep extra) g r (p.map n9.zero) v:=by
 simp only[aO.focus]at hf;split at hf
 .rename_i R hR;obtain⟨hin,b,o,c,eg,e⟩:=x R hR d hf;intro R' cg d' hf';obtain⟨R2,vp,rfl⟩:=Sb st cg;have:R=R2:=by have h1:S.root r=some R:=hR;rw[h1]at vp;simpa using vp
  subst this;exact⟨(KG p _ _).2 hin,b,o,c,by rw[Kx];exact eg,e⟩
 .simp at hf
theorem Be{keep extra:List Nat}:∀{a:AV}{c:List Value},dc h S g a c->dc h (S.canon keep extra) g (a.canon S) c
 | .undef,_,_=>by simp only[AV.canon,dc]
 | .unit,_,y=>y
 | .val t x,_,y=>y
 | .b5 r p s,c,y=>by
  simp only[dc]at y;obtain⟨v,rfl,y⟩:=y;simp only[AV.canon];split
  .rename_i t s' m xs hf;split
   .rename_i hs;subst hs;simp only[dc];exact⟨v,rfl,Pg st hf y⟩
   .simp only[dc]
  .simp only[dc]
 | .pair a b,c,y=>by
  simp only[dc]at y;obtain⟨ca,cb,rfl,y1,y2⟩:=y;simp only[AV.canon,dc];exact⟨ca,cb,rfl,Be y1,Be y2⟩
 | .skip,_,y=>y.elim
 | .cF _,_,y=>y.elim
 | .fe,_,y=>y.elim
 | .view _ _ _ _ _,_,y=>y.elim
 | .addr _ _,_,y=>y.elim
 | .b_ _ _,_,y=>y.elim
 | .jn _,_,y=>y.elim
 | .gz _ _,_,y=>y.elim
 | .dZ _,_,y=>y.elim
theorem aj0{keep extra:List Nat}:∀(a:AV),(∀v,qe h S g a v->qe h (S.canon keep extra) g (a.canon S) v)/\(∀vs,aL h S g a vs->aL h (S.canon keep extra) g (a.canon S) vs):=by
 intro a
 induction a with
 | undef=>exact⟨fun _ _=>by simp only[AV.canon,qe],fun _ y=>by simp only[aL]at y⟩
 | skip=>exact⟨fun _ y=>y,fun _ y=>by simp only[aL]at y⟩
 | cF b=>exact⟨fun _ y=>y,fun _ y=>by simp only[aL]at y⟩
 | unit=>exact⟨fun _ y=>y,fun _ y=>y⟩
 | fe=>exact⟨fun _ y=>y,fun _ y=>by simp only[aL]at y⟩
 | val t x=>exact⟨fun _ y=>y,fun _ y=>by simp only[aL]at y⟩
 | b5 r p s=>
  refine⟨fun v y=>?_,fun _ y=>by simp only[aL]at y⟩;simp only[qe]at y;simp only[AV.canon];split
  .rename_i t s' m xs hf;split
   .rename_i hs;subst hs;simp only[qe];exact Pg st hf y
   .simp only[qe]
  .simp only[qe]
 | view r p s lo hi=>exact⟨fun _ _=>by simp only[AV.canon,qe],fun _ y=>by simp only[aL]at y⟩
 | addr r p=>
  refine⟨fun v y=>?_,fun _ y=>by simp only[aL]at y⟩;simp only[qe]at y;simp only[AV.canon];split
  .rename_i d hf;simp only[qe];exact Z1 st hf y
  .simp only[qe]
 | b_ t x=>exact⟨fun _ y=>y,fun _ y=>by simp only[aL]at y⟩
 | pair a b fP ki=>
  refine⟨fun v y=>?_,fun vs y=>?_⟩
  .simp only[qe]at y;obtain⟨ca,cb,e,y1,y2⟩:=y;simp only[AV.canon,qe];exact⟨ca,cb,e,Be st y1,Be st y2⟩
  .simp only[aL]at y;obtain⟨v,vs',e,y1,y2⟩:=y;simp only[AV.canon,aL];exact⟨v,vs',e,fP.1 v y1,ki.2 vs' y2⟩
 | jn a fP=>exact⟨fun _ _=>by simp only[AV.canon,qe],fun _ y=>by simp only[aL]at y⟩
 | gz f a fP=>refine⟨fun v y=>?_,fun _ y=>by simp only[aL]at y⟩;simp only[qe]at y;obtain⟨vs,e,y⟩:=y;simp only[AV.canon,qe];exact⟨vs,e,fP.2 vs y⟩
 | dZ c=>exact⟨fun _ y=>y,fun _ y=>by simp only[aL]at y⟩
theorem Az(keep extra:List Nat):az h (S.canon keep extra) g tmps H:=by
 have hs:∀r,((S.canon keep extra).root r).isSome->(S.root r).isSome:=by intro r h1;obtain⟨R',cg⟩:=xQ.1 h1;obtain⟨R,hR,_⟩:=Sb st cg;rw[hR];rfl
 refine⟨?_,?_,?_,?_,fun r r' hn h1 h2=>st.dG r r' hn (hs r h1) (hs r' h2),fun r h1=>st.dK r (hs r h1),fun r h1=>st.hand r (hs r h1),st.bI,st.bP,fun r b h1=>st.b6 r b (hs r h1),st.d_,?_,fun r b h1=>st.own r b (hs r h1),st.eY,st.fS,st.p0,st.jY⟩
 .simp only[St.canon];rw[N2];exact st.len
 .simp only[St.canon];rw[N1];exact st.gq
 .intro t;simp only[St.get_eq,St.canon];rw[OC];split
  .have z:=st.slots t;rw[St.get_eq]at z;exact(aj0 st _).1 _ z
  .simp only[qe]
 .intro r R' cg;obtain⟨R,hR,rfl⟩:=Sb st cg;obtain⟨F,q1,q2⟩:=st.roots r R hR;exact⟨F,(aq.bh R.ty).1 q1,q2⟩
 .intro r R' cg;obtain⟨R,hR,rfl⟩:=Sb st cg;exact aK.bh _ (st.tag r R hR)
end
end Go.V
namespace Go.V
noncomputable section
open Go
def Ex.out:Ex->Exit
 | .normal=>.normal
 | .exit id=>.exit id
 | .ret=>.ret
theorem xM{ops:Array Oper}:∀x∈m9 ops,ops[x.1]? = some x.2:=by intro x hx;simp only[m9,eE]at hx;obtain⟨y,hy,rfl⟩:=hx;have:=GY.1 hy;simpa using this
theorem S8{ops:Array Oper}:(m9 ops).map (·.1)=List.range ops.size:=by
 simp only[m9,xx];apply o4;intro i;simp only[GU,List.getElem?_zipIdx,List.getElem?_range'];by_cases h:i<ops.size
 .simp[h]
 .simp[h]
theorem Pw{ops:Array Oper}(h:KC ops=true):∀(i:Nat) o j c,ops[i]? = some o->o.guard=some (j,c)->∃oj t,ops[j]? = some oj/\oj.dst=some t:=by intro i o j c ho hg;simp only[KC,qC]at h;have:=h o (by rw[Gp];exact Ek ho);rw[hg]at this;simp only[xQ,cJ]at this;obtain⟨t,oj,h1,h2⟩:=this;exact⟨oj,t,h1,h2⟩
theorem Qo{np:List Nat}{ops:Array Oper}(h:Iq np ops=true):∀x∈m9 ops,∀d,x.2.dst=some d->d∉np:=by intro x hx d hd;simp only[Iq,qC]at h;have:=h x.2 (by rw[Gp];exact Ek (xM x hx));rw[hd]at this;simpa using this
section
variable {P:Program} {C:Ctx} {D:Den C} (bn:hY P C) (dI:n8 P C D)
include bn dI
def C3(np:List Nat)(P:Program)(C:Ctx)(Q:Exit->Act->World->Prop){R:Type}(r:R)(c:Code)(S:St)(k:Ex->St->Option R)(g:ay)(a:Act)(w:World):Prop:=
 az w.heap S g a.tmps Nil->a.defers=[]->(∀e S' g' a' w',k e S'=some r->az w'.heap S' g' a'.tmps Nil->g'.cM g->jW g.L w w'->a'.defers=[]->u5 np a a'->Q e.out a' w')->c.wp P Q a w
theorem aa0{np:List Nat}{R:Type}{r:R}{H:Hints}{id:Nat}{ops:Array Oper}{S:St}{k:Ex->St->Option R}{Q:Exit->Act->World->Prop}{g:ay}{a:Act}{w:World}{n:Nat}
  (hnp:Iq np ops=true) (h:exec C D H n (.region id ops false) S k=some r):C3 np P C Q r (.region id ops false) S k g a w:=by
 intro st hdf hQ;simp only[exec]at h;split at h
 .rename_i hgd;have hR:=fun βs=>Kq (hints:=H) _ _ _ _ h S (fA.refl S) βs;refine wp_region ?_;rw[<-S8];refine L_ (hints:=H) (id:=id) bn dI (Pw hgd) (m9 ops) S g a w xM (Qo hnp) st hdf (fun βs=>?_) ?_
  .obtain⟨T1,gj,S1,gA,q1,_⟩:=hR βs;exact⟨_,q1⟩
  .intro βs S' lg a' w' g' hr st' iY hfr iu om;obtain⟨T1,gj,S1,gA,q1,q2,q3,_⟩:=hR βs;rw[hr]at q1;simp only[aI,a_]at q1;obtain⟨rfl,rfl⟩:=q1;simp only[e7,dX]at q2;exact hQ .normal S1 g' a' w' q2 (Lf q3 st') iY hfr iu om
 .simp at h
end
end
end Go.V
namespace Go.V
noncomputable section
open Go
section
variable {C:Ctx} {D:Den C} {A:bV} {S:aO} {site:Nat} {hint:Bool}
theorem Py{ρ ρ':Operand->AV}{ps:Array (Nat×Operand)}(h:∀x∈(ps.toList.map (·.2)).toArray,ρ' x=ρ x):(ps.toList.map fun p=>(p.1,ρ' p.2))=ps.toList.map fun p=>(p.1,ρ p.2):=by apply qT;intro p hp;rw[h p.2 (by simp only[List.mem_toArray,eE];exact⟨p,hp,rfl⟩)]
theorem Qm{ρ ρ':Operand->AV}(o:Oper)(h:∀x∈o.op.operands,ρ' x=ρ x):aY C D A ρ' S site hint o=aY C D A ρ S site hint o:=by
 cases ho:o.op with
 | build t ps=>rw[ho]at h;simp only[Op.operands]at h;simp only[aY,ho];rw[Py h]
 | buildSlice t n ps=>rw[ho]at h;simp only[Op.operands]at h;simp only[aY,ho];rw[Py h]
 | makeFunc f first caps=>
  rw[ho]at h;simp only[Op.operands]at h;simp only[aY,ho];cases f with
  | func f=>
   have:caps.toList.foldr (fun x r=>AV.pair (ρ' x) r) .unit=caps.toList.foldr (fun x r=>AV.pair (ρ x) r) .unit:=by
    have hc:∀x∈caps.toList,ρ' x=ρ x:=fun x hx=>h x (by simp at hx⊢;exact .inr hx);revert hc;generalize caps.toList=l;intro hc
    induction l with
    | nil=>rfl
    | cons y l ih=>simp only[He];rw[hc y bO,ih (fun x hx=>hc x (cD _ hx))]
   simp only[this]
  | _=>rfl
 | slice t x lo hi mx=>
  rw[ho]at h;simp only[Op.operands]at h;cases mx with
  | some v=>simp only[aY,ho]
  | none=>
   simp only[aY,ho];have h1:ρ' x=ρ x:=h x (by simp);have h2:lo.map ρ'=lo.map ρ:=by cases lo with
    | none=>rfl
    | some v=>simp only[dV];rw[h v (by simp)]
   have h3:hi.map ρ'=hi.map ρ:=by cases hi with
    | none=>rfl
    | some v=>simp only[dV];rw[h v (by simp)]
   rw[h1,h2,h3]
 | call c=>
  rw[ho]at h;simp only[Op.operands]at h;have ha:c.args.toList.map ρ'=c.args.toList.map ρ:=qT fun x hx=>h x (by simp only[Call.operands,D8];right;simpa using hx);simp only[aY,ho];rw[ha];cases hc:c.callee with
  | builtin b=>rfl
  | value f=>have:ρ' f=ρ f:=h f (by simp[Call.operands,hc]);simp only[this]
  | invoke r m=>rfl
 | pick c a b=>rw[ho]at h;simp only[Op.operands]at h;simp only[aY,ho];rw[h c (by simp),h a (by simp),h b (by simp)]
 | store t a b=>rw[ho]at h;simp only[Op.operands]at h;simp only[aY,ho];rw[h a (by simp),h b (by simp)]
 | binOp op t a b t2=>rw[ho]at h;simp only[Op.operands]at h;simp only[aY,ho];rw[h a (by simp),h b (by simp)]
 | makeSlice t a b=>rw[ho]at h;simp only[Op.operands]at h;simp only[aY,ho];rw[h a (by simp),h b (by simp)]
 | indexAddr t a b=>rw[ho]at h;simp only[Op.operands]at h;simp only[aY,ho];rw[h a (by simp),h b (by simp)]
 | index t a b=>rw[ho]at h;simp only[Op.operands]at h;simp only[aY,ho];rw[h a (by simp),h b (by simp)]
 | move x=>rw[ho]at h;simp only[Op.operands]at h;simp only[aY,ho];rw[h x (by simp)]
 | assign x=>rw[ho]at h;simp only[Op.operands]at h;simp only[aY,ho];rw[h x (by simp)]
 | box t x=>rw[ho]at h;simp only[Op.operands]at h;simp only[aY,ho];rw[h x (by simp)]
 | load t x=>rw[ho]at h;simp only[Op.operands]at h;simp only[aY,ho];rw[h x (by simp)]
 | nilCheck x=>rw[ho]at h;simp only[Op.operands]at h;simp only[aY,ho];rw[h x (by simp)]
 | unOp op t x=>rw[ho]at h;simp only[Op.operands]at h;simp only[aY,ho];rw[h x (by simp)]
 | convert s d x=>rw[ho]at h;simp only[Op.operands]at h;simp only[aY,ho];rw[h x (by simp)]
 | fieldAddr s x f=>rw[ho]at h;simp only[Op.operands]at h;simp only[aY,ho];rw[h x (by simp)]
 | field s x f=>rw[ho]at h;simp only[Op.operands]at h;simp only[aY,ho];rw[h x (by simp)]
 | extract x i=>rw[ho]at h;simp only[Op.operands]at h;simp only[aY,ho];rw[h x (by simp)]
 | _=>simp only[aY,ho]
theorem abQ{ρ ρ':Operand->AV}(o:Oper)(h:∀x∈o.op.operands,ρ' x=ρ x):dM C ρ' o=dM C ρ o:=by
 have hall:o.op.operands.toList.map ρ'=o.op.operands.toList.map ρ:=qT fun x hx=>h x (by simpa using hx);unfold dM;rw[hall];cases ho:o.op with
 | build t ps=>
  rw[ho]at h;have:Sa ρ' ps.toList=Sa ρ ps.toList:=by
   unfold Sa;have key:∀l:List (Nat×Operand),(∀p∈l,ρ' p.2=ρ p.2)->(l.all fun p=>(ρ' p.2).isVal)=l.all fun p=>(ρ p.2).isVal:=by
    intro l
    induction l with
    | nil=>intro _;rfl
    | cons a l ih=>intro hl;simp only[gK];rw[hl a bO,ih fun p hp=>hl p (cD _ hp)]
   exact key _ fun p hp=>h p.2 (by
   simp only[Op.operands,List.mem_toArray];exact eE.2 ⟨p,hp,rfl⟩)
  simp only[this]
 | assign x=>rw[ho]at h;simp only[Op.operands]at h;simp only[h x (by simp)]
 | call c=>
  rw[ho]at h;simp only[Op.operands]at h;have ha:c.args.toList.map ρ'=c.args.toList.map ρ:=qT fun x hx=>h x (by simp only[Call.operands,D8];right;simpa using hx);simp only;rw[ha];cases hc:c.callee with
  | builtin b=>cases b<;>rfl
  | value f=>have:ρ' f=ρ f:=h f (by simp[Call.operands,hc]);simp only[this]
  | invoke r m=>rfl
 | _=>rfl
theorem aaK{ρ ρ':Operand->AV}(o:Oper)(h:∀x∈o.op.operands,ρ' x=ρ x):u7 C ρ' o=u7 C ρ o:=by
 unfold u7;cases ho:o.op with
 | call c=>
  rw[ho]at h;simp only[Op.operands]at h;have ha:c.args.toList.map ρ'=c.args.toList.map ρ:=qT fun x hx=>h x (by simp only[Call.operands,D8];right;simpa using hx);simp only;rw[ha];cases hc:c.callee with
  | builtin b=>cases b<;>rfl
  | value f=>have:ρ' f=ρ f:=h f (by simp[Call.operands,hc]);simp only[this]
  | invoke r m=>rfl
 | slice t x lo hi mx=>cases mx<;>rfl
 | _=>rfl
def gP(F:List Nat)(S S':aO):Prop:=∀r,r∈F->S'.root r=S.root r
theorem gP.sub{F G:List Nat}{S S':aO}(h:gP F S S')(hs:∀r∈G,r∈F):gP G S S':=fun r hr=>h r (hs r hr)
theorem BA{F:List Nat}{S S':aO}(h:gP F S S'){r:Nat}(hr:r∈F)(p:Path):S'.focus r p=S.focus r p:=by simp only[aO.focus,h r hr]
theorem KM{S S':aO}:∀(t:Ty)(a:AV),gP a.roots S S'->rd S' t a=rd S t a
 | t,.pair u v,h=>by
  cases t with
  | pair a b=>simp only[rd];rw[KM a u (h.sub fun r hr=>by simp[AV.roots,hr]),KM b v (h.sub fun r hr=>by simp[AV.roots,hr])]
  | _=>simp[rd]
 | t,.b5 r p s,h=>by
  cases t with
  | sl e=>simp only[rd];rw[BA h (by simp[AV.roots])]
  | _=>simp[rd]
 | t,.val t' x,h=>by cases t<;>simp only[rd]
 | t,.undef,h=>by cases t<;>simp[rd]
 | t,.skip,h=>by cases t<;>simp[rd]
 | t,.cF b,h=>by cases t<;>simp[rd]
 | t,.unit,h=>by cases t<;>simp[rd]
 | t,.fe,h=>by cases t<;>simp[rd]
 | t,.view _ _ _ _ _,h=>by cases t<;>simp[rd]
 | t,.addr _ _,h=>by cases t<;>simp[rd]
 | t,.b_ _ _,h=>by cases t<;>simp[rd]
 | t,.jn _,h=>by cases t<;>simp[rd]
 | t,.gz _ _,h=>by cases t<;>simp[rd]
 | t,.dZ _,h=>by cases t<;>simp[rd]
theorem S6{S S':aO}:∀(a:AV),gP a.roots S S'->lB S' a=lB S a
 | .pair (.addr r p) rest,h=>by
  simp only[lB];rw[BA h (by simp[AV.roots]),S6 rest (h.sub fun r hr=>by simp[AV.roots,hr])]
 | .pair (.b_ t x) rest,h=>by simp only[lB];rw[S6 rest (h.sub fun r hr=>by simp[AV.roots,hr])]
 | .pair (.val t x) rest,h=>by simp only[lB];rw[S6 rest (h.sub fun r hr=>by simp[AV.roots,hr])]
 | .unit,h=>rfl
 | .pair .undef _,h=>rfl
 | .pair .skip _,h=>rfl
 | .pair (.cF _) _,h=>rfl
 | .pair .unit _,h=>rfl
 | .pair .fe _,h=>rfl
 | .pair (.b5 _ _ _) _,h=>rfl
 | .pair (.view _ _ _ _ _) _,h=>rfl
 | .pair (.pair _ _) _,h=>rfl
 | .pair (.jn _) _,h=>rfl
 | .pair (.gz _ _) _,h=>rfl
 | .pair (.dZ _) _,h=>rfl
 | .undef,h=>rfl
 | .skip,h=>rfl
 | .cF _,h=>rfl
 | .fe,h=>rfl
 | .val _ _,h=>rfl
 | .b5 _ _ _,h=>rfl
 | .view _ _ _ _ _,h=>rfl
 | .addr _ _,h=>rfl
 | .b_ _ _,h=>rfl
 | .jn _,h=>rfl
 | .gz _ _,h=>rfl
 | .dZ _,h=>rfl
theorem Y2{a:AV}{l:List AV}(h:a∈l):∀r∈a.roots,r∈qk l:=by
 induction l with
 | nil=>simp at h
 | cons b l ih=>
  intro r hr;simp only[qk,bL];rcases bk.1 h with rfl | h
  .exact .inl hr
  .exact .inr (ih h r hr)
theorem qzc(l l2:List AV):∀r,r∈qk (l++l2)↔r∈qk l\/r∈qk l2:=by
 intro r
 induction l with
 | nil=>simp[qk]
 | cons a l ih=>simp only[fJ,qk,bL,ih,or_assoc]
theorem Uf:∀(a:AV),∀r∈qk (mG a),r∈a.roots
 | .pair a b,r,h=>by
  simp only[mG,qk,bL]at h;simp only[AV.roots,bL];exact h.imp id (Uf b r)
 | .undef,r,h=>by simp[mG,qk]at h
 | .skip,r,h=>by simp[mG,qk]at h
 | .cF _,r,h=>by simp[mG,qk]at h
 | .unit,r,h=>by simp[mG,qk]at h
 | .fe,r,h=>by simp[mG,qk]at h
 | .val _ _,r,h=>by simp[mG,qk]at h
 | .b5 _ _ _,r,h=>by simp[mG,qk]at h
 | .view _ _ _ _ _,r,h=>by simp[mG,qk]at h
 | .addr _ _,r,h=>by simp[mG,qk]at h
 | .b_ _ _,r,h=>by simp[mG,qk]at h
 | .jn _,r,h=>by simp[mG,qk]at h
 | .gz _ _,r,h=>by simp[mG,qk]at h
 | .dZ _,r,h=>by simp[mG,qk]at h
theorem zh{S S':aO}:∀(ks:List PK)(aF:List AV)(g:i5 ks)(o:cR ks),gP (qk aF) S S'->iR S' ks aF g o=iR S ks aF g o
 | [],[],_,_,_=>rfl
 | [],_::_,_,_,_=>rfl
 | k::ks,[],g,o,_=>by cases k<;>rfl
 | k::ks,a::aF,g,o,h=>by
  have h1:gP a.roots S S':=h.sub fun r hr=>by simp[qk,hr]
  have h2:gP (qk aF) S S':=h.sub fun r hr=>by simp[qk,hr]
  cases k with
  | val t=>simp only[iR];rw[KM t a h1,zh ks aF g o h2]
  | own t m=>simp only[iR];rw[zh ks aF g.2 o h2]
  | cA t m m'=>simp only[iR];rw[zh ks aF g o.2 h2]
  | cN t m m'=>simp only[iR];rw[zh ks aF g o.2 h2]
  | bZ t=>
   cases a with
   | b_ t' x=>simp only[iR];rw[zh ks aF g o h2]
   | addr q p=>simp only[iR];rw[BA h1 (by simp[AV.roots]),zh ks aF g o h2]
   | _=>rfl
  | fn=>
   cases a with
   | gz f c=>simp only[iR];rw[S6 c (h1.sub fun r hr=>by simpa [AV.roots] using hr),zh ks aF g o h2]
   | dZ c=>simp only[iR];rw[zh ks aF g o h2]
   | _=>rfl
theorem Of{S S':aO}:∀(ts:List Ty)(aF:List AV),gP (qk aF) S S'->yD S' ts aF=yD S ts aF
 | [],[],_=>rfl
 | [],_::_,_=>rfl
 | _::_,[],_=>rfl
 | t::ts,a::aF,h=>by
  simp only[yD];rw[KM t a (h.sub fun r hr=>by simp[qk,hr]),Of ts aF (h.sub fun r hr=>by simp[qk,hr])]
theorem Od{S S':aO}(a:AV)(h:gP a.roots S S'):yB S' a=yB S a:=by
 cases a with
 | b5 r p s=>simp only[yB];rw[BA h (by simp[AV.roots])]
 | val t x=>cases t<;>rfl
 | _=>rfl
end
end
end Go.V
namespace Go.V
noncomputable section
open Go
section
variable {C:Ctx} {D:Den C}
theorem aiM{S S':aO}(t:Ty)(a:AV)(h:gP a.roots S S'):uY S' t a=uY S t a:=by
 cases a with
 | addr r p=>simp only[uY];rw[BA h (by simp[AV.roots])]
 | _=>rfl
theorem afm{S S':aO}(t:Ty)(a:AV)(f:Nat)(h:gP a.roots S S'):Bz S' t a f=Bz S t a f:=by
 cases a with
 | addr r p=>simp only[Bz];rw[BA h (by simp[AV.roots])]
 | _=>rfl
theorem aiL{S S':aO}(t:Ty)(a i:AV)(h:gP a.roots S S'):xO S' t a i=xO S t a i:=by
 cases a with
 | b5 r p s=>simp only[xO];rw[BA h (by simp[AV.roots])]
 | val t x=>cases t<;>rfl
 | _=>rfl
def qj(T T':Tr (AV×aO))(S S':aO):Prop:=∀β v rt',T.dec β=some (v,rt')->rt'=S/\T'.dec β=some (v,S')
theorem qj.ret{v:AV}{S S':aO}:qj (.ret (v,S)) (.ret (v,S')) S S':=by intro β v' rt' h;simp only[Tr.dec,aI,a_]at h;exact⟨h.2.symm,by simp[Tr.dec,h.1]⟩
theorem qj.fail{T':Tr (AV×aO)}{S S':aO}:qj .fail T' S S':=by intro β v' rt' h;simp[Tr.dec]at h
theorem qj.br{c:Bool}{x y x' y':Tr (AV×aO)}{S S':aO}(h1:qj x x' S S')(h2:qj y y' S S'):qj (.br c x y) (.br c x' y') S S':=by
 intro β v rt' h;cases c
 .exact h2 β v rt' h
 .exact h1 β v rt' h
theorem qj.nil{n:Nat}{b:Bool}{f:Bool->AV}{S S':aO}:qj (.nil n b fun b=>.ret (f b,S)) (.nil n b fun b=>.ret (f b,S')) S S':=by intro β v rt' h;simp only[Tr.dec,aI,a_]at h⊢;exact⟨h.2.symm,h.1,trivial⟩
theorem qj.ofMap{α:Type}{x:Option α}{f:α->AV}{S S':aO}:qj (.of (x.map fun a=>(f a,S))) (.of (x.map fun a=>(f a,S'))) S S':=by
 cases x with
 | none=>exact qj.fail
 | some a=>exact qj.ret
theorem qj.call{α:Type}{x:Option α}{f f':α->Tr (AV×aO)}{S S':aO}(h:∀a,qj (f a) (f' a) S S'):qj (.call x f) (.call x f') S S':=by
 intro β v rt' hh;cases x with
 | none=>simp[Tr.dec]at hh
 | some a=>exact h a β v rt' hh
theorem RS{S S':aO}:∀(ks:List PK)(aF:List AV),ks.all PK.plain=true->fV S' ks aF=(fV S ks aF).map fun z=>(z.1,S')
 | [],[],_=>rfl
 | [],_::_,_=>rfl
 | k::ks,[],_=>by cases k<;>rfl
 | k::ks,a::aF,h=>by
  simp only[gK,bC]at h;cases k with
  | val t=>simp only[fV];exact RS ks aF h.2
  | bZ t=>simp only[fV];exact RS ks aF h.2
  | fn=>simp only[fV];exact RS ks aF h.2
  | _=>simp[PK.plain]at h
theorem RJ{S S':aO}:∀(ks:List PK)(aF:List AV),ks.all PK.plain=true->gw S' ks aF=(gw S ks aF).map fun z=>(z.1,S')
 | [],[],_=>rfl
 | [],_::_,_=>rfl
 | k::ks,[],_=>by cases k<;>rfl
 | k::ks,a::aF,h=>by
  simp only[gK,bC]at h;cases k with
  | val t=>simp only[gw];exact RJ ks aF h.2
  | bZ t=>simp only[gw];exact RJ ks aF h.2
  | fn=>simp only[gw];exact RJ ks aF h.2
  | _=>simp[PK.plain]at h
theorem aaq{S rt:aO}{ks:List PK}{aF:List AV}{g:i5 ks}(hp:ks.all PK.plain=true)(h:fV S ks aF=some (g,rt)):rt=S:=by have:=RS (S:=S) (S':=S) ks aF hp;rw[h]at this;simp only[dV,aI,a_,true_and]at this;exact this
theorem Z3{S rt:aO}{ks:List PK}{aF:List AV}{g:cR ks}(hp:ks.all PK.plain=true)(h:gw S ks aF=some (g,rt)):rt=S:=by have:=RJ (S:=S) (S':=S) ks aF hp;rw[h]at this;simp only[dV,aI,a_,true_and]at this;exact this
theorem QC{A A':bV}{S S':aO}(hl:S'.length=S.length){d:Option Nat}{site:Nat}{t:Ty}{m:Mk}{x:t.den}(hs:m.still=true):qj (dR A S d site t m x false) (dR A' S' d site t m x false) S S':=by
 cases d with
 | none=>exact qj.ret
 | some d=>
  simp only[dR,hs,aX,e7,dX,hl];split
  .exact qj.fail
  .exact qj.ret
theorem Og:∀(rs:List RK),rs.all (fun k=>!k.kj&&k.ms.still)=true->(pg rs).still=true
 | [],_=>rfl
 | k::rs,h=>by
  simp only[gK,bC]at h;simp only[pg,Mk.still,bC];exact⟨h.1.2,Og rs h.2⟩
theorem ZG{A A':bV}(hA:A'.sh=A.sh){S S':aO}(hl:S'.length=S.length){d:Option Nat}{site:Nat}:∀(rs:List RK)(r:fc rs),rs.all (fun k=>!k.kj&&k.ms.still)=true->qj (lP A S d site rs r) (lP A' S' d site rs r) S S'
 | [],r,_=>qj.ret
 | [.val t m],r,h=>by
  simp only[gK,bC]at h;simp only[lP,hA];split
  .split
   .exact qj.ret
   .exact qj.fail
  .split
   .exact QC hl h.1.2
   .exact qj.fail
 | [.ptr t m],r,h=>by simp[RK.kj]at h
 | q1::q2::rs,r,h=>by
  have e1:∀(A:bV)(S:aO),lP A S d site (q1::q2::rs) r=BN A S d site (q1::q2::rs) r:=by intro A S;cases q1<;>rfl
  rw[e1,e1];unfold BN;split
  .cases d with
   | none=>exact qj.ret
   | some d=>
    have hs:=Og _ h;have e2:∀(A:bV)(S:aO),dR A S (some d) site (iZ (q1::q2::rs)) (pg (q1::q2::rs)) (jO (q1::q2::rs) r) false =
      if (!Nat.blt d S.length||!Nat.blt site 1048576)=true then .fail else .ret (.val (iZ (q1::q2::rs)) (jO (q1::q2::rs) r),S):=by
     intro A S;simp only[dR,hs,aX,e7,dX]
    simp only[e2,hl];by_cases hc:(!Nat.blt d S.length||!Nat.blt site 1048576)=true
    .simp only[aj hc];exact qj.fail
    .simp only[af hc];exact qj.ret
  .exact qj.fail
theorem aaA{A A':bV}(hA:A'.sh=A.sh){S S':aO}(hl:S'.length=S.length){d:Option Nat}{site:Nat}{g:FuncId}{aF:List AV}(hq:FY (C.sig g)=true)(hr:gP (qk aF) S S') :
  qj (ru C D A S d site g aF) (ru C D A' S' d site g aF) S S':=by
 unfold FY at hq;simp only[bC]at hq;unfold ru;rw[RS (S:=S) (S':=S') _ _ hq.1];cases h1:fV S (C.sig g).params aF with
 | none=>exact qj.fail
 | some z=>
  obtain⟨gd,S1⟩:=z;obtain rfl:=aaq hq.1 h1;simp only[dV];rw[RJ (S:=S1) (S':=S') _ _ hq.1];cases h2:gw S1 (C.sig g).params aF with
  | none=>exact qj.fail
  | some z=>
   obtain⟨od,S2⟩:=z;obtain rfl:=Z3 hq.1 h2;simp only[dV];rw[zh _ _ _ _ hr];cases h3:iR S2 (C.sig g).params aF gd od with
   | none=>exact qj.fail
   | some aa=>
    simp only;split
    .refine qj.call fun r=>?_;have hn:(C.sig g).params.all (fun k=>!k.eA)=true:=by rw[qC]at hq⊢;intro k hk;have:=hq.1 k hk;cases k<;>simp_all [PK.plain,PK.eA]
     simp only[hn,aX];exact ZG hA hl _ _ hq.2
    .exact qj.fail
theorem Ty.j8:∀(t:Ty),t.flat=true->(Mk.top t).still=true/\(Mk.sD t).still=true
 | .sl _,h=>by simp[Ty.flat]at h
 | .pair a b,h=>by
  simp only[Ty.flat,bC]at h;have ha:=Ty.j8 a h.1;have hb:=Ty.j8 b h.2;cases a<;>simp_all [Mk.top,Mk.sD,Mk.still,Ty.flat]
 | .unit,_=>⟨rfl,rfl⟩
 | .int _,_=>⟨rfl,rfl⟩
 | .bool,_=>⟨rfl,rfl⟩
 | .str,_=>⟨rfl,rfl⟩
theorem aau{t:Ty}(h:t.flat=true)(hint:Bool):(Mk.zx hint t).still=true:=by
 unfold Mk.zx;cases hint
 .exact(Ty.j8 t h).1
 .exact(Ty.j8 t h).2
theorem FK:∀(t:Ty)(m:Mk)(x:t.den)(p:Path)(t2:Ty)(y:t2.den)(m':Mk)(x':t.den),m.still=true->put t m x p t2 .no y=some (m',x')->m'.still=true
 | t,m,x,[],t2,y,m',x',_,h=>by
  unfold put at h;simp only[cJ,aI,a_]at h;obtain⟨_,_,rfl,_⟩:=h;rfl
 | .pair a b,m,x,.fst::p,t2,y,m',x',hm,h=>by
  simp only[put,cJ,aI,a_]at h;obtain⟨⟨r1,r2⟩,h1,rfl,_⟩:=h;have hf:m.fst.still=true/\m.snd.still=true:=by cases m<;>simp_all [Mk.fst,Mk.snd,Mk.still]
  have:=FK a m.fst x.1 p t2 y _ _ hf.1 h1;simp only[Mk.still,bC];exact⟨this,hf.2⟩
 | .pair a b,m,x,.snd::p,t2,y,m',x',hm,h=>by
  simp only[put,cJ,aI,a_]at h;obtain⟨⟨r1,r2⟩,h1,rfl,_⟩:=h;have hf:m.fst.still=true/\m.snd.still=true:=by cases m<;>simp_all [Mk.fst,Mk.snd,Mk.still]
  have:=FK b m.snd x.2 p t2 y _ _ hf.2 h1;simp only[Mk.still,bC];exact⟨hf.1,this⟩
 | .sl t,m,xs,.idx i s::p,t2,y,m',x',hm,h=>by
  cases m<;>simp_all [put,Mk.still]
 | .sl t,m,xs,.fst::p,t2,y,m',x',hm,h=>by simp[put]at h
 | .sl t,m,xs,.snd::p,t2,y,m',x',hm,h=>by simp[put]at h
 | .pair a b,m,xs,.idx i s::p,t2,y,m',x',hm,h=>by simp[put]at h
 | .unit,m,xs,_::p,t2,y,m',x',hm,h=>by simp[put]at h
 | .int _,m,xs,_::p,t2,y,m',x',hm,h=>by simp[put]at h
 | .bool,m,xs,_::p,t2,y,m',x',hm,h=>by simp[put]at h
 | .str,m,xs,_::p,t2,y,m',x',hm,h=>by simp[put]at h
theorem ajL(t:Ty){v:AV}(h:v.isVal=true):∃r:Option t.den,∀S:aO,tk S t v=r.map fun x=>(Mk.no,x,S):=by
 cases v with
 | val t' x=>refine⟨qbv t' t x,fun S=>?_⟩;unfold tk;cases qbv t' t x<;>rfl
 | cF b=>
  cases t with
  | bool=>exact⟨some b,fun S=>rfl⟩
  | _=>exact⟨none,fun S=>rfl⟩
 | _=>simp[AV.isVal]at h
theorem PD(t:Ty):∀(l:List (Nat×AV))(acc:Mk×t.den),acc.1.still=true->l.all (fun p=>p.2.isVal)=true->
  ∃r:Option (Mk×t.den),(∀S:aO,ow S t acc l=r.map fun z=>(z.1,z.2,S))/\∀z,r=some z->z.1.still=true
 | [],acc,ha,_=>⟨some acc,fun S=>rfl,fun z hz=>by cases hz;exact ha⟩
 | (i,v)::l,acc,ha,h=>by
  simp only[gK,bC]at h;cases hf:focus t acc.1 acc.2 (g6 i) with
  | none=>exact⟨none,fun S=>by simp only[ow,hf];rfl,fun z hz=>by cases hz⟩
  | some d=>
   obtain⟨r,hr⟩:=ajL d.ty h.1;cases r with
   | none=>exact⟨none,fun S=>by simp only[ow,hf,dn,hr];rfl,fun z hz=>by cases hz⟩
   | some x=>
    cases hp:put t acc.1 acc.2 (g6 i) d.ty .no x with
    | none=>exact⟨none,fun S=>by simp only[ow,hf,dn,hr,dV,hp];rfl,fun z hz=>by cases hz⟩
    | some q=>obtain⟨q1,q2⟩:=q;obtain⟨r2,h1,h2⟩:=PD t l (q1,q2) (FK _ _ _ _ _ _ _ _ ha hp) h.2;exact⟨r2,fun S=>by simp only[ow,hf,dn,hr,dV,hp];exact h1 S,h2⟩
theorem aaZ{A A':bV}{ρ:Operand->AV}{S S':aO}{site:Nat}{hint:Bool}{o:Oper}(hl:S'.length=S.length)(hw:dM C ρ o=none)
    (hr:gP (if rq o then [] else qk (o.op.operands.toList.map ρ)) S S'):qj (aY C D A ρ S site hint o) (aY C D A' ρ S' site hint o) S S':=by
  have ha:∀{x:Operand},rq o=false->x∈o.op.operands->gP (ρ x).roots S S':=by intro x hb hx;rw[hb]at hr;exact hr.sub fun r h=>Y2 (eE.2 ⟨x,by simpa using hx,rfl⟩) r h
  cases ho:o.op with
  | move x=>simp only[aY,ho];exact qj.ret
  | pick c a b=>
    simp only[aY,ho];split
    . exact qj.br qj.ret qj.ret
    . exact qj.fail
  | unOp op t x=>
    simp only[aY,ho];split
    . exact qj.ret
    . exact qj.ret
    . exact qj.fail
  | field t x f=>
    simp only[aY,ho];split
    . split
      . split
        . exact qj.ret
        . exact qj.fail
      . exact qj.fail
    . exact qj.fail
  | extract x i=>simp only[aY,ho];exact qj.ofMap (f:=fun v=>v)
  | makeFunc f first caps=>
    cases f with
    | func f=>
      simp only[aY,ho];split
      . exact qj.ret
      . exact qj.fail
    | _=>simp only[aY,ho];exact qj.fail
  | load t x=>
    have:=ha (x:=x) (by unfold rq;rw[ho]) (by rw[ho];simp[Op.operands]);simp only[aY,ho];rw[aiM _ _ this];split
    . exact qj.ofMap (f:=fun v=>v)
    . exact qj.fail
  | nilCheck x=>
    have:=ha (x:=x) (by unfold rq;rw[ho]) (by rw[ho];simp[Op.operands]);simp only[aY,ho];cases hv:ρ x with
    | addr r p=>
      rw[hv]at this;simp only;rw[BA this (by simp[AV.roots])];cases S.focus r p with
      | none=>exact qj.fail
      | some d=>exact qj.ret
    | b_ t y=>exact qj.ret
    | gz f c=>exact qj.ret
    | _=>exact qj.fail
  | fieldAddr s x f=>have:=ha (x:=x) (by unfold rq;rw[ho]) (by rw[ho];simp[Op.operands]);simp only[aY,ho];rw[afm _ _ _ this];exact qj.ofMap (f:=fun v=>v)
  | indexAddr t x i=>
    have:=ha (x:=x) (by unfold rq;rw[ho]) (by rw[ho];simp[Op.operands]);simp only[aY,ho];rw[aiL _ _ _ this];split
    . exact qj.br qj.ret qj.fail
    . exact qj.fail
  | index t x i=>
    simp only[aY,ho];split
    . exact qj.br qj.ret qj.fail
    . exact qj.fail
  | convert s d x=>
    have:=ha (x:=x) (by unfold rq;rw[ho]) (by rw[ho];simp[Op.operands]);simp only[aY,ho];split
    . exact qj.ret
    . exact qj.ret
    . rw[KM _ _ this]
      split
      . exact qj.ret
      . exact qj.fail
    . exact qj.fail
  | binOp op t x y t2=>
    have:=ha (x:=x) (by unfold rq;rw[ho]) (by rw[ho];simp[Op.operands]);simp only[aY,ho];rw[Od _ this];split
    . split
      . exact qj.nil (f:=fun b=>.val .bool b)
      . exact qj.nil (f:=fun b=>.val .bool b)
      . exact qj.fail
    . split
      . exact qj.ret
      . exact qj.br qj.ret qj.fail
      . exact qj.br qj.fail qj.ret
      . exact qj.fail
  | assign x=>
    simp only[dM,ho]at hw;simp only[aY,ho];cases hv:ρ x with
    | b5 r p s=>rw[hv]at hw;simp at hw
    | pair a b=>rw[hv]at hw;simp at hw
    | _=>exact qj.ret
  | build t parts=>
    simp only[dM,ho]at hw;split at hw
    . rename_i hc
      simp only[bC]at hc;simp only[aY,ho];split
      . obtain⟨r,h1,h2⟩:=PD (C.ty t) (parts.toList.map fun p=>(p.1,ρ p.2)) (Mk.zx hint (C.ty t),(C.ty t).zero) (aau hc.1 hint) (by
          have:=hc.2;unfold Sa at this;simpa [List.all_map] using this)
        rw[h1 S,h1 S'];cases r with
        | none=>exact qj.fail
        | some z=>exact QC hl (h2 z rfl)
      . exact qj.fail
    . simp at hw
  | call c=>
    have hb:rq o=false:=by unfold rq;rw[ho]
    cases hc:c.callee with
    | builtin b=>
      cases b with
      | len=>
        simp only[aY,ho,hc];split
        . exact qj.ret
        . rename_i x _ _ _ hargs _
          obtain⟨u,vv,Cr⟩:∃u,u∈c.args.toList/\ρ u=x:=by
            have:x∈c.args.toList.map ρ:=by rw[hargs];simp
            simpa using this
          have:=ha (x:=u) hb (by rw[ho];simp only[Op.operands,Call.operands,D8];right;simpa using vv);rw[Cr]at this;rw[Od _ this];exact qj.ofMap (f:=fun n=>.val (.int .i64) n)
        all_goals first | (exfalso;contradiction) | exact qj.fail
      | min=>
        simp only[aY,ho,hc];split
        all_goals first
          | (exfalso;contradiction)
          | exact qj.fail
          | (split
             . split
               . exact qj.ret
               . exact qj.fail
             . exact qj.fail)
      | max=>
        simp only[aY,ho,hc];split
        all_goals first
          | (exfalso;contradiction)
          | exact qj.fail
          | (split
             . split
               . exact qj.ret
               . exact qj.fail
             . exact qj.fail)
      | _=>simp[dM,ho,hc]at hw
    | value f=>
      have hf:=ha (x:=f) hb (by rw[ho];simp[Op.operands,Call.operands,hc]);have hargs:gP (qk (c.args.toList.map ρ)) S S':=by
        intro r hr';have key:∀(l:List Operand),(∀x∈l,gP (ρ x).roots S S')->r∈qk (l.map ρ)->S'.root r=S.root r:=by
          intro l
          induction l with
          | nil=>intro _ h;simp[qk]at h
          | cons x l ih=>
            intro hx h;simp only[cm,qk,bL]at h;rcases h with h | h
            . exact hx x bO r h
            . exact ih (fun y hy=>hx y (cD _ hy)) h
        exact key c.args.toList (fun x hx=>ha hb (by rw[ho];simp only[Op.operands,Call.operands,D8];right;simpa using hx)) hr'
      simp only[aY,ho,hc];simp only[dM,ho,hc]at hw;cases hv:ρ f with
      | gz g caps=>
        rw[hv]at hw hf;simp only at hw⊢;split at hw
        . simp at hw
        rename_i yV;simp only[p_,af yV];split at hw
        . rename_i hq
          refine aaA (A:={ A with sh:=hint }) (A':={ A' with sh:=hint }) rfl hl hq ?_;intro r hr';rcases(qzc _ _ r).1 hr' with h | h
          . exact hargs r h
          . exact hf r (by simp only[AV.roots];exact Uf _ r h)
        . simp at hw
      | dZ cl=>
        simp only;rw[Of _ _ hargs];split
        . split
          . exact qj.call fun x=>qj.ret
          . exact qj.fail
        . exact qj.fail
      | _=>exact qj.fail
    | invoke r m=>simp only[aY,ho,hc];exact qj.fail
  | _=>simp[dM,ho]at hw
end
end
structure fE (W:List Nat) (S S':aO):Prop where
 len:S'.length=S.length
 root:∀r,r∉W->S'.root r=S.root r
theorem fE.refl(W:List Nat)(S:aO):fE W S S:=⟨rfl,fun _ _=>rfl⟩
theorem fE.trans{W:List Nat}{a b c:aO}(h:fE W a b)(k:fE W b c):fE W a c:=⟨k.len.trans h.len,fun r hr=>(k.root r hr).trans (h.root r hr)⟩
theorem fE.mono{W W':List Nat}{a b:aO}(h:fE W a b)(hs:∀r∈W,r∈W'):fE W' a b:=⟨h.len,fun r hr=>h.root r fun hh=>hr (hs r hh)⟩
theorem fE.set(S:aO)(q:Nat)(x:Option aB):fE [q] S (S.aD q x):=by refine⟨by simp[aO.bU],fun r hr=>?_⟩;simp only[er]at hr;simp only[aO.g8,aO.bU,List.getD,jv];rw[af (fun h=>hr h.symm)]
theorem uX:∀(t:Ty)(a:AV){S S':aO}{m:Mk}{x:t.den},tk S t a=some (m,x,S')->fE a.roots S S'
 | t,.val t' y,S,S',m,x,h=>by
  have:(qbv t' t y).bind (fun x=>some (Mk.no,x,S))=some (m,x,S'):=by cases t<;>simpa only [tk] using h
  simp only[cJ,aI,a_]at this;obtain⟨_,_,_,_,rfl⟩:=this;exact fE.refl _ _
 | t,.cF b,S,S',m,x,h=>by
  cases t<;>simp[tk]at h;obtain⟨_,_,rfl⟩:=h;exact fE.refl _ _
 | t,.unit,S,S',m,x,h=>by
  cases t<;>simp[tk]at h;obtain⟨_,rfl⟩:=h;exact fE.refl _ _
 | t,.fe,S,S',m,x,h=>by
  cases t<;>simp[tk]at h;obtain⟨_,_,rfl⟩:=h;exact fE.refl _ _
 | t,.b5 r p s,S,S',m,x,h=>by
  cases t with
  | sl e=>
   simp only[tk]at h;split at h
   .split at h
    .split at h
     .simp only[cJ,aI,a_]at h;obtain⟨_,_,_,_,_,_,rfl⟩:=h;exact fE.set _ _ _
     .simp at h
    .simp at h
   .simp at h
  | _=>simp[tk]at h
 | t,.pair u v,S,S',m,x,h=>by
  cases t with
  | pair a b=>simp only[tk,cJ,aI,a_]at h;obtain⟨⟨m1,x1,S1⟩,h1,⟨m2,x2,S2⟩,h2,_,_,rfl⟩:=h;exact((uX a u h1).mono fun r hr=>by simp[AV.roots,hr]).trans ((uX b v h2).mono fun r hr=>by simp[AV.roots,hr])
  | _=>simp[tk]at h
 | t,.undef,S,S',m,x,h=>by cases t<;>simp[tk]at h
 | t,.skip,S,S',m,x,h=>by cases t<;>simp[tk]at h
 | t,.view _ _ _ _ _,S,S',m,x,h=>by cases t<;>simp[tk]at h
 | t,.addr _ _,S,S',m,x,h=>by cases t<;>simp[tk]at h
 | t,.b_ _ _,S,S',m,x,h=>by cases t<;>simp[tk]at h
 | t,.jn _,S,S',m,x,h=>by cases t<;>simp[tk]at h
 | t,.gz _ _,S,S',m,x,h=>by cases t<;>simp[tk]at h
 | t,.dZ _,S,S',m,x,h=>by cases t<;>simp[tk]at h
theorem ajh(t:Ty)(a:AV){S S':aO}{hint:Bool}{m:Mk}{x:t.den}(h:Si S hint t a=some (m,x,S')):fE a.roots S S':=by
 simp only[Si,cJ]at h;obtain⟨⟨m1,x1,S1⟩,h1,h⟩:=h;split at h
 .split at h
  .simp only[aI,a_]at h;obtain⟨rfl,rfl,rfl⟩:=h;exact uX t a h1
  .simp at h
 .simp only[aI,a_]at h;obtain⟨rfl,rfl,rfl⟩:=h;exact uX t a h1
theorem vL{A:bV}{S S':aO}{d:Option Nat}{site:Nat}{t:Ty}{m:Mk}{x:t.den}{mem:Bool}{β:Bool}{v:AV}(h:(dR A S d site t m x mem).dec β=some (v,S')):fE d.toList S S':=by
 cases d with
 | none=>simp only[dR,Tr.dec,aI,a_]at h;rw[<-h.2];exact fE.refl _ _
 | some d=>
  simp only[dR]at h;split at h
  .simp[Tr.dec]at h
  .split at h
   .split at h
    .simp only[Tr.dec,aI,a_]at h;rw[<-h.2];exact fE.set _ _ _
    .simp[Tr.dec]at h
   .split at h
    .simp only[Tr.dec,aI,a_]at h;rw[<-h.2];exact fE.refl _ _
    .split at h
     .simp only[Tr.dec,aI,a_]at h;rw[<-h.2];exact fE.set _ _ _
     .simp[Tr.dec]at h
theorem Ph{T:Ty}:∀(l:List (Nat×AV))(acc:Mk×T.den){S S':aO}{m:Mk}{x:T.den},ow S T acc l=some (m,x,S')->fE (qk (l.map (·.2))) S S'
 | [],acc,S,S',m,x,h=>by
  simp only[ow,aI,a_]at h;obtain⟨_,_,rfl⟩:=h;exact fE.refl _ _
 | (i,v)::l,acc,S,S',m,x,h=>by
  simp only[ow,cJ]at h;obtain⟨d,_,⟨m1,x1,S1⟩,h1,r,_,h2⟩:=h;exact((uX _ v h1).mono fun r hr=>by simp[qk,hr]).trans ((Ph l _ h2).mono fun r hr=>by simp[qk,hr])
theorem Lc{e:Ty}:∀(l:List (Nat×AV))(acc:Mk×List e.den){S S':aO}{m:Mk}{x:List e.den},tC S e acc l=some (m,x,S')->fE (qk (l.map (·.2))) S S'
 | [],acc,S,S',m,x,h=>by
  simp only[tC,aI,a_]at h;obtain⟨_,_,rfl⟩:=h;exact fE.refl _ _
 | (i,v)::l,acc,S,S',m,x,h=>by
  simp only[tC]at h;split at h
  .simp only[cJ]at h;obtain⟨⟨m1,x1,S1⟩,h1,h2⟩:=h;exact((uX _ v h1).mono fun r hr=>by simp[qk,hr]).trans ((Lc l _ h2).mono fun r hr=>by simp[qk,hr])
  .simp at h
theorem D5:∀(ks:List PK)(aF:List AV){S S':aO}{g:i5 ks},fV S ks aF=some (g,S')->fE (lO ks aF) S S'
 | [],[],S,S',g,h=>by
  simp only[fV,aI,a_]at h;rw[h.2];exact fE.refl _ _
 | [],_::_,S,S',g,h=>by simp[fV]at h
 | k::ks,[],S,S',g,h=>by cases k<;>simp[fV]at h
 | k::ks,a::aF,S,S',g,h=>by
  have hsub:∀r∈lO ks aF,r∈lO (k::ks) (a::aF):=by intro r hr;simp only[lO];split<;>simp[hr]
  cases k with
  | own t m=>
   simp only[fV,cJ]at h;obtain⟨⟨m1,x1,S1⟩,h1,h⟩:=h;split at h
   .simp only[cJ,aI,a_]at h;obtain⟨⟨g2,S2⟩,h2,_,rfl⟩:=h;exact((uX _ a h1).mono fun r hr=>by simp[lO,PK.plain,hr]).trans ((D5 ks aF h2).mono hsub)
   .simp at h
  | val t=>exact(D5 ks aF (by simpa only [fV] using h)).mono hsub
  | cA t m m'=>exact(D5 ks aF (by simpa only [fV] using h)).mono hsub
  | cN t m m'=>exact(D5 ks aF (by simpa only [fV] using h)).mono hsub
  | bZ t=>exact(D5 ks aF (by simpa only [fV] using h)).mono hsub
  | fn=>exact(D5 ks aF (by simpa only [fV] using h)).mono hsub
theorem EL:∀(a:AV){r:Nat}{p:Path},jZ a=some (r,p)->r∈a.roots
 | .b5 r' p' s,r,p,h=>by simp only[jZ,aI,a_]at h;simp[AV.roots,h.1]
 | .pair a b,r,p,h=>by
  simp only[jZ]at h;simp only[AV.roots,bL];split at h
  .rename_i r1 p1 h1;simp only[aI,a_]at h;obtain⟨rfl,_⟩:=h;exact .inl (EL a h1)
  .split at h
   .rename_i r1 p1 h1;simp only[aI,a_]at h;obtain⟨rfl,_⟩:=h;exact .inr (EL b h1)
   .simp at h
 | .undef,_,_,h=>by simp[jZ]at h
 | .skip,_,_,h=>by simp[jZ]at h
 | .cF _,_,_,h=>by simp[jZ]at h
 | .unit,_,_,h=>by simp[jZ]at h
 | .fe,_,_,h=>by simp[jZ]at h
 | .val _ _,_,_,h=>by simp[jZ]at h
 | .view _ _ _ _ _,_,_,h=>by simp[jZ]at h
 | .addr _ _,_,_,h=>by simp[jZ]at h
 | .b_ _ _,_,_,h=>by simp[jZ]at h
 | .jn _,_,_,h=>by simp[jZ]at h
 | .gz _ _,_,_,h=>by simp[jZ]at h
 | .dZ _,_,_,h=>by simp[jZ]at h
theorem aaQ{S S':aO}{site:Nat}{t:Ty}{a:AV}{m:Mk}{o:t.den}(h:xN S site t a m o=some S'):fE a.roots S S':=by
 unfold xN at h;split at h
 .simp only[aI]at h;rw[h];exact fE.refl _ _
 .rename_i r p hp;split at h
  .simp only[cJ]at h;obtain⟨d,_,h⟩:=h;split at h
   .simp only[cJ]at h;obtain⟨y,_,h⟩:=h;split at h
    .simp at h
    .simp only[cJ,aI]at h;obtain⟨_,_,rfl⟩:=h;exact(fE.set _ _ _).mono fun r' hr=>by simp only[er]at hr;subst hr;exact EL a hp
   .simp at h
  .simp at h
theorem D4{site:Nat}:∀(ks:List PK)(aF:List AV)(o:cR ks){S S':aO},f9 S site ks aF o=some S'->fE (lO ks aF) S S'
 | [],[],o,S,S',h=>by
  simp only[f9,aI]at h;rw[h];exact fE.refl _ _
 | [],_::_,o,S,S',h=>by simp[f9]at h
 | k::ks,[],o,S,S',h=>by cases k<;>simp[f9]at h
 | k::ks,a::aF,o,S,S',h=>by
  have hsub:∀r∈lO ks aF,r∈lO (k::ks) (a::aF):=by intro r hr;simp only[lO];split<;>simp[hr]
  cases k with
  | cA t m m'=>
   cases a with
   | addr q p=>
    cases p with
    | nil=>
     simp only[f9]at h;split at h
     .exact((fE.set _ _ _).mono fun r hr=>by simp only[er]at hr;subst hr;simp[lO,PK.plain,AV.roots]).trans ((D4 ks aF o.2 h).mono hsub)
     .simp at h
    | cons _ _=>simp[f9]at h
   | _=>simp[f9]at h
  | cN t m m'=>simp only[f9,cJ]at h;obtain⟨S1,h1,h2⟩:=h;exact((aaQ h1).mono fun r hr=>by simp[lO,PK.plain,hr]).trans ((D4 ks aF o.2 h2).mono hsub)
  | val t=>exact(D4 ks aF o (by simpa only [f9] using h)).mono hsub
  | own t m=>exact(D4 ks aF o (by simpa only [f9] using h)).mono hsub
  | bZ t=>exact(D4 ks aF o (by simpa only [f9] using h)).mono hsub
  | fn=>exact(D4 ks aF o (by simpa only [f9] using h)).mono hsub
theorem K_{A:bV}{S S':aO}{d:Option Nat}{site:Nat}:∀(rs:List RK)(r:fc rs){β:Bool}{v:AV},(lP A S d site rs r).dec β=some (v,S')->fE d.toList S S'
 | [],r,β,v,h=>by
  simp only[lP,Tr.dec,aI,a_]at h;rw[<-h.2];exact fE.refl _ _
 | [.val t m],r,β,v,h=>by
  simp only[lP]at h;split at h
  .split at h
   .simp only[Tr.dec,aI,a_]at h;rw[<-h.2];exact fE.refl _ _
   .simp[Tr.dec]at h
  .split at h
   .exact vL h
   .simp[Tr.dec]at h
 | [.ptr t m],r,β,v,h=>by
  simp only[lP]at h;split at h
  .exact vL h
  .simp[Tr.dec]at h
 | q1::q2::rs,r,β,v,h=>by
  have h':(BN A S d site (q1::q2::rs) r).dec β=some (v,S'):=by cases q1<;>simpa only [lP] using h
  unfold BN at h';split at h'
  .cases d with
   | none=>simp only[Tr.dec,aI,a_]at h';rw[<-h'.2];exact fE.refl _ _
   | some d=>
    simp only at h';cases hl:dR A S (some d) site (iZ (q1::q2::rs)) (pg (q1::q2::rs)) (jO (q1::q2::rs) r) false with
    | ret z=>obtain⟨v1,S1⟩:=z;rw[hl]at h';simp only[Tr.dec,aI,a_]at h';rw[<-h'.2];exact vL (β:=true) (by rw[hl];rfl)
    | _=>rw[hl]at h';simp[Tr.dec]at h'
  .simp[Tr.dec]at h'
section
variable {C:Ctx} {D:Den C}
theorem FW{A:bV}{S S':aO}{d:Option Nat}{site:Nat}{g:FuncId}{aF:List AV}{β:Bool}{v:AV}(h:(ru C D A S d site g aF).dec β=some (v,S')):fE (d.toList++lO (C.sig g).params aF) S S':=by
 unfold ru at h;split at h
 .simp[Tr.dec]at h
 .rename_i gd S1 h1;split at h
  .simp[Tr.dec]at h
  .rename_i od S2 h2;split at h
   .simp[Tr.dec]at h
   .split at h
    .simp only[Tr.dec,cJ]at h;obtain⟨r,_,h⟩:=h;have f1:fE (d.toList++lO (C.sig g).params aF) S S1:=(D5 _ _ h1).mono fun r hr=>by simp[hr]
     split at h
     .exact f1.trans ((K_ _ _ h).mono fun r hr=>by simp[hr])
     .split at h
      .cases hlo:vM (C.sig g).params aF with
       | false=>rw[hlo]at h;simp[Tr.dec]at h
       | true=>
       rw[hlo]at h;simp only[Tr.dec]at h;split at h
       .simp[Tr.dec]at h
       .rename_i S3 h3;exact f1.trans (((D4 _ _ _ h3).mono fun r hr=>by simp[hr]).trans ((K_ _ _ h).mono fun r hr=>by simp[hr]))
      .simp[Tr.dec]at h
    .simp[Tr.dec]at h
theorem S5:∀(ks:List PK)(aF:List AV),∀r∈lO ks aF,r∈qk aF
 | [],_,r,h=>by simp[lO]at h
 | k::ks,[],r,h=>by simp[lO]at h
 | k::ks,a::aF,r,h=>by
  simp only[lO]at h;simp only[qk,bL];split at h
  .exact .inr (S5 ks aF r h)
  .rcases bL.1 h with h | h
   .exact .inl h
   .exact .inr (S5 ks aF r h)
theorem Yr:∀(ks:List PK)(aF:List AV){S:aO}{z:List AV×aO},kE S ks aF=some z->fE (qk aF) S z.2/\lO ks z.1=lO ks aF
 | [],[],S,z,h=>by
  simp only[kE,aI]at h;subst h;exact⟨fE.refl _ _,rfl⟩
 | [],_::_,S,z,h=>by simp[kE]at h
 | k::ks,[],S,z,h=>by cases k<;>simp[kE]at h
 | k::ks,a::aF,S,z,h=>by
  have plain:(kE S ks aF).map (fun z=>(a::z.1,z.2))=some z->fE (qk (a::aF)) S z.2/\lO (k::ks) z.1=lO (k::ks) (a::aF):=by intro h;simp only[fj]at h;obtain⟨z',h1,rfl⟩:=h;obtain⟨f,e⟩:=Yr ks aF h1;exact⟨f.mono fun r hr=>by simp[qk,hr],by simp only[lO,e]⟩
  cases k with
  | val t=>
   simp only[kE]at h;split at h
   .exact plain h
   .split at h
    .rename_i m y S1 rU;split at h
     .simp only[fj]at h;obtain⟨z',h1,rfl⟩:=h;obtain⟨f,e⟩:=Yr ks aF h1;exact⟨((uX _ _ rU).mono fun r hr=>by simp[qk,hr]).trans (f.mono fun r hr=>by simp[qk,hr]),by simp only[lO,PK.plain,aX,e]⟩
     .simp at h
    .simp at h
  | _=>exact plain (by simpa only [kE] using h)
theorem aaB{A:bV}{S S':aO}{d:Option Nat}{site:Nat}{g:FuncId}{aF:List AV}{β:Bool}{v:AV}(h:(p_ C D A S d site g aF).dec β=some (v,S')):fE (d.toList++qk aF) S S':=by
 unfold p_ at h;split at h
 .split at h
  .rename_i z hz;obtain⟨f,e⟩:=Yr _ _ hz;have f2:=FW h;rw[e]at f2;exact(f.mono fun r hr=>by simp[hr]).trans (f2.mono fun r hr=>by
    rcases bL.1 hr with hr | hr
    .simp[hr]
    .exact bL.2 (.inr (S5 _ _ r hr)))
  .simp[Tr.dec]at h
 .exact(FW h).mono fun r hr=>by
   rcases bL.1 hr with hr | hr
   .simp[hr]
   .exact bL.2 (.inr (S5 _ _ r hr))
theorem PN{A:bV}{S S':aO}{d:Option Nat}{site:Nat}{hint:Bool}{u:AV}{β:Bool}{v:AV}(h:(Ec A S d site hint u).dec β=some (v,S')):fE (d.toList++u.roots) S S':=by
 unfold Ec at h;split at h
 .split at h
  .rename_i m y S1 h1;have f1:fE (d.toList++u.roots) S S1:=(uX _ _ h1).mono fun r hr=>by simp[hr]
   split at h
   .split at h
    .simp only[Tr.dec,aI,a_]at h;rw[<-h.2];exact f1
    .simp[Tr.dec]at h
   .exact f1.trans ((vL h).mono fun r hr=>by simp[hr])
  .simp[Tr.dec]at h
 .simp[Tr.dec]at h
theorem SW{ρ:Operand->AV}(ps:Array (Nat×Operand)):qk ((ps.toList.map fun p=>(p.1,ρ p.2)).map (·.2))=qk ((ps.toList.map (·.2)).map ρ):=by simp only[xx];rfl
theorem aaG{A:bV}{ρ:Operand->AV}{S S':aO}{site:Nat}{hint:Bool}{o:Oper}{W:List Nat}(hw:dM C ρ o=some W){β:Bool}{v:AV}
  (h:(aY C D A ρ S site hint o).dec β=some (v,S')):fE W S S':=by
 have hin:∀{x:Operand},x∈o.op.operands->∀r∈(ρ x).roots,r∈qk (o.op.operands.toList.map ρ):=fun hx r hr=>Y2 (eE.2 ⟨_,by simpa using hx,rfl⟩) r hr;cases ho:o.op with
 | assign x=>
  simp only[dM,ho]at hw;simp only[aY,ho]at h;have hx:=hin (x:=x) (by rw[ho];simp[Op.operands]);rw[ho]at hx;cases hv:ρ x with
  | b5 r p s=>
   rw[hv]at hw h hx;simp only[aI]at hw;subst hw;simp only at h;split at h
   .simp only[Tr.dec,aI,a_]at h;rw[<-h.2];exact fE.refl _ _
   .exact(PN h).mono fun r hr=>by rcases bL.1 hr with h | h;exact bL.2 (.inl h);exact bL.2 (.inr (hx r h))
  | pair a b=>rw[hv]at hw h hx;simp only[aI]at hw;subst hw;exact(PN h).mono fun r hr=>by rcases bL.1 hr with h | h;exact bL.2 (.inl h);exact bL.2 (.inr (hx r h))
  | _=>rw[hv]at hw;simp at hw
 | alloc t=>
  simp only[dM,ho,aI]at hw;subst hw;simp only[aY,ho]at h;split at h
  .exact(vL h).mono fun r hr=>by simp[hr]
  .simp[Tr.dec]at h
 | box t x=>
  simp only[dM,ho,aI]at hw;subst hw;have hx:=hin (x:=x) (by rw[ho];simp[Op.operands]);rw[ho]at hx;simp only[aY,ho]at h;split at h
  .split at h
   .rename_i m y S1 h1;have f1:=(uX _ _ h1).mono (W':=o.dst.toList++qk ((Op.box t x).operands.toList.map ρ)) fun r hr=>bL.2 (.inr (hx r hr));split at h
    .split at h
     .exact f1.trans ((vL h).mono fun r hr=>by simp[hr])
     .simp[Tr.dec]at h
    .exact f1.trans ((vL h).mono fun r hr=>by simp[hr])
   .simp[Tr.dec]at h
  .simp[Tr.dec]at h
 | build t ps=>
  simp only[dM,ho]at hw;split at hw
  .simp at hw
  simp only[aI]at hw;subst hw;simp only[aY,ho]at h;split at h
  .split at h
   .rename_i m y S1 h1;have f1:=(Ph _ _ h1).mono (W':=o.dst.toList++qk ((Op.build t ps).operands.toList.map ρ)) fun r hr=>by
     rw[SW]at hr;exact bL.2 (.inr (by simpa [Op.operands] using hr))
    exact f1.trans ((vL h).mono fun r hr=>by simp[hr])
   .simp[Tr.dec]at h
  .simp[Tr.dec]at h
 | buildSlice t n ps=>
  simp only[dM,ho,aI]at hw;subst hw;simp only[aY,ho]at h;split at h
  .split at h
   .rename_i m y S1 h1;have f1:=(Lc _ _ h1).mono (W':=o.dst.toList++qk ((Op.buildSlice t n ps).operands.toList.map ρ)) fun r hr=>by
     rw[SW]at hr;exact bL.2 (.inr (by simpa [Op.operands] using hr))
    split at h
    .split at h
     .split at h
      .simp only[Tr.dec,aI,a_]at h;rw[<-h.2];exact f1
      .simp[Tr.dec]at h
     .exact f1.trans ((vL h).mono fun r hr=>by simp[hr])
    .simp[Tr.dec]at h
   .simp[Tr.dec]at h
  .simp[Tr.dec]at h
 | store t x y=>
  simp only[dM,ho,aI]at hw;subst hw;have hx:=hin (x:=x) (by rw[ho];simp[Op.operands]);have hy:=hin (x:=y) (by rw[ho];simp[Op.operands]);rw[ho]at hx hy;simp only[aY,ho]at h;split at h
  .cases hs:A0 S site hint (C.ty t) (ρ x) (ρ y) with
   | none=>rw[hs]at h;simp[Tr.of,Tr.dec]at h
   | some S2=>
    rw[hs]at h;simp only[dV,Tr.of,Tr.dec,aI,a_]at h;rw[<-h.2];unfold A0 at hs;split at hs
    .rename_i r p hv;simp only[cJ]at hs;obtain⟨⟨m,z,S1⟩,h1,hs⟩:=hs;split at hs
     .simp only[cJ]at hs;obtain⟨dd,_,hs⟩:=hs;split at hs
      .simp only[cJ,aI]at hs;obtain⟨_,_,rfl⟩:=hs;refine((ajh _ _ h1).mono fun r hr=>bL.2 (.inr (hy r hr))).trans ((fE.set _ _ _).mono fun r' hr=>?_);simp only[er]at hr;subst hr;exact bL.2 (.inr (hx _ (by rw[hv];simp[AV.roots])))
      .simp at hs
     .simp at hs
    .simp at hs
  .simp[Tr.dec]at h
 | makeSlice t x y=>
  simp only[dM,ho,aI]at hw;subst hw;simp only[aY,ho]at h;split at h
  .simp only[Tr.dec]at h;split at h
   .exact(vL h).mono fun r hr=>by simp[hr]
   .simp at h
  .simp[Tr.dec]at h
 | slice t x lo hi mx=>
  simp only[dM,ho,aI]at hw;subst hw;have hx:=hin (x:=x) (by rw[ho];simp[Op.operands]);rw[ho]at hx;cases mx with
  | some _=>simp only[aY,ho,Tr.dec]at h;simp at h
  | none=>
   simp only[aY,ho]at h;unfold uB at h;split at h
   .split at h
    .simp only[Tr.dec]at h;split at h
     .simp only[aI,a_]at h;rw[<-h.2];exact fE.refl _ _
     .simp at h
    .simp[Tr.dec]at h
   .split at h
    .split at h
     .simp only[Tr.dec]at h;split at h
      .simp only[aI,a_]at h;rw[<-h.2];exact fE.refl _ _
      .simp at h
     .simp[Tr.dec]at h
    .simp[Tr.dec]at h
   .rename_i r p s e hv hT;split at h
    .split at h
     .rename_i m xs S2 h1;have f1:=(uX _ _ h1).mono (W':=o.dst.toList++qk ((Op.slice t x lo hi none).operands.toList.map ρ)) fun r hr=>bL.2 (.inr (hx r (by rw[hv];exact hr)));split at h
      .split at h
       .simp only[Tr.dec]at h;split at h
        .exact f1.trans ((vL h).mono fun r hr=>by simp[hr])
        .simp at h
       .simp[Tr.dec]at h
      .simp[Tr.dec]at h
     .simp[Tr.dec]at h
    .unfold uD at h;split at h
     .split at h
      .split at h
       .simp only[Tr.dec]at h;split at h
        .simp only[aI,a_]at h;rw[<-h.2];exact fE.refl _ _
        .simp at h
       .simp[Tr.dec]at h
      .simp[Tr.dec]at h
     .simp[Tr.dec]at h
   .simp[Tr.dec]at h
 | call c=>
  have hargs:∀(a:AV),a∈c.args.toList.map ρ->∀r∈a.roots,r∈qk (o.op.operands.toList.map ρ):=by intro a ha r hr;obtain⟨x,hx,rfl⟩:=eE.1 ha;exact hin (x:=x) (by rw[ho];simp only[Op.operands,Call.operands,D8];right;simpa using hx) r hr
  cases hc:c.callee with
  | builtin b=>
   cases b with
   | append=>
    simp only[dM,ho,hc,aI]at hw;subst hw;rw[ho]at hargs;simp only[aY,ho,hc]at h;split at h<;>try (first | (exfalso;contradiction) | (simp[Tr.dec]at h;done))
    rename_i x0 y0 e e' _ _ hmap _;split at h
    .cases hint with
     | true=>
      simp only[aX]at h;have hx0:=hargs x0 (by rw[hmap];simp);unfold qA at h;split at h
      .split at h
       .split at h
        .split at h
         .split at h
          .simp only[Tr.dec]at h;split at h
           .simp only[aI,a_]at h;rw[<-h.2];exact(fE.set _ _ _).mono fun r' hr=>by
             simp only[er]at hr;subst hr;exact bL.2 (.inr (hx0 _ (by simp[AV.roots])))
           .simp at h
          .simp[Tr.dec]at h
         .simp[Tr.dec]at h
        .simp[Tr.dec]at h
       .simp[Tr.dec]at h
      .simp[Tr.dec]at h
     | false=>
     simp only[e7,dX]at h;unfold CW at h;have hx0:=hargs x0 (by rw[hmap];simp);have hy0:=hargs y0 (by rw[hmap];simp);split at h
     .rename_i m xs S1 h1;split at h
      .rename_i my ys S2 h2;have f1:=((uX _ _ h1).mono (W':=o.dst.toList++qk ((Op.call c).operands.toList.map ρ)) fun r hr=>bL.2 (.inr (hx0 r hr))).trans
        ((uX _ _ h2).mono fun r hr=>bL.2 (.inr (hy0 r hr)))
       split at h
       .split at h
        .simp only[Tr.dec]at h;split at h
         .exact f1.trans ((vL h).mono fun r hr=>by simp[hr])
         .simp at h
        .simp[Tr.dec]at h
       .simp[Tr.dec]at h
      .simp[Tr.dec]at h
     .simp[Tr.dec]at h
    .simp[Tr.dec]at h
   | clear=>
    simp only[dM,ho,hc,aI]at hw;subst hw;rw[ho]at hargs;simp only[aY,ho,hc]at h;split at h<;>try (first | (exfalso;contradiction) | (simp[Tr.dec]at h;done))
    rename_i x0 e _ _ hmap _;have hx0:=hargs x0 (by rw[hmap];simp);unfold xY at h;split at h
    .split at h
     .split at h
      .split at h
       .split at h
        .simp only[Tr.dec]at h;split at h
         .simp only[aI,a_]at h;rw[<-h.2];exact(fE.set _ _ _).mono fun r' hr=>by
           simp only[er]at hr;subst hr;exact bL.2 (.inr (hx0 _ (by simp[AV.roots])))
         .simp only[aI,a_]at h;rw[<-h.2];exact fE.refl _ _
        .simp[Tr.dec]at h
       .simp[Tr.dec]at h
      .simp[Tr.dec]at h
     .simp[Tr.dec]at h
    .simp[Tr.dec]at h
   | copy=>
    simp only[dM,ho,hc,aI]at hw;subst hw;rw[ho]at hargs;simp only[aY,ho,hc]at h;split at h<;>try (first | (exfalso;contradiction) | (simp[Tr.dec]at h;done))
    rename_i x0 y0 e _ _ hmap _;have hx0:=hargs x0 (by rw[hmap];simp);unfold xT at h;split at h
    .split at h
     .split at h
      .split at h
       .split at h
        .split at h
         .simp only[Tr.dec]at h;split at h
          .simp only[aI,a_]at h;rw[<-h.2];exact(fE.set _ _ _).mono fun r' hr=>by
            simp only[er]at hr;subst hr;exact bL.2 (.inr (hx0 _ (by simp[AV.roots])))
          .simp only[aI,a_]at h;rw[<-h.2];exact fE.refl _ _
         .simp[Tr.dec]at h
        .simp[Tr.dec]at h
       .simp[Tr.dec]at h
      .simp[Tr.dec]at h
     .simp[Tr.dec]at h
    .simp[Tr.dec]at h
   | len=>simp[dM,ho,hc]at hw
   | min=>simp[dM,ho,hc]at hw
   | max=>simp[dM,ho,hc]at hw
   | _=>simp only[aY,ho,hc,Tr.dec]at h;simp at h
  | value f=>
   simp only[dM,ho,hc]at hw;simp only[aY,ho,hc]at h;cases hv:ρ f with
   | gz g caps=>
    rw[hv]at hw h;simp only at hw h;split at hw
    .simp only[aI]at hw;subst hw;refine(aaB h).mono fun r hr=>?_;rcases bL.1 hr with hr | hr
     .exact bL.2 (.inl hr)
     .refine bL.2 (.inr ?_);rw[qzc]at hr;rcases hr with hr | hr
      .simp only[Op.operands,Call.operands,hc];have:∀l:List AV,∀a,r∈qk l->r∈qk (a::l):=fun l a h=>by simp[qk,h]
       simpa using this _ _ hr
      .have h1:=Uf caps r hr;have h2:=hin (x:=f) (by rw[ho];simp[Op.operands,Call.operands,hc]) r (by rw[hv];simpa [AV.roots] using h1);rw[ho]at h2;exact h2
    .rename_i yV;simp only[p_,af yV]at h;split at hw
     .simp at hw
     .simp only[aI]at hw;subst hw;exact FW h
   | dZ cl=>rw[hv]at hw;simp at hw
   | _=>rw[hv]at h;simp[Tr.dec]at h
  | invoke r m=>simp only[aY,ho,hc,Tr.dec]at h;simp at h
 | _=>first | (simp[dM,ho]at hw;done) | (simp only[aY,ho,Tr.dec]at h;simp at h)
end
end Go.V
namespace Go.V
noncomputable section
open Go
theorem ng(S:aO)(q:Nat)(x:Option aB)(r:Nat):(S.aD q x).root r=if r=q/\q<S.length then x else S.root r:=by
 simp only[aO.g8,aO.bU,List.getD,jv];by_cases h:q=r
 .subst h;by_cases hl:q<S.length
  .simp[hl]
  .simp[hl]
 .rw[af h,af (fun k=>h k.1.symm)]
theorem I3{F:List Nat}{S T:aO}(hr:gP F S T)(hl:T.length=S.length)(q:Nat)(x:Option aB):gP F (S.aD q x) (T.aD q x):=by intro r h;rw[ng,ng,hl,hr r h]
def Lk{α:Type}(F:List Nat)(X Y:Option (α×aO)):Prop:=∀a S',X=some (a,S')->∃T',Y=some (a,T')/\gP F S' T'/\T'.length=S'.length
theorem z_{F:List Nat}:∀(t:Ty)(a:AV){S T:aO}{m:Mk}{x:t.den}{S':aO},gP F S T->T.length=S.length->(∀r∈a.roots,r∈F)->tk S t a=some (m,x,S')->
  ∃T',tk T t a=some (m,x,T')/\gP F S' T'/\T'.length=S'.length
 | t,.val t' y,S,T,m,x,S',hr,hl,hF,h=>by
  have e:∀S:aO,tk S t (.val t' y)=(qbv t' t y).bind (fun x=>some (Mk.no,x,S)):=by intro S;cases t<;>simp only[tk]
  rw[e]at h;simp only[cJ,aI,a_]at h;obtain⟨z,hz,rfl,rfl,rfl⟩:=h;exact⟨T,by rw[e,hz];rfl,hr,hl⟩
 | t,.cF b,S,T,m,x,S',hr,hl,hF,h=>by
  cases t<;>simp[tk]at h;obtain⟨rfl,rfl,rfl⟩:=h;exact⟨T,by simp[tk],hr,hl⟩
 | t,.unit,S,T,m,x,S',hr,hl,hF,h=>by
  cases t<;>simp[tk]at h;obtain⟨rfl,rfl⟩:=h;exact⟨T,by simp[tk],hr,hl⟩
 | t,.fe,S,T,m,x,S',hr,hl,hF,h=>by
  cases t<;>simp[tk]at h;obtain⟨rfl,rfl,rfl⟩:=h;exact⟨T,by simp[tk],hr,hl⟩
 | t,.b5 r p s,S,T,m,x,S',hr,hl,hF,h=>by
  cases t with
  | sl e=>
   have bE:=hr r (hF r (by simp[AV.roots]));simp only[tk]at h⊢;rw[bE];cases hR:S.root r with
   | none=>rw[hR]at h;simp at h
   | some R=>
    rw[hR]at h;simp only at h⊢;cases hf:V.focus R.ty R.ms R.x p with
    | none=>rw[hf]at h;simp at h
    | some d=>
     obtain⟨dt,dm,dx⟩:=d;rw[hf]at h;cases dt with
     | sl t2=>
      cases dm with
      | own s' m2=>
       simp only at h⊢;by_cases hs:s=s'
       .rw[aj hs]at h⊢;simp only[cJ,aI,a_]at h⊢;obtain⟨z,hz,m',hm',rfl,rfl,rfl⟩:=h;exact⟨_,⟨z,hz,m',hm',rfl,rfl,rfl⟩,I3 hr hl _ _,by simp[aO.bU,hl]⟩
       .rw[af hs]at h;simp at h
      | _=>simp at h
     | _=>simp at h
  | _=>simp[tk]at h
 | t,.pair u v,S,T,m,x,S',hr,hl,hF,h=>by
  cases t with
  | pair a b=>simp only[tk,cJ,aI,a_]at h;obtain⟨⟨m1,x1,S1⟩,h1,⟨m2,x2,S2⟩,h2,rfl,rfl,rfl⟩:=h;obtain⟨T1,k1,k2,k3⟩:=z_ a u hr hl (fun r h=>hF r (by simp[AV.roots,h])) h1;obtain⟨T2,q1,q2,q3⟩:=z_ b v k2 k3 (fun r h=>hF r (by simp[AV.roots,h])) h2;exact⟨T2,by simp only[tk,k1,dn,q1],q2,q3⟩
  | _=>simp[tk]at h
 | t,.undef,S,T,m,x,S',hr,hl,hF,h=>by cases t<;>simp[tk]at h
 | t,.skip,S,T,m,x,S',hr,hl,hF,h=>by cases t<;>simp[tk]at h
 | t,.view _ _ _ _ _,S,T,m,x,S',hr,hl,hF,h=>by cases t<;>simp[tk]at h
 | t,.addr _ _,S,T,m,x,S',hr,hl,hF,h=>by cases t<;>simp[tk]at h
 | t,.b_ _ _,S,T,m,x,S',hr,hl,hF,h=>by cases t<;>simp[tk]at h
 | t,.jn _,S,T,m,x,S',hr,hl,hF,h=>by cases t<;>simp[tk]at h
 | t,.gz _ _,S,T,m,x,S',hr,hl,hF,h=>by cases t<;>simp[tk]at h
 | t,.dZ _,S,T,m,x,S',hr,hl,hF,h=>by cases t<;>simp[tk]at h
theorem yz{F:List Nat}{A:bV}{S T:aO}(hr:gP F S T)(hl:T.length=S.length){d:Option Nat}{site:Nat}{t:Ty}{m:Mk}{x:t.den}{mem:Bool}{β:Bool} :
  Lk F ((dR A S d site t m x mem).dec β) ((dR A T d site t m x mem).dec β):=by
 intro v S' h;cases d with
 | none=>simp only[dR,Tr.dec,aI,a_]at h⊢;obtain⟨rfl,rfl⟩:=h;exact⟨T,⟨rfl,rfl⟩,hr,hl⟩
 | some d=>
  simp only[dR,hl]at h⊢;split at h
  .simp[Tr.dec]at h
  .rename_i h1;simp only[h1];split at h
   .rename_i h2;split at h
    .rename_i h3;simp only[Tr.dec,aI,a_]at h;obtain⟨rfl,rfl⟩:=h;exact⟨_,by simp[h2,h3,Tr.dec],I3 hr hl _ _,by simp[aO.bU,hl]⟩
    .simp[Tr.dec]at h
   .rename_i h2;split at h
    .rename_i h3;simp only[Tr.dec,aI,a_]at h;obtain⟨rfl,rfl⟩:=h;exact⟨T,by simp[h2,h3,Tr.dec],hr,hl⟩
    .rename_i h3;split at h
     .rename_i h4;simp only[Tr.dec,aI,a_]at h;obtain⟨rfl,rfl⟩:=h;refine⟨_,?_,I3 hr hl _ _,by simp[aO.bU,hl]⟩;simp only[h2,e7,dX,h3,h4,aX,Tr.dec]
     .simp[Tr.dec]at h
theorem Qc{F:List Nat}{T0:Ty}:∀(l:List (Nat×AV))(acc:Mk×T0.den){S T:aO}{m:Mk}{x:T0.den}{S':aO},gP F S T->T.length=S.length->(∀r∈qk (l.map (·.2)),r∈F)->
  ow S T0 acc l=some (m,x,S')->∃T',ow T T0 acc l=some (m,x,T')/\gP F S' T'/\T'.length=S'.length
 | [],acc,S,T,m,x,S',hr,hl,hF,h=>by
  simp only[ow,aI,a_]at h⊢;obtain⟨rfl,rfl,rfl⟩:=h;exact⟨T,⟨rfl,rfl,rfl⟩,hr,hl⟩
 | (i,v)::l,acc,S,T,m,x,S',hr,hl,hF,h=>by
  simp only[ow,cJ]at h;obtain⟨d,hd,⟨m1,x1,S1⟩,h1,r,h3,h2⟩:=h;obtain⟨T1,k1,k2,k3⟩:=z_ _ v hr hl (fun r h=>hF r (by simp[qk,h])) h1;obtain⟨T2,q1,q2,q3⟩:=Qc l _ k2 k3 (fun r h=>hF r (by simp only[cm,qk,bL];exact .inr h)) h2;refine⟨T2,?_,q2,q3⟩;simp only[ow,cJ];exact⟨d,hd,(m1,x1,T1),k1,r,h3,q1⟩
theorem L8{F:List Nat}{e:Ty}:∀(l:List (Nat×AV))(acc:Mk×List e.den){S T:aO}{m:Mk}{x:List e.den}{S':aO},gP F S T->T.length=S.length->(∀r∈qk (l.map (·.2)),r∈F)->
  tC S e acc l=some (m,x,S')->∃T',tC T e acc l=some (m,x,T')/\gP F S' T'/\T'.length=S'.length
 | [],acc,S,T,m,x,S',hr,hl,hF,h=>by
  simp only[tC,aI,a_]at h⊢;obtain⟨rfl,rfl,rfl⟩:=h;exact⟨T,⟨rfl,rfl,rfl⟩,hr,hl⟩
 | (i,v)::l,acc,S,T,m,x,S',hr,hl,hF,h=>by
  simp only[tC]at h⊢;split at h
  .rename_i hi;simp only[cJ]at h;obtain⟨⟨m1,x1,S1⟩,h1,h2⟩:=h;obtain⟨T1,k1,k2,k3⟩:=z_ _ v hr hl (fun r h=>hF r (by simp[qk,h])) h1;obtain⟨T2,q1,q2,q3⟩:=L8 l _ k2 k3 (fun r h=>hF r (by simp only[cm,qk,bL];exact .inr h)) h2;refine⟨T2,?_,q2,q3⟩;rw[aj hi];simp only[cJ];exact⟨(m1,x1,T1),k1,q1⟩
  .simp at h
theorem aao{F:List Nat}{A:bV}{S T:aO}(hr:gP F S T)(hl:T.length=S.length){d:Option Nat}{site:Nat}{t:Ty}{x y:AV}(hx:∀r∈x.roots,r∈F)(hy:∀r∈y.roots,r∈F){β:Bool} :
  Lk F ((CW A S d site t x y).dec β) ((CW A T d site t x y).dec β):=by
 intro v S' h;unfold CW at h⊢;cases h1:tk S (.sl t) x with
 | none=>rw[h1]at h;simp[Tr.dec]at h
 | some z=>
  obtain⟨m1,xs,S1⟩:=z;obtain⟨T1,k1,k2,k3⟩:=z_ _ x hr hl hx h1;rw[h1]at h;rw[k1];cases m1 with
  | own s m=>
   simp only at h⊢;cases h2:tk S1 (.sl t) y with
   | none=>rw[h2]at h;simp[Tr.dec]at h
   | some z=>
    obtain⟨my,ys,S2⟩:=z;obtain⟨T2,q1,q2,q3⟩:=z_ _ y k2 k3 hy h2;rw[h2]at h;rw[q1];simp only at h⊢;cases hm:pE my with
    | none=>rw[hm]at h;simp[Tr.dec]at h
    | some m'=>
     rw[hm]at h;simp only at h⊢;split at h
     .rename_i h3;rw[aj h3];simp only[Tr.dec]at h⊢;split at h
      .exact yz q2 q3 v S' h
      .simp at h
     .simp[Tr.dec]at h
  | _=>simp[Tr.dec]at h
theorem ajD{F:List Nat}{S T:aO}(hr:gP F S T)(hl:T.length=S.length){t:Ty}{x y:AV}(hx:∀r∈x.roots,r∈F){β:Bool} :
  Lk F ((qA S t x y).dec β) ((qA T t x y).dec β):=by
 intro v S' h;unfold qA at h⊢;split at h
 .rename_i r p s t2 ys;have bE:=hr r (hx r (by simp[AV.roots]))
  try simp only
  rw[bE];cases hR:S.root r with
  | none=>rw[hR]at h;simp[Tr.dec]at h
  | some R=>
   rw[hR]at h;simp only at h⊢;split at h
   .rename_i t' s' m xs hf;split at h
    .rename_i hc;rw[aj hc];split at h
     .rename_i a b r' e1 e2 e3;simp only[Tr.dec]at h⊢;split at h
      .simp only[aI,a_]at h;obtain⟨rfl,rfl⟩:=h;exact⟨_,rfl,I3 hr hl _ _,by simp[aO.bU,hl]⟩
      .simp at h
     .simp[Tr.dec]at h
    .simp[Tr.dec]at h
   .simp[Tr.dec]at h
 .simp[Tr.dec]at h
theorem abH{F:List Nat}{A:bV}{S T:aO}(hr:gP F S T)(hl:T.length=S.length){U:Ty}{d:Option Nat}{site:Nat}{x:AV}{lo hi:Option AV}(hx:∀r∈x.roots,r∈F){β:Bool} :
  Lk F ((uB A S U d site x lo hi).dec β) ((uB A T U d site x lo hi).dec β):=by
 intro v S' h;unfold uB at h⊢;split at h
 .split at h
  .simp only[Tr.dec]at h⊢;split at h
   .simp only[aI,a_]at h;obtain⟨rfl,rfl⟩:=h;rename_i hc;exact⟨T,by simp[hc],hr,hl⟩
   .simp at h
  .simp[Tr.dec]at h
 .split at h
  .split at h
   .rename_i hc;simp only[Tr.dec]at h⊢;rw[aj hc];split at h
    .simp only[aI,a_]at h;obtain⟨rfl,rfl⟩:=h;rename_i hc;exact⟨T,by simp[Tr.dec,hc],hr,hl⟩
    .simp at h
   .simp[Tr.dec]at h
  .simp[Tr.dec]at h
 .rename_i r p s e;split at h
  .cases h1:tk S (.sl e) (.b5 r p s) with
   | none=>rw[h1]at h;simp[Tr.dec]at h
   | some z=>
    obtain⟨m1,xs,S1⟩:=z;obtain⟨T1,k1,k2,k3⟩:=z_ _ _ hr hl hx h1;rw[h1]at h;simp only[k1];cases m1 with
    | own s m=>
     simp only at h⊢;split at h
     .split at h
      .rename_i hc;rw[aj hc];simp only[Tr.dec]at h⊢;split at h
       .rename_i hd
        try simp only[hd]
        exact yz k2 k3 v S' h
       .simp at h
      .simp[Tr.dec]at h
     .simp[Tr.dec]at h
    | _=>simp[Tr.dec]at h
  .unfold uD at h⊢;have hf:=BA hr (hx r (by simp[AV.roots])) p;rw[hf];split at h
   .split at h
    .rename_i hq
     try simp only[hq]
     split at h
     .rename_i hc;rw[aj hc];simp only[Tr.dec]at h⊢;split at h
      .simp only[aI,a_]at h;obtain⟨rfl,rfl⟩:=h;rename_i hd;exact⟨T,by simp[hd],hr,hl⟩
      .simp at h
     .simp[Tr.dec]at h
    .simp[Tr.dec]at h
   .simp[Tr.dec]at h
 .simp[Tr.dec]at h
theorem L7{F:List Nat}{A:bV}{S T:aO}(hr:gP F S T)(hl:T.length=S.length){d:Option Nat}{site:Nat}:∀(rs:List RK)(r:fc rs){β:Bool},Lk F ((lP A S d site rs r).dec β) ((lP A T d site rs r).dec β)
 | [],r,β=>by
  intro v S' h;simp only[lP,Tr.dec,aI,a_]at h⊢;obtain⟨rfl,rfl⟩:=h;exact⟨T,⟨rfl,rfl⟩,hr,hl⟩
 | [.val t m],r,β=>by
  intro v S' h;simp only[lP]at h⊢;split at h
  .rename_i hs;rw[aj hs];split at h
   .rename_i hc;rw[aj hc];simp only[Tr.dec,aI,a_]at h⊢;obtain⟨rfl,rfl⟩:=h;exact⟨T,⟨rfl,rfl⟩,hr,hl⟩
   .simp[Tr.dec]at h
  .rename_i hs;rw[af hs];split at h
   .rename_i hc;rw[aj hc];exact yz hr hl v S' h
   .simp[Tr.dec]at h
 | [.ptr t m],r,β=>by
  intro v S' h;simp only[lP]at h⊢;split at h
  .rename_i hc;rw[aj hc];exact yz hr hl v S' h
  .simp[Tr.dec]at h
 | q1::q2::rs,r,β=>by
  intro v S' h;have e:∀S:aO,lP A S d site (q1::q2::rs) r=BN A S d site (q1::q2::rs) r:=by intro S;cases q1<;>simp only[lP]
  rw[e]at h⊢;unfold BN at h⊢;split at h
  .rename_i hc;rw[aj hc];cases d with
   | none=>simp only[Tr.dec,aI,a_]at h⊢;obtain⟨rfl,rfl⟩:=h;exact⟨T,⟨rfl,rfl⟩,hr,hl⟩
   | some d=>
    simp only at h⊢;cases hL:dR A S (some d) site (iZ (q1::q2::rs)) (pg (q1::q2::rs)) (jO (q1::q2::rs) r) false with
    | ret z=>
     obtain⟨v1,S1⟩:=z;rw[hL]at h;simp only[Tr.dec,aI,a_]at h;obtain⟨rfl,rfl⟩:=h;obtain⟨T1,k1,k2,k3⟩:=yz (A:=A) (d:=some d) (site:=site) (t:=iZ (q1::q2::rs)) (m:=pg (q1::q2::rs)) (x:=jO (q1::q2::rs) r) (mem:=false) (β:=true) hr hl v1 S1 (by rw[hL];rfl);cases hM:dR A T (some d) site (iZ (q1::q2::rs)) (pg (q1::q2::rs)) (jO (q1::q2::rs) r) false with
     | ret z=>obtain⟨v2,S2⟩:=z;rw[hM]at k1;simp only[Tr.dec,aI,a_]at k1;obtain⟨rfl,rfl⟩:=k1;exact⟨_,rfl,k2,k3⟩
     | fail=>rw[hM]at k1;simp[Tr.dec]at k1
     | _=>
      exfalso;simp only[dR]at hM
      repeat' split at hM
      all_goals simp at hM
    | _=>rw[hL]at h;simp[Tr.dec]at h
  .simp[Tr.dec]at h
section
variable {C:Ctx} {D:Den C}
theorem uz{S T:aO}:∀(ks:List PK)(aF:List AV),ks.all PK.loc=true->fV T ks aF=(fV S ks aF).map fun z=>(z.1,T)
 | [],[],_=>rfl
 | [],_::_,_=>rfl
 | k::ks,[],_=>by cases k<;>rfl
 | k::ks,a::aF,h=>by
  simp only[gK,bC]at h;cases k with
  | val t=>simp only[fV];exact uz ks aF h.2
  | bZ t=>simp only[fV];exact uz ks aF h.2
  | cA t m m'=>simp only[fV];exact uz ks aF h.2
  | fn=>simp only[fV];exact uz ks aF h.2
  | _=>simp[PK.loc]at h
theorem aj6{S rt:aO}{ks:List PK}{aF:List AV}{g:i5 ks}(hp:ks.all PK.loc=true)(h:fV S ks aF=some (g,rt)):rt=S:=by have:=uz (S:=S) (T:=S) ks aF hp;rw[h]at this;simp only[dV,aI,a_,true_and]at this;exact this
theorem xJ{F:List Nat}:∀(ks:List PK)(aF:List AV){S T:aO}{o:cR ks}{S':aO},gP F S T->T.length=S.length->ks.all PK.loc=true->(∀r∈qk aF,r∈F)->gw S ks aF=some (o,S')->
  ∃T',gw T ks aF=some (o,T')/\gP F S' T'/\T'.length=S'.length
 | [],[],S,T,o,S',hr,hl,_,_,h=>by
  simp only[gw,aI,a_]at h;obtain⟨_,rfl⟩:=h;exact⟨T,rfl,hr,hl⟩
 | [],_::_,S,T,o,S',hr,hl,_,_,h=>by simp[gw]at h
 | k::ks,[],S,T,o,S',hr,hl,_,_,h=>by cases k<;>simp[gw]at h
 | k::ks,a::aF,S,T,o,S',hr,hl,hp,hF,h=>by
  simp only[gK,bC]at hp;have tQ:∀r∈qk aF,r∈F:=fun r h=>hF r (by simp[qk,h]);cases k with
  | val t=>simp only[gw]at h⊢;exact xJ ks aF hr hl hp.2 tQ h
  | bZ t=>simp only[gw]at h⊢;exact xJ ks aF hr hl hp.2 tQ h
  | fn=>simp only[gw]at h⊢;exact xJ ks aF hr hl hp.2 tQ h
  | cA t m m'=>
   cases a with
   | addr q p=>
    cases p with
    | nil=>
     have hq:=hr q (hF q (by simp[qk,AV.roots]));simp only[gw]at h⊢;rw[hq];cases hR:S.root q with
     | none=>rw[hR]at h;simp at h
     | some R=>
      rw[hR]at h;simp only at h⊢;split at h
      .rename_i hc;rw[aj hc];simp only[cJ,aI,a_]at h⊢;obtain⟨x,hx,⟨o2,S2⟩,h2,rfl,rfl⟩:=h;obtain⟨T2,q1,q2,q3⟩:=xJ ks aF (I3 hr hl q none) (by simp[aO.bU,hl]) hp.2 tQ h2;exact⟨T2,⟨x,hx,(o2,T2),q1,rfl,rfl⟩,q2,q3⟩
      .simp at h
    | cons _ _=>simp[gw]at h
   | _=>simp[gw]at h
  | _=>simp[PK.loc]at hp
theorem xP{F:List Nat}{site:Nat}:∀(ks:List PK)(aF:List AV)(o:cR ks){S T:aO}{S':aO},gP F S T->T.length=S.length->ks.all PK.loc=true->f9 S site ks aF o=some S'->
  ∃T',f9 T site ks aF o=some T'/\gP F S' T'/\T'.length=S'.length
 | [],[],o,S,T,S',hr,hl,_,h=>by
  simp only[f9,aI]at h;subst h;exact⟨T,rfl,hr,hl⟩
 | [],_::_,o,S,T,S',hr,hl,_,h=>by simp[f9]at h
 | k::ks,[],o,S,T,S',hr,hl,_,h=>by cases k<;>simp[f9]at h
 | k::ks,a::aF,o,S,T,S',hr,hl,hp,h=>by
  simp only[gK,bC]at hp;cases k with
  | val t=>simp only[f9]at h⊢;exact xP ks aF o hr hl hp.2 h
  | bZ t=>simp only[f9]at h⊢;exact xP ks aF o hr hl hp.2 h
  | fn=>simp only[f9]at h⊢;exact xP ks aF o hr hl hp.2 h
  | cA t m m'=>
   cases a with
   | addr q p=>
    cases p with
    | nil=>
     simp only[f9]at h⊢;split at h
     .rename_i hc;rw[aj hc];exact xP ks aF o.2 (I3 hr hl q _) (by simp[aO.bU,hl]) hp.2 h
     .simp at h
    | cons _ _=>simp[f9]at h
   | _=>simp[f9]at h
  | _=>simp[PK.loc]at hp
theorem Lg{F:List Nat}{A:bV}{S T:aO}(hr:gP F S T)(hl:T.length=S.length){d:Option Nat}{site:Nat}{g:FuncId}{aF:List AV}(hp:(C.sig g).params.all PK.loc=true)(has:∀r∈qk aF,r∈F){β:Bool} :
  Lk F ((ru C D A S d site g aF).dec β) ((ru C D A T d site g aF).dec β):=by
 intro v S' h;unfold ru at h⊢;rw[uz (S:=S) (T:=T) _ _ hp];cases h1:fV S (C.sig g).params aF with
 | none=>rw[h1]at h;simp[Tr.dec]at h
 | some z=>
  obtain⟨gd,S1⟩:=z;obtain rfl:=aj6 hp h1;rw[h1]at h;simp only[dV]at h⊢;cases h2:gw S1 (C.sig g).params aF with
  | none=>rw[h2]at h;simp[Tr.dec]at h
  | some z=>
   obtain⟨od,S2⟩:=z;obtain⟨T2,k1,k2,k3⟩:=xJ _ _ hr hl hp has h2;rw[h2]at h;simp only[k1]at h⊢;rw[zh _ _ _ _ (k2.sub has)];cases h3:iR S2 (C.sig g).params aF gd od with
   | none=>rw[h3]at h;simp[Tr.dec]at h
   | some aa=>
    rw[h3]at h;simp only at h⊢;split at h
    .rename_i hc;rw[aj hc];simp only[Tr.dec]at h⊢;cases hD:D g aa with
     | none=>rw[hD]at h;simp at h
     | some rr=>
      rw[hD]at h;simp only[dn]at h⊢;split at h
      .rename_i hn;rw[aj hn];exact L7 hr hl _ _ v S' h
      .rename_i hn;rw[af hn];split at h
       .rename_i hfr;rw[aj hfr];simp only[Tr.dec]at h⊢;split at h
        .rename_i hlo;cases ho:f9 S1 site (C.sig g).params aF rr.2 with
         | none=>rw[ho]at h;simp[Tr.dec]at h
         | some S3=>obtain⟨T3,q1,q2,q3⟩:=xP _ _ _ hr hl hp ho;rw[ho]at h;simp only at h;obtain⟨T',r1,r2,r3⟩:=L7 q2 q3 _ _ v S' h;exact⟨T',by rw[q1];exact r1,r2,r3⟩
        .simp at h
       .simp[Tr.dec]at h
    .simp[Tr.dec]at h
theorem F7{F:List Nat}:∀(ks:List PK)(aF:List AV){S T:aO}{z:List AV}{S':aO},gP F S T->T.length=S.length->(∀r∈qk aF,r∈F)->kE S ks aF=some (z,S')->
  ∃T',kE T ks aF=some (z,T')/\gP F S' T'/\T'.length=S'.length/\∀r∈qk z,r∈F
 | [],[],S,T,z,S',hr,hl,hF,h=>by
  simp only[kE,aI,a_]at h;obtain⟨rfl,rfl⟩:=h;exact⟨T,rfl,hr,hl,hF⟩
 | [],_::_,S,T,z,S',hr,hl,hF,h=>by simp[kE]at h
 | k::ks,[],S,T,z,S',hr,hl,hF,h=>by cases k<;>simp[kE]at h
 | k::ks,a::aF,S,T,z,S',hr,hl,hF,h=>by
  have hFa:∀r∈a.roots,r∈F:=fun r hr=>hF r (by simp[qk,hr]);have oe:∀r∈qk aF,r∈F:=fun r hr=>hF r (by simp[qk,hr]);have plain:(kE S ks aF).map (fun z=>(a::z.1,z.2))=some (z,S')->∃T',(kE T ks aF).map (fun z=>(a::z.1,z.2))=some (z,T')/\gP F S' T'/\T'.length=S'.length/\∀r∈qk z,r∈F:=by
   intro h;simp only[fj,a_]at h;obtain⟨⟨z1,S1⟩,h1,rfl,rfl⟩:=h;obtain⟨T1,e1,e2,e3,e4⟩:=F7 ks aF hr hl oe h1;refine⟨T1,by rw[e1];rfl,e2,e3,fun r hr=>?_⟩;simp only[qk,bL]at hr;rcases hr with hr | hr
   .exact hFa r hr
   .exact e4 r hr
  cases k with
  | val t=>
   simp only[kE]at h⊢;split at h
   .rename_i hs;rw[aj hs];exact plain h
   .rename_i hs;rw[af hs];cases h1:tk S t a with
    | none=>rw[h1]at h;simp at h
    | some q=>
     obtain⟨m,y,S1⟩:=q;obtain⟨T1,k1,k2,k3⟩:=z_ _ _ hr hl hFa h1;rw[h1]at h;rw[k1];simp only at h⊢;split at h
     .rename_i hm;rw[aj hm];simp only[fj,a_]at h;obtain⟨⟨z1,S2⟩,h2,rfl,rfl⟩:=h;obtain⟨T2,e1,e2,e3,e4⟩:=F7 ks aF k2 k3 oe h2;refine⟨T2,by rw[e1];rfl,e2,e3,fun r hr=>?_⟩;simp only[qk,bL,AV.roots,c_,false_or]at hr;exact e4 r hr
     .simp at h
  | _=>simp only[kE]at h⊢;exact plain h
theorem akb{F:List Nat}{A:bV}{ρ:Operand->AV}{S T:aO}(hr:gP F S T)(hl:T.length=S.length){site:Nat}{hint:Bool}{o:Oper}(hlc:u7 C ρ o=true)
  (hF:∀r∈qk (o.op.operands.toList.map ρ),r∈F) {β:Bool}:Lk F ((aY C D A ρ S site hint o).dec β) ((aY C D A ρ T site hint o).dec β):=by
 have hin:∀{x:Operand},x∈o.op.operands->∀r∈(ρ x).roots,r∈F:=fun hx r hr=>hF r (Y2 (eE.2 ⟨_,by simpa using hx,rfl⟩) r hr);intro v S' h;cases ho:o.op with
 | alloc t=>
  simp only[aY,ho]at h⊢;split at h
  .rename_i hc;rw[aj hc];exact yz hr hl v S' h
  .simp[Tr.dec]at h
 | box t x=>
  have hx:=hin (x:=x) (by rw[ho];simp[Op.operands]);simp only[aY,ho]at h⊢;split at h
  .rename_i hc;rw[aj hc];cases h1:tk S (C.ty t) (ρ x) with
   | none=>rw[h1]at h;simp[Tr.dec]at h
   | some z=>
    obtain⟨m,y,S1⟩:=z;obtain⟨T1,k1,k2,k3⟩:=z_ _ _ hr hl hx h1;rw[h1]at h;rw[k1];simp only at h⊢;split at h
    .rename_i hh;rw[aj hh];split at h
     .rename_i hm;rw[aj hm];exact yz k2 k3 v S' h
     .simp[Tr.dec]at h
    .rename_i hh;rw[af hh];exact yz k2 k3 v S' h
  .simp[Tr.dec]at h
 | build t ps=>
  simp only[aY,ho]at h⊢;split at h
  .rename_i hc;rw[aj hc];cases h1:ow S (C.ty t) (Mk.zx hint (C.ty t),(C.ty t).zero) (ps.toList.map fun p=>(p.1,ρ p.2)) with
   | none=>rw[h1]at h;simp[Tr.dec]at h
   | some z=>obtain⟨m,y,S1⟩:=z;obtain⟨T1,k1,k2,k3⟩:=Qc _ _ hr hl (fun r hr=>by rw[SW]at hr;exact hF r (by rw[ho];simpa [Op.operands] using hr)) h1;rw[h1]at h;rw[k1];exact yz k2 k3 v S' h
  .simp[Tr.dec]at h
 | buildSlice t n ps=>
  simp only[aY,ho]at h⊢;split at h
  .rename_i e he;cases h1:tC S e (Mk.top e,List.replicate n e.zero) (ps.toList.map fun p=>(p.1,ρ p.2)) with
   | none=>rw[h1]at h;simp[Tr.dec]at h
   | some z=>
    obtain⟨m,y,S1⟩:=z;obtain⟨T1,k1,k2,k3⟩:=L8 _ _ hr hl (fun r hr=>by rw[SW]at hr;exact hF r (by rw[ho];simpa [Op.operands] using hr)) h1;rw[h1]at h;simp only[k1];simp only at h;split at h
    .rename_i hc;rw[aj hc];split at h
     .rename_i hh;rw[aj hh];split at h
      .rename_i hm;rw[aj hm];simp only[Tr.dec,aI,a_]at h⊢;obtain⟨rfl,rfl⟩:=h;exact⟨T1,⟨rfl,rfl⟩,k2,k3⟩
      .simp[Tr.dec]at h
     .rename_i hh;rw[af hh];exact yz k2 k3 v S' h
    .simp[Tr.dec]at h
  .simp[Tr.dec]at h
 | makeSlice t x y=>
  simp only[aY,ho]at h⊢;split at h
  .simp only[Tr.dec]at h⊢;split at h
   .rename_i hc
    try simp only[hc]
    exact yz hr hl v S' h
   .simp at h
  .simp[Tr.dec]at h
 | slice t x lo hi mx=>
  cases mx with
  | none=>have hx:=hin (x:=x) (by rw[ho];simp[Op.operands]);simp only[aY,ho]at h⊢;exact abH hr hl hx v S' h
  | some _=>simp[u7,ho]at hlc
 | call c=>
  simp only[u7,ho]at hlc;cases hc:c.callee with
  | builtin b=>
   rw[hc]at hlc;cases b<;>simp only[e7]at hlc;have hargs:∀x∈c.args,∀r∈(ρ x).roots,r∈F:=fun x hx=>hin (by rw[ho];simp only[Op.operands,Call.operands,D8];right;simpa using hx);simp only[aY,ho,hc]at h⊢;split at h
   .exact Builtin.noConfusion ‹Builtin.append=Builtin.len›
   .exact Builtin.noConfusion ‹Builtin.append=Builtin.len›
   .rename_i x y t t' ts e1 e2 e3;have hm:∀z∈c.args.toList.map ρ,∀r∈z.roots,r∈F:=by intro z hz;obtain⟨w,hw,rfl⟩:=eE.1 hz;exact hargs w (by simpa using hw)
    rw[e2]at hm
    try simp only[e2,e3]
    split at h
    .rename_i ht;rw[aj ht];split at h
     .rename_i hh;rw[aj hh];exact ajD hr hl (hm x (by simp)) v S' h
     .rename_i hh;rw[af hh];exact aao hr hl (hm x (by simp)) (hm y (by simp)) v S' h
    .simp[Tr.dec]at h
   .exact Builtin.noConfusion ‹Builtin.append=Builtin.clear›
   .exact Builtin.noConfusion ‹Builtin.append=Builtin.copy›
   .exact Builtin.noConfusion ‹Builtin.append=Builtin.min›
   .exact Builtin.noConfusion ‹Builtin.append=Builtin.max›
   .simp[Tr.dec]at h
  | value f=>
   rw[hc]at hlc;simp only at hlc;cases hf:ρ f with
   | gz g caps=>
    rw[hf]at hlc;simp only at hlc;have hall:∀r∈qk (c.args.toList.map ρ++mG caps),r∈F:=?_
    .simp only[aY,ho,hc,hf,p_]at h⊢;split at h
     .rename_i yV;rw[aj yV];cases h1:kE S (C.sig g).params (c.args.toList.map ρ++mG caps) with
      | none=>rw[h1]at h;simp[Tr.dec]at h
      | some q=>obtain⟨z1,S1⟩:=q;obtain⟨T1,e1,e2,e3,e4⟩:=F7 _ _ hr hl hall h1;rw[h1]at h;rw[e1];exact Lg e2 e3 hlc e4 v S' h
     .rename_i yV;rw[af yV];exact Lg hr hl hlc hall v S' h
    intro r hr;rw[qzc]at hr;rcases hr with hr | hr
    .refine hF r ?_;rw[ho];simp only[Op.operands,Call.operands,hc];have:∀l:List AV,∀a,r∈qk l->r∈qk (a::l):=fun l a h=>by simp[qk,h]
     simpa using this _ _ hr
    .have:=Uf caps r hr;exact hin (x:=f) (by rw[ho];simp[Op.operands,Call.operands,hc]) r (by rw[hf];simpa [AV.roots] using this)
   | _=>rw[hf]at hlc;simp at hlc
  | invoke r m=>rw[hc]at hlc;simp at hlc
 | _=>simp[u7,ho]at hlc
end
end
end Go.V
namespace Go.V
noncomputable section
open Go
theorem Ij{d:Nat}:∀(v:AV),d∉v.roots->v.gB d=true
 | .addr r p,h=>by
  simp only[AV.roots,er]at h;simp only[AV.gB,jg,jV];left;cases hb:Nat.beq r d with
  | false=>rfl
  | true=>exact absurd (kO hb).symm h
 | .pair a b,h=>by
  simp only[AV.roots,bL,nT]at h;simp only[AV.gB,bC];exact⟨Ij a h.1,Ij b h.2⟩
 | .jn a,h=>Ij a h
 | .gz _ a,h=>Ij a h
 | .undef,_=>rfl
 | .skip,_=>rfl
 | .cF _,_=>rfl
 | .unit,_=>rfl
 | .fe,_=>rfl
 | .val _ _,_=>rfl
 | .b5 _ _ _,_=>rfl
 | .view _ _ _ _ _,_=>rfl
 | .b_ _ _,_=>rfl
 | .dZ _,_=>rfl
theorem GR{s s':Nat}(h:s≠s'):(!(Nat.ble s s'&&Nat.blt s' (s+1)))=true:=by
 cases h1:Nat.ble s s' with
 | false=>rfl
 | true=>
  cases h2:Nat.blt s' (s+1) with
  | false=>rfl
  | true=>have a:=qQ h1;have b:s'+1<=s+1:=qQ h2;omega
theorem R_{s:Nat}:∀(p:Path),s∉CO p->jl s (s+1) p=true
 | [],_=>rfl
 | x::p,h=>by
  cases x with
  | idx i s'=>simp only[CO,bk,nT]at h;simp only[jl,bC];exact⟨GR h.1,R_ p h.2⟩
  | _=>exact R_ p (by simpa [CO] using h)
theorem IY{s:Nat}:∀(v:AV),s∉v.stamps->v.aR s (s+1)=true
 | .addr r p,h=>R_ p h
 | .b5 r p s',h=>by
  simp only[AV.stamps,bk,nT]at h;simp only[AV.aR,bC];exact⟨GR h.1,R_ p h.2⟩
 | .view r p s' _ _,h=>by
  simp only[AV.stamps,bk,nT]at h;simp only[AV.aR,bC];exact⟨GR h.1,R_ p h.2⟩
 | .pair a b,h=>by
  simp only[AV.stamps,bL,nT]at h;simp only[AV.aR,bC];exact⟨IY a h.1,IY b h.2⟩
 | .jn a,h=>IY a h
 | .gz _ a,h=>IY a h
 | .undef,_=>rfl
 | .skip,_=>rfl
 | .cF _,_=>rfl
 | .unit,_=>rfl
 | .fe,_=>rfl
 | .val _ _,_=>rfl
 | .b_ _ _,_=>rfl
 | .dZ _,_=>rfl
theorem o8:∀{l l':List Nat},iO l l'=true->∀x∈l,x∉l'
 | [],_,_,x,hx=>by simp at hx
 | a::l,l',h,x,hx=>by
  simp only[iO,bC,jV]at h;rcases bk.1 hx with rfl | hx
  .intro hh;have:=h.1;simp at this;exact this hh
  .exact o8 h.2 x hx
theorem R8{S:St}{u r:Nat}:∀{ts:List Nat},u∈ts->r∈(S.get u).roots->r∈dS S ts
 | [],h,_=>by simp at h
 | t::ts,h,hr=>by
  simp only[dS,bL];rcases bk.1 h with rfl | h
  .exact .inl hr
  .exact .inr (R8 h hr)
theorem RY{S:St}{u r:Nat}:∀{ts:List Nat},u∈ts->r∈(S.get u).stamps->r∈cS S ts
 | [],h,_=>by simp at h
 | t::ts,h,hr=>by
  simp only[cS,bL];rcases bk.1 h with rfl | h
  .exact .inl hr
  .exact .inr (RY h hr)
theorem Yq{S T:St}:∀{ts:List Nat},(∀u∈ts,T.get u=S.get u)->dS T ts=dS S ts
 | [],_=>rfl
 | t::ts,h=>by simp only[dS];rw[h t bO,Yq fun u hu=>h u (cD _ hu)]
theorem XI{S T:St}:∀{ts:List Nat},(∀u∈ts,T.get u=S.get u)->cS T ts=cS S ts
 | [],_=>rfl
 | t::ts,h=>by simp only[cS];rw[h t bO,XI fun u hu=>h u (cD _ hu)]
theorem Mb{S T:St}(hl:T.sl.length=S.sl.length)(hg:∀u,T.get u=S.get u)(hr:T.rt=S.rt):T=S:=by
 obtain⟨a,b⟩:=S;obtain⟨c,d⟩:=T;simp only at hl hr;subst hr;have:c=a:=by apply xA hl;intro i h1 h2;have:=hg i;simp only[St.get_eq,List.getD,fN h1,fN h2,uk]at this;exact this
 rw[this]
section
variable {C:Ctx} {D:Den C} {hints:Hints} {id:Nat} {ops:Array Oper}
theorem GG{S T:St}{y:Oper}(h:∀u∈zo ops y,T.get u=S.get u):∀x∈y.op.operands,ev T x=ev S x:=by
 intro x hx;cases x with
 | tmp t=>
  simp only[ev];rw[h t (by
   unfold zo;rw[bL];right;rw[List.mem_filterMap];exact⟨.tmp t,by simpa using hx,rfl⟩)]
 | _=>rfl
theorem OI{S T:St}{y:Oper}(h:∀u∈zo ops y,T.get u=S.get u):nV ops T y=nV ops S y:=by
 unfold nV;cases hg:y.guard with
 | none=>rfl
 | some jb=>obtain⟨j,b⟩:=jb;simp only;rw[h (kI ops j) (by unfold zo;rw[hg];simp)]
theorem F8{S T:St}{j site:Nat}{y:Oper}{v:AV}{a b:aO}(hr:dM C (ev S) y=none\/(T.rt=S.rt/\a=b)\/u7 C (ev S) y=true)(hk:∀u∈zo ops y,T.get u=S.get u)(ho:∀u∈jk ops j y,T.get u=S.get u):jm C ops T site j y v a=jm C ops S site j y v b:=by
 have he:=GG hk;have hv:uy T y=uy S y:=by unfold uy;exact qT fun x hx=>he x (by simpa using hx)
 unfold jm;have hld:uj C (ev T) y v=uj C (ev S) y v:=by
  unfold uj;split
  .rename_i t x hop;rw[he x (by rw[hop];simp[Op.operands])]
  .rename_i t x f hop;rw[he x (by rw[hop];simp[Op.operands])]
  .rfl
 rw[hv,Yq ho,XI ho,abQ (C:=C) y he,aaK (C:=C) y he,hld];rcases hr with h | ⟨h1,h2⟩ | h
 .rw[h]
 .rw[h1,h2]
 .rw[h];cases dM C (ev S) y<;>rfl
theorem aa3{S T:St}{j site:Nat}{y:Oper}(ho:∀u∈jk ops j y,T.get u=S.get u):oz ops T site j y=oz ops S site j y:=by unfold oz;rw[Yq ho,XI ho]
theorem AD{S T:St}{rt rt':aO}{j:Nat}{y:Oper}{v:AV}(hl:T.sl.length=S.sl.length)(ho:∀u∈jk ops j y,T.get u=S.get u):∀u∈jk ops j y,(fin ops ⟨T.sl,rt⟩ j y v).get u=(fin ops ⟨S.sl,rt'⟩ j y v).get u:=by
 intro u hu;rw[zm,zm];simp only[hl];have:=ho u hu;by_cases h1:y.dst=some u/\u<S.sl.length
 .rw[aj h1,aj h1]
 .rw[af h1,af h1];by_cases h2:u∈sr ops j y
  .rw[aj h2,aj h2]
  .rw[af h2,af h2];exact this
theorem FL{S:St}{A:bV}{site:Nat}{hint:Bool}{y:Oper}(hw:dM C (ev S) y=none){T:St}{A':bV}(hrl:T.rt.length=S.rt.length)
  (hr:gP (if rq y then [] else qk (uy S y)) S.rt T.rt) {β:Bool} {v:AV} {rt':aO} (h:(aY C D A (ev S) S.rt site hint y).dec β=some (v,rt')):rt'=S.rt/\(aY C D A' (ev S) T.rt site hint y).dec β=some (v,T.rt):=
 aaZ (A:=A) (A':=A') hrl hw hr β v rt' h
def Ej(e:jo)(S T:aO):Prop:=gP e.rd S T\/e.bl=true\/∃l,e.ld=some l/\l.1 T=some l.2
theorem aaJ{S T:St}{A A':bV}{site:Nat}{hint:Bool}{y:Oper}{β:Bool}{v:AV}{rt':aO}(h:(aY C D A (ev S) S.rt site hint y).dec β=some (v,rt')){l:(aO->Option AV)×AV}(hl:uj C (ev S) y v=some l)
  (hT:l.1 T.rt=some l.2):rt'=S.rt/\(aY C D A' (ev S) T.rt site hint y).dec β=some (v,T.rt):=by
 unfold uj at hl;split at hl
 .rename_i t a hop;simp only[aI]at hl;subst hl;simp only[aY,hop]at h⊢;simp only at hT;by_cases hnz:(C.ty t).nz=true
  .rw[aj hnz]at h hT⊢;rw[hT];cases hv:uY S.rt (C.ty t) (ev S a) with
   | none=>rw[hv]at h;simp[Tr.of,Tr.dec]at h
   | some v2=>rw[hv]at h;simp only[dV,Tr.of,Tr.dec,aI,a_]at h⊢;exact⟨h.2.symm,trivial⟩
  .rw[af hnz]at hT;simp at hT
 .rename_i t a f hop;simp only[aI]at hl;subst hl;simp only[aY,hop]at h⊢;simp only at hT;rw[hT];cases hv:Bz S.rt (C.ty t) (ev S a) f with
  | none=>rw[hv]at h;simp[Tr.of,Tr.dec]at h
  | some v2=>rw[hv]at h;simp only[dV,Tr.of,Tr.dec,aI,a_]at h⊢;exact⟨h.2.symm,trivial⟩
 .simp at hl
theorem Es{S T S':St}{e:jo}{β:Bool}{j:Nat}{y:Oper}(hs:gQ C D hints id ops β S j y=some (S',e))(hl:T.sl.length=S.sl.length)(hrl:T.rt.length=S.rt.length)
  (hk:∀u∈zo ops y,T.get u=S.get u) (ho:∀u∈jk ops j y,T.get u=S.get u)
  (hm:(T.rt=S.rt/\kV T.sl y.dst (id * 256+j+1)=kV S.sl y.dst (id * 256+j+1))\/(e.wr=none/\Ej e S.rt T.rt)) :
  ∃T',gQ C D hints id ops β T j y=some (T',e)/\(∀u∈jk ops j y,T'.get u=S'.get u)/\(e.wr=none->S'.rt=S.rt/\T'.rt=T.rt)/\(T.rt=S.rt->T'.rt=S'.rt):=by
 have hg:=OI (ops:=ops) hk;have he:=GG hk;unfold gQ at hs⊢;rw[hg];split at hs
 .rename_i hgt;simp only[fj,a_]at hs;obtain⟨⟨v,rt'⟩,hd,hS,hee⟩:=hs;subst hS;subst hee;have wC:∀{A:bV}{R:aO},aY C D A (ev T) R (id * 256+j+1) (hints.share.contains (id,j)) y=aY C D A (ev S) R (id * 256+j+1) (hints.share.contains (id,j)) y:=Qm y he;have hq:dM C (ev S) y=none->rt'=S.rt:=fun hw=>(FL (T:=S) (A':=kV S.sl y.dst (id * 256+j+1)) hw rfl (fun _ _=>rfl) hd).1;rcases hm with⟨rS,Dg⟩ | ⟨hw,HW⟩
  .refine⟨fin ops ⟨T.sl,rt'⟩ j y v,?_,AD hl ho,fun hw=>?_,fun _=>?_⟩
   .unfold iB at hd⊢;rw[Dg,wC,rS,hd];simp only[dV,F8 (.inr (.inl ⟨rS,rfl⟩)) hk ho]
   .rw[oB,oB];have:=hq hw;simp only at this⊢;exact⟨this,this.trans rS.symm⟩
   .rw[oB,oB]
  .have za:dM C (ev S) y=none:=hw;have JR:rt'=S.rt/\(aY C D (kV T.sl y.dst (id * 256+j+1)) (ev S) T.rt (id * 256+j+1) (hints.share.contains (id,j)) y).dec β=some (v,T.rt):=by
    rcases HW with HW | hb | ⟨l,h1,h2⟩
    .exact FL (T:=T) (A':=kV T.sl y.dst (id * 256+j+1)) za hrl (HW.sub fun r hr=>by simp only[jm,bL];exact .inr (.inl hr)) hd
    .have hb':rq y=true:=hb;exact FL (T:=T) (A':=kV T.sl y.dst (id * 256+j+1)) za hrl (by rw[aj hb'];intro r hr;simp at hr) hd
    .exact aaJ hd h1 h2
   refine⟨fin ops ⟨T.sl,T.rt⟩ j y v,?_,AD hl ho,fun _=>?_,fun rS=>?_⟩
   .unfold iB;rw[wC,JR.2];simp only[dV,F8 (b:=rt') (.inl za) hk ho]
   .rw[oB,oB];exact⟨JR.1,rfl⟩
   .rw[oB,oB];exact rS.trans JR.1.symm
 .rename_i hgt;simp only[aI,a_]at hs;obtain⟨hS,hee⟩:=hs;subst hS;subst hee;refine⟨fin ops T j y .skip,by rw[aa3 ho],?_,fun _=>?_,fun rS=>?_⟩
  .exact AD (S:=S) (T:=T) (rt:=T.rt) (rt':=S.rt) hl ho
  .rw[oB,oB];exact⟨rfl,rfl⟩
  .rw[oB,oB];exact rS
 .simp at hs
theorem abF{S S':St}{e:jo}{β:Bool}{j:Nat}{y:Oper}(hs:gQ C D hints id ops β S j y=some (S',e))(hw:e.wr=none):S'.rt=S.rt:=by obtain⟨_,_,_,h,_⟩:=Es (T:=S) hs rfl rfl (fun _ _=>rfl) (fun _ _=>rfl) (.inl ⟨rfl,rfl⟩);exact(h hw).1
theorem ajM{ρ:Operand->AV}{o:Oper}{W:List Nat}(h:dM C ρ o=some W):∀d,o.dst=some d->d∈W:=by
 intro d hd;unfold dM at h;simp only[hd,Option.toList_some]at h
 repeat' split at h
 all_goals first
  | (simp only[aI]at h;subst h;simp;done)
  | (simp at h;done)
theorem BJ{S S':St}{e:jo}{β:Bool}{j:Nat}{y:Oper}{W:List Nat}(hs:gQ C D hints id ops β S j y=some (S',e))(hw:e.wr=some W):fE W S.rt S'.rt/\(∀d,y.dst=some d->d∈W):=by
 unfold gQ at hs;split at hs
 .simp only[fj,a_]at hs;obtain⟨⟨v,rt'⟩,hd,hS,hee⟩:=hs;subst hS;subst hee;have za:dM C (ev S) y=some W:=hw;rw[oB];exact⟨aaG za hd,ajM za⟩
 .simp only[aI,a_]at hs;obtain⟨hS,hee⟩:=hs;subst hee;simp[oz]at hw
 .simp at hs
theorem F9{S S':St}{e:jo}{β:Bool}{j:Nat}{y:Oper}(hs:gQ C D hints id ops β S j y=some (S',e)){u:Nat}(hu:u∈jk ops j y) :
  (∀r∈(S.get u).roots,r∈e.rd)/\(∀r∈(S'.get u).roots,r∈e.rd)/\(∀r∈(S.get u).stamps,r∈e.st)/\(∀r∈(S'.get u).stamps,r∈e.st):=by
 unfold gQ at hs;split at hs
 .simp only[fj,a_]at hs;obtain⟨⟨v,rt'⟩,hd,hS,hee⟩:=hs;subst hS;subst hee;simp only[jm,bL];refine⟨fun r hr=>.inr (.inr (R8 hu hr)),fun r hr=>?_,fun r hr=>.inr (RY hu hr),fun r hr=>?_⟩
  .rw[zm]at hr;split at hr
   .exact .inl hr
   .split at hr
    .simp[AV.roots]at hr
    .exact .inr (.inr (R8 hu hr))
  .rw[zm]at hr;split at hr
   .exact .inl hr
   .split at hr
    .simp[AV.stamps]at hr
    .exact .inr (RY hu hr)
 .simp only[aI,a_]at hs;obtain⟨hS,hee⟩:=hs;subst hS;subst hee;simp only[oz];refine⟨fun r hr=>R8 hu hr,fun r hr=>?_,fun r hr=>RY hu hr,fun r hr=>?_⟩
  .rw[zm]at hr;split at hr
   .simp[AV.roots]at hr
   .split at hr
    .simp[AV.roots]at hr
    .exact R8 hu hr
  .rw[zm]at hr;split at hr
   .simp[AV.stamps]at hr
   .split at hr
    .simp[AV.stamps]at hr
    .exact RY hu hr
 .simp at hs
theorem Hv{S S':St}{e:jo}{β:Bool}{j:Nat}{y:Oper}(hs:gQ C D hints id ops β S j y=some (S',e)):S'.sl.length=S.sl.length/\∀u,u∉jk ops j y->S'.get u=S.get u:=by
 refine⟨?_,fun u hu=>(EN hs hu).1⟩;unfold gQ at hs;split at hs
 .simp only[fj,a_]at hs;obtain⟨⟨v,rt'⟩,hd,hS,hee⟩:=hs;subst hS;rw[Io]
 .simp only[aI,a_]at hs;obtain⟨hS,hee⟩:=hs;subst hS;rw[Io]
 .simp at hs
theorem IZ{S S':St}{e:jo}{β:Bool}{j:Nat}{y:Oper}(hs:gQ C D hints id ops β S j y=some (S',e)){d:Option Nat}{s:Nat}{W:List Nat}(hd:∀d',d=some d'->d'∈W)(oG:iO W e.rd=true)
  (hst:e.st.contains s=false):kV S'.sl d s=kV S.sl d s:=by
 obtain⟨hl,hf⟩:=Hv hs;have J2:s∉e.st:=by simpa using hst
 refine KZ d s hl (fun d' e1 k _=>?_) (fun d' e1 k _=>?_) (fun k=>?_)
 .by_cases hk:k∈jk ops j y
  .obtain⟨h1,h2,_,_⟩:=F9 hs hk;have hn:=o8 oG d' (hd d' e1);have a1:d'∉(S.get k).roots:=fun h=>hn (h1 _ h);have a2:d'∉(S'.get k).roots:=fun h=>hn (h2 _ h);simp only[St.get_eq]at a1 a2;rw[Em,Em,bJ a1,bJ a2]
  .have:=hf k hk;simp only[St.get_eq]at this;rw[this]
 .by_cases hk:k∈jk ops j y
  .obtain⟨h1,h2,_,_⟩:=F9 hs hk;have hn:=o8 oG d' (hd d' e1);have a1:d'∉(S.get k).roots:=fun h=>hn (h1 _ h);have a2:d'∉(S'.get k).roots:=fun h=>hn (h2 _ h);have b1:=Ij _ a1;have b2:=Ij _ a2;simp only[St.get_eq]at b1 b2;rw[b1,b2]
  .have:=hf k hk;simp only[St.get_eq]at this;rw[this]
 .by_cases hk:k∈jk ops j y
  .obtain⟨_,_,h1,h2⟩:=F9 hs hk;have b1:=IY (s:=s) _ (fun h=>J2 (h1 _ h));have b2:=IY (s:=s) _ (fun h=>J2 (h2 _ h));simp only[St.get_eq]at b1 b2;rw[b1,b2]
  .have:=hf k hk;simp only[St.get_eq]at this;rw[this]
theorem Ar{S S':St}{e:jo}{β:Bool}{j:Nat}{y:Oper}(hs:gQ C D hints id ops β S j y=some (S',e)):e.site=id * 256+j+1/\e.i=j:=by
 unfold gQ at hs;split at hs
 .simp only[fj,a_]at hs;obtain⟨⟨v,rt'⟩,hd,hS,hee⟩:=hs;subst hee;exact⟨rfl,rfl⟩
 .simp only[aI,a_]at hs;obtain⟨hS,hee⟩:=hs;subst hee;exact⟨rfl,rfl⟩
 .simp at hs
theorem Ox{S:aO}{l:(aO->Option AV)×AV}(h:AU S l=true):l.1 S=some l.2:=by
 have hp:∀(p q:Path),CV p q=true->p=q:=by
  intro p
  induction p with
  | nil=>intro q h;cases q<;>simp_all [CV]
  | cons x p ih=>
   intro q h;cases q with
   | nil=>cases x<;>simp[CV]at h
   | cons y q=>
    cases x<;>cases y<;>simp only[CV,e7]at h
    .rw[ih q h]
    .rw[ih q h]
 unfold AU at h;split at h
 .rename_i r p s r' p' s' h1 h2;simp only[bC]at h;rw[h1,h2,kO h.1.1,hp _ _ h.1.2,kO h.2]
 .rename_i r p r' p' h1 h2;simp only[bC]at h;rw[h1,h2,kO h.1,hp _ _ h.2]
 .simp at h
theorem aj9{S S':St}{e:jo}{β:Bool}{j:Nat}{y:Oper}{W:List Nat}(hs:gQ C D hints id ops β S j y=some (S',e))(hw:e.wr=some W):(e.io=none\/e.io=some (S.rt,S'.rt))/\e.dst=y.dst:=by
 unfold gQ at hs;split at hs
 .simp only[fj,a_]at hs;obtain⟨⟨v,rt'⟩,hd,hS,hee⟩:=hs;subst hS;subst hee;have za:dM C (ev S) y=some W:=hw;rw[oB];simp only[jm,za,gM];cases u7 C (ev S) y
  .exact .inr rfl
  .exact .inl rfl
 .simp only[aI,a_]at hs;obtain⟨hS,hee⟩:=hs;subst hee;simp[oz]at hw
 .simp at hs
theorem Lx{S S':St}{e f:jo}{β:Bool}{j:Nat}{y:Oper}{W:List Nat}(hs:gQ C D hints id ops β S j y=some (S',e))(hw:e.wr=some W)(h:Br e f=true) :
  ((f.bl=true\/∃l,f.ld=some l/\l.1 S.rt=some l.2)/\(f.bl=true\/∃l,f.ld=some l/\l.1 S'.rt=some l.2))/\iO y.dst.toList f.rd=true/\f.st.contains e.site=false:=by
 obtain⟨h1,h2⟩:=aj9 hs hw;unfold Br at h;simp only[bC,jV,jg]at h;obtain⟨⟨a,c⟩,d⟩:=h;refine⟨?_,by rw[<-h2];exact c,d⟩;rcases a with a | a
 .exact⟨.inl a,.inl a⟩
 .split at a
  .rename_i l io hl Jz;rcases h1 with h1 | h1
   .rw[h1]at Jz;simp at Jz
   rw[h1]at Jz;simp only[aI]at Jz;subst Jz;simp only[bC]at a;exact⟨.inr ⟨l,hl,Ox a.1⟩,.inr ⟨l,hl,Ox a.2⟩⟩
  .simp at a
theorem ajl{ρ:Operand->AV}{o:Oper}{W:List Nat}(hw:dM C ρ o=some W)(hl:u7 C ρ o=true):rq o=false:=by unfold dM at hw;unfold rq;cases ho:o.op<;>rw[ho]at hw<;>simp_all
theorem L5{S T S':St}{e:jo}{β:Bool}{j:Nat}{y:Oper}{W:List Nat}(hs:gQ C D hints id ops β S j y=some (S',e))(hw:e.wr=some W)(hlc:e.lc=true)(hl:T.sl.length=S.sl.length)(hrl:T.rt.length=S.rt.length)
  (hk:∀u∈zo ops y,T.get u=S.get u) (ho:∀u∈jk ops j y,T.get u=S.get u) (Dg:kV T.sl y.dst (id * 256+j+1)=kV S.sl y.dst (id * 256+j+1))
  (hr:gP (W++e.rd) S.rt T.rt):∃T',gQ C D hints id ops β T j y=some (T',e)/\(∀u∈jk ops j y,T'.get u=S'.get u)/\gP W S'.rt T'.rt:=by
 have hg:=OI (ops:=ops) hk;have he:=GG hk;unfold gQ at hs⊢;rw[hg];split at hs
 .rename_i hgt;simp only[fj,a_]at hs;obtain⟨⟨v,rt'⟩,hd,hS,hee⟩:=hs;subst hS;subst hee;have za:dM C (ev S) y=some W:=hw;have Ds:u7 C (ev S) y=true:=hlc;have hb:=ajl za Ds;unfold iB at hd⊢;obtain⟨e_,k1,k2,k3⟩:=akb (A:=kV S.sl y.dst (id * 256+j+1)) hr hrl Ds (fun r hr=>by
   refine bL.2 (.inr ?_);simp only[jm,hb,e7,dX,bL];exact .inr (.inl hr)) v rt' hd
  refine⟨fin ops ⟨T.sl,e_⟩ j y v,?_,AD hl ho,?_⟩
  .rw[Dg,Qm y he,k1];simp only[dV,F8 (b:=rt') (.inr (.inr Ds)) hk ho]
  .rw[oB,oB];exact k2.sub fun r hr=>bL.2 (.inl hr)
 .simp only[aI,a_]at hs;obtain⟨hS,hee⟩:=hs;subst hee;simp[oz]at hw
 .simp at hs
theorem aje{S T:aO}(hl:T.length=S.length)(h:∀r,T.root r=S.root r):T=S:=by apply xA hl;intro i h1 h2;have:=h i;simp only[aO.g8,List.getD,fN h1,fN h2,uk]at this;exact this
theorem swap{S S1 S2:St}{ex ey:jo}{βx βy:Bool}{i j:Nat}{x y:Oper}(h1:gQ C D hints id ops βx S i x=some (S1,ex))(h2:gQ C D hints id ops βy S1 j y=some (S2,ey))
  (hap:Hu ops i j x y=true) (hfr:ex.free ey=true):∃T1,gQ C D hints id ops βy S j y=some (T1,ey)/\gQ C D hints id ops βx T1 i x=some (S2,ex):=by
 simp only[Hu,bC]at hap;obtain⟨⟨p1,p2⟩,p3⟩:=hap;obtain⟨l1,f1⟩:=Hv h1;obtain⟨l2,f2⟩:=Hv h2;have n1:∀u∈zo ops y,S.get u=S1.get u:=fun u hu=>(f1 u fun h=>o8 p1 u h hu).symm;have n2:∀u∈jk ops j y,S.get u=S1.get u:=fun u hu=>(f1 u fun h=>o8 p2 u h hu).symm
 -- zu two akn,and what comes out
 have key:∀(hm:(S.rt=S1.rt/\kV S.sl y.dst (id * 256+j+1)=kV S1.sl y.dst (id * 256+j+1))\/(ey.wr=none/\Ej ey S1.rt S.rt))(hrl:S.rt.length=S1.rt.length),
   ∃T1,gQ C D hints id ops βy S j y=some (T1,ey)/\(ey.wr=none->S2.rt=S1.rt/\T1.rt=S.rt)/\(S.rt=S1.rt->T1.rt=S2.rt)/\
    (∀(hm2:(T1.rt=S.rt/\kV T1.sl x.dst (id * 256+i+1)=kV S.sl x.dst (id * 256+i+1))\/(ex.wr=none/\Ej ex S.rt T1.rt))(JU:T1.rt.length=S.rt.length),
     ∃T2,gQ C D hints id ops βx T1 i x=some (T2,ex)/\(ex.wr=none->S1.rt=S.rt/\T2.rt=T1.rt)/\(T1.rt=S.rt->T2.rt=S1.rt)/\(T2.rt=S2.rt->T2=S2)):=by
  intro hm hrl;obtain⟨T1,k1,k2,k3,k4⟩:=Es h2 l1.symm hrl n1 n2 hm;refine⟨T1,k1,k3,k4,fun hm2 JU=>?_⟩;obtain⟨lT,fT⟩:=Hv k1;obtain⟨T2,q1,q2,q3,q4⟩:=Es h1 lT JU (fun u hu=>fT u fun h=>o8 p3 u h hu) (fun u hu=>fT u fun h=>o8 p2 u hu h) hm2;obtain⟨Wa,UI⟩:=Hv q1;refine⟨T2,q1,q3,q4,fun rS=>Mb (by rw[Wa,lT,l2,l1]) (fun u=>?_) rS⟩;by_cases hx:u∈jk ops i x
  .rw[q2 u hx,f2 u fun h=>o8 p2 u hx h]
  .rw[UI u hx];by_cases hy:u∈jk ops j y
   .exact k2 u hy
   .rw[fT u hy,f2 u hy,f1 u hx]
 obtain⟨sx,_⟩:=Ar h1;obtain⟨sy,_⟩:=Ar h2;cases qY:ex.wr with
 | none=>
  have r1:S1.rt=S.rt:=abF h1 qY;cases pQ:ey.wr with
  | none=>obtain⟨T1,k1,k2,k3,k4⟩:=key (.inr ⟨pQ,.inl fun r _=>by rw[r1]⟩) (by rw[r1]);obtain⟨e1,e2⟩:=k2 pQ;obtain⟨T2,q1,q2,q3,q4⟩:=k4 (.inr ⟨qY,.inl fun r _=>by rw[e2]⟩) (by rw[e2]);have:=q4 ((q2 qY).2.trans (e2.trans (r1.symm.trans e1.symm)));subst this;exact⟨T1,k1,q1⟩
  | some W=>
   simp only[jo.free,qY,pQ,jg]at hfr;rcases hfr with hfr | hfr
   rotate_left
   .obtain⟨⟨a1,a2⟩,d1,d2⟩:=Lx h2 pQ hfr;rw[sy]at d2;obtain⟨T1,k1,k2,k3,k4⟩:=key (.inl ⟨r1.symm,(IZ h1 (W:=y.dst.toList) (fun d' hd'=>by rw[hd'];simp) d1 d2).symm⟩) (by rw[r1]);obtain⟨fr,_⟩:=BJ k1 pQ;have eT:=k3 r1.symm;obtain⟨T2,q1,q2,q3,q4⟩:=k4 (.inr ⟨qY,.inr (by rw[eT];exact a2)⟩) fr.len;have:=q4 ((q2 qY).2.trans eT);subst this;exact⟨T1,k1,q1⟩
   simp only[A9,bC,jV]at hfr;obtain⟨d1,d2⟩:=hfr;obtain⟨_,Sz⟩:=BJ h2 pQ;rw[sy]at d2;obtain⟨T1,k1,k2,k3,k4⟩:=key (.inl ⟨r1.symm,(IZ h1 Sz d1 d2).symm⟩) (by rw[r1]);obtain⟨fr,_⟩:=BJ k1 pQ;obtain⟨T2,q1,q2,q3,q4⟩:=k4 (.inr ⟨qY,.inl fun r hr=>fr.root r fun h=>o8 d1 r h hr⟩) fr.len;have:=q4 ((q2 qY).2.trans (k3 r1.symm));subst this;exact⟨T1,k1,q1⟩
 | some W=>
  cases pQ:ey.wr with
  | none=>
   simp only[jo.free,qY,pQ,jg]at hfr;rcases hfr with hfr | hfr
   rotate_left
   .obtain⟨⟨a1,a2⟩,d1,d2⟩:=Lx h1 qY hfr;obtain⟨fr,Sz⟩:=BJ h1 qY;rw[sx]at d2;obtain⟨T1,k1,k2,k3,k4⟩:=key (.inr ⟨pQ,.inr a1⟩) fr.len.symm;obtain⟨e1,e2⟩:=k2 pQ;obtain⟨T2,q1,q2,q3,q4⟩:=k4 (.inl ⟨e2,IZ k1 (W:=x.dst.toList) (fun d' hd'=>by rw[hd'];simp) d1 d2⟩) (by rw[e2]);have:=q4 ((q3 e2).trans e1.symm);subst this;exact⟨T1,k1,q1⟩
   simp only[A9,bC,jV]at hfr;obtain⟨d1,d2⟩:=hfr;obtain⟨fr,Sz⟩:=BJ h1 qY;rw[sx]at d2;obtain⟨T1,k1,k2,k3,k4⟩:=key (.inr ⟨pQ,.inl fun r hr=>(fr.root r fun h=>o8 d1 r h hr).symm⟩) fr.len.symm;obtain⟨e1,e2⟩:=k2 pQ;obtain⟨T2,q1,q2,q3,q4⟩:=k4 (.inl ⟨e2,IZ k1 Sz d1 d2⟩) (by rw[e2]);have:=q4 ((q3 e2).trans e1.symm);subst this;exact⟨T1,k1,q1⟩
  | some W2=>
   simp only[jo.free,qY,pQ,bC,jV]at hfr;obtain⟨⟨⟨lx,ly⟩,⟨d1,d2⟩,d3,d4⟩,s1,s2⟩:=hfr;obtain⟨Sr,rO⟩:=BJ h1 qY;obtain⟨Ss,vr⟩:=BJ h2 pQ;rw[sy]at s1;rw[sx]at s2;obtain⟨T1,k1,k2,k3⟩:=L5 (T:=S) h2 pQ ly l1.symm Sr.len.symm n1 n2 (IZ h1 vr d3 s1).symm
    (fun r hr=>(Sr.root r fun h=>by
     rcases bL.1 hr with h' | h'
     .exact o8 d2 r h h'
     .exact o8 d1 r h h').symm)
   obtain⟨lT,fT⟩:=Hv k1;obtain⟨Su,_⟩:=BJ k1 pQ;obtain⟨T2,q1,q2,q3⟩:=L5 h1 qY lx lT Su.len (fun u hu=>fT u fun h=>o8 p3 u h hu) (fun u hu=>fT u fun h=>o8 p2 u hu h) (IZ k1 rO d1 s2)
    (fun r hr=>Su.root r fun h=>by
     rcases bL.1 hr with h' | h'
     .exact o8 d4 r h h'
     .exact o8 d3 r h h')
   obtain⟨Wa,UI⟩:=Hv q1;obtain⟨Je,_⟩:=BJ q1 qY;have rS:T2.rt=S2.rt:=by
    refine aje (by rw[Je.len,Su.len,Ss.len,Sr.len]) fun r=>?_;by_cases hx:r∈W
    .rw[q3 r hx,Ss.root r fun h=>o8 d2 r hx h]
    .rw[Je.root r hx];by_cases hy:r∈W2
     .exact k3 r hy
     .rw[Su.root r hy,Ss.root r hy,Sr.root r hx]
   have:T2=S2:=Mb (by rw[Wa,lT,l2,l1]) (fun u=>by
    by_cases hx:u∈jk ops i x
    .rw[q2 u hx,f2 u fun h=>o8 p2 u hx h]
    .rw[UI u hx];by_cases hy:u∈jk ops j y
     .exact k2 u hy
     .rw[fT u hy,f2 u hy,f1 u hx]) rS
   subst this;exact⟨T1,k1,q1⟩
end
end
end Go.V

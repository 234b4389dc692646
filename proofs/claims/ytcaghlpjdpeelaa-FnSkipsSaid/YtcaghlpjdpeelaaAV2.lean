import Derived.Test.YtcaghlpjdpeelaaAV1
set_option linter.unusedVariables false
set_option linter.unusedSimpArgs false
set_option linter.unusedSectionVars false
namespace Go.V
open Go
theorem zA:∀(ks:List PK)(au:List AV)(rt cm:aD)(gd:fP ks),ks.all (fun k=>!k.hO)=true->dP rt ks au=some (gd,cm)->cm=rt
 | [],au,rt,cm,gd,_,hb=>by
  cases au with
  | nil=>simp only[dP,ay,aJ]at hb;exact hb.2.symm
  | cons a au=>simp[dP]at hb
 | k::ks,[],rt,cm,gd,_,hb=>by cases k<;>simp[dP]at hb
 | k::ks,a::au,rt,cm,gd,hn,hb=>by
  simp only[eU,aO]at hn;cases k with
  | own t m=>simp[PK.hO]at hn
  | val t=>exact zA ks au rt cm gd hn.2 (by simpa only [dP] using hb)
  | bS t m m'=>exact zA ks au rt cm gd hn.2 (by simpa only [dP] using hb)
  | cD t m m'=>exact zA ks au rt cm gd hn.2 (by simpa only [dP] using hb)
  | bP t=>exact zA ks au rt cm gd hn.2 (by simpa only [dP] using hb)
  | fn=>exact zA ks au rt cm gd hn.2 (by simpa only [dP] using hb)
theorem vZ{h h2:Array Obj}{Pr eg:BS}{Fs kH:Nat->BS}:∀(ks:List PK)(i:Nat){gd:fP ks}{vs:List Value},ks.all (fun k=>!k.hO)=true->jz h Pr Fs i ks gd vs->jz h2 eg kH i ks gd vs
 | [],_,_,_,_,k=>k
 | q::ks,i,gd,vs,hn,k=>by
  simp only[eU,aO]at hn;cases q with
  | own t m=>simp[PK.hO]at hn
  | val t=>obtain⟨v,vs',e,k⟩:=k;exact⟨v,vs',e,vZ ks (i+1) hn.2 k⟩
  | bS t m m'=>obtain⟨v,vs',e,k⟩:=k;exact⟨v,vs',e,vZ ks (i+1) hn.2 k⟩
  | cD t m m'=>obtain⟨v,vs',e,k⟩:=k;exact⟨v,vs',e,vZ ks (i+1) hn.2 k⟩
  | bP t=>obtain⟨v,vs',e,k⟩:=k;exact⟨v,vs',e,vZ ks (i+1) hn.2 k⟩
  | fn=>obtain⟨v,vs',e,k⟩:=k;exact⟨v,vs',e,vZ ks (i+1) hn.2 k⟩
structure oC (h:Array Obj) (ks:List PK) (au:List AV) (vs:List Value) (rt cX:aD) (od:bV ks) (n:Nat) (v:Value) (q:Nat) (t:Ty) (m m':Mk) (R:aB) (x:t.den):Prop where
 root:rt.root q=some R
 Ef:m.aG R.ms=true
 mem:R.mem=true
 cast:qbv R.ty t R.x=some x
 cX:cX=rt.ak q none
 ls:∀Pr Fs i,ow h Pr t m x v (Fs (i+n))->nY h Pr Fs i ks od vs
 out:∀o:bV ks,∃y:t.den,(∀m_ site jo,dY m_ site ks au o=some jo->m'.af=true/\jo=m_.ak q (some ⟨t,m'.stamp site,y,true⟩))/\
  ∀h' dD Os i,iZ h' dD Os i ks o vs->ow h' dD t m' y v (Os (i+n))
 full:ks.all PK.full=true->m'.full t=true
structure oD (h:Array Obj) (ks:List PK) (au:List AV) (vs:List Value) (rt cX:aD) (od:bV ks) (n:Nat) (a:AV) (v:Value) (q:Nat) (p:Path) (R:aB) (md:Mk) (t:Ty) (xd:t.den) (m m' mx:Mk) (x:t.den):Prop where
 place:gz a=some (q,p)
 root:rt.root q=some R
 vg:focus R.ty R.ms R.x p=some ⟨t,md,xd⟩
 pn:gn q t a p md xd=some (mx,x)
 paths:nR a p=true
 Ef:m.aG mx=true
 cX:cX=rt.ak q none
 ls:∀Pr Fs i,kE h Pr t m x v (Fs (i+n))->nY h Pr Fs i ks od vs
 out:∀o:bV ks,∃y:t.den,(∀m_ site jo,dY m_ site ks au o=some jo->pK m_ site t a m' y=some jo)/\
  ∀h' dD Os i,iZ h' dD Os i ks o vs->kE h' dD t m' y v (Os (i+n))
 full:ks.all PK.full=true->m'.full t=true
theorem FI{h:Array Obj}{Pr:BS}{Fs:Nat->BS}{S:St}{g:ai}{ks:List PK}{au:List AV}{vs:List Value}{i:Nat}{rt cX:aD}{od:bV ks}(hn:(ks.filter PK.cC).length=0)
  (ha:gU h S g au vs) (hb:eC rt ks au=some (od,cX)):cX=rt/\nY h Pr Fs i ks od vs:=by
 refine zu ks au vs i rt cX od ?_ ha hb;rw[iC,Bz]at hn;simpa using hn
theorem y7{site:Nat}:∀(ks:List PK)(au:List AV)(o:bV ks)(rt jo:aD),(ks.filter PK.cC).length=0->dY rt site ks au o=some jo->jo=rt
 | [],au,o,rt,jo,_,hb=>by
  cases au with
  | nil=>simp only[dY,ay]at hb;exact hb.symm
  | cons a au=>simp[dY]at hb
 | k::ks,[],o,rt,jo,_,hb=>by cases k<;>simp[dY]at hb
 | k::ks,a::au,o,rt,jo,hn,hb=>by
  cases k with
  | bS t m m'=>simp[PK.cC]at hn
  | cD t m m'=>simp[PK.cC]at hn
  | val t=>exact y7 ks au o rt jo (by simpa [PK.cC] using hn) (by simpa only [dY] using hb)
  | own t m=>exact y7 ks au o rt jo (by simpa [PK.cC] using hn) (by simpa only [dY] using hb)
  | bP t=>exact y7 ks au o rt jo (by simpa [PK.cC] using hn) (by simpa only [dY] using hb)
  | fn=>exact y7 ks au o rt jo (by simpa [PK.cC] using hn) (by simpa only [dY] using hb)
theorem Df{h:Array Obj}{S:St}{g:ai}:∀(ks:List PK)(au:List AV)(vs:List Value)(rt cX:aD)(od:bV ks),(ks.filter PK.cC).length=1->gU h S g au vs->eC rt ks au=some (od,cX)->ov ks au=true->
  ∃n a v,qe h S g a v/\((∃q t m m' R x,a=.addr q []/\oC h ks au vs rt cX od n v q t m m' R x)\/(∃q p R md t xd m m' mx x,oD h ks au vs rt cX od n a v q p R md t xd m m' mx x))
 | [],au,vs,rt,cX,od,hn,ha,hb,hlo=>by simp at hn
 | k::ks,[],vs,rt,cX,od,hn,ha,hb,hlo=>by cases k<;>simp[eC]at hb
 | k::ks,a::au,vs,rt,cX,od,hn,ha,hb,hlo=>by
  obtain⟨v,vs',rfl,r1,r2⟩:=ha;have step:∀(hk:k.cC=false)(Aj:ov ks au=true)(EF:bV ks),eC rt ks au=some (EF,cX)->
    (∀h Pr Fs i,nY h Pr Fs (i+1) ks EF vs'->nY h Pr Fs i (k::ks) od (v::vs'))->
    (∀o:bV (k::ks),∃o':bV ks,(∀m_ site,dY m_ site (k::ks) (a::au) o=dY m_ site ks au o')/\∀h' dD Os i,iZ h' dD Os i (k::ks) o (v::vs')->iZ h' dD Os (i+1) ks o' vs')->
    ∃n a' v',qe h S g a' v'/\((∃q t m m' R x,a'=.addr q []/\oC h (k::ks) (a::au) (v::vs') rt cX od n v' q t m m' R x)\/(∃q p R md t xd m m' mx x,oD h (k::ks) (a::au) (v::vs') rt cX od n a' v' q p R md t xd m m' mx x)):=by
   intro hk Aj EF hb' hls hout;have hn':(ks.filter PK.cC).length=1:=by rw[List.filter_cons_of_neg (by simp[hk])]at hn;exact hn
   obtain⟨n,a',v',ra,oP⟩:=Df ks au vs' rt cX EF hn' r2 hb' Aj;refine⟨n+1,a',v',ra,?_⟩;rcases oP with⟨q,t,m,m',R,x,e,L⟩ | ⟨q,p,R,md,t,xd,m,m',mx,x,L⟩
   .refine .inl ⟨q,t,m,m',R,x,e,L.root,L.Ef,L.mem,L.cast,L.cX,?_,?_,?_⟩
    .intro Pr Fs i hp;exact hls _ _ _ _ (L.ls Pr Fs (i+1) (by rw[show i+1+n=i+(n+1) by omega];exact hp))
    .intro o;obtain⟨o',vE,mX⟩:=hout o;obtain⟨y,hy1,jv⟩:=L.out o';refine⟨y,fun m_ site jo hh=>hy1 m_ site jo (by rw[<-vE];exact hh),fun h' dD Os i hh=>?_⟩;have:=jv h' dD Os (i+1) (mX h' dD Os i hh)
     rwa [show i+1+n=i+(n+1) by omega]at this
    .intro hf;simp only[eU,aO]at hf;exact L.full hf.2
   .refine .inr ⟨q,p,R,md,t,xd,m,m',mx,x,L.place,L.root,L.vg,L.pn,L.paths,L.Ef,L.cX,?_,?_,?_⟩
    .intro Pr Fs i hp;exact hls _ _ _ _ (L.ls Pr Fs (i+1) (by rw[show i+1+n=i+(n+1) by omega];exact hp))
    .intro o;obtain⟨o',vE,mX⟩:=hout o;obtain⟨y,hy1,jv⟩:=L.out o';refine⟨y,fun m_ site jo hh=>hy1 m_ site jo (by rw[<-vE];exact hh),fun h' dD Os i hh=>?_⟩;have:=jv h' dD Os (i+1) (mX h' dD Os i hh)
     rwa [show i+1+n=i+(n+1) by omega]at this
    .intro hf;simp only[eU,aO]at hf;exact L.full hf.2
  cases k with
  | val t=>exact step rfl (by simpa only [ov] using hlo) od (by simpa only [eC] using hb) (fun h Pr Fs i k=>⟨v,vs',rfl,k⟩) (fun o=>⟨o,fun _ _=>by simp only[dY],fun h' dD Os i k=>by obtain⟨_,_,e,k⟩:=k;simp only[dj]at e;obtain⟨-,rfl⟩:=e;exact k⟩)
  | own t m=>exact step rfl (by simpa only [ov] using hlo) od (by simpa only [eC] using hb) (fun h Pr Fs i k=>⟨v,vs',rfl,k⟩) (fun o=>⟨o,fun _ _=>by simp only[dY],fun h' dD Os i k=>by obtain⟨_,_,e,k⟩:=k;simp only[dj]at e;obtain⟨-,rfl⟩:=e;exact k⟩)
  | bP t=>exact step rfl (by simpa only [ov] using hlo) od (by simpa only [eC] using hb) (fun h Pr Fs i k=>⟨v,vs',rfl,k⟩) (fun o=>⟨o,fun _ _=>by simp only[dY],fun h' dD Os i k=>by obtain⟨_,_,e,k⟩:=k;simp only[dj]at e;obtain⟨-,rfl⟩:=e;exact k⟩)
  | fn=>exact step rfl (by simpa only [ov] using hlo) od (by simpa only [eC] using hb) (fun h Pr Fs i k=>⟨v,vs',rfl,k⟩) (fun o=>⟨o,fun _ _=>by simp only[dY],fun h' dD Os i k=>by obtain⟨_,_,e,k⟩:=k;simp only[dj]at e;obtain⟨-,rfl⟩:=e;exact k⟩)
  | bS t m m'=>
   have hn':(ks.filter PK.cC).length=0:=by rw[By (by rfl)]at hn;simpa using hn
   cases a with
   | addr q p=>
    cases p with
    | nil=>
     simp only[eC]at hb;split at hb
     .rename_i R hR;split at hb
      .rename_i hc;simp only[bD,ay,aJ]at hb;obtain⟨x,hx,⟨SP,qK⟩,hb,e1,e2⟩:=hb;subst e2;obtain⟨e3,_⟩:=FI (h:=h) (Pr:=Nil) (Fs:=fun _=>Nil) (i:=0) hn' r2 hb;refine⟨0,.addr q [],v,r1,.inl ⟨q,t,m,m',R,x,rfl,hR,hc.1,hc.2,hx,e3,?_,?_,?_⟩⟩
       .intro Pr Fs i hp;subst e1;exact⟨v,vs',rfl,hp,(FI hn' r2 hb).2⟩
       .intro o;refine⟨o.1,fun m_ site jo hh=>?_,fun h' dD Os i hh=>?_⟩
        .simp only[dY]at hh;split at hh
         .rename_i ht;exact⟨ht,y7 ks au o.2 _ _ hn' hh⟩
         .simp at hh
        .obtain⟨_,_,e,k,_⟩:=hh;simp only[dj]at e;obtain⟨rfl,-⟩:=e;exact k
       .intro hf;simp only[eU,aO]at hf;exact hf.1
      .simp at hb
     .simp at hb
    | cons _ _=>simp[eC]at hb
   | _=>simp[eC]at hb
  | cD t m m'=>
   have hn':(ks.filter PK.cC).length=0:=by rw[By (by rfl)]at hn;simpa using hn
   simp only[eC]at hb;split at hb
   .rename_i q p Au;split at hb
    .rename_i R hR;simp only[bD]at hb;obtain⟨⟨td,md,xd⟩,hf,hb⟩:=hb;split at hb
     .rename_i OD;simp only at OD;subst OD;simp only[bD]at hb;obtain⟨⟨mx,x⟩,mw,hb⟩:=hb;split at hb
      .rename_i hs;simp only[bD,ay,aJ]at hb;obtain⟨⟨SP,jo⟩,hb,e1,e2⟩:=hb;subst e2;obtain⟨e3,_⟩:=FI (h:=h) (Pr:=Nil) (Fs:=fun _=>Nil) (i:=0) hn' r2 hb;refine⟨0,a,v,r1,.inr ⟨q,p,R,md,_,xd,m,m',mx,x,Au,hR,hf,mw,(by simp only[ov,Au,aO]at hlo;exact hlo.1),hs,e3,?_,?_,?_⟩⟩
       .intro Pr Fs i hp;subst e1;exact⟨v,vs',rfl,hp,(FI hn' r2 hb).2⟩
       .intro o;refine⟨o.1,fun m_ site jo hh=>?_,fun h' dD Os i hh=>?_⟩
        .simp only[dY,bD]at hh;obtain⟨WK,h5,h6⟩:=hh;rw[y7 ks au o.2 _ _ hn' h6];exact h5
        .obtain⟨_,_,e,k,_⟩:=hh;simp only[dj]at e;obtain⟨rfl,-⟩:=e;exact k
       .intro hf;simp only[eU,aO]at hf;exact hf.1
      .simp at hb
     .simp at hb
    .simp at hb
   .simp at hb
theorem Bq{h:Array Obj}{S:St}{g:ai}{tmps:Array Value}{H:BS}(st:aj h S g tmps H)(q:Nat):Kp h S g (S.ak q none) g:=by
 have aP:∀r',(S.ak q none).root r'=S.root r'\/(S.ak q none).root r'=none:=by intro r';rw[St.bg];by_cases e:r'=q/\q<S.rt.length<;>simp[e]
 intro u v y;refine(qe.keep (Sub.refl _) (fun _ _=>rfl) u).1 v y (AV.ct (fun r p=>?_) (fun r p s=>?_) u)
 .exact(jm st (aP r) rfl rfl (fun _ _ _=>rfl)).1 p
 .exact(jm st (aP r) rfl rfl (fun _ _ _=>rfl)).2 p s
theorem Ic{h h2:Array Obj}{t:Ty}{x y:t.den}{m2:Mk}{c c2:List Value}{base:dc}{site:Nat}(hf:m2.fresh site (site+1)) :
  ∀p' t1 n1,gf site (site+1) p'=true->q8 t m2 p'=some (t1,n1)->bO t x p'->bO t y p'/\∀bp cp,a_ h t c base p'=some (bp,cp)->
   ∃fh,a_ h2 t c2 base p'=some (bp,fh)/\(∀s a,n1=.own s a->¬ (site<=s/\s<site+1)->fh=cp):=by
 intro p' t1 n1 hp dF _;obtain⟨hi',iw⟩:=uO p' hf hp dF;refine⟨pZ _ _ hi' dF,fun bp cp ha=>?_⟩;obtain⟨fh,h3⟩:=uS (h':=h2) p' _ c2 _ hi' ha;exact⟨fh,h3,fun s a' e hs=>by subst e;exact absurd iw hs⟩
section
variable {P:Program} {C:Ctx} {D:Den C} {S:St} {g:ai} {w:World} {tmps:Array Value}
variable {A:aZ} {site:Nat} (eG:oA P C D) (st:aj w.heap S g tmps Nil)
include eG st
theorem Ia{f:FuncId}{au:List AV}{vs:List Value}{d:Option Nat}(ok:jk A S d site)(hfr:site<1048576/\∀u,(S.get u).aH site (site+1)=true)
  (ha:gU w.heap S g au vs) (GW:(C.sig f).params.all (fun k=>!k.hO)=true) {gd:fP (C.sig f).params} (h1:dP S.rt (C.sig f).params au=some (gd,S.rt))
  {od:bV (C.sig f).params} {cX:aD} {n:Nat} {v0:Value} {q:Nat} {t:Ty} {m m':Mk} {R:aB} {x:t.den} (lQ:qe w.heap S g (.addr q []) v0)
  (L:oC w.heap (C.sig f).params au vs S.rt cX od n v0 q t m m' R x) {a:eF (C.sig f).params} (h3:fH cX (C.sig f).params au gd od=some a)
  (hs:iy (C.sig f).params au=true\/(C.sig f).full=true) {r:dU (C.sig f).res×bV (C.sig f).params} (hD:D f a=some r) {β:Bool} {v:AV} {qK rt':aD}
  (ho:dY S.rt site (C.sig f).params au r.2=some qK) (he:(ig A qK d site (C.sig f).res r.1).dec β=some (v,rt')) :
  Calls P f vs.toArray w fun e w'=>∃val,e=.returned val/\Post S g w tmps v rt' val w':=by
 have hR:=L.root;have aQ:(S.root q).isSome:=by show(S.rt.root q).isSome=true;rw[hR];rfl
 obtain⟨e1,e2⟩:=uP L.cast;obtain⟨Rt,Rm,Rx,FV⟩:=R;simp only at e1 e2;subst e1;simp only at e2;subst e2;have hmem:FV=true:=L.mem;subst hmem;obtain⟨base,c,F,q1,q2,q3,q4,q5,q6⟩:=st.iO hR (AX Rt Rm Rx) (pG _ _);simp only[qe]at lQ;obtain⟨_,b,off,c',cz,zO⟩:=lQ _ hR _ (AX _ _ _);rw[vS]at cz q1;simp only[ay,aJ]at cz q1;obtain⟨aU,ek⟩:=q1;obtain⟨zY,Wz⟩:=cz;obtain⟨Wp,_,_,_,iJ,_⟩:=st.roots q _ hR;obtain⟨b0,hB,Of,jY⟩:=iJ rfl;have hbase:g.base q=some (b0,0):=by simp[ai.base,hB]
 rw[hbase]at aU zY;simp only[ay,aJ]at zY;obtain⟨rfl,rfl⟩:=zY;subst aU;subst ek;obtain⟨lR,_⟩:=q4 b0 0 rfl;obtain⟨F1,F2,s1,s2,s3,s4⟩:=ag.aG Rt L.Ef q2;have kg:=(st.eB aQ).bH F2 (fun z hz=>.inr (q3 z (s2 z hz)))
 let g2:ai:={ g with Pr:=Un g.Pr F2 }
 have r6:Kp w.heap S g (S.ak q none) g2:=(Bq st q).trans (y5 (st.eB aQ) F2)
 let Fs:Nat->BS:=fun j=>if j=n then (fun z=>z=b0\/F1 z) else Nil
 have jN:∀i,Sub (Fs i) (fun z=>(Nil z\/g.G q z)/\¬ F2 z):=by
  intro i z hz;simp only[Fs]at hz;split at hz
  .rcases hz with rfl | hz
   .exact⟨.inr Of,fun h=>lR (s2 _ h)⟩
   .exact⟨.inr (q3 z (s1 z hz)),fun h=>s3 z hz h⟩
  .exact hz.elim
 have e2:cX=(S.ak q none).rt:=L.cX;subst e2;obtain⟨RR,Rv,FF,kk⟩:=tQ (sl:=S.sl) (C.sig f).params au vs S.rt g Nil 0 gd S.rt ha st h1;have hG:=vZ (h2:=w.heap) (eg:=g2.Pr) (kH:=Fs) (C.sig f).params 0 GW kk.2.2.2.2.1;have hL:=L.ls g2.Pr Fs 0 (by
  simp only[g_,Fs,aK];exact⟨b0,g.C q,F1,zO,s4,jY,.inl rfl,fun z hz=>.inr hz,fun h=>lR (s1 _ h)⟩)
 have hps:=pY kg (sh:=iy (C.sig f).params au) (Fs:=Fs) (C.sig f).params au vs 0 gd od a (fun h=>h) (ha.kp r6) hG hL h3;have vm:∀i j,i≠j->bz (Fs i) (Fs j):=by
  intro i j hij z h1 h2;simp only[Fs]at h1 h2;split at h1
  .split at h2
   .omega
   .exact h2
  .exact h1
 have pre:Pre w.heap (Seen (iy (C.sig f).params au) (S.ak q none) g2) Fs (C.sig f).params a vs:=
  ⟨hps,vm,fun i z hz=>sK kg _ z (jN i z hz),fun i z hz=>kg.cv z (jN i z hz),sL kg _⟩
 refine(eG.ok f a r hD w _ Fs vs pre).mono ?_;rintro e w' ⟨val,dD,Gs,Os,us,rfl,p⟩;obtain⟨y,hy1,jv⟩:=L.out r.2;obtain⟨vD,rfl⟩:=hy1 S.rt site qK ho;obtain⟨b2,c2,Ej,vf,fJ,jZ,Gg,oK,hnb⟩:=jv _ _ _ _ p.out;rw[g_]at Gg oK;rw[zO]at vf;simp only[Value.pointer.injEq,ay,Addr.mk.injEq,f_]at vf;subst vf;have fC:∀z,nh w.heap.size Fs z->w.heap.size<=z\/z=b0\/F1 z:=by
  rintro z (h | ⟨i,h⟩)
  .exact .inl h
  .simp only[Fs]at h;split at h
   .exact .inr h
   .exact h.elim
 let Dd:BS:=fun z=>iy (C.sig f).params au=true/\dD z/\¬ g.Pr z
 have Gc:∀z,Dd z->F z\/Nil z\/w.heap.size<=z:=by
  rintro z ⟨hsh,h1,h2⟩;rcases p.gM z h1 with h3 | h3
  .rw[hsh]at h3;simp only[Seen,aK]at h3;rcases h3 with h3 | h3
   .exact absurd h3 h2
   .exact .inl (s2 z h3)
  .rcases fC z h3 with h4 | rfl | h4
   .exact .inr (.inr h4)
   .exact(p.op n z Gg h1).elim
   .exact .inl (s1 z h4)
 have Gd:∀z,Ej z->F z\/Nil z\/w.heap.size<=z:=by
  intro z hz;rcases fC z (p.oL n z (oK z hz)) with h4 | rfl | h4
  .exact .inr (.inr h4)
  .exact(hnb hz).elim
  .exact .inl (s1 z h4)
 have hfull:iy (C.sig f).params au=false->(C.sig f).full=true:=fun h=>hs.resolve_left (by rw[h];simp);have qJ:ag w'.heap (Un g.Pr Dd) Rt (m'.stamp site) y c2 Ej:=by
  refine(ag.stamp site _).1 ?_;cases hsh:iy (C.sig f).params au with
  | true=>
   refine ag.mono (fun z hz=>?_) (fun _ _=>rfl) _ fJ (Sub.refl _) (fun _ _=>rfl);by_cases h1:g.Pr z
   .exact .inl h1
   .exact .inr ⟨hsh,hz,h1⟩
  | false=>have h5:=hfull hsh;simp only[oF.full,aO]at h5;exact ag.gY _ (L.full h5.1) fJ
 have jl:(g.C q).length=Rt.width:=ag.width _ q2;have eH:=ag.width _ fJ;have gG:(m'.stamp site).fresh site (site+1):=Mk.b6 site vD;obtain⟨g',k1,k2,k3,k4,k5,k6,k7⟩:=q6 site (site+1) w'.heap (m'.stamp site) y c2 Ej Dd (m'.stamp site) y hfr.2
  (fun z hz og hbz=>p.fr.block z hz (fun h=>by
   rcases fC z h with h4 | rfl | h4
   .omega
   .exact hbz 0 rfl
   .exact og (s1 z h4)))
  p.fr.size
  (by
   intro b o e cs hcs;simp only[ay,aJ]at e;obtain⟨rfl,rfl⟩:=e;obtain rfl:=fI.uniq jY hcs;exact⟨c2.toArray,jZ,by rw[List.toList_toArray,List.toList_toArray];exact(sA (by omega)).symm⟩)
  qJ (fun z h1 h2=>p.op n z (oK z h2) h1.2.1) (fun z hz=>hz.elim (Gd z) (Gc z))
  (fun z hz=>hz.elim (fun h=>p.r9 n z (oK z h)) (fun h=>p.r_ z h.2.1))
  (by simp[put,qbv]) (Mk.cJ _ gG) (aA.af _ (Mk.bE hfr.1 vD)) (fun h=>by simp[qx]at h) (Ic gG)
 have hres:gO w'.heap g'.Pr Gs 0 (C.sig f).res r.1 us:=by
  refine gO.conv _ 0 ?_ p.res;cases hsh:iy (C.sig f).params au with
  | true=>
   refine .inl (fun z hz=>?_);by_cases h1:g.Pr z
   .exact k2 z h1
   .exact k3 z ⟨hsh,hz,h1⟩
  | false=>have h5:=hfull hsh;simp only[oF.full,aO]at h5;exact .inr h5.2
 have Gf:∀i,Sub (Gs i) (fun z=>(Nil z\/F z\/(w.heap.size<=z/\z<w'.heap.size))/\¬ (Ej z\/Dd z)):=by
  intro i z hz;refine⟨?_,?_⟩
  .rcases fC z (p.gL i z hz) with h4 | rfl | h4
   .exact .inr (.inr ⟨h4,p.oJ i z hz⟩)
   .exact(p.go i n z hz Gg).elim
   .exact .inr (.inl (s1 z h4))
  .rintro(h | h)
   .exact p.go i n z hz (oK z h)
   .exact p.gp i z hz h.2.1
 obtain⟨g4,t1,t2,t3⟩:=w8 (S:=S) k1 Gf p.rV ok (C.sig f).res hres he;refine⟨val,rfl,g4,t1,by rw[p.val];exact t2,k4.trans t3,p.fr.mono ?_⟩;intro z hz h;rcases fC z h with h4 | rfl | h4
 .omega
 .exact st.own q _ aQ Of
 .exact st.own q _ aQ (q3 z (s1 z h4))
end
theorem Jb{h:Array Obj}{S:St}{g:ai}{q:Nat}{R:aB}(hR:S.root q=some R):∀(t:Ty){a:AV}{p:Path}{md:Mk}{xd:t.den}{z:Mk×t.den}{cu:List Value}{rp:Nat×Path},
  focus R.ty R.ms R.x p=some ⟨t,md,xd⟩->bR h S g a cu->gn q t a p md xd=some z->nR a p=true->gz a=some rp->bO R.ty R.x p:=by
 intro t
 induction t with
 | pair ta tb dI gH=>
  intro a p md xd z cu rp hf hc hl gx hp;cases a with
  | pair u v=>
   simp only[gn,bD]at hl;obtain⟨y,hy,z',hz,-⟩:=hl;simp only[bR]at hc;obtain⟨ca,cb,-,h1,h2⟩:=hc;simp only[nR,aO]at gx;cases hu:gz u with
   | some rp'=>have:=dI (by rw[nP p _ hf];simp[focus]) h1 hy gx.1 hu;exact((qA p _ hf).1 this).1
   | none=>
    cases hv:gz v with
    | some rp'=>have:=gH (by rw[nP p _ hf];simp[focus]) h2 hz gx.2 hv;exact((qA p _ hf).1 this).1
    | none=>simp[gz,hu,hv]at hp
  | bu r' p' s=>simp[gn]at hl
  | _=>simp[gz]at hp
 | sl e ih=>
  intro a p md xd z cu rp hf hc hl gx hp;cases a with
  | pair u v=>simp[gn]at hl
  | bu r' p' s=>
   simp only[gn]at hl;cases md with
   | own s' m0=>
    simp only at hl;split at hl
    .rename_i jt;obtain⟨rfl,rfl⟩:=jt;simp only[nR,fu]at gx;subst gx;simp only[bR]at hc;obtain⟨v,rfl,hb⟩:=hc;exact(hb R hR _ _ _ hf).1
    .simp at hl
   | _=>simp at hl
  | _=>simp[gz]at hp
 | _=>
  intro a p md xd z cu rp hf hc hl gx hp;cases a with
  | pair u v=>simp[gn]at hl
  | bu r' p' s=>simp[gn]at hl
  | _=>simp[gz]at hp
theorem Dg{h:Array Obj}{S:St}{g:ai}{q:Nat}{R:aB}(hR:S.root q=some R):∀(t:Ty){a:AV}{p:Path}{md:Mk}{xd:t.den}{mx:Mk}{x:t.den}{c cu:List Value}{base:dc}{F:BS},
  focus R.ty R.ms R.x p=some ⟨t,md,xd⟩->a_ h R.ty (g.C q) (g.base q) p=some (base,c)->ag h g.Pr t md xd c F->bR h S g a cu->
  gn q t a p md xd=some (mx,x)->nR a p=true->ag h g.Pr t mx x cu F:=by
 intro t;have hval:∀(t:Ty)(t':Ty)(x':t'.den)(md:Mk)(mx:Mk)(x:t.den)(cu:List Value)(F:BS),
   (if md.still=true then (qbv t' t x').bind fun y=>some (Mk.no,y) else none)=some (mx,x)->ag h g.Pr t' .no x' cu Nil->ag h g.Pr t mx x cu F:=by
  intro t t' x' md mx x cu F hl hr;split at hl
  .simp only[bD,ay,aJ]at hl;obtain⟨y,hy,rfl,rfl⟩:=hl;exact(ag.cast hy hr).2.room _ (Sub.nil _)
  .simp at hl
 induction t with
 | pair ta tb dI gH=>
  intro a p md xd mx x c cu base F hf ha r hc hl gx;cases a with
  | pair u v=>simp only[gn,bD,ay,aJ]at hl;obtain⟨y,hy,z',hz,rfl,rfl⟩:=hl;simp only[bR]at hc;obtain⟨ca,cb,rfl,h1,h2⟩:=hc;simp only[nR,aO]at gx;simp only[ag]at r;obtain⟨da,db,Fa,Fb,rfl,ra,rb,sa,sb,dd⟩:=r;have hw:=ag.width _ ra;have e1:=dI (base:=base) (F:=Fa) (c:=da) (by rw[nP p _ hf];simp[focus]) (by rw[nS p _ hf ha];simp only[a_];rw[<-hw,fL rfl]) ra h1 hy gx.1;have e2:=gH (base:=base.map fun x=>(x.1,x.2+ta.width)) (F:=Fb) (c:=db) (by rw[nP p _ hf];simp[focus]) (by rw[nS p _ hf ha];simp only[a_];rw[<-hw,fz rfl]) rb h2 hz gx.2;simp only[ag];exact⟨ca,cb,Fa,Fb,rfl,e1,e2,sa,sb,dd⟩
  | val t' x'=>simp only[gn]at hl;simp only[bR]at hc;exact hval _ _ _ _ _ _ _ _ hl hc
  | _=>simp[gn]at hl
 | sl e ih=>
  intro a p md xd mx x c cu base F hf ha r hc hl gx;cases a with
  | bu r' p' s=>
   simp only[gn]at hl;cases md with
   | own s' m0=>
    simp only at hl;split at hl
    .rename_i jt;obtain⟨rfl,rfl⟩:=jt;simp only[nR,fu]at gx;subst gx;simp only[bR]at hc;obtain⟨v,rfl,hb⟩:=hc;obtain⟨_,b',cz⟩:=hb R hR _ _ _ hf;rw[cz]at ha;simp only[ay,aJ]at ha hl;obtain⟨_,rfl⟩:=ha;obtain⟨rfl,rfl⟩:=hl;exact r
    .simp at hl
   | _=>simp at hl
  | val t' x'=>simp only[gn]at hl;simp only[bR]at hc;exact hval _ _ _ _ _ _ _ _ hl hc
  | _=>simp[gn]at hl
 | unit=>
  intro a p md xd mx x c cu base F hf ha r hc hl gx;cases a with
  | val t' x'=>simp only[gn]at hl;simp only[bR]at hc;exact hval _ _ _ _ _ _ _ _ hl hc
  | unit=>simp only[bR]at hc;subst hc;simp only[ag]
  | _=>simp[gn]at hl
 | int k=>
  intro a p md xd mx x c cu base F hf ha r hc hl gx;cases a with
  | val t' x'=>simp only[gn]at hl;simp only[bR]at hc;exact hval _ _ _ _ _ _ _ _ hl hc
  | _=>simp[gn]at hl
 | bool=>
  intro a p md xd mx x c cu base F hf ha r hc hl gx;cases a with
  | val t' x'=>simp only[gn]at hl;simp only[bR]at hc;exact hval _ _ _ _ _ _ _ _ hl hc
  | _=>simp[gn]at hl
 | str=>
  intro a p md xd mx x c cu base F hf ha r hc hl gx;cases a with
  | val t' x'=>simp only[gn]at hl;simp only[bR]at hc;exact hval _ _ _ _ _ _ _ _ hl hc
  | _=>simp[gn]at hl
theorem IM{h h2:Array Obj}{S:St}{g:ai}{eg:BS}{site q:Nat}{R:aB}(hR:S.root q=some R)(hp:Sub g.Pr eg)(hk:∀b,g.Pr b->h2[b]? = h[b]?) :
  ∀(t:Ty){a:AV}{p:Path}{md:Mk}{xd:t.den}{m mm:Mk}{o yy:t.den}{c cu:List Value}{base:dc}{F Os:BS},
  focus R.ty R.ms R.x p=some ⟨t,md,xd⟩->a_ h R.ty (g.C q) (g.base q) p=some (base,c)->ag h g.Pr t md xd c F->bR h S g a cu->
  ag h2 eg t m o cu Os->(∃z,gn q t a p md xd=some z)->nR a p=true->eD site q t a p md xd m o=some (mm,yy)->
  ∃F1 F2,Sub F1 Os/\Sub F2 Os/\bz F1 F2/\ag h2 (fun b=>eg b\/F2 b) t mm yy c F1:=by
 intro t;have hval:∀(t:Ty)(md:Mk)(xd:t.den)(mm:Mk)(yy:t.den)(c:List Value)(F Os:BS),
   (if md.still=true then some (Mk.no,xd) else none)=some (mm,yy)->ag h g.Pr t md xd c F->∃F1 F2,Sub F1 Os/\Sub F2 Os/\bz F1 F2/\ag h2 (fun b=>eg b\/F2 b) t mm yy c F1:=by
  intro t md xd mm yy c F Os hl hr;split at hl
  .rename_i hs;simp only[ay,aJ]at hl;obtain⟨rfl,rfl⟩:=hl;exact⟨Nil,Nil,Sub.nil _,Sub.nil _,bz.nil _,ag.mono (fun b hb=>.inl (hp b hb)) hk t (ag.cH (F':=Nil) t hs hr) (Sub.refl _) (fun _ h=>h.elim)⟩
  .simp at hl
 induction t with
 | pair ta tb dI gH=>
  intro a p md xd m mm o yy c cu base F Os hf ha r hc ro hle gx hl;cases a with
  | pair u v=>
   simp only[eD,bD,ay,aJ]at hl;obtain⟨y,hy,z',hz,rfl,rfl⟩:=hl;simp only[bR]at hc;obtain⟨ca,cb,rfl,h1,kN⟩:=hc;simp only[nR,aO]at gx;simp only[ag]at r;obtain⟨da,db,Fa,Fb,rfl,ra,rb,sa,sb,dd⟩:=r;have hw:=ag.width _ ra;simp only[ag]at ro;obtain⟨ea,eb,Oa,Ob,eo,Rp,Rq,Rr,Rs,FY⟩:=ro;have f1:focus R.ty R.ms R.x (p++[.fst])=some ⟨ta,md.fst,xd.1⟩:=by rw[nP p _ hf];simp[focus]
   have f2:focus R.ty R.ms R.x (p++[.snd])=some ⟨tb,md.snd,xd.2⟩:=by rw[nP p _ hf];simp[focus]
   have a1:a_ h R.ty (g.C q) (g.base q) (p++[.fst])=some (base,da):=by rw[nS p _ hf ha];simp only[a_];rw[<-hw,fL rfl]
   have a2:a_ h R.ty (g.C q) (g.base q) (p++[.snd])=some (base.map fun x=>(x.1,x.2+ta.width),db):=by rw[nS p _ hf ha];simp only[a_];rw[<-hw,fz rfl]
   obtain⟨zz,hle⟩:=hle;simp only[gn,bD]at hle;obtain⟨zy,ED,zz,Hv,-⟩:=hle;have gZ:ca=ea/\cb=eb:=by
    have w1:=ag.width _ Rp;have w2:=ag.width _ Rq;have:ca.length=ea.length:=by rw[w1];exact ag.width _ (Dg hR ta f1 a1 ra h1 (mx:=zy.1) (x:=zy.2) ED gx.1)
    exact List.append_inj eo this
   obtain⟨rfl,rfl⟩:=gZ;obtain⟨A1,A2,s1,s2,d1,r1⟩:=dI f1 a1 ra h1 Rp ⟨_,ED⟩ gx.1 hy;obtain⟨B1,B2,s3,s4,d2,r2⟩:=gH f2 a2 rb kN Rq ⟨_,Hv⟩ gx.2 hz;refine⟨fun b=>A1 b\/B1 b,fun b=>A2 b\/B2 b,?_,?_,?_,?_⟩
   .rintro z (hz | hz)
    .exact Rr z (s1 z hz)
    .exact Rs z (s3 z hz)
   .rintro z (hz | hz)
    .exact Rr z (s2 z hz)
    .exact Rs z (s4 z hz)
   .rintro z (hz | hz) (hy | hy)
    .exact d1 z hz hy
    .exact FY z (s1 z hz) (s4 z hy)
    .exact FY z (s2 z hy) (s3 z hz)
    .exact d2 z hz hy
   .simp only[ag];exact⟨da,db,A1,B1,rfl,ag.mono (fun z hz=>hz.imp id .inl) (fun _ _=>rfl) _ r1 (Sub.refl _) (fun _ _=>rfl),
     ag.mono (fun z hz=>hz.imp id .inr) (fun _ _=>rfl) _ r2 (Sub.refl _) (fun _ _=>rfl),fun z hz=>.inl hz,fun z hz=>.inr hz,FY.mono s1 s3⟩
  | val t' x'=>simp only[eD]at hl;exact hval _ _ _ _ _ _ _ _ hl r
  | unit=>simp only[eD]at hl;exact hval _ _ _ _ _ _ _ _ hl r
  | _=>simp[eD]at hl
 | sl e ih=>
  intro a p md xd m mm o yy c cu base F Os hf ha r hc ro hle gx hl;cases a with
  | bu r' p' s=>
   simp only[eD]at hl;cases md with
   | own s' m0=>
    simp only at hl;split at hl
    .rename_i jt;obtain⟨rfl,rfl,iW,G_⟩:=jt;simp only[nR,fu]at gx;subst gx;simp only[bR]at hc;obtain⟨v,rfl,hb⟩:=hc;obtain⟨_,b',cz⟩:=hb R hR _ _ _ hf;rw[cz]at ha;simp only[ay,aJ]at ha hl;obtain⟨_,rfl⟩:=ha;obtain⟨rfl,rfl⟩:=hl;obtain⟨F1,F2,s1,s2,d,rr⟩:=ag.aG _ G_ ro;refine⟨F1,F2,s1,s2,d,?_⟩;have:=(ag.stamp site _).1 rr;simp only[Mk.stamp,ag]at this⊢;exact this
    .simp at hl
   | _=>simp at hl
  | val t' x'=>simp only[eD]at hl;exact hval _ _ _ _ _ _ _ _ hl r
  | unit=>simp only[eD]at hl;exact hval _ _ _ _ _ _ _ _ hl r
  | _=>simp[eD]at hl
 | unit=>
  intro a p md xd m mm o yy c cu base F Os hf ha r hc ro hle gx hl;cases a with
  | val t' x'=>simp only[eD]at hl;exact hval _ _ _ _ _ _ _ _ hl r
  | unit=>simp only[eD]at hl;exact hval _ _ _ _ _ _ _ _ hl r
  | _=>simp[eD]at hl
 | int k=>
  intro a p md xd m mm o yy c cu base F Os hf ha r hc ro hle gx hl;cases a with
  | val t' x'=>simp only[eD]at hl;exact hval _ _ _ _ _ _ _ _ hl r
  | unit=>simp only[eD]at hl;exact hval _ _ _ _ _ _ _ _ hl r
  | _=>simp[eD]at hl
 | bool=>
  intro a p md xd m mm o yy c cu base F Os hf ha r hc ro hle gx hl;cases a with
  | val t' x'=>simp only[eD]at hl;exact hval _ _ _ _ _ _ _ _ hl r
  | unit=>simp only[eD]at hl;exact hval _ _ _ _ _ _ _ _ hl r
  | _=>simp[eD]at hl
 | str=>
  intro a p md xd m mm o yy c cu base F Os hf ha r hc ro hle gx hl;cases a with
  | val t' x'=>simp only[eD]at hl;exact hval _ _ _ _ _ _ _ _ hl r
  | unit=>simp only[eD]at hl;exact hval _ _ _ _ _ _ _ _ hl r
  | _=>simp[eD]at hl
theorem ot{t:Ty}{md mm:Mk}{xd yy:t.den}(hl:(if md.still=true then some (Mk.no,xd) else none)=some (mm,yy)):md.still=true/\mm=.no/\yy=xd:=by
 split at hl
 .rename_i hs;simp only[ay,aJ]at hl;exact⟨hs,hl.1.symm,hl.2.symm⟩
 .simp at hl
theorem IN{hd:Nat->Value}{site q:Nat}(hs:site<1048576):∀(t:Ty){a:AV}{p:Path}{md:Mk}{xd:t.den}{m mm:Mk}{o yy:t.den}{c:List Value},
  eD site q t a p md xd m o=some (mm,yy)->aA hd t md c->aA hd t mm c/\md.jd site (site+1) mm:=by
 intro t
 induction t with
 | pair ta tb dI gH=>
  intro a p md xd m mm o yy c hl iX;cases a with
  | pair u v=>simp only[eD,bD,ay,aJ]at hl;obtain⟨y,hy,z',hz,rfl,rfl⟩:=hl;simp only[aA]at iX⊢;have h1:=dI hy iX.1;have h2:=gH hz iX.2;exact⟨⟨h1.1,h2.1⟩,h1.2,h2.2⟩
  | val t' x'=>simp only[eD]at hl;obtain⟨_,rfl,rfl⟩:=ot hl;exact⟨aA.no _ _,trivial⟩
  | unit=>simp only[eD]at hl;obtain⟨_,rfl,rfl⟩:=ot hl;exact⟨aA.no _ _,trivial⟩
  | _=>simp[eD]at hl
 | sl e ih=>
  intro a p md xd m mm o yy c hl iX;cases a with
  | bu r' p' s=>
   simp only[eD]at hl;cases md with
   | own s' m0=>
    simp only at hl;split at hl
    .rename_i jt;obtain⟨rfl,rfl,iW,G_⟩:=jt;simp only[ay,aJ]at hl;obtain⟨rfl,rfl⟩:=hl;simp only[aA]at iX⊢;exact⟨⟨iX.1,Mk.bE hs iW⟩,.inr ⟨_,rfl,Mk.cJ _ (Mk.b6 site iW)⟩⟩
    .simp at hl
   | _=>simp at hl
  | val t' x'=>simp only[eD]at hl;obtain⟨_,rfl,rfl⟩:=ot hl;exact⟨aA.no _ _,trivial⟩
  | unit=>simp only[eD]at hl;obtain⟨_,rfl,rfl⟩:=ot hl;exact⟨aA.no _ _,trivial⟩
  | _=>simp[eD]at hl
 | _=>
  intro a p md xd m mm o yy c hl iX;cases a with
  | val t' x'=>simp only[eD]at hl;obtain⟨_,rfl,rfl⟩:=ot hl;exact⟨aA.no _ _,trivial⟩
  | unit=>simp only[eD]at hl;obtain⟨_,rfl,rfl⟩:=ot hl;exact⟨aA.no _ _,trivial⟩
  | _=>simp[eD]at hl
theorem Ih{h h2:Array Obj}{Pr eg:BS}{site q:Nat}:∀(t:Ty){a:AV}{p:Path}{md:Mk}{xd:t.den}{m mm:Mk}{o yy:t.den}{c:List Value}{base:dc}{F F1:BS},
  eD site q t a p md xd m o=some (mm,yy)->ag h Pr t md xd c F->ag h2 eg t mm yy c F1->
  ∀p' t1 n1,gf site (site+1) p'=true->q8 t mm p'=some (t1,n1)->bO t xd p'->bO t yy p'/\∀bp cp,a_ h t c base p'=some (bp,cp)->
   ∃fh,a_ h2 t c base p'=some (bp,fh)/\(∀s a,n1=.own s a->¬ (site<=s/\s<site+1)->fh=cp):=by
 intro t;have hval:∀(t:Ty)(c:List Value)(base:dc)(x:t.den)(p':Path)(t1:Ty)(n1:Mk),gf site (site+1) p'=true->q8 t .no p'=some (t1,n1)->bO t x p'->bO t x p'/\∀bp cp,a_ h t c base p'=some (bp,cp)->
   ∃fh,a_ h2 t c base p'=some (bp,fh)/\(∀s a,n1=.own s a->¬ (site<=s/\s<site+1)->fh=cp):=by
  intro t c base x p' t1 n1 hp dF hi;obtain⟨hi',iw⟩:=uO (lo:=site) (hi:=site+1) p' (m:=.no) trivial hp dF;refine⟨hi,fun bp cp ha=>?_⟩;obtain⟨fh,h3⟩:=uS (h':=h2) p' _ c _ hi' ha;exact⟨fh,h3,fun s a' e hs=>by subst e;exact absurd iw hs⟩
 have Am:∀(t:Ty)(mm:Mk)(c:List Value)(base:dc)(y:t.den)(t1:Ty)(n1:Mk),bO t y []/\∀bp cp,a_ h t c base []=some (bp,cp)->
   ∃fh,a_ h2 t c base []=some (bp,fh)/\(∀s a,n1=.own s a->¬ (site<=s/\s<site+1)->fh=cp):=by
  intro t mm c base y t1 n1;refine⟨pG _ _,fun bp cp ha=>?_⟩;rw[vS]at ha;exact⟨cp,by rw[vS];exact ha,fun _ _ _ _=>rfl⟩
 induction t with
 | pair ta tb dI gH=>
  intro a p md xd m mm o yy c base F F1 hl r r2 p' t1 n1 hp dF hi;cases a with
  | pair u v=>
   simp only[eD,bD,ay,aJ]at hl;obtain⟨y,hy,z',hz,rfl,rfl⟩:=hl;simp only[ag]at r r2;obtain⟨da,db,Fa,Fb,rfl,ra,rb,-⟩:=r;obtain⟨ea,eb,Ea,Eb,ee,qa,qb,-⟩:=r2;obtain⟨rfl,rfl⟩:=List.append_inj ee (by rw[ag.width _ ra,ag.width _ qa]);have hw:=ag.width _ ra;cases p' with
   | nil=>exact Am _ (.pr y.1 z'.1) _ _ _ t1 _
   | cons st p'=>
    cases st with
    | fst=>simp only[q8,Mk.fst]at dF;simp only[bO]at hi⊢;obtain⟨h1,h3⟩:=dI (base:=base) hy ra qa p' t1 n1 (by simpa [gf] using hp) dF hi;refine⟨h1,fun bp cp ha=>?_⟩;simp only[a_]at ha⊢;rw[<-hw,fL rfl]at ha⊢;exact h3 _ _ ha
    | snd=>simp only[q8,Mk.snd]at dF;simp only[bO]at hi⊢;obtain⟨h1,h3⟩:=gH (base:=base.map fun x=>(x.1,x.2+ta.width)) hz rb qb p' t1 n1 (by simpa [gf] using hp) dF hi;refine⟨h1,fun bp cp ha=>?_⟩;simp only[a_]at ha⊢;rw[<-hw,fz rfl]at ha⊢;rw[hw]at ha⊢;exact h3 _ _ ha
    | idx i s=>simp[q8]at dF
  | val t' x'=>simp only[eD]at hl;obtain⟨_,rfl,rfl⟩:=ot hl;exact hval _ _ _ _ _ _ _ hp dF hi
  | unit=>simp only[eD]at hl;obtain⟨_,rfl,rfl⟩:=ot hl;exact hval _ _ _ _ _ _ _ hp dF hi
  | _=>simp[eD]at hl
 | sl e ih=>
  intro a p md xd m mm o yy c base F F1 hl r r2 p' t1 n1 hp dF hi;cases a with
  | bu r' p0 s=>
   simp only[eD]at hl;cases md with
   | own s' m0=>
    simp only at hl;split at hl
    .rename_i jt;obtain⟨rfl,rfl,iW,G_⟩:=jt;simp only[ay,aJ]at hl;obtain⟨rfl,rfl⟩:=hl;cases p' with
     | nil=>exact Am _ .no _ _ _ t1 _
     | cons st p'=>
      cases st with
      | fst=>simp[q8]at dF
      | snd=>simp[q8]at dF
      | idx i s=>
       simp only[q8]at dF;split at dF
       .rename_i WE;simp only[gf,aO]at hp;obtain⟨Ou,iw⟩:=uO p' (Mk.b6 site iW) hp.2 dF;simp only[ag]at r r2;obtain⟨a1,k1,rfl,jl,r⟩:=r;obtain⟨a2,k2,e2,eH,r2⟩:=r2;simp only[dj,Value.slice.injEq,f_]at e2;obtain⟨rfl,hlen,rfl⟩:=e2;simp only[bO]at hi⊢;refine⟨⟨hlen ▸ hi.1,pZ _ _ Ou dF⟩,fun bp cp ha=>?_⟩;rcases r2 with r2 | ⟨b,cs,rfl,fb,hb,hsz,-⟩
        .omega
        obtain⟨ty,lo,hi',he,_⟩:=hb;simp only[a_,he];simp only[a_]at ha;split at ha
        .obtain⟨fh,h3⟩:=uS (h':=h2) p' _ (sub cs (i * e.width) e.width) _ Ou ha;exact⟨fh,h3,fun s a' e hs=>by subst e;exact absurd iw hs⟩
        .simp at ha
       .simp at dF
    .simp at hl
   | _=>simp at hl
  | val t' x'=>simp only[eD]at hl;obtain⟨_,rfl,rfl⟩:=ot hl;exact hval _ _ _ _ _ _ _ hp dF hi
  | unit=>simp only[eD]at hl;obtain⟨_,rfl,rfl⟩:=ot hl;exact hval _ _ _ _ _ _ _ hp dF hi
  | _=>simp[eD]at hl
 | _=>
  intro a p md xd m mm o yy c base F F1 hl r r2 p' t1 n1 hp dF hi;cases a with
  | val t' x'=>simp only[eD]at hl;obtain⟨_,rfl,rfl⟩:=ot hl;exact hval _ _ _ _ _ _ _ hp dF hi
  | unit=>simp only[eD]at hl;obtain⟨_,rfl,rfl⟩:=ot hl;exact hval _ _ _ _ _ _ _ hp dF hi
  | _=>simp[eD]at hl
theorem It{h:Array Obj}{S:St}{g:ai}{q:Nat}{t:Ty}{a:AV}{p:Path}{md:Mk}{xd:t.den}{z:Mk×t.den}{rp:Nat×Path}{v:Value}
  (hp:gz a=some rp) (hl:gn q t a p md xd=some z) (hv:qe h S g a v):∃c,v=bK t c/\bR h S g a c:=by
 cases a with
 | bu r' p' s=>
  cases t with
  | sl e=>simp only[qe]at hv;exact⟨[v],by simp[bK,Ty.agg],by simp only[bR];exact⟨v,rfl,hv⟩⟩
  | _=>simp[gn]at hl
 | pair a b=>
  cases t with
  | pair ta tb=>simp only[qe]at hv;obtain⟨ca,cb,rfl,h1,h2⟩:=hv;exact⟨ca++cb,by simp[bK,Ty.agg],by simp only[bR];exact⟨ca,cb,rfl,h1,h2⟩⟩
  | _=>simp[gn]at hl
 | _=>simp[gz]at hp
section
variable {P:Program} {C:Ctx} {D:Den C} {S:St} {g:ai} {w:World} {tmps:Array Value}
variable {A:aZ} {site:Nat} (eG:oA P C D) (st:aj w.heap S g tmps Nil)
include eG st
theorem Ib{f:FuncId}{au:List AV}{vs:List Value}{d:Option Nat}(ok:jk A S d site)(hfr:site<1048576/\∀u,(S.get u).aH site (site+1)=true)
  (ha:gU w.heap S g au vs) (GW:(C.sig f).params.all (fun k=>!k.hO)=true) {gd:fP (C.sig f).params} (h1:dP S.rt (C.sig f).params au=some (gd,S.rt))
  {od:bV (C.sig f).params} {cX:aD} {n:Nat} {u0:AV} {v0:Value} {q:Nat} {p:Path} {R:aB} {md:Mk} {t:Ty} {xd:t.den} {m m' mx:Mk} {x:t.den} (lQ:qe w.heap S g u0 v0)
  (L:oD w.heap (C.sig f).params au vs S.rt cX od n u0 v0 q p R md t xd m m' mx x) {a:eF (C.sig f).params} (h3:fH cX (C.sig f).params au gd od=some a)
  (hs:iy (C.sig f).params au=true\/(C.sig f).full=true) {r:dU (C.sig f).res×bV (C.sig f).params} (hD:D f a=some r) {β:Bool} {v:AV} {qK rt':aD}
  (ho:dY S.rt site (C.sig f).params au r.2=some qK) (he:(ig A qK d site (C.sig f).res r.1).dec β=some (v,rt')) :
  Calls P f vs.toArray w fun e w'=>∃val,e=.returned val/\Post S g w tmps v rt' val w':=by
 have hR:=L.root;have aQ:(S.root q).isSome:=by show(S.rt.root q).isSome=true;rw[hR];rfl
 obtain⟨cu,zO,Gt⟩:=It L.place L.pn lQ;have hin:=Jb hR t L.vg Gt L.pn L.paths L.place;obtain⟨base,c,F,q1,q2,q3,q4,q5,q6⟩:=st.iO hR L.vg hin;have OM:=Dg hR t L.vg q1 q2 Gt L.pn L.paths;have Hi:aA g.hd t md c:=aA.at p (st.tag q R hR) L.vg q1;obtain⟨F1,F2,s1,s2,s3,s4⟩:=ag.aG t L.Ef OM;have kg:=(st.eB aQ).bH F2 (fun z hz=>.inr (q3 z (s2 z hz)))
 let g2:ai:={ g with Pr:=Un g.Pr F2 }
 have r6:Kp w.heap S g (S.ak q none) g2:=(Bq st q).trans (y5 (st.eB aQ) F2)
 let Fs:Nat->BS:=fun j=>if j=n then F1 else Nil
 have jN:∀i,Sub (Fs i) (fun z=>(Nil z\/g.G q z)/\¬ F2 z):=by
  intro i z hz;simp only[Fs]at hz;split at hz
  .exact⟨.inr (q3 z (s1 z hz)),fun h=>s3 z hz h⟩
  .exact hz.elim
 have e2:cX=(S.ak q none).rt:=L.cX;subst e2;obtain⟨RR,Rv,FF,kk⟩:=tQ (sl:=S.sl) (C.sig f).params au vs S.rt g Nil 0 gd S.rt ha st h1;have hG:=vZ (h2:=w.heap) (eg:=g2.Pr) (kH:=Fs) (C.sig f).params 0 GW kk.2.2.2.2.1;have hL:=L.ls g2.Pr Fs 0 (by
  simp only[g_,Fs,aK];exact⟨cu,s4,zO⟩)
 have hps:=pY kg (sh:=iy (C.sig f).params au) (Fs:=Fs) (C.sig f).params au vs 0 gd od a (fun h=>h) (ha.kp r6) hG hL h3;have vm:∀i j,i≠j->bz (Fs i) (Fs j):=by
  intro i j hij z h1 h2;simp only[Fs]at h1 h2;split at h1
  .split at h2
   .omega
   .exact h2
  .exact h1
 have pre:Pre w.heap (Seen (iy (C.sig f).params au) (S.ak q none) g2) Fs (C.sig f).params a vs:=
  ⟨hps,vm,fun i z hz=>sK kg _ z (jN i z hz),fun i z hz=>kg.cv z (jN i z hz),sL kg _⟩
 refine(eG.ok f a r hD w _ Fs vs pre).mono ?_;rintro e w' ⟨val,dD,Gs,Os,us,rfl,p0⟩;obtain⟨y,hy1,jv⟩:=L.out r.2;have dV:=hy1 S.rt site qK ho;obtain⟨RD,ua,vf⟩:=jv _ _ _ _ p0.out;rw[g_]at ua;obtain rfl:cu=RD:=Kk OM ua (zO.symm.trans vf);have fC:∀z,nh w.heap.size Fs z->w.heap.size<=z\/F1 z:=by
  rintro z (h | ⟨i,h⟩)
  .exact .inl h
  .simp only[Fs]at h;split at h
   .exact .inr h
   .exact h.elim
 let D0:BS:=fun z=>iy (C.sig f).params au=true/\dD z/\¬ g.Pr z
 have RU:∀z,D0 z->F z\/Nil z\/w.heap.size<=z:=by
  rintro z ⟨hsh,h1,h2⟩;rcases p0.gM z h1 with h3 | h3
  .rw[hsh]at h3;simp only[Seen,aK]at h3;rcases h3 with h3 | h3
   .exact absurd h3 h2
   .exact .inl (s2 z h3)
  .rcases fC z h3 with h4 | h4
   .exact .inr (.inr h4)
   .exact .inl (s1 z h4)
 have Oh:∀z,Os n z->F z\/Nil z\/w.heap.size<=z:=by
  intro z hz;rcases fC z (p0.oL n z hz) with h4 | h4
  .exact .inr (.inr h4)
  .exact .inl (s1 z h4)
 have hfull:iy (C.sig f).params au=false->(C.sig f).full=true:=fun h=>hs.resolve_left (by rw[h];simp);have qJ:ag w'.heap (Un g.Pr D0) t m' y cu (Os n):=by
  cases hsh:iy (C.sig f).params au with
  | true=>
   refine ag.mono (fun z hz=>?_) (fun _ _=>rfl) _ ua (Sub.refl _) (fun _ _=>rfl);by_cases h1:g.Pr z
   .exact .inl h1
   .exact .inr ⟨hsh,hz,h1⟩
  | false=>have h5:=hfull hsh;simp only[oF.full,aO]at h5;exact ag.gY _ (L.full h5.1) ua
 have GI:∀z,z<w.heap.size->¬ F z->w'.heap[z]? = w.heap[z]?:=fun z hz og=>p0.fr.block z hz (fun h=>by
   rcases fC z h with h4 | h4
   .omega
   .exact og (s1 z h4))
 have yQ:∀b,g.Pr b->w'.heap[b]? = w.heap[b]?:=fun b hb=>GI b (st.aV b hb) (fun h=>st.ck q aQ b (q3 b h) hb);unfold pK at dV;rw[L.place]at dV;simp only at dV;rw[hR]at dV;simp only[bD]at dV;obtain⟨dd,lV,dV⟩:=dV;rw[L.vg]at lV;simp only[ay]at lV;subst lV;simp only[↓reduceDIte,bD]at dV;obtain⟨⟨mm,yy⟩,GP,dV⟩:=dV;simp only at dV;split at dV
 .simp at dV
 rename_i hidx;simp only[bD,ay]at dV;obtain⟨⟨mr,xr⟩,hput,dV⟩:=dV;subst dV;obtain⟨G1,G2,t1,t2,t3,lz⟩:=IM (site:=site) hR (fun z hz=>Or.inl hz) yQ t L.vg q1 q2 Gt qJ ⟨_,L.pn⟩ L.paths GP;obtain⟨iX,Hp⟩:=IN hfr.1 t GP Hi;have vF:=Ih (base:=base) t GP q2 lz
 let Dd:BS:=fun z=>D0 z\/G2 z
 have Gc:∀z,Dd z->F z\/Nil z\/w.heap.size<=z:=by
  rintro z (h | h)
  .exact RU z h
  .exact Oh z (t2 z h)
 obtain⟨g',k1,k2,k3,k4,k5,k6,k7⟩:=q6 site (site+1) w'.heap mm yy c G1 Dd mr xr hfr.2
  (fun z hz og _=>GI z hz og)
  p0.fr.size
  (by
   intro b o e cs hcs;obtain⟨dL,h5,h6⟩:=qT.self q4 b o e cs hcs;exact⟨dL,h5.congr (GI b (by obtain⟨_,_,_,h7,_⟩:=hcs;exact(lC.1 h7).1) (q4 b o e).1),h6⟩)
  (ag.mono (fun z hz=>hz.elim (fun h=>h.imp id .inl) (fun h=>.inr (.inr h))) (fun _ _=>rfl) _ lz (Sub.refl _) (fun _ _=>rfl))
  (fun z h1 h2=>h1.elim (fun h1=>p0.op n z (t1 z h2) h1.2.1) (fun h1=>t3 z h2 h1))
  (fun z hz=>hz.elim (fun h=>Oh z (t1 z h)) (Gc z))
  (fun z hz=>hz.elim (fun h=>p0.r9 n z (t1 z h)) (fun h=>h.elim (fun h=>p0.r_ z h.2.1) (fun h=>p0.r9 n z (t2 z h))))
  hput Hp iX (fun h=>by simpa [h] using hidx) vF
 have hres:gO w'.heap g'.Pr Gs 0 (C.sig f).res r.1 us:=by
  refine gO.conv _ 0 ?_ p0.res;cases hsh:iy (C.sig f).params au with
  | true=>
   refine .inl (fun z hz=>?_);by_cases h1:g.Pr z
   .exact k2 z h1
   .exact k3 z (.inl ⟨hsh,hz,h1⟩)
  | false=>have h5:=hfull hsh;simp only[oF.full,aO]at h5;exact .inr h5.2
 have Gf:∀i,Sub (Gs i) (fun z=>(Nil z\/F z\/(w.heap.size<=z/\z<w'.heap.size))/\¬ (G1 z\/Dd z)):=by
  intro i z hz;refine⟨?_,?_⟩
  .rcases fC z (p0.gL i z hz) with h4 | h4
   .exact .inr (.inr ⟨h4,p0.oJ i z hz⟩)
   .exact .inr (.inl (s1 z h4))
  .rintro(h | h | h)
   .exact p0.go i n z hz (t1 z h)
   .exact p0.gp i z hz h.2.1
   .exact p0.go i n z hz (t2 z h)
 obtain⟨g4,u1,u2,u3⟩:=w8 (S:=S) k1 Gf p0.rV ok (C.sig f).res hres he;refine⟨val,rfl,g4,u1,by rw[p0.val];exact u2,k4.trans u3,p0.fr.mono ?_⟩;intro z hz h;rcases fC z h with h4 | h4
 .omega
 .exact st.own q _ aQ (q3 z (s1 z h4))
end
theorem gU.append{h:Array Obj}{S:St}{g:ai}:∀{au bs:List AV}{vs ws:List Value},gU h S g au vs->gU h S g bs ws->gU h S g (au++bs) (vs++ws)
 | [],bs,vs,ws,k,k2=>by simp only[gU]at k;subst k;simpa using k2
 | a::au,bs,vs,ws,k,k2=>by
  obtain⟨v,vs',rfl,r1,r2⟩:=k;exact⟨v,vs'++ws,rfl,r1,gU.append r2 k2⟩
theorem BJ{h:Array Obj}{S:St}{g:ai}:∀{c:AV}{vs:List Value},aC h S g c vs->gU h S g (ij c) vs
 | .unit,vs,k=>by simp only[aC]at k;exact k
 | .pair a b,vs,k=>by
  simp only[aC]at k;obtain⟨v,vs',rfl,r1,r2⟩:=k;exact⟨v,vs',rfl,r1,BJ r2⟩
 | .undef,_,k=>by simp only[aC]at k
 | .skip,_,k=>by simp only[aC]at k
 | .bA _,_,k=>by simp only[aC]at k
 | .cP,_,k=>by simp only[aC]at k
 | .val _ _,_,k=>by simp only[aC]at k
 | .bu _ _ _,_,k=>by simp only[aC]at k
 | .view _ _ _ _ _,_,k=>by simp only[aC]at k
 | .addr _ _,_,k=>by simp only[aC]at k
 | .bq _ _,_,k=>by simp only[aC]at k
 | .fO _,_,k=>by simp only[aC]at k
 | .eV _ _,_,k=>by simp only[aC]at k
 | .dK _,_,k=>by simp only[aC]at k
theorem yc{h:Array Obj}{S:St}{g:ai}{ρ:Operand->AV}{ev:Operand->Value}(hρ:∀x,qe h S g (ρ x) (ev x)):∀(l:List Operand),gU h S g (l.map ρ) (l.map ev)
 | []=>rfl
 | x::l=>⟨_,_,rfl,hρ x,yc hρ l⟩
theorem IP{h:Array Obj}{Pr:BS}{Gs:Nat->BS}{us:List Value}:∀(rs:List RK)(r:dU rs)(t:Ty)(y:t.den),v_ rs r t=some y->gO h Pr Gs 0 rs r us->
  ∃c F m,us=[bK t c]/\ag h Pr t m y c F
 | [],r,t,y,hy,k=>by simp[v_]at hy
 | [.val t' m],r,t,y,hy,k=>by
  simp only[v_]at hy;obtain⟨u,vs',rfl,⟨c,rr,rfl⟩,k2⟩:=k;simp only[gO]at k2;subst k2;obtain⟨rfl,NW⟩:=ag.cast hy rr;exact⟨c,_,m,rfl,NW⟩
 | [.ptr t' m],r,t,y,hy,k=>by simp[v_]at hy
 | .val _ _::_::_,r,t,y,hy,k=>by simp[v_]at hy
 | .ptr _ _::_::_,r,t,y,hy,k=>by simp[v_]at hy
section
variable {P:Program} {C:Ctx} {D:Den C} {S:St} {g:ai} {w:World} {tmps:Array Value} {a:Act} {ρ:Operand->AV}
variable {A:aZ} {site:Nat} {hint:Bool} (aM:e_ P C) (eG:oA P C D) (st:aj w.heap S g tmps Nil) (hρ:∀x,qe w.heap S g (ρ x) (a.eval x))
include eG st
theorem C7{f:FuncId}{au:List AV}{vs:List Value}{d:Option Nat}(ok:jk A S d site)(ha:gU w.heap S g au vs)(ht:aX (l5 C D A S.rt d site f au)) :
  Calls P f vs.toArray w fun | .returned val,w''=>kI S g w tmps (l5 C D A S.rt d site f au) val w'' | _,_=>False:=by
 obtain⟨⟨v,rt'⟩,hd⟩:=ht true;have mV:∀{Q:Value->World->Prop},Calls P f vs.toArray w (fun e w'=>∃val,e=.returned val/\Post S g w tmps v rt' val w')->
   Calls P f vs.toArray w fun | .returned val,w''=>kI S g w tmps (l5 C D A S.rt d site f au) val w'' | _,_=>False:=by
  intro Q h;refine h.mono ?_;rintro e w' ⟨val,rfl,hp⟩;exact⟨true,v,rt',hd,hp⟩
 refine mV (Q:=fun _ _=>True) ?_;clear mV;unfold l5 at hd;cases h1:dP S.rt (C.sig f).params au with
 | none=>rw[h1]at hd;simp[Tr.dec]at hd
 | some z=>
  obtain⟨gd,cm⟩:=z;rw[h1]at hd;simp only at hd;cases h2:eC cm (C.sig f).params au with
  | none=>rw[h2]at hd;simp[Tr.dec]at hd
  | some z=>
   obtain⟨od,cX⟩:=z;rw[h2]at hd;simp only at hd;cases h3:fH cX (C.sig f).params au gd od with
   | none=>rw[h3]at hd;simp[Tr.dec]at hd
   | some aa=>
    rw[h3]at hd;simp only at hd;by_cases hc:(xP (C.sig f).params&&(iy (C.sig f).params au||(C.sig f).full))=true
    .rw[aE hc]at hd;simp only[aO,fX]at hc;simp only[Tr.dec,bD]at hd;obtain⟨r,hD,hd⟩:=hd;by_cases hn:(C.sig f).params.all (fun k=>!k.cC)=true
     .rw[aE hn]at hd;exact JQ eG st ok ha h1 hn h2 h3 hc.2 hD hd
     .rw[ax hn]at hd;by_cases hfr:A.fr=true
      .rw[aE hfr]at hd;cases hlo:ov (C.sig f).params au with
       | false=>rw[hlo]at hd;simp[Tr.dec]at hd
       | true=>
       rw[hlo]at hd;simp only[Tr.dec]at hd;cases h4:dY cm site (C.sig f).params au r.2 with
       | none=>rw[h4]at hd;simp[Tr.dec]at hd
       | some qK=>
        rw[h4]at hd;simp only at hd;have hone:(List.filter PK.cC (C.sig f).params).length=1/\(C.sig f).params.all (fun k=>!k.hO)=true:=by
         have:=hc.1;unfold xP at this;split at this
         .rename_i h5;exfalso;rw[Bz]at h5;exact hn (by simpa using h5)
         .rename_i h5;rw[h5];exact⟨rfl,this⟩
         .simp at this
        obtain rfl:=zA _ _ _ _ _ hone.2 h1;obtain⟨n,a0,v0,lQ,oP⟩:=Df (C.sig f).params au vs S.rt cX od hone.1 ha h2 hlo;rcases oP with⟨q,t,m,m',R,x,rfl,L⟩ | ⟨q,p,R,md,t,xd,m,m',mx,x,L⟩
        .exact Ia eG st ok (ok.fr hfr) ha hone.2 h1 lQ L h3 hc.2 hD h4 hd
        .exact Ib eG st ok (ok.fr hfr) ha hone.2 h1 lQ L h3 hc.2 hD h4 hd
      .rw[ax hfr]at hd;simp[Tr.dec]at hd
    .rw[ax hc]at hd;simp[Tr.dec]at hd
theorem HW{h:Array Obj}{tmps:Array Value}{sl:List AV}:∀(ks:List PK)(au:List AV)(vs:List Value)(rt:aD)(g:ai)(z:List AV×aD),
  gU h ⟨sl,rt⟩ g au vs->aj h ⟨sl,rt⟩ g tmps Nil->gN rt ks au=some z->
  ∃g1,aj h ⟨sl,z.2⟩ g1 tmps Nil/\Kp h ⟨sl,rt⟩ g ⟨sl,z.2⟩ g1/\g1.bG g/\gU h ⟨sl,z.2⟩ g1 z.1 vs
 | [],[],vs,rt,g,z,ha,st,hb=>by
  simp only[gN,ay]at hb;subst hb;exact⟨g,st,Kp.refl,.refl _,ha⟩
 | [],_::_,vs,rt,g,z,ha,st,hb=>by simp[gN]at hb
 | k::ks,[],vs,rt,g,z,ha,st,hb=>by cases k<;>simp[gN]at hb
 | k::ks,a::au,vs,rt,g,z,ha,st,hb=>by
  obtain⟨v,vs',rfl,r1,r2⟩:=ha;have plain:(gN rt ks au).map (fun z=>(a::z.1,z.2))=some z->∃g1,aj h ⟨sl,z.2⟩ g1 tmps Nil/\Kp h ⟨sl,rt⟩ g ⟨sl,z.2⟩ g1/\g1.bG g/\gU h ⟨sl,z.2⟩ g1 z.1 (v::vs'):=by intro hb;simp only[c5]at hb;obtain⟨z',h1,rfl⟩:=hb;obtain⟨g1,k1,k2,k3,k4⟩:=HW ks au vs' rt g z' r2 st h1;exact⟨g1,k1,k2,k3,v,vs',rfl,k2 _ _ r1,k4⟩
  cases k with
  | val t=>
   simp only[gN]at hb;split at hb
   .exact plain hb
   .split at hb
    .rename_i m y cX mw;split at hb
     .rename_i hm;simp only[c5]at hb;obtain⟨z',h1,rfl⟩:=hb;obtain⟨c,g2,F,ev,bB⟩:=qH (S:=⟨sl,rt⟩) _ st mw r1;have kg:=(bB.st.bH F (fun b hb=>.inr hb)).aN (Sub.nil _);have r6:Kp h ⟨sl,rt⟩ g ⟨sl,cX⟩ { g2 with Pr:=Un g2.Pr F }:=Kp.trans bB.kp (y5 bB.st F);have x:qe h ⟨sl,cX⟩ { g2 with Pr:=Un g2.Pr F } (.val t y) v:=by simp only[qe];exact⟨c,ag.share t hm bB.rep,ev⟩
      obtain⟨g1,k1,k2,k3,k4⟩:=HW ks au vs' cX _ z' (r2.kp r6) kg h1;exact⟨g1,k1,r6.trans k2,bB.same.trans (ai.bG.trans ⟨rfl,rfl,rfl⟩ k3),v,vs',rfl,k2 _ _ x,k4⟩
     .simp at hb
    .simp at hb
  | _=>exact plain (by simpa only [gN] using hb)
theorem A_:∀(ts:List Ty)(au:List AV)(vs:List Value)(l:List gh),gU w.heap S g au vs->qI S.rt ts au=some l->jn w.heap (PG (qU S g)) l vs
 | [],au,vs,l,ha,hb=>by
  cases au with
  | nil=>simp only[qI,ay]at hb;subst hb;exact ha
  | cons a au=>simp[qI]at hb
 | t::ts,[],vs,l,ha,hb=>by simp[qI]at hb
 | t::ts,a::au,vs,l,ha,hb=>by
  obtain⟨v,vs',rfl,r1,r2⟩:=ha;simp only[qI,bD,ay]at hb;obtain⟨x,hx,l',hl,rfl⟩:=hb;obtain⟨c,e,r⟩:=wI st t hx r1;exact⟨v,vs',rfl,⟨c,r,e⟩,A_ ts au vs' l' r2 hl⟩
theorem Cb{h:Array Obj}{g:ai}:∀{l l2:List gh}{vs ws:List Value},jn h g l vs->jn h g l2 ws->jn h g (l++l2) (vs++ws)
 | [],_,vs,ws,k,k2=>by simp only[jn]at k;subst k;simpa using k2
 | c::l,_,vs,ws,k,k2=>by
  obtain⟨v,vs',rfl,r1,r2⟩:=k;exact⟨v,vs'++ws,rfl,r1,Cb r2 k2⟩
theorem xJ{h:Array Obj}{Pr:BS}{Fs:Nat->BS}:∀(ks:List PK)(l:List gh)(vs:List Value)(i:Nat)(aa:eF ks),qB ks l=some aa->jn h (PG Pr) l vs->qF h Pr Fs i ks aa vs/\ks.all PK.plain=true
 | [],l,vs,i,aa,hp,hc=>by
  cases l with
  | nil=>exact⟨hc,rfl⟩
  | cons c l=>simp[qB]at hp
 | k::ks,[],vs,i,aa,hp,hc=>by cases k<;>simp[qB]at hp
 | k::ks,c::l,vs,i,aa,hp,hc=>by
  obtain⟨v,vs',rfl,r1,r2⟩:=hc;cases k with
  | val t=>
   cases c with
   | val t' x=>simp only[qB,bD,ay]at hp;obtain⟨y,hy,r,hr,rfl⟩:=hp;obtain⟨c,rr,e⟩:=r1;obtain⟨rfl,NW⟩:=ag.cast hy rr;obtain⟨p1,p2⟩:=xJ ks l vs' (i+1) r hr r2;exact⟨⟨v,vs',rfl,⟨c,NW,e⟩,p1⟩,by simpa [PK.plain] using p2⟩
   | _=>simp[qB]at hp
  | bP t=>
   cases c with
   | bP t' x=>simp only[qB,bD,ay]at hp;obtain⟨y,hy,r,hr,rfl⟩:=hp;obtain⟨e1,e2⟩:=uP hy;subst e1;simp only at e2;subst e2;obtain⟨p1,p2⟩:=xJ ks l vs' (i+1) r hr r2;exact⟨⟨v,vs',rfl,r1,p1⟩,by simpa [PK.plain] using p2⟩
   | _=>simp[qB]at hp
  | _=>cases c<;>simp[qB]at hp
theorem H6{h:Array Obj}{Pr eg:BS}{t:Ty}{m:Mk}{x:t.den}{c:List Value}{F F2:BS}(hs:t.scalar=true)(r:ag h Pr t m x c F):ag h eg t .no x c F2:=by cases t<;>simp[Ty.scalar]at hs<;>simpa only [ag] using r
theorem H_{cl:Ei}{xs:List gh}{t:Ty}{y:t.den}{vs ws:List Value}(hs:t.scalar=true)(hy:EP C D cl xs t=some y)(hx:jn w.heap (PG (qU S g)) xs vs)(hw:jn w.heap g cl.caps ws) :
  Calls P cl.f (vs++ws).toArray w fun e w'=>∃val,e=.returned val/\Post S g w tmps (.val t y) S.rt val w':=by
 simp only[EP,bD]at hy;obtain⟨aa,ha,r,hD,hr⟩:=hy;obtain⟨hps,Au⟩:=xJ eG st (Fs:=fun _=>Nil) (C.sig cl.f).params _ _ 0 aa ha (Cb eG st hx (xM st (fun b hb=>.inl hb:Sub g.Pr (qU S g)) hw));have hv:=sK st false;have pre:Pre w.heap (qU S g) (fun _=>Nil) (C.sig cl.f).params aa (vs++ws):=
  ⟨hps,fun _ _ _=>bz.nil _,fun _=>bz.nil _,fun _ _ h=>h.elim,sL st false⟩
 refine(eG.ok cl.f aa r hD w _ _ _ pre).mono ?_;rintro e w' ⟨val,dD,Gs,Os,us,rfl,p⟩;have fC:∀z,nh w.heap.size (fun _=>Nil) z->w.heap.size<=z:=fun z h=>h.elim id (fun⟨_,h⟩=>h.elim);have u6:=st.grow (h2:=w'.heap) (fun b hb=>p.fr.block b hb (fun h=>absurd (fC b h) (by omega))) p.fr.size Nil (fun b hb=>hb.elim);obtain⟨c,F,m,SF,rr⟩:=IP _ _ _ _ hr p.res;refine⟨val,rfl,g,u6,?_,.refl g,p.fr.mono (fun z hz h=>absurd (fC z h) (by omega))⟩;rw[p.val,SF];simp only[qe,m7];exact⟨c,H6 eG st hs rr,rfl⟩
include aM hρ
theorem J_{o:Oper}{c:Call}{f:Operand}(ho:o.op=.call c)(hc:c.callee=.value f)(ok:jk A S o.dst site):Goal P C D S g w tmps a ρ A site hint o:=by
 intro ht;have iI:∀(ff:FuncId)(vs:List Value),vQ P ff->a.eval f=.func (.func ff) #[] vs.toArray->
   (execOp a.eval o).run P w=.ok (.enter ff (c.args.toList.map a.eval++vs).toArray) w:=by
  rintro ff vs ⟨fn,h1,h2,h3⟩ hv;have hb:¬ fn.body=none:=by intro hh;rw[hh]at h3;simp at h3
  have gE:c.args.map a.eval++vs.toArray=(c.args.toList.map a.eval++vs).toArray:=by apply jj;simp
  simp[execOp,ho,resolve,hc,Deferred.ofValue,hv,invoke,callFunc,h1,h2,hb,Sem.run_bind,<-gE]
 simp only[aS,ho,hc]at ht⊢;have hf:=hρ f;split at ht
 .rename_i ff caps hv;rw[hv]at hf;simp only[qe]at hf;obtain⟨vs,ev,Hl⟩:=hf;have ha:=gU.append (yc hρ c.args.toList) (BJ Hl);have uv:∀{A:aZ}{S:aD}{au:List AV},aX (l5 C D A S o.dst site ff au)->vQ P ff:=by
   intro A S au ht;obtain⟨⟨v,rt'⟩,hd⟩:=ht true;unfold l5 at hd;split at hd
   .simp[Tr.dec]at hd
   .split at hd
    .simp[Tr.dec]at hd
    .split at hd
     .simp[Tr.dec]at hd
     .split at hd
      .simp only[Tr.dec,bD]at hd;obtain⟨r,hD,_⟩:=hd;exact eG.call _ _ _ hD
      .simp[Tr.dec]at hd
  by_cases hst:(C.jB ff&&hint)=true
  .simp only[k_,aE hst]at ht⊢;obtain⟨k1,k2⟩:=eG.link ff (by rw[aO]at hst;exact hst.1);rw[iI ff vs k1 ev];exact k2 _ _ _ _ _ _ st ha ht
  simp only[k_,ax hst]at ht⊢;by_cases lW:pM (C.sig ff) (c.args.toList.map ρ++ij caps)=true
  .simp only[aE lW]at ht⊢;cases hsa:gN S.rt (C.sig ff).params (c.args.toList.map ρ++ij caps) with
   | none=>rw[hsa]at ht;exact absurd ht aX.fail
   | some z=>
    rw[hsa]at ht;simp only at ht⊢;obtain⟨g1,u6,_,uZ,ur⟩:=HW eG st (sl:=S.sl) (C.sig ff).params _ _ S.rt g z ha st hsa;rw[iI ff vs (uv ht) ev];refine(C7 eG (S:=⟨S.sl,z.2⟩) u6 (A:={ A with sh:=hint }) ⟨ok.pq,ok.pl,ok.fr⟩ ur ht).mono ?_;rintro e w' he;cases e with
    | returned val=>obtain⟨β,v,rt',h1,g2,h2,h3,h4,h5⟩:=he;exact⟨β,v,rt',h1,g2,h2,h3,uZ.trans h4,by rw[<-uZ.2.1];exact h5⟩
    | _=>exact he
  .simp only[ax lW]at ht⊢;rw[iI ff vs (uv ht) ev];exact C7 eG st (A:={ A with sh:=hint }) ⟨ok.pq,ok.pl,ok.fr⟩ ha ht
 .rename_i cl hv;rw[hv]at hf;simp only[qe]at hf;obtain⟨vs,ev,z5⟩:=hf;by_cases hsc:(C.ty o.type).scalar=true
  .simp only[hsc,aK]at ht⊢;cases hx:qI S.rt (c.argTypes.toList.map C.ty) (c.args.toList.map ρ) with
   | none=>rw[hx]at ht;exact absurd ht aX.fail
   | some xs=>
    rw[hx]at ht;simp only at ht⊢;obtain⟨⟨v,rt'⟩,hd⟩:=ht true;have Ev:=hd;simp only[Tr.dec,bD,ay,aJ]at hd;obtain⟨y,hy,rfl,rfl⟩:=hd;have Gr:vQ P cl.f:=by have:=hy;simp only[EP,bD]at this;obtain⟨aa,_,r,hD,_⟩:=this;exact eG.call _ _ _ hD
    rw[iI cl.f vs Gr ev];have hxs:=A_ eG st _ _ _ _ (yc hρ c.args.toList) hx;refine(H_ eG st hsc hy hxs z5).mono ?_;rintro e w' ⟨val,rfl,hp⟩;exact⟨true,_,_,Ev,hp⟩
  .rw[ax hsc]at ht;exact absurd ht aX.fail
 .exact absurd ht aX.fail
theorem I4{o:Oper}(ok:jk A S o.dst site):Goal P C D S g w tmps a ρ A site hint o:=
 KK aM st hρ ok fun c f ho hc=>J_ aM eG st hρ ho hc ok
end
end Go.V
namespace Go.V
noncomputable section
open Go
theorem C9{d:Nat}:∀(l:List AV)(i:Nat),mD d i l=true->∀k,i+k≠d->(l.getD k .undef).roots.contains d=false
 | [],i,_,k,_=>by simp[List.getD,AV.roots]
 | v::l,i,h,k,hk=>by
  simp only[mD,aO,fX,gw,Be]at h;cases k with
  | zero=>exact h.1.resolve_left (by simpa using hk)
  | succ k=>simpa [List.getD] using C9 l (i+1) h.2 k (by omega)
theorem Bt{d:Nat}:∀(l:List AV)(i:Nat),v5 d i l=true->∀k,i+k≠d->(l.getD k .undef).eL d=true
 | [],i,_,k,_=>by simp[List.getD,AV.eL]
 | v::l,i,h,k,hk=>by
  simp only[v5,aO,fX,Be]at h;cases k with
  | zero=>exact h.1.resolve_left (by simpa using hk)
  | succ k=>simpa [List.getD] using Bt l (i+1) h.2 k (by omega)
theorem xy{s:Nat}:∀(l:List AV),yx s l=true->∀k,(l.getD k .undef).aH s (s+1)=true
 | [],_,k=>by simp[List.getD,AV.aH]
 | v::l,h,k=>by
  simp only[yx,aO]at h;cases k with
  | zero=>exact h.1
  | succ k=>simpa [List.getD] using xy l h.2 k
def St.blank(S:St):Option Nat->St
 | some d=>S.set d .undef
 | none=>S
theorem sq(S:St)(d:Nat)(u:Nat):(S.blank (some d)).get u=if u=d then .undef else S.get u:=by
 simp only[St.blank,St.ez];by_cases e:u=d
 .subst e;by_cases h:u<S.sl.length
  .simp[h]
  .simp only[h,and_false,bY,aK];simp only[St.get_eq,List.getD];rw[iD (by omega)];rfl
 .simp[e]
theorem J7(S:St)(d:Option Nat)(site:Nat):jk (gT S.sl d site) (S.blank d) d site where
 pq:=by
  intro h d' hd u;subst hd;simp only[gT]at h;rw[sq];split
  .rfl
  .rename_i hu;rw[St.get_eq];exact C9 S.sl 0 h u (by omega)
 pl:=by
  intro h d' hd u;subst hd;simp only[gT]at h;rw[sq];split
  .rfl
  .rename_i hu;rw[St.get_eq];exact Bt S.sl 0 h u (by omega)
 fr:=by
  intro h;simp only[gT,aO,jx]at h;refine⟨h.1,fun u=>?_⟩;cases d with
  | none=>rw[St.get_eq];exact xy S.sl h.2 u
  | some d=>
   rw[sq];split
   .rfl
   .rw[St.get_eq];exact xy S.sl h.2 u
theorem Ij{h:Array Obj}{S:St}{g:ai}(v:Value):qe h S g (sS v) v:=by
 unfold sS;split
 .simp only[qe,ag];exact⟨_,rfl,rfl⟩
 .simp only[qe,ag];exact⟨_,rfl,rfl⟩
 .simp only[qe,ag];exact⟨_,rfl,rfl⟩
 .simp only[qe]
 .simp only[qe]
theorem J3{h:Array Obj}{S:St}{g:ai}{a:AV}{v:Value}(x:qe h S g a v):qe h S g a.flat v:=by
 cases a with
 | bA b=>simp only[qe]at x;subst x;simp only[AV.flat,qe,ag];exact⟨_,rfl,rfl⟩
 | _=>exact x
theorem BY{h:Array Obj}{S:St}{g:ai}{a:Act}{H:BS}(st:aj h S g a.tmps H)(x:Operand):qe h S g (ev S x) (a.eval x):=by
 cases x with
 | tmp t=>exact J3 (st.slots t)
 | const v=>exact Ij v
 | func f=>simp only[ev,qe,Act.eval];exact⟨[],rfl,by simp only[aC]⟩
 | global n=>simp only[ev,qe]
def vY:List AV->List Nat->List AV
 | sl,[]=>sl
 | sl,t::ts=>vY (sl.set t .undef) ts
theorem AR:∀(ts:List Nat)(S:St),S.forget ts=⟨vY S.sl ts,S.rt⟩
 | [],_=>rfl
 | t::ts,S=>by simp only[St.forget,vY];rw[AR ts,St.ep]
theorem Cc(d:Nat)(x v:AV):∀(ts:List Nat)(sl:List AV),(vY (sl.set d x) ts).set d v=(vY sl ts).set d v
 | [],sl=>by simp[vY]
 | t::ts,sl=>by
  simp only[vY];by_cases e:d=t
  .subst e;rw[List.set_set]
  .rw[List.set_comm _ _ e];exact Cc d x v ts _
theorem aj.jM{h:Array Obj}{g:ai}{tmps:Array Value}{H:BS}:∀(ts:List Nat){S:St},aj h S g tmps H->aj h (S.forget ts) g tmps H
 | [],_,st=>st
 | t::ts,_,st=>aj.jM ts (st.forget t)
section
variable (C:Ctx) (D:Den C)
def jy(ops:Array Oper)(S:St)(o:Oper):Option Bool:=
 match o.guard with
 | none=>some true
 | some (j,b)=>
  match S.get (gP ops j) with
  | .skip=>some false
  | .bA c=>some (c == b)
  | .val .bool c=>some (c == b)
  | _=>none
noncomputable def eX(hints:Hints)(id:Nat)(ops:Array Oper)(β:Bool)(S:St)(i:Nat)(o:Oper):Option (St×gi):=
 match jy ops S o with
 | some true=>((fk C D S (id * 256+i+1) (hints.share.contains (id,i)) o).dec β).map fun x=>(fin ops ⟨S.sl,x.2⟩ i o x.1,iN C ops S (id * 256+i+1) i o x.1 x.2)
 | some false=>some (fin ops S i o .skip,jU ops S (id * 256+i+1) i o)
 | none=>none
end
def nX(np:List Nat)(a a':Act):Prop:=∀t,t∈np->a'.tmps.getD t Go.undef=a.tmps.getD t Go.undef
theorem nX.refl(np:List Nat)(a:Act):nX np a a:=fun _ _=>rfl
theorem nX.trans{np:List Nat}{a b c:Act}(h:nX np a b)(k:nX np b c):nX np a c:=fun t ht=>(k t ht).trans (h t ht)
theorem nX.put{np:List Nat}{a:Act}{d:Option Nat}{v:Value}(h:∀d',d=some d'->d'∉np):nX np a (a.put d v):=by
 intro t ht;cases d with
 | none=>rfl
 | some d=>have:=h d rfl;simp only[Act.put,kj,xD];rw[ax (by rintro rfl;exact this ht)]
section
variable {P:Program} {C:Ctx} {D:Den C} {S:St} {g:ai} {w:World} {a:Act} {np:List Nat}
variable (aM:e_ P C) (eG:oA P C D) (st:aj w.heap S g a.tmps Nil)
include aM eG st
theorem BB{ops:Array Oper}{i:Nat}{o:Oper}{rt':aD}{g':ai}{h':Array Obj}{v:AV}{val:Value}(st':aj h' ⟨(S.blank o.dst).sl,rt'⟩ g' a.tmps Nil)
  (x:qe h' ⟨(S.blank o.dst).sl,rt'⟩ g' v val):aj h' (fin ops ⟨S.sl,rt'⟩ i o v) g' (a.put o.dst val).tmps Nil:=by
 have s1:=aj.jM (mF ops i o) st';have e1:=AR (mF ops i o) (⟨(S.blank o.dst).sl,rt'⟩:St);unfold fin nJ;cases hd:o.dst with
 | none=>rw[hd]at s1;simp only[Act.put];exact s1
 | some d=>
  rw[hd]at s1 x e1;have x1:qe h' ((⟨(S.blank (some d)).sl,rt'⟩:St).forget (mF ops i o)) g' v val:=by have n4:=st';rw[hd]at n4;exact qe.eE n4 (by rw[e1]) x
  have s2:=s1.nc d x1;simp only[Act.put];have e2:(((⟨(S.blank (some d)).sl,rt'⟩:St).forget (mF ops i o)).set d v)=(((⟨S.sl,rt'⟩:St).forget (mF ops i o)).set d v):=by rw[AR,AR];simp only[St.ep,St.blank,St.mk.injEq,f_];exact Cc d _ _ _ _
  rw[e2]at s2;exact s2
theorem I_{ops:Array Oper}{o:Oper}{b:Bool}(hj:∀j c,o.guard=some (j,c)->∃oj t,ops[j]? = some oj/\oj.dst=some t)(hg:jy ops S o=some b):Region.wanted o (yielded ops a.tmps)=b:=by
 unfold jy at hg;unfold Region.wanted;cases hgd:o.guard with
 | none=>rw[hgd]at hg;simp only[ay]at hg;exact hg
 | some jc=>
  obtain⟨j,c⟩:=jc;rw[hgd]at hg;obtain⟨oj,t,h1,h2⟩:=hj j c hgd;have hd:gP ops j=t:=by simp[gP,h1,h2]
  have hs:=st.slots t;simp only at hg⊢;rw[hd]at hg;have hy:yielded ops a.tmps j=match a.tmps.getD t Go.undef with | .bool b=>some b | _=>none:=by
   simp only[yielded,h1,h2,bX,kj];cases hq:a.tmps[t]? with
   | none=>simp[Go.undef]
   | some q=>cases q<;>simp
  rw[hy];cases hS:S.get t with
  | skip=>rw[hS]at hg hs;simp only[qe]at hs;simp only[ay]at hg;subst hg;rw[hs];rfl
  | bA q=>rw[hS]at hg hs;simp only[qe]at hs;simp only[ay]at hg;subst hg;rw[hs];cases q<;>cases c<;>rfl
  | val t x=>
   rw[hS]at hg hs;cases t with
   | bool=>simp only[ay]at hg;subst hg;rw[sD hs];cases x<;>cases c<;>rfl
   | _=>simp at hg
  | _=>rw[hS]at hg;simp at hg
theorem Bv{Q:Exit->Act->World->Prop}{hints:Hints}{id:Nat}{ops:Array Oper}{i:Nat}{o:Oper}(hi:ops[i]? = some o)(hj:∀j c,o.guard=some (j,c)->∃oj t,ops[j]? = some oj/\oj.dst=some t)
  (hdf:a.defers=[]) (hnp:∀d,o.dst=some d->d∉np) (ht:∀β,∃x,eX C D hints id ops β S i o=some x) {K:Act->World->Prop}
  (hK:∀β S' e a' w' g',eX C D hints id ops β S i o=some (S',e)->aj w'.heap S' g' a'.tmps Nil->g'.bG g->gB g.L w w'->a'.defers=[]->nX np a a'->K a' w'):wpOp P ops Q i K a w:=by
 obtain⟨x0,hx0⟩:=ht true;unfold wpOp;simp only[hi];cases hg:jy ops S o with
 | none=>unfold eX at hx0;rw[hg]at hx0;simp at hx0
 | some b=>
  rw[I_ aM eG st hj hg];cases b with
  | false=>
   simp only[cL,bY];have hst:eX C D hints id ops true S i o=some (fin ops S i o .skip,jU ops S (id * 256+i+1) i o):=by unfold eX;rw[hg]
   refine hK true _ _ (a.put o.dst Go.undef) w g hst ?_ (.refl g) (.refl _ _) ?_ (.put hnp)
   .have s0:aj w.heap ⟨(S.blank o.dst).sl,S.rt⟩ g a.tmps Nil:=by
     cases hd:o.dst with
     | none=>exact st
     | some d=>exact st.forget d
    exact BB aM eG st s0 (by simp only[qe])
   .cases o.dst<;>exact hdf
  | true=>
   simp only[aK];refine .inl ?_;have s0:aj w.heap (S.blank o.dst) g a.tmps Nil:=by
    cases hd:o.dst with
    | none=>exact st
    | some d=>exact st.forget d
   have mo:(S.blank o.dst).rt=S.rt:=by cases o.dst<;>rfl
   have hρ:∀x,qe w.heap (S.blank o.dst) g (ev S x) (a.eval x):=fun x=>qe.eE st mo (BY st x);have hstep:∀β,eX C D hints id ops β S i o=((fk C D S (id * 256+i+1) (hints.share.contains (id,i)) o).dec β).map fun x=>(fin ops ⟨S.sl,x.2⟩ i o x.1,iN C ops S (id * 256+i+1) i o x.1 x.2):=by intro β;unfold eX;rw[hg]
   have htot:aX (aS C D (gT S.sl o.dst (id * 256+i+1)) (ev S) (S.blank o.dst).rt (id * 256+i+1) (hints.share.contains (id,i)) o):=by intro β;obtain⟨x,hx⟩:=ht β;rw[hstep]at hx;simp only[c5]at hx;obtain⟨y,hy,_⟩:=hx;rw[mo];exact⟨y,hy⟩
   have hres:=I4 aM eG s0 hρ (J7 S o.dst (id * 256+i+1)) htot;have hout:∀val w',kI (S.blank o.dst) g w a.tmps (aS C D (gT S.sl o.dst (id * 256+i+1)) (ev S) (S.blank o.dst).rt (id * 256+i+1) (hints.share.contains (id,i)) o) val w'->K (a.put o.dst val) w':=by rintro val w' ⟨β,v,rt',hd,g',p1,p2,p3,p4⟩;rw[mo]at hd;refine hK β (fin ops ⟨S.sl,rt'⟩ i o v) _ _ w' g' (by rw[hstep];unfold fk;rw[hd];rfl) (BB aM eG st p1 p2) p3 p4 ?_ (.put hnp);cases o.dst<;>exact hdf
   unfold Oper.wp;revert hres;generalize (execOp a.eval o).run P w=r;intro hres;unfold cV at hres;split at hres
   .exact hout _ _ hres
   .exact hout _ _ hres
   .refine Calls.mono hres ?_;rintro e w'' he;cases e with
    | returned val=>exact hout _ _ he
    | panicked _=>exact he.elim
    | outgrown=>exact he.elim
   .exact hres.elim
end
end
section
variable (C:Ctx) (D:Den C)
noncomputable def cI(hints:Hints)(id:Nat)(ops:Array Oper):List Bool->List (Nat×Oper)->St->Option (St×Log)
 | _,[],S=>some (S,[])
 | βs,(i,o)::l,S=>(eX C D hints id ops (βs.headD true) S i o).bind fun x=>(cI hints id ops βs.tail l x.1).map fun y=>(y.1,x.2::y.2)
end
structure de (S T:St):Prop where
 rt:T.rt=S.rt
 len:T.sl.length=S.sl.length
 get:∀t,T.get t=S.get t\/∃b,S.get t=.bA b/\T.get t=.val .bool b
theorem de.refl(S:St):de S S:=⟨rfl,rfl,fun _=>.inl rfl⟩
theorem de.flat{S T:St}(h:de S T)(t:Nat):(T.get t).flat=(S.get t).flat:=by
 rcases h.get t with e | ⟨b,e1,e2⟩
 .rw[e]
 .rw[e1,e2];rfl
theorem de.ev{S T:St}(h:de S T):ev T=ev S:=by
 funext x;cases x with
 | tmp t=>exact h.flat t
 | _=>rfl
theorem de.roots{S T:St}(h:de S T)(t:Nat):(T.get t).roots=(S.get t).roots:=by
 rcases h.get t with e | ⟨b,e1,e2⟩
 .rw[e]
 .rw[e1,e2];rfl
theorem de.stamps{S T:St}(h:de S T)(t:Nat):(T.get t).stamps=(S.get t).stamps:=by
 rcases h.get t with e | ⟨b,e1,e2⟩
 .rw[e]
 .rw[e1,e2];rfl
theorem B9(s:Nat):∀(l l2:List AV),l2.length=l.length->(∀k,(l2.getD k .undef).aH s (s+1)=(l.getD k .undef).aH s (s+1))->yx s l2=yx s l
 | [],[],_,_=>rfl
 | [],_::_,h,_=>by simp at h
 | _::_,[],h,_=>by simp at h
 | v::l,u::l2,h,hk=>by
  have h0:=hk 0;simp only[qS]at h0;simp only[yx];rw[h0,B9 s l l2 (by simpa using h) (fun k=>by have:=hk (k+1);simpa [List.getD] using this)]
theorem Bd{sl u5:List AV}(d:Option Nat)(s:Nat)(hl:u5.length=sl.length)(hr:∀d',d=some d'->∀k,k≠d'->(u5.getD k .undef).roots.contains d'=(sl.getD k .undef).roots.contains d')
  (hp:∀d',d=some d'->∀k,k≠d'->(u5.getD k .undef).eL d'=(sl.getD k .undef).eL d') (hs:∀k,(u5.getD k .undef).aH s (s+1)=(sl.getD k .undef).aH s (s+1)):gT u5 d s=gT sl d s:=by
 have hf:=B9 s sl u5 hl hs;cases d with
 | none=>simp only[gT,hf]
 | some d=>
  have hm:∀(l l2:List AV)(i:Nat),l2.length=l.length->(∀k,i+k≠d->(l2.getD k .undef).roots.contains d=(l.getD k .undef).roots.contains d)->mD d i l2=mD d i l:=by
   intro l
   induction l with
   | nil=>intro l2 i h _;cases l2 with
    | nil=>rfl
    | cons _ _=>simp at h
   | cons v l ih=>
    intro l2 i h hk;cases l2 with
    | nil=>simp at h
    | cons u l2=>
     simp only[mD];rw[ih l2 (i+1) (by simpa using h) (fun k Sp=>by have:=hk (k+1) (by omega);simpa [List.getD] using this)];by_cases e:i=d
     .subst e;simp
     .have:=hk 0 (by omega);simp only[qS]at this;rw[this]
  have Au:∀(l l2:List AV)(i:Nat),l2.length=l.length->(∀k,i+k≠d->(l2.getD k .undef).eL d=(l.getD k .undef).eL d)->v5 d i l2=v5 d i l:=by
   intro l
   induction l with
   | nil=>intro l2 i h _;cases l2 with
    | nil=>rfl
    | cons _ _=>simp at h
   | cons v l ih=>
    intro l2 i h hk;cases l2 with
    | nil=>simp at h
    | cons u l2=>
     simp only[v5];rw[ih l2 (i+1) (by simpa using h) (fun k Sp=>by have:=hk (k+1) (by omega);simpa [List.getD] using this)];by_cases e:i=d
     .subst e;simp
     .have:=hk 0 (by omega);simp only[qS]at this;rw[this]
  simp only[gT,hf];rw[hm sl u5 0 hl (fun k h=>hr d rfl k (by omega)),Au sl u5 0 hl (fun k h=>hp d rfl k (by omega))]
theorem de.asks{S T:St}(h:de S T)(d:Option Nat)(s:Nat):gT T.sl d s=gT S.sl d s:=by
 refine Bd d s h.len (fun d' _ k _=>?_) (fun d' _ k _=>?_) (fun k=>?_)
 .have:=h.roots k;simp only[St.get_eq]at this;rw[this]
 .rcases h.get k with e | ⟨b,e1,e2⟩
  .simp only[St.get_eq]at e;rw[e]
  .simp only[St.get_eq]at e1 e2;rw[e1,e2];rfl
 .rcases h.get k with e | ⟨b,e1,e2⟩
  .simp only[St.get_eq]at e;rw[e]
  .simp only[St.get_eq]at e1 e2;rw[e1,e2];rfl
theorem de.set{S T:St}(h:de S T)(t:Nat)(v:AV):de (S.set t v) (T.set t v) where
 rt:=h.rt
 len:=by simp[St.ep,h.len]
 get:=by
  intro u;rw[St.ez,St.ez,h.len];by_cases e:u=t/\t<S.sl.length
  .rw[aE e,aE e];exact .inl rfl
  .rw[ax e,ax e];exact h.get u
theorem de.forget{S T:St}(h:de S T):∀ts:List Nat,de (S.forget ts) (T.forget ts):=by
 intro ts
 induction ts generalizing S T with
 | nil=>exact h
 | cons t ts ih=>exact ih (h.set t .undef)
theorem de.yH{S T:St}(h:de S T)(rt:aD):de ⟨S.sl,rt⟩ ⟨T.sl,rt⟩:=⟨rfl,h.len,h.get⟩
theorem de.fin{S T:St}(h:de S T)(ops:Array Oper)(i:Nat)(o:Oper)(v:AV):de (fin ops S i o v) (fin ops T i o v):=by
 unfold V.fin nJ;cases o.dst with
 | none=>exact h.forget _
 | some d=>exact(h.forget _).set d v
theorem de.b9{S T:St}(h:de S T):∀ts,b9 T ts=b9 S ts
 | []=>rfl
 | t::ts=>by simp only[V.b9];rw[h.roots,de.b9 h ts]
theorem de.bI{S T:St}(h:de S T):∀ts,bI T ts=bI S ts
 | []=>rfl
 | t::ts=>by simp only[V.bI];rw[h.stamps,de.bI h ts]
section
variable {C:Ctx} {D:Den C}
theorem de.fk{S T:St}(h:de S T)(site:Nat)(hint:Bool)(o:Oper):fk C D T site hint o=fk C D S site hint o:=by unfold V.fk;rw[h.asks,h.ev,h.rt]
theorem de.N_{S T:St}(h:de S T)(ops:Array Oper)(site i:Nat)(o:Oper)(v:AV)(rt':aD):iN C ops T site i o v rt'=iN C ops S site i o v rt':=by unfold iN nH;rw[h.ev,h.b9,h.bI,h.rt]
theorem de.skip{S T:St}(h:de S T)(ops:Array Oper)(site i:Nat)(o:Oper):jU ops T site i o=jU ops S site i o:=by unfold jU;rw[h.b9,h.bI]
theorem Bu{hints:Hints}{id:Nat}{ops:Array Oper}{S T:St}(h:de S T){i:Nat}{o:Oper}{β:Bool}(hg:jy ops T o=some true){x:AV×aD}
  (hd:(fk C D S (id * 256+i+1) (hints.share.contains (id,i)) o).dec β=some x) :
  eX C D hints id ops β T i o=some (fin ops ⟨T.sl,x.2⟩ i o x.1,iN C ops S (id * 256+i+1) i o x.1 x.2)/\de (fin ops ⟨S.sl,x.2⟩ i o x.1) (fin ops ⟨T.sl,x.2⟩ i o x.1):=by
 refine⟨?_,(h.yH x.2).fin ops i o x.1⟩;unfold eX;rw[hg,h.fk,hd,<-h.N_];rfl
theorem C0{hints:Hints}{id:Nat}{ops:Array Oper}{S T:St}(h:de S T){i:Nat}{o:Oper}{β:Bool}(hg:jy ops T o=some false) :
  eX C D hints id ops β T i o=some (fin ops T i o .skip,jU ops S (id * 256+i+1) i o)/\de (fin ops S i o .skip) (fin ops T i o .skip):=by
 refine⟨?_,h.fin ops i o .skip⟩;unfold eX;rw[hg,<-h.skip]
end
section
variable {P:Program} {C:Ctx} {D:Den C} (aM:e_ P C) (eG:oA P C D)
include aM eG
theorem BG{np:List Nat}{Q:Exit->Act->World->Prop}{hints:Hints}{id:Nat}{ops:Array Oper}(hj:∀(i:Nat) o j c,ops[i]? = some o->o.guard=some (j,c)->∃oj t,ops[j]? = some oj/\oj.dst=some t) :
  ∀(l:List (Nat×Oper))(S:St)(g:ai)(a:Act)(w:World),(∀x∈l,ops[x.1]? = some x.2)->(∀x∈l,∀d,x.2.dst=some d->d∉np)->aj w.heap S g a.tmps Nil->a.defers=[]->(∀βs,∃x,cI C D hints id ops βs l S=some x)->
   (∀βs S' lg a' w' g',cI C D hints id ops βs l S=some (S',lg)->aj w'.heap S' g' a'.tmps Nil->g'.bG g->gB g.L w w'->a'.defers=[]->nX np a a'->Q .normal a' w')->wpOps P ops Q (l.map (·.1)) a w
 | [],S,g,a,w,hl,hnp,st,hdf,ht,hQ=>by
  simp only[kz,wpOps];exact hQ [] S [] a w g rfl st (.refl g) (.refl _ _) hdf (.refl _ _)
 | (i,o)::l,S,g,a,w,hl,hnp,st,hdf,ht,hQ=>by
  simp only[dn];rw[wpOps_cons];have hi:=hl (i,o) ef;refine Bv aM eG st (hints:=hints) (id:=id) hi (fun j c=>hj i o j c hi) hdf (hnp (i,o) ef) (fun β=>?_) ?_
  .obtain⟨x,hx⟩:=ht [β];simp only[cI,mR,bD]at hx;obtain⟨y,hy,_⟩:=hx;exact⟨y,hy⟩
  .intro β S' e a' w' g' hs st' fA hfr fj jQ;refine BG (hints:=hints) (id:=id) hj l S' g' a' w' (fun x hx=>hl x (d_ _ hx)) (fun x hx=>hnp x (d_ _ hx)) st' fj (fun βs=>?_) ?_
   .obtain⟨x,hx⟩:=ht (β::βs);simp only[cI,mR,wG,bD]at hx;obtain⟨y,hy,hx⟩:=hx;rw[hs]at hy;simp only[ay]at hy;subst hy;simp only[c5]at hx;obtain⟨z,hz,_⟩:=hx;exact⟨z,hz⟩
   .intro βs oE lg yK w'' nk hr n4 o9 kT oT oW;refine hQ (β::βs) oE (e::lg) yK w'' nk ?_ n4 (fA.trans o9) (hfr.trans (by rw[fA.2.1]at kT;exact kT)) oT (jQ.trans oW);simp only[cI,mR,wG,hs,bX,hr,cr]
end
end Go.V
namespace Go.V
noncomputable section
open Go
section
variable {C:Ctx} {D:Den C}
theorem tC{α:Type}{x:Option α}{f:α->AV}{S:aD}{β:Bool}{v:AV}{rt':aD}(h:(Tr.of (x.map fun v=>(f v,S))).dec β=some (v,rt')):rt'=S:=by
 cases x with
 | none=>simp[Tr.of,Tr.dec]at h
 | some y=>simp only[cr,Tr.of,Tr.dec,ay,aJ]at h;exact h.2.symm
theorem Jk{A:aZ}{ρ:Operand->AV}{S:aD}{site:Nat}{hint:Bool}{o:Oper}(hT:kC o=true){β:Bool}{v:AV}{rt':aD}(h:(aS C D A ρ S site hint o).dec β=some (v,rt')):rt'=S:=by
 cases ho:o.op with
 | move x=>simp only[aS,ho,Tr.dec,ay,aJ]at h;exact h.2.symm
 | pick c a b=>
  simp only[aS,ho]at h;split at h
  .rename_i c' _;cases c'<;>(simp only[Tr.dec,ay,aJ]at h;exact h.2.symm)
  .simp[Tr.dec]at h
 | unOp op t x=>
  simp only[aS,ho]at h;split at h
  .simp only[Tr.dec,ay,aJ]at h;exact h.2.symm
  .simp only[Tr.dec,ay,aJ]at h;exact h.2.symm
  .simp[Tr.dec]at h
 | fieldAddr t x f=>simp only[aS,ho]at h;exact tC (f:=fun v=>v) h
 | field t x f=>
  simp only[aS,ho]at h;split at h
  .split at h
   .split at h
    .simp only[Tr.dec,ay,aJ]at h;exact h.2.symm
    .simp[Tr.dec]at h
   .simp[Tr.dec]at h
  .simp[Tr.dec]at h
 | load t x=>
  simp only[aS,ho]at h;split at h
  .exact tC (f:=fun v=>v) h
  .simp[Tr.dec]at h
 | extract x i=>simp only[aS,ho]at h;exact tC (f:=fun v=>v) h
 | binOp op t x y t2=>
  simp only[aS,ho]at h;split at h
  .split at h
   .simp only[Tr.dec,ay,aJ]at h;exact h.2.symm
   .simp only[Tr.dec,ay,aJ]at h;exact h.2.symm
   .simp[Tr.dec]at h
  .exact(CN (T:=gC (C.ty t) op (ρ x) (ρ y)) (S:=S) (β:=β) (v:=v) (rt:=rt') (by unfold tD;exact h)).2
 | call c=>
  cases hc:c.callee with
  | builtin b=>
   cases b with
   | len=>
    simp only[aS,ho,hc]at h;split at h<;>first
     | (simp only[Tr.dec,ay,aJ]at h;exact h.2.symm)
     | exact tC (f:=fun n=>AV.val (Ty.int IntKind.i64) n) h
     | (exfalso;contradiction)
     | (exfalso;revert h;simp only[Tr.dec];intro h;contradiction)
   | _=>simp[kC,ho,hc]at hT
  | _=>simp[kC,ho,hc]at hT
 | _=>simp[kC,ho]at hT
theorem Ix{A:aZ}{ρ:Operand->AV}{S:aD}{site:Nat}{h1 h2:Bool}{o:Oper}(hT:kC o=true):aS C D A ρ S site h1 o=aS C D A ρ S site h2 o:=by
  cases ho:o.op with
  | call c=>
    cases hc:c.callee with
    | builtin b=>
      cases b with
      | len=>
        simp only[aS,ho,hc];generalize List.map ρ c.args.toList=l1;generalize List.map C.ty c.argTypes.toList=l2;rcases l1 with _ | ⟨x,_ | ⟨y,l⟩⟩
        . rfl
        . rcases l2 with _ | ⟨t,l2⟩
          . cases x with
            | val ty s=>cases ty<;>rfl
            | _=>rfl
          . cases x with
            | val ty s=>cases ty<;>cases t<;>rfl
            | _=>cases t<;>rfl
        . rcases l with _ | ⟨z,l⟩<;>rcases l2 with _ | ⟨t,_ | ⟨t',l2⟩⟩<;>first
            | rfl
            | (cases t<;>first | rfl | (cases t'<;>rfl))
            | (cases x with
               | val ty s=>cases ty<;>first | rfl | (cases t<;>first | rfl | (cases t'<;>rfl))
               | _=>first | rfl | (cases t<;>first | rfl | (cases t'<;>rfl)))
      | _=>simp[kC,ho,hc]at hT
    | _=>simp[kC,ho,hc]at hT
  | _=>first | (simp[kC,ho]at hT;done) | simp only[aS,ho]
theorem wV:∀(ts:List Nat)(S:St)(u:Nat),(S.forget ts).get u=if u∈ts then .undef else S.get u
 | [],S,u=>by simp[St.forget]
 | t::ts,S,u=>by
  simp only[St.forget,wV ts,cU];have:=sq S t u;simp only[St.blank]at this;rw[this];by_cases h1:u∈ts
  .simp[h1]
  .by_cases h2:u=t<;>simp[h1,h2]
theorem wW(ts:List Nat)(S:St):(S.forget ts).sl.length=S.sl.length:=by
 induction ts generalizing S with
 | nil=>rfl
 | cons t ts ih=>simp only[St.forget];rw[ih];simp[St.ep]
theorem CE(ts:List Nat)(S:St):(S.forget ts).rt=S.rt:=by rw[AR]
theorem rL(ops:Array Oper)(S:St)(i:Nat)(o:Oper)(v:AV)(u:Nat) :
  (fin ops S i o v).get u=if o.dst=some u/\u<S.sl.length then v else if u∈mF ops i o then .undef else S.get u:=by
 unfold fin nJ;cases hd:o.dst with
 | none=>simp[wV]
 | some d=>
  rw[St.ez,wV,wW];by_cases e:u=d
  .subst e;simp
  .have:¬ d=u:=fun h=>e h.symm;simp[e,this]
theorem jW(ops:Array Oper)(S:St)(i:Nat)(o:Oper)(v:AV):(fin ops S i o v).rt=S.rt:=by
 unfold fin nJ;cases o.dst with
 | none=>exact CE _ _
 | some d=>exact CE _ _
theorem y8(ops:Array Oper)(S:St)(i:Nat)(o:Oper)(v:AV):(fin ops S i o v).sl.length=S.sl.length:=by
 unfold fin nJ;cases o.dst with
 | none=>exact wW _ _
 | some d=>simp only[St.ep,kr];exact wW _ _
theorem wL{hints:Hints}{id:Nat}{ops:Array Oper}{β:Bool}{S S':St}{i:Nat}{o:Oper}{e:gi}(h:eX C D hints id ops β S i o=some (S',e)){u:Nat}(hu:u∉gb ops i o) :
  S'.get u=S.get u/\S'.sl.length=S.sl.length/\(kC o=true->S'.rt=S.rt):=by
 have hn:¬ (o.dst=some u):=fun h=>hu (by simp[gb,h]);have hn2:u∉mF ops i o:=fun h=>hu (by simp[gb,h]);unfold eX at h;split at h
 .simp only[c5,aJ]at h;obtain⟨x,hx,rfl,_⟩:=h;refine⟨?_,?_,fun ht=>?_⟩
  .rw[rL,ax (fun h=>hn h.1),ax hn2];rfl
  .rw[y8]
  .rw[jW];exact Jk ht hx
 .simp only[ay,aJ]at h;obtain⟨rfl,_⟩:=h;refine⟨?_,?_,fun ht=>?_⟩
  .rw[rL,ax (fun h=>hn h.1),ax hn2]
  .rw[y8]
  .rw[jW]
 .simp at h
theorem Cw{hints:Hints}{id:Nat}{ops:Array Oper}{Dd:List Nat}:∀(l:List (Nat×Oper))(βs:List Bool)(S S':St)(lg:Log),cI C D hints id ops βs l S=some (S',lg)->
  (∀x∈l,kC x.2=true/\∀u∈gb ops x.1 x.2,u∈Dd)->(∀u,u∉Dd->S'.get u=S.get u)/\S'.rt=S.rt/\S'.sl.length=S.sl.length
 | [],βs,S,S',lg,h,_=>by
  simp only[cI,ay,aJ]at h;obtain⟨rfl,_⟩:=h;exact⟨fun _ _=>rfl,rfl,rfl⟩
 | (i,o)::l,βs,S,S',lg,h,hl=>by
  simp only[cI,bD,c5,aJ]at h;obtain⟨⟨S1,e⟩,hs,⟨S2,yX⟩,hr,rfl,_⟩:=h;obtain⟨ht,ho⟩:=hl (i,o) ef;obtain⟨k1,k2,k3⟩:=Cw l βs.tail S1 S2 yX hr (fun x hx=>hl x (d_ _ hx));have hex:∃u,u∉gb ops i o:=by
   refine⟨(gb ops i o).foldr max 0+1,fun h=>?_⟩;have:∀(l:List Nat)(u:Nat),u∈l->u<=l.foldr max 0:=by
    intro l
    induction l with
    | nil=>intro u h;simp at h
    | cons a l ih=>
     intro u h;simp only[wD];rcases cU.1 h with rfl | h
     .exact Nat.le_max_left _ _
     .exact jH (ih u h) (Nat.le_max_right _ _)
   have:=this _ _ h;omega
  obtain⟨u0,SD⟩:=hex;obtain⟨_,f2,f3⟩:=wL hs SD;exact⟨fun u hu=>(k1 u hu).trans (wL hs (fun h=>hu (ho u h))).1,k2.trans (f3 ht),k3.trans f2⟩
theorem wK{hints:Hints}{id:Nat}{ops:Array Oper}:∀(l1 l2:List (Nat×Oper))(βs:List Bool)(S:St),
  cI C D hints id ops βs (l1++l2) S=(cI C D hints id ops βs l1 S).bind fun x=>(cI C D hints id ops (βs.drop l1.length) l2 x.1).map fun y=>(y.1,x.2++y.2)
 | [],l2,βs,S=>by simp[cI]
 | (i,o)::l1,l2,βs,S=>by
  simp only[iE,cI];cases hs:eX C D hints id ops (βs.headD true) S i o with
  | none=>simp
  | some x=>
   simp only[bX];rw[wK l1 l2 βs.tail x.1];cases hr:cI C D hints id ops βs.tail l1 x.1 with
   | none=>simp
   | some y=>
    simp only[bX,cr,g9];have:βs.tail.drop l1.length=βs.drop (l1.length+1):=by cases βs<;>simp
    rw[this];cases cI C D hints id ops (βs.drop (l1.length+1)) l2 y.1<;>simp
theorem J1{S:St}{x:Operand}{b:Bool}(h:V.asBool (ev S x)=some b):ev S x=.val .bool b:=by
 cases x with
 | tmp t=>
  simp only[ev]at h⊢;cases hS:S.get t with
  | val t y=>rw[hS]at h;cases t<;>simp[AV.flat,V.asBool]at h;subst h;rfl
  | bA c=>rw[hS]at h;simp[AV.flat,V.asBool]at h;subst h;rfl
  | _=>rw[hS]at h;simp[AV.flat,V.asBool]at h
 | const v=>simp only[ev]at h⊢;unfold sS at h⊢;split at h<;>simp[V.asBool]at h;subst h;rfl
 | _=>simp[ev,V.asBool]at h
def BV(C:Ctx)(D:Den C)(hints:Hints)(id:Nat)(ops:Array Oper)(lu:List (Nat×Oper)->St->Log->Option (St×Log)):Prop:=
 ∀l S lg S1 eK,lu l S lg=some (S1,eK)->(∀x∈l,kC x.2=true)->∀T,de S T->∀βs,∃T1 er,cI C D hints id ops βs l T=some (T1,er)/\de S1 T1/\(∀e∈er,e∈eK)/\(∀e∈lg,e∈eK)
theorem Bb{t:Nat}:∀(l:List (Nat×Oper)){seg:List (Nat×Oper)}{x:Nat×Oper}{rest:List (Nat×Oper)},AY t l=some (seg,x,rest)->l=seg++x::rest/\yd t x.2=true
 | [],_,_,_,h=>by simp[AY]at h
 | y::l,seg,x,rest,h=>by
  simp only[AY]at h;split at h
  .rename_i hp;simp only[ay,aJ]at h;obtain⟨rfl,rfl,rfl⟩:=h;exact⟨rfl,hp⟩
  .split at h
   .rename_i z hz;obtain⟨z1,z2,z3⟩:=z;simp only[ay,aJ]at h;obtain⟨rfl,rfl,rfl⟩:=h;obtain⟨e,hp⟩:=Bb l hz;exact⟨by rw[e];rfl,hp⟩
   .simp at h
theorem Bp{hints:Hints}{id:Nat}{ops:Array Oper}{lu:List (Nat×Oper)->St->Log->Option (St×Log)}(G6:BV C D hints id ops lu){t:Nat}{c:Bool}{l rest:List (Nat×Oper)}{S S':St}{lg vL:Log}
  (h:tf C ops id lu t c l S lg=some (S',vL,rest)) (zU:S.get t=.val .bool c) {T:St} (hs:de S T) (βs:List Bool) :
  ∃seg i o T' er,l=seg++(i,o)::rest/\cI C D hints id ops βs (seg++[(i,o)]) T=some (T',er)/\de S' T'/\(∀e∈er,e∈vL)/\(∀e∈lg,e∈vL)/\kC o=true:=by
 unfold tf at h;split at h
 .rename_i seg i o rest' hsp;obtain⟨hl,hpick⟩:=Bb l hsp;simp only at h;split at h
  .rename_i hc;simp only[aO,lM,gw]at hc;obtain⟨⟨lS,fD⟩,lU⟩:=hc;split at h
   .rename_i cc a b S1 l1 S2 l2 hop h1 h2;split at h
    .rename_i x y hx hy;simp only[ay,aJ]at h;obtain⟨rfl,rfl,rfl⟩:=h;have Et:T.get t=.val .bool c:=by
      rcases hs.get t with e | ⟨b,e1,_⟩
      .rw[e];exact zU
      .rw[zU]at e1;simp at e1
     have q_:t<S.sl.length:=by
      rcases sP t S.sl.length with h | h
      .exact h
      .simp only[St.get_eq,List.getD]at zU;rw[iD h]at zU;simp at zU
     have kU:de (S.set t (.bA c)) T:=by
      refine⟨hs.rt,by simp[St.ep,hs.len],fun u=>?_⟩;rw[St.ez];by_cases e:u=t
      .subst e;rw[aE ⟨rfl,q_⟩];exact .inr ⟨c,rfl,Et⟩
      .rw[ax (fun h=>e h.1)];exact hs.get u
     have oc:cc=.tmp t:=by
      unfold yd at hpick;rw[hop]at hpick;split at hpick
      .rename_i c' _ _ he;simp only[Op.pick.injEq]at he;rw[he.1];rw[g8 hpick]
      .simp at hpick
     have Ay:∀x∈seg,kC x.2=true/\∀u∈gb ops x.1 x.2,u∈mF ops i o:=by intro z hz;have:=lS z hz;exact⟨this.1,fun u hu=>by have:=this.2 u hu;simpa using this⟩
     -- rQ way NZ is gone
     have key:∀(Sc:St)(lc:Log),lu seg (S.set t (.bA c)) []=some (Sc,lc)->∀z,V.asBool (ev Sc (if c then a else b))=some z->
       ∃T' er,cI C D hints id ops βs (seg++[(i,o)]) T=some (T',er)/\de (fin ops S i o (.val .bool z)) T'/\∀e∈er,e∈lc\/e=iN C ops Sc (id * 256+i+1) i o (.val .bool z) Sc.rt:=by
      intro Sc lc hr z hz;obtain⟨T1,er,k1,k2,k3,_⟩:=G6 seg _ _ Sc lc hr (fun x hx=>(Ay x hx).1) T kU βs;obtain⟨f1,f2,f3⟩:=Cw seg βs T T1 er k1 Ay;have SC:t∉mF ops i o:=by simpa using lU
      have Gi:T1.get t=.val .bool c:=by rw[f1 t SC];exact Et
      have hg:jy ops T1 o=some true:=by
       unfold BP at fD;unfold jy;split at fD
       .rename_i hgd;rw[hgd]
       .rename_i j b' hgd;simp only[aO,gw]at fD;rw[hgd];simp only;have Sl:gP ops j∉mF ops i o:=by simpa using fD.1
        rw[f1 _ Sl];have h5:=fD.2;split at h5
        .rename_i c' hS;rcases hs.get (gP ops j) with e | ⟨b2,e1,e2⟩
         .rw[e,hS];simp only[ay];exact h5
         .rw[e2];rw[hS]at e1;simp only[AV.bA.injEq]at e1;subst e1;simp only[ay];exact h5
        .simp at h5
      have Gy:ev T1 (if c then a else b)=.val .bool z:=by rw[k2.ev];exact J1 hz
      have Gv:(fk C D T1 (id * 256+i+1) (hints.share.contains (id,i)) o).dec ((βs.drop seg.length).headD true)=some (.val .bool z,T1.rt):=by unfold fk;simp only[aS,hop,oc,ev,Gi,AV.flat,V.asBool];cases c<;>simp only[Tr.dec,ay,aJ,f_]<;>exact Gy
      have hstep:eX C D hints id ops ((βs.drop seg.length).headD true) T1 i o=some (fin ops T1 i o (.val .bool z),iN C ops Sc (id * 256+i+1) i o (.val .bool z) Sc.rt):=by unfold eX;rw[hg,Gv,<-k2.N_,<-k2.rt];rfl
      refine⟨fin ops T1 i o (.val .bool z),er++[iN C ops Sc (id * 256+i+1) i o (.val .bool z) Sc.rt],?_,?_,?_⟩
      .rw[wK,k1];simp only[bX,cI,hstep,cr]
      .refine⟨?_,?_,fun u=>?_⟩
       .rw[jW,jW,f2,hs.rt]
       .rw[y8,y8,f3,hs.len]
       .rw[rL,rL,f3,hs.len];by_cases h1:o.dst=some u/\u<S.sl.length
        .rw[aE h1,aE h1];exact .inl rfl
        .rw[ax h1,ax h1];by_cases h2:u∈mF ops i o
         .rw[aE h2,aE h2];exact .inl rfl
         .rw[ax h2,ax h2,f1 u h2];exact hs.get u
      .intro e he;rcases dw.1 he with he | he
       .exact .inl (k3 e he)
       .exact .inr (by simpa using he)
     have htot:kC o=true:=by unfold kC;rw[hop]
     cases c with
     | true=>
      obtain⟨T',er,k1,k2,k3⟩:=key S1 l1 h1 x (by simpa using hx);refine⟨seg,i,o,T',er,hl,k1,k2,fun e he=>?_,fun e he=>?_,htot⟩
      .rcases k3 e he with h | rfl
       .simp[h]
       .simp
      .simp[he]
     | false=>
      obtain⟨T',er,k1,k2,k3⟩:=key S2 l2 h2 y (by simpa using hy);refine⟨seg,i,o,T',er,hl,k1,k2,fun e he=>?_,fun e he=>?_,htot⟩
      .rcases k3 e he with h | rfl
       .simp[h]
       .simp
      .simp[he]
    .simp at h
   .simp at h
  .simp at h
 .simp at h
end
end
section
variable {C:Ctx} {D:Den C}
theorem CV{hints:Hints}{id:Nat}{ops:Array Oper}{seg rest:List (Nat×Oper)}{x:Nat×Oper}{T T':St}{er:Log}{βs:List Bool}
  (h:cI C D hints id ops βs (seg++[x]) T=some (T',er)) :
  cI C D hints id ops βs (seg++x::rest) T=(cI C D hints id ops (βs.drop (seg.length+1)) rest T').map fun y=>(y.1,er++y.2):=by
 have e:seg++x::rest=(seg++[x])++rest:=by simp
 rw[e,wK,h];simp only[bX,cS,g9,List.length_nil]
theorem w6{ops:Array Oper}{S T:St}(h:de S T){o:Oper}{j:Nat}{b c:Bool}(hg:o.guard=some (j,b))(hS:S.get (gP ops j)=.bA c\/S.get (gP ops j)=.val .bool c) :
  jy ops T o=some (c == b):=by
 unfold jy;rw[hg];simp only;rcases hS with hS | hS
 .rcases h.get (gP ops j) with e | ⟨c',e1,e2⟩
  .rw[e,hS]
  .rw[hS]at e1;simp only[AV.bA.injEq]at e1;subst e1;rw[e2]
 .rcases h.get (gP ops j) with e | ⟨c',e1,e2⟩
  .rw[e,hS]
  .rw[hS]at e1;simp at e1
theorem Cs{ops:Array Oper}{S T:St}(h:de S T){o:Oper}{j:Nat}{b:Bool}(hg:o.guard=some (j,b))(hS:S.get (gP ops j)=.skip):jy ops T o=some false:=by
 unfold jy;rw[hg];simp only;rcases h.get (gP ops j) with e | ⟨c',e1,e2⟩
 .rw[e,hS]
 .rw[hS]at e1;simp at e1
theorem CO{ops:Array Oper}{T:St}{o:Oper}(hg:o.guard=none):jy ops T o=some true:=by unfold jy;rw[hg]
theorem pI{hints:Hints}{id:Nat}{ops:Array Oper}:∀n,BV C D hints id ops (iz C D id ops n)
 | 0=>by intro l S lg S1 eK h;simp[iz]at h
 | n+1=>by
  intro l S lg S1 eK h hl T hs βs;cases l with
  | nil=>simp only[iz,ay,aJ]at h;obtain⟨rfl,rfl⟩:=h;exact⟨T,[],rfl,hs,by simp,fun e he=>he⟩
  | cons x rest=>
   obtain⟨i,o⟩:=x;have htot:=hl (i,o) ef;have b7:∀x∈rest,kC x.2=true:=fun x hx=>hl x (d_ _ hx);have vz:jy ops T o=some true->(match fk C D S (id * 256+i+1) false o with
     | .ret (v,rt')=>iz C D id ops n rest (fin ops ⟨S.sl,rt'⟩ i o v) (iN C ops S (id * 256+i+1) i o v rt'::lg)
     | _=>none)=some (S1,eK)->∃T1 er,cI C D hints id ops βs ((i,o)::rest) T=some (T1,er)/\de S1 T1/\(∀e∈er,e∈eK)/\(∀e∈lg,e∈eK):=by
    intro hg h;split at h
    .rename_i v rt' hop;have GY:(fk C D S (id * 256+i+1) (hints.share.contains (id,i)) o).dec (βs.headD true)=some (v,rt'):=by unfold fk at hop⊢;rw[Ix htot (h2:=false),hop];rfl
     obtain⟨k1,k2⟩:=Bu (hints:=hints) (id:=id) hs hg GY;obtain⟨T1,er,q1,q2,q3,q4⟩:=pI (hints:=hints) n rest _ _ S1 eK h b7 _ k2 βs.tail;refine⟨T1,iN C ops S (id * 256+i+1) i o v rt'::er,?_,q2,?_,fun e he=>q4 e (d_ _ he)⟩
     .simp only[cI,k1,bX,q1,cr]
     .intro e he;rcases cU.1 he with rfl | he
      .exact q4 _ ef
      .exact q3 e he
    .simp at h
   have iU:jy ops T o=some false->iz C D id ops n rest (fin ops S i o .skip) (jU ops S (id * 256+i+1) i o::lg)=some (S1,eK)->
     ∃T1 er,cI C D hints id ops βs ((i,o)::rest) T=some (T1,er)/\de S1 T1/\(∀e∈er,e∈eK)/\(∀e∈lg,e∈eK):=by
    intro hg h;obtain⟨k1,k2⟩:=C0 (C:=C) (D:=D) (hints:=hints) (id:=id) (β:=βs.headD true) hs hg;obtain⟨T1,er,q1,q2,q3,q4⟩:=pI (hints:=hints) n rest _ _ S1 eK h b7 _ k2 βs.tail;refine⟨T1,jU ops S (id * 256+i+1) i o::er,?_,q2,?_,fun e he=>q4 e (d_ _ he)⟩
    .simp only[cI,k1,bX,q1,cr]
    .intro e he;rcases cU.1 he with rfl | he
     .exact q4 _ ef
     .exact q3 e he
   simp only[iz]at h;split at h
   .rename_i hgd;exact vz (CO hgd) h
   .rename_i j b hgd;split at h
    .rename_i hS;exact iU (Cs hs hgd hS) h
    .rename_i c hS;have hg:=w6 hs hgd (.inl hS);split at h
     .rename_i hcb;subst hcb;exact vz (by simpa using hg) h
     .rename_i hcb;exact iU (by rw[hg];simpa using hcb) h
    .rename_i c hS;split at h
     .rename_i S2 yX m9 hj;obtain⟨seg,i2,o2,T',er,e1,k1,k2,k3,k4,k5⟩:=Bp (pI (hints:=hints) n) hj hS hs βs;have vH:∀x∈m9,kC x.2=true:=fun x hx=>hl x (by rw[e1];simp[hx]);obtain⟨T1,vM,q1,q2,q3,q4⟩:=pI (hints:=hints) n m9 _ _ S1 eK h vH _ k2 (βs.drop (seg.length+1));refine⟨T1,er++vM,?_,q2,?_,fun e he=>q4 e (k4 e he)⟩
      .rw[e1,CV k1,q1];rfl
      .intro e he;rcases dw.1 he with he | he
       .exact q4 e (k3 e he)
       .exact q3 e he
     .simp at h
    .simp at h
theorem AS{R:Type}{r:R}{hints:Hints}{id:Nat}{ops:Array Oper}{k:Log->St->Option R}:∀(n:Nat)(l:List (Nat×Oper))(S:St)(lg:Log),qC C D hints id ops n l S lg k=some r->∀T,de S T->∀βs,
  ∃T1 er S1 eK,cI C D hints id ops βs l T=some (T1,er)/\k eK S1=some r/\de S1 T1/\(∀e∈er,e∈eK)/\(∀e∈lg,e∈eK)
 | 0,l,S,lg,h=>by simp[qC]at h
 | n+1,[],S,lg,h=>by
  intro T hs βs;simp only[qC]at h;exact⟨T,[],S,lg,rfl,h,hs,by simp,fun e he=>he⟩
 | n+1,(i,o)::rest,S,lg,h=>by
  intro T hs βs;have vz:∀S,de S T->jy ops T o=some true->((fk C D S (id * 256+i+1) (hints.share.contains (id,i)) o).run fun x=>qC C D hints id ops n rest (fin ops ⟨S.sl,x.2⟩ i o x.1) (iN C ops S (id * 256+i+1) i o x.1 x.2::lg) k)=some r->
    ∃T1 er S1 eK,cI C D hints id ops βs ((i,o)::rest) T=some (T1,er)/\k eK S1=some r/\de S1 T1/\(∀e∈er,e∈eK)/\(∀e∈lg,e∈eK):=by
   intro S hs hg h;obtain⟨x,hx,h⟩:=Tr.fm (βs.headD true) _ h;obtain⟨k1,k2⟩:=Bu (hints:=hints) (id:=id) hs hg hx;obtain⟨T1,er,S1,eK,q1,q2,q3,q4,q5⟩:=AS (hints:=hints) n rest _ _ h _ k2 βs.tail;refine⟨T1,iN C ops S (id * 256+i+1) i o x.1 x.2::er,S1,eK,?_,q2,q3,?_,fun e he=>q5 e (d_ _ he)⟩
   .simp only[cI,k1,bX,q1,cr]
   .intro e he;rcases cU.1 he with rfl | he
    .exact q5 _ ef
    .exact q4 e he
  have iU:∀S,de S T->jy ops T o=some false->qC C D hints id ops n rest (fin ops S i o .skip) (jU ops S (id * 256+i+1) i o::lg) k=some r->
    ∃T1 er S1 eK,cI C D hints id ops βs ((i,o)::rest) T=some (T1,er)/\k eK S1=some r/\de S1 T1/\(∀e∈er,e∈eK)/\(∀e∈lg,e∈eK):=by
   intro S hs hg h;obtain⟨k1,k2⟩:=C0 (C:=C) (D:=D) (hints:=hints) (id:=id) (β:=βs.headD true) hs hg;obtain⟨T1,er,S1,eK,q1,q2,q3,q4,q5⟩:=AS (hints:=hints) n rest _ _ h _ k2 βs.tail;refine⟨T1,jU ops S (id * 256+i+1) i o::er,S1,eK,?_,q2,q3,?_,fun e he=>q5 e (d_ _ he)⟩
   .simp only[cI,k1,bX,q1,cr]
   .intro e he;rcases cU.1 he with rfl | he
    .exact q5 _ ef
    .exact q4 e he
  simp only[qC]at h;split at h
  .rename_i hgd;exact vz S hs (CO hgd) h
  .rename_i j b hgd;split at h
   .rename_i hS;exact iU S hs (Cs hs hgd hS) h
   .rename_i c hS;have hg:=w6 hs hgd (.inl hS);split at h
    .rename_i hcb;subst hcb;exact vz S hs (by simpa using hg) h
    .rename_i hcb;exact iU S hs (by rw[hg];simpa using hcb) h
   .rename_i c hS;split at h
    .rename_i S2 yX m9 hj;obtain⟨seg,i2,o2,T',er,e1,k1,k2,k3,k4,k5⟩:=Bp (pI (hints:=hints) n) hj hS hs βs;obtain⟨T1,vM,S1,eK,q1,q2,q3,q4,q5⟩:=AS (hints:=hints) n m9 _ _ h _ k2 (βs.drop (seg.length+1));refine⟨T1,er++vM,S1,eK,?_,q2,q3,?_,fun e he=>q5 e (k4 e he)⟩
     .rw[e1,CV k1,q1];rfl
     .intro e he;rcases dw.1 he with he | he
      .exact q5 e (k3 e he)
      .exact q4 e he
    .have hg:=w6 hs hgd (.inr hS);have kU:de (S.set (gP ops j) (.bA c)) T:=by
      have Et:T.get (gP ops j)=.val .bool c:=by
       rcases hs.get (gP ops j) with e | ⟨b,e1,_⟩
       .rw[e];exact hS
       .rw[hS]at e1;simp at e1
      refine⟨hs.rt,by simp[St.ep,hs.len],fun u=>?_⟩;rw[St.ez];by_cases e:u=gP ops j/\gP ops j<S.sl.length
      .rw[aE e,e.1];exact .inr ⟨c,rfl,Et⟩
      .rw[ax e];exact hs.get u
     cases c with
     | true=>
      simp only[br]at h;split at h
      .rename_i hb;subst hb;exact vz _ kU (by simpa using hg) h
      .rename_i hb;exact iU _ kU (by rw[hg];cases b<;>simp_all) h
     | false=>
      simp only[br]at h;split at h
      .rename_i hb;subst hb;exact vz _ kU (by simpa using hg) h
      .rename_i hb;exact iU _ kU (by rw[hg];cases b<;>simp_all) h
   .simp at h
end
theorem Bm{h:Array Obj}{S T:St}(hs:de S T){g:ai}{tmps:Array Value}{H:BS}(st:aj h T g tmps H):aj h S g tmps H:=by
 have hr:∀r,S.root r=T.root r:=fun r=>by simp only[St.root,hs.rt]
 have hi:∀{r},(S.root r).isSome->(T.root r).isSome:=fun {r} h=>by rw[<-hr];exact h
 have he:∀{r R},S.root r=some R->T.root r=some R:=fun {r R} h=>by rw[<-hr];exact h
 have hl:S.sl.length=tmps.size:=by rw[<-hs.len];exact st.len
 have eH:S.rt.length=tmps.size:=by rw[<-hs.rt];exact st.eA
 refine⟨hl,eH,?_,fun r R hR=>st.roots r R (he hR),fun r r' hn h1 h2=>st.cj r r' hn (hi h1) (hi h2),fun r h1=>st.ck r (hi h1),fun r h1=>st.hand r (hi h1),st.aR,st.aV,fun r b h1=>st.bk r b (hi h1),st.cv,fun r R hR=>st.tag r R (he hR),fun r b h1=>st.own r b (hi h1),st.cQ,st.dN,st.p0,st.gM⟩;intro t;have:=st.slots t;have h2:=qe.eE (S':=S) st hs.rt.symm this;rcases hs.get t with e | ⟨b,e1,e2⟩
 .rw[e]at h2;exact h2
 .rw[e2]at h2;rw[e1];simp only[qe,ag]at h2⊢;obtain⟨c,rfl,e⟩:=h2;exact e
theorem A3{h:Array Obj}:∀(p:Path)(t:Ty)(c:List Value)(base:dc),a_ h t c base (p.map iP.zero)=a_ h t c base p
 | [],t,c,base=>rfl
 | .fst::p,t,c,base=>by cases t<;>simp only[dn,iP.zero,a_];exact A3 p _ _ _
 | .snd::p,t,c,base=>by cases t<;>simp only[dn,iP.zero,a_];exact A3 p _ _ _
 | .idx i s::p,t,c,base=>by
  cases t<;>simp only[dn,iP.zero,a_];split
  .split
   .exact A3 p _ _ _
   .rfl
  .rfl
theorem A7:∀(p:Path)(t:Ty)(x:t.den),bO t x (p.map iP.zero)↔bO t x p
 | [],t,x=>Iff.rfl
 | .fst::p,t,x=>by cases t<;>simp only[dn,iP.zero,bO];exact A7 p _ _
 | .snd::p,t,x=>by cases t<;>simp only[dn,iP.zero,bO];exact A7 p _ _
 | .idx i s::p,t,x=>by
  cases t<;>simp only[dn,iP.zero,bO];rw[A7 p]
theorem aA.aL{hd:Nat->Value}:∀(t:Ty){m:Mk}{c:List Value},aA hd t m c->aA hd t m.aL c
 | .unit,_,_,_=>by simp only[aA]
 | .int _,_,_,_=>by simp only[aA]
 | .bool,_,_,_=>by simp only[aA]
 | .str,_,_,_=>by simp only[aA]
 | .pair a b,m,c,h=>by
  simp only[aA]at h⊢;have h1:=Mk.iq m;have h2:=Mk.ir m;rw[h1,h2];exact⟨aA.aL a h.1,aA.aL b h.2⟩
 | .sl t,m,c,h=>by
  cases m with
  | own s mi=>
   have hf:∀m:Mk,m.af=true->m.aL.af=true:=by
    intro m
    induction m with
    | no=>intro _;rfl
    | gone=>intro _;rfl
    | own s m ih=>intro h;simp only[Mk.af,aO,jx]at h;simp only[Mk.aL,Mk.af,aO,jx];exact⟨by rw[aE h.1];omega,ih h.2⟩
    | pr a b dI gH=>intro h;simp only[Mk.af,aO]at h;simp only[Mk.aL,Mk.kY,aO];exact⟨dI h.1,gH h.2⟩
   simp only[Mk.aL,aA]at h⊢;refine⟨fun h2=>?_,hf _ h.2⟩;split at h2
   .omega
   .rename_i hn;rw[ax hn];exact h.1 h2
  | no=>simp only[Mk.aL,aA]
  | gone=>simp only[Mk.aL,aA]
  | pr a b=>simp only[Mk.aL];rcases Mk.jS a.aL b.aL with e | e<;>rw[e]<;>simp only[aA]
theorem JC{x:Option aB}{R':aB}(h:AU x=some R'):∃R,x=some R/\R'={ R with ms:=R.ms.aL }:=by
 unfold AU at h;cases x with
 | none=>simp at h
 | some R=>
  simp only[bX]at h;split at h
  .simp at h
  .simp only[ay]at h;exact⟨R,rfl,h.symm⟩
theorem Co(j5:List Nat):∀(l:List (Option aB))(i r:Nat),(vU j5 i l).getD r none=if j5.contains (i+r) then AU (l.getD r none) else none
 | [],i,r=>by simp[vU,AU,List.getD]
 | x::l,i,r=>by
  simp only[vU];cases r with
  | zero=>simp only[qS,iG]
  | succ r=>simp only[List.getD_cons_succ];rw[Co j5 l (i+1) r,show i+1+r=i+(r+1) by omega]
theorem B_(j5:List Nat):∀(l:List (Option aB))(i:Nat),(vU j5 i l).length=l.length
 | [],_=>rfl
 | x::l,i=>by simp[vU,B_ j5 l]
theorem Cp(S:St)(keep:List Nat):∀(l:List AV)(i t:Nat),(vV S keep i l).getD t .undef=if keep.contains (i+t) then (l.getD t .undef).canon S else .undef
 | [],i,t=>by simp[vV,AV.canon,List.getD]
 | x::l,i,t=>by
  simp only[vV];cases t with
  | zero=>simp only[qS,iG]
  | succ t=>simp only[List.getD_cons_succ];rw[Cp S keep l (i+1) t,show i+1+t=i+(t+1) by omega]
theorem Ca(S:St)(keep:List Nat):∀(l:List AV)(i:Nat),(vV S keep i l).length=l.length
 | [],_=>rfl
 | x::l,i=>by simp[vV,Ca S keep l]
section
variable {h:Array Obj} {S:St} {g:ai} {tmps:Array Value} {H:BS} (st:aj h S g tmps H)
include st
theorem D_{keep extra:List Nat}{r:Nat}{R':aB}(hr:(S.canon keep extra).root r=some R'):∃R,S.root r=some R/\R'={ R with ms:=R.ms.aL }:=by
 simp only[St.canon,St.root,aD.e8]at hr;rw[Co]at hr;split at hr
 .rw[<-aD.e8]at hr;exact JC hr
 .simp at hr
theorem CK{keep extra:List Nat}{r:Nat}{p:Path}{s:Nat}{v:Value}{t:Ty}{m:Mk}{xs:(Ty.sl t).den}(hf:S.rt.focus r p=some ⟨.sl t,.own s m,xs⟩)(x:kZ h S g r p s v) :
  kZ h (S.canon keep extra) g r (p.map iP.zero) (if s<1048576 then 0 else s) v:=by
 obtain⟨R,base,F,hR,qX,hin,cz,_⟩:=A4 st hf rfl x;intro R' bt t' m' xs' hf';obtain⟨R2,oa,rfl⟩:=D_ st bt;rw[hR]at oa;simp only[ay]at oa;subst oa;exact⟨(A7 p _ _).2 hin,base,by rw[A3];exact cz⟩
theorem Io{keep extra:List Nat}{r:Nat}{p:Path}{v:Value}{d:Dy}(hf:S.rt.focus r p=some d)(x:nD h S g r p v):nD h (S.canon keep extra) g r (p.map iP.zero) v:=by
 simp only[aD.focus]at hf;split at hf
 .rename_i R hR;obtain⟨hin,b,o,c,cz,e⟩:=x R hR d hf;intro R' bt d' hf';obtain⟨R2,oa,rfl⟩:=D_ st bt;have:R=R2:=by have h1:S.root r=some R:=hR;rw[h1]at oa;simpa using oa
  subst this;exact⟨(A7 p _ _).2 hin,b,o,c,by rw[A3];exact cz,e⟩
 .simp at hf
theorem tn{keep extra:List Nat}:∀{a:AV}{c:List Value},bR h S g a c->bR h (S.canon keep extra) g (a.canon S) c
 | .undef,_,_=>by simp only[AV.canon,bR]
 | .unit,_,y=>y
 | .val t x,_,y=>y
 | .bu r p s,c,y=>by
  simp only[bR]at y;obtain⟨v,rfl,y⟩:=y;simp only[AV.canon];split
  .rename_i t s' m xs hf;split
   .rename_i hs;subst hs;simp only[bR];exact⟨v,rfl,CK st hf y⟩
   .simp only[bR]
  .simp only[bR]
 | .pair a b,c,y=>by
  simp only[bR]at y;obtain⟨ca,cb,rfl,y1,y2⟩:=y;simp only[AV.canon,bR];exact⟨ca,cb,rfl,tn y1,tn y2⟩
 | .skip,_,y=>y.elim
 | .bA _,_,y=>y.elim
 | .cP,_,y=>y.elim
 | .view _ _ _ _ _,_,y=>y.elim
 | .addr _ _,_,y=>y.elim
 | .bq _ _,_,y=>y.elim
 | .fO _,_,y=>y.elim
 | .eV _ _,_,y=>y.elim
 | .dK _,_,y=>y.elim
theorem KB{keep extra:List Nat}:∀(a:AV),(∀v,qe h S g a v->qe h (S.canon keep extra) g (a.canon S) v)/\(∀vs,aC h S g a vs->aC h (S.canon keep extra) g (a.canon S) vs):=by
 intro a
 induction a with
 | undef=>exact⟨fun _ _=>by simp only[AV.canon,qe],fun _ y=>by simp only[aC]at y⟩
 | skip=>exact⟨fun _ y=>y,fun _ y=>by simp only[aC]at y⟩
 | bA b=>exact⟨fun _ y=>y,fun _ y=>by simp only[aC]at y⟩
 | unit=>exact⟨fun _ y=>y,fun _ y=>y⟩
 | cP=>exact⟨fun _ y=>y,fun _ y=>by simp only[aC]at y⟩
 | val t x=>exact⟨fun _ y=>y,fun _ y=>by simp only[aC]at y⟩
 | bu r p s=>
  refine⟨fun v y=>?_,fun _ y=>by simp only[aC]at y⟩;simp only[qe]at y;simp only[AV.canon];split
  .rename_i t s' m xs hf;split
   .rename_i hs;subst hs;simp only[qe];exact CK st hf y
   .simp only[qe]
  .simp only[qe]
 | view r p s lo hi=>exact⟨fun _ _=>by simp only[AV.canon,qe],fun _ y=>by simp only[aC]at y⟩
 | addr r p=>
  refine⟨fun v y=>?_,fun _ y=>by simp only[aC]at y⟩;simp only[qe]at y;simp only[AV.canon];split
  .rename_i d hf;simp only[qe];exact Io st hf y
  .simp only[qe]
 | bq t x=>exact⟨fun _ y=>y,fun _ y=>by simp only[aC]at y⟩
 | pair a b dI gH=>
  refine⟨fun v y=>?_,fun vs y=>?_⟩
  .simp only[qe]at y;obtain⟨ca,cb,e,y1,y2⟩:=y;simp only[AV.canon,qe];exact⟨ca,cb,e,tn st y1,tn st y2⟩
  .simp only[aC]at y;obtain⟨v,vs',e,y1,y2⟩:=y;simp only[AV.canon,aC];exact⟨v,vs',e,dI.1 v y1,gH.2 vs' y2⟩
 | fO a dI=>exact⟨fun _ _=>by simp only[AV.canon,qe],fun _ y=>by simp only[aC]at y⟩
 | eV f a dI=>refine⟨fun v y=>?_,fun _ y=>by simp only[aC]at y⟩;simp only[qe]at y;obtain⟨vs,e,y⟩:=y;simp only[AV.canon,qe];exact⟨vs,e,dI.2 vs y⟩
 | dK c=>exact⟨fun _ y=>y,fun _ y=>by simp only[aC]at y⟩
theorem sE(keep extra:List Nat):aj h (S.canon keep extra) g tmps H:=by
 have hs:∀r,((S.canon keep extra).root r).isSome->(S.root r).isSome:=by intro r h1;obtain⟨R',bt⟩:=lG.1 h1;obtain⟨R,hR,_⟩:=D_ st bt;rw[hR];rfl
 refine⟨?_,?_,?_,?_,fun r r' hn h1 h2=>st.cj r r' hn (hs r h1) (hs r' h2),fun r h1=>st.ck r (hs r h1),fun r h1=>st.hand r (hs r h1),st.aR,st.aV,fun r b h1=>st.bk r b (hs r h1),st.cv,?_,fun r b h1=>st.own r b (hs r h1),st.cQ,st.dN,st.p0,st.gM⟩
 .simp only[St.canon];rw[Ca];exact st.len
 .simp only[St.canon];rw[B_];exact st.eA
 .intro t;simp only[St.get_eq,St.canon];rw[Cp];split
  .have z:=st.slots t;rw[St.get_eq]at z;exact(KB st _).1 _ z
  .simp only[qe]
 .intro r R' bt;obtain⟨R,hR,rfl⟩:=D_ st bt;obtain⟨F,q1,q2⟩:=st.roots r R hR;exact⟨F,(ag.aL R.ty).1 q1,q2⟩
 .intro r R' bt;obtain⟨R,hR,rfl⟩:=D_ st bt;exact aA.aL _ (st.tag r R hR)
end
end Go.V
namespace Go.V
noncomputable section
open Go
def Ex.out:Ex->Exit
 | .normal=>.normal
 | .exit id=>.exit id
 | .ret=>.ret
theorem pJ{ops:Array Oper}:∀x∈iY ops,ops[x.1]? = some x.2:=by intro x hx;simp only[iY,fZ]at hx;obtain⟨y,hy,rfl⟩:=hx;have:=xV.1 hy;simpa using this
theorem EO{ops:Array Oper}:(iY ops).map (·.1)=List.range ops.size:=by
 simp only[iY,xH];apply kq;intro i;simp only[xX,List.getElem?_zipIdx,List.getElem?_range'];by_cases h:i<ops.size
 .simp[h]
 .simp[h]
theorem CP{ops:Array Oper}(h:A6 ops=true):∀(i:Nat) o j c,ops[i]? = some o->o.guard=some (j,c)->∃oj t,ops[j]? = some oj/\oj.dst=some t:=by intro i o j c ho hg;simp only[A6,lM]at h;have:=h o (by rw[w5];exact wO ho);rw[hg]at this;simp only[lG,bD]at this;obtain⟨t,oj,h1,h2⟩:=this;exact⟨oj,t,h1,h2⟩
theorem Dc{np:List Nat}{ops:Array Oper}(h:y_ np ops=true):∀x∈iY ops,∀d,x.2.dst=some d->d∉np:=by intro x hx d hd;simp only[y_,lM]at h;have:=h x.2 (by rw[w5];exact wO (pJ x hx));rw[hd]at this;simpa using this
section
variable {P:Program} {C:Ctx} {D:Den C} (aM:e_ P C) (eG:oA P C D)
include aM eG
def u9(np:List Nat)(P:Program)(C:Ctx)(Q:Exit->Act->World->Prop){R:Type}(r:R)(c:Code)(S:St)(k:Ex->St->Option R)(g:ai)(a:Act)(w:World):Prop:=
 aj w.heap S g a.tmps Nil->a.defers=[]->(∀e S' g' a' w',k e S'=some r->aj w'.heap S' g' a'.tmps Nil->g'.bG g->gB g.L w w'->a'.defers=[]->nX np a a'->Q e.out a' w')->c.wp P Q a w
theorem IX{np:List Nat}{R:Type}{r:R}{H:Hints}{id:Nat}{ops:Array Oper}{S:St}{k:Ex->St->Option R}{Q:Exit->Act->World->Prop}{g:ai}{a:Act}{w:World}{n:Nat}
  (hnp:y_ np ops=true) (h:exec C D H n (.region id ops false) S k=some r):u9 np P C Q r (.region id ops false) S k g a w:=by
 intro st hdf hQ;simp only[exec]at h;split at h
 .rename_i hgd;have hR:=fun βs=>AS (hints:=H) _ _ _ _ h S (de.refl S) βs;refine wp_region ?_;rw[<-EO];refine BG (hints:=H) (id:=id) aM eG (CP hgd) (iY ops) S g a w pJ (Dc hnp) st hdf (fun βs=>?_) ?_
  .obtain⟨T1,er,S1,eK,q1,_⟩:=hR βs;exact⟨_,q1⟩
  .intro βs S' lg a' w' g' hr st' fA hfr fj jQ;obtain⟨T1,er,S1,eK,q1,q2,q3,_⟩:=hR βs;rw[hr]at q1;simp only[ay,aJ]at q1;obtain⟨rfl,rfl⟩:=q1;simp only[cL,bY]at q2;exact hQ .normal S1 g' a' w' q2 (Bm q3 st') fA hfr fj jQ
 .simp at h
end
end
end Go.V
namespace Go.V
noncomputable section
open Go
section
variable {C:Ctx} {D:Den C} {A:aZ} {S:aD} {site:Nat} {hint:Bool}
theorem CR{ρ ρ':Operand->AV}{ps:Array (Nat×Operand)}(h:∀x∈(ps.toList.map (·.2)).toArray,ρ' x=ρ x):(ps.toList.map fun p=>(p.1,ρ' p.2))=ps.toList.map fun p=>(p.1,ρ p.2):=by apply mP;intro p hp;rw[h p.2 (by simp only[List.mem_toArray,fZ];exact⟨p,hp,rfl⟩)]
theorem Da{ρ ρ':Operand->AV}(o:Oper)(h:∀x∈o.op.operands,ρ' x=ρ x):aS C D A ρ' S site hint o=aS C D A ρ S site hint o:=by
 cases ho:o.op with
 | build t ps=>rw[ho]at h;simp only[Op.operands]at h;simp only[aS,ho];rw[CR h]
 | buildSlice t n ps=>rw[ho]at h;simp only[Op.operands]at h;simp only[aS,ho];rw[CR h]
 | makeFunc f first caps=>
  rw[ho]at h;simp only[Op.operands]at h;simp only[aS,ho];cases f with
  | func f=>
   have:caps.toList.foldr (fun x r=>AV.pair (ρ' x) r) .unit=caps.toList.foldr (fun x r=>AV.pair (ρ x) r) .unit:=by
    have hc:∀x∈caps.toList,ρ' x=ρ x:=fun x hx=>h x (by simp at hx⊢;exact .inr hx);revert hc;generalize caps.toList=l;intro hc
    induction l with
    | nil=>rfl
    | cons y l ih=>simp only[wD];rw[hc y ef,ih (fun x hx=>hc x (d_ _ hx))]
   simp only[this]
  | _=>rfl
 | slice t x lo hi mx=>
  rw[ho]at h;simp only[Op.operands]at h;cases mx with
  | some v=>simp only[aS,ho]
  | none=>
   simp only[aS,ho];have h1:ρ' x=ρ x:=h x (by simp);have h2:lo.map ρ'=lo.map ρ:=by cases lo with
    | none=>rfl
    | some v=>simp only[cr];rw[h v (by simp)]
   have h3:hi.map ρ'=hi.map ρ:=by cases hi with
    | none=>rfl
    | some v=>simp only[cr];rw[h v (by simp)]
   rw[h1,h2,h3]
 | call c=>
  rw[ho]at h;simp only[Op.operands]at h;have ha:c.args.toList.map ρ'=c.args.toList.map ρ:=mP fun x hx=>h x (by simp only[Call.operands,mQ];right;simpa using hx);simp only[aS,ho];rw[ha];cases hc:c.callee with
  | builtin b=>rfl
  | value f=>have:ρ' f=ρ f:=h f (by simp[Call.operands,hc]);simp only[this]
  | invoke r m=>rfl
 | pick c a b=>rw[ho]at h;simp only[Op.operands]at h;simp only[aS,ho];rw[h c (by simp),h a (by simp),h b (by simp)]
 | store t a b=>rw[ho]at h;simp only[Op.operands]at h;simp only[aS,ho];rw[h a (by simp),h b (by simp)]
 | binOp op t a b t2=>rw[ho]at h;simp only[Op.operands]at h;simp only[aS,ho];rw[h a (by simp),h b (by simp)]
 | makeSlice t a b=>rw[ho]at h;simp only[Op.operands]at h;simp only[aS,ho];rw[h a (by simp),h b (by simp)]
 | indexAddr t a b=>rw[ho]at h;simp only[Op.operands]at h;simp only[aS,ho];rw[h a (by simp),h b (by simp)]
 | index t a b=>rw[ho]at h;simp only[Op.operands]at h;simp only[aS,ho];rw[h a (by simp),h b (by simp)]
 | move x=>rw[ho]at h;simp only[Op.operands]at h;simp only[aS,ho];rw[h x (by simp)]
 | assign x=>rw[ho]at h;simp only[Op.operands]at h;simp only[aS,ho];rw[h x (by simp)]
 | box t x=>rw[ho]at h;simp only[Op.operands]at h;simp only[aS,ho];rw[h x (by simp)]
 | load t x=>rw[ho]at h;simp only[Op.operands]at h;simp only[aS,ho];rw[h x (by simp)]
 | nilCheck x=>rw[ho]at h;simp only[Op.operands]at h;simp only[aS,ho];rw[h x (by simp)]
 | unOp op t x=>rw[ho]at h;simp only[Op.operands]at h;simp only[aS,ho];rw[h x (by simp)]
 | convert s d x=>rw[ho]at h;simp only[Op.operands]at h;simp only[aS,ho];rw[h x (by simp)]
 | fieldAddr s x f=>rw[ho]at h;simp only[Op.operands]at h;simp only[aS,ho];rw[h x (by simp)]
 | field s x f=>rw[ho]at h;simp only[Op.operands]at h;simp only[aS,ho];rw[h x (by simp)]
 | extract x i=>rw[ho]at h;simp only[Op.operands]at h;simp only[aS,ho];rw[h x (by simp)]
 | _=>simp only[aS,ho]
theorem Jo{ρ ρ':Operand->AV}(o:Oper)(h:∀x∈o.op.operands,ρ' x=ρ x):b5 C ρ' o=b5 C ρ o:=by
 have hall:o.op.operands.toList.map ρ'=o.op.operands.toList.map ρ:=mP fun x hx=>h x (by simpa using hx);unfold b5;rw[hall];cases ho:o.op with
 | build t ps=>
  rw[ho]at h;have:D9 ρ' ps.toList=D9 ρ ps.toList:=by
   unfold D9;have key:∀l:List (Nat×Operand),(∀p∈l,ρ' p.2=ρ p.2)->(l.all fun p=>(ρ' p.2).isVal)=l.all fun p=>(ρ p.2).isVal:=by
    intro l
    induction l with
    | nil=>intro _;rfl
    | cons a l ih=>intro hl;simp only[eU];rw[hl a ef,ih fun p hp=>hl p (d_ _ hp)]
   exact key _ fun p hp=>h p.2 (by
   simp only[Op.operands,List.mem_toArray];exact fZ.2 ⟨p,hp,rfl⟩)
  simp only[this]
 | assign x=>rw[ho]at h;simp only[Op.operands]at h;simp only[h x (by simp)]
 | call c=>
  rw[ho]at h;simp only[Op.operands]at h;have ha:c.args.toList.map ρ'=c.args.toList.map ρ:=mP fun x hx=>h x (by simp only[Call.operands,mQ];right;simpa using hx);simp only;rw[ha];cases hc:c.callee with
  | builtin b=>cases b<;>rfl
  | value f=>have:ρ' f=ρ f:=h f (by simp[Call.operands,hc]);simp only[this]
  | invoke r m=>rfl
 | _=>rfl
theorem IL{ρ ρ':Operand->AV}(o:Oper)(h:∀x∈o.op.operands,ρ' x=ρ x):nZ C ρ' o=nZ C ρ o:=by
 unfold nZ;cases ho:o.op with
 | call c=>
  rw[ho]at h;simp only[Op.operands]at h;have ha:c.args.toList.map ρ'=c.args.toList.map ρ:=mP fun x hx=>h x (by simp only[Call.operands,mQ];right;simpa using hx);simp only;rw[ha];cases hc:c.callee with
  | builtin b=>cases b<;>rfl
  | value f=>have:ρ' f=ρ f:=h f (by simp[Call.operands,hc]);simp only[this]
  | invoke r m=>rfl
 | slice t x lo hi mx=>cases mx<;>rfl
 | _=>rfl
def eW(F:List Nat)(S S':aD):Prop:=∀r,r∈F->S'.root r=S.root r
theorem eW.sub{F G:List Nat}{S S':aD}(h:eW F S S')(hs:∀r∈G,r∈F):eW G S S':=fun r hr=>h r (hs r hr)
theorem tK{F:List Nat}{S S':aD}(h:eW F S S'){r:Nat}(hr:r∈F)(p:Path):S'.focus r p=S.focus r p:=by simp only[aD.focus,h r hr]
theorem A9{S S':aD}:∀(t:Ty)(a:AV),eW a.roots S S'->rd S' t a=rd S t a
 | t,.pair u v,h=>by
  cases t with
  | pair a b=>simp only[rd];rw[A9 a u (h.sub fun r hr=>by simp[AV.roots,hr]),A9 b v (h.sub fun r hr=>by simp[AV.roots,hr])]
  | _=>simp[rd]
 | t,.bu r p s,h=>by
  cases t with
  | sl e=>simp only[rd];rw[tK h (by simp[AV.roots])]
  | _=>simp[rd]
 | t,.val t' x,h=>by cases t<;>simp only[rd]
 | t,.undef,h=>by cases t<;>simp[rd]
 | t,.skip,h=>by cases t<;>simp[rd]
 | t,.bA b,h=>by cases t<;>simp[rd]
 | t,.unit,h=>by cases t<;>simp[rd]
 | t,.cP,h=>by cases t<;>simp[rd]
 | t,.view _ _ _ _ _,h=>by cases t<;>simp[rd]
 | t,.addr _ _,h=>by cases t<;>simp[rd]
 | t,.bq _ _,h=>by cases t<;>simp[rd]
 | t,.fO _,h=>by cases t<;>simp[rd]
 | t,.eV _ _,h=>by cases t<;>simp[rd]
 | t,.dK _,h=>by cases t<;>simp[rd]
theorem EM{S S':aD}:∀(a:AV),eW a.roots S S'->g7 S' a=g7 S a
 | .pair (.addr r p) rest,h=>by
  simp only[g7];rw[tK h (by simp[AV.roots]),EM rest (h.sub fun r hr=>by simp[AV.roots,hr])]
 | .pair (.bq t x) rest,h=>by simp only[g7];rw[EM rest (h.sub fun r hr=>by simp[AV.roots,hr])]
 | .pair (.val t x) rest,h=>by simp only[g7];rw[EM rest (h.sub fun r hr=>by simp[AV.roots,hr])]
 | .unit,h=>rfl
 | .pair .undef _,h=>rfl
 | .pair .skip _,h=>rfl
 | .pair (.bA _) _,h=>rfl
 | .pair .unit _,h=>rfl
 | .pair .cP _,h=>rfl
 | .pair (.bu _ _ _) _,h=>rfl
 | .pair (.view _ _ _ _ _) _,h=>rfl
 | .pair (.pair _ _) _,h=>rfl
 | .pair (.fO _) _,h=>rfl
 | .pair (.eV _ _) _,h=>rfl
 | .pair (.dK _) _,h=>rfl
 | .undef,h=>rfl
 | .skip,h=>rfl
 | .bA _,h=>rfl
 | .cP,h=>rfl
 | .val _ _,h=>rfl
 | .bu _ _ _,h=>rfl
 | .view _ _ _ _ _,h=>rfl
 | .addr _ _,h=>rfl
 | .bq _ _,h=>rfl
 | .fO _,h=>rfl
 | .eV _ _,h=>rfl
 | .dK _,h=>rfl
theorem HV{a:AV}{l:List AV}(h:a∈l):∀r∈a.roots,r∈qk l:=by
 induction l with
 | nil=>simp at h
 | cons b l ih=>
  intro r hr;simp only[qk,dw];rcases cU.1 h with rfl | h
  .exact .inl hr
  .exact .inr (ih h r hr)
theorem NV(l l2:List AV):∀r,r∈qk (l++l2)↔r∈qk l\/r∈qk l2:=by
 intro r
 induction l with
 | nil=>simp[qk]
 | cons a l ih=>simp only[iE,qk,dw,ih,or_assoc]
theorem FH:∀(a:AV),∀r∈qk (ij a),r∈a.roots
 | .pair a b,r,h=>by
  simp only[ij,qk,dw]at h;simp only[AV.roots,dw];exact h.imp id (FH b r)
 | .undef,r,h=>by simp[ij,qk]at h
 | .skip,r,h=>by simp[ij,qk]at h
 | .bA _,r,h=>by simp[ij,qk]at h
 | .unit,r,h=>by simp[ij,qk]at h
 | .cP,r,h=>by simp[ij,qk]at h
 | .val _ _,r,h=>by simp[ij,qk]at h
 | .bu _ _ _,r,h=>by simp[ij,qk]at h
 | .view _ _ _ _ _,r,h=>by simp[ij,qk]at h
 | .addr _ _,r,h=>by simp[ij,qk]at h
 | .bq _ _,r,h=>by simp[ij,qk]at h
 | .fO _,r,h=>by simp[ij,qk]at h
 | .eV _ _,r,h=>by simp[ij,qk]at h
 | .dK _,r,h=>by simp[ij,qk]at h
theorem rG{S S':aD}:∀(ks:List PK)(au:List AV)(g:fP ks)(o:bV ks),eW (qk au) S S'->fH S' ks au g o=fH S ks au g o
 | [],[],_,_,_=>rfl
 | [],_::_,_,_,_=>rfl
 | k::ks,[],g,o,_=>by cases k<;>rfl
 | k::ks,a::au,g,o,h=>by
  have h1:eW a.roots S S':=h.sub fun r hr=>by simp[qk,hr]
  have h2:eW (qk au) S S':=h.sub fun r hr=>by simp[qk,hr]
  cases k with
  | val t=>simp only[fH];rw[A9 t a h1,rG ks au g o h2]
  | own t m=>simp only[fH];rw[rG ks au g.2 o h2]
  | bS t m m'=>simp only[fH];rw[rG ks au g o.2 h2]
  | cD t m m'=>simp only[fH];rw[rG ks au g o.2 h2]
  | bP t=>
   cases a with
   | bq t' x=>simp only[fH];rw[rG ks au g o h2]
   | addr q p=>simp only[fH];rw[tK h1 (by simp[AV.roots]),rG ks au g o h2]
   | _=>rfl
  | fn=>
   cases a with
   | eV f c=>simp only[fH];rw[EM c (h1.sub fun r hr=>by simpa [AV.roots] using hr),rG ks au g o h2]
   | dK c=>simp only[fH];rw[rG ks au g o h2]
   | _=>rfl
theorem Cf{S S':aD}:∀(ts:List Ty)(au:List AV),eW (qk au) S S'->qI S' ts au=qI S ts au
 | [],[],_=>rfl
 | [],_::_,_=>rfl
 | _::_,[],_=>rfl
 | t::ts,a::au,h=>by
  simp only[qI];rw[A9 t a (h.sub fun r hr=>by simp[qk,hr]),Cf ts au (h.sub fun r hr=>by simp[qk,hr])]
theorem Cd{S S':aD}(a:AV)(h:eW a.roots S S'):qG S' a=qG S a:=by
 cases a with
 | bu r p s=>simp only[qG];rw[tK h (by simp[AV.roots])]
 | val t x=>cases t<;>rfl
 | _=>rfl
end
end
end Go.V
namespace Go.V
noncomputable section
open Go
section
variable {C:Ctx} {D:Den C}
theorem JU{S S':aD}(t:Ty)(a:AV)(h:eW a.roots S S'):nW S' t a=nW S t a:=by
 cases a with
 | addr r p=>simp only[nW];rw[tK h (by simp[AV.roots])]
 | _=>rfl
theorem Jt{S S':aD}(t:Ty)(a:AV)(f:Nat)(h:eW a.roots S S'):tJ S' t a f=tJ S t a f:=by
 cases a with
 | addr r p=>simp only[tJ];rw[tK h (by simp[AV.roots])]
 | _=>rfl
theorem JT{S S':aD}(t:Ty)(a i:AV)(h:eW a.roots S S'):pL S' t a i=pL S t a i:=by
 cases a with
 | bu r p s=>simp only[pL];rw[tK h (by simp[AV.roots])]
 | val t x=>cases t<;>rfl
 | _=>rfl
def qj(T T':Tr (AV×aD))(S S':aD):Prop:=∀β v rt',T.dec β=some (v,rt')->rt'=S/\T'.dec β=some (v,S')
theorem qj.ret{v:AV}{S S':aD}:qj (.ret (v,S)) (.ret (v,S')) S S':=by intro β v' rt' h;simp only[Tr.dec,ay,aJ]at h;exact⟨h.2.symm,by simp[Tr.dec,h.1]⟩
theorem qj.fail{T':Tr (AV×aD)}{S S':aD}:qj .fail T' S S':=by intro β v' rt' h;simp[Tr.dec]at h
theorem qj.br{c:Bool}{x y x' y':Tr (AV×aD)}{S S':aD}(h1:qj x x' S S')(h2:qj y y' S S'):qj (.br c x y) (.br c x' y') S S':=by
 intro β v rt' h;cases c
 .exact h2 β v rt' h
 .exact h1 β v rt' h
theorem qj.nil{n:Nat}{b:Bool}{f:Bool->AV}{S S':aD}:qj (.nil n b fun b=>.ret (f b,S)) (.nil n b fun b=>.ret (f b,S')) S S':=by intro β v rt' h;simp only[Tr.dec,ay,aJ]at h⊢;exact⟨h.2.symm,h.1,trivial⟩
theorem qj.ofMap{α:Type}{x:Option α}{f:α->AV}{S S':aD}:qj (.of (x.map fun a=>(f a,S))) (.of (x.map fun a=>(f a,S'))) S S':=by
 cases x with
 | none=>exact qj.fail
 | some a=>exact qj.ret
theorem qj.call{α:Type}{x:Option α}{f f':α->Tr (AV×aD)}{S S':aD}(h:∀a,qj (f a) (f' a) S S'):qj (.call x f) (.call x f') S S':=by
 intro β v rt' hh;cases x with
 | none=>simp[Tr.dec]at hh
 | some a=>exact h a β v rt' hh
theorem D4{S S':aD}:∀(ks:List PK)(au:List AV),ks.all PK.plain=true->dP S' ks au=(dP S ks au).map fun z=>(z.1,S')
 | [],[],_=>rfl
 | [],_::_,_=>rfl
 | k::ks,[],_=>by cases k<;>rfl
 | k::ks,a::au,h=>by
  simp only[eU,aO]at h;cases k with
  | val t=>simp only[dP];exact D4 ks au h.2
  | bP t=>simp only[dP];exact D4 ks au h.2
  | fn=>simp only[dP];exact D4 ks au h.2
  | _=>simp[PK.plain]at h
theorem DY{S S':aD}:∀(ks:List PK)(au:List AV),ks.all PK.plain=true->eC S' ks au=(eC S ks au).map fun z=>(z.1,S')
 | [],[],_=>rfl
 | [],_::_,_=>rfl
 | k::ks,[],_=>by cases k<;>rfl
 | k::ks,a::au,h=>by
  simp only[eU,aO]at h;cases k with
  | val t=>simp only[eC];exact DY ks au h.2
  | bP t=>simp only[eC];exact DY ks au h.2
  | fn=>simp only[eC];exact DY ks au h.2
  | _=>simp[PK.plain]at h
theorem IA{S rt:aD}{ks:List PK}{au:List AV}{g:fP ks}(hp:ks.all PK.plain=true)(h:dP S ks au=some (g,rt)):rt=S:=by have:=D4 (S:=S) (S':=S) ks au hp;rw[h]at this;simp only[cr,ay,aJ,nN]at this;exact this
theorem Ip{S rt:aD}{ks:List PK}{au:List AV}{g:bV ks}(hp:ks.all PK.plain=true)(h:eC S ks au=some (g,rt)):rt=S:=by have:=DY (S:=S) (S':=S) ks au hp;rw[h]at this;simp only[cr,ay,aJ,nN]at this;exact this
theorem De{A A':aZ}{S S':aD}(hl:S'.length=S.length){d:Option Nat}{site:Nat}{t:Ty}{m:Mk}{x:t.den}(hs:m.still=true):qj (b8 A S d site t m x false) (b8 A' S' d site t m x false) S S':=by
 cases d with
 | none=>exact qj.ret
 | some d=>
  simp only[b8,hs,aK,cL,bY,hl];split
  .exact qj.fail
  .exact qj.ret
theorem Cg:∀(rs:List RK),rs.all (fun k=>!k.gI&&k.ms.still)=true->(kF rs).still=true
 | [],_=>rfl
 | k::rs,h=>by
  simp only[eU,aO]at h;simp only[kF,Mk.still,aO];exact⟨h.1.2,Cg rs h.2⟩
theorem Ie{A A':aZ}(hA:A'.sh=A.sh){S S':aD}(hl:S'.length=S.length){d:Option Nat}{site:Nat}:∀(rs:List RK)(r:dU rs),rs.all (fun k=>!k.gI&&k.ms.still)=true->qj (ig A S d site rs r) (ig A' S' d site rs r) S S'
 | [],r,_=>qj.ret
 | [.val t m],r,h=>by
  simp only[eU,aO]at h;simp only[ig,hA];split
  .split
   .exact qj.ret
   .exact qj.fail
  .split
   .exact De hl h.1.2
   .exact qj.fail
 | [.ptr t m],r,h=>by simp[RK.gI]at h
 | q1::q2::rs,r,h=>by
  have e1:∀(A:aZ)(S:aD),ig A S d site (q1::q2::rs) r=tX A S d site (q1::q2::rs) r:=by intro A S;cases q1<;>rfl
  rw[e1,e1];unfold tX;split
  .cases d with
   | none=>exact qj.ret
   | some d=>
    have hs:=Cg _ h;have e2:∀(A:aZ)(S:aD),b8 A S (some d) site (fN (q1::q2::rs)) (kF (q1::q2::rs)) (gq (q1::q2::rs) r) false =
      if (!Nat.blt d S.length||!Nat.blt site 1048576)=true then .fail else .ret (.val (fN (q1::q2::rs)) (gq (q1::q2::rs) r),S):=by
     intro A S;simp only[b8,hs,aK,cL,bY]
    simp only[e2,hl];by_cases hc:(!Nat.blt d S.length||!Nat.blt site 1048576)=true
    .simp only[aE hc];exact qj.fail
    .simp only[ax hc];exact qj.ret
  .exact qj.fail
theorem IE{A A':aZ}(hA:A'.sh=A.sh){S S':aD}(hl:S'.length=S.length){d:Option Nat}{site:Nat}{g:FuncId}{au:List AV}(hq:xp (C.sig g)=true)(hr:eW (qk au) S S') :
  qj (l5 C D A S d site g au) (l5 C D A' S' d site g au) S S':=by
 unfold xp at hq;simp only[aO]at hq;unfold l5;rw[D4 (S:=S) (S':=S') _ _ hq.1];cases h1:dP S (C.sig g).params au with
 | none=>exact qj.fail
 | some z=>
  obtain⟨gd,S1⟩:=z;obtain rfl:=IA hq.1 h1;simp only[cr];rw[DY (S:=S1) (S':=S') _ _ hq.1];cases h2:eC S1 (C.sig g).params au with
  | none=>exact qj.fail
  | some z=>
   obtain⟨od,S2⟩:=z;obtain rfl:=Ip hq.1 h2;simp only[cr];rw[rG _ _ _ _ hr];cases h3:fH S2 (C.sig g).params au gd od with
   | none=>exact qj.fail
   | some aa=>
    simp only;split
    .refine qj.call fun r=>?_;have hn:(C.sig g).params.all (fun k=>!k.cC)=true:=by rw[lM]at hq⊢;intro k hk;have:=hq.1 k hk;cases k<;>simp_all [PK.plain,PK.cC]
     simp only[hn,aK];exact Ie hA hl _ _ hq.2
    .exact qj.fail
theorem Ty.gD:∀(t:Ty),t.flat=true->(Mk.top t).still=true/\(Mk.mJ t).still=true
 | .sl _,h=>by simp[Ty.flat]at h
 | .pair a b,h=>by
  simp only[Ty.flat,aO]at h;have ha:=Ty.gD a h.1;have hb:=Ty.gD b h.2;cases a<;>simp_all [Mk.top,Mk.mJ,Mk.still,Ty.flat]
 | .unit,_=>⟨rfl,rfl⟩
 | .int _,_=>⟨rfl,rfl⟩
 | .bool,_=>⟨rfl,rfl⟩
 | .str,_=>⟨rfl,rfl⟩
theorem ID{t:Ty}(h:t.flat=true)(hint:Bool):(Mk.rR hint t).still=true:=by
 unfold Mk.rR;cases hint
 .exact(Ty.gD t h).1
 .exact(Ty.gD t h).2
theorem w9:∀(t:Ty)(m:Mk)(x:t.den)(p:Path)(t2:Ty)(y:t2.den)(m':Mk)(x':t.den),m.still=true->put t m x p t2 .no y=some (m',x')->m'.still=true
 | t,m,x,[],t2,y,m',x',_,h=>by
  unfold put at h;simp only[bD,ay,aJ]at h;obtain⟨_,_,rfl,_⟩:=h;rfl
 | .pair a b,m,x,.fst::p,t2,y,m',x',hm,h=>by
  simp only[put,bD,ay,aJ]at h;obtain⟨⟨r1,r2⟩,h1,rfl,_⟩:=h;have hf:m.fst.still=true/\m.snd.still=true:=by cases m<;>simp_all [Mk.fst,Mk.snd,Mk.still]
  have:=w9 a m.fst x.1 p t2 y _ _ hf.1 h1;simp only[Mk.still,aO];exact⟨this,hf.2⟩
 | .pair a b,m,x,.snd::p,t2,y,m',x',hm,h=>by
  simp only[put,bD,ay,aJ]at h;obtain⟨⟨r1,r2⟩,h1,rfl,_⟩:=h;have hf:m.fst.still=true/\m.snd.still=true:=by cases m<;>simp_all [Mk.fst,Mk.snd,Mk.still]
  have:=w9 b m.snd x.2 p t2 y _ _ hf.2 h1;simp only[Mk.still,aO];exact⟨hf.1,this⟩
 | .sl t,m,xs,.idx i s::p,t2,y,m',x',hm,h=>by
  cases m<;>simp_all [put,Mk.still]
 | .sl t,m,xs,.fst::p,t2,y,m',x',hm,h=>by simp[put]at h
 | .sl t,m,xs,.snd::p,t2,y,m',x',hm,h=>by simp[put]at h
 | .pair a b,m,xs,.idx i s::p,t2,y,m',x',hm,h=>by simp[put]at h
 | .unit,m,xs,_::p,t2,y,m',x',hm,h=>by simp[put]at h
 | .int _,m,xs,_::p,t2,y,m',x',hm,h=>by simp[put]at h
 | .bool,m,xs,_::p,t2,y,m',x',hm,h=>by simp[put]at h
 | .str,m,xs,_::p,t2,y,m',x',hm,h=>by simp[put]at h
theorem Kt(t:Ty){v:AV}(h:v.isVal=true):∃r:Option t.den,∀S:aD,tk S t v=r.map fun x=>(Mk.no,x,S):=by
 cases v with
 | val t' x=>refine⟨qbv t' t x,fun S=>?_⟩;unfold tk;cases qbv t' t x<;>rfl
 | bA b=>
  cases t with
  | bool=>exact⟨some b,fun S=>rfl⟩
  | _=>exact⟨none,fun S=>rfl⟩
 | _=>simp[AV.isVal]at h
theorem CT(t:Ty):∀(l:List (Nat×AV))(acc:Mk×t.den),acc.1.still=true->l.all (fun p=>p.2.isVal)=true->
  ∃r:Option (Mk×t.den),(∀S:aD,jT S t acc l=r.map fun z=>(z.1,z.2,S))/\∀z,r=some z->z.1.still=true
 | [],acc,ha,_=>⟨some acc,fun S=>rfl,fun z hz=>by cases hz;exact ha⟩
 | (i,v)::l,acc,ha,h=>by
  simp only[eU,aO]at h;cases hf:focus t acc.1 acc.2 (e6 i) with
  | none=>exact⟨none,fun S=>by simp only[jT,hf];rfl,fun z hz=>by cases hz⟩
  | some d=>
   obtain⟨r,hr⟩:=Kt d.ty h.1;cases r with
   | none=>exact⟨none,fun S=>by simp only[jT,hf,bX,hr];rfl,fun z hz=>by cases hz⟩
   | some x=>
    cases hp:put t acc.1 acc.2 (e6 i) d.ty .no x with
    | none=>exact⟨none,fun S=>by simp only[jT,hf,bX,hr,cr,hp];rfl,fun z hz=>by cases hz⟩
    | some q=>obtain⟨q1,q2⟩:=q;obtain⟨r2,h1,h2⟩:=CT t l (q1,q2) (w9 _ _ _ _ _ _ _ _ ha hp) h.2;exact⟨r2,fun S=>by simp only[jT,hf,bX,hr,cr,hp];exact h1 S,h2⟩
theorem IW{A A':aZ}{ρ:Operand->AV}{S S':aD}{site:Nat}{hint:Bool}{o:Oper}(hl:S'.length=S.length)(hw:b5 C ρ o=none)
    (hr:eW (if lZ o then [] else qk (o.op.operands.toList.map ρ)) S S'):qj (aS C D A ρ S site hint o) (aS C D A' ρ S' site hint o) S S':=by
  have ha:∀{x:Operand},lZ o=false->x∈o.op.operands->eW (ρ x).roots S S':=by intro x hb hx;rw[hb]at hr;exact hr.sub fun r h=>HV (fZ.2 ⟨x,by simpa using hx,rfl⟩) r h
  cases ho:o.op with
  | move x=>simp only[aS,ho];exact qj.ret
  | pick c a b=>
    simp only[aS,ho];split
    . exact qj.br qj.ret qj.ret
    . exact qj.fail
  | unOp op t x=>
    simp only[aS,ho];split
    . exact qj.ret
    . exact qj.ret
    . exact qj.fail
  | field t x f=>
    simp only[aS,ho];split
    . split
      . split
        . exact qj.ret
        . exact qj.fail
      . exact qj.fail
    . exact qj.fail
  | extract x i=>simp only[aS,ho];exact qj.ofMap (f:=fun v=>v)
  | makeFunc f first caps=>
    cases f with
    | func f=>
      simp only[aS,ho];split
      . exact qj.ret
      . exact qj.fail
    | _=>simp only[aS,ho];exact qj.fail
  | load t x=>
    have:=ha (x:=x) (by unfold lZ;rw[ho]) (by rw[ho];simp[Op.operands]);simp only[aS,ho];rw[JU _ _ this];split
    . exact qj.ofMap (f:=fun v=>v)
    . exact qj.fail
  | nilCheck x=>
    have:=ha (x:=x) (by unfold lZ;rw[ho]) (by rw[ho];simp[Op.operands]);simp only[aS,ho];cases hv:ρ x with
    | addr r p=>
      rw[hv]at this;simp only;rw[tK this (by simp[AV.roots])];cases S.focus r p with
      | none=>exact qj.fail
      | some d=>exact qj.ret
    | bq t y=>exact qj.ret
    | eV f c=>exact qj.ret
    | _=>exact qj.fail
  | fieldAddr s x f=>have:=ha (x:=x) (by unfold lZ;rw[ho]) (by rw[ho];simp[Op.operands]);simp only[aS,ho];rw[Jt _ _ _ this];exact qj.ofMap (f:=fun v=>v)
  | indexAddr t x i=>
    have:=ha (x:=x) (by unfold lZ;rw[ho]) (by rw[ho];simp[Op.operands]);simp only[aS,ho];rw[JT _ _ _ this];split
    . exact qj.br qj.ret qj.fail
    . exact qj.fail
  | index t x i=>
    simp only[aS,ho];split
    . exact qj.br qj.ret qj.fail
    . exact qj.fail
  | convert s d x=>
    have:=ha (x:=x) (by unfold lZ;rw[ho]) (by rw[ho];simp[Op.operands]);simp only[aS,ho];split
    . exact qj.ret
    . exact qj.ret
    . rw[A9 _ _ this]
      split
      . exact qj.ret
      . exact qj.fail
    . exact qj.fail
  | binOp op t x y t2=>
    have:=ha (x:=x) (by unfold lZ;rw[ho]) (by rw[ho];simp[Op.operands]);simp only[aS,ho];rw[Cd _ this];split
    . split
      . exact qj.nil (f:=fun b=>.val .bool b)
      . exact qj.nil (f:=fun b=>.val .bool b)
      . exact qj.fail
    . split
      . exact qj.ret
      . exact qj.br qj.ret qj.fail
      . exact qj.br qj.fail qj.ret
      . exact qj.fail
  | assign x=>
    simp only[b5,ho]at hw;simp only[aS,ho];cases hv:ρ x with
    | bu r p s=>rw[hv]at hw;simp at hw
    | pair a b=>rw[hv]at hw;simp at hw
    | _=>exact qj.ret
  | build t parts=>
    simp only[b5,ho]at hw;split at hw
    . rename_i hc
      simp only[aO]at hc;simp only[aS,ho];split
      . obtain⟨r,h1,h2⟩:=CT (C.ty t) (parts.toList.map fun p=>(p.1,ρ p.2)) (Mk.rR hint (C.ty t),(C.ty t).zero) (ID hc.1 hint) (by
          have:=hc.2;unfold D9 at this;simpa [List.all_map] using this)
        rw[h1 S,h1 S'];cases r with
        | none=>exact qj.fail
        | some z=>exact De hl (h2 z rfl)
      . exact qj.fail
    . simp at hw
  | call c=>
    have hb:lZ o=false:=by unfold lZ;rw[ho]
    cases hc:c.callee with
    | builtin b=>
      cases b with
      | len=>
        simp only[aS,ho,hc];split
        . exact qj.ret
        . rename_i x _ _ _ hargs _
          obtain⟨u,oh,uG⟩:∃u,u∈c.args.toList/\ρ u=x:=by
            have:x∈c.args.toList.map ρ:=by rw[hargs];simp
            simpa using this
          have:=ha (x:=u) hb (by rw[ho];simp only[Op.operands,Call.operands,mQ];right;simpa using oh);rw[uG]at this;rw[Cd _ this];exact qj.ofMap (f:=fun n=>.val (.int .i64) n)
        all_goals first | (exfalso;contradiction) | exact qj.fail
      | min=>
        simp only[aS,ho,hc];split
        all_goals first
          | (exfalso;contradiction)
          | exact qj.fail
          | (split
             . split
               . exact qj.ret
               . exact qj.fail
             . exact qj.fail)
      | max=>
        simp only[aS,ho,hc];split
        all_goals first
          | (exfalso;contradiction)
          | exact qj.fail
          | (split
             . split
               . exact qj.ret
               . exact qj.fail
             . exact qj.fail)
      | _=>simp[b5,ho,hc]at hw
    | value f=>
      have hf:=ha (x:=f) hb (by rw[ho];simp[Op.operands,Call.operands,hc]);have hargs:eW (qk (c.args.toList.map ρ)) S S':=by
        intro r hr';have key:∀(l:List Operand),(∀x∈l,eW (ρ x).roots S S')->r∈qk (l.map ρ)->S'.root r=S.root r:=by
          intro l
          induction l with
          | nil=>intro _ h;simp[qk]at h
          | cons x l ih=>
            intro hx h;simp only[dn,qk,dw]at h;rcases h with h | h
            . exact hx x ef r h
            . exact ih (fun y hy=>hx y (d_ _ hy)) h
        exact key c.args.toList (fun x hx=>ha hb (by rw[ho];simp only[Op.operands,Call.operands,mQ];right;simpa using hx)) hr'
      simp only[aS,ho,hc];simp only[b5,ho,hc]at hw;cases hv:ρ f with
      | eV g caps=>
        rw[hv]at hw hf;simp only at hw⊢;split at hw
        . simp at hw
        rename_i lW;have hst:∀b,¬ (C.jB g&&b)=true:=fun b q=>lW (by rw[aO]at q;rw[q.1];rfl);have lW:¬ pM (C.sig g) (c.args.toList.map ρ++ij caps)=true:=fun q=>lW (by rw[q,Bool.or_true]);simp only[k_,ax (hst _),ax lW];split at hw
        . rename_i hq
          refine IE (A:={ A with sh:=hint }) (A':={ A' with sh:=hint }) rfl hl hq ?_;intro r hr';rcases(NV _ _ r).1 hr' with h | h
          . exact hargs r h
          . exact hf r (by simp only[AV.roots];exact FH _ r h)
        . simp at hw
      | dK cl=>
        simp only;rw[Cf _ _ hargs];split
        . split
          . exact qj.call fun x=>qj.ret
          . exact qj.fail
        . exact qj.fail
      | _=>exact qj.fail
    | invoke r m=>simp only[aS,ho,hc];exact qj.fail
  | _=>simp[b5,ho]at hw
end
end
structure c7 (W:List Nat) (S S':aD):Prop where
 len:S'.length=S.length
 root:∀r,r∉W->S'.root r=S.root r
theorem c7.refl(W:List Nat)(S:aD):c7 W S S:=⟨rfl,fun _ _=>rfl⟩
theorem c7.trans{W:List Nat}{a b c:aD}(h:c7 W a b)(k:c7 W b c):c7 W a c:=⟨k.len.trans h.len,fun r hr=>(k.root r hr).trans (h.root r hr)⟩
theorem c7.mono{W W':List Nat}{a b:aD}(h:c7 W a b)(hs:∀r∈W,r∈W'):c7 W' a b:=⟨h.len,fun r hr=>h.root r fun hh=>hr (hs r hh)⟩
theorem c7.set(S:aD)(q:Nat)(x:Option aB):c7 [q] S (S.ak q x):=by refine⟨by simp[aD.aY],fun r hr=>?_⟩;simp only[gk]at hr;simp only[aD.e8,aD.aY,List.getD,jF];rw[ax (fun h=>hr h.symm)]
theorem nV:∀(t:Ty)(a:AV){S S':aD}{m:Mk}{x:t.den},tk S t a=some (m,x,S')->c7 a.roots S S'
 | t,.val t' y,S,S',m,x,h=>by
  have:(qbv t' t y).bind (fun x=>some (Mk.no,x,S))=some (m,x,S'):=by cases t<;>simpa only [tk] using h
  simp only[bD,ay,aJ]at this;obtain⟨_,_,_,_,rfl⟩:=this;exact c7.refl _ _
 | t,.bA b,S,S',m,x,h=>by
  cases t<;>simp[tk]at h;obtain⟨_,_,rfl⟩:=h;exact c7.refl _ _
 | t,.unit,S,S',m,x,h=>by
  cases t<;>simp[tk]at h;obtain⟨_,rfl⟩:=h;exact c7.refl _ _
 | t,.cP,S,S',m,x,h=>by
  cases t<;>simp[tk]at h;obtain⟨_,_,rfl⟩:=h;exact c7.refl _ _
 | t,.bu r p s,S,S',m,x,h=>by
  cases t with
  | sl e=>
   simp only[tk]at h;split at h
   .split at h
    .split at h
     .simp only[bD,ay,aJ]at h;obtain⟨_,_,_,_,_,_,rfl⟩:=h;exact c7.set _ _ _
     .simp at h
    .simp at h
   .simp at h
  | _=>simp[tk]at h
 | t,.pair u v,S,S',m,x,h=>by
  cases t with
  | pair a b=>simp only[tk,bD,ay,aJ]at h;obtain⟨⟨m1,x1,S1⟩,h1,⟨m2,x2,S2⟩,h2,_,_,rfl⟩:=h;exact((nV a u h1).mono fun r hr=>by simp[AV.roots,hr]).trans ((nV b v h2).mono fun r hr=>by simp[AV.roots,hr])
  | _=>simp[tk]at h
 | t,.undef,S,S',m,x,h=>by cases t<;>simp[tk]at h
 | t,.skip,S,S',m,x,h=>by cases t<;>simp[tk]at h
 | t,.view _ _ _ _ _,S,S',m,x,h=>by cases t<;>simp[tk]at h
 | t,.addr _ _,S,S',m,x,h=>by cases t<;>simp[tk]at h
 | t,.bq _ _,S,S',m,x,h=>by cases t<;>simp[tk]at h
 | t,.fO _,S,S',m,x,h=>by cases t<;>simp[tk]at h
 | t,.eV _ _,S,S',m,x,h=>by cases t<;>simp[tk]at h
 | t,.dK _,S,S',m,x,h=>by cases t<;>simp[tk]at h
theorem Ke(t:Ty)(a:AV){S S':aD}{hint:Bool}{m:Mk}{x:t.den}(h:Eg S hint t a=some (m,x,S')):c7 a.roots S S':=by
 simp only[Eg,bD]at h;obtain⟨⟨m1,x1,S1⟩,h1,h⟩:=h;split at h
 .split at h
  .simp only[ay,aJ]at h;obtain⟨rfl,rfl,rfl⟩:=h;exact nV t a h1
  .simp at h
 .simp only[ay,aJ]at h;obtain⟨rfl,rfl,rfl⟩:=h;exact nV t a h1
theorem ou{A:aZ}{S S':aD}{d:Option Nat}{site:Nat}{t:Ty}{m:Mk}{x:t.den}{mem:Bool}{β:Bool}{v:AV}(h:(b8 A S d site t m x mem).dec β=some (v,S')):c7 d.toList S S':=by
 cases d with
 | none=>simp only[b8,Tr.dec,ay,aJ]at h;rw[<-h.2];exact c7.refl _ _
 | some d=>
  simp only[b8]at h;split at h
  .simp[Tr.dec]at h
  .split at h
   .split at h
    .simp only[Tr.dec,ay,aJ]at h;rw[<-h.2];exact c7.set _ _ _
    .simp[Tr.dec]at h
   .split at h
    .simp only[Tr.dec,ay,aJ]at h;rw[<-h.2];exact c7.refl _ _
    .split at h
     .simp only[Tr.dec,ay,aJ]at h;rw[<-h.2];exact c7.set _ _ _
     .simp[Tr.dec]at h
theorem CL{T:Ty}:∀(l:List (Nat×AV))(acc:Mk×T.den){S S':aD}{m:Mk}{x:T.den},jT S T acc l=some (m,x,S')->c7 (qk (l.map (·.2))) S S'
 | [],acc,S,S',m,x,h=>by
  simp only[jT,ay,aJ]at h;obtain⟨_,_,rfl⟩:=h;exact c7.refl _ _
 | (i,v)::l,acc,S,S',m,x,h=>by
  simp only[jT,bD]at h;obtain⟨d,_,⟨m1,x1,S1⟩,h1,r,_,h2⟩:=h;exact((nV _ v h1).mono fun r hr=>by simp[qk,hr]).trans ((CL l _ h2).mono fun r hr=>by simp[qk,hr])
theorem Bj{e:Ty}:∀(l:List (Nat×AV))(acc:Mk×List e.den){S S':aD}{m:Mk}{x:List e.den},m6 S e acc l=some (m,x,S')->c7 (qk (l.map (·.2))) S S'
 | [],acc,S,S',m,x,h=>by
  simp only[m6,ay,aJ]at h;obtain⟨_,_,rfl⟩:=h;exact c7.refl _ _
 | (i,v)::l,acc,S,S',m,x,h=>by
  simp only[m6]at h;split at h
  .simp only[bD]at h;obtain⟨⟨m1,x1,S1⟩,h1,h2⟩:=h;exact((nV _ v h1).mono fun r hr=>by simp[qk,hr]).trans ((Bj l _ h2).mono fun r hr=>by simp[qk,hr])
  .simp at h
theorem v8:∀(ks:List PK)(au:List AV){S S':aD}{g:fP ks},dP S ks au=some (g,S')->c7 (ic ks au) S S'
 | [],[],S,S',g,h=>by
  simp only[dP,ay,aJ]at h;rw[h.2];exact c7.refl _ _
 | [],_::_,S,S',g,h=>by simp[dP]at h
 | k::ks,[],S,S',g,h=>by cases k<;>simp[dP]at h
 | k::ks,a::au,S,S',g,h=>by
  have hsub:∀r∈ic ks au,r∈ic (k::ks) (a::au):=by intro r hr;simp only[ic];split<;>simp[hr]
  cases k with
  | own t m=>
   simp only[dP,bD]at h;obtain⟨⟨m1,x1,S1⟩,h1,h⟩:=h;split at h
   .simp only[bD,ay,aJ]at h;obtain⟨⟨g2,S2⟩,h2,_,rfl⟩:=h;exact((nV _ a h1).mono fun r hr=>by simp[ic,PK.plain,hr]).trans ((v8 ks au h2).mono hsub)
   .simp at h
  | val t=>exact(v8 ks au (by simpa only [dP] using h)).mono hsub
  | bS t m m'=>exact(v8 ks au (by simpa only [dP] using h)).mono hsub
  | cD t m m'=>exact(v8 ks au (by simpa only [dP] using h)).mono hsub
  | bP t=>exact(v8 ks au (by simpa only [dP] using h)).mono hsub
  | fn=>exact(v8 ks au (by simpa only [dP] using h)).mono hsub
theorem wJ:∀(a:AV){r:Nat}{p:Path},gz a=some (r,p)->r∈a.roots
 | .bu r' p' s,r,p,h=>by simp only[gz,ay,aJ]at h;simp[AV.roots,h.1]
 | .pair a b,r,p,h=>by
  simp only[gz]at h;simp only[AV.roots,dw];split at h
  .rename_i r1 p1 h1;simp only[ay,aJ]at h;obtain⟨rfl,_⟩:=h;exact .inl (wJ a h1)
  .split at h
   .rename_i r1 p1 h1;simp only[ay,aJ]at h;obtain⟨rfl,_⟩:=h;exact .inr (wJ b h1)
   .simp at h
 | .undef,_,_,h=>by simp[gz]at h
 | .skip,_,_,h=>by simp[gz]at h
 | .bA _,_,_,h=>by simp[gz]at h
 | .unit,_,_,h=>by simp[gz]at h
 | .cP,_,_,h=>by simp[gz]at h
 | .val _ _,_,_,h=>by simp[gz]at h
 | .view _ _ _ _ _,_,_,h=>by simp[gz]at h
 | .addr _ _,_,_,h=>by simp[gz]at h
 | .bq _ _,_,_,h=>by simp[gz]at h
 | .fO _,_,_,h=>by simp[gz]at h
 | .eV _ _,_,_,h=>by simp[gz]at h
 | .dK _,_,_,h=>by simp[gz]at h
theorem IS{S S':aD}{site:Nat}{t:Ty}{a:AV}{m:Mk}{o:t.den}(h:pK S site t a m o=some S'):c7 a.roots S S':=by
 unfold pK at h;split at h
 .simp only[ay]at h;rw[h];exact c7.refl _ _
 .rename_i r p hp;split at h
  .simp only[bD]at h;obtain⟨d,_,h⟩:=h;split at h
   .simp only[bD]at h;obtain⟨y,_,h⟩:=h;split at h
    .simp at h
    .simp only[bD,ay]at h;obtain⟨_,_,rfl⟩:=h;exact(c7.set _ _ _).mono fun r' hr=>by simp only[gk]at hr;subst hr;exact wJ a hp
   .simp at h
  .simp at h
theorem v7{site:Nat}:∀(ks:List PK)(au:List AV)(o:bV ks){S S':aD},dY S site ks au o=some S'->c7 (ic ks au) S S'
 | [],[],o,S,S',h=>by
  simp only[dY,ay]at h;rw[h];exact c7.refl _ _
 | [],_::_,o,S,S',h=>by simp[dY]at h
 | k::ks,[],o,S,S',h=>by cases k<;>simp[dY]at h
 | k::ks,a::au,o,S,S',h=>by
  have hsub:∀r∈ic ks au,r∈ic (k::ks) (a::au):=by intro r hr;simp only[ic];split<;>simp[hr]
  cases k with
  | bS t m m'=>
   cases a with
   | addr q p=>
    cases p with
    | nil=>
     simp only[dY]at h;split at h
     .exact((c7.set _ _ _).mono fun r hr=>by simp only[gk]at hr;subst hr;simp[ic,PK.plain,AV.roots]).trans ((v7 ks au o.2 h).mono hsub)
     .simp at h
    | cons _ _=>simp[dY]at h
   | _=>simp[dY]at h
  | cD t m m'=>simp only[dY,bD]at h;obtain⟨S1,h1,h2⟩:=h;exact((IS h1).mono fun r hr=>by simp[ic,PK.plain,hr]).trans ((v7 ks au o.2 h2).mono hsub)
  | val t=>exact(v7 ks au o (by simpa only [dY] using h)).mono hsub
  | own t m=>exact(v7 ks au o (by simpa only [dY] using h)).mono hsub
  | bP t=>exact(v7 ks au o (by simpa only [dY] using h)).mono hsub
  | fn=>exact(v7 ks au o (by simpa only [dY] using h)).mono hsub
theorem Bh{A:aZ}{S S':aD}{d:Option Nat}{site:Nat}:∀(rs:List RK)(r:dU rs){β:Bool}{v:AV},(ig A S d site rs r).dec β=some (v,S')->c7 d.toList S S'
 | [],r,β,v,h=>by
  simp only[ig,Tr.dec,ay,aJ]at h;rw[<-h.2];exact c7.refl _ _
 | [.val t m],r,β,v,h=>by
  simp only[ig]at h;split at h
  .split at h
   .simp only[Tr.dec,ay,aJ]at h;rw[<-h.2];exact c7.refl _ _
   .simp[Tr.dec]at h
  .split at h
   .exact ou h
   .simp[Tr.dec]at h
 | [.ptr t m],r,β,v,h=>by
  simp only[ig]at h;split at h
  .exact ou h
  .simp[Tr.dec]at h
 | q1::q2::rs,r,β,v,h=>by
  have h':(tX A S d site (q1::q2::rs) r).dec β=some (v,S'):=by cases q1<;>simpa only [ig] using h
  unfold tX at h';split at h'
  .cases d with
   | none=>simp only[Tr.dec,ay,aJ]at h';rw[<-h'.2];exact c7.refl _ _
   | some d=>
    simp only at h';cases hl:b8 A S (some d) site (fN (q1::q2::rs)) (kF (q1::q2::rs)) (gq (q1::q2::rs) r) false with
    | ret z=>obtain⟨v1,S1⟩:=z;rw[hl]at h';simp only[Tr.dec,ay,aJ]at h';rw[<-h'.2];exact ou (β:=true) (by rw[hl];rfl)
    | _=>rw[hl]at h';simp[Tr.dec]at h'
  .simp[Tr.dec]at h'
section
variable {C:Ctx} {D:Den C}
theorem xm{A:aZ}{S S':aD}{d:Option Nat}{site:Nat}{g:FuncId}{au:List AV}{β:Bool}{v:AV}(h:(l5 C D A S d site g au).dec β=some (v,S')):c7 (d.toList++ic (C.sig g).params au) S S':=by
 unfold l5 at h;split at h
 .simp[Tr.dec]at h
 .rename_i gd S1 h1;split at h
  .simp[Tr.dec]at h
  .rename_i od S2 h2;split at h
   .simp[Tr.dec]at h
   .split at h
    .simp only[Tr.dec,bD]at h;obtain⟨r,_,h⟩:=h;have f1:c7 (d.toList++ic (C.sig g).params au) S S1:=(v8 _ _ h1).mono fun r hr=>by simp[hr]
     split at h
     .exact f1.trans ((Bh _ _ h).mono fun r hr=>by simp[hr])
     .split at h
      .cases hlo:ov (C.sig g).params au with
       | false=>rw[hlo]at h;simp[Tr.dec]at h
       | true=>
       rw[hlo]at h;simp only[Tr.dec]at h;split at h
       .simp[Tr.dec]at h
       .rename_i S3 h3;exact f1.trans (((v7 _ _ _ h3).mono fun r hr=>by simp[hr]).trans ((Bh _ _ h).mono fun r hr=>by simp[hr]))
      .simp[Tr.dec]at h
    .simp[Tr.dec]at h
theorem EL:∀(ks:List PK)(au:List AV),∀r∈ic ks au,r∈qk au
 | [],_,r,h=>by simp[ic]at h
 | k::ks,[],r,h=>by simp[ic]at h
 | k::ks,a::au,r,h=>by
  simp only[ic]at h;simp only[qk,dw];split at h
  .exact .inr (EL ks au r h)
  .rcases dw.1 h with h | h
   .exact .inl h
   .exact .inr (EL ks au r h)
theorem HR:∀(ks:List PK)(au:List AV){S:aD}{z:List AV×aD},gN S ks au=some z->c7 (qk au) S z.2/\ic ks z.1=ic ks au
 | [],[],S,z,h=>by
  simp only[gN,ay]at h;subst h;exact⟨c7.refl _ _,rfl⟩
 | [],_::_,S,z,h=>by simp[gN]at h
 | k::ks,[],S,z,h=>by cases k<;>simp[gN]at h
 | k::ks,a::au,S,z,h=>by
  have plain:(gN S ks au).map (fun z=>(a::z.1,z.2))=some z->c7 (qk (a::au)) S z.2/\ic (k::ks) z.1=ic (k::ks) (a::au):=by intro h;simp only[c5]at h;obtain⟨z',h1,rfl⟩:=h;obtain⟨f,e⟩:=HR ks au h1;exact⟨f.mono fun r hr=>by simp[qk,hr],by simp only[ic,e]⟩
  cases k with
  | val t=>
   simp only[gN]at h;split at h
   .exact plain h
   .split at h
    .rename_i m y S1 mw;split at h
     .simp only[c5]at h;obtain⟨z',h1,rfl⟩:=h;obtain⟨f,e⟩:=HR ks au h1;exact⟨((nV _ _ mw).mono fun r hr=>by simp[qk,hr]).trans (f.mono fun r hr=>by simp[qk,hr]),by simp only[ic,PK.plain,aK,e]⟩
     .simp at h
    .simp at h
  | _=>exact plain (by simpa only [gN] using h)
theorem QB{S S':aD}{r:Nat}{R:aB}{p:Path}{x:Int}{β:Bool}{v:AV}(h:(zx S r R p x).dec β=some (v,S')):c7 [r] S S':=by
 unfold zx at h;split at h
 .simp only[Tr.dec,ay,aJ]at h;rw[<-h.2];exact c7.set _ _ _
 .simp[Tr.dec]at h
theorem V8{S S':aD}{au:List AV}{β:Bool}{v:AV}(h:(zw S au).dec β=some (v,S')):c7 (qk au) S S':=by
 unfold zw at h;split at h
 .rename_i r a l x;have hm:∀q∈[r],q∈qk [AV.addr r [],AV.val (.int .i64) a,AV.val (.int .i64) l,AV.val (.int .i64) x]:=fun q hq=>by
   simp only[gk]at hq;subst hq;simp[qk,AV.roots]
  split at h
  .split at h
   .simp only[Tr.dec]at h;split at h
    .split at h
     .exact(QB h).mono hm
     .simp at h
    .split at h
     .split at h
      .simp only[Tr.dec]at h;split at h
       .exact(QB h).mono hm
       .simp at h
      .simp[Tr.dec]at h
     .simp at h
   .simp[Tr.dec]at h
  .simp[Tr.dec]at h
 .simp[Tr.dec]at h
theorem IF{A:aZ}{S S':aD}{d:Option Nat}{site:Nat}{g:FuncId}{au:List AV}{β:Bool}{v:AV}(h:(k_ C D A S d site g au).dec β=some (v,S')):c7 (d.toList++qk au) S S':=by
 unfold k_ at h;split at h
 .exact(V8 h).mono fun r hr=>dw.2 (.inr hr)
 split at h
 .split at h
  .rename_i z hz;obtain⟨f,e⟩:=HR _ _ hz;have f2:=xm h;rw[e]at f2;exact(f.mono fun r hr=>by simp[hr]).trans (f2.mono fun r hr=>by
    rcases dw.1 hr with hr | hr
    .simp[hr]
    .exact dw.2 (.inr (EL _ _ r hr)))
  .simp[Tr.dec]at h
 .exact(xm h).mono fun r hr=>by
   rcases dw.1 hr with hr | hr
   .simp[hr]
   .exact dw.2 (.inr (EL _ _ r hr))
theorem CZ{A:aZ}{S S':aD}{d:Option Nat}{site:Nat}{hint:Bool}{u:AV}{β:Bool}{v:AV}(h:(we A S d site hint u).dec β=some (v,S')):c7 (d.toList++u.roots) S S':=by
 unfold we at h;split at h
 .split at h
  .rename_i m y S1 h1;have f1:c7 (d.toList++u.roots) S S1:=(nV _ _ h1).mono fun r hr=>by simp[hr]
   split at h
   .split at h
    .simp only[Tr.dec,ay,aJ]at h;rw[<-h.2];exact f1
    .simp[Tr.dec]at h
   .exact f1.trans ((ou h).mono fun r hr=>by simp[hr])
  .simp[Tr.dec]at h
 .simp[Tr.dec]at h
theorem EH{ρ:Operand->AV}(ps:Array (Nat×Operand)):qk ((ps.toList.map fun p=>(p.1,ρ p.2)).map (·.2))=qk ((ps.toList.map (·.2)).map ρ):=by simp only[xH];rfl
theorem II{A:aZ}{ρ:Operand->AV}{S S':aD}{site:Nat}{hint:Bool}{o:Oper}{W:List Nat}(hw:b5 C ρ o=some W){β:Bool}{v:AV}
  (h:(aS C D A ρ S site hint o).dec β=some (v,S')):c7 W S S':=by
 have hin:∀{x:Operand},x∈o.op.operands->∀r∈(ρ x).roots,r∈qk (o.op.operands.toList.map ρ):=fun hx r hr=>HV (fZ.2 ⟨_,by simpa using hx,rfl⟩) r hr;cases ho:o.op with
 | assign x=>
  simp only[b5,ho]at hw;simp only[aS,ho]at h;have hx:=hin (x:=x) (by rw[ho];simp[Op.operands]);rw[ho]at hx;cases hv:ρ x with
  | bu r p s=>
   rw[hv]at hw h hx;simp only[ay]at hw;subst hw;simp only at h;split at h
   .simp only[Tr.dec,ay,aJ]at h;rw[<-h.2];exact c7.refl _ _
   .exact(CZ h).mono fun r hr=>by rcases dw.1 hr with h | h;exact dw.2 (.inl h);exact dw.2 (.inr (hx r h))
  | pair a b=>rw[hv]at hw h hx;simp only[ay]at hw;subst hw;exact(CZ h).mono fun r hr=>by rcases dw.1 hr with h | h;exact dw.2 (.inl h);exact dw.2 (.inr (hx r h))
  | _=>rw[hv]at hw;simp at hw
 | alloc t=>
  simp only[b5,ho,ay]at hw;subst hw;simp only[aS,ho]at h;split at h
  .exact(ou h).mono fun r hr=>by simp[hr]
  .simp[Tr.dec]at h
 | box t x=>
  simp only[b5,ho,ay]at hw;subst hw;have hx:=hin (x:=x) (by rw[ho];simp[Op.operands]);rw[ho]at hx;simp only[aS,ho]at h;split at h
  .split at h
   .rename_i m y S1 h1;have f1:=(nV _ _ h1).mono (W':=o.dst.toList++qk ((Op.box t x).operands.toList.map ρ)) fun r hr=>dw.2 (.inr (hx r hr));split at h
    .split at h
     .exact f1.trans ((ou h).mono fun r hr=>by simp[hr])
     .simp[Tr.dec]at h
    .exact f1.trans ((ou h).mono fun r hr=>by simp[hr])
   .simp[Tr.dec]at h
  .simp[Tr.dec]at h
 | build t ps=>
  simp only[b5,ho]at hw;split at hw
  .simp at hw
  simp only[ay]at hw;subst hw;simp only[aS,ho]at h;split at h
  .split at h
   .rename_i m y S1 h1;have f1:=(CL _ _ h1).mono (W':=o.dst.toList++qk ((Op.build t ps).operands.toList.map ρ)) fun r hr=>by
     rw[EH]at hr;exact dw.2 (.inr (by simpa [Op.operands] using hr))
    exact f1.trans ((ou h).mono fun r hr=>by simp[hr])
   .simp[Tr.dec]at h
  .simp[Tr.dec]at h
 | buildSlice t n ps=>
  simp only[b5,ho,ay]at hw;subst hw;simp only[aS,ho]at h;split at h
  .split at h
   .rename_i m y S1 h1;have f1:=(Bj _ _ h1).mono (W':=o.dst.toList++qk ((Op.buildSlice t n ps).operands.toList.map ρ)) fun r hr=>by
     rw[EH]at hr;exact dw.2 (.inr (by simpa [Op.operands] using hr))
    split at h
    .split at h
     .split at h
      .simp only[Tr.dec,ay,aJ]at h;rw[<-h.2];exact f1
      .simp[Tr.dec]at h
     .exact f1.trans ((ou h).mono fun r hr=>by simp[hr])
    .simp[Tr.dec]at h
   .simp[Tr.dec]at h
  .simp[Tr.dec]at h
 | store t x y=>
  simp only[b5,ho,ay]at hw;subst hw;have hx:=hin (x:=x) (by rw[ho];simp[Op.operands]);have hy:=hin (x:=y) (by rw[ho];simp[Op.operands]);rw[ho]at hx hy;simp only[aS,ho]at h;split at h
  .cases hs:sY S site hint (C.ty t) (ρ x) (ρ y) with
   | none=>rw[hs]at h;simp[Tr.of,Tr.dec]at h
   | some S2=>
    rw[hs]at h;simp only[cr,Tr.of,Tr.dec,ay,aJ]at h;rw[<-h.2];unfold sY at hs;split at hs
    .rename_i r p hv;simp only[bD]at hs;obtain⟨⟨m,z,S1⟩,h1,hs⟩:=hs;split at hs
     .simp only[bD]at hs;obtain⟨dd,_,hs⟩:=hs;split at hs
      .simp only[bD,ay]at hs;obtain⟨_,_,rfl⟩:=hs;refine((Ke _ _ h1).mono fun r hr=>dw.2 (.inr (hy r hr))).trans ((c7.set _ _ _).mono fun r' hr=>?_);simp only[gk]at hr;subst hr;exact dw.2 (.inr (hx _ (by rw[hv];simp[AV.roots])))
      .simp at hs
     .simp at hs
    .simp at hs
  .simp[Tr.dec]at h
 | makeSlice t x y=>
  simp only[b5,ho,ay]at hw;subst hw;simp only[aS,ho]at h;split at h
  .simp only[Tr.dec]at h;split at h
   .exact(ou h).mono fun r hr=>by simp[hr]
   .simp at h
  .simp[Tr.dec]at h
 | slice t x lo hi mx=>
  simp only[b5,ho,ay]at hw;subst hw;have hx:=hin (x:=x) (by rw[ho];simp[Op.operands]);rw[ho]at hx;cases mx with
  | some _=>simp only[aS,ho,Tr.dec]at h;simp at h
  | none=>
   simp only[aS,ho]at h;unfold nK at h;split at h
   .split at h
    .simp only[Tr.dec]at h;split at h
     .simp only[ay,aJ]at h;rw[<-h.2];exact c7.refl _ _
     .simp at h
    .simp[Tr.dec]at h
   .split at h
    .split at h
     .simp only[Tr.dec]at h;split at h
      .simp only[ay,aJ]at h;rw[<-h.2];exact c7.refl _ _
      .simp at h
     .simp[Tr.dec]at h
    .simp[Tr.dec]at h
   .rename_i r p s e hv hT;split at h
    .split at h
     .rename_i m xs S2 h1;have f1:=(nV _ _ h1).mono (W':=o.dst.toList++qk ((Op.slice t x lo hi none).operands.toList.map ρ)) fun r hr=>dw.2 (.inr (hx r (by rw[hv];exact hr)));split at h
      .split at h
       .simp only[Tr.dec]at h;split at h
        .exact f1.trans ((ou h).mono fun r hr=>by simp[hr])
        .simp at h
       .simp[Tr.dec]at h
      .simp[Tr.dec]at h
     .simp[Tr.dec]at h
    .unfold nL at h;split at h
     .split at h
      .split at h
       .simp only[Tr.dec]at h;split at h
        .simp only[ay,aJ]at h;rw[<-h.2];exact c7.refl _ _
        .simp at h
       .simp[Tr.dec]at h
      .simp[Tr.dec]at h
     .simp[Tr.dec]at h
   .simp[Tr.dec]at h
 | call c=>
  have hargs:∀(a:AV),a∈c.args.toList.map ρ->∀r∈a.roots,r∈qk (o.op.operands.toList.map ρ):=by intro a ha r hr;obtain⟨x,hx,rfl⟩:=fZ.1 ha;exact hin (x:=x) (by rw[ho];simp only[Op.operands,Call.operands,mQ];right;simpa using hx) r hr
  cases hc:c.callee with
  | builtin b=>
   cases b with
   | append=>
    simp only[b5,ho,hc,ay]at hw;subst hw;rw[ho]at hargs;simp only[aS,ho,hc]at h;split at h<;>try (first | (exfalso;contradiction) | (simp[Tr.dec]at h;done))
    rename_i x0 y0 e e' _ _ hmap _;split at h
    .cases hint with
     | true=>
      simp only[aK]at h;have hx0:=hargs x0 (by rw[hmap];simp);unfold lf at h;split at h
      .split at h
       .split at h
        .split at h
         .split at h
          .simp only[Tr.dec]at h;split at h
           .simp only[ay,aJ]at h;rw[<-h.2];exact(c7.set _ _ _).mono fun r' hr=>by
             simp only[gk]at hr;subst hr;exact dw.2 (.inr (hx0 _ (by simp[AV.roots])))
           .simp at h
          .simp[Tr.dec]at h
         .simp[Tr.dec]at h
        .simp[Tr.dec]at h
       .simp[Tr.dec]at h
      .simp[Tr.dec]at h
     | false=>
     simp only[cL,bY]at h;unfold uW at h;have hx0:=hargs x0 (by rw[hmap];simp);have hy0:=hargs y0 (by rw[hmap];simp);split at h
     .rename_i m xs S1 h1;split at h
      .rename_i my ys S2 h2;have f1:=((nV _ _ h1).mono (W':=o.dst.toList++qk ((Op.call c).operands.toList.map ρ)) fun r hr=>dw.2 (.inr (hx0 r hr))).trans
        ((nV _ _ h2).mono fun r hr=>dw.2 (.inr (hy0 r hr)))
       split at h
       .split at h
        .simp only[Tr.dec]at h;split at h
         .exact f1.trans ((ou h).mono fun r hr=>by simp[hr])
         .simp at h
        .simp[Tr.dec]at h
       .simp[Tr.dec]at h
      .simp[Tr.dec]at h
     .simp[Tr.dec]at h
    .simp[Tr.dec]at h
   | clear=>
    simp only[b5,ho,hc,ay]at hw;subst hw;rw[ho]at hargs;simp only[aS,ho,hc]at h;split at h<;>try (first | (exfalso;contradiction) | (simp[Tr.dec]at h;done))
    rename_i x0 e _ _ hmap _;have hx0:=hargs x0 (by rw[hmap];simp);unfold pV at h;split at h
    .split at h
     .split at h
      .split at h
       .split at h
        .simp only[Tr.dec]at h;split at h
         .simp only[ay,aJ]at h;rw[<-h.2];exact(c7.set _ _ _).mono fun r' hr=>by
           simp only[gk]at hr;subst hr;exact dw.2 (.inr (hx0 _ (by simp[AV.roots])))
         .simp only[ay,aJ]at h;rw[<-h.2];exact c7.refl _ _
        .simp[Tr.dec]at h
       .simp[Tr.dec]at h
      .simp[Tr.dec]at h
     .simp[Tr.dec]at h
    .simp[Tr.dec]at h
   | copy=>
    simp only[b5,ho,hc,ay]at hw;subst hw;rw[ho]at hargs;simp only[aS,ho,hc]at h;split at h<;>try (first | (exfalso;contradiction) | (simp[Tr.dec]at h;done))
    rename_i x0 y0 e _ _ hmap _;have hx0:=hargs x0 (by rw[hmap];simp);unfold pQ at h;split at h
    .split at h
     .split at h
      .split at h
       .split at h
        .split at h
         .simp only[Tr.dec]at h;split at h
          .simp only[ay,aJ]at h;rw[<-h.2];exact(c7.set _ _ _).mono fun r' hr=>by
            simp only[gk]at hr;subst hr;exact dw.2 (.inr (hx0 _ (by simp[AV.roots])))
          .simp only[ay,aJ]at h;rw[<-h.2];exact c7.refl _ _
         .simp[Tr.dec]at h
        .simp[Tr.dec]at h
       .simp[Tr.dec]at h
      .simp[Tr.dec]at h
     .simp[Tr.dec]at h
    .simp[Tr.dec]at h
   | len=>simp[b5,ho,hc]at hw
   | min=>simp[b5,ho,hc]at hw
   | max=>simp[b5,ho,hc]at hw
   | _=>simp only[aS,ho,hc,Tr.dec]at h;simp at h
  | value f=>
   simp only[b5,ho,hc]at hw;simp only[aS,ho,hc]at h;cases hv:ρ f with
   | eV g caps=>
    rw[hv]at hw h;simp only at hw h;split at hw
    .simp only[ay]at hw;subst hw;refine(IF h).mono fun r hr=>?_;rcases dw.1 hr with hr | hr
     .exact dw.2 (.inl hr)
     .refine dw.2 (.inr ?_);rw[NV]at hr;rcases hr with hr | hr
      .simp only[Op.operands,Call.operands,hc];have:∀l:List AV,∀a,r∈qk l->r∈qk (a::l):=fun l a h=>by simp[qk,h]
       simpa using this _ _ hr
      .have h1:=FH caps r hr;have h2:=hin (x:=f) (by rw[ho];simp[Op.operands,Call.operands,hc]) r (by rw[hv];simpa [AV.roots] using h1);rw[ho]at h2;exact h2
    .rename_i lW;have hst:∀b,¬ (C.jB g&&b)=true:=fun b q=>lW (by rw[aO]at q;rw[q.1];rfl);have lW:¬ pM (C.sig g) (c.args.toList.map ρ++ij caps)=true:=fun q=>lW (by rw[q,Bool.or_true]);simp only[k_,ax (hst _),ax lW]at h;split at hw
     .simp at hw
     .simp only[ay]at hw;subst hw;exact xm h
   | dK cl=>rw[hv]at hw;simp at hw
   | _=>rw[hv]at h;simp[Tr.dec]at h
  | invoke r m=>simp only[aS,ho,hc,Tr.dec]at h;simp at h
 | _=>first | (simp[b5,ho]at hw;done) | (simp only[aS,ho,Tr.dec]at h;simp at h)
end
end Go.V
namespace Go.V
noncomputable section
open Go
theorem i_(S:aD)(q:Nat)(x:Option aB)(r:Nat):(S.ak q x).root r=if r=q/\q<S.length then x else S.root r:=by
 simp only[aD.e8,aD.aY,List.getD,jF];by_cases h:q=r
 .subst h;by_cases hl:q<S.length
  .simp[hl]
  .simp[hl]
 .rw[ax h,ax (fun k=>h k.1.symm)]
theorem zE{F:List Nat}{S T:aD}(hr:eW F S T)(hl:T.length=S.length)(q:Nat)(x:Option aB):eW F (S.ak q x) (T.ak q x):=by intro r h;rw[i_,i_,hl,hr r h]
def Lk{α:Type}(F:List Nat)(X Y:Option (α×aD)):Prop:=∀a S',X=some (a,S')->∃T',Y=some (a,T')/\eW F S' T'/\T'.length=S'.length
theorem sj{F:List Nat}:∀(t:Ty)(a:AV){S T:aD}{m:Mk}{x:t.den}{S':aD},eW F S T->T.length=S.length->(∀r∈a.roots,r∈F)->tk S t a=some (m,x,S')->
  ∃T',tk T t a=some (m,x,T')/\eW F S' T'/\T'.length=S'.length
 | t,.val t' y,S,T,m,x,S',hr,hl,hF,h=>by
  have e:∀S:aD,tk S t (.val t' y)=(qbv t' t y).bind (fun x=>some (Mk.no,x,S)):=by intro S;cases t<;>simp only[tk]
  rw[e]at h;simp only[bD,ay,aJ]at h;obtain⟨z,hz,rfl,rfl,rfl⟩:=h;exact⟨T,by rw[e,hz];rfl,hr,hl⟩
 | t,.bA b,S,T,m,x,S',hr,hl,hF,h=>by
  cases t<;>simp[tk]at h;obtain⟨rfl,rfl,rfl⟩:=h;exact⟨T,by simp[tk],hr,hl⟩
 | t,.unit,S,T,m,x,S',hr,hl,hF,h=>by
  cases t<;>simp[tk]at h;obtain⟨rfl,rfl⟩:=h;exact⟨T,by simp[tk],hr,hl⟩
 | t,.cP,S,T,m,x,S',hr,hl,hF,h=>by
  cases t<;>simp[tk]at h;obtain⟨rfl,rfl,rfl⟩:=h;exact⟨T,by simp[tk],hr,hl⟩
 | t,.bu r p s,S,T,m,x,S',hr,hl,hF,h=>by
  cases t with
  | sl e=>
   have aP:=hr r (hF r (by simp[AV.roots]));simp only[tk]at h⊢;rw[aP];cases hR:S.root r with
   | none=>rw[hR]at h;simp at h
   | some R=>
    rw[hR]at h;simp only at h⊢;cases hf:V.focus R.ty R.ms R.x p with
    | none=>rw[hf]at h;simp at h
    | some d=>
     obtain⟨dt,dm,dx⟩:=d;rw[hf]at h;cases dt with
     | sl t2=>
      cases dm with
      | own s' m2=>
       simp only at h⊢;by_cases hs:s=s'
       .rw[aE hs]at h⊢;simp only[bD,ay,aJ]at h⊢;obtain⟨z,hz,m',hm',rfl,rfl,rfl⟩:=h;exact⟨_,⟨z,hz,m',hm',rfl,rfl,rfl⟩,zE hr hl _ _,by simp[aD.aY,hl]⟩
       .rw[ax hs]at h;simp at h
      | _=>simp at h
     | _=>simp at h
  | _=>simp[tk]at h
 | t,.pair u v,S,T,m,x,S',hr,hl,hF,h=>by
  cases t with
  | pair a b=>simp only[tk,bD,ay,aJ]at h;obtain⟨⟨m1,x1,S1⟩,h1,⟨m2,x2,S2⟩,h2,rfl,rfl,rfl⟩:=h;obtain⟨T1,k1,k2,k3⟩:=sj a u hr hl (fun r h=>hF r (by simp[AV.roots,h])) h1;obtain⟨T2,q1,q2,q3⟩:=sj b v k2 k3 (fun r h=>hF r (by simp[AV.roots,h])) h2;exact⟨T2,by simp only[tk,k1,bX,q1],q2,q3⟩
  | _=>simp[tk]at h
 | t,.undef,S,T,m,x,S',hr,hl,hF,h=>by cases t<;>simp[tk]at h
 | t,.skip,S,T,m,x,S',hr,hl,hF,h=>by cases t<;>simp[tk]at h
 | t,.view _ _ _ _ _,S,T,m,x,S',hr,hl,hF,h=>by cases t<;>simp[tk]at h
 | t,.addr _ _,S,T,m,x,S',hr,hl,hF,h=>by cases t<;>simp[tk]at h
 | t,.bq _ _,S,T,m,x,S',hr,hl,hF,h=>by cases t<;>simp[tk]at h
 | t,.fO _,S,T,m,x,S',hr,hl,hF,h=>by cases t<;>simp[tk]at h
 | t,.eV _ _,S,T,m,x,S',hr,hl,hF,h=>by cases t<;>simp[tk]at h
 | t,.dK _,S,T,m,x,S',hr,hl,hF,h=>by cases t<;>simp[tk]at h
theorem qE{F:List Nat}{A:aZ}{S T:aD}(hr:eW F S T)(hl:T.length=S.length){d:Option Nat}{site:Nat}{t:Ty}{m:Mk}{x:t.den}{mem:Bool}{β:Bool} :
  Lk F ((b8 A S d site t m x mem).dec β) ((b8 A T d site t m x mem).dec β):=by
 intro v S' h;cases d with
 | none=>simp only[b8,Tr.dec,ay,aJ]at h⊢;obtain⟨rfl,rfl⟩:=h;exact⟨T,⟨rfl,rfl⟩,hr,hl⟩
 | some d=>
  simp only[b8,hl]at h⊢;split at h
  .simp[Tr.dec]at h
  .rename_i h1;simp only[h1];split at h
   .rename_i h2;split at h
    .rename_i h3;simp only[Tr.dec,ay,aJ]at h;obtain⟨rfl,rfl⟩:=h;exact⟨_,by simp[h2,h3,Tr.dec],zE hr hl _ _,by simp[aD.aY,hl]⟩
    .simp[Tr.dec]at h
   .rename_i h2;split at h
    .rename_i h3;simp only[Tr.dec,ay,aJ]at h;obtain⟨rfl,rfl⟩:=h;exact⟨T,by simp[h2,h3,Tr.dec],hr,hl⟩
    .rename_i h3;split at h
     .rename_i h4;simp only[Tr.dec,ay,aJ]at h;obtain⟨rfl,rfl⟩:=h;refine⟨_,?_,zE hr hl _ _,by simp[aD.aY,hl]⟩;simp only[h2,cL,bY,h3,h4,aK,Tr.dec]
     .simp[Tr.dec]at h
theorem C6{F:List Nat}{T0:Ty}:∀(l:List (Nat×AV))(acc:Mk×T0.den){S T:aD}{m:Mk}{x:T0.den}{S':aD},eW F S T->T.length=S.length->(∀r∈qk (l.map (·.2)),r∈F)->
  jT S T0 acc l=some (m,x,S')->∃T',jT T T0 acc l=some (m,x,T')/\eW F S' T'/\T'.length=S'.length
 | [],acc,S,T,m,x,S',hr,hl,hF,h=>by
  simp only[jT,ay,aJ]at h⊢;obtain⟨rfl,rfl,rfl⟩:=h;exact⟨T,⟨rfl,rfl,rfl⟩,hr,hl⟩
 | (i,v)::l,acc,S,T,m,x,S',hr,hl,hF,h=>by
  simp only[jT,bD]at h;obtain⟨d,hd,⟨m1,x1,S1⟩,h1,r,h3,h2⟩:=h;obtain⟨T1,k1,k2,k3⟩:=sj _ v hr hl (fun r h=>hF r (by simp[qk,h])) h1;obtain⟨T2,q1,q2,q3⟩:=C6 l _ k2 k3 (fun r h=>hF r (by simp only[dn,qk,dw];exact .inr h)) h2;refine⟨T2,?_,q2,q3⟩;simp only[jT,bD];exact⟨d,hd,(m1,x1,T1),k1,r,h3,q1⟩
theorem BE{F:List Nat}{e:Ty}:∀(l:List (Nat×AV))(acc:Mk×List e.den){S T:aD}{m:Mk}{x:List e.den}{S':aD},eW F S T->T.length=S.length->(∀r∈qk (l.map (·.2)),r∈F)->
  m6 S e acc l=some (m,x,S')->∃T',m6 T e acc l=some (m,x,T')/\eW F S' T'/\T'.length=S'.length
 | [],acc,S,T,m,x,S',hr,hl,hF,h=>by
  simp only[m6,ay,aJ]at h⊢;obtain⟨rfl,rfl,rfl⟩:=h;exact⟨T,⟨rfl,rfl,rfl⟩,hr,hl⟩
 | (i,v)::l,acc,S,T,m,x,S',hr,hl,hF,h=>by
  simp only[m6]at h⊢;split at h
  .rename_i hi;simp only[bD]at h;obtain⟨⟨m1,x1,S1⟩,h1,h2⟩:=h;obtain⟨T1,k1,k2,k3⟩:=sj _ v hr hl (fun r h=>hF r (by simp[qk,h])) h1;obtain⟨T2,q1,q2,q3⟩:=BE l _ k2 k3 (fun r h=>hF r (by simp only[dn,qk,dw];exact .inr h)) h2;refine⟨T2,?_,q2,q3⟩;rw[aE hi];simp only[bD];exact⟨(m1,x1,T1),k1,q1⟩
  .simp at h
theorem Iy{F:List Nat}{A:aZ}{S T:aD}(hr:eW F S T)(hl:T.length=S.length){d:Option Nat}{site:Nat}{t:Ty}{x y:AV}(hx:∀r∈x.roots,r∈F)(hy:∀r∈y.roots,r∈F){β:Bool} :
  Lk F ((uW A S d site t x y).dec β) ((uW A T d site t x y).dec β):=by
 intro v S' h;unfold uW at h⊢;cases h1:tk S (.sl t) x with
 | none=>rw[h1]at h;simp[Tr.dec]at h
 | some z=>
  obtain⟨m1,xs,S1⟩:=z;obtain⟨T1,k1,k2,k3⟩:=sj _ x hr hl hx h1;rw[h1]at h;rw[k1];cases m1 with
  | own s m=>
   simp only at h⊢;cases h2:tk S1 (.sl t) y with
   | none=>rw[h2]at h;simp[Tr.dec]at h
   | some z=>
    obtain⟨my,ys,S2⟩:=z;obtain⟨T2,q1,q2,q3⟩:=sj _ y k2 k3 hy h2;rw[h2]at h;rw[q1];simp only at h⊢;cases hm:kM my with
    | none=>rw[hm]at h;simp[Tr.dec]at h
    | some m'=>
     rw[hm]at h;simp only at h⊢;split at h
     .rename_i h3;rw[aE h3];simp only[Tr.dec]at h⊢;split at h
      .exact qE q2 q3 v S' h
      .simp at h
     .simp[Tr.dec]at h
  | _=>simp[Tr.dec]at h
theorem Km{F:List Nat}{S T:aD}(hr:eW F S T)(hl:T.length=S.length){t:Ty}{x y:AV}(hx:∀r∈x.roots,r∈F){β:Bool} :
  Lk F ((lf S t x y).dec β) ((lf T t x y).dec β):=by
 intro v S' h;unfold lf at h⊢;split at h
 .rename_i r p s t2 ys;have aP:=hr r (hx r (by simp[AV.roots]))
  try simp only
  rw[aP];cases hR:S.root r with
  | none=>rw[hR]at h;simp[Tr.dec]at h
  | some R=>
   rw[hR]at h;simp only at h⊢;split at h
   .rename_i t' s' m xs hf;split at h
    .rename_i hc;rw[aE hc];split at h
     .rename_i a b r' e1 e2 e3;simp only[Tr.dec]at h⊢;split at h
      .simp only[ay,aJ]at h;obtain⟨rfl,rfl⟩:=h;exact⟨_,rfl,zE hr hl _ _,by simp[aD.aY,hl]⟩
      .simp at h
     .simp[Tr.dec]at h
    .simp[Tr.dec]at h
   .simp[Tr.dec]at h
 .simp[Tr.dec]at h
theorem Jg{F:List Nat}{A:aZ}{S T:aD}(hr:eW F S T)(hl:T.length=S.length){U:Ty}{d:Option Nat}{site:Nat}{x:AV}{lo hi:Option AV}(hx:∀r∈x.roots,r∈F){β:Bool} :
  Lk F ((nK A S U d site x lo hi).dec β) ((nK A T U d site x lo hi).dec β):=by
 intro v S' h;unfold nK at h⊢;split at h
 .split at h
  .simp only[Tr.dec]at h⊢;split at h
   .simp only[ay,aJ]at h;obtain⟨rfl,rfl⟩:=h;rename_i hc;exact⟨T,by simp[hc],hr,hl⟩
   .simp at h
  .simp[Tr.dec]at h
 .split at h
  .split at h
   .rename_i hc;simp only[Tr.dec]at h⊢;rw[aE hc];split at h
    .simp only[ay,aJ]at h;obtain⟨rfl,rfl⟩:=h;rename_i hc;exact⟨T,by simp[Tr.dec,hc],hr,hl⟩
    .simp at h
   .simp[Tr.dec]at h
  .simp[Tr.dec]at h
 .rename_i r p s e;split at h
  .cases h1:tk S (.sl e) (.bu r p s) with
   | none=>rw[h1]at h;simp[Tr.dec]at h
   | some z=>
    obtain⟨m1,xs,S1⟩:=z;obtain⟨T1,k1,k2,k3⟩:=sj _ _ hr hl hx h1;rw[h1]at h;simp only[k1];cases m1 with
    | own s m=>
     simp only at h⊢;split at h
     .split at h
      .rename_i hc;rw[aE hc];simp only[Tr.dec]at h⊢;split at h
       .rename_i hd
        try simp only[hd]
        exact qE k2 k3 v S' h
       .simp at h
      .simp[Tr.dec]at h
     .simp[Tr.dec]at h
    | _=>simp[Tr.dec]at h
  .unfold nL at h⊢;have hf:=tK hr (hx r (by simp[AV.roots])) p;rw[hf];split at h
   .split at h
    .rename_i hq
     try simp only[hq]
     split at h
     .rename_i hc;rw[aE hc];simp only[Tr.dec]at h⊢;split at h
      .simp only[ay,aJ]at h;obtain⟨rfl,rfl⟩:=h;rename_i hd;exact⟨T,by simp[hd],hr,hl⟩
      .simp at h
     .simp[Tr.dec]at h
    .simp[Tr.dec]at h
   .simp[Tr.dec]at h
 .simp[Tr.dec]at h
theorem BD{F:List Nat}{A:aZ}{S T:aD}(hr:eW F S T)(hl:T.length=S.length){d:Option Nat}{site:Nat}:∀(rs:List RK)(r:dU rs){β:Bool},Lk F ((ig A S d site rs r).dec β) ((ig A T d site rs r).dec β)
 | [],r,β=>by
  intro v S' h;simp only[ig,Tr.dec,ay,aJ]at h⊢;obtain⟨rfl,rfl⟩:=h;exact⟨T,⟨rfl,rfl⟩,hr,hl⟩
 | [.val t m],r,β=>by
  intro v S' h;simp only[ig]at h⊢;split at h
  .rename_i hs;rw[aE hs];split at h
   .rename_i hc;rw[aE hc];simp only[Tr.dec,ay,aJ]at h⊢;obtain⟨rfl,rfl⟩:=h;exact⟨T,⟨rfl,rfl⟩,hr,hl⟩
   .simp[Tr.dec]at h
  .rename_i hs;rw[ax hs];split at h
   .rename_i hc;rw[aE hc];exact qE hr hl v S' h
   .simp[Tr.dec]at h
 | [.ptr t m],r,β=>by
  intro v S' h;simp only[ig]at h⊢;split at h
  .rename_i hc;rw[aE hc];exact qE hr hl v S' h
  .simp[Tr.dec]at h
 | q1::q2::rs,r,β=>by
  intro v S' h;have e:∀S:aD,ig A S d site (q1::q2::rs) r=tX A S d site (q1::q2::rs) r:=by intro S;cases q1<;>simp only[ig]
  rw[e]at h⊢;unfold tX at h⊢;split at h
  .rename_i hc;rw[aE hc];cases d with
   | none=>simp only[Tr.dec,ay,aJ]at h⊢;obtain⟨rfl,rfl⟩:=h;exact⟨T,⟨rfl,rfl⟩,hr,hl⟩
   | some d=>
    simp only at h⊢;cases hL:b8 A S (some d) site (fN (q1::q2::rs)) (kF (q1::q2::rs)) (gq (q1::q2::rs) r) false with
    | ret z=>
     obtain⟨v1,S1⟩:=z;rw[hL]at h;simp only[Tr.dec,ay,aJ]at h;obtain⟨rfl,rfl⟩:=h;obtain⟨T1,k1,k2,k3⟩:=qE (A:=A) (d:=some d) (site:=site) (t:=fN (q1::q2::rs)) (m:=kF (q1::q2::rs)) (x:=gq (q1::q2::rs) r) (mem:=false) (β:=true) hr hl v1 S1 (by rw[hL];rfl);cases hM:b8 A T (some d) site (fN (q1::q2::rs)) (kF (q1::q2::rs)) (gq (q1::q2::rs) r) false with
     | ret z=>obtain⟨v2,S2⟩:=z;rw[hM]at k1;simp only[Tr.dec,ay,aJ]at k1;obtain⟨rfl,rfl⟩:=k1;exact⟨_,rfl,k2,k3⟩
     | fail=>rw[hM]at k1;simp[Tr.dec]at k1
     | _=>
      exfalso;simp only[b8]at hM
      repeat' split at hM
      all_goals simp at hM
    | _=>rw[hL]at h;simp[Tr.dec]at h
  .simp[Tr.dec]at h
section
variable {C:Ctx} {D:Den C}
theorem nI{S T:aD}:∀(ks:List PK)(au:List AV),ks.all PK.loc=true->dP T ks au=(dP S ks au).map fun z=>(z.1,T)
 | [],[],_=>rfl
 | [],_::_,_=>rfl
 | k::ks,[],_=>by cases k<;>rfl
 | k::ks,a::au,h=>by
  simp only[eU,aO]at h;cases k with
  | val t=>simp only[dP];exact nI ks au h.2
  | bP t=>simp only[dP];exact nI ks au h.2
  | bS t m m'=>simp only[dP];exact nI ks au h.2
  | fn=>simp only[dP];exact nI ks au h.2
  | _=>simp[PK.loc]at h
theorem KG{S rt:aD}{ks:List PK}{au:List AV}{g:fP ks}(hp:ks.all PK.loc=true)(h:dP S ks au=some (g,rt)):rt=S:=by have:=nI (S:=S) (T:=S) ks au hp;rw[h]at this;simp only[cr,ay,aJ,nN]at this;exact this
theorem pH{F:List Nat}:∀(ks:List PK)(au:List AV){S T:aD}{o:bV ks}{S':aD},eW F S T->T.length=S.length->ks.all PK.loc=true->(∀r∈qk au,r∈F)->eC S ks au=some (o,S')->
  ∃T',eC T ks au=some (o,T')/\eW F S' T'/\T'.length=S'.length
 | [],[],S,T,o,S',hr,hl,_,_,h=>by
  simp only[eC,ay,aJ]at h;obtain⟨_,rfl⟩:=h;exact⟨T,rfl,hr,hl⟩
 | [],_::_,S,T,o,S',hr,hl,_,_,h=>by simp[eC]at h
 | k::ks,[],S,T,o,S',hr,hl,_,_,h=>by cases k<;>simp[eC]at h
 | k::ks,a::au,S,T,o,S',hr,hl,hp,hF,h=>by
  simp only[eU,aO]at hp;have nq:∀r∈qk au,r∈F:=fun r h=>hF r (by simp[qk,h]);cases k with
  | val t=>simp only[eC]at h⊢;exact pH ks au hr hl hp.2 nq h
  | bP t=>simp only[eC]at h⊢;exact pH ks au hr hl hp.2 nq h
  | fn=>simp only[eC]at h⊢;exact pH ks au hr hl hp.2 nq h
  | bS t m m'=>
   cases a with
   | addr q p=>
    cases p with
    | nil=>
     have hq:=hr q (hF q (by simp[qk,AV.roots]));simp only[eC]at h⊢;rw[hq];cases hR:S.root q with
     | none=>rw[hR]at h;simp at h
     | some R=>
      rw[hR]at h;simp only at h⊢;split at h
      .rename_i hc;rw[aE hc];simp only[bD,ay,aJ]at h⊢;obtain⟨x,hx,⟨o2,S2⟩,h2,rfl,rfl⟩:=h;obtain⟨T2,q1,q2,q3⟩:=pH ks au (zE hr hl q none) (by simp[aD.aY,hl]) hp.2 nq h2;exact⟨T2,⟨x,hx,(o2,T2),q1,rfl,rfl⟩,q2,q3⟩
      .simp at h
    | cons _ _=>simp[eC]at h
   | _=>simp[eC]at h
  | _=>simp[PK.loc]at hp
theorem pN{F:List Nat}{site:Nat}:∀(ks:List PK)(au:List AV)(o:bV ks){S T:aD}{S':aD},eW F S T->T.length=S.length->ks.all PK.loc=true->dY S site ks au o=some S'->
  ∃T',dY T site ks au o=some T'/\eW F S' T'/\T'.length=S'.length
 | [],[],o,S,T,S',hr,hl,_,h=>by
  simp only[dY,ay]at h;subst h;exact⟨T,rfl,hr,hl⟩
 | [],_::_,o,S,T,S',hr,hl,_,h=>by simp[dY]at h
 | k::ks,[],o,S,T,S',hr,hl,_,h=>by cases k<;>simp[dY]at h
 | k::ks,a::au,o,S,T,S',hr,hl,hp,h=>by
  simp only[eU,aO]at hp;cases k with
  | val t=>simp only[dY]at h⊢;exact pN ks au o hr hl hp.2 h
  | bP t=>simp only[dY]at h⊢;exact pN ks au o hr hl hp.2 h
  | fn=>simp only[dY]at h⊢;exact pN ks au o hr hl hp.2 h
  | bS t m m'=>
   cases a with
   | addr q p=>
    cases p with
    | nil=>
     simp only[dY]at h⊢;split at h
     .rename_i hc;rw[aE hc];exact pN ks au o.2 (zE hr hl q _) (by simp[aD.aY,hl]) hp.2 h
     .simp at h
    | cons _ _=>simp[dY]at h
   | _=>simp[dY]at h
  | _=>simp[PK.loc]at hp
theorem Bn{F:List Nat}{A:aZ}{S T:aD}(hr:eW F S T)(hl:T.length=S.length){d:Option Nat}{site:Nat}{g:FuncId}{au:List AV}(hp:(C.sig g).params.all PK.loc=true)(has:∀r∈qk au,r∈F){β:Bool} :
  Lk F ((l5 C D A S d site g au).dec β) ((l5 C D A T d site g au).dec β):=by
 intro v S' h;unfold l5 at h⊢;rw[nI (S:=S) (T:=T) _ _ hp];cases h1:dP S (C.sig g).params au with
 | none=>rw[h1]at h;simp[Tr.dec]at h
 | some z=>
  obtain⟨gd,S1⟩:=z;obtain rfl:=KG hp h1;rw[h1]at h;simp only[cr]at h⊢;cases h2:eC S1 (C.sig g).params au with
  | none=>rw[h2]at h;simp[Tr.dec]at h
  | some z=>
   obtain⟨od,S2⟩:=z;obtain⟨T2,k1,k2,k3⟩:=pH _ _ hr hl hp has h2;rw[h2]at h;simp only[k1]at h⊢;rw[rG _ _ _ _ (k2.sub has)];cases h3:fH S2 (C.sig g).params au gd od with
   | none=>rw[h3]at h;simp[Tr.dec]at h
   | some aa=>
    rw[h3]at h;simp only at h⊢;split at h
    .rename_i hc;rw[aE hc];simp only[Tr.dec]at h⊢;cases hD:D g aa with
     | none=>rw[hD]at h;simp at h
     | some rr=>
      rw[hD]at h;simp only[bX]at h⊢;split at h
      .rename_i hn;rw[aE hn];exact BD hr hl _ _ v S' h
      .rename_i hn;rw[ax hn];split at h
       .rename_i hfr;rw[aE hfr];simp only[Tr.dec]at h⊢;split at h
        .rename_i hlo;cases ho:dY S1 site (C.sig g).params au rr.2 with
         | none=>rw[ho]at h;simp[Tr.dec]at h
         | some S3=>obtain⟨T3,q1,q2,q3⟩:=pN _ _ _ hr hl hp ho;rw[ho]at h;simp only at h;obtain⟨T',r1,r2,r3⟩:=BD q2 q3 _ _ v S' h;exact⟨T',by rw[q1];exact r1,r2,r3⟩
        .simp at h
       .simp[Tr.dec]at h
    .simp[Tr.dec]at h
theorem xu{F:List Nat}:∀(ks:List PK)(au:List AV){S T:aD}{z:List AV}{S':aD},eW F S T->T.length=S.length->(∀r∈qk au,r∈F)->gN S ks au=some (z,S')->
  ∃T',gN T ks au=some (z,T')/\eW F S' T'/\T'.length=S'.length/\∀r∈qk z,r∈F
 | [],[],S,T,z,S',hr,hl,hF,h=>by
  simp only[gN,ay,aJ]at h;obtain⟨rfl,rfl⟩:=h;exact⟨T,rfl,hr,hl,hF⟩
 | [],_::_,S,T,z,S',hr,hl,hF,h=>by simp[gN]at h
 | k::ks,[],S,T,z,S',hr,hl,hF,h=>by cases k<;>simp[gN]at h
 | k::ks,a::au,S,T,z,S',hr,hl,hF,h=>by
  have Oe:∀r∈a.roots,r∈F:=fun r hr=>hF r (by simp[qk,hr]);have jN:∀r∈qk au,r∈F:=fun r hr=>hF r (by simp[qk,hr]);have plain:(gN S ks au).map (fun z=>(a::z.1,z.2))=some (z,S')->∃T',(gN T ks au).map (fun z=>(a::z.1,z.2))=some (z,T')/\eW F S' T'/\T'.length=S'.length/\∀r∈qk z,r∈F:=by
   intro h;simp only[c5,aJ]at h;obtain⟨⟨z1,S1⟩,h1,rfl,rfl⟩:=h;obtain⟨T1,e1,e2,e3,e4⟩:=xu ks au hr hl jN h1;refine⟨T1,by rw[e1];rfl,e2,e3,fun r hr=>?_⟩;simp only[qk,dw]at hr;rcases hr with hr | hr
   .exact Oe r hr
   .exact e4 r hr
  cases k with
  | val t=>
   simp only[gN]at h⊢;split at h
   .rename_i hs;rw[aE hs];exact plain h
   .rename_i hs;rw[ax hs];cases h1:tk S t a with
    | none=>rw[h1]at h;simp at h
    | some q=>
     obtain⟨m,y,S1⟩:=q;obtain⟨T1,k1,k2,k3⟩:=sj _ _ hr hl Oe h1;rw[h1]at h;rw[k1];simp only at h⊢;split at h
     .rename_i hm;rw[aE hm];simp only[c5,aJ]at h;obtain⟨⟨z1,S2⟩,h2,rfl,rfl⟩:=h;obtain⟨T2,e1,e2,e3,e4⟩:=xu ks au k2 k3 jN h2;refine⟨T2,by rw[e1];rfl,e2,e3,fun r hr=>?_⟩;simp only[qk,dw,AV.roots,List.not_mem_nil,false_or]at hr;exact e4 r hr
     .simp at h
  | _=>simp only[gN]at h⊢;exact plain h
theorem KJ{F:List Nat}{A:aZ}{ρ:Operand->AV}{S T:aD}(hr:eW F S T)(hl:T.length=S.length){site:Nat}{hint:Bool}{o:Oper}(hlc:nZ C ρ o=true)
  (hF:∀r∈qk (o.op.operands.toList.map ρ),r∈F) {β:Bool}:Lk F ((aS C D A ρ S site hint o).dec β) ((aS C D A ρ T site hint o).dec β):=by
 have hin:∀{x:Operand},x∈o.op.operands->∀r∈(ρ x).roots,r∈F:=fun hx r hr=>hF r (HV (fZ.2 ⟨_,by simpa using hx,rfl⟩) r hr);intro v S' h;cases ho:o.op with
 | alloc t=>
  simp only[aS,ho]at h⊢;split at h
  .rename_i hc;rw[aE hc];exact qE hr hl v S' h
  .simp[Tr.dec]at h
 | box t x=>
  have hx:=hin (x:=x) (by rw[ho];simp[Op.operands]);simp only[aS,ho]at h⊢;split at h
  .rename_i hc;rw[aE hc];cases h1:tk S (C.ty t) (ρ x) with
   | none=>rw[h1]at h;simp[Tr.dec]at h
   | some z=>
    obtain⟨m,y,S1⟩:=z;obtain⟨T1,k1,k2,k3⟩:=sj _ _ hr hl hx h1;rw[h1]at h;rw[k1];simp only at h⊢;split at h
    .rename_i hh;rw[aE hh];split at h
     .rename_i hm;rw[aE hm];exact qE k2 k3 v S' h
     .simp[Tr.dec]at h
    .rename_i hh;rw[ax hh];exact qE k2 k3 v S' h
  .simp[Tr.dec]at h
 | build t ps=>
  simp only[aS,ho]at h⊢;split at h
  .rename_i hc;rw[aE hc];cases h1:jT S (C.ty t) (Mk.rR hint (C.ty t),(C.ty t).zero) (ps.toList.map fun p=>(p.1,ρ p.2)) with
   | none=>rw[h1]at h;simp[Tr.dec]at h
   | some z=>obtain⟨m,y,S1⟩:=z;obtain⟨T1,k1,k2,k3⟩:=C6 _ _ hr hl (fun r hr=>by rw[EH]at hr;exact hF r (by rw[ho];simpa [Op.operands] using hr)) h1;rw[h1]at h;rw[k1];exact qE k2 k3 v S' h
  .simp[Tr.dec]at h
 | buildSlice t n ps=>
  simp only[aS,ho]at h⊢;split at h
  .rename_i e he;cases h1:m6 S e (Mk.top e,List.replicate n e.zero) (ps.toList.map fun p=>(p.1,ρ p.2)) with
   | none=>rw[h1]at h;simp[Tr.dec]at h
   | some z=>
    obtain⟨m,y,S1⟩:=z;obtain⟨T1,k1,k2,k3⟩:=BE _ _ hr hl (fun r hr=>by rw[EH]at hr;exact hF r (by rw[ho];simpa [Op.operands] using hr)) h1;rw[h1]at h;simp only[k1];simp only at h;split at h
    .rename_i hc;rw[aE hc];split at h
     .rename_i hh;rw[aE hh];split at h
      .rename_i hm;rw[aE hm];simp only[Tr.dec,ay,aJ]at h⊢;obtain⟨rfl,rfl⟩:=h;exact⟨T1,⟨rfl,rfl⟩,k2,k3⟩
      .simp[Tr.dec]at h
     .rename_i hh;rw[ax hh];exact qE k2 k3 v S' h
    .simp[Tr.dec]at h
  .simp[Tr.dec]at h
 | makeSlice t x y=>
  simp only[aS,ho]at h⊢;split at h
  .simp only[Tr.dec]at h⊢;split at h
   .rename_i hc
    try simp only[hc]
    exact qE hr hl v S' h
   .simp at h
  .simp[Tr.dec]at h
 | slice t x lo hi mx=>
  cases mx with
  | none=>have hx:=hin (x:=x) (by rw[ho];simp[Op.operands]);simp only[aS,ho]at h⊢;exact Jg hr hl hx v S' h
  | some _=>simp[nZ,ho]at hlc
 | call c=>
  simp only[nZ,ho]at hlc;cases hc:c.callee with
  | builtin b=>
   rw[hc]at hlc;cases b<;>simp only[cL]at hlc;have hargs:∀x∈c.args,∀r∈(ρ x).roots,r∈F:=fun x hx=>hin (by rw[ho];simp only[Op.operands,Call.operands,mQ];right;simpa using hx);simp only[aS,ho,hc]at h⊢;split at h
   .exact Builtin.noConfusion ‹Builtin.append=Builtin.len›
   .exact Builtin.noConfusion ‹Builtin.append=Builtin.len›
   .rename_i x y t t' ts e1 e2 e3;have hm:∀z∈c.args.toList.map ρ,∀r∈z.roots,r∈F:=by intro z hz;obtain⟨w,hw,rfl⟩:=fZ.1 hz;exact hargs w (by simpa using hw)
    rw[e2]at hm
    try simp only[e2,e3]
    split at h
    .rename_i ht;rw[aE ht];split at h
     .rename_i hh;rw[aE hh];exact Km hr hl (hm x (by simp)) v S' h
     .rename_i hh;rw[ax hh];exact Iy hr hl (hm x (by simp)) (hm y (by simp)) v S' h
    .simp[Tr.dec]at h
   .exact Builtin.noConfusion ‹Builtin.append=Builtin.clear›
   .exact Builtin.noConfusion ‹Builtin.append=Builtin.copy›
   .exact Builtin.noConfusion ‹Builtin.append=Builtin.min›
   .exact Builtin.noConfusion ‹Builtin.append=Builtin.max›
   .simp[Tr.dec]at h
  | value f=>
   rw[hc]at hlc;simp only at hlc;cases hf:ρ f with
   | eV g caps=>
    rw[hf]at hlc;simp only at hlc;have hall:∀r∈qk (c.args.toList.map ρ++ij caps),r∈F:=?_
    .rw[aO]at hlc;obtain⟨hst,hlc⟩:=hlc;have hst:∀b,¬ (C.jB g&&b)=true:=fun b q=>by rw[aO]at q;rw[q.1]at hst;cases hst
     simp only[aS,ho,hc,hf,k_,ax (hst _)]at h⊢;split at h
     .rename_i lW;rw[aE lW];cases h1:gN S (C.sig g).params (c.args.toList.map ρ++ij caps) with
      | none=>rw[h1]at h;simp[Tr.dec]at h
      | some q=>obtain⟨z1,S1⟩:=q;obtain⟨T1,e1,e2,e3,e4⟩:=xu _ _ hr hl hall h1;rw[h1]at h;rw[e1];exact Bn e2 e3 hlc e4 v S' h
     .rename_i lW;rw[ax lW];exact Bn hr hl hlc hall v S' h
    intro r hr;rw[NV]at hr;rcases hr with hr | hr
    .refine hF r ?_;rw[ho];simp only[Op.operands,Call.operands,hc];have:∀l:List AV,∀a,r∈qk l->r∈qk (a::l):=fun l a h=>by simp[qk,h]
     simpa using this _ _ hr
    .have:=FH caps r hr;exact hin (x:=f) (by rw[ho];simp[Op.operands,Call.operands,hc]) r (by rw[hf];simpa [AV.roots] using this)
   | _=>rw[hf]at hlc;simp at hlc
  | invoke r m=>rw[hc]at hlc;simp at hlc
 | _=>simp[nZ,ho]at hlc
end
end
end Go.V

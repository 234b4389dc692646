import Derived.Test.YtpmimbgkiindbaaGreatAV1
set_option linter.unusedVariables false
set_option linter.unusedSimpArgs false
set_option linter.unusedSectionVars false
namespace Go.V
open Go
theorem NJ{h:Array Obj}{S:St}{g:aA}{tmps:Array Value}{H:BS}(st:aE h S g tmps H)(q:Nat):Kp h S g (S.aI q none) g:=by
 have bK:∀r',(S.aI q none).root r'=S.root r'\/(S.aI q none).root r'=none:=by intro r';rw[St.b7];by_cases e:r'=q/\q<S.rt.length<;>simp[e]
 intro u v y;refine(qe.keep (Sub.refl _) (fun _ _=>rfl) u).1 v y (AV.ej (fun r p=>?_) (fun r p s=>?_) u)
 .exact(nR st (bK r) rfl rfl (fun _ _ _=>rfl)).1 p
 .exact(nR st (bK r) rfl rfl (fun _ _ _=>rfl)).2 p s
theorem aaH{h h2:Array Obj}{t:Ty}{x y:t.den}{m2:Mk}{c c2:List Value}{base:fI}{site:Nat}(hf:m2.fresh site (site+1)) :
  ∀p' t1 n1,jH site (site+1) p'=true->q8 t m2 p'=some (t1,n1)->bw t x p'->bw t y p'/\∀bp cp,cv h t c base p'=some (bp,cp)->
   ∃iR,cv h2 t c2 base p'=some (bp,iR)/\(∀s a,n1=.own s a->¬ (site<=s/\s<site+1)->iR=cp):=by
 intro p' t1 n1 hp gY _;obtain⟨hi',zC⟩:=Dm p' hf hp gY;refine⟨zR _ _ hi' gY,fun bp cp ha=>?_⟩;obtain⟨iR,h3⟩:=Jg (h':=h2) p' _ c2 _ hi' ha;exact⟨iR,h3,fun s a' e hs=>by subst e;exact absurd zC hs⟩
section
variable {P:Program} {C:Ctx} {D:Den C} {S:St} {g:aA} {w:World} {tmps:Array Value}
variable {A:bY} {site:Nat} (dy:ow P C D) (st:aE w.heap S g tmps Nil)
include dy st
theorem aaF{f:FuncId}{aJ:List AV}{vs:List Value}{d:Option Nat}(ok:nO A S d site)(hfr:site<1048576/\∀u,(S.get u).aR site (site+1)=true)
  (ha:l_ w.heap S g aJ vs) (XZ:(C.sig f).params.all (fun k=>!k.mh)=true) {gd:js (C.sig f).params} (h1:fZ S.rt (C.sig f).params aJ=some (gd,S.rt))
  {od:dG (C.sig f).params} {fk:aP} {n:Nat} {v0:Value} {q:Nat} {t:Ty} {m m':Mk} {R:aC} {x:t.den} (rM:qe w.heap S g (.addr q []) v0)
  (L:wH w.heap (C.sig f).params aJ vs S.rt fk od n v0 q t m m' R x) {a:gf (C.sig f).params} (h3:ji fk (C.sig f).params aJ gd od=some a)
  (hs:mL (C.sig f).params aJ=true\/(C.sig f).full=true) {r:f8 (C.sig f).res×dG (C.sig f).params} (hD:D f a=some r) {β:Bool} {v:AV} {zd rt':aP}
  (ho:gb S.rt site (C.sig f).params aJ r.2=some zd) (he:(mA A zd d site (C.sig f).res r.1).dec β=some (v,rt')) :
  Calls P f vs.toArray w fun e w'=>∃val,e=.returned val/\Post S g w tmps v rt' val w':=by
 have hR:=L.root;have bP:(S.root q).isSome:=by show(S.rt.root q).isSome=true;rw[hR];rfl
 obtain⟨e1,e2⟩:=Dt L.cast;obtain⟨Rt,Rm,Rx,W1⟩:=R;simp only at e1 e2;subst e1;simp only at e2;subst e2;have hmem:W1=true:=L.mem;subst hmem;obtain⟨base,c,F,q1,q2,q3,q4,q5,q6⟩:=st.m6 hR (Mx Rt Rm Rx) (xW _ _);simp only[qe]at rM;obtain⟨_,b,off,c',eu,KZ⟩:=rM _ hR _ (Mx _ _ _);rw[ET]at eu q1;simp only[aK,aY]at eu q1;obtain⟨bQ,gw⟩:=q1;obtain⟨Lj,hb4⟩:=eu;obtain⟨F00,_,_,_,mW,_⟩:=st.roots q _ hR;obtain⟨b0,hB,hGb,xg⟩:=mW rfl;have hbase:g.base q=some (b0,0):=by simp[aA.base,hB]
 rw[hbase]at bQ Lj;simp only[aK,aY]at Lj;obtain⟨rfl,rfl⟩:=Lj;subst bQ;subst gw;obtain⟨rN,_⟩:=q4 b0 0 rfl;obtain⟨F1,F2,s1,s2,s3,s4⟩:=az.aQ Rt L.UK q2;have pg:=(st.gD bP).cR F2 (fun z hz=>.inr (q3 z (s2 z hz)))
 let g2:aA:={ g with Pr:=Un g.Pr F2 }
 have Av:Kp w.heap S g (S.aI q none) g2:=(NJ st q).trans (JZ (st.gD bP) F2)
 let Fs:Nat->BS:=fun j=>if j=n then (fun z=>z=b0\/F1 z) else Nil
 have pZ:∀i,Sub (Fs i) (fun z=>(Nil z\/g.G q z)/\¬ F2 z):=by
  intro i z hz;simp only[Fs]at hz;split at hz
  .rcases hz with rfl | hz
   .exact⟨.inr hGb,fun h=>rN (s2 _ h)⟩
   .exact⟨.inr (q3 z (s1 z hz)),fun h=>s3 z hz h⟩
  .exact hz.elim
 have e2:fk=(S.aI q none).rt:=L.fk;subst e2;obtain⟨gg1,HH1,FF,kk⟩:=Ck (sl:=S.sl) (C.sig f).params aJ vs S.rt g Nil 0 gd S.rt ha st h1;have hG:=E0 (h2:=w.heap) (gh:=g2.Pr) (pR:=Fs) (C.sig f).params 0 XZ kk.2.2.2.2.1;have hL:=L.ls g2.Pr Fs 0 (by
  simp only[kC,Fs,aX];exact⟨b0,g.C q,F1,KZ,s4,xg,.inl rfl,fun z hz=>.inr hz,fun h=>rN (s1 _ h)⟩)
 have hps:=yJ pg (sh:=mL (C.sig f).params aJ) (Fs:=Fs) (C.sig f).params aJ vs 0 gd od a (fun h=>h) (ha.kp Av) hG hL h3;have D_:∀i j,i≠j->cC (Fs i) (Fs j):=by
  intro i j hij z h1 h2;simp only[Fs]at h1 h2;split at h1
  .split at h2
   .omega
   .exact h2
  .exact h1
 have pre:Pre w.heap (Seen (mL (C.sig f).params aJ) (S.aI q none) g2) Fs (C.sig f).params a vs:=
  ⟨hps,D_,fun i z hz=>Bh pg _ z (pZ i z hz),fun i z hz=>pg.ew z (pZ i z hz),Bi pg _⟩
 refine(dy.ok f a r hD w _ Fs vs pre).mono ?_;rintro e w' ⟨val,fN,Gs,Os,us,rfl,p⟩;obtain⟨y,hy1,EF⟩:=L.out r.2;obtain⟨w9,rfl⟩:=hy1 S.rt site zd ho;obtain⟨b2,c2,US,DZ,jU,ur,Xi,wQ,hnb⟩:=EF _ _ _ _ p.out;rw[kC]at Xi wQ;rw[KZ]at DZ;simp only[Value.pointer.injEq,aK,Addr.mk.injEq,iQ]at DZ;subst DZ;have jd:∀z,tX w.heap.size Fs z->w.heap.size<=z\/z=b0\/F1 z:=by
  rintro z (h | ⟨i,h⟩)
  .exact .inl h
  .simp only[Fs]at h;split at h
   .exact .inr h
   .exact h.elim
 let Dd:BS:=fun z=>mL (C.sig f).params aJ=true/\fN z/\¬ g.Pr z
 have Xe:∀z,Dd z->F z\/Nil z\/w.heap.size<=z:=by
  rintro z ⟨hsh,h1,h2⟩;rcases p.kZ z h1 with h3 | h3
  .rw[hsh]at h3;simp only[Seen,aX]at h3;rcases h3 with h3 | h3
   .exact absurd h3 h2
   .exact .inl (s2 z h3)
  .rcases jd z h3 with h4 | rfl | h4
   .exact .inr (.inr h4)
   .exact(p.op n z Xi h1).elim
   .exact .inl (s1 z h4)
 have Xf:∀z,US z->F z\/Nil z\/w.heap.size<=z:=by
  intro z hz;rcases jd z (p.oL n z (wQ z hz)) with h4 | rfl | h4
  .exact .inr (.inr h4)
  .exact(hnb hz).elim
  .exact .inl (s1 z h4)
 have hfull:mL (C.sig f).params aJ=false->(C.sig f).full=true:=fun h=>hs.resolve_left (by rw[h];simp);have zb:az w'.heap (Un g.Pr Dd) Rt (m'.stamp site) y c2 US:=by
  refine(az.stamp site _).1 ?_;cases hsh:mL (C.sig f).params aJ with
  | true=>
   refine az.mono (fun z hz=>?_) (fun _ _=>rfl) _ jU (Sub.refl _) (fun _ _=>rfl);by_cases h1:g.Pr z
   .exact .inl h1
   .exact .inr ⟨hsh,hz,h1⟩
  | false=>have h5:=hfull hsh;simp only[wK.full,bI]at h5;exact az.lS _ (L.full h5.1) jU
 have nQ:(g.C q).length=Rt.width:=az.width _ q2;have iK:=az.width _ jU;have kQ:(m'.stamp site).fresh site (site+1):=Mk.dP site w9;obtain⟨g',k1,k2,k3,k4,k5,k6,k7⟩:=q6 site (site+1) w'.heap (m'.stamp site) y c2 US Dd (m'.stamp site) y hfr.2
  (fun z hz An hbz=>p.fr.block z hz (fun h=>by
   rcases jd z h with h4 | rfl | h4
   .omega
   .exact hbz 0 rfl
   .exact An (s1 z h4)))
  p.fr.size
  (by
   intro b o e cs hcs;simp only[aK,aY]at e;obtain⟨rfl,rfl⟩:=e;obtain rfl:=jy.uniq xg hcs;exact⟨c2.toArray,ur,by rw[List.toList_toArray,List.toList_toArray];exact(A4 (by omega)).symm⟩)
  zb (fun z h1 h2=>p.op n z (wQ z h2) h1.2.1) (fun z hz=>hz.elim (Xf z) (Xe z))
  (fun z hz=>hz.elim (fun h=>p.Az n z (wQ z h)) (fun h=>p.AD z h.2.1))
  (by simp[put,qbv]) (Mk.eR _ kQ) (aL.ax _ (Mk.cO hfr.1 w9)) (fun h=>by simp[qx]at h) (aaH kQ)
 have hres:lu w'.heap g'.Pr Gs 0 (C.sig f).res r.1 us:=by
  refine lu.conv _ 0 ?_ p.res;cases hsh:mL (C.sig f).params aJ with
  | true=>
   refine .inl (fun z hz=>?_);by_cases h1:g.Pr z
   .exact k2 z h1
   .exact k3 z ⟨hsh,hz,h1⟩
  | false=>have h5:=hfull hsh;simp only[wK.full,bI]at h5;exact .inr h5.2
 have Xh:∀i,Sub (Gs i) (fun z=>(Nil z\/F z\/(w.heap.size<=z/\z<w'.heap.size))/\¬ (US z\/Dd z)):=by
  intro i z hz;refine⟨?_,?_⟩
  .rcases jd z (p.gL i z hz) with h4 | rfl | h4
   .exact .inr (.inr ⟨h4,p.wP i z hz⟩)
   .exact(p.go i n z hz Xi).elim
   .exact .inr (.inl (s1 z h4))
  .rintro(h | h)
   .exact p.go i n z hz (wQ z h)
   .exact p.gp i z hz h.2.1
 obtain⟨g4,t1,t2,t3⟩:=GZ (S:=S) k1 Xh p.Aa ok (C.sig f).res hres he;refine⟨val,rfl,g4,t1,by rw[p.val];exact t2,k4.trans t3,p.fr.mono ?_⟩;intro z hz h;rcases jd z h with h4 | rfl | h4
 .omega
 .exact st.own q _ bP hGb
 .exact st.own q _ bP (q3 z (s1 z h4))
end
theorem ac2{h:Array Obj}{S:St}{g:aA}{q:Nat}{R:aC}(hR:S.root q=some R):∀(t:Ty){a:AV}{p:Path}{md:Mk}{xd:t.den}{z:Mk×t.den}{cu:List Value}{rp:Nat×Path},
  focus R.ty R.ms R.x p=some ⟨t,md,xd⟩->dg h S g a cu->kj q t a p md xd=some z->vi a p=true->kF a=some rp->bw R.ty R.x p:=by
 intro t
 induction t with
 | pair ta tb fU kS=>
  intro a p md xd z cu rp hf hc hl kE hp;cases a with
  | pair u v=>
   simp only[kj,cM]at hl;obtain⟨y,hy,z',hz,-⟩:=hl;simp only[dg]at hc;obtain⟨ca,cb,-,h1,h2⟩:=hc;simp only[vi,bI]at kE;cases hu:kF u with
   | some rp'=>have:=fU (by rw[vc p _ hf];simp[focus]) h1 hy kE.1 hu;exact((yQ p _ hf).1 this).1
   | none=>
    cases hv:kF v with
    | some rp'=>have:=kS (by rw[vc p _ hf];simp[focus]) h2 hz kE.2 hv;exact((yQ p _ hf).1 this).1
    | none=>simp[kF,hu,hv]at hp
  | b8 r' p' s=>simp[kj]at hl
  | _=>simp[kF]at hp
 | sl e ih=>
  intro a p md xd z cu rp hf hc hl kE hp;cases a with
  | pair u v=>simp[kj]at hl
  | b8 r' p' s=>
   simp only[kj]at hl;cases md with
   | own s' m0=>
    simp only at hl;split at hl
    .rename_i n4;obtain⟨rfl,rfl⟩:=n4;simp only[vi,gT]at kE;subst kE;simp only[dg]at hc;obtain⟨v,rfl,hb⟩:=hc;exact(hb R hR _ _ _ hf).1
    .simp at hl
   | _=>simp at hl
  | _=>simp[kF]at hp
 | _=>
  intro a p md xd z cu rp hf hc hl kE hp;cases a with
  | pair u v=>simp[kj]at hl
  | b8 r' p' s=>simp[kj]at hl
  | _=>simp[kF]at hp
theorem S9{h:Array Obj}{S:St}{g:aA}{q:Nat}{R:aC}(hR:S.root q=some R):∀(t:Ty){a:AV}{p:Path}{md:Mk}{xd:t.den}{mx:Mk}{x:t.den}{c cu:List Value}{base:fI}{F:BS},
  focus R.ty R.ms R.x p=some ⟨t,md,xd⟩->cv h R.ty (g.C q) (g.base q) p=some (base,c)->az h g.Pr t md xd c F->dg h S g a cu->
  kj q t a p md xd=some (mx,x)->vi a p=true->az h g.Pr t mx x cu F:=by
 intro t;have hval:∀(t:Ty)(t':Ty)(x':t'.den)(md:Mk)(mx:Mk)(x:t.den)(cu:List Value)(F:BS),
   (if md.still=true then (qbv t' t x').bind fun y=>some (Mk.no,y) else none)=some (mx,x)->az h g.Pr t' .no x' cu Nil->az h g.Pr t mx x cu F:=by
  intro t t' x' md mx x cu F hl hr;split at hl
  .simp only[cM,aK,aY]at hl;obtain⟨y,hy,rfl,rfl⟩:=hl;exact(az.cast hy hr).2.room _ (Sub.nil _)
  .simp at hl
 induction t with
 | pair ta tb fU kS=>
  intro a p md xd mx x c cu base F hf ha r hc hl kE;cases a with
  | pair u v=>simp only[kj,cM,aK,aY]at hl;obtain⟨y,hy,z',hz,rfl,rfl⟩:=hl;simp only[dg]at hc;obtain⟨ca,cb,rfl,h1,h2⟩:=hc;simp only[vi,bI]at kE;simp only[az]at r;obtain⟨da,db,Fa,Fb,rfl,ra,rb,sa,sb,dd⟩:=r;have hw:=az.width _ ra;have e1:=fU (base:=base) (F:=Fa) (c:=da) (by rw[vc p _ hf];simp[focus]) (by rw[vn p _ hf ha];simp only[cv];rw[<-hw,jn rfl]) ra h1 hy kE.1;have e2:=kS (base:=base.map fun x=>(x.1,x.2+ta.width)) (F:=Fb) (c:=db) (by rw[vc p _ hf];simp[focus]) (by rw[vn p _ hf ha];simp only[cv];rw[<-hw,i5 rfl]) rb h2 hz kE.2;simp only[az];exact⟨ca,cb,Fa,Fb,rfl,e1,e2,sa,sb,dd⟩
  | val t' x'=>simp only[kj]at hl;simp only[dg]at hc;exact hval _ _ _ _ _ _ _ _ hl hc
  | _=>simp[kj]at hl
 | sl e ih=>
  intro a p md xd mx x c cu base F hf ha r hc hl kE;cases a with
  | b8 r' p' s=>
   simp only[kj]at hl;cases md with
   | own s' m0=>
    simp only at hl;split at hl
    .rename_i n4;obtain⟨rfl,rfl⟩:=n4;simp only[vi,gT]at kE;subst kE;simp only[dg]at hc;obtain⟨v,rfl,hb⟩:=hc;obtain⟨_,b',eu⟩:=hb R hR _ _ _ hf;rw[eu]at ha;simp only[aK,aY]at ha hl;obtain⟨_,rfl⟩:=ha;obtain⟨rfl,rfl⟩:=hl;exact r
    .simp at hl
   | _=>simp at hl
  | val t' x'=>simp only[kj]at hl;simp only[dg]at hc;exact hval _ _ _ _ _ _ _ _ hl hc
  | _=>simp[kj]at hl
 | unit=>
  intro a p md xd mx x c cu base F hf ha r hc hl kE;cases a with
  | val t' x'=>simp only[kj]at hl;simp only[dg]at hc;exact hval _ _ _ _ _ _ _ _ hl hc
  | unit=>simp only[dg]at hc;subst hc;simp only[az]
  | _=>simp[kj]at hl
 | int k=>
  intro a p md xd mx x c cu base F hf ha r hc hl kE;cases a with
  | val t' x'=>simp only[kj]at hl;simp only[dg]at hc;exact hval _ _ _ _ _ _ _ _ hl hc
  | _=>simp[kj]at hl
 | bool=>
  intro a p md xd mx x c cu base F hf ha r hc hl kE;cases a with
  | val t' x'=>simp only[kj]at hl;simp only[dg]at hc;exact hval _ _ _ _ _ _ _ _ hl hc
  | _=>simp[kj]at hl
 | str=>
  intro a p md xd mx x c cu base F hf ha r hc hl kE;cases a with
  | val t' x'=>simp only[kj]at hl;simp only[dg]at hc;exact hval _ _ _ _ _ _ _ _ hl hc
  | _=>simp[kj]at hl
theorem ab5{h h2:Array Obj}{S:St}{g:aA}{gh:BS}{site q:Nat}{R:aC}(hR:S.root q=some R)(hp:Sub g.Pr gh)(hk:∀b,g.Pr b->h2[b]? = h[b]?) :
  ∀(t:Ty){a:AV}{p:Path}{md:Mk}{xd:t.den}{m mm:Mk}{o yy:t.den}{c cu:List Value}{base:fI}{F Os:BS},
  focus R.ty R.ms R.x p=some ⟨t,md,xd⟩->cv h R.ty (g.C q) (g.base q) p=some (base,c)->az h g.Pr t md xd c F->dg h S g a cu->
  az h2 gh t m o cu Os->(∃z,kj q t a p md xd=some z)->vi a p=true->gG site q t a p md xd m o=some (mm,yy)->
  ∃F1 F2,Sub F1 Os/\Sub F2 Os/\cC F1 F2/\az h2 (fun b=>gh b\/F2 b) t mm yy c F1:=by
 intro t;have hval:∀(t:Ty)(md:Mk)(xd:t.den)(mm:Mk)(yy:t.den)(c:List Value)(F Os:BS),
   (if md.still=true then some (Mk.no,xd) else none)=some (mm,yy)->az h g.Pr t md xd c F->∃F1 F2,Sub F1 Os/\Sub F2 Os/\cC F1 F2/\az h2 (fun b=>gh b\/F2 b) t mm yy c F1:=by
  intro t md xd mm yy c F Os hl hr;split at hl
  .rename_i hs;simp only[aK,aY]at hl;obtain⟨rfl,rfl⟩:=hl;exact⟨Nil,Nil,Sub.nil _,Sub.nil _,cC.nil _,az.mono (fun b hb=>.inl (hp b hb)) hk t (az.eM (F':=Nil) t hs hr) (Sub.refl _) (fun _ h=>h.elim)⟩
  .simp at hl
 induction t with
 | pair ta tb fU kS=>
  intro a p md xd m mm o yy c cu base F Os hf ha r hc ro hle kE hl;cases a with
  | pair u v=>
   simp only[gG,cM,aK,aY]at hl;obtain⟨y,hy,z',hz,rfl,rfl⟩:=hl;simp only[dg]at hc;obtain⟨ca,cb,rfl,h1,tc⟩:=hc;simp only[vi,bI]at kE;simp only[az]at r;obtain⟨da,db,Fa,Fb,rfl,ra,rb,sa,sb,dd⟩:=r;have hw:=az.width _ ra;simp only[az]at ro;obtain⟨ea,eb,Oa,Ob,eo,roa,rob,soa,sob,W5⟩:=ro;have f1:focus R.ty R.ms R.x (p++[.fst])=some ⟨ta,md.fst,xd.1⟩:=by rw[vc p _ hf];simp[focus]
   have f2:focus R.ty R.ms R.x (p++[.snd])=some ⟨tb,md.snd,xd.2⟩:=by rw[vc p _ hf];simp[focus]
   have a1:cv h R.ty (g.C q) (g.base q) (p++[.fst])=some (base,da):=by rw[vn p _ hf ha];simp only[cv];rw[<-hw,jn rfl]
   have a2:cv h R.ty (g.C q) (g.base q) (p++[.snd])=some (base.map fun x=>(x.1,x.2+ta.width),db):=by rw[vn p _ hf ha];simp only[cv];rw[<-hw,i5 rfl]
   obtain⟨zz,hle⟩:=hle;simp only[kj,cM]at hle;obtain⟨zy,hzy,zz,Yx,-⟩:=hle;have jO:ca=ea/\cb=eb:=by
    have w1:=az.width _ roa;have w2:=az.width _ rob;have:ca.length=ea.length:=by rw[w1];exact az.width _ (S9 hR ta f1 a1 ra h1 (mx:=zy.1) (x:=zy.2) hzy kE.1)
    exact List.append_inj eo this
   obtain⟨rfl,rfl⟩:=jO;obtain⟨A1,A2,s1,s2,d1,r1⟩:=fU f1 a1 ra h1 roa ⟨_,hzy⟩ kE.1 hy;obtain⟨B1,B2,s3,s4,d2,r2⟩:=kS f2 a2 rb tc rob ⟨_,Yx⟩ kE.2 hz;refine⟨fun b=>A1 b\/B1 b,fun b=>A2 b\/B2 b,?_,?_,?_,?_⟩
   .rintro z (hz | hz)
    .exact soa z (s1 z hz)
    .exact sob z (s3 z hz)
   .rintro z (hz | hz)
    .exact soa z (s2 z hz)
    .exact sob z (s4 z hz)
   .rintro z (hz | hz) (hy | hy)
    .exact d1 z hz hy
    .exact W5 z (s1 z hz) (s4 z hy)
    .exact W5 z (s2 z hy) (s3 z hz)
    .exact d2 z hz hy
   .simp only[az];exact⟨da,db,A1,B1,rfl,az.mono (fun z hz=>hz.imp id .inl) (fun _ _=>rfl) _ r1 (Sub.refl _) (fun _ _=>rfl),
     az.mono (fun z hz=>hz.imp id .inr) (fun _ _=>rfl) _ r2 (Sub.refl _) (fun _ _=>rfl),fun z hz=>.inl hz,fun z hz=>.inr hz,W5.mono s1 s3⟩
  | val t' x'=>simp only[gG]at hl;exact hval _ _ _ _ _ _ _ _ hl r
  | unit=>simp only[gG]at hl;exact hval _ _ _ _ _ _ _ _ hl r
  | _=>simp[gG]at hl
 | sl e ih=>
  intro a p md xd m mm o yy c cu base F Os hf ha r hc ro hle kE hl;cases a with
  | b8 r' p' s=>
   simp only[gG]at hl;cases md with
   | own s' m0=>
    simp only at hl;split at hl
    .rename_i n4;obtain⟨rfl,rfl,oH,Yg⟩:=n4;simp only[vi,gT]at kE;subst kE;simp only[dg]at hc;obtain⟨v,rfl,hb⟩:=hc;obtain⟨_,b',eu⟩:=hb R hR _ _ _ hf;rw[eu]at ha;simp only[aK,aY]at ha hl;obtain⟨_,rfl⟩:=ha;obtain⟨rfl,rfl⟩:=hl;obtain⟨F1,F2,s1,s2,d,rr⟩:=az.aQ _ Yg ro;refine⟨F1,F2,s1,s2,d,?_⟩;have:=(az.stamp site _).1 rr;simp only[Mk.stamp,az]at this⊢;exact this
    .simp at hl
   | _=>simp at hl
  | val t' x'=>simp only[gG]at hl;exact hval _ _ _ _ _ _ _ _ hl r
  | unit=>simp only[gG]at hl;exact hval _ _ _ _ _ _ _ _ hl r
  | _=>simp[gG]at hl
 | unit=>
  intro a p md xd m mm o yy c cu base F Os hf ha r hc ro hle kE hl;cases a with
  | val t' x'=>simp only[gG]at hl;exact hval _ _ _ _ _ _ _ _ hl r
  | unit=>simp only[gG]at hl;exact hval _ _ _ _ _ _ _ _ hl r
  | _=>simp[gG]at hl
 | int k=>
  intro a p md xd m mm o yy c cu base F Os hf ha r hc ro hle kE hl;cases a with
  | val t' x'=>simp only[gG]at hl;exact hval _ _ _ _ _ _ _ _ hl r
  | unit=>simp only[gG]at hl;exact hval _ _ _ _ _ _ _ _ hl r
  | _=>simp[gG]at hl
 | bool=>
  intro a p md xd m mm o yy c cu base F Os hf ha r hc ro hle kE hl;cases a with
  | val t' x'=>simp only[gG]at hl;exact hval _ _ _ _ _ _ _ _ hl r
  | unit=>simp only[gG]at hl;exact hval _ _ _ _ _ _ _ _ hl r
  | _=>simp[gG]at hl
 | str=>
  intro a p md xd m mm o yy c cu base F Os hf ha r hc ro hle kE hl;cases a with
  | val t' x'=>simp only[gG]at hl;exact hval _ _ _ _ _ _ _ _ hl r
  | unit=>simp only[gG]at hl;exact hval _ _ _ _ _ _ _ _ hl r
  | _=>simp[gG]at hl
theorem v8{t:Ty}{md mm:Mk}{xd yy:t.den}(hl:(if md.still=true then some (Mk.no,xd) else none)=some (mm,yy)):md.still=true/\mm=.no/\yy=xd:=by
 split at hl
 .rename_i hs;simp only[aK,aY]at hl;exact⟨hs,hl.1.symm,hl.2.symm⟩
 .simp at hl
theorem ab6{hd:Nat->Value}{site q:Nat}(hs:site<1048576):∀(t:Ty){a:AV}{p:Path}{md:Mk}{xd:t.den}{m mm:Mk}{o yy:t.den}{c:List Value},
  gG site q t a p md xd m o=some (mm,yy)->aL hd t md c->aL hd t mm c/\md.nH site (site+1) mm:=by
 intro t
 induction t with
 | pair ta tb fU kS=>
  intro a p md xd m mm o yy c hl nk;cases a with
  | pair u v=>simp only[gG,cM,aK,aY]at hl;obtain⟨y,hy,z',hz,rfl,rfl⟩:=hl;simp only[aL]at nk⊢;have h1:=fU hy nk.1;have h2:=kS hz nk.2;exact⟨⟨h1.1,h2.1⟩,h1.2,h2.2⟩
  | val t' x'=>simp only[gG]at hl;obtain⟨_,rfl,rfl⟩:=v8 hl;exact⟨aL.no _ _,trivial⟩
  | unit=>simp only[gG]at hl;obtain⟨_,rfl,rfl⟩:=v8 hl;exact⟨aL.no _ _,trivial⟩
  | _=>simp[gG]at hl
 | sl e ih=>
  intro a p md xd m mm o yy c hl nk;cases a with
  | b8 r' p' s=>
   simp only[gG]at hl;cases md with
   | own s' m0=>
    simp only at hl;split at hl
    .rename_i n4;obtain⟨rfl,rfl,oH,Yg⟩:=n4;simp only[aK,aY]at hl;obtain⟨rfl,rfl⟩:=hl;simp only[aL]at nk⊢;exact⟨⟨nk.1,Mk.cO hs oH⟩,.inr ⟨_,rfl,Mk.eR _ (Mk.dP site oH)⟩⟩
    .simp at hl
   | _=>simp at hl
  | val t' x'=>simp only[gG]at hl;obtain⟨_,rfl,rfl⟩:=v8 hl;exact⟨aL.no _ _,trivial⟩
  | unit=>simp only[gG]at hl;obtain⟨_,rfl,rfl⟩:=v8 hl;exact⟨aL.no _ _,trivial⟩
  | _=>simp[gG]at hl
 | _=>
  intro a p md xd m mm o yy c hl nk;cases a with
  | val t' x'=>simp only[gG]at hl;obtain⟨_,rfl,rfl⟩:=v8 hl;exact⟨aL.no _ _,trivial⟩
  | unit=>simp only[gG]at hl;obtain⟨_,rfl,rfl⟩:=v8 hl;exact⟨aL.no _ _,trivial⟩
  | _=>simp[gG]at hl
theorem aaM{h h2:Array Obj}{Pr gh:BS}{site q:Nat}:∀(t:Ty){a:AV}{p:Path}{md:Mk}{xd:t.den}{m mm:Mk}{o yy:t.den}{c:List Value}{base:fI}{F F1:BS},
  gG site q t a p md xd m o=some (mm,yy)->az h Pr t md xd c F->az h2 gh t mm yy c F1->
  ∀p' t1 n1,jH site (site+1) p'=true->q8 t mm p'=some (t1,n1)->bw t xd p'->bw t yy p'/\∀bp cp,cv h t c base p'=some (bp,cp)->
   ∃iR,cv h2 t c base p'=some (bp,iR)/\(∀s a,n1=.own s a->¬ (site<=s/\s<site+1)->iR=cp):=by
 intro t;have hval:∀(t:Ty)(c:List Value)(base:fI)(x:t.den)(p':Path)(t1:Ty)(n1:Mk),jH site (site+1) p'=true->q8 t .no p'=some (t1,n1)->bw t x p'->bw t x p'/\∀bp cp,cv h t c base p'=some (bp,cp)->
   ∃iR,cv h2 t c base p'=some (bp,iR)/\(∀s a,n1=.own s a->¬ (site<=s/\s<site+1)->iR=cp):=by
  intro t c base x p' t1 n1 hp gY hi;obtain⟨hi',zC⟩:=Dm (lo:=site) (hi:=site+1) p' (m:=.no) trivial hp gY;refine⟨hi,fun bp cp ha=>?_⟩;obtain⟨iR,h3⟩:=Jg (h':=h2) p' _ c _ hi' ha;exact⟨iR,h3,fun s a' e hs=>by subst e;exact absurd zC hs⟩
 have Ao:∀(t:Ty)(mm:Mk)(c:List Value)(base:fI)(y:t.den)(t1:Ty)(n1:Mk),bw t y []/\∀bp cp,cv h t c base []=some (bp,cp)->
   ∃iR,cv h2 t c base []=some (bp,iR)/\(∀s a,n1=.own s a->¬ (site<=s/\s<site+1)->iR=cp):=by
  intro t mm c base y t1 n1;refine⟨xW _ _,fun bp cp ha=>?_⟩;rw[ET]at ha;exact⟨cp,by rw[ET];exact ha,fun _ _ _ _=>rfl⟩
 induction t with
 | pair ta tb fU kS=>
  intro a p md xd m mm o yy c base F F1 hl r r2 p' t1 n1 hp gY hi;cases a with
  | pair u v=>
   simp only[gG,cM,aK,aY]at hl;obtain⟨y,hy,z',hz,rfl,rfl⟩:=hl;simp only[az]at r r2;obtain⟨da,db,Fa,Fb,rfl,ra,rb,-⟩:=r;obtain⟨ea,eb,Ea,Eb,ee,qa,qb,-⟩:=r2;obtain⟨rfl,rfl⟩:=List.append_inj ee (by rw[az.width _ ra,az.width _ qa]);have hw:=az.width _ ra;cases p' with
   | nil=>exact Ao _ (.pr y.1 z'.1) _ _ _ t1 _
   | cons st p'=>
    cases st with
    | fst=>simp only[q8,Mk.fst]at gY;simp only[bw]at hi⊢;obtain⟨h1,h3⟩:=fU (base:=base) hy ra qa p' t1 n1 (by simpa [jH] using hp) gY hi;refine⟨h1,fun bp cp ha=>?_⟩;simp only[cv]at ha⊢;rw[<-hw,jn rfl]at ha⊢;exact h3 _ _ ha
    | snd=>simp only[q8,Mk.snd]at gY;simp only[bw]at hi⊢;obtain⟨h1,h3⟩:=kS (base:=base.map fun x=>(x.1,x.2+ta.width)) hz rb qb p' t1 n1 (by simpa [jH] using hp) gY hi;refine⟨h1,fun bp cp ha=>?_⟩;simp only[cv]at ha⊢;rw[<-hw,i5 rfl]at ha⊢;rw[hw]at ha⊢;exact h3 _ _ ha
    | idx i s=>simp[q8]at gY
  | val t' x'=>simp only[gG]at hl;obtain⟨_,rfl,rfl⟩:=v8 hl;exact hval _ _ _ _ _ _ _ hp gY hi
  | unit=>simp only[gG]at hl;obtain⟨_,rfl,rfl⟩:=v8 hl;exact hval _ _ _ _ _ _ _ hp gY hi
  | _=>simp[gG]at hl
 | sl e ih=>
  intro a p md xd m mm o yy c base F F1 hl r r2 p' t1 n1 hp gY hi;cases a with
  | b8 r' p0 s=>
   simp only[gG]at hl;cases md with
   | own s' m0=>
    simp only at hl;split at hl
    .rename_i n4;obtain⟨rfl,rfl,oH,Yg⟩:=n4;simp only[aK,aY]at hl;obtain⟨rfl,rfl⟩:=hl;cases p' with
     | nil=>exact Ao _ .no _ _ _ t1 _
     | cons st p'=>
      cases st with
      | fst=>simp[q8]at gY
      | snd=>simp[q8]at gY
      | idx i s=>
       simp only[q8]at gY;split at gY
       .rename_i hss;simp only[jH,bI]at hp;obtain⟨hip,zC⟩:=Dm p' (Mk.dP site oH) hp.2 gY;simp only[az]at r r2;obtain⟨a1,k1,rfl,nQ,r⟩:=r;obtain⟨a2,k2,e2,iK,r2⟩:=r2;simp only[eZ,Value.slice.injEq,iQ]at e2;obtain⟨rfl,hlen,rfl⟩:=e2;simp only[bw]at hi⊢;refine⟨⟨hlen ▸ hi.1,zR _ _ hip gY⟩,fun bp cp ha=>?_⟩;rcases r2 with r2 | ⟨b,cs,rfl,fb,hb,hsz,-⟩
        .omega
        obtain⟨ty,lo,hi',he,_⟩:=hb;simp only[cv,he];simp only[cv]at ha;split at ha
        .obtain⟨iR,h3⟩:=Jg (h':=h2) p' _ (sub cs (i * e.width) e.width) _ hip ha;exact⟨iR,h3,fun s a' e hs=>by subst e;exact absurd zC hs⟩
        .simp at ha
       .simp at gY
    .simp at hl
   | _=>simp at hl
  | val t' x'=>simp only[gG]at hl;obtain⟨_,rfl,rfl⟩:=v8 hl;exact hval _ _ _ _ _ _ _ hp gY hi
  | unit=>simp only[gG]at hl;obtain⟨_,rfl,rfl⟩:=v8 hl;exact hval _ _ _ _ _ _ _ hp gY hi
  | _=>simp[gG]at hl
 | _=>
  intro a p md xd m mm o yy c base F F1 hl r r2 p' t1 n1 hp gY hi;cases a with
  | val t' x'=>simp only[gG]at hl;obtain⟨_,rfl,rfl⟩:=v8 hl;exact hval _ _ _ _ _ _ _ hp gY hi
  | unit=>simp only[gG]at hl;obtain⟨_,rfl,rfl⟩:=v8 hl;exact hval _ _ _ _ _ _ _ hp gY hi
  | _=>simp[gG]at hl
theorem abf{h:Array Obj}{S:St}{g:aA}{q:Nat}{t:Ty}{a:AV}{p:Path}{md:Mk}{xd:t.den}{z:Mk×t.den}{rp:Nat×Path}{v:Value}
  (hp:kF a=some rp) (hl:kj q t a p md xd=some z) (hv:qe h S g a v):∃c,v=dK t c/\dg h S g a c:=by
 cases a with
 | b8 r' p' s=>
  cases t with
  | sl e=>simp only[qe]at hv;exact⟨[v],by simp[dK,Ty.agg],by simp only[dg];exact⟨v,rfl,hv⟩⟩
  | _=>simp[kj]at hl
 | pair a b=>
  cases t with
  | pair ta tb=>simp only[qe]at hv;obtain⟨ca,cb,rfl,h1,h2⟩:=hv;exact⟨ca++cb,by simp[dK,Ty.agg],by simp only[dg];exact⟨ca,cb,rfl,h1,h2⟩⟩
  | _=>simp[kj]at hl
 | _=>simp[kF]at hp
section
variable {P:Program} {C:Ctx} {D:Den C} {S:St} {g:aA} {w:World} {tmps:Array Value}
variable {A:bY} {site:Nat} (dy:ow P C D) (st:aE w.heap S g tmps Nil)
include dy st
theorem aaG{f:FuncId}{aJ:List AV}{vs:List Value}{d:Option Nat}(ok:nO A S d site)(hfr:site<1048576/\∀u,(S.get u).aR site (site+1)=true)
  (ha:l_ w.heap S g aJ vs) (XZ:(C.sig f).params.all (fun k=>!k.mh)=true) {gd:js (C.sig f).params} (h1:fZ S.rt (C.sig f).params aJ=some (gd,S.rt))
  {od:dG (C.sig f).params} {fk:aP} {n:Nat} {u0:AV} {v0:Value} {q:Nat} {p:Path} {R:aC} {md:Mk} {t:Ty} {xd:t.den} {m m' mx:Mk} {x:t.den} (rM:qe w.heap S g u0 v0)
  (L:wI w.heap (C.sig f).params aJ vs S.rt fk od n u0 v0 q p R md t xd m m' mx x) {a:gf (C.sig f).params} (h3:ji fk (C.sig f).params aJ gd od=some a)
  (hs:mL (C.sig f).params aJ=true\/(C.sig f).full=true) {r:f8 (C.sig f).res×dG (C.sig f).params} (hD:D f a=some r) {β:Bool} {v:AV} {zd rt':aP}
  (ho:gb S.rt site (C.sig f).params aJ r.2=some zd) (he:(mA A zd d site (C.sig f).res r.1).dec β=some (v,rt')) :
  Calls P f vs.toArray w fun e w'=>∃val,e=.returned val/\Post S g w tmps v rt' val w':=by
 have hR:=L.root;have bP:(S.root q).isSome:=by show(S.rt.root q).isSome=true;rw[hR];rfl
 obtain⟨cu,KZ,Xw⟩:=abf L.place L.xE rM;have hin:=ac2 hR t L.D4 Xw L.xE L.paths L.place;obtain⟨base,c,F,q1,q2,q3,q4,q5,q6⟩:=st.m6 hR L.D4 hin;have q2l:=S9 hR t L.D4 q1 q2 Xw L.xE L.paths;have Yk:aL g.hd t md c:=aL.at p (st.tag q R hR) L.D4 q1;obtain⟨F1,F2,s1,s2,s3,s4⟩:=az.aQ t L.UK q2l;have pg:=(st.gD bP).cR F2 (fun z hz=>.inr (q3 z (s2 z hz)))
 let g2:aA:={ g with Pr:=Un g.Pr F2 }
 have Av:Kp w.heap S g (S.aI q none) g2:=(NJ st q).trans (JZ (st.gD bP) F2)
 let Fs:Nat->BS:=fun j=>if j=n then F1 else Nil
 have pZ:∀i,Sub (Fs i) (fun z=>(Nil z\/g.G q z)/\¬ F2 z):=by
  intro i z hz;simp only[Fs]at hz;split at hz
  .exact⟨.inr (q3 z (s1 z hz)),fun h=>s3 z hz h⟩
  .exact hz.elim
 have e2:fk=(S.aI q none).rt:=L.fk;subst e2;obtain⟨gg1,HH1,FF,kk⟩:=Ck (sl:=S.sl) (C.sig f).params aJ vs S.rt g Nil 0 gd S.rt ha st h1;have hG:=E0 (h2:=w.heap) (gh:=g2.Pr) (pR:=Fs) (C.sig f).params 0 XZ kk.2.2.2.2.1;have hL:=L.ls g2.Pr Fs 0 (by
  simp only[kC,Fs,aX];exact⟨cu,s4,KZ⟩)
 have hps:=yJ pg (sh:=mL (C.sig f).params aJ) (Fs:=Fs) (C.sig f).params aJ vs 0 gd od a (fun h=>h) (ha.kp Av) hG hL h3;have D_:∀i j,i≠j->cC (Fs i) (Fs j):=by
  intro i j hij z h1 h2;simp only[Fs]at h1 h2;split at h1
  .split at h2
   .omega
   .exact h2
  .exact h1
 have pre:Pre w.heap (Seen (mL (C.sig f).params aJ) (S.aI q none) g2) Fs (C.sig f).params a vs:=
  ⟨hps,D_,fun i z hz=>Bh pg _ z (pZ i z hz),fun i z hz=>pg.ew z (pZ i z hz),Bi pg _⟩
 refine(dy.ok f a r hD w _ Fs vs pre).mono ?_;rintro e w' ⟨val,fN,Gs,Os,us,rfl,p0⟩;obtain⟨y,hy1,EF⟩:=L.out r.2;have eS:=hy1 S.rt site zd ho;obtain⟨cu',CB,DZ⟩:=EF _ _ _ _ p0.out;rw[kC]at CB;obtain rfl:cu=cu':=akw q2l CB (KZ.symm.trans DZ);have jd:∀z,tX w.heap.size Fs z->w.heap.size<=z\/F1 z:=by
  rintro z (h | ⟨i,h⟩)
  .exact .inl h
  .simp only[Fs]at h;split at h
   .exact .inr h
   .exact h.elim
 let D0:BS:=fun z=>mL (C.sig f).params aJ=true/\fN z/\¬ g.Pr z
 have hD0:∀z,D0 z->F z\/Nil z\/w.heap.size<=z:=by
  rintro z ⟨hsh,h1,h2⟩;rcases p0.kZ z h1 with h3 | h3
  .rw[hsh]at h3;simp only[Seen,aX]at h3;rcases h3 with h3 | h3
   .exact absurd h3 h2
   .exact .inl (s2 z h3)
  .rcases jd z h3 with h4 | h4
   .exact .inr (.inr h4)
   .exact .inl (s1 z h4)
 have hOm:∀z,Os n z->F z\/Nil z\/w.heap.size<=z:=by
  intro z hz;rcases jd z (p0.oL n z hz) with h4 | h4
  .exact .inr (.inr h4)
  .exact .inl (s1 z h4)
 have hfull:mL (C.sig f).params aJ=false->(C.sig f).full=true:=fun h=>hs.resolve_left (by rw[h];simp);have zb:az w'.heap (Un g.Pr D0) t m' y cu (Os n):=by
  cases hsh:mL (C.sig f).params aJ with
  | true=>
   refine az.mono (fun z hz=>?_) (fun _ _=>rfl) _ CB (Sub.refl _) (fun _ _=>rfl);by_cases h1:g.Pr z
   .exact .inl h1
   .exact .inr ⟨hsh,hz,h1⟩
  | false=>have h5:=hfull hsh;simp only[wK.full,bI]at h5;exact az.lS _ (L.full h5.1) CB
 have XK:∀z,z<w.heap.size->¬ F z->w'.heap[z]? = w.heap[z]?:=fun z hz An=>p0.fr.block z hz (fun h=>by
   rcases jd z h with h4 | h4
   .omega
   .exact An (s1 z h4))
 have JG:∀b,g.Pr b->w'.heap[b]? = w.heap[b]?:=fun b hb=>XK b (st.bR b hb) (fun h=>st.ez q bP b (q3 b h) hb);unfold yb at eS;rw[L.place]at eS;simp only at eS;rw[hR]at eS;simp only[cM]at eS;obtain⟨dd,lH,eS⟩:=eS;rw[L.D4]at lH;simp only[aK]at lH;subst lH;simp only[↓reduceDIte,cM]at eS;obtain⟨⟨mm,yy⟩,XQ,eS⟩:=eS;simp only at eS;split at eS
 .simp at eS
 rename_i hidx;simp only[cM,aK]at eS;obtain⟨⟨mr,xr⟩,hput,eS⟩:=eS;subst eS;obtain⟨G1,G2,t1,t2,t3,ru⟩:=ab5 (site:=site) hR (fun z hz=>Or.inl hz) JG t L.D4 q1 q2 Xw zb ⟨_,L.xE⟩ L.paths XQ;obtain⟨nk,Yo⟩:=ab6 hfr.1 t XQ Yk;have Ew:=aaM (base:=base) t XQ q2 ru
 let Dd:BS:=fun z=>D0 z\/G2 z
 have Xe:∀z,Dd z->F z\/Nil z\/w.heap.size<=z:=by
  rintro z (h | h)
  .exact hD0 z h
  .exact hOm z (t2 z h)
 obtain⟨g',k1,k2,k3,k4,k5,k6,k7⟩:=q6 site (site+1) w'.heap mm yy c G1 Dd mr xr hfr.2
  (fun z hz An _=>XK z hz An)
  p0.fr.size
  (by
   intro b o e cs hcs;obtain⟨gC,h5,h6⟩:=zn.self q4 b o e cs hcs;exact⟨gC,h5.congr (XK b (by obtain⟨_,_,_,h7,_⟩:=hcs;exact(rG.1 h7).1) (q4 b o e).1),h6⟩)
  (az.mono (fun z hz=>hz.elim (fun h=>h.imp id .inl) (fun h=>.inr (.inr h))) (fun _ _=>rfl) _ ru (Sub.refl _) (fun _ _=>rfl))
  (fun z h1 h2=>h1.elim (fun h1=>p0.op n z (t1 z h2) h1.2.1) (fun h1=>t3 z h2 h1))
  (fun z hz=>hz.elim (fun h=>hOm z (t1 z h)) (Xe z))
  (fun z hz=>hz.elim (fun h=>p0.Az n z (t1 z h)) (fun h=>h.elim (fun h=>p0.AD z h.2.1) (fun h=>p0.Az n z (t2 z h))))
  hput Yo nk (fun h=>by simpa [h] using hidx) Ew
 have hres:lu w'.heap g'.Pr Gs 0 (C.sig f).res r.1 us:=by
  refine lu.conv _ 0 ?_ p0.res;cases hsh:mL (C.sig f).params aJ with
  | true=>
   refine .inl (fun z hz=>?_);by_cases h1:g.Pr z
   .exact k2 z h1
   .exact k3 z (.inl ⟨hsh,hz,h1⟩)
  | false=>have h5:=hfull hsh;simp only[wK.full,bI]at h5;exact .inr h5.2
 have Xh:∀i,Sub (Gs i) (fun z=>(Nil z\/F z\/(w.heap.size<=z/\z<w'.heap.size))/\¬ (G1 z\/Dd z)):=by
  intro i z hz;refine⟨?_,?_⟩
  .rcases jd z (p0.gL i z hz) with h4 | h4
   .exact .inr (.inr ⟨h4,p0.wP i z hz⟩)
   .exact .inr (.inl (s1 z h4))
  .rintro(h | h | h)
   .exact p0.go i n z hz (t1 z h)
   .exact p0.gp i z hz h.2.1
   .exact p0.go i n z hz (t2 z h)
 obtain⟨g4,u1,u2,u3⟩:=GZ (S:=S) k1 Xh p0.Aa ok (C.sig f).res hres he;refine⟨val,rfl,g4,u1,by rw[p0.val];exact u2,k4.trans u3,p0.fr.mono ?_⟩;intro z hz h;rcases jd z h with h4 | h4
 .omega
 .exact st.own q _ bP (q3 z (s1 z h4))
end
theorem l_.append{h:Array Obj}{S:St}{g:aA}:∀{aJ bs:List AV}{vs ws:List Value},l_ h S g aJ vs->l_ h S g bs ws->l_ h S g (aJ++bs) (vs++ws)
 | [],bs,vs,ws,k,k2=>by simp only[l_]at k;subst k;simpa using k2
 | a::aJ,bs,vs,ws,k,k2=>by
  obtain⟨v,vs',rfl,r1,r2⟩:=k;exact⟨v,vs'++ws,rfl,r1,l_.append r2 k2⟩
theorem Ov{h:Array Obj}{S:St}{g:aA}:∀{c:AV}{vs:List Value},aO h S g c vs->l_ h S g (mZ c) vs
 | .unit,vs,k=>by simp only[aO]at k;exact k
 | .pair a b,vs,k=>by
  simp only[aO]at k;obtain⟨v,vs',rfl,r1,r2⟩:=k;exact⟨v,vs',rfl,r1,Ov r2⟩
 | .undef,_,k=>by simp only[aO]at k
 | .skip,_,k=>by simp only[aO]at k
 | .cH _,_,k=>by simp only[aO]at k
 | .fl,_,k=>by simp only[aO]at k
 | .val _ _,_,k=>by simp only[aO]at k
 | .b8 _ _ _,_,k=>by simp only[aO]at k
 | .view _ _ _ _ _,_,k=>by simp only[aO]at k
 | .addr _ _,_,k=>by simp only[aO]at k
 | .ck _ _,_,k=>by simp only[aO]at k
 | .jJ _,_,k=>by simp only[aO]at k
 | .gI _ _,_,k=>by simp only[aO]at k
 | .ep _,_,k=>by simp only[aO]at k
theorem II{h:Array Obj}{S:St}{g:aA}{ρ:Operand->AV}{ev:Operand->Value}(hρ:∀x,qe h S g (ρ x) (ev x)):∀(l:List Operand),l_ h S g (l.map ρ) (l.map ev)
 | []=>rfl
 | x::l=>⟨_,_,rfl,hρ x,II hρ l⟩
theorem ab7{h:Array Obj}{Pr:BS}{Gs:Nat->BS}{us:List Value}:∀(rs:List RK)(r:f8 rs)(t:Ty)(y:t.den),Fl rs r t=some y->lu h Pr Gs 0 rs r us->
  ∃c F m,us=[dK t c]/\az h Pr t m y c F
 | [],r,t,y,hy,k=>by simp[Fl]at hy
 | [.val t' m],r,t,y,hy,k=>by
  simp only[Fl]at hy;obtain⟨u,vs',rfl,⟨c,rr,rfl⟩,k2⟩:=k;simp only[lu]at k2;subst k2;obtain⟨rfl,rr2⟩:=az.cast hy rr;exact⟨c,_,m,rfl,rr2⟩
 | [.ptr t' m],r,t,y,hy,k=>by simp[Fl]at hy
 | .val _ _::_::_,r,t,y,hy,k=>by simp[Fl]at hy
 | .ptr _ _::_::_,r,t,y,hy,k=>by simp[Fl]at hy
section
variable {P:Program} {C:Ctx} {D:Den C} {S:St} {g:aA} {w:World} {tmps:Array Value} {a:Act} {ρ:Operand->AV}
variable {A:bY} {site:Nat} {hint:Bool} (bn:iD P C) (dy:ow P C D) (st:aE w.heap S g tmps Nil) (hρ:∀x,qe w.heap S g (ρ x) (a.eval x))
include dy st
theorem SH{f:FuncId}{aJ:List AV}{vs:List Value}{d:Option Nat}(ok:nO A S d site)(ha:l_ w.heap S g aJ vs)(ht:b6 (rY C D A S.rt d site f aJ)) :
  Calls P f vs.toArray w fun | .returned val,w''=>r5 S g w tmps (rY C D A S.rt d site f aJ) val w'' | _,_=>False:=by
 obtain⟨⟨v,rt'⟩,hd⟩:=ht true;have tf:∀{Q:Value->World->Prop},Calls P f vs.toArray w (fun e w'=>∃val,e=.returned val/\Post S g w tmps v rt' val w')->
   Calls P f vs.toArray w fun | .returned val,w''=>r5 S g w tmps (rY C D A S.rt d site f aJ) val w'' | _,_=>False:=by
  intro Q h;refine h.mono ?_;rintro e w' ⟨val,rfl,hp⟩;exact⟨true,v,rt',hd,hp⟩
 refine tf (Q:=fun _ _=>True) ?_;clear tf;unfold rY at hd;cases h1:fZ S.rt (C.sig f).params aJ with
 | none=>rw[h1]at hd;simp[Tr.dec]at hd
 | some z=>
  obtain⟨gd,d8⟩:=z;rw[h1]at hd;simp only at hd;cases h2:gE d8 (C.sig f).params aJ with
  | none=>rw[h2]at hd;simp[Tr.dec]at hd
  | some z=>
   obtain⟨od,fk⟩:=z;rw[h2]at hd;simp only at hd;cases h3:ji fk (C.sig f).params aJ gd od with
   | none=>rw[h3]at hd;simp[Tr.dec]at hd
   | some aa=>
    rw[h3]at hd;simp only at hd;by_cases hc:(Io (C.sig f).params&&(mL (C.sig f).params aJ||(C.sig f).full))=true
    .rw[ak hc]at hd;simp only[bI,jC]at hc;simp only[Tr.dec,cM]at hd;obtain⟨r,hD,hd⟩:=hd;by_cases hn:(C.sig f).params.all (fun k=>!k.eE)=true
     .rw[ak hn]at hd;exact ajD dy st ok ha h1 hn h2 h3 hc.2 hD hd
     .rw[af hn]at hd;by_cases hfr:A.fr=true
      .rw[ak hfr]at hd;cases hlo:wj (C.sig f).params aJ with
       | false=>rw[hlo]at hd;simp[Tr.dec]at hd
       | true=>
       rw[hlo]at hd;simp only[Tr.dec]at hd;cases h4:gb d8 site (C.sig f).params aJ r.2 with
       | none=>rw[h4]at hd;simp[Tr.dec]at hd
       | some zd=>
        rw[h4]at hd;simp only at hd;have hone:(List.filter PK.eE (C.sig f).params).length=1/\(C.sig f).params.all (fun k=>!k.mh)=true:=by
         have:=hc.1;unfold Io at this;split at this
         .rename_i h5;exfalso;rw[Tg]at h5;exact hn (by simpa using h5)
         .rename_i h5;rw[h5];exact⟨rfl,this⟩
         .simp at this
        obtain rfl:=KD _ _ _ _ _ hone.2 h1;obtain⟨n,a0,v0,rM,wS⟩:=S8 (C.sig f).params aJ vs S.rt fk od hone.1 ha h2 hlo;rcases wS with⟨q,t,m,m',R,x,rfl,L⟩ | ⟨q,p,R,md,t,xd,m,m',mx,x,L⟩
        .exact aaF dy st ok (ok.fr hfr) ha hone.2 h1 rM L h3 hc.2 hD h4 hd
        .exact aaG dy st ok (ok.fr hfr) ha hone.2 h1 rM L h3 hc.2 hD h4 hd
      .rw[af hfr]at hd;simp[Tr.dec]at hd
    .rw[af hc]at hd;simp[Tr.dec]at hd
theorem q9o{h:Array Obj}{tmps:Array Value}{sl:List AV}:∀(ks:List PK)(aJ:List AV)(vs:List Value)(rt:aP)(g:aA)(z:List AV×aP),
  l_ h ⟨sl,rt⟩ g aJ vs->aE h ⟨sl,rt⟩ g tmps Nil->lp rt ks aJ=some z->
  ∃g1,aE h ⟨sl,z.2⟩ g1 tmps Nil/\Kp h ⟨sl,rt⟩ g ⟨sl,z.2⟩ g1/\g1.cT g/\l_ h ⟨sl,z.2⟩ g1 z.1 vs
 | [],[],vs,rt,g,z,ha,st,hb=>by
  simp only[lp,aK]at hb;subst hb;exact⟨g,st,Kp.refl,.refl _,ha⟩
 | [],_::_,vs,rt,g,z,ha,st,hb=>by simp[lp]at hb
 | k::ks,[],vs,rt,g,z,ha,st,hb=>by cases k<;>simp[lp]at hb
 | k::ks,a::aJ,vs,rt,g,z,ha,st,hb=>by
  obtain⟨v,vs',rfl,r1,r2⟩:=ha;have plain:(lp rt ks aJ).map (fun z=>(a::z.1,z.2))=some z->∃g1,aE h ⟨sl,z.2⟩ g1 tmps Nil/\Kp h ⟨sl,rt⟩ g ⟨sl,z.2⟩ g1/\g1.cT g/\l_ h ⟨sl,z.2⟩ g1 z.1 (v::vs'):=by intro hb;simp only[fo]at hb;obtain⟨z',h1,rfl⟩:=hb;obtain⟨g1,k1,k2,k3,k4⟩:=q9o ks aJ vs' rt g z' r2 st h1;exact⟨g1,k1,k2,k3,v,vs',rfl,k2 _ _ r1,k4⟩
  cases k with
  | val t=>
   simp only[lp]at hb;split at hb
   .exact plain hb
   .split at hb
    .rename_i m y fk sn;split at hb
     .rename_i hm;simp only[fo]at hb;obtain⟨z',h1,rfl⟩:=hb;obtain⟨c,g2,F,ev,cJ⟩:=yZ (S:=⟨sl,rt⟩) _ st sn r1;have pg:=(cJ.st.cR F (fun b hb=>.inr hb)).bB (Sub.nil _);have Av:Kp h ⟨sl,rt⟩ g ⟨sl,fk⟩ { g2 with Pr:=Un g2.Pr F }:=Kp.trans cJ.kp (JZ cJ.st F);have x:qe h ⟨sl,fk⟩ { g2 with Pr:=Un g2.Pr F } (.val t y) v:=by simp only[qe];exact⟨c,az.share t hm cJ.rep,ev⟩
      obtain⟨g1,k1,k2,k3,k4⟩:=q9o ks aJ vs' fk _ z' (r2.kp Av) pg h1;exact⟨g1,k1,Av.trans k2,cJ.same.trans (aA.cT.trans ⟨rfl,rfl,rfl⟩ k3),v,vs',rfl,k2 _ _ x,k4⟩
     .simp at hb
    .simp at hb
  | _=>exact plain (by simpa only [lp] using hb)
theorem MS:∀(ts:List Ty)(aJ:List AV)(vs:List Value)(l:List bC),l_ w.heap S g aJ vs->za S.rt ts aJ=some l->nV w.heap (PG (zo S g)) l vs
 | [],aJ,vs,l,ha,hb=>by
  cases aJ with
  | nil=>simp only[za,aK]at hb;subst hb;exact ha
  | cons a aJ=>simp[za]at hb
 | t::ts,[],vs,l,ha,hb=>by simp[za]at hb
 | t::ts,a::aJ,vs,l,ha,hb=>by
  obtain⟨v,vs',rfl,r1,r2⟩:=ha;simp only[za,cM,aK]at hb;obtain⟨x,hx,l',hl,rfl⟩:=hb;obtain⟨c,e,r⟩:=qN st t hx r1;exact⟨v,vs',rfl,⟨c,r,e⟩,MS ts aJ vs' l' r2 hl⟩
theorem Qr{h:Array Obj}{g:aA}:∀{l l2:List bC}{vs ws:List Value},nV h g l vs->nV h g l2 ws->nV h g (l++l2) (vs++ws)
 | [],_,vs,ws,k,k2=>by simp only[nV]at k;subst k;simpa using k2
 | c::l,_,vs,ws,k,k2=>by
  obtain⟨v,vs',rfl,r1,r2⟩:=k;exact⟨v,vs'++ws,rfl,r1,Qr r2 k2⟩
theorem H7{h:Array Obj}{Pr:BS}{Fs:Nat->BS}:∀(ks:List PK)(l:List bC)(vs:List Value)(i:Nat)(aa:gf ks),yS ks l=some aa->nV h (PG Pr) l vs->yX h Pr Fs i ks aa vs/\ks.all PK.plain=true
 | [],l,vs,i,aa,hp,hc=>by
  cases l with
  | nil=>exact⟨hc,rfl⟩
  | cons c l=>simp[yS]at hp
 | k::ks,[],vs,i,aa,hp,hc=>by cases k<;>simp[yS]at hp
 | k::ks,c::l,vs,i,aa,hp,hc=>by
  obtain⟨v,vs',rfl,r1,r2⟩:=hc;cases k with
  | val t=>
   cases c with
   | val t' x=>simp only[yS,cM,aK]at hp;obtain⟨y,hy,r,hr,rfl⟩:=hp;obtain⟨c,rr,e⟩:=r1;obtain⟨rfl,rr2⟩:=az.cast hy rr;obtain⟨p1,p2⟩:=H7 ks l vs' (i+1) r hr r2;exact⟨⟨v,vs',rfl,⟨c,rr2,e⟩,p1⟩,by simpa [PK.plain] using p2⟩
   | _=>simp[yS]at hp
  | cq t=>
   cases c with
   | cq t' x=>simp only[yS,cM,aK]at hp;obtain⟨y,hy,r,hr,rfl⟩:=hp;obtain⟨e1,e2⟩:=Dt hy;subst e1;simp only at e2;subst e2;obtain⟨p1,p2⟩:=H7 ks l vs' (i+1) r hr r2;exact⟨⟨v,vs',rfl,r1,p1⟩,by simpa [PK.plain] using p2⟩
   | _=>simp[yS]at hp
  | _=>cases c<;>simp[yS]at hp
theorem aan{h:Array Obj}{Pr gh:BS}{t:Ty}{m:Mk}{x:t.den}{c:List Value}{F F2:BS}(hs:t.scalar=true)(r:az h Pr t m x c F):az h gh t .no x c F2:=by cases t<;>simp[Ty.scalar]at hs<;>simpa only [az] using r
theorem aaz{cl:a_}{xs:List bC}{t:Ty}{y:t.den}{vs ws:List Value}(hs:t.scalar=true)(hy:gF C D cl xs t=some y)(hx:nV w.heap (PG (zo S g)) xs vs)(hw:nV w.heap g cl.caps ws) :
  Calls P cl.f (vs++ws).toArray w fun e w'=>∃val,e=.returned val/\Post S g w tmps (.val t y) S.rt val w':=by
 simp only[gF,cM]at hy;obtain⟨aa,ha,r,hD,hr⟩:=hy;obtain⟨hps,uu⟩:=H7 dy st (Fs:=fun _=>Nil) (C.sig cl.f).params _ _ 0 aa ha (Qr dy st hx (Ie st (fun b hb=>.inl hb:Sub g.Pr (zo S g)) hw));have hv:=Bh st false;have pre:Pre w.heap (zo S g) (fun _=>Nil) (C.sig cl.f).params aa (vs++ws):=
  ⟨hps,fun _ _ _=>cC.nil _,fun _=>cC.nil _,fun _ _ h=>h.elim,Bi st false⟩
 refine(dy.ok cl.f aa r hD w _ _ _ pre).mono ?_;rintro e w' ⟨val,fN,Gs,Os,us,rfl,p⟩;have jd:∀z,tX w.heap.size (fun _=>Nil) z->w.heap.size<=z:=fun z h=>h.elim id (fun⟨_,h⟩=>h.elim);have DM:=st.grow (h2:=w'.heap) (fun b hb=>p.fr.block b hb (fun h=>absurd (jd b h) (by omega))) p.fr.size Nil (fun b hb=>hb.elim);obtain⟨c,F,m,hus,rr⟩:=ab7 _ _ _ _ hr p.res;refine⟨val,rfl,g,DM,?_,.refl g,p.fr.mono (fun z hz h=>absurd (jd z h) (by omega))⟩;rw[p.val,hus];simp only[qe,tN];exact⟨c,aan dy st hs rr,rfl⟩
include bn hρ
theorem aj5{o:Oper}{c:Call}{f:Operand}(ho:o.op=.call c)(hc:c.callee=.value f)(ok:nO A S o.dst site):Goal P C D S g w tmps a ρ A site hint o:=by
 intro ht;have oU:∀(ff:FuncId)(vs:List Value),JV P ff->a.eval f=.func (.func ff) #[] vs.toArray->
   (execOp a.eval o).run P w=.ok (.enter ff (c.args.toList.map a.eval++vs).toArray) w:=by
  rintro ff vs ⟨fn,h1,h2,h3⟩ hv;have hb:¬ fn.body=none:=by intro hh;rw[hh]at h3;simp at h3
  have kN:c.args.map a.eval++vs.toArray=(c.args.toList.map a.eval++vs).toArray:=by apply y_;simp
  simp[execOp,ho,resolve,hc,Deferred.ofValue,hv,invoke,callFunc,h1,h2,hb,Sem.run_bind,<-kN]
 simp only[aW,ho,hc]at ht⊢;have hf:=hρ f;split at ht
 .rename_i ff caps hv;rw[hv]at hf;simp only[qe]at hf;obtain⟨vs,ev,Yl⟩:=hf;have ha:=l_.append (II hρ c.args.toList) (Ov Yl);have CS:∀{A:bY}{S:aP}{aJ:List AV},b6 (rY C D A S o.dst site ff aJ)->JV P ff:=by
   intro A S aJ ht;obtain⟨⟨v,rt'⟩,hd⟩:=ht true;unfold rY at hd;split at hd
   .simp[Tr.dec]at hd
   .split at hd
    .simp[Tr.dec]at hd
    .split at hd
     .simp[Tr.dec]at hd
     .split at hd
      .simp only[Tr.dec,cM]at hd;obtain⟨r,hD,_⟩:=hd;exact dy.call _ _ _ hD
      .simp[Tr.dec]at hd
  by_cases vU:G0 (C.sig ff) (c.args.toList.map ρ++mZ caps)=true
  .simp only[qQ,ak vU]at ht⊢;cases hsa:lp S.rt (C.sig ff).params (c.args.toList.map ρ++mZ caps) with
   | none=>rw[hsa]at ht;exact absurd ht b6.fail
   | some z=>
    rw[hsa]at ht;simp only at ht⊢;obtain⟨g1,DM,_,DJ,ha1⟩:=q9o dy st (sl:=S.sl) (C.sig ff).params _ _ S.rt g z ha st hsa;rw[oU ff vs (CS ht) ev];refine(SH dy (S:=⟨S.sl,z.2⟩) DM (A:={ A with sh:=hint }) ⟨ok.xG,ok.pl,ok.fr⟩ ha1 ht).mono ?_;rintro e w' he;cases e with
    | returned val=>obtain⟨β,v,rt',h1,g2,h2,h3,h4,h5⟩:=he;exact⟨β,v,rt',h1,g2,h2,h3,DJ.trans h4,by rw[<-DJ.2.1];exact h5⟩
    | _=>exact he
  .simp only[qQ,af vU]at ht⊢;rw[oU ff vs (CS ht) ev];exact SH dy st (A:={ A with sh:=hint }) ⟨ok.xG,ok.pl,ok.fr⟩ ha ht
 .rename_i cl hv;rw[hv]at hf;simp only[qe]at hf;obtain⟨vs,ev,Ln⟩:=hf;by_cases hsc:(C.ty o.type).scalar=true
  .simp only[hsc,aX]at ht⊢;cases hx:za S.rt (c.argTypes.toList.map C.ty) (c.args.toList.map ρ) with
   | none=>rw[hx]at ht;exact absurd ht b6.fail
   | some xs=>
    rw[hx]at ht;simp only at ht⊢;obtain⟨⟨v,rt'⟩,hd⟩:=ht true;have hd0:=hd;simp only[Tr.dec,cM,aK,aY]at hd;obtain⟨y,hy,rfl,rfl⟩:=hd;have Xu:JV P cl.f:=by have:=hy;simp only[gF,cM]at this;obtain⟨aa,_,r,hD,_⟩:=this;exact dy.call _ _ _ hD
    rw[oU cl.f vs Xu ev];have hxs:=MS dy st _ _ _ _ (II hρ c.args.toList) hx;refine(aaz dy st hsc hy hxs Ln).mono ?_;rintro e w' ⟨val,rfl,hp⟩;exact⟨true,_,_,hd0,hp⟩
  .rw[af hsc]at ht;exact absurd ht b6.fail
 .exact absurd ht b6.fail
theorem acw{o:Oper}(ok:nO A S o.dst site):Goal P C D S g w tmps a ρ A site hint o:=
 alx bn st hρ ok fun c f ho hc=>aj5 bn dy st hρ ho hc ok
end
end Go.V
namespace Go.V
noncomputable section
open Go
theorem SL{d:Nat}:∀(l:List AV)(i:Nat),sD d i l=true->∀k,i+k≠d->(l.getD k .undef).roots.contains d=false
 | [],i,_,k,_=>by simp[List.getD,AV.roots]
 | v::l,i,h,k,hk=>by
  simp only[sD,bI,jC,kB,Na]at h;cases k with
  | zero=>exact h.1.resolve_left (by simpa using hk)
  | succ k=>simpa [List.getD] using SL l (i+1) h.2 k (by omega)
theorem NP{d:Nat}:∀(l:List AV)(i:Nat),Fe d i l=true->∀k,i+k≠d->(l.getD k .undef).gK d=true
 | [],i,_,k,_=>by simp[List.getD,AV.gK]
 | v::l,i,h,k,hk=>by
  simp only[Fe,bI,jC,Na]at h;cases k with
  | zero=>exact h.1.resolve_left (by simpa using hk)
  | succ k=>simpa [List.getD] using NP l (i+1) h.2 k (by omega)
theorem HI{s:Nat}:∀(l:List AV),Jm s l=true->∀k,(l.getD k .undef).aR s (s+1)=true
 | [],_,k=>by simp[List.getD,AV.aR]
 | v::l,h,k=>by
  simp only[Jm,bI]at h;cases k with
  | zero=>exact h.1
  | succ k=>simpa [List.getD] using HI l h.2 k
def St.blank(S:St):Option Nat->St
 | some d=>S.set d .undef
 | none=>S
theorem AQ(S:St)(d:Nat)(u:Nat):(S.blank (some d)).get u=if u=d then .undef else S.get u:=by
 simp only[St.blank,St.gv];by_cases e:u=d
 .subst e;by_cases h:u<S.sl.length
  .simp[h]
  .simp only[h,and_false,dX,aX];simp only[St.get_eq,List.getD];rw[pF (by omega)];rfl
 .simp[e]
theorem ajV(S:St)(d:Option Nat)(site:Nat):nO (lJ S.sl d site) (S.blank d) d site where
 xG:=by
  intro h d' hd u;subst hd;simp only[lJ]at h;rw[AQ];split
  .rfl
  .rename_i hu;rw[St.get_eq];exact SL S.sl 0 h u (by omega)
 pl:=by
  intro h d' hd u;subst hd;simp only[lJ]at h;rw[AQ];split
  .rfl
  .rename_i hu;rw[St.get_eq];exact NP S.sl 0 h u (by omega)
 fr:=by
  intro h;simp only[lJ,bI,oa]at h;refine⟨h.1,fun u=>?_⟩;cases d with
  | none=>rw[St.get_eq];exact HI S.sl h.2 u
  | some d=>
   rw[AQ];split
   .rfl
   .rw[St.get_eq];exact HI S.sl h.2 u
theorem aaU{h:Array Obj}{S:St}{g:aA}(v:Value):qe h S g (Bn v) v:=by
 unfold Bn;split
 .simp only[qe,az];exact⟨_,rfl,rfl⟩
 .simp only[qe,az];exact⟨_,rfl,rfl⟩
 .simp only[qe,az];exact⟨_,rfl,rfl⟩
 .simp only[qe]
 .simp only[qe]
theorem ajP{h:Array Obj}{S:St}{g:aA}{a:AV}{v:Value}(x:qe h S g a v):qe h S g a.flat v:=by
 cases a with
 | cH b=>simp only[qe]at x;subst x;simp only[AV.flat,qe,az];exact⟨_,rfl,rfl⟩
 | _=>exact x
theorem ON{h:Array Obj}{S:St}{g:aA}{a:Act}{H:BS}(st:aE h S g a.tmps H)(x:Operand):qe h S g (ev S x) (a.eval x):=by
 cases x with
 | tmp t=>exact ajP (st.slots t)
 | const v=>exact aaU v
 | func f=>simp only[ev,qe,Act.eval];exact⟨[],rfl,by simp only[aO]⟩
 | global n=>simp only[ev,qe]
def EZ:List AV->List Nat->List AV
 | sl,[]=>sl
 | sl,t::ts=>EZ (sl.set t .undef) ts
theorem Mp:∀(ts:List Nat)(S:St),S.forget ts=⟨EZ S.sl ts,S.rt⟩
 | [],_=>rfl
 | t::ts,S=>by simp only[St.forget,EZ];rw[Mp ts,St.gl]
theorem Qs(d:Nat)(x v:AV):∀(ts:List Nat)(sl:List AV),(EZ (sl.set d x) ts).set d v=(EZ sl ts).set d v
 | [],sl=>by simp[EZ]
 | t::ts,sl=>by
  simp only[EZ];by_cases e:d=t
  .subst e;rw[AJ]
  .rw[List.set_comm _ _ e];exact Qs d x v ts _
theorem aE.oA{h:Array Obj}{g:aA}{tmps:Array Value}{H:BS}:∀(ts:List Nat){S:St},aE h S g tmps H->aE h (S.forget ts) g tmps H
 | [],_,st=>st
 | t::ts,_,st=>aE.oA ts (st.forget t)
section
variable (C:Ctx) (D:Den C)
def oc(ops:Array Oper)(S:St)(o:Oper):Option Bool:=
 match o.guard with
 | none=>some true
 | some (j,b)=>
  match S.get (lz ops j) with
  | .skip=>some false
  | .cH c=>some (c == b)
  | .val .bool c=>some (c == b)
  | _=>none
noncomputable def g8(hints:Hints)(id:Nat)(ops:Array Oper)(β:Bool)(S:St)(i:Nat)(o:Oper):Option (St×jL):=
 match oc ops S o with
 | some true=>((iM C D S (id * 256+i+1) (hints.share.contains (id,i)) o).dec β).map fun x=>(fin ops ⟨S.sl,x.2⟩ i o x.1,jI C ops S (id * 256+i+1) i o x.1 x.2)
 | some false=>some (fin ops S i o .skip,oO ops S (id * 256+i+1) i o)
 | none=>none
end
def vB(np:List Nat)(a a':Act):Prop:=∀t,t∈np->a'.tmps.getD t Go.undef=a.tmps.getD t Go.undef
theorem vB.refl(np:List Nat)(a:Act):vB np a a:=fun _ _=>rfl
theorem vB.trans{np:List Nat}{a b c:Act}(h:vB np a b)(k:vB np b c):vB np a c:=fun t ht=>(k t ht).trans (h t ht)
theorem vB.put{np:List Nat}{a:Act}{d:Option Nat}{v:Value}(h:∀d',d=some d'->d'∉np):vB np a (a.put d v):=by
 intro t ht;cases d with
 | none=>rfl
 | some d=>have:=h d rfl;simp only[Act.put,pE,FO];rw[af (by rintro rfl;exact this ht)]
section
variable {P:Program} {C:Ctx} {D:Den C} {S:St} {g:aA} {w:World} {a:Act} {np:List Nat}
variable (bn:iD P C) (dy:ow P C D) (st:aE w.heap S g a.tmps Nil)
include bn dy st
theorem Oe{ops:Array Oper}{i:Nat}{o:Oper}{rt':aP}{g':aA}{h':Array Obj}{v:AV}{val:Value}(st':aE h' ⟨(S.blank o.dst).sl,rt'⟩ g' a.tmps Nil)
  (x:qe h' ⟨(S.blank o.dst).sl,rt'⟩ g' v val):aE h' (fin ops ⟨S.sl,rt'⟩ i o v) g' (a.put o.dst val).tmps Nil:=by
 have s1:=aE.oA (sJ ops i o) st';have e1:=Mp (sJ ops i o) (⟨(S.blank o.dst).sl,rt'⟩:St);unfold fin uQ;cases hd:o.dst with
 | none=>rw[hd]at s1;simp only[Act.put];exact s1
 | some d=>
  rw[hd]at s1 x e1;have x1:qe h' ((⟨(S.blank (some d)).sl,rt'⟩:St).forget (sJ ops i o)) g' v val:=by have vH:=st';rw[hd]at vH;exact qe.gH vH (by rw[e1]) x
  have s2:=s1.tU d x1;simp only[Act.put];have e2:(((⟨(S.blank (some d)).sl,rt'⟩:St).forget (sJ ops i o)).set d v)=(((⟨S.sl,rt'⟩:St).forget (sJ ops i o)).set d v):=by rw[Mp,Mp];simp only[St.gl,St.blank,St.mk.injEq,iQ];exact Qs d _ _ _ _
  rw[e2]at s2;exact s2
theorem acU{ops:Array Oper}{o:Oper}{b:Bool}(hj:∀j c,o.guard=some (j,c)->∃oj t,ops[j]? = some oj/\oj.dst=some t)(hg:oc ops S o=some b):Region.wanted o (yielded ops a.tmps)=b:=by
 unfold oc at hg;unfold Region.wanted;cases hgd:o.guard with
 | none=>rw[hgd]at hg;simp only[aK]at hg;exact hg
 | some jc=>
  obtain⟨j,c⟩:=jc;rw[hgd]at hg;obtain⟨oj,t,h1,h2⟩:=hj j c hgd;have hd:lz ops j=t:=by simp[lz,h1,h2]
  have hs:=st.slots t;simp only at hg⊢;rw[hd]at hg;have hy:yielded ops a.tmps j=match a.tmps.getD t Go.undef with | .bool b=>some b | _=>none:=by
   simp only[yielded,h1,h2,dF,pE];cases hq:a.tmps[t]? with
   | none=>simp[Go.undef]
   | some q=>cases q<;>simp
  rw[hy];cases hS:S.get t with
  | skip=>rw[hS]at hg hs;simp only[qe]at hs;simp only[aK]at hg;subst hg;rw[hs];rfl
  | cH q=>rw[hS]at hg hs;simp only[qe]at hs;simp only[aK]at hg;subst hg;rw[hs];cases q<;>cases c<;>rfl
  | val t x=>
   rw[hS]at hg hs;cases t with
   | bool=>simp only[aK]at hg;subst hg;rw[A6 hs];cases x<;>cases c<;>rfl
   | _=>simp at hg
  | _=>rw[hS]at hg;simp at hg
theorem NT{Q:Exit->Act->World->Prop}{hints:Hints}{id:Nat}{ops:Array Oper}{i:Nat}{o:Oper}(hi:ops[i]? = some o)(hj:∀j c,o.guard=some (j,c)->∃oj t,ops[j]? = some oj/\oj.dst=some t)
  (hdf:a.defers=[]) (hnp:∀d,o.dst=some d->d∉np) (ht:∀β,∃x,g8 C D hints id ops β S i o=some x) {K:Act->World->Prop}
  (hK:∀β S' e a' w' g',g8 C D hints id ops β S i o=some (S',e)->aE w'.heap S' g' a'.tmps Nil->g'.cT g->kK g.L w w'->a'.defers=[]->vB np a a'->K a' w'):wpOp P ops Q i K a w:=by
 obtain⟨x0,hx0⟩:=ht true;unfold wpOp;simp only[hi];cases hg:oc ops S o with
 | none=>unfold g8 at hx0;rw[hg]at hx0;simp at hx0
 | some b=>
  rw[acU bn dy st hj hg];cases b with
  | false=>
   simp only[fe,dX];have hst:g8 C D hints id ops true S i o=some (fin ops S i o .skip,oO ops S (id * 256+i+1) i o):=by unfold g8;rw[hg]
   refine hK true _ _ (a.put o.dst Go.undef) w g hst ?_ (.refl g) (.refl _ _) ?_ (.put hnp)
   .have s0:aE w.heap ⟨(S.blank o.dst).sl,S.rt⟩ g a.tmps Nil:=by
     cases hd:o.dst with
     | none=>exact st
     | some d=>exact st.forget d
    exact Oe bn dy st s0 (by simp only[qe])
   .cases o.dst<;>exact hdf
  | true=>
   simp only[aX];refine .inl ?_;have s0:aE w.heap (S.blank o.dst) g a.tmps Nil:=by
    cases hd:o.dst with
    | none=>exact st
    | some d=>exact st.forget d
   have si:(S.blank o.dst).rt=S.rt:=by cases o.dst<;>rfl
   have hρ:∀x,qe w.heap (S.blank o.dst) g (ev S x) (a.eval x):=fun x=>qe.gH st si (ON st x);have hstep:∀β,g8 C D hints id ops β S i o=((iM C D S (id * 256+i+1) (hints.share.contains (id,i)) o).dec β).map fun x=>(fin ops ⟨S.sl,x.2⟩ i o x.1,jI C ops S (id * 256+i+1) i o x.1 x.2):=by intro β;unfold g8;rw[hg]
   have htot:b6 (aW C D (lJ S.sl o.dst (id * 256+i+1)) (ev S) (S.blank o.dst).rt (id * 256+i+1) (hints.share.contains (id,i)) o):=by intro β;obtain⟨x,hx⟩:=ht β;rw[hstep]at hx;simp only[fo]at hx;obtain⟨y,hy,_⟩:=hx;rw[si];exact⟨y,hy⟩
   have hres:=acw bn dy s0 hρ (ajV S o.dst (id * 256+i+1)) htot;have hout:∀val w',r5 (S.blank o.dst) g w a.tmps (aW C D (lJ S.sl o.dst (id * 256+i+1)) (ev S) (S.blank o.dst).rt (id * 256+i+1) (hints.share.contains (id,i)) o) val w'->K (a.put o.dst val) w':=by rintro val w' ⟨β,v,rt',hd,g',p1,p2,p3,p4⟩;rw[si]at hd;refine hK β (fin ops ⟨S.sl,rt'⟩ i o v) _ _ w' g' (by rw[hstep];unfold iM;rw[hd];rfl) (Oe bn dy st p1 p2) p3 p4 ?_ (.put hnp);cases o.dst<;>exact hdf
   unfold Oper.wp;revert hres;generalize (execOp a.eval o).run P w=r;intro hres;unfold fB at hres;split at hres
   .exact hout _ _ hres
   .exact hout _ _ hres
   .refine Calls.mono hres ?_;rintro e w'' he;cases e with
    | returned val=>exact hout _ _ he
    | panicked _=>exact he.elim
    | outgrown=>exact he.elim
   .exact hres.elim
end
end
section
variable (C:Ctx) (D:Den C)
noncomputable def eO(hints:Hints)(id:Nat)(ops:Array Oper):List Bool->List (Nat×Oper)->St->Option (St×Log)
 | _,[],S=>some (S,[])
 | βs,(i,o)::l,S=>(g8 C D hints id ops (βs.headD true) S i o).bind fun x=>(eO hints id ops βs.tail l x.1).map fun y=>(y.1,x.2::y.2)
end
structure fD (S T:St):Prop where
 rt:T.rt=S.rt
 len:T.sl.length=S.sl.length
 get:∀t,T.get t=S.get t\/∃b,S.get t=.cH b/\T.get t=.val .bool b
theorem fD.refl(S:St):fD S S:=⟨rfl,rfl,fun _=>.inl rfl⟩
theorem fD.flat{S T:St}(h:fD S T)(t:Nat):(T.get t).flat=(S.get t).flat:=by
 rcases h.get t with e | ⟨b,e1,e2⟩
 .rw[e]
 .rw[e1,e2];rfl
theorem fD.ev{S T:St}(h:fD S T):ev T=ev S:=by
 funext x;cases x with
 | tmp t=>exact h.flat t
 | _=>rfl
theorem fD.roots{S T:St}(h:fD S T)(t:Nat):(T.get t).roots=(S.get t).roots:=by
 rcases h.get t with e | ⟨b,e1,e2⟩
 .rw[e]
 .rw[e1,e2];rfl
theorem fD.stamps{S T:St}(h:fD S T)(t:Nat):(T.get t).stamps=(S.get t).stamps:=by
 rcases h.get t with e | ⟨b,e1,e2⟩
 .rw[e]
 .rw[e1,e2];rfl
theorem Ql(s:Nat):∀(l l2:List AV),l2.length=l.length->(∀k,(l2.getD k .undef).aR s (s+1)=(l.getD k .undef).aR s (s+1))->Jm s l2=Jm s l
 | [],[],_,_=>rfl
 | [],_::_,h,_=>by simp at h
 | _::_,[],h,_=>by simp at h
 | v::l,u::l2,h,hk=>by
  have h0:=hk 0;simp only[uS]at h0;simp only[Jm];rw[h0,Ql s l l2 (by simpa using h) (fun k=>by have:=hk (k+1);simpa [List.getD] using this)]
theorem M_{sl DL:List AV}(d:Option Nat)(s:Nat)(hl:DL.length=sl.length)(hr:∀d',d=some d'->∀k,k≠d'->(DL.getD k .undef).roots.contains d'=(sl.getD k .undef).roots.contains d')
  (hp:∀d',d=some d'->∀k,k≠d'->(DL.getD k .undef).gK d'=(sl.getD k .undef).gK d') (hs:∀k,(DL.getD k .undef).aR s (s+1)=(sl.getD k .undef).aR s (s+1)):lJ DL d s=lJ sl d s:=by
 have hf:=Ql s sl DL hl hs;cases d with
 | none=>simp only[lJ,hf]
 | some d=>
  have hm:∀(l l2:List AV)(i:Nat),l2.length=l.length->(∀k,i+k≠d->(l2.getD k .undef).roots.contains d=(l.getD k .undef).roots.contains d)->sD d i l2=sD d i l:=by
   intro l
   induction l with
   | nil=>intro l2 i h _;cases l2 with
    | nil=>rfl
    | cons _ _=>simp at h
   | cons v l ih=>
    intro l2 i h hk;cases l2 with
    | nil=>simp at h
    | cons u l2=>
     simp only[sD];rw[ih l2 (i+1) (by simpa using h) (fun k um=>by have:=hk (k+1) (by omega);simpa [List.getD] using this)];by_cases e:i=d
     .subst e;simp
     .have:=hk 0 (by omega);simp only[uS]at this;rw[this]
  have uu:∀(l l2:List AV)(i:Nat),l2.length=l.length->(∀k,i+k≠d->(l2.getD k .undef).gK d=(l.getD k .undef).gK d)->Fe d i l2=Fe d i l:=by
   intro l
   induction l with
   | nil=>intro l2 i h _;cases l2 with
    | nil=>rfl
    | cons _ _=>simp at h
   | cons v l ih=>
    intro l2 i h hk;cases l2 with
    | nil=>simp at h
    | cons u l2=>
     simp only[Fe];rw[ih l2 (i+1) (by simpa using h) (fun k um=>by have:=hk (k+1) (by omega);simpa [List.getD] using this)];by_cases e:i=d
     .subst e;simp
     .have:=hk 0 (by omega);simp only[uS]at this;rw[this]
  simp only[lJ,hf];rw[hm sl DL 0 hl (fun k h=>hr d rfl k (by omega)),uu sl DL 0 hl (fun k h=>hp d rfl k (by omega))]
theorem fD.asks{S T:St}(h:fD S T)(d:Option Nat)(s:Nat):lJ T.sl d s=lJ S.sl d s:=by
 refine M_ d s h.len (fun d' _ k _=>?_) (fun d' _ k _=>?_) (fun k=>?_)
 .have:=h.roots k;simp only[St.get_eq]at this;rw[this]
 .rcases h.get k with e | ⟨b,e1,e2⟩
  .simp only[St.get_eq]at e;rw[e]
  .simp only[St.get_eq]at e1 e2;rw[e1,e2];rfl
 .rcases h.get k with e | ⟨b,e1,e2⟩
  .simp only[St.get_eq]at e;rw[e]
  .simp only[St.get_eq]at e1 e2;rw[e1,e2];rfl
theorem fD.set{S T:St}(h:fD S T)(t:Nat)(v:AV):fD (S.set t v) (T.set t v) where
 rt:=h.rt
 len:=by simp[St.gl,h.len]
 get:=by
  intro u;rw[St.gv,St.gv,h.len];by_cases e:u=t/\t<S.sl.length
  .rw[ak e,ak e];exact .inl rfl
  .rw[af e,af e];exact h.get u
theorem fD.forget{S T:St}(h:fD S T):∀ts:List Nat,fD (S.forget ts) (T.forget ts):=by
 intro ts
 induction ts generalizing S T with
 | nil=>exact h
 | cons t ts ih=>exact ih (h.set t .undef)
theorem fD.Jx{S T:St}(h:fD S T)(rt:aP):fD ⟨S.sl,rt⟩ ⟨T.sl,rt⟩:=⟨rfl,h.len,h.get⟩
theorem fD.fin{S T:St}(h:fD S T)(ops:Array Oper)(i:Nat)(o:Oper)(v:AV):fD (fin ops S i o v) (fin ops T i o v):=by
 unfold V.fin uQ;cases o.dst with
 | none=>exact h.forget _
 | some d=>exact(h.forget _).set d v
theorem fD.dS{S T:St}(h:fD S T):∀ts,dS T ts=dS S ts
 | []=>rfl
 | t::ts=>by simp only[V.dS];rw[h.roots,fD.dS h ts]
theorem fD.cU{S T:St}(h:fD S T):∀ts,cU T ts=cU S ts
 | []=>rfl
 | t::ts=>by simp only[V.cU];rw[h.stamps,fD.cU h ts]
section
variable {C:Ctx} {D:Den C}
theorem fD.iM{S T:St}(h:fD S T)(site:Nat)(hint:Bool)(o:Oper):iM C D T site hint o=iM C D S site hint o:=by unfold V.iM;rw[h.asks,h.ev,h.rt]
theorem fD.gX{S T:St}(h:fD S T)(ops:Array Oper)(site i:Nat)(o:Oper)(v:AV)(rt':aP):jI C ops T site i o v rt'=jI C ops S site i o v rt':=by unfold jI uO;rw[h.ev,h.dS,h.cU,h.rt]
theorem fD.skip{S T:St}(h:fD S T)(ops:Array Oper)(site i:Nat)(o:Oper):oO ops T site i o=oO ops S site i o:=by unfold oO;rw[h.dS,h.cU]
theorem NS{hints:Hints}{id:Nat}{ops:Array Oper}{S T:St}(h:fD S T){i:Nat}{o:Oper}{β:Bool}(hg:oc ops T o=some true){x:AV×aP}
  (hd:(iM C D S (id * 256+i+1) (hints.share.contains (id,i)) o).dec β=some x) :
  g8 C D hints id ops β T i o=some (fin ops ⟨T.sl,x.2⟩ i o x.1,jI C ops S (id * 256+i+1) i o x.1 x.2)/\fD (fin ops ⟨S.sl,x.2⟩ i o x.1) (fin ops ⟨T.sl,x.2⟩ i o x.1):=by
 refine⟨?_,(h.Jx x.2).fin ops i o x.1⟩;unfold g8;rw[hg,h.iM,hd,<-h.gX];rfl
theorem Si{hints:Hints}{id:Nat}{ops:Array Oper}{S T:St}(h:fD S T){i:Nat}{o:Oper}{β:Bool}(hg:oc ops T o=some false) :
  g8 C D hints id ops β T i o=some (fin ops T i o .skip,oO ops S (id * 256+i+1) i o)/\fD (fin ops S i o .skip) (fin ops T i o .skip):=by
 refine⟨?_,h.fin ops i o .skip⟩;unfold g8;rw[hg,<-h.skip]
end
section
variable {P:Program} {C:Ctx} {D:Den C} (bn:iD P C) (dy:ow P C D)
include bn dy
theorem Oo{np:List Nat}{Q:Exit->Act->World->Prop}{hints:Hints}{id:Nat}{ops:Array Oper}(hj:∀(i:Nat) o j c,ops[i]? = some o->o.guard=some (j,c)->∃oj t,ops[j]? = some oj/\oj.dst=some t) :
  ∀(l:List (Nat×Oper))(S:St)(g:aA)(a:Act)(w:World),(∀x∈l,ops[x.1]? = some x.2)->(∀x∈l,∀d,x.2.dst=some d->d∉np)->aE w.heap S g a.tmps Nil->a.defers=[]->(∀βs,∃x,eO C D hints id ops βs l S=some x)->
   (∀βs S' lg a' w' g',eO C D hints id ops βs l S=some (S',lg)->aE w'.heap S' g' a'.tmps Nil->g'.cT g->kK g.L w w'->a'.defers=[]->vB np a a'->Q .normal a' w')->wpOps P ops Q (l.map (·.1)) a w
 | [],S,g,a,w,hl,hnp,st,hdf,ht,hQ=>by
  simp only[f4,wpOps];exact hQ [] S [] a w g rfl st (.refl g) (.refl _ _) hdf (.refl _ _)
 | (i,o)::l,S,g,a,w,hl,hnp,st,hdf,ht,hQ=>by
  simp only[cA];rw[wpOps_cons];have hi:=hl (i,o) e8;refine NT bn dy st (hints:=hints) (id:=id) hi (fun j c=>hj i o j c hi) hdf (hnp (i,o) e8) (fun β=>?_) ?_
  .obtain⟨x,hx⟩:=ht [β];simp only[eO,sG,cM]at hx;obtain⟨y,hy,_⟩:=hx;exact⟨y,hy⟩
  .intro β S' e a' w' g' hs st' iL hfr iJ oD;refine Oo (hints:=hints) (id:=id) hj l S' g' a' w' (fun x hx=>hl x (cG _ hx)) (fun x hx=>hnp x (cG _ hx)) st' iJ (fun βs=>?_) ?_
   .obtain⟨x,hx⟩:=ht (β::βs);simp only[eO,sG,FY,cM]at hx;obtain⟨y,hy,hx⟩:=hx;rw[hs]at hy;simp only[aK]at hy;subst hy;simp only[fo]at hx;obtain⟨z,hz,_⟩:=hx;exact⟨z,hz⟩
   .intro βs wJ lg JB w'' tZ hr vH xp qB wX w5;refine hQ (β::βs) wJ (e::lg) JB w'' tZ ?_ vH (iL.trans xp) (hfr.trans (by rw[iL.2.1]at qB;exact qB)) wX (oD.trans w5);simp only[eO,sG,FY,hs,dF,hr,ef]
end
end Go.V
namespace Go.V
noncomputable section
open Go
section
variable {C:Ctx} {D:Den C}
theorem B9{α:Type}{x:Option α}{f:α->AV}{S:aP}{β:Bool}{v:AV}{rt':aP}(h:(Tr.of (x.map fun v=>(f v,S))).dec β=some (v,rt')):rt'=S:=by
 cases x with
 | none=>simp[Tr.of,Tr.dec]at h
 | some y=>simp only[ef,Tr.of,Tr.dec,aK,aY]at h;exact h.2.symm
theorem adl{A:bY}{ρ:Operand->AV}{S:aP}{site:Nat}{hint:Bool}{o:Oper}(hT:pN o=true){β:Bool}{v:AV}{rt':aP}(h:(aW C D A ρ S site hint o).dec β=some (v,rt')):rt'=S:=by
 cases ho:o.op with
 | move x=>simp only[aW,ho,Tr.dec,aK,aY]at h;exact h.2.symm
 | pick c a b=>
  simp only[aW,ho]at h;split at h
  .rename_i c' _;cases c'<;>(simp only[Tr.dec,aK,aY]at h;exact h.2.symm)
  .simp[Tr.dec]at h
 | unOp op t x=>
  simp only[aW,ho]at h;split at h
  .simp only[Tr.dec,aK,aY]at h;exact h.2.symm
  .simp only[Tr.dec,aK,aY]at h;exact h.2.symm
  .simp[Tr.dec]at h
 | fieldAddr t x f=>simp only[aW,ho]at h;exact B9 (f:=fun v=>v) h
 | field t x f=>
  simp only[aW,ho]at h;split at h
  .split at h
   .split at h
    .simp only[Tr.dec,aK,aY]at h;exact h.2.symm
    .simp[Tr.dec]at h
   .simp[Tr.dec]at h
  .simp[Tr.dec]at h
 | load t x=>
  simp only[aW,ho]at h;split at h
  .exact B9 (f:=fun v=>v) h
  .simp[Tr.dec]at h
 | extract x i=>simp only[aW,ho]at h;exact B9 (f:=fun v=>v) h
 | binOp op t x y t2=>
  simp only[aW,ho]at h;split at h
  .split at h
   .simp only[Tr.dec,aK,aY]at h;exact h.2.symm
   .simp only[Tr.dec,aK,aY]at h;exact h.2.symm
   .simp[Tr.dec]at h
  .exact(RR (T:=kL (C.ty t) op (ρ x) (ρ y)) (S:=S) (β:=β) (v:=v) (rt:=rt') (by unfold Ca;exact h)).2
 | call c=>
  cases hc:c.callee with
  | builtin b=>
   cases b with
   | len=>
    simp only[aW,ho,hc]at h;split at h<;>first
     | (simp only[Tr.dec,aK,aY]at h;exact h.2.symm)
     | exact B9 (f:=fun n=>AV.val (Ty.int IntKind.i64) n) h
     | (exfalso;contradiction)
     | (exfalso;revert h;simp only[Tr.dec];intro h;contradiction)
   | _=>simp[pN,ho,hc]at hT
  | _=>simp[pN,ho,hc]at hT
 | _=>simp[pN,ho]at hT
theorem abm{A:bY}{ρ:Operand->AV}{S:aP}{site:Nat}{h1 h2:Bool}{o:Oper}(hT:pN o=true):aW C D A ρ S site h1 o=aW C D A ρ S site h2 o:=by
  cases ho:o.op with
  | call c=>
    cases hc:c.callee with
    | builtin b=>
      cases b with
      | len=>
        simp only[aW,ho,hc];generalize List.map ρ c.args.toList=l1;generalize List.map C.ty c.argTypes.toList=l2;rcases l1 with _ | ⟨x,_ | ⟨y,l⟩⟩
        . rfl
        . rcases l2 with _ | ⟨t,l2⟩
          . cases x with
            | val ty s=>cases ty<;>rfl
            | _=>rfl
          . cases x with
            | val ty s=>cases ty<;>cases t<;>rfl
            | _=>cases t<;>rfl
        . rcases l with _ | ⟨z,l⟩<;>rcases l2 with _ | ⟨t,_ | ⟨t',l2⟩⟩<;>first
            | rfl
            | (cases t<;>first | rfl | (cases t'<;>rfl))
            | (cases x with
               | val ty s=>cases ty<;>first | rfl | (cases t<;>first | rfl | (cases t'<;>rfl))
               | _=>first | rfl | (cases t<;>first | rfl | (cases t'<;>rfl)))
      | _=>simp[pN,ho,hc]at hT
    | _=>simp[pN,ho,hc]at hT
  | _=>first | (simp[pN,ho]at hT;done) | simp only[aW,ho]
theorem GI:∀(ts:List Nat)(S:St)(u:Nat),(S.forget ts).get u=if u∈ts then .undef else S.get u
 | [],S,u=>by simp[St.forget]
 | t::ts,S,u=>by
  simp only[St.forget,GI ts,bk];have:=AQ S t u;simp only[St.blank]at this;rw[this];by_cases h1:u∈ts
  .simp[h1]
  .by_cases h2:u=t<;>simp[h1,h2]
theorem GJ(ts:List Nat)(S:St):(S.forget ts).sl.length=S.sl.length:=by
 induction ts generalizing S with
 | nil=>rfl
 | cons t ts ih=>simp only[St.forget];rw[ih];simp[St.gl]
theorem Rv(ts:List Nat)(S:St):(S.forget ts).rt=S.rt:=by rw[Mp]
theorem zW(ops:Array Oper)(S:St)(i:Nat)(o:Oper)(v:AV)(u:Nat) :
  (fin ops S i o v).get u=if o.dst=some u/\u<S.sl.length then v else if u∈sJ ops i o then .undef else S.get u:=by
 unfold fin uQ;cases hd:o.dst with
 | none=>simp[GI]
 | some d=>
  rw[St.gv,GI,GJ];by_cases e:u=d
  .subst e;simp
  .have:¬ d=u:=fun h=>e h.symm;simp[e,this]
theorem oQ(ops:Array Oper)(S:St)(i:Nat)(o:Oper)(v:AV):(fin ops S i o v).rt=S.rt:=by
 unfold fin uQ;cases o.dst with
 | none=>exact Rv _ _
 | some d=>exact Rv _ _
theorem J5(ops:Array Oper)(S:St)(i:Nat)(o:Oper)(v:AV):(fin ops S i o v).sl.length=S.sl.length:=by
 unfold fin uQ;cases o.dst with
 | none=>exact GJ _ _
 | some d=>simp only[St.gl,b9];exact GJ _ _
theorem Gf{hints:Hints}{id:Nat}{ops:Array Oper}{β:Bool}{S S':St}{i:Nat}{o:Oper}{e:jL}(h:g8 C D hints id ops β S i o=some (S',e)){u:Nat}(hu:u∉jG ops i o) :
  S'.get u=S.get u/\S'.sl.length=S.sl.length/\(pN o=true->S'.rt=S.rt):=by
 have hn:¬ (o.dst=some u):=fun h=>hu (by simp[jG,h]);have hn2:u∉sJ ops i o:=fun h=>hu (by simp[jG,h]);unfold g8 at h;split at h
 .simp only[fo,aY]at h;obtain⟨x,hx,rfl,_⟩:=h;refine⟨?_,?_,fun ht=>?_⟩
  .rw[zW,af (fun h=>hn h.1),af hn2];rfl
  .rw[J5]
  .rw[oQ];exact adl ht hx
 .simp only[aK,aY]at h;obtain⟨rfl,_⟩:=h;refine⟨?_,?_,fun ht=>?_⟩
  .rw[zW,af (fun h=>hn h.1),af hn2]
  .rw[J5]
  .rw[oQ]
 .simp at h
theorem Rb{hints:Hints}{id:Nat}{ops:Array Oper}{Dd:List Nat}:∀(l:List (Nat×Oper))(βs:List Bool)(S S':St)(lg:Log),eO C D hints id ops βs l S=some (S',lg)->
  (∀x∈l,pN x.2=true/\∀u∈jG ops x.1 x.2,u∈Dd)->(∀u,u∉Dd->S'.get u=S.get u)/\S'.rt=S.rt/\S'.sl.length=S.sl.length
 | [],βs,S,S',lg,h,_=>by
  simp only[eO,aK,aY]at h;obtain⟨rfl,_⟩:=h;exact⟨fun _ _=>rfl,rfl,rfl⟩
 | (i,o)::l,βs,S,S',lg,h,hl=>by
  simp only[eO,cM,fo,aY]at h;obtain⟨⟨S1,e⟩,hs,⟨S2,JR⟩,hr,rfl,_⟩:=h;obtain⟨ht,ho⟩:=hl (i,o) e8;obtain⟨k1,k2,k3⟩:=Rb l βs.tail S1 S2 JR hr (fun x hx=>hl x (cG _ hx));have hex:∃u,u∉jG ops i o:=by
   refine⟨(jG ops i o).foldr max 0+1,fun h=>?_⟩;have:∀(l:List Nat)(u:Nat),u∈l->u<=l.foldr max 0:=by
    intro l
    induction l with
    | nil=>intro u h;simp at h
    | cons a l ih=>
     intro u h;simp only[FV];rcases bk.1 h with rfl | h
     .exact Nat.le_max_left _ _
     .exact nN (ih u h) (Nat.le_max_right _ _)
   have:=this _ _ h;omega
  obtain⟨u0,hu0⟩:=hex;obtain⟨_,f2,f3⟩:=Gf hs hu0;exact⟨fun u hu=>(k1 u hu).trans (Gf hs (fun h=>hu (ho u h))).1,k2.trans (f3 ht),k3.trans f2⟩
theorem Ge{hints:Hints}{id:Nat}{ops:Array Oper}:∀(l1 l2:List (Nat×Oper))(βs:List Bool)(S:St),
  eO C D hints id ops βs (l1++l2) S=(eO C D hints id ops βs l1 S).bind fun x=>(eO C D hints id ops (βs.drop l1.length) l2 x.1).map fun y=>(y.1,x.2++y.2)
 | [],l2,βs,S=>by simp[eO]
 | (i,o)::l1,l2,βs,S=>by
  simp only[fH,eO];cases hs:g8 C D hints id ops (βs.headD true) S i o with
  | none=>simp
  | some x=>
   simp only[dF];rw[Ge l1 l2 βs.tail x.1];cases hr:eO C D hints id ops βs.tail l1 x.1 with
   | none=>simp
   | some y=>
    simp only[dF,ef,cw];have:βs.tail.drop l1.length=βs.drop (l1.length+1):=by cases βs<;>simp
    rw[this];cases eO C D hints id ops (βs.drop (l1.length+1)) l2 y.1<;>simp
theorem ajN{S:St}{x:Operand}{b:Bool}(h:V.asBool (ev S x)=some b):ev S x=.val .bool b:=by
 cases x with
 | tmp t=>
  simp only[ev]at h⊢;cases hS:S.get t with
  | val t y=>rw[hS]at h;cases t<;>simp[AV.flat,V.asBool]at h;subst h;rfl
  | cH c=>rw[hS]at h;simp[AV.flat,V.asBool]at h;subst h;rfl
  | _=>rw[hS]at h;simp[AV.flat,V.asBool]at h
 | const v=>simp only[ev]at h⊢;unfold Bn at h⊢;split at h<;>simp[V.asBool]at h;subst h;rfl
 | _=>simp[ev,V.asBool]at h
def OH(C:Ctx)(D:Den C)(hints:Hints)(id:Nat)(ops:Array Oper)(rq:List (Nat×Oper)->St->Log->Option (St×Log)):Prop:=
 ∀l S lg S1 gJ,rq l S lg=some (S1,gJ)->(∀x∈l,pN x.2=true)->∀T,fD S T->∀βs,∃T1 gr,eO C D hints id ops βs l T=some (T1,gr)/\fD S1 T1/\(∀e∈gr,e∈gJ)/\(∀e∈lg,e∈gJ)
theorem MZ{t:Nat}:∀(l:List (Nat×Oper)){seg:List (Nat×Oper)}{x:Nat×Oper}{rest:List (Nat×Oper)},My t l=some (seg,x,rest)->l=seg++x::rest/\IL t x.2=true
 | [],_,_,_,h=>by simp[My]at h
 | y::l,seg,x,rest,h=>by
  simp only[My]at h;split at h
  .rename_i hp;simp only[aK,aY]at h;obtain⟨rfl,rfl,rfl⟩:=h;exact⟨rfl,hp⟩
  .split at h
   .rename_i z hz;obtain⟨z1,z2,z3⟩:=z;simp only[aK,aY]at h;obtain⟨rfl,rfl,rfl⟩:=h;obtain⟨e,hp⟩:=MZ l hz;exact⟨by rw[e];rfl,hp⟩
   .simp at h
theorem NH{hints:Hints}{id:Nat}{ops:Array Oper}{rq:List (Nat×Oper)->St->Log->Option (St×Log)}(X_:OH C D hints id ops rq){t:Nat}{c:Bool}{l rest:List (Nat×Oper)}{S S':St}{lg EG:Log}
  (h:BJ C ops id rq t c l S lg=some (S',EG,rest)) (Lf:S.get t=.val .bool c) {T:St} (hs:fD S T) (βs:List Bool) :
  ∃seg i o T' gr,l=seg++(i,o)::rest/\eO C D hints id ops βs (seg++[(i,o)]) T=some (T',gr)/\fD S' T'/\(∀e∈gr,e∈EG)/\(∀e∈lg,e∈EG)/\pN o=true:=by
 unfold BJ at h;split at h
 .rename_i seg i o rest' hsp;obtain⟨hl,hpick⟩:=MZ l hsp;simp only at h;split at h
  .rename_i hc;simp only[bI,qS,kB]at hc;obtain⟨⟨jN,g_⟩,rO⟩:=hc;split at h
   .rename_i cc a b S1 l1 S2 l2 hop h1 h2;split at h
    .rename_i x y hx hy;simp only[aK,aY]at h;obtain⟨rfl,rfl,rfl⟩:=h;have vQ:T.get t=.val .bool c:=by
      rcases hs.get t with e | ⟨b,e1,_⟩
      .rw[e];exact Lf
      .rw[Lf]at e1;simp at e1
     have htl:t<S.sl.length:=by
      rcases B0 t S.sl.length with h | h
      .exact h
      .simp only[St.get_eq,List.getD]at Lf;rw[pF h]at Lf;simp at Lf
     have qD:fD (S.set t (.cH c)) T:=by
      refine⟨hs.rt,by simp[St.gl,hs.len],fun u=>?_⟩;rw[St.gv];by_cases e:u=t
      .subst e;rw[ak ⟨rfl,htl⟩];exact .inr ⟨c,rfl,vQ⟩
      .rw[af (fun h=>e h.1)];exact hs.get u
     have mj:cc=.tmp t:=by
      unfold IL at hpick;rw[hop]at hpick;split at hpick
      .rename_i c' _ _ he;simp only[Op.pick.injEq]at he;rw[he.1];rw[mS hpick]
      .simp at hpick
     have L1:∀x∈seg,pN x.2=true/\∀u∈jG ops x.1 x.2,u∈sJ ops i o:=by intro z hz;have:=jN z hz;exact⟨this.1,fun u hu=>by have:=this.2 u hu;simpa using this⟩
     -- zf way al2 is gone
     have key:∀(Sc:St)(lc:Log),rq seg (S.set t (.cH c)) []=some (Sc,lc)->∀z,V.asBool (ev Sc (if c then a else b))=some z->
       ∃T' gr,eO C D hints id ops βs (seg++[(i,o)]) T=some (T',gr)/\fD (fin ops S i o (.val .bool z)) T'/\∀e∈gr,e∈lc\/e=jI C ops Sc (id * 256+i+1) i o (.val .bool z) Sc.rt:=by
      intro Sc lc hr z hz;obtain⟨T1,gr,k1,k2,k3,_⟩:=X_ seg _ _ Sc lc hr (fun x hx=>(L1 x hx).1) T qD βs;obtain⟨f1,f2,f3⟩:=Rb seg βs T T1 gr k1 L1;have htD:t∉sJ ops i o:=by simpa using rO
      have Xk:T1.get t=.val .bool c:=by rw[f1 t htD];exact vQ
      have hg:oc ops T1 o=some true:=by
       unfold OC at g_;unfold oc;split at g_
       .rename_i hgd;rw[hgd]
       .rename_i j b' hgd;simp only[bI,kB]at g_;rw[hgd];simp only;have hjD:lz ops j∉sJ ops i o:=by simpa using g_.1
        rw[f1 _ hjD];have h5:=g_.2;split at h5
        .rename_i c' hS;rcases hs.get (lz ops j) with e | ⟨b2,e1,e2⟩
         .rw[e,hS];simp only[aK];exact h5
         .rw[e2];rw[hS]at e1;simp only[AV.cH.injEq]at e1;subst e1;simp only[aK];exact h5
        .simp at h5
      have XB:ev T1 (if c then a else b)=.val .bool z:=by rw[k2.ev];exact ajN hz
      have Xy:(iM C D T1 (id * 256+i+1) (hints.share.contains (id,i)) o).dec ((βs.drop seg.length).headD true)=some (.val .bool z,T1.rt):=by unfold iM;simp only[aW,hop,mj,ev,Xk,AV.flat,V.asBool];cases c<;>simp only[Tr.dec,aK,aY,iQ]<;>exact XB
      have hstep:g8 C D hints id ops ((βs.drop seg.length).headD true) T1 i o=some (fin ops T1 i o (.val .bool z),jI C ops Sc (id * 256+i+1) i o (.val .bool z) Sc.rt):=by unfold g8;rw[hg,Xy,<-k2.gX,<-k2.rt];rfl
      refine⟨fin ops T1 i o (.val .bool z),gr++[jI C ops Sc (id * 256+i+1) i o (.val .bool z) Sc.rt],?_,?_,?_⟩
      .rw[Ge,k1];simp only[dF,eO,hstep,ef]
      .refine⟨?_,?_,fun u=>?_⟩
       .rw[oQ,oQ,f2,hs.rt]
       .rw[J5,J5,f3,hs.len]
       .rw[zW,zW,f3,hs.len];by_cases h1:o.dst=some u/\u<S.sl.length
        .rw[ak h1,ak h1];exact .inl rfl
        .rw[af h1,af h1];by_cases h2:u∈sJ ops i o
         .rw[ak h2,ak h2];exact .inl rfl
         .rw[af h2,af h2,f1 u h2];exact hs.get u
      .intro e he;rcases bN.1 he with he | he
       .exact .inl (k3 e he)
       .exact .inr (by simpa using he)
     have htot:pN o=true:=by unfold pN;rw[hop]
     cases c with
     | true=>
      obtain⟨T',gr,k1,k2,k3⟩:=key S1 l1 h1 x (by simpa using hx);refine⟨seg,i,o,T',gr,hl,k1,k2,fun e he=>?_,fun e he=>?_,htot⟩
      .rcases k3 e he with h | rfl
       .simp[h]
       .simp
      .simp[he]
     | false=>
      obtain⟨T',gr,k1,k2,k3⟩:=key S2 l2 h2 y (by simpa using hy);refine⟨seg,i,o,T',gr,hl,k1,k2,fun e he=>?_,fun e he=>?_,htot⟩
      .rcases k3 e he with h | rfl
       .simp[h]
       .simp
      .simp[he]
    .simp at h
   .simp at h
  .simp at h
 .simp at h
end
end
section
variable {C:Ctx} {D:Den C}
theorem R9{hints:Hints}{id:Nat}{ops:Array Oper}{seg rest:List (Nat×Oper)}{x:Nat×Oper}{T T':St}{gr:Log}{βs:List Bool}
  (h:eO C D hints id ops βs (seg++[x]) T=some (T',gr)) :
  eO C D hints id ops βs (seg++x::rest) T=(eO C D hints id ops (βs.drop (seg.length+1)) rest T').map fun y=>(y.1,gr++y.2):=by
 have e:seg++x::rest=(seg++[x])++rest:=by simp
 rw[e,Ge,h];simp only[dF,cV,cw,gB]
theorem GW{ops:Array Oper}{S T:St}(h:fD S T){o:Oper}{j:Nat}{b c:Bool}(hg:o.guard=some (j,b))(hS:S.get (lz ops j)=.cH c\/S.get (lz ops j)=.val .bool c) :
  oc ops T o=some (c == b):=by
 unfold oc;rw[hg];simp only;rcases hS with hS | hS
 .rcases h.get (lz ops j) with e | ⟨c',e1,e2⟩
  .rw[e,hS]
  .rw[hS]at e1;simp only[AV.cH.injEq]at e1;subst e1;rw[e2]
 .rcases h.get (lz ops j) with e | ⟨c',e1,e2⟩
  .rw[e,hS]
  .rw[hS]at e1;simp at e1
theorem Q1{ops:Array Oper}{S T:St}(h:fD S T){o:Oper}{j:Nat}{b:Bool}(hg:o.guard=some (j,b))(hS:S.get (lz ops j)=.skip):oc ops T o=some false:=by
 unfold oc;rw[hg];simp only;rcases h.get (lz ops j) with e | ⟨c',e1,e2⟩
 .rw[e,hS]
 .rw[hS]at e1;simp at e1
theorem RS{ops:Array Oper}{T:St}{o:Oper}(hg:o.guard=none):oc ops T o=some true:=by unfold oc;rw[hg]
theorem xZ{hints:Hints}{id:Nat}{ops:Array Oper}:∀n,OH C D hints id ops (mN C D id ops n)
 | 0=>by intro l S lg S1 gJ h;simp[mN]at h
 | n+1=>by
  intro l S lg S1 gJ h hl T hs βs;cases l with
  | nil=>simp only[mN,aK,aY]at h;obtain⟨rfl,rfl⟩:=h;exact⟨T,[],rfl,hs,by simp,fun e he=>he⟩
  | cons x rest=>
   obtain⟨i,o⟩:=x;have htot:=hl (i,o) e8;have fS:∀x∈rest,pN x.2=true:=fun x hx=>hl x (cG _ hx);have rP:oc ops T o=some true->(match iM C D S (id * 256+i+1) false o with
     | .ret (v,rt')=>mN C D id ops n rest (fin ops ⟨S.sl,rt'⟩ i o v) (jI C ops S (id * 256+i+1) i o v rt'::lg)
     | _=>none)=some (S1,gJ)->∃T1 gr,eO C D hints id ops βs ((i,o)::rest) T=some (T1,gr)/\fD S1 T1/\(∀e∈gr,e∈gJ)/\(∀e∈lg,e∈gJ):=by
    intro hg h;split at h
    .rename_i v rt' hop;have Ev:(iM C D S (id * 256+i+1) (hints.share.contains (id,i)) o).dec (βs.headD true)=some (v,rt'):=by unfold iM at hop⊢;rw[abm htot (h2:=false),hop];rfl
     obtain⟨k1,k2⟩:=NS (hints:=hints) (id:=id) hs hg Ev;obtain⟨T1,gr,q1,q2,q3,q4⟩:=xZ (hints:=hints) n rest _ _ S1 gJ h fS _ k2 βs.tail;refine⟨T1,jI C ops S (id * 256+i+1) i o v rt'::gr,?_,q2,?_,fun e he=>q4 e (cG _ he)⟩
     .simp only[eO,k1,dF,q1,ef]
     .intro e he;rcases bk.1 he with rfl | he
      .exact q4 _ e8
      .exact q3 e he
    .simp at h
   have ni:oc ops T o=some false->mN C D id ops n rest (fin ops S i o .skip) (oO ops S (id * 256+i+1) i o::lg)=some (S1,gJ)->
     ∃T1 gr,eO C D hints id ops βs ((i,o)::rest) T=some (T1,gr)/\fD S1 T1/\(∀e∈gr,e∈gJ)/\(∀e∈lg,e∈gJ):=by
    intro hg h;obtain⟨k1,k2⟩:=Si (C:=C) (D:=D) (hints:=hints) (id:=id) (β:=βs.headD true) hs hg;obtain⟨T1,gr,q1,q2,q3,q4⟩:=xZ (hints:=hints) n rest _ _ S1 gJ h fS _ k2 βs.tail;refine⟨T1,oO ops S (id * 256+i+1) i o::gr,?_,q2,?_,fun e he=>q4 e (cG _ he)⟩
    .simp only[eO,k1,dF,q1,ef]
    .intro e he;rcases bk.1 he with rfl | he
     .exact q4 _ e8
     .exact q3 e he
   simp only[mN]at h;split at h
   .rename_i hgd;exact rP (RS hgd) h
   .rename_i j b hgd;split at h
    .rename_i hS;exact ni (Q1 hs hgd hS) h
    .rename_i c hS;have hg:=GW hs hgd (.inl hS);split at h
     .rename_i hcb;subst hcb;exact rP (by simpa using hg) h
     .rename_i hcb;exact ni (by rw[hg];simpa using hcb) h
    .rename_i c hS;split at h
     .rename_i S2 JR tS hj;obtain⟨seg,i2,o2,T',gr,e1,k1,k2,k3,k4,k5⟩:=NH (xZ (hints:=hints) n) hj hS hs βs;have Ey:∀x∈tS,pN x.2=true:=fun x hx=>hl x (by rw[e1];simp[hx]);obtain⟨T1,EH,q1,q2,q3,q4⟩:=xZ (hints:=hints) n tS _ _ S1 gJ h Ey _ k2 (βs.drop (seg.length+1));refine⟨T1,gr++EH,?_,q2,?_,fun e he=>q4 e (k4 e he)⟩
      .rw[e1,R9 k1,q1];rfl
      .intro e he;rcases bN.1 he with he | he
       .exact q4 e (k3 e he)
       .exact q3 e he
     .simp at h
    .simp at h
theorem Mr{R:Type}{r:R}{hints:Hints}{id:Nat}{ops:Array Oper}{k:Log->St->Option R}:∀(n:Nat)(l:List (Nat×Oper))(S:St)(lg:Log),yT C D hints id ops n l S lg k=some r->∀T,fD S T->∀βs,
  ∃T1 gr S1 gJ,eO C D hints id ops βs l T=some (T1,gr)/\k gJ S1=some r/\fD S1 T1/\(∀e∈gr,e∈gJ)/\(∀e∈lg,e∈gJ)
 | 0,l,S,lg,h=>by simp[yT]at h
 | n+1,[],S,lg,h=>by
  intro T hs βs;simp only[yT]at h;exact⟨T,[],S,lg,rfl,h,hs,by simp,fun e he=>he⟩
 | n+1,(i,o)::rest,S,lg,h=>by
  intro T hs βs;have rP:∀S,fD S T->oc ops T o=some true->((iM C D S (id * 256+i+1) (hints.share.contains (id,i)) o).run fun x=>yT C D hints id ops n rest (fin ops ⟨S.sl,x.2⟩ i o x.1) (jI C ops S (id * 256+i+1) i o x.1 x.2::lg) k)=some r->
    ∃T1 gr S1 gJ,eO C D hints id ops βs ((i,o)::rest) T=some (T1,gr)/\k gJ S1=some r/\fD S1 T1/\(∀e∈gr,e∈gJ)/\(∀e∈lg,e∈gJ):=by
   intro S hs hg h;obtain⟨x,hx,h⟩:=Tr.iX (βs.headD true) _ h;obtain⟨k1,k2⟩:=NS (hints:=hints) (id:=id) hs hg hx;obtain⟨T1,gr,S1,gJ,q1,q2,q3,q4,q5⟩:=Mr (hints:=hints) n rest _ _ h _ k2 βs.tail;refine⟨T1,jI C ops S (id * 256+i+1) i o x.1 x.2::gr,S1,gJ,?_,q2,q3,?_,fun e he=>q5 e (cG _ he)⟩
   .simp only[eO,k1,dF,q1,ef]
   .intro e he;rcases bk.1 he with rfl | he
    .exact q5 _ e8
    .exact q4 e he
  have ni:∀S,fD S T->oc ops T o=some false->yT C D hints id ops n rest (fin ops S i o .skip) (oO ops S (id * 256+i+1) i o::lg) k=some r->
    ∃T1 gr S1 gJ,eO C D hints id ops βs ((i,o)::rest) T=some (T1,gr)/\k gJ S1=some r/\fD S1 T1/\(∀e∈gr,e∈gJ)/\(∀e∈lg,e∈gJ):=by
   intro S hs hg h;obtain⟨k1,k2⟩:=Si (C:=C) (D:=D) (hints:=hints) (id:=id) (β:=βs.headD true) hs hg;obtain⟨T1,gr,S1,gJ,q1,q2,q3,q4,q5⟩:=Mr (hints:=hints) n rest _ _ h _ k2 βs.tail;refine⟨T1,oO ops S (id * 256+i+1) i o::gr,S1,gJ,?_,q2,q3,?_,fun e he=>q5 e (cG _ he)⟩
   .simp only[eO,k1,dF,q1,ef]
   .intro e he;rcases bk.1 he with rfl | he
    .exact q5 _ e8
    .exact q4 e he
  simp only[yT]at h;split at h
  .rename_i hgd;exact rP S hs (RS hgd) h
  .rename_i j b hgd;split at h
   .rename_i hS;exact ni S hs (Q1 hs hgd hS) h
   .rename_i c hS;have hg:=GW hs hgd (.inl hS);split at h
    .rename_i hcb;subst hcb;exact rP S hs (by simpa using hg) h
    .rename_i hcb;exact ni S hs (by rw[hg];simpa using hcb) h
   .rename_i c hS;split at h
    .rename_i S2 JR tS hj;obtain⟨seg,i2,o2,T',gr,e1,k1,k2,k3,k4,k5⟩:=NH (xZ (hints:=hints) n) hj hS hs βs;obtain⟨T1,EH,S1,gJ,q1,q2,q3,q4,q5⟩:=Mr (hints:=hints) n tS _ _ h _ k2 (βs.drop (seg.length+1));refine⟨T1,gr++EH,S1,gJ,?_,q2,q3,?_,fun e he=>q5 e (k4 e he)⟩
     .rw[e1,R9 k1,q1];rfl
     .intro e he;rcases bN.1 he with he | he
      .exact q5 e (k3 e he)
      .exact q4 e he
    .have hg:=GW hs hgd (.inr hS);have qD:fD (S.set (lz ops j) (.cH c)) T:=by
      have vQ:T.get (lz ops j)=.val .bool c:=by
       rcases hs.get (lz ops j) with e | ⟨b,e1,_⟩
       .rw[e];exact hS
       .rw[hS]at e1;simp at e1
      refine⟨hs.rt,by simp[St.gl,hs.len],fun u=>?_⟩;rw[St.gv];by_cases e:u=lz ops j/\lz ops j<S.sl.length
      .rw[ak e,e.1];exact .inr ⟨c,rfl,vQ⟩
      .rw[af e];exact hs.get u
     cases c with
     | true=>
      simp only[br]at h;split at h
      .rename_i hb;subst hb;exact rP _ qD (by simpa using hg) h
      .rename_i hb;exact ni _ qD (by rw[hg];cases b<;>simp_all) h
     | false=>
      simp only[br]at h;split at h
      .rename_i hb;subst hb;exact rP _ qD (by simpa using hg) h
      .rename_i hb;exact ni _ qD (by rw[hg];cases b<;>simp_all) h
   .simp at h
end
theorem Np{h:Array Obj}{S T:St}(hs:fD S T){g:aA}{tmps:Array Value}{H:BS}(st:aE h T g tmps H):aE h S g tmps H:=by
 have hr:∀r,S.root r=T.root r:=fun r=>by simp only[St.root,hs.rt]
 have hi:∀{r},(S.root r).isSome->(T.root r).isSome:=fun {r} h=>by rw[<-hr];exact h
 have he:∀{r R},S.root r=some R->T.root r=some R:=fun {r R} h=>by rw[<-hr];exact h
 have hl:S.sl.length=tmps.size:=by rw[<-hs.len];exact st.len
 have iK:S.rt.length=tmps.size:=by rw[<-hs.rt];exact st.gy
 refine⟨hl,iK,?_,fun r R hR=>st.roots r R (he hR),fun r r' hn h1 h2=>st.d6 r r' hn (hi h1) (hi h2),fun r h1=>st.ez r (hi h1),fun r h1=>st.hand r (hi h1),st.bM,st.bR,fun r b h1=>st.cj r b (hi h1),st.ew,fun r R hR=>st.tag r R (he hR),fun r b h1=>st.own r b (hi h1),st.fc,st.fX,st.p0,st.kZ⟩;intro t;have:=st.slots t;have h2:=qe.gH (S':=S) st hs.rt.symm this;rcases hs.get t with e | ⟨b,e1,e2⟩
 .rw[e]at h2;exact h2
 .rw[e2]at h2;rw[e1];simp only[qe,az]at h2⊢;obtain⟨c,rfl,e⟩:=h2;exact e
theorem MC{h:Array Obj}:∀(p:Path)(t:Ty)(c:List Value)(base:fI),cv h t c base (p.map ox.zero)=cv h t c base p
 | [],t,c,base=>rfl
 | .fst::p,t,c,base=>by cases t<;>simp only[cA,ox.zero,cv];exact MC p _ _ _
 | .snd::p,t,c,base=>by cases t<;>simp only[cA,ox.zero,cv];exact MC p _ _ _
 | .idx i s::p,t,c,base=>by
  cases t<;>simp only[cA,ox.zero,cv];split
  .split
   .exact MC p _ _ _
   .rfl
  .rfl
theorem MK:∀(p:Path)(t:Ty)(x:t.den),bw t x (p.map ox.zero)↔bw t x p
 | [],t,x=>i6
 | .fst::p,t,x=>by cases t<;>simp only[cA,ox.zero,bw];exact MK p _ _
 | .snd::p,t,x=>by cases t<;>simp only[cA,ox.zero,bw];exact MK p _ _
 | .idx i s::p,t,x=>by
  cases t<;>simp only[cA,ox.zero,bw];rw[MK p]
theorem aL.bh{hd:Nat->Value}:∀(t:Ty){m:Mk}{c:List Value},aL hd t m c->aL hd t m.bh c
 | .unit,_,_,_=>by simp only[aL]
 | .int _,_,_,_=>by simp only[aL]
 | .bool,_,_,_=>by simp only[aL]
 | .str,_,_,_=>by simp only[aL]
 | .pair a b,m,c,h=>by
  simp only[aL]at h⊢;have h1:=Mk.mB m;have h2:=Mk.mC m;rw[h1,h2];exact⟨aL.bh a h.1,aL.bh b h.2⟩
 | .sl t,m,c,h=>by
  cases m with
  | own s mi=>
   have hf:∀m:Mk,m.ax=true->m.bh.ax=true:=by
    intro m
    induction m with
    | no=>intro _;rfl
    | gone=>intro _;rfl
    | own s m ih=>intro h;simp only[Mk.ax,bI,oa]at h;simp only[Mk.bh,Mk.ax,bI,oa];exact⟨by rw[ak h.1];omega,ih h.2⟩
    | pr a b fU kS=>intro h;simp only[Mk.ax,bI]at h;simp only[Mk.bh,Mk.qL,bI];exact⟨fU h.1,kS h.2⟩
   simp only[Mk.bh,aL]at h⊢;refine⟨fun h2=>?_,hf _ h.2⟩;split at h2
   .omega
   .rename_i hn;rw[af hn];exact h.1 h2
  | no=>simp only[Mk.bh,aL]
  | gone=>simp only[Mk.bh,aL]
  | pr a b=>simp only[Mk.bh];rcases Mk.oJ a.bh b.bh with e | e<;>rw[e]<;>simp only[aL]
theorem ahX{x:Option aC}{R':aC}(h:Mu x=some R'):∃R,x=some R/\R'={ R with ms:=R.ms.bh }:=by
 unfold Mu at h;cases x with
 | none=>simp at h
 | some R=>
  simp only[dF]at h;split at h
  .simp at h
  .simp only[aK]at h;exact⟨R,rfl,h.symm⟩
theorem QU(o3:List Nat):∀(l:List (Option aC))(i r:Nat),(EV o3 i l).getD r none=if o3.contains (i+r) then Mu (l.getD r none) else none
 | [],i,r=>by simp[EV,Mu,List.getD]
 | x::l,i,r=>by
  simp only[EV];cases r with
  | zero=>simp only[uS,qU]
  | succ r=>simp only[HX];rw[QU o3 l (i+1) r,show i+1+r=i+(r+1) by omega]
theorem Qp(o3:List Nat):∀(l:List (Option aC))(i:Nat),(EV o3 i l).length=l.length
 | [],_=>rfl
 | x::l,i=>by simp[EV,Qp o3 l]
theorem QV(S:St)(keep:List Nat):∀(l:List AV)(i t:Nat),(EW S keep i l).getD t .undef=if keep.contains (i+t) then (l.getD t .undef).canon S else .undef
 | [],i,t=>by simp[EW,AV.canon,List.getD]
 | x::l,i,t=>by
  simp only[EW];cases t with
  | zero=>simp only[uS,qU]
  | succ t=>simp only[HX];rw[QV S keep l (i+1) t,show i+1+t=i+(t+1) by omega]
theorem Qq(S:St)(keep:List Nat):∀(l:List AV)(i:Nat),(EW S keep i l).length=l.length
 | [],_=>rfl
 | x::l,i=>by simp[EW,Qq S keep l]
section
variable {h:Array Obj} {S:St} {g:aA} {tmps:Array Value} {H:BS} (st:aE h S g tmps H)
include st
theorem UH{keep extra:List Nat}{r:Nat}{R':aC}(hr:(S.canon keep extra).root r=some R'):∃R,S.root r=some R/\R'={ R with ms:=R.ms.bh }:=by
 simp only[St.canon,St.root,aP.iq]at hr;rw[QU]at hr;split at hr
 .rw[<-aP.iq]at hr;exact ahX hr
 .simp at hr
theorem RD{keep extra:List Nat}{r:Nat}{p:Path}{s:Nat}{v:Value}{t:Ty}{m:Mk}{xs:(Ty.sl t).den}(hf:S.rt.focus r p=some ⟨.sl t,.own s m,xs⟩)(x:qP h S g r p s v) :
  qP h (S.canon keep extra) g r (p.map ox.zero) (if s<1048576 then 0 else s) v:=by
 obtain⟨R,base,F,hR,zA,hin,eu,_⟩:=MD st hf rfl x;intro R' cm t' m' xs' hf';obtain⟨R2,vP,rfl⟩:=UH st cm;rw[hR]at vP;simp only[aK]at vP;subst vP;exact⟨(MK p _ _).2 hin,base,by rw[MC];exact eu⟩
theorem aa5{keep extra:List Nat}{r:Nat}{p:Path}{v:Value}{d:Dy}(hf:S.rt.focus r p=some d)(x:uI h S g r p v):uI h (S.canon keep extra) g r (p.map ox.zero) v:=by
 simp only[aP.focus]at hf;split at hf
 .rename_i R hR;obtain⟨hin,b,o,c,eu,e⟩:=x R hR d hf;intro R' cm d' hf';obtain⟨R2,vP,rfl⟩:=UH st cm;have:R=R2:=by have h1:S.root r=some R:=hR;rw[h1]at vP;simpa using vP
  subst this;exact⟨(MK p _ _).2 hin,b,o,c,by rw[MC];exact eu,e⟩
 .simp at hf
theorem BN{keep extra:List Nat}:∀{a:AV}{c:List Value},dg h S g a c->dg h (S.canon keep extra) g (a.canon S) c
 | .undef,_,_=>by simp only[AV.canon,dg]
 | .unit,_,y=>y
 | .val t x,_,y=>y
 | .b8 r p s,c,y=>by
  simp only[dg]at y;obtain⟨v,rfl,y⟩:=y;simp only[AV.canon];split
  .rename_i t s' m xs hf;split
   .rename_i hs;subst hs;simp only[dg];exact⟨v,rfl,RD st hf y⟩
   .simp only[dg]
  .simp only[dg]
 | .pair a b,c,y=>by
  simp only[dg]at y;obtain⟨ca,cb,rfl,y1,y2⟩:=y;simp only[AV.canon,dg];exact⟨ca,cb,rfl,BN y1,BN y2⟩
 | .skip,_,y=>y.elim
 | .cH _,_,y=>y.elim
 | .fl,_,y=>y.elim
 | .view _ _ _ _ _,_,y=>y.elim
 | .addr _ _,_,y=>y.elim
 | .ck _ _,_,y=>y.elim
 | .jJ _,_,y=>y.elim
 | .gI _ _,_,y=>y.elim
 | .ep _,_,y=>y.elim
theorem ak6{keep extra:List Nat}:∀(a:AV),(∀v,qe h S g a v->qe h (S.canon keep extra) g (a.canon S) v)/\(∀vs,aO h S g a vs->aO h (S.canon keep extra) g (a.canon S) vs):=by
 intro a
 induction a with
 | undef=>exact⟨fun _ _=>by simp only[AV.canon,qe],fun _ y=>by simp only[aO]at y⟩
 | skip=>exact⟨fun _ y=>y,fun _ y=>by simp only[aO]at y⟩
 | cH b=>exact⟨fun _ y=>y,fun _ y=>by simp only[aO]at y⟩
 | unit=>exact⟨fun _ y=>y,fun _ y=>y⟩
 | fl=>exact⟨fun _ y=>y,fun _ y=>by simp only[aO]at y⟩
 | val t x=>exact⟨fun _ y=>y,fun _ y=>by simp only[aO]at y⟩
 | b8 r p s=>
  refine⟨fun v y=>?_,fun _ y=>by simp only[aO]at y⟩;simp only[qe]at y;simp only[AV.canon];split
  .rename_i t s' m xs hf;split
   .rename_i hs;subst hs;simp only[qe];exact RD st hf y
   .simp only[qe]
  .simp only[qe]
 | view r p s lo hi=>exact⟨fun _ _=>by simp only[AV.canon,qe],fun _ y=>by simp only[aO]at y⟩
 | addr r p=>
  refine⟨fun v y=>?_,fun _ y=>by simp only[aO]at y⟩;simp only[qe]at y;simp only[AV.canon];split
  .rename_i d hf;simp only[qe];exact aa5 st hf y
  .simp only[qe]
 | ck t x=>exact⟨fun _ y=>y,fun _ y=>by simp only[aO]at y⟩
 | pair a b fU kS=>
  refine⟨fun v y=>?_,fun vs y=>?_⟩
  .simp only[qe]at y;obtain⟨ca,cb,e,y1,y2⟩:=y;simp only[AV.canon,qe];exact⟨ca,cb,e,BN st y1,BN st y2⟩
  .simp only[aO]at y;obtain⟨v,vs',e,y1,y2⟩:=y;simp only[AV.canon,aO];exact⟨v,vs',e,fU.1 v y1,kS.2 vs' y2⟩
 | jJ a fU=>exact⟨fun _ _=>by simp only[AV.canon,qe],fun _ y=>by simp only[aO]at y⟩
 | gI f a fU=>refine⟨fun v y=>?_,fun _ y=>by simp only[aO]at y⟩;simp only[qe]at y;obtain⟨vs,e,y⟩:=y;simp only[AV.canon,qe];exact⟨vs,e,fU.2 vs y⟩
 | ep c=>exact⟨fun _ y=>y,fun _ y=>by simp only[aO]at y⟩
theorem A8(keep extra:List Nat):aE h (S.canon keep extra) g tmps H:=by
 have hs:∀r,((S.canon keep extra).root r).isSome->(S.root r).isSome:=by intro r h1;obtain⟨R',cm⟩:=ym.1 h1;obtain⟨R,hR,_⟩:=UH st cm;rw[hR];rfl
 refine⟨?_,?_,?_,?_,fun r r' hn h1 h2=>st.d6 r r' hn (hs r h1) (hs r' h2),fun r h1=>st.ez r (hs r h1),fun r h1=>st.hand r (hs r h1),st.bM,st.bR,fun r b h1=>st.cj r b (hs r h1),st.ew,?_,fun r b h1=>st.own r b (hs r h1),st.fc,st.fX,st.p0,st.kZ⟩
 .simp only[St.canon];rw[Qq];exact st.len
 .simp only[St.canon];rw[Qp];exact st.gy
 .intro t;simp only[St.get_eq,St.canon];rw[QV];split
  .have z:=st.slots t;rw[St.get_eq]at z;exact(ak6 st _).1 _ z
  .simp only[qe]
 .intro r R' cm;obtain⟨R,hR,rfl⟩:=UH st cm;obtain⟨F,q1,q2⟩:=st.roots r R hR;exact⟨F,(az.bh R.ty).1 q1,q2⟩
 .intro r R' cm;obtain⟨R,hR,rfl⟩:=UH st cm;exact aL.bh _ (st.tag r R hR)
end
end Go.V
namespace Go.V
noncomputable section
open Go
def Ex.out:Ex->Exit
 | .normal=>.normal
 | .exit id=>.exit id
 | .ret=>.ret
theorem x_{ops:Array Oper}:∀x∈nw ops,ops[x.1]? = some x.2:=by intro x hx;simp only[nw,eI]at hx;obtain⟨y,hy,rfl⟩:=hx;have:=FP.1 hy;simpa using this
theorem VJ{ops:Array Oper}:(nw ops).map (·.1)=List.range ops.size:=by
 simp only[nw,B3];apply rL;intro i;simp only[FJ,List.getElem?_zipIdx,List.getElem?_range'];by_cases h:i<ops.size
 .simp[h]
 .simp[h]
theorem RT{ops:Array Oper}(h:MG ops=true):∀(i:Nat) o j c,ops[i]? = some o->o.guard=some (j,c)->∃oj t,ops[j]? = some oj/\oj.dst=some t:=by intro i o j c ho hg;simp only[MG,qS]at h;have:=h o (by rw[HW];exact FD ho);rw[hg]at this;simp only[ym,cM]at this;obtain⟨t,oj,h1,h2⟩:=this;exact⟨oj,t,h1,h2⟩
theorem SP{np:List Nat}{ops:Array Oper}(h:J7 np ops=true):∀x∈nw ops,∀d,x.2.dst=some d->d∉np:=by intro x hx d hd;simp only[J7,qS]at h;have:=h x.2 (by rw[HW];exact FD (x_ x hx));rw[hd]at this;simpa using this
section
variable {P:Program} {C:Ctx} {D:Den C} (bn:iD P C) (dy:ow P C D)
include bn dy
def jM(np:List Nat)(P:Program)(C:Ctx)(Q:Exit->Act->World->Prop){R:Type}(r:R)(c:Code)(S:St)(k:Ex->St->Option R)(g:aA)(a:Act)(w:World):Prop:=
 aE w.heap S g a.tmps Nil->a.defers=[]->(∀e S' g' a' w',k e S'=some r->aE w'.heap S' g' a'.tmps Nil->g'.cT g->kK g.L w w'->a'.defers=[]->vB np a a'->Q e.out a' w')->c.wp P Q a w
theorem acm{np:List Nat}{R:Type}{r:R}{H:Hints}{id:Nat}{ops:Array Oper}{S:St}{k:Ex->St->Option R}{Q:Exit->Act->World->Prop}{g:aA}{a:Act}{w:World}{n:Nat}
  (hnp:J7 np ops=true) (h:exec C D H n (.region id ops false) S k=some r):jM np P C Q r (.region id ops false) S k g a w:=by
 intro st hdf hQ;simp only[exec]at h;split at h
 .rename_i hgd;have hR:=fun βs=>Mr (hints:=H) _ _ _ _ h S (fD.refl S) βs;refine wp_region ?_;rw[<-VJ];refine Oo (hints:=H) (id:=id) bn dy (RT hgd) (nw ops) S g a w x_ (SP hnp) st hdf (fun βs=>?_) ?_
  .obtain⟨T1,gr,S1,gJ,q1,_⟩:=hR βs;exact⟨_,q1⟩
  .intro βs S' lg a' w' g' hr st' iL hfr iJ oD;obtain⟨T1,gr,S1,gJ,q1,q2,q3,_⟩:=hR βs;rw[hr]at q1;simp only[aK,aY]at q1;obtain⟨rfl,rfl⟩:=q1;simp only[fe,dX]at q2;exact hQ .normal S1 g' a' w' q2 (Np q3 st') iL hfr iJ oD
 .simp at h
end
end
end Go.V
namespace Go.V
noncomputable section
open Go
section
variable {C:Ctx} {D:Den C} {A:bY} {S:aP} {site:Nat} {hint:Bool}
theorem RW{ρ ρ':Operand->AV}{ps:Array (Nat×Operand)}(h:∀x∈(ps.toList.map (·.2)).toArray,ρ' x=ρ x):(ps.toList.map fun p=>(p.1,ρ' p.2))=ps.toList.map fun p=>(p.1,ρ p.2):=by apply rK;intro p hp;rw[h p.2 (by simp only[List.mem_toArray,eI];exact⟨p,hp,rfl⟩)]
theorem SN{ρ ρ':Operand->AV}(o:Oper)(h:∀x∈o.op.operands,ρ' x=ρ x):aW C D A ρ' S site hint o=aW C D A ρ S site hint o:=by
 cases ho:o.op with
 | build t ps=>rw[ho]at h;simp only[Op.operands]at h;simp only[aW,ho];rw[RW h]
 | buildSlice t n ps=>rw[ho]at h;simp only[Op.operands]at h;simp only[aW,ho];rw[RW h]
 | makeFunc f first caps=>
  rw[ho]at h;simp only[Op.operands]at h;simp only[aW,ho];cases f with
  | func f=>
   have:caps.toList.foldr (fun x r=>AV.pair (ρ' x) r) .unit=caps.toList.foldr (fun x r=>AV.pair (ρ x) r) .unit:=by
    have hc:∀x∈caps.toList,ρ' x=ρ x:=fun x hx=>h x (by simp at hx⊢;exact .inr hx);revert hc;generalize caps.toList=l;intro hc
    induction l with
    | nil=>rfl
    | cons y l ih=>simp only[FV];rw[hc y e8,ih (fun x hx=>hc x (cG _ hx))]
   simp only[this]
  | _=>rfl
 | slice t x lo hi mx=>
  rw[ho]at h;simp only[Op.operands]at h;cases mx with
  | some v=>simp only[aW,ho]
  | none=>
   simp only[aW,ho];have h1:ρ' x=ρ x:=h x (by simp);have h2:lo.map ρ'=lo.map ρ:=by cases lo with
    | none=>rfl
    | some v=>simp only[ef];rw[h v (by simp)]
   have h3:hi.map ρ'=hi.map ρ:=by cases hi with
    | none=>rfl
    | some v=>simp only[ef];rw[h v (by simp)]
   rw[h1,h2,h3]
 | call c=>
  rw[ho]at h;simp only[Op.operands]at h;have ha:c.args.toList.map ρ'=c.args.toList.map ρ:=rK fun x hx=>h x (by simp only[Call.operands,sF];right;simpa using hx);simp only[aW,ho];rw[ha];cases hc:c.callee with
  | builtin b=>rfl
  | value f=>have:ρ' f=ρ f:=h f (by simp[Call.operands,hc]);simp only[this]
  | invoke r m=>rfl
 | pick c a b=>rw[ho]at h;simp only[Op.operands]at h;simp only[aW,ho];rw[h c (by simp),h a (by simp),h b (by simp)]
 | store t a b=>rw[ho]at h;simp only[Op.operands]at h;simp only[aW,ho];rw[h a (by simp),h b (by simp)]
 | binOp op t a b t2=>rw[ho]at h;simp only[Op.operands]at h;simp only[aW,ho];rw[h a (by simp),h b (by simp)]
 | makeSlice t a b=>rw[ho]at h;simp only[Op.operands]at h;simp only[aW,ho];rw[h a (by simp),h b (by simp)]
 | indexAddr t a b=>rw[ho]at h;simp only[Op.operands]at h;simp only[aW,ho];rw[h a (by simp),h b (by simp)]
 | index t a b=>rw[ho]at h;simp only[Op.operands]at h;simp only[aW,ho];rw[h a (by simp),h b (by simp)]
 | move x=>rw[ho]at h;simp only[Op.operands]at h;simp only[aW,ho];rw[h x (by simp)]
 | assign x=>rw[ho]at h;simp only[Op.operands]at h;simp only[aW,ho];rw[h x (by simp)]
 | box t x=>rw[ho]at h;simp only[Op.operands]at h;simp only[aW,ho];rw[h x (by simp)]
 | load t x=>rw[ho]at h;simp only[Op.operands]at h;simp only[aW,ho];rw[h x (by simp)]
 | nilCheck x=>rw[ho]at h;simp only[Op.operands]at h;simp only[aW,ho];rw[h x (by simp)]
 | unOp op t x=>rw[ho]at h;simp only[Op.operands]at h;simp only[aW,ho];rw[h x (by simp)]
 | convert s d x=>rw[ho]at h;simp only[Op.operands]at h;simp only[aW,ho];rw[h x (by simp)]
 | fieldAddr s x f=>rw[ho]at h;simp only[Op.operands]at h;simp only[aW,ho];rw[h x (by simp)]
 | field s x f=>rw[ho]at h;simp only[Op.operands]at h;simp only[aW,ho];rw[h x (by simp)]
 | extract x i=>rw[ho]at h;simp only[Op.operands]at h;simp only[aW,ho];rw[h x (by simp)]
 | _=>simp only[aW,ho]
theorem adp{ρ ρ':Operand->AV}(o:Oper)(h:∀x∈o.op.operands,ρ' x=ρ x):dN C ρ' o=dN C ρ o:=by
 have hall:o.op.operands.toList.map ρ'=o.op.operands.toList.map ρ:=rK fun x hx=>h x (by simpa using hx);unfold dN;rw[hall];cases ho:o.op with
 | build t ps=>
  rw[ho]at h;have:UG ρ' ps.toList=UG ρ ps.toList:=by
   unfold UG;have key:∀l:List (Nat×Operand),(∀p∈l,ρ' p.2=ρ p.2)->(l.all fun p=>(ρ' p.2).isVal)=l.all fun p=>(ρ p.2).isVal:=by
    intro l
    induction l with
    | nil=>intro _;rfl
    | cons a l ih=>intro hl;simp only[gW];rw[hl a e8,ih fun p hp=>hl p (cG _ hp)]
   exact key _ fun p hp=>h p.2 (by
   simp only[Op.operands,List.mem_toArray];exact eI.2 ⟨p,hp,rfl⟩)
  simp only[this]
 | assign x=>rw[ho]at h;simp only[Op.operands]at h;simp only[h x (by simp)]
 | call c=>
  rw[ho]at h;simp only[Op.operands]at h;have ha:c.args.toList.map ρ'=c.args.toList.map ρ:=rK fun x hx=>h x (by simp only[Call.operands,sF];right;simpa using hx);simp only;rw[ha];cases hc:c.callee with
  | builtin b=>cases b<;>rfl
  | value f=>have:ρ' f=ρ f:=h f (by simp[Call.operands,hc]);simp only[this]
  | invoke r m=>rfl
 | _=>rfl
theorem ab3{ρ ρ':Operand->AV}(o:Oper)(h:∀x∈o.op.operands,ρ' x=ρ x):vD C ρ' o=vD C ρ o:=by
 unfold vD;cases ho:o.op with
 | call c=>
  rw[ho]at h;simp only[Op.operands]at h;have ha:c.args.toList.map ρ'=c.args.toList.map ρ:=rK fun x hx=>h x (by simp only[Call.operands,sF];right;simpa using hx);simp only;rw[ha];cases hc:c.callee with
  | builtin b=>cases b<;>rfl
  | value f=>have:ρ' f=ρ f:=h f (by simp[Call.operands,hc]);simp only[this]
  | invoke r m=>rfl
 | slice t x lo hi mx=>cases mx<;>rfl
 | _=>rfl
def g6(F:List Nat)(S S':aP):Prop:=∀r,r∈F->S'.root r=S.root r
theorem g6.sub{F G:List Nat}{S S':aP}(h:g6 F S S')(hs:∀r∈G,r∈F):g6 G S S':=fun r hr=>h r (hs r hr)
theorem Ch{F:List Nat}{S S':aP}(h:g6 F S S'){r:Nat}(hr:r∈F)(p:Path):S'.focus r p=S.focus r p:=by simp only[aP.focus,h r hr]
theorem MR{S S':aP}:∀(t:Ty)(a:AV),g6 a.roots S S'->rd S' t a=rd S t a
 | t,.pair u v,h=>by
  cases t with
  | pair a b=>simp only[rd];rw[MR a u (h.sub fun r hr=>by simp[AV.roots,hr]),MR b v (h.sub fun r hr=>by simp[AV.roots,hr])]
  | _=>simp[rd]
 | t,.b8 r p s,h=>by
  cases t with
  | sl e=>simp only[rd];rw[Ch h (by simp[AV.roots])]
  | _=>simp[rd]
 | t,.val t' x,h=>by cases t<;>simp only[rd]
 | t,.undef,h=>by cases t<;>simp[rd]
 | t,.skip,h=>by cases t<;>simp[rd]
 | t,.cH b,h=>by cases t<;>simp[rd]
 | t,.unit,h=>by cases t<;>simp[rd]
 | t,.fl,h=>by cases t<;>simp[rd]
 | t,.view _ _ _ _ _,h=>by cases t<;>simp[rd]
 | t,.addr _ _,h=>by cases t<;>simp[rd]
 | t,.ck _ _,h=>by cases t<;>simp[rd]
 | t,.jJ _,h=>by cases t<;>simp[rd]
 | t,.gI _ _,h=>by cases t<;>simp[rd]
 | t,.ep _,h=>by cases t<;>simp[rd]
theorem VF{S S':aP}:∀(a:AV),g6 a.roots S S'->l9 S' a=l9 S a
 | .pair (.addr r p) rest,h=>by
  simp only[l9];rw[Ch h (by simp[AV.roots]),VF rest (h.sub fun r hr=>by simp[AV.roots,hr])]
 | .pair (.ck t x) rest,h=>by simp only[l9];rw[VF rest (h.sub fun r hr=>by simp[AV.roots,hr])]
 | .pair (.val t x) rest,h=>by simp only[l9];rw[VF rest (h.sub fun r hr=>by simp[AV.roots,hr])]
 | .unit,h=>rfl
 | .pair .undef _,h=>rfl
 | .pair .skip _,h=>rfl
 | .pair (.cH _) _,h=>rfl
 | .pair .unit _,h=>rfl
 | .pair .fl _,h=>rfl
 | .pair (.b8 _ _ _) _,h=>rfl
 | .pair (.view _ _ _ _ _) _,h=>rfl
 | .pair (.pair _ _) _,h=>rfl
 | .pair (.jJ _) _,h=>rfl
 | .pair (.gI _ _) _,h=>rfl
 | .pair (.ep _) _,h=>rfl
 | .undef,h=>rfl
 | .skip,h=>rfl
 | .cH _,h=>rfl
 | .fl,h=>rfl
 | .val _ _,h=>rfl
 | .b8 _ _ _,h=>rfl
 | .view _ _ _ _ _,h=>rfl
 | .addr _ _,h=>rfl
 | .ck _ _,h=>rfl
 | .jJ _,h=>rfl
 | .gI _ _,h=>rfl
 | .ep _,h=>rfl
theorem q9k{a:AV}{l:List AV}(h:a∈l):∀r∈a.roots,r∈qk l:=by
 induction l with
 | nil=>simp at h
 | cons b l ih=>
  intro r hr;simp only[qk,bN];rcases bk.1 h with rfl | h
  .exact .inl hr
  .exact .inr (ih h r hr)
theorem qzc(l l2:List AV):∀r,r∈qk (l++l2)↔r∈qk l\/r∈qk l2:=by
 intro r
 induction l with
 | nil=>simp[qk]
 | cons a l ih=>simp only[fH,qk,bN,ih,or_assoc]
theorem WI:∀(a:AV),∀r∈qk (mZ a),r∈a.roots
 | .pair a b,r,h=>by
  simp only[mZ,qk,bN]at h;simp only[AV.roots,bN];exact h.imp id (WI b r)
 | .undef,r,h=>by simp[mZ,qk]at h
 | .skip,r,h=>by simp[mZ,qk]at h
 | .cH _,r,h=>by simp[mZ,qk]at h
 | .unit,r,h=>by simp[mZ,qk]at h
 | .fl,r,h=>by simp[mZ,qk]at h
 | .val _ _,r,h=>by simp[mZ,qk]at h
 | .b8 _ _ _,r,h=>by simp[mZ,qk]at h
 | .view _ _ _ _ _,r,h=>by simp[mZ,qk]at h
 | .addr _ _,r,h=>by simp[mZ,qk]at h
 | .ck _ _,r,h=>by simp[mZ,qk]at h
 | .jJ _,r,h=>by simp[mZ,qk]at h
 | .gI _ _,r,h=>by simp[mZ,qk]at h
 | .ep _,r,h=>by simp[mZ,qk]at h
theorem zO{S S':aP}:∀(ks:List PK)(aJ:List AV)(g:js ks)(o:dG ks),g6 (qk aJ) S S'->ji S' ks aJ g o=ji S ks aJ g o
 | [],[],_,_,_=>rfl
 | [],_::_,_,_,_=>rfl
 | k::ks,[],g,o,_=>by cases k<;>rfl
 | k::ks,a::aJ,g,o,h=>by
  have h1:g6 a.roots S S':=h.sub fun r hr=>by simp[qk,hr]
  have h2:g6 (qk aJ) S S':=h.sub fun r hr=>by simp[qk,hr]
  cases k with
  | val t=>simp only[ji];rw[MR t a h1,zO ks aJ g o h2]
  | own t m=>simp only[ji];rw[zO ks aJ g.2 o h2]
  | cD t m m'=>simp only[ji];rw[zO ks aJ g o.2 h2]
  | cQ t m m'=>simp only[ji];rw[zO ks aJ g o.2 h2]
  | cq t=>
   cases a with
   | ck t' x=>simp only[ji];rw[zO ks aJ g o h2]
   | addr q p=>simp only[ji];rw[Ch h1 (by simp[AV.roots]),zO ks aJ g o h2]
   | _=>rfl
  | fn=>
   cases a with
   | gI f c=>simp only[ji];rw[VF c (h1.sub fun r hr=>by simpa [AV.roots] using hr),zO ks aJ g o h2]
   | ep c=>simp only[ji];rw[zO ks aJ g o h2]
   | _=>rfl
theorem QB{S S':aP}:∀(ts:List Ty)(aJ:List AV),g6 (qk aJ) S S'->za S' ts aJ=za S ts aJ
 | [],[],_=>rfl
 | [],_::_,_=>rfl
 | _::_,[],_=>rfl
 | t::ts,a::aJ,h=>by
  simp only[za];rw[MR t a (h.sub fun r hr=>by simp[qk,hr]),QB ts aJ (h.sub fun r hr=>by simp[qk,hr])]
theorem Qz{S S':aP}(a:AV)(h:g6 a.roots S S'):yY S' a=yY S a:=by
 cases a with
 | b8 r p s=>simp only[yY];rw[Ch h (by simp[AV.roots])]
 | val t x=>cases t<;>rfl
 | _=>rfl
end
end
end Go.V
namespace Go.V
noncomputable section
open Go
section
variable {C:Ctx} {D:Den C}
theorem ajH{S S':aP}(t:Ty)(a:AV)(h:g6 a.roots S S'):vz S' t a=vz S t a:=by
 cases a with
 | addr r p=>simp only[vz];rw[Ch h (by simp[AV.roots])]
 | _=>rfl
theorem agx{S S':aP}(t:Ty)(a:AV)(f:Nat)(h:g6 a.roots S S'):Cg S' t a f=Cg S t a f:=by
 cases a with
 | addr r p=>simp only[Cg];rw[Ch h (by simp[AV.roots])]
 | _=>rfl
theorem ajG{S S':aP}(t:Ty)(a i:AV)(h:g6 a.roots S S'):yc S' t a i=yc S t a i:=by
 cases a with
 | b8 r p s=>simp only[yc];rw[Ch h (by simp[AV.roots])]
 | val t x=>cases t<;>rfl
 | _=>rfl
def qj(T T':Tr (AV×aP))(S S':aP):Prop:=∀β v rt',T.dec β=some (v,rt')->rt'=S/\T'.dec β=some (v,S')
theorem qj.ret{v:AV}{S S':aP}:qj (.ret (v,S)) (.ret (v,S')) S S':=by intro β v' rt' h;simp only[Tr.dec,aK,aY]at h;exact⟨h.2.symm,by simp[Tr.dec,h.1]⟩
theorem qj.fail{T':Tr (AV×aP)}{S S':aP}:qj .fail T' S S':=by intro β v' rt' h;simp[Tr.dec]at h
theorem qj.br{c:Bool}{x y x' y':Tr (AV×aP)}{S S':aP}(h1:qj x x' S S')(h2:qj y y' S S'):qj (.br c x y) (.br c x' y') S S':=by
 intro β v rt' h;cases c
 .exact h2 β v rt' h
 .exact h1 β v rt' h
theorem qj.nil{n:Nat}{b:Bool}{f:Bool->AV}{S S':aP}:qj (.nil n b fun b=>.ret (f b,S)) (.nil n b fun b=>.ret (f b,S')) S S':=by intro β v rt' h;simp only[Tr.dec,aK,aY]at h⊢;exact⟨h.2.symm,h.1,trivial⟩
theorem qj.ofMap{α:Type}{x:Option α}{f:α->AV}{S S':aP}:qj (.of (x.map fun a=>(f a,S))) (.of (x.map fun a=>(f a,S'))) S S':=by
 cases x with
 | none=>exact qj.fail
 | some a=>exact qj.ret
theorem qj.call{α:Type}{x:Option α}{f f':α->Tr (AV×aP)}{S S':aP}(h:∀a,qj (f a) (f' a) S S'):qj (.call x f) (.call x f') S S':=by
 intro β v rt' hh;cases x with
 | none=>simp[Tr.dec]at hh
 | some a=>exact h a β v rt' hh
theorem Ut{S S':aP}:∀(ks:List PK)(aJ:List AV),ks.all PK.plain=true->fZ S' ks aJ=(fZ S ks aJ).map fun z=>(z.1,S')
 | [],[],_=>rfl
 | [],_::_,_=>rfl
 | k::ks,[],_=>by cases k<;>rfl
 | k::ks,a::aJ,h=>by
  simp only[gW,bI]at h;cases k with
  | val t=>simp only[fZ];exact Ut ks aJ h.2
  | cq t=>simp only[fZ];exact Ut ks aJ h.2
  | fn=>simp only[fZ];exact Ut ks aJ h.2
  | _=>simp[PK.plain]at h
theorem Ul{S S':aP}:∀(ks:List PK)(aJ:List AV),ks.all PK.plain=true->gE S' ks aJ=(gE S ks aJ).map fun z=>(z.1,S')
 | [],[],_=>rfl
 | [],_::_,_=>rfl
 | k::ks,[],_=>by cases k<;>rfl
 | k::ks,a::aJ,h=>by
  simp only[gW,bI]at h;cases k with
  | val t=>simp only[gE];exact Ul ks aJ h.2
  | cq t=>simp only[gE];exact Ul ks aJ h.2
  | fn=>simp only[gE];exact Ul ks aJ h.2
  | _=>simp[PK.plain]at h
theorem abz{S rt:aP}{ks:List PK}{aJ:List AV}{g:js ks}(hp:ks.all PK.plain=true)(h:fZ S ks aJ=some (g,rt)):rt=S:=by have:=Ut (S:=S) (S':=S) ks aJ hp;rw[h]at this;simp only[ef,aK,aY,true_and]at this;exact this
theorem aa7{S rt:aP}{ks:List PK}{aJ:List AV}{g:dG ks}(hp:ks.all PK.plain=true)(h:gE S ks aJ=some (g,rt)):rt=S:=by have:=Ul (S:=S) (S':=S) ks aJ hp;rw[h]at this;simp only[ef,aK,aY,true_and]at this;exact this
theorem S7{A A':bY}{S S':aP}(hl:S'.length=S.length){d:Option Nat}{site:Nat}{t:Ty}{m:Mk}{x:t.den}(hs:m.still=true):qj (dR A S d site t m x false) (dR A' S' d site t m x false) S S':=by
 cases d with
 | none=>exact qj.ret
 | some d=>
  simp only[dR,hs,aX,fe,dX,hl];split
  .exact qj.fail
  .exact qj.ret
theorem QC:∀(rs:List RK),rs.all (fun k=>!k.kT&&k.ms.still)=true->(pQ rs).still=true
 | [],_=>rfl
 | k::rs,h=>by
  simp only[gW,bI]at h;simp only[pQ,Mk.still,bI];exact⟨h.1.2,QC rs h.2⟩
theorem aaK{A A':bY}(hA:A'.sh=A.sh){S S':aP}(hl:S'.length=S.length){d:Option Nat}{site:Nat}:∀(rs:List RK)(r:f8 rs),rs.all (fun k=>!k.kT&&k.ms.still)=true->qj (mA A S d site rs r) (mA A' S' d site rs r) S S'
 | [],r,_=>qj.ret
 | [.val t m],r,h=>by
  simp only[gW,bI]at h;simp only[mA,hA];split
  .split
   .exact qj.ret
   .exact qj.fail
  .split
   .exact S7 hl h.1.2
   .exact qj.fail
 | [.ptr t m],r,h=>by simp[RK.kT]at h
 | q1::q2::rs,r,h=>by
  have e1:∀(A:bY)(S:aP),mA A S d site (q1::q2::rs) r=Cu A S d site (q1::q2::rs) r:=by intro A S;cases q1<;>rfl
  rw[e1,e1];unfold Cu;split
  .cases d with
   | none=>exact qj.ret
   | some d=>
    have hs:=QC _ h;have e2:∀(A:bY)(S:aP),dR A S (some d) site (jr (q1::q2::rs)) (pQ (q1::q2::rs)) (kq (q1::q2::rs) r) false =
      if (!Nat.blt d S.length||!Nat.blt site 1048576)=true then .fail else .ret (.val (jr (q1::q2::rs)) (kq (q1::q2::rs) r),S):=by
     intro A S;simp only[dR,hs,aX,fe,dX]
    simp only[e2,hl];by_cases hc:(!Nat.blt d S.length||!Nat.blt site 1048576)=true
    .simp only[ak hc];exact qj.fail
    .simp only[af hc];exact qj.ret
  .exact qj.fail
theorem abN{A A':bY}(hA:A'.sh=A.sh){S S':aP}(hl:S'.length=S.length){d:Option Nat}{site:Nat}{g:FuncId}{aJ:List AV}(hq:Hz (C.sig g)=true)(hr:g6 (qk aJ) S S') :
  qj (rY C D A S d site g aJ) (rY C D A' S' d site g aJ) S S':=by
 unfold Hz at hq;simp only[bI]at hq;unfold rY;rw[Ut (S:=S) (S':=S') _ _ hq.1];cases h1:fZ S (C.sig g).params aJ with
 | none=>exact qj.fail
 | some z=>
  obtain⟨gd,S1⟩:=z;obtain rfl:=abz hq.1 h1;simp only[ef];rw[Ul (S:=S1) (S':=S') _ _ hq.1];cases h2:gE S1 (C.sig g).params aJ with
  | none=>exact qj.fail
  | some z=>
   obtain⟨od,S2⟩:=z;obtain rfl:=aa7 hq.1 h2;simp only[ef];rw[zO _ _ _ _ hr];cases h3:ji S2 (C.sig g).params aJ gd od with
   | none=>exact qj.fail
   | some aa=>
    simp only;split
    .refine qj.call fun r=>?_;have hn:(C.sig g).params.all (fun k=>!k.eE)=true:=by rw[qS]at hq⊢;intro k hk;have:=hq.1 k hk;cases k<;>simp_all [PK.plain,PK.eE]
     simp only[hn,aX];exact aaK hA hl _ _ hq.2
    .exact qj.fail
theorem Ty.kM:∀(t:Ty),t.flat=true->(Mk.top t).still=true/\(Mk.sS t).still=true
 | .sl _,h=>by simp[Ty.flat]at h
 | .pair a b,h=>by
  simp only[Ty.flat,bI]at h;have ha:=Ty.kM a h.1;have hb:=Ty.kM b h.2;cases a<;>simp_all [Mk.top,Mk.sS,Mk.still,Ty.flat]
 | .unit,_=>⟨rfl,rfl⟩
 | .int _,_=>⟨rfl,rfl⟩
 | .bool,_=>⟨rfl,rfl⟩
 | .str,_=>⟨rfl,rfl⟩
theorem abD{t:Ty}(h:t.flat=true)(hint:Bool):(Mk.z8 hint t).still=true:=by
 unfold Mk.z8;cases hint
 .exact(Ty.kM t h).1
 .exact(Ty.kM t h).2
theorem He:∀(t:Ty)(m:Mk)(x:t.den)(p:Path)(t2:Ty)(y:t2.den)(m':Mk)(x':t.den),m.still=true->put t m x p t2 .no y=some (m',x')->m'.still=true
 | t,m,x,[],t2,y,m',x',_,h=>by
  unfold put at h;simp only[cM,aK,aY]at h;obtain⟨_,_,rfl,_⟩:=h;rfl
 | .pair a b,m,x,.fst::p,t2,y,m',x',hm,h=>by
  simp only[put,cM,aK,aY]at h;obtain⟨⟨r1,r2⟩,h1,rfl,_⟩:=h;have hf:m.fst.still=true/\m.snd.still=true:=by cases m<;>simp_all [Mk.fst,Mk.snd,Mk.still]
  have:=He a m.fst x.1 p t2 y _ _ hf.1 h1;simp only[Mk.still,bI];exact⟨this,hf.2⟩
 | .pair a b,m,x,.snd::p,t2,y,m',x',hm,h=>by
  simp only[put,cM,aK,aY]at h;obtain⟨⟨r1,r2⟩,h1,rfl,_⟩:=h;have hf:m.fst.still=true/\m.snd.still=true:=by cases m<;>simp_all [Mk.fst,Mk.snd,Mk.still]
  have:=He b m.snd x.2 p t2 y _ _ hf.2 h1;simp only[Mk.still,bI];exact⟨hf.1,this⟩
 | .sl t,m,xs,.idx i s::p,t2,y,m',x',hm,h=>by
  cases m<;>simp_all [put,Mk.still]
 | .sl t,m,xs,.fst::p,t2,y,m',x',hm,h=>by simp[put]at h
 | .sl t,m,xs,.snd::p,t2,y,m',x',hm,h=>by simp[put]at h
 | .pair a b,m,xs,.idx i s::p,t2,y,m',x',hm,h=>by simp[put]at h
 | .unit,m,xs,_::p,t2,y,m',x',hm,h=>by simp[put]at h
 | .int _,m,xs,_::p,t2,y,m',x',hm,h=>by simp[put]at h
 | .bool,m,xs,_::p,t2,y,m',x',hm,h=>by simp[put]at h
 | .str,m,xs,_::p,t2,y,m',x',hm,h=>by simp[put]at h
theorem akL(t:Ty){v:AV}(h:v.isVal=true):∃r:Option t.den,∀S:aP,tk S t v=r.map fun x=>(Mk.no,x,S):=by
 cases v with
 | val t' x=>refine⟨qbv t' t x,fun S=>?_⟩;unfold tk;cases qbv t' t x<;>rfl
 | cH b=>
  cases t with
  | bool=>exact⟨some b,fun S=>rfl⟩
  | _=>exact⟨none,fun S=>rfl⟩
 | _=>simp[AV.isVal]at h
theorem R6(t:Ty):∀(l:List (Nat×AV))(acc:Mk×t.den),acc.1.still=true->l.all (fun p=>p.2.isVal)=true->
  ∃r:Option (Mk×t.den),(∀S:aP,oK S t acc l=r.map fun z=>(z.1,z.2,S))/\∀z,r=some z->z.1.still=true
 | [],acc,ha,_=>⟨some acc,fun S=>rfl,fun z hz=>by cases hz;exact ha⟩
 | (i,v)::l,acc,ha,h=>by
  simp only[gW,bI]at h;cases hf:focus t acc.1 acc.2 (ig i) with
  | none=>exact⟨none,fun S=>by simp only[oK,hf];rfl,fun z hz=>by cases hz⟩
  | some d=>
   obtain⟨r,hr⟩:=akL d.ty h.1;cases r with
   | none=>exact⟨none,fun S=>by simp only[oK,hf,dF,hr];rfl,fun z hz=>by cases hz⟩
   | some x=>
    cases hp:put t acc.1 acc.2 (ig i) d.ty .no x with
    | none=>exact⟨none,fun S=>by simp only[oK,hf,dF,hr,ef,hp];rfl,fun z hz=>by cases hz⟩
    | some q=>obtain⟨q1,q2⟩:=q;obtain⟨r2,h1,h2⟩:=R6 t l (q1,q2) (He _ _ _ _ _ _ _ _ ha hp) h.2;exact⟨r2,fun S=>by simp only[oK,hf,dF,hr,ef,hp];exact h1 S,h2⟩
theorem ack{A A':bY}{ρ:Operand->AV}{S S':aP}{site:Nat}{hint:Bool}{o:Oper}(hl:S'.length=S.length)(hw:dN C ρ o=none)
    (hr:g6 (if rW o then [] else qk (o.op.operands.toList.map ρ)) S S'):qj (aW C D A ρ S site hint o) (aW C D A' ρ S' site hint o) S S':=by
  have ha:∀{x:Operand},rW o=false->x∈o.op.operands->g6 (ρ x).roots S S':=by intro x hb hx;rw[hb]at hr;exact hr.sub fun r h=>q9k (eI.2 ⟨x,by simpa using hx,rfl⟩) r h
  cases ho:o.op with
  | move x=>simp only[aW,ho];exact qj.ret
  | pick c a b=>
    simp only[aW,ho];split
    . exact qj.br qj.ret qj.ret
    . exact qj.fail
  | unOp op t x=>
    simp only[aW,ho];split
    . exact qj.ret
    . exact qj.ret
    . exact qj.fail
  | field t x f=>
    simp only[aW,ho];split
    . split
      . split
        . exact qj.ret
        . exact qj.fail
      . exact qj.fail
    . exact qj.fail
  | extract x i=>simp only[aW,ho];exact qj.ofMap (f:=fun v=>v)
  | makeFunc f first caps=>
    cases f with
    | func f=>
      simp only[aW,ho];split
      . exact qj.ret
      . exact qj.fail
    | _=>simp only[aW,ho];exact qj.fail
  | load t x=>
    have:=ha (x:=x) (by unfold rW;rw[ho]) (by rw[ho];simp[Op.operands]);simp only[aW,ho];rw[ajH _ _ this];split
    . exact qj.ofMap (f:=fun v=>v)
    . exact qj.fail
  | nilCheck x=>
    have:=ha (x:=x) (by unfold rW;rw[ho]) (by rw[ho];simp[Op.operands]);simp only[aW,ho];cases hv:ρ x with
    | addr r p=>
      rw[hv]at this;simp only;rw[Ch this (by simp[AV.roots])];cases S.focus r p with
      | none=>exact qj.fail
      | some d=>exact qj.ret
    | ck t y=>exact qj.ret
    | gI f c=>exact qj.ret
    | _=>exact qj.fail
  | fieldAddr s x f=>have:=ha (x:=x) (by unfold rW;rw[ho]) (by rw[ho];simp[Op.operands]);simp only[aW,ho];rw[agx _ _ _ this];exact qj.ofMap (f:=fun v=>v)
  | indexAddr t x i=>
    have:=ha (x:=x) (by unfold rW;rw[ho]) (by rw[ho];simp[Op.operands]);simp only[aW,ho];rw[ajG _ _ _ this];split
    . exact qj.br qj.ret qj.fail
    . exact qj.fail
  | index t x i=>
    simp only[aW,ho];split
    . exact qj.br qj.ret qj.fail
    . exact qj.fail
  | convert s d x=>
    have:=ha (x:=x) (by unfold rW;rw[ho]) (by rw[ho];simp[Op.operands]);simp only[aW,ho];split
    . exact qj.ret
    . exact qj.ret
    . rw[MR _ _ this]
      split
      . exact qj.ret
      . exact qj.fail
    . exact qj.fail
  | binOp op t x y t2=>
    have:=ha (x:=x) (by unfold rW;rw[ho]) (by rw[ho];simp[Op.operands]);simp only[aW,ho];rw[Qz _ this];split
    . split
      . exact qj.nil (f:=fun b=>.val .bool b)
      . exact qj.nil (f:=fun b=>.val .bool b)
      . exact qj.fail
    . split
      . exact qj.ret
      . exact qj.br qj.ret qj.fail
      . exact qj.br qj.fail qj.ret
      . exact qj.fail
  | assign x=>
    simp only[dN,ho]at hw;simp only[aW,ho];cases hv:ρ x with
    | b8 r p s=>rw[hv]at hw;simp at hw
    | pair a b=>rw[hv]at hw;simp at hw
    | _=>exact qj.ret
  | build t parts=>
    simp only[dN,ho]at hw;split at hw
    . rename_i hc
      simp only[bI]at hc;simp only[aW,ho];split
      . obtain⟨r,h1,h2⟩:=R6 (C.ty t) (parts.toList.map fun p=>(p.1,ρ p.2)) (Mk.z8 hint (C.ty t),(C.ty t).zero) (abD hc.1 hint) (by
          have:=hc.2;unfold UG at this;simpa [List.all_map] using this)
        rw[h1 S,h1 S'];cases r with
        | none=>exact qj.fail
        | some z=>exact S7 hl (h2 z rfl)
      . exact qj.fail
    . simp at hw
  | call c=>
    have hb:rW o=false:=by unfold rW;rw[ho]
    cases hc:c.callee with
    | builtin b=>
      cases b with
      | len=>
        simp only[aW,ho,hc];split
        . exact qj.ret
        . rename_i x _ _ _ hargs _
          obtain⟨u,vV,C6⟩:∃u,u∈c.args.toList/\ρ u=x:=by
            have:x∈c.args.toList.map ρ:=by rw[hargs];simp
            simpa using this
          have:=ha (x:=u) hb (by rw[ho];simp only[Op.operands,Call.operands,sF];right;simpa using vV);rw[C6]at this;rw[Qz _ this];exact qj.ofMap (f:=fun n=>.val (.int .i64) n)
        all_goals first | (exfalso;contradiction) | exact qj.fail
      | min=>
        simp only[aW,ho,hc];split
        all_goals first
          | (exfalso;contradiction)
          | exact qj.fail
          | (split
             . split
               . exact qj.ret
               . exact qj.fail
             . exact qj.fail)
      | max=>
        simp only[aW,ho,hc];split
        all_goals first
          | (exfalso;contradiction)
          | exact qj.fail
          | (split
             . split
               . exact qj.ret
               . exact qj.fail
             . exact qj.fail)
      | _=>simp[dN,ho,hc]at hw
    | value f=>
      have hf:=ha (x:=f) hb (by rw[ho];simp[Op.operands,Call.operands,hc]);have hargs:g6 (qk (c.args.toList.map ρ)) S S':=by
        intro r hr';have key:∀(l:List Operand),(∀x∈l,g6 (ρ x).roots S S')->r∈qk (l.map ρ)->S'.root r=S.root r:=by
          intro l
          induction l with
          | nil=>intro _ h;simp[qk]at h
          | cons x l ih=>
            intro hx h;simp only[cA,qk,bN]at h;rcases h with h | h
            . exact hx x e8 r h
            . exact ih (fun y hy=>hx y (cG _ hy)) h
        exact key c.args.toList (fun x hx=>ha hb (by rw[ho];simp only[Op.operands,Call.operands,sF];right;simpa using hx)) hr'
      simp only[aW,ho,hc];simp only[dN,ho,hc]at hw;cases hv:ρ f with
      | gI g caps=>
        rw[hv]at hw hf;simp only at hw⊢;split at hw
        . simp at hw
        rename_i vU;simp only[qQ,af vU];split at hw
        . rename_i hq
          refine abN (A:={ A with sh:=hint }) (A':={ A' with sh:=hint }) rfl hl hq ?_;intro r hr';rcases(qzc _ _ r).1 hr' with h | h
          . exact hargs r h
          . exact hf r (by simp only[AV.roots];exact WI _ r h)
        . simp at hw
      | ep cl=>
        simp only;rw[QB _ _ hargs];split
        . split
          . exact qj.call fun x=>qj.ret
          . exact qj.fail
        . exact qj.fail
      | _=>exact qj.fail
    | invoke r m=>simp only[aW,ho,hc];exact qj.fail
  | _=>simp[dN,ho]at hw
end
end
structure fQ (W:List Nat) (S S':aP):Prop where
 len:S'.length=S.length
 root:∀r,r∉W->S'.root r=S.root r
theorem fQ.refl(W:List Nat)(S:aP):fQ W S S:=⟨rfl,fun _ _=>rfl⟩
theorem fQ.trans{W:List Nat}{a b c:aP}(h:fQ W a b)(k:fQ W b c):fQ W a c:=⟨k.len.trans h.len,fun r hr=>(k.root r hr).trans (h.root r hr)⟩
theorem fQ.mono{W W':List Nat}{a b:aP}(h:fQ W a b)(hs:∀r∈W,r∈W'):fQ W' a b:=⟨h.len,fun r hr=>h.root r fun hh=>hr (hs r hh)⟩
theorem fQ.set(S:aP)(q:Nat)(x:Option aC):fQ [q] S (S.aI q x):=by refine⟨by simp[aP.bX],fun r hr=>?_⟩;simp only[d9]at hr;simp only[aP.iq,aP.bX,List.getD,jZ];rw[af (fun h=>hr h.symm)]
theorem vv:∀(t:Ty)(a:AV){S S':aP}{m:Mk}{x:t.den},tk S t a=some (m,x,S')->fQ a.roots S S'
 | t,.val t' y,S,S',m,x,h=>by
  have:(qbv t' t y).bind (fun x=>some (Mk.no,x,S))=some (m,x,S'):=by cases t<;>simpa only [tk] using h
  simp only[cM,aK,aY]at this;obtain⟨_,_,_,_,rfl⟩:=this;exact fQ.refl _ _
 | t,.cH b,S,S',m,x,h=>by
  cases t<;>simp[tk]at h;obtain⟨_,_,rfl⟩:=h;exact fQ.refl _ _
 | t,.unit,S,S',m,x,h=>by
  cases t<;>simp[tk]at h;obtain⟨_,rfl⟩:=h;exact fQ.refl _ _
 | t,.fl,S,S',m,x,h=>by
  cases t<;>simp[tk]at h;obtain⟨_,_,rfl⟩:=h;exact fQ.refl _ _
 | t,.b8 r p s,S,S',m,x,h=>by
  cases t with
  | sl e=>
   simp only[tk]at h;split at h
   .split at h
    .split at h
     .simp only[cM,aK,aY]at h;obtain⟨_,_,_,_,_,_,rfl⟩:=h;exact fQ.set _ _ _
     .simp at h
    .simp at h
   .simp at h
  | _=>simp[tk]at h
 | t,.pair u v,S,S',m,x,h=>by
  cases t with
  | pair a b=>simp only[tk,cM,aK,aY]at h;obtain⟨⟨m1,x1,S1⟩,h1,⟨m2,x2,S2⟩,h2,_,_,rfl⟩:=h;exact((vv a u h1).mono fun r hr=>by simp[AV.roots,hr]).trans ((vv b v h2).mono fun r hr=>by simp[AV.roots,hr])
  | _=>simp[tk]at h
 | t,.undef,S,S',m,x,h=>by cases t<;>simp[tk]at h
 | t,.skip,S,S',m,x,h=>by cases t<;>simp[tk]at h
 | t,.view _ _ _ _ _,S,S',m,x,h=>by cases t<;>simp[tk]at h
 | t,.addr _ _,S,S',m,x,h=>by cases t<;>simp[tk]at h
 | t,.ck _ _,S,S',m,x,h=>by cases t<;>simp[tk]at h
 | t,.jJ _,S,S',m,x,h=>by cases t<;>simp[tk]at h
 | t,.gI _ _,S,S',m,x,h=>by cases t<;>simp[tk]at h
 | t,.ep _,S,S',m,x,h=>by cases t<;>simp[tk]at h
theorem akc(t:Ty)(a:AV){S S':aP}{hint:Bool}{m:Mk}{x:t.den}(h:UM S hint t a=some (m,x,S')):fQ a.roots S S':=by
 simp only[UM,cM]at h;obtain⟨⟨m1,x1,S1⟩,h1,h⟩:=h;split at h
 .split at h
  .simp only[aK,aY]at h;obtain⟨rfl,rfl,rfl⟩:=h;exact vv t a h1
  .simp at h
 .simp only[aK,aY]at h;obtain⟨rfl,rfl,rfl⟩:=h;exact vv t a h1
theorem wg{A:bY}{S S':aP}{d:Option Nat}{site:Nat}{t:Ty}{m:Mk}{x:t.den}{mem:Bool}{β:Bool}{v:AV}(h:(dR A S d site t m x mem).dec β=some (v,S')):fQ d.toList S S':=by
 cases d with
 | none=>simp only[dR,Tr.dec,aK,aY]at h;rw[<-h.2];exact fQ.refl _ _
 | some d=>
  simp only[dR]at h;split at h
  .simp[Tr.dec]at h
  .split at h
   .split at h
    .simp only[Tr.dec,aK,aY]at h;rw[<-h.2];exact fQ.set _ _ _
    .simp[Tr.dec]at h
   .split at h
    .simp only[Tr.dec,aK,aY]at h;rw[<-h.2];exact fQ.refl _ _
    .split at h
     .simp only[Tr.dec,aK,aY]at h;rw[<-h.2];exact fQ.set _ _ _
     .simp[Tr.dec]at h
theorem RE{T:Ty}:∀(l:List (Nat×AV))(acc:Mk×T.den){S S':aP}{m:Mk}{x:T.den},oK S T acc l=some (m,x,S')->fQ (qk (l.map (·.2))) S S'
 | [],acc,S,S',m,x,h=>by
  simp only[oK,aK,aY]at h;obtain⟨_,_,rfl⟩:=h;exact fQ.refl _ _
 | (i,v)::l,acc,S,S',m,x,h=>by
  simp only[oK,cM]at h;obtain⟨d,_,⟨m1,x1,S1⟩,h1,r,_,h2⟩:=h;exact((vv _ v h1).mono fun r hr=>by simp[qk,hr]).trans ((RE l _ h2).mono fun r hr=>by simp[qk,hr])
theorem Nl{e:Ty}:∀(l:List (Nat×AV))(acc:Mk×List e.den){S S':aP}{m:Mk}{x:List e.den},tI S e acc l=some (m,x,S')->fQ (qk (l.map (·.2))) S S'
 | [],acc,S,S',m,x,h=>by
  simp only[tI,aK,aY]at h;obtain⟨_,_,rfl⟩:=h;exact fQ.refl _ _
 | (i,v)::l,acc,S,S',m,x,h=>by
  simp only[tI]at h;split at h
  .simp only[cM]at h;obtain⟨⟨m1,x1,S1⟩,h1,h2⟩:=h;exact((vv _ v h1).mono fun r hr=>by simp[qk,hr]).trans ((Nl l _ h2).mono fun r hr=>by simp[qk,hr])
  .simp at h
theorem Fg:∀(ks:List PK)(aJ:List AV){S S':aP}{g:js ks},fZ S ks aJ=some (g,S')->fQ (mz ks aJ) S S'
 | [],[],S,S',g,h=>by
  simp only[fZ,aK,aY]at h;rw[h.2];exact fQ.refl _ _
 | [],_::_,S,S',g,h=>by simp[fZ]at h
 | k::ks,[],S,S',g,h=>by cases k<;>simp[fZ]at h
 | k::ks,a::aJ,S,S',g,h=>by
  have hsub:∀r∈mz ks aJ,r∈mz (k::ks) (a::aJ):=by intro r hr;simp only[mz];split<;>simp[hr]
  cases k with
  | own t m=>
   simp only[fZ,cM]at h;obtain⟨⟨m1,x1,S1⟩,h1,h⟩:=h;split at h
   .simp only[cM,aK,aY]at h;obtain⟨⟨g2,S2⟩,h2,_,rfl⟩:=h;exact((vv _ a h1).mono fun r hr=>by simp[mz,PK.plain,hr]).trans ((Fg ks aJ h2).mono hsub)
   .simp at h
  | val t=>exact(Fg ks aJ (by simpa only [fZ] using h)).mono hsub
  | cD t m m'=>exact(Fg ks aJ (by simpa only [fZ] using h)).mono hsub
  | cQ t m m'=>exact(Fg ks aJ (by simpa only [fZ] using h)).mono hsub
  | cq t=>exact(Fg ks aJ (by simpa only [fZ] using h)).mono hsub
  | fn=>exact(Fg ks aJ (by simpa only [fZ] using h)).mono hsub
theorem Gd:∀(a:AV){r:Nat}{p:Path},kF a=some (r,p)->r∈a.roots
 | .b8 r' p' s,r,p,h=>by simp only[kF,aK,aY]at h;simp[AV.roots,h.1]
 | .pair a b,r,p,h=>by
  simp only[kF]at h;simp only[AV.roots,bN];split at h
  .rename_i r1 p1 h1;simp only[aK,aY]at h;obtain⟨rfl,_⟩:=h;exact .inl (Gd a h1)
  .split at h
   .rename_i r1 p1 h1;simp only[aK,aY]at h;obtain⟨rfl,_⟩:=h;exact .inr (Gd b h1)
   .simp at h
 | .undef,_,_,h=>by simp[kF]at h
 | .skip,_,_,h=>by simp[kF]at h
 | .cH _,_,_,h=>by simp[kF]at h
 | .unit,_,_,h=>by simp[kF]at h
 | .fl,_,_,h=>by simp[kF]at h
 | .val _ _,_,_,h=>by simp[kF]at h
 | .view _ _ _ _ _,_,_,h=>by simp[kF]at h
 | .addr _ _,_,_,h=>by simp[kF]at h
 | .ck _ _,_,_,h=>by simp[kF]at h
 | .jJ _,_,_,h=>by simp[kF]at h
 | .gI _ _,_,_,h=>by simp[kF]at h
 | .ep _,_,_,h=>by simp[kF]at h
theorem ab9{S S':aP}{site:Nat}{t:Ty}{a:AV}{m:Mk}{o:t.den}(h:yb S site t a m o=some S'):fQ a.roots S S':=by
 unfold yb at h;split at h
 .simp only[aK]at h;rw[h];exact fQ.refl _ _
 .rename_i r p hp;split at h
  .simp only[cM]at h;obtain⟨d,_,h⟩:=h;split at h
   .simp only[cM]at h;obtain⟨y,_,h⟩:=h;split at h
    .simp at h
    .simp only[cM,aK]at h;obtain⟨_,_,rfl⟩:=h;exact(fQ.set _ _ _).mono fun r' hr=>by simp only[d9]at hr;subst hr;exact Gd a hp
   .simp at h
  .simp at h
theorem Ff{site:Nat}:∀(ks:List PK)(aJ:List AV)(o:dG ks){S S':aP},gb S site ks aJ o=some S'->fQ (mz ks aJ) S S'
 | [],[],o,S,S',h=>by
  simp only[gb,aK]at h;rw[h];exact fQ.refl _ _
 | [],_::_,o,S,S',h=>by simp[gb]at h
 | k::ks,[],o,S,S',h=>by cases k<;>simp[gb]at h
 | k::ks,a::aJ,o,S,S',h=>by
  have hsub:∀r∈mz ks aJ,r∈mz (k::ks) (a::aJ):=by intro r hr;simp only[mz];split<;>simp[hr]
  cases k with
  | cD t m m'=>
   cases a with
   | addr q p=>
    cases p with
    | nil=>
     simp only[gb]at h;split at h
     .exact((fQ.set _ _ _).mono fun r hr=>by simp only[d9]at hr;subst hr;simp[mz,PK.plain,AV.roots]).trans ((Ff ks aJ o.2 h).mono hsub)
     .simp at h
    | cons _ _=>simp[gb]at h
   | _=>simp[gb]at h
  | cQ t m m'=>simp only[gb,cM]at h;obtain⟨S1,h1,h2⟩:=h;exact((ab9 h1).mono fun r hr=>by simp[mz,PK.plain,hr]).trans ((Ff ks aJ o.2 h2).mono hsub)
  | val t=>exact(Ff ks aJ o (by simpa only [gb] using h)).mono hsub
  | own t m=>exact(Ff ks aJ o (by simpa only [gb] using h)).mono hsub
  | cq t=>exact(Ff ks aJ o (by simpa only [gb] using h)).mono hsub
  | fn=>exact(Ff ks aJ o (by simpa only [gb] using h)).mono hsub
theorem Ni{A:bY}{S S':aP}{d:Option Nat}{site:Nat}:∀(rs:List RK)(r:f8 rs){β:Bool}{v:AV},(mA A S d site rs r).dec β=some (v,S')->fQ d.toList S S'
 | [],r,β,v,h=>by
  simp only[mA,Tr.dec,aK,aY]at h;rw[<-h.2];exact fQ.refl _ _
 | [.val t m],r,β,v,h=>by
  simp only[mA]at h;split at h
  .split at h
   .simp only[Tr.dec,aK,aY]at h;rw[<-h.2];exact fQ.refl _ _
   .simp[Tr.dec]at h
  .split at h
   .exact wg h
   .simp[Tr.dec]at h
 | [.ptr t m],r,β,v,h=>by
  simp only[mA]at h;split at h
  .exact wg h
  .simp[Tr.dec]at h
 | q1::q2::rs,r,β,v,h=>by
  have h':(Cu A S d site (q1::q2::rs) r).dec β=some (v,S'):=by cases q1<;>simpa only [mA] using h
  unfold Cu at h';split at h'
  .cases d with
   | none=>simp only[Tr.dec,aK,aY]at h';rw[<-h'.2];exact fQ.refl _ _
   | some d=>
    simp only at h';cases hl:dR A S (some d) site (jr (q1::q2::rs)) (pQ (q1::q2::rs)) (kq (q1::q2::rs) r) false with
    | ret z=>obtain⟨v1,S1⟩:=z;rw[hl]at h';simp only[Tr.dec,aK,aY]at h';rw[<-h'.2];exact wg (β:=true) (by rw[hl];rfl)
    | _=>rw[hl]at h';simp[Tr.dec]at h'
  .simp[Tr.dec]at h'
section
variable {C:Ctx} {D:Den C}
theorem Hx{A:bY}{S S':aP}{d:Option Nat}{site:Nat}{g:FuncId}{aJ:List AV}{β:Bool}{v:AV}(h:(rY C D A S d site g aJ).dec β=some (v,S')):fQ (d.toList++mz (C.sig g).params aJ) S S':=by
 unfold rY at h;split at h
 .simp[Tr.dec]at h
 .rename_i gd S1 h1;split at h
  .simp[Tr.dec]at h
  .rename_i od S2 h2;split at h
   .simp[Tr.dec]at h
   .split at h
    .simp only[Tr.dec,cM]at h;obtain⟨r,_,h⟩:=h;have f1:fQ (d.toList++mz (C.sig g).params aJ) S S1:=(Fg _ _ h1).mono fun r hr=>by simp[hr]
     split at h
     .exact f1.trans ((Ni _ _ h).mono fun r hr=>by simp[hr])
     .split at h
      .cases hlo:wj (C.sig g).params aJ with
       | false=>rw[hlo]at h;simp[Tr.dec]at h
       | true=>
       rw[hlo]at h;simp only[Tr.dec]at h;split at h
       .simp[Tr.dec]at h
       .rename_i S3 h3;exact f1.trans (((Ff _ _ _ h3).mono fun r hr=>by simp[hr]).trans ((Ni _ _ h).mono fun r hr=>by simp[hr]))
      .simp[Tr.dec]at h
    .simp[Tr.dec]at h
theorem VE:∀(ks:List PK)(aJ:List AV),∀r∈mz ks aJ,r∈qk aJ
 | [],_,r,h=>by simp[mz]at h
 | k::ks,[],r,h=>by simp[mz]at h
 | k::ks,a::aJ,r,h=>by
  simp only[mz]at h;simp only[qk,bN];split at h
  .exact .inr (VE ks aJ r h)
  .rcases bN.1 h with h | h
   .exact .inl h
   .exact .inr (VE ks aJ r h)
theorem q5r:∀(ks:List PK)(aJ:List AV){S:aP}{z:List AV×aP},lp S ks aJ=some z->fQ (qk aJ) S z.2/\mz ks z.1=mz ks aJ
 | [],[],S,z,h=>by
  simp only[lp,aK]at h;subst h;exact⟨fQ.refl _ _,rfl⟩
 | [],_::_,S,z,h=>by simp[lp]at h
 | k::ks,[],S,z,h=>by cases k<;>simp[lp]at h
 | k::ks,a::aJ,S,z,h=>by
  have plain:(lp S ks aJ).map (fun z=>(a::z.1,z.2))=some z->fQ (qk (a::aJ)) S z.2/\mz (k::ks) z.1=mz (k::ks) (a::aJ):=by intro h;simp only[fo]at h;obtain⟨z',h1,rfl⟩:=h;obtain⟨f,e⟩:=q5r ks aJ h1;exact⟨f.mono fun r hr=>by simp[qk,hr],by simp only[mz,e]⟩
  cases k with
  | val t=>
   simp only[lp]at h;split at h
   .exact plain h
   .split at h
    .rename_i m y S1 sn;split at h
     .simp only[fo]at h;obtain⟨z',h1,rfl⟩:=h;obtain⟨f,e⟩:=q5r ks aJ h1;exact⟨((vv _ _ sn).mono fun r hr=>by simp[qk,hr]).trans (f.mono fun r hr=>by simp[qk,hr]),by simp only[mz,PK.plain,aX,e]⟩
     .simp at h
    .simp at h
  | _=>exact plain (by simpa only [lp] using h)
theorem abO{A:bY}{S S':aP}{d:Option Nat}{site:Nat}{g:FuncId}{aJ:List AV}{β:Bool}{v:AV}(h:(qQ C D A S d site g aJ).dec β=some (v,S')):fQ (d.toList++qk aJ) S S':=by
 unfold qQ at h;split at h
 .split at h
  .rename_i z hz;obtain⟨f,e⟩:=q5r _ _ hz;have f2:=Hx h;rw[e]at f2;exact(f.mono fun r hr=>by simp[hr]).trans (f2.mono fun r hr=>by
    rcases bN.1 hr with hr | hr
    .simp[hr]
    .exact bN.2 (.inr (VE _ _ r hr)))
  .simp[Tr.dec]at h
 .exact(Hx h).mono fun r hr=>by
   rcases bN.1 hr with hr | hr
   .simp[hr]
   .exact bN.2 (.inr (VE _ _ r hr))
theorem Se{A:bY}{S S':aP}{d:Option Nat}{site:Nat}{hint:Bool}{u:AV}{β:Bool}{v:AV}(h:(Fm A S d site hint u).dec β=some (v,S')):fQ (d.toList++u.roots) S S':=by
 unfold Fm at h;split at h
 .split at h
  .rename_i m y S1 h1;have f1:fQ (d.toList++u.roots) S S1:=(vv _ _ h1).mono fun r hr=>by simp[hr]
   split at h
   .split at h
    .simp only[Tr.dec,aK,aY]at h;rw[<-h.2];exact f1
    .simp[Tr.dec]at h
   .exact f1.trans ((wg h).mono fun r hr=>by simp[hr])
  .simp[Tr.dec]at h
 .simp[Tr.dec]at h
theorem Vy{ρ:Operand->AV}(ps:Array (Nat×Operand)):qk ((ps.toList.map fun p=>(p.1,ρ p.2)).map (·.2))=qk ((ps.toList.map (·.2)).map ρ):=by simp only[B3];rfl
theorem abV{A:bY}{ρ:Operand->AV}{S S':aP}{site:Nat}{hint:Bool}{o:Oper}{W:List Nat}(hw:dN C ρ o=some W){β:Bool}{v:AV}
  (h:(aW C D A ρ S site hint o).dec β=some (v,S')):fQ W S S':=by
 have hin:∀{x:Operand},x∈o.op.operands->∀r∈(ρ x).roots,r∈qk (o.op.operands.toList.map ρ):=fun hx r hr=>q9k (eI.2 ⟨_,by simpa using hx,rfl⟩) r hr;cases ho:o.op with
 | assign x=>
  simp only[dN,ho]at hw;simp only[aW,ho]at h;have hx:=hin (x:=x) (by rw[ho];simp[Op.operands]);rw[ho]at hx;cases hv:ρ x with
  | b8 r p s=>
   rw[hv]at hw h hx;simp only[aK]at hw;subst hw;simp only at h;split at h
   .simp only[Tr.dec,aK,aY]at h;rw[<-h.2];exact fQ.refl _ _
   .exact(Se h).mono fun r hr=>by rcases bN.1 hr with h | h;exact bN.2 (.inl h);exact bN.2 (.inr (hx r h))
  | pair a b=>rw[hv]at hw h hx;simp only[aK]at hw;subst hw;exact(Se h).mono fun r hr=>by rcases bN.1 hr with h | h;exact bN.2 (.inl h);exact bN.2 (.inr (hx r h))
  | _=>rw[hv]at hw;simp at hw
 | alloc t=>
  simp only[dN,ho,aK]at hw;subst hw;simp only[aW,ho]at h;split at h
  .exact(wg h).mono fun r hr=>by simp[hr]
  .simp[Tr.dec]at h
 | box t x=>
  simp only[dN,ho,aK]at hw;subst hw;have hx:=hin (x:=x) (by rw[ho];simp[Op.operands]);rw[ho]at hx;simp only[aW,ho]at h;split at h
  .split at h
   .rename_i m y S1 h1;have f1:=(vv _ _ h1).mono (W':=o.dst.toList++qk ((Op.box t x).operands.toList.map ρ)) fun r hr=>bN.2 (.inr (hx r hr));split at h
    .split at h
     .exact f1.trans ((wg h).mono fun r hr=>by simp[hr])
     .simp[Tr.dec]at h
    .exact f1.trans ((wg h).mono fun r hr=>by simp[hr])
   .simp[Tr.dec]at h
  .simp[Tr.dec]at h
 | build t ps=>
  simp only[dN,ho]at hw;split at hw
  .simp at hw
  simp only[aK]at hw;subst hw;simp only[aW,ho]at h;split at h
  .split at h
   .rename_i m y S1 h1;have f1:=(RE _ _ h1).mono (W':=o.dst.toList++qk ((Op.build t ps).operands.toList.map ρ)) fun r hr=>by
     rw[Vy]at hr;exact bN.2 (.inr (by simpa [Op.operands] using hr))
    exact f1.trans ((wg h).mono fun r hr=>by simp[hr])
   .simp[Tr.dec]at h
  .simp[Tr.dec]at h
 | buildSlice t n ps=>
  simp only[dN,ho,aK]at hw;subst hw;simp only[aW,ho]at h;split at h
  .split at h
   .rename_i m y S1 h1;have f1:=(Nl _ _ h1).mono (W':=o.dst.toList++qk ((Op.buildSlice t n ps).operands.toList.map ρ)) fun r hr=>by
     rw[Vy]at hr;exact bN.2 (.inr (by simpa [Op.operands] using hr))
    split at h
    .split at h
     .split at h
      .simp only[Tr.dec,aK,aY]at h;rw[<-h.2];exact f1
      .simp[Tr.dec]at h
     .exact f1.trans ((wg h).mono fun r hr=>by simp[hr])
    .simp[Tr.dec]at h
   .simp[Tr.dec]at h
  .simp[Tr.dec]at h
 | store t x y=>
  simp only[dN,ho,aK]at hw;subst hw;have hx:=hin (x:=x) (by rw[ho];simp[Op.operands]);have hy:=hin (x:=y) (by rw[ho];simp[Op.operands]);rw[ho]at hx hy;simp only[aW,ho]at h;split at h
  .cases hs:BA S site hint (C.ty t) (ρ x) (ρ y) with
   | none=>rw[hs]at h;simp[Tr.of,Tr.dec]at h
   | some S2=>
    rw[hs]at h;simp only[ef,Tr.of,Tr.dec,aK,aY]at h;rw[<-h.2];unfold BA at hs;split at hs
    .rename_i r p hv;simp only[cM]at hs;obtain⟨⟨m,z,S1⟩,h1,hs⟩:=hs;split at hs
     .simp only[cM]at hs;obtain⟨dd,_,hs⟩:=hs;split at hs
      .simp only[cM,aK]at hs;obtain⟨_,_,rfl⟩:=hs;refine((akc _ _ h1).mono fun r hr=>bN.2 (.inr (hy r hr))).trans ((fQ.set _ _ _).mono fun r' hr=>?_);simp only[d9]at hr;subst hr;exact bN.2 (.inr (hx _ (by rw[hv];simp[AV.roots])))
      .simp at hs
     .simp at hs
    .simp at hs
  .simp[Tr.dec]at h
 | makeSlice t x y=>
  simp only[dN,ho,aK]at hw;subst hw;simp only[aW,ho]at h;split at h
  .simp only[Tr.dec]at h;split at h
   .exact(wg h).mono fun r hr=>by simp[hr]
   .simp at h
  .simp[Tr.dec]at h
 | slice t x lo hi mx=>
  simp only[dN,ho,aK]at hw;subst hw;have hx:=hin (x:=x) (by rw[ho];simp[Op.operands]);rw[ho]at hx;cases mx with
  | some _=>simp only[aW,ho,Tr.dec]at h;simp at h
  | none=>
   simp only[aW,ho]at h;unfold uR at h;split at h
   .split at h
    .simp only[Tr.dec]at h;split at h
     .simp only[aK,aY]at h;rw[<-h.2];exact fQ.refl _ _
     .simp at h
    .simp[Tr.dec]at h
   .split at h
    .split at h
     .simp only[Tr.dec]at h;split at h
      .simp only[aK,aY]at h;rw[<-h.2];exact fQ.refl _ _
      .simp at h
     .simp[Tr.dec]at h
    .simp[Tr.dec]at h
   .rename_i r p s e hv hT;split at h
    .split at h
     .rename_i m xs S2 h1;have f1:=(vv _ _ h1).mono (W':=o.dst.toList++qk ((Op.slice t x lo hi none).operands.toList.map ρ)) fun r hr=>bN.2 (.inr (hx r (by rw[hv];exact hr)));split at h
      .split at h
       .simp only[Tr.dec]at h;split at h
        .exact f1.trans ((wg h).mono fun r hr=>by simp[hr])
        .simp at h
       .simp[Tr.dec]at h
      .simp[Tr.dec]at h
     .simp[Tr.dec]at h
    .unfold uY at h;split at h
     .split at h
      .split at h
       .simp only[Tr.dec]at h;split at h
        .simp only[aK,aY]at h;rw[<-h.2];exact fQ.refl _ _
        .simp at h
       .simp[Tr.dec]at h
      .simp[Tr.dec]at h
     .simp[Tr.dec]at h
   .simp[Tr.dec]at h
 | call c=>
  have hargs:∀(a:AV),a∈c.args.toList.map ρ->∀r∈a.roots,r∈qk (o.op.operands.toList.map ρ):=by intro a ha r hr;obtain⟨x,hx,rfl⟩:=eI.1 ha;exact hin (x:=x) (by rw[ho];simp only[Op.operands,Call.operands,sF];right;simpa using hx) r hr
  cases hc:c.callee with
  | builtin b=>
   cases b with
   | append=>
    simp only[dN,ho,hc,aK]at hw;subst hw;rw[ho]at hargs;simp only[aW,ho,hc]at h;split at h<;>try (first | (exfalso;contradiction) | (simp[Tr.dec]at h;done))
    rename_i x0 y0 e e' _ _ hmap _;split at h
    .cases hint with
     | true=>
      simp only[aX]at h;have hx0:=hargs x0 (by rw[hmap];simp);unfold qR at h;split at h
      .split at h
       .split at h
        .split at h
         .split at h
          .simp only[Tr.dec]at h;split at h
           .simp only[aK,aY]at h;rw[<-h.2];exact(fQ.set _ _ _).mono fun r' hr=>by
             simp only[d9]at hr;subst hr;exact bN.2 (.inr (hx0 _ (by simp[AV.roots])))
           .simp at h
          .simp[Tr.dec]at h
         .simp[Tr.dec]at h
        .simp[Tr.dec]at h
       .simp[Tr.dec]at h
      .simp[Tr.dec]at h
     | false=>
     simp only[fe,dX]at h;unfold DG at h;have hx0:=hargs x0 (by rw[hmap];simp);have hy0:=hargs y0 (by rw[hmap];simp);split at h
     .rename_i m xs S1 h1;split at h
      .rename_i my ys S2 h2;have f1:=((vv _ _ h1).mono (W':=o.dst.toList++qk ((Op.call c).operands.toList.map ρ)) fun r hr=>bN.2 (.inr (hx0 r hr))).trans
        ((vv _ _ h2).mono fun r hr=>bN.2 (.inr (hy0 r hr)))
       split at h
       .split at h
        .simp only[Tr.dec]at h;split at h
         .exact f1.trans ((wg h).mono fun r hr=>by simp[hr])
         .simp at h
        .simp[Tr.dec]at h
       .simp[Tr.dec]at h
      .simp[Tr.dec]at h
     .simp[Tr.dec]at h
    .simp[Tr.dec]at h
   | clear=>simp only[dN,ho,hc,aK]at hw;subst hw;rw[ho]at hargs;simp only[aW,ho,hc]at h;split at h<;>try (first | (exfalso;contradiction) | (simp[Tr.dec]at h;done))
   | copy=>
    simp only[dN,ho,hc,aK]at hw;subst hw;rw[ho]at hargs;simp only[aW,ho,hc]at h;split at h<;>try (first | (exfalso;contradiction) | (simp[Tr.dec]at h;done))
    rename_i x0 y0 e _ _ hmap _;have hx0:=hargs x0 (by rw[hmap];simp);unfold yj at h;split at h
    .split at h
     .split at h
      .split at h
       .split at h
        .split at h
         .simp only[Tr.dec]at h;split at h
          .simp only[aK,aY]at h;rw[<-h.2];exact(fQ.set _ _ _).mono fun r' hr=>by
            simp only[d9]at hr;subst hr;exact bN.2 (.inr (hx0 _ (by simp[AV.roots])))
          .simp only[aK,aY]at h;rw[<-h.2];exact fQ.refl _ _
         .simp[Tr.dec]at h
        .simp[Tr.dec]at h
       .simp[Tr.dec]at h
      .simp[Tr.dec]at h
     .simp[Tr.dec]at h
    .simp[Tr.dec]at h
   | len=>simp[dN,ho,hc]at hw
   | min=>simp[dN,ho,hc]at hw
   | max=>simp[dN,ho,hc]at hw
   | _=>simp only[aW,ho,hc,Tr.dec]at h;simp at h
  | value f=>
   simp only[dN,ho,hc]at hw;simp only[aW,ho,hc]at h;cases hv:ρ f with
   | gI g caps=>
    rw[hv]at hw h;simp only at hw h;split at hw
    .simp only[aK]at hw;subst hw;refine(abO h).mono fun r hr=>?_;rcases bN.1 hr with hr | hr
     .exact bN.2 (.inl hr)
     .refine bN.2 (.inr ?_);rw[qzc]at hr;rcases hr with hr | hr
      .simp only[Op.operands,Call.operands,hc];have:∀l:List AV,∀a,r∈qk l->r∈qk (a::l):=fun l a h=>by simp[qk,h]
       simpa using this _ _ hr
      .have h1:=WI caps r hr;have h2:=hin (x:=f) (by rw[ho];simp[Op.operands,Call.operands,hc]) r (by rw[hv];simpa [AV.roots] using h1);rw[ho]at h2;exact h2
    .rename_i vU;simp only[qQ,af vU]at h;split at hw
     .simp at hw
     .simp only[aK]at hw;subst hw;exact Hx h
   | ep cl=>rw[hv]at hw;simp at hw
   | _=>rw[hv]at h;simp[Tr.dec]at h
  | invoke r m=>simp only[aW,ho,hc,Tr.dec]at h;simp at h
 | _=>first | (simp[dN,ho]at hw;done) | (simp only[aW,ho,Tr.dec]at h;simp at h)
end
end Go.V
namespace Go.V
noncomputable section
open Go
theorem nB(S:aP)(q:Nat)(x:Option aC)(r:Nat):(S.aI q x).root r=if r=q/\q<S.length then x else S.root r:=by
 simp only[aP.iq,aP.bX,List.getD,jZ];by_cases h:q=r
 .subst h;by_cases hl:q<S.length
  .simp[hl]
  .simp[hl]
 .rw[af h,af (fun k=>h k.1.symm)]
theorem KN{F:List Nat}{S T:aP}(hr:g6 F S T)(hl:T.length=S.length)(q:Nat)(x:Option aC):g6 F (S.aI q x) (T.aI q x):=by intro r h;rw[nB,nB,hl,hr r h]
def Lk{α:Type}(F:List Nat)(X Y:Option (α×aP)):Prop:=∀a S',X=some (a,S')->∃T',Y=some (a,T')/\g6 F S' T'/\T'.length=S'.length
theorem AI{F:List Nat}:∀(t:Ty)(a:AV){S T:aP}{m:Mk}{x:t.den}{S':aP},g6 F S T->T.length=S.length->(∀r∈a.roots,r∈F)->tk S t a=some (m,x,S')->
  ∃T',tk T t a=some (m,x,T')/\g6 F S' T'/\T'.length=S'.length
 | t,.val t' y,S,T,m,x,S',hr,hl,hF,h=>by
  have e:∀S:aP,tk S t (.val t' y)=(qbv t' t y).bind (fun x=>some (Mk.no,x,S)):=by intro S;cases t<;>simp only[tk]
  rw[e]at h;simp only[cM,aK,aY]at h;obtain⟨z,hz,rfl,rfl,rfl⟩:=h;exact⟨T,by rw[e,hz];rfl,hr,hl⟩
 | t,.cH b,S,T,m,x,S',hr,hl,hF,h=>by
  cases t<;>simp[tk]at h;obtain⟨rfl,rfl,rfl⟩:=h;exact⟨T,by simp[tk],hr,hl⟩
 | t,.unit,S,T,m,x,S',hr,hl,hF,h=>by
  cases t<;>simp[tk]at h;obtain⟨rfl,rfl⟩:=h;exact⟨T,by simp[tk],hr,hl⟩
 | t,.fl,S,T,m,x,S',hr,hl,hF,h=>by
  cases t<;>simp[tk]at h;obtain⟨rfl,rfl,rfl⟩:=h;exact⟨T,by simp[tk],hr,hl⟩
 | t,.b8 r p s,S,T,m,x,S',hr,hl,hF,h=>by
  cases t with
  | sl e=>
   have bK:=hr r (hF r (by simp[AV.roots]));simp only[tk]at h⊢;rw[bK];cases hR:S.root r with
   | none=>rw[hR]at h;simp at h
   | some R=>
    rw[hR]at h;simp only at h⊢;cases hf:V.focus R.ty R.ms R.x p with
    | none=>rw[hf]at h;simp at h
    | some d=>
     obtain⟨dt,dm,dx⟩:=d;rw[hf]at h;cases dt with
     | sl t2=>
      cases dm with
      | own s' m2=>
       simp only at h⊢;by_cases hs:s=s'
       .rw[ak hs]at h⊢;simp only[cM,aK,aY]at h⊢;obtain⟨z,hz,m',hm',rfl,rfl,rfl⟩:=h;exact⟨_,⟨z,hz,m',hm',rfl,rfl,rfl⟩,KN hr hl _ _,by simp[aP.bX,hl]⟩
       .rw[af hs]at h;simp at h
      | _=>simp at h
     | _=>simp at h
  | _=>simp[tk]at h
 | t,.pair u v,S,T,m,x,S',hr,hl,hF,h=>by
  cases t with
  | pair a b=>simp only[tk,cM,aK,aY]at h;obtain⟨⟨m1,x1,S1⟩,h1,⟨m2,x2,S2⟩,h2,rfl,rfl,rfl⟩:=h;obtain⟨T1,k1,k2,k3⟩:=AI a u hr hl (fun r h=>hF r (by simp[AV.roots,h])) h1;obtain⟨T2,q1,q2,q3⟩:=AI b v k2 k3 (fun r h=>hF r (by simp[AV.roots,h])) h2;exact⟨T2,by simp only[tk,k1,dF,q1],q2,q3⟩
  | _=>simp[tk]at h
 | t,.undef,S,T,m,x,S',hr,hl,hF,h=>by cases t<;>simp[tk]at h
 | t,.skip,S,T,m,x,S',hr,hl,hF,h=>by cases t<;>simp[tk]at h
 | t,.view _ _ _ _ _,S,T,m,x,S',hr,hl,hF,h=>by cases t<;>simp[tk]at h
 | t,.addr _ _,S,T,m,x,S',hr,hl,hF,h=>by cases t<;>simp[tk]at h
 | t,.ck _ _,S,T,m,x,S',hr,hl,hF,h=>by cases t<;>simp[tk]at h
 | t,.jJ _,S,T,m,x,S',hr,hl,hF,h=>by cases t<;>simp[tk]at h
 | t,.gI _ _,S,T,m,x,S',hr,hl,hF,h=>by cases t<;>simp[tk]at h
 | t,.ep _,S,T,m,x,S',hr,hl,hF,h=>by cases t<;>simp[tk]at h
theorem yW{F:List Nat}{A:bY}{S T:aP}(hr:g6 F S T)(hl:T.length=S.length){d:Option Nat}{site:Nat}{t:Ty}{m:Mk}{x:t.den}{mem:Bool}{β:Bool} :
  Lk F ((dR A S d site t m x mem).dec β) ((dR A T d site t m x mem).dec β):=by
 intro v S' h;cases d with
 | none=>simp only[dR,Tr.dec,aK,aY]at h⊢;obtain⟨rfl,rfl⟩:=h;exact⟨T,⟨rfl,rfl⟩,hr,hl⟩
 | some d=>
  simp only[dR,hl]at h⊢;split at h
  .simp[Tr.dec]at h
  .rename_i h1;simp only[h1];split at h
   .rename_i h2;split at h
    .rename_i h3;simp only[Tr.dec,aK,aY]at h;obtain⟨rfl,rfl⟩:=h;exact⟨_,by simp[h2,h3,Tr.dec],KN hr hl _ _,by simp[aP.bX,hl]⟩
    .simp[Tr.dec]at h
   .rename_i h2;split at h
    .rename_i h3;simp only[Tr.dec,aK,aY]at h;obtain⟨rfl,rfl⟩:=h;exact⟨T,by simp[h2,h3,Tr.dec],hr,hl⟩
    .rename_i h3;split at h
     .rename_i h4;simp only[Tr.dec,aK,aY]at h;obtain⟨rfl,rfl⟩:=h;refine⟨_,?_,KN hr hl _ _,by simp[aP.bX,hl]⟩;simp only[h2,fe,dX,h3,h4,aX,Tr.dec]
     .simp[Tr.dec]at h
theorem SC{F:List Nat}{T0:Ty}:∀(l:List (Nat×AV))(acc:Mk×T0.den){S T:aP}{m:Mk}{x:T0.den}{S':aP},g6 F S T->T.length=S.length->(∀r∈qk (l.map (·.2)),r∈F)->
  oK S T0 acc l=some (m,x,S')->∃T',oK T T0 acc l=some (m,x,T')/\g6 F S' T'/\T'.length=S'.length
 | [],acc,S,T,m,x,S',hr,hl,hF,h=>by
  simp only[oK,aK,aY]at h⊢;obtain⟨rfl,rfl,rfl⟩:=h;exact⟨T,⟨rfl,rfl,rfl⟩,hr,hl⟩
 | (i,v)::l,acc,S,T,m,x,S',hr,hl,hF,h=>by
  simp only[oK,cM]at h;obtain⟨d,hd,⟨m1,x1,S1⟩,h1,r,h3,h2⟩:=h;obtain⟨T1,k1,k2,k3⟩:=AI _ v hr hl (fun r h=>hF r (by simp[qk,h])) h1;obtain⟨T2,q1,q2,q3⟩:=SC l _ k2 k3 (fun r h=>hF r (by simp only[cA,qk,bN];exact .inr h)) h2;refine⟨T2,?_,q2,q3⟩;simp only[oK,cM];exact⟨d,hd,(m1,x1,T1),k1,r,h3,q1⟩
theorem Om{F:List Nat}{e:Ty}:∀(l:List (Nat×AV))(acc:Mk×List e.den){S T:aP}{m:Mk}{x:List e.den}{S':aP},g6 F S T->T.length=S.length->(∀r∈qk (l.map (·.2)),r∈F)->
  tI S e acc l=some (m,x,S')->∃T',tI T e acc l=some (m,x,T')/\g6 F S' T'/\T'.length=S'.length
 | [],acc,S,T,m,x,S',hr,hl,hF,h=>by
  simp only[tI,aK,aY]at h⊢;obtain⟨rfl,rfl,rfl⟩:=h;exact⟨T,⟨rfl,rfl,rfl⟩,hr,hl⟩
 | (i,v)::l,acc,S,T,m,x,S',hr,hl,hF,h=>by
  simp only[tI]at h⊢;split at h
  .rename_i hi;simp only[cM]at h;obtain⟨⟨m1,x1,S1⟩,h1,h2⟩:=h;obtain⟨T1,k1,k2,k3⟩:=AI _ v hr hl (fun r h=>hF r (by simp[qk,h])) h1;obtain⟨T2,q1,q2,q3⟩:=Om l _ k2 k3 (fun r h=>hF r (by simp only[cA,qk,bN];exact .inr h)) h2;refine⟨T2,?_,q2,q3⟩;rw[ak hi];simp only[cM];exact⟨(m1,x1,T1),k1,q1⟩
  .simp at h
theorem abx{F:List Nat}{A:bY}{S T:aP}(hr:g6 F S T)(hl:T.length=S.length){d:Option Nat}{site:Nat}{t:Ty}{x y:AV}(hx:∀r∈x.roots,r∈F)(hy:∀r∈y.roots,r∈F){β:Bool} :
  Lk F ((DG A S d site t x y).dec β) ((DG A T d site t x y).dec β):=by
 intro v S' h;unfold DG at h⊢;cases h1:tk S (.sl t) x with
 | none=>rw[h1]at h;simp[Tr.dec]at h
 | some z=>
  obtain⟨m1,xs,S1⟩:=z;obtain⟨T1,k1,k2,k3⟩:=AI _ x hr hl hx h1;rw[h1]at h;rw[k1];cases m1 with
  | own s m=>
   simp only at h⊢;cases h2:tk S1 (.sl t) y with
   | none=>rw[h2]at h;simp[Tr.dec]at h
   | some z=>
    obtain⟨my,ys,S2⟩:=z;obtain⟨T2,q1,q2,q3⟩:=AI _ y k2 k3 hy h2;rw[h2]at h;rw[q1];simp only at h⊢;cases hm:pV my with
    | none=>rw[hm]at h;simp[Tr.dec]at h
    | some m'=>
     rw[hm]at h;simp only at h⊢;split at h
     .rename_i h3;rw[ak h3];simp only[Tr.dec]at h⊢;split at h
      .exact yW q2 q3 v S' h
      .simp at h
     .simp[Tr.dec]at h
  | _=>simp[Tr.dec]at h
theorem akz{F:List Nat}{S T:aP}(hr:g6 F S T)(hl:T.length=S.length){t:Ty}{x y:AV}(hx:∀r∈x.roots,r∈F){β:Bool} :
  Lk F ((qR S t x y).dec β) ((qR T t x y).dec β):=by
 intro v S' h;unfold qR at h⊢;split at h
 .rename_i r p s t2 ys;have bK:=hr r (hx r (by simp[AV.roots]))
  try simp only
  rw[bK];cases hR:S.root r with
  | none=>rw[hR]at h;simp[Tr.dec]at h
  | some R=>
   rw[hR]at h;simp only at h⊢;split at h
   .rename_i t' s' m xs hf;split at h
    .rename_i hc;rw[ak hc];split at h
     .rename_i a b r' e1 e2 e3;simp only[Tr.dec]at h⊢;split at h
      .simp only[aK,aY]at h;obtain⟨rfl,rfl⟩:=h;exact⟨_,rfl,KN hr hl _ _,by simp[aP.bX,hl]⟩
      .simp at h
     .simp[Tr.dec]at h
    .simp[Tr.dec]at h
   .simp[Tr.dec]at h
 .simp[Tr.dec]at h
theorem adf{F:List Nat}{A:bY}{S T:aP}(hr:g6 F S T)(hl:T.length=S.length){U:Ty}{d:Option Nat}{site:Nat}{x:AV}{lo hi:Option AV}(hx:∀r∈x.roots,r∈F){β:Bool} :
  Lk F ((uR A S U d site x lo hi).dec β) ((uR A T U d site x lo hi).dec β):=by
 intro v S' h;unfold uR at h⊢;split at h
 .split at h
  .simp only[Tr.dec]at h⊢;split at h
   .simp only[aK,aY]at h;obtain⟨rfl,rfl⟩:=h;rename_i hc;exact⟨T,by simp[hc],hr,hl⟩
   .simp at h
  .simp[Tr.dec]at h
 .split at h
  .split at h
   .rename_i hc;simp only[Tr.dec]at h⊢;rw[ak hc];split at h
    .simp only[aK,aY]at h;obtain⟨rfl,rfl⟩:=h;rename_i hc;exact⟨T,by simp[Tr.dec,hc],hr,hl⟩
    .simp at h
   .simp[Tr.dec]at h
  .simp[Tr.dec]at h
 .rename_i r p s e;split at h
  .cases h1:tk S (.sl e) (.b8 r p s) with
   | none=>rw[h1]at h;simp[Tr.dec]at h
   | some z=>
    obtain⟨m1,xs,S1⟩:=z;obtain⟨T1,k1,k2,k3⟩:=AI _ _ hr hl hx h1;rw[h1]at h;simp only[k1];cases m1 with
    | own s m=>
     simp only at h⊢;split at h
     .split at h
      .rename_i hc;rw[ak hc];simp only[Tr.dec]at h⊢;split at h
       .rename_i hd
        try simp only[hd]
        exact yW k2 k3 v S' h
       .simp at h
      .simp[Tr.dec]at h
     .simp[Tr.dec]at h
    | _=>simp[Tr.dec]at h
  .unfold uY at h⊢;have hf:=Ch hr (hx r (by simp[AV.roots])) p;rw[hf];split at h
   .split at h
    .rename_i hq
     try simp only[hq]
     split at h
     .rename_i hc;rw[ak hc];simp only[Tr.dec]at h⊢;split at h
      .simp only[aK,aY]at h;obtain⟨rfl,rfl⟩:=h;rename_i hd;exact⟨T,by simp[hd],hr,hl⟩
      .simp at h
     .simp[Tr.dec]at h
    .simp[Tr.dec]at h
   .simp[Tr.dec]at h
 .simp[Tr.dec]at h
theorem Ol{F:List Nat}{A:bY}{S T:aP}(hr:g6 F S T)(hl:T.length=S.length){d:Option Nat}{site:Nat}:∀(rs:List RK)(r:f8 rs){β:Bool},Lk F ((mA A S d site rs r).dec β) ((mA A T d site rs r).dec β)
 | [],r,β=>by
  intro v S' h;simp only[mA,Tr.dec,aK,aY]at h⊢;obtain⟨rfl,rfl⟩:=h;exact⟨T,⟨rfl,rfl⟩,hr,hl⟩
 | [.val t m],r,β=>by
  intro v S' h;simp only[mA]at h⊢;split at h
  .rename_i hs;rw[ak hs];split at h
   .rename_i hc;rw[ak hc];simp only[Tr.dec,aK,aY]at h⊢;obtain⟨rfl,rfl⟩:=h;exact⟨T,⟨rfl,rfl⟩,hr,hl⟩
   .simp[Tr.dec]at h
  .rename_i hs;rw[af hs];split at h
   .rename_i hc;rw[ak hc];exact yW hr hl v S' h
   .simp[Tr.dec]at h
 | [.ptr t m],r,β=>by
  intro v S' h;simp only[mA]at h⊢;split at h
  .rename_i hc;rw[ak hc];exact yW hr hl v S' h
  .simp[Tr.dec]at h
 | q1::q2::rs,r,β=>by
  intro v S' h;have e:∀S:aP,mA A S d site (q1::q2::rs) r=Cu A S d site (q1::q2::rs) r:=by intro S;cases q1<;>simp only[mA]
  rw[e]at h⊢;unfold Cu at h⊢;split at h
  .rename_i hc;rw[ak hc];cases d with
   | none=>simp only[Tr.dec,aK,aY]at h⊢;obtain⟨rfl,rfl⟩:=h;exact⟨T,⟨rfl,rfl⟩,hr,hl⟩
   | some d=>
    simp only at h⊢;cases hL:dR A S (some d) site (jr (q1::q2::rs)) (pQ (q1::q2::rs)) (kq (q1::q2::rs) r) false with
    | ret z=>
     obtain⟨v1,S1⟩:=z;rw[hL]at h;simp only[Tr.dec,aK,aY]at h;obtain⟨rfl,rfl⟩:=h;obtain⟨T1,k1,k2,k3⟩:=yW (A:=A) (d:=some d) (site:=site) (t:=jr (q1::q2::rs)) (m:=pQ (q1::q2::rs)) (x:=kq (q1::q2::rs) r) (mem:=false) (β:=true) hr hl v1 S1 (by rw[hL];rfl);cases hM:dR A T (some d) site (jr (q1::q2::rs)) (pQ (q1::q2::rs)) (kq (q1::q2::rs) r) false with
     | ret z=>obtain⟨v2,S2⟩:=z;rw[hM]at k1;simp only[Tr.dec,aK,aY]at k1;obtain⟨rfl,rfl⟩:=k1;exact⟨_,rfl,k2,k3⟩
     | fail=>rw[hM]at k1;simp[Tr.dec]at k1
     | _=>
      exfalso;simp only[dR]at hM
      repeat' split at hM
      all_goals simp at hM
    | _=>rw[hL]at h;simp[Tr.dec]at h
  .simp[Tr.dec]at h
section
variable {C:Ctx} {D:Den C}
theorem uP{S T:aP}:∀(ks:List PK)(aJ:List AV),ks.all PK.loc=true->fZ T ks aJ=(fZ S ks aJ).map fun z=>(z.1,T)
 | [],[],_=>rfl
 | [],_::_,_=>rfl
 | k::ks,[],_=>by cases k<;>rfl
 | k::ks,a::aJ,h=>by
  simp only[gW,bI]at h;cases k with
  | val t=>simp only[fZ];exact uP ks aJ h.2
  | cq t=>simp only[fZ];exact uP ks aJ h.2
  | cD t m m'=>simp only[fZ];exact uP ks aJ h.2
  | fn=>simp only[fZ];exact uP ks aJ h.2
  | _=>simp[PK.loc]at h
theorem alf{S rt:aP}{ks:List PK}{aJ:List AV}{g:js ks}(hp:ks.all PK.loc=true)(h:fZ S ks aJ=some (g,rt)):rt=S:=by have:=uP (S:=S) (T:=S) ks aJ hp;rw[h]at this;simp only[ef,aK,aY,true_and]at this;exact this
theorem xY{F:List Nat}:∀(ks:List PK)(aJ:List AV){S T:aP}{o:dG ks}{S':aP},g6 F S T->T.length=S.length->ks.all PK.loc=true->(∀r∈qk aJ,r∈F)->gE S ks aJ=some (o,S')->
  ∃T',gE T ks aJ=some (o,T')/\g6 F S' T'/\T'.length=S'.length
 | [],[],S,T,o,S',hr,hl,_,_,h=>by
  simp only[gE,aK,aY]at h;obtain⟨_,rfl⟩:=h;exact⟨T,rfl,hr,hl⟩
 | [],_::_,S,T,o,S',hr,hl,_,_,h=>by simp[gE]at h
 | k::ks,[],S,T,o,S',hr,hl,_,_,h=>by cases k<;>simp[gE]at h
 | k::ks,a::aJ,S,T,o,S',hr,hl,hp,hF,h=>by
  simp only[gW,bI]at hp;have t_:∀r∈qk aJ,r∈F:=fun r h=>hF r (by simp[qk,h]);cases k with
  | val t=>simp only[gE]at h⊢;exact xY ks aJ hr hl hp.2 t_ h
  | cq t=>simp only[gE]at h⊢;exact xY ks aJ hr hl hp.2 t_ h
  | fn=>simp only[gE]at h⊢;exact xY ks aJ hr hl hp.2 t_ h
  | cD t m m'=>
   cases a with
   | addr q p=>
    cases p with
    | nil=>
     have hq:=hr q (hF q (by simp[qk,AV.roots]));simp only[gE]at h⊢;rw[hq];cases hR:S.root q with
     | none=>rw[hR]at h;simp at h
     | some R=>
      rw[hR]at h;simp only at h⊢;split at h
      .rename_i hc;rw[ak hc];simp only[cM,aK,aY]at h⊢;obtain⟨x,hx,⟨o2,S2⟩,h2,rfl,rfl⟩:=h;obtain⟨T2,q1,q2,q3⟩:=xY ks aJ (KN hr hl q none) (by simp[aP.bX,hl]) hp.2 t_ h2;exact⟨T2,⟨x,hx,(o2,T2),q1,rfl,rfl⟩,q2,q3⟩
      .simp at h
    | cons _ _=>simp[gE]at h
   | _=>simp[gE]at h
  | _=>simp[PK.loc]at hp
theorem yd{F:List Nat}{site:Nat}:∀(ks:List PK)(aJ:List AV)(o:dG ks){S T:aP}{S':aP},g6 F S T->T.length=S.length->ks.all PK.loc=true->gb S site ks aJ o=some S'->
  ∃T',gb T site ks aJ o=some T'/\g6 F S' T'/\T'.length=S'.length
 | [],[],o,S,T,S',hr,hl,_,h=>by
  simp only[gb,aK]at h;subst h;exact⟨T,rfl,hr,hl⟩
 | [],_::_,o,S,T,S',hr,hl,_,h=>by simp[gb]at h
 | k::ks,[],o,S,T,S',hr,hl,_,h=>by cases k<;>simp[gb]at h
 | k::ks,a::aJ,o,S,T,S',hr,hl,hp,h=>by
  simp only[gW,bI]at hp;cases k with
  | val t=>simp only[gb]at h⊢;exact yd ks aJ o hr hl hp.2 h
  | cq t=>simp only[gb]at h⊢;exact yd ks aJ o hr hl hp.2 h
  | fn=>simp only[gb]at h⊢;exact yd ks aJ o hr hl hp.2 h
  | cD t m m'=>
   cases a with
   | addr q p=>
    cases p with
    | nil=>
     simp only[gb]at h⊢;split at h
     .rename_i hc;rw[ak hc];exact yd ks aJ o.2 (KN hr hl q _) (by simp[aP.bX,hl]) hp.2 h
     .simp at h
    | cons _ _=>simp[gb]at h
   | _=>simp[gb]at h
  | _=>simp[PK.loc]at hp
theorem Nr{F:List Nat}{A:bY}{S T:aP}(hr:g6 F S T)(hl:T.length=S.length){d:Option Nat}{site:Nat}{g:FuncId}{aJ:List AV}(hp:(C.sig g).params.all PK.loc=true)(has:∀r∈qk aJ,r∈F){β:Bool} :
  Lk F ((rY C D A S d site g aJ).dec β) ((rY C D A T d site g aJ).dec β):=by
 intro v S' h;unfold rY at h⊢;rw[uP (S:=S) (T:=T) _ _ hp];cases h1:fZ S (C.sig g).params aJ with
 | none=>rw[h1]at h;simp[Tr.dec]at h
 | some z=>
  obtain⟨gd,S1⟩:=z;obtain rfl:=alf hp h1;rw[h1]at h;simp only[ef]at h⊢;cases h2:gE S1 (C.sig g).params aJ with
  | none=>rw[h2]at h;simp[Tr.dec]at h
  | some z=>
   obtain⟨od,S2⟩:=z;obtain⟨T2,k1,k2,k3⟩:=xY _ _ hr hl hp has h2;rw[h2]at h;simp only[k1]at h⊢;rw[zO _ _ _ _ (k2.sub has)];cases h3:ji S2 (C.sig g).params aJ gd od with
   | none=>rw[h3]at h;simp[Tr.dec]at h
   | some aa=>
    rw[h3]at h;simp only at h⊢;split at h
    .rename_i hc;rw[ak hc];simp only[Tr.dec]at h⊢;cases hD:D g aa with
     | none=>rw[hD]at h;simp at h
     | some rr=>
      rw[hD]at h;simp only[dF]at h⊢;split at h
      .rename_i hn;rw[ak hn];exact Ol hr hl _ _ v S' h
      .rename_i hn;rw[af hn];split at h
       .rename_i hfr;rw[ak hfr];simp only[Tr.dec]at h⊢;split at h
        .rename_i hlo;cases ho:gb S1 site (C.sig g).params aJ rr.2 with
         | none=>rw[ho]at h;simp[Tr.dec]at h
         | some S3=>obtain⟨T3,q1,q2,q3⟩:=yd _ _ _ hr hl hp ho;rw[ho]at h;simp only at h;obtain⟨T',r1,r2,r3⟩:=Ol q2 q3 _ _ v S' h;exact⟨T',by rw[q1];exact r1,r2,r3⟩
        .simp at h
       .simp[Tr.dec]at h
    .simp[Tr.dec]at h
theorem HE{F:List Nat}:∀(ks:List PK)(aJ:List AV){S T:aP}{z:List AV}{S':aP},g6 F S T->T.length=S.length->(∀r∈qk aJ,r∈F)->lp S ks aJ=some (z,S')->
  ∃T',lp T ks aJ=some (z,T')/\g6 F S' T'/\T'.length=S'.length/\∀r∈qk z,r∈F
 | [],[],S,T,z,S',hr,hl,hF,h=>by
  simp only[lp,aK,aY]at h;obtain⟨rfl,rfl⟩:=h;exact⟨T,rfl,hr,hl,hF⟩
 | [],_::_,S,T,z,S',hr,hl,hF,h=>by simp[lp]at h
 | k::ks,[],S,T,z,S',hr,hl,hF,h=>by cases k<;>simp[lp]at h
 | k::ks,a::aJ,S,T,z,S',hr,hl,hF,h=>by
  have hFa:∀r∈a.roots,r∈F:=fun r hr=>hF r (by simp[qk,hr]);have pZ:∀r∈qk aJ,r∈F:=fun r hr=>hF r (by simp[qk,hr]);have plain:(lp S ks aJ).map (fun z=>(a::z.1,z.2))=some (z,S')->∃T',(lp T ks aJ).map (fun z=>(a::z.1,z.2))=some (z,T')/\g6 F S' T'/\T'.length=S'.length/\∀r∈qk z,r∈F:=by
   intro h;simp only[fo,aY]at h;obtain⟨⟨z1,S1⟩,h1,rfl,rfl⟩:=h;obtain⟨T1,e1,e2,e3,e4⟩:=HE ks aJ hr hl pZ h1;refine⟨T1,by rw[e1];rfl,e2,e3,fun r hr=>?_⟩;simp only[qk,bN]at hr;rcases hr with hr | hr
   .exact hFa r hr
   .exact e4 r hr
  cases k with
  | val t=>
   simp only[lp]at h⊢;split at h
   .rename_i hs;rw[ak hs];exact plain h
   .rename_i hs;rw[af hs];cases h1:tk S t a with
    | none=>rw[h1]at h;simp at h
    | some q=>
     obtain⟨m,y,S1⟩:=q;obtain⟨T1,k1,k2,k3⟩:=AI _ _ hr hl hFa h1;rw[h1]at h;rw[k1];simp only at h⊢;split at h
     .rename_i hm;rw[ak hm];simp only[fo,aY]at h;obtain⟨⟨z1,S2⟩,h2,rfl,rfl⟩:=h;obtain⟨T2,e1,e2,e3,e4⟩:=HE ks aJ k2 k3 pZ h2;refine⟨T2,by rw[e1];rfl,e2,e3,fun r hr=>?_⟩;simp only[qk,bN,AV.roots,dc,false_or]at hr;exact e4 r hr
     .simp at h
  | _=>simp only[lp]at h⊢;exact plain h
theorem alw{F:List Nat}{A:bY}{ρ:Operand->AV}{S T:aP}(hr:g6 F S T)(hl:T.length=S.length){site:Nat}{hint:Bool}{o:Oper}(hlc:vD C ρ o=true)
  (hF:∀r∈qk (o.op.operands.toList.map ρ),r∈F) {β:Bool}:Lk F ((aW C D A ρ S site hint o).dec β) ((aW C D A ρ T site hint o).dec β):=by
 have hin:∀{x:Operand},x∈o.op.operands->∀r∈(ρ x).roots,r∈F:=fun hx r hr=>hF r (q9k (eI.2 ⟨_,by simpa using hx,rfl⟩) r hr);intro v S' h;cases ho:o.op with
 | alloc t=>
  simp only[aW,ho]at h⊢;split at h
  .rename_i hc;rw[ak hc];exact yW hr hl v S' h
  .simp[Tr.dec]at h
 | box t x=>
  have hx:=hin (x:=x) (by rw[ho];simp[Op.operands]);simp only[aW,ho]at h⊢;split at h
  .rename_i hc;rw[ak hc];cases h1:tk S (C.ty t) (ρ x) with
   | none=>rw[h1]at h;simp[Tr.dec]at h
   | some z=>
    obtain⟨m,y,S1⟩:=z;obtain⟨T1,k1,k2,k3⟩:=AI _ _ hr hl hx h1;rw[h1]at h;rw[k1];simp only at h⊢;split at h
    .rename_i hh;rw[ak hh];split at h
     .rename_i hm;rw[ak hm];exact yW k2 k3 v S' h
     .simp[Tr.dec]at h
    .rename_i hh;rw[af hh];exact yW k2 k3 v S' h
  .simp[Tr.dec]at h
 | build t ps=>
  simp only[aW,ho]at h⊢;split at h
  .rename_i hc;rw[ak hc];cases h1:oK S (C.ty t) (Mk.z8 hint (C.ty t),(C.ty t).zero) (ps.toList.map fun p=>(p.1,ρ p.2)) with
   | none=>rw[h1]at h;simp[Tr.dec]at h
   | some z=>obtain⟨m,y,S1⟩:=z;obtain⟨T1,k1,k2,k3⟩:=SC _ _ hr hl (fun r hr=>by rw[Vy]at hr;exact hF r (by rw[ho];simpa [Op.operands] using hr)) h1;rw[h1]at h;rw[k1];exact yW k2 k3 v S' h
  .simp[Tr.dec]at h
 | buildSlice t n ps=>
  simp only[aW,ho]at h⊢;split at h
  .rename_i e he;cases h1:tI S e (Mk.top e,List.replicate n e.zero) (ps.toList.map fun p=>(p.1,ρ p.2)) with
   | none=>rw[h1]at h;simp[Tr.dec]at h
   | some z=>
    obtain⟨m,y,S1⟩:=z;obtain⟨T1,k1,k2,k3⟩:=Om _ _ hr hl (fun r hr=>by rw[Vy]at hr;exact hF r (by rw[ho];simpa [Op.operands] using hr)) h1;rw[h1]at h;simp only[k1];simp only at h;split at h
    .rename_i hc;rw[ak hc];split at h
     .rename_i hh;rw[ak hh];split at h
      .rename_i hm;rw[ak hm];simp only[Tr.dec,aK,aY]at h⊢;obtain⟨rfl,rfl⟩:=h;exact⟨T1,⟨rfl,rfl⟩,k2,k3⟩
      .simp[Tr.dec]at h
     .rename_i hh;rw[af hh];exact yW k2 k3 v S' h
    .simp[Tr.dec]at h
  .simp[Tr.dec]at h
 | makeSlice t x y=>
  simp only[aW,ho]at h⊢;split at h
  .simp only[Tr.dec]at h⊢;split at h
   .rename_i hc
    try simp only[hc]
    exact yW hr hl v S' h
   .simp at h
  .simp[Tr.dec]at h
 | slice t x lo hi mx=>
  cases mx with
  | none=>have hx:=hin (x:=x) (by rw[ho];simp[Op.operands]);simp only[aW,ho]at h⊢;exact adf hr hl hx v S' h
  | some _=>simp[vD,ho]at hlc
 | call c=>
  simp only[vD,ho]at hlc;cases hc:c.callee with
  | builtin b=>
   rw[hc]at hlc;cases b<;>simp only[fe]at hlc;have hargs:∀x∈c.args,∀r∈(ρ x).roots,r∈F:=fun x hx=>hin (by rw[ho];simp only[Op.operands,Call.operands,sF];right;simpa using hx);simp only[aW,ho,hc]at h⊢;split at h
   .exact Builtin.noConfusion ‹Builtin.append=Builtin.len›
   .exact Builtin.noConfusion ‹Builtin.append=Builtin.len›
   .rename_i x y t t' ts e1 e2 e3;have hm:∀z∈c.args.toList.map ρ,∀r∈z.roots,r∈F:=by intro z hz;obtain⟨w,hw,rfl⟩:=eI.1 hz;exact hargs w (by simpa using hw)
    rw[e2]at hm
    try simp only[e2,e3]
    split at h
    .rename_i ht;rw[ak ht];split at h
     .rename_i hh;rw[ak hh];exact akz hr hl (hm x (by simp)) v S' h
     .rename_i hh;rw[af hh];exact abx hr hl (hm x (by simp)) (hm y (by simp)) v S' h
    .simp[Tr.dec]at h
   .exact Builtin.noConfusion ‹Builtin.append=Builtin.clear›
   .exact Builtin.noConfusion ‹Builtin.append=Builtin.copy›
   .exact Builtin.noConfusion ‹Builtin.append=Builtin.min›
   .exact Builtin.noConfusion ‹Builtin.append=Builtin.max›
   .simp[Tr.dec]at h
  | value f=>
   rw[hc]at hlc;simp only at hlc;cases hf:ρ f with
   | gI g caps=>
    rw[hf]at hlc;simp only at hlc;have hall:∀r∈qk (c.args.toList.map ρ++mZ caps),r∈F:=?_
    .simp only[aW,ho,hc,hf,qQ]at h⊢;split at h
     .rename_i vU;rw[ak vU];cases h1:lp S (C.sig g).params (c.args.toList.map ρ++mZ caps) with
      | none=>rw[h1]at h;simp[Tr.dec]at h
      | some q=>obtain⟨z1,S1⟩:=q;obtain⟨T1,e1,e2,e3,e4⟩:=HE _ _ hr hl hall h1;rw[h1]at h;rw[e1];exact Nr e2 e3 hlc e4 v S' h
     .rename_i vU;rw[af vU];exact Nr hr hl hlc hall v S' h
    intro r hr;rw[qzc]at hr;rcases hr with hr | hr
    .refine hF r ?_;rw[ho];simp only[Op.operands,Call.operands,hc];have:∀l:List AV,∀a,r∈qk l->r∈qk (a::l):=fun l a h=>by simp[qk,h]
     simpa using this _ _ hr
    .have:=WI caps r hr;exact hin (x:=f) (by rw[ho];simp[Op.operands,Call.operands,hc]) r (by rw[hf];simpa [AV.roots] using this)
   | _=>rw[hf]at hlc;simp at hlc
  | invoke r m=>rw[hc]at hlc;simp at hlc
 | _=>simp[vD,ho]at hlc
end
end
end Go.V
namespace Go.V
noncomputable section
open Go
theorem J0{d:Nat}:∀(v:AV),d∉v.roots->v.gK d=true
 | .addr r p,h=>by
  simp only[AV.roots,d9]at h;simp only[AV.gK,jC,kB];left;cases hb:Nat.beq r d with
  | false=>rfl
  | true=>exact absurd (mS hb).symm h
 | .pair a b,h=>by
  simp only[AV.roots,bN,n9]at h;simp only[AV.gK,bI];exact⟨J0 a h.1,J0 b h.2⟩
 | .jJ a,h=>J0 a h
 | .gI _ a,h=>J0 a h
 | .undef,_=>rfl
 | .skip,_=>rfl
 | .cH _,_=>rfl
 | .unit,_=>rfl
 | .fl,_=>rfl
 | .val _ _,_=>rfl
 | .b8 _ _ _,_=>rfl
 | .view _ _ _ _ _,_=>rfl
 | .ck _ _,_=>rfl
 | .ep _,_=>rfl
theorem Ix{s s':Nat}(h:s≠s'):(!(Nat.ble s s'&&Nat.blt s' (s+1)))=true:=by
 cases h1:Nat.ble s s' with
 | false=>rfl
 | true=>
  cases h2:Nat.blt s' (s+1) with
  | false=>rfl
  | true=>have a:=rI h1;have b:s'+1<=s+1:=rI h2;omega
theorem UF{s:Nat}:∀(p:Path),s∉Dw p->jH s (s+1) p=true
 | [],_=>rfl
 | x::p,h=>by
  cases x with
  | idx i s'=>simp only[Dw,bk,n9]at h;simp only[jH,bI];exact⟨Ix h.1,UF p h.2⟩
  | _=>exact UF p (by simpa [Dw] using h)
theorem KH{s:Nat}:∀(v:AV),s∉v.stamps->v.aR s (s+1)=true
 | .addr r p,h=>UF p h
 | .b8 r p s',h=>by
  simp only[AV.stamps,bk,n9]at h;simp only[AV.aR,bI];exact⟨Ix h.1,UF p h.2⟩
 | .view r p s' _ _,h=>by
  simp only[AV.stamps,bk,n9]at h;simp only[AV.aR,bI];exact⟨Ix h.1,UF p h.2⟩
 | .pair a b,h=>by
  simp only[AV.stamps,bN,n9]at h;simp only[AV.aR,bI];exact⟨KH a h.1,KH b h.2⟩
 | .jJ a,h=>KH a h
 | .gI _ a,h=>KH a h
 | .undef,_=>rfl
 | .skip,_=>rfl
 | .cH _,_=>rfl
 | .unit,_=>rfl
 | .fl,_=>rfl
 | .val _ _,_=>rfl
 | .ck _ _,_=>rfl
 | .ep _,_=>rfl
theorem pL:∀{l l':List Nat},ja l l'=true->∀x∈l,x∉l'
 | [],_,_,x,hx=>by simp at hx
 | a::l,l',h,x,hx=>by
  simp only[ja,bI,kB]at h;rcases bk.1 hx with rfl | hx
  .intro hh;have:=h.1;simp at this;exact this hh
  .exact pL h.2 x hx
theorem UD{S:St}{u r:Nat}:∀{ts:List Nat},u∈ts->r∈(S.get u).roots->r∈dS S ts
 | [],h,_=>by simp at h
 | t::ts,h,hr=>by
  simp only[dS,bN];rcases bk.1 h with rfl | h
  .exact .inl hr
  .exact .inr (UD h hr)
theorem Uz{S:St}{u r:Nat}:∀{ts:List Nat},u∈ts->r∈(S.get u).stamps->r∈cU S ts
 | [],h,_=>by simp at h
 | t::ts,h,hr=>by
  simp only[cU,bN];rcases bk.1 h with rfl | h
  .exact .inl hr
  .exact .inr (Uz h hr)
theorem q5q{S T:St}:∀{ts:List Nat},(∀u∈ts,T.get u=S.get u)->dS T ts=dS S ts
 | [],_=>rfl
 | t::ts,h=>by simp only[dS];rw[h t e8,q5q fun u hu=>h u (cG _ hu)]
theorem Z6{S T:St}:∀{ts:List Nat},(∀u∈ts,T.get u=S.get u)->cU T ts=cU S ts
 | [],_=>rfl
 | t::ts,h=>by simp only[cU];rw[h t e8,Z6 fun u hu=>h u (cG _ hu)]
theorem Ot{S T:St}(hl:T.sl.length=S.sl.length)(hg:∀u,T.get u=S.get u)(hr:T.rt=S.rt):T=S:=by
 obtain⟨a,b⟩:=S;obtain⟨c,d⟩:=T;simp only at hl hr;subst hr;have:c=a:=by apply yu hl;intro i h1 h2;have:=hg i;simp only[St.get_eq,List.getD,gz h1,gz h2,uT]at this;exact this
 rw[this]
section
variable {C:Ctx} {D:Den C} {hints:Hints} {id:Nat} {ops:Array Oper}
theorem Ii{S T:St}{y:Oper}(h:∀u∈zZ ops y,T.get u=S.get u):∀x∈y.op.operands,ev T x=ev S x:=by
 intro x hx;cases x with
 | tmp t=>
  simp only[ev];rw[h t (by
   unfold zZ;rw[bN];right;rw[List.mem_filterMap];exact⟨.tmp t,by simpa using hx,rfl⟩)]
 | _=>rfl
theorem Q0{S T:St}{y:Oper}(h:∀u∈zZ ops y,T.get u=S.get u):oc ops T y=oc ops S y:=by
 unfold oc;cases hg:y.guard with
 | none=>rfl
 | some jb=>obtain⟨j,b⟩:=jb;simp only;rw[h (lz ops j) (by unfold zZ;rw[hg];simp)]
theorem HF{S T:St}{j site:Nat}{y:Oper}{v:AV}{a b:aP}(hr:dN C (ev S) y=none\/(T.rt=S.rt/\a=b)\/vD C (ev S) y=true)(hk:∀u∈zZ ops y,T.get u=S.get u)(ho:∀u∈jG ops j y,T.get u=S.get u):jI C ops T site j y v a=jI C ops S site j y v b:=by
 have he:=Ii hk;have hv:uO T y=uO S y:=by unfold uO;exact rK fun x hx=>he x (by simpa using hx)
 unfold jI;have hld:uA C (ev T) y v=uA C (ev S) y v:=by
  unfold uA;split
  .rename_i t x hop;rw[he x (by rw[hop];simp[Op.operands])]
  .rename_i t x f hop;rw[he x (by rw[hop];simp[Op.operands])]
  .rfl
 rw[hv,q5q ho,Z6 ho,adp (C:=C) y he,ab3 (C:=C) y he,hld];rcases hr with h | ⟨h1,h2⟩ | h
 .rw[h]
 .rw[h1,h2]
 .rw[h];cases dN C (ev S) y<;>rfl
theorem acq{S T:St}{j site:Nat}{y:Oper}(ho:∀u∈jG ops j y,T.get u=S.get u):oO ops T site j y=oO ops S site j y:=by unfold oO;rw[q5q ho,Z6 ho]
theorem Bb{S T:St}{rt rt':aP}{j:Nat}{y:Oper}{v:AV}(hl:T.sl.length=S.sl.length)(ho:∀u∈jG ops j y,T.get u=S.get u):∀u∈jG ops j y,(fin ops ⟨T.sl,rt⟩ j y v).get u=(fin ops ⟨S.sl,rt'⟩ j y v).get u:=by
 intro u hu;rw[zW,zW];simp only[hl];have:=ho u hu;by_cases h1:y.dst=some u/\u<S.sl.length
 .rw[ak h1,ak h1]
 .rw[af h1,af h1];by_cases h2:u∈sJ ops j y
  .rw[ak h2,ak h2]
  .rw[af h2,af h2];exact this
theorem Hf{S:St}{A:bY}{site:Nat}{hint:Bool}{y:Oper}(hw:dN C (ev S) y=none){T:St}{A':bY}(hrl:T.rt.length=S.rt.length)
  (hr:g6 (if rW y then [] else qk (uO S y)) S.rt T.rt) {β:Bool} {v:AV} {rt':aP} (h:(aW C D A (ev S) S.rt site hint y).dec β=some (v,rt')):rt'=S.rt/\(aW C D A' (ev S) T.rt site hint y).dec β=some (v,T.rt):=
 ack (A:=A) (A':=A') hrl hw hr β v rt' h
def FB(e:jL)(S T:aP):Prop:=g6 e.rd S T\/e.bl=true\/∃l,e.ld=some l/\l.1 T=some l.2
theorem ab2{S T:St}{A A':bY}{site:Nat}{hint:Bool}{y:Oper}{β:Bool}{v:AV}{rt':aP}(h:(aW C D A (ev S) S.rt site hint y).dec β=some (v,rt')){l:(aP->Option AV)×AV}(hl:uA C (ev S) y v=some l)
  (hT:l.1 T.rt=some l.2):rt'=S.rt/\(aW C D A' (ev S) T.rt site hint y).dec β=some (v,T.rt):=by
 unfold uA at hl;split at hl
 .rename_i t a hop;simp only[aK]at hl;subst hl;simp only[aW,hop]at h⊢;simp only at hT;by_cases hnz:(C.ty t).nz=true
  .rw[ak hnz]at h hT⊢;rw[hT];cases hv:vz S.rt (C.ty t) (ev S a) with
   | none=>rw[hv]at h;simp[Tr.of,Tr.dec]at h
   | some v2=>rw[hv]at h;simp only[ef,Tr.of,Tr.dec,aK,aY]at h⊢;exact⟨h.2.symm,trivial⟩
  .rw[af hnz]at hT;simp at hT
 .rename_i t a f hop;simp only[aK]at hl;subst hl;simp only[aW,hop]at h⊢;simp only at hT;rw[hT];cases hv:Cg S.rt (C.ty t) (ev S a) f with
  | none=>rw[hv]at h;simp[Tr.of,Tr.dec]at h
  | some v2=>rw[hv]at h;simp only[ef,Tr.of,Tr.dec,aK,aY]at h⊢;exact⟨h.2.symm,trivial⟩
 .simp at hl
theorem FL{S T S':St}{e:jL}{β:Bool}{j:Nat}{y:Oper}(hs:g8 C D hints id ops β S j y=some (S',e))(hl:T.sl.length=S.sl.length)(hrl:T.rt.length=S.rt.length)
  (hk:∀u∈zZ ops y,T.get u=S.get u) (ho:∀u∈jG ops j y,T.get u=S.get u)
  (hm:(T.rt=S.rt/\lJ T.sl y.dst (id * 256+j+1)=lJ S.sl y.dst (id * 256+j+1))\/(e.wr=none/\FB e S.rt T.rt)) :
  ∃T',g8 C D hints id ops β T j y=some (T',e)/\(∀u∈jG ops j y,T'.get u=S'.get u)/\(e.wr=none->S'.rt=S.rt/\T'.rt=T.rt)/\(T.rt=S.rt->T'.rt=S'.rt):=by
 have hg:=Q0 (ops:=ops) hk;have he:=Ii hk;unfold g8 at hs⊢;rw[hg];split at hs
 .rename_i hgt;simp only[fo,aY]at hs;obtain⟨⟨v,rt'⟩,hd,hS,hee⟩:=hs;subst hS;subst hee;have wW:∀{A:bY}{R:aP},aW C D A (ev T) R (id * 256+j+1) (hints.share.contains (id,j)) y=aW C D A (ev S) R (id * 256+j+1) (hints.share.contains (id,j)) y:=SN y he;have hq:dN C (ev S) y=none->rt'=S.rt:=fun hw=>(Hf (T:=S) (A':=lJ S.sl y.dst (id * 256+j+1)) hw rfl (fun _ _=>rfl) hd).1;rcases hm with⟨si,Ed⟩ | ⟨hw,JJ⟩
  .refine⟨fin ops ⟨T.sl,rt'⟩ j y v,?_,Bb hl ho,fun hw=>?_,fun _=>?_⟩
   .unfold iM at hd⊢;rw[Ed,wW,si,hd];simp only[ef,HF (.inr (.inl ⟨si,rfl⟩)) hk ho]
   .rw[oQ,oQ];have:=hq hw;simp only at this⊢;exact⟨this,this.trans si.symm⟩
   .rw[oQ,oQ]
  .have iW:dN C (ev S) y=none:=hw;have X8:rt'=S.rt/\(aW C D (lJ T.sl y.dst (id * 256+j+1)) (ev S) T.rt (id * 256+j+1) (hints.share.contains (id,j)) y).dec β=some (v,T.rt):=by
    rcases JJ with JJ | hb | ⟨l,h1,h2⟩
    .exact Hf (T:=T) (A':=lJ T.sl y.dst (id * 256+j+1)) iW hrl (JJ.sub fun r hr=>by simp only[jI,bN];exact .inr (.inl hr)) hd
    .have hb':rW y=true:=hb;exact Hf (T:=T) (A':=lJ T.sl y.dst (id * 256+j+1)) iW hrl (by rw[ak hb'];intro r hr;simp at hr) hd
    .exact ab2 hd h1 h2
   refine⟨fin ops ⟨T.sl,T.rt⟩ j y v,?_,Bb hl ho,fun _=>?_,fun si=>?_⟩
   .unfold iM;rw[wW,X8.2];simp only[ef,HF (b:=rt') (.inl iW) hk ho]
   .rw[oQ,oQ];exact⟨X8.1,rfl⟩
   .rw[oQ,oQ];exact si.trans X8.1.symm
 .rename_i hgt;simp only[aK,aY]at hs;obtain⟨hS,hee⟩:=hs;subst hS;subst hee;refine⟨fin ops T j y .skip,by rw[acq ho],?_,fun _=>?_,fun si=>?_⟩
  .exact Bb (S:=S) (T:=T) (rt:=T.rt) (rt':=S.rt) hl ho
  .rw[oQ,oQ];exact⟨rfl,rfl⟩
  .rw[oQ,oQ];exact si
 .simp at hs
theorem ada{S S':St}{e:jL}{β:Bool}{j:Nat}{y:Oper}(hs:g8 C D hints id ops β S j y=some (S',e))(hw:e.wr=none):S'.rt=S.rt:=by obtain⟨_,_,_,h,_⟩:=FL (T:=S) hs rfl rfl (fun _ _=>rfl) (fun _ _=>rfl) (.inl ⟨rfl,rfl⟩);exact(h hw).1
theorem akM{ρ:Operand->AV}{o:Oper}{W:List Nat}(h:dN C ρ o=some W):∀d,o.dst=some d->d∈W:=by
 intro d hd;unfold dN at h;simp only[hd,Option.toList_some]at h
 repeat' split at h
 all_goals first
  | (simp only[aK]at h;subst h;simp;done)
  | (simp at h;done)
theorem Cr{S S':St}{e:jL}{β:Bool}{j:Nat}{y:Oper}{W:List Nat}(hs:g8 C D hints id ops β S j y=some (S',e))(hw:e.wr=some W):fQ W S.rt S'.rt/\(∀d,y.dst=some d->d∈W):=by
 unfold g8 at hs;split at hs
 .simp only[fo,aY]at hs;obtain⟨⟨v,rt'⟩,hd,hS,hee⟩:=hs;subst hS;subst hee;have iW:dN C (ev S) y=some W:=hw;rw[oQ];exact⟨abV iW hd,akM iW⟩
 .simp only[aK,aY]at hs;obtain⟨hS,hee⟩:=hs;subst hee;simp[oO]at hw
 .simp at hs
theorem HG{S S':St}{e:jL}{β:Bool}{j:Nat}{y:Oper}(hs:g8 C D hints id ops β S j y=some (S',e)){u:Nat}(hu:u∈jG ops j y) :
  (∀r∈(S.get u).roots,r∈e.rd)/\(∀r∈(S'.get u).roots,r∈e.rd)/\(∀r∈(S.get u).stamps,r∈e.st)/\(∀r∈(S'.get u).stamps,r∈e.st):=by
 unfold g8 at hs;split at hs
 .simp only[fo,aY]at hs;obtain⟨⟨v,rt'⟩,hd,hS,hee⟩:=hs;subst hS;subst hee;simp only[jI,bN];refine⟨fun r hr=>.inr (.inr (UD hu hr)),fun r hr=>?_,fun r hr=>.inr (Uz hu hr),fun r hr=>?_⟩
  .rw[zW]at hr;split at hr
   .exact .inl hr
   .split at hr
    .simp[AV.roots]at hr
    .exact .inr (.inr (UD hu hr))
  .rw[zW]at hr;split at hr
   .exact .inl hr
   .split at hr
    .simp[AV.stamps]at hr
    .exact .inr (Uz hu hr)
 .simp only[aK,aY]at hs;obtain⟨hS,hee⟩:=hs;subst hS;subst hee;simp only[oO];refine⟨fun r hr=>UD hu hr,fun r hr=>?_,fun r hr=>Uz hu hr,fun r hr=>?_⟩
  .rw[zW]at hr;split at hr
   .simp[AV.roots]at hr
   .split at hr
    .simp[AV.roots]at hr
    .exact UD hu hr
  .rw[zW]at hr;split at hr
   .simp[AV.stamps]at hr
   .split at hr
    .simp[AV.stamps]at hr
    .exact Uz hu hr
 .simp at hs
theorem Je{S S':St}{e:jL}{β:Bool}{j:Nat}{y:Oper}(hs:g8 C D hints id ops β S j y=some (S',e)):S'.sl.length=S.sl.length/\∀u,u∉jG ops j y->S'.get u=S.get u:=by
 refine⟨?_,fun u hu=>(Gf hs hu).1⟩;unfold g8 at hs;split at hs
 .simp only[fo,aY]at hs;obtain⟨⟨v,rt'⟩,hd,hS,hee⟩:=hs;subst hS;rw[J5]
 .simp only[aK,aY]at hs;obtain⟨hS,hee⟩:=hs;subst hS;rw[J5]
 .simp at hs
theorem KJ{S S':St}{e:jL}{β:Bool}{j:Nat}{y:Oper}(hs:g8 C D hints id ops β S j y=some (S',e)){d:Option Nat}{s:Nat}{W:List Nat}(hd:∀d',d=some d'->d'∈W)(oV:ja W e.rd=true)
  (hst:e.st.contains s=false):lJ S'.sl d s=lJ S.sl d s:=by
 obtain⟨hl,hf⟩:=Je hs;have L6:s∉e.st:=by simpa using hst
 refine M_ d s hl (fun d' e1 k _=>?_) (fun d' e1 k _=>?_) (fun k=>?_)
 .by_cases hk:k∈jG ops j y
  .obtain⟨h1,h2,_,_⟩:=HG hs hk;have hn:=pL oV d' (hd d' e1);have a1:d'∉(S.get k).roots:=fun h=>hn (h1 _ h);have a2:d'∉(S'.get k).roots:=fun h=>hn (h2 _ h);simp only[St.get_eq]at a1 a2;rw[FE,FE,b_ a1,b_ a2]
  .have:=hf k hk;simp only[St.get_eq]at this;rw[this]
 .by_cases hk:k∈jG ops j y
  .obtain⟨h1,h2,_,_⟩:=HG hs hk;have hn:=pL oV d' (hd d' e1);have a1:d'∉(S.get k).roots:=fun h=>hn (h1 _ h);have a2:d'∉(S'.get k).roots:=fun h=>hn (h2 _ h);have b1:=J0 _ a1;have b2:=J0 _ a2;simp only[St.get_eq]at b1 b2;rw[b1,b2]
  .have:=hf k hk;simp only[St.get_eq]at this;rw[this]
 .by_cases hk:k∈jG ops j y
  .obtain⟨_,_,h1,h2⟩:=HG hs hk;have b1:=KH (s:=s) _ (fun h=>L6 (h1 _ h));have b2:=KH (s:=s) _ (fun h=>L6 (h2 _ h));simp only[St.get_eq]at b1 b2;rw[b1,b2]
  .have:=hf k hk;simp only[St.get_eq]at this;rw[this]
theorem AX{S S':St}{e:jL}{β:Bool}{j:Nat}{y:Oper}(hs:g8 C D hints id ops β S j y=some (S',e)):e.site=id * 256+j+1/\e.i=j:=by
 unfold g8 at hs;split at hs
 .simp only[fo,aY]at hs;obtain⟨⟨v,rt'⟩,hd,hS,hee⟩:=hs;subst hee;exact⟨rfl,rfl⟩
 .simp only[aK,aY]at hs;obtain⟨hS,hee⟩:=hs;subst hee;exact⟨rfl,rfl⟩
 .simp at hs
theorem QN{S:aP}{l:(aP->Option AV)×AV}(h:Bu S l=true):l.1 S=some l.2:=by
 have hp:∀(p q:Path),DF p q=true->p=q:=by
  intro p
  induction p with
  | nil=>intro q h;cases q<;>simp_all [DF]
  | cons x p ih=>
   intro q h;cases q with
   | nil=>cases x<;>simp[DF]at h
   | cons y q=>
    cases x<;>cases y<;>simp only[DF,fe]at h
    .rw[ih q h]
    .rw[ih q h]
 unfold Bu at h;split at h
 .rename_i r p s r' p' s' h1 h2;simp only[bI]at h;rw[h1,h2,mS h.1.1,hp _ _ h.1.2,mS h.2]
 .rename_i r p r' p' h1 h2;simp only[bI]at h;rw[h1,h2,mS h.1,hp _ _ h.2]
 .simp at h
theorem alr{S S':St}{e:jL}{β:Bool}{j:Nat}{y:Oper}{W:List Nat}(hs:g8 C D hints id ops β S j y=some (S',e))(hw:e.wr=some W):(e.io=none\/e.io=some (S.rt,S'.rt))/\e.dst=y.dst:=by
 unfold g8 at hs;split at hs
 .simp only[fo,aY]at hs;obtain⟨⟨v,rt'⟩,hd,hS,hee⟩:=hs;subst hS;subst hee;have iW:dN C (ev S) y=some W:=hw;rw[oQ];simp only[jI,iW,iQ];cases vD C (ev S) y
  .exact .inr rfl
  .exact .inl rfl
 .simp only[aK,aY]at hs;obtain⟨hS,hee⟩:=hs;subst hee;simp[oO]at hw
 .simp at hs
theorem NL{S S':St}{e f:jL}{β:Bool}{j:Nat}{y:Oper}{W:List Nat}(hs:g8 C D hints id ops β S j y=some (S',e))(hw:e.wr=some W)(h:B7 e f=true) :
  ((f.bl=true\/∃l,f.ld=some l/\l.1 S.rt=some l.2)/\(f.bl=true\/∃l,f.ld=some l/\l.1 S'.rt=some l.2))/\ja y.dst.toList f.rd=true/\f.st.contains e.site=false:=by
 obtain⟨h1,h2⟩:=alr hs hw;unfold B7 at h;simp only[bI,kB,jC]at h;obtain⟨⟨a,c⟩,d⟩:=h;refine⟨?_,by rw[<-h2];exact c,d⟩;rcases a with a | a
 .exact⟨.inl a,.inl a⟩
 .split at a
  .rename_i l io hl Lz;rcases h1 with h1 | h1
   .rw[h1]at Lz;simp at Lz
   rw[h1]at Lz;simp only[aK]at Lz;subst Lz;simp only[bI]at a;exact⟨.inr ⟨l,hl,QN a.1⟩,.inr ⟨l,hl,QN a.2⟩⟩
  .simp at a
theorem akg{ρ:Operand->AV}{o:Oper}{W:List Nat}(hw:dN C ρ o=some W)(hl:vD C ρ o=true):rW o=false:=by unfold dN at hw;unfold rW;cases ho:o.op<;>rw[ho]at hw<;>simp_all
theorem Oj{S T S':St}{e:jL}{β:Bool}{j:Nat}{y:Oper}{W:List Nat}(hs:g8 C D hints id ops β S j y=some (S',e))(hw:e.wr=some W)(hlc:e.lc=true)(hl:T.sl.length=S.sl.length)(hrl:T.rt.length=S.rt.length)
  (hk:∀u∈zZ ops y,T.get u=S.get u) (ho:∀u∈jG ops j y,T.get u=S.get u) (Ed:lJ T.sl y.dst (id * 256+j+1)=lJ S.sl y.dst (id * 256+j+1))
  (hr:g6 (W++e.rd) S.rt T.rt):∃T',g8 C D hints id ops β T j y=some (T',e)/\(∀u∈jG ops j y,T'.get u=S'.get u)/\g6 W S'.rt T'.rt:=by
 have hg:=Q0 (ops:=ops) hk;have he:=Ii hk;unfold g8 at hs⊢;rw[hg];split at hs
 .rename_i hgt;simp only[fo,aY]at hs;obtain⟨⟨v,rt'⟩,hd,hS,hee⟩:=hs;subst hS;subst hee;have iW:dN C (ev S) y=some W:=hw;have Es:vD C (ev S) y=true:=hlc;have hb:=akg iW Es;unfold iM at hd⊢;obtain⟨fk,k1,k2,k3⟩:=alw (A:=lJ S.sl y.dst (id * 256+j+1)) hr hrl Es (fun r hr=>by
   refine bN.2 (.inr ?_);simp only[jI,hb,fe,dX,bN];exact .inr (.inl hr)) v rt' hd
  refine⟨fin ops ⟨T.sl,fk⟩ j y v,?_,Bb hl ho,?_⟩
  .rw[Ed,SN y he,k1];simp only[ef,HF (b:=rt') (.inr (.inr Es)) hk ho]
  .rw[oQ,oQ];exact k2.sub fun r hr=>bN.2 (.inl hr)
 .simp only[aK,aY]at hs;obtain⟨hS,hee⟩:=hs;subst hee;simp[oO]at hw
 .simp at hs
theorem aj_{S T:aP}(hl:T.length=S.length)(h:∀r,T.root r=S.root r):T=S:=by apply yu hl;intro i h1 h2;have:=h i;simp only[aP.iq,List.getD,gz h1,gz h2,uT]at this;exact this
theorem swap{S S1 S2:St}{ex ey:jL}{βx βy:Bool}{i j:Nat}{x y:Oper}(h1:g8 C D hints id ops βx S i x=some (S1,ex))(h2:g8 C D hints id ops βy S1 j y=some (S2,ey))
  (hap:Jd ops i j x y=true) (hfr:ex.free ey=true):∃T1,g8 C D hints id ops βy S j y=some (T1,ey)/\g8 C D hints id ops βx T1 i x=some (S2,ex):=by
 simp only[Jd,bI]at hap;obtain⟨⟨p1,p2⟩,p3⟩:=hap;obtain⟨l1,f1⟩:=Je h1;obtain⟨l2,f2⟩:=Je h2;have n1:∀u∈zZ ops y,S.get u=S1.get u:=fun u hu=>(f1 u fun h=>pL p1 u h hu).symm;have n2:∀u∈jG ops j y,S.get u=S1.get u:=fun u hu=>(f1 u fun h=>pL p2 u h hu).symm
 -- zf two al_,and what comes out
 have key:∀(hm:(S.rt=S1.rt/\lJ S.sl y.dst (id * 256+j+1)=lJ S1.sl y.dst (id * 256+j+1))\/(ey.wr=none/\FB ey S1.rt S.rt))(hrl:S.rt.length=S1.rt.length),
   ∃T1,g8 C D hints id ops βy S j y=some (T1,ey)/\(ey.wr=none->S2.rt=S1.rt/\T1.rt=S.rt)/\(S.rt=S1.rt->T1.rt=S2.rt)/\
    (∀(hm2:(T1.rt=S.rt/\lJ T1.sl x.dst (id * 256+i+1)=lJ S.sl x.dst (id * 256+i+1))\/(ex.wr=none/\FB ex S.rt T1.rt))(LY:T1.rt.length=S.rt.length),
     ∃T2,g8 C D hints id ops βx T1 i x=some (T2,ex)/\(ex.wr=none->S1.rt=S.rt/\T2.rt=T1.rt)/\(T1.rt=S.rt->T2.rt=S1.rt)/\(T2.rt=S2.rt->T2=S2)):=by
  intro hm hrl;obtain⟨T1,k1,k2,k3,k4⟩:=FL h2 l1.symm hrl n1 n2 hm;refine⟨T1,k1,k3,k4,fun hm2 LY=>?_⟩;obtain⟨lT,fT⟩:=Je k1;obtain⟨T2,q1,q2,q3,q4⟩:=FL h1 lT LY (fun u hu=>fT u fun h=>pL p3 u h hu) (fun u hu=>fT u fun h=>pL p2 u hu h) hm2;obtain⟨Yz,Xc⟩:=Je q1;refine⟨T2,q1,q3,q4,fun si=>Ot (by rw[Yz,lT,l2,l1]) (fun u=>?_) si⟩;by_cases hx:u∈jG ops i x
  .rw[q2 u hx,f2 u fun h=>pL p2 u hx h]
  .rw[Xc u hx];by_cases hy:u∈jG ops j y
   .exact k2 u hy
   .rw[fT u hy,f2 u hy,f1 u hx]
 obtain⟨sx,_⟩:=AX h1;obtain⟨sy,_⟩:=AX h2;cases rQ:ex.wr with
 | none=>
  have r1:S1.rt=S.rt:=ada h1 rQ;cases qG:ey.wr with
  | none=>obtain⟨T1,k1,k2,k3,k4⟩:=key (.inr ⟨qG,.inl fun r _=>by rw[r1]⟩) (by rw[r1]);obtain⟨e1,e2⟩:=k2 qG;obtain⟨T2,q1,q2,q3,q4⟩:=k4 (.inr ⟨rQ,.inl fun r _=>by rw[e2]⟩) (by rw[e2]);have:=q4 ((q2 rQ).2.trans (e2.trans (r1.symm.trans e1.symm)));subst this;exact⟨T1,k1,q1⟩
  | some W=>
   simp only[jL.free,rQ,qG,jC]at hfr;rcases hfr with hfr | hfr
   rotate_left
   .obtain⟨⟨a1,a2⟩,d1,d2⟩:=NL h2 qG hfr;rw[sy]at d2;obtain⟨T1,k1,k2,k3,k4⟩:=key (.inl ⟨r1.symm,(KJ h1 (W:=y.dst.toList) (fun d' hd'=>by rw[hd'];simp) d1 d2).symm⟩) (by rw[r1]);obtain⟨fr,_⟩:=Cr k1 qG;have eT:=k3 r1.symm;obtain⟨T2,q1,q2,q3,q4⟩:=k4 (.inr ⟨rQ,.inr (by rw[eT];exact a2)⟩) fr.len;have:=q4 ((q2 rQ).2.trans eT);subst this;exact⟨T1,k1,q1⟩
   simp only[BH,bI,kB]at hfr;obtain⟨d1,d2⟩:=hfr;obtain⟨_,U9⟩:=Cr h2 qG;rw[sy]at d2;obtain⟨T1,k1,k2,k3,k4⟩:=key (.inl ⟨r1.symm,(KJ h1 U9 d1 d2).symm⟩) (by rw[r1]);obtain⟨fr,_⟩:=Cr k1 qG;obtain⟨T2,q1,q2,q3,q4⟩:=k4 (.inr ⟨rQ,.inl fun r hr=>fr.root r fun h=>pL d1 r h hr⟩) fr.len;have:=q4 ((q2 rQ).2.trans (k3 r1.symm));subst this;exact⟨T1,k1,q1⟩
 | some W=>
  cases qG:ey.wr with
  | none=>
   simp only[jL.free,rQ,qG,jC]at hfr;rcases hfr with hfr | hfr
   rotate_left
   .obtain⟨⟨a1,a2⟩,d1,d2⟩:=NL h1 rQ hfr;obtain⟨fr,U9⟩:=Cr h1 rQ;rw[sx]at d2;obtain⟨T1,k1,k2,k3,k4⟩:=key (.inr ⟨qG,.inr a1⟩) fr.len.symm;obtain⟨e1,e2⟩:=k2 qG;obtain⟨T2,q1,q2,q3,q4⟩:=k4 (.inl ⟨e2,KJ k1 (W:=x.dst.toList) (fun d' hd'=>by rw[hd'];simp) d1 d2⟩) (by rw[e2]);have:=q4 ((q3 e2).trans e1.symm);subst this;exact⟨T1,k1,q1⟩
   simp only[BH,bI,kB]at hfr;obtain⟨d1,d2⟩:=hfr;obtain⟨fr,U9⟩:=Cr h1 rQ;rw[sx]at d2;obtain⟨T1,k1,k2,k3,k4⟩:=key (.inr ⟨qG,.inl fun r hr=>(fr.root r fun h=>pL d1 r h hr).symm⟩) fr.len.symm;obtain⟨e1,e2⟩:=k2 qG;obtain⟨T2,q1,q2,q3,q4⟩:=k4 (.inl ⟨e2,KJ k1 U9 d1 d2⟩) (by rw[e2]);have:=q4 ((q3 e2).trans e1.symm);subst this;exact⟨T1,k1,q1⟩
  | some W2=>
   simp only[jL.free,rQ,qG,bI,kB]at hfr;obtain⟨⟨⟨lx,ly⟩,⟨d1,d2⟩,d3,d4⟩,s1,s2⟩:=hfr;obtain⟨UZ,uh⟩:=Cr h1 rQ;obtain⟨U2,Ag⟩:=Cr h2 qG;rw[sy]at s1;rw[sx]at s2;obtain⟨T1,k1,k2,k3⟩:=Oj (T:=S) h2 qG ly l1.symm UZ.len.symm n1 n2 (KJ h1 Ag d3 s1).symm
    (fun r hr=>(UZ.root r fun h=>by
     rcases bN.1 hr with h' | h'
     .exact pL d2 r h h'
     .exact pL d1 r h h').symm)
   obtain⟨lT,fT⟩:=Je k1;obtain⟨U3,_⟩:=Cr k1 qG;obtain⟨T2,q1,q2,q3⟩:=Oj h1 rQ lx lT U3.len (fun u hu=>fT u fun h=>pL p3 u h hu) (fun u hu=>fT u fun h=>pL p2 u hu h) (KJ k1 uh d1 s2)
    (fun r hr=>U3.root r fun h=>by
     rcases bN.1 hr with h' | h'
     .exact pL d4 r h h'
     .exact pL d3 r h h')
   obtain⟨Yz,Xc⟩:=Je q1;obtain⟨La,_⟩:=Cr q1 rQ;have si:T2.rt=S2.rt:=by
    refine aj_ (by rw[La.len,U3.len,U2.len,UZ.len]) fun r=>?_;by_cases hx:r∈W
    .rw[q3 r hx,U2.root r fun h=>pL d2 r hx h]
    .rw[La.root r hx];by_cases hy:r∈W2
     .exact k3 r hy
     .rw[U3.root r hy,U2.root r hy,UZ.root r hx]
   have:T2=S2:=Ot (by rw[Yz,lT,l2,l1]) (fun u=>by
    by_cases hx:u∈jG ops i x
    .rw[q2 u hx,f2 u fun h=>pL p2 u hx h]
    .rw[Xc u hx];by_cases hy:u∈jG ops j y
     .exact k2 u hy
     .rw[fT u hy,f2 u hy,f1 u hx]) si
   subst this;exact⟨T1,k1,q1⟩
end
end
end Go.V

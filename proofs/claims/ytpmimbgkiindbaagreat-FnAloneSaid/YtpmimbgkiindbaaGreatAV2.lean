import Derived.Test.YtpmimbgkiindbaaGreatAV1
set_option linter.unusedVariables false
set_option linter.unusedSimpArgs false
set_option linter.unusedSectionVars false
namespace Go.V
open Go
theorem M4{h:Array Obj}{S:St}{g:aA}{tmps:Array Value}{H:BS}(st:aE h S g tmps H)(q:Nat):Kp h S g (S.aI q none) g:=by
 have bK:∀r',(S.aI q none).root r'=S.root r'\/(S.aI q none).root r'=none:=by intro r';rw[St.b6];by_cases e:r'=q/\q<S.rt.length<;>simp[e]
 intro u v y;refine(qe.keep (Sub.refl _) (fun _ _=>rfl) u).1 v y (AV.d9 (fun r p=>?_) (fun r p s=>?_) u)
 .exact(nN st (bK r) rfl rfl (fun _ _ _=>rfl)).1 p
 .exact(nN st (bK r) rfl rfl (fun _ _ _=>rfl)).2 p s
theorem aaI{h h2:Array Obj}{t:Ty}{x y:t.den}{m2:Mk}{c c2:List Value}{base:fJ}{site:Nat}(hf:m2.fresh site (site+1)) :
  ∀p' t1 n1,jF site (site+1) p'=true->q8 t m2 p'=some (t1,n1)->bu t x p'->bu t y p'/\∀bp cp,cr h t c base p'=some (bp,cp)->
   ∃iP,cr h2 t c2 base p'=some (bp,iP)/\(∀s a,n1=.own s a->¬ (site<=s/\s<site+1)->iP=cp):=by
 intro p' t1 n1 hp gV _;obtain⟨hi',zq⟩:=Dj p' hf hp gV;refine⟨zN _ _ hi' gV,fun bp cp ha=>?_⟩;obtain⟨iP,h3⟩:=II (h':=h2) p' _ c2 _ hi' ha;exact⟨iP,h3,fun s a' e hs=>by subst e;exact absurd zq hs⟩
section
variable {P:Program} {C:Ctx} {D:Den C} {S:St} {g:aA} {w:World} {tmps:Array Value}
variable {A:bX} {site:Nat} (dy:oh P C D) (st:aE w.heap S g tmps Nil)
include dy st
theorem aaF{f:FuncId}{aJ:List AV}{vs:List Value}{d:Option Nat}(ok:nK A S d site)(hfr:site<1048576/\∀u,(S.get u).aQ site (site+1)=true)
  (ha:lW w.heap S g aJ vs) (W8:(C.sig f).params.all (fun k=>!k.mb)=true) {gd:jr (C.sig f).params} (h1:fY S.rt (C.sig f).params aJ=some (gd,S.rt))
  {od:dG (C.sig f).params} {fj:aO} {n:Nat} {v0:Value} {q:Nat} {t:Ty} {m m':Mk} {R:aC} {x:t.den} (rH:qe w.heap S g (.addr q []) v0)
  (L:wo w.heap (C.sig f).params aJ vs S.rt fj od n v0 q t m m' R x) {a:ga (C.sig f).params} (h3:jg fj (C.sig f).params aJ gd od=some a)
  (hs:mI (C.sig f).params aJ=true\/(C.sig f).full=true) {r:f7 (C.sig f).res×dG (C.sig f).params} (hD:D f a=some r) {β:Bool} {v:AV} {yX rt':aO}
  (ho:f_ S.rt site (C.sig f).params aJ r.2=some yX) (he:(mj A yX d site (C.sig f).res r.1).dec β=some (v,rt')) :
  Calls P f vs.toArray w fun e w'=>∃val,e=.returned val/\Post S g w tmps v rt' val w':=by
 have hR:=L.root;have bO:(S.root q).isSome:=by show(S.rt.root q).isSome=true;rw[hR];rfl
 obtain⟨e1,e2⟩:=Dp L.cast;obtain⟨Rt,Rm,Rx,V6⟩:=R;simp only at e1 e2;subst e1;simp only at e2;subst e2;have hmem:V6=true:=L.mem;subst hmem;obtain⟨base,c,F,q1,q2,q3,q4,q5,q6⟩:=st.mY hR (LV Rt Rm Rx) (xL _ _);simp only[qe]at rH;obtain⟨_,b,off,c',d8,Kj⟩:=rH _ hR _ (LV _ _ _);rw[EP]at d8 q1;simp only[aK,aY]at d8 q1;obtain⟨bP,gu⟩:=q1;obtain⟨Kv,hb4⟩:=d8;obtain⟨F00,_,_,_,mS,_⟩:=st.roots q _ hR;obtain⟨b0,hB,hGb,wZ⟩:=mS rfl;have hbase:g.base q=some (b0,0):=by simp[aA.base,hB]
 rw[hbase]at bP Kv;simp only[aK,aY]at Kv;obtain⟨rfl,rfl⟩:=Kv;subst bP;subst gu;obtain⟨rI,_⟩:=q4 b0 0 rfl;obtain⟨F1,F2,s1,s2,s3,s4⟩:=az.aP Rt L.TR q2;have o8:=(st.gB bO).cP F2 (fun z hz=>.inr (q3 z (s2 z hz)))
 let g2:aA:={ g with Pr:=Un g.Pr F2 }
 have Ar:Kp w.heap S g (S.aI q none) g2:=(M4 st q).trans (Jq (st.gB bO) F2)
 let Fs:Nat->BS:=fun j=>if j=n then (fun z=>z=b0\/F1 z) else Nil
 have pV:∀i,Sub (Fs i) (fun z=>(Nil z\/g.G q z)/\¬ F2 z):=by
  intro i z hz;simp only[Fs]at hz;split at hz
  .rcases hz with rfl | hz
   .exact⟨.inr hGb,fun h=>rI (s2 _ h)⟩
   .exact⟨.inr (q3 z (s1 z hz)),fun h=>s3 z hz h⟩
  .exact hz.elim
 have e2:fj=(S.aI q none).rt:=L.fj;subst e2;obtain⟨gg1,HH1,FF,kk⟩:=Ci (sl:=S.sl) (C.sig f).params aJ vs S.rt g Nil 0 gd S.rt ha st h1;have hG:=EX (h2:=w.heap) (gb:=g2.Pr) (pM:=Fs) (C.sig f).params 0 W8 kk.2.2.2.2.1;have hL:=L.ls g2.Pr Fs 0 (by
  simp only[kz,Fs,aX];exact⟨b0,g.C q,F1,Kj,s4,wZ,.inl rfl,fun z hz=>.inr hz,fun h=>rI (s1 _ h)⟩)
 have hps:=yD o8 (sh:=mI (C.sig f).params aJ) (Fs:=Fs) (C.sig f).params aJ vs 0 gd od a (fun h=>h) (ha.kp Ar) hG hL h3;have D6:∀i j,i≠j->cB (Fs i) (Fs j):=by
  intro i j hij z h1 h2;simp only[Fs]at h1 h2;split at h1
  .split at h2
   .omega
   .exact h2
  .exact h1
 have pre:Pre w.heap (Seen (mI (C.sig f).params aJ) (S.aI q none) g2) Fs (C.sig f).params a vs:=
  ⟨hps,D6,fun i z hz=>A9 o8 _ z (pV i z hz),fun i z hz=>o8.ef z (pV i z hz),A_ o8 _⟩
 refine(dy.ok f a r hD w _ Fs vs pre).mono ?_;rintro e w' ⟨val,fO,Gs,Os,us,rfl,p⟩;obtain⟨y,hy1,EB⟩:=L.out r.2;obtain⟨wV,rfl⟩:=hy1 S.rt site yX ho;obtain⟨b2,c2,TZ,DU,jP,ud,Wm,wF,hnb⟩:=EB _ _ _ _ p.out;rw[kz]at Wm wF;rw[Kj]at DU;simp only[Value.pointer.injEq,aK,Addr.mk.injEq,iO]at DU;subst DU;have i9:∀z,tP w.heap.size Fs z->w.heap.size<=z\/z=b0\/F1 z:=by
  rintro z (h | ⟨i,h⟩)
  .exact .inl h
  .simp only[Fs]at h;split at h
   .exact .inr h
   .exact h.elim
 let Dd:BS:=fun z=>mI (C.sig f).params aJ=true/\fO z/\¬ g.Pr z
 have Wi:∀z,Dd z->F z\/Nil z\/w.heap.size<=z:=by
  rintro z ⟨hsh,h1,h2⟩;rcases p.kX z h1 with h3 | h3
  .rw[hsh]at h3;simp only[Seen,aX]at h3;rcases h3 with h3 | h3
   .exact absurd h3 h2
   .exact .inl (s2 z h3)
  .rcases i9 z h3 with h4 | rfl | h4
   .exact .inr (.inr h4)
   .exact(p.op n z Wm h1).elim
   .exact .inl (s1 z h4)
 have Wj:∀z,TZ z->F z\/Nil z\/w.heap.size<=z:=by
  intro z hz;rcases i9 z (p.oL n z (wF z hz)) with h4 | rfl | h4
  .exact .inr (.inr h4)
  .exact(hnb hz).elim
  .exact .inl (s1 z h4)
 have hfull:mI (C.sig f).params aJ=false->(C.sig f).full=true:=fun h=>hs.resolve_left (by rw[h];simp);have yW:az w'.heap (Un g.Pr Dd) Rt (m'.stamp site) y c2 TZ:=by
  refine(az.stamp site _).1 ?_;cases hsh:mI (C.sig f).params aJ with
  | true=>
   refine az.mono (fun z hz=>?_) (fun _ _=>rfl) _ jP (Sub.refl _) (fun _ _=>rfl);by_cases h1:g.Pr z
   .exact .inl h1
   .exact .inr ⟨hsh,hz,h1⟩
  | false=>have h5:=hfull hsh;simp only[wz.full,bI]at h5;exact az.lN _ (L.full h5.1) jP
 have nM:(g.C q).length=Rt.width:=az.width _ q2;have iH:=az.width _ jP;have kN:(m'.stamp site).fresh site (site+1):=Mk.dP site wV;obtain⟨g',k1,k2,k3,k4,k5,k6,k7⟩:=q6 site (site+1) w'.heap (m'.stamp site) y c2 TZ Dd (m'.stamp site) y hfr.2
  (fun z hz Aj hbz=>p.fr.block z hz (fun h=>by
   rcases i9 z h with h4 | rfl | h4
   .omega
   .exact hbz 0 rfl
   .exact Aj (s1 z h4)))
  p.fr.size
  (by
   intro b o e cs hcs;simp only[aK,aY]at e;obtain⟨rfl,rfl⟩:=e;obtain rfl:=jw.uniq wZ hcs;exact⟨c2.toArray,ud,by rw[List.toList_toArray,List.toList_toArray];exact(AT (by omega)).symm⟩)
  yW (fun z h1 h2=>p.op n z (wF z h2) h1.2.1) (fun z hz=>hz.elim (Wj z) (Wi z))
  (fun z hz=>hz.elim (fun h=>p.Av n z (wF z h)) (fun h=>p.Ay z h.2.1))
  (by simp[put,qbv]) (Mk.eO _ kN) (aM.ax _ (Mk.cM hfr.1 wV)) (fun h=>by simp[qx]at h) (aaI kN)
 have hres:lp w'.heap g'.Pr Gs 0 (C.sig f).res r.1 us:=by
  refine lp.conv _ 0 ?_ p.res;cases hsh:mI (C.sig f).params aJ with
  | true=>
   refine .inl (fun z hz=>?_);by_cases h1:g.Pr z
   .exact k2 z h1
   .exact k3 z ⟨hsh,hz,h1⟩
  | false=>have h5:=hfull hsh;simp only[wz.full,bI]at h5;exact .inr h5.2
 have Wl:∀i,Sub (Gs i) (fun z=>(Nil z\/F z\/(w.heap.size<=z/\z<w'.heap.size))/\¬ (TZ z\/Dd z)):=by
  intro i z hz;refine⟨?_,?_⟩
  .rcases i9 z (p.gL i z hz) with h4 | rfl | h4
   .exact .inr (.inr ⟨h4,p.wE i z hz⟩)
   .exact(p.go i n z hz Wm).elim
   .exact .inr (.inl (s1 z h4))
  .rintro(h | h)
   .exact p.go i n z hz (wF z h)
   .exact p.gp i z hz h.2.1
 obtain⟨g4,t1,t2,t3⟩:=G3 (S:=S) k1 Wl p.z7 ok (C.sig f).res hres he;refine⟨val,rfl,g4,t1,by rw[p.val];exact t2,k4.trans t3,p.fr.mono ?_⟩;intro z hz h;rcases i9 z h with h4 | rfl | h4
 .omega
 .exact st.own q _ bO hGb
 .exact st.own q _ bO (q3 z (s1 z h4))
end
theorem ac3{h:Array Obj}{S:St}{g:aA}{q:Nat}{R:aC}(hR:S.root q=some R):∀(t:Ty){a:AV}{p:Path}{md:Mk}{xd:t.den}{z:Mk×t.den}{cu:List Value}{rp:Nat×Path},
  focus R.ty R.ms R.x p=some ⟨t,md,xd⟩->dg h S g a cu->j9 q t a p md xd=some z->uX a p=true->kD a=some rp->bu R.ty R.x p:=by
 intro t
 induction t with
 | pair ta tb fS kQ=>
  intro a p md xd z cu rp hf hc hl kB hp;cases a with
  | pair u v=>
   simp only[j9,cL]at hl;obtain⟨y,hy,z',hz,-⟩:=hl;simp only[dg]at hc;obtain⟨ca,cb,-,h1,h2⟩:=hc;simp only[uX,bI]at kB;cases hu:kD u with
   | some rp'=>have:=fS (by rw[uQ p _ hf];simp[focus]) h1 hy kB.1 hu;exact((yK p _ hf).1 this).1
   | none=>
    cases hv:kD v with
    | some rp'=>have:=kQ (by rw[uQ p _ hf];simp[focus]) h2 hz kB.2 hv;exact((yK p _ hf).1 this).1
    | none=>simp[kD,hu,hv]at hp
  | b9 r' p' s=>simp[j9]at hl
  | _=>simp[kD]at hp
 | sl e ih=>
  intro a p md xd z cu rp hf hc hl kB hp;cases a with
  | pair u v=>simp[j9]at hl
  | b9 r' p' s=>
   simp only[j9]at hl;cases md with
   | own s' m0=>
    simp only at hl;split at hl
    .rename_i nW;obtain⟨rfl,rfl⟩:=nW;simp only[uX,gQ]at kB;subst kB;simp only[dg]at hc;obtain⟨v,rfl,hb⟩:=hc;exact(hb R hR _ _ _ hf).1
    .simp at hl
   | _=>simp at hl
  | _=>simp[kD]at hp
 | _=>
  intro a p md xd z cu rp hf hc hl kB hp;cases a with
  | pair u v=>simp[j9]at hl
  | b9 r' p' s=>simp[j9]at hl
  | _=>simp[kD]at hp
theorem Sm{h:Array Obj}{S:St}{g:aA}{q:Nat}{R:aC}(hR:S.root q=some R):∀(t:Ty){a:AV}{p:Path}{md:Mk}{xd:t.den}{mx:Mk}{x:t.den}{c cu:List Value}{base:fJ}{F:BS},
  focus R.ty R.ms R.x p=some ⟨t,md,xd⟩->cr h R.ty (g.C q) (g.base q) p=some (base,c)->az h g.Pr t md xd c F->dg h S g a cu->
  j9 q t a p md xd=some (mx,x)->uX a p=true->az h g.Pr t mx x cu F:=by
 intro t;have hval:∀(t:Ty)(t':Ty)(x':t'.den)(md:Mk)(mx:Mk)(x:t.den)(cu:List Value)(F:BS),
   (if md.still=true then (qbv t' t x').bind fun y=>some (Mk.no,y) else none)=some (mx,x)->az h g.Pr t' .no x' cu Nil->az h g.Pr t mx x cu F:=by
  intro t t' x' md mx x cu F hl hr;split at hl
  .simp only[cL,aK,aY]at hl;obtain⟨y,hy,rfl,rfl⟩:=hl;exact(az.cast hy hr).2.room _ (Sub.nil _)
  .simp at hl
 induction t with
 | pair ta tb fS kQ=>
  intro a p md xd mx x c cu base F hf ha r hc hl kB;cases a with
  | pair u v=>simp only[j9,cL,aK,aY]at hl;obtain⟨y,hy,z',hz,rfl,rfl⟩:=hl;simp only[dg]at hc;obtain⟨ca,cb,rfl,h1,h2⟩:=hc;simp only[uX,bI]at kB;simp only[az]at r;obtain⟨da,db,Fa,Fb,rfl,ra,rb,sa,sb,dd⟩:=r;have hw:=az.width _ ra;have e1:=fS (base:=base) (F:=Fa) (c:=da) (by rw[uQ p _ hf];simp[focus]) (by rw[u6 p _ hf ha];simp only[cr];rw[<-hw,jl rfl]) ra h1 hy kB.1;have e2:=kQ (base:=base.map fun x=>(x.1,x.2+ta.width)) (F:=Fb) (c:=db) (by rw[uQ p _ hf];simp[focus]) (by rw[u6 p _ hf ha];simp only[cr];rw[<-hw,iX rfl]) rb h2 hz kB.2;simp only[az];exact⟨ca,cb,Fa,Fb,rfl,e1,e2,sa,sb,dd⟩
  | val t' x'=>simp only[j9]at hl;simp only[dg]at hc;exact hval _ _ _ _ _ _ _ _ hl hc
  | _=>simp[j9]at hl
 | sl e ih=>
  intro a p md xd mx x c cu base F hf ha r hc hl kB;cases a with
  | b9 r' p' s=>
   simp only[j9]at hl;cases md with
   | own s' m0=>
    simp only at hl;split at hl
    .rename_i nW;obtain⟨rfl,rfl⟩:=nW;simp only[uX,gQ]at kB;subst kB;simp only[dg]at hc;obtain⟨v,rfl,hb⟩:=hc;obtain⟨_,b',d8⟩:=hb R hR _ _ _ hf;rw[d8]at ha;simp only[aK,aY]at ha hl;obtain⟨_,rfl⟩:=ha;obtain⟨rfl,rfl⟩:=hl;exact r
    .simp at hl
   | _=>simp at hl
  | val t' x'=>simp only[j9]at hl;simp only[dg]at hc;exact hval _ _ _ _ _ _ _ _ hl hc
  | _=>simp[j9]at hl
 | unit=>
  intro a p md xd mx x c cu base F hf ha r hc hl kB;cases a with
  | val t' x'=>simp only[j9]at hl;simp only[dg]at hc;exact hval _ _ _ _ _ _ _ _ hl hc
  | unit=>simp only[dg]at hc;subst hc;simp only[az]
  | _=>simp[j9]at hl
 | int k=>
  intro a p md xd mx x c cu base F hf ha r hc hl kB;cases a with
  | val t' x'=>simp only[j9]at hl;simp only[dg]at hc;exact hval _ _ _ _ _ _ _ _ hl hc
  | _=>simp[j9]at hl
 | bool=>
  intro a p md xd mx x c cu base F hf ha r hc hl kB;cases a with
  | val t' x'=>simp only[j9]at hl;simp only[dg]at hc;exact hval _ _ _ _ _ _ _ _ hl hc
  | _=>simp[j9]at hl
 | str=>
  intro a p md xd mx x c cu base F hf ha r hc hl kB;cases a with
  | val t' x'=>simp only[j9]at hl;simp only[dg]at hc;exact hval _ _ _ _ _ _ _ _ hl hc
  | _=>simp[j9]at hl
theorem ab6{h h2:Array Obj}{S:St}{g:aA}{gb:BS}{site q:Nat}{R:aC}(hR:S.root q=some R)(hp:Sub g.Pr gb)(hk:∀b,g.Pr b->h2[b]? = h[b]?) :
  ∀(t:Ty){a:AV}{p:Path}{md:Mk}{xd:t.den}{m mm:Mk}{o yy:t.den}{c cu:List Value}{base:fJ}{F Os:BS},
  focus R.ty R.ms R.x p=some ⟨t,md,xd⟩->cr h R.ty (g.C q) (g.base q) p=some (base,c)->az h g.Pr t md xd c F->dg h S g a cu->
  az h2 gb t m o cu Os->(∃z,j9 q t a p md xd=some z)->uX a p=true->gD site q t a p md xd m o=some (mm,yy)->
  ∃F1 F2,Sub F1 Os/\Sub F2 Os/\cB F1 F2/\az h2 (fun b=>gb b\/F2 b) t mm yy c F1:=by
 intro t;have hval:∀(t:Ty)(md:Mk)(xd:t.den)(mm:Mk)(yy:t.den)(c:List Value)(F Os:BS),
   (if md.still=true then some (Mk.no,xd) else none)=some (mm,yy)->az h g.Pr t md xd c F->∃F1 F2,Sub F1 Os/\Sub F2 Os/\cB F1 F2/\az h2 (fun b=>gb b\/F2 b) t mm yy c F1:=by
  intro t md xd mm yy c F Os hl hr;split at hl
  .rename_i hs;simp only[aK,aY]at hl;obtain⟨rfl,rfl⟩:=hl;exact⟨Nil,Nil,Sub.nil _,Sub.nil _,cB.nil _,az.mono (fun b hb=>.inl (hp b hb)) hk t (az.eK (F':=Nil) t hs hr) (Sub.refl _) (fun _ h=>h.elim)⟩
  .simp at hl
 induction t with
 | pair ta tb fS kQ=>
  intro a p md xd m mm o yy c cu base F Os hf ha r hc ro hle kB hl;cases a with
  | pair u v=>
   simp only[gD,cL,aK,aY]at hl;obtain⟨y,hy,z',hz,rfl,rfl⟩:=hl;simp only[dg]at hc;obtain⟨ca,cb,rfl,h1,sW⟩:=hc;simp only[uX,bI]at kB;simp only[az]at r;obtain⟨da,db,Fa,Fb,rfl,ra,rb,sa,sb,dd⟩:=r;have hw:=az.width _ ra;simp only[az]at ro;obtain⟨ea,eb,Oa,Ob,eo,roa,rob,soa,sob,V9⟩:=ro;have f1:focus R.ty R.ms R.x (p++[.fst])=some ⟨ta,md.fst,xd.1⟩:=by rw[uQ p _ hf];simp[focus]
   have f2:focus R.ty R.ms R.x (p++[.snd])=some ⟨tb,md.snd,xd.2⟩:=by rw[uQ p _ hf];simp[focus]
   have a1:cr h R.ty (g.C q) (g.base q) (p++[.fst])=some (base,da):=by rw[u6 p _ hf ha];simp only[cr];rw[<-hw,jl rfl]
   have a2:cr h R.ty (g.C q) (g.base q) (p++[.snd])=some (base.map fun x=>(x.1,x.2+ta.width),db):=by rw[u6 p _ hf ha];simp only[cr];rw[<-hw,iX rfl]
   obtain⟨zz,hle⟩:=hle;simp only[j9,cL]at hle;obtain⟨zy,hzy,zz,XG,-⟩:=hle;have jL:ca=ea/\cb=eb:=by
    have w1:=az.width _ roa;have w2:=az.width _ rob;have:ca.length=ea.length:=by rw[w1];exact az.width _ (Sm hR ta f1 a1 ra h1 (mx:=zy.1) (x:=zy.2) hzy kB.1)
    exact List.append_inj eo this
   obtain⟨rfl,rfl⟩:=jL;obtain⟨A1,A2,s1,s2,d1,r1⟩:=fS f1 a1 ra h1 roa ⟨_,hzy⟩ kB.1 hy;obtain⟨B1,B2,s3,s4,d2,r2⟩:=kQ f2 a2 rb sW rob ⟨_,XG⟩ kB.2 hz;refine⟨fun b=>A1 b\/B1 b,fun b=>A2 b\/B2 b,?_,?_,?_,?_⟩
   .rintro z (hz | hz)
    .exact soa z (s1 z hz)
    .exact sob z (s3 z hz)
   .rintro z (hz | hz)
    .exact soa z (s2 z hz)
    .exact sob z (s4 z hz)
   .rintro z (hz | hz) (hy | hy)
    .exact d1 z hz hy
    .exact V9 z (s1 z hz) (s4 z hy)
    .exact V9 z (s2 z hy) (s3 z hz)
    .exact d2 z hz hy
   .simp only[az];exact⟨da,db,A1,B1,rfl,az.mono (fun z hz=>hz.imp id .inl) (fun _ _=>rfl) _ r1 (Sub.refl _) (fun _ _=>rfl),
     az.mono (fun z hz=>hz.imp id .inr) (fun _ _=>rfl) _ r2 (Sub.refl _) (fun _ _=>rfl),fun z hz=>.inl hz,fun z hz=>.inr hz,V9.mono s1 s3⟩
  | val t' x'=>simp only[gD]at hl;exact hval _ _ _ _ _ _ _ _ hl r
  | unit=>simp only[gD]at hl;exact hval _ _ _ _ _ _ _ _ hl r
  | _=>simp[gD]at hl
 | sl e ih=>
  intro a p md xd m mm o yy c cu base F Os hf ha r hc ro hle kB hl;cases a with
  | b9 r' p' s=>
   simp only[gD]at hl;cases md with
   | own s' m0=>
    simp only at hl;split at hl
    .rename_i nW;obtain⟨rfl,rfl,oB,Xq⟩:=nW;simp only[uX,gQ]at kB;subst kB;simp only[dg]at hc;obtain⟨v,rfl,hb⟩:=hc;obtain⟨_,b',d8⟩:=hb R hR _ _ _ hf;rw[d8]at ha;simp only[aK,aY]at ha hl;obtain⟨_,rfl⟩:=ha;obtain⟨rfl,rfl⟩:=hl;obtain⟨F1,F2,s1,s2,d,rr⟩:=az.aP _ Xq ro;refine⟨F1,F2,s1,s2,d,?_⟩;have:=(az.stamp site _).1 rr;simp only[Mk.stamp,az]at this⊢;exact this
    .simp at hl
   | _=>simp at hl
  | val t' x'=>simp only[gD]at hl;exact hval _ _ _ _ _ _ _ _ hl r
  | unit=>simp only[gD]at hl;exact hval _ _ _ _ _ _ _ _ hl r
  | _=>simp[gD]at hl
 | unit=>
  intro a p md xd m mm o yy c cu base F Os hf ha r hc ro hle kB hl;cases a with
  | val t' x'=>simp only[gD]at hl;exact hval _ _ _ _ _ _ _ _ hl r
  | unit=>simp only[gD]at hl;exact hval _ _ _ _ _ _ _ _ hl r
  | _=>simp[gD]at hl
 | int k=>
  intro a p md xd m mm o yy c cu base F Os hf ha r hc ro hle kB hl;cases a with
  | val t' x'=>simp only[gD]at hl;exact hval _ _ _ _ _ _ _ _ hl r
  | unit=>simp only[gD]at hl;exact hval _ _ _ _ _ _ _ _ hl r
  | _=>simp[gD]at hl
 | bool=>
  intro a p md xd m mm o yy c cu base F Os hf ha r hc ro hle kB hl;cases a with
  | val t' x'=>simp only[gD]at hl;exact hval _ _ _ _ _ _ _ _ hl r
  | unit=>simp only[gD]at hl;exact hval _ _ _ _ _ _ _ _ hl r
  | _=>simp[gD]at hl
 | str=>
  intro a p md xd m mm o yy c cu base F Os hf ha r hc ro hle kB hl;cases a with
  | val t' x'=>simp only[gD]at hl;exact hval _ _ _ _ _ _ _ _ hl r
  | unit=>simp only[gD]at hl;exact hval _ _ _ _ _ _ _ _ hl r
  | _=>simp[gD]at hl
theorem vP{t:Ty}{md mm:Mk}{xd yy:t.den}(hl:(if md.still=true then some (Mk.no,xd) else none)=some (mm,yy)):md.still=true/\mm=.no/\yy=xd:=by
 split at hl
 .rename_i hs;simp only[aK,aY]at hl;exact⟨hs,hl.1.symm,hl.2.symm⟩
 .simp at hl
theorem ab7{hd:Nat->Value}{site q:Nat}(hs:site<1048576):∀(t:Ty){a:AV}{p:Path}{md:Mk}{xd:t.den}{m mm:Mk}{o yy:t.den}{c:List Value},
  gD site q t a p md xd m o=some (mm,yy)->aM hd t md c->aM hd t mm c/\md.nC site (site+1) mm:=by
 intro t
 induction t with
 | pair ta tb fS kQ=>
  intro a p md xd m mm o yy c hl nc;cases a with
  | pair u v=>simp only[gD,cL,aK,aY]at hl;obtain⟨y,hy,z',hz,rfl,rfl⟩:=hl;simp only[aM]at nc⊢;have h1:=fS hy nc.1;have h2:=kQ hz nc.2;exact⟨⟨h1.1,h2.1⟩,h1.2,h2.2⟩
  | val t' x'=>simp only[gD]at hl;obtain⟨_,rfl,rfl⟩:=vP hl;exact⟨aM.no _ _,trivial⟩
  | unit=>simp only[gD]at hl;obtain⟨_,rfl,rfl⟩:=vP hl;exact⟨aM.no _ _,trivial⟩
  | _=>simp[gD]at hl
 | sl e ih=>
  intro a p md xd m mm o yy c hl nc;cases a with
  | b9 r' p' s=>
   simp only[gD]at hl;cases md with
   | own s' m0=>
    simp only at hl;split at hl
    .rename_i nW;obtain⟨rfl,rfl,oB,Xq⟩:=nW;simp only[aK,aY]at hl;obtain⟨rfl,rfl⟩:=hl;simp only[aM]at nc⊢;exact⟨⟨nc.1,Mk.cM hs oB⟩,.inr ⟨_,rfl,Mk.eO _ (Mk.dP site oB)⟩⟩
    .simp at hl
   | _=>simp at hl
  | val t' x'=>simp only[gD]at hl;obtain⟨_,rfl,rfl⟩:=vP hl;exact⟨aM.no _ _,trivial⟩
  | unit=>simp only[gD]at hl;obtain⟨_,rfl,rfl⟩:=vP hl;exact⟨aM.no _ _,trivial⟩
  | _=>simp[gD]at hl
 | _=>
  intro a p md xd m mm o yy c hl nc;cases a with
  | val t' x'=>simp only[gD]at hl;obtain⟨_,rfl,rfl⟩:=vP hl;exact⟨aM.no _ _,trivial⟩
  | unit=>simp only[gD]at hl;obtain⟨_,rfl,rfl⟩:=vP hl;exact⟨aM.no _ _,trivial⟩
  | _=>simp[gD]at hl
theorem aaN{h h2:Array Obj}{Pr gb:BS}{site q:Nat}:∀(t:Ty){a:AV}{p:Path}{md:Mk}{xd:t.den}{m mm:Mk}{o yy:t.den}{c:List Value}{base:fJ}{F F1:BS},
  gD site q t a p md xd m o=some (mm,yy)->az h Pr t md xd c F->az h2 gb t mm yy c F1->
  ∀p' t1 n1,jF site (site+1) p'=true->q8 t mm p'=some (t1,n1)->bu t xd p'->bu t yy p'/\∀bp cp,cr h t c base p'=some (bp,cp)->
   ∃iP,cr h2 t c base p'=some (bp,iP)/\(∀s a,n1=.own s a->¬ (site<=s/\s<site+1)->iP=cp):=by
 intro t;have hval:∀(t:Ty)(c:List Value)(base:fJ)(x:t.den)(p':Path)(t1:Ty)(n1:Mk),jF site (site+1) p'=true->q8 t .no p'=some (t1,n1)->bu t x p'->bu t x p'/\∀bp cp,cr h t c base p'=some (bp,cp)->
   ∃iP,cr h2 t c base p'=some (bp,iP)/\(∀s a,n1=.own s a->¬ (site<=s/\s<site+1)->iP=cp):=by
  intro t c base x p' t1 n1 hp gV hi;obtain⟨hi',zq⟩:=Dj (lo:=site) (hi:=site+1) p' (m:=.no) trivial hp gV;refine⟨hi,fun bp cp ha=>?_⟩;obtain⟨iP,h3⟩:=II (h':=h2) p' _ c _ hi' ha;exact⟨iP,h3,fun s a' e hs=>by subst e;exact absurd zq hs⟩
 have Ak:∀(t:Ty)(mm:Mk)(c:List Value)(base:fJ)(y:t.den)(t1:Ty)(n1:Mk),bu t y []/\∀bp cp,cr h t c base []=some (bp,cp)->
   ∃iP,cr h2 t c base []=some (bp,iP)/\(∀s a,n1=.own s a->¬ (site<=s/\s<site+1)->iP=cp):=by
  intro t mm c base y t1 n1;refine⟨xL _ _,fun bp cp ha=>?_⟩;rw[EP]at ha;exact⟨cp,by rw[EP];exact ha,fun _ _ _ _=>rfl⟩
 induction t with
 | pair ta tb fS kQ=>
  intro a p md xd m mm o yy c base F F1 hl r r2 p' t1 n1 hp gV hi;cases a with
  | pair u v=>
   simp only[gD,cL,aK,aY]at hl;obtain⟨y,hy,z',hz,rfl,rfl⟩:=hl;simp only[az]at r r2;obtain⟨da,db,Fa,Fb,rfl,ra,rb,-⟩:=r;obtain⟨ea,eb,Ea,Eb,ee,qa,qb,-⟩:=r2;obtain⟨rfl,rfl⟩:=List.append_inj ee (by rw[az.width _ ra,az.width _ qa]);have hw:=az.width _ ra;cases p' with
   | nil=>exact Ak _ (.pr y.1 z'.1) _ _ _ t1 _
   | cons st p'=>
    cases st with
    | fst=>simp only[q8,Mk.fst]at gV;simp only[bu]at hi⊢;obtain⟨h1,h3⟩:=fS (base:=base) hy ra qa p' t1 n1 (by simpa [jF] using hp) gV hi;refine⟨h1,fun bp cp ha=>?_⟩;simp only[cr]at ha⊢;rw[<-hw,jl rfl]at ha⊢;exact h3 _ _ ha
    | snd=>simp only[q8,Mk.snd]at gV;simp only[bu]at hi⊢;obtain⟨h1,h3⟩:=kQ (base:=base.map fun x=>(x.1,x.2+ta.width)) hz rb qb p' t1 n1 (by simpa [jF] using hp) gV hi;refine⟨h1,fun bp cp ha=>?_⟩;simp only[cr]at ha⊢;rw[<-hw,iX rfl]at ha⊢;rw[hw]at ha⊢;exact h3 _ _ ha
    | idx i s=>simp[q8]at gV
  | val t' x'=>simp only[gD]at hl;obtain⟨_,rfl,rfl⟩:=vP hl;exact hval _ _ _ _ _ _ _ hp gV hi
  | unit=>simp only[gD]at hl;obtain⟨_,rfl,rfl⟩:=vP hl;exact hval _ _ _ _ _ _ _ hp gV hi
  | _=>simp[gD]at hl
 | sl e ih=>
  intro a p md xd m mm o yy c base F F1 hl r r2 p' t1 n1 hp gV hi;cases a with
  | b9 r' p0 s=>
   simp only[gD]at hl;cases md with
   | own s' m0=>
    simp only at hl;split at hl
    .rename_i nW;obtain⟨rfl,rfl,oB,Xq⟩:=nW;simp only[aK,aY]at hl;obtain⟨rfl,rfl⟩:=hl;cases p' with
     | nil=>exact Ak _ .no _ _ _ t1 _
     | cons st p'=>
      cases st with
      | fst=>simp[q8]at gV
      | snd=>simp[q8]at gV
      | idx i s=>
       simp only[q8]at gV;split at gV
       .rename_i hss;simp only[jF,bI]at hp;obtain⟨hip,zq⟩:=Dj p' (Mk.dP site oB) hp.2 gV;simp only[az]at r r2;obtain⟨a1,k1,rfl,nM,r⟩:=r;obtain⟨a2,k2,e2,iH,r2⟩:=r2;simp only[eY,Value.slice.injEq,iO]at e2;obtain⟨rfl,hlen,rfl⟩:=e2;simp only[bu]at hi⊢;refine⟨⟨hlen ▸ hi.1,zN _ _ hip gV⟩,fun bp cp ha=>?_⟩;rcases r2 with r2 | ⟨b,cs,rfl,fb,hb,hsz,-⟩
        .omega
        obtain⟨ty,lo,hi',he,_⟩:=hb;simp only[cr,he];simp only[cr]at ha;split at ha
        .obtain⟨iP,h3⟩:=II (h':=h2) p' _ (sub cs (i * e.width) e.width) _ hip ha;exact⟨iP,h3,fun s a' e hs=>by subst e;exact absurd zq hs⟩
        .simp at ha
       .simp at gV
    .simp at hl
   | _=>simp at hl
  | val t' x'=>simp only[gD]at hl;obtain⟨_,rfl,rfl⟩:=vP hl;exact hval _ _ _ _ _ _ _ hp gV hi
  | unit=>simp only[gD]at hl;obtain⟨_,rfl,rfl⟩:=vP hl;exact hval _ _ _ _ _ _ _ hp gV hi
  | _=>simp[gD]at hl
 | _=>
  intro a p md xd m mm o yy c base F F1 hl r r2 p' t1 n1 hp gV hi;cases a with
  | val t' x'=>simp only[gD]at hl;obtain⟨_,rfl,rfl⟩:=vP hl;exact hval _ _ _ _ _ _ _ hp gV hi
  | unit=>simp only[gD]at hl;obtain⟨_,rfl,rfl⟩:=vP hl;exact hval _ _ _ _ _ _ _ hp gV hi
  | _=>simp[gD]at hl
theorem abg{h:Array Obj}{S:St}{g:aA}{q:Nat}{t:Ty}{a:AV}{p:Path}{md:Mk}{xd:t.den}{z:Mk×t.den}{rp:Nat×Path}{v:Value}
  (hp:kD a=some rp) (hl:j9 q t a p md xd=some z) (hv:qe h S g a v):∃c,v=dK t c/\dg h S g a c:=by
 cases a with
 | b9 r' p' s=>
  cases t with
  | sl e=>simp only[qe]at hv;exact⟨[v],by simp[dK,Ty.agg],by simp only[dg];exact⟨v,rfl,hv⟩⟩
  | _=>simp[j9]at hl
 | pair a b=>
  cases t with
  | pair ta tb=>simp only[qe]at hv;obtain⟨ca,cb,rfl,h1,h2⟩:=hv;exact⟨ca++cb,by simp[dK,Ty.agg],by simp only[dg];exact⟨ca,cb,rfl,h1,h2⟩⟩
  | _=>simp[j9]at hl
 | _=>simp[kD]at hp
section
variable {P:Program} {C:Ctx} {D:Den C} {S:St} {g:aA} {w:World} {tmps:Array Value}
variable {A:bX} {site:Nat} (dy:oh P C D) (st:aE w.heap S g tmps Nil)
include dy st
theorem aaG{f:FuncId}{aJ:List AV}{vs:List Value}{d:Option Nat}(ok:nK A S d site)(hfr:site<1048576/\∀u,(S.get u).aQ site (site+1)=true)
  (ha:lW w.heap S g aJ vs) (W8:(C.sig f).params.all (fun k=>!k.mb)=true) {gd:jr (C.sig f).params} (h1:fY S.rt (C.sig f).params aJ=some (gd,S.rt))
  {od:dG (C.sig f).params} {fj:aO} {n:Nat} {u0:AV} {v0:Value} {q:Nat} {p:Path} {R:aC} {md:Mk} {t:Ty} {xd:t.den} {m m' mx:Mk} {x:t.den} (rH:qe w.heap S g u0 v0)
  (L:wq w.heap (C.sig f).params aJ vs S.rt fj od n u0 v0 q p R md t xd m m' mx x) {a:ga (C.sig f).params} (h3:jg fj (C.sig f).params aJ gd od=some a)
  (hs:mI (C.sig f).params aJ=true\/(C.sig f).full=true) {r:f7 (C.sig f).res×dG (C.sig f).params} (hD:D f a=some r) {β:Bool} {v:AV} {yX rt':aO}
  (ho:f_ S.rt site (C.sig f).params aJ r.2=some yX) (he:(mj A yX d site (C.sig f).res r.1).dec β=some (v,rt')) :
  Calls P f vs.toArray w fun e w'=>∃val,e=.returned val/\Post S g w tmps v rt' val w':=by
 have hR:=L.root;have bO:(S.root q).isSome:=by show(S.rt.root q).isSome=true;rw[hR];rfl
 obtain⟨cu,Kj,WB⟩:=abg L.place L.xq rH;have hin:=ac3 hR t L.DV WB L.xq L.paths L.place;obtain⟨base,c,F,q1,q2,q3,q4,q5,q6⟩:=st.mY hR L.DV hin;have q2l:=Sm hR t L.DV q1 q2 WB L.xq L.paths;have Xu:aM g.hd t md c:=aM.at p (st.tag q R hR) L.DV q1;obtain⟨F1,F2,s1,s2,s3,s4⟩:=az.aP t L.TR q2l;have o8:=(st.gB bO).cP F2 (fun z hz=>.inr (q3 z (s2 z hz)))
 let g2:aA:={ g with Pr:=Un g.Pr F2 }
 have Ar:Kp w.heap S g (S.aI q none) g2:=(M4 st q).trans (Jq (st.gB bO) F2)
 let Fs:Nat->BS:=fun j=>if j=n then F1 else Nil
 have pV:∀i,Sub (Fs i) (fun z=>(Nil z\/g.G q z)/\¬ F2 z):=by
  intro i z hz;simp only[Fs]at hz;split at hz
  .exact⟨.inr (q3 z (s1 z hz)),fun h=>s3 z hz h⟩
  .exact hz.elim
 have e2:fj=(S.aI q none).rt:=L.fj;subst e2;obtain⟨gg1,HH1,FF,kk⟩:=Ci (sl:=S.sl) (C.sig f).params aJ vs S.rt g Nil 0 gd S.rt ha st h1;have hG:=EX (h2:=w.heap) (gb:=g2.Pr) (pM:=Fs) (C.sig f).params 0 W8 kk.2.2.2.2.1;have hL:=L.ls g2.Pr Fs 0 (by
  simp only[kz,Fs,aX];exact⟨cu,s4,Kj⟩)
 have hps:=yD o8 (sh:=mI (C.sig f).params aJ) (Fs:=Fs) (C.sig f).params aJ vs 0 gd od a (fun h=>h) (ha.kp Ar) hG hL h3;have D6:∀i j,i≠j->cB (Fs i) (Fs j):=by
  intro i j hij z h1 h2;simp only[Fs]at h1 h2;split at h1
  .split at h2
   .omega
   .exact h2
  .exact h1
 have pre:Pre w.heap (Seen (mI (C.sig f).params aJ) (S.aI q none) g2) Fs (C.sig f).params a vs:=
  ⟨hps,D6,fun i z hz=>A9 o8 _ z (pV i z hz),fun i z hz=>o8.ef z (pV i z hz),A_ o8 _⟩
 refine(dy.ok f a r hD w _ Fs vs pre).mono ?_;rintro e w' ⟨val,fO,Gs,Os,us,rfl,p0⟩;obtain⟨y,hy1,EB⟩:=L.out r.2;have eR:=hy1 S.rt site yX ho;obtain⟨cu',Cz,DU⟩:=EB _ _ _ _ p0.out;rw[kz]at Cz;obtain rfl:cu=cu':=akS q2l Cz (Kj.symm.trans DU);have i9:∀z,tP w.heap.size Fs z->w.heap.size<=z\/F1 z:=by
  rintro z (h | ⟨i,h⟩)
  .exact .inl h
  .simp only[Fs]at h;split at h
   .exact .inr h
   .exact h.elim
 let D0:BS:=fun z=>mI (C.sig f).params aJ=true/\fO z/\¬ g.Pr z
 have hD0:∀z,D0 z->F z\/Nil z\/w.heap.size<=z:=by
  rintro z ⟨hsh,h1,h2⟩;rcases p0.kX z h1 with h3 | h3
  .rw[hsh]at h3;simp only[Seen,aX]at h3;rcases h3 with h3 | h3
   .exact absurd h3 h2
   .exact .inl (s2 z h3)
  .rcases i9 z h3 with h4 | h4
   .exact .inr (.inr h4)
   .exact .inl (s1 z h4)
 have hOm:∀z,Os n z->F z\/Nil z\/w.heap.size<=z:=by
  intro z hz;rcases i9 z (p0.oL n z hz) with h4 | h4
  .exact .inr (.inr h4)
  .exact .inl (s1 z h4)
 have hfull:mI (C.sig f).params aJ=false->(C.sig f).full=true:=fun h=>hs.resolve_left (by rw[h];simp);have yW:az w'.heap (Un g.Pr D0) t m' y cu (Os n):=by
  cases hsh:mI (C.sig f).params aJ with
  | true=>
   refine az.mono (fun z hz=>?_) (fun _ _=>rfl) _ Cz (Sub.refl _) (fun _ _=>rfl);by_cases h1:g.Pr z
   .exact .inl h1
   .exact .inr ⟨hsh,hz,h1⟩
  | false=>have h5:=hfull hsh;simp only[wz.full,bI]at h5;exact az.lN _ (L.full h5.1) Cz
 have WR:∀z,z<w.heap.size->¬ F z->w'.heap[z]? = w.heap[z]?:=fun z hz Aj=>p0.fr.block z hz (fun h=>by
   rcases i9 z h with h4 | h4
   .omega
   .exact Aj (s1 z h4))
 have I_:∀b,g.Pr b->w'.heap[b]? = w.heap[b]?:=fun b hb=>WR b (st.bQ b hb) (fun h=>st.eg q bO b (q3 b h) hb);unfold xR at eR;rw[L.place]at eR;simp only at eR;rw[hR]at eR;simp only[cL]at eR;obtain⟨dd,lE,eR⟩:=eR;rw[L.DV]at lE;simp only[aK]at lE;subst lE;simp only[↓reduceDIte,cL]at eR;obtain⟨⟨mm,yy⟩,WX,eR⟩:=eR;simp only at eR;split at eR
 .simp at eR
 rename_i hidx;simp only[cL,aK]at eR;obtain⟨⟨mr,xr⟩,hput,eR⟩:=eR;subst eR;obtain⟨G1,G2,t1,t2,t3,qZ⟩:=ab6 (site:=site) hR (fun z hz=>Or.inl hz) I_ t L.DV q1 q2 WB yW ⟨_,L.xq⟩ L.paths WX;obtain⟨nc,Xy⟩:=ab7 hfr.1 t WX Xu;have Es:=aaN (base:=base) t WX q2 qZ
 let Dd:BS:=fun z=>D0 z\/G2 z
 have Wi:∀z,Dd z->F z\/Nil z\/w.heap.size<=z:=by
  rintro z (h | h)
  .exact hD0 z h
  .exact hOm z (t2 z h)
 obtain⟨g',k1,k2,k3,k4,k5,k6,k7⟩:=q6 site (site+1) w'.heap mm yy c G1 Dd mr xr hfr.2
  (fun z hz Aj _=>WR z hz Aj)
  p0.fr.size
  (by
   intro b o e cs hcs;obtain⟨gA,h5,h6⟩:=zg.self q4 b o e cs hcs;exact⟨gA,h5.congr (WR b (by obtain⟨_,_,_,h7,_⟩:=hcs;exact(ru.1 h7).1) (q4 b o e).1),h6⟩)
  (az.mono (fun z hz=>hz.elim (fun h=>h.imp id .inl) (fun h=>.inr (.inr h))) (fun _ _=>rfl) _ qZ (Sub.refl _) (fun _ _=>rfl))
  (fun z h1 h2=>h1.elim (fun h1=>p0.op n z (t1 z h2) h1.2.1) (fun h1=>t3 z h2 h1))
  (fun z hz=>hz.elim (fun h=>hOm z (t1 z h)) (Wi z))
  (fun z hz=>hz.elim (fun h=>p0.Av n z (t1 z h)) (fun h=>h.elim (fun h=>p0.Ay z h.2.1) (fun h=>p0.Av n z (t2 z h))))
  hput Xy nc (fun h=>by simpa [h] using hidx) Es
 have hres:lp w'.heap g'.Pr Gs 0 (C.sig f).res r.1 us:=by
  refine lp.conv _ 0 ?_ p0.res;cases hsh:mI (C.sig f).params aJ with
  | true=>
   refine .inl (fun z hz=>?_);by_cases h1:g.Pr z
   .exact k2 z h1
   .exact k3 z (.inl ⟨hsh,hz,h1⟩)
  | false=>have h5:=hfull hsh;simp only[wz.full,bI]at h5;exact .inr h5.2
 have Wl:∀i,Sub (Gs i) (fun z=>(Nil z\/F z\/(w.heap.size<=z/\z<w'.heap.size))/\¬ (G1 z\/Dd z)):=by
  intro i z hz;refine⟨?_,?_⟩
  .rcases i9 z (p0.gL i z hz) with h4 | h4
   .exact .inr (.inr ⟨h4,p0.wE i z hz⟩)
   .exact .inr (.inl (s1 z h4))
  .rintro(h | h | h)
   .exact p0.go i n z hz (t1 z h)
   .exact p0.gp i z hz h.2.1
   .exact p0.go i n z hz (t2 z h)
 obtain⟨g4,u1,u2,u3⟩:=G3 (S:=S) k1 Wl p0.z7 ok (C.sig f).res hres he;refine⟨val,rfl,g4,u1,by rw[p0.val];exact u2,k4.trans u3,p0.fr.mono ?_⟩;intro z hz h;rcases i9 z h with h4 | h4
 .omega
 .exact st.own q _ bO (q3 z (s1 z h4))
end
theorem lW.append{h:Array Obj}{S:St}{g:aA}:∀{aJ bs:List AV}{vs ws:List Value},lW h S g aJ vs->lW h S g bs ws->lW h S g (aJ++bs) (vs++ws)
 | [],bs,vs,ws,k,k2=>by simp only[lW]at k;subst k;simpa using k2
 | a::aJ,bs,vs,ws,k,k2=>by
  obtain⟨v,vs',rfl,r1,r2⟩:=k;exact⟨v,vs'++ws,rfl,r1,lW.append r2 k2⟩
theorem NI{h:Array Obj}{S:St}{g:aA}:∀{c:AV}{vs:List Value},aN h S g c vs->lW h S g (mV c) vs
 | .unit,vs,k=>by simp only[aN]at k;exact k
 | .pair a b,vs,k=>by
  simp only[aN]at k;obtain⟨v,vs',rfl,r1,r2⟩:=k;exact⟨v,vs',rfl,r1,NI r2⟩
 | .undef,_,k=>by simp only[aN]at k
 | .skip,_,k=>by simp only[aN]at k
 | .cG _,_,k=>by simp only[aN]at k
 | .fl,_,k=>by simp only[aN]at k
 | .val _ _,_,k=>by simp only[aN]at k
 | .b9 _ _ _,_,k=>by simp only[aN]at k
 | .view _ _ _ _ _,_,k=>by simp only[aN]at k
 | .addr _ _,_,k=>by simp only[aN]at k
 | .cj _ _,_,k=>by simp only[aN]at k
 | .jH _,_,k=>by simp only[aN]at k
 | .gF _ _,_,k=>by simp only[aN]at k
 | .ew _,_,k=>by simp only[aN]at k
theorem Ii{h:Array Obj}{S:St}{g:aA}{ρ:Operand->AV}{ev:Operand->Value}(hρ:∀x,qe h S g (ρ x) (ev x)):∀(l:List Operand),lW h S g (l.map ρ) (l.map ev)
 | []=>rfl
 | x::l=>⟨_,_,rfl,hρ x,Ii hρ l⟩
theorem ab8{h:Array Obj}{Pr:BS}{Gs:Nat->BS}{us:List Value}:∀(rs:List RK)(r:f7 rs)(t:Ty)(y:t.den),Fi rs r t=some y->lp h Pr Gs 0 rs r us->
  ∃c F m,us=[dK t c]/\az h Pr t m y c F
 | [],r,t,y,hy,k=>by simp[Fi]at hy
 | [.val t' m],r,t,y,hy,k=>by
  simp only[Fi]at hy;obtain⟨u,vs',rfl,⟨c,rr,rfl⟩,k2⟩:=k;simp only[lp]at k2;subst k2;obtain⟨rfl,rr2⟩:=az.cast hy rr;exact⟨c,_,m,rfl,rr2⟩
 | [.ptr t' m],r,t,y,hy,k=>by simp[Fi]at hy
 | .val _ _::_::_,r,t,y,hy,k=>by simp[Fi]at hy
 | .ptr _ _::_::_,r,t,y,hy,k=>by simp[Fi]at hy
section
variable {P:Program} {C:Ctx} {D:Den C} {S:St} {g:aA} {w:World} {tmps:Array Value} {a:Act} {ρ:Operand->AV}
variable {A:bX} {site:Nat} {hint:Bool} (bn:iA P C) (dy:oh P C D) (st:aE w.heap S g tmps Nil) (hρ:∀x,qe w.heap S g (ρ x) (a.eval x))
include dy st
theorem RV{f:FuncId}{aJ:List AV}{vs:List Value}{d:Option Nat}(ok:nK A S d site)(ha:lW w.heap S g aJ vs)(ht:bZ (rQ C D A S.rt d site f aJ)) :
  Calls P f vs.toArray w fun | .returned val,w''=>rS S g w tmps (rQ C D A S.rt d site f aJ) val w'' | _,_=>False:=by
 obtain⟨⟨v,rt'⟩,hd⟩:=ht true;have sX:∀{Q:Value->World->Prop},Calls P f vs.toArray w (fun e w'=>∃val,e=.returned val/\Post S g w tmps v rt' val w')->
   Calls P f vs.toArray w fun | .returned val,w''=>rS S g w tmps (rQ C D A S.rt d site f aJ) val w'' | _,_=>False:=by
  intro Q h;refine h.mono ?_;rintro e w' ⟨val,rfl,hp⟩;exact⟨true,v,rt',hd,hp⟩
 refine sX (Q:=fun _ _=>True) ?_;clear sX;unfold rQ at hd;cases h1:fY S.rt (C.sig f).params aJ with
 | none=>rw[h1]at hd;simp[Tr.dec]at hd
 | some z=>
  obtain⟨gd,d5⟩:=z;rw[h1]at hd;simp only at hd;cases h2:gC d5 (C.sig f).params aJ with
  | none=>rw[h2]at hd;simp[Tr.dec]at hd
  | some z=>
   obtain⟨od,fj⟩:=z;rw[h2]at hd;simp only at hd;cases h3:jg fj (C.sig f).params aJ gd od with
   | none=>rw[h3]at hd;simp[Tr.dec]at hd
   | some aa=>
    rw[h3]at hd;simp only at hd;by_cases hc:(H7 (C.sig f).params&&(mI (C.sig f).params aJ||(C.sig f).full))=true
    .rw[aj hc]at hd;simp only[bI,jz]at hc;simp only[Tr.dec,cL]at hd;obtain⟨r,hD,hd⟩:=hd;by_cases hn:(C.sig f).params.all (fun k=>!k.eE)=true
     .rw[aj hn]at hd;exact ajX dy st ok ha h1 hn h2 h3 hc.2 hD hd
     .rw[af hn]at hd;by_cases hfr:A.fr=true
      .rw[aj hfr]at hd;cases hlo:vV (C.sig f).params aJ with
       | false=>rw[hlo]at hd;simp[Tr.dec]at hd
       | true=>
       rw[hlo]at hd;simp only[Tr.dec]at hd;cases h4:f_ d5 site (C.sig f).params aJ r.2 with
       | none=>rw[h4]at hd;simp[Tr.dec]at hd
       | some yX=>
        rw[h4]at hd;simp only at hd;have hone:(List.filter PK.eE (C.sig f).params).length=1/\(C.sig f).params.all (fun k=>!k.mb)=true:=by
         have:=hc.1;unfold H7 at this;split at this
         .rename_i h5;exfalso;rw[Sz]at h5;exact hn (by simpa using h5)
         .rename_i h5;rw[h5];exact⟨rfl,this⟩
         .simp at this
        obtain rfl:=J1 _ _ _ _ _ hone.2 h1;obtain⟨n,a0,v0,rH,wH⟩:=Sl (C.sig f).params aJ vs S.rt fj od hone.1 ha h2 hlo;rcases wH with⟨q,t,m,m',R,x,rfl,L⟩ | ⟨q,p,R,md,t,xd,m,m',mx,x,L⟩
        .exact aaF dy st ok (ok.fr hfr) ha hone.2 h1 rH L h3 hc.2 hD h4 hd
        .exact aaG dy st ok (ok.fr hfr) ha hone.2 h1 rH L h3 hc.2 hD h4 hd
      .rw[af hfr]at hd;simp[Tr.dec]at hd
    .rw[af hc]at hd;simp[Tr.dec]at hd
theorem q9o{h:Array Obj}{tmps:Array Value}{sl:List AV}:∀(ks:List PK)(aJ:List AV)(vs:List Value)(rt:aO)(g:aA)(z:List AV×aO),
  lW h ⟨sl,rt⟩ g aJ vs->aE h ⟨sl,rt⟩ g tmps Nil->kY rt ks aJ=some z->
  ∃g1,aE h ⟨sl,z.2⟩ g1 tmps Nil/\Kp h ⟨sl,rt⟩ g ⟨sl,z.2⟩ g1/\g1.cR g/\lW h ⟨sl,z.2⟩ g1 z.1 vs
 | [],[],vs,rt,g,z,ha,st,hb=>by
  simp only[kY,aK]at hb;subst hb;exact⟨g,st,Kp.refl,.refl _,ha⟩
 | [],_::_,vs,rt,g,z,ha,st,hb=>by simp[kY]at hb
 | k::ks,[],vs,rt,g,z,ha,st,hb=>by cases k<;>simp[kY]at hb
 | k::ks,a::aJ,vs,rt,g,z,ha,st,hb=>by
  obtain⟨v,vs',rfl,r1,r2⟩:=ha;have plain:(kY rt ks aJ).map (fun z=>(a::z.1,z.2))=some z->∃g1,aE h ⟨sl,z.2⟩ g1 tmps Nil/\Kp h ⟨sl,rt⟩ g ⟨sl,z.2⟩ g1/\g1.cR g/\lW h ⟨sl,z.2⟩ g1 z.1 (v::vs'):=by intro hb;simp only[fo]at hb;obtain⟨z',h1,rfl⟩:=hb;obtain⟨g1,k1,k2,k3,k4⟩:=q9o ks aJ vs' rt g z' r2 st h1;exact⟨g1,k1,k2,k3,v,vs',rfl,k2 _ _ r1,k4⟩
  cases k with
  | val t=>
   simp only[kY]at hb;split at hb
   .exact plain hb
   .split at hb
    .rename_i m y fj r9;split at hb
     .rename_i hm;simp only[fo]at hb;obtain⟨z',h1,rfl⟩:=hb;obtain⟨c,g2,F,ev,cI⟩:=yT (S:=⟨sl,rt⟩) _ st r9 r1;have o8:=(cI.st.cP F (fun b hb=>.inr hb)).bB (Sub.nil _);have Ar:Kp h ⟨sl,rt⟩ g ⟨sl,fj⟩ { g2 with Pr:=Un g2.Pr F }:=Kp.trans cI.kp (Jq cI.st F);have x:qe h ⟨sl,fj⟩ { g2 with Pr:=Un g2.Pr F } (.val t y) v:=by simp only[qe];exact⟨c,az.share t hm cI.rep,ev⟩
      obtain⟨g1,k1,k2,k3,k4⟩:=q9o ks aJ vs' fj _ z' (r2.kp Ar) o8 h1;exact⟨g1,k1,Ar.trans k2,cI.same.trans (aA.cR.trans ⟨rfl,rfl,rfl⟩ k3),v,vs',rfl,k2 _ _ x,k4⟩
     .simp at hb
    .simp at hb
  | _=>exact plain (by simpa only [kY] using hb)
theorem Mc:∀(ts:List Ty)(aJ:List AV)(vs:List Value)(l:List bL),lW w.heap S g aJ vs->yV S.rt ts aJ=some l->nR w.heap (PG (zh S g)) l vs
 | [],aJ,vs,l,ha,hb=>by
  cases aJ with
  | nil=>simp only[yV,aK]at hb;subst hb;exact ha
  | cons a aJ=>simp[yV]at hb
 | t::ts,[],vs,l,ha,hb=>by simp[yV]at hb
 | t::ts,a::aJ,vs,l,ha,hb=>by
  obtain⟨v,vs',rfl,r1,r2⟩:=ha;simp only[yV,cL,aK]at hb;obtain⟨x,hx,l',hl,rfl⟩:=hb;obtain⟨c,e,r⟩:=qJ st t hx r1;exact⟨v,vs',rfl,⟨c,r,e⟩,Mc ts aJ vs' l' r2 hl⟩
theorem PS{h:Array Obj}{g:aA}:∀{l l2:List bL}{vs ws:List Value},nR h g l vs->nR h g l2 ws->nR h g (l++l2) (vs++ws)
 | [],_,vs,ws,k,k2=>by simp only[nR]at k;subst k;simpa using k2
 | c::l,_,vs,ws,k,k2=>by
  obtain⟨v,vs',rfl,r1,r2⟩:=k;exact⟨v,vs'++ws,rfl,r1,PS r2 k2⟩
theorem HM{h:Array Obj}{Pr:BS}{Fs:Nat->BS}:∀(ks:List PK)(l:List bL)(vs:List Value)(i:Nat)(aa:ga ks),yM ks l=some aa->nR h (PG Pr) l vs->yR h Pr Fs i ks aa vs/\ks.all PK.plain=true
 | [],l,vs,i,aa,hp,hc=>by
  cases l with
  | nil=>exact⟨hc,rfl⟩
  | cons c l=>simp[yM]at hp
 | k::ks,[],vs,i,aa,hp,hc=>by cases k<;>simp[yM]at hp
 | k::ks,c::l,vs,i,aa,hp,hc=>by
  obtain⟨v,vs',rfl,r1,r2⟩:=hc;cases k with
  | val t=>
   cases c with
   | val t' x=>simp only[yM,cL,aK]at hp;obtain⟨y,hy,r,hr,rfl⟩:=hp;obtain⟨c,rr,e⟩:=r1;obtain⟨rfl,rr2⟩:=az.cast hy rr;obtain⟨p1,p2⟩:=HM ks l vs' (i+1) r hr r2;exact⟨⟨v,vs',rfl,⟨c,rr2,e⟩,p1⟩,by simpa [PK.plain] using p2⟩
   | _=>simp[yM]at hp
  | cm t=>
   cases c with
   | cm t' x=>simp only[yM,cL,aK]at hp;obtain⟨y,hy,r,hr,rfl⟩:=hp;obtain⟨e1,e2⟩:=Dp hy;subst e1;simp only at e2;subst e2;obtain⟨p1,p2⟩:=HM ks l vs' (i+1) r hr r2;exact⟨⟨v,vs',rfl,r1,p1⟩,by simpa [PK.plain] using p2⟩
   | _=>simp[yM]at hp
  | _=>cases c<;>simp[yM]at hp
theorem aan{h:Array Obj}{Pr gb:BS}{t:Ty}{m:Mk}{x:t.den}{c:List Value}{F F2:BS}(hs:t.scalar=true)(r:az h Pr t m x c F):az h gb t .no x c F2:=by cases t<;>simp[Ty.scalar]at hs<;>simpa only [az] using r
theorem aaz{cl:bk}{xs:List bL}{t:Ty}{y:t.den}{vs ws:List Value}(hs:t.scalar=true)(hy:iK C D cl xs t=some y)(hx:nR w.heap (PG (zh S g)) xs vs)(hw:nR w.heap g cl.caps ws) :
  Calls P cl.f (vs++ws).toArray w fun e w'=>∃val,e=.returned val/\Post S g w tmps (.val t y) S.rt val w':=by
 simp only[iK,cL]at hy;obtain⟨aa,ha,r,hD,hr⟩:=hy;obtain⟨hps,ue⟩:=HM dy st (Fs:=fun _=>Nil) (C.sig cl.f).params _ _ 0 aa ha (PS dy st hx (HT st (fun b hb=>.inl hb:Sub g.Pr (zh S g)) hw));have hv:=A9 st false;have pre:Pre w.heap (zh S g) (fun _=>Nil) (C.sig cl.f).params aa (vs++ws):=
  ⟨hps,fun _ _ _=>cB.nil _,fun _=>cB.nil _,fun _ _ h=>h.elim,A_ st false⟩
 refine(dy.ok cl.f aa r hD w _ _ _ pre).mono ?_;rintro e w' ⟨val,fO,Gs,Os,us,rfl,p⟩;have i9:∀z,tP w.heap.size (fun _=>Nil) z->w.heap.size<=z:=fun z h=>h.elim id (fun⟨_,h⟩=>h.elim);have DH:=st.grow (h2:=w'.heap) (fun b hb=>p.fr.block b hb (fun h=>absurd (i9 b h) (by omega))) p.fr.size Nil (fun b hb=>hb.elim);obtain⟨c,F,m,hus,rr⟩:=ab8 _ _ _ _ hr p.res;refine⟨val,rfl,g,DH,?_,.refl g,p.fr.mono (fun z hz h=>absurd (i9 z h) (by omega))⟩;rw[p.val,hus];simp only[qe,tF];exact⟨c,aan dy st hs rr,rfl⟩
include bn hρ
theorem akq{o:Oper}{c:Call}{f:Operand}(ho:o.op=.call c)(hc:c.callee=.value f)(ok:nK A S o.dst site):Goal P C D S g w tmps a ρ A site hint o:=by
 intro ht;have oP:∀(ff:FuncId)(vs:List Value),Jm P ff->a.eval f=.func (.func ff) #[] vs.toArray->
   (execOp a.eval o).run P w=.ok (.enter ff (c.args.toList.map a.eval++vs).toArray) w:=by
  rintro ff vs ⟨fn,h1,h2,h3⟩ hv;have hb:¬ fn.body=none:=by intro hh;rw[hh]at h3;simp at h3
  have kL:c.args.map a.eval++vs.toArray=(c.args.toList.map a.eval++vs).toArray:=by apply yU;simp
  simp[execOp,ho,resolve,hc,Deferred.ofValue,hv,invoke,callFunc,h1,h2,hb,Sem.run_bind,<-kL]
 simp only[aV,ho,hc]at ht⊢;have hf:=hρ f;split at ht
 .rename_i ff caps hv;rw[hv]at hf;simp only[qe]at hf;obtain⟨vs,ev,Xv⟩:=hf;have ha:=lW.append (Ii hρ c.args.toList) (NI Xv);have CP:∀{A:bX}{S:aO}{aJ:List AV},bZ (rQ C D A S o.dst site ff aJ)->Jm P ff:=by
   intro A S aJ ht;obtain⟨⟨v,rt'⟩,hd⟩:=ht true;unfold rQ at hd;split at hd
   .simp[Tr.dec]at hd
   .split at hd
    .simp[Tr.dec]at hd
    .split at hd
     .simp[Tr.dec]at hd
     .split at hd
      .simp only[Tr.dec,cL]at hd;obtain⟨r,hD,_⟩:=hd;exact dy.call _ _ _ hD
      .simp[Tr.dec]at hd
  by_cases vH:G4 (C.sig ff) (c.args.toList.map ρ++mV caps)=true
  .simp only[qM,aj vH]at ht⊢;cases hsa:kY S.rt (C.sig ff).params (c.args.toList.map ρ++mV caps) with
   | none=>rw[hsa]at ht;exact absurd ht bZ.fail
   | some z=>
    rw[hsa]at ht;simp only at ht⊢;obtain⟨g1,DH,_,DE,ha1⟩:=q9o dy st (sl:=S.sl) (C.sig ff).params _ _ S.rt g z ha st hsa;rw[oP ff vs (CP ht) ev];refine(RV dy (S:=⟨S.sl,z.2⟩) DH (A:={ A with sh:=hint }) ⟨ok.xw,ok.pl,ok.fr⟩ ha1 ht).mono ?_;rintro e w' he;cases e with
    | returned val=>obtain⟨β,v,rt',h1,g2,h2,h3,h4,h5⟩:=he;exact⟨β,v,rt',h1,g2,h2,h3,DE.trans h4,by rw[<-DE.2.1];exact h5⟩
    | _=>exact he
  .simp only[qM,af vH]at ht⊢;rw[oP ff vs (CP ht) ev];exact RV dy st (A:={ A with sh:=hint }) ⟨ok.xw,ok.pl,ok.fr⟩ ha ht
 .rename_i cl hv;rw[hv]at hf;simp only[qe]at hf;obtain⟨vs,ev,Ky⟩:=hf;by_cases hsc:(C.ty o.type).scalar=true
  .simp only[hsc,aX]at ht⊢;cases hx:yV S.rt (c.argTypes.toList.map C.ty) (c.args.toList.map ρ) with
   | none=>rw[hx]at ht;exact absurd ht bZ.fail
   | some xs=>
    rw[hx]at ht;simp only at ht⊢;obtain⟨⟨v,rt'⟩,hd⟩:=ht true;have hd0:=hd;simp only[Tr.dec,cL,aK,aY]at hd;obtain⟨y,hy,rfl,rfl⟩:=hd;have Wz:Jm P cl.f:=by have:=hy;simp only[iK,cL]at this;obtain⟨aa,_,r,hD,_⟩:=this;exact dy.call _ _ _ hD
    rw[oP cl.f vs Wz ev];have hxs:=Mc dy st _ _ _ _ (Ii hρ c.args.toList) hx;refine(aaz dy st hsc hy hxs Ky).mono ?_;rintro e w' ⟨val,rfl,hp⟩;exact⟨true,_,_,hd0,hp⟩
  .rw[af hsc]at ht;exact absurd ht bZ.fail
 .exact absurd ht bZ.fail
theorem acy{o:Oper}(ok:nK A S o.dst site):Goal P C D S g w tmps a ρ A site hint o:=
 alL bn st hρ ok fun c f ho hc=>akq bn dy st hρ ho hc ok
end
end Go.V
namespace Go.V
noncomputable section
open Go
theorem RZ{d:Nat}:∀(l:List AV)(i:Nat),sq d i l=true->∀k,i+k≠d->(l.getD k .undef).roots.contains d=false
 | [],i,_,k,_=>by simp[List.getD,AV.roots]
 | v::l,i,h,k,hk=>by
  simp only[sq,bI,jz,kr,Mw]at h;cases k with
  | zero=>exact h.1.resolve_left (by simpa using hk)
  | succ k=>simpa [List.getD] using RZ l (i+1) h.2 k (by omega)
theorem M_{d:Nat}:∀(l:List AV)(i:Nat),E0 d i l=true->∀k,i+k≠d->(l.getD k .undef).gH d=true
 | [],i,_,k,_=>by simp[List.getD,AV.gH]
 | v::l,i,h,k,hk=>by
  simp only[E0,bI,jz,Mw]at h;cases k with
  | zero=>exact h.1.resolve_left (by simpa using hk)
  | succ k=>simpa [List.getD] using M_ l (i+1) h.2 k (by omega)
theorem Hz{s:Nat}:∀(l:List AV),IP s l=true->∀k,(l.getD k .undef).aQ s (s+1)=true
 | [],_,k=>by simp[List.getD,AV.aQ]
 | v::l,h,k=>by
  simp only[IP,bI]at h;cases k with
  | zero=>exact h.1
  | succ k=>simpa [List.getD] using Hz l h.2 k
def St.blank(S:St):Option Nat->St
 | some d=>S.set d .undef
 | none=>S
theorem AI(S:St)(d:Nat)(u:Nat):(S.blank (some d)).get u=if u=d then .undef else S.get u:=by
 simp only[St.blank,St.gr];by_cases e:u=d
 .subst e;by_cases h:u<S.sl.length
  .simp[h]
  .simp only[h,and_false,dV,aX];simp only[St.get_eq,List.getD];rw[pn (by omega)];rfl
 .simp[e]
theorem ake(S:St)(d:Option Nat)(site:Nat):nK (lG S.sl d site) (S.blank d) d site where
 xw:=by
  intro h d' hd u;subst hd;simp only[lG]at h;rw[AI];split
  .rfl
  .rename_i hu;rw[St.get_eq];exact RZ S.sl 0 h u (by omega)
 pl:=by
  intro h d' hd u;subst hd;simp only[lG]at h;rw[AI];split
  .rfl
  .rename_i hu;rw[St.get_eq];exact M_ S.sl 0 h u (by omega)
 fr:=by
  intro h;simp only[lG,bI,n6]at h;refine⟨h.1,fun u=>?_⟩;cases d with
  | none=>rw[St.get_eq];exact Hz S.sl h.2 u
  | some d=>
   rw[AI];split
   .rfl
   .rw[St.get_eq];exact Hz S.sl h.2 u
theorem aaV{h:Array Obj}{S:St}{g:aA}(v:Value):qe h S g (Bd v) v:=by
 unfold Bd;split
 .simp only[qe,az];exact⟨_,rfl,rfl⟩
 .simp only[qe,az];exact⟨_,rfl,rfl⟩
 .simp only[qe,az];exact⟨_,rfl,rfl⟩
 .simp only[qe]
 .simp only[qe]
theorem aj9{h:Array Obj}{S:St}{g:aA}{a:AV}{v:Value}(x:qe h S g a v):qe h S g a.flat v:=by
 cases a with
 | cG b=>simp only[qe]at x;subst x;simp only[AV.flat,qe,az];exact⟨_,rfl,rfl⟩
 | _=>exact x
theorem N5{h:Array Obj}{S:St}{g:aA}{a:Act}{H:BS}(st:aE h S g a.tmps H)(x:Operand):qe h S g (ev S x) (a.eval x):=by
 cases x with
 | tmp t=>exact aj9 (st.slots t)
 | const v=>exact aaV v
 | func f=>simp only[ev,qe,Act.eval];exact⟨[],rfl,by simp only[aN]⟩
 | global n=>simp only[ev,qe]
def EW:List AV->List Nat->List AV
 | sl,[]=>sl
 | sl,t::ts=>EW (sl.set t .undef) ts
theorem LJ:∀(ts:List Nat)(S:St),S.forget ts=⟨EW S.sl ts,S.rt⟩
 | [],_=>rfl
 | t::ts,S=>by simp only[St.forget,EW];rw[LJ ts,St.gi]
theorem PT(d:Nat)(x v:AV):∀(ts:List Nat)(sl:List AV),(EW (sl.set d x) ts).set d v=(EW sl ts).set d v
 | [],sl=>by simp[EW]
 | t::ts,sl=>by
  simp only[EW];by_cases e:d=t
  .subst e;rw[AG]
  .rw[List.set_comm _ _ e];exact PT d x v ts _
theorem aE.ot{h:Array Obj}{g:aA}{tmps:Array Value}{H:BS}:∀(ts:List Nat){S:St},aE h S g tmps H->aE h (S.forget ts) g tmps H
 | [],_,st=>st
 | t::ts,_,st=>aE.ot ts (st.forget t)
section
variable (C:Ctx) (D:Den C)
def n7(ops:Array Oper)(S:St)(o:Oper):Option Bool:=
 match o.guard with
 | none=>some true
 | some (j,b)=>
  match S.get (lq ops j) with
  | .skip=>some false
  | .cG c=>some (c == b)
  | .val .bool c=>some (c == b)
  | _=>none
noncomputable def gZ(hints:Hints)(id:Nat)(ops:Array Oper)(β:Bool)(S:St)(i:Nat)(o:Oper):Option (St×jI):=
 match n7 ops S o with
 | some true=>((iJ C D S (id * 256+i+1) (hints.share.contains (id,i)) o).dec β).map fun x=>(fin ops ⟨S.sl,x.2⟩ i o x.1,jG C ops S (id * 256+i+1) i o x.1 x.2)
 | some false=>some (fin ops S i o .skip,oH ops S (id * 256+i+1) i o)
 | none=>none
end
def vg(np:List Nat)(a a':Act):Prop:=∀t,t∈np->a'.tmps.getD t Go.undef=a.tmps.getD t Go.undef
theorem vg.refl(np:List Nat)(a:Act):vg np a a:=fun _ _=>rfl
theorem vg.trans{np:List Nat}{a b c:Act}(h:vg np a b)(k:vg np b c):vg np a c:=fun t ht=>(k t ht).trans (h t ht)
theorem vg.put{np:List Nat}{a:Act}{d:Option Nat}{v:Value}(h:∀d',d=some d'->d'∉np):vg np a (a.put d v):=by
 intro t ht;cases d with
 | none=>rfl
 | some d=>have:=h d rfl;simp only[Act.put,pg,FN];rw[af (by rintro rfl;exact this ht)]
section
variable {P:Program} {C:Ctx} {D:Den C} {S:St} {g:aA} {w:World} {a:Act} {np:List Nat}
variable (bn:iA P C) (dy:oh P C D) (st:aE w.heap S g a.tmps Nil)
include bn dy st
theorem Ns{ops:Array Oper}{i:Nat}{o:Oper}{rt':aO}{g':aA}{h':Array Obj}{v:AV}{val:Value}(st':aE h' ⟨(S.blank o.dst).sl,rt'⟩ g' a.tmps Nil)
  (x:qe h' ⟨(S.blank o.dst).sl,rt'⟩ g' v val):aE h' (fin ops ⟨S.sl,rt'⟩ i o v) g' (a.put o.dst val).tmps Nil:=by
 have s1:=aE.ot (sC ops i o) st';have e1:=LJ (sC ops i o) (⟨(S.blank o.dst).sl,rt'⟩:St);unfold fin uA;cases hd:o.dst with
 | none=>rw[hd]at s1;simp only[Act.put];exact s1
 | some d=>
  rw[hd]at s1 x e1;have x1:qe h' ((⟨(S.blank (some d)).sl,rt'⟩:St).forget (sC ops i o)) g' v val:=by have vq:=st';rw[hd]at vq;exact qe.gE vq (by rw[e1]) x
  have s2:=s1.tM d x1;simp only[Act.put];have e2:(((⟨(S.blank (some d)).sl,rt'⟩:St).forget (sC ops i o)).set d v)=(((⟨S.sl,rt'⟩:St).forget (sC ops i o)).set d v):=by rw[LJ,LJ];simp only[St.gi,St.blank,St.mk.injEq,iO];exact PT d _ _ _ _
  rw[e2]at s2;exact s2
theorem acV{ops:Array Oper}{o:Oper}{b:Bool}(hj:∀j c,o.guard=some (j,c)->∃oj t,ops[j]? = some oj/\oj.dst=some t)(hg:n7 ops S o=some b):Region.wanted o (yielded ops a.tmps)=b:=by
 unfold n7 at hg;unfold Region.wanted;cases hgd:o.guard with
 | none=>rw[hgd]at hg;simp only[aK]at hg;exact hg
 | some jc=>
  obtain⟨j,c⟩:=jc;rw[hgd]at hg;obtain⟨oj,t,h1,h2⟩:=hj j c hgd;have hd:lq ops j=t:=by simp[lq,h1,h2]
  have hs:=st.slots t;simp only at hg⊢;rw[hd]at hg;have hy:yielded ops a.tmps j=match a.tmps.getD t Go.undef with | .bool b=>some b | _=>none:=by
   simp only[yielded,h1,h2,dF,pg];cases hq:a.tmps[t]? with
   | none=>simp[Go.undef]
   | some q=>cases q<;>simp
  rw[hy];cases hS:S.get t with
  | skip=>rw[hS]at hg hs;simp only[qe]at hs;simp only[aK]at hg;subst hg;rw[hs];rfl
  | cG q=>rw[hS]at hg hs;simp only[qe]at hs;simp only[aK]at hg;subst hg;rw[hs];cases q<;>cases c<;>rfl
  | val t x=>
   rw[hS]at hg hs;cases t with
   | bool=>simp only[aK]at hg;subst hg;rw[AW hs];cases x<;>cases c<;>rfl
   | _=>simp at hg
  | _=>rw[hS]at hg;simp at hg
theorem Nd{Q:Exit->Act->World->Prop}{hints:Hints}{id:Nat}{ops:Array Oper}{i:Nat}{o:Oper}(hi:ops[i]? = some o)(hj:∀j c,o.guard=some (j,c)->∃oj t,ops[j]? = some oj/\oj.dst=some t)
  (hdf:a.defers=[]) (hnp:∀d,o.dst=some d->d∉np) (ht:∀β,∃x,gZ C D hints id ops β S i o=some x) {K:Act->World->Prop}
  (hK:∀β S' e a' w' g',gZ C D hints id ops β S i o=some (S',e)->aE w'.heap S' g' a'.tmps Nil->g'.cR g->kI g.L w w'->a'.defers=[]->vg np a a'->K a' w'):wpOp P ops Q i K a w:=by
 obtain⟨x0,hx0⟩:=ht true;unfold wpOp;simp only[hi];cases hg:n7 ops S o with
 | none=>unfold gZ at hx0;rw[hg]at hx0;simp at hx0
 | some b=>
  rw[acV bn dy st hj hg];cases b with
  | false=>
   simp only[fe,dV];have hst:gZ C D hints id ops true S i o=some (fin ops S i o .skip,oH ops S (id * 256+i+1) i o):=by unfold gZ;rw[hg]
   refine hK true _ _ (a.put o.dst Go.undef) w g hst ?_ (.refl g) (.refl _ _) ?_ (.put hnp)
   .have s0:aE w.heap ⟨(S.blank o.dst).sl,S.rt⟩ g a.tmps Nil:=by
     cases hd:o.dst with
     | none=>exact st
     | some d=>exact st.forget d
    exact Ns bn dy st s0 (by simp only[qe])
   .cases o.dst<;>exact hdf
  | true=>
   simp only[aX];refine .inl ?_;have s0:aE w.heap (S.blank o.dst) g a.tmps Nil:=by
    cases hd:o.dst with
    | none=>exact st
    | some d=>exact st.forget d
   have r6:(S.blank o.dst).rt=S.rt:=by cases o.dst<;>rfl
   have hρ:∀x,qe w.heap (S.blank o.dst) g (ev S x) (a.eval x):=fun x=>qe.gE st r6 (N5 st x);have hstep:∀β,gZ C D hints id ops β S i o=((iJ C D S (id * 256+i+1) (hints.share.contains (id,i)) o).dec β).map fun x=>(fin ops ⟨S.sl,x.2⟩ i o x.1,jG C ops S (id * 256+i+1) i o x.1 x.2):=by intro β;unfold gZ;rw[hg]
   have htot:bZ (aV C D (lG S.sl o.dst (id * 256+i+1)) (ev S) (S.blank o.dst).rt (id * 256+i+1) (hints.share.contains (id,i)) o):=by intro β;obtain⟨x,hx⟩:=ht β;rw[hstep]at hx;simp only[fo]at hx;obtain⟨y,hy,_⟩:=hx;rw[r6];exact⟨y,hy⟩
   have hres:=acy bn dy s0 hρ (ake S o.dst (id * 256+i+1)) htot;have hout:∀val w',rS (S.blank o.dst) g w a.tmps (aV C D (lG S.sl o.dst (id * 256+i+1)) (ev S) (S.blank o.dst).rt (id * 256+i+1) (hints.share.contains (id,i)) o) val w'->K (a.put o.dst val) w':=by rintro val w' ⟨β,v,rt',hd,g',p1,p2,p3,p4⟩;rw[r6]at hd;refine hK β (fin ops ⟨S.sl,rt'⟩ i o v) _ _ w' g' (by rw[hstep];unfold iJ;rw[hd];rfl) (Ns bn dy st p1 p2) p3 p4 ?_ (.put hnp);cases o.dst<;>exact hdf
   unfold Oper.wp;revert hres;generalize (execOp a.eval o).run P w=r;intro hres;unfold fB at hres;split at hres
   .exact hout _ _ hres
   .exact hout _ _ hres
   .refine Calls.mono hres ?_;rintro e w'' he;cases e with
    | returned val=>exact hout _ _ he
    | panicked _=>exact he.elim
    | outgrown=>exact he.elim
   .exact hres.elim
end
end
section
variable (C:Ctx) (D:Den C)
noncomputable def eM(hints:Hints)(id:Nat)(ops:Array Oper):List Bool->List (Nat×Oper)->St->Option (St×Log)
 | _,[],S=>some (S,[])
 | βs,(i,o)::l,S=>(gZ C D hints id ops (βs.headD true) S i o).bind fun x=>(eM hints id ops βs.tail l x.1).map fun y=>(y.1,x.2::y.2)
end
structure fD (S T:St):Prop where
 rt:T.rt=S.rt
 len:T.sl.length=S.sl.length
 get:∀t,T.get t=S.get t\/∃b,S.get t=.cG b/\T.get t=.val .bool b
theorem fD.refl(S:St):fD S S:=⟨rfl,rfl,fun _=>.inl rfl⟩
theorem fD.flat{S T:St}(h:fD S T)(t:Nat):(T.get t).flat=(S.get t).flat:=by
 rcases h.get t with e | ⟨b,e1,e2⟩
 .rw[e]
 .rw[e1,e2];rfl
theorem fD.ev{S T:St}(h:fD S T):ev T=ev S:=by
 funext x;cases x with
 | tmp t=>exact h.flat t
 | _=>rfl
theorem fD.roots{S T:St}(h:fD S T)(t:Nat):(T.get t).roots=(S.get t).roots:=by
 rcases h.get t with e | ⟨b,e1,e2⟩
 .rw[e]
 .rw[e1,e2];rfl
theorem fD.stamps{S T:St}(h:fD S T)(t:Nat):(T.get t).stamps=(S.get t).stamps:=by
 rcases h.get t with e | ⟨b,e1,e2⟩
 .rw[e]
 .rw[e1,e2];rfl
theorem PI(s:Nat):∀(l l2:List AV),l2.length=l.length->(∀k,(l2.getD k .undef).aQ s (s+1)=(l.getD k .undef).aQ s (s+1))->IP s l2=IP s l
 | [],[],_,_=>rfl
 | [],_::_,h,_=>by simp at h
 | _::_,[],h,_=>by simp at h
 | v::l,u::l2,h,hk=>by
  have h0:=hk 0;simp only[uC]at h0;simp only[IP];rw[h0,PI s l l2 (by simpa using h) (fun k=>by have:=hk (k+1);simpa [List.getD] using this)]
theorem Mv{sl DG:List AV}(d:Option Nat)(s:Nat)(hl:DG.length=sl.length)(hr:∀d',d=some d'->∀k,k≠d'->(DG.getD k .undef).roots.contains d'=(sl.getD k .undef).roots.contains d')
  (hp:∀d',d=some d'->∀k,k≠d'->(DG.getD k .undef).gH d'=(sl.getD k .undef).gH d') (hs:∀k,(DG.getD k .undef).aQ s (s+1)=(sl.getD k .undef).aQ s (s+1)):lG DG d s=lG sl d s:=by
 have hf:=PI s sl DG hl hs;cases d with
 | none=>simp only[lG,hf]
 | some d=>
  have hm:∀(l l2:List AV)(i:Nat),l2.length=l.length->(∀k,i+k≠d->(l2.getD k .undef).roots.contains d=(l.getD k .undef).roots.contains d)->sq d i l2=sq d i l:=by
   intro l
   induction l with
   | nil=>intro l2 i h _;cases l2 with
    | nil=>rfl
    | cons _ _=>simp at h
   | cons v l ih=>
    intro l2 i h hk;cases l2 with
    | nil=>simp at h
    | cons u l2=>
     simp only[sq];rw[ih l2 (i+1) (by simpa using h) (fun k ua=>by have:=hk (k+1) (by omega);simpa [List.getD] using this)];by_cases e:i=d
     .subst e;simp
     .have:=hk 0 (by omega);simp only[uC]at this;rw[this]
  have ue:∀(l l2:List AV)(i:Nat),l2.length=l.length->(∀k,i+k≠d->(l2.getD k .undef).gH d=(l.getD k .undef).gH d)->E0 d i l2=E0 d i l:=by
   intro l
   induction l with
   | nil=>intro l2 i h _;cases l2 with
    | nil=>rfl
    | cons _ _=>simp at h
   | cons v l ih=>
    intro l2 i h hk;cases l2 with
    | nil=>simp at h
    | cons u l2=>
     simp only[E0];rw[ih l2 (i+1) (by simpa using h) (fun k ua=>by have:=hk (k+1) (by omega);simpa [List.getD] using this)];by_cases e:i=d
     .subst e;simp
     .have:=hk 0 (by omega);simp only[uC]at this;rw[this]
  simp only[lG,hf];rw[hm sl DG 0 hl (fun k h=>hr d rfl k (by omega)),ue sl DG 0 hl (fun k h=>hp d rfl k (by omega))]
theorem fD.asks{S T:St}(h:fD S T)(d:Option Nat)(s:Nat):lG T.sl d s=lG S.sl d s:=by
 refine Mv d s h.len (fun d' _ k _=>?_) (fun d' _ k _=>?_) (fun k=>?_)
 .have:=h.roots k;simp only[St.get_eq]at this;rw[this]
 .rcases h.get k with e | ⟨b,e1,e2⟩
  .simp only[St.get_eq]at e;rw[e]
  .simp only[St.get_eq]at e1 e2;rw[e1,e2];rfl
 .rcases h.get k with e | ⟨b,e1,e2⟩
  .simp only[St.get_eq]at e;rw[e]
  .simp only[St.get_eq]at e1 e2;rw[e1,e2];rfl
theorem fD.set{S T:St}(h:fD S T)(t:Nat)(v:AV):fD (S.set t v) (T.set t v) where
 rt:=h.rt
 len:=by simp[St.gi,h.len]
 get:=by
  intro u;rw[St.gr,St.gr,h.len];by_cases e:u=t/\t<S.sl.length
  .rw[aj e,aj e];exact .inl rfl
  .rw[af e,af e];exact h.get u
theorem fD.forget{S T:St}(h:fD S T):∀ts:List Nat,fD (S.forget ts) (T.forget ts):=by
 intro ts
 induction ts generalizing S T with
 | nil=>exact h
 | cons t ts ih=>exact ih (h.set t .undef)
theorem fD.I3{S T:St}(h:fD S T)(rt:aO):fD ⟨S.sl,rt⟩ ⟨T.sl,rt⟩:=⟨rfl,h.len,h.get⟩
theorem fD.fin{S T:St}(h:fD S T)(ops:Array Oper)(i:Nat)(o:Oper)(v:AV):fD (fin ops S i o v) (fin ops T i o v):=by
 unfold V.fin uA;cases o.dst with
 | none=>exact h.forget _
 | some d=>exact(h.forget _).set d v
theorem fD.dS{S T:St}(h:fD S T):∀ts,dS T ts=dS S ts
 | []=>rfl
 | t::ts=>by simp only[V.dS];rw[h.roots,fD.dS h ts]
theorem fD.cS{S T:St}(h:fD S T):∀ts,cS T ts=cS S ts
 | []=>rfl
 | t::ts=>by simp only[V.cS];rw[h.stamps,fD.cS h ts]
section
variable {C:Ctx} {D:Den C}
theorem fD.iJ{S T:St}(h:fD S T)(site:Nat)(hint:Bool)(o:Oper):iJ C D T site hint o=iJ C D S site hint o:=by unfold V.iJ;rw[h.asks,h.ev,h.rt]
theorem fD.gU{S T:St}(h:fD S T)(ops:Array Oper)(site i:Nat)(o:Oper)(v:AV)(rt':aO):jG C ops T site i o v rt'=jG C ops S site i o v rt':=by unfold jG uy;rw[h.ev,h.dS,h.cS,h.rt]
theorem fD.skip{S T:St}(h:fD S T)(ops:Array Oper)(site i:Nat)(o:Oper):oH ops T site i o=oH ops S site i o:=by unfold oH;rw[h.dS,h.cS]
theorem Nc{hints:Hints}{id:Nat}{ops:Array Oper}{S T:St}(h:fD S T){i:Nat}{o:Oper}{β:Bool}(hg:n7 ops T o=some true){x:AV×aO}
  (hd:(iJ C D S (id * 256+i+1) (hints.share.contains (id,i)) o).dec β=some x) :
  gZ C D hints id ops β T i o=some (fin ops ⟨T.sl,x.2⟩ i o x.1,jG C ops S (id * 256+i+1) i o x.1 x.2)/\fD (fin ops ⟨S.sl,x.2⟩ i o x.1) (fin ops ⟨T.sl,x.2⟩ i o x.1):=by
 refine⟨?_,(h.I3 x.2).fin ops i o x.1⟩;unfold gZ;rw[hg,h.iJ,hd,<-h.gU];rfl
theorem Rz{hints:Hints}{id:Nat}{ops:Array Oper}{S T:St}(h:fD S T){i:Nat}{o:Oper}{β:Bool}(hg:n7 ops T o=some false) :
  gZ C D hints id ops β T i o=some (fin ops T i o .skip,oH ops S (id * 256+i+1) i o)/\fD (fin ops S i o .skip) (fin ops T i o .skip):=by
 refine⟨?_,h.fin ops i o .skip⟩;unfold gZ;rw[hg,<-h.skip]
end
section
variable {P:Program} {C:Ctx} {D:Den C} (bn:iA P C) (dy:oh P C D)
include bn dy
theorem ND{np:List Nat}{Q:Exit->Act->World->Prop}{hints:Hints}{id:Nat}{ops:Array Oper}(hj:∀(i:Nat) o j c,ops[i]? = some o->o.guard=some (j,c)->∃oj t,ops[j]? = some oj/\oj.dst=some t) :
  ∀(l:List (Nat×Oper))(S:St)(g:aA)(a:Act)(w:World),(∀x∈l,ops[x.1]? = some x.2)->(∀x∈l,∀d,x.2.dst=some d->d∉np)->aE w.heap S g a.tmps Nil->a.defers=[]->(∀βs,∃x,eM C D hints id ops βs l S=some x)->
   (∀βs S' lg a' w' g',eM C D hints id ops βs l S=some (S',lg)->aE w'.heap S' g' a'.tmps Nil->g'.cR g->kI g.L w w'->a'.defers=[]->vg np a a'->Q .normal a' w')->wpOps P ops Q (l.map (·.1)) a w
 | [],S,g,a,w,hl,hnp,st,hdf,ht,hQ=>by
  simp only[fZ,wpOps];exact hQ [] S [] a w g rfl st (.refl g) (.refl _ _) hdf (.refl _ _)
 | (i,o)::l,S,g,a,w,hl,hnp,st,hdf,ht,hQ=>by
  simp only[cv];rw[wpOps_cons];have hi:=hl (i,o) e7;refine Nd bn dy st (hints:=hints) (id:=id) hi (fun j c=>hj i o j c hi) hdf (hnp (i,o) e7) (fun β=>?_) ?_
  .obtain⟨x,hx⟩:=ht [β];simp only[eM,sw,cL]at hx;obtain⟨y,hy,_⟩:=hx;exact⟨y,hy⟩
  .intro β S' e a' w' g' hs st' iI hfr iG ox;refine ND (hints:=hints) (id:=id) hj l S' g' a' w' (fun x hx=>hl x (cF _ hx)) (fun x hx=>hnp x (cF _ hx)) st' iG (fun βs=>?_) ?_
   .obtain⟨x,hx⟩:=ht (β::βs);simp only[eM,sw,Ga,cL]at hx;obtain⟨y,hy,hx⟩:=hx;rw[hs]at hy;simp only[aK]at hy;subst hy;simp only[fo]at hx;obtain⟨z,hz,_⟩:=hx;exact⟨z,hz⟩
   .intro βs wv lg I6 w'' tR hr vq w_ pY wN wR;refine hQ (β::βs) wv (e::lg) I6 w'' tR ?_ vq (iI.trans w_) (hfr.trans (by rw[iI.2.1]at pY;exact pY)) wN (ox.trans wR);simp only[eM,sw,Ga,hs,dF,hr,d7]
end
end Go.V
namespace Go.V
noncomputable section
open Go
section
variable {C:Ctx} {D:Den C}
theorem BX{α:Type}{x:Option α}{f:α->AV}{S:aO}{β:Bool}{v:AV}{rt':aO}(h:(Tr.of (x.map fun v=>(f v,S))).dec β=some (v,rt')):rt'=S:=by
 cases x with
 | none=>simp[Tr.of,Tr.dec]at h
 | some y=>simp only[d7,Tr.of,Tr.dec,aK,aY]at h;exact h.2.symm
theorem adm{A:bX}{ρ:Operand->AV}{S:aO}{site:Nat}{hint:Bool}{o:Oper}(hT:pI o=true){β:Bool}{v:AV}{rt':aO}(h:(aV C D A ρ S site hint o).dec β=some (v,rt')):rt'=S:=by
 cases ho:o.op with
 | move x=>simp only[aV,ho,Tr.dec,aK,aY]at h;exact h.2.symm
 | pick c a b=>
  simp only[aV,ho]at h;split at h
  .rename_i c' _;cases c'<;>(simp only[Tr.dec,aK,aY]at h;exact h.2.symm)
  .simp[Tr.dec]at h
 | unOp op t x=>
  simp only[aV,ho]at h;split at h
  .simp only[Tr.dec,aK,aY]at h;exact h.2.symm
  .simp only[Tr.dec,aK,aY]at h;exact h.2.symm
  .simp[Tr.dec]at h
 | fieldAddr t x f=>simp only[aV,ho]at h;exact BX (f:=fun v=>v) h
 | field t x f=>
  simp only[aV,ho]at h;split at h
  .split at h
   .split at h
    .simp only[Tr.dec,aK,aY]at h;exact h.2.symm
    .simp[Tr.dec]at h
   .simp[Tr.dec]at h
  .simp[Tr.dec]at h
 | load t x=>
  simp only[aV,ho]at h;split at h
  .exact BX (f:=fun v=>v) h
  .simp[Tr.dec]at h
 | extract x i=>simp only[aV,ho]at h;exact BX (f:=fun v=>v) h
 | binOp op t x y t2=>
  simp only[aV,ho]at h;split at h
  .split at h
   .simp only[Tr.dec,aK,aY]at h;exact h.2.symm
   .simp only[Tr.dec,aK,aY]at h;exact h.2.symm
   .simp[Tr.dec]at h
  .exact(Q9 (T:=kJ (C.ty t) op (ρ x) (ρ y)) (S:=S) (β:=β) (v:=v) (rt:=rt') (by unfold BZ;exact h)).2
 | call c=>
  cases hc:c.callee with
  | builtin b=>
   cases b with
   | len=>
    simp only[aV,ho,hc]at h;split at h<;>first
     | (simp only[Tr.dec,aK,aY]at h;exact h.2.symm)
     | exact BX (f:=fun n=>AV.val (Ty.int IntKind.i64) n) h
     | (exfalso;contradiction)
     | (exfalso;revert h;simp only[Tr.dec];intro h;contradiction)
   | _=>simp[pI,ho,hc]at hT
  | _=>simp[pI,ho,hc]at hT
 | _=>simp[pI,ho]at hT
theorem abn{A:bX}{ρ:Operand->AV}{S:aO}{site:Nat}{h1 h2:Bool}{o:Oper}(hT:pI o=true):aV C D A ρ S site h1 o=aV C D A ρ S site h2 o:=by
  cases ho:o.op with
  | call c=>
    cases hc:c.callee with
    | builtin b=>
      cases b with
      | len=>
        simp only[aV,ho,hc];generalize List.map ρ c.args.toList=l1;generalize List.map C.ty c.argTypes.toList=l2;rcases l1 with _ | ⟨x,_ | ⟨y,l⟩⟩
        . rfl
        . rcases l2 with _ | ⟨t,l2⟩
          . cases x with
            | val ty s=>cases ty<;>rfl
            | _=>rfl
          . cases x with
            | val ty s=>cases ty<;>cases t<;>rfl
            | _=>cases t<;>rfl
        . rcases l with _ | ⟨z,l⟩<;>rcases l2 with _ | ⟨t,_ | ⟨t',l2⟩⟩<;>first
            | rfl
            | (cases t<;>first | rfl | (cases t'<;>rfl))
            | (cases x with
               | val ty s=>cases ty<;>first | rfl | (cases t<;>first | rfl | (cases t'<;>rfl))
               | _=>first | rfl | (cases t<;>first | rfl | (cases t'<;>rfl)))
      | _=>simp[pI,ho,hc]at hT
    | _=>simp[pI,ho,hc]at hT
  | _=>first | (simp[pI,ho]at hT;done) | simp only[aV,ho]
theorem GM:∀(ts:List Nat)(S:St)(u:Nat),(S.forget ts).get u=if u∈ts then .undef else S.get u
 | [],S,u=>by simp[St.forget]
 | t::ts,S,u=>by
  simp only[St.forget,GM ts,bh];have:=AI S t u;simp only[St.blank]at this;rw[this];by_cases h1:u∈ts
  .simp[h1]
  .by_cases h2:u=t<;>simp[h1,h2]
theorem GN(ts:List Nat)(S:St):(S.forget ts).sl.length=S.sl.length:=by
 induction ts generalizing S with
 | nil=>rfl
 | cons t ts ih=>simp only[St.forget];rw[ih];simp[St.gi]
theorem QM(ts:List Nat)(S:St):(S.forget ts).rt=S.rt:=by rw[LJ]
theorem zS(ops:Array Oper)(S:St)(i:Nat)(o:Oper)(v:AV)(u:Nat) :
  (fin ops S i o v).get u=if o.dst=some u/\u<S.sl.length then v else if u∈sC ops i o then .undef else S.get u:=by
 unfold fin uA;cases hd:o.dst with
 | none=>simp[GM]
 | some d=>
  rw[St.gr,GM,GN];by_cases e:u=d
  .subst e;simp
  .have:¬ d=u:=fun h=>e h.symm;simp[e,this]
theorem oJ(ops:Array Oper)(S:St)(i:Nat)(o:Oper)(v:AV):(fin ops S i o v).rt=S.rt:=by
 unfold fin uA;cases o.dst with
 | none=>exact QM _ _
 | some d=>exact QM _ _
theorem Jw(ops:Array Oper)(S:St)(i:Nat)(o:Oper)(v:AV):(fin ops S i o v).sl.length=S.sl.length:=by
 unfold fin uA;cases o.dst with
 | none=>exact GN _ _
 | some d=>simp only[St.gi,b8];exact GN _ _
theorem Gk{hints:Hints}{id:Nat}{ops:Array Oper}{β:Bool}{S S':St}{i:Nat}{o:Oper}{e:jI}(h:gZ C D hints id ops β S i o=some (S',e)){u:Nat}(hu:u∉jE ops i o) :
  S'.get u=S.get u/\S'.sl.length=S.sl.length/\(pI o=true->S'.rt=S.rt):=by
 have hn:¬ (o.dst=some u):=fun h=>hu (by simp[jE,h]);have hn2:u∉sC ops i o:=fun h=>hu (by simp[jE,h]);unfold gZ at h;split at h
 .simp only[fo,aY]at h;obtain⟨x,hx,rfl,_⟩:=h;refine⟨?_,?_,fun ht=>?_⟩
  .rw[zS,af (fun h=>hn h.1),af hn2];rfl
  .rw[Jw]
  .rw[oJ];exact adm ht hx
 .simp only[aK,aY]at h;obtain⟨rfl,_⟩:=h;refine⟨?_,?_,fun ht=>?_⟩
  .rw[zS,af (fun h=>hn h.1),af hn2]
  .rw[Jw]
  .rw[oJ]
 .simp at h
theorem Qz{hints:Hints}{id:Nat}{ops:Array Oper}{Dd:List Nat}:∀(l:List (Nat×Oper))(βs:List Bool)(S S':St)(lg:Log),eM C D hints id ops βs l S=some (S',lg)->
  (∀x∈l,pI x.2=true/\∀u∈jE ops x.1 x.2,u∈Dd)->(∀u,u∉Dd->S'.get u=S.get u)/\S'.rt=S.rt/\S'.sl.length=S.sl.length
 | [],βs,S,S',lg,h,_=>by
  simp only[eM,aK,aY]at h;obtain⟨rfl,_⟩:=h;exact⟨fun _ _=>rfl,rfl,rfl⟩
 | (i,o)::l,βs,S,S',lg,h,hl=>by
  simp only[eM,cL,fo,aY]at h;obtain⟨⟨S1,e⟩,hs,⟨S2,Jj⟩,hr,rfl,_⟩:=h;obtain⟨ht,ho⟩:=hl (i,o) e7;obtain⟨k1,k2,k3⟩:=Qz l βs.tail S1 S2 Jj hr (fun x hx=>hl x (cF _ hx));have hex:∃u,u∉jE ops i o:=by
   refine⟨(jE ops i o).foldr max 0+1,fun h=>?_⟩;have:∀(l:List Nat)(u:Nat),u∈l->u<=l.foldr max 0:=by
    intro l
    induction l with
    | nil=>intro u h;simp at h
    | cons a l ih=>
     intro u h;simp only[F6];rcases bh.1 h with rfl | h
     .exact Nat.le_max_left _ _
     .exact nJ (ih u h) (Nat.le_max_right _ _)
   have:=this _ _ h;omega
  obtain⟨u0,hu0⟩:=hex;obtain⟨_,f2,f3⟩:=Gk hs hu0;exact⟨fun u hu=>(k1 u hu).trans (Gk hs (fun h=>hu (ho u h))).1,k2.trans (f3 ht),k3.trans f2⟩
theorem Gj{hints:Hints}{id:Nat}{ops:Array Oper}:∀(l1 l2:List (Nat×Oper))(βs:List Bool)(S:St),
  eM C D hints id ops βs (l1++l2) S=(eM C D hints id ops βs l1 S).bind fun x=>(eM C D hints id ops (βs.drop l1.length) l2 x.1).map fun y=>(y.1,x.2++y.2)
 | [],l2,βs,S=>by simp[eM]
 | (i,o)::l1,l2,βs,S=>by
  simp only[fH,eM];cases hs:gZ C D hints id ops (βs.headD true) S i o with
  | none=>simp
  | some x=>
   simp only[dF];rw[Gj l1 l2 βs.tail x.1];cases hr:eM C D hints id ops βs.tail l1 x.1 with
   | none=>simp
   | some y=>
    simp only[dF,d7,ct];have:βs.tail.drop l1.length=βs.drop (l1.length+1):=by cases βs<;>simp
    rw[this];cases eM C D hints id ops (βs.drop (l1.length+1)) l2 y.1<;>simp
theorem aj7{S:St}{x:Operand}{b:Bool}(h:V.asBool (ev S x)=some b):ev S x=.val .bool b:=by
 cases x with
 | tmp t=>
  simp only[ev]at h⊢;cases hS:S.get t with
  | val t y=>rw[hS]at h;cases t<;>simp[AV.flat,V.asBool]at h;subst h;rfl
  | cG c=>rw[hS]at h;simp[AV.flat,V.asBool]at h;subst h;rfl
  | _=>rw[hS]at h;simp[AV.flat,V.asBool]at h
 | const v=>simp only[ev]at h⊢;unfold Bd at h⊢;split at h<;>simp[V.asBool]at h;subst h;rfl
 | _=>simp[ev,V.asBool]at h
def NZ(C:Ctx)(D:Den C)(hints:Hints)(id:Nat)(ops:Array Oper)(qY:List (Nat×Oper)->St->Log->Option (St×Log)):Prop:=
 ∀l S lg S1 gG,qY l S lg=some (S1,gG)->(∀x∈l,pI x.2=true)->∀T,fD S T->∀βs,∃T1 gn,eM C D hints id ops βs l T=some (T1,gn)/\fD S1 T1/\(∀e∈gn,e∈gG)/\(∀e∈lg,e∈gG)
theorem Mj{t:Nat}:∀(l:List (Nat×Oper)){seg:List (Nat×Oper)}{x:Nat×Oper}{rest:List (Nat×Oper)},LW t l=some (seg,x,rest)->l=seg++x::rest/\Il t x.2=true
 | [],_,_,_,h=>by simp[LW]at h
 | y::l,seg,x,rest,h=>by
  simp only[LW]at h;split at h
  .rename_i hp;simp only[aK,aY]at h;obtain⟨rfl,rfl,rfl⟩:=h;exact⟨rfl,hp⟩
  .split at h
   .rename_i z hz;obtain⟨z1,z2,z3⟩:=z;simp only[aK,aY]at h;obtain⟨rfl,rfl,rfl⟩:=h;obtain⟨e,hp⟩:=Mj l hz;exact⟨by rw[e];rfl,hp⟩
   .simp at h
theorem M1{hints:Hints}{id:Nat}{ops:Array Oper}{qY:List (Nat×Oper)->St->Log->Option (St×Log)}(Xj:NZ C D hints id ops qY){t:Nat}{c:Bool}{l rest:List (Nat×Oper)}{S S':St}{lg EC:Log}
  (h:BA C ops id qY t c l S lg=some (S',EC,rest)) (Kr:S.get t=.val .bool c) {T:St} (hs:fD S T) (βs:List Bool) :
  ∃seg i o T' gn,l=seg++(i,o)::rest/\eM C D hints id ops βs (seg++[(i,o)]) T=some (T',gn)/\fD S' T'/\(∀e∈gn,e∈EC)/\(∀e∈lg,e∈EC)/\pI o=true:=by
 unfold BA at h;split at h
 .rename_i seg i o rest' hsp;obtain⟨hl,hpick⟩:=Mj l hsp;simp only at h;split at h
  .rename_i hc;simp only[bI,qO,kr]at hc;obtain⟨⟨jK,g7⟩,rJ⟩:=hc;split at h
   .rename_i cc a b S1 l1 S2 l2 hop h1 h2;split at h
    .rename_i x y hx hy;simp only[aK,aY]at h;obtain⟨rfl,rfl,rfl⟩:=h;have vF:T.get t=.val .bool c:=by
      rcases hs.get t with e | ⟨b,e1,_⟩
      .rw[e];exact Kr
      .rw[Kr]at e1;simp at e1
     have htl:t<S.sl.length:=by
      rcases Cc t S.sl.length with h | h
      .exact h
      .simp only[St.get_eq,List.getD]at Kr;rw[pn h]at Kr;simp at Kr
     have p_:fD (S.set t (.cG c)) T:=by
      refine⟨hs.rt,by simp[St.gi,hs.len],fun u=>?_⟩;rw[St.gr];by_cases e:u=t
      .subst e;rw[aj ⟨rfl,htl⟩];exact .inr ⟨c,rfl,vF⟩
      .rw[af (fun h=>e h.1)];exact hs.get u
     have mc:cc=.tmp t:=by
      unfold Il at hpick;rw[hop]at hpick;split at hpick
      .rename_i c' _ _ he;simp only[Op.pick.injEq]at he;rw[he.1];rw[mP hpick]
      .simp at hpick
     have Lh:∀x∈seg,pI x.2=true/\∀u∈jE ops x.1 x.2,u∈sC ops i o:=by intro z hz;have:=jK z hz;exact⟨this.1,fun u hu=>by have:=this.2 u hu;simpa using this⟩
     -- yZ way alQ is gone
     have key:∀(Sc:St)(lc:Log),qY seg (S.set t (.cG c)) []=some (Sc,lc)->∀z,V.asBool (ev Sc (if c then a else b))=some z->
       ∃T' gn,eM C D hints id ops βs (seg++[(i,o)]) T=some (T',gn)/\fD (fin ops S i o (.val .bool z)) T'/\∀e∈gn,e∈lc\/e=jG C ops Sc (id * 256+i+1) i o (.val .bool z) Sc.rt:=by
      intro Sc lc hr z hz;obtain⟨T1,gn,k1,k2,k3,_⟩:=Xj seg _ _ Sc lc hr (fun x hx=>(Lh x hx).1) T p_ βs;obtain⟨f1,f2,f3⟩:=Qz seg βs T T1 gn k1 Lh;have htD:t∉sC ops i o:=by simpa using rJ
      have Wo:T1.get t=.val .bool c:=by rw[f1 t htD];exact vF
      have hg:n7 ops T1 o=some true:=by
       unfold NR at g7;unfold n7;split at g7
       .rename_i hgd;rw[hgd]
       .rename_i j b' hgd;simp only[bI,kr]at g7;rw[hgd];simp only;have hjD:lq ops j∉sC ops i o:=by simpa using g7.1
        rw[f1 _ hjD];have h5:=g7.2;split at h5
        .rename_i c' hS;rcases hs.get (lq ops j) with e | ⟨b2,e1,e2⟩
         .rw[e,hS];simp only[aK];exact h5
         .rw[e2];rw[hS]at e1;simp only[AV.cG.injEq]at e1;subst e1;simp only[aK];exact h5
        .simp at h5
      have WH:ev T1 (if c then a else b)=.val .bool z:=by rw[k2.ev];exact aj7 hz
      have WD:(iJ C D T1 (id * 256+i+1) (hints.share.contains (id,i)) o).dec ((βs.drop seg.length).headD true)=some (.val .bool z,T1.rt):=by unfold iJ;simp only[aV,hop,mc,ev,Wo,AV.flat,V.asBool];cases c<;>simp only[Tr.dec,aK,aY,iO]<;>exact WH
      have hstep:gZ C D hints id ops ((βs.drop seg.length).headD true) T1 i o=some (fin ops T1 i o (.val .bool z),jG C ops Sc (id * 256+i+1) i o (.val .bool z) Sc.rt):=by unfold gZ;rw[hg,WD,<-k2.gU,<-k2.rt];rfl
      refine⟨fin ops T1 i o (.val .bool z),gn++[jG C ops Sc (id * 256+i+1) i o (.val .bool z) Sc.rt],?_,?_,?_⟩
      .rw[Gj,k1];simp only[dF,eM,hstep,d7]
      .refine⟨?_,?_,fun u=>?_⟩
       .rw[oJ,oJ,f2,hs.rt]
       .rw[Jw,Jw,f3,hs.len]
       .rw[zS,zS,f3,hs.len];by_cases h1:o.dst=some u/\u<S.sl.length
        .rw[aj h1,aj h1];exact .inl rfl
        .rw[af h1,af h1];by_cases h2:u∈sC ops i o
         .rw[aj h2,aj h2];exact .inl rfl
         .rw[af h2,af h2,f1 u h2];exact hs.get u
      .intro e he;rcases bN.1 he with he | he
       .exact .inl (k3 e he)
       .exact .inr (by simpa using he)
     have htot:pI o=true:=by unfold pI;rw[hop]
     cases c with
     | true=>
      obtain⟨T',gn,k1,k2,k3⟩:=key S1 l1 h1 x (by simpa using hx);refine⟨seg,i,o,T',gn,hl,k1,k2,fun e he=>?_,fun e he=>?_,htot⟩
      .rcases k3 e he with h | rfl
       .simp[h]
       .simp
      .simp[he]
     | false=>
      obtain⟨T',gn,k1,k2,k3⟩:=key S2 l2 h2 y (by simpa using hy);refine⟨seg,i,o,T',gn,hl,k1,k2,fun e he=>?_,fun e he=>?_,htot⟩
      .rcases k3 e he with h | rfl
       .simp[h]
       .simp
      .simp[he]
    .simp at h
   .simp at h
  .simp at h
 .simp at h
end
end
section
variable {C:Ctx} {D:Den C}
theorem Ro{hints:Hints}{id:Nat}{ops:Array Oper}{seg rest:List (Nat×Oper)}{x:Nat×Oper}{T T':St}{gn:Log}{βs:List Bool}
  (h:eM C D hints id ops βs (seg++[x]) T=some (T',gn)) :
  eM C D hints id ops βs (seg++x::rest) T=(eM C D hints id ops (βs.drop (seg.length+1)) rest T').map fun y=>(y.1,gn++y.2):=by
 have e:seg++x::rest=(seg++[x])++rest:=by simp
 rw[e,Gj,h];simp only[dF,cT,ct,gz]
theorem GY{ops:Array Oper}{S T:St}(h:fD S T){o:Oper}{j:Nat}{b c:Bool}(hg:o.guard=some (j,b))(hS:S.get (lq ops j)=.cG c\/S.get (lq ops j)=.val .bool c) :
  n7 ops T o=some (c == b):=by
 unfold n7;rw[hg];simp only;rcases hS with hS | hS
 .rcases h.get (lq ops j) with e | ⟨c',e1,e2⟩
  .rw[e,hS]
  .rw[hS]at e1;simp only[AV.cG.injEq]at e1;subst e1;rw[e2]
 .rcases h.get (lq ops j) with e | ⟨c',e1,e2⟩
  .rw[e,hS]
  .rw[hS]at e1;simp at e1
theorem Qp{ops:Array Oper}{S T:St}(h:fD S T){o:Oper}{j:Nat}{b:Bool}(hg:o.guard=some (j,b))(hS:S.get (lq ops j)=.skip):n7 ops T o=some false:=by
 unfold n7;rw[hg];simp only;rcases h.get (lq ops j) with e | ⟨c',e1,e2⟩
 .rw[e,hS]
 .rw[hS]at e1;simp at e1
theorem Q_{ops:Array Oper}{T:St}{o:Oper}(hg:o.guard=none):n7 ops T o=some true:=by unfold n7;rw[hg]
theorem xO{hints:Hints}{id:Nat}{ops:Array Oper}:∀n,NZ C D hints id ops (mK C D id ops n)
 | 0=>by intro l S lg S1 gG h;simp[mK]at h
 | n+1=>by
  intro l S lg S1 gG h hl T hs βs;cases l with
  | nil=>simp only[mK,aK,aY]at h;obtain⟨rfl,rfl⟩:=h;exact⟨T,[],rfl,hs,by simp,fun e he=>he⟩
  | cons x rest=>
   obtain⟨i,o⟩:=x;have htot:=hl (i,o) e7;have fR:∀x∈rest,pI x.2=true:=fun x hx=>hl x (cF _ hx);have rK:n7 ops T o=some true->(match iJ C D S (id * 256+i+1) false o with
     | .ret (v,rt')=>mK C D id ops n rest (fin ops ⟨S.sl,rt'⟩ i o v) (jG C ops S (id * 256+i+1) i o v rt'::lg)
     | _=>none)=some (S1,gG)->∃T1 gn,eM C D hints id ops βs ((i,o)::rest) T=some (T1,gn)/\fD S1 T1/\(∀e∈gn,e∈gG)/\(∀e∈lg,e∈gG):=by
    intro hg h;split at h
    .rename_i v rt' hop;have Er:(iJ C D S (id * 256+i+1) (hints.share.contains (id,i)) o).dec (βs.headD true)=some (v,rt'):=by unfold iJ at hop⊢;rw[abn htot (h2:=false),hop];rfl
     obtain⟨k1,k2⟩:=Nc (hints:=hints) (id:=id) hs hg Er;obtain⟨T1,gn,q1,q2,q3,q4⟩:=xO (hints:=hints) n rest _ _ S1 gG h fR _ k2 βs.tail;refine⟨T1,jG C ops S (id * 256+i+1) i o v rt'::gn,?_,q2,?_,fun e he=>q4 e (cF _ he)⟩
     .simp only[eM,k1,dF,q1,d7]
     .intro e he;rcases bh.1 he with rfl | he
      .exact q4 _ e7
      .exact q3 e he
    .simp at h
   have m9:n7 ops T o=some false->mK C D id ops n rest (fin ops S i o .skip) (oH ops S (id * 256+i+1) i o::lg)=some (S1,gG)->
     ∃T1 gn,eM C D hints id ops βs ((i,o)::rest) T=some (T1,gn)/\fD S1 T1/\(∀e∈gn,e∈gG)/\(∀e∈lg,e∈gG):=by
    intro hg h;obtain⟨k1,k2⟩:=Rz (C:=C) (D:=D) (hints:=hints) (id:=id) (β:=βs.headD true) hs hg;obtain⟨T1,gn,q1,q2,q3,q4⟩:=xO (hints:=hints) n rest _ _ S1 gG h fR _ k2 βs.tail;refine⟨T1,oH ops S (id * 256+i+1) i o::gn,?_,q2,?_,fun e he=>q4 e (cF _ he)⟩
    .simp only[eM,k1,dF,q1,d7]
    .intro e he;rcases bh.1 he with rfl | he
     .exact q4 _ e7
     .exact q3 e he
   simp only[mK]at h;split at h
   .rename_i hgd;exact rK (Q_ hgd) h
   .rename_i j b hgd;split at h
    .rename_i hS;exact m9 (Qp hs hgd hS) h
    .rename_i c hS;have hg:=GY hs hgd (.inl hS);split at h
     .rename_i hcb;subst hcb;exact rK (by simpa using hg) h
     .rename_i hcb;exact m9 (by rw[hg];simpa using hcb) h
    .rename_i c hS;split at h
     .rename_i S2 Jj tK hj;obtain⟨seg,i2,o2,T',gn,e1,k1,k2,k3,k4,k5⟩:=M1 (xO (hints:=hints) n) hj hS hs βs;have Et:∀x∈tK,pI x.2=true:=fun x hx=>hl x (by rw[e1];simp[hx]);obtain⟨T1,ED,q1,q2,q3,q4⟩:=xO (hints:=hints) n tK _ _ S1 gG h Et _ k2 (βs.drop (seg.length+1));refine⟨T1,gn++ED,?_,q2,?_,fun e he=>q4 e (k4 e he)⟩
      .rw[e1,Ro k1,q1];rfl
      .intro e he;rcases bN.1 he with he | he
       .exact q4 e (k3 e he)
       .exact q3 e he
     .simp at h
    .simp at h
theorem LN{R:Type}{r:R}{hints:Hints}{id:Nat}{ops:Array Oper}{k:Log->St->Option R}:∀(n:Nat)(l:List (Nat×Oper))(S:St)(lg:Log),yN C D hints id ops n l S lg k=some r->∀T,fD S T->∀βs,
  ∃T1 gn S1 gG,eM C D hints id ops βs l T=some (T1,gn)/\k gG S1=some r/\fD S1 T1/\(∀e∈gn,e∈gG)/\(∀e∈lg,e∈gG)
 | 0,l,S,lg,h=>by simp[yN]at h
 | n+1,[],S,lg,h=>by
  intro T hs βs;simp only[yN]at h;exact⟨T,[],S,lg,rfl,h,hs,by simp,fun e he=>he⟩
 | n+1,(i,o)::rest,S,lg,h=>by
  intro T hs βs;have rK:∀S,fD S T->n7 ops T o=some true->((iJ C D S (id * 256+i+1) (hints.share.contains (id,i)) o).run fun x=>yN C D hints id ops n rest (fin ops ⟨S.sl,x.2⟩ i o x.1) (jG C ops S (id * 256+i+1) i o x.1 x.2::lg) k)=some r->
    ∃T1 gn S1 gG,eM C D hints id ops βs ((i,o)::rest) T=some (T1,gn)/\k gG S1=some r/\fD S1 T1/\(∀e∈gn,e∈gG)/\(∀e∈lg,e∈gG):=by
   intro S hs hg h;obtain⟨x,hx,h⟩:=Tr.iV (βs.headD true) _ h;obtain⟨k1,k2⟩:=Nc (hints:=hints) (id:=id) hs hg hx;obtain⟨T1,gn,S1,gG,q1,q2,q3,q4,q5⟩:=LN (hints:=hints) n rest _ _ h _ k2 βs.tail;refine⟨T1,jG C ops S (id * 256+i+1) i o x.1 x.2::gn,S1,gG,?_,q2,q3,?_,fun e he=>q5 e (cF _ he)⟩
   .simp only[eM,k1,dF,q1,d7]
   .intro e he;rcases bh.1 he with rfl | he
    .exact q5 _ e7
    .exact q4 e he
  have m9:∀S,fD S T->n7 ops T o=some false->yN C D hints id ops n rest (fin ops S i o .skip) (oH ops S (id * 256+i+1) i o::lg) k=some r->
    ∃T1 gn S1 gG,eM C D hints id ops βs ((i,o)::rest) T=some (T1,gn)/\k gG S1=some r/\fD S1 T1/\(∀e∈gn,e∈gG)/\(∀e∈lg,e∈gG):=by
   intro S hs hg h;obtain⟨k1,k2⟩:=Rz (C:=C) (D:=D) (hints:=hints) (id:=id) (β:=βs.headD true) hs hg;obtain⟨T1,gn,S1,gG,q1,q2,q3,q4,q5⟩:=LN (hints:=hints) n rest _ _ h _ k2 βs.tail;refine⟨T1,oH ops S (id * 256+i+1) i o::gn,S1,gG,?_,q2,q3,?_,fun e he=>q5 e (cF _ he)⟩
   .simp only[eM,k1,dF,q1,d7]
   .intro e he;rcases bh.1 he with rfl | he
    .exact q5 _ e7
    .exact q4 e he
  simp only[yN]at h;split at h
  .rename_i hgd;exact rK S hs (Q_ hgd) h
  .rename_i j b hgd;split at h
   .rename_i hS;exact m9 S hs (Qp hs hgd hS) h
   .rename_i c hS;have hg:=GY hs hgd (.inl hS);split at h
    .rename_i hcb;subst hcb;exact rK S hs (by simpa using hg) h
    .rename_i hcb;exact m9 S hs (by rw[hg];simpa using hcb) h
   .rename_i c hS;split at h
    .rename_i S2 Jj tK hj;obtain⟨seg,i2,o2,T',gn,e1,k1,k2,k3,k4,k5⟩:=M1 (xO (hints:=hints) n) hj hS hs βs;obtain⟨T1,ED,S1,gG,q1,q2,q3,q4,q5⟩:=LN (hints:=hints) n tK _ _ h _ k2 (βs.drop (seg.length+1));refine⟨T1,gn++ED,S1,gG,?_,q2,q3,?_,fun e he=>q5 e (k4 e he)⟩
     .rw[e1,Ro k1,q1];rfl
     .intro e he;rcases bN.1 he with he | he
      .exact q5 e (k3 e he)
      .exact q4 e he
    .have hg:=GY hs hgd (.inr hS);have p_:fD (S.set (lq ops j) (.cG c)) T:=by
      have vF:T.get (lq ops j)=.val .bool c:=by
       rcases hs.get (lq ops j) with e | ⟨b,e1,_⟩
       .rw[e];exact hS
       .rw[hS]at e1;simp at e1
      refine⟨hs.rt,by simp[St.gi,hs.len],fun u=>?_⟩;rw[St.gr];by_cases e:u=lq ops j/\lq ops j<S.sl.length
      .rw[aj e,e.1];exact .inr ⟨c,rfl,vF⟩
      .rw[af e];exact hs.get u
     cases c with
     | true=>
      simp only[br]at h;split at h
      .rename_i hb;subst hb;exact rK _ p_ (by simpa using hg) h
      .rename_i hb;exact m9 _ p_ (by rw[hg];cases b<;>simp_all) h
     | false=>
      simp only[br]at h;split at h
      .rename_i hb;subst hb;exact rK _ p_ (by simpa using hg) h
      .rename_i hb;exact m9 _ p_ (by rw[hg];cases b<;>simp_all) h
   .simp at h
end
theorem MK{h:Array Obj}{S T:St}(hs:fD S T){g:aA}{tmps:Array Value}{H:BS}(st:aE h T g tmps H):aE h S g tmps H:=by
 have hr:∀r,S.root r=T.root r:=fun r=>by simp only[St.root,hs.rt]
 have hi:∀{r},(S.root r).isSome->(T.root r).isSome:=fun {r} h=>by rw[<-hr];exact h
 have he:∀{r R},S.root r=some R->T.root r=some R:=fun {r R} h=>by rw[<-hr];exact h
 have hl:S.sl.length=tmps.size:=by rw[<-hs.len];exact st.len
 have iH:S.rt.length=tmps.size:=by rw[<-hs.rt];exact st.gw
 refine⟨hl,iH,?_,fun r R hR=>st.roots r R (he hR),fun r r' hn h1 h2=>st.dY r r' hn (hi h1) (hi h2),fun r h1=>st.eg r (hi h1),fun r h1=>st.hand r (hi h1),st.bM,st.bQ,fun r b h1=>st.cg r b (hi h1),st.ef,fun r R hR=>st.tag r R (he hR),fun r b h1=>st.own r b (hi h1),st.e_,st.fW,st.p0,st.kX⟩;intro t;have:=st.slots t;have h2:=qe.gE (S':=S) st hs.rt.symm this;rcases hs.get t with e | ⟨b,e1,e2⟩
 .rw[e]at h2;exact h2
 .rw[e2]at h2;rw[e1];simp only[qe,az]at h2⊢;obtain⟨c,rfl,e⟩:=h2;exact e
theorem LY{h:Array Obj}:∀(p:Path)(t:Ty)(c:List Value)(base:fJ),cr h t c base (p.map om.zero)=cr h t c base p
 | [],t,c,base=>rfl
 | .fst::p,t,c,base=>by cases t<;>simp only[cv,om.zero,cr];exact LY p _ _ _
 | .snd::p,t,c,base=>by cases t<;>simp only[cv,om.zero,cr];exact LY p _ _ _
 | .idx i s::p,t,c,base=>by
  cases t<;>simp only[cv,om.zero,cr];split
  .split
   .exact LY p _ _ _
   .rfl
  .rfl
theorem L5:∀(p:Path)(t:Ty)(x:t.den),bu t x (p.map om.zero)↔bu t x p
 | [],t,x=>iY
 | .fst::p,t,x=>by cases t<;>simp only[cv,om.zero,bu];exact L5 p _ _
 | .snd::p,t,x=>by cases t<;>simp only[cv,om.zero,bu];exact L5 p _ _
 | .idx i s::p,t,x=>by
  cases t<;>simp only[cv,om.zero,bu];rw[L5 p]
theorem aM.bg{hd:Nat->Value}:∀(t:Ty){m:Mk}{c:List Value},aM hd t m c->aM hd t m.bg c
 | .unit,_,_,_=>by simp only[aM]
 | .int _,_,_,_=>by simp only[aM]
 | .bool,_,_,_=>by simp only[aM]
 | .str,_,_,_=>by simp only[aM]
 | .pair a b,m,c,h=>by
  simp only[aM]at h⊢;have h1:=Mk.mu m;have h2:=Mk.mw m;rw[h1,h2];exact⟨aM.bg a h.1,aM.bg b h.2⟩
 | .sl t,m,c,h=>by
  cases m with
  | own s mi=>
   have hf:∀m:Mk,m.ax=true->m.bg.ax=true:=by
    intro m
    induction m with
    | no=>intro _;rfl
    | gone=>intro _;rfl
    | own s m ih=>intro h;simp only[Mk.ax,bI,n6]at h;simp only[Mk.bg,Mk.ax,bI,n6];exact⟨by rw[aj h.1];omega,ih h.2⟩
    | pr a b fS kQ=>intro h;simp only[Mk.ax,bI]at h;simp only[Mk.bg,Mk.qH,bI];exact⟨fS h.1,kQ h.2⟩
   simp only[Mk.bg,aM]at h⊢;refine⟨fun h2=>?_,hf _ h.2⟩;split at h2
   .omega
   .rename_i hn;rw[af hn];exact h.1 h2
  | no=>simp only[Mk.bg,aM]
  | gone=>simp only[Mk.bg,aM]
  | pr a b=>simp only[Mk.bg];rcases Mk.oD a.bg b.bg with e | e<;>rw[e]<;>simp only[aM]
theorem aia{x:Option aC}{R':aC}(h:LR x=some R'):∃R,x=some R/\R'={ R with ms:=R.ms.bg }:=by
 unfold LR at h;cases x with
 | none=>simp at h
 | some R=>
  simp only[dF]at h;split at h
  .simp at h
  .simp only[aK]at h;exact⟨R,rfl,h.symm⟩
theorem Qi(oV:List Nat):∀(l:List (Option aC))(i r:Nat),(ES oV i l).getD r none=if oV.contains (i+r) then LR (l.getD r none) else none
 | [],i,r=>by simp[ES,LR,List.getD]
 | x::l,i,r=>by
  simp only[ES];cases r with
  | zero=>simp only[uC,qQ]
  | succ r=>simp only[FA];rw[Qi oV l (i+1) r,show i+1+r=i+(r+1) by omega]
theorem PN(oV:List Nat):∀(l:List (Option aC))(i:Nat),(ES oV i l).length=l.length
 | [],_=>rfl
 | x::l,i=>by simp[ES,PN oV l]
theorem Qj(S:St)(keep:List Nat):∀(l:List AV)(i t:Nat),(ET S keep i l).getD t .undef=if keep.contains (i+t) then (l.getD t .undef).canon S else .undef
 | [],i,t=>by simp[ET,AV.canon,List.getD]
 | x::l,i,t=>by
  simp only[ET];cases t with
  | zero=>simp only[uC,qQ]
  | succ t=>simp only[FA];rw[Qj S keep l (i+1) t,show i+1+t=i+(t+1) by omega]
theorem PO(S:St)(keep:List Nat):∀(l:List AV)(i:Nat),(ET S keep i l).length=l.length
 | [],_=>rfl
 | x::l,i=>by simp[ET,PO S keep l]
section
variable {h:Array Obj} {S:St} {g:aA} {tmps:Array Value} {H:BS} (st:aE h S g tmps H)
include st
theorem TO{keep extra:List Nat}{r:Nat}{R':aC}(hr:(S.canon keep extra).root r=some R'):∃R,S.root r=some R/\R'={ R with ms:=R.ms.bg }:=by
 simp only[St.canon,St.root,aO.ia]at hr;rw[Qi]at hr;split at hr
 .rw[<-aO.ia]at hr;exact aia hr
 .simp at hr
theorem QW{keep extra:List Nat}{r:Nat}{p:Path}{s:Nat}{v:Value}{t:Ty}{m:Mk}{xs:(Ty.sl t).den}(hf:S.rt.focus r p=some ⟨.sl t,.own s m,xs⟩)(x:qL h S g r p s v) :
  qL h (S.canon keep extra) g r (p.map om.zero) (if s<1048576 then 0 else s) v:=by
 obtain⟨R,base,F,hR,zo,hin,d8,_⟩:=LZ st hf rfl x;intro R' ck t' m' xs' hf';obtain⟨R2,vE,rfl⟩:=TO st ck;rw[hR]at vE;simp only[aK]at vE;subst vE;exact⟨(L5 p _ _).2 hin,base,by rw[LY];exact d8⟩
theorem aa6{keep extra:List Nat}{r:Nat}{p:Path}{v:Value}{d:Dy}(hf:S.rt.focus r p=some d)(x:ur h S g r p v):ur h (S.canon keep extra) g r (p.map om.zero) v:=by
 simp only[aO.focus]at hf;split at hf
 .rename_i R hR;obtain⟨hin,b,o,c,d8,e⟩:=x R hR d hf;intro R' ck d' hf';obtain⟨R2,vE,rfl⟩:=TO st ck;have:R=R2:=by have h1:S.root r=some R:=hR;rw[h1]at vE;simpa using vE
  subst this;exact⟨(L5 p _ _).2 hin,b,o,c,by rw[LY];exact d8,e⟩
 .simp at hf
theorem BE{keep extra:List Nat}:∀{a:AV}{c:List Value},dg h S g a c->dg h (S.canon keep extra) g (a.canon S) c
 | .undef,_,_=>by simp only[AV.canon,dg]
 | .unit,_,y=>y
 | .val t x,_,y=>y
 | .b9 r p s,c,y=>by
  simp only[dg]at y;obtain⟨v,rfl,y⟩:=y;simp only[AV.canon];split
  .rename_i t s' m xs hf;split
   .rename_i hs;subst hs;simp only[dg];exact⟨v,rfl,QW st hf y⟩
   .simp only[dg]
  .simp only[dg]
 | .pair a b,c,y=>by
  simp only[dg]at y;obtain⟨ca,cb,rfl,y1,y2⟩:=y;simp only[AV.canon,dg];exact⟨ca,cb,rfl,BE y1,BE y2⟩
 | .skip,_,y=>y.elim
 | .cG _,_,y=>y.elim
 | .fl,_,y=>y.elim
 | .view _ _ _ _ _,_,y=>y.elim
 | .addr _ _,_,y=>y.elim
 | .cj _ _,_,y=>y.elim
 | .jH _,_,y=>y.elim
 | .gF _ _,_,y=>y.elim
 | .ew _,_,y=>y.elim
theorem als{keep extra:List Nat}:∀(a:AV),(∀v,qe h S g a v->qe h (S.canon keep extra) g (a.canon S) v)/\(∀vs,aN h S g a vs->aN h (S.canon keep extra) g (a.canon S) vs):=by
 intro a
 induction a with
 | undef=>exact⟨fun _ _=>by simp only[AV.canon,qe],fun _ y=>by simp only[aN]at y⟩
 | skip=>exact⟨fun _ y=>y,fun _ y=>by simp only[aN]at y⟩
 | cG b=>exact⟨fun _ y=>y,fun _ y=>by simp only[aN]at y⟩
 | unit=>exact⟨fun _ y=>y,fun _ y=>y⟩
 | fl=>exact⟨fun _ y=>y,fun _ y=>by simp only[aN]at y⟩
 | val t x=>exact⟨fun _ y=>y,fun _ y=>by simp only[aN]at y⟩
 | b9 r p s=>
  refine⟨fun v y=>?_,fun _ y=>by simp only[aN]at y⟩;simp only[qe]at y;simp only[AV.canon];split
  .rename_i t s' m xs hf;split
   .rename_i hs;subst hs;simp only[qe];exact QW st hf y
   .simp only[qe]
  .simp only[qe]
 | view r p s lo hi=>exact⟨fun _ _=>by simp only[AV.canon,qe],fun _ y=>by simp only[aN]at y⟩
 | addr r p=>
  refine⟨fun v y=>?_,fun _ y=>by simp only[aN]at y⟩;simp only[qe]at y;simp only[AV.canon];split
  .rename_i d hf;simp only[qe];exact aa6 st hf y
  .simp only[qe]
 | cj t x=>exact⟨fun _ y=>y,fun _ y=>by simp only[aN]at y⟩
 | pair a b fS kQ=>
  refine⟨fun v y=>?_,fun vs y=>?_⟩
  .simp only[qe]at y;obtain⟨ca,cb,e,y1,y2⟩:=y;simp only[AV.canon,qe];exact⟨ca,cb,e,BE st y1,BE st y2⟩
  .simp only[aN]at y;obtain⟨v,vs',e,y1,y2⟩:=y;simp only[AV.canon,aN];exact⟨v,vs',e,fS.1 v y1,kQ.2 vs' y2⟩
 | jH a fS=>exact⟨fun _ _=>by simp only[AV.canon,qe],fun _ y=>by simp only[aN]at y⟩
 | gF f a fS=>refine⟨fun v y=>?_,fun _ y=>by simp only[aN]at y⟩;simp only[qe]at y;obtain⟨vs,e,y⟩:=y;simp only[AV.canon,qe];exact⟨vs,e,fS.2 vs y⟩
 | ew c=>exact⟨fun _ y=>y,fun _ y=>by simp only[aN]at y⟩
theorem AY(keep extra:List Nat):aE h (S.canon keep extra) g tmps H:=by
 have hs:∀r,((S.canon keep extra).root r).isSome->(S.root r).isSome:=by intro r h1;obtain⟨R',ck⟩:=x_.1 h1;obtain⟨R,hR,_⟩:=TO st ck;rw[hR];rfl
 refine⟨?_,?_,?_,?_,fun r r' hn h1 h2=>st.dY r r' hn (hs r h1) (hs r' h2),fun r h1=>st.eg r (hs r h1),fun r h1=>st.hand r (hs r h1),st.bM,st.bQ,fun r b h1=>st.cg r b (hs r h1),st.ef,?_,fun r b h1=>st.own r b (hs r h1),st.e_,st.fW,st.p0,st.kX⟩
 .simp only[St.canon];rw[PO];exact st.len
 .simp only[St.canon];rw[PN];exact st.gw
 .intro t;simp only[St.get_eq,St.canon];rw[Qj];split
  .have z:=st.slots t;rw[St.get_eq]at z;exact(als st _).1 _ z
  .simp only[qe]
 .intro r R' ck;obtain⟨R,hR,rfl⟩:=TO st ck;obtain⟨F,q1,q2⟩:=st.roots r R hR;exact⟨F,(az.bg R.ty).1 q1,q2⟩
 .intro r R' ck;obtain⟨R,hR,rfl⟩:=TO st ck;exact aM.bg _ (st.tag r R hR)
end
end Go.V
namespace Go.V
noncomputable section
open Go
def Ex.out:Ex->Exit
 | .normal=>.normal
 | .exit id=>.exit id
 | .ret=>.ret
theorem xQ{ops:Array Oper}:∀x∈nq ops,ops[x.1]? = some x.2:=by intro x hx;simp only[nq,eI]at hx;obtain⟨y,hy,rfl⟩:=hx;have:=FO.1 hy;simpa using this
theorem UP{ops:Array Oper}:(nq ops).map (·.1)=List.range ops.size:=by
 simp only[nq,BO];apply rG;intro i;simp only[FG,List.getElem?_zipIdx,List.getElem?_range'];by_cases h:i<ops.size
 .simp[h]
 .simp[h]
theorem Ra{ops:Array Oper}(h:L2 ops=true):∀(i:Nat) o j c,ops[i]? = some o->o.guard=some (j,c)->∃oj t,ops[j]? = some oj/\oj.dst=some t:=by intro i o j c ho hg;simp only[L2,qO]at h;have:=h o (by rw[Fz];exact FY ho);rw[hg]at this;simp only[x_,cL]at this;obtain⟨t,oj,h1,h2⟩:=this;exact⟨oj,t,h1,h2⟩
theorem R6{np:List Nat}{ops:Array Oper}(h:Jy np ops=true):∀x∈nq ops,∀d,x.2.dst=some d->d∉np:=by intro x hx d hd;simp only[Jy,qO]at h;have:=h x.2 (by rw[Fz];exact FY (xQ x hx));rw[hd]at this;simpa using this
section
variable {P:Program} {C:Ctx} {D:Den C} (bn:iA P C) (dy:oh P C D)
include bn dy
def jJ(np:List Nat)(P:Program)(C:Ctx)(Q:Exit->Act->World->Prop){R:Type}(r:R)(c:Code)(S:St)(k:Ex->St->Option R)(g:aA)(a:Act)(w:World):Prop:=
 aE w.heap S g a.tmps Nil->a.defers=[]->(∀e S' g' a' w',k e S'=some r->aE w'.heap S' g' a'.tmps Nil->g'.cR g->kI g.L w w'->a'.defers=[]->vg np a a'->Q e.out a' w')->c.wp P Q a w
theorem acn{np:List Nat}{R:Type}{r:R}{H:Hints}{id:Nat}{ops:Array Oper}{S:St}{k:Ex->St->Option R}{Q:Exit->Act->World->Prop}{g:aA}{a:Act}{w:World}{n:Nat}
  (hnp:Jy np ops=true) (h:exec C D H n (.region id ops false) S k=some r):jJ np P C Q r (.region id ops false) S k g a w:=by
 intro st hdf hQ;simp only[exec]at h;split at h
 .rename_i hgd;have hR:=fun βs=>LN (hints:=H) _ _ _ _ h S (fD.refl S) βs;refine wp_region ?_;rw[<-UP];refine ND (hints:=H) (id:=id) bn dy (Ra hgd) (nq ops) S g a w xQ (R6 hnp) st hdf (fun βs=>?_) ?_
  .obtain⟨T1,gn,S1,gG,q1,_⟩:=hR βs;exact⟨_,q1⟩
  .intro βs S' lg a' w' g' hr st' iI hfr iG ox;obtain⟨T1,gn,S1,gG,q1,q2,q3,_⟩:=hR βs;rw[hr]at q1;simp only[aK,aY]at q1;obtain⟨rfl,rfl⟩:=q1;simp only[fe,dV]at q2;exact hQ .normal S1 g' a' w' q2 (MK q3 st') iI hfr iG ox
 .simp at h
end
end
end Go.V
namespace Go.V
noncomputable section
open Go
section
variable {C:Ctx} {D:Den C} {A:bX} {S:aO} {site:Nat} {hint:Bool}
theorem Rd{ρ ρ':Operand->AV}{ps:Array (Nat×Operand)}(h:∀x∈(ps.toList.map (·.2)).toArray,ρ' x=ρ x):(ps.toList.map fun p=>(p.1,ρ' p.2))=ps.toList.map fun p=>(p.1,ρ p.2):=by apply rE;intro p hp;rw[h p.2 (by simp only[List.mem_toArray,eI];exact⟨p,hp,rfl⟩)]
theorem R4{ρ ρ':Operand->AV}(o:Oper)(h:∀x∈o.op.operands,ρ' x=ρ x):aV C D A ρ' S site hint o=aV C D A ρ S site hint o:=by
 cases ho:o.op with
 | build t ps=>rw[ho]at h;simp only[Op.operands]at h;simp only[aV,ho];rw[Rd h]
 | buildSlice t n ps=>rw[ho]at h;simp only[Op.operands]at h;simp only[aV,ho];rw[Rd h]
 | makeFunc f first caps=>
  rw[ho]at h;simp only[Op.operands]at h;simp only[aV,ho];cases f with
  | func f=>
   have:caps.toList.foldr (fun x r=>AV.pair (ρ' x) r) .unit=caps.toList.foldr (fun x r=>AV.pair (ρ x) r) .unit:=by
    have hc:∀x∈caps.toList,ρ' x=ρ x:=fun x hx=>h x (by simp at hx⊢;exact .inr hx);revert hc;generalize caps.toList=l;intro hc
    induction l with
    | nil=>rfl
    | cons y l ih=>simp only[F6];rw[hc y e7,ih (fun x hx=>hc x (cF _ hx))]
   simp only[this]
  | _=>rfl
 | slice t x lo hi mx=>
  rw[ho]at h;simp only[Op.operands]at h;cases mx with
  | some v=>simp only[aV,ho]
  | none=>
   simp only[aV,ho];have h1:ρ' x=ρ x:=h x (by simp);have h2:lo.map ρ'=lo.map ρ:=by cases lo with
    | none=>rfl
    | some v=>simp only[d7];rw[h v (by simp)]
   have h3:hi.map ρ'=hi.map ρ:=by cases hi with
    | none=>rfl
    | some v=>simp only[d7];rw[h v (by simp)]
   rw[h1,h2,h3]
 | call c=>
  rw[ho]at h;simp only[Op.operands]at h;have ha:c.args.toList.map ρ'=c.args.toList.map ρ:=rE fun x hx=>h x (by simp only[Call.operands,sv];right;simpa using hx);simp only[aV,ho];rw[ha];cases hc:c.callee with
  | builtin b=>rfl
  | value f=>have:ρ' f=ρ f:=h f (by simp[Call.operands,hc]);simp only[this]
  | invoke r m=>rfl
 | pick c a b=>rw[ho]at h;simp only[Op.operands]at h;simp only[aV,ho];rw[h c (by simp),h a (by simp),h b (by simp)]
 | store t a b=>rw[ho]at h;simp only[Op.operands]at h;simp only[aV,ho];rw[h a (by simp),h b (by simp)]
 | binOp op t a b t2=>rw[ho]at h;simp only[Op.operands]at h;simp only[aV,ho];rw[h a (by simp),h b (by simp)]
 | makeSlice t a b=>rw[ho]at h;simp only[Op.operands]at h;simp only[aV,ho];rw[h a (by simp),h b (by simp)]
 | indexAddr t a b=>rw[ho]at h;simp only[Op.operands]at h;simp only[aV,ho];rw[h a (by simp),h b (by simp)]
 | index t a b=>rw[ho]at h;simp only[Op.operands]at h;simp only[aV,ho];rw[h a (by simp),h b (by simp)]
 | move x=>rw[ho]at h;simp only[Op.operands]at h;simp only[aV,ho];rw[h x (by simp)]
 | assign x=>rw[ho]at h;simp only[Op.operands]at h;simp only[aV,ho];rw[h x (by simp)]
 | box t x=>rw[ho]at h;simp only[Op.operands]at h;simp only[aV,ho];rw[h x (by simp)]
 | load t x=>rw[ho]at h;simp only[Op.operands]at h;simp only[aV,ho];rw[h x (by simp)]
 | nilCheck x=>rw[ho]at h;simp only[Op.operands]at h;simp only[aV,ho];rw[h x (by simp)]
 | unOp op t x=>rw[ho]at h;simp only[Op.operands]at h;simp only[aV,ho];rw[h x (by simp)]
 | convert s d x=>rw[ho]at h;simp only[Op.operands]at h;simp only[aV,ho];rw[h x (by simp)]
 | fieldAddr s x f=>rw[ho]at h;simp only[Op.operands]at h;simp only[aV,ho];rw[h x (by simp)]
 | field s x f=>rw[ho]at h;simp only[Op.operands]at h;simp only[aV,ho];rw[h x (by simp)]
 | extract x i=>rw[ho]at h;simp only[Op.operands]at h;simp only[aV,ho];rw[h x (by simp)]
 | _=>simp only[aV,ho]
theorem adq{ρ ρ':Operand->AV}(o:Oper)(h:∀x∈o.op.operands,ρ' x=ρ x):dN C ρ' o=dN C ρ o:=by
 have hall:o.op.operands.toList.map ρ'=o.op.operands.toList.map ρ:=rE fun x hx=>h x (by simpa using hx);unfold dN;rw[hall];cases ho:o.op with
 | build t ps=>
  rw[ho]at h;have:TN ρ' ps.toList=TN ρ ps.toList:=by
   unfold TN;have key:∀l:List (Nat×Operand),(∀p∈l,ρ' p.2=ρ p.2)->(l.all fun p=>(ρ' p.2).isVal)=l.all fun p=>(ρ p.2).isVal:=by
    intro l
    induction l with
    | nil=>intro _;rfl
    | cons a l ih=>intro hl;simp only[gT];rw[hl a e7,ih fun p hp=>hl p (cF _ hp)]
   exact key _ fun p hp=>h p.2 (by
   simp only[Op.operands,List.mem_toArray];exact eI.2 ⟨p,hp,rfl⟩)
  simp only[this]
 | assign x=>rw[ho]at h;simp only[Op.operands]at h;simp only[h x (by simp)]
 | call c=>
  rw[ho]at h;simp only[Op.operands]at h;have ha:c.args.toList.map ρ'=c.args.toList.map ρ:=rE fun x hx=>h x (by simp only[Call.operands,sv];right;simpa using hx);simp only;rw[ha];cases hc:c.callee with
  | builtin b=>cases b<;>rfl
  | value f=>have:ρ' f=ρ f:=h f (by simp[Call.operands,hc]);simp only[this]
  | invoke r m=>rfl
 | _=>rfl
theorem ab4{ρ ρ':Operand->AV}(o:Oper)(h:∀x∈o.op.operands,ρ' x=ρ x):vj C ρ' o=vj C ρ o:=by
 unfold vj;cases ho:o.op with
 | call c=>
  rw[ho]at h;simp only[Op.operands]at h;have ha:c.args.toList.map ρ'=c.args.toList.map ρ:=rE fun x hx=>h x (by simp only[Call.operands,sv];right;simpa using hx);simp only;rw[ha];cases hc:c.callee with
  | builtin b=>cases b<;>rfl
  | value f=>have:ρ' f=ρ f:=h f (by simp[Call.operands,hc]);simp only[this]
  | invoke r m=>rfl
 | slice t x lo hi mx=>cases mx<;>rfl
 | _=>rfl
def gX(F:List Nat)(S S':aO):Prop:=∀r,r∈F->S'.root r=S.root r
theorem gX.sub{F G:List Nat}{S S':aO}(h:gX F S S')(hs:∀r∈G,r∈F):gX G S S':=fun r hr=>h r (hs r hr)
theorem Cf{F:List Nat}{S S':aO}(h:gX F S S'){r:Nat}(hr:r∈F)(p:Path):S'.focus r p=S.focus r p:=by simp only[aO.focus,h r hr]
theorem Mb{S S':aO}:∀(t:Ty)(a:AV),gX a.roots S S'->rd S' t a=rd S t a
 | t,.pair u v,h=>by
  cases t with
  | pair a b=>simp only[rd];rw[Mb a u (h.sub fun r hr=>by simp[AV.roots,hr]),Mb b v (h.sub fun r hr=>by simp[AV.roots,hr])]
  | _=>simp[rd]
 | t,.b9 r p s,h=>by
  cases t with
  | sl e=>simp only[rd];rw[Cf h (by simp[AV.roots])]
  | _=>simp[rd]
 | t,.val t' x,h=>by cases t<;>simp only[rd]
 | t,.undef,h=>by cases t<;>simp[rd]
 | t,.skip,h=>by cases t<;>simp[rd]
 | t,.cG b,h=>by cases t<;>simp[rd]
 | t,.unit,h=>by cases t<;>simp[rd]
 | t,.fl,h=>by cases t<;>simp[rd]
 | t,.view _ _ _ _ _,h=>by cases t<;>simp[rd]
 | t,.addr _ _,h=>by cases t<;>simp[rd]
 | t,.cj _ _,h=>by cases t<;>simp[rd]
 | t,.jH _,h=>by cases t<;>simp[rd]
 | t,.gF _ _,h=>by cases t<;>simp[rd]
 | t,.ew _,h=>by cases t<;>simp[rd]
theorem UM{S S':aO}:∀(a:AV),gX a.roots S S'->lV S' a=lV S a
 | .pair (.addr r p) rest,h=>by
  simp only[lV];rw[Cf h (by simp[AV.roots]),UM rest (h.sub fun r hr=>by simp[AV.roots,hr])]
 | .pair (.cj t x) rest,h=>by simp only[lV];rw[UM rest (h.sub fun r hr=>by simp[AV.roots,hr])]
 | .pair (.val t x) rest,h=>by simp only[lV];rw[UM rest (h.sub fun r hr=>by simp[AV.roots,hr])]
 | .unit,h=>rfl
 | .pair .undef _,h=>rfl
 | .pair .skip _,h=>rfl
 | .pair (.cG _) _,h=>rfl
 | .pair .unit _,h=>rfl
 | .pair .fl _,h=>rfl
 | .pair (.b9 _ _ _) _,h=>rfl
 | .pair (.view _ _ _ _ _) _,h=>rfl
 | .pair (.pair _ _) _,h=>rfl
 | .pair (.jH _) _,h=>rfl
 | .pair (.gF _ _) _,h=>rfl
 | .pair (.ew _) _,h=>rfl
 | .undef,h=>rfl
 | .skip,h=>rfl
 | .cG _,h=>rfl
 | .fl,h=>rfl
 | .val _ _,h=>rfl
 | .b9 _ _ _,h=>rfl
 | .view _ _ _ _ _,h=>rfl
 | .addr _ _,h=>rfl
 | .cj _ _,h=>rfl
 | .jH _,h=>rfl
 | .gF _ _,h=>rfl
 | .ew _,h=>rfl
theorem q9k{a:AV}{l:List AV}(h:a∈l):∀r∈a.roots,r∈qk l:=by
 induction l with
 | nil=>simp at h
 | cons b l ih=>
  intro r hr;simp only[qk,bN];rcases bh.1 h with rfl | h
  .exact .inl hr
  .exact .inr (ih h r hr)
theorem qzc(l l2:List AV):∀r,r∈qk (l++l2)↔r∈qk l\/r∈qk l2:=by
 intro r
 induction l with
 | nil=>simp[qk]
 | cons a l ih=>simp only[fH,qk,bN,ih,or_assoc]
theorem VN:∀(a:AV),∀r∈qk (mV a),r∈a.roots
 | .pair a b,r,h=>by
  simp only[mV,qk,bN]at h;simp only[AV.roots,bN];exact h.imp id (VN b r)
 | .undef,r,h=>by simp[mV,qk]at h
 | .skip,r,h=>by simp[mV,qk]at h
 | .cG _,r,h=>by simp[mV,qk]at h
 | .unit,r,h=>by simp[mV,qk]at h
 | .fl,r,h=>by simp[mV,qk]at h
 | .val _ _,r,h=>by simp[mV,qk]at h
 | .b9 _ _ _,r,h=>by simp[mV,qk]at h
 | .view _ _ _ _ _,r,h=>by simp[mV,qk]at h
 | .addr _ _,r,h=>by simp[mV,qk]at h
 | .cj _ _,r,h=>by simp[mV,qk]at h
 | .jH _,r,h=>by simp[mV,qk]at h
 | .gF _ _,r,h=>by simp[mV,qk]at h
 | .ew _,r,h=>by simp[mV,qk]at h
theorem zK{S S':aO}:∀(ks:List PK)(aJ:List AV)(g:jr ks)(o:dG ks),gX (qk aJ) S S'->jg S' ks aJ g o=jg S ks aJ g o
 | [],[],_,_,_=>rfl
 | [],_::_,_,_,_=>rfl
 | k::ks,[],g,o,_=>by cases k<;>rfl
 | k::ks,a::aJ,g,o,h=>by
  have h1:gX a.roots S S':=h.sub fun r hr=>by simp[qk,hr]
  have h2:gX (qk aJ) S S':=h.sub fun r hr=>by simp[qk,hr]
  cases k with
  | val t=>simp only[jg];rw[Mb t a h1,zK ks aJ g o h2]
  | own t m=>simp only[jg];rw[zK ks aJ g.2 o h2]
  | cC t m m'=>simp only[jg];rw[zK ks aJ g o.2 h2]
  | cO t m m'=>simp only[jg];rw[zK ks aJ g o.2 h2]
  | cm t=>
   cases a with
   | cj t' x=>simp only[jg];rw[zK ks aJ g o h2]
   | addr q p=>simp only[jg];rw[Cf h1 (by simp[AV.roots]),zK ks aJ g o h2]
   | _=>rfl
  | fn=>
   cases a with
   | gF f c=>simp only[jg];rw[UM c (h1.sub fun r hr=>by simpa [AV.roots] using hr),zK ks aJ g o h2]
   | ew c=>simp only[jg];rw[zK ks aJ g o h2]
   | _=>rfl
theorem P3{S S':aO}:∀(ts:List Ty)(aJ:List AV),gX (qk aJ) S S'->yV S' ts aJ=yV S ts aJ
 | [],[],_=>rfl
 | [],_::_,_=>rfl
 | _::_,[],_=>rfl
 | t::ts,a::aJ,h=>by
  simp only[yV];rw[Mb t a (h.sub fun r hr=>by simp[qk,hr]),P3 ts aJ (h.sub fun r hr=>by simp[qk,hr])]
theorem P1{S S':aO}(a:AV)(h:gX a.roots S S'):yS S' a=yS S a:=by
 cases a with
 | b9 r p s=>simp only[yS];rw[Cf h (by simp[AV.roots])]
 | val t x=>cases t<;>rfl
 | _=>rfl
end
end
end Go.V
namespace Go.V
noncomputable section
open Go
section
variable {C:Ctx} {D:Den C}
theorem aj1{S S':aO}(t:Ty)(a:AV)(h:gX a.roots S S'):ve S' t a=ve S t a:=by
 cases a with
 | addr r p=>simp only[ve];rw[Cf h (by simp[AV.roots])]
 | _=>rfl
theorem agF{S S':aO}(t:Ty)(a:AV)(f:Nat)(h:gX a.roots S S'):Ce S' t a f=Ce S t a f:=by
 cases a with
 | addr r p=>simp only[Ce];rw[Cf h (by simp[AV.roots])]
 | _=>rfl
theorem aj0{S S':aO}(t:Ty)(a i:AV)(h:gX a.roots S S'):xS S' t a i=xS S t a i:=by
 cases a with
 | b9 r p s=>simp only[xS];rw[Cf h (by simp[AV.roots])]
 | val t x=>cases t<;>rfl
 | _=>rfl
def qj(T T':Tr (AV×aO))(S S':aO):Prop:=∀β v rt',T.dec β=some (v,rt')->rt'=S/\T'.dec β=some (v,S')
theorem qj.ret{v:AV}{S S':aO}:qj (.ret (v,S)) (.ret (v,S')) S S':=by intro β v' rt' h;simp only[Tr.dec,aK,aY]at h;exact⟨h.2.symm,by simp[Tr.dec,h.1]⟩
theorem qj.fail{T':Tr (AV×aO)}{S S':aO}:qj .fail T' S S':=by intro β v' rt' h;simp[Tr.dec]at h
theorem qj.br{c:Bool}{x y x' y':Tr (AV×aO)}{S S':aO}(h1:qj x x' S S')(h2:qj y y' S S'):qj (.br c x y) (.br c x' y') S S':=by
 intro β v rt' h;cases c
 .exact h2 β v rt' h
 .exact h1 β v rt' h
theorem qj.nil{n:Nat}{b:Bool}{f:Bool->AV}{S S':aO}:qj (.nil n b fun b=>.ret (f b,S)) (.nil n b fun b=>.ret (f b,S')) S S':=by intro β v rt' h;simp only[Tr.dec,aK,aY]at h⊢;exact⟨h.2.symm,h.1,trivial⟩
theorem qj.ofMap{α:Type}{x:Option α}{f:α->AV}{S S':aO}:qj (.of (x.map fun a=>(f a,S))) (.of (x.map fun a=>(f a,S'))) S S':=by
 cases x with
 | none=>exact qj.fail
 | some a=>exact qj.ret
theorem qj.call{α:Type}{x:Option α}{f f':α->Tr (AV×aO)}{S S':aO}(h:∀a,qj (f a) (f' a) S S'):qj (.call x f) (.call x f') S S':=by
 intro β v rt' hh;cases x with
 | none=>simp[Tr.dec]at hh
 | some a=>exact h a β v rt' hh
theorem TA{S S':aO}:∀(ks:List PK)(aJ:List AV),ks.all PK.plain=true->fY S' ks aJ=(fY S ks aJ).map fun z=>(z.1,S')
 | [],[],_=>rfl
 | [],_::_,_=>rfl
 | k::ks,[],_=>by cases k<;>rfl
 | k::ks,a::aJ,h=>by
  simp only[gT,bI]at h;cases k with
  | val t=>simp only[fY];exact TA ks aJ h.2
  | cm t=>simp only[fY];exact TA ks aJ h.2
  | fn=>simp only[fY];exact TA ks aJ h.2
  | _=>simp[PK.plain]at h
theorem Tq{S S':aO}:∀(ks:List PK)(aJ:List AV),ks.all PK.plain=true->gC S' ks aJ=(gC S ks aJ).map fun z=>(z.1,S')
 | [],[],_=>rfl
 | [],_::_,_=>rfl
 | k::ks,[],_=>by cases k<;>rfl
 | k::ks,a::aJ,h=>by
  simp only[gT,bI]at h;cases k with
  | val t=>simp only[gC];exact Tq ks aJ h.2
  | cm t=>simp only[gC];exact Tq ks aJ h.2
  | fn=>simp only[gC];exact Tq ks aJ h.2
  | _=>simp[PK.plain]at h
theorem abB{S rt:aO}{ks:List PK}{aJ:List AV}{g:jr ks}(hp:ks.all PK.plain=true)(h:fY S ks aJ=some (g,rt)):rt=S:=by have:=TA (S:=S) (S':=S) ks aJ hp;rw[h]at this;simp only[d7,aK,aY,true_and]at this;exact this
theorem aa8{S rt:aO}{ks:List PK}{aJ:List AV}{g:dG ks}(hp:ks.all PK.plain=true)(h:gC S ks aJ=some (g,rt)):rt=S:=by have:=Tq (S:=S) (S':=S) ks aJ hp;rw[h]at this;simp only[d7,aK,aY,true_and]at this;exact this
theorem Sk{A A':bX}{S S':aO}(hl:S'.length=S.length){d:Option Nat}{site:Nat}{t:Ty}{m:Mk}{x:t.den}(hs:m.still=true):qj (dR A S d site t m x false) (dR A' S' d site t m x false) S S':=by
 cases d with
 | none=>exact qj.ret
 | some d=>
  simp only[dR,hs,aX,fe,dV,hl];split
  .exact qj.fail
  .exact qj.ret
theorem P4:∀(rs:List RK),rs.all (fun k=>!k.kR&&k.ms.still)=true->(pL rs).still=true
 | [],_=>rfl
 | k::rs,h=>by
  simp only[gT,bI]at h;simp only[pL,Mk.still,bI];exact⟨h.1.2,P4 rs h.2⟩
theorem aaL{A A':bX}(hA:A'.sh=A.sh){S S':aO}(hl:S'.length=S.length){d:Option Nat}{site:Nat}:∀(rs:List RK)(r:f7 rs),rs.all (fun k=>!k.kR&&k.ms.still)=true->qj (mj A S d site rs r) (mj A' S' d site rs r) S S'
 | [],r,_=>qj.ret
 | [.val t m],r,h=>by
  simp only[gT,bI]at h;simp only[mj,hA];split
  .split
   .exact qj.ret
   .exact qj.fail
  .split
   .exact Sk hl h.1.2
   .exact qj.fail
 | [.ptr t m],r,h=>by simp[RK.kR]at h
 | q1::q2::rs,r,h=>by
  have e1:∀(A:bX)(S:aO),mj A S d site (q1::q2::rs) r=Cs A S d site (q1::q2::rs) r:=by intro A S;cases q1<;>rfl
  rw[e1,e1];unfold Cs;split
  .cases d with
   | none=>exact qj.ret
   | some d=>
    have hs:=P4 _ h;have e2:∀(A:bX)(S:aO),dR A S (some d) site (jq (q1::q2::rs)) (pL (q1::q2::rs)) (kg (q1::q2::rs) r) false =
      if (!Nat.blt d S.length||!Nat.blt site 1048576)=true then .fail else .ret (.val (jq (q1::q2::rs)) (kg (q1::q2::rs) r),S):=by
     intro A S;simp only[dR,hs,aX,fe,dV]
    simp only[e2,hl];by_cases hc:(!Nat.blt d S.length||!Nat.blt site 1048576)=true
    .simp only[aj hc];exact qj.fail
    .simp only[af hc];exact qj.ret
  .exact qj.fail
theorem abP{A A':bX}(hA:A'.sh=A.sh){S S':aO}(hl:S'.length=S.length){d:Option Nat}{site:Nat}{g:FuncId}{aJ:List AV}(hq:Hq (C.sig g)=true)(hr:gX (qk aJ) S S') :
  qj (rQ C D A S d site g aJ) (rQ C D A' S' d site g aJ) S S':=by
 unfold Hq at hq;simp only[bI]at hq;unfold rQ;rw[TA (S:=S) (S':=S') _ _ hq.1];cases h1:fY S (C.sig g).params aJ with
 | none=>exact qj.fail
 | some z=>
  obtain⟨gd,S1⟩:=z;obtain rfl:=abB hq.1 h1;simp only[d7];rw[Tq (S:=S1) (S':=S') _ _ hq.1];cases h2:gC S1 (C.sig g).params aJ with
  | none=>exact qj.fail
  | some z=>
   obtain⟨od,S2⟩:=z;obtain rfl:=aa8 hq.1 h2;simp only[d7];rw[zK _ _ _ _ hr];cases h3:jg S2 (C.sig g).params aJ gd od with
   | none=>exact qj.fail
   | some aa=>
    simp only;split
    .refine qj.call fun r=>?_;have hn:(C.sig g).params.all (fun k=>!k.eE)=true:=by rw[qO]at hq⊢;intro k hk;have:=hq.1 k hk;cases k<;>simp_all [PK.plain,PK.eE]
     simp only[hn,aX];exact aaL hA hl _ _ hq.2
    .exact qj.fail
theorem Ty.kK:∀(t:Ty),t.flat=true->(Mk.top t).still=true/\(Mk.sK t).still=true
 | .sl _,h=>by simp[Ty.flat]at h
 | .pair a b,h=>by
  simp only[Ty.flat,bI]at h;have ha:=Ty.kK a h.1;have hb:=Ty.kK b h.2;cases a<;>simp_all [Mk.top,Mk.sK,Mk.still,Ty.flat]
 | .unit,_=>⟨rfl,rfl⟩
 | .int _,_=>⟨rfl,rfl⟩
 | .bool,_=>⟨rfl,rfl⟩
 | .str,_=>⟨rfl,rfl⟩
theorem abF{t:Ty}(h:t.flat=true)(hint:Bool):(Mk.z5 hint t).still=true:=by
 unfold Mk.z5;cases hint
 .exact(Ty.kK t h).1
 .exact(Ty.kK t h).2
theorem G_:∀(t:Ty)(m:Mk)(x:t.den)(p:Path)(t2:Ty)(y:t2.den)(m':Mk)(x':t.den),m.still=true->put t m x p t2 .no y=some (m',x')->m'.still=true
 | t,m,x,[],t2,y,m',x',_,h=>by
  unfold put at h;simp only[cL,aK,aY]at h;obtain⟨_,_,rfl,_⟩:=h;rfl
 | .pair a b,m,x,.fst::p,t2,y,m',x',hm,h=>by
  simp only[put,cL,aK,aY]at h;obtain⟨⟨r1,r2⟩,h1,rfl,_⟩:=h;have hf:m.fst.still=true/\m.snd.still=true:=by cases m<;>simp_all [Mk.fst,Mk.snd,Mk.still]
  have:=G_ a m.fst x.1 p t2 y _ _ hf.1 h1;simp only[Mk.still,bI];exact⟨this,hf.2⟩
 | .pair a b,m,x,.snd::p,t2,y,m',x',hm,h=>by
  simp only[put,cL,aK,aY]at h;obtain⟨⟨r1,r2⟩,h1,rfl,_⟩:=h;have hf:m.fst.still=true/\m.snd.still=true:=by cases m<;>simp_all [Mk.fst,Mk.snd,Mk.still]
  have:=G_ b m.snd x.2 p t2 y _ _ hf.2 h1;simp only[Mk.still,bI];exact⟨hf.1,this⟩
 | .sl t,m,xs,.idx i s::p,t2,y,m',x',hm,h=>by
  cases m<;>simp_all [put,Mk.still]
 | .sl t,m,xs,.fst::p,t2,y,m',x',hm,h=>by simp[put]at h
 | .sl t,m,xs,.snd::p,t2,y,m',x',hm,h=>by simp[put]at h
 | .pair a b,m,xs,.idx i s::p,t2,y,m',x',hm,h=>by simp[put]at h
 | .unit,m,xs,_::p,t2,y,m',x',hm,h=>by simp[put]at h
 | .int _,m,xs,_::p,t2,y,m',x',hm,h=>by simp[put]at h
 | .bool,m,xs,_::p,t2,y,m',x',hm,h=>by simp[put]at h
 | .str,m,xs,_::p,t2,y,m',x',hm,h=>by simp[put]at h
theorem ak7(t:Ty){v:AV}(h:v.isVal=true):∃r:Option t.den,∀S:aO,tk S t v=r.map fun x=>(Mk.no,x,S):=by
 cases v with
 | val t' x=>refine⟨qbv t' t x,fun S=>?_⟩;unfold tk;cases qbv t' t x<;>rfl
 | cG b=>
  cases t with
  | bool=>exact⟨some b,fun S=>rfl⟩
  | _=>exact⟨none,fun S=>rfl⟩
 | _=>simp[AV.isVal]at h
theorem Rk(t:Ty):∀(l:List (Nat×AV))(acc:Mk×t.den),acc.1.still=true->l.all (fun p=>p.2.isVal)=true->
  ∃r:Option (Mk×t.den),(∀S:aO,oE S t acc l=r.map fun z=>(z.1,z.2,S))/\∀z,r=some z->z.1.still=true
 | [],acc,ha,_=>⟨some acc,fun S=>rfl,fun z hz=>by cases hz;exact ha⟩
 | (i,v)::l,acc,ha,h=>by
  simp only[gT,bI]at h;cases hf:focus t acc.1 acc.2 (h_ i) with
  | none=>exact⟨none,fun S=>by simp only[oE,hf];rfl,fun z hz=>by cases hz⟩
  | some d=>
   obtain⟨r,hr⟩:=ak7 d.ty h.1;cases r with
   | none=>exact⟨none,fun S=>by simp only[oE,hf,dF,hr];rfl,fun z hz=>by cases hz⟩
   | some x=>
    cases hp:put t acc.1 acc.2 (h_ i) d.ty .no x with
    | none=>exact⟨none,fun S=>by simp only[oE,hf,dF,hr,d7,hp];rfl,fun z hz=>by cases hz⟩
    | some q=>obtain⟨q1,q2⟩:=q;obtain⟨r2,h1,h2⟩:=Rk t l (q1,q2) (G_ _ _ _ _ _ _ _ _ ha hp) h.2;exact⟨r2,fun S=>by simp only[oE,hf,dF,hr,d7,hp];exact h1 S,h2⟩
theorem acm{A A':bX}{ρ:Operand->AV}{S S':aO}{site:Nat}{hint:Bool}{o:Oper}(hl:S'.length=S.length)(hw:dN C ρ o=none)
    (hr:gX (if rO o then [] else qk (o.op.operands.toList.map ρ)) S S'):qj (aV C D A ρ S site hint o) (aV C D A' ρ S' site hint o) S S':=by
  have ha:∀{x:Operand},rO o=false->x∈o.op.operands->gX (ρ x).roots S S':=by intro x hb hx;rw[hb]at hr;exact hr.sub fun r h=>q9k (eI.2 ⟨x,by simpa using hx,rfl⟩) r h
  cases ho:o.op with
  | move x=>simp only[aV,ho];exact qj.ret
  | pick c a b=>
    simp only[aV,ho];split
    . exact qj.br qj.ret qj.ret
    . exact qj.fail
  | unOp op t x=>
    simp only[aV,ho];split
    . exact qj.ret
    . exact qj.ret
    . exact qj.fail
  | field t x f=>
    simp only[aV,ho];split
    . split
      . split
        . exact qj.ret
        . exact qj.fail
      . exact qj.fail
    . exact qj.fail
  | extract x i=>simp only[aV,ho];exact qj.ofMap (f:=fun v=>v)
  | makeFunc f first caps=>
    cases f with
    | func f=>
      simp only[aV,ho];split
      . exact qj.ret
      . exact qj.fail
    | _=>simp only[aV,ho];exact qj.fail
  | load t x=>
    have:=ha (x:=x) (by unfold rO;rw[ho]) (by rw[ho];simp[Op.operands]);simp only[aV,ho];rw[aj1 _ _ this];split
    . exact qj.ofMap (f:=fun v=>v)
    . exact qj.fail
  | nilCheck x=>
    have:=ha (x:=x) (by unfold rO;rw[ho]) (by rw[ho];simp[Op.operands]);simp only[aV,ho];cases hv:ρ x with
    | addr r p=>
      rw[hv]at this;simp only;rw[Cf this (by simp[AV.roots])];cases S.focus r p with
      | none=>exact qj.fail
      | some d=>exact qj.ret
    | cj t y=>exact qj.ret
    | gF f c=>exact qj.ret
    | _=>exact qj.fail
  | fieldAddr s x f=>have:=ha (x:=x) (by unfold rO;rw[ho]) (by rw[ho];simp[Op.operands]);simp only[aV,ho];rw[agF _ _ _ this];exact qj.ofMap (f:=fun v=>v)
  | indexAddr t x i=>
    have:=ha (x:=x) (by unfold rO;rw[ho]) (by rw[ho];simp[Op.operands]);simp only[aV,ho];rw[aj0 _ _ _ this];split
    . exact qj.br qj.ret qj.fail
    . exact qj.fail
  | index t x i=>
    simp only[aV,ho];split
    . exact qj.br qj.ret qj.fail
    . exact qj.fail
  | convert s d x=>
    have:=ha (x:=x) (by unfold rO;rw[ho]) (by rw[ho];simp[Op.operands]);simp only[aV,ho];split
    . exact qj.ret
    . exact qj.ret
    . rw[Mb _ _ this]
      split
      . exact qj.ret
      . exact qj.fail
    . exact qj.fail
  | binOp op t x y t2=>
    have:=ha (x:=x) (by unfold rO;rw[ho]) (by rw[ho];simp[Op.operands]);simp only[aV,ho];rw[P1 _ this];split
    . split
      . exact qj.nil (f:=fun b=>.val .bool b)
      . exact qj.nil (f:=fun b=>.val .bool b)
      . exact qj.fail
    . split
      . exact qj.ret
      . exact qj.br qj.ret qj.fail
      . exact qj.br qj.fail qj.ret
      . exact qj.fail
  | assign x=>
    simp only[dN,ho]at hw;simp only[aV,ho];cases hv:ρ x with
    | b9 r p s=>rw[hv]at hw;simp at hw
    | pair a b=>rw[hv]at hw;simp at hw
    | _=>exact qj.ret
  | build t parts=>
    simp only[dN,ho]at hw;split at hw
    . rename_i hc
      simp only[bI]at hc;simp only[aV,ho];split
      . obtain⟨r,h1,h2⟩:=Rk (C.ty t) (parts.toList.map fun p=>(p.1,ρ p.2)) (Mk.z5 hint (C.ty t),(C.ty t).zero) (abF hc.1 hint) (by
          have:=hc.2;unfold TN at this;simpa [List.all_map] using this)
        rw[h1 S,h1 S'];cases r with
        | none=>exact qj.fail
        | some z=>exact Sk hl (h2 z rfl)
      . exact qj.fail
    . simp at hw
  | call c=>
    have hb:rO o=false:=by unfold rO;rw[ho]
    cases hc:c.callee with
    | builtin b=>
      cases b with
      | len=>
        simp only[aV,ho,hc];split
        . exact qj.ret
        . rename_i x _ _ _ hargs _
          obtain⟨u,vI,C4⟩:∃u,u∈c.args.toList/\ρ u=x:=by
            have:x∈c.args.toList.map ρ:=by rw[hargs];simp
            simpa using this
          have:=ha (x:=u) hb (by rw[ho];simp only[Op.operands,Call.operands,sv];right;simpa using vI);rw[C4]at this;rw[P1 _ this];exact qj.ofMap (f:=fun n=>.val (.int .i64) n)
        all_goals first | (exfalso;contradiction) | exact qj.fail
      | min=>
        simp only[aV,ho,hc];split
        all_goals first
          | (exfalso;contradiction)
          | exact qj.fail
          | (split
             . split
               . exact qj.ret
               . exact qj.fail
             . exact qj.fail)
      | max=>
        simp only[aV,ho,hc];split
        all_goals first
          | (exfalso;contradiction)
          | exact qj.fail
          | (split
             . split
               . exact qj.ret
               . exact qj.fail
             . exact qj.fail)
      | _=>simp[dN,ho,hc]at hw
    | value f=>
      have hf:=ha (x:=f) hb (by rw[ho];simp[Op.operands,Call.operands,hc]);have hargs:gX (qk (c.args.toList.map ρ)) S S':=by
        intro r hr';have key:∀(l:List Operand),(∀x∈l,gX (ρ x).roots S S')->r∈qk (l.map ρ)->S'.root r=S.root r:=by
          intro l
          induction l with
          | nil=>intro _ h;simp[qk]at h
          | cons x l ih=>
            intro hx h;simp only[cv,qk,bN]at h;rcases h with h | h
            . exact hx x e7 r h
            . exact ih (fun y hy=>hx y (cF _ hy)) h
        exact key c.args.toList (fun x hx=>ha hb (by rw[ho];simp only[Op.operands,Call.operands,sv];right;simpa using hx)) hr'
      simp only[aV,ho,hc];simp only[dN,ho,hc]at hw;cases hv:ρ f with
      | gF g caps=>
        rw[hv]at hw hf;simp only at hw⊢;split at hw
        . simp at hw
        rename_i vH;simp only[qM,af vH];split at hw
        . rename_i hq
          refine abP (A:={ A with sh:=hint }) (A':={ A' with sh:=hint }) rfl hl hq ?_;intro r hr';rcases(qzc _ _ r).1 hr' with h | h
          . exact hargs r h
          . exact hf r (by simp only[AV.roots];exact VN _ r h)
        . simp at hw
      | ew cl=>
        simp only;rw[P3 _ _ hargs];split
        . split
          . exact qj.call fun x=>qj.ret
          . exact qj.fail
        . exact qj.fail
      | _=>exact qj.fail
    | invoke r m=>simp only[aV,ho,hc];exact qj.fail
  | _=>simp[dN,ho]at hw
end
end
structure fP (W:List Nat) (S S':aO):Prop where
 len:S'.length=S.length
 root:∀r,r∉W->S'.root r=S.root r
theorem fP.refl(W:List Nat)(S:aO):fP W S S:=⟨rfl,fun _ _=>rfl⟩
theorem fP.trans{W:List Nat}{a b c:aO}(h:fP W a b)(k:fP W b c):fP W a c:=⟨k.len.trans h.len,fun r hr=>(k.root r hr).trans (h.root r hr)⟩
theorem fP.mono{W W':List Nat}{a b:aO}(h:fP W a b)(hs:∀r∈W,r∈W'):fP W' a b:=⟨h.len,fun r hr=>h.root r fun hh=>hr (hs r hh)⟩
theorem fP.set(S:aO)(q:Nat)(x:Option aC):fP [q] S (S.aI q x):=by refine⟨by simp[aO.bW],fun r hr=>?_⟩;simp only[d6]at hr;simp only[aO.ia,aO.bW,List.getD,jT];rw[af (fun h=>hr h.symm)]
theorem vc:∀(t:Ty)(a:AV){S S':aO}{m:Mk}{x:t.den},tk S t a=some (m,x,S')->fP a.roots S S'
 | t,.val t' y,S,S',m,x,h=>by
  have:(qbv t' t y).bind (fun x=>some (Mk.no,x,S))=some (m,x,S'):=by cases t<;>simpa only [tk] using h
  simp only[cL,aK,aY]at this;obtain⟨_,_,_,_,rfl⟩:=this;exact fP.refl _ _
 | t,.cG b,S,S',m,x,h=>by
  cases t<;>simp[tk]at h;obtain⟨_,_,rfl⟩:=h;exact fP.refl _ _
 | t,.unit,S,S',m,x,h=>by
  cases t<;>simp[tk]at h;obtain⟨_,rfl⟩:=h;exact fP.refl _ _
 | t,.fl,S,S',m,x,h=>by
  cases t<;>simp[tk]at h;obtain⟨_,_,rfl⟩:=h;exact fP.refl _ _
 | t,.b9 r p s,S,S',m,x,h=>by
  cases t with
  | sl e=>
   simp only[tk]at h;split at h
   .split at h
    .split at h
     .simp only[cL,aK,aY]at h;obtain⟨_,_,_,_,_,_,rfl⟩:=h;exact fP.set _ _ _
     .simp at h
    .simp at h
   .simp at h
  | _=>simp[tk]at h
 | t,.pair u v,S,S',m,x,h=>by
  cases t with
  | pair a b=>simp only[tk,cL,aK,aY]at h;obtain⟨⟨m1,x1,S1⟩,h1,⟨m2,x2,S2⟩,h2,_,_,rfl⟩:=h;exact((vc a u h1).mono fun r hr=>by simp[AV.roots,hr]).trans ((vc b v h2).mono fun r hr=>by simp[AV.roots,hr])
  | _=>simp[tk]at h
 | t,.undef,S,S',m,x,h=>by cases t<;>simp[tk]at h
 | t,.skip,S,S',m,x,h=>by cases t<;>simp[tk]at h
 | t,.view _ _ _ _ _,S,S',m,x,h=>by cases t<;>simp[tk]at h
 | t,.addr _ _,S,S',m,x,h=>by cases t<;>simp[tk]at h
 | t,.cj _ _,S,S',m,x,h=>by cases t<;>simp[tk]at h
 | t,.jH _,S,S',m,x,h=>by cases t<;>simp[tk]at h
 | t,.gF _ _,S,S',m,x,h=>by cases t<;>simp[tk]at h
 | t,.ew _,S,S',m,x,h=>by cases t<;>simp[tk]at h
theorem aky(t:Ty)(a:AV){S S':aO}{hint:Bool}{m:Mk}{x:t.den}(h:TT S hint t a=some (m,x,S')):fP a.roots S S':=by
 simp only[TT,cL]at h;obtain⟨⟨m1,x1,S1⟩,h1,h⟩:=h;split at h
 .split at h
  .simp only[aK,aY]at h;obtain⟨rfl,rfl,rfl⟩:=h;exact vc t a h1
  .simp at h
 .simp only[aK,aY]at h;obtain⟨rfl,rfl,rfl⟩:=h;exact vc t a h1
theorem vU{A:bX}{S S':aO}{d:Option Nat}{site:Nat}{t:Ty}{m:Mk}{x:t.den}{mem:Bool}{β:Bool}{v:AV}(h:(dR A S d site t m x mem).dec β=some (v,S')):fP d.toList S S':=by
 cases d with
 | none=>simp only[dR,Tr.dec,aK,aY]at h;rw[<-h.2];exact fP.refl _ _
 | some d=>
  simp only[dR]at h;split at h
  .simp[Tr.dec]at h
  .split at h
   .split at h
    .simp only[Tr.dec,aK,aY]at h;rw[<-h.2];exact fP.set _ _ _
    .simp[Tr.dec]at h
   .split at h
    .simp only[Tr.dec,aK,aY]at h;rw[<-h.2];exact fP.refl _ _
    .split at h
     .simp only[Tr.dec,aK,aY]at h;rw[<-h.2];exact fP.set _ _ _
     .simp[Tr.dec]at h
theorem QX{T:Ty}:∀(l:List (Nat×AV))(acc:Mk×T.den){S S':aO}{m:Mk}{x:T.den},oE S T acc l=some (m,x,S')->fP (qk (l.map (·.2))) S S'
 | [],acc,S,S',m,x,h=>by
  simp only[oE,aK,aY]at h;obtain⟨_,_,rfl⟩:=h;exact fP.refl _ _
 | (i,v)::l,acc,S,S',m,x,h=>by
  simp only[oE,cL]at h;obtain⟨d,_,⟨m1,x1,S1⟩,h1,r,_,h2⟩:=h;exact((vc _ v h1).mono fun r hr=>by simp[qk,hr]).trans ((QX l _ h2).mono fun r hr=>by simp[qk,hr])
theorem MH{e:Ty}:∀(l:List (Nat×AV))(acc:Mk×List e.den){S S':aO}{m:Mk}{x:List e.den},tB S e acc l=some (m,x,S')->fP (qk (l.map (·.2))) S S'
 | [],acc,S,S',m,x,h=>by
  simp only[tB,aK,aY]at h;obtain⟨_,_,rfl⟩:=h;exact fP.refl _ _
 | (i,v)::l,acc,S,S',m,x,h=>by
  simp only[tB]at h;split at h
  .simp only[cL]at h;obtain⟨⟨m1,x1,S1⟩,h1,h2⟩:=h;exact((vc _ v h1).mono fun r hr=>by simp[qk,hr]).trans ((MH l _ h2).mono fun r hr=>by simp[qk,hr])
  .simp at h
theorem E_:∀(ks:List PK)(aJ:List AV){S S':aO}{g:jr ks},fY S ks aJ=some (g,S')->fP (mh ks aJ) S S'
 | [],[],S,S',g,h=>by
  simp only[fY,aK,aY]at h;rw[h.2];exact fP.refl _ _
 | [],_::_,S,S',g,h=>by simp[fY]at h
 | k::ks,[],S,S',g,h=>by cases k<;>simp[fY]at h
 | k::ks,a::aJ,S,S',g,h=>by
  have hsub:∀r∈mh ks aJ,r∈mh (k::ks) (a::aJ):=by intro r hr;simp only[mh];split<;>simp[hr]
  cases k with
  | own t m=>
   simp only[fY,cL]at h;obtain⟨⟨m1,x1,S1⟩,h1,h⟩:=h;split at h
   .simp only[cL,aK,aY]at h;obtain⟨⟨g2,S2⟩,h2,_,rfl⟩:=h;exact((vc _ a h1).mono fun r hr=>by simp[mh,PK.plain,hr]).trans ((E_ ks aJ h2).mono hsub)
   .simp at h
  | val t=>exact(E_ ks aJ (by simpa only [fY] using h)).mono hsub
  | cC t m m'=>exact(E_ ks aJ (by simpa only [fY] using h)).mono hsub
  | cO t m m'=>exact(E_ ks aJ (by simpa only [fY] using h)).mono hsub
  | cm t=>exact(E_ ks aJ (by simpa only [fY] using h)).mono hsub
  | fn=>exact(E_ ks aJ (by simpa only [fY] using h)).mono hsub
theorem Gi:∀(a:AV){r:Nat}{p:Path},kD a=some (r,p)->r∈a.roots
 | .b9 r' p' s,r,p,h=>by simp only[kD,aK,aY]at h;simp[AV.roots,h.1]
 | .pair a b,r,p,h=>by
  simp only[kD]at h;simp only[AV.roots,bN];split at h
  .rename_i r1 p1 h1;simp only[aK,aY]at h;obtain⟨rfl,_⟩:=h;exact .inl (Gi a h1)
  .split at h
   .rename_i r1 p1 h1;simp only[aK,aY]at h;obtain⟨rfl,_⟩:=h;exact .inr (Gi b h1)
   .simp at h
 | .undef,_,_,h=>by simp[kD]at h
 | .skip,_,_,h=>by simp[kD]at h
 | .cG _,_,_,h=>by simp[kD]at h
 | .unit,_,_,h=>by simp[kD]at h
 | .fl,_,_,h=>by simp[kD]at h
 | .val _ _,_,_,h=>by simp[kD]at h
 | .view _ _ _ _ _,_,_,h=>by simp[kD]at h
 | .addr _ _,_,_,h=>by simp[kD]at h
 | .cj _ _,_,_,h=>by simp[kD]at h
 | .jH _,_,_,h=>by simp[kD]at h
 | .gF _ _,_,_,h=>by simp[kD]at h
 | .ew _,_,_,h=>by simp[kD]at h
theorem ab_{S S':aO}{site:Nat}{t:Ty}{a:AV}{m:Mk}{o:t.den}(h:xR S site t a m o=some S'):fP a.roots S S':=by
 unfold xR at h;split at h
 .simp only[aK]at h;rw[h];exact fP.refl _ _
 .rename_i r p hp;split at h
  .simp only[cL]at h;obtain⟨d,_,h⟩:=h;split at h
   .simp only[cL]at h;obtain⟨y,_,h⟩:=h;split at h
    .simp at h
    .simp only[cL,aK]at h;obtain⟨_,_,rfl⟩:=h;exact(fP.set _ _ _).mono fun r' hr=>by simp only[d6]at hr;subst hr;exact Gi a hp
   .simp at h
  .simp at h
theorem E9{site:Nat}:∀(ks:List PK)(aJ:List AV)(o:dG ks){S S':aO},f_ S site ks aJ o=some S'->fP (mh ks aJ) S S'
 | [],[],o,S,S',h=>by
  simp only[f_,aK]at h;rw[h];exact fP.refl _ _
 | [],_::_,o,S,S',h=>by simp[f_]at h
 | k::ks,[],o,S,S',h=>by cases k<;>simp[f_]at h
 | k::ks,a::aJ,o,S,S',h=>by
  have hsub:∀r∈mh ks aJ,r∈mh (k::ks) (a::aJ):=by intro r hr;simp only[mh];split<;>simp[hr]
  cases k with
  | cC t m m'=>
   cases a with
   | addr q p=>
    cases p with
    | nil=>
     simp only[f_]at h;split at h
     .exact((fP.set _ _ _).mono fun r hr=>by simp only[d6]at hr;subst hr;simp[mh,PK.plain,AV.roots]).trans ((E9 ks aJ o.2 h).mono hsub)
     .simp at h
    | cons _ _=>simp[f_]at h
   | _=>simp[f_]at h
  | cO t m m'=>simp only[f_,cL]at h;obtain⟨S1,h1,h2⟩:=h;exact((ab_ h1).mono fun r hr=>by simp[mh,PK.plain,hr]).trans ((E9 ks aJ o.2 h2).mono hsub)
  | val t=>exact(E9 ks aJ o (by simpa only [f_] using h)).mono hsub
  | own t m=>exact(E9 ks aJ o (by simpa only [f_] using h)).mono hsub
  | cm t=>exact(E9 ks aJ o (by simpa only [f_] using h)).mono hsub
  | fn=>exact(E9 ks aJ o (by simpa only [f_] using h)).mono hsub
theorem ME{A:bX}{S S':aO}{d:Option Nat}{site:Nat}:∀(rs:List RK)(r:f7 rs){β:Bool}{v:AV},(mj A S d site rs r).dec β=some (v,S')->fP d.toList S S'
 | [],r,β,v,h=>by
  simp only[mj,Tr.dec,aK,aY]at h;rw[<-h.2];exact fP.refl _ _
 | [.val t m],r,β,v,h=>by
  simp only[mj]at h;split at h
  .split at h
   .simp only[Tr.dec,aK,aY]at h;rw[<-h.2];exact fP.refl _ _
   .simp[Tr.dec]at h
  .split at h
   .exact vU h
   .simp[Tr.dec]at h
 | [.ptr t m],r,β,v,h=>by
  simp only[mj]at h;split at h
  .exact vU h
  .simp[Tr.dec]at h
 | q1::q2::rs,r,β,v,h=>by
  have h':(Cs A S d site (q1::q2::rs) r).dec β=some (v,S'):=by cases q1<;>simpa only [mj] using h
  unfold Cs at h';split at h'
  .cases d with
   | none=>simp only[Tr.dec,aK,aY]at h';rw[<-h'.2];exact fP.refl _ _
   | some d=>
    simp only at h';cases hl:dR A S (some d) site (jq (q1::q2::rs)) (pL (q1::q2::rs)) (kg (q1::q2::rs) r) false with
    | ret z=>obtain⟨v1,S1⟩:=z;rw[hl]at h';simp only[Tr.dec,aK,aY]at h';rw[<-h'.2];exact vU (β:=true) (by rw[hl];rfl)
    | _=>rw[hl]at h';simp[Tr.dec]at h'
  .simp[Tr.dec]at h'
section
variable {C:Ctx} {D:Den C}
theorem Ho{A:bX}{S S':aO}{d:Option Nat}{site:Nat}{g:FuncId}{aJ:List AV}{β:Bool}{v:AV}(h:(rQ C D A S d site g aJ).dec β=some (v,S')):fP (d.toList++mh (C.sig g).params aJ) S S':=by
 unfold rQ at h;split at h
 .simp[Tr.dec]at h
 .rename_i gd S1 h1;split at h
  .simp[Tr.dec]at h
  .rename_i od S2 h2;split at h
   .simp[Tr.dec]at h
   .split at h
    .simp only[Tr.dec,cL]at h;obtain⟨r,_,h⟩:=h;have f1:fP (d.toList++mh (C.sig g).params aJ) S S1:=(E_ _ _ h1).mono fun r hr=>by simp[hr]
     split at h
     .exact f1.trans ((ME _ _ h).mono fun r hr=>by simp[hr])
     .split at h
      .cases hlo:vV (C.sig g).params aJ with
       | false=>rw[hlo]at h;simp[Tr.dec]at h
       | true=>
       rw[hlo]at h;simp only[Tr.dec]at h;split at h
       .simp[Tr.dec]at h
       .rename_i S3 h3;exact f1.trans (((E9 _ _ _ h3).mono fun r hr=>by simp[hr]).trans ((ME _ _ h).mono fun r hr=>by simp[hr]))
      .simp[Tr.dec]at h
    .simp[Tr.dec]at h
theorem UL:∀(ks:List PK)(aJ:List AV),∀r∈mh ks aJ,r∈qk aJ
 | [],_,r,h=>by simp[mh]at h
 | k::ks,[],r,h=>by simp[mh]at h
 | k::ks,a::aJ,r,h=>by
  simp only[mh]at h;simp only[qk,bN];split at h
  .exact .inr (UL ks aJ r h)
  .rcases bN.1 h with h | h
   .exact .inl h
   .exact .inr (UL ks aJ r h)
theorem Z4:∀(ks:List PK)(aJ:List AV){S:aO}{z:List AV×aO},kY S ks aJ=some z->fP (qk aJ) S z.2/\mh ks z.1=mh ks aJ
 | [],[],S,z,h=>by
  simp only[kY,aK]at h;subst h;exact⟨fP.refl _ _,rfl⟩
 | [],_::_,S,z,h=>by simp[kY]at h
 | k::ks,[],S,z,h=>by cases k<;>simp[kY]at h
 | k::ks,a::aJ,S,z,h=>by
  have plain:(kY S ks aJ).map (fun z=>(a::z.1,z.2))=some z->fP (qk (a::aJ)) S z.2/\mh (k::ks) z.1=mh (k::ks) (a::aJ):=by intro h;simp only[fo]at h;obtain⟨z',h1,rfl⟩:=h;obtain⟨f,e⟩:=Z4 ks aJ h1;exact⟨f.mono fun r hr=>by simp[qk,hr],by simp only[mh,e]⟩
  cases k with
  | val t=>
   simp only[kY]at h;split at h
   .exact plain h
   .split at h
    .rename_i m y S1 r9;split at h
     .simp only[fo]at h;obtain⟨z',h1,rfl⟩:=h;obtain⟨f,e⟩:=Z4 ks aJ h1;exact⟨((vc _ _ r9).mono fun r hr=>by simp[qk,hr]).trans (f.mono fun r hr=>by simp[qk,hr]),by simp only[mh,PK.plain,aX,e]⟩
     .simp at h
    .simp at h
  | _=>exact plain (by simpa only [kY] using h)
theorem abQ{A:bX}{S S':aO}{d:Option Nat}{site:Nat}{g:FuncId}{aJ:List AV}{β:Bool}{v:AV}(h:(qM C D A S d site g aJ).dec β=some (v,S')):fP (d.toList++qk aJ) S S':=by
 unfold qM at h;split at h
 .split at h
  .rename_i z hz;obtain⟨f,e⟩:=Z4 _ _ hz;have f2:=Ho h;rw[e]at f2;exact(f.mono fun r hr=>by simp[hr]).trans (f2.mono fun r hr=>by
    rcases bN.1 hr with hr | hr
    .simp[hr]
    .exact bN.2 (.inr (UL _ _ r hr)))
  .simp[Tr.dec]at h
 .exact(Ho h).mono fun r hr=>by
   rcases bN.1 hr with hr | hr
   .simp[hr]
   .exact bN.2 (.inr (UL _ _ r hr))
theorem Ru{A:bX}{S S':aO}{d:Option Nat}{site:Nat}{hint:Bool}{u:AV}{β:Bool}{v:AV}(h:(Fj A S d site hint u).dec β=some (v,S')):fP (d.toList++u.roots) S S':=by
 unfold Fj at h;split at h
 .split at h
  .rename_i m y S1 h1;have f1:fP (d.toList++u.roots) S S1:=(vc _ _ h1).mono fun r hr=>by simp[hr]
   split at h
   .split at h
    .simp only[Tr.dec,aK,aY]at h;rw[<-h.2];exact f1
    .simp[Tr.dec]at h
   .exact f1.trans ((vU h).mono fun r hr=>by simp[hr])
  .simp[Tr.dec]at h
 .simp[Tr.dec]at h
theorem UF{ρ:Operand->AV}(ps:Array (Nat×Operand)):qk ((ps.toList.map fun p=>(p.1,ρ p.2)).map (·.2))=qk ((ps.toList.map (·.2)).map ρ):=by simp only[BO];rfl
theorem abW{A:bX}{ρ:Operand->AV}{S S':aO}{site:Nat}{hint:Bool}{o:Oper}{W:List Nat}(hw:dN C ρ o=some W){β:Bool}{v:AV}
  (h:(aV C D A ρ S site hint o).dec β=some (v,S')):fP W S S':=by
 have hin:∀{x:Operand},x∈o.op.operands->∀r∈(ρ x).roots,r∈qk (o.op.operands.toList.map ρ):=fun hx r hr=>q9k (eI.2 ⟨_,by simpa using hx,rfl⟩) r hr;cases ho:o.op with
 | assign x=>
  simp only[dN,ho]at hw;simp only[aV,ho]at h;have hx:=hin (x:=x) (by rw[ho];simp[Op.operands]);rw[ho]at hx;cases hv:ρ x with
  | b9 r p s=>
   rw[hv]at hw h hx;simp only[aK]at hw;subst hw;simp only at h;split at h
   .simp only[Tr.dec,aK,aY]at h;rw[<-h.2];exact fP.refl _ _
   .exact(Ru h).mono fun r hr=>by rcases bN.1 hr with h | h;exact bN.2 (.inl h);exact bN.2 (.inr (hx r h))
  | pair a b=>rw[hv]at hw h hx;simp only[aK]at hw;subst hw;exact(Ru h).mono fun r hr=>by rcases bN.1 hr with h | h;exact bN.2 (.inl h);exact bN.2 (.inr (hx r h))
  | _=>rw[hv]at hw;simp at hw
 | alloc t=>
  simp only[dN,ho,aK]at hw;subst hw;simp only[aV,ho]at h;split at h
  .exact(vU h).mono fun r hr=>by simp[hr]
  .simp[Tr.dec]at h
 | box t x=>
  simp only[dN,ho,aK]at hw;subst hw;have hx:=hin (x:=x) (by rw[ho];simp[Op.operands]);rw[ho]at hx;simp only[aV,ho]at h;split at h
  .split at h
   .rename_i m y S1 h1;have f1:=(vc _ _ h1).mono (W':=o.dst.toList++qk ((Op.box t x).operands.toList.map ρ)) fun r hr=>bN.2 (.inr (hx r hr));split at h
    .split at h
     .exact f1.trans ((vU h).mono fun r hr=>by simp[hr])
     .simp[Tr.dec]at h
    .exact f1.trans ((vU h).mono fun r hr=>by simp[hr])
   .simp[Tr.dec]at h
  .simp[Tr.dec]at h
 | build t ps=>
  simp only[dN,ho]at hw;split at hw
  .simp at hw
  simp only[aK]at hw;subst hw;simp only[aV,ho]at h;split at h
  .split at h
   .rename_i m y S1 h1;have f1:=(QX _ _ h1).mono (W':=o.dst.toList++qk ((Op.build t ps).operands.toList.map ρ)) fun r hr=>by
     rw[UF]at hr;exact bN.2 (.inr (by simpa [Op.operands] using hr))
    exact f1.trans ((vU h).mono fun r hr=>by simp[hr])
   .simp[Tr.dec]at h
  .simp[Tr.dec]at h
 | buildSlice t n ps=>
  simp only[dN,ho,aK]at hw;subst hw;simp only[aV,ho]at h;split at h
  .split at h
   .rename_i m y S1 h1;have f1:=(MH _ _ h1).mono (W':=o.dst.toList++qk ((Op.buildSlice t n ps).operands.toList.map ρ)) fun r hr=>by
     rw[UF]at hr;exact bN.2 (.inr (by simpa [Op.operands] using hr))
    split at h
    .split at h
     .split at h
      .simp only[Tr.dec,aK,aY]at h;rw[<-h.2];exact f1
      .simp[Tr.dec]at h
     .exact f1.trans ((vU h).mono fun r hr=>by simp[hr])
    .simp[Tr.dec]at h
   .simp[Tr.dec]at h
  .simp[Tr.dec]at h
 | store t x y=>
  simp only[dN,ho,aK]at hw;subst hw;have hx:=hin (x:=x) (by rw[ho];simp[Op.operands]);have hy:=hin (x:=y) (by rw[ho];simp[Op.operands]);rw[ho]at hx hy;simp only[aV,ho]at h;split at h
  .cases hs:Br S site hint (C.ty t) (ρ x) (ρ y) with
   | none=>rw[hs]at h;simp[Tr.of,Tr.dec]at h
   | some S2=>
    rw[hs]at h;simp only[d7,Tr.of,Tr.dec,aK,aY]at h;rw[<-h.2];unfold Br at hs;split at hs
    .rename_i r p hv;simp only[cL]at hs;obtain⟨⟨m,z,S1⟩,h1,hs⟩:=hs;split at hs
     .simp only[cL]at hs;obtain⟨dd,_,hs⟩:=hs;split at hs
      .simp only[cL,aK]at hs;obtain⟨_,_,rfl⟩:=hs;refine((aky _ _ h1).mono fun r hr=>bN.2 (.inr (hy r hr))).trans ((fP.set _ _ _).mono fun r' hr=>?_);simp only[d6]at hr;subst hr;exact bN.2 (.inr (hx _ (by rw[hv];simp[AV.roots])))
      .simp at hs
     .simp at hs
    .simp at hs
  .simp[Tr.dec]at h
 | makeSlice t x y=>
  simp only[dN,ho,aK]at hw;subst hw;simp only[aV,ho]at h;split at h
  .simp only[Tr.dec]at h;split at h
   .exact(vU h).mono fun r hr=>by simp[hr]
   .simp at h
  .simp[Tr.dec]at h
 | slice t x lo hi mx=>
  simp only[dN,ho,aK]at hw;subst hw;have hx:=hin (x:=x) (by rw[ho];simp[Op.operands]);rw[ho]at hx;cases mx with
  | some _=>simp only[aV,ho,Tr.dec]at h;simp at h
  | none=>
   simp only[aV,ho]at h;unfold uB at h;split at h
   .split at h
    .simp only[Tr.dec]at h;split at h
     .simp only[aK,aY]at h;rw[<-h.2];exact fP.refl _ _
     .simp at h
    .simp[Tr.dec]at h
   .split at h
    .split at h
     .simp only[Tr.dec]at h;split at h
      .simp only[aK,aY]at h;rw[<-h.2];exact fP.refl _ _
      .simp at h
     .simp[Tr.dec]at h
    .simp[Tr.dec]at h
   .rename_i r p s e hv hT;split at h
    .split at h
     .rename_i m xs S2 h1;have f1:=(vc _ _ h1).mono (W':=o.dst.toList++qk ((Op.slice t x lo hi none).operands.toList.map ρ)) fun r hr=>bN.2 (.inr (hx r (by rw[hv];exact hr)));split at h
      .split at h
       .simp only[Tr.dec]at h;split at h
        .exact f1.trans ((vU h).mono fun r hr=>by simp[hr])
        .simp at h
       .simp[Tr.dec]at h
      .simp[Tr.dec]at h
     .simp[Tr.dec]at h
    .unfold uJ at h;split at h
     .split at h
      .split at h
       .simp only[Tr.dec]at h;split at h
        .simp only[aK,aY]at h;rw[<-h.2];exact fP.refl _ _
        .simp at h
       .simp[Tr.dec]at h
      .simp[Tr.dec]at h
     .simp[Tr.dec]at h
   .simp[Tr.dec]at h
 | call c=>
  have hargs:∀(a:AV),a∈c.args.toList.map ρ->∀r∈a.roots,r∈qk (o.op.operands.toList.map ρ):=by intro a ha r hr;obtain⟨x,hx,rfl⟩:=eI.1 ha;exact hin (x:=x) (by rw[ho];simp only[Op.operands,Call.operands,sv];right;simpa using hx) r hr
  cases hc:c.callee with
  | builtin b=>
   cases b with
   | append=>
    simp only[dN,ho,hc,aK]at hw;subst hw;rw[ho]at hargs;simp only[aV,ho,hc]at h;split at h<;>try (first | (exfalso;contradiction) | (simp[Tr.dec]at h;done))
    rename_i x0 y0 e e' _ _ hmap _;split at h
    .cases hint with
     | true=>
      simp only[aX]at h;have hx0:=hargs x0 (by rw[hmap];simp);unfold qN at h;split at h
      .split at h
       .split at h
        .split at h
         .split at h
          .simp only[Tr.dec]at h;split at h
           .simp only[aK,aY]at h;rw[<-h.2];exact(fP.set _ _ _).mono fun r' hr=>by
             simp only[d6]at hr;subst hr;exact bN.2 (.inr (hx0 _ (by simp[AV.roots])))
           .simp at h
          .simp[Tr.dec]at h
         .simp[Tr.dec]at h
        .simp[Tr.dec]at h
       .simp[Tr.dec]at h
      .simp[Tr.dec]at h
     | false=>
     simp only[fe,dV]at h;unfold DA at h;have hx0:=hargs x0 (by rw[hmap];simp);have hy0:=hargs y0 (by rw[hmap];simp);split at h
     .rename_i m xs S1 h1;split at h
      .rename_i my ys S2 h2;have f1:=((vc _ _ h1).mono (W':=o.dst.toList++qk ((Op.call c).operands.toList.map ρ)) fun r hr=>bN.2 (.inr (hx0 r hr))).trans
        ((vc _ _ h2).mono fun r hr=>bN.2 (.inr (hy0 r hr)))
       split at h
       .split at h
        .simp only[Tr.dec]at h;split at h
         .exact f1.trans ((vU h).mono fun r hr=>by simp[hr])
         .simp at h
        .simp[Tr.dec]at h
       .simp[Tr.dec]at h
      .simp[Tr.dec]at h
     .simp[Tr.dec]at h
    .simp[Tr.dec]at h
   | clear=>simp only[dN,ho,hc,aK]at hw;subst hw;rw[ho]at hargs;simp only[aV,ho,hc]at h;split at h<;>try (first | (exfalso;contradiction) | (simp[Tr.dec]at h;done))
   | copy=>
    simp only[dN,ho,hc,aK]at hw;subst hw;rw[ho]at hargs;simp only[aV,ho,hc]at h;split at h<;>try (first | (exfalso;contradiction) | (simp[Tr.dec]at h;done))
    rename_i x0 y0 e _ _ hmap _;have hx0:=hargs x0 (by rw[hmap];simp);unfold xZ at h;split at h
    .split at h
     .split at h
      .split at h
       .split at h
        .split at h
         .simp only[Tr.dec]at h;split at h
          .simp only[aK,aY]at h;rw[<-h.2];exact(fP.set _ _ _).mono fun r' hr=>by
            simp only[d6]at hr;subst hr;exact bN.2 (.inr (hx0 _ (by simp[AV.roots])))
          .simp only[aK,aY]at h;rw[<-h.2];exact fP.refl _ _
         .simp[Tr.dec]at h
        .simp[Tr.dec]at h
       .simp[Tr.dec]at h
      .simp[Tr.dec]at h
     .simp[Tr.dec]at h
    .simp[Tr.dec]at h
   | len=>simp[dN,ho,hc]at hw
   | min=>simp[dN,ho,hc]at hw
   | max=>simp[dN,ho,hc]at hw
   | _=>simp only[aV,ho,hc,Tr.dec]at h;simp at h
  | value f=>
   simp only[dN,ho,hc]at hw;simp only[aV,ho,hc]at h;cases hv:ρ f with
   | gF g caps=>
    rw[hv]at hw h;simp only at hw h;split at hw
    .simp only[aK]at hw;subst hw;refine(abQ h).mono fun r hr=>?_;rcases bN.1 hr with hr | hr
     .exact bN.2 (.inl hr)
     .refine bN.2 (.inr ?_);rw[qzc]at hr;rcases hr with hr | hr
      .simp only[Op.operands,Call.operands,hc];have:∀l:List AV,∀a,r∈qk l->r∈qk (a::l):=fun l a h=>by simp[qk,h]
       simpa using this _ _ hr
      .have h1:=VN caps r hr;have h2:=hin (x:=f) (by rw[ho];simp[Op.operands,Call.operands,hc]) r (by rw[hv];simpa [AV.roots] using h1);rw[ho]at h2;exact h2
    .rename_i vH;simp only[qM,af vH]at h;split at hw
     .simp at hw
     .simp only[aK]at hw;subst hw;exact Ho h
   | ew cl=>rw[hv]at hw;simp at hw
   | _=>rw[hv]at h;simp[Tr.dec]at h
  | invoke r m=>simp only[aV,ho,hc,Tr.dec]at h;simp at h
 | _=>first | (simp[dN,ho]at hw;done) | (simp only[aV,ho,Tr.dec]at h;simp at h)
end
end Go.V
namespace Go.V
noncomputable section
open Go
theorem nv(S:aO)(q:Nat)(x:Option aC)(r:Nat):(S.aI q x).root r=if r=q/\q<S.length then x else S.root r:=by
 simp only[aO.ia,aO.bW,List.getD,jT];by_cases h:q=r
 .subst h;by_cases hl:q<S.length
  .simp[hl]
  .simp[hl]
 .rw[af h,af (fun k=>h k.1.symm)]
theorem J9{F:List Nat}{S T:aO}(hr:gX F S T)(hl:T.length=S.length)(q:Nat)(x:Option aC):gX F (S.aI q x) (T.aI q x):=by intro r h;rw[nv,nv,hl,hr r h]
def Lk{α:Type}(F:List Nat)(X Y:Option (α×aO)):Prop:=∀a S',X=some (a,S')->∃T',Y=some (a,T')/\gX F S' T'/\T'.length=S'.length
theorem AF{F:List Nat}:∀(t:Ty)(a:AV){S T:aO}{m:Mk}{x:t.den}{S':aO},gX F S T->T.length=S.length->(∀r∈a.roots,r∈F)->tk S t a=some (m,x,S')->
  ∃T',tk T t a=some (m,x,T')/\gX F S' T'/\T'.length=S'.length
 | t,.val t' y,S,T,m,x,S',hr,hl,hF,h=>by
  have e:∀S:aO,tk S t (.val t' y)=(qbv t' t y).bind (fun x=>some (Mk.no,x,S)):=by intro S;cases t<;>simp only[tk]
  rw[e]at h;simp only[cL,aK,aY]at h;obtain⟨z,hz,rfl,rfl,rfl⟩:=h;exact⟨T,by rw[e,hz];rfl,hr,hl⟩
 | t,.cG b,S,T,m,x,S',hr,hl,hF,h=>by
  cases t<;>simp[tk]at h;obtain⟨rfl,rfl,rfl⟩:=h;exact⟨T,by simp[tk],hr,hl⟩
 | t,.unit,S,T,m,x,S',hr,hl,hF,h=>by
  cases t<;>simp[tk]at h;obtain⟨rfl,rfl⟩:=h;exact⟨T,by simp[tk],hr,hl⟩
 | t,.fl,S,T,m,x,S',hr,hl,hF,h=>by
  cases t<;>simp[tk]at h;obtain⟨rfl,rfl,rfl⟩:=h;exact⟨T,by simp[tk],hr,hl⟩
 | t,.b9 r p s,S,T,m,x,S',hr,hl,hF,h=>by
  cases t with
  | sl e=>
   have bK:=hr r (hF r (by simp[AV.roots]));simp only[tk]at h⊢;rw[bK];cases hR:S.root r with
   | none=>rw[hR]at h;simp at h
   | some R=>
    rw[hR]at h;simp only at h⊢;cases hf:V.focus R.ty R.ms R.x p with
    | none=>rw[hf]at h;simp at h
    | some d=>
     obtain⟨dt,dm,dx⟩:=d;rw[hf]at h;cases dt with
     | sl t2=>
      cases dm with
      | own s' m2=>
       simp only at h⊢;by_cases hs:s=s'
       .rw[aj hs]at h⊢;simp only[cL,aK,aY]at h⊢;obtain⟨z,hz,m',hm',rfl,rfl,rfl⟩:=h;exact⟨_,⟨z,hz,m',hm',rfl,rfl,rfl⟩,J9 hr hl _ _,by simp[aO.bW,hl]⟩
       .rw[af hs]at h;simp at h
      | _=>simp at h
     | _=>simp at h
  | _=>simp[tk]at h
 | t,.pair u v,S,T,m,x,S',hr,hl,hF,h=>by
  cases t with
  | pair a b=>simp only[tk,cL,aK,aY]at h;obtain⟨⟨m1,x1,S1⟩,h1,⟨m2,x2,S2⟩,h2,rfl,rfl,rfl⟩:=h;obtain⟨T1,k1,k2,k3⟩:=AF a u hr hl (fun r h=>hF r (by simp[AV.roots,h])) h1;obtain⟨T2,q1,q2,q3⟩:=AF b v k2 k3 (fun r h=>hF r (by simp[AV.roots,h])) h2;exact⟨T2,by simp only[tk,k1,dF,q1],q2,q3⟩
  | _=>simp[tk]at h
 | t,.undef,S,T,m,x,S',hr,hl,hF,h=>by cases t<;>simp[tk]at h
 | t,.skip,S,T,m,x,S',hr,hl,hF,h=>by cases t<;>simp[tk]at h
 | t,.view _ _ _ _ _,S,T,m,x,S',hr,hl,hF,h=>by cases t<;>simp[tk]at h
 | t,.addr _ _,S,T,m,x,S',hr,hl,hF,h=>by cases t<;>simp[tk]at h
 | t,.cj _ _,S,T,m,x,S',hr,hl,hF,h=>by cases t<;>simp[tk]at h
 | t,.jH _,S,T,m,x,S',hr,hl,hF,h=>by cases t<;>simp[tk]at h
 | t,.gF _ _,S,T,m,x,S',hr,hl,hF,h=>by cases t<;>simp[tk]at h
 | t,.ew _,S,T,m,x,S',hr,hl,hF,h=>by cases t<;>simp[tk]at h
theorem yQ{F:List Nat}{A:bX}{S T:aO}(hr:gX F S T)(hl:T.length=S.length){d:Option Nat}{site:Nat}{t:Ty}{m:Mk}{x:t.den}{mem:Bool}{β:Bool} :
  Lk F ((dR A S d site t m x mem).dec β) ((dR A T d site t m x mem).dec β):=by
 intro v S' h;cases d with
 | none=>simp only[dR,Tr.dec,aK,aY]at h⊢;obtain⟨rfl,rfl⟩:=h;exact⟨T,⟨rfl,rfl⟩,hr,hl⟩
 | some d=>
  simp only[dR,hl]at h⊢;split at h
  .simp[Tr.dec]at h
  .rename_i h1;simp only[h1];split at h
   .rename_i h2;split at h
    .rename_i h3;simp only[Tr.dec,aK,aY]at h;obtain⟨rfl,rfl⟩:=h;exact⟨_,by simp[h2,h3,Tr.dec],J9 hr hl _ _,by simp[aO.bW,hl]⟩
    .simp[Tr.dec]at h
   .rename_i h2;split at h
    .rename_i h3;simp only[Tr.dec,aK,aY]at h;obtain⟨rfl,rfl⟩:=h;exact⟨T,by simp[h2,h3,Tr.dec],hr,hl⟩
    .rename_i h3;split at h
     .rename_i h4;simp only[Tr.dec,aK,aY]at h;obtain⟨rfl,rfl⟩:=h;refine⟨_,?_,J9 hr hl _ _,by simp[aO.bW,hl]⟩;simp only[h2,fe,dV,h3,h4,aX,Tr.dec]
     .simp[Tr.dec]at h
theorem RQ{F:List Nat}{T0:Ty}:∀(l:List (Nat×AV))(acc:Mk×T0.den){S T:aO}{m:Mk}{x:T0.den}{S':aO},gX F S T->T.length=S.length->(∀r∈qk (l.map (·.2)),r∈F)->
  oE S T0 acc l=some (m,x,S')->∃T',oE T T0 acc l=some (m,x,T')/\gX F S' T'/\T'.length=S'.length
 | [],acc,S,T,m,x,S',hr,hl,hF,h=>by
  simp only[oE,aK,aY]at h⊢;obtain⟨rfl,rfl,rfl⟩:=h;exact⟨T,⟨rfl,rfl,rfl⟩,hr,hl⟩
 | (i,v)::l,acc,S,T,m,x,S',hr,hl,hF,h=>by
  simp only[oE,cL]at h;obtain⟨d,hd,⟨m1,x1,S1⟩,h1,r,h3,h2⟩:=h;obtain⟨T1,k1,k2,k3⟩:=AF _ v hr hl (fun r h=>hF r (by simp[qk,h])) h1;obtain⟨T2,q1,q2,q3⟩:=RQ l _ k2 k3 (fun r h=>hF r (by simp only[cv,qk,bN];exact .inr h)) h2;refine⟨T2,?_,q2,q3⟩;simp only[oE,cL];exact⟨d,hd,(m1,x1,T1),k1,r,h3,q1⟩
theorem NB{F:List Nat}{e:Ty}:∀(l:List (Nat×AV))(acc:Mk×List e.den){S T:aO}{m:Mk}{x:List e.den}{S':aO},gX F S T->T.length=S.length->(∀r∈qk (l.map (·.2)),r∈F)->
  tB S e acc l=some (m,x,S')->∃T',tB T e acc l=some (m,x,T')/\gX F S' T'/\T'.length=S'.length
 | [],acc,S,T,m,x,S',hr,hl,hF,h=>by
  simp only[tB,aK,aY]at h⊢;obtain⟨rfl,rfl,rfl⟩:=h;exact⟨T,⟨rfl,rfl,rfl⟩,hr,hl⟩
 | (i,v)::l,acc,S,T,m,x,S',hr,hl,hF,h=>by
  simp only[tB]at h⊢;split at h
  .rename_i hi;simp only[cL]at h;obtain⟨⟨m1,x1,S1⟩,h1,h2⟩:=h;obtain⟨T1,k1,k2,k3⟩:=AF _ v hr hl (fun r h=>hF r (by simp[qk,h])) h1;obtain⟨T2,q1,q2,q3⟩:=NB l _ k2 k3 (fun r h=>hF r (by simp only[cv,qk,bN];exact .inr h)) h2;refine⟨T2,?_,q2,q3⟩;rw[aj hi];simp only[cL];exact⟨(m1,x1,T1),k1,q1⟩
  .simp at h
theorem abz{F:List Nat}{A:bX}{S T:aO}(hr:gX F S T)(hl:T.length=S.length){d:Option Nat}{site:Nat}{t:Ty}{x y:AV}(hx:∀r∈x.roots,r∈F)(hy:∀r∈y.roots,r∈F){β:Bool} :
  Lk F ((DA A S d site t x y).dec β) ((DA A T d site t x y).dec β):=by
 intro v S' h;unfold DA at h⊢;cases h1:tk S (.sl t) x with
 | none=>rw[h1]at h;simp[Tr.dec]at h
 | some z=>
  obtain⟨m1,xs,S1⟩:=z;obtain⟨T1,k1,k2,k3⟩:=AF _ x hr hl hx h1;rw[h1]at h;rw[k1];cases m1 with
  | own s m=>
   simp only at h⊢;cases h2:tk S1 (.sl t) y with
   | none=>rw[h2]at h;simp[Tr.dec]at h
   | some z=>
    obtain⟨my,ys,S2⟩:=z;obtain⟨T2,q1,q2,q3⟩:=AF _ y k2 k3 hy h2;rw[h2]at h;rw[q1];simp only at h⊢;cases hm:pR my with
    | none=>rw[hm]at h;simp[Tr.dec]at h
    | some m'=>
     rw[hm]at h;simp only at h⊢;split at h
     .rename_i h3;rw[aj h3];simp only[Tr.dec]at h⊢;split at h
      .exact yQ q2 q3 v S' h
      .simp at h
     .simp[Tr.dec]at h
  | _=>simp[Tr.dec]at h
theorem akV{F:List Nat}{S T:aO}(hr:gX F S T)(hl:T.length=S.length){t:Ty}{x y:AV}(hx:∀r∈x.roots,r∈F){β:Bool} :
  Lk F ((qN S t x y).dec β) ((qN T t x y).dec β):=by
 intro v S' h;unfold qN at h⊢;split at h
 .rename_i r p s t2 ys;have bK:=hr r (hx r (by simp[AV.roots]))
  try simp only
  rw[bK];cases hR:S.root r with
  | none=>rw[hR]at h;simp[Tr.dec]at h
  | some R=>
   rw[hR]at h;simp only at h⊢;split at h
   .rename_i t' s' m xs hf;split at h
    .rename_i hc;rw[aj hc];split at h
     .rename_i a b r' e1 e2 e3;simp only[Tr.dec]at h⊢;split at h
      .simp only[aK,aY]at h;obtain⟨rfl,rfl⟩:=h;exact⟨_,rfl,J9 hr hl _ _,by simp[aO.bW,hl]⟩
      .simp at h
     .simp[Tr.dec]at h
    .simp[Tr.dec]at h
   .simp[Tr.dec]at h
 .simp[Tr.dec]at h
theorem adg{F:List Nat}{A:bX}{S T:aO}(hr:gX F S T)(hl:T.length=S.length){U:Ty}{d:Option Nat}{site:Nat}{x:AV}{lo hi:Option AV}(hx:∀r∈x.roots,r∈F){β:Bool} :
  Lk F ((uB A S U d site x lo hi).dec β) ((uB A T U d site x lo hi).dec β):=by
 intro v S' h;unfold uB at h⊢;split at h
 .split at h
  .simp only[Tr.dec]at h⊢;split at h
   .simp only[aK,aY]at h;obtain⟨rfl,rfl⟩:=h;rename_i hc;exact⟨T,by simp[hc],hr,hl⟩
   .simp at h
  .simp[Tr.dec]at h
 .split at h
  .split at h
   .rename_i hc;simp only[Tr.dec]at h⊢;rw[aj hc];split at h
    .simp only[aK,aY]at h;obtain⟨rfl,rfl⟩:=h;rename_i hc;exact⟨T,by simp[Tr.dec,hc],hr,hl⟩
    .simp at h
   .simp[Tr.dec]at h
  .simp[Tr.dec]at h
 .rename_i r p s e;split at h
  .cases h1:tk S (.sl e) (.b9 r p s) with
   | none=>rw[h1]at h;simp[Tr.dec]at h
   | some z=>
    obtain⟨m1,xs,S1⟩:=z;obtain⟨T1,k1,k2,k3⟩:=AF _ _ hr hl hx h1;rw[h1]at h;simp only[k1];cases m1 with
    | own s m=>
     simp only at h⊢;split at h
     .split at h
      .rename_i hc;rw[aj hc];simp only[Tr.dec]at h⊢;split at h
       .rename_i hd
        try simp only[hd]
        exact yQ k2 k3 v S' h
       .simp at h
      .simp[Tr.dec]at h
     .simp[Tr.dec]at h
    | _=>simp[Tr.dec]at h
  .unfold uJ at h⊢;have hf:=Cf hr (hx r (by simp[AV.roots])) p;rw[hf];split at h
   .split at h
    .rename_i hq
     try simp only[hq]
     split at h
     .rename_i hc;rw[aj hc];simp only[Tr.dec]at h⊢;split at h
      .simp only[aK,aY]at h;obtain⟨rfl,rfl⟩:=h;rename_i hd;exact⟨T,by simp[hd],hr,hl⟩
      .simp at h
     .simp[Tr.dec]at h
    .simp[Tr.dec]at h
   .simp[Tr.dec]at h
 .simp[Tr.dec]at h
theorem NA{F:List Nat}{A:bX}{S T:aO}(hr:gX F S T)(hl:T.length=S.length){d:Option Nat}{site:Nat}:∀(rs:List RK)(r:f7 rs){β:Bool},Lk F ((mj A S d site rs r).dec β) ((mj A T d site rs r).dec β)
 | [],r,β=>by
  intro v S' h;simp only[mj,Tr.dec,aK,aY]at h⊢;obtain⟨rfl,rfl⟩:=h;exact⟨T,⟨rfl,rfl⟩,hr,hl⟩
 | [.val t m],r,β=>by
  intro v S' h;simp only[mj]at h⊢;split at h
  .rename_i hs;rw[aj hs];split at h
   .rename_i hc;rw[aj hc];simp only[Tr.dec,aK,aY]at h⊢;obtain⟨rfl,rfl⟩:=h;exact⟨T,⟨rfl,rfl⟩,hr,hl⟩
   .simp[Tr.dec]at h
  .rename_i hs;rw[af hs];split at h
   .rename_i hc;rw[aj hc];exact yQ hr hl v S' h
   .simp[Tr.dec]at h
 | [.ptr t m],r,β=>by
  intro v S' h;simp only[mj]at h⊢;split at h
  .rename_i hc;rw[aj hc];exact yQ hr hl v S' h
  .simp[Tr.dec]at h
 | q1::q2::rs,r,β=>by
  intro v S' h;have e:∀S:aO,mj A S d site (q1::q2::rs) r=Cs A S d site (q1::q2::rs) r:=by intro S;cases q1<;>simp only[mj]
  rw[e]at h⊢;unfold Cs at h⊢;split at h
  .rename_i hc;rw[aj hc];cases d with
   | none=>simp only[Tr.dec,aK,aY]at h⊢;obtain⟨rfl,rfl⟩:=h;exact⟨T,⟨rfl,rfl⟩,hr,hl⟩
   | some d=>
    simp only at h⊢;cases hL:dR A S (some d) site (jq (q1::q2::rs)) (pL (q1::q2::rs)) (kg (q1::q2::rs) r) false with
    | ret z=>
     obtain⟨v1,S1⟩:=z;rw[hL]at h;simp only[Tr.dec,aK,aY]at h;obtain⟨rfl,rfl⟩:=h;obtain⟨T1,k1,k2,k3⟩:=yQ (A:=A) (d:=some d) (site:=site) (t:=jq (q1::q2::rs)) (m:=pL (q1::q2::rs)) (x:=kg (q1::q2::rs) r) (mem:=false) (β:=true) hr hl v1 S1 (by rw[hL];rfl);cases hM:dR A T (some d) site (jq (q1::q2::rs)) (pL (q1::q2::rs)) (kg (q1::q2::rs) r) false with
     | ret z=>obtain⟨v2,S2⟩:=z;rw[hM]at k1;simp only[Tr.dec,aK,aY]at k1;obtain⟨rfl,rfl⟩:=k1;exact⟨_,rfl,k2,k3⟩
     | fail=>rw[hM]at k1;simp[Tr.dec]at k1
     | _=>
      exfalso;simp only[dR]at hM
      repeat' split at hM
      all_goals simp at hM
    | _=>rw[hL]at h;simp[Tr.dec]at h
  .simp[Tr.dec]at h
section
variable {C:Ctx} {D:Den C}
theorem uz{S T:aO}:∀(ks:List PK)(aJ:List AV),ks.all PK.loc=true->fY T ks aJ=(fY S ks aJ).map fun z=>(z.1,T)
 | [],[],_=>rfl
 | [],_::_,_=>rfl
 | k::ks,[],_=>by cases k<;>rfl
 | k::ks,a::aJ,h=>by
  simp only[gT,bI]at h;cases k with
  | val t=>simp only[fY];exact uz ks aJ h.2
  | cm t=>simp only[fY];exact uz ks aJ h.2
  | cC t m m'=>simp only[fY];exact uz ks aJ h.2
  | fn=>simp only[fY];exact uz ks aJ h.2
  | _=>simp[PK.loc]at h
theorem alD{S rt:aO}{ks:List PK}{aJ:List AV}{g:jr ks}(hp:ks.all PK.loc=true)(h:fY S ks aJ=some (g,rt)):rt=S:=by have:=uz (S:=S) (T:=S) ks aJ hp;rw[h]at this;simp only[d7,aK,aY,true_and]at this;exact this
theorem xN{F:List Nat}:∀(ks:List PK)(aJ:List AV){S T:aO}{o:dG ks}{S':aO},gX F S T->T.length=S.length->ks.all PK.loc=true->(∀r∈qk aJ,r∈F)->gC S ks aJ=some (o,S')->
  ∃T',gC T ks aJ=some (o,T')/\gX F S' T'/\T'.length=S'.length
 | [],[],S,T,o,S',hr,hl,_,_,h=>by
  simp only[gC,aK,aY]at h;obtain⟨_,rfl⟩:=h;exact⟨T,rfl,hr,hl⟩
 | [],_::_,S,T,o,S',hr,hl,_,_,h=>by simp[gC]at h
 | k::ks,[],S,T,o,S',hr,hl,_,_,h=>by cases k<;>simp[gC]at h
 | k::ks,a::aJ,S,T,o,S',hr,hl,hp,hF,h=>by
  simp only[gT,bI]at hp;have tT:∀r∈qk aJ,r∈F:=fun r h=>hF r (by simp[qk,h]);cases k with
  | val t=>simp only[gC]at h⊢;exact xN ks aJ hr hl hp.2 tT h
  | cm t=>simp only[gC]at h⊢;exact xN ks aJ hr hl hp.2 tT h
  | fn=>simp only[gC]at h⊢;exact xN ks aJ hr hl hp.2 tT h
  | cC t m m'=>
   cases a with
   | addr q p=>
    cases p with
    | nil=>
     have hq:=hr q (hF q (by simp[qk,AV.roots]));simp only[gC]at h⊢;rw[hq];cases hR:S.root q with
     | none=>rw[hR]at h;simp at h
     | some R=>
      rw[hR]at h;simp only at h⊢;split at h
      .rename_i hc;rw[aj hc];simp only[cL,aK,aY]at h⊢;obtain⟨x,hx,⟨o2,S2⟩,h2,rfl,rfl⟩:=h;obtain⟨T2,q1,q2,q3⟩:=xN ks aJ (J9 hr hl q none) (by simp[aO.bW,hl]) hp.2 tT h2;exact⟨T2,⟨x,hx,(o2,T2),q1,rfl,rfl⟩,q2,q3⟩
      .simp at h
    | cons _ _=>simp[gC]at h
   | _=>simp[gC]at h
  | _=>simp[PK.loc]at hp
theorem xU{F:List Nat}{site:Nat}:∀(ks:List PK)(aJ:List AV)(o:dG ks){S T:aO}{S':aO},gX F S T->T.length=S.length->ks.all PK.loc=true->f_ S site ks aJ o=some S'->
  ∃T',f_ T site ks aJ o=some T'/\gX F S' T'/\T'.length=S'.length
 | [],[],o,S,T,S',hr,hl,_,h=>by
  simp only[f_,aK]at h;subst h;exact⟨T,rfl,hr,hl⟩
 | [],_::_,o,S,T,S',hr,hl,_,h=>by simp[f_]at h
 | k::ks,[],o,S,T,S',hr,hl,_,h=>by cases k<;>simp[f_]at h
 | k::ks,a::aJ,o,S,T,S',hr,hl,hp,h=>by
  simp only[gT,bI]at hp;cases k with
  | val t=>simp only[f_]at h⊢;exact xU ks aJ o hr hl hp.2 h
  | cm t=>simp only[f_]at h⊢;exact xU ks aJ o hr hl hp.2 h
  | fn=>simp only[f_]at h⊢;exact xU ks aJ o hr hl hp.2 h
  | cC t m m'=>
   cases a with
   | addr q p=>
    cases p with
    | nil=>
     simp only[f_]at h⊢;split at h
     .rename_i hc;rw[aj hc];exact xU ks aJ o.2 (J9 hr hl q _) (by simp[aO.bW,hl]) hp.2 h
     .simp at h
    | cons _ _=>simp[f_]at h
   | _=>simp[f_]at h
  | _=>simp[PK.loc]at hp
theorem MM{F:List Nat}{A:bX}{S T:aO}(hr:gX F S T)(hl:T.length=S.length){d:Option Nat}{site:Nat}{g:FuncId}{aJ:List AV}(hp:(C.sig g).params.all PK.loc=true)(has:∀r∈qk aJ,r∈F){β:Bool} :
  Lk F ((rQ C D A S d site g aJ).dec β) ((rQ C D A T d site g aJ).dec β):=by
 intro v S' h;unfold rQ at h⊢;rw[uz (S:=S) (T:=T) _ _ hp];cases h1:fY S (C.sig g).params aJ with
 | none=>rw[h1]at h;simp[Tr.dec]at h
 | some z=>
  obtain⟨gd,S1⟩:=z;obtain rfl:=alD hp h1;rw[h1]at h;simp only[d7]at h⊢;cases h2:gC S1 (C.sig g).params aJ with
  | none=>rw[h2]at h;simp[Tr.dec]at h
  | some z=>
   obtain⟨od,S2⟩:=z;obtain⟨T2,k1,k2,k3⟩:=xN _ _ hr hl hp has h2;rw[h2]at h;simp only[k1]at h⊢;rw[zK _ _ _ _ (k2.sub has)];cases h3:jg S2 (C.sig g).params aJ gd od with
   | none=>rw[h3]at h;simp[Tr.dec]at h
   | some aa=>
    rw[h3]at h;simp only at h⊢;split at h
    .rename_i hc;rw[aj hc];simp only[Tr.dec]at h⊢;cases hD:D g aa with
     | none=>rw[hD]at h;simp at h
     | some rr=>
      rw[hD]at h;simp only[dF]at h⊢;split at h
      .rename_i hn;rw[aj hn];exact NA hr hl _ _ v S' h
      .rename_i hn;rw[af hn];split at h
       .rename_i hfr;rw[aj hfr];simp only[Tr.dec]at h⊢;split at h
        .rename_i hlo;cases ho:f_ S1 site (C.sig g).params aJ rr.2 with
         | none=>rw[ho]at h;simp[Tr.dec]at h
         | some S3=>obtain⟨T3,q1,q2,q3⟩:=xU _ _ _ hr hl hp ho;rw[ho]at h;simp only at h;obtain⟨T',r1,r2,r3⟩:=NA q2 q3 _ _ v S' h;exact⟨T',by rw[q1];exact r1,r2,r3⟩
        .simp at h
       .simp[Tr.dec]at h
    .simp[Tr.dec]at h
theorem Hv{F:List Nat}:∀(ks:List PK)(aJ:List AV){S T:aO}{z:List AV}{S':aO},gX F S T->T.length=S.length->(∀r∈qk aJ,r∈F)->kY S ks aJ=some (z,S')->
  ∃T',kY T ks aJ=some (z,T')/\gX F S' T'/\T'.length=S'.length/\∀r∈qk z,r∈F
 | [],[],S,T,z,S',hr,hl,hF,h=>by
  simp only[kY,aK,aY]at h;obtain⟨rfl,rfl⟩:=h;exact⟨T,rfl,hr,hl,hF⟩
 | [],_::_,S,T,z,S',hr,hl,hF,h=>by simp[kY]at h
 | k::ks,[],S,T,z,S',hr,hl,hF,h=>by cases k<;>simp[kY]at h
 | k::ks,a::aJ,S,T,z,S',hr,hl,hF,h=>by
  have hFa:∀r∈a.roots,r∈F:=fun r hr=>hF r (by simp[qk,hr]);have pV:∀r∈qk aJ,r∈F:=fun r hr=>hF r (by simp[qk,hr]);have plain:(kY S ks aJ).map (fun z=>(a::z.1,z.2))=some (z,S')->∃T',(kY T ks aJ).map (fun z=>(a::z.1,z.2))=some (z,T')/\gX F S' T'/\T'.length=S'.length/\∀r∈qk z,r∈F:=by
   intro h;simp only[fo,aY]at h;obtain⟨⟨z1,S1⟩,h1,rfl,rfl⟩:=h;obtain⟨T1,e1,e2,e3,e4⟩:=Hv ks aJ hr hl pV h1;refine⟨T1,by rw[e1];rfl,e2,e3,fun r hr=>?_⟩;simp only[qk,bN]at hr;rcases hr with hr | hr
   .exact hFa r hr
   .exact e4 r hr
  cases k with
  | val t=>
   simp only[kY]at h⊢;split at h
   .rename_i hs;rw[aj hs];exact plain h
   .rename_i hs;rw[af hs];cases h1:tk S t a with
    | none=>rw[h1]at h;simp at h
    | some q=>
     obtain⟨m,y,S1⟩:=q;obtain⟨T1,k1,k2,k3⟩:=AF _ _ hr hl hFa h1;rw[h1]at h;rw[k1];simp only at h⊢;split at h
     .rename_i hm;rw[aj hm];simp only[fo,aY]at h;obtain⟨⟨z1,S2⟩,h2,rfl,rfl⟩:=h;obtain⟨T2,e1,e2,e3,e4⟩:=Hv ks aJ k2 k3 pV h2;refine⟨T2,by rw[e1];rfl,e2,e3,fun r hr=>?_⟩;simp only[qk,bN,AV.roots,dc,false_or]at hr;exact e4 r hr
     .simp at h
  | _=>simp only[kY]at h⊢;exact plain h
theorem alK{F:List Nat}{A:bX}{ρ:Operand->AV}{S T:aO}(hr:gX F S T)(hl:T.length=S.length){site:Nat}{hint:Bool}{o:Oper}(hlc:vj C ρ o=true)
  (hF:∀r∈qk (o.op.operands.toList.map ρ),r∈F) {β:Bool}:Lk F ((aV C D A ρ S site hint o).dec β) ((aV C D A ρ T site hint o).dec β):=by
 have hin:∀{x:Operand},x∈o.op.operands->∀r∈(ρ x).roots,r∈F:=fun hx r hr=>hF r (q9k (eI.2 ⟨_,by simpa using hx,rfl⟩) r hr);intro v S' h;cases ho:o.op with
 | alloc t=>
  simp only[aV,ho]at h⊢;split at h
  .rename_i hc;rw[aj hc];exact yQ hr hl v S' h
  .simp[Tr.dec]at h
 | box t x=>
  have hx:=hin (x:=x) (by rw[ho];simp[Op.operands]);simp only[aV,ho]at h⊢;split at h
  .rename_i hc;rw[aj hc];cases h1:tk S (C.ty t) (ρ x) with
   | none=>rw[h1]at h;simp[Tr.dec]at h
   | some z=>
    obtain⟨m,y,S1⟩:=z;obtain⟨T1,k1,k2,k3⟩:=AF _ _ hr hl hx h1;rw[h1]at h;rw[k1];simp only at h⊢;split at h
    .rename_i hh;rw[aj hh];split at h
     .rename_i hm;rw[aj hm];exact yQ k2 k3 v S' h
     .simp[Tr.dec]at h
    .rename_i hh;rw[af hh];exact yQ k2 k3 v S' h
  .simp[Tr.dec]at h
 | build t ps=>
  simp only[aV,ho]at h⊢;split at h
  .rename_i hc;rw[aj hc];cases h1:oE S (C.ty t) (Mk.z5 hint (C.ty t),(C.ty t).zero) (ps.toList.map fun p=>(p.1,ρ p.2)) with
   | none=>rw[h1]at h;simp[Tr.dec]at h
   | some z=>obtain⟨m,y,S1⟩:=z;obtain⟨T1,k1,k2,k3⟩:=RQ _ _ hr hl (fun r hr=>by rw[UF]at hr;exact hF r (by rw[ho];simpa [Op.operands] using hr)) h1;rw[h1]at h;rw[k1];exact yQ k2 k3 v S' h
  .simp[Tr.dec]at h
 | buildSlice t n ps=>
  simp only[aV,ho]at h⊢;split at h
  .rename_i e he;cases h1:tB S e (Mk.top e,List.replicate n e.zero) (ps.toList.map fun p=>(p.1,ρ p.2)) with
   | none=>rw[h1]at h;simp[Tr.dec]at h
   | some z=>
    obtain⟨m,y,S1⟩:=z;obtain⟨T1,k1,k2,k3⟩:=NB _ _ hr hl (fun r hr=>by rw[UF]at hr;exact hF r (by rw[ho];simpa [Op.operands] using hr)) h1;rw[h1]at h;simp only[k1];simp only at h;split at h
    .rename_i hc;rw[aj hc];split at h
     .rename_i hh;rw[aj hh];split at h
      .rename_i hm;rw[aj hm];simp only[Tr.dec,aK,aY]at h⊢;obtain⟨rfl,rfl⟩:=h;exact⟨T1,⟨rfl,rfl⟩,k2,k3⟩
      .simp[Tr.dec]at h
     .rename_i hh;rw[af hh];exact yQ k2 k3 v S' h
    .simp[Tr.dec]at h
  .simp[Tr.dec]at h
 | makeSlice t x y=>
  simp only[aV,ho]at h⊢;split at h
  .simp only[Tr.dec]at h⊢;split at h
   .rename_i hc
    try simp only[hc]
    exact yQ hr hl v S' h
   .simp at h
  .simp[Tr.dec]at h
 | slice t x lo hi mx=>
  cases mx with
  | none=>have hx:=hin (x:=x) (by rw[ho];simp[Op.operands]);simp only[aV,ho]at h⊢;exact adg hr hl hx v S' h
  | some _=>simp[vj,ho]at hlc
 | call c=>
  simp only[vj,ho]at hlc;cases hc:c.callee with
  | builtin b=>
   rw[hc]at hlc;cases b<;>simp only[fe]at hlc;have hargs:∀x∈c.args,∀r∈(ρ x).roots,r∈F:=fun x hx=>hin (by rw[ho];simp only[Op.operands,Call.operands,sv];right;simpa using hx);simp only[aV,ho,hc]at h⊢;split at h
   .exact Builtin.noConfusion ‹Builtin.append=Builtin.len›
   .exact Builtin.noConfusion ‹Builtin.append=Builtin.len›
   .rename_i x y t t' ts e1 e2 e3;have hm:∀z∈c.args.toList.map ρ,∀r∈z.roots,r∈F:=by intro z hz;obtain⟨w,hw,rfl⟩:=eI.1 hz;exact hargs w (by simpa using hw)
    rw[e2]at hm
    try simp only[e2,e3]
    split at h
    .rename_i ht;rw[aj ht];split at h
     .rename_i hh;rw[aj hh];exact akV hr hl (hm x (by simp)) v S' h
     .rename_i hh;rw[af hh];exact abz hr hl (hm x (by simp)) (hm y (by simp)) v S' h
    .simp[Tr.dec]at h
   .exact Builtin.noConfusion ‹Builtin.append=Builtin.clear›
   .exact Builtin.noConfusion ‹Builtin.append=Builtin.copy›
   .exact Builtin.noConfusion ‹Builtin.append=Builtin.min›
   .exact Builtin.noConfusion ‹Builtin.append=Builtin.max›
   .simp[Tr.dec]at h
  | value f=>
   rw[hc]at hlc;simp only at hlc;cases hf:ρ f with
   | gF g caps=>
    rw[hf]at hlc;simp only at hlc;have hall:∀r∈qk (c.args.toList.map ρ++mV caps),r∈F:=?_
    .simp only[aV,ho,hc,hf,qM]at h⊢;split at h
     .rename_i vH;rw[aj vH];cases h1:kY S (C.sig g).params (c.args.toList.map ρ++mV caps) with
      | none=>rw[h1]at h;simp[Tr.dec]at h
      | some q=>obtain⟨z1,S1⟩:=q;obtain⟨T1,e1,e2,e3,e4⟩:=Hv _ _ hr hl hall h1;rw[h1]at h;rw[e1];exact MM e2 e3 hlc e4 v S' h
     .rename_i vH;rw[af vH];exact MM hr hl hlc hall v S' h
    intro r hr;rw[qzc]at hr;rcases hr with hr | hr
    .refine hF r ?_;rw[ho];simp only[Op.operands,Call.operands,hc];have:∀l:List AV,∀a,r∈qk l->r∈qk (a::l):=fun l a h=>by simp[qk,h]
     simpa using this _ _ hr
    .have:=VN caps r hr;exact hin (x:=f) (by rw[ho];simp[Op.operands,Call.operands,hc]) r (by rw[hf];simpa [AV.roots] using this)
   | _=>rw[hf]at hlc;simp at hlc
  | invoke r m=>rw[hc]at hlc;simp at hlc
 | _=>simp[vj,ho]at hlc
end
end
end Go.V
namespace Go.V
noncomputable section
open Go
theorem Jr{d:Nat}:∀(v:AV),d∉v.roots->v.gH d=true
 | .addr r p,h=>by
  simp only[AV.roots,d6]at h;simp only[AV.gH,jz,kr];left;cases hb:Nat.beq r d with
  | false=>rfl
  | true=>exact absurd (mP hb).symm h
 | .pair a b,h=>by
  simp only[AV.roots,bN,zF]at h;simp only[AV.gH,bI];exact⟨Jr a h.1,Jr b h.2⟩
 | .jH a,h=>Jr a h
 | .gF _ a,h=>Jr a h
 | .undef,_=>rfl
 | .skip,_=>rfl
 | .cG _,_=>rfl
 | .unit,_=>rfl
 | .fl,_=>rfl
 | .val _ _,_=>rfl
 | .b9 _ _ _,_=>rfl
 | .view _ _ _ _ _,_=>rfl
 | .cj _ _,_=>rfl
 | .ew _,_=>rfl
theorem Ih{s s':Nat}(h:s≠s'):(!(Nat.ble s s'&&Nat.blt s' (s+1)))=true:=by
 cases h1:Nat.ble s s' with
 | false=>rfl
 | true=>
  cases h2:Nat.blt s' (s+1) with
  | false=>rfl
  | true=>have a:=rC h1;have b:s'+1<=s+1:=rC h2;omega
theorem TM{s:Nat}:∀(p:Path),s∉Ds p->jF s (s+1) p=true
 | [],_=>rfl
 | x::p,h=>by
  cases x with
  | idx i s'=>simp only[Ds,bh,zF]at h;simp only[jF,bI];exact⟨Ih h.1,TM p h.2⟩
  | _=>exact TM p (by simpa [Ds] using h)
theorem J3{s:Nat}:∀(v:AV),s∉v.stamps->v.aQ s (s+1)=true
 | .addr r p,h=>TM p h
 | .b9 r p s',h=>by
  simp only[AV.stamps,bh,zF]at h;simp only[AV.aQ,bI];exact⟨Ih h.1,TM p h.2⟩
 | .view r p s' _ _,h=>by
  simp only[AV.stamps,bh,zF]at h;simp only[AV.aQ,bI];exact⟨Ih h.1,TM p h.2⟩
 | .pair a b,h=>by
  simp only[AV.stamps,bN,zF]at h;simp only[AV.aQ,bI];exact⟨J3 a h.1,J3 b h.2⟩
 | .jH a,h=>J3 a h
 | .gF _ a,h=>J3 a h
 | .undef,_=>rfl
 | .skip,_=>rfl
 | .cG _,_=>rfl
 | .unit,_=>rfl
 | .fl,_=>rfl
 | .val _ _,_=>rfl
 | .cj _ _,_=>rfl
 | .ew _,_=>rfl
theorem pG:∀{l l':List Nat},i7 l l'=true->∀x∈l,x∉l'
 | [],_,_,x,hx=>by simp at hx
 | a::l,l',h,x,hx=>by
  simp only[i7,bI,kr]at h;rcases bh.1 hx with rfl | hx
  .intro hh;have:=h.1;simp at this;exact this hh
  .exact pG h.2 x hx
theorem TK{S:St}{u r:Nat}:∀{ts:List Nat},u∈ts->r∈(S.get u).roots->r∈dS S ts
 | [],h,_=>by simp at h
 | t::ts,h,hr=>by
  simp only[dS,bN];rcases bh.1 h with rfl | h
  .exact .inl hr
  .exact .inr (TK h hr)
theorem TG{S:St}{u r:Nat}:∀{ts:List Nat},u∈ts->r∈(S.get u).stamps->r∈cS S ts
 | [],h,_=>by simp at h
 | t::ts,h,hr=>by
  simp only[cS,bN];rcases bh.1 h with rfl | h
  .exact .inl hr
  .exact .inr (TG h hr)
theorem Z3{S T:St}:∀{ts:List Nat},(∀u∈ts,T.get u=S.get u)->dS T ts=dS S ts
 | [],_=>rfl
 | t::ts,h=>by simp only[dS];rw[h t e7,Z3 fun u hu=>h u (cF _ hu)]
theorem Zj{S T:St}:∀{ts:List Nat},(∀u∈ts,T.get u=S.get u)->cS T ts=cS S ts
 | [],_=>rfl
 | t::ts,h=>by simp only[cS];rw[h t e7,Zj fun u hu=>h u (cF _ hu)]
theorem NG{S T:St}(hl:T.sl.length=S.sl.length)(hg:∀u,T.get u=S.get u)(hr:T.rt=S.rt):T=S:=by
 obtain⟨a,b⟩:=S;obtain⟨c,d⟩:=T;simp only at hl hr;subst hr;have:c=a:=by apply B9 hl;intro i h1 h2;have:=hg i;simp only[St.get_eq,List.getD,gx h1,gx h2,uD]at this;exact this
 rw[this]
section
variable {C:Ctx} {D:Den C} {hints:Hints} {id:Nat} {ops:Array Oper}
theorem HW{S T:St}{y:Oper}(h:∀u∈zV ops y,T.get u=S.get u):∀x∈y.op.operands,ev T x=ev S x:=by
 intro x hx;cases x with
 | tmp t=>
  simp only[ev];rw[h t (by
   unfold zV;rw[bN];right;rw[List.mem_filterMap];exact⟨.tmp t,by simpa using hx,rfl⟩)]
 | _=>rfl
theorem Qo{S T:St}{y:Oper}(h:∀u∈zV ops y,T.get u=S.get u):n7 ops T y=n7 ops S y:=by
 unfold n7;cases hg:y.guard with
 | none=>rfl
 | some jb=>obtain⟨j,b⟩:=jb;simp only;rw[h (lq ops j) (by unfold zV;rw[hg];simp)]
theorem Hw{S T:St}{j site:Nat}{y:Oper}{v:AV}{a b:aO}(hr:dN C (ev S) y=none\/(T.rt=S.rt/\a=b)\/vj C (ev S) y=true)(hk:∀u∈zV ops y,T.get u=S.get u)(ho:∀u∈jE ops j y,T.get u=S.get u):jG C ops T site j y v a=jG C ops S site j y v b:=by
 have he:=HW hk;have hv:uy T y=uy S y:=by unfold uy;exact rE fun x hx=>he x (by simpa using hx)
 unfold jG;have hld:um C (ev T) y v=um C (ev S) y v:=by
  unfold um;split
  .rename_i t x hop;rw[he x (by rw[hop];simp[Op.operands])]
  .rename_i t x f hop;rw[he x (by rw[hop];simp[Op.operands])]
  .rfl
 rw[hv,Z3 ho,Zj ho,adq (C:=C) y he,ab4 (C:=C) y he,hld];rcases hr with h | ⟨h1,h2⟩ | h
 .rw[h]
 .rw[h1,h2]
 .rw[h];cases dN C (ev S) y<;>rfl
theorem acr{S T:St}{j site:Nat}{y:Oper}(ho:∀u∈jE ops j y,T.get u=S.get u):oH ops T site j y=oH ops S site j y:=by unfold oH;rw[Z3 ho,Zj ho]
theorem A4{S T:St}{rt rt':aO}{j:Nat}{y:Oper}{v:AV}(hl:T.sl.length=S.sl.length)(ho:∀u∈jE ops j y,T.get u=S.get u):∀u∈jE ops j y,(fin ops ⟨T.sl,rt⟩ j y v).get u=(fin ops ⟨S.sl,rt'⟩ j y v).get u:=by
 intro u hu;rw[zS,zS];simp only[hl];have:=ho u hu;by_cases h1:y.dst=some u/\u<S.sl.length
 .rw[aj h1,aj h1]
 .rw[af h1,af h1];by_cases h2:u∈sC ops j y
  .rw[aj h2,aj h2]
  .rw[af h2,af h2];exact this
theorem He{S:St}{A:bX}{site:Nat}{hint:Bool}{y:Oper}(hw:dN C (ev S) y=none){T:St}{A':bX}(hrl:T.rt.length=S.rt.length)
  (hr:gX (if rO y then [] else qk (uy S y)) S.rt T.rt) {β:Bool} {v:AV} {rt':aO} (h:(aV C D A (ev S) S.rt site hint y).dec β=some (v,rt')):rt'=S.rt/\(aV C D A' (ev S) T.rt site hint y).dec β=some (v,T.rt):=
 acm (A:=A) (A':=A') hrl hw hr β v rt' h
def Fv(e:jI)(S T:aO):Prop:=gX e.rd S T\/e.bl=true\/∃l,e.ld=some l/\l.1 T=some l.2
theorem ab3{S T:St}{A A':bX}{site:Nat}{hint:Bool}{y:Oper}{β:Bool}{v:AV}{rt':aO}(h:(aV C D A (ev S) S.rt site hint y).dec β=some (v,rt')){l:(aO->Option AV)×AV}(hl:um C (ev S) y v=some l)
  (hT:l.1 T.rt=some l.2):rt'=S.rt/\(aV C D A' (ev S) T.rt site hint y).dec β=some (v,T.rt):=by
 unfold um at hl;split at hl
 .rename_i t a hop;simp only[aK]at hl;subst hl;simp only[aV,hop]at h⊢;simp only at hT;by_cases hnz:(C.ty t).nz=true
  .rw[aj hnz]at h hT⊢;rw[hT];cases hv:ve S.rt (C.ty t) (ev S a) with
   | none=>rw[hv]at h;simp[Tr.of,Tr.dec]at h
   | some v2=>rw[hv]at h;simp only[d7,Tr.of,Tr.dec,aK,aY]at h⊢;exact⟨h.2.symm,trivial⟩
  .rw[af hnz]at hT;simp at hT
 .rename_i t a f hop;simp only[aK]at hl;subst hl;simp only[aV,hop]at h⊢;simp only at hT;rw[hT];cases hv:Ce S.rt (C.ty t) (ev S a) f with
  | none=>rw[hv]at h;simp[Tr.of,Tr.dec]at h
  | some v2=>rw[hv]at h;simp only[d7,Tr.of,Tr.dec,aK,aY]at h⊢;exact⟨h.2.symm,trivial⟩
 .simp at hl
theorem FJ{S T S':St}{e:jI}{β:Bool}{j:Nat}{y:Oper}(hs:gZ C D hints id ops β S j y=some (S',e))(hl:T.sl.length=S.sl.length)(hrl:T.rt.length=S.rt.length)
  (hk:∀u∈zV ops y,T.get u=S.get u) (ho:∀u∈jE ops j y,T.get u=S.get u)
  (hm:(T.rt=S.rt/\lG T.sl y.dst (id * 256+j+1)=lG S.sl y.dst (id * 256+j+1))\/(e.wr=none/\Fv e S.rt T.rt)) :
  ∃T',gZ C D hints id ops β T j y=some (T',e)/\(∀u∈jE ops j y,T'.get u=S'.get u)/\(e.wr=none->S'.rt=S.rt/\T'.rt=T.rt)/\(T.rt=S.rt->T'.rt=S'.rt):=by
 have hg:=Qo (ops:=ops) hk;have he:=HW hk;unfold gZ at hs⊢;rw[hg];split at hs
 .rename_i hgt;simp only[fo,aY]at hs;obtain⟨⟨v,rt'⟩,hd,hS,hee⟩:=hs;subst hS;subst hee;have wL:∀{A:bX}{R:aO},aV C D A (ev T) R (id * 256+j+1) (hints.share.contains (id,j)) y=aV C D A (ev S) R (id * 256+j+1) (hints.share.contains (id,j)) y:=R4 y he;have hq:dN C (ev S) y=none->rt'=S.rt:=fun hw=>(He (T:=S) (A':=lG S.sl y.dst (id * 256+j+1)) hw rfl (fun _ _=>rfl) hd).1;rcases hm with⟨r6,D8⟩ | ⟨hw,Jb⟩
  .refine⟨fin ops ⟨T.sl,rt'⟩ j y v,?_,A4 hl ho,fun hw=>?_,fun _=>?_⟩
   .unfold iJ at hd⊢;rw[D8,wL,r6,hd];simp only[d7,Hw (.inr (.inl ⟨r6,rfl⟩)) hk ho]
   .rw[oJ,oJ];have:=hq hw;simp only at this⊢;exact⟨this,this.trans r6.symm⟩
   .rw[oJ,oJ]
  .have iT:dN C (ev S) y=none:=hw;have Xh:rt'=S.rt/\(aV C D (lG T.sl y.dst (id * 256+j+1)) (ev S) T.rt (id * 256+j+1) (hints.share.contains (id,j)) y).dec β=some (v,T.rt):=by
    rcases Jb with Jb | hb | ⟨l,h1,h2⟩
    .exact He (T:=T) (A':=lG T.sl y.dst (id * 256+j+1)) iT hrl (Jb.sub fun r hr=>by simp only[jG,bN];exact .inr (.inl hr)) hd
    .have hb':rO y=true:=hb;exact He (T:=T) (A':=lG T.sl y.dst (id * 256+j+1)) iT hrl (by rw[aj hb'];intro r hr;simp at hr) hd
    .exact ab3 hd h1 h2
   refine⟨fin ops ⟨T.sl,T.rt⟩ j y v,?_,A4 hl ho,fun _=>?_,fun r6=>?_⟩
   .unfold iJ;rw[wL,Xh.2];simp only[d7,Hw (b:=rt') (.inl iT) hk ho]
   .rw[oJ,oJ];exact⟨Xh.1,rfl⟩
   .rw[oJ,oJ];exact r6.trans Xh.1.symm
 .rename_i hgt;simp only[aK,aY]at hs;obtain⟨hS,hee⟩:=hs;subst hS;subst hee;refine⟨fin ops T j y .skip,by rw[acr ho],?_,fun _=>?_,fun r6=>?_⟩
  .exact A4 (S:=S) (T:=T) (rt:=T.rt) (rt':=S.rt) hl ho
  .rw[oJ,oJ];exact⟨rfl,rfl⟩
  .rw[oJ,oJ];exact r6
 .simp at hs
theorem adb{S S':St}{e:jI}{β:Bool}{j:Nat}{y:Oper}(hs:gZ C D hints id ops β S j y=some (S',e))(hw:e.wr=none):S'.rt=S.rt:=by obtain⟨_,_,_,h,_⟩:=FJ (T:=S) hs rfl rfl (fun _ _=>rfl) (fun _ _=>rfl) (.inl ⟨rfl,rfl⟩);exact(h hw).1
theorem ak8{ρ:Operand->AV}{o:Oper}{W:List Nat}(h:dN C ρ o=some W):∀d,o.dst=some d->d∈W:=by
 intro d hd;unfold dN at h;simp only[hd,Option.toList_some]at h
 repeat' split at h
 all_goals first
  | (simp only[aK]at h;subst h;simp;done)
  | (simp at h;done)
theorem Cp{S S':St}{e:jI}{β:Bool}{j:Nat}{y:Oper}{W:List Nat}(hs:gZ C D hints id ops β S j y=some (S',e))(hw:e.wr=some W):fP W S.rt S'.rt/\(∀d,y.dst=some d->d∈W):=by
 unfold gZ at hs;split at hs
 .simp only[fo,aY]at hs;obtain⟨⟨v,rt'⟩,hd,hS,hee⟩:=hs;subst hS;subst hee;have iT:dN C (ev S) y=some W:=hw;rw[oJ];exact⟨abW iT hd,ak8 iT⟩
 .simp only[aK,aY]at hs;obtain⟨hS,hee⟩:=hs;subst hee;simp[oH]at hw
 .simp at hs
theorem Hx{S S':St}{e:jI}{β:Bool}{j:Nat}{y:Oper}(hs:gZ C D hints id ops β S j y=some (S',e)){u:Nat}(hu:u∈jE ops j y) :
  (∀r∈(S.get u).roots,r∈e.rd)/\(∀r∈(S'.get u).roots,r∈e.rd)/\(∀r∈(S.get u).stamps,r∈e.st)/\(∀r∈(S'.get u).stamps,r∈e.st):=by
 unfold gZ at hs;split at hs
 .simp only[fo,aY]at hs;obtain⟨⟨v,rt'⟩,hd,hS,hee⟩:=hs;subst hS;subst hee;simp only[jG,bN];refine⟨fun r hr=>.inr (.inr (TK hu hr)),fun r hr=>?_,fun r hr=>.inr (TG hu hr),fun r hr=>?_⟩
  .rw[zS]at hr;split at hr
   .exact .inl hr
   .split at hr
    .simp[AV.roots]at hr
    .exact .inr (.inr (TK hu hr))
  .rw[zS]at hr;split at hr
   .exact .inl hr
   .split at hr
    .simp[AV.stamps]at hr
    .exact .inr (TG hu hr)
 .simp only[aK,aY]at hs;obtain⟨hS,hee⟩:=hs;subst hS;subst hee;simp only[oH];refine⟨fun r hr=>TK hu hr,fun r hr=>?_,fun r hr=>TG hu hr,fun r hr=>?_⟩
  .rw[zS]at hr;split at hr
   .simp[AV.roots]at hr
   .split at hr
    .simp[AV.roots]at hr
    .exact TK hu hr
  .rw[zS]at hr;split at hr
   .simp[AV.stamps]at hr
   .split at hr
    .simp[AV.stamps]at hr
    .exact TG hu hr
 .simp at hs
theorem IF{S S':St}{e:jI}{β:Bool}{j:Nat}{y:Oper}(hs:gZ C D hints id ops β S j y=some (S',e)):S'.sl.length=S.sl.length/\∀u,u∉jE ops j y->S'.get u=S.get u:=by
 refine⟨?_,fun u hu=>(Gk hs hu).1⟩;unfold gZ at hs;split at hs
 .simp only[fo,aY]at hs;obtain⟨⟨v,rt'⟩,hd,hS,hee⟩:=hs;subst hS;rw[Jw]
 .simp only[aK,aY]at hs;obtain⟨hS,hee⟩:=hs;subst hS;rw[Jw]
 .simp at hs
theorem J5{S S':St}{e:jI}{β:Bool}{j:Nat}{y:Oper}(hs:gZ C D hints id ops β S j y=some (S',e)){d:Option Nat}{s:Nat}{W:List Nat}(hd:∀d',d=some d'->d'∈W)(oQ:i7 W e.rd=true)
  (hst:e.st.contains s=false):lG S'.sl d s=lG S.sl d s:=by
 obtain⟨hl,hf⟩:=IF hs;have Ln:s∉e.st:=by simpa using hst
 refine Mv d s hl (fun d' e1 k _=>?_) (fun d' e1 k _=>?_) (fun k=>?_)
 .by_cases hk:k∈jE ops j y
  .obtain⟨h1,h2,_,_⟩:=Hx hs hk;have hn:=pG oQ d' (hd d' e1);have a1:d'∉(S.get k).roots:=fun h=>hn (h1 _ h);have a2:d'∉(S'.get k).roots:=fun h=>hn (h2 _ h);simp only[St.get_eq]at a1 a2;rw[Fy,Fy,b7 a1,b7 a2]
  .have:=hf k hk;simp only[St.get_eq]at this;rw[this]
 .by_cases hk:k∈jE ops j y
  .obtain⟨h1,h2,_,_⟩:=Hx hs hk;have hn:=pG oQ d' (hd d' e1);have a1:d'∉(S.get k).roots:=fun h=>hn (h1 _ h);have a2:d'∉(S'.get k).roots:=fun h=>hn (h2 _ h);have b1:=Jr _ a1;have b2:=Jr _ a2;simp only[St.get_eq]at b1 b2;rw[b1,b2]
  .have:=hf k hk;simp only[St.get_eq]at this;rw[this]
 .by_cases hk:k∈jE ops j y
  .obtain⟨_,_,h1,h2⟩:=Hx hs hk;have b1:=J3 (s:=s) _ (fun h=>Ln (h1 _ h));have b2:=J3 (s:=s) _ (fun h=>Ln (h2 _ h));simp only[St.get_eq]at b1 b2;rw[b1,b2]
  .have:=hf k hk;simp only[St.get_eq]at this;rw[this]
theorem AP{S S':St}{e:jI}{β:Bool}{j:Nat}{y:Oper}(hs:gZ C D hints id ops β S j y=some (S',e)):e.site=id * 256+j+1/\e.i=j:=by
 unfold gZ at hs;split at hs
 .simp only[fo,aY]at hs;obtain⟨⟨v,rt'⟩,hd,hS,hee⟩:=hs;subst hee;exact⟨rfl,rfl⟩
 .simp only[aK,aY]at hs;obtain⟨hS,hee⟩:=hs;subst hee;exact⟨rfl,rfl⟩
 .simp at hs
theorem Qe{S:aO}{l:(aO->Option AV)×AV}(h:Bl S l=true):l.1 S=some l.2:=by
 have hp:∀(p q:Path),Dz p q=true->p=q:=by
  intro p
  induction p with
  | nil=>intro q h;cases q<;>simp_all [Dz]
  | cons x p ih=>
   intro q h;cases q with
   | nil=>cases x<;>simp[Dz]at h
   | cons y q=>
    cases x<;>cases y<;>simp only[Dz,fe]at h
    .rw[ih q h]
    .rw[ih q h]
 unfold Bl at h;split at h
 .rename_i r p s r' p' s' h1 h2;simp only[bI]at h;rw[h1,h2,mP h.1.1,hp _ _ h.1.2,mP h.2]
 .rename_i r p r' p' h1 h2;simp only[bI]at h;rw[h1,h2,mP h.1,hp _ _ h.2]
 .simp at h
theorem alG{S S':St}{e:jI}{β:Bool}{j:Nat}{y:Oper}{W:List Nat}(hs:gZ C D hints id ops β S j y=some (S',e))(hw:e.wr=some W):(e.io=none\/e.io=some (S.rt,S'.rt))/\e.dst=y.dst:=by
 unfold gZ at hs;split at hs
 .simp only[fo,aY]at hs;obtain⟨⟨v,rt'⟩,hd,hS,hee⟩:=hs;subst hS;subst hee;have iT:dN C (ev S) y=some W:=hw;rw[oJ];simp only[jG,iT,iO];cases vj C (ev S) y
  .exact .inr rfl
  .exact .inl rfl
 .simp only[aK,aY]at hs;obtain⟨hS,hee⟩:=hs;subst hee;simp[oH]at hw
 .simp at hs
theorem M6{S S':St}{e f:jI}{β:Bool}{j:Nat}{y:Oper}{W:List Nat}(hs:gZ C D hints id ops β S j y=some (S',e))(hw:e.wr=some W)(h:BV e f=true) :
  ((f.bl=true\/∃l,f.ld=some l/\l.1 S.rt=some l.2)/\(f.bl=true\/∃l,f.ld=some l/\l.1 S'.rt=some l.2))/\i7 y.dst.toList f.rd=true/\f.st.contains e.site=false:=by
 obtain⟨h1,h2⟩:=alG hs hw;unfold BV at h;simp only[bI,kr,jz]at h;obtain⟨⟨a,c⟩,d⟩:=h;refine⟨?_,by rw[<-h2];exact c,d⟩;rcases a with a | a
 .exact⟨.inl a,.inl a⟩
 .split at a
  .rename_i l io hl KL;rcases h1 with h1 | h1
   .rw[h1]at KL;simp at KL
   rw[h1]at KL;simp only[aK]at KL;subst KL;simp only[bI]at a;exact⟨.inr ⟨l,hl,Qe a.1⟩,.inr ⟨l,hl,Qe a.2⟩⟩
  .simp at a
theorem akC{ρ:Operand->AV}{o:Oper}{W:List Nat}(hw:dN C ρ o=some W)(hl:vj C ρ o=true):rO o=false:=by unfold dN at hw;unfold rO;cases ho:o.op<;>rw[ho]at hw<;>simp_all
theorem Ny{S T S':St}{e:jI}{β:Bool}{j:Nat}{y:Oper}{W:List Nat}(hs:gZ C D hints id ops β S j y=some (S',e))(hw:e.wr=some W)(hlc:e.lc=true)(hl:T.sl.length=S.sl.length)(hrl:T.rt.length=S.rt.length)
  (hk:∀u∈zV ops y,T.get u=S.get u) (ho:∀u∈jE ops j y,T.get u=S.get u) (D8:lG T.sl y.dst (id * 256+j+1)=lG S.sl y.dst (id * 256+j+1))
  (hr:gX (W++e.rd) S.rt T.rt):∃T',gZ C D hints id ops β T j y=some (T',e)/\(∀u∈jE ops j y,T'.get u=S'.get u)/\gX W S'.rt T'.rt:=by
 have hg:=Qo (ops:=ops) hk;have he:=HW hk;unfold gZ at hs⊢;rw[hg];split at hs
 .rename_i hgt;simp only[fo,aY]at hs;obtain⟨⟨v,rt'⟩,hd,hS,hee⟩:=hs;subst hS;subst hee;have iT:dN C (ev S) y=some W:=hw;have En:vj C (ev S) y=true:=hlc;have hb:=akC iT En;unfold iJ at hd⊢;obtain⟨fj,k1,k2,k3⟩:=alK (A:=lG S.sl y.dst (id * 256+j+1)) hr hrl En (fun r hr=>by
   refine bN.2 (.inr ?_);simp only[jG,hb,fe,dV,bN];exact .inr (.inl hr)) v rt' hd
  refine⟨fin ops ⟨T.sl,fj⟩ j y v,?_,A4 hl ho,?_⟩
  .rw[D8,R4 y he,k1];simp only[d7,Hw (b:=rt') (.inr (.inr En)) hk ho]
  .rw[oJ,oJ];exact k2.sub fun r hr=>bN.2 (.inl hr)
 .simp only[aK,aY]at hs;obtain⟨hS,hee⟩:=hs;subst hee;simp[oH]at hw
 .simp at hs
theorem akv{S T:aO}(hl:T.length=S.length)(h:∀r,T.root r=S.root r):T=S:=by apply B9 hl;intro i h1 h2;have:=h i;simp only[aO.ia,List.getD,gx h1,gx h2,uD]at this;exact this
theorem swap{S S1 S2:St}{ex ey:jI}{βx βy:Bool}{i j:Nat}{x y:Oper}(h1:gZ C D hints id ops βx S i x=some (S1,ex))(h2:gZ C D hints id ops βy S1 j y=some (S2,ey))
  (hap:IE ops i j x y=true) (hfr:ex.free ey=true):∃T1,gZ C D hints id ops βy S j y=some (T1,ey)/\gZ C D hints id ops βx T1 i x=some (S2,ex):=by
 simp only[IE,bI]at hap;obtain⟨⟨p1,p2⟩,p3⟩:=hap;obtain⟨l1,f1⟩:=IF h1;obtain⟨l2,f2⟩:=IF h2;have n1:∀u∈zV ops y,S.get u=S1.get u:=fun u hu=>(f1 u fun h=>pG p1 u h hu).symm;have n2:∀u∈jE ops j y,S.get u=S1.get u:=fun u hu=>(f1 u fun h=>pG p2 u h hu).symm
 -- yZ two alY,and what comes out
 have key:∀(hm:(S.rt=S1.rt/\lG S.sl y.dst (id * 256+j+1)=lG S1.sl y.dst (id * 256+j+1))\/(ey.wr=none/\Fv ey S1.rt S.rt))(hrl:S.rt.length=S1.rt.length),
   ∃T1,gZ C D hints id ops βy S j y=some (T1,ey)/\(ey.wr=none->S2.rt=S1.rt/\T1.rt=S.rt)/\(S.rt=S1.rt->T1.rt=S2.rt)/\
    (∀(hm2:(T1.rt=S.rt/\lG T1.sl x.dst (id * 256+i+1)=lG S.sl x.dst (id * 256+i+1))\/(ex.wr=none/\Fv ex S.rt T1.rt))(Le:T1.rt.length=S.rt.length),
     ∃T2,gZ C D hints id ops βx T1 i x=some (T2,ex)/\(ex.wr=none->S1.rt=S.rt/\T2.rt=T1.rt)/\(T1.rt=S.rt->T2.rt=S1.rt)/\(T2.rt=S2.rt->T2=S2)):=by
  intro hm hrl;obtain⟨T1,k1,k2,k3,k4⟩:=FJ h2 l1.symm hrl n1 n2 hm;refine⟨T1,k1,k3,k4,fun hm2 Le=>?_⟩;obtain⟨lT,fT⟩:=IF k1;obtain⟨T2,q1,q2,q3,q4⟩:=FJ h1 lT Le (fun u hu=>fT u fun h=>pG p3 u h hu) (fun u hu=>fT u fun h=>pG p2 u hu h) hm2;obtain⟨XI,Wg⟩:=IF q1;refine⟨T2,q1,q3,q4,fun r6=>NG (by rw[XI,lT,l2,l1]) (fun u=>?_) r6⟩;by_cases hx:u∈jE ops i x
  .rw[q2 u hx,f2 u fun h=>pG p2 u hx h]
  .rw[Wg u hx];by_cases hy:u∈jE ops j y
   .exact k2 u hy
   .rw[fT u hy,f2 u hy,f1 u hx]
 obtain⟨sx,_⟩:=AP h1;obtain⟨sy,_⟩:=AP h2;cases rL:ex.wr with
 | none=>
  have r1:S1.rt=S.rt:=adb h1 rL;cases qC:ey.wr with
  | none=>obtain⟨T1,k1,k2,k3,k4⟩:=key (.inr ⟨qC,.inl fun r _=>by rw[r1]⟩) (by rw[r1]);obtain⟨e1,e2⟩:=k2 qC;obtain⟨T2,q1,q2,q3,q4⟩:=k4 (.inr ⟨rL,.inl fun r _=>by rw[e2]⟩) (by rw[e2]);have:=q4 ((q2 rL).2.trans (e2.trans (r1.symm.trans e1.symm)));subst this;exact⟨T1,k1,q1⟩
  | some W=>
   simp only[jI.free,rL,qC,jz]at hfr;rcases hfr with hfr | hfr
   rotate_left
   .obtain⟨⟨a1,a2⟩,d1,d2⟩:=M6 h2 qC hfr;rw[sy]at d2;obtain⟨T1,k1,k2,k3,k4⟩:=key (.inl ⟨r1.symm,(J5 h1 (W:=y.dst.toList) (fun d' hd'=>by rw[hd'];simp) d1 d2).symm⟩) (by rw[r1]);obtain⟨fr,_⟩:=Cp k1 qC;have eT:=k3 r1.symm;obtain⟨T2,q1,q2,q3,q4⟩:=k4 (.inr ⟨rL,.inr (by rw[eT];exact a2)⟩) fr.len;have:=q4 ((q2 rL).2.trans eT);subst this;exact⟨T1,k1,q1⟩
   simp only[By,bI,kr]at hfr;obtain⟨d1,d2⟩:=hfr;obtain⟨_,Ug⟩:=Cp h2 qC;rw[sy]at d2;obtain⟨T1,k1,k2,k3,k4⟩:=key (.inl ⟨r1.symm,(J5 h1 Ug d1 d2).symm⟩) (by rw[r1]);obtain⟨fr,_⟩:=Cp k1 qC;obtain⟨T2,q1,q2,q3,q4⟩:=k4 (.inr ⟨rL,.inl fun r hr=>fr.root r fun h=>pG d1 r h hr⟩) fr.len;have:=q4 ((q2 rL).2.trans (k3 r1.symm));subst this;exact⟨T1,k1,q1⟩
 | some W=>
  cases qC:ey.wr with
  | none=>
   simp only[jI.free,rL,qC,jz]at hfr;rcases hfr with hfr | hfr
   rotate_left
   .obtain⟨⟨a1,a2⟩,d1,d2⟩:=M6 h1 rL hfr;obtain⟨fr,Ug⟩:=Cp h1 rL;rw[sx]at d2;obtain⟨T1,k1,k2,k3,k4⟩:=key (.inr ⟨qC,.inr a1⟩) fr.len.symm;obtain⟨e1,e2⟩:=k2 qC;obtain⟨T2,q1,q2,q3,q4⟩:=k4 (.inl ⟨e2,J5 k1 (W:=x.dst.toList) (fun d' hd'=>by rw[hd'];simp) d1 d2⟩) (by rw[e2]);have:=q4 ((q3 e2).trans e1.symm);subst this;exact⟨T1,k1,q1⟩
   simp only[By,bI,kr]at hfr;obtain⟨d1,d2⟩:=hfr;obtain⟨fr,Ug⟩:=Cp h1 rL;rw[sx]at d2;obtain⟨T1,k1,k2,k3,k4⟩:=key (.inr ⟨qC,.inl fun r hr=>(fr.root r fun h=>pG d1 r h hr).symm⟩) fr.len.symm;obtain⟨e1,e2⟩:=k2 qC;obtain⟨T2,q1,q2,q3,q4⟩:=k4 (.inl ⟨e2,J5 k1 Ug d1 d2⟩) (by rw[e2]);have:=q4 ((q3 e2).trans e1.symm);subst this;exact⟨T1,k1,q1⟩
  | some W2=>
   simp only[jI.free,rL,qC,bI,kr]at hfr;obtain⟨⟨⟨lx,ly⟩,⟨d1,d2⟩,d3,d4⟩,s1,s2⟩:=hfr;obtain⟨T9,tZ⟩:=Cp h1 rL;obtain⟨T_,wM⟩:=Cp h2 qC;rw[sy]at s1;rw[sx]at s2;obtain⟨T1,k1,k2,k3⟩:=Ny (T:=S) h2 qC ly l1.symm T9.len.symm n1 n2 (J5 h1 wM d3 s1).symm
    (fun r hr=>(T9.root r fun h=>by
     rcases bN.1 hr with h' | h'
     .exact pG d2 r h h'
     .exact pG d1 r h h').symm)
   obtain⟨lT,fT⟩:=IF k1;obtain⟨Ua,_⟩:=Cp k1 qC;obtain⟨T2,q1,q2,q3⟩:=Ny h1 rL lx lT Ua.len (fun u hu=>fT u fun h=>pG p3 u h hu) (fun u hu=>fT u fun h=>pG p2 u hu h) (J5 k1 tZ d1 s2)
    (fun r hr=>Ua.root r fun h=>by
     rcases bN.1 hr with h' | h'
     .exact pG d4 r h h'
     .exact pG d3 r h h')
   obtain⟨XI,Wg⟩:=IF q1;obtain⟨Kl,_⟩:=Cp q1 rL;have r6:T2.rt=S2.rt:=by
    refine akv (by rw[Kl.len,Ua.len,T_.len,T9.len]) fun r=>?_;by_cases hx:r∈W
    .rw[q3 r hx,T_.root r fun h=>pG d2 r hx h]
    .rw[Kl.root r hx];by_cases hy:r∈W2
     .exact k3 r hy
     .rw[Ua.root r hy,T_.root r hy,T9.root r hx]
   have:T2=S2:=NG (by rw[XI,lT,l2,l1]) (fun u=>by
    by_cases hx:u∈jE ops i x
    .rw[q2 u hx,f2 u fun h=>pG p2 u hx h]
    .rw[Wg u hx];by_cases hy:u∈jE ops j y
     .exact k2 u hy
     .rw[fT u hy,f2 u hy,f1 u hx]) r6
   subst this;exact⟨T1,k1,q1⟩
end
end
end Go.V

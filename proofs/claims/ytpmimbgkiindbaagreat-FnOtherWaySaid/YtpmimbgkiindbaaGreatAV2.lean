import Derived.Test.YtpmimbgkiindbaaGreatAV1
set_option linter.unusedVariables false
set_option linter.unusedSimpArgs false
set_option linter.unusedSectionVars false
namespace Go.V
open Go
theorem M9{h:Array Obj}{S:St}{g:aA}{tmps:Array Value}{H:BS}(st:aD h S g tmps H)(q:Nat):Kp h S g (S.aG q none) g:=by
 have bJ:∀r',(S.aG q none).root r'=S.root r'\/(S.aG q none).root r'=none:=by intro r';rw[St.bY];by_cases e:r'=q/\q<S.rt.length<;>simp[e]
 intro u v y;refine(qe.keep (Sub.refl _) (fun _ _=>rfl) u).1 v y (AV.d8 (fun r p=>?_) (fun r p s=>?_) u)
 .exact(nN st (bJ r) rfl rfl (fun _ _ _=>rfl)).1 p
 .exact(nN st (bJ r) rfl rfl (fun _ _ _=>rfl)).2 p s
theorem aaI{h h2:Array Obj}{t:Ty}{x y:t.den}{m2:Mk}{c c2:List Value}{base:fH}{site:Nat}(hf:m2.fresh site (site+1)) :
  ∀p' t1 n1,jD site (site+1) p'=true->q8 t m2 p'=some (t1,n1)->bt t x p'->bt t y p'/\∀bp cp,cm h t c base p'=some (bp,cp)->
   ∃iP,cm h2 t c2 base p'=some (bp,iP)/\(∀s a,n1=.own s a->¬ (site<=s/\s<site+1)->iP=cp):=by
 intro p' t1 n1 hp gV _;obtain⟨hi',zg⟩:=C6 p' hf hp gV;refine⟨zx _ _ hi' gV,fun bp cp ha=>?_⟩;obtain⟨iP,h3⟩:=IC (h':=h2) p' _ c2 _ hi' ha;exact⟨iP,h3,fun s a' e hs=>by subst e;exact absurd zg hs⟩
section
variable {P:Program} {C:Ctx} {D:Den C} {S:St} {g:aA} {w:World} {tmps:Array Value}
variable {A:bU} {site:Nat} (dj:ot P C D) (st:aD w.heap S g tmps Nil)
include dj st
theorem aaG{f:FuncId}{aI:List AV}{vs:List Value}{d:Option Nat}(ok:nL A S d site)(hfr:site<1048576/\∀u,(S.get u).aR site (site+1)=true)
  (ha:lW w.heap S g aI vs) (W0:(C.sig f).params.all (fun k=>!k.mc)=true) {gd:jq (C.sig f).params} (h1:fX S.rt (C.sig f).params aI=some (gd,S.rt))
  {od:dy (C.sig f).params} {fe:aP} {n:Nat} {v0:Value} {q:Nat} {t:Ty} {m m':Mk} {R:aB} {x:t.den} (rM:qe w.heap S g (.addr q []) v0)
  (L:wq w.heap (C.sig f).params aI vs S.rt fe od n v0 q t m m' R x) {a:gb (C.sig f).params} (h3:jh fe (C.sig f).params aI gd od=some a)
  (hs:mJ (C.sig f).params aI=true\/(C.sig f).full=true) {r:f5 (C.sig f).res×dy (C.sig f).params} (hD:D f a=some r) {β:Bool} {v:AV} {yN rt':aP}
  (ho:ga S.rt site (C.sig f).params aI r.2=some yN) (he:(mu A yN d site (C.sig f).res r.1).dec β=some (v,rt')) :
  Calls P f vs.toArray w fun e w'=>∃val,e=.returned val/\Post S g w tmps v rt' val w':=by
 have hR:=L.root;have bM:(S.root q).isSome:=by show(S.rt.root q).isSome=true;rw[hR];rfl
 obtain⟨e1,e2⟩:=C8 L.cast;obtain⟨Rt,Rm,Rx,V2⟩:=R;simp only at e1 e2;subst e1;simp only at e2;subst e2;have hmem:V2=true:=L.mem;subst hmem;obtain⟨base,c,F,q1,q2,q3,q4,q5,q6⟩:=st.m4 hR (L4 Rt Rm Rx) (xI _ _);simp only[qe]at rM;obtain⟨_,b,off,c',ef,Kn⟩:=rM _ hR _ (L4 _ _ _);rw[Er]at ef q1;simp only[aK,aZ]at ef q1;obtain⟨bN,gu⟩:=q1;obtain⟨KB,hb4⟩:=ef;obtain⟨F00,_,_,_,mV,_⟩:=st.roots q _ hR;obtain⟨b0,hB,hGb,wW⟩:=mV rfl;have hbase:g.base q=some (b0,0):=by simp[aA.base,hB]
 rw[hbase]at bN KB;simp only[aK,aZ]at KB;obtain⟨rfl,rfl⟩:=KB;subst bN;subst gu;obtain⟨rN,_⟩:=q4 b0 0 rfl;obtain⟨F1,F2,s1,s2,s3,s4⟩:=az.aQ Rt L.TS q2;have pn:=(st.gA bM).cO F2 (fun z hz=>.inr (q3 z (s2 z hz)))
 let g2:aA:={ g with Pr:=Un g.Pr F2 }
 have Ad:Kp w.heap S g (S.aG q none) g2:=(M9 st q).trans (Jl (st.gA bM) F2)
 let Fs:Nat->BS:=fun j=>if j=n then (fun z=>z=b0\/F1 z) else Nil
 have pZ:∀i,Sub (Fs i) (fun z=>(Nil z\/g.G q z)/\¬ F2 z):=by
  intro i z hz;simp only[Fs]at hz;split at hz
  .rcases hz with rfl | hz
   .exact⟨.inr hGb,fun h=>rN (s2 _ h)⟩
   .exact⟨.inr (q3 z (s1 z hz)),fun h=>s3 z hz h⟩
  .exact hz.elim
 have e2:fe=(S.aG q none).rt:=L.fe;subst e2;obtain⟨gg1,HH1,FF,kk⟩:=B0 (sl:=S.sl) (C.sig f).params aI vs S.rt g Nil 0 gd S.rt ha st h1;have hG:=Ez (h2:=w.heap) (gf:=g2.Pr) (pR:=Fs) (C.sig f).params 0 W0 kk.2.2.2.2.1;have hL:=L.ls g2.Pr Fs 0 (by
  simp only[kz,Fs,aY];exact⟨b0,g.C q,F1,Kn,s4,wW,.inl rfl,fun z hz=>.inr hz,fun h=>rN (s1 _ h)⟩)
 have hps:=yq pn (sh:=mJ (C.sig f).params aI) (Fs:=Fs) (C.sig f).params aI vs 0 gd od a (fun h=>h) (ha.kp Ad) hG hL h3;have DG:∀i j,i≠j->cv (Fs i) (Fs j):=by
  intro i j hij z h1 h2;simp only[Fs]at h1 h2;split at h1
  .split at h2
   .omega
   .exact h2
  .exact h1
 have pre:Pre w.heap (Seen (mJ (C.sig f).params aI) (S.aG q none) g2) Fs (C.sig f).params a vs:=
  ⟨hps,DG,fun i z hz=>AW pn _ z (pZ i z hz),fun i z hz=>pn.eg z (pZ i z hz),AX pn _⟩
 refine(dj.ok f a r hD w _ Fs vs pre).mono ?_;rintro e w' ⟨val,fN,Gs,Os,us,rfl,p⟩;obtain⟨y,hy1,Ee⟩:=L.out r.2;obtain⟨wS,rfl⟩:=hy1 S.rt site yN ho;obtain⟨b2,c2,T4,DA,jR,ug,Wi,wE,hnb⟩:=Ee _ _ _ _ p.out;rw[kz]at Wi wE;rw[Kn]at DA;simp only[Value.pointer.injEq,aK,Addr.mk.injEq,iO]at DA;subst DA;have ja:∀z,tT w.heap.size Fs z->w.heap.size<=z\/z=b0\/F1 z:=by
  rintro z (h | ⟨i,h⟩)
  .exact .inl h
  .simp only[Fs]at h;split at h
   .exact .inr h
   .exact h.elim
 let Dd:BS:=fun z=>mJ (C.sig f).params aI=true/\fN z/\¬ g.Pr z
 have Wd:∀z,Dd z->F z\/Nil z\/w.heap.size<=z:=by
  rintro z ⟨hsh,h1,h2⟩;rcases p.kY z h1 with h3 | h3
  .rw[hsh]at h3;simp only[Seen,aY]at h3;rcases h3 with h3 | h3
   .exact absurd h3 h2
   .exact .inl (s2 z h3)
  .rcases ja z h3 with h4 | rfl | h4
   .exact .inr (.inr h4)
   .exact(p.op n z Wi h1).elim
   .exact .inl (s1 z h4)
 have We:∀z,T4 z->F z\/Nil z\/w.heap.size<=z:=by
  intro z hz;rcases ja z (p.oL n z (wE z hz)) with h4 | rfl | h4
  .exact .inr (.inr h4)
  .exact(hnb hz).elim
  .exact .inl (s1 z h4)
 have hfull:mJ (C.sig f).params aI=false->(C.sig f).full=true:=fun h=>hs.resolve_left (by rw[h];simp);have yM:az w'.heap (Un g.Pr Dd) Rt (m'.stamp site) y c2 T4:=by
  refine(az.stamp site _).1 ?_;cases hsh:mJ (C.sig f).params aI with
  | true=>
   refine az.mono (fun z hz=>?_) (fun _ _=>rfl) _ jR (Sub.refl _) (fun _ _=>rfl);by_cases h1:g.Pr z
   .exact .inl h1
   .exact .inr ⟨hsh,hz,h1⟩
  | false=>have h5:=hfull hsh;simp only[wA.full,bH]at h5;exact az.lM _ (L.full h5.1) jR
 have nM:(g.C q).length=Rt.width:=az.width _ q2;have iI:=az.width _ jR;have kO:(m'.stamp site).fresh site (site+1):=Mk.dP site wS;obtain⟨g',k1,k2,k3,k4,k5,k6,k7⟩:=q6 site (site+1) w'.heap (m'.stamp site) y c2 T4 Dd (m'.stamp site) y hfr.2
  (fun z hz z7 hbz=>p.fr.block z hz (fun h=>by
   rcases ja z h with h4 | rfl | h4
   .omega
   .exact hbz 0 rfl
   .exact z7 (s1 z h4)))
  p.fr.size
  (by
   intro b o e cs hcs;simp only[aK,aZ]at e;obtain⟨rfl,rfl⟩:=e;obtain rfl:=ju.uniq wW hcs;exact⟨c2.toArray,ug,by rw[List.toList_toArray,List.toList_toArray];exact(AH (by omega)).symm⟩)
  yM (fun z h1 h2=>p.op n z (wE z h2) h1.2.1) (fun z hz=>hz.elim (We z) (Wd z))
  (fun z hz=>hz.elim (fun h=>p.Ah n z (wE z h)) (fun h=>p.Aj z h.2.1))
  (by simp[put,qbv]) (Mk.eN _ kO) (aL.ax _ (Mk.cL hfr.1 wS)) (fun h=>by simp[qx]at h) (aaI kO)
 have hres:lu w'.heap g'.Pr Gs 0 (C.sig f).res r.1 us:=by
  refine lu.conv _ 0 ?_ p.res;cases hsh:mJ (C.sig f).params aI with
  | true=>
   refine .inl (fun z hz=>?_);by_cases h1:g.Pr z
   .exact k2 z h1
   .exact k3 z ⟨hsh,hz,h1⟩
  | false=>have h5:=hfull hsh;simp only[wA.full,bH]at h5;exact .inr h5.2
 have Wh:∀i,Sub (Gs i) (fun z=>(Nil z\/F z\/(w.heap.size<=z/\z<w'.heap.size))/\¬ (T4 z\/Dd z)):=by
  intro i z hz;refine⟨?_,?_⟩
  .rcases ja z (p.gL i z hz) with h4 | rfl | h4
   .exact .inr (.inr ⟨h4,p.wD i z hz⟩)
   .exact(p.go i n z hz Wi).elim
   .exact .inr (.inl (s1 z h4))
  .rintro(h | h)
   .exact p.go i n z hz (wE z h)
   .exact p.gp i z hz h.2.1
 obtain⟨g4,t1,t2,t3⟩:=GD (S:=S) k1 Wh p.zO ok (C.sig f).res hres he;refine⟨val,rfl,g4,t1,by rw[p.val];exact t2,k4.trans t3,p.fr.mono ?_⟩;intro z hz h;rcases ja z h with h4 | rfl | h4
 .omega
 .exact st.own q _ bM hGb
 .exact st.own q _ bM (q3 z (s1 z h4))
end
theorem ac2{h:Array Obj}{S:St}{g:aA}{q:Nat}{R:aB}(hR:S.root q=some R):∀(t:Ty){a:AV}{p:Path}{md:Mk}{xd:t.den}{z:Mk×t.den}{cu:List Value}{rp:Nat×Path},
  focus R.ty R.ms R.x p=some ⟨t,md,xd⟩->dc h S g a cu->j9 q t a p md xd=some z->uZ a p=true->kC a=some rp->bt R.ty R.x p:=by
 intro t
 induction t with
 | pair ta tb fQ kR=>
  intro a p md xd z cu rp hf hc hl kB hp;cases a with
  | pair u v=>
   simp only[j9,cJ]at hl;obtain⟨y,hy,z',hz,-⟩:=hl;simp only[dc]at hc;obtain⟨ca,cb,-,h1,h2⟩:=hc;simp only[uZ,bH]at kB;cases hu:kC u with
   | some rp'=>have:=fQ (by rw[uT p _ hf];simp[focus]) h1 hy kB.1 hu;exact((yC p _ hf).1 this).1
   | none=>
    cases hv:kC v with
    | some rp'=>have:=kR (by rw[uT p _ hf];simp[focus]) h2 hz kB.2 hv;exact((yC p _ hf).1 this).1
    | none=>simp[kC,hu,hv]at hp
  | b7 r' p' s=>simp[j9]at hl
  | _=>simp[kC]at hp
 | sl e ih=>
  intro a p md xd z cu rp hf hc hl kB hp;cases a with
  | pair u v=>simp[j9]at hl
  | b7 r' p' s=>
   simp only[j9]at hl;cases md with
   | own s' m0=>
    simp only at hl;split at hl
    .rename_i nX;obtain⟨rfl,rfl⟩:=nX;simp only[uZ,gQ]at kB;subst kB;simp only[dc]at hc;obtain⟨v,rfl,hb⟩:=hc;exact(hb R hR _ _ _ hf).1
    .simp at hl
   | _=>simp at hl
  | _=>simp[kC]at hp
 | _=>
  intro a p md xd z cu rp hf hc hl kB hp;cases a with
  | pair u v=>simp[j9]at hl
  | b7 r' p' s=>simp[j9]at hl
  | _=>simp[kC]at hp
theorem Se{h:Array Obj}{S:St}{g:aA}{q:Nat}{R:aB}(hR:S.root q=some R):∀(t:Ty){a:AV}{p:Path}{md:Mk}{xd:t.den}{mx:Mk}{x:t.den}{c cu:List Value}{base:fH}{F:BS},
  focus R.ty R.ms R.x p=some ⟨t,md,xd⟩->cm h R.ty (g.C q) (g.base q) p=some (base,c)->az h g.Pr t md xd c F->dc h S g a cu->
  j9 q t a p md xd=some (mx,x)->uZ a p=true->az h g.Pr t mx x cu F:=by
 intro t;have hval:∀(t:Ty)(t':Ty)(x':t'.den)(md:Mk)(mx:Mk)(x:t.den)(cu:List Value)(F:BS),
   (if md.still=true then (qbv t' t x').bind fun y=>some (Mk.no,y) else none)=some (mx,x)->az h g.Pr t' .no x' cu Nil->az h g.Pr t mx x cu F:=by
  intro t t' x' md mx x cu F hl hr;split at hl
  .simp only[cJ,aK,aZ]at hl;obtain⟨y,hy,rfl,rfl⟩:=hl;exact(az.cast hy hr).2.room _ (Sub.nil _)
  .simp at hl
 induction t with
 | pair ta tb fQ kR=>
  intro a p md xd mx x c cu base F hf ha r hc hl kB;cases a with
  | pair u v=>simp only[j9,cJ,aK,aZ]at hl;obtain⟨y,hy,z',hz,rfl,rfl⟩:=hl;simp only[dc]at hc;obtain⟨ca,cb,rfl,h1,h2⟩:=hc;simp only[uZ,bH]at kB;simp only[az]at r;obtain⟨da,db,Fa,Fb,rfl,ra,rb,sa,sb,dd⟩:=r;have hw:=az.width _ ra;have e1:=fQ (base:=base) (F:=Fa) (c:=da) (by rw[uT p _ hf];simp[focus]) (by rw[u7 p _ hf ha];simp only[cm];rw[<-hw,jm rfl]) ra h1 hy kB.1;have e2:=kR (base:=base.map fun x=>(x.1,x.2+ta.width)) (F:=Fb) (c:=db) (by rw[uT p _ hf];simp[focus]) (by rw[u7 p _ hf ha];simp only[cm];rw[<-hw,iZ rfl]) rb h2 hz kB.2;simp only[az];exact⟨ca,cb,Fa,Fb,rfl,e1,e2,sa,sb,dd⟩
  | val t' x'=>simp only[j9]at hl;simp only[dc]at hc;exact hval _ _ _ _ _ _ _ _ hl hc
  | _=>simp[j9]at hl
 | sl e ih=>
  intro a p md xd mx x c cu base F hf ha r hc hl kB;cases a with
  | b7 r' p' s=>
   simp only[j9]at hl;cases md with
   | own s' m0=>
    simp only at hl;split at hl
    .rename_i nX;obtain⟨rfl,rfl⟩:=nX;simp only[uZ,gQ]at kB;subst kB;simp only[dc]at hc;obtain⟨v,rfl,hb⟩:=hc;obtain⟨_,b',ef⟩:=hb R hR _ _ _ hf;rw[ef]at ha;simp only[aK,aZ]at ha hl;obtain⟨_,rfl⟩:=ha;obtain⟨rfl,rfl⟩:=hl;exact r
    .simp at hl
   | _=>simp at hl
  | val t' x'=>simp only[j9]at hl;simp only[dc]at hc;exact hval _ _ _ _ _ _ _ _ hl hc
  | _=>simp[j9]at hl
 | unit=>
  intro a p md xd mx x c cu base F hf ha r hc hl kB;cases a with
  | val t' x'=>simp only[j9]at hl;simp only[dc]at hc;exact hval _ _ _ _ _ _ _ _ hl hc
  | unit=>simp only[dc]at hc;subst hc;simp only[az]
  | _=>simp[j9]at hl
 | int k=>
  intro a p md xd mx x c cu base F hf ha r hc hl kB;cases a with
  | val t' x'=>simp only[j9]at hl;simp only[dc]at hc;exact hval _ _ _ _ _ _ _ _ hl hc
  | _=>simp[j9]at hl
 | bool=>
  intro a p md xd mx x c cu base F hf ha r hc hl kB;cases a with
  | val t' x'=>simp only[j9]at hl;simp only[dc]at hc;exact hval _ _ _ _ _ _ _ _ hl hc
  | _=>simp[j9]at hl
 | str=>
  intro a p md xd mx x c cu base F hf ha r hc hl kB;cases a with
  | val t' x'=>simp only[j9]at hl;simp only[dc]at hc;exact hval _ _ _ _ _ _ _ _ hl hc
  | _=>simp[j9]at hl
theorem ab5{h h2:Array Obj}{S:St}{g:aA}{gf:BS}{site q:Nat}{R:aB}(hR:S.root q=some R)(hp:Sub g.Pr gf)(hk:∀b,g.Pr b->h2[b]? = h[b]?) :
  ∀(t:Ty){a:AV}{p:Path}{md:Mk}{xd:t.den}{m mm:Mk}{o yy:t.den}{c cu:List Value}{base:fH}{F Os:BS},
  focus R.ty R.ms R.x p=some ⟨t,md,xd⟩->cm h R.ty (g.C q) (g.base q) p=some (base,c)->az h g.Pr t md xd c F->dc h S g a cu->
  az h2 gf t m o cu Os->(∃z,j9 q t a p md xd=some z)->uZ a p=true->gC site q t a p md xd m o=some (mm,yy)->
  ∃F1 F2,Sub F1 Os/\Sub F2 Os/\cv F1 F2/\az h2 (fun b=>gf b\/F2 b) t mm yy c F1:=by
 intro t;have hval:∀(t:Ty)(md:Mk)(xd:t.den)(mm:Mk)(yy:t.den)(c:List Value)(F Os:BS),
   (if md.still=true then some (Mk.no,xd) else none)=some (mm,yy)->az h g.Pr t md xd c F->∃F1 F2,Sub F1 Os/\Sub F2 Os/\cv F1 F2/\az h2 (fun b=>gf b\/F2 b) t mm yy c F1:=by
  intro t md xd mm yy c F Os hl hr;split at hl
  .rename_i hs;simp only[aK,aZ]at hl;obtain⟨rfl,rfl⟩:=hl;exact⟨Nil,Nil,Sub.nil _,Sub.nil _,cv.nil _,az.mono (fun b hb=>.inl (hp b hb)) hk t (az.eK (F':=Nil) t hs hr) (Sub.refl _) (fun _ h=>h.elim)⟩
  .simp at hl
 induction t with
 | pair ta tb fQ kR=>
  intro a p md xd m mm o yy c cu base F Os hf ha r hc ro hle kB hl;cases a with
  | pair u v=>
   simp only[gC,cJ,aK,aZ]at hl;obtain⟨y,hy,z',hz,rfl,rfl⟩:=hl;simp only[dc]at hc;obtain⟨ca,cb,rfl,h1,tc⟩:=hc;simp only[uZ,bH]at kB;simp only[az]at r;obtain⟨da,db,Fa,Fb,rfl,ra,rb,sa,sb,dd⟩:=r;have hw:=az.width _ ra;simp only[az]at ro;obtain⟨ea,eb,Oa,Ob,eo,roa,rob,soa,sob,V5⟩:=ro;have f1:focus R.ty R.ms R.x (p++[.fst])=some ⟨ta,md.fst,xd.1⟩:=by rw[uT p _ hf];simp[focus]
   have f2:focus R.ty R.ms R.x (p++[.snd])=some ⟨tb,md.snd,xd.2⟩:=by rw[uT p _ hf];simp[focus]
   have a1:cm h R.ty (g.C q) (g.base q) (p++[.fst])=some (base,da):=by rw[u7 p _ hf ha];simp only[cm];rw[<-hw,jm rfl]
   have a2:cm h R.ty (g.C q) (g.base q) (p++[.snd])=some (base.map fun x=>(x.1,x.2+ta.width),db):=by rw[u7 p _ hf ha];simp only[cm];rw[<-hw,iZ rfl]
   obtain⟨zz,hle⟩:=hle;simp only[j9,cJ]at hle;obtain⟨zy,hzy,zz,Xy,-⟩:=hle;have jK:ca=ea/\cb=eb:=by
    have w1:=az.width _ roa;have w2:=az.width _ rob;have:ca.length=ea.length:=by rw[w1];exact az.width _ (Se hR ta f1 a1 ra h1 (mx:=zy.1) (x:=zy.2) hzy kB.1)
    exact List.append_inj eo this
   obtain⟨rfl,rfl⟩:=jK;obtain⟨A1,A2,s1,s2,d1,r1⟩:=fQ f1 a1 ra h1 roa ⟨_,hzy⟩ kB.1 hy;obtain⟨B1,B2,s3,s4,d2,r2⟩:=kR f2 a2 rb tc rob ⟨_,Xy⟩ kB.2 hz;refine⟨fun b=>A1 b\/B1 b,fun b=>A2 b\/B2 b,?_,?_,?_,?_⟩
   .rintro z (hz | hz)
    .exact soa z (s1 z hz)
    .exact sob z (s3 z hz)
   .rintro z (hz | hz)
    .exact soa z (s2 z hz)
    .exact sob z (s4 z hz)
   .rintro z (hz | hz) (hy | hy)
    .exact d1 z hz hy
    .exact V5 z (s1 z hz) (s4 z hy)
    .exact V5 z (s2 z hy) (s3 z hz)
    .exact d2 z hz hy
   .simp only[az];exact⟨da,db,A1,B1,rfl,az.mono (fun z hz=>hz.imp id .inl) (fun _ _=>rfl) _ r1 (Sub.refl _) (fun _ _=>rfl),
     az.mono (fun z hz=>hz.imp id .inr) (fun _ _=>rfl) _ r2 (Sub.refl _) (fun _ _=>rfl),fun z hz=>.inl hz,fun z hz=>.inr hz,V5.mono s1 s3⟩
  | val t' x'=>simp only[gC]at hl;exact hval _ _ _ _ _ _ _ _ hl r
  | unit=>simp only[gC]at hl;exact hval _ _ _ _ _ _ _ _ hl r
  | _=>simp[gC]at hl
 | sl e ih=>
  intro a p md xd m mm o yy c cu base F Os hf ha r hc ro hle kB hl;cases a with
  | b7 r' p' s=>
   simp only[gC]at hl;cases md with
   | own s' m0=>
    simp only at hl;split at hl
    .rename_i nX;obtain⟨rfl,rfl,oF,Xj⟩:=nX;simp only[uZ,gQ]at kB;subst kB;simp only[dc]at hc;obtain⟨v,rfl,hb⟩:=hc;obtain⟨_,b',ef⟩:=hb R hR _ _ _ hf;rw[ef]at ha;simp only[aK,aZ]at ha hl;obtain⟨_,rfl⟩:=ha;obtain⟨rfl,rfl⟩:=hl;obtain⟨F1,F2,s1,s2,d,rr⟩:=az.aQ _ Xj ro;refine⟨F1,F2,s1,s2,d,?_⟩;have:=(az.stamp site _).1 rr;simp only[Mk.stamp,az]at this⊢;exact this
    .simp at hl
   | _=>simp at hl
  | val t' x'=>simp only[gC]at hl;exact hval _ _ _ _ _ _ _ _ hl r
  | unit=>simp only[gC]at hl;exact hval _ _ _ _ _ _ _ _ hl r
  | _=>simp[gC]at hl
 | unit=>
  intro a p md xd m mm o yy c cu base F Os hf ha r hc ro hle kB hl;cases a with
  | val t' x'=>simp only[gC]at hl;exact hval _ _ _ _ _ _ _ _ hl r
  | unit=>simp only[gC]at hl;exact hval _ _ _ _ _ _ _ _ hl r
  | _=>simp[gC]at hl
 | int k=>
  intro a p md xd m mm o yy c cu base F Os hf ha r hc ro hle kB hl;cases a with
  | val t' x'=>simp only[gC]at hl;exact hval _ _ _ _ _ _ _ _ hl r
  | unit=>simp only[gC]at hl;exact hval _ _ _ _ _ _ _ _ hl r
  | _=>simp[gC]at hl
 | bool=>
  intro a p md xd m mm o yy c cu base F Os hf ha r hc ro hle kB hl;cases a with
  | val t' x'=>simp only[gC]at hl;exact hval _ _ _ _ _ _ _ _ hl r
  | unit=>simp only[gC]at hl;exact hval _ _ _ _ _ _ _ _ hl r
  | _=>simp[gC]at hl
 | str=>
  intro a p md xd m mm o yy c cu base F Os hf ha r hc ro hle kB hl;cases a with
  | val t' x'=>simp only[gC]at hl;exact hval _ _ _ _ _ _ _ _ hl r
  | unit=>simp only[gC]at hl;exact hval _ _ _ _ _ _ _ _ hl r
  | _=>simp[gC]at hl
theorem vQ{t:Ty}{md mm:Mk}{xd yy:t.den}(hl:(if md.still=true then some (Mk.no,xd) else none)=some (mm,yy)):md.still=true/\mm=.no/\yy=xd:=by
 split at hl
 .rename_i hs;simp only[aK,aZ]at hl;exact⟨hs,hl.1.symm,hl.2.symm⟩
 .simp at hl
theorem ab6{hd:Nat->Value}{site q:Nat}(hs:site<1048576):∀(t:Ty){a:AV}{p:Path}{md:Mk}{xd:t.den}{m mm:Mk}{o yy:t.den}{c:List Value},
  gC site q t a p md xd m o=some (mm,yy)->aL hd t md c->aL hd t mm c/\md.nE site (site+1) mm:=by
 intro t
 induction t with
 | pair ta tb fQ kR=>
  intro a p md xd m mm o yy c hl ni;cases a with
  | pair u v=>simp only[gC,cJ,aK,aZ]at hl;obtain⟨y,hy,z',hz,rfl,rfl⟩:=hl;simp only[aL]at ni⊢;have h1:=fQ hy ni.1;have h2:=kR hz ni.2;exact⟨⟨h1.1,h2.1⟩,h1.2,h2.2⟩
  | val t' x'=>simp only[gC]at hl;obtain⟨_,rfl,rfl⟩:=vQ hl;exact⟨aL.no _ _,trivial⟩
  | unit=>simp only[gC]at hl;obtain⟨_,rfl,rfl⟩:=vQ hl;exact⟨aL.no _ _,trivial⟩
  | _=>simp[gC]at hl
 | sl e ih=>
  intro a p md xd m mm o yy c hl ni;cases a with
  | b7 r' p' s=>
   simp only[gC]at hl;cases md with
   | own s' m0=>
    simp only at hl;split at hl
    .rename_i nX;obtain⟨rfl,rfl,oF,Xj⟩:=nX;simp only[aK,aZ]at hl;obtain⟨rfl,rfl⟩:=hl;simp only[aL]at ni⊢;exact⟨⟨ni.1,Mk.cL hs oF⟩,.inr ⟨_,rfl,Mk.eN _ (Mk.dP site oF)⟩⟩
    .simp at hl
   | _=>simp at hl
  | val t' x'=>simp only[gC]at hl;obtain⟨_,rfl,rfl⟩:=vQ hl;exact⟨aL.no _ _,trivial⟩
  | unit=>simp only[gC]at hl;obtain⟨_,rfl,rfl⟩:=vQ hl;exact⟨aL.no _ _,trivial⟩
  | _=>simp[gC]at hl
 | _=>
  intro a p md xd m mm o yy c hl ni;cases a with
  | val t' x'=>simp only[gC]at hl;obtain⟨_,rfl,rfl⟩:=vQ hl;exact⟨aL.no _ _,trivial⟩
  | unit=>simp only[gC]at hl;obtain⟨_,rfl,rfl⟩:=vQ hl;exact⟨aL.no _ _,trivial⟩
  | _=>simp[gC]at hl
theorem aaN{h h2:Array Obj}{Pr gf:BS}{site q:Nat}:∀(t:Ty){a:AV}{p:Path}{md:Mk}{xd:t.den}{m mm:Mk}{o yy:t.den}{c:List Value}{base:fH}{F F1:BS},
  gC site q t a p md xd m o=some (mm,yy)->az h Pr t md xd c F->az h2 gf t mm yy c F1->
  ∀p' t1 n1,jD site (site+1) p'=true->q8 t mm p'=some (t1,n1)->bt t xd p'->bt t yy p'/\∀bp cp,cm h t c base p'=some (bp,cp)->
   ∃iP,cm h2 t c base p'=some (bp,iP)/\(∀s a,n1=.own s a->¬ (site<=s/\s<site+1)->iP=cp):=by
 intro t;have hval:∀(t:Ty)(c:List Value)(base:fH)(x:t.den)(p':Path)(t1:Ty)(n1:Mk),jD site (site+1) p'=true->q8 t .no p'=some (t1,n1)->bt t x p'->bt t x p'/\∀bp cp,cm h t c base p'=some (bp,cp)->
   ∃iP,cm h2 t c base p'=some (bp,iP)/\(∀s a,n1=.own s a->¬ (site<=s/\s<site+1)->iP=cp):=by
  intro t c base x p' t1 n1 hp gV hi;obtain⟨hi',zg⟩:=C6 (lo:=site) (hi:=site+1) p' (m:=.no) trivial hp gV;refine⟨hi,fun bp cp ha=>?_⟩;obtain⟨iP,h3⟩:=IC (h':=h2) p' _ c _ hi' ha;exact⟨iP,h3,fun s a' e hs=>by subst e;exact absurd zg hs⟩
 have z8:∀(t:Ty)(mm:Mk)(c:List Value)(base:fH)(y:t.den)(t1:Ty)(n1:Mk),bt t y []/\∀bp cp,cm h t c base []=some (bp,cp)->
   ∃iP,cm h2 t c base []=some (bp,iP)/\(∀s a,n1=.own s a->¬ (site<=s/\s<site+1)->iP=cp):=by
  intro t mm c base y t1 n1;refine⟨xI _ _,fun bp cp ha=>?_⟩;rw[Er]at ha;exact⟨cp,by rw[Er];exact ha,fun _ _ _ _=>rfl⟩
 induction t with
 | pair ta tb fQ kR=>
  intro a p md xd m mm o yy c base F F1 hl r r2 p' t1 n1 hp gV hi;cases a with
  | pair u v=>
   simp only[gC,cJ,aK,aZ]at hl;obtain⟨y,hy,z',hz,rfl,rfl⟩:=hl;simp only[az]at r r2;obtain⟨da,db,Fa,Fb,rfl,ra,rb,-⟩:=r;obtain⟨ea,eb,Ea,Eb,ee,qa,qb,-⟩:=r2;obtain⟨rfl,rfl⟩:=List.append_inj ee (by rw[az.width _ ra,az.width _ qa]);have hw:=az.width _ ra;cases p' with
   | nil=>exact z8 _ (.pr y.1 z'.1) _ _ _ t1 _
   | cons st p'=>
    cases st with
    | fst=>simp only[q8,Mk.fst]at gV;simp only[bt]at hi⊢;obtain⟨h1,h3⟩:=fQ (base:=base) hy ra qa p' t1 n1 (by simpa [jD] using hp) gV hi;refine⟨h1,fun bp cp ha=>?_⟩;simp only[cm]at ha⊢;rw[<-hw,jm rfl]at ha⊢;exact h3 _ _ ha
    | snd=>simp only[q8,Mk.snd]at gV;simp only[bt]at hi⊢;obtain⟨h1,h3⟩:=kR (base:=base.map fun x=>(x.1,x.2+ta.width)) hz rb qb p' t1 n1 (by simpa [jD] using hp) gV hi;refine⟨h1,fun bp cp ha=>?_⟩;simp only[cm]at ha⊢;rw[<-hw,iZ rfl]at ha⊢;rw[hw]at ha⊢;exact h3 _ _ ha
    | idx i s=>simp[q8]at gV
  | val t' x'=>simp only[gC]at hl;obtain⟨_,rfl,rfl⟩:=vQ hl;exact hval _ _ _ _ _ _ _ hp gV hi
  | unit=>simp only[gC]at hl;obtain⟨_,rfl,rfl⟩:=vQ hl;exact hval _ _ _ _ _ _ _ hp gV hi
  | _=>simp[gC]at hl
 | sl e ih=>
  intro a p md xd m mm o yy c base F F1 hl r r2 p' t1 n1 hp gV hi;cases a with
  | b7 r' p0 s=>
   simp only[gC]at hl;cases md with
   | own s' m0=>
    simp only at hl;split at hl
    .rename_i nX;obtain⟨rfl,rfl,oF,Xj⟩:=nX;simp only[aK,aZ]at hl;obtain⟨rfl,rfl⟩:=hl;cases p' with
     | nil=>exact z8 _ .no _ _ _ t1 _
     | cons st p'=>
      cases st with
      | fst=>simp[q8]at gV
      | snd=>simp[q8]at gV
      | idx i s=>
       simp only[q8]at gV;split at gV
       .rename_i hss;simp only[jD,bH]at hp;obtain⟨hip,zg⟩:=C6 p' (Mk.dP site oF) hp.2 gV;simp only[az]at r r2;obtain⟨a1,k1,rfl,nM,r⟩:=r;obtain⟨a2,k2,e2,iI,r2⟩:=r2;simp only[eS,Value.slice.injEq,iO]at e2;obtain⟨rfl,hlen,rfl⟩:=e2;simp only[bt]at hi⊢;refine⟨⟨hlen ▸ hi.1,zx _ _ hip gV⟩,fun bp cp ha=>?_⟩;rcases r2 with r2 | ⟨b,cs,rfl,fb,hb,hsz,-⟩
        .omega
        obtain⟨ty,lo,hi',he,_⟩:=hb;simp only[cm,he];simp only[cm]at ha;split at ha
        .obtain⟨iP,h3⟩:=IC (h':=h2) p' _ (sub cs (i * e.width) e.width) _ hip ha;exact⟨iP,h3,fun s a' e hs=>by subst e;exact absurd zg hs⟩
        .simp at ha
       .simp at gV
    .simp at hl
   | _=>simp at hl
  | val t' x'=>simp only[gC]at hl;obtain⟨_,rfl,rfl⟩:=vQ hl;exact hval _ _ _ _ _ _ _ hp gV hi
  | unit=>simp only[gC]at hl;obtain⟨_,rfl,rfl⟩:=vQ hl;exact hval _ _ _ _ _ _ _ hp gV hi
  | _=>simp[gC]at hl
 | _=>
  intro a p md xd m mm o yy c base F F1 hl r r2 p' t1 n1 hp gV hi;cases a with
  | val t' x'=>simp only[gC]at hl;obtain⟨_,rfl,rfl⟩:=vQ hl;exact hval _ _ _ _ _ _ _ hp gV hi
  | unit=>simp only[gC]at hl;obtain⟨_,rfl,rfl⟩:=vQ hl;exact hval _ _ _ _ _ _ _ hp gV hi
  | _=>simp[gC]at hl
theorem abf{h:Array Obj}{S:St}{g:aA}{q:Nat}{t:Ty}{a:AV}{p:Path}{md:Mk}{xd:t.den}{z:Mk×t.den}{rp:Nat×Path}{v:Value}
  (hp:kC a=some rp) (hl:j9 q t a p md xd=some z) (hv:qe h S g a v):∃c,v=dJ t c/\dc h S g a c:=by
 cases a with
 | b7 r' p' s=>
  cases t with
  | sl e=>simp only[qe]at hv;exact⟨[v],by simp[dJ,Ty.agg],by simp only[dc];exact⟨v,rfl,hv⟩⟩
  | _=>simp[j9]at hl
 | pair a b=>
  cases t with
  | pair ta tb=>simp only[qe]at hv;obtain⟨ca,cb,rfl,h1,h2⟩:=hv;exact⟨ca++cb,by simp[dJ,Ty.agg],by simp only[dc];exact⟨ca,cb,rfl,h1,h2⟩⟩
  | _=>simp[j9]at hl
 | _=>simp[kC]at hp
section
variable {P:Program} {C:Ctx} {D:Den C} {S:St} {g:aA} {w:World} {tmps:Array Value}
variable {A:bU} {site:Nat} (dj:ot P C D) (st:aD w.heap S g tmps Nil)
include dj st
theorem aaH{f:FuncId}{aI:List AV}{vs:List Value}{d:Option Nat}(ok:nL A S d site)(hfr:site<1048576/\∀u,(S.get u).aR site (site+1)=true)
  (ha:lW w.heap S g aI vs) (W0:(C.sig f).params.all (fun k=>!k.mc)=true) {gd:jq (C.sig f).params} (h1:fX S.rt (C.sig f).params aI=some (gd,S.rt))
  {od:dy (C.sig f).params} {fe:aP} {n:Nat} {u0:AV} {v0:Value} {q:Nat} {p:Path} {R:aB} {md:Mk} {t:Ty} {xd:t.den} {m m' mx:Mk} {x:t.den} (rM:qe w.heap S g u0 v0)
  (L:wv w.heap (C.sig f).params aI vs S.rt fe od n u0 v0 q p R md t xd m m' mx x) {a:gb (C.sig f).params} (h3:jh fe (C.sig f).params aI gd od=some a)
  (hs:mJ (C.sig f).params aI=true\/(C.sig f).full=true) {r:f5 (C.sig f).res×dy (C.sig f).params} (hD:D f a=some r) {β:Bool} {v:AV} {yN rt':aP}
  (ho:ga S.rt site (C.sig f).params aI r.2=some yN) (he:(mu A yN d site (C.sig f).res r.1).dec β=some (v,rt')) :
  Calls P f vs.toArray w fun e w'=>∃val,e=.returned val/\Post S g w tmps v rt' val w':=by
 have hR:=L.root;have bM:(S.root q).isSome:=by show(S.rt.root q).isSome=true;rw[hR];rfl
 obtain⟨cu,Kn,Wx⟩:=abf L.place L.xm rM;have hin:=ac2 hR t L.DB Wx L.xm L.paths L.place;obtain⟨base,c,F,q1,q2,q3,q4,q5,q6⟩:=st.m4 hR L.DB hin;have q2l:=Se hR t L.DB q1 q2 Wx L.xm L.paths;have Xn:aL g.hd t md c:=aL.at p (st.tag q R hR) L.DB q1;obtain⟨F1,F2,s1,s2,s3,s4⟩:=az.aQ t L.TS q2l;have pn:=(st.gA bM).cO F2 (fun z hz=>.inr (q3 z (s2 z hz)))
 let g2:aA:={ g with Pr:=Un g.Pr F2 }
 have Ad:Kp w.heap S g (S.aG q none) g2:=(M9 st q).trans (Jl (st.gA bM) F2)
 let Fs:Nat->BS:=fun j=>if j=n then F1 else Nil
 have pZ:∀i,Sub (Fs i) (fun z=>(Nil z\/g.G q z)/\¬ F2 z):=by
  intro i z hz;simp only[Fs]at hz;split at hz
  .exact⟨.inr (q3 z (s1 z hz)),fun h=>s3 z hz h⟩
  .exact hz.elim
 have e2:fe=(S.aG q none).rt:=L.fe;subst e2;obtain⟨gg1,HH1,FF,kk⟩:=B0 (sl:=S.sl) (C.sig f).params aI vs S.rt g Nil 0 gd S.rt ha st h1;have hG:=Ez (h2:=w.heap) (gf:=g2.Pr) (pR:=Fs) (C.sig f).params 0 W0 kk.2.2.2.2.1;have hL:=L.ls g2.Pr Fs 0 (by
  simp only[kz,Fs,aY];exact⟨cu,s4,Kn⟩)
 have hps:=yq pn (sh:=mJ (C.sig f).params aI) (Fs:=Fs) (C.sig f).params aI vs 0 gd od a (fun h=>h) (ha.kp Ad) hG hL h3;have DG:∀i j,i≠j->cv (Fs i) (Fs j):=by
  intro i j hij z h1 h2;simp only[Fs]at h1 h2;split at h1
  .split at h2
   .omega
   .exact h2
  .exact h1
 have pre:Pre w.heap (Seen (mJ (C.sig f).params aI) (S.aG q none) g2) Fs (C.sig f).params a vs:=
  ⟨hps,DG,fun i z hz=>AW pn _ z (pZ i z hz),fun i z hz=>pn.eg z (pZ i z hz),AX pn _⟩
 refine(dj.ok f a r hD w _ Fs vs pre).mono ?_;rintro e w' ⟨val,fN,Gs,Os,us,rfl,p0⟩;obtain⟨y,hy1,Ee⟩:=L.out r.2;have eO:=hy1 S.rt site yN ho;obtain⟨cu',Ci,DA⟩:=Ee _ _ _ _ p0.out;rw[kz]at Ci;obtain rfl:cu=cu':=ajX q2l Ci (Kn.symm.trans DA);have ja:∀z,tT w.heap.size Fs z->w.heap.size<=z\/F1 z:=by
  rintro z (h | ⟨i,h⟩)
  .exact .inl h
  .simp only[Fs]at h;split at h
   .exact .inr h
   .exact h.elim
 let D0:BS:=fun z=>mJ (C.sig f).params aI=true/\fN z/\¬ g.Pr z
 have hD0:∀z,D0 z->F z\/Nil z\/w.heap.size<=z:=by
  rintro z ⟨hsh,h1,h2⟩;rcases p0.kY z h1 with h3 | h3
  .rw[hsh]at h3;simp only[Seen,aY]at h3;rcases h3 with h3 | h3
   .exact absurd h3 h2
   .exact .inl (s2 z h3)
  .rcases ja z h3 with h4 | h4
   .exact .inr (.inr h4)
   .exact .inl (s1 z h4)
 have hOm:∀z,Os n z->F z\/Nil z\/w.heap.size<=z:=by
  intro z hz;rcases ja z (p0.oL n z hz) with h4 | h4
  .exact .inr (.inr h4)
  .exact .inl (s1 z h4)
 have hfull:mJ (C.sig f).params aI=false->(C.sig f).full=true:=fun h=>hs.resolve_left (by rw[h];simp);have yM:az w'.heap (Un g.Pr D0) t m' y cu (Os n):=by
  cases hsh:mJ (C.sig f).params aI with
  | true=>
   refine az.mono (fun z hz=>?_) (fun _ _=>rfl) _ Ci (Sub.refl _) (fun _ _=>rfl);by_cases h1:g.Pr z
   .exact .inl h1
   .exact .inr ⟨hsh,hz,h1⟩
  | false=>have h5:=hfull hsh;simp only[wA.full,bH]at h5;exact az.lM _ (L.full h5.1) Ci
 have WL:∀z,z<w.heap.size->¬ F z->w'.heap[z]? = w.heap[z]?:=fun z hz z7=>p0.fr.block z hz (fun h=>by
   rcases ja z h with h4 | h4
   .omega
   .exact z7 (s1 z h4))
 have I2:∀b,g.Pr b->w'.heap[b]? = w.heap[b]?:=fun b hb=>WL b (st.bO b hb) (fun h=>st.ej q bM b (q3 b h) hb);unfold xP at eO;rw[L.place]at eO;simp only at eO;rw[hR]at eO;simp only[cJ]at eO;obtain⟨dd,lC,eO⟩:=eO;rw[L.DB]at lC;simp only[aK]at lC;subst lC;simp only[↓reduceDIte,cJ]at eO;obtain⟨⟨mm,yy⟩,WS,eO⟩:=eO;simp only at eO;split at eO
 .simp at eO
 rename_i hidx;simp only[cJ,aK]at eO;obtain⟨⟨mr,xr⟩,hput,eO⟩:=eO;subst eO;obtain⟨G1,G2,t1,t2,t3,rz⟩:=ab5 (site:=site) hR (fun z hz=>Or.inl hz) I2 t L.DB q1 q2 Wx yM ⟨_,L.xm⟩ L.paths WS;obtain⟨ni,Xr⟩:=ab6 hfr.1 t WS Xn;have D5:=aaN (base:=base) t WS q2 rz
 let Dd:BS:=fun z=>D0 z\/G2 z
 have Wd:∀z,Dd z->F z\/Nil z\/w.heap.size<=z:=by
  rintro z (h | h)
  .exact hD0 z h
  .exact hOm z (t2 z h)
 obtain⟨g',k1,k2,k3,k4,k5,k6,k7⟩:=q6 site (site+1) w'.heap mm yy c G1 Dd mr xr hfr.2
  (fun z hz z7 _=>WL z hz z7)
  p0.fr.size
  (by
   intro b o e cs hcs;obtain⟨gz,h5,h6⟩:=yW.self q4 b o e cs hcs;exact⟨gz,h5.congr (WL b (by obtain⟨_,_,_,h7,_⟩:=hcs;exact(rG.1 h7).1) (q4 b o e).1),h6⟩)
  (az.mono (fun z hz=>hz.elim (fun h=>h.imp id .inl) (fun h=>.inr (.inr h))) (fun _ _=>rfl) _ rz (Sub.refl _) (fun _ _=>rfl))
  (fun z h1 h2=>h1.elim (fun h1=>p0.op n z (t1 z h2) h1.2.1) (fun h1=>t3 z h2 h1))
  (fun z hz=>hz.elim (fun h=>hOm z (t1 z h)) (Wd z))
  (fun z hz=>hz.elim (fun h=>p0.Ah n z (t1 z h)) (fun h=>h.elim (fun h=>p0.Aj z h.2.1) (fun h=>p0.Ah n z (t2 z h))))
  hput Xr ni (fun h=>by simpa [h] using hidx) D5
 have hres:lu w'.heap g'.Pr Gs 0 (C.sig f).res r.1 us:=by
  refine lu.conv _ 0 ?_ p0.res;cases hsh:mJ (C.sig f).params aI with
  | true=>
   refine .inl (fun z hz=>?_);by_cases h1:g.Pr z
   .exact k2 z h1
   .exact k3 z (.inl ⟨hsh,hz,h1⟩)
  | false=>have h5:=hfull hsh;simp only[wA.full,bH]at h5;exact .inr h5.2
 have Wh:∀i,Sub (Gs i) (fun z=>(Nil z\/F z\/(w.heap.size<=z/\z<w'.heap.size))/\¬ (G1 z\/Dd z)):=by
  intro i z hz;refine⟨?_,?_⟩
  .rcases ja z (p0.gL i z hz) with h4 | h4
   .exact .inr (.inr ⟨h4,p0.wD i z hz⟩)
   .exact .inr (.inl (s1 z h4))
  .rintro(h | h | h)
   .exact p0.go i n z hz (t1 z h)
   .exact p0.gp i z hz h.2.1
   .exact p0.go i n z hz (t2 z h)
 obtain⟨g4,u1,u2,u3⟩:=GD (S:=S) k1 Wh p0.zO ok (C.sig f).res hres he;refine⟨val,rfl,g4,u1,by rw[p0.val];exact u2,k4.trans u3,p0.fr.mono ?_⟩;intro z hz h;rcases ja z h with h4 | h4
 .omega
 .exact st.own q _ bM (q3 z (s1 z h4))
end
theorem lW.append{h:Array Obj}{S:St}{g:aA}:∀{aI bs:List AV}{vs ws:List Value},lW h S g aI vs->lW h S g bs ws->lW h S g (aI++bs) (vs++ws)
 | [],bs,vs,ws,k,k2=>by simp only[lW]at k;subst k;simpa using k2
 | a::aI,bs,vs,ws,k,k2=>by
  obtain⟨v,vs',rfl,r1,r2⟩:=k;exact⟨v,vs'++ws,rfl,r1,lW.append r2 k2⟩
theorem NM{h:Array Obj}{S:St}{g:aA}:∀{c:AV}{vs:List Value},aO h S g c vs->lW h S g (mY c) vs
 | .unit,vs,k=>by simp only[aO]at k;exact k
 | .pair a b,vs,k=>by
  simp only[aO]at k;obtain⟨v,vs',rfl,r1,r2⟩:=k;exact⟨v,vs',rfl,r1,NM r2⟩
 | .undef,_,k=>by simp only[aO]at k
 | .skip,_,k=>by simp only[aO]at k
 | .cD _,_,k=>by simp only[aO]at k
 | .fh,_,k=>by simp only[aO]at k
 | .val _ _,_,k=>by simp only[aO]at k
 | .b7 _ _ _,_,k=>by simp only[aO]at k
 | .view _ _ _ _ _,_,k=>by simp only[aO]at k
 | .addr _ _,_,k=>by simp only[aO]at k
 | .b_ _ _,_,k=>by simp only[aO]at k
 | .jF _,_,k=>by simp only[aO]at k
 | .gE _ _,_,k=>by simp only[aO]at k
 | .d9 _,_,k=>by simp only[aO]at k
theorem Ia{h:Array Obj}{S:St}{g:aA}{ρ:Operand->AV}{ev:Operand->Value}(hρ:∀x,qe h S g (ρ x) (ev x)):∀(l:List Operand),lW h S g (l.map ρ) (l.map ev)
 | []=>rfl
 | x::l=>⟨_,_,rfl,hρ x,Ia hρ l⟩
theorem ab7{h:Array Obj}{Pr:BS}{Gs:Nat->BS}{us:List Value}:∀(rs:List RK)(r:f5 rs)(t:Ty)(y:t.den),EK rs r t=some y->lu h Pr Gs 0 rs r us->
  ∃c F m,us=[dJ t c]/\az h Pr t m y c F
 | [],r,t,y,hy,k=>by simp[EK]at hy
 | [.val t' m],r,t,y,hy,k=>by
  simp only[EK]at hy;obtain⟨u,vs',rfl,⟨c,rr,rfl⟩,k2⟩:=k;simp only[lu]at k2;subst k2;obtain⟨rfl,rr2⟩:=az.cast hy rr;exact⟨c,_,m,rfl,rr2⟩
 | [.ptr t' m],r,t,y,hy,k=>by simp[EK]at hy
 | .val _ _::_::_,r,t,y,hy,k=>by simp[EK]at hy
 | .ptr _ _::_::_,r,t,y,hy,k=>by simp[EK]at hy
section
variable {P:Program} {C:Ctx} {D:Den C} {S:St} {g:aA} {w:World} {tmps:Array Value} {a:Act} {ρ:Operand->AV}
variable {A:bU} {site:Nat} {hint:Bool} (bn:iC P C) (dj:ot P C D) (st:aD w.heap S g tmps Nil) (hρ:∀x,qe w.heap S g (ρ x) (a.eval x))
include dj st
theorem RN{f:FuncId}{aI:List AV}{vs:List Value}{d:Option Nat}(ok:nL A S d site)(ha:lW w.heap S g aI vs)(ht:bX (rY C D A S.rt d site f aI)) :
  Calls P f vs.toArray w fun | .returned val,w''=>r6 S g w tmps (rY C D A S.rt d site f aI) val w'' | _,_=>False:=by
 obtain⟨⟨v,rt'⟩,hd⟩:=ht true;have tf:∀{Q:Value->World->Prop},Calls P f vs.toArray w (fun e w'=>∃val,e=.returned val/\Post S g w tmps v rt' val w')->
   Calls P f vs.toArray w fun | .returned val,w''=>r6 S g w tmps (rY C D A S.rt d site f aI) val w'' | _,_=>False:=by
  intro Q h;refine h.mono ?_;rintro e w' ⟨val,rfl,hp⟩;exact⟨true,v,rt',hd,hp⟩
 refine tf (Q:=fun _ _=>True) ?_;clear tf;unfold rY at hd;cases h1:fX S.rt (C.sig f).params aI with
 | none=>rw[h1]at hd;simp[Tr.dec]at hd
 | some z=>
  obtain⟨gd,d5⟩:=z;rw[h1]at hd;simp only at hd;cases h2:gB d5 (C.sig f).params aI with
  | none=>rw[h2]at hd;simp[Tr.dec]at hd
  | some z=>
   obtain⟨od,fe⟩:=z;rw[h2]at hd;simp only at hd;cases h3:jh fe (C.sig f).params aI gd od with
   | none=>rw[h3]at hd;simp[Tr.dec]at hd
   | some aa=>
    rw[h3]at hd;simp only at hd;by_cases hc:(HO (C.sig f).params&&(mJ (C.sig f).params aI||(C.sig f).full))=true
    .rw[aj hc]at hd;simp only[bH,jy]at hc;simp only[Tr.dec,cJ]at hd;obtain⟨r,hD,hd⟩:=hd;by_cases hn:(C.sig f).params.all (fun k=>!k.eD)=true
     .rw[aj hn]at hd;exact ai6 dj st ok ha h1 hn h2 h3 hc.2 hD hd
     .rw[af hn]at hd;by_cases hfr:A.fr=true
      .rw[aj hfr]at hd;cases hlo:vW (C.sig f).params aI with
       | false=>rw[hlo]at hd;simp[Tr.dec]at hd
       | true=>
       rw[hlo]at hd;simp only[Tr.dec]at hd;cases h4:ga d5 site (C.sig f).params aI r.2 with
       | none=>rw[h4]at hd;simp[Tr.dec]at hd
       | some yN=>
        rw[h4]at hd;simp only at hd;have hone:(List.filter PK.eD (C.sig f).params).length=1/\(C.sig f).params.all (fun k=>!k.mc)=true:=by
         have:=hc.1;unfold HO at this;split at this
         .rename_i h5;exfalso;rw[Sr]at h5;exact hn (by simpa using h5)
         .rename_i h5;rw[h5];exact⟨rfl,this⟩
         .simp at this
        obtain rfl:=JZ _ _ _ _ _ hone.2 h1;obtain⟨n,a0,v0,rM,wG⟩:=Sd (C.sig f).params aI vs S.rt fe od hone.1 ha h2 hlo;rcases wG with⟨q,t,m,m',R,x,rfl,L⟩ | ⟨q,p,R,md,t,xd,m,m',mx,x,L⟩
        .exact aaG dj st ok (ok.fr hfr) ha hone.2 h1 rM L h3 hc.2 hD h4 hd
        .exact aaH dj st ok (ok.fr hfr) ha hone.2 h1 rM L h3 hc.2 hD h4 hd
      .rw[af hfr]at hd;simp[Tr.dec]at hd
    .rw[af hc]at hd;simp[Tr.dec]at hd
theorem q9o{h:Array Obj}{tmps:Array Value}{sl:List AV}:∀(ks:List PK)(aI:List AV)(vs:List Value)(rt:aP)(g:aA)(z:List AV×aP),
  lW h ⟨sl,rt⟩ g aI vs->aD h ⟨sl,rt⟩ g tmps Nil->k_ rt ks aI=some z->
  ∃g1,aD h ⟨sl,z.2⟩ g1 tmps Nil/\Kp h ⟨sl,rt⟩ g ⟨sl,z.2⟩ g1/\g1.cR g/\lW h ⟨sl,z.2⟩ g1 z.1 vs
 | [],[],vs,rt,g,z,ha,st,hb=>by
  simp only[k_,aK]at hb;subst hb;exact⟨g,st,Kp.refl,.refl _,ha⟩
 | [],_::_,vs,rt,g,z,ha,st,hb=>by simp[k_]at hb
 | k::ks,[],vs,rt,g,z,ha,st,hb=>by cases k<;>simp[k_]at hb
 | k::ks,a::aI,vs,rt,g,z,ha,st,hb=>by
  obtain⟨v,vs',rfl,r1,r2⟩:=ha;have plain:(k_ rt ks aI).map (fun z=>(a::z.1,z.2))=some z->∃g1,aD h ⟨sl,z.2⟩ g1 tmps Nil/\Kp h ⟨sl,rt⟩ g ⟨sl,z.2⟩ g1/\g1.cR g/\lW h ⟨sl,z.2⟩ g1 z.1 (v::vs'):=by intro hb;simp only[fk]at hb;obtain⟨z',h1,rfl⟩:=hb;obtain⟨g1,k1,k2,k3,k4⟩:=q9o ks aI vs' rt g z' r2 st h1;exact⟨g1,k1,k2,k3,v,vs',rfl,k2 _ _ r1,k4⟩
  cases k with
  | val t=>
   simp only[k_]at hb;split at hb
   .exact plain hb
   .split at hb
    .rename_i m y fe sq;split at hb
     .rename_i hm;simp only[fk]at hb;obtain⟨z',h1,rfl⟩:=hb;obtain⟨c,g2,F,ev,cF⟩:=yK (S:=⟨sl,rt⟩) _ st sq r1;have pn:=(cF.st.cO F (fun b hb=>.inr hb)).bx (Sub.nil _);have Ad:Kp h ⟨sl,rt⟩ g ⟨sl,fe⟩ { g2 with Pr:=Un g2.Pr F }:=Kp.trans cF.kp (Jl cF.st F);have x:qe h ⟨sl,fe⟩ { g2 with Pr:=Un g2.Pr F } (.val t y) v:=by simp only[qe];exact⟨c,az.share t hm cF.rep,ev⟩
      obtain⟨g1,k1,k2,k3,k4⟩:=q9o ks aI vs' fe _ z' (r2.kp Ad) pn h1;exact⟨g1,k1,Ad.trans k2,cF.same.trans (aA.cR.trans ⟨rfl,rfl,rfl⟩ k3),v,vs',rfl,k2 _ _ x,k4⟩
     .simp at hb
    .simp at hb
  | _=>exact plain (by simpa only [k_] using hb)
theorem Mn:∀(ts:List Ty)(aI:List AV)(vs:List Value)(l:List bD),lW w.heap S g aI vs->yL S.rt ts aI=some l->nR w.heap (PG (yX S g)) l vs
 | [],aI,vs,l,ha,hb=>by
  cases aI with
  | nil=>simp only[yL,aK]at hb;subst hb;exact ha
  | cons a aI=>simp[yL]at hb
 | t::ts,[],vs,l,ha,hb=>by simp[yL]at hb
 | t::ts,a::aI,vs,l,ha,hb=>by
  obtain⟨v,vs',rfl,r1,r2⟩:=ha;simp only[yL,cJ,aK]at hb;obtain⟨x,hx,l',hl,rfl⟩:=hb;obtain⟨c,e,r⟩:=qM st t hx r1;exact⟨v,vs',rfl,⟨c,r,e⟩,Mn ts aI vs' l' r2 hl⟩
theorem PA{h:Array Obj}{g:aA}:∀{l l2:List bD}{vs ws:List Value},nR h g l vs->nR h g l2 ws->nR h g (l++l2) (vs++ws)
 | [],_,vs,ws,k,k2=>by simp only[nR]at k;subst k;simpa using k2
 | c::l,_,vs,ws,k,k2=>by
  obtain⟨v,vs',rfl,r1,r2⟩:=k;exact⟨v,vs'++ws,rfl,r1,PA r2 k2⟩
theorem HA{h:Array Obj}{Pr:BS}{Fs:Nat->BS}:∀(ks:List PK)(l:List bD)(vs:List Value)(i:Nat)(aa:gb ks),yD ks l=some aa->nR h (PG Pr) l vs->yI h Pr Fs i ks aa vs/\ks.all PK.plain=true
 | [],l,vs,i,aa,hp,hc=>by
  cases l with
  | nil=>exact⟨hc,rfl⟩
  | cons c l=>simp[yD]at hp
 | k::ks,[],vs,i,aa,hp,hc=>by cases k<;>simp[yD]at hp
 | k::ks,c::l,vs,i,aa,hp,hc=>by
  obtain⟨v,vs',rfl,r1,r2⟩:=hc;cases k with
  | val t=>
   cases c with
   | val t' x=>simp only[yD,cJ,aK]at hp;obtain⟨y,hy,r,hr,rfl⟩:=hp;obtain⟨c,rr,e⟩:=r1;obtain⟨rfl,rr2⟩:=az.cast hy rr;obtain⟨p1,p2⟩:=HA ks l vs' (i+1) r hr r2;exact⟨⟨v,vs',rfl,⟨c,rr2,e⟩,p1⟩,by simpa [PK.plain] using p2⟩
   | _=>simp[yD]at hp
  | cj t=>
   cases c with
   | cj t' x=>simp only[yD,cJ,aK]at hp;obtain⟨y,hy,r,hr,rfl⟩:=hp;obtain⟨e1,e2⟩:=C8 hy;subst e1;simp only at e2;subst e2;obtain⟨p1,p2⟩:=HA ks l vs' (i+1) r hr r2;exact⟨⟨v,vs',rfl,r1,p1⟩,by simpa [PK.plain] using p2⟩
   | _=>simp[yD]at hp
  | _=>cases c<;>simp[yD]at hp
theorem aan{h:Array Obj}{Pr gf:BS}{t:Ty}{m:Mk}{x:t.den}{c:List Value}{F F2:BS}(hs:t.scalar=true)(r:az h Pr t m x c F):az h gf t .no x c F2:=by cases t<;>simp[Ty.scalar]at hs<;>simpa only [az] using r
theorem aaA{cl:bf}{xs:List bD}{t:Ty}{y:t.den}{vs ws:List Value}(hs:t.scalar=true)(hy:gZ C D cl xs t=some y)(hx:nR w.heap (PG (yX S g)) xs vs)(hw:nR w.heap g cl.caps ws) :
  Calls P cl.f (vs++ws).toArray w fun e w'=>∃val,e=.returned val/\Post S g w tmps (.val t y) S.rt val w':=by
 simp only[gZ,cJ]at hy;obtain⟨aa,ha,r,hD,hr⟩:=hy;obtain⟨hps,uh⟩:=HA dj st (Fs:=fun _=>Nil) (C.sig cl.f).params _ _ 0 aa ha (PA dj st hx (HH st (fun b hb=>.inl hb:Sub g.Pr (yX S g)) hw));have hv:=AW st false;have pre:Pre w.heap (yX S g) (fun _=>Nil) (C.sig cl.f).params aa (vs++ws):=
  ⟨hps,fun _ _ _=>cv.nil _,fun _=>cv.nil _,fun _ _ h=>h.elim,AX st false⟩
 refine(dj.ok cl.f aa r hD w _ _ _ pre).mono ?_;rintro e w' ⟨val,fN,Gs,Os,us,rfl,p⟩;have ja:∀z,tT w.heap.size (fun _=>Nil) z->w.heap.size<=z:=fun z h=>h.elim id (fun⟨_,h⟩=>h.elim);have Dq:=st.grow (h2:=w'.heap) (fun b hb=>p.fr.block b hb (fun h=>absurd (ja b h) (by omega))) p.fr.size Nil (fun b hb=>hb.elim);obtain⟨c,F,m,hus,rr⟩:=ab7 _ _ _ _ hr p.res;refine⟨val,rfl,g,Dq,?_,.refl g,p.fr.mono (fun z hz h=>absurd (ja z h) (by omega))⟩;rw[p.val,hus];simp only[qe,tK];exact⟨c,aan dj st hs rr,rfl⟩
include bn hρ
theorem ajw{o:Oper}{c:Call}{f:Operand}(ho:o.op=.call c)(hc:c.callee=.value f)(ok:nL A S o.dst site):Goal P C D S g w tmps a ρ A site hint o:=by
 intro ht;have oS:∀(ff:FuncId)(vs:List Value),Jg P ff->a.eval f=.func (.func ff) #[] vs.toArray->
   (execOp a.eval o).run P w=.ok (.enter ff (c.args.toList.map a.eval++vs).toArray) w:=by
  rintro ff vs ⟨fn,h1,h2,h3⟩ hv;have hb:¬ fn.body=none:=by intro hh;rw[hh]at h3;simp at h3
  have kM:c.args.map a.eval++vs.toArray=(c.args.toList.map a.eval++vs).toArray:=by apply nt;simp
  simp[execOp,ho,resolve,hc,Deferred.ofValue,hv,invoke,callFunc,h1,h2,hb,Sem.run_bind,<-kM]
 simp only[aX,ho,hc]at ht⊢;have hf:=hρ f;split at ht
 .rename_i ff caps hv;rw[hv]at hf;simp only[qe]at hf;obtain⟨vs,ev,Xo⟩:=hf;have ha:=lW.append (Ia hρ c.args.toList) (NM Xo);have Cy:∀{A:bU}{S:aP}{aI:List AV},bX (rY C D A S o.dst site ff aI)->Jg P ff:=by
   intro A S aI ht;obtain⟨⟨v,rt'⟩,hd⟩:=ht true;unfold rY at hd;split at hd
   .simp[Tr.dec]at hd
   .split at hd
    .simp[Tr.dec]at hd
    .split at hd
     .simp[Tr.dec]at hd
     .split at hd
      .simp only[Tr.dec,cJ]at hd;obtain⟨r,hD,_⟩:=hd;exact dj.call _ _ _ hD
      .simp[Tr.dec]at hd
  by_cases vJ:GF (C.sig ff) (c.args.toList.map ρ++mY caps)=true
  .simp only[qP,aj vJ]at ht⊢;cases hsa:k_ S.rt (C.sig ff).params (c.args.toList.map ρ++mY caps) with
   | none=>rw[hsa]at ht;exact absurd ht bX.fail
   | some z=>
    rw[hsa]at ht;simp only at ht⊢;obtain⟨g1,Dq,_,Dm,ha1⟩:=q9o dj st (sl:=S.sl) (C.sig ff).params _ _ S.rt g z ha st hsa;rw[oS ff vs (Cy ht) ev];refine(RN dj (S:=⟨S.sl,z.2⟩) Dq (A:={ A with sh:=hint }) ⟨ok.xo,ok.pl,ok.fr⟩ ha1 ht).mono ?_;rintro e w' he;cases e with
    | returned val=>obtain⟨β,v,rt',h1,g2,h2,h3,h4,h5⟩:=he;exact⟨β,v,rt',h1,g2,h2,h3,Dm.trans h4,by rw[<-Dm.2.1];exact h5⟩
    | _=>exact he
  .simp only[qP,af vJ]at ht⊢;rw[oS ff vs (Cy ht) ev];exact RN dj st (A:={ A with sh:=hint }) ⟨ok.xo,ok.pl,ok.fr⟩ ha ht
 .rename_i cl hv;rw[hv]at hf;simp only[qe]at hf;obtain⟨vs,ev,KE⟩:=hf;by_cases hsc:(C.ty o.type).scalar=true
  .simp only[hsc,aY]at ht⊢;cases hx:yL S.rt (c.argTypes.toList.map C.ty) (c.args.toList.map ρ) with
   | none=>rw[hx]at ht;exact absurd ht bX.fail
   | some xs=>
    rw[hx]at ht;simp only at ht⊢;obtain⟨⟨v,rt'⟩,hd⟩:=ht true;have hd0:=hd;simp only[Tr.dec,cJ,aK,aZ]at hd;obtain⟨y,hy,rfl,rfl⟩:=hd;have Wu:Jg P cl.f:=by have:=hy;simp only[gZ,cJ]at this;obtain⟨aa,_,r,hD,_⟩:=this;exact dj.call _ _ _ hD
    rw[oS cl.f vs Wu ev];have hxs:=Mn dj st _ _ _ _ (Ia hρ c.args.toList) hx;refine(aaA dj st hsc hy hxs KE).mono ?_;rintro e w' ⟨val,rfl,hp⟩;exact⟨true,_,_,hd0,hp⟩
  .rw[af hsc]at ht;exact absurd ht bX.fail
 .exact absurd ht bX.fail
theorem acw{o:Oper}(ok:nL A S o.dst site):Goal P C D S g w tmps a ρ A site hint o:=
 akU bn st hρ ok fun c f ho hc=>ajw bn dj st hρ ho hc ok
end
end Go.V
namespace Go.V
noncomputable section
open Go
theorem RR{d:Nat}:∀(l:List AV)(i:Nat),sF d i l=true->∀k,i+k≠d->(l.getD k .undef).roots.contains d=false
 | [],i,_,k,_=>by simp[List.getD,AV.roots]
 | v::l,i,h,k,hk=>by
  simp only[sF,bH,jy,kr,MC]at h;cases k with
  | zero=>exact h.1.resolve_left (by simpa using hk)
  | succ k=>simpa [List.getD] using RR l (i+1) h.2 k (by omega)
theorem Nf{d:Nat}:∀(l:List AV)(i:Nat),EC d i l=true->∀k,i+k≠d->(l.getD k .undef).gG d=true
 | [],i,_,k,_=>by simp[List.getD,AV.gG]
 | v::l,i,h,k,hk=>by
  simp only[EC,bH,jy,MC]at h;cases k with
  | zero=>exact h.1.resolve_left (by simpa using hk)
  | succ k=>simpa [List.getD] using Nf l (i+1) h.2 k (by omega)
theorem Hi{s:Nat}:∀(l:List AV),IF s l=true->∀k,(l.getD k .undef).aR s (s+1)=true
 | [],_,k=>by simp[List.getD,AV.aR]
 | v::l,h,k=>by
  simp only[IF,bH]at h;cases k with
  | zero=>exact h.1
  | succ k=>simpa [List.getD] using Hi l h.2 k
def St.blank(S:St):Option Nat->St
 | some d=>S.set d .undef
 | none=>S
theorem Av(S:St)(d:Nat)(u:Nat):(S.blank (some d)).get u=if u=d then .undef else S.get u:=by
 simp only[St.blank,St.gr];by_cases e:u=d
 .subst e;by_cases h:u<S.sl.length
  .simp[h]
  .simp only[h,and_false,dV,aY];simp only[St.get_eq,List.getD];rw[pF (by omega)];rfl
 .simp[e]
theorem ajn(S:St)(d:Option Nat)(site:Nat):nL (lE S.sl d site) (S.blank d) d site where
 xo:=by
  intro h d' hd u;subst hd;simp only[lE]at h;rw[Av];split
  .rfl
  .rename_i hu;rw[St.get_eq];exact RR S.sl 0 h u (by omega)
 pl:=by
  intro h d' hd u;subst hd;simp only[lE]at h;rw[Av];split
  .rfl
  .rename_i hu;rw[St.get_eq];exact Nf S.sl 0 h u (by omega)
 fr:=by
  intro h;simp only[lE,bH,n8]at h;refine⟨h.1,fun u=>?_⟩;cases d with
  | none=>rw[St.get_eq];exact Hi S.sl h.2 u
  | some d=>
   rw[Av];split
   .rfl
   .rw[St.get_eq];exact Hi S.sl h.2 u
theorem aaV{h:Array Obj}{S:St}{g:aA}(v:Value):qe h S g (A3 v) v:=by
 unfold A3;split
 .simp only[qe,az];exact⟨_,rfl,rfl⟩
 .simp only[qe,az];exact⟨_,rfl,rfl⟩
 .simp only[qe,az];exact⟨_,rfl,rfl⟩
 .simp only[qe]
 .simp only[qe]
theorem ajh{h:Array Obj}{S:St}{g:aA}{a:AV}{v:Value}(x:qe h S g a v):qe h S g a.flat v:=by
 cases a with
 | cD b=>simp only[qe]at x;subst x;simp only[AV.flat,qe,az];exact⟨_,rfl,rfl⟩
 | _=>exact x
theorem N6{h:Array Obj}{S:St}{g:aA}{a:Act}{H:BS}(st:aD h S g a.tmps H)(x:Operand):qe h S g (ev S x) (a.eval x):=by
 cases x with
 | tmp t=>exact ajh (st.slots t)
 | const v=>exact aaV v
 | func f=>simp only[ev,qe,Act.eval];exact⟨[],rfl,by simp only[aO]⟩
 | global n=>simp only[ev,qe]
def Ey:List AV->List Nat->List AV
 | sl,[]=>sl
 | sl,t::ts=>Ey (sl.set t .undef) ts
theorem LW:∀(ts:List Nat)(S:St),S.forget ts=⟨Ey S.sl ts,S.rt⟩
 | [],_=>rfl
 | t::ts,S=>by simp only[St.forget,Ey];rw[LW ts,St.gi]
theorem PB(d:Nat)(x v:AV):∀(ts:List Nat)(sl:List AV),(Ey (sl.set d x) ts).set d v=(Ey sl ts).set d v
 | [],sl=>by simp[Ey]
 | t::ts,sl=>by
  simp only[Ey];by_cases e:d=t
  .subst e;rw[Ch]
  .rw[List.set_comm _ _ e];exact PB d x v ts _
theorem aD.ox{h:Array Obj}{g:aA}{tmps:Array Value}{H:BS}:∀(ts:List Nat){S:St},aD h S g tmps H->aD h (S.forget ts) g tmps H
 | [],_,st=>st
 | t::ts,_,st=>aD.ox ts (st.forget t)
section
variable (C:Ctx) (D:Den C)
def n9(ops:Array Oper)(S:St)(o:Oper):Option Bool:=
 match o.guard with
 | none=>some true
 | some (j,b)=>
  match S.get (lz ops j) with
  | .skip=>some false
  | .cD c=>some (c == b)
  | .val .bool c=>some (c == b)
  | _=>none
noncomputable def g6(hints:Hints)(id:Nat)(ops:Array Oper)(β:Bool)(S:St)(i:Nat)(o:Oper):Option (St×jH):=
 match n9 ops S o with
 | some true=>((iK C D S (id * 256+i+1) (hints.share.contains (id,i)) o).dec β).map fun x=>(fin ops ⟨S.sl,x.2⟩ i o x.1,jE C ops S (id * 256+i+1) i o x.1 x.2)
 | some false=>some (fin ops S i o .skip,oM ops S (id * 256+i+1) i o)
 | none=>none
end
def vi(np:List Nat)(a a':Act):Prop:=∀t,t∈np->a'.tmps.getD t Go.undef=a.tmps.getD t Go.undef
theorem vi.refl(np:List Nat)(a:Act):vi np a a:=fun _ _=>rfl
theorem vi.trans{np:List Nat}{a b c:Act}(h:vi np a b)(k:vi np b c):vi np a c:=fun t ht=>(k t ht).trans (h t ht)
theorem vi.put{np:List Nat}{a:Act}{d:Option Nat}{v:Value}(h:∀d',d=some d'->d'∉np):vi np a (a.put d v):=by
 intro t ht;cases d with
 | none=>rfl
 | some d=>have:=h d rfl;simp only[Act.put,pE,Fo];rw[af (by rintro rfl;exact this ht)]
section
variable {P:Program} {C:Ctx} {D:Den C} {S:St} {g:aA} {w:World} {a:Act} {np:List Nat}
variable (bn:iC P C) (dj:ot P C D) (st:aD w.heap S g a.tmps Nil)
include bn dj st
theorem Nx{ops:Array Oper}{i:Nat}{o:Oper}{rt':aP}{g':aA}{h':Array Obj}{v:AV}{val:Value}(st':aD h' ⟨(S.blank o.dst).sl,rt'⟩ g' a.tmps Nil)
  (x:qe h' ⟨(S.blank o.dst).sl,rt'⟩ g' v val):aD h' (fin ops ⟨S.sl,rt'⟩ i o v) g' (a.put o.dst val).tmps Nil:=by
 have s1:=aD.ox (sK ops i o) st';have e1:=LW (sK ops i o) (⟨(S.blank o.dst).sl,rt'⟩:St);unfold fin uD;cases hd:o.dst with
 | none=>rw[hd]at s1;simp only[Act.put];exact s1
 | some d=>
  rw[hd]at s1 x e1;have x1:qe h' ((⟨(S.blank (some d)).sl,rt'⟩:St).forget (sK ops i o)) g' v val:=by have vr:=st';rw[hd]at vr;exact qe.gD vr (by rw[e1]) x
  have s2:=s1.tQ d x1;simp only[Act.put];have e2:(((⟨(S.blank (some d)).sl,rt'⟩:St).forget (sK ops i o)).set d v)=(((⟨S.sl,rt'⟩:St).forget (sK ops i o)).set d v):=by rw[LW,LW];simp only[St.gi,St.blank,St.mk.injEq,iO];exact PB d _ _ _ _
  rw[e2]at s2;exact s2
theorem acU{ops:Array Oper}{o:Oper}{b:Bool}(hj:∀j c,o.guard=some (j,c)->∃oj t,ops[j]? = some oj/\oj.dst=some t)(hg:n9 ops S o=some b):Region.wanted o (yielded ops a.tmps)=b:=by
 unfold n9 at hg;unfold Region.wanted;cases hgd:o.guard with
 | none=>rw[hgd]at hg;simp only[aK]at hg;exact hg
 | some jc=>
  obtain⟨j,c⟩:=jc;rw[hgd]at hg;obtain⟨oj,t,h1,h2⟩:=hj j c hgd;have hd:lz ops j=t:=by simp[lz,h1,h2]
  have hs:=st.slots t;simp only at hg⊢;rw[hd]at hg;have hy:yielded ops a.tmps j=match a.tmps.getD t Go.undef with | .bool b=>some b | _=>none:=by
   simp only[yielded,h1,h2,dw,pE];cases hq:a.tmps[t]? with
   | none=>simp[Go.undef]
   | some q=>cases q<;>simp
  rw[hy];cases hS:S.get t with
  | skip=>rw[hS]at hg hs;simp only[qe]at hs;simp only[aK]at hg;subst hg;rw[hs];rfl
  | cD q=>rw[hS]at hg hs;simp only[qe]at hs;simp only[aK]at hg;subst hg;rw[hs];cases q<;>cases c<;>rfl
  | val t x=>
   rw[hS]at hg hs;cases t with
   | bool=>simp only[aK]at hg;subst hg;rw[AJ hs];cases x<;>cases c<;>rfl
   | _=>simp at hg
  | _=>rw[hS]at hg;simp at hg
theorem Nj{Q:Exit->Act->World->Prop}{hints:Hints}{id:Nat}{ops:Array Oper}{i:Nat}{o:Oper}(hi:ops[i]? = some o)(hj:∀j c,o.guard=some (j,c)->∃oj t,ops[j]? = some oj/\oj.dst=some t)
  (hdf:a.defers=[]) (hnp:∀d,o.dst=some d->d∉np) (ht:∀β,∃x,g6 C D hints id ops β S i o=some x) {K:Act->World->Prop}
  (hK:∀β S' e a' w' g',g6 C D hints id ops β S i o=some (S',e)->aD w'.heap S' g' a'.tmps Nil->g'.cR g->kI g.L w w'->a'.defers=[]->vi np a a'->K a' w'):wpOp P ops Q i K a w:=by
 obtain⟨x0,hx0⟩:=ht true;unfold wpOp;simp only[hi];cases hg:n9 ops S o with
 | none=>unfold g6 at hx0;rw[hg]at hx0;simp at hx0
 | some b=>
  rw[acU bn dj st hj hg];cases b with
  | false=>
   simp only[e8,dV];have hst:g6 C D hints id ops true S i o=some (fin ops S i o .skip,oM ops S (id * 256+i+1) i o):=by unfold g6;rw[hg]
   refine hK true _ _ (a.put o.dst Go.undef) w g hst ?_ (.refl g) (.refl _ _) ?_ (.put hnp)
   .have s0:aD w.heap ⟨(S.blank o.dst).sl,S.rt⟩ g a.tmps Nil:=by
     cases hd:o.dst with
     | none=>exact st
     | some d=>exact st.forget d
    exact Nx bn dj st s0 (by simp only[qe])
   .cases o.dst<;>exact hdf
  | true=>
   simp only[aY];refine .inl ?_;have s0:aD w.heap (S.blank o.dst) g a.tmps Nil:=by
    cases hd:o.dst with
    | none=>exact st
    | some d=>exact st.forget d
   have sj:(S.blank o.dst).rt=S.rt:=by cases o.dst<;>rfl
   have hρ:∀x,qe w.heap (S.blank o.dst) g (ev S x) (a.eval x):=fun x=>qe.gD st sj (N6 st x);have hstep:∀β,g6 C D hints id ops β S i o=((iK C D S (id * 256+i+1) (hints.share.contains (id,i)) o).dec β).map fun x=>(fin ops ⟨S.sl,x.2⟩ i o x.1,jE C ops S (id * 256+i+1) i o x.1 x.2):=by intro β;unfold g6;rw[hg]
   have htot:bX (aX C D (lE S.sl o.dst (id * 256+i+1)) (ev S) (S.blank o.dst).rt (id * 256+i+1) (hints.share.contains (id,i)) o):=by intro β;obtain⟨x,hx⟩:=ht β;rw[hstep]at hx;simp only[fk]at hx;obtain⟨y,hy,_⟩:=hx;rw[sj];exact⟨y,hy⟩
   have hres:=acw bn dj s0 hρ (ajn S o.dst (id * 256+i+1)) htot;have hout:∀val w',r6 (S.blank o.dst) g w a.tmps (aX C D (lE S.sl o.dst (id * 256+i+1)) (ev S) (S.blank o.dst).rt (id * 256+i+1) (hints.share.contains (id,i)) o) val w'->K (a.put o.dst val) w':=by rintro val w' ⟨β,v,rt',hd,g',p1,p2,p3,p4⟩;rw[sj]at hd;refine hK β (fin ops ⟨S.sl,rt'⟩ i o v) _ _ w' g' (by rw[hstep];unfold iK;rw[hd];rfl) (Nx bn dj st p1 p2) p3 p4 ?_ (.put hnp);cases o.dst<;>exact hdf
   unfold Oper.wp;revert hres;generalize (execOp a.eval o).run P w=r;intro hres;unfold fy at hres;split at hres
   .exact hout _ _ hres
   .exact hout _ _ hres
   .refine Calls.mono hres ?_;rintro e w'' he;cases e with
    | returned val=>exact hout _ _ he
    | panicked _=>exact he.elim
    | outgrown=>exact he.elim
   .exact hres.elim
end
end
section
variable (C:Ctx) (D:Den C)
noncomputable def eM(hints:Hints)(id:Nat)(ops:Array Oper):List Bool->List (Nat×Oper)->St->Option (St×Log)
 | _,[],S=>some (S,[])
 | βs,(i,o)::l,S=>(g6 C D hints id ops (βs.headD true) S i o).bind fun x=>(eM hints id ops βs.tail l x.1).map fun y=>(y.1,x.2::y.2)
end
structure fA (S T:St):Prop where
 rt:T.rt=S.rt
 len:T.sl.length=S.sl.length
 get:∀t,T.get t=S.get t\/∃b,S.get t=.cD b/\T.get t=.val .bool b
theorem fA.refl(S:St):fA S S:=⟨rfl,rfl,fun _=>.inl rfl⟩
theorem fA.flat{S T:St}(h:fA S T)(t:Nat):(T.get t).flat=(S.get t).flat:=by
 rcases h.get t with e | ⟨b,e1,e2⟩
 .rw[e]
 .rw[e1,e2];rfl
theorem fA.ev{S T:St}(h:fA S T):ev T=ev S:=by
 funext x;cases x with
 | tmp t=>exact h.flat t
 | _=>rfl
theorem fA.roots{S T:St}(h:fA S T)(t:Nat):(T.get t).roots=(S.get t).roots:=by
 rcases h.get t with e | ⟨b,e1,e2⟩
 .rw[e]
 .rw[e1,e2];rfl
theorem fA.stamps{S T:St}(h:fA S T)(t:Nat):(T.get t).stamps=(S.get t).stamps:=by
 rcases h.get t with e | ⟨b,e1,e2⟩
 .rw[e]
 .rw[e1,e2];rfl
theorem Pu(s:Nat):∀(l l2:List AV),l2.length=l.length->(∀k,(l2.getD k .undef).aR s (s+1)=(l.getD k .undef).aR s (s+1))->IF s l2=IF s l
 | [],[],_,_=>rfl
 | [],_::_,h,_=>by simp at h
 | _::_,[],h,_=>by simp at h
 | v::l,u::l2,h,hk=>by
  have h0:=hk 0;simp only[uP]at h0;simp only[IF];rw[h0,Pu s l l2 (by simpa using h) (fun k=>by have:=hk (k+1);simpa [List.getD] using this)]
theorem MB{sl Dp:List AV}(d:Option Nat)(s:Nat)(hl:Dp.length=sl.length)(hr:∀d',d=some d'->∀k,k≠d'->(Dp.getD k .undef).roots.contains d'=(sl.getD k .undef).roots.contains d')
  (hp:∀d',d=some d'->∀k,k≠d'->(Dp.getD k .undef).gG d'=(sl.getD k .undef).gG d') (hs:∀k,(Dp.getD k .undef).aR s (s+1)=(sl.getD k .undef).aR s (s+1)):lE Dp d s=lE sl d s:=by
 have hf:=Pu s sl Dp hl hs;cases d with
 | none=>simp only[lE,hf]
 | some d=>
  have hm:∀(l l2:List AV)(i:Nat),l2.length=l.length->(∀k,i+k≠d->(l2.getD k .undef).roots.contains d=(l.getD k .undef).roots.contains d)->sF d i l2=sF d i l:=by
   intro l
   induction l with
   | nil=>intro l2 i h _;cases l2 with
    | nil=>rfl
    | cons _ _=>simp at h
   | cons v l ih=>
    intro l2 i h hk;cases l2 with
    | nil=>simp at h
    | cons u l2=>
     simp only[sF];rw[ih l2 (i+1) (by simpa using h) (fun k z5=>by have:=hk (k+1) (by omega);simpa [List.getD] using this)];by_cases e:i=d
     .subst e;simp
     .have:=hk 0 (by omega);simp only[uP]at this;rw[this]
  have uh:∀(l l2:List AV)(i:Nat),l2.length=l.length->(∀k,i+k≠d->(l2.getD k .undef).gG d=(l.getD k .undef).gG d)->EC d i l2=EC d i l:=by
   intro l
   induction l with
   | nil=>intro l2 i h _;cases l2 with
    | nil=>rfl
    | cons _ _=>simp at h
   | cons v l ih=>
    intro l2 i h hk;cases l2 with
    | nil=>simp at h
    | cons u l2=>
     simp only[EC];rw[ih l2 (i+1) (by simpa using h) (fun k z5=>by have:=hk (k+1) (by omega);simpa [List.getD] using this)];by_cases e:i=d
     .subst e;simp
     .have:=hk 0 (by omega);simp only[uP]at this;rw[this]
  simp only[lE,hf];rw[hm sl Dp 0 hl (fun k h=>hr d rfl k (by omega)),uh sl Dp 0 hl (fun k h=>hp d rfl k (by omega))]
theorem fA.asks{S T:St}(h:fA S T)(d:Option Nat)(s:Nat):lE T.sl d s=lE S.sl d s:=by
 refine MB d s h.len (fun d' _ k _=>?_) (fun d' _ k _=>?_) (fun k=>?_)
 .have:=h.roots k;simp only[St.get_eq]at this;rw[this]
 .rcases h.get k with e | ⟨b,e1,e2⟩
  .simp only[St.get_eq]at e;rw[e]
  .simp only[St.get_eq]at e1 e2;rw[e1,e2];rfl
 .rcases h.get k with e | ⟨b,e1,e2⟩
  .simp only[St.get_eq]at e;rw[e]
  .simp only[St.get_eq]at e1 e2;rw[e1,e2];rfl
theorem fA.set{S T:St}(h:fA S T)(t:Nat)(v:AV):fA (S.set t v) (T.set t v) where
 rt:=h.rt
 len:=by simp[St.gi,h.len]
 get:=by
  intro u;rw[St.gr,St.gr,h.len];by_cases e:u=t/\t<S.sl.length
  .rw[aj e,aj e];exact .inl rfl
  .rw[af e,af e];exact h.get u
theorem fA.forget{S T:St}(h:fA S T):∀ts:List Nat,fA (S.forget ts) (T.forget ts):=by
 intro ts
 induction ts generalizing S T with
 | nil=>exact h
 | cons t ts ih=>exact ih (h.set t .undef)
theorem fA.IP{S T:St}(h:fA S T)(rt:aP):fA ⟨S.sl,rt⟩ ⟨T.sl,rt⟩:=⟨rfl,h.len,h.get⟩
theorem fA.fin{S T:St}(h:fA S T)(ops:Array Oper)(i:Nat)(o:Oper)(v:AV):fA (fin ops S i o v) (fin ops T i o v):=by
 unfold V.fin uD;cases o.dst with
 | none=>exact h.forget _
 | some d=>exact(h.forget _).set d v
theorem fA.dR{S T:St}(h:fA S T):∀ts,dR T ts=dR S ts
 | []=>rfl
 | t::ts=>by simp only[V.dR];rw[h.roots,fA.dR h ts]
theorem fA.cS{S T:St}(h:fA S T):∀ts,cS T ts=cS S ts
 | []=>rfl
 | t::ts=>by simp only[V.cS];rw[h.stamps,fA.cS h ts]
section
variable {C:Ctx} {D:Den C}
theorem fA.iK{S T:St}(h:fA S T)(site:Nat)(hint:Bool)(o:Oper):iK C D T site hint o=iK C D S site hint o:=by unfold V.iK;rw[h.asks,h.ev,h.rt]
theorem fA.gU{S T:St}(h:fA S T)(ops:Array Oper)(site i:Nat)(o:Oper)(v:AV)(rt':aP):jE C ops T site i o v rt'=jE C ops S site i o v rt':=by unfold jE uB;rw[h.ev,h.dR,h.cS,h.rt]
theorem fA.skip{S T:St}(h:fA S T)(ops:Array Oper)(site i:Nat)(o:Oper):oM ops T site i o=oM ops S site i o:=by unfold oM;rw[h.dR,h.cS]
theorem Ni{hints:Hints}{id:Nat}{ops:Array Oper}{S T:St}(h:fA S T){i:Nat}{o:Oper}{β:Bool}(hg:n9 ops T o=some true){x:AV×aP}
  (hd:(iK C D S (id * 256+i+1) (hints.share.contains (id,i)) o).dec β=some x) :
  g6 C D hints id ops β T i o=some (fin ops ⟨T.sl,x.2⟩ i o x.1,jE C ops S (id * 256+i+1) i o x.1 x.2)/\fA (fin ops ⟨S.sl,x.2⟩ i o x.1) (fin ops ⟨T.sl,x.2⟩ i o x.1):=by
 refine⟨?_,(h.IP x.2).fin ops i o x.1⟩;unfold g6;rw[hg,h.iK,hd,<-h.gU];rfl
theorem Rp{hints:Hints}{id:Nat}{ops:Array Oper}{S T:St}(h:fA S T){i:Nat}{o:Oper}{β:Bool}(hg:n9 ops T o=some false) :
  g6 C D hints id ops β T i o=some (fin ops T i o .skip,oM ops S (id * 256+i+1) i o)/\fA (fin ops S i o .skip) (fin ops T i o .skip):=by
 refine⟨?_,h.fin ops i o .skip⟩;unfold g6;rw[hg,<-h.skip]
end
section
variable {P:Program} {C:Ctx} {D:Den C} (bn:iC P C) (dj:ot P C D)
include bn dj
theorem NI{np:List Nat}{Q:Exit->Act->World->Prop}{hints:Hints}{id:Nat}{ops:Array Oper}(hj:∀(i:Nat) o j c,ops[i]? = some o->o.guard=some (j,c)->∃oj t,ops[j]? = some oj/\oj.dst=some t) :
  ∀(l:List (Nat×Oper))(S:St)(g:aA)(a:Act)(w:World),(∀x∈l,ops[x.1]? = some x.2)->(∀x∈l,∀d,x.2.dst=some d->d∉np)->aD w.heap S g a.tmps Nil->a.defers=[]->(∀βs,∃x,eM C D hints id ops βs l S=some x)->
   (∀βs S' lg a' w' g',eM C D hints id ops βs l S=some (S',lg)->aD w'.heap S' g' a'.tmps Nil->g'.cR g->kI g.L w w'->a'.defers=[]->vi np a a'->Q .normal a' w')->wpOps P ops Q (l.map (·.1)) a w
 | [],S,g,a,w,hl,hnp,st,hdf,ht,hQ=>by
  simp only[fY,wpOps];exact hQ [] S [] a w g rfl st (.refl g) (.refl _ _) hdf (.refl _ _)
 | (i,o)::l,S,g,a,w,hl,hnp,st,hdf,ht,hQ=>by
  simp only[cr];rw[wpOps_cons];have hi:=hl (i,o) eW;refine Nj bn dj st (hints:=hints) (id:=id) hi (fun j c=>hj i o j c hi) hdf (hnp (i,o) eW) (fun β=>?_) ?_
  .obtain⟨x,hx⟩:=ht [β];simp only[eM,EI,cJ]at hx;obtain⟨y,hy,_⟩:=hx;exact⟨y,hy⟩
  .intro β S' e a' w' g' hs st' iJ hfr iH oB;refine NI (hints:=hints) (id:=id) hj l S' g' a' w' (fun x hx=>hl x (cB _ hx)) (fun x hx=>hnp x (cB _ hx)) st' iH (fun βs=>?_) ?_
   .obtain⟨x,hx⟩:=ht (β::βs);simp only[eM,EI,FD,cJ]at hx;obtain⟨y,hy,hx⟩:=hx;rw[hs]at hy;simp only[aK]at hy;subst hy;simp only[fk]at hx;obtain⟨z,hz,_⟩:=hx;exact⟨z,hz⟩
   .intro βs wz lg IV w'' tV hr vr w7 qB wL wP;refine hQ (β::βs) wz (e::lg) IV w'' tV ?_ vr (iJ.trans w7) (hfr.trans (by rw[iJ.2.1]at qB;exact qB)) wL (oB.trans wP);simp only[eM,EI,FD,hs,dw,hr,d7]
end
end Go.V
namespace Go.V
noncomputable section
open Go
section
variable {C:Ctx} {D:Den C}
theorem BM{α:Type}{x:Option α}{f:α->AV}{S:aP}{β:Bool}{v:AV}{rt':aP}(h:(Tr.of (x.map fun v=>(f v,S))).dec β=some (v,rt')):rt'=S:=by
 cases x with
 | none=>simp[Tr.of,Tr.dec]at h
 | some y=>simp only[d7,Tr.of,Tr.dec,aK,aZ]at h;exact h.2.symm
theorem adl{A:bU}{ρ:Operand->AV}{S:aP}{site:Nat}{hint:Bool}{o:Oper}(hT:pN o=true){β:Bool}{v:AV}{rt':aP}(h:(aX C D A ρ S site hint o).dec β=some (v,rt')):rt'=S:=by
 cases ho:o.op with
 | move x=>simp only[aX,ho,Tr.dec,aK,aZ]at h;exact h.2.symm
 | pick c a b=>
  simp only[aX,ho]at h;split at h
  .rename_i c' _;cases c'<;>(simp only[Tr.dec,aK,aZ]at h;exact h.2.symm)
  .simp[Tr.dec]at h
 | unOp op t x=>
  simp only[aX,ho]at h;split at h
  .simp only[Tr.dec,aK,aZ]at h;exact h.2.symm
  .simp only[Tr.dec,aK,aZ]at h;exact h.2.symm
  .simp[Tr.dec]at h
 | fieldAddr t x f=>simp only[aX,ho]at h;exact BM (f:=fun v=>v) h
 | field t x f=>
  simp only[aX,ho]at h;split at h
  .split at h
   .split at h
    .simp only[Tr.dec,aK,aZ]at h;exact h.2.symm
    .simp[Tr.dec]at h
   .simp[Tr.dec]at h
  .simp[Tr.dec]at h
 | load t x=>
  simp only[aX,ho]at h;split at h
  .exact BM (f:=fun v=>v) h
  .simp[Tr.dec]at h
 | extract x i=>simp only[aX,ho]at h;exact BM (f:=fun v=>v) h
 | binOp op t x y t2=>
  simp only[aX,ho]at h;split at h
  .split at h
   .simp only[Tr.dec,aK,aZ]at h;exact h.2.symm
   .simp only[Tr.dec,aK,aZ]at h;exact h.2.symm
   .simp[Tr.dec]at h
  .exact(Q1 (T:=kJ (C.ty t) op (ρ x) (ρ y)) (S:=S) (β:=β) (v:=v) (rt:=rt') (by unfold BO;exact h)).2
 | call c=>
  cases hc:c.callee with
  | builtin b=>
   cases b with
   | len=>
    simp only[aX,ho,hc]at h;split at h<;>first
     | (simp only[Tr.dec,aK,aZ]at h;exact h.2.symm)
     | exact BM (f:=fun n=>AV.val (Ty.int IntKind.i64) n) h
     | (exfalso;contradiction)
     | (exfalso;revert h;simp only[Tr.dec];intro h;contradiction)
   | _=>simp[pN,ho,hc]at hT
  | _=>simp[pN,ho,hc]at hT
 | _=>simp[pN,ho]at hT
theorem abm{A:bU}{ρ:Operand->AV}{S:aP}{site:Nat}{h1 h2:Bool}{o:Oper}(hT:pN o=true):aX C D A ρ S site h1 o=aX C D A ρ S site h2 o:=by
  cases ho:o.op with
  | call c=>
    cases hc:c.callee with
    | builtin b=>
      cases b with
      | len=>
        simp only[aX,ho,hc];generalize List.map ρ c.args.toList=l1;generalize List.map C.ty c.argTypes.toList=l2;rcases l1 with _ | ⟨x,_ | ⟨y,l⟩⟩
        . rfl
        . rcases l2 with _ | ⟨t,l2⟩
          . cases x with
            | val ty s=>cases ty<;>rfl
            | _=>rfl
          . cases x with
            | val ty s=>cases ty<;>cases t<;>rfl
            | _=>cases t<;>rfl
        . rcases l with _ | ⟨z,l⟩<;>rcases l2 with _ | ⟨t,_ | ⟨t',l2⟩⟩<;>first
            | rfl
            | (cases t<;>first | rfl | (cases t'<;>rfl))
            | (cases x with
               | val ty s=>cases ty<;>first | rfl | (cases t<;>first | rfl | (cases t'<;>rfl))
               | _=>first | rfl | (cases t<;>first | rfl | (cases t'<;>rfl)))
      | _=>simp[pN,ho,hc]at hT
    | _=>simp[pN,ho,hc]at hT
  | _=>first | (simp[pN,ho]at hT;done) | simp only[aX,ho]
theorem Gn:∀(ts:List Nat)(S:St)(u:Nat),(S.forget ts).get u=if u∈ts then .undef else S.get u
 | [],S,u=>by simp[St.forget]
 | t::ts,S,u=>by
  simp only[St.forget,Gn ts,bk];have:=Av S t u;simp only[St.blank]at this;rw[this];by_cases h1:u∈ts
  .simp[h1]
  .by_cases h2:u=t<;>simp[h1,h2]
theorem Gp(ts:List Nat)(S:St):(S.forget ts).sl.length=S.sl.length:=by
 induction ts generalizing S with
 | nil=>rfl
 | cons t ts ih=>simp only[St.forget];rw[ih];simp[St.gi]
theorem QF(ts:List Nat)(S:St):(S.forget ts).rt=S.rt:=by rw[LW]
theorem zE(ops:Array Oper)(S:St)(i:Nat)(o:Oper)(v:AV)(u:Nat) :
  (fin ops S i o v).get u=if o.dst=some u/\u<S.sl.length then v else if u∈sK ops i o then .undef else S.get u:=by
 unfold fin uD;cases hd:o.dst with
 | none=>simp[Gn]
 | some d=>
  rw[St.gr,Gn,Gp];by_cases e:u=d
  .subst e;simp
  .have:¬ d=u:=fun h=>e h.symm;simp[e,this]
theorem oO(ops:Array Oper)(S:St)(i:Nat)(o:Oper)(v:AV):(fin ops S i o v).rt=S.rt:=by
 unfold fin uD;cases o.dst with
 | none=>exact QF _ _
 | some d=>exact QF _ _
theorem Jr(ops:Array Oper)(S:St)(i:Nat)(o:Oper)(v:AV):(fin ops S i o v).sl.length=S.sl.length:=by
 unfold fin uD;cases o.dst with
 | none=>exact Gp _ _
 | some d=>simp only[St.gi,b6];exact Gp _ _
theorem FU{hints:Hints}{id:Nat}{ops:Array Oper}{β:Bool}{S S':St}{i:Nat}{o:Oper}{e:jH}(h:g6 C D hints id ops β S i o=some (S',e)){u:Nat}(hu:u∉jC ops i o) :
  S'.get u=S.get u/\S'.sl.length=S.sl.length/\(pN o=true->S'.rt=S.rt):=by
 have hn:¬ (o.dst=some u):=fun h=>hu (by simp[jC,h]);have hn2:u∉sK ops i o:=fun h=>hu (by simp[jC,h]);unfold g6 at h;split at h
 .simp only[fk,aZ]at h;obtain⟨x,hx,rfl,_⟩:=h;refine⟨?_,?_,fun ht=>?_⟩
  .rw[zE,af (fun h=>hn h.1),af hn2];rfl
  .rw[Jr]
  .rw[oO];exact adl ht hx
 .simp only[aK,aZ]at h;obtain⟨rfl,_⟩:=h;refine⟨?_,?_,fun ht=>?_⟩
  .rw[zE,af (fun h=>hn h.1),af hn2]
  .rw[Jr]
  .rw[oO]
 .simp at h
theorem Qo{hints:Hints}{id:Nat}{ops:Array Oper}{Dd:List Nat}:∀(l:List (Nat×Oper))(βs:List Bool)(S S':St)(lg:Log),eM C D hints id ops βs l S=some (S',lg)->
  (∀x∈l,pN x.2=true/\∀u∈jC ops x.1 x.2,u∈Dd)->(∀u,u∉Dd->S'.get u=S.get u)/\S'.rt=S.rt/\S'.sl.length=S.sl.length
 | [],βs,S,S',lg,h,_=>by
  simp only[eM,aK,aZ]at h;obtain⟨rfl,_⟩:=h;exact⟨fun _ _=>rfl,rfl,rfl⟩
 | (i,o)::l,βs,S,S',lg,h,hl=>by
  simp only[eM,cJ,fk,aZ]at h;obtain⟨⟨S1,e⟩,hs,⟨S2,Jc⟩,hr,rfl,_⟩:=h;obtain⟨ht,ho⟩:=hl (i,o) eW;obtain⟨k1,k2,k3⟩:=Qo l βs.tail S1 S2 Jc hr (fun x hx=>hl x (cB _ hx));have hex:∃u,u∉jC ops i o:=by
   refine⟨(jC ops i o).foldr max 0+1,fun h=>?_⟩;have:∀(l:List Nat)(u:Nat),u∈l->u<=l.foldr max 0:=by
    intro l
    induction l with
    | nil=>intro u h;simp at h
    | cons a l ih=>
     intro u h;simp only[Fy];rcases bk.1 h with rfl | h
     .exact Nat.le_max_left _ _
     .exact nK (ih u h) (Nat.le_max_right _ _)
   have:=this _ _ h;omega
  obtain⟨u0,hu0⟩:=hex;obtain⟨_,f2,f3⟩:=FU hs hu0;exact⟨fun u hu=>(k1 u hu).trans (FU hs (fun h=>hu (ho u h))).1,k2.trans (f3 ht),k3.trans f2⟩
theorem FT{hints:Hints}{id:Nat}{ops:Array Oper}:∀(l1 l2:List (Nat×Oper))(βs:List Bool)(S:St),
  eM C D hints id ops βs (l1++l2) S=(eM C D hints id ops βs l1 S).bind fun x=>(eM C D hints id ops (βs.drop l1.length) l2 x.1).map fun y=>(y.1,x.2++y.2)
 | [],l2,βs,S=>by simp[eM]
 | (i,o)::l1,l2,βs,S=>by
  simp only[fE,eM];cases hs:g6 C D hints id ops (βs.headD true) S i o with
  | none=>simp
  | some x=>
   simp only[dw];rw[FT l1 l2 βs.tail x.1];cases hr:eM C D hints id ops βs.tail l1 x.1 with
   | none=>simp
   | some y=>
    simp only[dw,d7,cq];have:βs.tail.drop l1.length=βs.drop (l1.length+1):=by cases βs<;>simp
    rw[this];cases eM C D hints id ops (βs.drop (l1.length+1)) l2 y.1<;>simp
theorem ajf{S:St}{x:Operand}{b:Bool}(h:V.asBool (ev S x)=some b):ev S x=.val .bool b:=by
 cases x with
 | tmp t=>
  simp only[ev]at h⊢;cases hS:S.get t with
  | val t y=>rw[hS]at h;cases t<;>simp[AV.flat,V.asBool]at h;subst h;rfl
  | cD c=>rw[hS]at h;simp[AV.flat,V.asBool]at h;subst h;rfl
  | _=>rw[hS]at h;simp[AV.flat,V.asBool]at h
 | const v=>simp only[ev]at h⊢;unfold A3 at h⊢;split at h<;>simp[V.asBool]at h;subst h;rfl
 | _=>simp[ev,V.asBool]at h
def N0(C:Ctx)(D:Den C)(hints:Hints)(id:Nat)(ops:Array Oper)(ru:List (Nat×Oper)->St->Log->Option (St×Log)):Prop:=
 ∀l S lg S1 gF,ru l S lg=some (S1,gF)->(∀x∈l,pN x.2=true)->∀T,fA S T->∀βs,∃T1 gn,eM C D hints id ops βs l T=some (T1,gn)/\fA S1 T1/\(∀e∈gn,e∈gF)/\(∀e∈lg,e∈gF)
theorem Mt{t:Nat}:∀(l:List (Nat×Oper)){seg:List (Nat×Oper)}{x:Nat×Oper}{rest:List (Nat×Oper)},L5 t l=some (seg,x,rest)->l=seg++x::rest/\Ie t x.2=true
 | [],_,_,_,h=>by simp[L5]at h
 | y::l,seg,x,rest,h=>by
  simp only[L5]at h;split at h
  .rename_i hp;simp only[aK,aZ]at h;obtain⟨rfl,rfl,rfl⟩:=h;exact⟨rfl,hp⟩
  .split at h
   .rename_i z hz;obtain⟨z1,z2,z3⟩:=z;simp only[aK,aZ]at h;obtain⟨rfl,rfl,rfl⟩:=h;obtain⟨e,hp⟩:=Mt l hz;exact⟨by rw[e];rfl,hp⟩
   .simp at h
theorem M7{hints:Hints}{id:Nat}{ops:Array Oper}{ru:List (Nat×Oper)->St->Log->Option (St×Log)}(Xc:N0 C D hints id ops ru){t:Nat}{c:Bool}{l rest:List (Nat×Oper)}{S S':St}{lg Ef:Log}
  (h:Bp C ops id ru t c l S lg=some (S',Ef,rest)) (Kx:S.get t=.val .bool c) {T:St} (hs:fA S T) (βs:List Bool) :
  ∃seg i o T' gn,l=seg++(i,o)::rest/\eM C D hints id ops βs (seg++[(i,o)]) T=some (T',gn)/\fA S' T'/\(∀e∈gn,e∈Ef)/\(∀e∈lg,e∈Ef)/\pN o=true:=by
 unfold Bp at h;split at h
 .rename_i seg i o rest' hsp;obtain⟨hl,hpick⟩:=Mt l hsp;simp only at h;split at h
  .rename_i hc;simp only[bH,CV,kr]at hc;obtain⟨⟨jJ,g8⟩,rO⟩:=hc;split at h
   .rename_i cc a b S1 l1 S2 l2 hop h1 h2;split at h
    .rename_i x y hx hy;simp only[aK,aZ]at h;obtain⟨rfl,rfl,rfl⟩:=h;have vG:T.get t=.val .bool c:=by
      rcases hs.get t with e | ⟨b,e1,_⟩
      .rw[e];exact Kx
      .rw[Kx]at e1;simp at e1
     have htl:t<S.sl.length:=by
      rcases BQ t S.sl.length with h | h
      .exact h
      .simp only[St.get_eq,List.getD]at Kx;rw[pF h]at Kx;simp at Kx
     have qD:fA (S.set t (.cD c)) T:=by
      refine⟨hs.rt,by simp[St.gi,hs.len],fun u=>?_⟩;rw[St.gr];by_cases e:u=t
      .subst e;rw[aj ⟨rfl,htl⟩];exact .inr ⟨c,rfl,vG⟩
      .rw[af (fun h=>e h.1)];exact hs.get u
     have me:cc=.tmp t:=by
      unfold Ie at hpick;rw[hop]at hpick;split at hpick
      .rename_i c' _ _ he;simp only[Op.pick.injEq]at he;rw[he.1];rw[mR hpick]
      .simp at hpick
     have Lm:∀x∈seg,pN x.2=true/\∀u∈jC ops x.1 x.2,u∈sK ops i o:=by intro z hz;have:=jJ z hz;exact⟨this.1,fun u hu=>by have:=this.2 u hu;simpa using this⟩
     -- yP way alc is gone
     have key:∀(Sc:St)(lc:Log),ru seg (S.set t (.cD c)) []=some (Sc,lc)->∀z,V.asBool (ev Sc (if c then a else b))=some z->
       ∃T' gn,eM C D hints id ops βs (seg++[(i,o)]) T=some (T',gn)/\fA (fin ops S i o (.val .bool z)) T'/\∀e∈gn,e∈lc\/e=jE C ops Sc (id * 256+i+1) i o (.val .bool z) Sc.rt:=by
      intro Sc lc hr z hz;obtain⟨T1,gn,k1,k2,k3,_⟩:=Xc seg _ _ Sc lc hr (fun x hx=>(Lm x hx).1) T qD βs;obtain⟨f1,f2,f3⟩:=Qo seg βs T T1 gn k1 Lm;have htD:t∉sK ops i o:=by simpa using rO
      have Wk:T1.get t=.val .bool c:=by rw[f1 t htD];exact vG
      have hg:n9 ops T1 o=some true:=by
       unfold NT at g8;unfold n9;split at g8
       .rename_i hgd;rw[hgd]
       .rename_i j b' hgd;simp only[bH,kr]at g8;rw[hgd];simp only;have hjD:lz ops j∉sK ops i o:=by simpa using g8.1
        rw[f1 _ hjD];have h5:=g8.2;split at h5
        .rename_i c' hS;rcases hs.get (lz ops j) with e | ⟨b2,e1,e2⟩
         .rw[e,hS];simp only[aK];exact h5
         .rw[e2];rw[hS]at e1;simp only[AV.cD.injEq]at e1;subst e1;simp only[aK];exact h5
        .simp at h5
      have WC:ev T1 (if c then a else b)=.val .bool z:=by rw[k2.ev];exact ajf hz
      have Wz:(iK C D T1 (id * 256+i+1) (hints.share.contains (id,i)) o).dec ((βs.drop seg.length).headD true)=some (.val .bool z,T1.rt):=by unfold iK;simp only[aX,hop,me,ev,Wk,AV.flat,V.asBool];cases c<;>simp only[Tr.dec,aK,aZ,iO]<;>exact WC
      have hstep:g6 C D hints id ops ((βs.drop seg.length).headD true) T1 i o=some (fin ops T1 i o (.val .bool z),jE C ops Sc (id * 256+i+1) i o (.val .bool z) Sc.rt):=by unfold g6;rw[hg,Wz,<-k2.gU,<-k2.rt];rfl
      refine⟨fin ops T1 i o (.val .bool z),gn++[jE C ops Sc (id * 256+i+1) i o (.val .bool z) Sc.rt],?_,?_,?_⟩
      .rw[FT,k1];simp only[dw,eM,hstep,d7]
      .refine⟨?_,?_,fun u=>?_⟩
       .rw[oO,oO,f2,hs.rt]
       .rw[Jr,Jr,f3,hs.len]
       .rw[zE,zE,f3,hs.len];by_cases h1:o.dst=some u/\u<S.sl.length
        .rw[aj h1,aj h1];exact .inl rfl
        .rw[af h1,af h1];by_cases h2:u∈sK ops i o
         .rw[aj h2,aj h2];exact .inl rfl
         .rw[af h2,af h2,f1 u h2];exact hs.get u
      .intro e he;rcases bL.1 he with he | he
       .exact .inl (k3 e he)
       .exact .inr (by simpa using he)
     have htot:pN o=true:=by unfold pN;rw[hop]
     cases c with
     | true=>
      obtain⟨T',gn,k1,k2,k3⟩:=key S1 l1 h1 x (by simpa using hx);refine⟨seg,i,o,T',gn,hl,k1,k2,fun e he=>?_,fun e he=>?_,htot⟩
      .rcases k3 e he with h | rfl
       .simp[h]
       .simp
      .simp[he]
     | false=>
      obtain⟨T',gn,k1,k2,k3⟩:=key S2 l2 h2 y (by simpa using hy);refine⟨seg,i,o,T',gn,hl,k1,k2,fun e he=>?_,fun e he=>?_,htot⟩
      .rcases k3 e he with h | rfl
       .simp[h]
       .simp
      .simp[he]
    .simp at h
   .simp at h
  .simp at h
 .simp at h
end
end
section
variable {C:Ctx} {D:Den C}
theorem Rf{hints:Hints}{id:Nat}{ops:Array Oper}{seg rest:List (Nat×Oper)}{x:Nat×Oper}{T T':St}{gn:Log}{βs:List Bool}
  (h:eM C D hints id ops βs (seg++[x]) T=some (T',gn)) :
  eM C D hints id ops βs (seg++x::rest) T=(eM C D hints id ops (βs.drop (seg.length+1)) rest T').map fun y=>(y.1,gn++y.2):=by
 have e:seg++x::rest=(seg++[x])++rest:=by simp
 rw[e,FT,h];simp only[dw,cI,cq,gy]
theorem GA{ops:Array Oper}{S T:St}(h:fA S T){o:Oper}{j:Nat}{b c:Bool}(hg:o.guard=some (j,b))(hS:S.get (lz ops j)=.cD c\/S.get (lz ops j)=.val .bool c) :
  n9 ops T o=some (c == b):=by
 unfold n9;rw[hg];simp only;rcases hS with hS | hS
 .rcases h.get (lz ops j) with e | ⟨c',e1,e2⟩
  .rw[e,hS]
  .rw[hS]at e1;simp only[AV.cD.injEq]at e1;subst e1;rw[e2]
 .rcases h.get (lz ops j) with e | ⟨c',e1,e2⟩
  .rw[e,hS]
  .rw[hS]at e1;simp at e1
theorem Qd{ops:Array Oper}{S T:St}(h:fA S T){o:Oper}{j:Nat}{b:Bool}(hg:o.guard=some (j,b))(hS:S.get (lz ops j)=.skip):n9 ops T o=some false:=by
 unfold n9;rw[hg];simp only;rcases h.get (lz ops j) with e | ⟨c',e1,e2⟩
 .rw[e,hS]
 .rw[hS]at e1;simp at e1
theorem Q2{ops:Array Oper}{T:St}{o:Oper}(hg:o.guard=none):n9 ops T o=some true:=by unfold n9;rw[hg]
theorem xL{hints:Hints}{id:Nat}{ops:Array Oper}:∀n,N0 C D hints id ops (mL C D id ops n)
 | 0=>by intro l S lg S1 gF h;simp[mL]at h
 | n+1=>by
  intro l S lg S1 gF h hl T hs βs;cases l with
  | nil=>simp only[mL,aK,aZ]at h;obtain⟨rfl,rfl⟩:=h;exact⟨T,[],rfl,hs,by simp,fun e he=>he⟩
  | cons x rest=>
   obtain⟨i,o⟩:=x;have htot:=hl (i,o) eW;have fP:∀x∈rest,pN x.2=true:=fun x hx=>hl x (cB _ hx);have rP:n9 ops T o=some true->(match iK C D S (id * 256+i+1) false o with
     | .ret (v,rt')=>mL C D id ops n rest (fin ops ⟨S.sl,rt'⟩ i o v) (jE C ops S (id * 256+i+1) i o v rt'::lg)
     | _=>none)=some (S1,gF)->∃T1 gn,eM C D hints id ops βs ((i,o)::rest) T=some (T1,gn)/\fA S1 T1/\(∀e∈gn,e∈gF)/\(∀e∈lg,e∈gF):=by
    intro hg h;split at h
    .rename_i v rt' hop;have D4:(iK C D S (id * 256+i+1) (hints.share.contains (id,i)) o).dec (βs.headD true)=some (v,rt'):=by unfold iK at hop⊢;rw[abm htot (h2:=false),hop];rfl
     obtain⟨k1,k2⟩:=Ni (hints:=hints) (id:=id) hs hg D4;obtain⟨T1,gn,q1,q2,q3,q4⟩:=xL (hints:=hints) n rest _ _ S1 gF h fP _ k2 βs.tail;refine⟨T1,jE C ops S (id * 256+i+1) i o v rt'::gn,?_,q2,?_,fun e he=>q4 e (cB _ he)⟩
     .simp only[eM,k1,dw,q1,d7]
     .intro e he;rcases bk.1 he with rfl | he
      .exact q4 _ eW
      .exact q3 e he
    .simp at h
   have nc:n9 ops T o=some false->mL C D id ops n rest (fin ops S i o .skip) (oM ops S (id * 256+i+1) i o::lg)=some (S1,gF)->
     ∃T1 gn,eM C D hints id ops βs ((i,o)::rest) T=some (T1,gn)/\fA S1 T1/\(∀e∈gn,e∈gF)/\(∀e∈lg,e∈gF):=by
    intro hg h;obtain⟨k1,k2⟩:=Rp (C:=C) (D:=D) (hints:=hints) (id:=id) (β:=βs.headD true) hs hg;obtain⟨T1,gn,q1,q2,q3,q4⟩:=xL (hints:=hints) n rest _ _ S1 gF h fP _ k2 βs.tail;refine⟨T1,oM ops S (id * 256+i+1) i o::gn,?_,q2,?_,fun e he=>q4 e (cB _ he)⟩
    .simp only[eM,k1,dw,q1,d7]
    .intro e he;rcases bk.1 he with rfl | he
     .exact q4 _ eW
     .exact q3 e he
   simp only[mL]at h;split at h
   .rename_i hgd;exact rP (Q2 hgd) h
   .rename_i j b hgd;split at h
    .rename_i hS;exact nc (Qd hs hgd hS) h
    .rename_i c hS;have hg:=GA hs hgd (.inl hS);split at h
     .rename_i hcb;subst hcb;exact rP (by simpa using hg) h
     .rename_i hcb;exact nc (by rw[hg];simpa using hcb) h
    .rename_i c hS;split at h
     .rename_i S2 Jc tO hj;obtain⟨seg,i2,o2,T',gn,e1,k1,k2,k3,k4,k5⟩:=M7 (xL (hints:=hints) n) hj hS hs βs;have D6:∀x∈tO,pN x.2=true:=fun x hx=>hl x (by rw[e1];simp[hx]);obtain⟨T1,Eg,q1,q2,q3,q4⟩:=xL (hints:=hints) n tO _ _ S1 gF h D6 _ k2 (βs.drop (seg.length+1));refine⟨T1,gn++Eg,?_,q2,?_,fun e he=>q4 e (k4 e he)⟩
      .rw[e1,Rf k1,q1];rfl
      .intro e he;rcases bL.1 he with he | he
       .exact q4 e (k3 e he)
       .exact q3 e he
     .simp at h
    .simp at h
theorem LY{R:Type}{r:R}{hints:Hints}{id:Nat}{ops:Array Oper}{k:Log->St->Option R}:∀(n:Nat)(l:List (Nat×Oper))(S:St)(lg:Log),yE C D hints id ops n l S lg k=some r->∀T,fA S T->∀βs,
  ∃T1 gn S1 gF,eM C D hints id ops βs l T=some (T1,gn)/\k gF S1=some r/\fA S1 T1/\(∀e∈gn,e∈gF)/\(∀e∈lg,e∈gF)
 | 0,l,S,lg,h=>by simp[yE]at h
 | n+1,[],S,lg,h=>by
  intro T hs βs;simp only[yE]at h;exact⟨T,[],S,lg,rfl,h,hs,by simp,fun e he=>he⟩
 | n+1,(i,o)::rest,S,lg,h=>by
  intro T hs βs;have rP:∀S,fA S T->n9 ops T o=some true->((iK C D S (id * 256+i+1) (hints.share.contains (id,i)) o).run fun x=>yE C D hints id ops n rest (fin ops ⟨S.sl,x.2⟩ i o x.1) (jE C ops S (id * 256+i+1) i o x.1 x.2::lg) k)=some r->
    ∃T1 gn S1 gF,eM C D hints id ops βs ((i,o)::rest) T=some (T1,gn)/\k gF S1=some r/\fA S1 T1/\(∀e∈gn,e∈gF)/\(∀e∈lg,e∈gF):=by
   intro S hs hg h;obtain⟨x,hx,h⟩:=Tr.iV (βs.headD true) _ h;obtain⟨k1,k2⟩:=Ni (hints:=hints) (id:=id) hs hg hx;obtain⟨T1,gn,S1,gF,q1,q2,q3,q4,q5⟩:=LY (hints:=hints) n rest _ _ h _ k2 βs.tail;refine⟨T1,jE C ops S (id * 256+i+1) i o x.1 x.2::gn,S1,gF,?_,q2,q3,?_,fun e he=>q5 e (cB _ he)⟩
   .simp only[eM,k1,dw,q1,d7]
   .intro e he;rcases bk.1 he with rfl | he
    .exact q5 _ eW
    .exact q4 e he
  have nc:∀S,fA S T->n9 ops T o=some false->yE C D hints id ops n rest (fin ops S i o .skip) (oM ops S (id * 256+i+1) i o::lg) k=some r->
    ∃T1 gn S1 gF,eM C D hints id ops βs ((i,o)::rest) T=some (T1,gn)/\k gF S1=some r/\fA S1 T1/\(∀e∈gn,e∈gF)/\(∀e∈lg,e∈gF):=by
   intro S hs hg h;obtain⟨k1,k2⟩:=Rp (C:=C) (D:=D) (hints:=hints) (id:=id) (β:=βs.headD true) hs hg;obtain⟨T1,gn,S1,gF,q1,q2,q3,q4,q5⟩:=LY (hints:=hints) n rest _ _ h _ k2 βs.tail;refine⟨T1,oM ops S (id * 256+i+1) i o::gn,S1,gF,?_,q2,q3,?_,fun e he=>q5 e (cB _ he)⟩
   .simp only[eM,k1,dw,q1,d7]
   .intro e he;rcases bk.1 he with rfl | he
    .exact q5 _ eW
    .exact q4 e he
  simp only[yE]at h;split at h
  .rename_i hgd;exact rP S hs (Q2 hgd) h
  .rename_i j b hgd;split at h
   .rename_i hS;exact nc S hs (Qd hs hgd hS) h
   .rename_i c hS;have hg:=GA hs hgd (.inl hS);split at h
    .rename_i hcb;subst hcb;exact rP S hs (by simpa using hg) h
    .rename_i hcb;exact nc S hs (by rw[hg];simpa using hcb) h
   .rename_i c hS;split at h
    .rename_i S2 Jc tO hj;obtain⟨seg,i2,o2,T',gn,e1,k1,k2,k3,k4,k5⟩:=M7 (xL (hints:=hints) n) hj hS hs βs;obtain⟨T1,Eg,S1,gF,q1,q2,q3,q4,q5⟩:=LY (hints:=hints) n tO _ _ h _ k2 (βs.drop (seg.length+1));refine⟨T1,gn++Eg,S1,gF,?_,q2,q3,?_,fun e he=>q5 e (k4 e he)⟩
     .rw[e1,Rf k1,q1];rfl
     .intro e he;rcases bL.1 he with he | he
      .exact q5 e (k3 e he)
      .exact q4 e he
    .have hg:=GA hs hgd (.inr hS);have qD:fA (S.set (lz ops j) (.cD c)) T:=by
      have vG:T.get (lz ops j)=.val .bool c:=by
       rcases hs.get (lz ops j) with e | ⟨b,e1,_⟩
       .rw[e];exact hS
       .rw[hS]at e1;simp at e1
      refine⟨hs.rt,by simp[St.gi,hs.len],fun u=>?_⟩;rw[St.gr];by_cases e:u=lz ops j/\lz ops j<S.sl.length
      .rw[aj e,e.1];exact .inr ⟨c,rfl,vG⟩
      .rw[af e];exact hs.get u
     cases c with
     | true=>
      simp only[br]at h;split at h
      .rename_i hb;subst hb;exact rP _ qD (by simpa using hg) h
      .rename_i hb;exact nc _ qD (by rw[hg];cases b<;>simp_all) h
     | false=>
      simp only[br]at h;split at h
      .rename_i hb;subst hb;exact rP _ qD (by simpa using hg) h
      .rename_i hb;exact nc _ qD (by rw[hg];cases b<;>simp_all) h
   .simp at h
end
theorem MP{h:Array Obj}{S T:St}(hs:fA S T){g:aA}{tmps:Array Value}{H:BS}(st:aD h T g tmps H):aD h S g tmps H:=by
 have hr:∀r,S.root r=T.root r:=fun r=>by simp only[St.root,hs.rt]
 have hi:∀{r},(S.root r).isSome->(T.root r).isSome:=fun {r} h=>by rw[<-hr];exact h
 have he:∀{r R},S.root r=some R->T.root r=some R:=fun {r R} h=>by rw[<-hr];exact h
 have hl:S.sl.length=tmps.size:=by rw[<-hs.len];exact st.len
 have iI:S.rt.length=tmps.size:=by rw[<-hs.rt];exact st.gw
 refine⟨hl,iI,?_,fun r R hR=>st.roots r R (he hR),fun r r' hn h1 h2=>st.dY r r' hn (hi h1) (hi h2),fun r h1=>st.ej r (hi h1),fun r h1=>st.hand r (hi h1),st.bK,st.bO,fun r b h1=>st.b9 r b (hi h1),st.eg,fun r R hR=>st.tag r R (he hR),fun r b h1=>st.own r b (hi h1),st.e7,st.fV,st.p0,st.kY⟩;intro t;have:=st.slots t;have h2:=qe.gD (S':=S) st hs.rt.symm this;rcases hs.get t with e | ⟨b,e1,e2⟩
 .rw[e]at h2;exact h2
 .rw[e2]at h2;rw[e1];simp only[qe,az]at h2⊢;obtain⟨c,rfl,e⟩:=h2;exact e
theorem L8{h:Array Obj}:∀(p:Path)(t:Ty)(c:List Value)(base:fH),cm h t c base (p.map ov.zero)=cm h t c base p
 | [],t,c,base=>rfl
 | .fst::p,t,c,base=>by cases t<;>simp only[cr,ov.zero,cm];exact L8 p _ _ _
 | .snd::p,t,c,base=>by cases t<;>simp only[cr,ov.zero,cm];exact L8 p _ _ _
 | .idx i s::p,t,c,base=>by
  cases t<;>simp only[cr,ov.zero,cm];split
  .split
   .exact L8 p _ _ _
   .rfl
  .rfl
theorem Mf:∀(p:Path)(t:Ty)(x:t.den),bt t x (p.map ov.zero)↔bt t x p
 | [],t,x=>i5
 | .fst::p,t,x=>by cases t<;>simp only[cr,ov.zero,bt];exact Mf p _ _
 | .snd::p,t,x=>by cases t<;>simp only[cr,ov.zero,bt];exact Mf p _ _
 | .idx i s::p,t,x=>by
  cases t<;>simp only[cr,ov.zero,bt];rw[Mf p]
theorem aL.bh{hd:Nat->Value}:∀(t:Ty){m:Mk}{c:List Value},aL hd t m c->aL hd t m.bh c
 | .unit,_,_,_=>by simp only[aL]
 | .int _,_,_,_=>by simp only[aL]
 | .bool,_,_,_=>by simp only[aL]
 | .str,_,_,_=>by simp only[aL]
 | .pair a b,m,c,h=>by
  simp only[aL]at h⊢;have h1:=Mk.mw m;have h2:=Mk.mz m;rw[h1,h2];exact⟨aL.bh a h.1,aL.bh b h.2⟩
 | .sl t,m,c,h=>by
  cases m with
  | own s mi=>
   have hf:∀m:Mk,m.ax=true->m.bh.ax=true:=by
    intro m
    induction m with
    | no=>intro _;rfl
    | gone=>intro _;rfl
    | own s m ih=>intro h;simp only[Mk.ax,bH,n8]at h;simp only[Mk.bh,Mk.ax,bH,n8];exact⟨by rw[aj h.1];omega,ih h.2⟩
    | pr a b fQ kR=>intro h;simp only[Mk.ax,bH]at h;simp only[Mk.bh,Mk.qK,bH];exact⟨fQ h.1,kR h.2⟩
   simp only[Mk.bh,aL]at h⊢;refine⟨fun h2=>?_,hf _ h.2⟩;split at h2
   .omega
   .rename_i hn;rw[af hn];exact h.1 h2
  | no=>simp only[Mk.bh,aL]
  | gone=>simp only[Mk.bh,aL]
  | pr a b=>simp only[Mk.bh];rcases Mk.oH a.bh b.bh with e | e<;>rw[e]<;>simp only[aL]
theorem ahy{x:Option aB}{R':aB}(h:L1 x=some R'):∃R,x=some R/\R'={ R with ms:=R.ms.bh }:=by
 unfold L1 at h;cases x with
 | none=>simp at h
 | some R=>
  simp only[dw]at h;split at h
  .simp at h
  .simp only[aK]at h;exact⟨R,rfl,h.symm⟩
theorem P7(oZ:List Nat):∀(l:List (Option aB))(i r:Nat),(Et oZ i l).getD r none=if oZ.contains (i+r) then L1 (l.getD r none) else none
 | [],i,r=>by simp[Et,L1,List.getD]
 | x::l,i,r=>by
  simp only[Et];cases r with
  | zero=>simp only[uP,qS]
  | succ r=>simp only[E9];rw[P7 oZ l (i+1) r,show i+1+r=i+(r+1) by omega]
theorem Py(oZ:List Nat):∀(l:List (Option aB))(i:Nat),(Et oZ i l).length=l.length
 | [],_=>rfl
 | x::l,i=>by simp[Et,Py oZ l]
theorem P8(S:St)(keep:List Nat):∀(l:List AV)(i t:Nat),(Eu S keep i l).getD t .undef=if keep.contains (i+t) then (l.getD t .undef).canon S else .undef
 | [],i,t=>by simp[Eu,AV.canon,List.getD]
 | x::l,i,t=>by
  simp only[Eu];cases t with
  | zero=>simp only[uP,qS]
  | succ t=>simp only[E9];rw[P8 S keep l (i+1) t,show i+1+t=i+(t+1) by omega]
theorem Pz(S:St)(keep:List Nat):∀(l:List AV)(i:Nat),(Eu S keep i l).length=l.length
 | [],_=>rfl
 | x::l,i=>by simp[Eu,Pz S keep l]
section
variable {h:Array Obj} {S:St} {g:aA} {tmps:Array Value} {H:BS} (st:aD h S g tmps H)
include st
theorem TL{keep extra:List Nat}{r:Nat}{R':aB}(hr:(S.canon keep extra).root r=some R'):∃R,S.root r=some R/\R'={ R with ms:=R.ms.bh }:=by
 simp only[St.canon,St.root,aP.ig]at hr;rw[P7]at hr;split at hr
 .rw[<-aP.ig]at hr;exact ahy hr
 .simp at hr
theorem QM{keep extra:List Nat}{r:Nat}{p:Path}{s:Nat}{v:Value}{t:Ty}{m:Mk}{xs:(Ty.sl t).den}(hf:S.rt.focus r p=some ⟨.sl t,.own s m,xs⟩)(x:qO h S g r p s v) :
  qO h (S.canon keep extra) g r (p.map ov.zero) (if s<1048576 then 0 else s) v:=by
 obtain⟨R,base,F,hR,ze,hin,ef,_⟩:=L9 st hf rfl x;intro R' cg t' m' xs' hf';obtain⟨R2,vF,rfl⟩:=TL st cg;rw[hR]at vF;simp only[aK]at vF;subst vF;exact⟨(Mf p _ _).2 hin,base,by rw[L8];exact ef⟩
theorem aa6{keep extra:List Nat}{r:Nat}{p:Path}{v:Value}{d:Dy}(hf:S.rt.focus r p=some d)(x:uw h S g r p v):uw h (S.canon keep extra) g r (p.map ov.zero) v:=by
 simp only[aP.focus]at hf;split at hf
 .rename_i R hR;obtain⟨hin,b,o,c,ef,e⟩:=x R hR d hf;intro R' cg d' hf';obtain⟨R2,vF,rfl⟩:=TL st cg;have:R=R2:=by have h1:S.root r=some R:=hR;rw[h1]at vF;simpa using vF
  subst this;exact⟨(Mf p _ _).2 hin,b,o,c,by rw[L8];exact ef,e⟩
 .simp at hf
theorem Bt{keep extra:List Nat}:∀{a:AV}{c:List Value},dc h S g a c->dc h (S.canon keep extra) g (a.canon S) c
 | .undef,_,_=>by simp only[AV.canon,dc]
 | .unit,_,y=>y
 | .val t x,_,y=>y
 | .b7 r p s,c,y=>by
  simp only[dc]at y;obtain⟨v,rfl,y⟩:=y;simp only[AV.canon];split
  .rename_i t s' m xs hf;split
   .rename_i hs;subst hs;simp only[dc];exact⟨v,rfl,QM st hf y⟩
   .simp only[dc]
  .simp only[dc]
 | .pair a b,c,y=>by
  simp only[dc]at y;obtain⟨ca,cb,rfl,y1,y2⟩:=y;simp only[AV.canon,dc];exact⟨ca,cb,rfl,Bt y1,Bt y2⟩
 | .skip,_,y=>y.elim
 | .cD _,_,y=>y.elim
 | .fh,_,y=>y.elim
 | .view _ _ _ _ _,_,y=>y.elim
 | .addr _ _,_,y=>y.elim
 | .b_ _ _,_,y=>y.elim
 | .jF _,_,y=>y.elim
 | .gE _ _,_,y=>y.elim
 | .d9 _,_,y=>y.elim
theorem akw{keep extra:List Nat}:∀(a:AV),(∀v,qe h S g a v->qe h (S.canon keep extra) g (a.canon S) v)/\(∀vs,aO h S g a vs->aO h (S.canon keep extra) g (a.canon S) vs):=by
 intro a
 induction a with
 | undef=>exact⟨fun _ _=>by simp only[AV.canon,qe],fun _ y=>by simp only[aO]at y⟩
 | skip=>exact⟨fun _ y=>y,fun _ y=>by simp only[aO]at y⟩
 | cD b=>exact⟨fun _ y=>y,fun _ y=>by simp only[aO]at y⟩
 | unit=>exact⟨fun _ y=>y,fun _ y=>y⟩
 | fh=>exact⟨fun _ y=>y,fun _ y=>by simp only[aO]at y⟩
 | val t x=>exact⟨fun _ y=>y,fun _ y=>by simp only[aO]at y⟩
 | b7 r p s=>
  refine⟨fun v y=>?_,fun _ y=>by simp only[aO]at y⟩;simp only[qe]at y;simp only[AV.canon];split
  .rename_i t s' m xs hf;split
   .rename_i hs;subst hs;simp only[qe];exact QM st hf y
   .simp only[qe]
  .simp only[qe]
 | view r p s lo hi=>exact⟨fun _ _=>by simp only[AV.canon,qe],fun _ y=>by simp only[aO]at y⟩
 | addr r p=>
  refine⟨fun v y=>?_,fun _ y=>by simp only[aO]at y⟩;simp only[qe]at y;simp only[AV.canon];split
  .rename_i d hf;simp only[qe];exact aa6 st hf y
  .simp only[qe]
 | b_ t x=>exact⟨fun _ y=>y,fun _ y=>by simp only[aO]at y⟩
 | pair a b fQ kR=>
  refine⟨fun v y=>?_,fun vs y=>?_⟩
  .simp only[qe]at y;obtain⟨ca,cb,e,y1,y2⟩:=y;simp only[AV.canon,qe];exact⟨ca,cb,e,Bt st y1,Bt st y2⟩
  .simp only[aO]at y;obtain⟨v,vs',e,y1,y2⟩:=y;simp only[AV.canon,aO];exact⟨v,vs',e,fQ.1 v y1,kR.2 vs' y2⟩
 | jF a fQ=>exact⟨fun _ _=>by simp only[AV.canon,qe],fun _ y=>by simp only[aO]at y⟩
 | gE f a fQ=>refine⟨fun v y=>?_,fun _ y=>by simp only[aO]at y⟩;simp only[qe]at y;obtain⟨vs,e,y⟩:=y;simp only[AV.canon,qe];exact⟨vs,e,fQ.2 vs y⟩
 | d9 c=>exact⟨fun _ y=>y,fun _ y=>by simp only[aO]at y⟩
theorem AL(keep extra:List Nat):aD h (S.canon keep extra) g tmps H:=by
 have hs:∀r,((S.canon keep extra).root r).isSome->(S.root r).isSome:=by intro r h1;obtain⟨R',cg⟩:=xX.1 h1;obtain⟨R,hR,_⟩:=TL st cg;rw[hR];rfl
 refine⟨?_,?_,?_,?_,fun r r' hn h1 h2=>st.dY r r' hn (hs r h1) (hs r' h2),fun r h1=>st.ej r (hs r h1),fun r h1=>st.hand r (hs r h1),st.bK,st.bO,fun r b h1=>st.b9 r b (hs r h1),st.eg,?_,fun r b h1=>st.own r b (hs r h1),st.e7,st.fV,st.p0,st.kY⟩
 .simp only[St.canon];rw[Pz];exact st.len
 .simp only[St.canon];rw[Py];exact st.gw
 .intro t;simp only[St.get_eq,St.canon];rw[P8];split
  .have z:=st.slots t;rw[St.get_eq]at z;exact(akw st _).1 _ z
  .simp only[qe]
 .intro r R' cg;obtain⟨R,hR,rfl⟩:=TL st cg;obtain⟨F,q1,q2⟩:=st.roots r R hR;exact⟨F,(az.bh R.ty).1 q1,q2⟩
 .intro r R' cg;obtain⟨R,hR,rfl⟩:=TL st cg;exact aL.bh _ (st.tag r R hR)
end
end Go.V
namespace Go.V
noncomputable section
open Go
def Ex.out:Ex->Exit
 | .normal=>.normal
 | .exit id=>.exit id
 | .ret=>.ret
theorem xN{ops:Array Oper}:∀x∈nu ops,ops[x.1]? = some x.2:=by intro x hx;simp only[nu,eH]at hx;obtain⟨y,hy,rfl⟩:=hx;have:=Fp.1 hy;simpa using this
theorem UP{ops:Array Oper}:(nu ops).map (·.1)=List.range ops.size:=by
 simp only[nu,BF];apply rL;intro i;simp only[Fg,List.getElem?_zipIdx,List.getElem?_range'];by_cases h:i<ops.size
 .simp[h]
 .simp[h]
theorem Q3{ops:Array Oper}(h:Mb ops=true):∀(i:Nat) o j c,ops[i]? = some o->o.guard=some (j,c)->∃oj t,ops[j]? = some oj/\oj.dst=some t:=by intro i o j c ho hg;simp only[Mb,CV]at h;have:=h o (by rw[Hx];exact EZ ho);rw[hg]at this;simp only[xX,cJ]at this;obtain⟨t,oj,h1,h2⟩:=this;exact⟨oj,t,h1,h2⟩
theorem RV{np:List Nat}{ops:Array Oper}(h:Jt np ops=true):∀x∈nu ops,∀d,x.2.dst=some d->d∉np:=by intro x hx d hd;simp only[Jt,CV]at h;have:=h x.2 (by rw[Hx];exact EZ (xN x hx));rw[hd]at this;simpa using this
section
variable {P:Program} {C:Ctx} {D:Den C} (bn:iC P C) (dj:ot P C D)
include bn dj
def jI(np:List Nat)(P:Program)(C:Ctx)(Q:Exit->Act->World->Prop){R:Type}(r:R)(c:Code)(S:St)(k:Ex->St->Option R)(g:aA)(a:Act)(w:World):Prop:=
 aD w.heap S g a.tmps Nil->a.defers=[]->(∀e S' g' a' w',k e S'=some r->aD w'.heap S' g' a'.tmps Nil->g'.cR g->kI g.L w w'->a'.defers=[]->vi np a a'->Q e.out a' w')->c.wp P Q a w
theorem acm{np:List Nat}{R:Type}{r:R}{H:Hints}{id:Nat}{ops:Array Oper}{S:St}{k:Ex->St->Option R}{Q:Exit->Act->World->Prop}{g:aA}{a:Act}{w:World}{n:Nat}
  (hnp:Jt np ops=true) (h:exec C D H n (.region id ops false) S k=some r):jI np P C Q r (.region id ops false) S k g a w:=by
 intro st hdf hQ;simp only[exec]at h;split at h
 .rename_i hgd;have hR:=fun βs=>LY (hints:=H) _ _ _ _ h S (fA.refl S) βs;refine wp_region ?_;rw[<-UP];refine NI (hints:=H) (id:=id) bn dj (Q3 hgd) (nu ops) S g a w xN (RV hnp) st hdf (fun βs=>?_) ?_
  .obtain⟨T1,gn,S1,gF,q1,_⟩:=hR βs;exact⟨_,q1⟩
  .intro βs S' lg a' w' g' hr st' iJ hfr iH oB;obtain⟨T1,gn,S1,gF,q1,q2,q3,_⟩:=hR βs;rw[hr]at q1;simp only[aK,aZ]at q1;obtain⟨rfl,rfl⟩:=q1;simp only[e8,dV]at q2;exact hQ .normal S1 g' a' w' q2 (MP q3 st') iJ hfr iH oB
 .simp at h
end
end
end Go.V
namespace Go.V
noncomputable section
open Go
section
variable {C:Ctx} {D:Den C} {A:bU} {S:aP} {site:Nat} {hint:Bool}
theorem Q6{ρ ρ':Operand->AV}{ps:Array (Nat×Operand)}(h:∀x∈(ps.toList.map (·.2)).toArray,ρ' x=ρ x):(ps.toList.map fun p=>(p.1,ρ' p.2))=ps.toList.map fun p=>(p.1,ρ p.2):=by apply rK;intro p hp;rw[h p.2 (by simp only[List.mem_toArray,eH];exact⟨p,hp,rfl⟩)]
theorem RT{ρ ρ':Operand->AV}(o:Oper)(h:∀x∈o.op.operands,ρ' x=ρ x):aX C D A ρ' S site hint o=aX C D A ρ S site hint o:=by
 cases ho:o.op with
 | build t ps=>rw[ho]at h;simp only[Op.operands]at h;simp only[aX,ho];rw[Q6 h]
 | buildSlice t n ps=>rw[ho]at h;simp only[Op.operands]at h;simp only[aX,ho];rw[Q6 h]
 | makeFunc f first caps=>
  rw[ho]at h;simp only[Op.operands]at h;simp only[aX,ho];cases f with
  | func f=>
   have:caps.toList.foldr (fun x r=>AV.pair (ρ' x) r) .unit=caps.toList.foldr (fun x r=>AV.pair (ρ x) r) .unit:=by
    have hc:∀x∈caps.toList,ρ' x=ρ x:=fun x hx=>h x (by simp at hx⊢;exact .inr hx);revert hc;generalize caps.toList=l;intro hc
    induction l with
    | nil=>rfl
    | cons y l ih=>simp only[Fy];rw[hc y eW,ih (fun x hx=>hc x (cB _ hx))]
   simp only[this]
  | _=>rfl
 | slice t x lo hi mx=>
  rw[ho]at h;simp only[Op.operands]at h;cases mx with
  | some v=>simp only[aX,ho]
  | none=>
   simp only[aX,ho];have h1:ρ' x=ρ x:=h x (by simp);have h2:lo.map ρ'=lo.map ρ:=by cases lo with
    | none=>rfl
    | some v=>simp only[d7];rw[h v (by simp)]
   have h3:hi.map ρ'=hi.map ρ:=by cases hi with
    | none=>rfl
    | some v=>simp only[d7];rw[h v (by simp)]
   rw[h1,h2,h3]
 | call c=>
  rw[ho]at h;simp only[Op.operands]at h;have ha:c.args.toList.map ρ'=c.args.toList.map ρ:=rK fun x hx=>h x (by simp only[Call.operands,sw];right;simpa using hx);simp only[aX,ho];rw[ha];cases hc:c.callee with
  | builtin b=>rfl
  | value f=>have:ρ' f=ρ f:=h f (by simp[Call.operands,hc]);simp only[this]
  | invoke r m=>rfl
 | pick c a b=>rw[ho]at h;simp only[Op.operands]at h;simp only[aX,ho];rw[h c (by simp),h a (by simp),h b (by simp)]
 | store t a b=>rw[ho]at h;simp only[Op.operands]at h;simp only[aX,ho];rw[h a (by simp),h b (by simp)]
 | binOp op t a b t2=>rw[ho]at h;simp only[Op.operands]at h;simp only[aX,ho];rw[h a (by simp),h b (by simp)]
 | makeSlice t a b=>rw[ho]at h;simp only[Op.operands]at h;simp only[aX,ho];rw[h a (by simp),h b (by simp)]
 | indexAddr t a b=>rw[ho]at h;simp only[Op.operands]at h;simp only[aX,ho];rw[h a (by simp),h b (by simp)]
 | index t a b=>rw[ho]at h;simp only[Op.operands]at h;simp only[aX,ho];rw[h a (by simp),h b (by simp)]
 | move x=>rw[ho]at h;simp only[Op.operands]at h;simp only[aX,ho];rw[h x (by simp)]
 | assign x=>rw[ho]at h;simp only[Op.operands]at h;simp only[aX,ho];rw[h x (by simp)]
 | box t x=>rw[ho]at h;simp only[Op.operands]at h;simp only[aX,ho];rw[h x (by simp)]
 | load t x=>rw[ho]at h;simp only[Op.operands]at h;simp only[aX,ho];rw[h x (by simp)]
 | nilCheck x=>rw[ho]at h;simp only[Op.operands]at h;simp only[aX,ho];rw[h x (by simp)]
 | unOp op t x=>rw[ho]at h;simp only[Op.operands]at h;simp only[aX,ho];rw[h x (by simp)]
 | convert s d x=>rw[ho]at h;simp only[Op.operands]at h;simp only[aX,ho];rw[h x (by simp)]
 | fieldAddr s x f=>rw[ho]at h;simp only[Op.operands]at h;simp only[aX,ho];rw[h x (by simp)]
 | field s x f=>rw[ho]at h;simp only[Op.operands]at h;simp only[aX,ho];rw[h x (by simp)]
 | extract x i=>rw[ho]at h;simp only[Op.operands]at h;simp only[aX,ho];rw[h x (by simp)]
 | _=>simp only[aX,ho]
theorem adp{ρ ρ':Operand->AV}(o:Oper)(h:∀x∈o.op.operands,ρ' x=ρ x):dN C ρ' o=dN C ρ o:=by
 have hall:o.op.operands.toList.map ρ'=o.op.operands.toList.map ρ:=rK fun x hx=>h x (by simpa using hx);unfold dN;rw[hall];cases ho:o.op with
 | build t ps=>
  rw[ho]at h;have:TK ρ' ps.toList=TK ρ ps.toList:=by
   unfold TK;have key:∀l:List (Nat×Operand),(∀p∈l,ρ' p.2=ρ p.2)->(l.all fun p=>(ρ' p.2).isVal)=l.all fun p=>(ρ p.2).isVal:=by
    intro l
    induction l with
    | nil=>intro _;rfl
    | cons a l ih=>intro hl;simp only[gT];rw[hl a eW,ih fun p hp=>hl p (cB _ hp)]
   exact key _ fun p hp=>h p.2 (by
   simp only[Op.operands,List.mem_toArray];exact eH.2 ⟨p,hp,rfl⟩)
  simp only[this]
 | assign x=>rw[ho]at h;simp only[Op.operands]at h;simp only[h x (by simp)]
 | call c=>
  rw[ho]at h;simp only[Op.operands]at h;have ha:c.args.toList.map ρ'=c.args.toList.map ρ:=rK fun x hx=>h x (by simp only[Call.operands,sw];right;simpa using hx);simp only;rw[ha];cases hc:c.callee with
  | builtin b=>cases b<;>rfl
  | value f=>have:ρ' f=ρ f:=h f (by simp[Call.operands,hc]);simp only[this]
  | invoke r m=>rfl
 | _=>rfl
theorem ab3{ρ ρ':Operand->AV}(o:Oper)(h:∀x∈o.op.operands,ρ' x=ρ x):vk C ρ' o=vk C ρ o:=by
 unfold vk;cases ho:o.op with
 | call c=>
  rw[ho]at h;simp only[Op.operands]at h;have ha:c.args.toList.map ρ'=c.args.toList.map ρ:=rK fun x hx=>h x (by simp only[Call.operands,sw];right;simpa using hx);simp only;rw[ha];cases hc:c.callee with
  | builtin b=>cases b<;>rfl
  | value f=>have:ρ' f=ρ f:=h f (by simp[Call.operands,hc]);simp only[this]
  | invoke r m=>rfl
 | slice t x lo hi mx=>cases mx<;>rfl
 | _=>rfl
def gX(F:List Nat)(S S':aP):Prop:=∀r,r∈F->S'.root r=S.root r
theorem gX.sub{F G:List Nat}{S S':aP}(h:gX F S S')(hs:∀r∈G,r∈F):gX G S S':=fun r hr=>h r (hs r hr)
theorem BW{F:List Nat}{S S':aP}(h:gX F S S'){r:Nat}(hr:r∈F)(p:Path):S'.focus r p=S.focus r p:=by simp only[aP.focus,h r hr]
theorem Mm{S S':aP}:∀(t:Ty)(a:AV),gX a.roots S S'->rd S' t a=rd S t a
 | t,.pair u v,h=>by
  cases t with
  | pair a b=>simp only[rd];rw[Mm a u (h.sub fun r hr=>by simp[AV.roots,hr]),Mm b v (h.sub fun r hr=>by simp[AV.roots,hr])]
  | _=>simp[rd]
 | t,.b7 r p s,h=>by
  cases t with
  | sl e=>simp only[rd];rw[BW h (by simp[AV.roots])]
  | _=>simp[rd]
 | t,.val t' x,h=>by cases t<;>simp only[rd]
 | t,.undef,h=>by cases t<;>simp[rd]
 | t,.skip,h=>by cases t<;>simp[rd]
 | t,.cD b,h=>by cases t<;>simp[rd]
 | t,.unit,h=>by cases t<;>simp[rd]
 | t,.fh,h=>by cases t<;>simp[rd]
 | t,.view _ _ _ _ _,h=>by cases t<;>simp[rd]
 | t,.addr _ _,h=>by cases t<;>simp[rd]
 | t,.b_ _ _,h=>by cases t<;>simp[rd]
 | t,.jF _,h=>by cases t<;>simp[rd]
 | t,.gE _ _,h=>by cases t<;>simp[rd]
 | t,.d9 _,h=>by cases t<;>simp[rd]
theorem UN{S S':aP}:∀(a:AV),gX a.roots S S'->lV S' a=lV S a
 | .pair (.addr r p) rest,h=>by
  simp only[lV];rw[BW h (by simp[AV.roots]),UN rest (h.sub fun r hr=>by simp[AV.roots,hr])]
 | .pair (.b_ t x) rest,h=>by simp only[lV];rw[UN rest (h.sub fun r hr=>by simp[AV.roots,hr])]
 | .pair (.val t x) rest,h=>by simp only[lV];rw[UN rest (h.sub fun r hr=>by simp[AV.roots,hr])]
 | .unit,h=>rfl
 | .pair .undef _,h=>rfl
 | .pair .skip _,h=>rfl
 | .pair (.cD _) _,h=>rfl
 | .pair .unit _,h=>rfl
 | .pair .fh _,h=>rfl
 | .pair (.b7 _ _ _) _,h=>rfl
 | .pair (.view _ _ _ _ _) _,h=>rfl
 | .pair (.pair _ _) _,h=>rfl
 | .pair (.jF _) _,h=>rfl
 | .pair (.gE _ _) _,h=>rfl
 | .pair (.d9 _) _,h=>rfl
 | .undef,h=>rfl
 | .skip,h=>rfl
 | .cD _,h=>rfl
 | .fh,h=>rfl
 | .val _ _,h=>rfl
 | .b7 _ _ _,h=>rfl
 | .view _ _ _ _ _,h=>rfl
 | .addr _ _,h=>rfl
 | .b_ _ _,h=>rfl
 | .jF _,h=>rfl
 | .gE _ _,h=>rfl
 | .d9 _,h=>rfl
theorem q9k{a:AV}{l:List AV}(h:a∈l):∀r∈a.roots,r∈qk l:=by
 induction l with
 | nil=>simp at h
 | cons b l ih=>
  intro r hr;simp only[qk,bL];rcases bk.1 h with rfl | h
  .exact .inl hr
  .exact .inr (ih h r hr)
theorem qzc(l l2:List AV):∀r,r∈qk (l++l2)↔r∈qk l\/r∈qk l2:=by
 intro r
 induction l with
 | nil=>simp[qk]
 | cons a l ih=>simp only[fE,qk,bL,ih,or_assoc]
theorem VL:∀(a:AV),∀r∈qk (mY a),r∈a.roots
 | .pair a b,r,h=>by
  simp only[mY,qk,bL]at h;simp only[AV.roots,bL];exact h.imp id (VL b r)
 | .undef,r,h=>by simp[mY,qk]at h
 | .skip,r,h=>by simp[mY,qk]at h
 | .cD _,r,h=>by simp[mY,qk]at h
 | .unit,r,h=>by simp[mY,qk]at h
 | .fh,r,h=>by simp[mY,qk]at h
 | .val _ _,r,h=>by simp[mY,qk]at h
 | .b7 _ _ _,r,h=>by simp[mY,qk]at h
 | .view _ _ _ _ _,r,h=>by simp[mY,qk]at h
 | .addr _ _,r,h=>by simp[mY,qk]at h
 | .b_ _ _,r,h=>by simp[mY,qk]at h
 | .jF _,r,h=>by simp[mY,qk]at h
 | .gE _ _,r,h=>by simp[mY,qk]at h
 | .d9 _,r,h=>by simp[mY,qk]at h
theorem zq{S S':aP}:∀(ks:List PK)(aI:List AV)(g:jq ks)(o:dy ks),gX (qk aI) S S'->jh S' ks aI g o=jh S ks aI g o
 | [],[],_,_,_=>rfl
 | [],_::_,_,_,_=>rfl
 | k::ks,[],g,o,_=>by cases k<;>rfl
 | k::ks,a::aI,g,o,h=>by
  have h1:gX a.roots S S':=h.sub fun r hr=>by simp[qk,hr]
  have h2:gX (qk aI) S S':=h.sub fun r hr=>by simp[qk,hr]
  cases k with
  | val t=>simp only[jh];rw[Mm t a h1,zq ks aI g o h2]
  | own t m=>simp only[jh];rw[zq ks aI g.2 o h2]
  | cw t m m'=>simp only[jh];rw[zq ks aI g o.2 h2]
  | cN t m m'=>simp only[jh];rw[zq ks aI g o.2 h2]
  | cj t=>
   cases a with
   | b_ t' x=>simp only[jh];rw[zq ks aI g o h2]
   | addr q p=>simp only[jh];rw[BW h1 (by simp[AV.roots]),zq ks aI g o h2]
   | _=>rfl
  | fn=>
   cases a with
   | gE f c=>simp only[jh];rw[UN c (h1.sub fun r hr=>by simpa [AV.roots] using hr),zq ks aI g o h2]
   | d9 c=>simp only[jh];rw[zq ks aI g o h2]
   | _=>rfl
theorem PN{S S':aP}:∀(ts:List Ty)(aI:List AV),gX (qk aI) S S'->yL S' ts aI=yL S ts aI
 | [],[],_=>rfl
 | [],_::_,_=>rfl
 | _::_,[],_=>rfl
 | t::ts,a::aI,h=>by
  simp only[yL];rw[Mm t a (h.sub fun r hr=>by simp[qk,hr]),PN ts aI (h.sub fun r hr=>by simp[qk,hr])]
theorem PL{S S':aP}(a:AV)(h:gX a.roots S S'):yJ S' a=yJ S a:=by
 cases a with
 | b7 r p s=>simp only[yJ];rw[BW h (by simp[AV.roots])]
 | val t x=>cases t<;>rfl
 | _=>rfl
end
end
end Go.V
namespace Go.V
noncomputable section
open Go
section
variable {C:Ctx} {D:Den C}
theorem ai_{S S':aP}(t:Ty)(a:AV)(h:gX a.roots S S'):vf S' t a=vf S t a:=by
 cases a with
 | addr r p=>simp only[vf];rw[BW h (by simp[AV.roots])]
 | _=>rfl
theorem agf{S S':aP}(t:Ty)(a:AV)(f:Nat)(h:gX a.roots S S'):BV S' t a f=BV S t a f:=by
 cases a with
 | addr r p=>simp only[BV];rw[BW h (by simp[AV.roots])]
 | _=>rfl
theorem ai9{S S':aP}(t:Ty)(a i:AV)(h:gX a.roots S S'):xQ S' t a i=xQ S t a i:=by
 cases a with
 | b7 r p s=>simp only[xQ];rw[BW h (by simp[AV.roots])]
 | val t x=>cases t<;>rfl
 | _=>rfl
def qj(T T':Tr (AV×aP))(S S':aP):Prop:=∀β v rt',T.dec β=some (v,rt')->rt'=S/\T'.dec β=some (v,S')
theorem qj.ret{v:AV}{S S':aP}:qj (.ret (v,S)) (.ret (v,S')) S S':=by intro β v' rt' h;simp only[Tr.dec,aK,aZ]at h;exact⟨h.2.symm,by simp[Tr.dec,h.1]⟩
theorem qj.fail{T':Tr (AV×aP)}{S S':aP}:qj .fail T' S S':=by intro β v' rt' h;simp[Tr.dec]at h
theorem qj.br{c:Bool}{x y x' y':Tr (AV×aP)}{S S':aP}(h1:qj x x' S S')(h2:qj y y' S S'):qj (.br c x y) (.br c x' y') S S':=by
 intro β v rt' h;cases c
 .exact h2 β v rt' h
 .exact h1 β v rt' h
theorem qj.nil{n:Nat}{b:Bool}{f:Bool->AV}{S S':aP}:qj (.nil n b fun b=>.ret (f b,S)) (.nil n b fun b=>.ret (f b,S')) S S':=by intro β v rt' h;simp only[Tr.dec,aK,aZ]at h⊢;exact⟨h.2.symm,h.1,trivial⟩
theorem qj.ofMap{α:Type}{x:Option α}{f:α->AV}{S S':aP}:qj (.of (x.map fun a=>(f a,S))) (.of (x.map fun a=>(f a,S'))) S S':=by
 cases x with
 | none=>exact qj.fail
 | some a=>exact qj.ret
theorem qj.call{α:Type}{x:Option α}{f f':α->Tr (AV×aP)}{S S':aP}(h:∀a,qj (f a) (f' a) S S'):qj (.call x f) (.call x f') S S':=by
 intro β v rt' hh;cases x with
 | none=>simp[Tr.dec]at hh
 | some a=>exact h a β v rt' hh
theorem Tx{S S':aP}:∀(ks:List PK)(aI:List AV),ks.all PK.plain=true->fX S' ks aI=(fX S ks aI).map fun z=>(z.1,S')
 | [],[],_=>rfl
 | [],_::_,_=>rfl
 | k::ks,[],_=>by cases k<;>rfl
 | k::ks,a::aI,h=>by
  simp only[gT,bH]at h;cases k with
  | val t=>simp only[fX];exact Tx ks aI h.2
  | cj t=>simp only[fX];exact Tx ks aI h.2
  | fn=>simp only[fX];exact Tx ks aI h.2
  | _=>simp[PK.plain]at h
theorem Tp{S S':aP}:∀(ks:List PK)(aI:List AV),ks.all PK.plain=true->gB S' ks aI=(gB S ks aI).map fun z=>(z.1,S')
 | [],[],_=>rfl
 | [],_::_,_=>rfl
 | k::ks,[],_=>by cases k<;>rfl
 | k::ks,a::aI,h=>by
  simp only[gT,bH]at h;cases k with
  | val t=>simp only[gB];exact Tp ks aI h.2
  | cj t=>simp only[gB];exact Tp ks aI h.2
  | fn=>simp only[gB];exact Tp ks aI h.2
  | _=>simp[PK.plain]at h
theorem abz{S rt:aP}{ks:List PK}{aI:List AV}{g:jq ks}(hp:ks.all PK.plain=true)(h:fX S ks aI=some (g,rt)):rt=S:=by have:=Tx (S:=S) (S':=S) ks aI hp;rw[h]at this;simp only[d7,aK,aZ,true_and]at this;exact this
theorem aa8{S rt:aP}{ks:List PK}{aI:List AV}{g:dy ks}(hp:ks.all PK.plain=true)(h:gB S ks aI=some (g,rt)):rt=S:=by have:=Tp (S:=S) (S':=S) ks aI hp;rw[h]at this;simp only[d7,aK,aZ,true_and]at this;exact this
theorem Sb{A A':bU}{S S':aP}(hl:S'.length=S.length){d:Option Nat}{site:Nat}{t:Ty}{m:Mk}{x:t.den}(hs:m.still=true):qj (dQ A S d site t m x false) (dQ A' S' d site t m x false) S S':=by
 cases d with
 | none=>exact qj.ret
 | some d=>
  simp only[dQ,hs,aY,e8,dV,hl];split
  .exact qj.fail
  .exact qj.ret
theorem PO:∀(rs:List RK),rs.all (fun k=>!k.kS&&k.ms.still)=true->(pQ rs).still=true
 | [],_=>rfl
 | k::rs,h=>by
  simp only[gT,bH]at h;simp only[pQ,Mk.still,bH];exact⟨h.1.2,PO rs h.2⟩
theorem aaL{A A':bU}(hA:A'.sh=A.sh){S S':aP}(hl:S'.length=S.length){d:Option Nat}{site:Nat}:∀(rs:List RK)(r:f5 rs),rs.all (fun k=>!k.kS&&k.ms.still)=true->qj (mu A S d site rs r) (mu A' S' d site rs r) S S'
 | [],r,_=>qj.ret
 | [.val t m],r,h=>by
  simp only[gT,bH]at h;simp only[mu,hA];split
  .split
   .exact qj.ret
   .exact qj.fail
  .split
   .exact Sb hl h.1.2
   .exact qj.fail
 | [.ptr t m],r,h=>by simp[RK.kS]at h
 | q1::q2::rs,r,h=>by
  have e1:∀(A:bU)(S:aP),mu A S d site (q1::q2::rs) r=Ca A S d site (q1::q2::rs) r:=by intro A S;cases q1<;>rfl
  rw[e1,e1];unfold Ca;split
  .cases d with
   | none=>exact qj.ret
   | some d=>
    have hs:=PO _ h;have e2:∀(A:bU)(S:aP),dQ A S (some d) site (jo (q1::q2::rs)) (pQ (q1::q2::rs)) (kg (q1::q2::rs) r) false =
      if (!Nat.blt d S.length||!Nat.blt site 1048576)=true then .fail else .ret (.val (jo (q1::q2::rs)) (kg (q1::q2::rs) r),S):=by
     intro A S;simp only[dQ,hs,aY,e8,dV]
    simp only[e2,hl];by_cases hc:(!Nat.blt d S.length||!Nat.blt site 1048576)=true
    .simp only[aj hc];exact qj.fail
    .simp only[af hc];exact qj.ret
  .exact qj.fail
theorem abN{A A':bU}(hA:A'.sh=A.sh){S S':aP}(hl:S'.length=S.length){d:Option Nat}{site:Nat}{g:FuncId}{aI:List AV}(hq:G0 (C.sig g)=true)(hr:gX (qk aI) S S') :
  qj (rY C D A S d site g aI) (rY C D A' S' d site g aI) S S':=by
 unfold G0 at hq;simp only[bH]at hq;unfold rY;rw[Tx (S:=S) (S':=S') _ _ hq.1];cases h1:fX S (C.sig g).params aI with
 | none=>exact qj.fail
 | some z=>
  obtain⟨gd,S1⟩:=z;obtain rfl:=abz hq.1 h1;simp only[d7];rw[Tp (S:=S1) (S':=S') _ _ hq.1];cases h2:gB S1 (C.sig g).params aI with
  | none=>exact qj.fail
  | some z=>
   obtain⟨od,S2⟩:=z;obtain rfl:=aa8 hq.1 h2;simp only[d7];rw[zq _ _ _ _ hr];cases h3:jh S2 (C.sig g).params aI gd od with
   | none=>exact qj.fail
   | some aa=>
    simp only;split
    .refine qj.call fun r=>?_;have hn:(C.sig g).params.all (fun k=>!k.eD)=true:=by rw[CV]at hq⊢;intro k hk;have:=hq.1 k hk;cases k<;>simp_all [PK.plain,PK.eD]
     simp only[hn,aY];exact aaL hA hl _ _ hq.2
    .exact qj.fail
theorem Ty.kK:∀(t:Ty),t.flat=true->(Mk.top t).still=true/\(Mk.sS t).still=true
 | .sl _,h=>by simp[Ty.flat]at h
 | .pair a b,h=>by
  simp only[Ty.flat,bH]at h;have ha:=Ty.kK a h.1;have hb:=Ty.kK b h.2;cases a<;>simp_all [Mk.top,Mk.sS,Mk.still,Ty.flat]
 | .unit,_=>⟨rfl,rfl⟩
 | .int _,_=>⟨rfl,rfl⟩
 | .bool,_=>⟨rfl,rfl⟩
 | .str,_=>⟨rfl,rfl⟩
theorem abD{t:Ty}(h:t.flat=true)(hint:Bool):(Mk.zM hint t).still=true:=by
 unfold Mk.zM;cases hint
 .exact(Ty.kK t h).1
 .exact(Ty.kK t h).2
theorem GL:∀(t:Ty)(m:Mk)(x:t.den)(p:Path)(t2:Ty)(y:t2.den)(m':Mk)(x':t.den),m.still=true->put t m x p t2 .no y=some (m',x')->m'.still=true
 | t,m,x,[],t2,y,m',x',_,h=>by
  unfold put at h;simp only[cJ,aK,aZ]at h;obtain⟨_,_,rfl,_⟩:=h;rfl
 | .pair a b,m,x,.fst::p,t2,y,m',x',hm,h=>by
  simp only[put,cJ,aK,aZ]at h;obtain⟨⟨r1,r2⟩,h1,rfl,_⟩:=h;have hf:m.fst.still=true/\m.snd.still=true:=by cases m<;>simp_all [Mk.fst,Mk.snd,Mk.still]
  have:=GL a m.fst x.1 p t2 y _ _ hf.1 h1;simp only[Mk.still,bH];exact⟨this,hf.2⟩
 | .pair a b,m,x,.snd::p,t2,y,m',x',hm,h=>by
  simp only[put,cJ,aK,aZ]at h;obtain⟨⟨r1,r2⟩,h1,rfl,_⟩:=h;have hf:m.fst.still=true/\m.snd.still=true:=by cases m<;>simp_all [Mk.fst,Mk.snd,Mk.still]
  have:=GL b m.snd x.2 p t2 y _ _ hf.2 h1;simp only[Mk.still,bH];exact⟨hf.1,this⟩
 | .sl t,m,xs,.idx i s::p,t2,y,m',x',hm,h=>by
  cases m<;>simp_all [put,Mk.still]
 | .sl t,m,xs,.fst::p,t2,y,m',x',hm,h=>by simp[put]at h
 | .sl t,m,xs,.snd::p,t2,y,m',x',hm,h=>by simp[put]at h
 | .pair a b,m,xs,.idx i s::p,t2,y,m',x',hm,h=>by simp[put]at h
 | .unit,m,xs,_::p,t2,y,m',x',hm,h=>by simp[put]at h
 | .int _,m,xs,_::p,t2,y,m',x',hm,h=>by simp[put]at h
 | .bool,m,xs,_::p,t2,y,m',x',hm,h=>by simp[put]at h
 | .str,m,xs,_::p,t2,y,m',x',hm,h=>by simp[put]at h
theorem akb(t:Ty){v:AV}(h:v.isVal=true):∃r:Option t.den,∀S:aP,tk S t v=r.map fun x=>(Mk.no,x,S):=by
 cases v with
 | val t' x=>refine⟨qbv t' t x,fun S=>?_⟩;unfold tk;cases qbv t' t x<;>rfl
 | cD b=>
  cases t with
  | bool=>exact⟨some b,fun S=>rfl⟩
  | _=>exact⟨none,fun S=>rfl⟩
 | _=>simp[AV.isVal]at h
theorem Rc(t:Ty):∀(l:List (Nat×AV))(acc:Mk×t.den),acc.1.still=true->l.all (fun p=>p.2.isVal)=true->
  ∃r:Option (Mk×t.den),(∀S:aP,oI S t acc l=r.map fun z=>(z.1,z.2,S))/\∀z,r=some z->z.1.still=true
 | [],acc,ha,_=>⟨some acc,fun S=>rfl,fun z hz=>by cases hz;exact ha⟩
 | (i,v)::l,acc,ha,h=>by
  simp only[gT,bH]at h;cases hf:focus t acc.1 acc.2 (ic i) with
  | none=>exact⟨none,fun S=>by simp only[oI,hf];rfl,fun z hz=>by cases hz⟩
  | some d=>
   obtain⟨r,hr⟩:=akb d.ty h.1;cases r with
   | none=>exact⟨none,fun S=>by simp only[oI,hf,dw,hr];rfl,fun z hz=>by cases hz⟩
   | some x=>
    cases hp:put t acc.1 acc.2 (ic i) d.ty .no x with
    | none=>exact⟨none,fun S=>by simp only[oI,hf,dw,hr,d7,hp];rfl,fun z hz=>by cases hz⟩
    | some q=>obtain⟨q1,q2⟩:=q;obtain⟨r2,h1,h2⟩:=Rc t l (q1,q2) (GL _ _ _ _ _ _ _ _ ha hp) h.2;exact⟨r2,fun S=>by simp only[oI,hf,dw,hr,d7,hp];exact h1 S,h2⟩
theorem ack{A A':bU}{ρ:Operand->AV}{S S':aP}{site:Nat}{hint:Bool}{o:Oper}(hl:S'.length=S.length)(hw:dN C ρ o=none)
    (hr:gX (if rW o then [] else qk (o.op.operands.toList.map ρ)) S S'):qj (aX C D A ρ S site hint o) (aX C D A' ρ S' site hint o) S S':=by
  have ha:∀{x:Operand},rW o=false->x∈o.op.operands->gX (ρ x).roots S S':=by intro x hb hx;rw[hb]at hr;exact hr.sub fun r h=>q9k (eH.2 ⟨x,by simpa using hx,rfl⟩) r h
  cases ho:o.op with
  | move x=>simp only[aX,ho];exact qj.ret
  | pick c a b=>
    simp only[aX,ho];split
    . exact qj.br qj.ret qj.ret
    . exact qj.fail
  | unOp op t x=>
    simp only[aX,ho];split
    . exact qj.ret
    . exact qj.ret
    . exact qj.fail
  | field t x f=>
    simp only[aX,ho];split
    . split
      . split
        . exact qj.ret
        . exact qj.fail
      . exact qj.fail
    . exact qj.fail
  | extract x i=>simp only[aX,ho];exact qj.ofMap (f:=fun v=>v)
  | makeFunc f first caps=>
    cases f with
    | func f=>
      simp only[aX,ho];split
      . exact qj.ret
      . exact qj.fail
    | _=>simp only[aX,ho];exact qj.fail
  | load t x=>
    have:=ha (x:=x) (by unfold rW;rw[ho]) (by rw[ho];simp[Op.operands]);simp only[aX,ho];rw[ai_ _ _ this];split
    . exact qj.ofMap (f:=fun v=>v)
    . exact qj.fail
  | nilCheck x=>
    have:=ha (x:=x) (by unfold rW;rw[ho]) (by rw[ho];simp[Op.operands]);simp only[aX,ho];cases hv:ρ x with
    | addr r p=>
      rw[hv]at this;simp only;rw[BW this (by simp[AV.roots])];cases S.focus r p with
      | none=>exact qj.fail
      | some d=>exact qj.ret
    | b_ t y=>exact qj.ret
    | gE f c=>exact qj.ret
    | _=>exact qj.fail
  | fieldAddr s x f=>have:=ha (x:=x) (by unfold rW;rw[ho]) (by rw[ho];simp[Op.operands]);simp only[aX,ho];rw[agf _ _ _ this];exact qj.ofMap (f:=fun v=>v)
  | indexAddr t x i=>
    have:=ha (x:=x) (by unfold rW;rw[ho]) (by rw[ho];simp[Op.operands]);simp only[aX,ho];rw[ai9 _ _ _ this];split
    . exact qj.br qj.ret qj.fail
    . exact qj.fail
  | index t x i=>
    simp only[aX,ho];split
    . exact qj.br qj.ret qj.fail
    . exact qj.fail
  | convert s d x=>
    have:=ha (x:=x) (by unfold rW;rw[ho]) (by rw[ho];simp[Op.operands]);simp only[aX,ho];split
    . exact qj.ret
    . exact qj.ret
    . rw[Mm _ _ this]
      split
      . exact qj.ret
      . exact qj.fail
    . exact qj.fail
  | binOp op t x y t2=>
    have:=ha (x:=x) (by unfold rW;rw[ho]) (by rw[ho];simp[Op.operands]);simp only[aX,ho];rw[PL _ this];split
    . split
      . exact qj.nil (f:=fun b=>.val .bool b)
      . exact qj.nil (f:=fun b=>.val .bool b)
      . exact qj.fail
    . split
      . exact qj.ret
      . exact qj.br qj.ret qj.fail
      . exact qj.br qj.fail qj.ret
      . exact qj.fail
  | assign x=>
    simp only[dN,ho]at hw;simp only[aX,ho];cases hv:ρ x with
    | b7 r p s=>rw[hv]at hw;simp at hw
    | pair a b=>rw[hv]at hw;simp at hw
    | _=>exact qj.ret
  | build t parts=>
    simp only[dN,ho]at hw;split at hw
    . rename_i hc
      simp only[bH]at hc;simp only[aX,ho];split
      . obtain⟨r,h1,h2⟩:=Rc (C.ty t) (parts.toList.map fun p=>(p.1,ρ p.2)) (Mk.zM hint (C.ty t),(C.ty t).zero) (abD hc.1 hint) (by
          have:=hc.2;unfold TK at this;simpa [List.all_map] using this)
        rw[h1 S,h1 S'];cases r with
        | none=>exact qj.fail
        | some z=>exact Sb hl (h2 z rfl)
      . exact qj.fail
    . simp at hw
  | call c=>
    have hb:rW o=false:=by unfold rW;rw[ho]
    cases hc:c.callee with
    | builtin b=>
      cases b with
      | len=>
        simp only[aX,ho,hc];split
        . exact qj.ret
        . rename_i x _ _ _ hargs _
          obtain⟨u,vK,CN⟩:∃u,u∈c.args.toList/\ρ u=x:=by
            have:x∈c.args.toList.map ρ:=by rw[hargs];simp
            simpa using this
          have:=ha (x:=u) hb (by rw[ho];simp only[Op.operands,Call.operands,sw];right;simpa using vK);rw[CN]at this;rw[PL _ this];exact qj.ofMap (f:=fun n=>.val (.int .i64) n)
        all_goals first | (exfalso;contradiction) | exact qj.fail
      | min=>
        simp only[aX,ho,hc];split
        all_goals first
          | (exfalso;contradiction)
          | exact qj.fail
          | (split
             . split
               . exact qj.ret
               . exact qj.fail
             . exact qj.fail)
      | max=>
        simp only[aX,ho,hc];split
        all_goals first
          | (exfalso;contradiction)
          | exact qj.fail
          | (split
             . split
               . exact qj.ret
               . exact qj.fail
             . exact qj.fail)
      | _=>simp[dN,ho,hc]at hw
    | value f=>
      have hf:=ha (x:=f) hb (by rw[ho];simp[Op.operands,Call.operands,hc]);have hargs:gX (qk (c.args.toList.map ρ)) S S':=by
        intro r hr';have key:∀(l:List Operand),(∀x∈l,gX (ρ x).roots S S')->r∈qk (l.map ρ)->S'.root r=S.root r:=by
          intro l
          induction l with
          | nil=>intro _ h;simp[qk]at h
          | cons x l ih=>
            intro hx h;simp only[cr,qk,bL]at h;rcases h with h | h
            . exact hx x eW r h
            . exact ih (fun y hy=>hx y (cB _ hy)) h
        exact key c.args.toList (fun x hx=>ha hb (by rw[ho];simp only[Op.operands,Call.operands,sw];right;simpa using hx)) hr'
      simp only[aX,ho,hc];simp only[dN,ho,hc]at hw;cases hv:ρ f with
      | gE g caps=>
        rw[hv]at hw hf;simp only at hw⊢;split at hw
        . simp at hw
        rename_i vJ;simp only[qP,af vJ];split at hw
        . rename_i hq
          refine abN (A:={ A with sh:=hint }) (A':={ A' with sh:=hint }) rfl hl hq ?_;intro r hr';rcases(qzc _ _ r).1 hr' with h | h
          . exact hargs r h
          . exact hf r (by simp only[AV.roots];exact VL _ r h)
        . simp at hw
      | d9 cl=>
        simp only;rw[PN _ _ hargs];split
        . split
          . exact qj.call fun x=>qj.ret
          . exact qj.fail
        . exact qj.fail
      | _=>exact qj.fail
    | invoke r m=>simp only[aX,ho,hc];exact qj.fail
  | _=>simp[dN,ho]at hw
end
end
structure fO (W:List Nat) (S S':aP):Prop where
 len:S'.length=S.length
 root:∀r,r∉W->S'.root r=S.root r
theorem fO.refl(W:List Nat)(S:aP):fO W S S:=⟨rfl,fun _ _=>rfl⟩
theorem fO.trans{W:List Nat}{a b c:aP}(h:fO W a b)(k:fO W b c):fO W a c:=⟨k.len.trans h.len,fun r hr=>(k.root r hr).trans (h.root r hr)⟩
theorem fO.mono{W W':List Nat}{a b:aP}(h:fO W a b)(hs:∀r∈W,r∈W'):fO W' a b:=⟨h.len,fun r hr=>h.root r fun hh=>hr (hs r hh)⟩
theorem fO.set(S:aP)(q:Nat)(x:Option aB):fO [q] S (S.aG q x):=by refine⟨by simp[aP.bS],fun r hr=>?_⟩;simp only[d6]at hr;simp only[aP.ig,aP.bS,List.getD,jU];rw[af (fun h=>hr h.symm)]
theorem ve:∀(t:Ty)(a:AV){S S':aP}{m:Mk}{x:t.den},tk S t a=some (m,x,S')->fO a.roots S S'
 | t,.val t' y,S,S',m,x,h=>by
  have:(qbv t' t y).bind (fun x=>some (Mk.no,x,S))=some (m,x,S'):=by cases t<;>simpa only [tk] using h
  simp only[cJ,aK,aZ]at this;obtain⟨_,_,_,_,rfl⟩:=this;exact fO.refl _ _
 | t,.cD b,S,S',m,x,h=>by
  cases t<;>simp[tk]at h;obtain⟨_,_,rfl⟩:=h;exact fO.refl _ _
 | t,.unit,S,S',m,x,h=>by
  cases t<;>simp[tk]at h;obtain⟨_,rfl⟩:=h;exact fO.refl _ _
 | t,.fh,S,S',m,x,h=>by
  cases t<;>simp[tk]at h;obtain⟨_,_,rfl⟩:=h;exact fO.refl _ _
 | t,.b7 r p s,S,S',m,x,h=>by
  cases t with
  | sl e=>
   simp only[tk]at h;split at h
   .split at h
    .split at h
     .simp only[cJ,aK,aZ]at h;obtain⟨_,_,_,_,_,_,rfl⟩:=h;exact fO.set _ _ _
     .simp at h
    .simp at h
   .simp at h
  | _=>simp[tk]at h
 | t,.pair u v,S,S',m,x,h=>by
  cases t with
  | pair a b=>simp only[tk,cJ,aK,aZ]at h;obtain⟨⟨m1,x1,S1⟩,h1,⟨m2,x2,S2⟩,h2,_,_,rfl⟩:=h;exact((ve a u h1).mono fun r hr=>by simp[AV.roots,hr]).trans ((ve b v h2).mono fun r hr=>by simp[AV.roots,hr])
  | _=>simp[tk]at h
 | t,.undef,S,S',m,x,h=>by cases t<;>simp[tk]at h
 | t,.skip,S,S',m,x,h=>by cases t<;>simp[tk]at h
 | t,.view _ _ _ _ _,S,S',m,x,h=>by cases t<;>simp[tk]at h
 | t,.addr _ _,S,S',m,x,h=>by cases t<;>simp[tk]at h
 | t,.b_ _ _,S,S',m,x,h=>by cases t<;>simp[tk]at h
 | t,.jF _,S,S',m,x,h=>by cases t<;>simp[tk]at h
 | t,.gE _ _,S,S',m,x,h=>by cases t<;>simp[tk]at h
 | t,.d9 _,S,S',m,x,h=>by cases t<;>simp[tk]at h
theorem ajE(t:Ty)(a:AV){S S':aP}{hint:Bool}{m:Mk}{x:t.den}(h:TU S hint t a=some (m,x,S')):fO a.roots S S':=by
 simp only[TU,cJ]at h;obtain⟨⟨m1,x1,S1⟩,h1,h⟩:=h;split at h
 .split at h
  .simp only[aK,aZ]at h;obtain⟨rfl,rfl,rfl⟩:=h;exact ve t a h1
  .simp at h
 .simp only[aK,aZ]at h;obtain⟨rfl,rfl,rfl⟩:=h;exact ve t a h1
theorem vV{A:bU}{S S':aP}{d:Option Nat}{site:Nat}{t:Ty}{m:Mk}{x:t.den}{mem:Bool}{β:Bool}{v:AV}(h:(dQ A S d site t m x mem).dec β=some (v,S')):fO d.toList S S':=by
 cases d with
 | none=>simp only[dQ,Tr.dec,aK,aZ]at h;rw[<-h.2];exact fO.refl _ _
 | some d=>
  simp only[dQ]at h;split at h
  .simp[Tr.dec]at h
  .split at h
   .split at h
    .simp only[Tr.dec,aK,aZ]at h;rw[<-h.2];exact fO.set _ _ _
    .simp[Tr.dec]at h
   .split at h
    .simp only[Tr.dec,aK,aZ]at h;rw[<-h.2];exact fO.refl _ _
    .split at h
     .simp only[Tr.dec,aK,aZ]at h;rw[<-h.2];exact fO.set _ _ _
     .simp[Tr.dec]at h
theorem QN{T:Ty}:∀(l:List (Nat×AV))(acc:Mk×T.den){S S':aP}{m:Mk}{x:T.den},oI S T acc l=some (m,x,S')->fO (qk (l.map (·.2))) S S'
 | [],acc,S,S',m,x,h=>by
  simp only[oI,aK,aZ]at h;obtain⟨_,_,rfl⟩:=h;exact fO.refl _ _
 | (i,v)::l,acc,S,S',m,x,h=>by
  simp only[oI,cJ]at h;obtain⟨d,_,⟨m1,x1,S1⟩,h1,r,_,h2⟩:=h;exact((ve _ v h1).mono fun r hr=>by simp[qk,hr]).trans ((QN l _ h2).mono fun r hr=>by simp[qk,hr])
theorem MM{e:Ty}:∀(l:List (Nat×AV))(acc:Mk×List e.den){S S':aP}{m:Mk}{x:List e.den},tF S e acc l=some (m,x,S')->fO (qk (l.map (·.2))) S S'
 | [],acc,S,S',m,x,h=>by
  simp only[tF,aK,aZ]at h;obtain⟨_,_,rfl⟩:=h;exact fO.refl _ _
 | (i,v)::l,acc,S,S',m,x,h=>by
  simp only[tF]at h;split at h
  .simp only[cJ]at h;obtain⟨⟨m1,x1,S1⟩,h1,h2⟩:=h;exact((ve _ v h1).mono fun r hr=>by simp[qk,hr]).trans ((MM l _ h2).mono fun r hr=>by simp[qk,hr])
  .simp at h
theorem EE:∀(ks:List PK)(aI:List AV){S S':aP}{g:jq ks},fX S ks aI=some (g,S')->fO (mj ks aI) S S'
 | [],[],S,S',g,h=>by
  simp only[fX,aK,aZ]at h;rw[h.2];exact fO.refl _ _
 | [],_::_,S,S',g,h=>by simp[fX]at h
 | k::ks,[],S,S',g,h=>by cases k<;>simp[fX]at h
 | k::ks,a::aI,S,S',g,h=>by
  have hsub:∀r∈mj ks aI,r∈mj (k::ks) (a::aI):=by intro r hr;simp only[mj];split<;>simp[hr]
  cases k with
  | own t m=>
   simp only[fX,cJ]at h;obtain⟨⟨m1,x1,S1⟩,h1,h⟩:=h;split at h
   .simp only[cJ,aK,aZ]at h;obtain⟨⟨g2,S2⟩,h2,_,rfl⟩:=h;exact((ve _ a h1).mono fun r hr=>by simp[mj,PK.plain,hr]).trans ((EE ks aI h2).mono hsub)
   .simp at h
  | val t=>exact(EE ks aI (by simpa only [fX] using h)).mono hsub
  | cw t m m'=>exact(EE ks aI (by simpa only [fX] using h)).mono hsub
  | cN t m m'=>exact(EE ks aI (by simpa only [fX] using h)).mono hsub
  | cj t=>exact(EE ks aI (by simpa only [fX] using h)).mono hsub
  | fn=>exact(EE ks aI (by simpa only [fX] using h)).mono hsub
theorem FR:∀(a:AV){r:Nat}{p:Path},kC a=some (r,p)->r∈a.roots
 | .b7 r' p' s,r,p,h=>by simp only[kC,aK,aZ]at h;simp[AV.roots,h.1]
 | .pair a b,r,p,h=>by
  simp only[kC]at h;simp only[AV.roots,bL];split at h
  .rename_i r1 p1 h1;simp only[aK,aZ]at h;obtain⟨rfl,_⟩:=h;exact .inl (FR a h1)
  .split at h
   .rename_i r1 p1 h1;simp only[aK,aZ]at h;obtain⟨rfl,_⟩:=h;exact .inr (FR b h1)
   .simp at h
 | .undef,_,_,h=>by simp[kC]at h
 | .skip,_,_,h=>by simp[kC]at h
 | .cD _,_,_,h=>by simp[kC]at h
 | .unit,_,_,h=>by simp[kC]at h
 | .fh,_,_,h=>by simp[kC]at h
 | .val _ _,_,_,h=>by simp[kC]at h
 | .view _ _ _ _ _,_,_,h=>by simp[kC]at h
 | .addr _ _,_,_,h=>by simp[kC]at h
 | .b_ _ _,_,_,h=>by simp[kC]at h
 | .jF _,_,_,h=>by simp[kC]at h
 | .gE _ _,_,_,h=>by simp[kC]at h
 | .d9 _,_,_,h=>by simp[kC]at h
theorem ab9{S S':aP}{site:Nat}{t:Ty}{a:AV}{m:Mk}{o:t.den}(h:xP S site t a m o=some S'):fO a.roots S S':=by
 unfold xP at h;split at h
 .simp only[aK]at h;rw[h];exact fO.refl _ _
 .rename_i r p hp;split at h
  .simp only[cJ]at h;obtain⟨d,_,h⟩:=h;split at h
   .simp only[cJ]at h;obtain⟨y,_,h⟩:=h;split at h
    .simp at h
    .simp only[cJ,aK]at h;obtain⟨_,_,rfl⟩:=h;exact(fO.set _ _ _).mono fun r' hr=>by simp only[d6]at hr;subst hr;exact FR a hp
   .simp at h
  .simp at h
theorem ED{site:Nat}:∀(ks:List PK)(aI:List AV)(o:dy ks){S S':aP},ga S site ks aI o=some S'->fO (mj ks aI) S S'
 | [],[],o,S,S',h=>by
  simp only[ga,aK]at h;rw[h];exact fO.refl _ _
 | [],_::_,o,S,S',h=>by simp[ga]at h
 | k::ks,[],o,S,S',h=>by cases k<;>simp[ga]at h
 | k::ks,a::aI,o,S,S',h=>by
  have hsub:∀r∈mj ks aI,r∈mj (k::ks) (a::aI):=by intro r hr;simp only[mj];split<;>simp[hr]
  cases k with
  | cw t m m'=>
   cases a with
   | addr q p=>
    cases p with
    | nil=>
     simp only[ga]at h;split at h
     .exact((fO.set _ _ _).mono fun r hr=>by simp only[d6]at hr;subst hr;simp[mj,PK.plain,AV.roots]).trans ((ED ks aI o.2 h).mono hsub)
     .simp at h
    | cons _ _=>simp[ga]at h
   | _=>simp[ga]at h
  | cN t m m'=>simp only[ga,cJ]at h;obtain⟨S1,h1,h2⟩:=h;exact((ab9 h1).mono fun r hr=>by simp[mj,PK.plain,hr]).trans ((ED ks aI o.2 h2).mono hsub)
  | val t=>exact(ED ks aI o (by simpa only [ga] using h)).mono hsub
  | own t m=>exact(ED ks aI o (by simpa only [ga] using h)).mono hsub
  | cj t=>exact(ED ks aI o (by simpa only [ga] using h)).mono hsub
  | fn=>exact(ED ks aI o (by simpa only [ga] using h)).mono hsub
theorem MJ{A:bU}{S S':aP}{d:Option Nat}{site:Nat}:∀(rs:List RK)(r:f5 rs){β:Bool}{v:AV},(mu A S d site rs r).dec β=some (v,S')->fO d.toList S S'
 | [],r,β,v,h=>by
  simp only[mu,Tr.dec,aK,aZ]at h;rw[<-h.2];exact fO.refl _ _
 | [.val t m],r,β,v,h=>by
  simp only[mu]at h;split at h
  .split at h
   .simp only[Tr.dec,aK,aZ]at h;rw[<-h.2];exact fO.refl _ _
   .simp[Tr.dec]at h
  .split at h
   .exact vV h
   .simp[Tr.dec]at h
 | [.ptr t m],r,β,v,h=>by
  simp only[mu]at h;split at h
  .exact vV h
  .simp[Tr.dec]at h
 | q1::q2::rs,r,β,v,h=>by
  have h':(Ca A S d site (q1::q2::rs) r).dec β=some (v,S'):=by cases q1<;>simpa only [mu] using h
  unfold Ca at h';split at h'
  .cases d with
   | none=>simp only[Tr.dec,aK,aZ]at h';rw[<-h'.2];exact fO.refl _ _
   | some d=>
    simp only at h';cases hl:dQ A S (some d) site (jo (q1::q2::rs)) (pQ (q1::q2::rs)) (kg (q1::q2::rs) r) false with
    | ret z=>obtain⟨v1,S1⟩:=z;rw[hl]at h';simp only[Tr.dec,aK,aZ]at h';rw[<-h'.2];exact vV (β:=true) (by rw[hl];rfl)
    | _=>rw[hl]at h';simp[Tr.dec]at h'
  .simp[Tr.dec]at h'
section
variable {C:Ctx} {D:Den C}
theorem GY{A:bU}{S S':aP}{d:Option Nat}{site:Nat}{g:FuncId}{aI:List AV}{β:Bool}{v:AV}(h:(rY C D A S d site g aI).dec β=some (v,S')):fO (d.toList++mj (C.sig g).params aI) S S':=by
 unfold rY at h;split at h
 .simp[Tr.dec]at h
 .rename_i gd S1 h1;split at h
  .simp[Tr.dec]at h
  .rename_i od S2 h2;split at h
   .simp[Tr.dec]at h
   .split at h
    .simp only[Tr.dec,cJ]at h;obtain⟨r,_,h⟩:=h;have f1:fO (d.toList++mj (C.sig g).params aI) S S1:=(EE _ _ h1).mono fun r hr=>by simp[hr]
     split at h
     .exact f1.trans ((MJ _ _ h).mono fun r hr=>by simp[hr])
     .split at h
      .cases hlo:vW (C.sig g).params aI with
       | false=>rw[hlo]at h;simp[Tr.dec]at h
       | true=>
       rw[hlo]at h;simp only[Tr.dec]at h;split at h
       .simp[Tr.dec]at h
       .rename_i S3 h3;exact f1.trans (((ED _ _ _ h3).mono fun r hr=>by simp[hr]).trans ((MJ _ _ h).mono fun r hr=>by simp[hr]))
      .simp[Tr.dec]at h
    .simp[Tr.dec]at h
theorem UM:∀(ks:List PK)(aI:List AV),∀r∈mj ks aI,r∈qk aI
 | [],_,r,h=>by simp[mj]at h
 | k::ks,[],r,h=>by simp[mj]at h
 | k::ks,a::aI,r,h=>by
  simp only[mj]at h;simp only[qk,bL];split at h
  .exact .inr (UM ks aI r h)
  .rcases bL.1 h with h | h
   .exact .inl h
   .exact .inr (UM ks aI r h)
theorem ZH:∀(ks:List PK)(aI:List AV){S:aP}{z:List AV×aP},k_ S ks aI=some z->fO (qk aI) S z.2/\mj ks z.1=mj ks aI
 | [],[],S,z,h=>by
  simp only[k_,aK]at h;subst h;exact⟨fO.refl _ _,rfl⟩
 | [],_::_,S,z,h=>by simp[k_]at h
 | k::ks,[],S,z,h=>by cases k<;>simp[k_]at h
 | k::ks,a::aI,S,z,h=>by
  have plain:(k_ S ks aI).map (fun z=>(a::z.1,z.2))=some z->fO (qk (a::aI)) S z.2/\mj (k::ks) z.1=mj (k::ks) (a::aI):=by intro h;simp only[fk]at h;obtain⟨z',h1,rfl⟩:=h;obtain⟨f,e⟩:=ZH ks aI h1;exact⟨f.mono fun r hr=>by simp[qk,hr],by simp only[mj,e]⟩
  cases k with
  | val t=>
   simp only[k_]at h;split at h
   .exact plain h
   .split at h
    .rename_i m y S1 sq;split at h
     .simp only[fk]at h;obtain⟨z',h1,rfl⟩:=h;obtain⟨f,e⟩:=ZH ks aI h1;exact⟨((ve _ _ sq).mono fun r hr=>by simp[qk,hr]).trans (f.mono fun r hr=>by simp[qk,hr]),by simp only[mj,PK.plain,aY,e]⟩
     .simp at h
    .simp at h
  | _=>exact plain (by simpa only [k_] using h)
theorem abO{A:bU}{S S':aP}{d:Option Nat}{site:Nat}{g:FuncId}{aI:List AV}{β:Bool}{v:AV}(h:(qP C D A S d site g aI).dec β=some (v,S')):fO (d.toList++qk aI) S S':=by
 unfold qP at h;split at h
 .split at h
  .rename_i z hz;obtain⟨f,e⟩:=ZH _ _ hz;have f2:=GY h;rw[e]at f2;exact(f.mono fun r hr=>by simp[hr]).trans (f2.mono fun r hr=>by
    rcases bL.1 hr with hr | hr
    .simp[hr]
    .exact bL.2 (.inr (UM _ _ r hr)))
  .simp[Tr.dec]at h
 .exact(GY h).mono fun r hr=>by
   rcases bL.1 hr with hr | hr
   .simp[hr]
   .exact bL.2 (.inr (UM _ _ r hr))
theorem Rk{A:bU}{S S':aP}{d:Option Nat}{site:Nat}{hint:Bool}{u:AV}{β:Bool}{v:AV}(h:(EL A S d site hint u).dec β=some (v,S')):fO (d.toList++u.roots) S S':=by
 unfold EL at h;split at h
 .split at h
  .rename_i m y S1 h1;have f1:fO (d.toList++u.roots) S S1:=(ve _ _ h1).mono fun r hr=>by simp[hr]
   split at h
   .split at h
    .simp only[Tr.dec,aK,aZ]at h;rw[<-h.2];exact f1
    .simp[Tr.dec]at h
   .exact f1.trans ((vV h).mono fun r hr=>by simp[hr])
  .simp[Tr.dec]at h
 .simp[Tr.dec]at h
theorem UH{ρ:Operand->AV}(ps:Array (Nat×Operand)):qk ((ps.toList.map fun p=>(p.1,ρ p.2)).map (·.2))=qk ((ps.toList.map (·.2)).map ρ):=by simp only[BF];rfl
theorem abV{A:bU}{ρ:Operand->AV}{S S':aP}{site:Nat}{hint:Bool}{o:Oper}{W:List Nat}(hw:dN C ρ o=some W){β:Bool}{v:AV}
  (h:(aX C D A ρ S site hint o).dec β=some (v,S')):fO W S S':=by
 have hin:∀{x:Operand},x∈o.op.operands->∀r∈(ρ x).roots,r∈qk (o.op.operands.toList.map ρ):=fun hx r hr=>q9k (eH.2 ⟨_,by simpa using hx,rfl⟩) r hr;cases ho:o.op with
 | assign x=>
  simp only[dN,ho]at hw;simp only[aX,ho]at h;have hx:=hin (x:=x) (by rw[ho];simp[Op.operands]);rw[ho]at hx;cases hv:ρ x with
  | b7 r p s=>
   rw[hv]at hw h hx;simp only[aK]at hw;subst hw;simp only at h;split at h
   .simp only[Tr.dec,aK,aZ]at h;rw[<-h.2];exact fO.refl _ _
   .exact(Rk h).mono fun r hr=>by rcases bL.1 hr with h | h;exact bL.2 (.inl h);exact bL.2 (.inr (hx r h))
  | pair a b=>rw[hv]at hw h hx;simp only[aK]at hw;subst hw;exact(Rk h).mono fun r hr=>by rcases bL.1 hr with h | h;exact bL.2 (.inl h);exact bL.2 (.inr (hx r h))
  | _=>rw[hv]at hw;simp at hw
 | alloc t=>
  simp only[dN,ho,aK]at hw;subst hw;simp only[aX,ho]at h;split at h
  .exact(vV h).mono fun r hr=>by simp[hr]
  .simp[Tr.dec]at h
 | box t x=>
  simp only[dN,ho,aK]at hw;subst hw;have hx:=hin (x:=x) (by rw[ho];simp[Op.operands]);rw[ho]at hx;simp only[aX,ho]at h;split at h
  .split at h
   .rename_i m y S1 h1;have f1:=(ve _ _ h1).mono (W':=o.dst.toList++qk ((Op.box t x).operands.toList.map ρ)) fun r hr=>bL.2 (.inr (hx r hr));split at h
    .split at h
     .exact f1.trans ((vV h).mono fun r hr=>by simp[hr])
     .simp[Tr.dec]at h
    .exact f1.trans ((vV h).mono fun r hr=>by simp[hr])
   .simp[Tr.dec]at h
  .simp[Tr.dec]at h
 | build t ps=>
  simp only[dN,ho]at hw;split at hw
  .simp at hw
  simp only[aK]at hw;subst hw;simp only[aX,ho]at h;split at h
  .split at h
   .rename_i m y S1 h1;have f1:=(QN _ _ h1).mono (W':=o.dst.toList++qk ((Op.build t ps).operands.toList.map ρ)) fun r hr=>by
     rw[UH]at hr;exact bL.2 (.inr (by simpa [Op.operands] using hr))
    exact f1.trans ((vV h).mono fun r hr=>by simp[hr])
   .simp[Tr.dec]at h
  .simp[Tr.dec]at h
 | buildSlice t n ps=>
  simp only[dN,ho,aK]at hw;subst hw;simp only[aX,ho]at h;split at h
  .split at h
   .rename_i m y S1 h1;have f1:=(MM _ _ h1).mono (W':=o.dst.toList++qk ((Op.buildSlice t n ps).operands.toList.map ρ)) fun r hr=>by
     rw[UH]at hr;exact bL.2 (.inr (by simpa [Op.operands] using hr))
    split at h
    .split at h
     .split at h
      .simp only[Tr.dec,aK,aZ]at h;rw[<-h.2];exact f1
      .simp[Tr.dec]at h
     .exact f1.trans ((vV h).mono fun r hr=>by simp[hr])
    .simp[Tr.dec]at h
   .simp[Tr.dec]at h
  .simp[Tr.dec]at h
 | store t x y=>
  simp only[dN,ho,aK]at hw;subst hw;have hx:=hin (x:=x) (by rw[ho];simp[Op.operands]);have hy:=hin (x:=y) (by rw[ho];simp[Op.operands]);rw[ho]at hx hy;simp only[aX,ho]at h;split at h
  .cases hs:Bf S site hint (C.ty t) (ρ x) (ρ y) with
   | none=>rw[hs]at h;simp[Tr.of,Tr.dec]at h
   | some S2=>
    rw[hs]at h;simp only[d7,Tr.of,Tr.dec,aK,aZ]at h;rw[<-h.2];unfold Bf at hs;split at hs
    .rename_i r p hv;simp only[cJ]at hs;obtain⟨⟨m,z,S1⟩,h1,hs⟩:=hs;split at hs
     .simp only[cJ]at hs;obtain⟨dd,_,hs⟩:=hs;split at hs
      .simp only[cJ,aK]at hs;obtain⟨_,_,rfl⟩:=hs;refine((ajE _ _ h1).mono fun r hr=>bL.2 (.inr (hy r hr))).trans ((fO.set _ _ _).mono fun r' hr=>?_);simp only[d6]at hr;subst hr;exact bL.2 (.inr (hx _ (by rw[hv];simp[AV.roots])))
      .simp at hs
     .simp at hs
    .simp at hs
  .simp[Tr.dec]at h
 | makeSlice t x y=>
  simp only[dN,ho,aK]at hw;subst hw;simp only[aX,ho]at h;split at h
  .simp only[Tr.dec]at h;split at h
   .exact(vV h).mono fun r hr=>by simp[hr]
   .simp at h
  .simp[Tr.dec]at h
 | slice t x lo hi mx=>
  simp only[dN,ho,aK]at hw;subst hw;have hx:=hin (x:=x) (by rw[ho];simp[Op.operands]);rw[ho]at hx;cases mx with
  | some _=>simp only[aX,ho,Tr.dec]at h;simp at h
  | none=>
   simp only[aX,ho]at h;unfold uE at h;split at h
   .split at h
    .simp only[Tr.dec]at h;split at h
     .simp only[aK,aZ]at h;rw[<-h.2];exact fO.refl _ _
     .simp at h
    .simp[Tr.dec]at h
   .split at h
    .split at h
     .simp only[Tr.dec]at h;split at h
      .simp only[aK,aZ]at h;rw[<-h.2];exact fO.refl _ _
      .simp at h
     .simp[Tr.dec]at h
    .simp[Tr.dec]at h
   .rename_i r p s e hv hT;split at h
    .split at h
     .rename_i m xs S2 h1;have f1:=(ve _ _ h1).mono (W':=o.dst.toList++qk ((Op.slice t x lo hi none).operands.toList.map ρ)) fun r hr=>bL.2 (.inr (hx r (by rw[hv];exact hr)));split at h
      .split at h
       .simp only[Tr.dec]at h;split at h
        .exact f1.trans ((vV h).mono fun r hr=>by simp[hr])
        .simp at h
       .simp[Tr.dec]at h
      .simp[Tr.dec]at h
     .simp[Tr.dec]at h
    .unfold uL at h;split at h
     .split at h
      .split at h
       .simp only[Tr.dec]at h;split at h
        .simp only[aK,aZ]at h;rw[<-h.2];exact fO.refl _ _
        .simp at h
       .simp[Tr.dec]at h
      .simp[Tr.dec]at h
     .simp[Tr.dec]at h
   .simp[Tr.dec]at h
 | call c=>
  have hargs:∀(a:AV),a∈c.args.toList.map ρ->∀r∈a.roots,r∈qk (o.op.operands.toList.map ρ):=by intro a ha r hr;obtain⟨x,hx,rfl⟩:=eH.1 ha;exact hin (x:=x) (by rw[ho];simp only[Op.operands,Call.operands,sw];right;simpa using hx) r hr
  cases hc:c.callee with
  | builtin b=>
   cases b with
   | append=>
    simp only[dN,ho,hc,aK]at hw;subst hw;rw[ho]at hargs;simp only[aX,ho,hc]at h;split at h<;>try (first | (exfalso;contradiction) | (simp[Tr.dec]at h;done))
    rename_i x0 y0 e e' _ _ hmap _;split at h
    .cases hint with
     | true=>
      simp only[aY]at h;have hx0:=hargs x0 (by rw[hmap];simp);unfold qR at h;split at h
      .split at h
       .split at h
        .split at h
         .split at h
          .simp only[Tr.dec]at h;split at h
           .simp only[aK,aZ]at h;rw[<-h.2];exact(fO.set _ _ _).mono fun r' hr=>by
             simp only[d6]at hr;subst hr;exact bL.2 (.inr (hx0 _ (by simp[AV.roots])))
           .simp at h
          .simp[Tr.dec]at h
         .simp[Tr.dec]at h
        .simp[Tr.dec]at h
       .simp[Tr.dec]at h
      .simp[Tr.dec]at h
     | false=>
     simp only[e8,dV]at h;unfold Dj at h;have hx0:=hargs x0 (by rw[hmap];simp);have hy0:=hargs y0 (by rw[hmap];simp);split at h
     .rename_i m xs S1 h1;split at h
      .rename_i my ys S2 h2;have f1:=((ve _ _ h1).mono (W':=o.dst.toList++qk ((Op.call c).operands.toList.map ρ)) fun r hr=>bL.2 (.inr (hx0 r hr))).trans
        ((ve _ _ h2).mono fun r hr=>bL.2 (.inr (hy0 r hr)))
       split at h
       .split at h
        .simp only[Tr.dec]at h;split at h
         .exact f1.trans ((vV h).mono fun r hr=>by simp[hr])
         .simp at h
        .simp[Tr.dec]at h
       .simp[Tr.dec]at h
      .simp[Tr.dec]at h
     .simp[Tr.dec]at h
    .simp[Tr.dec]at h
   | clear=>simp only[dN,ho,hc,aK]at hw;subst hw;rw[ho]at hargs;simp only[aX,ho,hc]at h;split at h<;>try (first | (exfalso;contradiction) | (simp[Tr.dec]at h;done))
   | copy=>
    simp only[dN,ho,hc,aK]at hw;subst hw;rw[ho]at hargs;simp only[aX,ho,hc]at h;split at h<;>try (first | (exfalso;contradiction) | (simp[Tr.dec]at h;done))
    rename_i x0 y0 e _ _ hmap _;have hx0:=hargs x0 (by rw[hmap];simp);unfold xW at h;split at h
    .split at h
     .split at h
      .split at h
       .split at h
        .split at h
         .simp only[Tr.dec]at h;split at h
          .simp only[aK,aZ]at h;rw[<-h.2];exact(fO.set _ _ _).mono fun r' hr=>by
            simp only[d6]at hr;subst hr;exact bL.2 (.inr (hx0 _ (by simp[AV.roots])))
          .simp only[aK,aZ]at h;rw[<-h.2];exact fO.refl _ _
         .simp[Tr.dec]at h
        .simp[Tr.dec]at h
       .simp[Tr.dec]at h
      .simp[Tr.dec]at h
     .simp[Tr.dec]at h
    .simp[Tr.dec]at h
   | len=>simp[dN,ho,hc]at hw
   | min=>simp[dN,ho,hc]at hw
   | max=>simp[dN,ho,hc]at hw
   | _=>simp only[aX,ho,hc,Tr.dec]at h;simp at h
  | value f=>
   simp only[dN,ho,hc]at hw;simp only[aX,ho,hc]at h;cases hv:ρ f with
   | gE g caps=>
    rw[hv]at hw h;simp only at hw h;split at hw
    .simp only[aK]at hw;subst hw;refine(abO h).mono fun r hr=>?_;rcases bL.1 hr with hr | hr
     .exact bL.2 (.inl hr)
     .refine bL.2 (.inr ?_);rw[qzc]at hr;rcases hr with hr | hr
      .simp only[Op.operands,Call.operands,hc];have:∀l:List AV,∀a,r∈qk l->r∈qk (a::l):=fun l a h=>by simp[qk,h]
       simpa using this _ _ hr
      .have h1:=VL caps r hr;have h2:=hin (x:=f) (by rw[ho];simp[Op.operands,Call.operands,hc]) r (by rw[hv];simpa [AV.roots] using h1);rw[ho]at h2;exact h2
    .rename_i vJ;simp only[qP,af vJ]at h;split at hw
     .simp at hw
     .simp only[aK]at hw;subst hw;exact GY h
   | d9 cl=>rw[hv]at hw;simp at hw
   | _=>rw[hv]at h;simp[Tr.dec]at h
  | invoke r m=>simp only[aX,ho,hc,Tr.dec]at h;simp at h
 | _=>first | (simp[dN,ho]at hw;done) | (simp only[aX,ho,Tr.dec]at h;simp at h)
end
end Go.V
namespace Go.V
noncomputable section
open Go
theorem ny(S:aP)(q:Nat)(x:Option aB)(r:Nat):(S.aG q x).root r=if r=q/\q<S.length then x else S.root r:=by
 simp only[aP.ig,aP.bS,List.getD,jU];by_cases h:q=r
 .subst h;by_cases hl:q<S.length
  .simp[hl]
  .simp[hl]
 .rw[af h,af (fun k=>h k.1.symm)]
theorem J9{F:List Nat}{S T:aP}(hr:gX F S T)(hl:T.length=S.length)(q:Nat)(x:Option aB):gX F (S.aG q x) (T.aG q x):=by intro r h;rw[ny,ny,hl,hr r h]
def Lk{α:Type}(F:List Nat)(X Y:Option (α×aP)):Prop:=∀a S',X=some (a,S')->∃T',Y=some (a,T')/\gX F S' T'/\T'.length=S'.length
theorem Ap{F:List Nat}:∀(t:Ty)(a:AV){S T:aP}{m:Mk}{x:t.den}{S':aP},gX F S T->T.length=S.length->(∀r∈a.roots,r∈F)->tk S t a=some (m,x,S')->
  ∃T',tk T t a=some (m,x,T')/\gX F S' T'/\T'.length=S'.length
 | t,.val t' y,S,T,m,x,S',hr,hl,hF,h=>by
  have e:∀S:aP,tk S t (.val t' y)=(qbv t' t y).bind (fun x=>some (Mk.no,x,S)):=by intro S;cases t<;>simp only[tk]
  rw[e]at h;simp only[cJ,aK,aZ]at h;obtain⟨z,hz,rfl,rfl,rfl⟩:=h;exact⟨T,by rw[e,hz];rfl,hr,hl⟩
 | t,.cD b,S,T,m,x,S',hr,hl,hF,h=>by
  cases t<;>simp[tk]at h;obtain⟨rfl,rfl,rfl⟩:=h;exact⟨T,by simp[tk],hr,hl⟩
 | t,.unit,S,T,m,x,S',hr,hl,hF,h=>by
  cases t<;>simp[tk]at h;obtain⟨rfl,rfl⟩:=h;exact⟨T,by simp[tk],hr,hl⟩
 | t,.fh,S,T,m,x,S',hr,hl,hF,h=>by
  cases t<;>simp[tk]at h;obtain⟨rfl,rfl,rfl⟩:=h;exact⟨T,by simp[tk],hr,hl⟩
 | t,.b7 r p s,S,T,m,x,S',hr,hl,hF,h=>by
  cases t with
  | sl e=>
   have bJ:=hr r (hF r (by simp[AV.roots]));simp only[tk]at h⊢;rw[bJ];cases hR:S.root r with
   | none=>rw[hR]at h;simp at h
   | some R=>
    rw[hR]at h;simp only at h⊢;cases hf:V.focus R.ty R.ms R.x p with
    | none=>rw[hf]at h;simp at h
    | some d=>
     obtain⟨dt,dm,dx⟩:=d;rw[hf]at h;cases dt with
     | sl t2=>
      cases dm with
      | own s' m2=>
       simp only at h⊢;by_cases hs:s=s'
       .rw[aj hs]at h⊢;simp only[cJ,aK,aZ]at h⊢;obtain⟨z,hz,m',hm',rfl,rfl,rfl⟩:=h;exact⟨_,⟨z,hz,m',hm',rfl,rfl,rfl⟩,J9 hr hl _ _,by simp[aP.bS,hl]⟩
       .rw[af hs]at h;simp at h
      | _=>simp at h
     | _=>simp at h
  | _=>simp[tk]at h
 | t,.pair u v,S,T,m,x,S',hr,hl,hF,h=>by
  cases t with
  | pair a b=>simp only[tk,cJ,aK,aZ]at h;obtain⟨⟨m1,x1,S1⟩,h1,⟨m2,x2,S2⟩,h2,rfl,rfl,rfl⟩:=h;obtain⟨T1,k1,k2,k3⟩:=Ap a u hr hl (fun r h=>hF r (by simp[AV.roots,h])) h1;obtain⟨T2,q1,q2,q3⟩:=Ap b v k2 k3 (fun r h=>hF r (by simp[AV.roots,h])) h2;exact⟨T2,by simp only[tk,k1,dw,q1],q2,q3⟩
  | _=>simp[tk]at h
 | t,.undef,S,T,m,x,S',hr,hl,hF,h=>by cases t<;>simp[tk]at h
 | t,.skip,S,T,m,x,S',hr,hl,hF,h=>by cases t<;>simp[tk]at h
 | t,.view _ _ _ _ _,S,T,m,x,S',hr,hl,hF,h=>by cases t<;>simp[tk]at h
 | t,.addr _ _,S,T,m,x,S',hr,hl,hF,h=>by cases t<;>simp[tk]at h
 | t,.b_ _ _,S,T,m,x,S',hr,hl,hF,h=>by cases t<;>simp[tk]at h
 | t,.jF _,S,T,m,x,S',hr,hl,hF,h=>by cases t<;>simp[tk]at h
 | t,.gE _ _,S,T,m,x,S',hr,hl,hF,h=>by cases t<;>simp[tk]at h
 | t,.d9 _,S,T,m,x,S',hr,hl,hF,h=>by cases t<;>simp[tk]at h
theorem yH{F:List Nat}{A:bU}{S T:aP}(hr:gX F S T)(hl:T.length=S.length){d:Option Nat}{site:Nat}{t:Ty}{m:Mk}{x:t.den}{mem:Bool}{β:Bool} :
  Lk F ((dQ A S d site t m x mem).dec β) ((dQ A T d site t m x mem).dec β):=by
 intro v S' h;cases d with
 | none=>simp only[dQ,Tr.dec,aK,aZ]at h⊢;obtain⟨rfl,rfl⟩:=h;exact⟨T,⟨rfl,rfl⟩,hr,hl⟩
 | some d=>
  simp only[dQ,hl]at h⊢;split at h
  .simp[Tr.dec]at h
  .rename_i h1;simp only[h1];split at h
   .rename_i h2;split at h
    .rename_i h3;simp only[Tr.dec,aK,aZ]at h;obtain⟨rfl,rfl⟩:=h;exact⟨_,by simp[h2,h3,Tr.dec],J9 hr hl _ _,by simp[aP.bS,hl]⟩
    .simp[Tr.dec]at h
   .rename_i h2;split at h
    .rename_i h3;simp only[Tr.dec,aK,aZ]at h;obtain⟨rfl,rfl⟩:=h;exact⟨T,by simp[h2,h3,Tr.dec],hr,hl⟩
    .rename_i h3;split at h
     .rename_i h4;simp only[Tr.dec,aK,aZ]at h;obtain⟨rfl,rfl⟩:=h;refine⟨_,?_,J9 hr hl _ _,by simp[aP.bS,hl]⟩;simp only[h2,e8,dV,h3,h4,aY,Tr.dec]
     .simp[Tr.dec]at h
theorem RH{F:List Nat}{T0:Ty}:∀(l:List (Nat×AV))(acc:Mk×T0.den){S T:aP}{m:Mk}{x:T0.den}{S':aP},gX F S T->T.length=S.length->(∀r∈qk (l.map (·.2)),r∈F)->
  oI S T0 acc l=some (m,x,S')->∃T',oI T T0 acc l=some (m,x,T')/\gX F S' T'/\T'.length=S'.length
 | [],acc,S,T,m,x,S',hr,hl,hF,h=>by
  simp only[oI,aK,aZ]at h⊢;obtain⟨rfl,rfl,rfl⟩:=h;exact⟨T,⟨rfl,rfl,rfl⟩,hr,hl⟩
 | (i,v)::l,acc,S,T,m,x,S',hr,hl,hF,h=>by
  simp only[oI,cJ]at h;obtain⟨d,hd,⟨m1,x1,S1⟩,h1,r,h3,h2⟩:=h;obtain⟨T1,k1,k2,k3⟩:=Ap _ v hr hl (fun r h=>hF r (by simp[qk,h])) h1;obtain⟨T2,q1,q2,q3⟩:=RH l _ k2 k3 (fun r h=>hF r (by simp only[cr,qk,bL];exact .inr h)) h2;refine⟨T2,?_,q2,q3⟩;simp only[oI,cJ];exact⟨d,hd,(m1,x1,T1),k1,r,h3,q1⟩
theorem NG{F:List Nat}{e:Ty}:∀(l:List (Nat×AV))(acc:Mk×List e.den){S T:aP}{m:Mk}{x:List e.den}{S':aP},gX F S T->T.length=S.length->(∀r∈qk (l.map (·.2)),r∈F)->
  tF S e acc l=some (m,x,S')->∃T',tF T e acc l=some (m,x,T')/\gX F S' T'/\T'.length=S'.length
 | [],acc,S,T,m,x,S',hr,hl,hF,h=>by
  simp only[tF,aK,aZ]at h⊢;obtain⟨rfl,rfl,rfl⟩:=h;exact⟨T,⟨rfl,rfl,rfl⟩,hr,hl⟩
 | (i,v)::l,acc,S,T,m,x,S',hr,hl,hF,h=>by
  simp only[tF]at h⊢;split at h
  .rename_i hi;simp only[cJ]at h;obtain⟨⟨m1,x1,S1⟩,h1,h2⟩:=h;obtain⟨T1,k1,k2,k3⟩:=Ap _ v hr hl (fun r h=>hF r (by simp[qk,h])) h1;obtain⟨T2,q1,q2,q3⟩:=NG l _ k2 k3 (fun r h=>hF r (by simp only[cr,qk,bL];exact .inr h)) h2;refine⟨T2,?_,q2,q3⟩;rw[aj hi];simp only[cJ];exact⟨(m1,x1,T1),k1,q1⟩
  .simp at h
theorem abx{F:List Nat}{A:bU}{S T:aP}(hr:gX F S T)(hl:T.length=S.length){d:Option Nat}{site:Nat}{t:Ty}{x y:AV}(hx:∀r∈x.roots,r∈F)(hy:∀r∈y.roots,r∈F){β:Bool} :
  Lk F ((Dj A S d site t x y).dec β) ((Dj A T d site t x y).dec β):=by
 intro v S' h;unfold Dj at h⊢;cases h1:tk S (.sl t) x with
 | none=>rw[h1]at h;simp[Tr.dec]at h
 | some z=>
  obtain⟨m1,xs,S1⟩:=z;obtain⟨T1,k1,k2,k3⟩:=Ap _ x hr hl hx h1;rw[h1]at h;rw[k1];cases m1 with
  | own s m=>
   simp only at h⊢;cases h2:tk S1 (.sl t) y with
   | none=>rw[h2]at h;simp[Tr.dec]at h
   | some z=>
    obtain⟨my,ys,S2⟩:=z;obtain⟨T2,q1,q2,q3⟩:=Ap _ y k2 k3 hy h2;rw[h2]at h;rw[q1];simp only at h⊢;cases hm:pV my with
    | none=>rw[hm]at h;simp[Tr.dec]at h
    | some m'=>
     rw[hm]at h;simp only at h⊢;split at h
     .rename_i h3;rw[aj h3];simp only[Tr.dec]at h⊢;split at h
      .exact yH q2 q3 v S' h
      .simp at h
     .simp[Tr.dec]at h
  | _=>simp[Tr.dec]at h
theorem aj0{F:List Nat}{S T:aP}(hr:gX F S T)(hl:T.length=S.length){t:Ty}{x y:AV}(hx:∀r∈x.roots,r∈F){β:Bool} :
  Lk F ((qR S t x y).dec β) ((qR T t x y).dec β):=by
 intro v S' h;unfold qR at h⊢;split at h
 .rename_i r p s t2 ys;have bJ:=hr r (hx r (by simp[AV.roots]))
  try simp only
  rw[bJ];cases hR:S.root r with
  | none=>rw[hR]at h;simp[Tr.dec]at h
  | some R=>
   rw[hR]at h;simp only at h⊢;split at h
   .rename_i t' s' m xs hf;split at h
    .rename_i hc;rw[aj hc];split at h
     .rename_i a b r' e1 e2 e3;simp only[Tr.dec]at h⊢;split at h
      .simp only[aK,aZ]at h;obtain⟨rfl,rfl⟩:=h;exact⟨_,rfl,J9 hr hl _ _,by simp[aP.bS,hl]⟩
      .simp at h
     .simp[Tr.dec]at h
    .simp[Tr.dec]at h
   .simp[Tr.dec]at h
 .simp[Tr.dec]at h
theorem adf{F:List Nat}{A:bU}{S T:aP}(hr:gX F S T)(hl:T.length=S.length){U:Ty}{d:Option Nat}{site:Nat}{x:AV}{lo hi:Option AV}(hx:∀r∈x.roots,r∈F){β:Bool} :
  Lk F ((uE A S U d site x lo hi).dec β) ((uE A T U d site x lo hi).dec β):=by
 intro v S' h;unfold uE at h⊢;split at h
 .split at h
  .simp only[Tr.dec]at h⊢;split at h
   .simp only[aK,aZ]at h;obtain⟨rfl,rfl⟩:=h;rename_i hc;exact⟨T,by simp[hc],hr,hl⟩
   .simp at h
  .simp[Tr.dec]at h
 .split at h
  .split at h
   .rename_i hc;simp only[Tr.dec]at h⊢;rw[aj hc];split at h
    .simp only[aK,aZ]at h;obtain⟨rfl,rfl⟩:=h;rename_i hc;exact⟨T,by simp[Tr.dec,hc],hr,hl⟩
    .simp at h
   .simp[Tr.dec]at h
  .simp[Tr.dec]at h
 .rename_i r p s e;split at h
  .cases h1:tk S (.sl e) (.b7 r p s) with
   | none=>rw[h1]at h;simp[Tr.dec]at h
   | some z=>
    obtain⟨m1,xs,S1⟩:=z;obtain⟨T1,k1,k2,k3⟩:=Ap _ _ hr hl hx h1;rw[h1]at h;simp only[k1];cases m1 with
    | own s m=>
     simp only at h⊢;split at h
     .split at h
      .rename_i hc;rw[aj hc];simp only[Tr.dec]at h⊢;split at h
       .rename_i hd
        try simp only[hd]
        exact yH k2 k3 v S' h
       .simp at h
      .simp[Tr.dec]at h
     .simp[Tr.dec]at h
    | _=>simp[Tr.dec]at h
  .unfold uL at h⊢;have hf:=BW hr (hx r (by simp[AV.roots])) p;rw[hf];split at h
   .split at h
    .rename_i hq
     try simp only[hq]
     split at h
     .rename_i hc;rw[aj hc];simp only[Tr.dec]at h⊢;split at h
      .simp only[aK,aZ]at h;obtain⟨rfl,rfl⟩:=h;rename_i hd;exact⟨T,by simp[hd],hr,hl⟩
      .simp at h
     .simp[Tr.dec]at h
    .simp[Tr.dec]at h
   .simp[Tr.dec]at h
 .simp[Tr.dec]at h
theorem NF{F:List Nat}{A:bU}{S T:aP}(hr:gX F S T)(hl:T.length=S.length){d:Option Nat}{site:Nat}:∀(rs:List RK)(r:f5 rs){β:Bool},Lk F ((mu A S d site rs r).dec β) ((mu A T d site rs r).dec β)
 | [],r,β=>by
  intro v S' h;simp only[mu,Tr.dec,aK,aZ]at h⊢;obtain⟨rfl,rfl⟩:=h;exact⟨T,⟨rfl,rfl⟩,hr,hl⟩
 | [.val t m],r,β=>by
  intro v S' h;simp only[mu]at h⊢;split at h
  .rename_i hs;rw[aj hs];split at h
   .rename_i hc;rw[aj hc];simp only[Tr.dec,aK,aZ]at h⊢;obtain⟨rfl,rfl⟩:=h;exact⟨T,⟨rfl,rfl⟩,hr,hl⟩
   .simp[Tr.dec]at h
  .rename_i hs;rw[af hs];split at h
   .rename_i hc;rw[aj hc];exact yH hr hl v S' h
   .simp[Tr.dec]at h
 | [.ptr t m],r,β=>by
  intro v S' h;simp only[mu]at h⊢;split at h
  .rename_i hc;rw[aj hc];exact yH hr hl v S' h
  .simp[Tr.dec]at h
 | q1::q2::rs,r,β=>by
  intro v S' h;have e:∀S:aP,mu A S d site (q1::q2::rs) r=Ca A S d site (q1::q2::rs) r:=by intro S;cases q1<;>simp only[mu]
  rw[e]at h⊢;unfold Ca at h⊢;split at h
  .rename_i hc;rw[aj hc];cases d with
   | none=>simp only[Tr.dec,aK,aZ]at h⊢;obtain⟨rfl,rfl⟩:=h;exact⟨T,⟨rfl,rfl⟩,hr,hl⟩
   | some d=>
    simp only at h⊢;cases hL:dQ A S (some d) site (jo (q1::q2::rs)) (pQ (q1::q2::rs)) (kg (q1::q2::rs) r) false with
    | ret z=>
     obtain⟨v1,S1⟩:=z;rw[hL]at h;simp only[Tr.dec,aK,aZ]at h;obtain⟨rfl,rfl⟩:=h;obtain⟨T1,k1,k2,k3⟩:=yH (A:=A) (d:=some d) (site:=site) (t:=jo (q1::q2::rs)) (m:=pQ (q1::q2::rs)) (x:=kg (q1::q2::rs) r) (mem:=false) (β:=true) hr hl v1 S1 (by rw[hL];rfl);cases hM:dQ A T (some d) site (jo (q1::q2::rs)) (pQ (q1::q2::rs)) (kg (q1::q2::rs) r) false with
     | ret z=>obtain⟨v2,S2⟩:=z;rw[hM]at k1;simp only[Tr.dec,aK,aZ]at k1;obtain⟨rfl,rfl⟩:=k1;exact⟨_,rfl,k2,k3⟩
     | fail=>rw[hM]at k1;simp[Tr.dec]at k1
     | _=>
      exfalso;simp only[dQ]at hM
      repeat' split at hM
      all_goals simp at hM
    | _=>rw[hL]at h;simp[Tr.dec]at h
  .simp[Tr.dec]at h
section
variable {C:Ctx} {D:Den C}
theorem uC{S T:aP}:∀(ks:List PK)(aI:List AV),ks.all PK.loc=true->fX T ks aI=(fX S ks aI).map fun z=>(z.1,T)
 | [],[],_=>rfl
 | [],_::_,_=>rfl
 | k::ks,[],_=>by cases k<;>rfl
 | k::ks,a::aI,h=>by
  simp only[gT,bH]at h;cases k with
  | val t=>simp only[fX];exact uC ks aI h.2
  | cj t=>simp only[fX];exact uC ks aI h.2
  | cw t m m'=>simp only[fX];exact uC ks aI h.2
  | fn=>simp only[fX];exact uC ks aI h.2
  | _=>simp[PK.loc]at h
theorem akG{S rt:aP}{ks:List PK}{aI:List AV}{g:jq ks}(hp:ks.all PK.loc=true)(h:fX S ks aI=some (g,rt)):rt=S:=by have:=uC (S:=S) (T:=S) ks aI hp;rw[h]at this;simp only[d7,aK,aZ,true_and]at this;exact this
theorem xK{F:List Nat}:∀(ks:List PK)(aI:List AV){S T:aP}{o:dy ks}{S':aP},gX F S T->T.length=S.length->ks.all PK.loc=true->(∀r∈qk aI,r∈F)->gB S ks aI=some (o,S')->
  ∃T',gB T ks aI=some (o,T')/\gX F S' T'/\T'.length=S'.length
 | [],[],S,T,o,S',hr,hl,_,_,h=>by
  simp only[gB,aK,aZ]at h;obtain⟨_,rfl⟩:=h;exact⟨T,rfl,hr,hl⟩
 | [],_::_,S,T,o,S',hr,hl,_,_,h=>by simp[gB]at h
 | k::ks,[],S,T,o,S',hr,hl,_,_,h=>by cases k<;>simp[gB]at h
 | k::ks,a::aI,S,T,o,S',hr,hl,hp,hF,h=>by
  simp only[gT,bH]at hp;have tX:∀r∈qk aI,r∈F:=fun r h=>hF r (by simp[qk,h]);cases k with
  | val t=>simp only[gB]at h⊢;exact xK ks aI hr hl hp.2 tX h
  | cj t=>simp only[gB]at h⊢;exact xK ks aI hr hl hp.2 tX h
  | fn=>simp only[gB]at h⊢;exact xK ks aI hr hl hp.2 tX h
  | cw t m m'=>
   cases a with
   | addr q p=>
    cases p with
    | nil=>
     have hq:=hr q (hF q (by simp[qk,AV.roots]));simp only[gB]at h⊢;rw[hq];cases hR:S.root q with
     | none=>rw[hR]at h;simp at h
     | some R=>
      rw[hR]at h;simp only at h⊢;split at h
      .rename_i hc;rw[aj hc];simp only[cJ,aK,aZ]at h⊢;obtain⟨x,hx,⟨o2,S2⟩,h2,rfl,rfl⟩:=h;obtain⟨T2,q1,q2,q3⟩:=xK ks aI (J9 hr hl q none) (by simp[aP.bS,hl]) hp.2 tX h2;exact⟨T2,⟨x,hx,(o2,T2),q1,rfl,rfl⟩,q2,q3⟩
      .simp at h
    | cons _ _=>simp[gB]at h
   | _=>simp[gB]at h
  | _=>simp[PK.loc]at hp
theorem xR{F:List Nat}{site:Nat}:∀(ks:List PK)(aI:List AV)(o:dy ks){S T:aP}{S':aP},gX F S T->T.length=S.length->ks.all PK.loc=true->ga S site ks aI o=some S'->
  ∃T',ga T site ks aI o=some T'/\gX F S' T'/\T'.length=S'.length
 | [],[],o,S,T,S',hr,hl,_,h=>by
  simp only[ga,aK]at h;subst h;exact⟨T,rfl,hr,hl⟩
 | [],_::_,o,S,T,S',hr,hl,_,h=>by simp[ga]at h
 | k::ks,[],o,S,T,S',hr,hl,_,h=>by cases k<;>simp[ga]at h
 | k::ks,a::aI,o,S,T,S',hr,hl,hp,h=>by
  simp only[gT,bH]at hp;cases k with
  | val t=>simp only[ga]at h⊢;exact xR ks aI o hr hl hp.2 h
  | cj t=>simp only[ga]at h⊢;exact xR ks aI o hr hl hp.2 h
  | fn=>simp only[ga]at h⊢;exact xR ks aI o hr hl hp.2 h
  | cw t m m'=>
   cases a with
   | addr q p=>
    cases p with
    | nil=>
     simp only[ga]at h⊢;split at h
     .rename_i hc;rw[aj hc];exact xR ks aI o.2 (J9 hr hl q _) (by simp[aP.bS,hl]) hp.2 h
     .simp at h
    | cons _ _=>simp[ga]at h
   | _=>simp[ga]at h
  | _=>simp[PK.loc]at hp
theorem MR{F:List Nat}{A:bU}{S T:aP}(hr:gX F S T)(hl:T.length=S.length){d:Option Nat}{site:Nat}{g:FuncId}{aI:List AV}(hp:(C.sig g).params.all PK.loc=true)(has:∀r∈qk aI,r∈F){β:Bool} :
  Lk F ((rY C D A S d site g aI).dec β) ((rY C D A T d site g aI).dec β):=by
 intro v S' h;unfold rY at h⊢;rw[uC (S:=S) (T:=T) _ _ hp];cases h1:fX S (C.sig g).params aI with
 | none=>rw[h1]at h;simp[Tr.dec]at h
 | some z=>
  obtain⟨gd,S1⟩:=z;obtain rfl:=akG hp h1;rw[h1]at h;simp only[d7]at h⊢;cases h2:gB S1 (C.sig g).params aI with
  | none=>rw[h2]at h;simp[Tr.dec]at h
  | some z=>
   obtain⟨od,S2⟩:=z;obtain⟨T2,k1,k2,k3⟩:=xK _ _ hr hl hp has h2;rw[h2]at h;simp only[k1]at h⊢;rw[zq _ _ _ _ (k2.sub has)];cases h3:jh S2 (C.sig g).params aI gd od with
   | none=>rw[h3]at h;simp[Tr.dec]at h
   | some aa=>
    rw[h3]at h;simp only at h⊢;split at h
    .rename_i hc;rw[aj hc];simp only[Tr.dec]at h⊢;cases hD:D g aa with
     | none=>rw[hD]at h;simp at h
     | some rr=>
      rw[hD]at h;simp only[dw]at h⊢;split at h
      .rename_i hn;rw[aj hn];exact NF hr hl _ _ v S' h
      .rename_i hn;rw[af hn];split at h
       .rename_i hfr;rw[aj hfr];simp only[Tr.dec]at h⊢;split at h
        .rename_i hlo;cases ho:ga S1 site (C.sig g).params aI rr.2 with
         | none=>rw[ho]at h;simp[Tr.dec]at h
         | some S3=>obtain⟨T3,q1,q2,q3⟩:=xR _ _ _ hr hl hp ho;rw[ho]at h;simp only at h;obtain⟨T',r1,r2,r3⟩:=NF q2 q3 _ _ v S' h;exact⟨T',by rw[q1];exact r1,r2,r3⟩
        .simp at h
       .simp[Tr.dec]at h
    .simp[Tr.dec]at h
theorem G_{F:List Nat}:∀(ks:List PK)(aI:List AV){S T:aP}{z:List AV}{S':aP},gX F S T->T.length=S.length->(∀r∈qk aI,r∈F)->k_ S ks aI=some (z,S')->
  ∃T',k_ T ks aI=some (z,T')/\gX F S' T'/\T'.length=S'.length/\∀r∈qk z,r∈F
 | [],[],S,T,z,S',hr,hl,hF,h=>by
  simp only[k_,aK,aZ]at h;obtain⟨rfl,rfl⟩:=h;exact⟨T,rfl,hr,hl,hF⟩
 | [],_::_,S,T,z,S',hr,hl,hF,h=>by simp[k_]at h
 | k::ks,[],S,T,z,S',hr,hl,hF,h=>by cases k<;>simp[k_]at h
 | k::ks,a::aI,S,T,z,S',hr,hl,hF,h=>by
  have hFa:∀r∈a.roots,r∈F:=fun r hr=>hF r (by simp[qk,hr]);have pZ:∀r∈qk aI,r∈F:=fun r hr=>hF r (by simp[qk,hr]);have plain:(k_ S ks aI).map (fun z=>(a::z.1,z.2))=some (z,S')->∃T',(k_ T ks aI).map (fun z=>(a::z.1,z.2))=some (z,T')/\gX F S' T'/\T'.length=S'.length/\∀r∈qk z,r∈F:=by
   intro h;simp only[fk,aZ]at h;obtain⟨⟨z1,S1⟩,h1,rfl,rfl⟩:=h;obtain⟨T1,e1,e2,e3,e4⟩:=G_ ks aI hr hl pZ h1;refine⟨T1,by rw[e1];rfl,e2,e3,fun r hr=>?_⟩;simp only[qk,bL]at hr;rcases hr with hr | hr
   .exact hFa r hr
   .exact e4 r hr
  cases k with
  | val t=>
   simp only[k_]at h⊢;split at h
   .rename_i hs;rw[aj hs];exact plain h
   .rename_i hs;rw[af hs];cases h1:tk S t a with
    | none=>rw[h1]at h;simp at h
    | some q=>
     obtain⟨m,y,S1⟩:=q;obtain⟨T1,k1,k2,k3⟩:=Ap _ _ hr hl hFa h1;rw[h1]at h;rw[k1];simp only at h⊢;split at h
     .rename_i hm;rw[aj hm];simp only[fk,aZ]at h;obtain⟨⟨z1,S2⟩,h2,rfl,rfl⟩:=h;obtain⟨T2,e1,e2,e3,e4⟩:=G_ ks aI k2 k3 pZ h2;refine⟨T2,by rw[e1];rfl,e2,e3,fun r hr=>?_⟩;simp only[qk,bL,AV.roots,c_,false_or]at hr;exact e4 r hr
     .simp at h
  | _=>simp only[k_]at h⊢;exact plain h
theorem akT{F:List Nat}{A:bU}{ρ:Operand->AV}{S T:aP}(hr:gX F S T)(hl:T.length=S.length){site:Nat}{hint:Bool}{o:Oper}(hlc:vk C ρ o=true)
  (hF:∀r∈qk (o.op.operands.toList.map ρ),r∈F) {β:Bool}:Lk F ((aX C D A ρ S site hint o).dec β) ((aX C D A ρ T site hint o).dec β):=by
 have hin:∀{x:Operand},x∈o.op.operands->∀r∈(ρ x).roots,r∈F:=fun hx r hr=>hF r (q9k (eH.2 ⟨_,by simpa using hx,rfl⟩) r hr);intro v S' h;cases ho:o.op with
 | alloc t=>
  simp only[aX,ho]at h⊢;split at h
  .rename_i hc;rw[aj hc];exact yH hr hl v S' h
  .simp[Tr.dec]at h
 | box t x=>
  have hx:=hin (x:=x) (by rw[ho];simp[Op.operands]);simp only[aX,ho]at h⊢;split at h
  .rename_i hc;rw[aj hc];cases h1:tk S (C.ty t) (ρ x) with
   | none=>rw[h1]at h;simp[Tr.dec]at h
   | some z=>
    obtain⟨m,y,S1⟩:=z;obtain⟨T1,k1,k2,k3⟩:=Ap _ _ hr hl hx h1;rw[h1]at h;rw[k1];simp only at h⊢;split at h
    .rename_i hh;rw[aj hh];split at h
     .rename_i hm;rw[aj hm];exact yH k2 k3 v S' h
     .simp[Tr.dec]at h
    .rename_i hh;rw[af hh];exact yH k2 k3 v S' h
  .simp[Tr.dec]at h
 | build t ps=>
  simp only[aX,ho]at h⊢;split at h
  .rename_i hc;rw[aj hc];cases h1:oI S (C.ty t) (Mk.zM hint (C.ty t),(C.ty t).zero) (ps.toList.map fun p=>(p.1,ρ p.2)) with
   | none=>rw[h1]at h;simp[Tr.dec]at h
   | some z=>obtain⟨m,y,S1⟩:=z;obtain⟨T1,k1,k2,k3⟩:=RH _ _ hr hl (fun r hr=>by rw[UH]at hr;exact hF r (by rw[ho];simpa [Op.operands] using hr)) h1;rw[h1]at h;rw[k1];exact yH k2 k3 v S' h
  .simp[Tr.dec]at h
 | buildSlice t n ps=>
  simp only[aX,ho]at h⊢;split at h
  .rename_i e he;cases h1:tF S e (Mk.top e,List.replicate n e.zero) (ps.toList.map fun p=>(p.1,ρ p.2)) with
   | none=>rw[h1]at h;simp[Tr.dec]at h
   | some z=>
    obtain⟨m,y,S1⟩:=z;obtain⟨T1,k1,k2,k3⟩:=NG _ _ hr hl (fun r hr=>by rw[UH]at hr;exact hF r (by rw[ho];simpa [Op.operands] using hr)) h1;rw[h1]at h;simp only[k1];simp only at h;split at h
    .rename_i hc;rw[aj hc];split at h
     .rename_i hh;rw[aj hh];split at h
      .rename_i hm;rw[aj hm];simp only[Tr.dec,aK,aZ]at h⊢;obtain⟨rfl,rfl⟩:=h;exact⟨T1,⟨rfl,rfl⟩,k2,k3⟩
      .simp[Tr.dec]at h
     .rename_i hh;rw[af hh];exact yH k2 k3 v S' h
    .simp[Tr.dec]at h
  .simp[Tr.dec]at h
 | makeSlice t x y=>
  simp only[aX,ho]at h⊢;split at h
  .simp only[Tr.dec]at h⊢;split at h
   .rename_i hc
    try simp only[hc]
    exact yH hr hl v S' h
   .simp at h
  .simp[Tr.dec]at h
 | slice t x lo hi mx=>
  cases mx with
  | none=>have hx:=hin (x:=x) (by rw[ho];simp[Op.operands]);simp only[aX,ho]at h⊢;exact adf hr hl hx v S' h
  | some _=>simp[vk,ho]at hlc
 | call c=>
  simp only[vk,ho]at hlc;cases hc:c.callee with
  | builtin b=>
   rw[hc]at hlc;cases b<;>simp only[e8]at hlc;have hargs:∀x∈c.args,∀r∈(ρ x).roots,r∈F:=fun x hx=>hin (by rw[ho];simp only[Op.operands,Call.operands,sw];right;simpa using hx);simp only[aX,ho,hc]at h⊢;split at h
   .exact Builtin.noConfusion ‹Builtin.append=Builtin.len›
   .exact Builtin.noConfusion ‹Builtin.append=Builtin.len›
   .rename_i x y t t' ts e1 e2 e3;have hm:∀z∈c.args.toList.map ρ,∀r∈z.roots,r∈F:=by intro z hz;obtain⟨w,hw,rfl⟩:=eH.1 hz;exact hargs w (by simpa using hw)
    rw[e2]at hm
    try simp only[e2,e3]
    split at h
    .rename_i ht;rw[aj ht];split at h
     .rename_i hh;rw[aj hh];exact aj0 hr hl (hm x (by simp)) v S' h
     .rename_i hh;rw[af hh];exact abx hr hl (hm x (by simp)) (hm y (by simp)) v S' h
    .simp[Tr.dec]at h
   .exact Builtin.noConfusion ‹Builtin.append=Builtin.clear›
   .exact Builtin.noConfusion ‹Builtin.append=Builtin.copy›
   .exact Builtin.noConfusion ‹Builtin.append=Builtin.min›
   .exact Builtin.noConfusion ‹Builtin.append=Builtin.max›
   .simp[Tr.dec]at h
  | value f=>
   rw[hc]at hlc;simp only at hlc;cases hf:ρ f with
   | gE g caps=>
    rw[hf]at hlc;simp only at hlc;have hall:∀r∈qk (c.args.toList.map ρ++mY caps),r∈F:=?_
    .simp only[aX,ho,hc,hf,qP]at h⊢;split at h
     .rename_i vJ;rw[aj vJ];cases h1:k_ S (C.sig g).params (c.args.toList.map ρ++mY caps) with
      | none=>rw[h1]at h;simp[Tr.dec]at h
      | some q=>obtain⟨z1,S1⟩:=q;obtain⟨T1,e1,e2,e3,e4⟩:=G_ _ _ hr hl hall h1;rw[h1]at h;rw[e1];exact MR e2 e3 hlc e4 v S' h
     .rename_i vJ;rw[af vJ];exact MR hr hl hlc hall v S' h
    intro r hr;rw[qzc]at hr;rcases hr with hr | hr
    .refine hF r ?_;rw[ho];simp only[Op.operands,Call.operands,hc];have:∀l:List AV,∀a,r∈qk l->r∈qk (a::l):=fun l a h=>by simp[qk,h]
     simpa using this _ _ hr
    .have:=VL caps r hr;exact hin (x:=f) (by rw[ho];simp[Op.operands,Call.operands,hc]) r (by rw[hf];simpa [AV.roots] using this)
   | _=>rw[hf]at hlc;simp at hlc
  | invoke r m=>rw[hc]at hlc;simp at hlc
 | _=>simp[vk,ho]at hlc
end
end
end Go.V
namespace Go.V
noncomputable section
open Go
theorem Jm{d:Nat}:∀(v:AV),d∉v.roots->v.gG d=true
 | .addr r p,h=>by
  simp only[AV.roots,d6]at h;simp only[AV.gG,jy,kr];left;cases hb:Nat.beq r d with
  | false=>rfl
  | true=>exact absurd (mR hb).symm h
 | .pair a b,h=>by
  simp only[AV.roots,bL,n6]at h;simp only[AV.gG,bH];exact⟨Jm a h.1,Jm b h.2⟩
 | .jF a,h=>Jm a h
 | .gE _ a,h=>Jm a h
 | .undef,_=>rfl
 | .skip,_=>rfl
 | .cD _,_=>rfl
 | .unit,_=>rfl
 | .fh,_=>rfl
 | .val _ _,_=>rfl
 | .b7 _ _ _,_=>rfl
 | .view _ _ _ _ _,_=>rfl
 | .b_ _ _,_=>rfl
 | .d9 _,_=>rfl
theorem HX{s s':Nat}(h:s≠s'):(!(Nat.ble s s'&&Nat.blt s' (s+1)))=true:=by
 cases h1:Nat.ble s s' with
 | false=>rfl
 | true=>
  cases h2:Nat.blt s' (s+1) with
  | false=>rfl
  | true=>have a:=rI h1;have b:s'+1<=s+1:=rI h2;omega
theorem TJ{s:Nat}:∀(p:Path),s∉Da p->jD s (s+1) p=true
 | [],_=>rfl
 | x::p,h=>by
  cases x with
  | idx i s'=>simp only[Da,bk,n6]at h;simp only[jD,bH];exact⟨HX h.1,TJ p h.2⟩
  | _=>exact TJ p (by simpa [Da] using h)
theorem J3{s:Nat}:∀(v:AV),s∉v.stamps->v.aR s (s+1)=true
 | .addr r p,h=>TJ p h
 | .b7 r p s',h=>by
  simp only[AV.stamps,bk,n6]at h;simp only[AV.aR,bH];exact⟨HX h.1,TJ p h.2⟩
 | .view r p s' _ _,h=>by
  simp only[AV.stamps,bk,n6]at h;simp only[AV.aR,bH];exact⟨HX h.1,TJ p h.2⟩
 | .pair a b,h=>by
  simp only[AV.stamps,bL,n6]at h;simp only[AV.aR,bH];exact⟨J3 a h.1,J3 b h.2⟩
 | .jF a,h=>J3 a h
 | .gE _ a,h=>J3 a h
 | .undef,_=>rfl
 | .skip,_=>rfl
 | .cD _,_=>rfl
 | .unit,_=>rfl
 | .fh,_=>rfl
 | .val _ _,_=>rfl
 | .b_ _ _,_=>rfl
 | .d9 _,_=>rfl
theorem pL:∀{l l':List Nat},i_ l l'=true->∀x∈l,x∉l'
 | [],_,_,x,hx=>by simp at hx
 | a::l,l',h,x,hx=>by
  simp only[i_,bH,kr]at h;rcases bk.1 hx with rfl | hx
  .intro hh;have:=h.1;simp at this;exact this hh
  .exact pL h.2 x hx
theorem TI{S:St}{u r:Nat}:∀{ts:List Nat},u∈ts->r∈(S.get u).roots->r∈dR S ts
 | [],h,_=>by simp at h
 | t::ts,h,hr=>by
  simp only[dR,bL];rcases bk.1 h with rfl | h
  .exact .inl hr
  .exact .inr (TI h hr)
theorem TE{S:St}{u r:Nat}:∀{ts:List Nat},u∈ts->r∈(S.get u).stamps->r∈cS S ts
 | [],h,_=>by simp at h
 | t::ts,h,hr=>by
  simp only[cS,bL];rcases bk.1 h with rfl | h
  .exact .inl hr
  .exact .inr (TE h hr)
theorem ZG{S T:St}:∀{ts:List Nat},(∀u∈ts,T.get u=S.get u)->dR T ts=dR S ts
 | [],_=>rfl
 | t::ts,h=>by simp only[dR];rw[h t eW,ZG fun u hu=>h u (cB _ hu)]
theorem Y0{S T:St}:∀{ts:List Nat},(∀u∈ts,T.get u=S.get u)->cS T ts=cS S ts
 | [],_=>rfl
 | t::ts,h=>by simp only[cS];rw[h t eW,Y0 fun u hu=>h u (cB _ hu)]
theorem NK{S T:St}(hl:T.sl.length=S.sl.length)(hg:∀u,T.get u=S.get u)(hr:T.rt=S.rt):T=S:=by
 obtain⟨a,b⟩:=S;obtain⟨c,d⟩:=T;simp only at hl hr;subst hr;have:c=a:=by apply x_ hl;intro i h1 h2;have:=hg i;simp only[St.get_eq,List.getD,gP h1,gP h2,uF]at this;exact this
 rw[this]
section
variable {C:Ctx} {D:Den C} {hints:Hints} {id:Nat} {ops:Array Oper}
theorem HK{S T:St}{y:Oper}(h:∀u∈zH ops y,T.get u=S.get u):∀x∈y.op.operands,ev T x=ev S x:=by
 intro x hx;cases x with
 | tmp t=>
  simp only[ev];rw[h t (by
   unfold zH;rw[bL];right;rw[List.mem_filterMap];exact⟨.tmp t,by simpa using hx,rfl⟩)]
 | _=>rfl
theorem Qc{S T:St}{y:Oper}(h:∀u∈zH ops y,T.get u=S.get u):n9 ops T y=n9 ops S y:=by
 unfold n9;cases hg:y.guard with
 | none=>rfl
 | some jb=>obtain⟨j,b⟩:=jb;simp only;rw[h (lz ops j) (by unfold zH;rw[hg];simp)]
theorem He{S T:St}{j site:Nat}{y:Oper}{v:AV}{a b:aP}(hr:dN C (ev S) y=none\/(T.rt=S.rt/\a=b)\/vk C (ev S) y=true)(hk:∀u∈zH ops y,T.get u=S.get u)(ho:∀u∈jC ops j y,T.get u=S.get u):jE C ops T site j y v a=jE C ops S site j y v b:=by
 have he:=HK hk;have hv:uB T y=uB S y:=by unfold uB;exact rK fun x hx=>he x (by simpa using hx)
 unfold jE;have hld:ur C (ev T) y v=ur C (ev S) y v:=by
  unfold ur;split
  .rename_i t x hop;rw[he x (by rw[hop];simp[Op.operands])]
  .rename_i t x f hop;rw[he x (by rw[hop];simp[Op.operands])]
  .rfl
 rw[hv,ZG ho,Y0 ho,adp (C:=C) y he,ab3 (C:=C) y he,hld];rcases hr with h | ⟨h1,h2⟩ | h
 .rw[h]
 .rw[h1,h2]
 .rw[h];cases dN C (ev S) y<;>rfl
theorem acq{S T:St}{j site:Nat}{y:Oper}(ho:∀u∈jC ops j y,T.get u=S.get u):oM ops T site j y=oM ops S site j y:=by unfold oM;rw[ZG ho,Y0 ho]
theorem AP{S T:St}{rt rt':aP}{j:Nat}{y:Oper}{v:AV}(hl:T.sl.length=S.sl.length)(ho:∀u∈jC ops j y,T.get u=S.get u):∀u∈jC ops j y,(fin ops ⟨T.sl,rt⟩ j y v).get u=(fin ops ⟨S.sl,rt'⟩ j y v).get u:=by
 intro u hu;rw[zE,zE];simp only[hl];have:=ho u hu;by_cases h1:y.dst=some u/\u<S.sl.length
 .rw[aj h1,aj h1]
 .rw[af h1,af h1];by_cases h2:u∈sK ops j y
  .rw[aj h2,aj h2]
  .rw[af h2,af h2];exact this
theorem GM{S:St}{A:bU}{site:Nat}{hint:Bool}{y:Oper}(hw:dN C (ev S) y=none){T:St}{A':bU}(hrl:T.rt.length=S.rt.length)
  (hr:gX (if rW y then [] else qk (uB S y)) S.rt T.rt) {β:Bool} {v:AV} {rt':aP} (h:(aX C D A (ev S) S.rt site hint y).dec β=some (v,rt')):rt'=S.rt/\(aX C D A' (ev S) T.rt site hint y).dec β=some (v,T.rt):=
 ack (A:=A) (A':=A') hrl hw hr β v rt' h
def EX(e:jH)(S T:aP):Prop:=gX e.rd S T\/e.bl=true\/∃l,e.ld=some l/\l.1 T=some l.2
theorem ab2{S T:St}{A A':bU}{site:Nat}{hint:Bool}{y:Oper}{β:Bool}{v:AV}{rt':aP}(h:(aX C D A (ev S) S.rt site hint y).dec β=some (v,rt')){l:(aP->Option AV)×AV}(hl:ur C (ev S) y v=some l)
  (hT:l.1 T.rt=some l.2):rt'=S.rt/\(aX C D A' (ev S) T.rt site hint y).dec β=some (v,T.rt):=by
 unfold ur at hl;split at hl
 .rename_i t a hop;simp only[aK]at hl;subst hl;simp only[aX,hop]at h⊢;simp only at hT;by_cases hnz:(C.ty t).nz=true
  .rw[aj hnz]at h hT⊢;rw[hT];cases hv:vf S.rt (C.ty t) (ev S a) with
   | none=>rw[hv]at h;simp[Tr.of,Tr.dec]at h
   | some v2=>rw[hv]at h;simp only[d7,Tr.of,Tr.dec,aK,aZ]at h⊢;exact⟨h.2.symm,trivial⟩
  .rw[af hnz]at hT;simp at hT
 .rename_i t a f hop;simp only[aK]at hl;subst hl;simp only[aX,hop]at h⊢;simp only at hT;rw[hT];cases hv:BV S.rt (C.ty t) (ev S a) f with
  | none=>rw[hv]at h;simp[Tr.of,Tr.dec]at h
  | some v2=>rw[hv]at h;simp only[d7,Tr.of,Tr.dec,aK,aZ]at h⊢;exact⟨h.2.symm,trivial⟩
 .simp at hl
theorem Fj{S T S':St}{e:jH}{β:Bool}{j:Nat}{y:Oper}(hs:g6 C D hints id ops β S j y=some (S',e))(hl:T.sl.length=S.sl.length)(hrl:T.rt.length=S.rt.length)
  (hk:∀u∈zH ops y,T.get u=S.get u) (ho:∀u∈jC ops j y,T.get u=S.get u)
  (hm:(T.rt=S.rt/\lE T.sl y.dst (id * 256+j+1)=lE S.sl y.dst (id * 256+j+1))\/(e.wr=none/\EX e S.rt T.rt)) :
  ∃T',g6 C D hints id ops β T j y=some (T',e)/\(∀u∈jC ops j y,T'.get u=S'.get u)/\(e.wr=none->S'.rt=S.rt/\T'.rt=T.rt)/\(T.rt=S.rt->T'.rt=S'.rt):=by
 have hg:=Qc (ops:=ops) hk;have he:=HK hk;unfold g6 at hs⊢;rw[hg];split at hs
 .rename_i hgt;simp only[fk,aZ]at hs;obtain⟨⟨v,rt'⟩,hd,hS,hee⟩:=hs;subst hS;subst hee;have wK:∀{A:bU}{R:aP},aX C D A (ev T) R (id * 256+j+1) (hints.share.contains (id,j)) y=aX C D A (ev S) R (id * 256+j+1) (hints.share.contains (id,j)) y:=RT y he;have hq:dN C (ev S) y=none->rt'=S.rt:=fun hw=>(GM (T:=S) (A':=lE S.sl y.dst (id * 256+j+1)) hw rfl (fun _ _=>rfl) hd).1;rcases hm with⟨sj,DI⟩ | ⟨hw,I5⟩
  .refine⟨fin ops ⟨T.sl,rt'⟩ j y v,?_,AP hl ho,fun hw=>?_,fun _=>?_⟩
   .unfold iK at hd⊢;rw[DI,wK,sj,hd];simp only[d7,He (.inr (.inl ⟨sj,rfl⟩)) hk ho]
   .rw[oO,oO];have:=hq hw;simp only at this⊢;exact⟨this,this.trans sj.symm⟩
   .rw[oO,oO]
  .have iU:dN C (ev S) y=none:=hw;have Xa:rt'=S.rt/\(aX C D (lE T.sl y.dst (id * 256+j+1)) (ev S) T.rt (id * 256+j+1) (hints.share.contains (id,j)) y).dec β=some (v,T.rt):=by
    rcases I5 with I5 | hb | ⟨l,h1,h2⟩
    .exact GM (T:=T) (A':=lE T.sl y.dst (id * 256+j+1)) iU hrl (I5.sub fun r hr=>by simp only[jE,bL];exact .inr (.inl hr)) hd
    .have hb':rW y=true:=hb;exact GM (T:=T) (A':=lE T.sl y.dst (id * 256+j+1)) iU hrl (by rw[aj hb'];intro r hr;simp at hr) hd
    .exact ab2 hd h1 h2
   refine⟨fin ops ⟨T.sl,T.rt⟩ j y v,?_,AP hl ho,fun _=>?_,fun sj=>?_⟩
   .unfold iK;rw[wK,Xa.2];simp only[d7,He (b:=rt') (.inl iU) hk ho]
   .rw[oO,oO];exact⟨Xa.1,rfl⟩
   .rw[oO,oO];exact sj.trans Xa.1.symm
 .rename_i hgt;simp only[aK,aZ]at hs;obtain⟨hS,hee⟩:=hs;subst hS;subst hee;refine⟨fin ops T j y .skip,by rw[acq ho],?_,fun _=>?_,fun sj=>?_⟩
  .exact AP (S:=S) (T:=T) (rt:=T.rt) (rt':=S.rt) hl ho
  .rw[oO,oO];exact⟨rfl,rfl⟩
  .rw[oO,oO];exact sj
 .simp at hs
theorem ada{S S':St}{e:jH}{β:Bool}{j:Nat}{y:Oper}(hs:g6 C D hints id ops β S j y=some (S',e))(hw:e.wr=none):S'.rt=S.rt:=by obtain⟨_,_,_,h,_⟩:=Fj (T:=S) hs rfl rfl (fun _ _=>rfl) (fun _ _=>rfl) (.inl ⟨rfl,rfl⟩);exact(h hw).1
theorem akc{ρ:Operand->AV}{o:Oper}{W:List Nat}(h:dN C ρ o=some W):∀d,o.dst=some d->d∈W:=by
 intro d hd;unfold dN at h;simp only[hd,Option.toList_some]at h
 repeat' split at h
 all_goals first
  | (simp only[aK]at h;subst h;simp;done)
  | (simp at h;done)
theorem B8{S S':St}{e:jH}{β:Bool}{j:Nat}{y:Oper}{W:List Nat}(hs:g6 C D hints id ops β S j y=some (S',e))(hw:e.wr=some W):fO W S.rt S'.rt/\(∀d,y.dst=some d->d∈W):=by
 unfold g6 at hs;split at hs
 .simp only[fk,aZ]at hs;obtain⟨⟨v,rt'⟩,hd,hS,hee⟩:=hs;subst hS;subst hee;have iU:dN C (ev S) y=some W:=hw;rw[oO];exact⟨abV iU hd,akc iU⟩
 .simp only[aK,aZ]at hs;obtain⟨hS,hee⟩:=hs;subst hee;simp[oM]at hw
 .simp at hs
theorem Hf{S S':St}{e:jH}{β:Bool}{j:Nat}{y:Oper}(hs:g6 C D hints id ops β S j y=some (S',e)){u:Nat}(hu:u∈jC ops j y) :
  (∀r∈(S.get u).roots,r∈e.rd)/\(∀r∈(S'.get u).roots,r∈e.rd)/\(∀r∈(S.get u).stamps,r∈e.st)/\(∀r∈(S'.get u).stamps,r∈e.st):=by
 unfold g6 at hs;split at hs
 .simp only[fk,aZ]at hs;obtain⟨⟨v,rt'⟩,hd,hS,hee⟩:=hs;subst hS;subst hee;simp only[jE,bL];refine⟨fun r hr=>.inr (.inr (TI hu hr)),fun r hr=>?_,fun r hr=>.inr (TE hu hr),fun r hr=>?_⟩
  .rw[zE]at hr;split at hr
   .exact .inl hr
   .split at hr
    .simp[AV.roots]at hr
    .exact .inr (.inr (TI hu hr))
  .rw[zE]at hr;split at hr
   .exact .inl hr
   .split at hr
    .simp[AV.stamps]at hr
    .exact .inr (TE hu hr)
 .simp only[aK,aZ]at hs;obtain⟨hS,hee⟩:=hs;subst hS;subst hee;simp only[oM];refine⟨fun r hr=>TI hu hr,fun r hr=>?_,fun r hr=>TE hu hr,fun r hr=>?_⟩
  .rw[zE]at hr;split at hr
   .simp[AV.roots]at hr
   .split at hr
    .simp[AV.roots]at hr
    .exact TI hu hr
  .rw[zE]at hr;split at hr
   .simp[AV.stamps]at hr
   .split at hr
    .simp[AV.stamps]at hr
    .exact TE hu hr
 .simp at hs
theorem IA{S S':St}{e:jH}{β:Bool}{j:Nat}{y:Oper}(hs:g6 C D hints id ops β S j y=some (S',e)):S'.sl.length=S.sl.length/\∀u,u∉jC ops j y->S'.get u=S.get u:=by
 refine⟨?_,fun u hu=>(FU hs hu).1⟩;unfold g6 at hs;split at hs
 .simp only[fk,aZ]at hs;obtain⟨⟨v,rt'⟩,hd,hS,hee⟩:=hs;subst hS;rw[Jr]
 .simp only[aK,aZ]at hs;obtain⟨hS,hee⟩:=hs;subst hS;rw[Jr]
 .simp at hs
theorem J5{S S':St}{e:jH}{β:Bool}{j:Nat}{y:Oper}(hs:g6 C D hints id ops β S j y=some (S',e)){d:Option Nat}{s:Nat}{W:List Nat}(hd:∀d',d=some d'->d'∈W)(oT:i_ W e.rd=true)
  (hst:e.st.contains s=false):lE S'.sl d s=lE S.sl d s:=by
 obtain⟨hl,hf⟩:=IA hs;have Lr:s∉e.st:=by simpa using hst
 refine MB d s hl (fun d' e1 k _=>?_) (fun d' e1 k _=>?_) (fun k=>?_)
 .by_cases hk:k∈jC ops j y
  .obtain⟨h1,h2,_,_⟩:=Hf hs hk;have hn:=pL oT d' (hd d' e1);have a1:d'∉(S.get k).roots:=fun h=>hn (h1 _ h);have a2:d'∉(S'.get k).roots:=fun h=>hn (h2 _ h);simp only[St.get_eq]at a1 a2;rw[Y1,Y1,b8 a1,b8 a2]
  .have:=hf k hk;simp only[St.get_eq]at this;rw[this]
 .by_cases hk:k∈jC ops j y
  .obtain⟨h1,h2,_,_⟩:=Hf hs hk;have hn:=pL oT d' (hd d' e1);have a1:d'∉(S.get k).roots:=fun h=>hn (h1 _ h);have a2:d'∉(S'.get k).roots:=fun h=>hn (h2 _ h);have b1:=Jm _ a1;have b2:=Jm _ a2;simp only[St.get_eq]at b1 b2;rw[b1,b2]
  .have:=hf k hk;simp only[St.get_eq]at this;rw[this]
 .by_cases hk:k∈jC ops j y
  .obtain⟨_,_,h1,h2⟩:=Hf hs hk;have b1:=J3 (s:=s) _ (fun h=>Lr (h1 _ h));have b2:=J3 (s:=s) _ (fun h=>Lr (h2 _ h));simp only[St.get_eq]at b1 b2;rw[b1,b2]
  .have:=hf k hk;simp only[St.get_eq]at this;rw[this]
theorem AD{S S':St}{e:jH}{β:Bool}{j:Nat}{y:Oper}(hs:g6 C D hints id ops β S j y=some (S',e)):e.site=id * 256+j+1/\e.i=j:=by
 unfold g6 at hs;split at hs
 .simp only[fk,aZ]at hs;obtain⟨⟨v,rt'⟩,hd,hS,hee⟩:=hs;subst hee;exact⟨rfl,rfl⟩
 .simp only[aK,aZ]at hs;obtain⟨hS,hee⟩:=hs;subst hee;exact⟨rfl,rfl⟩
 .simp at hs
theorem P3{S:aP}{l:(aP->Option AV)×AV}(h:A_ S l=true):l.1 S=some l.2:=by
 have hp:∀(p q:Path),Di p q=true->p=q:=by
  intro p
  induction p with
  | nil=>intro q h;cases q<;>simp_all [Di]
  | cons x p ih=>
   intro q h;cases q with
   | nil=>cases x<;>simp[Di]at h
   | cons y q=>
    cases x<;>cases y<;>simp only[Di,e8]at h
    .rw[ih q h]
    .rw[ih q h]
 unfold A_ at h;split at h
 .rename_i r p s r' p' s' h1 h2;simp only[bH]at h;rw[h1,h2,mR h.1.1,hp _ _ h.1.2,mR h.2]
 .rename_i r p r' p' h1 h2;simp only[bH]at h;rw[h1,h2,mR h.1,hp _ _ h.2]
 .simp at h
theorem akP{S S':St}{e:jH}{β:Bool}{j:Nat}{y:Oper}{W:List Nat}(hs:g6 C D hints id ops β S j y=some (S',e))(hw:e.wr=some W):(e.io=none\/e.io=some (S.rt,S'.rt))/\e.dst=y.dst:=by
 unfold g6 at hs;split at hs
 .simp only[fk,aZ]at hs;obtain⟨⟨v,rt'⟩,hd,hS,hee⟩:=hs;subst hS;subst hee;have iU:dN C (ev S) y=some W:=hw;rw[oO];simp only[jE,iU,iO];cases vk C (ev S) y
  .exact .inr rfl
  .exact .inl rfl
 .simp only[aK,aZ]at hs;obtain⟨hS,hee⟩:=hs;subst hee;simp[oM]at hw
 .simp at hs
theorem Na{S S':St}{e f:jH}{β:Bool}{j:Nat}{y:Oper}{W:List Nat}(hs:g6 C D hints id ops β S j y=some (S',e))(hw:e.wr=some W)(h:BK e f=true) :
  ((f.bl=true\/∃l,f.ld=some l/\l.1 S.rt=some l.2)/\(f.bl=true\/∃l,f.ld=some l/\l.1 S'.rt=some l.2))/\i_ y.dst.toList f.rd=true/\f.st.contains e.site=false:=by
 obtain⟨h1,h2⟩:=akP hs hw;unfold BK at h;simp only[bH,kr,jy]at h;obtain⟨⟨a,c⟩,d⟩:=h;refine⟨?_,by rw[<-h2];exact c,d⟩;rcases a with a | a
 .exact⟨.inl a,.inl a⟩
 .split at a
  .rename_i l io hl KP;rcases h1 with h1 | h1
   .rw[h1]at KP;simp at KP
   rw[h1]at KP;simp only[aK]at KP;subst KP;simp only[bH]at a;exact⟨.inr ⟨l,hl,P3 a.1⟩,.inr ⟨l,hl,P3 a.2⟩⟩
  .simp at a
theorem ajH{ρ:Operand->AV}{o:Oper}{W:List Nat}(hw:dN C ρ o=some W)(hl:vk C ρ o=true):rW o=false:=by unfold dN at hw;unfold rW;cases ho:o.op<;>rw[ho]at hw<;>simp_all
theorem NC{S T S':St}{e:jH}{β:Bool}{j:Nat}{y:Oper}{W:List Nat}(hs:g6 C D hints id ops β S j y=some (S',e))(hw:e.wr=some W)(hlc:e.lc=true)(hl:T.sl.length=S.sl.length)(hrl:T.rt.length=S.rt.length)
  (hk:∀u∈zH ops y,T.get u=S.get u) (ho:∀u∈jC ops j y,T.get u=S.get u) (DI:lE T.sl y.dst (id * 256+j+1)=lE S.sl y.dst (id * 256+j+1))
  (hr:gX (W++e.rd) S.rt T.rt):∃T',g6 C D hints id ops β T j y=some (T',e)/\(∀u∈jC ops j y,T'.get u=S'.get u)/\gX W S'.rt T'.rt:=by
 have hg:=Qc (ops:=ops) hk;have he:=HK hk;unfold g6 at hs⊢;rw[hg];split at hs
 .rename_i hgt;simp only[fk,aZ]at hs;obtain⟨⟨v,rt'⟩,hd,hS,hee⟩:=hs;subst hS;subst hee;have iU:dN C (ev S) y=some W:=hw;have DV:vk C (ev S) y=true:=hlc;have hb:=ajH iU DV;unfold iK at hd⊢;obtain⟨fe,k1,k2,k3⟩:=akT (A:=lE S.sl y.dst (id * 256+j+1)) hr hrl DV (fun r hr=>by
   refine bL.2 (.inr ?_);simp only[jE,hb,e8,dV,bL];exact .inr (.inl hr)) v rt' hd
  refine⟨fin ops ⟨T.sl,fe⟩ j y v,?_,AP hl ho,?_⟩
  .rw[DI,RT y he,k1];simp only[d7,He (b:=rt') (.inr (.inr DV)) hk ho]
  .rw[oO,oO];exact k2.sub fun r hr=>bL.2 (.inl hr)
 .simp only[aK,aZ]at hs;obtain⟨hS,hee⟩:=hs;subst hee;simp[oM]at hw
 .simp at hs
theorem ajB{S T:aP}(hl:T.length=S.length)(h:∀r,T.root r=S.root r):T=S:=by apply x_ hl;intro i h1 h2;have:=h i;simp only[aP.ig,List.getD,gP h1,gP h2,uF]at this;exact this
theorem swap{S S1 S2:St}{ex ey:jH}{βx βy:Bool}{i j:Nat}{x y:Oper}(h1:g6 C D hints id ops βx S i x=some (S1,ex))(h2:g6 C D hints id ops βy S1 j y=some (S2,ey))
  (hap:Iz ops i j x y=true) (hfr:ex.free ey=true):∃T1,g6 C D hints id ops βy S j y=some (T1,ey)/\g6 C D hints id ops βx T1 i x=some (S2,ex):=by
 simp only[Iz,bH]at hap;obtain⟨⟨p1,p2⟩,p3⟩:=hap;obtain⟨l1,f1⟩:=IA h1;obtain⟨l2,f2⟩:=IA h2;have n1:∀u∈zH ops y,S.get u=S1.get u:=fun u hu=>(f1 u fun h=>pL p1 u h hu).symm;have n2:∀u∈jC ops j y,S.get u=S1.get u:=fun u hu=>(f1 u fun h=>pL p2 u h hu).symm
 -- yP two aln,and what comes out
 have key:∀(hm:(S.rt=S1.rt/\lE S.sl y.dst (id * 256+j+1)=lE S1.sl y.dst (id * 256+j+1))\/(ey.wr=none/\EX ey S1.rt S.rt))(hrl:S.rt.length=S1.rt.length),
   ∃T1,g6 C D hints id ops βy S j y=some (T1,ey)/\(ey.wr=none->S2.rt=S1.rt/\T1.rt=S.rt)/\(S.rt=S1.rt->T1.rt=S2.rt)/\
    (∀(hm2:(T1.rt=S.rt/\lE T1.sl x.dst (id * 256+i+1)=lE S.sl x.dst (id * 256+i+1))\/(ex.wr=none/\EX ex S.rt T1.rt))(Li:T1.rt.length=S.rt.length),
     ∃T2,g6 C D hints id ops βx T1 i x=some (T2,ex)/\(ex.wr=none->S1.rt=S.rt/\T2.rt=T1.rt)/\(T1.rt=S.rt->T2.rt=S1.rt)/\(T2.rt=S2.rt->T2=S2)):=by
  intro hm hrl;obtain⟨T1,k1,k2,k3,k4⟩:=Fj h2 l1.symm hrl n1 n2 hm;refine⟨T1,k1,k3,k4,fun hm2 Li=>?_⟩;obtain⟨lT,fT⟩:=IA k1;obtain⟨T2,q1,q2,q3,q4⟩:=Fj h1 lT Li (fun u hu=>fT u fun h=>pL p3 u h hu) (fun u hu=>fT u fun h=>pL p2 u hu h) hm2;obtain⟨XA,Wb⟩:=IA q1;refine⟨T2,q1,q3,q4,fun sj=>NK (by rw[XA,lT,l2,l1]) (fun u=>?_) sj⟩;by_cases hx:u∈jC ops i x
  .rw[q2 u hx,f2 u fun h=>pL p2 u hx h]
  .rw[Wb u hx];by_cases hy:u∈jC ops j y
   .exact k2 u hy
   .rw[fT u hy,f2 u hy,f1 u hx]
 obtain⟨sx,_⟩:=AD h1;obtain⟨sy,_⟩:=AD h2;cases rQ:ex.wr with
 | none=>
  have r1:S1.rt=S.rt:=ada h1 rQ;cases qG:ey.wr with
  | none=>obtain⟨T1,k1,k2,k3,k4⟩:=key (.inr ⟨qG,.inl fun r _=>by rw[r1]⟩) (by rw[r1]);obtain⟨e1,e2⟩:=k2 qG;obtain⟨T2,q1,q2,q3,q4⟩:=k4 (.inr ⟨rQ,.inl fun r _=>by rw[e2]⟩) (by rw[e2]);have:=q4 ((q2 rQ).2.trans (e2.trans (r1.symm.trans e1.symm)));subst this;exact⟨T1,k1,q1⟩
  | some W=>
   simp only[jH.free,rQ,qG,jy]at hfr;rcases hfr with hfr | hfr
   rotate_left
   .obtain⟨⟨a1,a2⟩,d1,d2⟩:=Na h2 qG hfr;rw[sy]at d2;obtain⟨T1,k1,k2,k3,k4⟩:=key (.inl ⟨r1.symm,(J5 h1 (W:=y.dst.toList) (fun d' hd'=>by rw[hd'];simp) d1 d2).symm⟩) (by rw[r1]);obtain⟨fr,_⟩:=B8 k1 qG;have eT:=k3 r1.symm;obtain⟨T2,q1,q2,q3,q4⟩:=k4 (.inr ⟨rQ,.inr (by rw[eT];exact a2)⟩) fr.len;have:=q4 ((q2 rQ).2.trans eT);subst this;exact⟨T1,k1,q1⟩
   simp only[Bn,bH,kr]at hfr;obtain⟨d1,d2⟩:=hfr;obtain⟨_,Uh⟩:=B8 h2 qG;rw[sy]at d2;obtain⟨T1,k1,k2,k3,k4⟩:=key (.inl ⟨r1.symm,(J5 h1 Uh d1 d2).symm⟩) (by rw[r1]);obtain⟨fr,_⟩:=B8 k1 qG;obtain⟨T2,q1,q2,q3,q4⟩:=k4 (.inr ⟨rQ,.inl fun r hr=>fr.root r fun h=>pL d1 r h hr⟩) fr.len;have:=q4 ((q2 rQ).2.trans (k3 r1.symm));subst this;exact⟨T1,k1,q1⟩
 | some W=>
  cases qG:ey.wr with
  | none=>
   simp only[jH.free,rQ,qG,jy]at hfr;rcases hfr with hfr | hfr
   rotate_left
   .obtain⟨⟨a1,a2⟩,d1,d2⟩:=Na h1 rQ hfr;obtain⟨fr,Uh⟩:=B8 h1 rQ;rw[sx]at d2;obtain⟨T1,k1,k2,k3,k4⟩:=key (.inr ⟨qG,.inr a1⟩) fr.len.symm;obtain⟨e1,e2⟩:=k2 qG;obtain⟨T2,q1,q2,q3,q4⟩:=k4 (.inl ⟨e2,J5 k1 (W:=x.dst.toList) (fun d' hd'=>by rw[hd'];simp) d1 d2⟩) (by rw[e2]);have:=q4 ((q3 e2).trans e1.symm);subst this;exact⟨T1,k1,q1⟩
   simp only[Bn,bH,kr]at hfr;obtain⟨d1,d2⟩:=hfr;obtain⟨fr,Uh⟩:=B8 h1 rQ;rw[sx]at d2;obtain⟨T1,k1,k2,k3,k4⟩:=key (.inr ⟨qG,.inl fun r hr=>(fr.root r fun h=>pL d1 r h hr).symm⟩) fr.len.symm;obtain⟨e1,e2⟩:=k2 qG;obtain⟨T2,q1,q2,q3,q4⟩:=k4 (.inl ⟨e2,J5 k1 Uh d1 d2⟩) (by rw[e2]);have:=q4 ((q3 e2).trans e1.symm);subst this;exact⟨T1,k1,q1⟩
  | some W2=>
   simp only[jH.free,rQ,qG,bH,kr]at hfr;obtain⟨⟨⟨lx,ly⟩,⟨d1,d2⟩,d3,d4⟩,s1,s2⟩:=hfr;obtain⟨T_,uc⟩:=B8 h1 rQ;obtain⟨Ua,zV⟩:=B8 h2 qG;rw[sy]at s1;rw[sx]at s2;obtain⟨T1,k1,k2,k3⟩:=NC (T:=S) h2 qG ly l1.symm T_.len.symm n1 n2 (J5 h1 zV d3 s1).symm
    (fun r hr=>(T_.root r fun h=>by
     rcases bL.1 hr with h' | h'
     .exact pL d2 r h h'
     .exact pL d1 r h h').symm)
   obtain⟨lT,fT⟩:=IA k1;obtain⟨Ub,_⟩:=B8 k1 qG;obtain⟨T2,q1,q2,q3⟩:=NC h1 rQ lx lT Ub.len (fun u hu=>fT u fun h=>pL p3 u h hu) (fun u hu=>fT u fun h=>pL p2 u hu h) (J5 k1 uc d1 s2)
    (fun r hr=>Ub.root r fun h=>by
     rcases bL.1 hr with h' | h'
     .exact pL d4 r h h'
     .exact pL d3 r h h')
   obtain⟨XA,Wb⟩:=IA q1;obtain⟨Kq,_⟩:=B8 q1 rQ;have sj:T2.rt=S2.rt:=by
    refine ajB (by rw[Kq.len,Ub.len,Ua.len,T_.len]) fun r=>?_;by_cases hx:r∈W
    .rw[q3 r hx,Ua.root r fun h=>pL d2 r hx h]
    .rw[Kq.root r hx];by_cases hy:r∈W2
     .exact k3 r hy
     .rw[Ub.root r hy,Ua.root r hy,T_.root r hx]
   have:T2=S2:=NK (by rw[XA,lT,l2,l1]) (fun u=>by
    by_cases hx:u∈jC ops i x
    .rw[q2 u hx,f2 u fun h=>pL p2 u hx h]
    .rw[Wb u hx];by_cases hy:u∈jC ops j y
     .exact k2 u hy
     .rw[fT u hy,f2 u hy,f1 u hx]) sj
   subst this;exact⟨T1,k1,q1⟩
end
end
end Go.V

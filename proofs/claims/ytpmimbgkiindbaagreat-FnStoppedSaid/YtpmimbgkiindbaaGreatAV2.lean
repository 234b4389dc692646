import Derived.Test.YtpmimbgkiindbaaGreatAV1
set_option linter.unusedVariables false
set_option linter.unusedSimpArgs false
set_option linter.unusedSectionVars false
namespace Go.V
open Go
theorem Nc{h:Array Obj}{S:St}{g:aA}{tmps:Array Value}{H:BS}(st:aE h S g tmps H)(q:Nat):Kp h S g (S.aI q none) g:=by
 have bK:∀r',(S.aI q none).root r'=S.root r'\/(S.aI q none).root r'=none:=by intro r';rw[St.b6];by_cases e:r'=q/\q<S.rt.length<;>simp[e]
 intro u v y;refine(qe.keep (Sub.refl _) (fun _ _=>rfl) u).1 v y (AV.ef (fun r p=>?_) (fun r p s=>?_) u)
 .exact(nP st (bK r) rfl rfl (fun _ _ _=>rfl)).1 p
 .exact(nP st (bK r) rfl rfl (fun _ _ _=>rfl)).2 p s
theorem aaI{h h2:Array Obj}{t:Ty}{x y:t.den}{m2:Mk}{c c2:List Value}{base:fK}{site:Nat}(hf:m2.fresh site (site+1)) :
  ∀p' t1 n1,jH site (site+1) p'=true->q8 t m2 p'=some (t1,n1)->bu t x p'->bu t y p'/\∀bp cp,cr h t c base p'=some (bp,cp)->
   ∃iR,cr h2 t c2 base p'=some (bp,iR)/\(∀s a,n1=.own s a->¬ (site<=s/\s<site+1)->iR=cp):=by
 intro p' t1 n1 hp gX _;obtain⟨hi',zx⟩:=Dr p' hf hp gX;refine⟨zQ _ _ hi' gX,fun bp cp ha=>?_⟩;obtain⟨iR,h3⟩:=IT (h':=h2) p' _ c2 _ hi' ha;exact⟨iR,h3,fun s a' e hs=>by subst e;exact absurd zx hs⟩
section
variable {P:Program} {C:Ctx} {D:Den C} {S:St} {g:aA} {w:World} {tmps:Array Value}
variable {A:bY} {site:Nat} (dz:ot P C D) (st:aE w.heap S g tmps Nil)
include dz st
theorem aaF{f:FuncId}{aJ:List AV}{vs:List Value}{d:Option Nat}(ok:nM A S d site)(hfr:site<1048576/\∀u,(S.get u).aQ site (site+1)=true)
  (ha:l9 w.heap S g aJ vs) (Xo:(C.sig f).params.all (fun k=>!k.mh)=true) {gd:ju (C.sig f).params} (h1:f5 S.rt (C.sig f).params aJ=some (gd,S.rt))
  {od:dI (C.sig f).params} {fk:aO} {n:Nat} {v0:Value} {q:Nat} {t:Ty} {m m':Mk} {R:aC} {x:t.den} (rJ:qe w.heap S g (.addr q []) v0)
  (L:wB w.heap (C.sig f).params aJ vs S.rt fk od n v0 q t m m' R x) {a:gf (C.sig f).params} (h3:jk fk (C.sig f).params aJ gd od=some a)
  (hs:mL (C.sig f).params aJ=true\/(C.sig f).full=true) {r:f9 (C.sig f).res×dI (C.sig f).params} (hD:D f a=some r) {β:Bool} {v:AV} {y_ rt':aO}
  (ho:gb S.rt site (C.sig f).params aJ r.2=some y_) (he:(mA A y_ d site (C.sig f).res r.1).dec β=some (v,rt')) :
  Calls P f vs.toArray w fun e w'=>∃val,e=.returned val/\Post S g w tmps v rt' val w':=by
 have hR:=L.root;have bO:(S.root q).isSome:=by show(S.rt.root q).isSome=true;rw[hR];rfl
 obtain⟨e1,e2⟩:=Dv L.cast;obtain⟨Rt,Rm,Rx,Wn⟩:=R;simp only at e1 e2;subst e1;simp only at e2;subst e2;have hmem:Wn=true:=L.mem;subst hmem;obtain⟨base,c,F,q1,q2,q3,q4,q5,q6⟩:=st.m4 hR (L4 Rt Rm Rx) (xP _ _);simp only[qe]at rJ;obtain⟨_,b,off,c',ej,Kt⟩:=rJ _ hR _ (L4 _ _ _);rw[EX]at ej q1;simp only[aK,aY]at ej q1;obtain⟨bP,gw⟩:=q1;obtain⟨KE,hb4⟩:=ej;obtain⟨F00,_,_,_,mV,_⟩:=st.roots q _ hR;obtain⟨b0,hB,hGb,w8⟩:=mV rfl;have hbase:g.base q=some (b0,0):=by simp[aA.base,hB]
 rw[hbase]at bP KE;simp only[aK,aY]at KE;obtain⟨rfl,rfl⟩:=KE;subst bP;subst gw;obtain⟨rK,_⟩:=q4 b0 0 rfl;obtain⟨F1,F2,s1,s2,s3,s4⟩:=az.aP Rt L.Ud q2;have pe:=(st.gD bO).cP F2 (fun z hz=>.inr (q3 z (s2 z hz)))
 let g2:aA:={ g with Pr:=Un g.Pr F2 }
 have Au:Kp w.heap S g (S.aI q none) g2:=(Nc st q).trans (Jz (st.gD bO) F2)
 let Fs:Nat->BS:=fun j=>if j=n then (fun z=>z=b0\/F1 z) else Nil
 have pX:∀i,Sub (Fs i) (fun z=>(Nil z\/g.G q z)/\¬ F2 z):=by
  intro i z hz;simp only[Fs]at hz;split at hz
  .rcases hz with rfl | hz
   .exact⟨.inr hGb,fun h=>rK (s2 _ h)⟩
   .exact⟨.inr (q3 z (s1 z hz)),fun h=>s3 z hz h⟩
  .exact hz.elim
 have e2:fk=(S.aI q none).rt:=L.fk;subst e2;obtain⟨gg1,HH1,FF,kk⟩:=Cn (sl:=S.sl) (C.sig f).params aJ vs S.rt g Nil 0 gd S.rt ha st h1;have hG:=Fe (h2:=w.heap) (gh:=g2.Pr) (pP:=Fs) (C.sig f).params 0 Xo kk.2.2.2.2.1;have hL:=L.ls g2.Pr Fs 0 (by
  simp only[kB,Fs,aX];exact⟨b0,g.C q,F1,Kt,s4,w8,.inl rfl,fun z hz=>.inr hz,fun h=>rK (s1 _ h)⟩)
 have hps:=yG pe (sh:=mL (C.sig f).params aJ) (Fs:=Fs) (C.sig f).params aJ vs 0 gd od a (fun h=>h) (ha.kp Au) hG hL h3;have Ed:∀i j,i≠j->cB (Fs i) (Fs j):=by
  intro i j hij z h1 h2;simp only[Fs]at h1 h2;split at h1
  .split at h2
   .omega
   .exact h2
  .exact h1
 have pre:Pre w.heap (Seen (mL (C.sig f).params aJ) (S.aI q none) g2) Fs (C.sig f).params a vs:=
  ⟨hps,Ed,fun i z hz=>Bb pe _ z (pX i z hz),fun i z hz=>pe.ep z (pX i z hz),Bc pe _⟩
 refine(dz.ok f a r hD w _ Fs vs pre).mono ?_;rintro e w' ⟨val,fP,Gs,Os,us,rfl,p⟩;obtain⟨y,hy1,EH⟩:=L.out r.2;obtain⟨w4,rfl⟩:=hy1 S.rt site y_ ho;obtain⟨b2,c2,Ul,D5,jR,ug,WD,wK,hnb⟩:=EH _ _ _ _ p.out;rw[kB]at WD wK;rw[Kt]at D5;simp only[Value.pointer.injEq,aK,Addr.mk.injEq,iQ]at D5;subst D5;have jf:∀z,tS w.heap.size Fs z->w.heap.size<=z\/z=b0\/F1 z:=by
  rintro z (h | ⟨i,h⟩)
  .exact .inl h
  .simp only[Fs]at h;split at h
   .exact .inr h
   .exact h.elim
 let Dd:BS:=fun z=>mL (C.sig f).params aJ=true/\fP z/\¬ g.Pr z
 have Wz:∀z,Dd z->F z\/Nil z\/w.heap.size<=z:=by
  rintro z ⟨hsh,h1,h2⟩;rcases p.kZ z h1 with h3 | h3
  .rw[hsh]at h3;simp only[Seen,aX]at h3;rcases h3 with h3 | h3
   .exact absurd h3 h2
   .exact .inl (s2 z h3)
  .rcases jf z h3 with h4 | rfl | h4
   .exact .inr (.inr h4)
   .exact(p.op n z WD h1).elim
   .exact .inl (s1 z h4)
 have WA:∀z,Ul z->F z\/Nil z\/w.heap.size<=z:=by
  intro z hz;rcases jf z (p.oL n z (wK z hz)) with h4 | rfl | h4
  .exact .inr (.inr h4)
  .exact(hnb hz).elim
  .exact .inl (s1 z h4)
 have hfull:mL (C.sig f).params aJ=false->(C.sig f).full=true:=fun h=>hs.resolve_left (by rw[h];simp);have yZ:az w'.heap (Un g.Pr Dd) Rt (m'.stamp site) y c2 Ul:=by
  refine(az.stamp site _).1 ?_;cases hsh:mL (C.sig f).params aJ with
  | true=>
   refine az.mono (fun z hz=>?_) (fun _ _=>rfl) _ jR (Sub.refl _) (fun _ _=>rfl);by_cases h1:g.Pr z
   .exact .inl h1
   .exact .inr ⟨hsh,hz,h1⟩
  | false=>have h5:=hfull hsh;simp only[wE.full,bI]at h5;exact az.lR _ (L.full h5.1) jR
 have nO:(g.C q).length=Rt.width:=az.width _ q2;have iJ:=az.width _ jR;have kQ:(m'.stamp site).fresh site (site+1):=Mk.dQ site w4;obtain⟨g',k1,k2,k3,k4,k5,k6,k7⟩:=q6 site (site+1) w'.heap (m'.stamp site) y c2 Ul Dd (m'.stamp site) y hfr.2
  (fun z hz Am hbz=>p.fr.block z hz (fun h=>by
   rcases jf z h with h4 | rfl | h4
   .omega
   .exact hbz 0 rfl
   .exact Am (s1 z h4)))
  p.fr.size
  (by
   intro b o e cs hcs;simp only[aK,aY]at e;obtain⟨rfl,rfl⟩:=e;obtain rfl:=jz.uniq w8 hcs;exact⟨c2.toArray,ug,by rw[List.toList_toArray,List.toList_toArray];exact(AX (by omega)).symm⟩)
  yZ (fun z h1 h2=>p.op n z (wK z h2) h1.2.1) (fun z hz=>hz.elim (WA z) (Wz z))
  (fun z hz=>hz.elim (fun h=>p.Ay n z (wK z h)) (fun h=>p.AD z h.2.1))
  (by simp[put,qbv]) (Mk.eP _ kQ) (aM.ax _ (Mk.cN hfr.1 w4)) (fun h=>by simp[qx]at h) (aaI kQ)
 have hres:lu w'.heap g'.Pr Gs 0 (C.sig f).res r.1 us:=by
  refine lu.conv _ 0 ?_ p.res;cases hsh:mL (C.sig f).params aJ with
  | true=>
   refine .inl (fun z hz=>?_);by_cases h1:g.Pr z
   .exact k2 z h1
   .exact k3 z ⟨hsh,hz,h1⟩
  | false=>have h5:=hfull hsh;simp only[wE.full,bI]at h5;exact .inr h5.2
 have WC:∀i,Sub (Gs i) (fun z=>(Nil z\/F z\/(w.heap.size<=z/\z<w'.heap.size))/\¬ (Ul z\/Dd z)):=by
  intro i z hz;refine⟨?_,?_⟩
  .rcases jf z (p.gL i z hz) with h4 | rfl | h4
   .exact .inr (.inr ⟨h4,p.wJ i z hz⟩)
   .exact(p.go i n z hz WD).elim
   .exact .inr (.inl (s1 z h4))
  .rintro(h | h)
   .exact p.go i n z hz (wK z h)
   .exact p.gp i z hz h.2.1
 obtain⟨g4,t1,t2,t3⟩:=G_ (S:=S) k1 WC p.z_ ok (C.sig f).res hres he;refine⟨val,rfl,g4,t1,by rw[p.val];exact t2,k4.trans t3,p.fr.mono ?_⟩;intro z hz h;rcases jf z h with h4 | rfl | h4
 .omega
 .exact st.own q _ bO hGb
 .exact st.own q _ bO (q3 z (s1 z h4))
end
theorem ac3{h:Array Obj}{S:St}{g:aA}{q:Nat}{R:aC}(hR:S.root q=some R):∀(t:Ty){a:AV}{p:Path}{md:Mk}{xd:t.den}{z:Mk×t.den}{cu:List Value}{rp:Nat×Path},
  focus R.ty R.ms R.x p=some ⟨t,md,xd⟩->dh h S g a cu->kg q t a p md xd=some z->u6 a p=true->kF a=some rp->bu R.ty R.x p:=by
 intro t
 induction t with
 | pair ta tb fU kS=>
  intro a p md xd z cu rp hf hc hl kD hp;cases a with
  | pair u v=>
   simp only[kg,cM]at hl;obtain⟨y,hy,z',hz,-⟩:=hl;simp only[dh]at hc;obtain⟨ca,cb,-,h1,h2⟩:=hc;simp only[u6,bI]at kD;cases hu:kF u with
   | some rp'=>have:=fU (by rw[uU p _ hf];simp[focus]) h1 hy kD.1 hu;exact((yN p _ hf).1 this).1
   | none=>
    cases hv:kF v with
    | some rp'=>have:=kS (by rw[uU p _ hf];simp[focus]) h2 hz kD.2 hv;exact((yN p _ hf).1 this).1
    | none=>simp[kF,hu,hv]at hp
  | b9 r' p' s=>simp[kg]at hl
  | _=>simp[kF]at hp
 | sl e ih=>
  intro a p md xd z cu rp hf hc hl kD hp;cases a with
  | pair u v=>simp[kg]at hl
  | b9 r' p' s=>
   simp only[kg]at hl;cases md with
   | own s' m0=>
    simp only at hl;split at hl
    .rename_i nY;obtain⟨rfl,rfl⟩:=nY;simp only[u6,gS]at kD;subst kD;simp only[dh]at hc;obtain⟨v,rfl,hb⟩:=hc;exact(hb R hR _ _ _ hf).1
    .simp at hl
   | _=>simp at hl
  | _=>simp[kF]at hp
 | _=>
  intro a p md xd z cu rp hf hc hl kD hp;cases a with
  | pair u v=>simp[kg]at hl
  | b9 r' p' s=>simp[kg]at hl
  | _=>simp[kF]at hp
theorem Sy{h:Array Obj}{S:St}{g:aA}{q:Nat}{R:aC}(hR:S.root q=some R):∀(t:Ty){a:AV}{p:Path}{md:Mk}{xd:t.den}{mx:Mk}{x:t.den}{c cu:List Value}{base:fK}{F:BS},
  focus R.ty R.ms R.x p=some ⟨t,md,xd⟩->cr h R.ty (g.C q) (g.base q) p=some (base,c)->az h g.Pr t md xd c F->dh h S g a cu->
  kg q t a p md xd=some (mx,x)->u6 a p=true->az h g.Pr t mx x cu F:=by
 intro t;have hval:∀(t:Ty)(t':Ty)(x':t'.den)(md:Mk)(mx:Mk)(x:t.den)(cu:List Value)(F:BS),
   (if md.still=true then (qbv t' t x').bind fun y=>some (Mk.no,y) else none)=some (mx,x)->az h g.Pr t' .no x' cu Nil->az h g.Pr t mx x cu F:=by
  intro t t' x' md mx x cu F hl hr;split at hl
  .simp only[cM,aK,aY]at hl;obtain⟨y,hy,rfl,rfl⟩:=hl;exact(az.cast hy hr).2.room _ (Sub.nil _)
  .simp at hl
 induction t with
 | pair ta tb fU kS=>
  intro a p md xd mx x c cu base F hf ha r hc hl kD;cases a with
  | pair u v=>simp only[kg,cM,aK,aY]at hl;obtain⟨y,hy,z',hz,rfl,rfl⟩:=hl;simp only[dh]at hc;obtain⟨ca,cb,rfl,h1,h2⟩:=hc;simp only[u6,bI]at kD;simp only[az]at r;obtain⟨da,db,Fa,Fb,rfl,ra,rb,sa,sb,dd⟩:=r;have hw:=az.width _ ra;have e1:=fU (base:=base) (F:=Fa) (c:=da) (by rw[uU p _ hf];simp[focus]) (by rw[vc p _ hf ha];simp only[cr];rw[<-hw,jq rfl]) ra h1 hy kD.1;have e2:=kS (base:=base.map fun x=>(x.1,x.2+ta.width)) (F:=Fb) (c:=db) (by rw[uU p _ hf];simp[focus]) (by rw[vc p _ hf ha];simp only[cr];rw[<-hw,i5 rfl]) rb h2 hz kD.2;simp only[az];exact⟨ca,cb,Fa,Fb,rfl,e1,e2,sa,sb,dd⟩
  | val t' x'=>simp only[kg]at hl;simp only[dh]at hc;exact hval _ _ _ _ _ _ _ _ hl hc
  | _=>simp[kg]at hl
 | sl e ih=>
  intro a p md xd mx x c cu base F hf ha r hc hl kD;cases a with
  | b9 r' p' s=>
   simp only[kg]at hl;cases md with
   | own s' m0=>
    simp only at hl;split at hl
    .rename_i nY;obtain⟨rfl,rfl⟩:=nY;simp only[u6,gS]at kD;subst kD;simp only[dh]at hc;obtain⟨v,rfl,hb⟩:=hc;obtain⟨_,b',ej⟩:=hb R hR _ _ _ hf;rw[ej]at ha;simp only[aK,aY]at ha hl;obtain⟨_,rfl⟩:=ha;obtain⟨rfl,rfl⟩:=hl;exact r
    .simp at hl
   | _=>simp at hl
  | val t' x'=>simp only[kg]at hl;simp only[dh]at hc;exact hval _ _ _ _ _ _ _ _ hl hc
  | _=>simp[kg]at hl
 | unit=>
  intro a p md xd mx x c cu base F hf ha r hc hl kD;cases a with
  | val t' x'=>simp only[kg]at hl;simp only[dh]at hc;exact hval _ _ _ _ _ _ _ _ hl hc
  | unit=>simp only[dh]at hc;subst hc;simp only[az]
  | _=>simp[kg]at hl
 | int k=>
  intro a p md xd mx x c cu base F hf ha r hc hl kD;cases a with
  | val t' x'=>simp only[kg]at hl;simp only[dh]at hc;exact hval _ _ _ _ _ _ _ _ hl hc
  | _=>simp[kg]at hl
 | bool=>
  intro a p md xd mx x c cu base F hf ha r hc hl kD;cases a with
  | val t' x'=>simp only[kg]at hl;simp only[dh]at hc;exact hval _ _ _ _ _ _ _ _ hl hc
  | _=>simp[kg]at hl
 | str=>
  intro a p md xd mx x c cu base F hf ha r hc hl kD;cases a with
  | val t' x'=>simp only[kg]at hl;simp only[dh]at hc;exact hval _ _ _ _ _ _ _ _ hl hc
  | _=>simp[kg]at hl
theorem ab6{h h2:Array Obj}{S:St}{g:aA}{gh:BS}{site q:Nat}{R:aC}(hR:S.root q=some R)(hp:Sub g.Pr gh)(hk:∀b,g.Pr b->h2[b]? = h[b]?) :
  ∀(t:Ty){a:AV}{p:Path}{md:Mk}{xd:t.den}{m mm:Mk}{o yy:t.den}{c cu:List Value}{base:fK}{F Os:BS},
  focus R.ty R.ms R.x p=some ⟨t,md,xd⟩->cr h R.ty (g.C q) (g.base q) p=some (base,c)->az h g.Pr t md xd c F->dh h S g a cu->
  az h2 gh t m o cu Os->(∃z,kg q t a p md xd=some z)->u6 a p=true->gF site q t a p md xd m o=some (mm,yy)->
  ∃F1 F2,Sub F1 Os/\Sub F2 Os/\cB F1 F2/\az h2 (fun b=>gh b\/F2 b) t mm yy c F1:=by
 intro t;have hval:∀(t:Ty)(md:Mk)(xd:t.den)(mm:Mk)(yy:t.den)(c:List Value)(F Os:BS),
   (if md.still=true then some (Mk.no,xd) else none)=some (mm,yy)->az h g.Pr t md xd c F->∃F1 F2,Sub F1 Os/\Sub F2 Os/\cB F1 F2/\az h2 (fun b=>gh b\/F2 b) t mm yy c F1:=by
  intro t md xd mm yy c F Os hl hr;split at hl
  .rename_i hs;simp only[aK,aY]at hl;obtain⟨rfl,rfl⟩:=hl;exact⟨Nil,Nil,Sub.nil _,Sub.nil _,cB.nil _,az.mono (fun b hb=>.inl (hp b hb)) hk t (az.eL (F':=Nil) t hs hr) (Sub.refl _) (fun _ h=>h.elim)⟩
  .simp at hl
 induction t with
 | pair ta tb fU kS=>
  intro a p md xd m mm o yy c cu base F Os hf ha r hc ro hle kD hl;cases a with
  | pair u v=>
   simp only[gF,cM,aK,aY]at hl;obtain⟨y,hy,z',hz,rfl,rfl⟩:=hl;simp only[dh]at hc;obtain⟨ca,cb,rfl,h1,s8⟩:=hc;simp only[u6,bI]at kD;simp only[az]at r;obtain⟨da,db,Fa,Fb,rfl,ra,rb,sa,sb,dd⟩:=r;have hw:=az.width _ ra;simp only[az]at ro;obtain⟨ea,eb,Oa,Ob,eo,roa,rob,soa,sob,Wq⟩:=ro;have f1:focus R.ty R.ms R.x (p++[.fst])=some ⟨ta,md.fst,xd.1⟩:=by rw[uU p _ hf];simp[focus]
   have f2:focus R.ty R.ms R.x (p++[.snd])=some ⟨tb,md.snd,xd.2⟩:=by rw[uU p _ hf];simp[focus]
   have a1:cr h R.ty (g.C q) (g.base q) (p++[.fst])=some (base,da):=by rw[vc p _ hf ha];simp only[cr];rw[<-hw,jq rfl]
   have a2:cr h R.ty (g.C q) (g.base q) (p++[.snd])=some (base.map fun x=>(x.1,x.2+ta.width),db):=by rw[vc p _ hf ha];simp only[cr];rw[<-hw,i5 rfl]
   obtain⟨zz,hle⟩:=hle;simp only[kg,cM]at hle;obtain⟨zy,hzy,zz,XX,-⟩:=hle;have jN:ca=ea/\cb=eb:=by
    have w1:=az.width _ roa;have w2:=az.width _ rob;have:ca.length=ea.length:=by rw[w1];exact az.width _ (Sy hR ta f1 a1 ra h1 (mx:=zy.1) (x:=zy.2) hzy kD.1)
    exact List.append_inj eo this
   obtain⟨rfl,rfl⟩:=jN;obtain⟨A1,A2,s1,s2,d1,r1⟩:=fU f1 a1 ra h1 roa ⟨_,hzy⟩ kD.1 hy;obtain⟨B1,B2,s3,s4,d2,r2⟩:=kS f2 a2 rb s8 rob ⟨_,XX⟩ kD.2 hz;refine⟨fun b=>A1 b\/B1 b,fun b=>A2 b\/B2 b,?_,?_,?_,?_⟩
   .rintro z (hz | hz)
    .exact soa z (s1 z hz)
    .exact sob z (s3 z hz)
   .rintro z (hz | hz)
    .exact soa z (s2 z hz)
    .exact sob z (s4 z hz)
   .rintro z (hz | hz) (hy | hy)
    .exact d1 z hz hy
    .exact Wq z (s1 z hz) (s4 z hy)
    .exact Wq z (s2 z hy) (s3 z hz)
    .exact d2 z hz hy
   .simp only[az];exact⟨da,db,A1,B1,rfl,az.mono (fun z hz=>hz.imp id .inl) (fun _ _=>rfl) _ r1 (Sub.refl _) (fun _ _=>rfl),
     az.mono (fun z hz=>hz.imp id .inr) (fun _ _=>rfl) _ r2 (Sub.refl _) (fun _ _=>rfl),fun z hz=>.inl hz,fun z hz=>.inr hz,Wq.mono s1 s3⟩
  | val t' x'=>simp only[gF]at hl;exact hval _ _ _ _ _ _ _ _ hl r
  | unit=>simp only[gF]at hl;exact hval _ _ _ _ _ _ _ _ hl r
  | _=>simp[gF]at hl
 | sl e ih=>
  intro a p md xd m mm o yy c cu base F Os hf ha r hc ro hle kD hl;cases a with
  | b9 r' p' s=>
   simp only[gF]at hl;cases md with
   | own s' m0=>
    simp only at hl;split at hl
    .rename_i nY;obtain⟨rfl,rfl,oE,XH⟩:=nY;simp only[u6,gS]at kD;subst kD;simp only[dh]at hc;obtain⟨v,rfl,hb⟩:=hc;obtain⟨_,b',ej⟩:=hb R hR _ _ _ hf;rw[ej]at ha;simp only[aK,aY]at ha hl;obtain⟨_,rfl⟩:=ha;obtain⟨rfl,rfl⟩:=hl;obtain⟨F1,F2,s1,s2,d,rr⟩:=az.aP _ XH ro;refine⟨F1,F2,s1,s2,d,?_⟩;have:=(az.stamp site _).1 rr;simp only[Mk.stamp,az]at this⊢;exact this
    .simp at hl
   | _=>simp at hl
  | val t' x'=>simp only[gF]at hl;exact hval _ _ _ _ _ _ _ _ hl r
  | unit=>simp only[gF]at hl;exact hval _ _ _ _ _ _ _ _ hl r
  | _=>simp[gF]at hl
 | unit=>
  intro a p md xd m mm o yy c cu base F Os hf ha r hc ro hle kD hl;cases a with
  | val t' x'=>simp only[gF]at hl;exact hval _ _ _ _ _ _ _ _ hl r
  | unit=>simp only[gF]at hl;exact hval _ _ _ _ _ _ _ _ hl r
  | _=>simp[gF]at hl
 | int k=>
  intro a p md xd m mm o yy c cu base F Os hf ha r hc ro hle kD hl;cases a with
  | val t' x'=>simp only[gF]at hl;exact hval _ _ _ _ _ _ _ _ hl r
  | unit=>simp only[gF]at hl;exact hval _ _ _ _ _ _ _ _ hl r
  | _=>simp[gF]at hl
 | bool=>
  intro a p md xd m mm o yy c cu base F Os hf ha r hc ro hle kD hl;cases a with
  | val t' x'=>simp only[gF]at hl;exact hval _ _ _ _ _ _ _ _ hl r
  | unit=>simp only[gF]at hl;exact hval _ _ _ _ _ _ _ _ hl r
  | _=>simp[gF]at hl
 | str=>
  intro a p md xd m mm o yy c cu base F Os hf ha r hc ro hle kD hl;cases a with
  | val t' x'=>simp only[gF]at hl;exact hval _ _ _ _ _ _ _ _ hl r
  | unit=>simp only[gF]at hl;exact hval _ _ _ _ _ _ _ _ hl r
  | _=>simp[gF]at hl
theorem vV{t:Ty}{md mm:Mk}{xd yy:t.den}(hl:(if md.still=true then some (Mk.no,xd) else none)=some (mm,yy)):md.still=true/\mm=.no/\yy=xd:=by
 split at hl
 .rename_i hs;simp only[aK,aY]at hl;exact⟨hs,hl.1.symm,hl.2.symm⟩
 .simp at hl
theorem ab7{hd:Nat->Value}{site q:Nat}(hs:site<1048576):∀(t:Ty){a:AV}{p:Path}{md:Mk}{xd:t.den}{m mm:Mk}{o yy:t.den}{c:List Value},
  gF site q t a p md xd m o=some (mm,yy)->aM hd t md c->aM hd t mm c/\md.nE site (site+1) mm:=by
 intro t
 induction t with
 | pair ta tb fU kS=>
  intro a p md xd m mm o yy c hl ni;cases a with
  | pair u v=>simp only[gF,cM,aK,aY]at hl;obtain⟨y,hy,z',hz,rfl,rfl⟩:=hl;simp only[aM]at ni⊢;have h1:=fU hy ni.1;have h2:=kS hz ni.2;exact⟨⟨h1.1,h2.1⟩,h1.2,h2.2⟩
  | val t' x'=>simp only[gF]at hl;obtain⟨_,rfl,rfl⟩:=vV hl;exact⟨aM.no _ _,trivial⟩
  | unit=>simp only[gF]at hl;obtain⟨_,rfl,rfl⟩:=vV hl;exact⟨aM.no _ _,trivial⟩
  | _=>simp[gF]at hl
 | sl e ih=>
  intro a p md xd m mm o yy c hl ni;cases a with
  | b9 r' p' s=>
   simp only[gF]at hl;cases md with
   | own s' m0=>
    simp only at hl;split at hl
    .rename_i nY;obtain⟨rfl,rfl,oE,XH⟩:=nY;simp only[aK,aY]at hl;obtain⟨rfl,rfl⟩:=hl;simp only[aM]at ni⊢;exact⟨⟨ni.1,Mk.cN hs oE⟩,.inr ⟨_,rfl,Mk.eP _ (Mk.dQ site oE)⟩⟩
    .simp at hl
   | _=>simp at hl
  | val t' x'=>simp only[gF]at hl;obtain⟨_,rfl,rfl⟩:=vV hl;exact⟨aM.no _ _,trivial⟩
  | unit=>simp only[gF]at hl;obtain⟨_,rfl,rfl⟩:=vV hl;exact⟨aM.no _ _,trivial⟩
  | _=>simp[gF]at hl
 | _=>
  intro a p md xd m mm o yy c hl ni;cases a with
  | val t' x'=>simp only[gF]at hl;obtain⟨_,rfl,rfl⟩:=vV hl;exact⟨aM.no _ _,trivial⟩
  | unit=>simp only[gF]at hl;obtain⟨_,rfl,rfl⟩:=vV hl;exact⟨aM.no _ _,trivial⟩
  | _=>simp[gF]at hl
theorem aaN{h h2:Array Obj}{Pr gh:BS}{site q:Nat}:∀(t:Ty){a:AV}{p:Path}{md:Mk}{xd:t.den}{m mm:Mk}{o yy:t.den}{c:List Value}{base:fK}{F F1:BS},
  gF site q t a p md xd m o=some (mm,yy)->az h Pr t md xd c F->az h2 gh t mm yy c F1->
  ∀p' t1 n1,jH site (site+1) p'=true->q8 t mm p'=some (t1,n1)->bu t xd p'->bu t yy p'/\∀bp cp,cr h t c base p'=some (bp,cp)->
   ∃iR,cr h2 t c base p'=some (bp,iR)/\(∀s a,n1=.own s a->¬ (site<=s/\s<site+1)->iR=cp):=by
 intro t;have hval:∀(t:Ty)(c:List Value)(base:fK)(x:t.den)(p':Path)(t1:Ty)(n1:Mk),jH site (site+1) p'=true->q8 t .no p'=some (t1,n1)->bu t x p'->bu t x p'/\∀bp cp,cr h t c base p'=some (bp,cp)->
   ∃iR,cr h2 t c base p'=some (bp,iR)/\(∀s a,n1=.own s a->¬ (site<=s/\s<site+1)->iR=cp):=by
  intro t c base x p' t1 n1 hp gX hi;obtain⟨hi',zx⟩:=Dr (lo:=site) (hi:=site+1) p' (m:=.no) trivial hp gX;refine⟨hi,fun bp cp ha=>?_⟩;obtain⟨iR,h3⟩:=IT (h':=h2) p' _ c _ hi' ha;exact⟨iR,h3,fun s a' e hs=>by subst e;exact absurd zx hs⟩
 have An:∀(t:Ty)(mm:Mk)(c:List Value)(base:fK)(y:t.den)(t1:Ty)(n1:Mk),bu t y []/\∀bp cp,cr h t c base []=some (bp,cp)->
   ∃iR,cr h2 t c base []=some (bp,iR)/\(∀s a,n1=.own s a->¬ (site<=s/\s<site+1)->iR=cp):=by
  intro t mm c base y t1 n1;refine⟨xP _ _,fun bp cp ha=>?_⟩;rw[EX]at ha;exact⟨cp,by rw[EX];exact ha,fun _ _ _ _=>rfl⟩
 induction t with
 | pair ta tb fU kS=>
  intro a p md xd m mm o yy c base F F1 hl r r2 p' t1 n1 hp gX hi;cases a with
  | pair u v=>
   simp only[gF,cM,aK,aY]at hl;obtain⟨y,hy,z',hz,rfl,rfl⟩:=hl;simp only[az]at r r2;obtain⟨da,db,Fa,Fb,rfl,ra,rb,-⟩:=r;obtain⟨ea,eb,Ea,Eb,ee,qa,qb,-⟩:=r2;obtain⟨rfl,rfl⟩:=List.append_inj ee (by rw[az.width _ ra,az.width _ qa]);have hw:=az.width _ ra;cases p' with
   | nil=>exact An _ (.pr y.1 z'.1) _ _ _ t1 _
   | cons st p'=>
    cases st with
    | fst=>simp only[q8,Mk.fst]at gX;simp only[bu]at hi⊢;obtain⟨h1,h3⟩:=fU (base:=base) hy ra qa p' t1 n1 (by simpa [jH] using hp) gX hi;refine⟨h1,fun bp cp ha=>?_⟩;simp only[cr]at ha⊢;rw[<-hw,jq rfl]at ha⊢;exact h3 _ _ ha
    | snd=>simp only[q8,Mk.snd]at gX;simp only[bu]at hi⊢;obtain⟨h1,h3⟩:=kS (base:=base.map fun x=>(x.1,x.2+ta.width)) hz rb qb p' t1 n1 (by simpa [jH] using hp) gX hi;refine⟨h1,fun bp cp ha=>?_⟩;simp only[cr]at ha⊢;rw[<-hw,i5 rfl]at ha⊢;rw[hw]at ha⊢;exact h3 _ _ ha
    | idx i s=>simp[q8]at gX
  | val t' x'=>simp only[gF]at hl;obtain⟨_,rfl,rfl⟩:=vV hl;exact hval _ _ _ _ _ _ _ hp gX hi
  | unit=>simp only[gF]at hl;obtain⟨_,rfl,rfl⟩:=vV hl;exact hval _ _ _ _ _ _ _ hp gX hi
  | _=>simp[gF]at hl
 | sl e ih=>
  intro a p md xd m mm o yy c base F F1 hl r r2 p' t1 n1 hp gX hi;cases a with
  | b9 r' p0 s=>
   simp only[gF]at hl;cases md with
   | own s' m0=>
    simp only at hl;split at hl
    .rename_i nY;obtain⟨rfl,rfl,oE,XH⟩:=nY;simp only[aK,aY]at hl;obtain⟨rfl,rfl⟩:=hl;cases p' with
     | nil=>exact An _ .no _ _ _ t1 _
     | cons st p'=>
      cases st with
      | fst=>simp[q8]at gX
      | snd=>simp[q8]at gX
      | idx i s=>
       simp only[q8]at gX;split at gX
       .rename_i hss;simp only[jH,bI]at hp;obtain⟨hip,zx⟩:=Dr p' (Mk.dQ site oE) hp.2 gX;simp only[az]at r r2;obtain⟨a1,k1,rfl,nO,r⟩:=r;obtain⟨a2,k2,e2,iJ,r2⟩:=r2;simp only[eZ,Value.slice.injEq,iQ]at e2;obtain⟨rfl,hlen,rfl⟩:=e2;simp only[bu]at hi⊢;refine⟨⟨hlen ▸ hi.1,zQ _ _ hip gX⟩,fun bp cp ha=>?_⟩;rcases r2 with r2 | ⟨b,cs,rfl,fb,hb,hsz,-⟩
        .omega
        obtain⟨ty,lo,hi',he,_⟩:=hb;simp only[cr,he];simp only[cr]at ha;split at ha
        .obtain⟨iR,h3⟩:=IT (h':=h2) p' _ (sub cs (i * e.width) e.width) _ hip ha;exact⟨iR,h3,fun s a' e hs=>by subst e;exact absurd zx hs⟩
        .simp at ha
       .simp at gX
    .simp at hl
   | _=>simp at hl
  | val t' x'=>simp only[gF]at hl;obtain⟨_,rfl,rfl⟩:=vV hl;exact hval _ _ _ _ _ _ _ hp gX hi
  | unit=>simp only[gF]at hl;obtain⟨_,rfl,rfl⟩:=vV hl;exact hval _ _ _ _ _ _ _ hp gX hi
  | _=>simp[gF]at hl
 | _=>
  intro a p md xd m mm o yy c base F F1 hl r r2 p' t1 n1 hp gX hi;cases a with
  | val t' x'=>simp only[gF]at hl;obtain⟨_,rfl,rfl⟩:=vV hl;exact hval _ _ _ _ _ _ _ hp gX hi
  | unit=>simp only[gF]at hl;obtain⟨_,rfl,rfl⟩:=vV hl;exact hval _ _ _ _ _ _ _ hp gX hi
  | _=>simp[gF]at hl
theorem abg{h:Array Obj}{S:St}{g:aA}{q:Nat}{t:Ty}{a:AV}{p:Path}{md:Mk}{xd:t.den}{z:Mk×t.den}{rp:Nat×Path}{v:Value}
  (hp:kF a=some rp) (hl:kg q t a p md xd=some z) (hv:qe h S g a v):∃c,v=dL t c/\dh h S g a c:=by
 cases a with
 | b9 r' p' s=>
  cases t with
  | sl e=>simp only[qe]at hv;exact⟨[v],by simp[dL,Ty.agg],by simp only[dh];exact⟨v,rfl,hv⟩⟩
  | _=>simp[kg]at hl
 | pair a b=>
  cases t with
  | pair ta tb=>simp only[qe]at hv;obtain⟨ca,cb,rfl,h1,h2⟩:=hv;exact⟨ca++cb,by simp[dL,Ty.agg],by simp only[dh];exact⟨ca,cb,rfl,h1,h2⟩⟩
  | _=>simp[kg]at hl
 | _=>simp[kF]at hp
section
variable {P:Program} {C:Ctx} {D:Den C} {S:St} {g:aA} {w:World} {tmps:Array Value}
variable {A:bY} {site:Nat} (dz:ot P C D) (st:aE w.heap S g tmps Nil)
include dz st
theorem aaG{f:FuncId}{aJ:List AV}{vs:List Value}{d:Option Nat}(ok:nM A S d site)(hfr:site<1048576/\∀u,(S.get u).aQ site (site+1)=true)
  (ha:l9 w.heap S g aJ vs) (Xo:(C.sig f).params.all (fun k=>!k.mh)=true) {gd:ju (C.sig f).params} (h1:f5 S.rt (C.sig f).params aJ=some (gd,S.rt))
  {od:dI (C.sig f).params} {fk:aO} {n:Nat} {u0:AV} {v0:Value} {q:Nat} {p:Path} {R:aC} {md:Mk} {t:Ty} {xd:t.den} {m m' mx:Mk} {x:t.den} (rJ:qe w.heap S g u0 v0)
  (L:wC w.heap (C.sig f).params aJ vs S.rt fk od n u0 v0 q p R md t xd m m' mx x) {a:gf (C.sig f).params} (h3:jk fk (C.sig f).params aJ gd od=some a)
  (hs:mL (C.sig f).params aJ=true\/(C.sig f).full=true) {r:f9 (C.sig f).res×dI (C.sig f).params} (hD:D f a=some r) {β:Bool} {v:AV} {y_ rt':aO}
  (ho:gb S.rt site (C.sig f).params aJ r.2=some y_) (he:(mA A y_ d site (C.sig f).res r.1).dec β=some (v,rt')) :
  Calls P f vs.toArray w fun e w'=>∃val,e=.returned val/\Post S g w tmps v rt' val w':=by
 have hR:=L.root;have bO:(S.root q).isSome:=by show(S.rt.root q).isSome=true;rw[hR];rfl
 obtain⟨cu,Kt,WU⟩:=abg L.place L.xz rJ;have hin:=ac3 hR t L.D6 WU L.xz L.paths L.place;obtain⟨base,c,F,q1,q2,q3,q4,q5,q6⟩:=st.m4 hR L.D6 hin;have q2l:=Sy hR t L.D6 q1 q2 WU L.xz L.paths;have XL:aM g.hd t md c:=aM.at p (st.tag q R hR) L.D6 q1;obtain⟨F1,F2,s1,s2,s3,s4⟩:=az.aP t L.Ud q2l;have pe:=(st.gD bO).cP F2 (fun z hz=>.inr (q3 z (s2 z hz)))
 let g2:aA:={ g with Pr:=Un g.Pr F2 }
 have Au:Kp w.heap S g (S.aI q none) g2:=(Nc st q).trans (Jz (st.gD bO) F2)
 let Fs:Nat->BS:=fun j=>if j=n then F1 else Nil
 have pX:∀i,Sub (Fs i) (fun z=>(Nil z\/g.G q z)/\¬ F2 z):=by
  intro i z hz;simp only[Fs]at hz;split at hz
  .exact⟨.inr (q3 z (s1 z hz)),fun h=>s3 z hz h⟩
  .exact hz.elim
 have e2:fk=(S.aI q none).rt:=L.fk;subst e2;obtain⟨gg1,HH1,FF,kk⟩:=Cn (sl:=S.sl) (C.sig f).params aJ vs S.rt g Nil 0 gd S.rt ha st h1;have hG:=Fe (h2:=w.heap) (gh:=g2.Pr) (pP:=Fs) (C.sig f).params 0 Xo kk.2.2.2.2.1;have hL:=L.ls g2.Pr Fs 0 (by
  simp only[kB,Fs,aX];exact⟨cu,s4,Kt⟩)
 have hps:=yG pe (sh:=mL (C.sig f).params aJ) (Fs:=Fs) (C.sig f).params aJ vs 0 gd od a (fun h=>h) (ha.kp Au) hG hL h3;have Ed:∀i j,i≠j->cB (Fs i) (Fs j):=by
  intro i j hij z h1 h2;simp only[Fs]at h1 h2;split at h1
  .split at h2
   .omega
   .exact h2
  .exact h1
 have pre:Pre w.heap (Seen (mL (C.sig f).params aJ) (S.aI q none) g2) Fs (C.sig f).params a vs:=
  ⟨hps,Ed,fun i z hz=>Bb pe _ z (pX i z hz),fun i z hz=>pe.ep z (pX i z hz),Bc pe _⟩
 refine(dz.ok f a r hD w _ Fs vs pre).mono ?_;rintro e w' ⟨val,fP,Gs,Os,us,rfl,p0⟩;obtain⟨y,hy1,EH⟩:=L.out r.2;have eS:=hy1 S.rt site y_ ho;obtain⟨cu',CE,D5⟩:=EH _ _ _ _ p0.out;rw[kB]at CE;obtain rfl:cu=cu':=akP q2l CE (Kt.symm.trans D5);have jf:∀z,tS w.heap.size Fs z->w.heap.size<=z\/F1 z:=by
  rintro z (h | ⟨i,h⟩)
  .exact .inl h
  .simp only[Fs]at h;split at h
   .exact .inr h
   .exact h.elim
 let D0:BS:=fun z=>mL (C.sig f).params aJ=true/\fP z/\¬ g.Pr z
 have hD0:∀z,D0 z->F z\/Nil z\/w.heap.size<=z:=by
  rintro z ⟨hsh,h1,h2⟩;rcases p0.kZ z h1 with h3 | h3
  .rw[hsh]at h3;simp only[Seen,aX]at h3;rcases h3 with h3 | h3
   .exact absurd h3 h2
   .exact .inl (s2 z h3)
  .rcases jf z h3 with h4 | h4
   .exact .inr (.inr h4)
   .exact .inl (s1 z h4)
 have hOm:∀z,Os n z->F z\/Nil z\/w.heap.size<=z:=by
  intro z hz;rcases jf z (p0.oL n z hz) with h4 | h4
  .exact .inr (.inr h4)
  .exact .inl (s1 z h4)
 have hfull:mL (C.sig f).params aJ=false->(C.sig f).full=true:=fun h=>hs.resolve_left (by rw[h];simp);have yZ:az w'.heap (Un g.Pr D0) t m' y cu (Os n):=by
  cases hsh:mL (C.sig f).params aJ with
  | true=>
   refine az.mono (fun z hz=>?_) (fun _ _=>rfl) _ CE (Sub.refl _) (fun _ _=>rfl);by_cases h1:g.Pr z
   .exact .inl h1
   .exact .inr ⟨hsh,hz,h1⟩
  | false=>have h5:=hfull hsh;simp only[wE.full,bI]at h5;exact az.lR _ (L.full h5.1) CE
 have W9:∀z,z<w.heap.size->¬ F z->w'.heap[z]? = w.heap[z]?:=fun z hz Am=>p0.fr.block z hz (fun h=>by
   rcases jf z h with h4 | h4
   .omega
   .exact Am (s1 z h4))
 have Jh:∀b,g.Pr b->w'.heap[b]? = w.heap[b]?:=fun b hb=>W9 b (st.bQ b hb) (fun h=>st.er q bO b (q3 b h) hb);unfold xV at eS;rw[L.place]at eS;simp only at eS;rw[hR]at eS;simp only[cM]at eS;obtain⟨dd,lH,eS⟩:=eS;rw[L.D6]at lH;simp only[aK]at lH;subst lH;simp only[↓reduceDIte,cM]at eS;obtain⟨⟨mm,yy⟩,Xe,eS⟩:=eS;simp only at eS;split at eS
 .simp at eS
 rename_i hidx;simp only[cM,aK]at eS;obtain⟨⟨mr,xr⟩,hput,eS⟩:=eS;subst eS;obtain⟨G1,G2,t1,t2,t3,rf⟩:=ab6 (site:=site) hR (fun z hz=>Or.inl hz) Jh t L.D6 q1 q2 WU yZ ⟨_,L.xz⟩ L.paths Xe;obtain⟨ni,XP⟩:=ab7 hfr.1 t Xe XL;have Ez:=aaN (base:=base) t Xe q2 rf
 let Dd:BS:=fun z=>D0 z\/G2 z
 have Wz:∀z,Dd z->F z\/Nil z\/w.heap.size<=z:=by
  rintro z (h | h)
  .exact hD0 z h
  .exact hOm z (t2 z h)
 obtain⟨g',k1,k2,k3,k4,k5,k6,k7⟩:=q6 site (site+1) w'.heap mm yy c G1 Dd mr xr hfr.2
  (fun z hz Am _=>W9 z hz Am)
  p0.fr.size
  (by
   intro b o e cs hcs;obtain⟨gC,h5,h6⟩:=zj.self q4 b o e cs hcs;exact⟨gC,h5.congr (W9 b (by obtain⟨_,_,_,h7,_⟩:=hcs;exact(rC.1 h7).1) (q4 b o e).1),h6⟩)
  (az.mono (fun z hz=>hz.elim (fun h=>h.imp id .inl) (fun h=>.inr (.inr h))) (fun _ _=>rfl) _ rf (Sub.refl _) (fun _ _=>rfl))
  (fun z h1 h2=>h1.elim (fun h1=>p0.op n z (t1 z h2) h1.2.1) (fun h1=>t3 z h2 h1))
  (fun z hz=>hz.elim (fun h=>hOm z (t1 z h)) (Wz z))
  (fun z hz=>hz.elim (fun h=>p0.Ay n z (t1 z h)) (fun h=>h.elim (fun h=>p0.AD z h.2.1) (fun h=>p0.Ay n z (t2 z h))))
  hput XP ni (fun h=>by simpa [h] using hidx) Ez
 have hres:lu w'.heap g'.Pr Gs 0 (C.sig f).res r.1 us:=by
  refine lu.conv _ 0 ?_ p0.res;cases hsh:mL (C.sig f).params aJ with
  | true=>
   refine .inl (fun z hz=>?_);by_cases h1:g.Pr z
   .exact k2 z h1
   .exact k3 z (.inl ⟨hsh,hz,h1⟩)
  | false=>have h5:=hfull hsh;simp only[wE.full,bI]at h5;exact .inr h5.2
 have WC:∀i,Sub (Gs i) (fun z=>(Nil z\/F z\/(w.heap.size<=z/\z<w'.heap.size))/\¬ (G1 z\/Dd z)):=by
  intro i z hz;refine⟨?_,?_⟩
  .rcases jf z (p0.gL i z hz) with h4 | h4
   .exact .inr (.inr ⟨h4,p0.wJ i z hz⟩)
   .exact .inr (.inl (s1 z h4))
  .rintro(h | h | h)
   .exact p0.go i n z hz (t1 z h)
   .exact p0.gp i z hz h.2.1
   .exact p0.go i n z hz (t2 z h)
 obtain⟨g4,u1,u2,u3⟩:=G_ (S:=S) k1 WC p0.z_ ok (C.sig f).res hres he;refine⟨val,rfl,g4,u1,by rw[p0.val];exact u2,k4.trans u3,p0.fr.mono ?_⟩;intro z hz h;rcases jf z h with h4 | h4
 .omega
 .exact st.own q _ bO (q3 z (s1 z h4))
end
theorem l9.append{h:Array Obj}{S:St}{g:aA}:∀{aJ bs:List AV}{vs ws:List Value},l9 h S g aJ vs->l9 h S g bs ws->l9 h S g (aJ++bs) (vs++ws)
 | [],bs,vs,ws,k,k2=>by simp only[l9]at k;subst k;simpa using k2
 | a::aJ,bs,vs,ws,k,k2=>by
  obtain⟨v,vs',rfl,r1,r2⟩:=k;exact⟨v,vs'++ws,rfl,r1,l9.append r2 k2⟩
theorem NR{h:Array Obj}{S:St}{g:aA}:∀{c:AV}{vs:List Value},aN h S g c vs->l9 h S g (mY c) vs
 | .unit,vs,k=>by simp only[aN]at k;exact k
 | .pair a b,vs,k=>by
  simp only[aN]at k;obtain⟨v,vs',rfl,r1,r2⟩:=k;exact⟨v,vs',rfl,r1,NR r2⟩
 | .undef,_,k=>by simp only[aN]at k
 | .skip,_,k=>by simp only[aN]at k
 | .cG _,_,k=>by simp only[aN]at k
 | .fm,_,k=>by simp only[aN]at k
 | .val _ _,_,k=>by simp only[aN]at k
 | .b9 _ _ _,_,k=>by simp only[aN]at k
 | .view _ _ _ _ _,_,k=>by simp only[aN]at k
 | .addr _ _,_,k=>by simp only[aN]at k
 | .cj _ _,_,k=>by simp only[aN]at k
 | .jJ _,_,k=>by simp only[aN]at k
 | .gH _ _,_,k=>by simp only[aN]at k
 | .eA _,_,k=>by simp only[aN]at k
theorem Is{h:Array Obj}{S:St}{g:aA}{ρ:Operand->AV}{ev:Operand->Value}(hρ:∀x,qe h S g (ρ x) (ev x)):∀(l:List Operand),l9 h S g (l.map ρ) (l.map ev)
 | []=>rfl
 | x::l=>⟨_,_,rfl,hρ x,Is hρ l⟩
theorem ab8{h:Array Obj}{Pr:BS}{Gs:Nat->BS}{us:List Value}:∀(rs:List RK)(r:f9 rs)(t:Ty)(y:t.den),Fq rs r t=some y->lu h Pr Gs 0 rs r us->
  ∃c F m,us=[dL t c]/\az h Pr t m y c F
 | [],r,t,y,hy,k=>by simp[Fq]at hy
 | [.val t' m],r,t,y,hy,k=>by
  simp only[Fq]at hy;obtain⟨u,vs',rfl,⟨c,rr,rfl⟩,k2⟩:=k;simp only[lu]at k2;subst k2;obtain⟨rfl,rr2⟩:=az.cast hy rr;exact⟨c,_,m,rfl,rr2⟩
 | [.ptr t' m],r,t,y,hy,k=>by simp[Fq]at hy
 | .val _ _::_::_,r,t,y,hy,k=>by simp[Fq]at hy
 | .ptr _ _::_::_,r,t,y,hy,k=>by simp[Fq]at hy
section
variable {P:Program} {C:Ctx} {D:Den C} {S:St} {g:aA} {w:World} {tmps:Array Value} {a:Act} {ρ:Operand->AV}
variable {A:bY} {site:Nat} {hint:Bool} (bn:iC P C) (dz:ot P C D) (st:aE w.heap S g tmps Nil) (hρ:∀x,qe w.heap S g (ρ x) (a.eval x))
include dz st
theorem R9{f:FuncId}{aJ:List AV}{vs:List Value}{d:Option Nat}(ok:nM A S d site)(ha:l9 w.heap S g aJ vs)(ht:bZ (rS C D A S.rt d site f aJ)) :
  Calls P f vs.toArray w fun | .returned val,w''=>rW S g w tmps (rS C D A S.rt d site f aJ) val w'' | _,_=>False:=by
 obtain⟨⟨v,rt'⟩,hd⟩:=ht true;have s9:∀{Q:Value->World->Prop},Calls P f vs.toArray w (fun e w'=>∃val,e=.returned val/\Post S g w tmps v rt' val w')->
   Calls P f vs.toArray w fun | .returned val,w''=>rW S g w tmps (rS C D A S.rt d site f aJ) val w'' | _,_=>False:=by
  intro Q h;refine h.mono ?_;rintro e w' ⟨val,rfl,hp⟩;exact⟨true,v,rt',hd,hp⟩
 refine s9 (Q:=fun _ _=>True) ?_;clear s9;unfold rS at hd;cases h1:f5 S.rt (C.sig f).params aJ with
 | none=>rw[h1]at hd;simp[Tr.dec]at hd
 | some z=>
  obtain⟨gd,d8⟩:=z;rw[h1]at hd;simp only at hd;cases h2:gE d8 (C.sig f).params aJ with
  | none=>rw[h2]at hd;simp[Tr.dec]at hd
  | some z=>
   obtain⟨od,fk⟩:=z;rw[h2]at hd;simp only at hd;cases h3:jk fk (C.sig f).params aJ gd od with
   | none=>rw[h3]at hd;simp[Tr.dec]at hd
   | some aa=>
    rw[h3]at hd;simp only at hd;by_cases hc:(Ig (C.sig f).params&&(mL (C.sig f).params aJ||(C.sig f).full))=true
    .rw[aj hc]at hd;simp only[bI,jB]at hc;simp only[Tr.dec,cM]at hd;obtain⟨r,hD,hd⟩:=hd;by_cases hn:(C.sig f).params.all (fun k=>!k.eG)=true
     .rw[aj hn]at hd;exact ajU dz st ok ha h1 hn h2 h3 hc.2 hD hd
     .rw[af hn]at hd;by_cases hfr:A.fr=true
      .rw[aj hfr]at hd;cases hlo:v5 (C.sig f).params aJ with
       | false=>rw[hlo]at hd;simp[Tr.dec]at hd
       | true=>
       rw[hlo]at hd;simp only[Tr.dec]at hd;cases h4:gb d8 site (C.sig f).params aJ r.2 with
       | none=>rw[h4]at hd;simp[Tr.dec]at hd
       | some y_=>
        rw[h4]at hd;simp only at hd;have hone:(List.filter PK.eG (C.sig f).params).length=1/\(C.sig f).params.all (fun k=>!k.mh)=true:=by
         have:=hc.1;unfold Ig at this;split at this
         .rename_i h5;exfalso;rw[SK]at h5;exact hn (by simpa using h5)
         .rename_i h5;rw[h5];exact⟨rfl,this⟩
         .simp at this
        obtain rfl:=J_ _ _ _ _ _ hone.2 h1;obtain⟨n,a0,v0,rJ,wM⟩:=Sx (C.sig f).params aJ vs S.rt fk od hone.1 ha h2 hlo;rcases wM with⟨q,t,m,m',R,x,rfl,L⟩ | ⟨q,p,R,md,t,xd,m,m',mx,x,L⟩
        .exact aaF dz st ok (ok.fr hfr) ha hone.2 h1 rJ L h3 hc.2 hD h4 hd
        .exact aaG dz st ok (ok.fr hfr) ha hone.2 h1 rJ L h3 hc.2 hD h4 hd
      .rw[af hfr]at hd;simp[Tr.dec]at hd
    .rw[af hc]at hd;simp[Tr.dec]at hd
theorem q9o{h:Array Obj}{tmps:Array Value}{sl:List AV}:∀(ks:List PK)(aJ:List AV)(vs:List Value)(rt:aO)(g:aA)(z:List AV×aO),
  l9 h ⟨sl,rt⟩ g aJ vs->aE h ⟨sl,rt⟩ g tmps Nil->k_ rt ks aJ=some z->
  ∃g1,aE h ⟨sl,z.2⟩ g1 tmps Nil/\Kp h ⟨sl,rt⟩ g ⟨sl,z.2⟩ g1/\g1.cR g/\l9 h ⟨sl,z.2⟩ g1 z.1 vs
 | [],[],vs,rt,g,z,ha,st,hb=>by
  simp only[k_,aK]at hb;subst hb;exact⟨g,st,Kp.refl,.refl _,ha⟩
 | [],_::_,vs,rt,g,z,ha,st,hb=>by simp[k_]at hb
 | k::ks,[],vs,rt,g,z,ha,st,hb=>by cases k<;>simp[k_]at hb
 | k::ks,a::aJ,vs,rt,g,z,ha,st,hb=>by
  obtain⟨v,vs',rfl,r1,r2⟩:=ha;have plain:(k_ rt ks aJ).map (fun z=>(a::z.1,z.2))=some z->∃g1,aE h ⟨sl,z.2⟩ g1 tmps Nil/\Kp h ⟨sl,rt⟩ g ⟨sl,z.2⟩ g1/\g1.cR g/\l9 h ⟨sl,z.2⟩ g1 z.1 (v::vs'):=by intro hb;simp only[fq]at hb;obtain⟨z',h1,rfl⟩:=hb;obtain⟨g1,k1,k2,k3,k4⟩:=q9o ks aJ vs' rt g z' r2 st h1;exact⟨g1,k1,k2,k3,v,vs',rfl,k2 _ _ r1,k4⟩
  cases k with
  | val t=>
   simp only[k_]at hb;split at hb
   .exact plain hb
   .split at hb
    .rename_i m y fk sg;split at hb
     .rename_i hm;simp only[fq]at hb;obtain⟨z',h1,rfl⟩:=hb;obtain⟨c,g2,F,ev,cI⟩:=yW (S:=⟨sl,rt⟩) _ st sg r1;have pe:=(cI.st.cP F (fun b hb=>.inr hb)).bB (Sub.nil _);have Au:Kp h ⟨sl,rt⟩ g ⟨sl,fk⟩ { g2 with Pr:=Un g2.Pr F }:=Kp.trans cI.kp (Jz cI.st F);have x:qe h ⟨sl,fk⟩ { g2 with Pr:=Un g2.Pr F } (.val t y) v:=by simp only[qe];exact⟨c,az.share t hm cI.rep,ev⟩
      obtain⟨g1,k1,k2,k3,k4⟩:=q9o ks aJ vs' fk _ z' (r2.kp Au) pe h1;exact⟨g1,k1,Au.trans k2,cI.same.trans (aA.cR.trans ⟨rfl,rfl,rfl⟩ k3),v,vs',rfl,k2 _ _ x,k4⟩
     .simp at hb
    .simp at hb
  | _=>exact plain (by simpa only [k_] using hb)
theorem Mm:∀(ts:List Ty)(aJ:List AV)(vs:List Value)(l:List bL),l9 w.heap S g aJ vs->yY S.rt ts aJ=some l->nT w.heap (PG (zk S g)) l vs
 | [],aJ,vs,l,ha,hb=>by
  cases aJ with
  | nil=>simp only[yY,aK]at hb;subst hb;exact ha
  | cons a aJ=>simp[yY]at hb
 | t::ts,[],vs,l,ha,hb=>by simp[yY]at hb
 | t::ts,a::aJ,vs,l,ha,hb=>by
  obtain⟨v,vs',rfl,r1,r2⟩:=ha;simp only[yY,cM,aK]at hb;obtain⟨x,hx,l',hl,rfl⟩:=hb;obtain⟨c,e,r⟩:=qL st t hx r1;exact⟨v,vs',rfl,⟨c,r,e⟩,Mm ts aJ vs' l' r2 hl⟩
theorem PZ{h:Array Obj}{g:aA}:∀{l l2:List bL}{vs ws:List Value},nT h g l vs->nT h g l2 ws->nT h g (l++l2) (vs++ws)
 | [],_,vs,ws,k,k2=>by simp only[nT]at k;subst k;simpa using k2
 | c::l,_,vs,ws,k,k2=>by
  obtain⟨v,vs',rfl,r1,r2⟩:=k;exact⟨v,vs'++ws,rfl,r1,PZ r2 k2⟩
theorem HU{h:Array Obj}{Pr:BS}{Fs:Nat->BS}:∀(ks:List PK)(l:List bL)(vs:List Value)(i:Nat)(aa:gf ks),yP ks l=some aa->nT h (PG Pr) l vs->yU h Pr Fs i ks aa vs/\ks.all PK.plain=true
 | [],l,vs,i,aa,hp,hc=>by
  cases l with
  | nil=>exact⟨hc,rfl⟩
  | cons c l=>simp[yP]at hp
 | k::ks,[],vs,i,aa,hp,hc=>by cases k<;>simp[yP]at hp
 | k::ks,c::l,vs,i,aa,hp,hc=>by
  obtain⟨v,vs',rfl,r1,r2⟩:=hc;cases k with
  | val t=>
   cases c with
   | val t' x=>simp only[yP,cM,aK]at hp;obtain⟨y,hy,r,hr,rfl⟩:=hp;obtain⟨c,rr,e⟩:=r1;obtain⟨rfl,rr2⟩:=az.cast hy rr;obtain⟨p1,p2⟩:=HU ks l vs' (i+1) r hr r2;exact⟨⟨v,vs',rfl,⟨c,rr2,e⟩,p1⟩,by simpa [PK.plain] using p2⟩
   | _=>simp[yP]at hp
  | cm t=>
   cases c with
   | cm t' x=>simp only[yP,cM,aK]at hp;obtain⟨y,hy,r,hr,rfl⟩:=hp;obtain⟨e1,e2⟩:=Dv hy;subst e1;simp only at e2;subst e2;obtain⟨p1,p2⟩:=HU ks l vs' (i+1) r hr r2;exact⟨⟨v,vs',rfl,r1,p1⟩,by simpa [PK.plain] using p2⟩
   | _=>simp[yP]at hp
  | _=>cases c<;>simp[yP]at hp
theorem aan{h:Array Obj}{Pr gh:BS}{t:Ty}{m:Mk}{x:t.den}{c:List Value}{F F2:BS}(hs:t.scalar=true)(r:az h Pr t m x c F):az h gh t .no x c F2:=by cases t<;>simp[Ty.scalar]at hs<;>simpa only [az] using r
theorem aaz{cl:bk}{xs:List bL}{t:Ty}{y:t.den}{vs ws:List Value}(hs:t.scalar=true)(hy:iM C D cl xs t=some y)(hx:nT w.heap (PG (zk S g)) xs vs)(hw:nT w.heap g cl.caps ws) :
  Calls P cl.f (vs++ws).toArray w fun e w'=>∃val,e=.returned val/\Post S g w tmps (.val t y) S.rt val w':=by
 simp only[iM,cM]at hy;obtain⟨aa,ha,r,hD,hr⟩:=hy;obtain⟨hps,uh⟩:=HU dz st (Fs:=fun _=>Nil) (C.sig cl.f).params _ _ 0 aa ha (PZ dz st hx (H7 st (fun b hb=>.inl hb:Sub g.Pr (zk S g)) hw));have hv:=Bb st false;have pre:Pre w.heap (zk S g) (fun _=>Nil) (C.sig cl.f).params aa (vs++ws):=
  ⟨hps,fun _ _ _=>cB.nil _,fun _=>cB.nil _,fun _ _ h=>h.elim,Bc st false⟩
 refine(dz.ok cl.f aa r hD w _ _ _ pre).mono ?_;rintro e w' ⟨val,fP,Gs,Os,us,rfl,p⟩;have jf:∀z,tS w.heap.size (fun _=>Nil) z->w.heap.size<=z:=fun z h=>h.elim id (fun⟨_,h⟩=>h.elim);have DN:=st.grow (h2:=w'.heap) (fun b hb=>p.fr.block b hb (fun h=>absurd (jf b h) (by omega))) p.fr.size Nil (fun b hb=>hb.elim);obtain⟨c,F,m,hus,rr⟩:=ab8 _ _ _ _ hr p.res;refine⟨val,rfl,g,DN,?_,.refl g,p.fr.mono (fun z hz h=>absurd (jf z h) (by omega))⟩;rw[p.val,hus];simp only[qe,tJ];exact⟨c,aan dz st hs rr,rfl⟩
include bn hρ
theorem akn{o:Oper}{c:Call}{f:Operand}(ho:o.op=.call c)(hc:c.callee=.value f)(ok:nM A S o.dst site):Goal P C D S g w tmps a ρ A site hint o:=by
 intro ht;have oS:∀(ff:FuncId)(vs:List Value),Jv P ff->a.eval f=.func (.func ff) #[] vs.toArray->
   (execOp a.eval o).run P w=.ok (.enter ff (c.args.toList.map a.eval++vs).toArray) w:=by
  rintro ff vs ⟨fn,h1,h2,h3⟩ hv;have hb:¬ fn.body=none:=by intro hh;rw[hh]at h3;simp at h3
  have kN:c.args.map a.eval++vs.toArray=(c.args.toList.map a.eval++vs).toArray:=by apply yX;simp
  simp[execOp,ho,resolve,hc,Deferred.ofValue,hv,invoke,callFunc,h1,h2,hb,Sem.run_bind,<-kN]
 simp only[aV,ho,hc]at ht⊢;have hf:=hρ f;split at ht
 .rename_i ff caps hv;rw[hv]at hf;simp only[qe]at hf;obtain⟨vs,ev,XM⟩:=hf;have ha:=l9.append (Is hρ c.args.toList) (NR XM);have CV:∀{A:bY}{S:aO}{aJ:List AV},bZ (rS C D A S o.dst site ff aJ)->Jv P ff:=by
   intro A S aJ ht;obtain⟨⟨v,rt'⟩,hd⟩:=ht true;unfold rS at hd;split at hd
   .simp[Tr.dec]at hd
   .split at hd
    .simp[Tr.dec]at hd
    .split at hd
     .simp[Tr.dec]at hd
     .split at hd
      .simp only[Tr.dec,cM]at hd;obtain⟨r,hD,_⟩:=hd;exact dz.call _ _ _ hD
      .simp[Tr.dec]at hd
  by_cases vL:He (C.sig ff) (c.args.toList.map ρ++mY caps)=true
  .simp only[qO,aj vL]at ht⊢;cases hsa:k_ S.rt (C.sig ff).params (c.args.toList.map ρ++mY caps) with
   | none=>rw[hsa]at ht;exact absurd ht bZ.fail
   | some z=>
    rw[hsa]at ht;simp only at ht⊢;obtain⟨g1,DN,_,DK,ha1⟩:=q9o dz st (sl:=S.sl) (C.sig ff).params _ _ S.rt g z ha st hsa;rw[oS ff vs (CV ht) ev];refine(R9 dz (S:=⟨S.sl,z.2⟩) DN (A:={ A with sh:=hint }) ⟨ok.xB,ok.pl,ok.fr⟩ ha1 ht).mono ?_;rintro e w' he;cases e with
    | returned val=>obtain⟨β,v,rt',h1,g2,h2,h3,h4,h5⟩:=he;exact⟨β,v,rt',h1,g2,h2,h3,DK.trans h4,by rw[<-DK.2.1];exact h5⟩
    | _=>exact he
  .simp only[qO,af vL]at ht⊢;rw[oS ff vs (CV ht) ev];exact R9 dz st (A:={ A with sh:=hint }) ⟨ok.xB,ok.pl,ok.fr⟩ ha ht
 .rename_i cl hv;rw[hv]at hf;simp only[qe]at hf;obtain⟨vs,ev,KI⟩:=hf;by_cases hsc:(C.ty o.type).scalar=true
  .simp only[hsc,aX]at ht⊢;cases hx:yY S.rt (c.argTypes.toList.map C.ty) (c.args.toList.map ρ) with
   | none=>rw[hx]at ht;exact absurd ht bZ.fail
   | some xs=>
    rw[hx]at ht;simp only at ht⊢;obtain⟨⟨v,rt'⟩,hd⟩:=ht true;have hd0:=hd;simp only[Tr.dec,cM,aK,aY]at hd;obtain⟨y,hy,rfl,rfl⟩:=hd;have WS:Jv P cl.f:=by have:=hy;simp only[iM,cM]at this;obtain⟨aa,_,r,hD,_⟩:=this;exact dz.call _ _ _ hD
    rw[oS cl.f vs WS ev];have hxs:=Mm dz st _ _ _ _ (Is hρ c.args.toList) hx;refine(aaz dz st hsc hy hxs KI).mono ?_;rintro e w' ⟨val,rfl,hp⟩;exact⟨true,_,_,hd0,hp⟩
  .rw[af hsc]at ht;exact absurd ht bZ.fail
 .exact absurd ht bZ.fail
theorem acy{o:Oper}(ok:nM A S o.dst site):Goal P C D S g w tmps a ρ A site hint o:=
 alH bn st hρ ok fun c f ho hc=>akn bn dz st hρ ho hc ok
end
end Go.V
namespace Go.V
noncomputable section
open Go
theorem Sd{d:Nat}:∀(l:List AV)(i:Nat),sw d i l=true->∀k,i+k≠d->(l.getD k .undef).roots.contains d=false
 | [],i,_,k,_=>by simp[List.getD,AV.roots]
 | v::l,i,h,k,hk=>by
  simp only[sw,bI,jB,kA,MF]at h;cases k with
  | zero=>exact h.1.resolve_left (by simpa using hk)
  | succ k=>simpa [List.getD] using Sd l (i+1) h.2 k (by omega)
theorem Nj{d:Nat}:∀(l:List AV)(i:Nat),Fh d i l=true->∀k,i+k≠d->(l.getD k .undef).gJ d=true
 | [],i,_,k,_=>by simp[List.getD,AV.gJ]
 | v::l,i,h,k,hk=>by
  simp only[Fh,bI,jB,MF]at h;cases k with
  | zero=>exact h.1.resolve_left (by simpa using hk)
  | succ k=>simpa [List.getD] using Nj l (i+1) h.2 k (by omega)
theorem HG{s:Nat}:∀(l:List AV),IZ s l=true->∀k,(l.getD k .undef).aQ s (s+1)=true
 | [],_,k=>by simp[List.getD,AV.aQ]
 | v::l,h,k=>by
  simp only[IZ,bI]at h;cases k with
  | zero=>exact h.1
  | succ k=>simpa [List.getD] using HG l h.2 k
def St.blank(S:St):Option Nat->St
 | some d=>S.set d .undef
 | none=>S
theorem AL(S:St)(d:Nat)(u:Nat):(S.blank (some d)).get u=if u=d then .undef else S.get u:=by
 simp only[St.blank,St.gv];by_cases e:u=d
 .subst e;by_cases h:u<S.sl.length
  .simp[h]
  .simp only[h,and_false,dZ,aX];simp only[St.get_eq,List.getD];rw[pz (by omega)];rfl
 .simp[e]
theorem akb(S:St)(d:Option Nat)(site:Nat):nM (lI S.sl d site) (S.blank d) d site where
 xB:=by
  intro h d' hd u;subst hd;simp only[lI]at h;rw[AL];split
  .rfl
  .rename_i hu;rw[St.get_eq];exact Sd S.sl 0 h u (by omega)
 pl:=by
  intro h d' hd u;subst hd;simp only[lI]at h;rw[AL];split
  .rfl
  .rename_i hu;rw[St.get_eq];exact Nj S.sl 0 h u (by omega)
 fr:=by
  intro h;simp only[lI,bI,n8]at h;refine⟨h.1,fun u=>?_⟩;cases d with
  | none=>rw[St.get_eq];exact HG S.sl h.2 u
  | some d=>
   rw[AL];split
   .rfl
   .rw[St.get_eq];exact HG S.sl h.2 u
theorem aaV{h:Array Obj}{S:St}{g:aA}(v:Value):qe h S g (Bg v) v:=by
 unfold Bg;split
 .simp only[qe,az];exact⟨_,rfl,rfl⟩
 .simp only[qe,az];exact⟨_,rfl,rfl⟩
 .simp only[qe,az];exact⟨_,rfl,rfl⟩
 .simp only[qe]
 .simp only[qe]
theorem aj6{h:Array Obj}{S:St}{g:aA}{a:AV}{v:Value}(x:qe h S g a v):qe h S g a.flat v:=by
 cases a with
 | cG b=>simp only[qe]at x;subst x;simp only[AV.flat,qe,az];exact⟨_,rfl,rfl⟩
 | _=>exact x
theorem Od{h:Array Obj}{S:St}{g:aA}{a:Act}{H:BS}(st:aE h S g a.tmps H)(x:Operand):qe h S g (ev S x) (a.eval x):=by
 cases x with
 | tmp t=>exact aj6 (st.slots t)
 | const v=>exact aaV v
 | func f=>simp only[ev,qe,Act.eval];exact⟨[],rfl,by simp only[aN]⟩
 | global n=>simp only[ev,qe]
def Fc:List AV->List Nat->List AV
 | sl,[]=>sl
 | sl,t::ts=>Fc (sl.set t .undef) ts
theorem LW:∀(ts:List Nat)(S:St),S.forget ts=⟨Fc S.sl ts,S.rt⟩
 | [],_=>rfl
 | t::ts,S=>by simp only[St.forget,Fc];rw[LW ts,St.gl]
theorem P1(d:Nat)(x v:AV):∀(ts:List Nat)(sl:List AV),(Fc (sl.set d x) ts).set d v=(Fc sl ts).set d v
 | [],sl=>by simp[Fc]
 | t::ts,sl=>by
  simp only[Fc];by_cases e:d=t
  .subst e;rw[AJ]
  .rw[List.set_comm _ _ e];exact P1 d x v ts _
theorem aE.ox{h:Array Obj}{g:aA}{tmps:Array Value}{H:BS}:∀(ts:List Nat){S:St},aE h S g tmps H->aE h (S.forget ts) g tmps H
 | [],_,st=>st
 | t::ts,_,st=>aE.ox ts (st.forget t)
section
variable (C:Ctx) (D:Den C)
def n9(ops:Array Oper)(S:St)(o:Oper):Option Bool:=
 match o.guard with
 | none=>some true
 | some (j,b)=>
  match S.get (lz ops j) with
  | .skip=>some false
  | .cG c=>some (c == b)
  | .val .bool c=>some (c == b)
  | _=>none
noncomputable def g7(hints:Hints)(id:Nat)(ops:Array Oper)(β:Bool)(S:St)(i:Nat)(o:Oper):Option (St×jK):=
 match n9 ops S o with
 | some true=>((iL C D S (id * 256+i+1) (hints.share.contains (id,i)) o).dec β).map fun x=>(fin ops ⟨S.sl,x.2⟩ i o x.1,jI C ops S (id * 256+i+1) i o x.1 x.2)
 | some false=>some (fin ops S i o .skip,oK ops S (id * 256+i+1) i o)
 | none=>none
end
def vn(np:List Nat)(a a':Act):Prop:=∀t,t∈np->a'.tmps.getD t Go.undef=a.tmps.getD t Go.undef
theorem vn.refl(np:List Nat)(a:Act):vn np a a:=fun _ _=>rfl
theorem vn.trans{np:List Nat}{a b c:Act}(h:vn np a b)(k:vn np b c):vn np a c:=fun t ht=>(k t ht).trans (h t ht)
theorem vn.put{np:List Nat}{a:Act}{d:Option Nat}{v:Value}(h:∀d',d=some d'->d'∉np):vn np a (a.put d v):=by
 intro t ht;cases d with
 | none=>rfl
 | some d=>have:=h d rfl;simp only[Act.put,pq,FV];rw[af (by rintro rfl;exact this ht)]
section
variable {P:Program} {C:Ctx} {D:Den C} {S:St} {g:aA} {w:World} {a:Act} {np:List Nat}
variable (bn:iC P C) (dz:ot P C D) (st:aE w.heap S g a.tmps Nil)
include bn dz st
theorem NB{ops:Array Oper}{i:Nat}{o:Oper}{rt':aO}{g':aA}{h':Array Obj}{v:AV}{val:Value}(st':aE h' ⟨(S.blank o.dst).sl,rt'⟩ g' a.tmps Nil)
  (x:qe h' ⟨(S.blank o.dst).sl,rt'⟩ g' v val):aE h' (fin ops ⟨S.sl,rt'⟩ i o v) g' (a.put o.dst val).tmps Nil:=by
 have s1:=aE.ox (sG ops i o) st';have e1:=LW (sG ops i o) (⟨(S.blank o.dst).sl,rt'⟩:St);unfold fin uE;cases hd:o.dst with
 | none=>rw[hd]at s1;simp only[Act.put];exact s1
 | some d=>
  rw[hd]at s1 x e1;have x1:qe h' ((⟨(S.blank (some d)).sl,rt'⟩:St).forget (sG ops i o)) g' v val:=by have vA:=st';rw[hd]at vA;exact qe.gG vA (by rw[e1]) x
  have s2:=s1.tP d x1;simp only[Act.put];have e2:(((⟨(S.blank (some d)).sl,rt'⟩:St).forget (sG ops i o)).set d v)=(((⟨S.sl,rt'⟩:St).forget (sG ops i o)).set d v):=by rw[LW,LW];simp only[St.gl,St.blank,St.mk.injEq,iQ];exact P1 d _ _ _ _
  rw[e2]at s2;exact s2
theorem acV{ops:Array Oper}{o:Oper}{b:Bool}(hj:∀j c,o.guard=some (j,c)->∃oj t,ops[j]? = some oj/\oj.dst=some t)(hg:n9 ops S o=some b):Region.wanted o (yielded ops a.tmps)=b:=by
 unfold n9 at hg;unfold Region.wanted;cases hgd:o.guard with
 | none=>rw[hgd]at hg;simp only[aK]at hg;exact hg
 | some jc=>
  obtain⟨j,c⟩:=jc;rw[hgd]at hg;obtain⟨oj,t,h1,h2⟩:=hj j c hgd;have hd:lz ops j=t:=by simp[lz,h1,h2]
  have hs:=st.slots t;simp only at hg⊢;rw[hd]at hg;have hy:yielded ops a.tmps j=match a.tmps.getD t Go.undef with | .bool b=>some b | _=>none:=by
   simp only[yielded,h1,h2,dG,pq];cases hq:a.tmps[t]? with
   | none=>simp[Go.undef]
   | some q=>cases q<;>simp
  rw[hy];cases hS:S.get t with
  | skip=>rw[hS]at hg hs;simp only[qe]at hs;simp only[aK]at hg;subst hg;rw[hs];rfl
  | cG q=>rw[hS]at hg hs;simp only[qe]at hs;simp only[aK]at hg;subst hg;rw[hs];cases q<;>cases c<;>rfl
  | val t x=>
   rw[hS]at hg hs;cases t with
   | bool=>simp only[aK]at hg;subst hg;rw[AZ hs];cases x<;>cases c<;>rfl
   | _=>simp at hg
  | _=>rw[hS]at hg;simp at hg
theorem Nn{Q:Exit->Act->World->Prop}{hints:Hints}{id:Nat}{ops:Array Oper}{i:Nat}{o:Oper}(hi:ops[i]? = some o)(hj:∀j c,o.guard=some (j,c)->∃oj t,ops[j]? = some oj/\oj.dst=some t)
  (hdf:a.defers=[]) (hnp:∀d,o.dst=some d->d∉np) (ht:∀β,∃x,g7 C D hints id ops β S i o=some x) {K:Act->World->Prop}
  (hK:∀β S' e a' w' g',g7 C D hints id ops β S i o=some (S',e)->aE w'.heap S' g' a'.tmps Nil->g'.cR g->kK g.L w w'->a'.defers=[]->vn np a a'->K a' w'):wpOp P ops Q i K a w:=by
 obtain⟨x0,hx0⟩:=ht true;unfold wpOp;simp only[hi];cases hg:n9 ops S o with
 | none=>unfold g7 at hx0;rw[hg]at hx0;simp at hx0
 | some b=>
  rw[acV bn dz st hj hg];cases b with
  | false=>
   simp only[fh,dZ];have hst:g7 C D hints id ops true S i o=some (fin ops S i o .skip,oK ops S (id * 256+i+1) i o):=by unfold g7;rw[hg]
   refine hK true _ _ (a.put o.dst Go.undef) w g hst ?_ (.refl g) (.refl _ _) ?_ (.put hnp)
   .have s0:aE w.heap ⟨(S.blank o.dst).sl,S.rt⟩ g a.tmps Nil:=by
     cases hd:o.dst with
     | none=>exact st
     | some d=>exact st.forget d
    exact NB bn dz st s0 (by simp only[qe])
   .cases o.dst<;>exact hdf
  | true=>
   simp only[aX];refine .inl ?_;have s0:aE w.heap (S.blank o.dst) g a.tmps Nil:=by
    cases hd:o.dst with
    | none=>exact st
    | some d=>exact st.forget d
   have r9:(S.blank o.dst).rt=S.rt:=by cases o.dst<;>rfl
   have hρ:∀x,qe w.heap (S.blank o.dst) g (ev S x) (a.eval x):=fun x=>qe.gG st r9 (Od st x);have hstep:∀β,g7 C D hints id ops β S i o=((iL C D S (id * 256+i+1) (hints.share.contains (id,i)) o).dec β).map fun x=>(fin ops ⟨S.sl,x.2⟩ i o x.1,jI C ops S (id * 256+i+1) i o x.1 x.2):=by intro β;unfold g7;rw[hg]
   have htot:bZ (aV C D (lI S.sl o.dst (id * 256+i+1)) (ev S) (S.blank o.dst).rt (id * 256+i+1) (hints.share.contains (id,i)) o):=by intro β;obtain⟨x,hx⟩:=ht β;rw[hstep]at hx;simp only[fq]at hx;obtain⟨y,hy,_⟩:=hx;rw[r9];exact⟨y,hy⟩
   have hres:=acy bn dz s0 hρ (akb S o.dst (id * 256+i+1)) htot;have hout:∀val w',rW (S.blank o.dst) g w a.tmps (aV C D (lI S.sl o.dst (id * 256+i+1)) (ev S) (S.blank o.dst).rt (id * 256+i+1) (hints.share.contains (id,i)) o) val w'->K (a.put o.dst val) w':=by rintro val w' ⟨β,v,rt',hd,g',p1,p2,p3,p4⟩;rw[r9]at hd;refine hK β (fin ops ⟨S.sl,rt'⟩ i o v) _ _ w' g' (by rw[hstep];unfold iL;rw[hd];rfl) (NB bn dz st p1 p2) p3 p4 ?_ (.put hnp);cases o.dst<;>exact hdf
   unfold Oper.wp;revert hres;generalize (execOp a.eval o).run P w=r;intro hres;unfold fC at hres;split at hres
   .exact hout _ _ hres
   .exact hout _ _ hres
   .refine Calls.mono hres ?_;rintro e w'' he;cases e with
    | returned val=>exact hout _ _ he
    | panicked _=>exact he.elim
    | outgrown=>exact he.elim
   .exact hres.elim
end
end
section
variable (C:Ctx) (D:Den C)
noncomputable def eN(hints:Hints)(id:Nat)(ops:Array Oper):List Bool->List (Nat×Oper)->St->Option (St×Log)
 | _,[],S=>some (S,[])
 | βs,(i,o)::l,S=>(g7 C D hints id ops (βs.headD true) S i o).bind fun x=>(eN hints id ops βs.tail l x.1).map fun y=>(y.1,x.2::y.2)
end
structure fE (S T:St):Prop where
 rt:T.rt=S.rt
 len:T.sl.length=S.sl.length
 get:∀t,T.get t=S.get t\/∃b,S.get t=.cG b/\T.get t=.val .bool b
theorem fE.refl(S:St):fE S S:=⟨rfl,rfl,fun _=>.inl rfl⟩
theorem fE.flat{S T:St}(h:fE S T)(t:Nat):(T.get t).flat=(S.get t).flat:=by
 rcases h.get t with e | ⟨b,e1,e2⟩
 .rw[e]
 .rw[e1,e2];rfl
theorem fE.ev{S T:St}(h:fE S T):ev T=ev S:=by
 funext x;cases x with
 | tmp t=>exact h.flat t
 | _=>rfl
theorem fE.roots{S T:St}(h:fE S T)(t:Nat):(T.get t).roots=(S.get t).roots:=by
 rcases h.get t with e | ⟨b,e1,e2⟩
 .rw[e]
 .rw[e1,e2];rfl
theorem fE.stamps{S T:St}(h:fE S T)(t:Nat):(T.get t).stamps=(S.get t).stamps:=by
 rcases h.get t with e | ⟨b,e1,e2⟩
 .rw[e]
 .rw[e1,e2];rfl
theorem PT(s:Nat):∀(l l2:List AV),l2.length=l.length->(∀k,(l2.getD k .undef).aQ s (s+1)=(l.getD k .undef).aQ s (s+1))->IZ s l2=IZ s l
 | [],[],_,_=>rfl
 | [],_::_,h,_=>by simp at h
 | _::_,[],h,_=>by simp at h
 | v::l,u::l2,h,hk=>by
  have h0:=hk 0;simp only[uG]at h0;simp only[IZ];rw[h0,PT s l l2 (by simpa using h) (fun k=>by have:=hk (k+1);simpa [List.getD] using this)]
theorem ME{sl DM:List AV}(d:Option Nat)(s:Nat)(hl:DM.length=sl.length)(hr:∀d',d=some d'->∀k,k≠d'->(DM.getD k .undef).roots.contains d'=(sl.getD k .undef).roots.contains d')
  (hp:∀d',d=some d'->∀k,k≠d'->(DM.getD k .undef).gJ d'=(sl.getD k .undef).gJ d') (hs:∀k,(DM.getD k .undef).aQ s (s+1)=(sl.getD k .undef).aQ s (s+1)):lI DM d s=lI sl d s:=by
 have hf:=PT s sl DM hl hs;cases d with
 | none=>simp only[lI,hf]
 | some d=>
  have hm:∀(l l2:List AV)(i:Nat),l2.length=l.length->(∀k,i+k≠d->(l2.getD k .undef).roots.contains d=(l.getD k .undef).roots.contains d)->sw d i l2=sw d i l:=by
   intro l
   induction l with
   | nil=>intro l2 i h _;cases l2 with
    | nil=>rfl
    | cons _ _=>simp at h
   | cons v l ih=>
    intro l2 i h hk;cases l2 with
    | nil=>simp at h
    | cons u l2=>
     simp only[sw];rw[ih l2 (i+1) (by simpa using h) (fun k ue=>by have:=hk (k+1) (by omega);simpa [List.getD] using this)];by_cases e:i=d
     .subst e;simp
     .have:=hk 0 (by omega);simp only[uG]at this;rw[this]
  have uh:∀(l l2:List AV)(i:Nat),l2.length=l.length->(∀k,i+k≠d->(l2.getD k .undef).gJ d=(l.getD k .undef).gJ d)->Fh d i l2=Fh d i l:=by
   intro l
   induction l with
   | nil=>intro l2 i h _;cases l2 with
    | nil=>rfl
    | cons _ _=>simp at h
   | cons v l ih=>
    intro l2 i h hk;cases l2 with
    | nil=>simp at h
    | cons u l2=>
     simp only[Fh];rw[ih l2 (i+1) (by simpa using h) (fun k ue=>by have:=hk (k+1) (by omega);simpa [List.getD] using this)];by_cases e:i=d
     .subst e;simp
     .have:=hk 0 (by omega);simp only[uG]at this;rw[this]
  simp only[lI,hf];rw[hm sl DM 0 hl (fun k h=>hr d rfl k (by omega)),uh sl DM 0 hl (fun k h=>hp d rfl k (by omega))]
theorem fE.asks{S T:St}(h:fE S T)(d:Option Nat)(s:Nat):lI T.sl d s=lI S.sl d s:=by
 refine ME d s h.len (fun d' _ k _=>?_) (fun d' _ k _=>?_) (fun k=>?_)
 .have:=h.roots k;simp only[St.get_eq]at this;rw[this]
 .rcases h.get k with e | ⟨b,e1,e2⟩
  .simp only[St.get_eq]at e;rw[e]
  .simp only[St.get_eq]at e1 e2;rw[e1,e2];rfl
 .rcases h.get k with e | ⟨b,e1,e2⟩
  .simp only[St.get_eq]at e;rw[e]
  .simp only[St.get_eq]at e1 e2;rw[e1,e2];rfl
theorem fE.set{S T:St}(h:fE S T)(t:Nat)(v:AV):fE (S.set t v) (T.set t v) where
 rt:=h.rt
 len:=by simp[St.gl,h.len]
 get:=by
  intro u;rw[St.gv,St.gv,h.len];by_cases e:u=t/\t<S.sl.length
  .rw[aj e,aj e];exact .inl rfl
  .rw[af e,af e];exact h.get u
theorem fE.forget{S T:St}(h:fE S T):∀ts:List Nat,fE (S.forget ts) (T.forget ts):=by
 intro ts
 induction ts generalizing S T with
 | nil=>exact h
 | cons t ts ih=>exact ih (h.set t .undef)
theorem fE.Ja{S T:St}(h:fE S T)(rt:aO):fE ⟨S.sl,rt⟩ ⟨T.sl,rt⟩:=⟨rfl,h.len,h.get⟩
theorem fE.fin{S T:St}(h:fE S T)(ops:Array Oper)(i:Nat)(o:Oper)(v:AV):fE (fin ops S i o v) (fin ops T i o v):=by
 unfold V.fin uE;cases o.dst with
 | none=>exact h.forget _
 | some d=>exact(h.forget _).set d v
theorem fE.dV{S T:St}(h:fE S T):∀ts,dV T ts=dV S ts
 | []=>rfl
 | t::ts=>by simp only[V.dV];rw[h.roots,fE.dV h ts]
theorem fE.cS{S T:St}(h:fE S T):∀ts,cS T ts=cS S ts
 | []=>rfl
 | t::ts=>by simp only[V.cS];rw[h.stamps,fE.cS h ts]
section
variable {C:Ctx} {D:Den C}
theorem fE.iL{S T:St}(h:fE S T)(site:Nat)(hint:Bool)(o:Oper):iL C D T site hint o=iL C D S site hint o:=by unfold V.iL;rw[h.asks,h.ev,h.rt]
theorem fE.gW{S T:St}(h:fE S T)(ops:Array Oper)(site i:Nat)(o:Oper)(v:AV)(rt':aO):jI C ops T site i o v rt'=jI C ops S site i o v rt':=by unfold jI uC;rw[h.ev,h.dV,h.cS,h.rt]
theorem fE.skip{S T:St}(h:fE S T)(ops:Array Oper)(site i:Nat)(o:Oper):oK ops T site i o=oK ops S site i o:=by unfold oK;rw[h.dV,h.cS]
theorem Nm{hints:Hints}{id:Nat}{ops:Array Oper}{S T:St}(h:fE S T){i:Nat}{o:Oper}{β:Bool}(hg:n9 ops T o=some true){x:AV×aO}
  (hd:(iL C D S (id * 256+i+1) (hints.share.contains (id,i)) o).dec β=some x) :
  g7 C D hints id ops β T i o=some (fin ops ⟨T.sl,x.2⟩ i o x.1,jI C ops S (id * 256+i+1) i o x.1 x.2)/\fE (fin ops ⟨S.sl,x.2⟩ i o x.1) (fin ops ⟨T.sl,x.2⟩ i o x.1):=by
 refine⟨?_,(h.Ja x.2).fin ops i o x.1⟩;unfold g7;rw[hg,h.iL,hd,<-h.gW];rfl
theorem RL{hints:Hints}{id:Nat}{ops:Array Oper}{S T:St}(h:fE S T){i:Nat}{o:Oper}{β:Bool}(hg:n9 ops T o=some false) :
  g7 C D hints id ops β T i o=some (fin ops T i o .skip,oK ops S (id * 256+i+1) i o)/\fE (fin ops S i o .skip) (fin ops T i o .skip):=by
 refine⟨?_,h.fin ops i o .skip⟩;unfold g7;rw[hg,<-h.skip]
end
section
variable {P:Program} {C:Ctx} {D:Den C} (bn:iC P C) (dz:ot P C D)
include bn dz
theorem NN{np:List Nat}{Q:Exit->Act->World->Prop}{hints:Hints}{id:Nat}{ops:Array Oper}(hj:∀(i:Nat) o j c,ops[i]? = some o->o.guard=some (j,c)->∃oj t,ops[j]? = some oj/\oj.dst=some t) :
  ∀(l:List (Nat×Oper))(S:St)(g:aA)(a:Act)(w:World),(∀x∈l,ops[x.1]? = some x.2)->(∀x∈l,∀d,x.2.dst=some d->d∉np)->aE w.heap S g a.tmps Nil->a.defers=[]->(∀βs,∃x,eN C D hints id ops βs l S=some x)->
   (∀βs S' lg a' w' g',eN C D hints id ops βs l S=some (S',lg)->aE w'.heap S' g' a'.tmps Nil->g'.cR g->kK g.L w w'->a'.defers=[]->vn np a a'->Q .normal a' w')->wpOps P ops Q (l.map (·.1)) a w
 | [],S,g,a,w,hl,hnp,st,hdf,ht,hQ=>by
  simp only[f6,wpOps];exact hQ [] S [] a w g rfl st (.refl g) (.refl _ _) hdf (.refl _ _)
 | (i,o)::l,S,g,a,w,hl,hnp,st,hdf,ht,hQ=>by
  simp only[cv];rw[wpOps_cons];have hi:=hl (i,o) e8;refine Nn bn dz st (hints:=hints) (id:=id) hi (fun j c=>hj i o j c hi) hdf (hnp (i,o) e8) (fun β=>?_) ?_
  .obtain⟨x,hx⟩:=ht [β];simp only[eN,sC,cM]at hx;obtain⟨y,hy,_⟩:=hx;exact⟨y,hy⟩
  .intro β S' e a' w' g' hs st' iK hfr iI oA;refine NN (hints:=hints) (id:=id) hj l S' g' a' w' (fun x hx=>hl x (cF _ hx)) (fun x hx=>hnp x (cF _ hx)) st' iI (fun βs=>?_) ?_
   .obtain⟨x,hx⟩:=ht (β::βs);simp only[eN,sC,Gh,cM]at hx;obtain⟨y,hy,hx⟩:=hx;rw[hs]at hy;simp only[aK]at hy;subst hy;simp only[fq]at hx;obtain⟨z,hz,_⟩:=hx;exact⟨z,hz⟩
   .intro βs wD lg Jd w'' tU hr vA xj p_ wR wV;refine hQ (β::βs) wD (e::lg) Jd w'' tU ?_ vA (iK.trans xj) (hfr.trans (by rw[iK.2.1]at p_;exact p_)) wR (oA.trans wV);simp only[eN,sC,Gh,hs,dG,hr,d_]
end
end Go.V
namespace Go.V
noncomputable section
open Go
section
variable {C:Ctx} {D:Den C}
theorem B0{α:Type}{x:Option α}{f:α->AV}{S:aO}{β:Bool}{v:AV}{rt':aO}(h:(Tr.of (x.map fun v=>(f v,S))).dec β=some (v,rt')):rt'=S:=by
 cases x with
 | none=>simp[Tr.of,Tr.dec]at h
 | some y=>simp only[d_,Tr.of,Tr.dec,aK,aY]at h;exact h.2.symm
theorem ado{A:bY}{ρ:Operand->AV}{S:aO}{site:Nat}{hint:Bool}{o:Oper}(hT:pL o=true){β:Bool}{v:AV}{rt':aO}(h:(aV C D A ρ S site hint o).dec β=some (v,rt')):rt'=S:=by
 cases ho:o.op with
 | move x=>simp only[aV,ho,Tr.dec,aK,aY]at h;exact h.2.symm
 | pick c a b=>
  simp only[aV,ho]at h;split at h
  .rename_i c' _;cases c'<;>(simp only[Tr.dec,aK,aY]at h;exact h.2.symm)
  .simp[Tr.dec]at h
 | unOp op t x=>
  simp only[aV,ho]at h;split at h
  .simp only[Tr.dec,aK,aY]at h;exact h.2.symm
  .simp only[Tr.dec,aK,aY]at h;exact h.2.symm
  .simp[Tr.dec]at h
 | fieldAddr t x f=>simp only[aV,ho]at h;exact B0 (f:=fun v=>v) h
 | field t x f=>
  simp only[aV,ho]at h;split at h
  .split at h
   .split at h
    .simp only[Tr.dec,aK,aY]at h;exact h.2.symm
    .simp[Tr.dec]at h
   .simp[Tr.dec]at h
  .simp[Tr.dec]at h
 | load t x=>
  simp only[aV,ho]at h;split at h
  .exact B0 (f:=fun v=>v) h
  .simp[Tr.dec]at h
 | extract x i=>simp only[aV,ho]at h;exact B0 (f:=fun v=>v) h
 | binOp op t x y t2=>
  simp only[aV,ho]at h;split at h
  .split at h
   .simp only[Tr.dec,aK,aY]at h;exact h.2.symm
   .simp only[Tr.dec,aK,aY]at h;exact h.2.symm
   .simp[Tr.dec]at h
  .exact(Ri (T:=kL (C.ty t) op (ρ x) (ρ y)) (S:=S) (β:=β) (v:=v) (rt:=rt') (by unfold B4;exact h)).2
 | call c=>
  cases hc:c.callee with
  | builtin b=>
   cases b with
   | len=>
    simp only[aV,ho,hc]at h;split at h<;>first
     | (simp only[Tr.dec,aK,aY]at h;exact h.2.symm)
     | exact B0 (f:=fun n=>AV.val (Ty.int IntKind.i64) n) h
     | (exfalso;contradiction)
     | (exfalso;revert h;simp only[Tr.dec];intro h;contradiction)
   | _=>simp[pL,ho,hc]at hT
  | _=>simp[pL,ho,hc]at hT
 | _=>simp[pL,ho]at hT
theorem abn{A:bY}{ρ:Operand->AV}{S:aO}{site:Nat}{h1 h2:Bool}{o:Oper}(hT:pL o=true):aV C D A ρ S site h1 o=aV C D A ρ S site h2 o:=by
  cases ho:o.op with
  | call c=>
    cases hc:c.callee with
    | builtin b=>
      cases b with
      | len=>
        simp only[aV,ho,hc];generalize List.map ρ c.args.toList=l1;generalize List.map C.ty c.argTypes.toList=l2;rcases l1 with _ | ⟨x,_ | ⟨y,l⟩⟩
        . rfl
        . rcases l2 with _ | ⟨t,l2⟩
          . cases x with
            | val ty s=>cases ty<;>rfl
            | _=>rfl
          . cases x with
            | val ty s=>cases ty<;>cases t<;>rfl
            | _=>cases t<;>rfl
        . rcases l with _ | ⟨z,l⟩<;>rcases l2 with _ | ⟨t,_ | ⟨t',l2⟩⟩<;>first
            | rfl
            | (cases t<;>first | rfl | (cases t'<;>rfl))
            | (cases x with
               | val ty s=>cases ty<;>first | rfl | (cases t<;>first | rfl | (cases t'<;>rfl))
               | _=>first | rfl | (cases t<;>first | rfl | (cases t'<;>rfl)))
      | _=>simp[pL,ho,hc]at hT
    | _=>simp[pL,ho,hc]at hT
  | _=>first | (simp[pL,ho]at hT;done) | simp only[aV,ho]
theorem GU:∀(ts:List Nat)(S:St)(u:Nat),(S.forget ts).get u=if u∈ts then .undef else S.get u
 | [],S,u=>by simp[St.forget]
 | t::ts,S,u=>by
  simp only[St.forget,GU ts,bh];have:=AL S t u;simp only[St.blank]at this;rw[this];by_cases h1:u∈ts
  .simp[h1]
  .by_cases h2:u=t<;>simp[h1,h2]
theorem GV(ts:List Nat)(S:St):(S.forget ts).sl.length=S.sl.length:=by
 induction ts generalizing S with
 | nil=>rfl
 | cons t ts ih=>simp only[St.forget];rw[ih];simp[St.gl]
theorem QZ(ts:List Nat)(S:St):(S.forget ts).rt=S.rt:=by rw[LW]
theorem zV(ops:Array Oper)(S:St)(i:Nat)(o:Oper)(v:AV)(u:Nat) :
  (fin ops S i o v).get u=if o.dst=some u/\u<S.sl.length then v else if u∈sG ops i o then .undef else S.get u:=by
 unfold fin uE;cases hd:o.dst with
 | none=>simp[GU]
 | some d=>
  rw[St.gv,GU,GV];by_cases e:u=d
  .subst e;simp
  .have:¬ d=u:=fun h=>e h.symm;simp[e,this]
theorem oN(ops:Array Oper)(S:St)(i:Nat)(o:Oper)(v:AV):(fin ops S i o v).rt=S.rt:=by
 unfold fin uE;cases o.dst with
 | none=>exact QZ _ _
 | some d=>exact QZ _ _
theorem JF(ops:Array Oper)(S:St)(i:Nat)(o:Oper)(v:AV):(fin ops S i o v).sl.length=S.sl.length:=by
 unfold fin uE;cases o.dst with
 | none=>exact GV _ _
 | some d=>simp only[St.gl,b8];exact GV _ _
theorem Gt{hints:Hints}{id:Nat}{ops:Array Oper}{β:Bool}{S S':St}{i:Nat}{o:Oper}{e:jK}(h:g7 C D hints id ops β S i o=some (S',e)){u:Nat}(hu:u∉jG ops i o) :
  S'.get u=S.get u/\S'.sl.length=S.sl.length/\(pL o=true->S'.rt=S.rt):=by
 have hn:¬ (o.dst=some u):=fun h=>hu (by simp[jG,h]);have hn2:u∉sG ops i o:=fun h=>hu (by simp[jG,h]);unfold g7 at h;split at h
 .simp only[fq,aY]at h;obtain⟨x,hx,rfl,_⟩:=h;refine⟨?_,?_,fun ht=>?_⟩
  .rw[zV,af (fun h=>hn h.1),af hn2];rfl
  .rw[JF]
  .rw[oN];exact ado ht hx
 .simp only[aK,aY]at h;obtain⟨rfl,_⟩:=h;refine⟨?_,?_,fun ht=>?_⟩
  .rw[zV,af (fun h=>hn h.1),af hn2]
  .rw[JF]
  .rw[oN]
 .simp at h
theorem QJ{hints:Hints}{id:Nat}{ops:Array Oper}{Dd:List Nat}:∀(l:List (Nat×Oper))(βs:List Bool)(S S':St)(lg:Log),eN C D hints id ops βs l S=some (S',lg)->
  (∀x∈l,pL x.2=true/\∀u∈jG ops x.1 x.2,u∈Dd)->(∀u,u∉Dd->S'.get u=S.get u)/\S'.rt=S.rt/\S'.sl.length=S.sl.length
 | [],βs,S,S',lg,h,_=>by
  simp only[eN,aK,aY]at h;obtain⟨rfl,_⟩:=h;exact⟨fun _ _=>rfl,rfl,rfl⟩
 | (i,o)::l,βs,S,S',lg,h,hl=>by
  simp only[eN,cM,fq,aY]at h;obtain⟨⟨S1,e⟩,hs,⟨S2,Jr⟩,hr,rfl,_⟩:=h;obtain⟨ht,ho⟩:=hl (i,o) e8;obtain⟨k1,k2,k3⟩:=QJ l βs.tail S1 S2 Jr hr (fun x hx=>hl x (cF _ hx));have hex:∃u,u∉jG ops i o:=by
   refine⟨(jG ops i o).foldr max 0+1,fun h=>?_⟩;have:∀(l:List Nat)(u:Nat),u∈l->u<=l.foldr max 0:=by
    intro l
    induction l with
    | nil=>intro u h;simp at h
    | cons a l ih=>
     intro u h;simp only[Gc];rcases bh.1 h with rfl | h
     .exact Nat.le_max_left _ _
     .exact nL (ih u h) (Nat.le_max_right _ _)
   have:=this _ _ h;omega
  obtain⟨u0,hu0⟩:=hex;obtain⟨_,f2,f3⟩:=Gt hs hu0;exact⟨fun u hu=>(k1 u hu).trans (Gt hs (fun h=>hu (ho u h))).1,k2.trans (f3 ht),k3.trans f2⟩
theorem Gr{hints:Hints}{id:Nat}{ops:Array Oper}:∀(l1 l2:List (Nat×Oper))(βs:List Bool)(S:St),
  eN C D hints id ops βs (l1++l2) S=(eN C D hints id ops βs l1 S).bind fun x=>(eN C D hints id ops (βs.drop l1.length) l2 x.1).map fun y=>(y.1,x.2++y.2)
 | [],l2,βs,S=>by simp[eN]
 | (i,o)::l1,l2,βs,S=>by
  simp only[fI,eN];cases hs:g7 C D hints id ops (βs.headD true) S i o with
  | none=>simp
  | some x=>
   simp only[dG];rw[Gr l1 l2 βs.tail x.1];cases hr:eN C D hints id ops βs.tail l1 x.1 with
   | none=>simp
   | some y=>
    simp only[dG,d_,ct];have:βs.tail.drop l1.length=βs.drop (l1.length+1):=by cases βs<;>simp
    rw[this];cases eN C D hints id ops (βs.drop (l1.length+1)) l2 y.1<;>simp
theorem aj4{S:St}{x:Operand}{b:Bool}(h:V.asBool (ev S x)=some b):ev S x=.val .bool b:=by
 cases x with
 | tmp t=>
  simp only[ev]at h⊢;cases hS:S.get t with
  | val t y=>rw[hS]at h;cases t<;>simp[AV.flat,V.asBool]at h;subst h;rfl
  | cG c=>rw[hS]at h;simp[AV.flat,V.asBool]at h;subst h;rfl
  | _=>rw[hS]at h;simp[AV.flat,V.asBool]at h
 | const v=>simp only[ev]at h⊢;unfold Bg at h⊢;split at h<;>simp[V.asBool]at h;subst h;rfl
 | _=>simp[ev,V.asBool]at h
def N6(C:Ctx)(D:Den C)(hints:Hints)(id:Nat)(ops:Array Oper)(q_:List (Nat×Oper)->St->Log->Option (St×Log)):Prop:=
 ∀l S lg S1 gI,q_ l S lg=some (S1,gI)->(∀x∈l,pL x.2=true)->∀T,fE S T->∀βs,∃T1 gr,eN C D hints id ops βs l T=some (T1,gr)/\fE S1 T1/\(∀e∈gr,e∈gI)/\(∀e∈lg,e∈gI)
theorem Mt{t:Nat}:∀(l:List (Nat×Oper)){seg:List (Nat×Oper)}{x:Nat×Oper}{rest:List (Nat×Oper)},L5 t l=some (seg,x,rest)->l=seg++x::rest/\Iv t x.2=true
 | [],_,_,_,h=>by simp[L5]at h
 | y::l,seg,x,rest,h=>by
  simp only[L5]at h;split at h
  .rename_i hp;simp only[aK,aY]at h;obtain⟨rfl,rfl,rfl⟩:=h;exact⟨rfl,hp⟩
  .split at h
   .rename_i z hz;obtain⟨z1,z2,z3⟩:=z;simp only[aK,aY]at h;obtain⟨rfl,rfl,rfl⟩:=h;obtain⟨e,hp⟩:=Mt l hz;exact⟨by rw[e];rfl,hp⟩
   .simp at h
theorem Na{hints:Hints}{id:Nat}{ops:Array Oper}{q_:List (Nat×Oper)->St->Log->Option (St×Log)}(XA:N6 C D hints id ops q_){t:Nat}{c:Bool}{l rest:List (Nat×Oper)}{S S':St}{lg EI:Log}
  (h:BD C ops id q_ t c l S lg=some (S',EI,rest)) (KA:S.get t=.val .bool c) {T:St} (hs:fE S T) (βs:List Bool) :
  ∃seg i o T' gr,l=seg++(i,o)::rest/\eN C D hints id ops βs (seg++[(i,o)]) T=some (T',gr)/\fE S' T'/\(∀e∈gr,e∈EI)/\(∀e∈lg,e∈EI)/\pL o=true:=by
 unfold BD at h;split at h
 .rename_i seg i o rest' hsp;obtain⟨hl,hpick⟩:=Mt l hsp;simp only at h;split at h
  .rename_i hc;simp only[bI,qQ,kA]at hc;obtain⟨⟨jM,g9⟩,rL⟩:=hc;split at h
   .rename_i cc a b S1 l1 S2 l2 hop h1 h2;split at h
    .rename_i x y hx hy;simp only[aK,aY]at h;obtain⟨rfl,rfl,rfl⟩:=h;have vJ:T.get t=.val .bool c:=by
      rcases hs.get t with e | ⟨b,e1,_⟩
      .rw[e];exact KA
      .rw[KA]at e1;simp at e1
     have htl:t<S.sl.length:=by
      rcases Cf t S.sl.length with h | h
      .exact h
      .simp only[St.get_eq,List.getD]at KA;rw[pz h]at KA;simp at KA
     have qB:fE (S.set t (.cG c)) T:=by
      refine⟨hs.rt,by simp[St.gl,hs.len],fun u=>?_⟩;rw[St.gv];by_cases e:u=t
      .subst e;rw[aj ⟨rfl,htl⟩];exact .inr ⟨c,rfl,vJ⟩
      .rw[af (fun h=>e h.1)];exact hs.get u
     have mj:cc=.tmp t:=by
      unfold Iv at hpick;rw[hop]at hpick;split at hpick
      .rename_i c' _ _ he;simp only[Op.pick.injEq]at he;rw[he.1];rw[mS hpick]
      .simp at hpick
     have Lq:∀x∈seg,pL x.2=true/\∀u∈jG ops x.1 x.2,u∈sG ops i o:=by intro z hz;have:=jM z hz;exact⟨this.1,fun u hu=>by have:=this.2 u hu;simpa using this⟩
     -- zb way alQ is gone
     have key:∀(Sc:St)(lc:Log),q_ seg (S.set t (.cG c)) []=some (Sc,lc)->∀z,V.asBool (ev Sc (if c then a else b))=some z->
       ∃T' gr,eN C D hints id ops βs (seg++[(i,o)]) T=some (T',gr)/\fE (fin ops S i o (.val .bool z)) T'/\∀e∈gr,e∈lc\/e=jI C ops Sc (id * 256+i+1) i o (.val .bool z) Sc.rt:=by
      intro Sc lc hr z hz;obtain⟨T1,gr,k1,k2,k3,_⟩:=XA seg _ _ Sc lc hr (fun x hx=>(Lq x hx).1) T qB βs;obtain⟨f1,f2,f3⟩:=QJ seg βs T T1 gr k1 Lq;have htD:t∉sG ops i o:=by simpa using rL
      have WG:T1.get t=.val .bool c:=by rw[f1 t htD];exact vJ
      have hg:n9 ops T1 o=some true:=by
       unfold NY at g9;unfold n9;split at g9
       .rename_i hgd;rw[hgd]
       .rename_i j b' hgd;simp only[bI,kA]at g9;rw[hgd];simp only;have hjD:lz ops j∉sG ops i o:=by simpa using g9.1
        rw[f1 _ hjD];have h5:=g9.2;split at h5
        .rename_i c' hS;rcases hs.get (lz ops j) with e | ⟨b2,e1,e2⟩
         .rw[e,hS];simp only[aK];exact h5
         .rw[e2];rw[hS]at e1;simp only[AV.cG.injEq]at e1;subst e1;simp only[aK];exact h5
        .simp at h5
      have WZ:ev T1 (if c then a else b)=.val .bool z:=by rw[k2.ev];exact aj4 hz
      have WW:(iL C D T1 (id * 256+i+1) (hints.share.contains (id,i)) o).dec ((βs.drop seg.length).headD true)=some (.val .bool z,T1.rt):=by unfold iL;simp only[aV,hop,mj,ev,WG,AV.flat,V.asBool];cases c<;>simp only[Tr.dec,aK,aY,iQ]<;>exact WZ
      have hstep:g7 C D hints id ops ((βs.drop seg.length).headD true) T1 i o=some (fin ops T1 i o (.val .bool z),jI C ops Sc (id * 256+i+1) i o (.val .bool z) Sc.rt):=by unfold g7;rw[hg,WW,<-k2.gW,<-k2.rt];rfl
      refine⟨fin ops T1 i o (.val .bool z),gr++[jI C ops Sc (id * 256+i+1) i o (.val .bool z) Sc.rt],?_,?_,?_⟩
      .rw[Gr,k1];simp only[dG,eN,hstep,d_]
      .refine⟨?_,?_,fun u=>?_⟩
       .rw[oN,oN,f2,hs.rt]
       .rw[JF,JF,f3,hs.len]
       .rw[zV,zV,f3,hs.len];by_cases h1:o.dst=some u/\u<S.sl.length
        .rw[aj h1,aj h1];exact .inl rfl
        .rw[af h1,af h1];by_cases h2:u∈sG ops i o
         .rw[aj h2,aj h2];exact .inl rfl
         .rw[af h2,af h2,f1 u h2];exact hs.get u
      .intro e he;rcases bN.1 he with he | he
       .exact .inl (k3 e he)
       .exact .inr (by simpa using he)
     have htot:pL o=true:=by unfold pL;rw[hop]
     cases c with
     | true=>
      obtain⟨T',gr,k1,k2,k3⟩:=key S1 l1 h1 x (by simpa using hx);refine⟨seg,i,o,T',gr,hl,k1,k2,fun e he=>?_,fun e he=>?_,htot⟩
      .rcases k3 e he with h | rfl
       .simp[h]
       .simp
      .simp[he]
     | false=>
      obtain⟨T',gr,k1,k2,k3⟩:=key S2 l2 h2 y (by simpa using hy);refine⟨seg,i,o,T',gr,hl,k1,k2,fun e he=>?_,fun e he=>?_,htot⟩
      .rcases k3 e he with h | rfl
       .simp[h]
       .simp
      .simp[he]
    .simp at h
   .simp at h
  .simp at h
 .simp at h
end
end
section
variable {C:Ctx} {D:Den C}
theorem RA{hints:Hints}{id:Nat}{ops:Array Oper}{seg rest:List (Nat×Oper)}{x:Nat×Oper}{T T':St}{gr:Log}{βs:List Bool}
  (h:eN C D hints id ops βs (seg++[x]) T=some (T',gr)) :
  eN C D hints id ops βs (seg++x::rest) T=(eN C D hints id ops (βs.drop (seg.length+1)) rest T').map fun y=>(y.1,gr++y.2):=by
 have e:seg++x::rest=(seg++[x])++rest:=by simp
 rw[e,Gr,h];simp only[dG,cT,ct,gB]
theorem G7{ops:Array Oper}{S T:St}(h:fE S T){o:Oper}{j:Nat}{b c:Bool}(hg:o.guard=some (j,b))(hS:S.get (lz ops j)=.cG c\/S.get (lz ops j)=.val .bool c) :
  n9 ops T o=some (c == b):=by
 unfold n9;rw[hg];simp only;rcases hS with hS | hS
 .rcases h.get (lz ops j) with e | ⟨c',e1,e2⟩
  .rw[e,hS]
  .rw[hS]at e1;simp only[AV.cG.injEq]at e1;subst e1;rw[e2]
 .rcases h.get (lz ops j) with e | ⟨c',e1,e2⟩
  .rw[e,hS]
  .rw[hS]at e1;simp at e1
theorem Qz{ops:Array Oper}{S T:St}(h:fE S T){o:Oper}{j:Nat}{b:Bool}(hg:o.guard=some (j,b))(hS:S.get (lz ops j)=.skip):n9 ops T o=some false:=by
 unfold n9;rw[hg];simp only;rcases h.get (lz ops j) with e | ⟨c',e1,e2⟩
 .rw[e,hS]
 .rw[hS]at e1;simp at e1
theorem Rj{ops:Array Oper}{T:St}{o:Oper}(hg:o.guard=none):n9 ops T o=some true:=by unfold n9;rw[hg]
theorem xS{hints:Hints}{id:Nat}{ops:Array Oper}:∀n,N6 C D hints id ops (mN C D id ops n)
 | 0=>by intro l S lg S1 gI h;simp[mN]at h
 | n+1=>by
  intro l S lg S1 gI h hl T hs βs;cases l with
  | nil=>simp only[mN,aK,aY]at h;obtain⟨rfl,rfl⟩:=h;exact⟨T,[],rfl,hs,by simp,fun e he=>he⟩
  | cons x rest=>
   obtain⟨i,o⟩:=x;have htot:=hl (i,o) e8;have fS:∀x∈rest,pL x.2=true:=fun x hx=>hl x (cF _ hx);have rM:n9 ops T o=some true->(match iL C D S (id * 256+i+1) false o with
     | .ret (v,rt')=>mN C D id ops n rest (fin ops ⟨S.sl,rt'⟩ i o v) (jI C ops S (id * 256+i+1) i o v rt'::lg)
     | _=>none)=some (S1,gI)->∃T1 gr,eN C D hints id ops βs ((i,o)::rest) T=some (T1,gr)/\fE S1 T1/\(∀e∈gr,e∈gI)/\(∀e∈lg,e∈gI):=by
    intro hg h;split at h
    .rename_i v rt' hop;have Ey:(iL C D S (id * 256+i+1) (hints.share.contains (id,i)) o).dec (βs.headD true)=some (v,rt'):=by unfold iL at hop⊢;rw[abn htot (h2:=false),hop];rfl
     obtain⟨k1,k2⟩:=Nm (hints:=hints) (id:=id) hs hg Ey;obtain⟨T1,gr,q1,q2,q3,q4⟩:=xS (hints:=hints) n rest _ _ S1 gI h fS _ k2 βs.tail;refine⟨T1,jI C ops S (id * 256+i+1) i o v rt'::gr,?_,q2,?_,fun e he=>q4 e (cF _ he)⟩
     .simp only[eN,k1,dG,q1,d_]
     .intro e he;rcases bh.1 he with rfl | he
      .exact q4 _ e8
      .exact q3 e he
    .simp at h
   have nc:n9 ops T o=some false->mN C D id ops n rest (fin ops S i o .skip) (oK ops S (id * 256+i+1) i o::lg)=some (S1,gI)->
     ∃T1 gr,eN C D hints id ops βs ((i,o)::rest) T=some (T1,gr)/\fE S1 T1/\(∀e∈gr,e∈gI)/\(∀e∈lg,e∈gI):=by
    intro hg h;obtain⟨k1,k2⟩:=RL (C:=C) (D:=D) (hints:=hints) (id:=id) (β:=βs.headD true) hs hg;obtain⟨T1,gr,q1,q2,q3,q4⟩:=xS (hints:=hints) n rest _ _ S1 gI h fS _ k2 βs.tail;refine⟨T1,oK ops S (id * 256+i+1) i o::gr,?_,q2,?_,fun e he=>q4 e (cF _ he)⟩
    .simp only[eN,k1,dG,q1,d_]
    .intro e he;rcases bh.1 he with rfl | he
     .exact q4 _ e8
     .exact q3 e he
   simp only[mN]at h;split at h
   .rename_i hgd;exact rM (Rj hgd) h
   .rename_i j b hgd;split at h
    .rename_i hS;exact nc (Qz hs hgd hS) h
    .rename_i c hS;have hg:=G7 hs hgd (.inl hS);split at h
     .rename_i hcb;subst hcb;exact rM (by simpa using hg) h
     .rename_i hcb;exact nc (by rw[hg];simpa using hcb) h
    .rename_i c hS;split at h
     .rename_i S2 Jr tN hj;obtain⟨seg,i2,o2,T',gr,e1,k1,k2,k3,k4,k5⟩:=Na (xS (hints:=hints) n) hj hS hs βs;have EA:∀x∈tN,pL x.2=true:=fun x hx=>hl x (by rw[e1];simp[hx]);obtain⟨T1,EJ,q1,q2,q3,q4⟩:=xS (hints:=hints) n tN _ _ S1 gI h EA _ k2 (βs.drop (seg.length+1));refine⟨T1,gr++EJ,?_,q2,?_,fun e he=>q4 e (k4 e he)⟩
      .rw[e1,RA k1,q1];rfl
      .intro e he;rcases bN.1 he with he | he
       .exact q4 e (k3 e he)
       .exact q3 e he
     .simp at h
    .simp at h
theorem LY{R:Type}{r:R}{hints:Hints}{id:Nat}{ops:Array Oper}{k:Log->St->Option R}:∀(n:Nat)(l:List (Nat×Oper))(S:St)(lg:Log),yQ C D hints id ops n l S lg k=some r->∀T,fE S T->∀βs,
  ∃T1 gr S1 gI,eN C D hints id ops βs l T=some (T1,gr)/\k gI S1=some r/\fE S1 T1/\(∀e∈gr,e∈gI)/\(∀e∈lg,e∈gI)
 | 0,l,S,lg,h=>by simp[yQ]at h
 | n+1,[],S,lg,h=>by
  intro T hs βs;simp only[yQ]at h;exact⟨T,[],S,lg,rfl,h,hs,by simp,fun e he=>he⟩
 | n+1,(i,o)::rest,S,lg,h=>by
  intro T hs βs;have rM:∀S,fE S T->n9 ops T o=some true->((iL C D S (id * 256+i+1) (hints.share.contains (id,i)) o).run fun x=>yQ C D hints id ops n rest (fin ops ⟨S.sl,x.2⟩ i o x.1) (jI C ops S (id * 256+i+1) i o x.1 x.2::lg) k)=some r->
    ∃T1 gr S1 gI,eN C D hints id ops βs ((i,o)::rest) T=some (T1,gr)/\k gI S1=some r/\fE S1 T1/\(∀e∈gr,e∈gI)/\(∀e∈lg,e∈gI):=by
   intro S hs hg h;obtain⟨x,hx,h⟩:=Tr.iX (βs.headD true) _ h;obtain⟨k1,k2⟩:=Nm (hints:=hints) (id:=id) hs hg hx;obtain⟨T1,gr,S1,gI,q1,q2,q3,q4,q5⟩:=LY (hints:=hints) n rest _ _ h _ k2 βs.tail;refine⟨T1,jI C ops S (id * 256+i+1) i o x.1 x.2::gr,S1,gI,?_,q2,q3,?_,fun e he=>q5 e (cF _ he)⟩
   .simp only[eN,k1,dG,q1,d_]
   .intro e he;rcases bh.1 he with rfl | he
    .exact q5 _ e8
    .exact q4 e he
  have nc:∀S,fE S T->n9 ops T o=some false->yQ C D hints id ops n rest (fin ops S i o .skip) (oK ops S (id * 256+i+1) i o::lg) k=some r->
    ∃T1 gr S1 gI,eN C D hints id ops βs ((i,o)::rest) T=some (T1,gr)/\k gI S1=some r/\fE S1 T1/\(∀e∈gr,e∈gI)/\(∀e∈lg,e∈gI):=by
   intro S hs hg h;obtain⟨k1,k2⟩:=RL (C:=C) (D:=D) (hints:=hints) (id:=id) (β:=βs.headD true) hs hg;obtain⟨T1,gr,S1,gI,q1,q2,q3,q4,q5⟩:=LY (hints:=hints) n rest _ _ h _ k2 βs.tail;refine⟨T1,oK ops S (id * 256+i+1) i o::gr,S1,gI,?_,q2,q3,?_,fun e he=>q5 e (cF _ he)⟩
   .simp only[eN,k1,dG,q1,d_]
   .intro e he;rcases bh.1 he with rfl | he
    .exact q5 _ e8
    .exact q4 e he
  simp only[yQ]at h;split at h
  .rename_i hgd;exact rM S hs (Rj hgd) h
  .rename_i j b hgd;split at h
   .rename_i hS;exact nc S hs (Qz hs hgd hS) h
   .rename_i c hS;have hg:=G7 hs hgd (.inl hS);split at h
    .rename_i hcb;subst hcb;exact rM S hs (by simpa using hg) h
    .rename_i hcb;exact nc S hs (by rw[hg];simpa using hcb) h
   .rename_i c hS;split at h
    .rename_i S2 Jr tN hj;obtain⟨seg,i2,o2,T',gr,e1,k1,k2,k3,k4,k5⟩:=Na (xS (hints:=hints) n) hj hS hs βs;obtain⟨T1,EJ,S1,gI,q1,q2,q3,q4,q5⟩:=LY (hints:=hints) n tN _ _ h _ k2 (βs.drop (seg.length+1));refine⟨T1,gr++EJ,S1,gI,?_,q2,q3,?_,fun e he=>q5 e (k4 e he)⟩
     .rw[e1,RA k1,q1];rfl
     .intro e he;rcases bN.1 he with he | he
      .exact q5 e (k3 e he)
      .exact q4 e he
    .have hg:=G7 hs hgd (.inr hS);have qB:fE (S.set (lz ops j) (.cG c)) T:=by
      have vJ:T.get (lz ops j)=.val .bool c:=by
       rcases hs.get (lz ops j) with e | ⟨b,e1,_⟩
       .rw[e];exact hS
       .rw[hS]at e1;simp at e1
      refine⟨hs.rt,by simp[St.gl,hs.len],fun u=>?_⟩;rw[St.gv];by_cases e:u=lz ops j/\lz ops j<S.sl.length
      .rw[aj e,e.1];exact .inr ⟨c,rfl,vJ⟩
      .rw[af e];exact hs.get u
     cases c with
     | true=>
      simp only[br]at h;split at h
      .rename_i hb;subst hb;exact rM _ qB (by simpa using hg) h
      .rename_i hb;exact nc _ qB (by rw[hg];cases b<;>simp_all) h
     | false=>
      simp only[br]at h;split at h
      .rename_i hb;subst hb;exact rM _ qB (by simpa using hg) h
      .rename_i hb;exact nc _ qB (by rw[hg];cases b<;>simp_all) h
   .simp at h
end
theorem MT{h:Array Obj}{S T:St}(hs:fE S T){g:aA}{tmps:Array Value}{H:BS}(st:aE h T g tmps H):aE h S g tmps H:=by
 have hr:∀r,S.root r=T.root r:=fun r=>by simp only[St.root,hs.rt]
 have hi:∀{r},(S.root r).isSome->(T.root r).isSome:=fun {r} h=>by rw[<-hr];exact h
 have he:∀{r R},S.root r=some R->T.root r=some R:=fun {r R} h=>by rw[<-hr];exact h
 have hl:S.sl.length=tmps.size:=by rw[<-hs.len];exact st.len
 have iJ:S.rt.length=tmps.size:=by rw[<-hs.rt];exact st.gy
 refine⟨hl,iJ,?_,fun r R hR=>st.roots r R (he hR),fun r r' hn h1 h2=>st.d5 r r' hn (hi h1) (hi h2),fun r h1=>st.er r (hi h1),fun r h1=>st.hand r (hi h1),st.bM,st.bQ,fun r b h1=>st.cg r b (hi h1),st.ep,fun r R hR=>st.tag r R (he hR),fun r b h1=>st.own r b (hi h1),st.fc,st.fY,st.p0,st.kZ⟩;intro t;have:=st.slots t;have h2:=qe.gG (S':=S) st hs.rt.symm this;rcases hs.get t with e | ⟨b,e1,e2⟩
 .rw[e]at h2;exact h2
 .rw[e2]at h2;rw[e1];simp only[qe,az]at h2⊢;obtain⟨c,rfl,e⟩:=h2;exact e
theorem L7{h:Array Obj}:∀(p:Path)(t:Ty)(c:List Value)(base:fK),cr h t c base (p.map ov.zero)=cr h t c base p
 | [],t,c,base=>rfl
 | .fst::p,t,c,base=>by cases t<;>simp only[cv,ov.zero,cr];exact L7 p _ _ _
 | .snd::p,t,c,base=>by cases t<;>simp only[cv,ov.zero,cr];exact L7 p _ _ _
 | .idx i s::p,t,c,base=>by
  cases t<;>simp only[cv,ov.zero,cr];split
  .split
   .exact L7 p _ _ _
   .rfl
  .rfl
theorem Md:∀(p:Path)(t:Ty)(x:t.den),bu t x (p.map ov.zero)↔bu t x p
 | [],t,x=>i7
 | .fst::p,t,x=>by cases t<;>simp only[cv,ov.zero,bu];exact Md p _ _
 | .snd::p,t,x=>by cases t<;>simp only[cv,ov.zero,bu];exact Md p _ _
 | .idx i s::p,t,x=>by
  cases t<;>simp only[cv,ov.zero,bu];rw[Md p]
theorem aM.bg{hd:Nat->Value}:∀(t:Ty){m:Mk}{c:List Value},aM hd t m c->aM hd t m.bg c
 | .unit,_,_,_=>by simp only[aM]
 | .int _,_,_,_=>by simp only[aM]
 | .bool,_,_,_=>by simp only[aM]
 | .str,_,_,_=>by simp only[aM]
 | .pair a b,m,c,h=>by
  simp only[aM]at h⊢;have h1:=Mk.mB m;have h2:=Mk.mC m;rw[h1,h2];exact⟨aM.bg a h.1,aM.bg b h.2⟩
 | .sl t,m,c,h=>by
  cases m with
  | own s mi=>
   have hf:∀m:Mk,m.ax=true->m.bg.ax=true:=by
    intro m
    induction m with
    | no=>intro _;rfl
    | gone=>intro _;rfl
    | own s m ih=>intro h;simp only[Mk.ax,bI,n8]at h;simp only[Mk.bg,Mk.ax,bI,n8];exact⟨by rw[aj h.1];omega,ih h.2⟩
    | pr a b fU kS=>intro h;simp only[Mk.ax,bI]at h;simp only[Mk.bg,Mk.qJ,bI];exact⟨fU h.1,kS h.2⟩
   simp only[Mk.bg,aM]at h⊢;refine⟨fun h2=>?_,hf _ h.2⟩;split at h2
   .omega
   .rename_i hn;rw[af hn];exact h.1 h2
  | no=>simp only[Mk.bg,aM]
  | gone=>simp only[Mk.bg,aM]
  | pr a b=>simp only[Mk.bg];rcases Mk.oG a.bg b.bg with e | e<;>rw[e]<;>simp only[aM]
theorem ah9{x:Option aC}{R':aC}(h:L1 x=some R'):∃R,x=some R/\R'={ R with ms:=R.ms.bg }:=by
 unfold L1 at h;cases x with
 | none=>simp at h
 | some R=>
  simp only[dG]at h;split at h
  .simp at h
  .simp only[aK]at h;exact⟨R,rfl,h.symm⟩
theorem Qs(oY:List Nat):∀(l:List (Option aC))(i r:Nat),(EZ oY i l).getD r none=if oY.contains (i+r) then L1 (l.getD r none) else none
 | [],i,r=>by simp[EZ,L1,List.getD]
 | x::l,i,r=>by
  simp only[EZ];cases r with
  | zero=>simp only[uG,qS]
  | succ r=>simp only[FI];rw[Qs oY l (i+1) r,show i+1+r=i+(r+1) by omega]
theorem PX(oY:List Nat):∀(l:List (Option aC))(i:Nat),(EZ oY i l).length=l.length
 | [],_=>rfl
 | x::l,i=>by simp[EZ,PX oY l]
theorem Qt(S:St)(keep:List Nat):∀(l:List AV)(i t:Nat),(E0 S keep i l).getD t .undef=if keep.contains (i+t) then (l.getD t .undef).canon S else .undef
 | [],i,t=>by simp[E0,AV.canon,List.getD]
 | x::l,i,t=>by
  simp only[E0];cases t with
  | zero=>simp only[uG,qS]
  | succ t=>simp only[FI];rw[Qt S keep l (i+1) t,show i+1+t=i+(t+1) by omega]
theorem PY(S:St)(keep:List Nat):∀(l:List AV)(i:Nat),(E0 S keep i l).length=l.length
 | [],_=>rfl
 | x::l,i=>by simp[E0,PY S keep l]
section
variable {h:Array Obj} {S:St} {g:aA} {tmps:Array Value} {H:BS} (st:aE h S g tmps H)
include st
theorem Ua{keep extra:List Nat}{r:Nat}{R':aC}(hr:(S.canon keep extra).root r=some R'):∃R,S.root r=some R/\R'={ R with ms:=R.ms.bg }:=by
 simp only[St.canon,St.root,aO.ig]at hr;rw[Qs]at hr;split at hr
 .rw[<-aO.ig]at hr;exact ah9 hr
 .simp at hr
theorem Q6{keep extra:List Nat}{r:Nat}{p:Path}{s:Nat}{v:Value}{t:Ty}{m:Mk}{xs:(Ty.sl t).den}(hf:S.rt.focus r p=some ⟨.sl t,.own s m,xs⟩)(x:qN h S g r p s v) :
  qN h (S.canon keep extra) g r (p.map ov.zero) (if s<1048576 then 0 else s) v:=by
 obtain⟨R,base,F,hR,zu,hin,ej,_⟩:=L8 st hf rfl x;intro R' ck t' m' xs' hf';obtain⟨R2,vI,rfl⟩:=Ua st ck;rw[hR]at vI;simp only[aK]at vI;subst vI;exact⟨(Md p _ _).2 hin,base,by rw[L7];exact ej⟩
theorem aa6{keep extra:List Nat}{r:Nat}{p:Path}{v:Value}{d:Dy}(hf:S.rt.focus r p=some d)(x:ux h S g r p v):ux h (S.canon keep extra) g r (p.map ov.zero) v:=by
 simp only[aO.focus]at hf;split at hf
 .rename_i R hR;obtain⟨hin,b,o,c,ej,e⟩:=x R hR d hf;intro R' ck d' hf';obtain⟨R2,vI,rfl⟩:=Ua st ck;have:R=R2:=by have h1:S.root r=some R:=hR;rw[h1]at vI;simpa using vI
  subst this;exact⟨(Md p _ _).2 hin,b,o,c,by rw[L7];exact ej,e⟩
 .simp at hf
theorem BH{keep extra:List Nat}:∀{a:AV}{c:List Value},dh h S g a c->dh h (S.canon keep extra) g (a.canon S) c
 | .undef,_,_=>by simp only[AV.canon,dh]
 | .unit,_,y=>y
 | .val t x,_,y=>y
 | .b9 r p s,c,y=>by
  simp only[dh]at y;obtain⟨v,rfl,y⟩:=y;simp only[AV.canon];split
  .rename_i t s' m xs hf;split
   .rename_i hs;subst hs;simp only[dh];exact⟨v,rfl,Q6 st hf y⟩
   .simp only[dh]
  .simp only[dh]
 | .pair a b,c,y=>by
  simp only[dh]at y;obtain⟨ca,cb,rfl,y1,y2⟩:=y;simp only[AV.canon,dh];exact⟨ca,cb,rfl,BH y1,BH y2⟩
 | .skip,_,y=>y.elim
 | .cG _,_,y=>y.elim
 | .fm,_,y=>y.elim
 | .view _ _ _ _ _,_,y=>y.elim
 | .addr _ _,_,y=>y.elim
 | .cj _ _,_,y=>y.elim
 | .jJ _,_,y=>y.elim
 | .gH _ _,_,y=>y.elim
 | .eA _,_,y=>y.elim
theorem alo{keep extra:List Nat}:∀(a:AV),(∀v,qe h S g a v->qe h (S.canon keep extra) g (a.canon S) v)/\(∀vs,aN h S g a vs->aN h (S.canon keep extra) g (a.canon S) vs):=by
 intro a
 induction a with
 | undef=>exact⟨fun _ _=>by simp only[AV.canon,qe],fun _ y=>by simp only[aN]at y⟩
 | skip=>exact⟨fun _ y=>y,fun _ y=>by simp only[aN]at y⟩
 | cG b=>exact⟨fun _ y=>y,fun _ y=>by simp only[aN]at y⟩
 | unit=>exact⟨fun _ y=>y,fun _ y=>y⟩
 | fm=>exact⟨fun _ y=>y,fun _ y=>by simp only[aN]at y⟩
 | val t x=>exact⟨fun _ y=>y,fun _ y=>by simp only[aN]at y⟩
 | b9 r p s=>
  refine⟨fun v y=>?_,fun _ y=>by simp only[aN]at y⟩;simp only[qe]at y;simp only[AV.canon];split
  .rename_i t s' m xs hf;split
   .rename_i hs;subst hs;simp only[qe];exact Q6 st hf y
   .simp only[qe]
  .simp only[qe]
 | view r p s lo hi=>exact⟨fun _ _=>by simp only[AV.canon,qe],fun _ y=>by simp only[aN]at y⟩
 | addr r p=>
  refine⟨fun v y=>?_,fun _ y=>by simp only[aN]at y⟩;simp only[qe]at y;simp only[AV.canon];split
  .rename_i d hf;simp only[qe];exact aa6 st hf y
  .simp only[qe]
 | cj t x=>exact⟨fun _ y=>y,fun _ y=>by simp only[aN]at y⟩
 | pair a b fU kS=>
  refine⟨fun v y=>?_,fun vs y=>?_⟩
  .simp only[qe]at y;obtain⟨ca,cb,e,y1,y2⟩:=y;simp only[AV.canon,qe];exact⟨ca,cb,e,BH st y1,BH st y2⟩
  .simp only[aN]at y;obtain⟨v,vs',e,y1,y2⟩:=y;simp only[AV.canon,aN];exact⟨v,vs',e,fU.1 v y1,kS.2 vs' y2⟩
 | jJ a fU=>exact⟨fun _ _=>by simp only[AV.canon,qe],fun _ y=>by simp only[aN]at y⟩
 | gH f a fU=>refine⟨fun v y=>?_,fun _ y=>by simp only[aN]at y⟩;simp only[qe]at y;obtain⟨vs,e,y⟩:=y;simp only[AV.canon,qe];exact⟨vs,e,fU.2 vs y⟩
 | eA c=>exact⟨fun _ y=>y,fun _ y=>by simp only[aN]at y⟩
theorem A3(keep extra:List Nat):aE h (S.canon keep extra) g tmps H:=by
 have hs:∀r,((S.canon keep extra).root r).isSome->(S.root r).isSome:=by intro r h1;obtain⟨R',ck⟩:=yd.1 h1;obtain⟨R,hR,_⟩:=Ua st ck;rw[hR];rfl
 refine⟨?_,?_,?_,?_,fun r r' hn h1 h2=>st.d5 r r' hn (hs r h1) (hs r' h2),fun r h1=>st.er r (hs r h1),fun r h1=>st.hand r (hs r h1),st.bM,st.bQ,fun r b h1=>st.cg r b (hs r h1),st.ep,?_,fun r b h1=>st.own r b (hs r h1),st.fc,st.fY,st.p0,st.kZ⟩
 .simp only[St.canon];rw[PY];exact st.len
 .simp only[St.canon];rw[PX];exact st.gy
 .intro t;simp only[St.get_eq,St.canon];rw[Qt];split
  .have z:=st.slots t;rw[St.get_eq]at z;exact(alo st _).1 _ z
  .simp only[qe]
 .intro r R' ck;obtain⟨R,hR,rfl⟩:=Ua st ck;obtain⟨F,q1,q2⟩:=st.roots r R hR;exact⟨F,(az.bg R.ty).1 q1,q2⟩
 .intro r R' ck;obtain⟨R,hR,rfl⟩:=Ua st ck;exact aM.bg _ (st.tag r R hR)
end
end Go.V
namespace Go.V
noncomputable section
open Go
def Ex.out:Ex->Exit
 | .normal=>.normal
 | .exit id=>.exit id
 | .ret=>.ret
theorem xU{ops:Array Oper}:∀x∈nt ops,ops[x.1]? = some x.2:=by intro x hx;simp only[nt,eJ]at hx;obtain⟨y,hy,rfl⟩:=hx;have:=FW.1 hy;simpa using this
theorem U9{ops:Array Oper}:(nt ops).map (·.1)=List.range ops.size:=by
 simp only[nt,BR];apply rI;intro i;simp only[FN,List.getElem?_zipIdx,List.getElem?_range'];by_cases h:i<ops.size
 .simp[h]
 .simp[h]
theorem Rk{ops:Array Oper}(h:Ma ops=true):∀(i:Nat) o j c,ops[i]? = some o->o.guard=some (j,c)->∃oj t,ops[j]? = some oj/\oj.dst=some t:=by intro i o j c ho hg;simp only[Ma,qQ]at h;have:=h o (by rw[FH];exact F9 ho);rw[hg]at this;simp only[yd,cM]at this;obtain⟨t,oj,h1,h2⟩:=this;exact⟨oj,t,h1,h2⟩
theorem Sh{np:List Nat}{ops:Array Oper}(h:JH np ops=true):∀x∈nt ops,∀d,x.2.dst=some d->d∉np:=by intro x hx d hd;simp only[JH,qQ]at h;have:=h x.2 (by rw[FH];exact F9 (xU x hx));rw[hd]at this;simpa using this
section
variable {P:Program} {C:Ctx} {D:Den C} (bn:iC P C) (dz:ot P C D)
include bn dz
def jL(np:List Nat)(P:Program)(C:Ctx)(Q:Exit->Act->World->Prop){R:Type}(r:R)(c:Code)(S:St)(k:Ex->St->Option R)(g:aA)(a:Act)(w:World):Prop:=
 aE w.heap S g a.tmps Nil->a.defers=[]->(∀e S' g' a' w',k e S'=some r->aE w'.heap S' g' a'.tmps Nil->g'.cR g->kK g.L w w'->a'.defers=[]->vn np a a'->Q e.out a' w')->c.wp P Q a w
theorem acn{np:List Nat}{R:Type}{r:R}{H:Hints}{id:Nat}{ops:Array Oper}{S:St}{k:Ex->St->Option R}{Q:Exit->Act->World->Prop}{g:aA}{a:Act}{w:World}{n:Nat}
  (hnp:JH np ops=true) (h:exec C D H n (.region id ops false) S k=some r):jL np P C Q r (.region id ops false) S k g a w:=by
 intro st hdf hQ;simp only[exec]at h;split at h
 .rename_i hgd;have hR:=fun βs=>LY (hints:=H) _ _ _ _ h S (fE.refl S) βs;refine wp_region ?_;rw[<-U9];refine NN (hints:=H) (id:=id) bn dz (Rk hgd) (nt ops) S g a w xU (Sh hnp) st hdf (fun βs=>?_) ?_
  .obtain⟨T1,gr,S1,gI,q1,_⟩:=hR βs;exact⟨_,q1⟩
  .intro βs S' lg a' w' g' hr st' iK hfr iI oA;obtain⟨T1,gr,S1,gI,q1,q2,q3,_⟩:=hR βs;rw[hr]at q1;simp only[aK,aY]at q1;obtain⟨rfl,rfl⟩:=q1;simp only[fh,dZ]at q2;exact hQ .normal S1 g' a' w' q2 (MT q3 st') iK hfr iI oA
 .simp at h
end
end
end Go.V
namespace Go.V
noncomputable section
open Go
section
variable {C:Ctx} {D:Den C} {A:bY} {S:aO} {site:Nat} {hint:Bool}
theorem Ro{ρ ρ':Operand->AV}{ps:Array (Nat×Operand)}(h:∀x∈(ps.toList.map (·.2)).toArray,ρ' x=ρ x):(ps.toList.map fun p=>(p.1,ρ' p.2))=ps.toList.map fun p=>(p.1,ρ p.2):=by apply rH;intro p hp;rw[h p.2 (by simp only[List.mem_toArray,eJ];exact⟨p,hp,rfl⟩)]
theorem Sf{ρ ρ':Operand->AV}(o:Oper)(h:∀x∈o.op.operands,ρ' x=ρ x):aV C D A ρ' S site hint o=aV C D A ρ S site hint o:=by
 cases ho:o.op with
 | build t ps=>rw[ho]at h;simp only[Op.operands]at h;simp only[aV,ho];rw[Ro h]
 | buildSlice t n ps=>rw[ho]at h;simp only[Op.operands]at h;simp only[aV,ho];rw[Ro h]
 | makeFunc f first caps=>
  rw[ho]at h;simp only[Op.operands]at h;simp only[aV,ho];cases f with
  | func f=>
   have:caps.toList.foldr (fun x r=>AV.pair (ρ' x) r) .unit=caps.toList.foldr (fun x r=>AV.pair (ρ x) r) .unit:=by
    have hc:∀x∈caps.toList,ρ' x=ρ x:=fun x hx=>h x (by simp at hx⊢;exact .inr hx);revert hc;generalize caps.toList=l;intro hc
    induction l with
    | nil=>rfl
    | cons y l ih=>simp only[Gc];rw[hc y e8,ih (fun x hx=>hc x (cF _ hx))]
   simp only[this]
  | _=>rfl
 | slice t x lo hi mx=>
  rw[ho]at h;simp only[Op.operands]at h;cases mx with
  | some v=>simp only[aV,ho]
  | none=>
   simp only[aV,ho];have h1:ρ' x=ρ x:=h x (by simp);have h2:lo.map ρ'=lo.map ρ:=by cases lo with
    | none=>rfl
    | some v=>simp only[d_];rw[h v (by simp)]
   have h3:hi.map ρ'=hi.map ρ:=by cases hi with
    | none=>rfl
    | some v=>simp only[d_];rw[h v (by simp)]
   rw[h1,h2,h3]
 | call c=>
  rw[ho]at h;simp only[Op.operands]at h;have ha:c.args.toList.map ρ'=c.args.toList.map ρ:=rH fun x hx=>h x (by simp only[Call.operands,sB];right;simpa using hx);simp only[aV,ho];rw[ha];cases hc:c.callee with
  | builtin b=>rfl
  | value f=>have:ρ' f=ρ f:=h f (by simp[Call.operands,hc]);simp only[this]
  | invoke r m=>rfl
 | pick c a b=>rw[ho]at h;simp only[Op.operands]at h;simp only[aV,ho];rw[h c (by simp),h a (by simp),h b (by simp)]
 | store t a b=>rw[ho]at h;simp only[Op.operands]at h;simp only[aV,ho];rw[h a (by simp),h b (by simp)]
 | binOp op t a b t2=>rw[ho]at h;simp only[Op.operands]at h;simp only[aV,ho];rw[h a (by simp),h b (by simp)]
 | makeSlice t a b=>rw[ho]at h;simp only[Op.operands]at h;simp only[aV,ho];rw[h a (by simp),h b (by simp)]
 | indexAddr t a b=>rw[ho]at h;simp only[Op.operands]at h;simp only[aV,ho];rw[h a (by simp),h b (by simp)]
 | index t a b=>rw[ho]at h;simp only[Op.operands]at h;simp only[aV,ho];rw[h a (by simp),h b (by simp)]
 | move x=>rw[ho]at h;simp only[Op.operands]at h;simp only[aV,ho];rw[h x (by simp)]
 | assign x=>rw[ho]at h;simp only[Op.operands]at h;simp only[aV,ho];rw[h x (by simp)]
 | box t x=>rw[ho]at h;simp only[Op.operands]at h;simp only[aV,ho];rw[h x (by simp)]
 | load t x=>rw[ho]at h;simp only[Op.operands]at h;simp only[aV,ho];rw[h x (by simp)]
 | nilCheck x=>rw[ho]at h;simp only[Op.operands]at h;simp only[aV,ho];rw[h x (by simp)]
 | unOp op t x=>rw[ho]at h;simp only[Op.operands]at h;simp only[aV,ho];rw[h x (by simp)]
 | convert s d x=>rw[ho]at h;simp only[Op.operands]at h;simp only[aV,ho];rw[h x (by simp)]
 | fieldAddr s x f=>rw[ho]at h;simp only[Op.operands]at h;simp only[aV,ho];rw[h x (by simp)]
 | field s x f=>rw[ho]at h;simp only[Op.operands]at h;simp only[aV,ho];rw[h x (by simp)]
 | extract x i=>rw[ho]at h;simp only[Op.operands]at h;simp only[aV,ho];rw[h x (by simp)]
 | _=>simp only[aV,ho]
theorem ads{ρ ρ':Operand->AV}(o:Oper)(h:∀x∈o.op.operands,ρ' x=ρ x):dP C ρ' o=dP C ρ o:=by
 have hall:o.op.operands.toList.map ρ'=o.op.operands.toList.map ρ:=rH fun x hx=>h x (by simpa using hx);unfold dP;rw[hall];cases ho:o.op with
 | build t ps=>
  rw[ho]at h;have:T_ ρ' ps.toList=T_ ρ ps.toList:=by
   unfold T_;have key:∀l:List (Nat×Operand),(∀p∈l,ρ' p.2=ρ p.2)->(l.all fun p=>(ρ' p.2).isVal)=l.all fun p=>(ρ p.2).isVal:=by
    intro l
    induction l with
    | nil=>intro _;rfl
    | cons a l ih=>intro hl;simp only[gV];rw[hl a e8,ih fun p hp=>hl p (cF _ hp)]
   exact key _ fun p hp=>h p.2 (by
   simp only[Op.operands,List.mem_toArray];exact eJ.2 ⟨p,hp,rfl⟩)
  simp only[this]
 | assign x=>rw[ho]at h;simp only[Op.operands]at h;simp only[h x (by simp)]
 | call c=>
  rw[ho]at h;simp only[Op.operands]at h;have ha:c.args.toList.map ρ'=c.args.toList.map ρ:=rH fun x hx=>h x (by simp only[Call.operands,sB];right;simpa using hx);simp only;rw[ha];cases hc:c.callee with
  | builtin b=>cases b<;>rfl
  | value f=>have:ρ' f=ρ f:=h f (by simp[Call.operands,hc]);simp only[this]
  | invoke r m=>rfl
 | _=>rfl
theorem ab4{ρ ρ':Operand->AV}(o:Oper)(h:∀x∈o.op.operands,ρ' x=ρ x):vq C ρ' o=vq C ρ o:=by
 unfold vq;cases ho:o.op with
 | call c=>
  rw[ho]at h;simp only[Op.operands]at h;have ha:c.args.toList.map ρ'=c.args.toList.map ρ:=rH fun x hx=>h x (by simp only[Call.operands,sB];right;simpa using hx);simp only;rw[ha];cases hc:c.callee with
  | builtin b=>cases b<;>rfl
  | value f=>have:ρ' f=ρ f:=h f (by simp[Call.operands,hc]);simp only[this]
  | invoke r m=>rfl
 | slice t x lo hi mx=>cases mx<;>rfl
 | _=>rfl
def gZ(F:List Nat)(S S':aO):Prop:=∀r,r∈F->S'.root r=S.root r
theorem gZ.sub{F G:List Nat}{S S':aO}(h:gZ F S S')(hs:∀r∈G,r∈F):gZ G S S':=fun r hr=>h r (hs r hr)
theorem Ck{F:List Nat}{S S':aO}(h:gZ F S S'){r:Nat}(hr:r∈F)(p:Path):S'.focus r p=S.focus r p:=by simp only[aO.focus,h r hr]
theorem Ml{S S':aO}:∀(t:Ty)(a:AV),gZ a.roots S S'->rd S' t a=rd S t a
 | t,.pair u v,h=>by
  cases t with
  | pair a b=>simp only[rd];rw[Ml a u (h.sub fun r hr=>by simp[AV.roots,hr]),Ml b v (h.sub fun r hr=>by simp[AV.roots,hr])]
  | _=>simp[rd]
 | t,.b9 r p s,h=>by
  cases t with
  | sl e=>simp only[rd];rw[Ck h (by simp[AV.roots])]
  | _=>simp[rd]
 | t,.val t' x,h=>by cases t<;>simp only[rd]
 | t,.undef,h=>by cases t<;>simp[rd]
 | t,.skip,h=>by cases t<;>simp[rd]
 | t,.cG b,h=>by cases t<;>simp[rd]
 | t,.unit,h=>by cases t<;>simp[rd]
 | t,.fm,h=>by cases t<;>simp[rd]
 | t,.view _ _ _ _ _,h=>by cases t<;>simp[rd]
 | t,.addr _ _,h=>by cases t<;>simp[rd]
 | t,.cj _ _,h=>by cases t<;>simp[rd]
 | t,.jJ _,h=>by cases t<;>simp[rd]
 | t,.gH _ _,h=>by cases t<;>simp[rd]
 | t,.eA _,h=>by cases t<;>simp[rd]
theorem U6{S S':aO}:∀(a:AV),gZ a.roots S S'->lZ S' a=lZ S a
 | .pair (.addr r p) rest,h=>by
  simp only[lZ];rw[Ck h (by simp[AV.roots]),U6 rest (h.sub fun r hr=>by simp[AV.roots,hr])]
 | .pair (.cj t x) rest,h=>by simp only[lZ];rw[U6 rest (h.sub fun r hr=>by simp[AV.roots,hr])]
 | .pair (.val t x) rest,h=>by simp only[lZ];rw[U6 rest (h.sub fun r hr=>by simp[AV.roots,hr])]
 | .unit,h=>rfl
 | .pair .undef _,h=>rfl
 | .pair .skip _,h=>rfl
 | .pair (.cG _) _,h=>rfl
 | .pair .unit _,h=>rfl
 | .pair .fm _,h=>rfl
 | .pair (.b9 _ _ _) _,h=>rfl
 | .pair (.view _ _ _ _ _) _,h=>rfl
 | .pair (.pair _ _) _,h=>rfl
 | .pair (.jJ _) _,h=>rfl
 | .pair (.gH _ _) _,h=>rfl
 | .pair (.eA _) _,h=>rfl
 | .undef,h=>rfl
 | .skip,h=>rfl
 | .cG _,h=>rfl
 | .fm,h=>rfl
 | .val _ _,h=>rfl
 | .b9 _ _ _,h=>rfl
 | .view _ _ _ _ _,h=>rfl
 | .addr _ _,h=>rfl
 | .cj _ _,h=>rfl
 | .jJ _,h=>rfl
 | .gH _ _,h=>rfl
 | .eA _,h=>rfl
theorem q9k{a:AV}{l:List AV}(h:a∈l):∀r∈a.roots,r∈qk l:=by
 induction l with
 | nil=>simp at h
 | cons b l ih=>
  intro r hr;simp only[qk,bN];rcases bh.1 h with rfl | h
  .exact .inl hr
  .exact .inr (ih h r hr)
theorem qzc(l l2:List AV):∀r,r∈qk (l++l2)↔r∈qk l\/r∈qk l2:=by
 intro r
 induction l with
 | nil=>simp[qk]
 | cons a l ih=>simp only[fI,qk,bN,ih,or_assoc]
theorem V5:∀(a:AV),∀r∈qk (mY a),r∈a.roots
 | .pair a b,r,h=>by
  simp only[mY,qk,bN]at h;simp only[AV.roots,bN];exact h.imp id (V5 b r)
 | .undef,r,h=>by simp[mY,qk]at h
 | .skip,r,h=>by simp[mY,qk]at h
 | .cG _,r,h=>by simp[mY,qk]at h
 | .unit,r,h=>by simp[mY,qk]at h
 | .fm,r,h=>by simp[mY,qk]at h
 | .val _ _,r,h=>by simp[mY,qk]at h
 | .b9 _ _ _,r,h=>by simp[mY,qk]at h
 | .view _ _ _ _ _,r,h=>by simp[mY,qk]at h
 | .addr _ _,r,h=>by simp[mY,qk]at h
 | .cj _ _,r,h=>by simp[mY,qk]at h
 | .jJ _,r,h=>by simp[mY,qk]at h
 | .gH _ _,r,h=>by simp[mY,qk]at h
 | .eA _,r,h=>by simp[mY,qk]at h
theorem zN{S S':aO}:∀(ks:List PK)(aJ:List AV)(g:ju ks)(o:dI ks),gZ (qk aJ) S S'->jk S' ks aJ g o=jk S ks aJ g o
 | [],[],_,_,_=>rfl
 | [],_::_,_,_,_=>rfl
 | k::ks,[],g,o,_=>by cases k<;>rfl
 | k::ks,a::aJ,g,o,h=>by
  have h1:gZ a.roots S S':=h.sub fun r hr=>by simp[qk,hr]
  have h2:gZ (qk aJ) S S':=h.sub fun r hr=>by simp[qk,hr]
  cases k with
  | val t=>simp only[jk];rw[Ml t a h1,zN ks aJ g o h2]
  | own t m=>simp only[jk];rw[zN ks aJ g.2 o h2]
  | cC t m m'=>simp only[jk];rw[zN ks aJ g o.2 h2]
  | cO t m m'=>simp only[jk];rw[zN ks aJ g o.2 h2]
  | cm t=>
   cases a with
   | cj t' x=>simp only[jk];rw[zN ks aJ g o h2]
   | addr q p=>simp only[jk];rw[Ck h1 (by simp[AV.roots]),zN ks aJ g o h2]
   | _=>rfl
  | fn=>
   cases a with
   | gH f c=>simp only[jk];rw[U6 c (h1.sub fun r hr=>by simpa [AV.roots] using hr),zN ks aJ g o h2]
   | eA c=>simp only[jk];rw[zN ks aJ g o h2]
   | _=>rfl
theorem Qc{S S':aO}:∀(ts:List Ty)(aJ:List AV),gZ (qk aJ) S S'->yY S' ts aJ=yY S ts aJ
 | [],[],_=>rfl
 | [],_::_,_=>rfl
 | _::_,[],_=>rfl
 | t::ts,a::aJ,h=>by
  simp only[yY];rw[Ml t a (h.sub fun r hr=>by simp[qk,hr]),Qc ts aJ (h.sub fun r hr=>by simp[qk,hr])]
theorem Qa{S S':aO}(a:AV)(h:gZ a.roots S S'):yV S' a=yV S a:=by
 cases a with
 | b9 r p s=>simp only[yV];rw[Ck h (by simp[AV.roots])]
 | val t x=>cases t<;>rfl
 | _=>rfl
end
end
end Go.V
namespace Go.V
noncomputable section
open Go
section
variable {C:Ctx} {D:Den C}
theorem ajY{S S':aO}(t:Ty)(a:AV)(h:gZ a.roots S S'):vj S' t a=vj S t a:=by
 cases a with
 | addr r p=>simp only[vj];rw[Ck h (by simp[AV.roots])]
 | _=>rfl
theorem agE{S S':aO}(t:Ty)(a:AV)(f:Nat)(h:gZ a.roots S S'):Cj S' t a f=Cj S t a f:=by
 cases a with
 | addr r p=>simp only[Cj];rw[Ck h (by simp[AV.roots])]
 | _=>rfl
theorem ajX{S S':aO}(t:Ty)(a i:AV)(h:gZ a.roots S S'):xW S' t a i=xW S t a i:=by
 cases a with
 | b9 r p s=>simp only[xW];rw[Ck h (by simp[AV.roots])]
 | val t x=>cases t<;>rfl
 | _=>rfl
def qj(T T':Tr (AV×aO))(S S':aO):Prop:=∀β v rt',T.dec β=some (v,rt')->rt'=S/\T'.dec β=some (v,S')
theorem qj.ret{v:AV}{S S':aO}:qj (.ret (v,S)) (.ret (v,S')) S S':=by intro β v' rt' h;simp only[Tr.dec,aK,aY]at h;exact⟨h.2.symm,by simp[Tr.dec,h.1]⟩
theorem qj.fail{T':Tr (AV×aO)}{S S':aO}:qj .fail T' S S':=by intro β v' rt' h;simp[Tr.dec]at h
theorem qj.br{c:Bool}{x y x' y':Tr (AV×aO)}{S S':aO}(h1:qj x x' S S')(h2:qj y y' S S'):qj (.br c x y) (.br c x' y') S S':=by
 intro β v rt' h;cases c
 .exact h2 β v rt' h
 .exact h1 β v rt' h
theorem qj.nil{n:Nat}{b:Bool}{f:Bool->AV}{S S':aO}:qj (.nil n b fun b=>.ret (f b,S)) (.nil n b fun b=>.ret (f b,S')) S S':=by intro β v rt' h;simp only[Tr.dec,aK,aY]at h⊢;exact⟨h.2.symm,h.1,trivial⟩
theorem qj.ofMap{α:Type}{x:Option α}{f:α->AV}{S S':aO}:qj (.of (x.map fun a=>(f a,S))) (.of (x.map fun a=>(f a,S'))) S S':=by
 cases x with
 | none=>exact qj.fail
 | some a=>exact qj.ret
theorem qj.call{α:Type}{x:Option α}{f f':α->Tr (AV×aO)}{S S':aO}(h:∀a,qj (f a) (f' a) S S'):qj (.call x f) (.call x f') S S':=by
 intro β v rt' hh;cases x with
 | none=>simp[Tr.dec]at hh
 | some a=>exact h a β v rt' hh
theorem TT{S S':aO}:∀(ks:List PK)(aJ:List AV),ks.all PK.plain=true->f5 S' ks aJ=(f5 S ks aJ).map fun z=>(z.1,S')
 | [],[],_=>rfl
 | [],_::_,_=>rfl
 | k::ks,[],_=>by cases k<;>rfl
 | k::ks,a::aJ,h=>by
  simp only[gV,bI]at h;cases k with
  | val t=>simp only[f5];exact TT ks aJ h.2
  | cm t=>simp only[f5];exact TT ks aJ h.2
  | fn=>simp only[f5];exact TT ks aJ h.2
  | _=>simp[PK.plain]at h
theorem TL{S S':aO}:∀(ks:List PK)(aJ:List AV),ks.all PK.plain=true->gE S' ks aJ=(gE S ks aJ).map fun z=>(z.1,S')
 | [],[],_=>rfl
 | [],_::_,_=>rfl
 | k::ks,[],_=>by cases k<;>rfl
 | k::ks,a::aJ,h=>by
  simp only[gV,bI]at h;cases k with
  | val t=>simp only[gE];exact TL ks aJ h.2
  | cm t=>simp only[gE];exact TL ks aJ h.2
  | fn=>simp only[gE];exact TL ks aJ h.2
  | _=>simp[PK.plain]at h
theorem abB{S rt:aO}{ks:List PK}{aJ:List AV}{g:ju ks}(hp:ks.all PK.plain=true)(h:f5 S ks aJ=some (g,rt)):rt=S:=by have:=TT (S:=S) (S':=S) ks aJ hp;rw[h]at this;simp only[d_,aK,aY,true_and]at this;exact this
theorem aa8{S rt:aO}{ks:List PK}{aJ:List AV}{g:dI ks}(hp:ks.all PK.plain=true)(h:gE S ks aJ=some (g,rt)):rt=S:=by have:=TL (S:=S) (S':=S) ks aJ hp;rw[h]at this;simp only[d_,aK,aY,true_and]at this;exact this
theorem Sw{A A':bY}{S S':aO}(hl:S'.length=S.length){d:Option Nat}{site:Nat}{t:Ty}{m:Mk}{x:t.den}(hs:m.still=true):qj (dU A S d site t m x false) (dU A' S' d site t m x false) S S':=by
 cases d with
 | none=>exact qj.ret
 | some d=>
  simp only[dU,hs,aX,fh,dZ,hl];split
  .exact qj.fail
  .exact qj.ret
theorem Qd:∀(rs:List RK),rs.all (fun k=>!k.kT&&k.ms.still)=true->(pO rs).still=true
 | [],_=>rfl
 | k::rs,h=>by
  simp only[gV,bI]at h;simp only[pO,Mk.still,bI];exact⟨h.1.2,Qd rs h.2⟩
theorem aaL{A A':bY}(hA:A'.sh=A.sh){S S':aO}(hl:S'.length=S.length){d:Option Nat}{site:Nat}:∀(rs:List RK)(r:f9 rs),rs.all (fun k=>!k.kT&&k.ms.still)=true->qj (mA A S d site rs r) (mA A' S' d site rs r) S S'
 | [],r,_=>qj.ret
 | [.val t m],r,h=>by
  simp only[gV,bI]at h;simp only[mA,hA];split
  .split
   .exact qj.ret
   .exact qj.fail
  .split
   .exact Sw hl h.1.2
   .exact qj.fail
 | [.ptr t m],r,h=>by simp[RK.kT]at h
 | q1::q2::rs,r,h=>by
  have e1:∀(A:bY)(S:aO),mA A S d site (q1::q2::rs) r=Cx A S d site (q1::q2::rs) r:=by intro A S;cases q1<;>rfl
  rw[e1,e1];unfold Cx;split
  .cases d with
   | none=>exact qj.ret
   | some d=>
    have hs:=Qd _ h;have e2:∀(A:bY)(S:aO),dU A S (some d) site (jt (q1::q2::rs)) (pO (q1::q2::rs)) (kj (q1::q2::rs) r) false =
      if (!Nat.blt d S.length||!Nat.blt site 1048576)=true then .fail else .ret (.val (jt (q1::q2::rs)) (kj (q1::q2::rs) r),S):=by
     intro A S;simp only[dU,hs,aX,fh,dZ]
    simp only[e2,hl];by_cases hc:(!Nat.blt d S.length||!Nat.blt site 1048576)=true
    .simp only[aj hc];exact qj.fail
    .simp only[af hc];exact qj.ret
  .exact qj.fail
theorem abP{A A':bY}(hA:A'.sh=A.sh){S S':aO}(hl:S'.length=S.length){d:Option Nat}{site:Nat}{g:FuncId}{aJ:List AV}(hq:Hx (C.sig g)=true)(hr:gZ (qk aJ) S S') :
  qj (rS C D A S d site g aJ) (rS C D A' S' d site g aJ) S S':=by
 unfold Hx at hq;simp only[bI]at hq;unfold rS;rw[TT (S:=S) (S':=S') _ _ hq.1];cases h1:f5 S (C.sig g).params aJ with
 | none=>exact qj.fail
 | some z=>
  obtain⟨gd,S1⟩:=z;obtain rfl:=abB hq.1 h1;simp only[d_];rw[TL (S:=S1) (S':=S') _ _ hq.1];cases h2:gE S1 (C.sig g).params aJ with
  | none=>exact qj.fail
  | some z=>
   obtain⟨od,S2⟩:=z;obtain rfl:=aa8 hq.1 h2;simp only[d_];rw[zN _ _ _ _ hr];cases h3:jk S2 (C.sig g).params aJ gd od with
   | none=>exact qj.fail
   | some aa=>
    simp only;split
    .refine qj.call fun r=>?_;have hn:(C.sig g).params.all (fun k=>!k.eG)=true:=by rw[qQ]at hq⊢;intro k hk;have:=hq.1 k hk;cases k<;>simp_all [PK.plain,PK.eG]
     simp only[hn,aX];exact aaL hA hl _ _ hq.2
    .exact qj.fail
theorem Ty.kM:∀(t:Ty),t.flat=true->(Mk.top t).still=true/\(Mk.sO t).still=true
 | .sl _,h=>by simp[Ty.flat]at h
 | .pair a b,h=>by
  simp only[Ty.flat,bI]at h;have ha:=Ty.kM a h.1;have hb:=Ty.kM b h.2;cases a<;>simp_all [Mk.top,Mk.sO,Mk.still,Ty.flat]
 | .unit,_=>⟨rfl,rfl⟩
 | .int _,_=>⟨rfl,rfl⟩
 | .bool,_=>⟨rfl,rfl⟩
 | .str,_=>⟨rfl,rfl⟩
theorem abF{t:Ty}(h:t.flat=true)(hint:Bool):(Mk.z8 hint t).still=true:=by
 unfold Mk.z8;cases hint
 .exact(Ty.kM t h).1
 .exact(Ty.kM t h).2
theorem Ho:∀(t:Ty)(m:Mk)(x:t.den)(p:Path)(t2:Ty)(y:t2.den)(m':Mk)(x':t.den),m.still=true->put t m x p t2 .no y=some (m',x')->m'.still=true
 | t,m,x,[],t2,y,m',x',_,h=>by
  unfold put at h;simp only[cM,aK,aY]at h;obtain⟨_,_,rfl,_⟩:=h;rfl
 | .pair a b,m,x,.fst::p,t2,y,m',x',hm,h=>by
  simp only[put,cM,aK,aY]at h;obtain⟨⟨r1,r2⟩,h1,rfl,_⟩:=h;have hf:m.fst.still=true/\m.snd.still=true:=by cases m<;>simp_all [Mk.fst,Mk.snd,Mk.still]
  have:=Ho a m.fst x.1 p t2 y _ _ hf.1 h1;simp only[Mk.still,bI];exact⟨this,hf.2⟩
 | .pair a b,m,x,.snd::p,t2,y,m',x',hm,h=>by
  simp only[put,cM,aK,aY]at h;obtain⟨⟨r1,r2⟩,h1,rfl,_⟩:=h;have hf:m.fst.still=true/\m.snd.still=true:=by cases m<;>simp_all [Mk.fst,Mk.snd,Mk.still]
  have:=Ho b m.snd x.2 p t2 y _ _ hf.2 h1;simp only[Mk.still,bI];exact⟨hf.1,this⟩
 | .sl t,m,xs,.idx i s::p,t2,y,m',x',hm,h=>by
  cases m<;>simp_all [put,Mk.still]
 | .sl t,m,xs,.fst::p,t2,y,m',x',hm,h=>by simp[put]at h
 | .sl t,m,xs,.snd::p,t2,y,m',x',hm,h=>by simp[put]at h
 | .pair a b,m,xs,.idx i s::p,t2,y,m',x',hm,h=>by simp[put]at h
 | .unit,m,xs,_::p,t2,y,m',x',hm,h=>by simp[put]at h
 | .int _,m,xs,_::p,t2,y,m',x',hm,h=>by simp[put]at h
 | .bool,m,xs,_::p,t2,y,m',x',hm,h=>by simp[put]at h
 | .str,m,xs,_::p,t2,y,m',x',hm,h=>by simp[put]at h
theorem ak4(t:Ty){v:AV}(h:v.isVal=true):∃r:Option t.den,∀S:aO,tk S t v=r.map fun x=>(Mk.no,x,S):=by
 cases v with
 | val t' x=>refine⟨qbv t' t x,fun S=>?_⟩;unfold tk;cases qbv t' t x<;>rfl
 | cG b=>
  cases t with
  | bool=>exact⟨some b,fun S=>rfl⟩
  | _=>exact⟨none,fun S=>rfl⟩
 | _=>simp[AV.isVal]at h
theorem Rw(t:Ty):∀(l:List (Nat×AV))(acc:Mk×t.den),acc.1.still=true->l.all (fun p=>p.2.isVal)=true->
  ∃r:Option (Mk×t.den),(∀S:aO,oH S t acc l=r.map fun z=>(z.1,z.2,S))/\∀z,r=some z->z.1.still=true
 | [],acc,ha,_=>⟨some acc,fun S=>rfl,fun z hz=>by cases hz;exact ha⟩
 | (i,v)::l,acc,ha,h=>by
  simp only[gV,bI]at h;cases hf:focus t acc.1 acc.2 (ic i) with
  | none=>exact⟨none,fun S=>by simp only[oH,hf];rfl,fun z hz=>by cases hz⟩
  | some d=>
   obtain⟨r,hr⟩:=ak4 d.ty h.1;cases r with
   | none=>exact⟨none,fun S=>by simp only[oH,hf,dG,hr];rfl,fun z hz=>by cases hz⟩
   | some x=>
    cases hp:put t acc.1 acc.2 (ic i) d.ty .no x with
    | none=>exact⟨none,fun S=>by simp only[oH,hf,dG,hr,d_,hp];rfl,fun z hz=>by cases hz⟩
    | some q=>obtain⟨q1,q2⟩:=q;obtain⟨r2,h1,h2⟩:=Rw t l (q1,q2) (Ho _ _ _ _ _ _ _ _ ha hp) h.2;exact⟨r2,fun S=>by simp only[oH,hf,dG,hr,d_,hp];exact h1 S,h2⟩
theorem acm{A A':bY}{ρ:Operand->AV}{S S':aO}{site:Nat}{hint:Bool}{o:Oper}(hl:S'.length=S.length)(hw:dP C ρ o=none)
    (hr:gZ (if rQ o then [] else qk (o.op.operands.toList.map ρ)) S S'):qj (aV C D A ρ S site hint o) (aV C D A' ρ S' site hint o) S S':=by
  have ha:∀{x:Operand},rQ o=false->x∈o.op.operands->gZ (ρ x).roots S S':=by intro x hb hx;rw[hb]at hr;exact hr.sub fun r h=>q9k (eJ.2 ⟨x,by simpa using hx,rfl⟩) r h
  cases ho:o.op with
  | move x=>simp only[aV,ho];exact qj.ret
  | pick c a b=>
    simp only[aV,ho];split
    . exact qj.br qj.ret qj.ret
    . exact qj.fail
  | unOp op t x=>
    simp only[aV,ho];split
    . exact qj.ret
    . exact qj.ret
    . exact qj.fail
  | field t x f=>
    simp only[aV,ho];split
    . split
      . split
        . exact qj.ret
        . exact qj.fail
      . exact qj.fail
    . exact qj.fail
  | extract x i=>simp only[aV,ho];exact qj.ofMap (f:=fun v=>v)
  | makeFunc f first caps=>
    cases f with
    | func f=>
      simp only[aV,ho];split
      . exact qj.ret
      . exact qj.fail
    | _=>simp only[aV,ho];exact qj.fail
  | load t x=>
    have:=ha (x:=x) (by unfold rQ;rw[ho]) (by rw[ho];simp[Op.operands]);simp only[aV,ho];rw[ajY _ _ this];split
    . exact qj.ofMap (f:=fun v=>v)
    . exact qj.fail
  | nilCheck x=>
    have:=ha (x:=x) (by unfold rQ;rw[ho]) (by rw[ho];simp[Op.operands]);simp only[aV,ho];cases hv:ρ x with
    | addr r p=>
      rw[hv]at this;simp only;rw[Ck this (by simp[AV.roots])];cases S.focus r p with
      | none=>exact qj.fail
      | some d=>exact qj.ret
    | cj t y=>exact qj.ret
    | gH f c=>exact qj.ret
    | _=>exact qj.fail
  | fieldAddr s x f=>have:=ha (x:=x) (by unfold rQ;rw[ho]) (by rw[ho];simp[Op.operands]);simp only[aV,ho];rw[agE _ _ _ this];exact qj.ofMap (f:=fun v=>v)
  | indexAddr t x i=>
    have:=ha (x:=x) (by unfold rQ;rw[ho]) (by rw[ho];simp[Op.operands]);simp only[aV,ho];rw[ajX _ _ _ this];split
    . exact qj.br qj.ret qj.fail
    . exact qj.fail
  | index t x i=>
    simp only[aV,ho];split
    . exact qj.br qj.ret qj.fail
    . exact qj.fail
  | convert s d x=>
    have:=ha (x:=x) (by unfold rQ;rw[ho]) (by rw[ho];simp[Op.operands]);simp only[aV,ho];split
    . exact qj.ret
    . exact qj.ret
    . rw[Ml _ _ this]
      split
      . exact qj.ret
      . exact qj.fail
    . exact qj.fail
  | binOp op t x y t2=>
    have:=ha (x:=x) (by unfold rQ;rw[ho]) (by rw[ho];simp[Op.operands]);simp only[aV,ho];rw[Qa _ this];split
    . split
      . exact qj.nil (f:=fun b=>.val .bool b)
      . exact qj.nil (f:=fun b=>.val .bool b)
      . exact qj.fail
    . split
      . exact qj.ret
      . exact qj.br qj.ret qj.fail
      . exact qj.br qj.fail qj.ret
      . exact qj.fail
  | assign x=>
    simp only[dP,ho]at hw;simp only[aV,ho];cases hv:ρ x with
    | b9 r p s=>rw[hv]at hw;simp at hw
    | pair a b=>rw[hv]at hw;simp at hw
    | _=>exact qj.ret
  | build t parts=>
    simp only[dP,ho]at hw;split at hw
    . rename_i hc
      simp only[bI]at hc;simp only[aV,ho];split
      . obtain⟨r,h1,h2⟩:=Rw (C.ty t) (parts.toList.map fun p=>(p.1,ρ p.2)) (Mk.z8 hint (C.ty t),(C.ty t).zero) (abF hc.1 hint) (by
          have:=hc.2;unfold T_ at this;simpa [List.all_map] using this)
        rw[h1 S,h1 S'];cases r with
        | none=>exact qj.fail
        | some z=>exact Sw hl (h2 z rfl)
      . exact qj.fail
    . simp at hw
  | call c=>
    have hb:rQ o=false:=by unfold rQ;rw[ho]
    cases hc:c.callee with
    | builtin b=>
      cases b with
      | len=>
        simp only[aV,ho,hc];split
        . exact qj.ret
        . rename_i x _ _ _ hargs _
          obtain⟨u,vM,C9⟩:∃u,u∈c.args.toList/\ρ u=x:=by
            have:x∈c.args.toList.map ρ:=by rw[hargs];simp
            simpa using this
          have:=ha (x:=u) hb (by rw[ho];simp only[Op.operands,Call.operands,sB];right;simpa using vM);rw[C9]at this;rw[Qa _ this];exact qj.ofMap (f:=fun n=>.val (.int .i64) n)
        all_goals first | (exfalso;contradiction) | exact qj.fail
      | min=>
        simp only[aV,ho,hc];split
        all_goals first
          | (exfalso;contradiction)
          | exact qj.fail
          | (split
             . split
               . exact qj.ret
               . exact qj.fail
             . exact qj.fail)
      | max=>
        simp only[aV,ho,hc];split
        all_goals first
          | (exfalso;contradiction)
          | exact qj.fail
          | (split
             . split
               . exact qj.ret
               . exact qj.fail
             . exact qj.fail)
      | _=>simp[dP,ho,hc]at hw
    | value f=>
      have hf:=ha (x:=f) hb (by rw[ho];simp[Op.operands,Call.operands,hc]);have hargs:gZ (qk (c.args.toList.map ρ)) S S':=by
        intro r hr';have key:∀(l:List Operand),(∀x∈l,gZ (ρ x).roots S S')->r∈qk (l.map ρ)->S'.root r=S.root r:=by
          intro l
          induction l with
          | nil=>intro _ h;simp[qk]at h
          | cons x l ih=>
            intro hx h;simp only[cv,qk,bN]at h;rcases h with h | h
            . exact hx x e8 r h
            . exact ih (fun y hy=>hx y (cF _ hy)) h
        exact key c.args.toList (fun x hx=>ha hb (by rw[ho];simp only[Op.operands,Call.operands,sB];right;simpa using hx)) hr'
      simp only[aV,ho,hc];simp only[dP,ho,hc]at hw;cases hv:ρ f with
      | gH g caps=>
        rw[hv]at hw hf;simp only at hw⊢;split at hw
        . simp at hw
        rename_i vL;simp only[qO,af vL];split at hw
        . rename_i hq
          refine abP (A:={ A with sh:=hint }) (A':={ A' with sh:=hint }) rfl hl hq ?_;intro r hr';rcases(qzc _ _ r).1 hr' with h | h
          . exact hargs r h
          . exact hf r (by simp only[AV.roots];exact V5 _ r h)
        . simp at hw
      | eA cl=>
        simp only;rw[Qc _ _ hargs];split
        . split
          . exact qj.call fun x=>qj.ret
          . exact qj.fail
        . exact qj.fail
      | _=>exact qj.fail
    | invoke r m=>simp only[aV,ho,hc];exact qj.fail
  | _=>simp[dP,ho]at hw
end
end
structure fQ (W:List Nat) (S S':aO):Prop where
 len:S'.length=S.length
 root:∀r,r∉W->S'.root r=S.root r
theorem fQ.refl(W:List Nat)(S:aO):fQ W S S:=⟨rfl,fun _ _=>rfl⟩
theorem fQ.trans{W:List Nat}{a b c:aO}(h:fQ W a b)(k:fQ W b c):fQ W a c:=⟨k.len.trans h.len,fun r hr=>(k.root r hr).trans (h.root r hr)⟩
theorem fQ.mono{W W':List Nat}{a b:aO}(h:fQ W a b)(hs:∀r∈W,r∈W'):fQ W' a b:=⟨h.len,fun r hr=>h.root r fun hh=>hr (hs r hh)⟩
theorem fQ.set(S:aO)(q:Nat)(x:Option aC):fQ [q] S (S.aI q x):=by refine⟨by simp[aO.bX],fun r hr=>?_⟩;simp only[d9]at hr;simp only[aO.ig,aO.bX,List.getD,jV];rw[af (fun h=>hr h.symm)]
theorem vi:∀(t:Ty)(a:AV){S S':aO}{m:Mk}{x:t.den},tk S t a=some (m,x,S')->fQ a.roots S S'
 | t,.val t' y,S,S',m,x,h=>by
  have:(qbv t' t y).bind (fun x=>some (Mk.no,x,S))=some (m,x,S'):=by cases t<;>simpa only [tk] using h
  simp only[cM,aK,aY]at this;obtain⟨_,_,_,_,rfl⟩:=this;exact fQ.refl _ _
 | t,.cG b,S,S',m,x,h=>by
  cases t<;>simp[tk]at h;obtain⟨_,_,rfl⟩:=h;exact fQ.refl _ _
 | t,.unit,S,S',m,x,h=>by
  cases t<;>simp[tk]at h;obtain⟨_,rfl⟩:=h;exact fQ.refl _ _
 | t,.fm,S,S',m,x,h=>by
  cases t<;>simp[tk]at h;obtain⟨_,_,rfl⟩:=h;exact fQ.refl _ _
 | t,.b9 r p s,S,S',m,x,h=>by
  cases t with
  | sl e=>
   simp only[tk]at h;split at h
   .split at h
    .split at h
     .simp only[cM,aK,aY]at h;obtain⟨_,_,_,_,_,_,rfl⟩:=h;exact fQ.set _ _ _
     .simp at h
    .simp at h
   .simp at h
  | _=>simp[tk]at h
 | t,.pair u v,S,S',m,x,h=>by
  cases t with
  | pair a b=>simp only[tk,cM,aK,aY]at h;obtain⟨⟨m1,x1,S1⟩,h1,⟨m2,x2,S2⟩,h2,_,_,rfl⟩:=h;exact((vi a u h1).mono fun r hr=>by simp[AV.roots,hr]).trans ((vi b v h2).mono fun r hr=>by simp[AV.roots,hr])
  | _=>simp[tk]at h
 | t,.undef,S,S',m,x,h=>by cases t<;>simp[tk]at h
 | t,.skip,S,S',m,x,h=>by cases t<;>simp[tk]at h
 | t,.view _ _ _ _ _,S,S',m,x,h=>by cases t<;>simp[tk]at h
 | t,.addr _ _,S,S',m,x,h=>by cases t<;>simp[tk]at h
 | t,.cj _ _,S,S',m,x,h=>by cases t<;>simp[tk]at h
 | t,.jJ _,S,S',m,x,h=>by cases t<;>simp[tk]at h
 | t,.gH _ _,S,S',m,x,h=>by cases t<;>simp[tk]at h
 | t,.eA _,S,S',m,x,h=>by cases t<;>simp[tk]at h
theorem akv(t:Ty)(a:AV){S S':aO}{hint:Bool}{m:Mk}{x:t.den}(h:Uf S hint t a=some (m,x,S')):fQ a.roots S S':=by
 simp only[Uf,cM]at h;obtain⟨⟨m1,x1,S1⟩,h1,h⟩:=h;split at h
 .split at h
  .simp only[aK,aY]at h;obtain⟨rfl,rfl,rfl⟩:=h;exact vi t a h1
  .simp at h
 .simp only[aK,aY]at h;obtain⟨rfl,rfl,rfl⟩:=h;exact vi t a h1
theorem vZ{A:bY}{S S':aO}{d:Option Nat}{site:Nat}{t:Ty}{m:Mk}{x:t.den}{mem:Bool}{β:Bool}{v:AV}(h:(dU A S d site t m x mem).dec β=some (v,S')):fQ d.toList S S':=by
 cases d with
 | none=>simp only[dU,Tr.dec,aK,aY]at h;rw[<-h.2];exact fQ.refl _ _
 | some d=>
  simp only[dU]at h;split at h
  .simp[Tr.dec]at h
  .split at h
   .split at h
    .simp only[Tr.dec,aK,aY]at h;rw[<-h.2];exact fQ.set _ _ _
    .simp[Tr.dec]at h
   .split at h
    .simp only[Tr.dec,aK,aY]at h;rw[<-h.2];exact fQ.refl _ _
    .split at h
     .simp only[Tr.dec,aK,aY]at h;rw[<-h.2];exact fQ.set _ _ _
     .simp[Tr.dec]at h
theorem Q7{T:Ty}:∀(l:List (Nat×AV))(acc:Mk×T.den){S S':aO}{m:Mk}{x:T.den},oH S T acc l=some (m,x,S')->fQ (qk (l.map (·.2))) S S'
 | [],acc,S,S',m,x,h=>by
  simp only[oH,aK,aY]at h;obtain⟨_,_,rfl⟩:=h;exact fQ.refl _ _
 | (i,v)::l,acc,S,S',m,x,h=>by
  simp only[oH,cM]at h;obtain⟨d,_,⟨m1,x1,S1⟩,h1,r,_,h2⟩:=h;exact((vi _ v h1).mono fun r hr=>by simp[qk,hr]).trans ((Q7 l _ h2).mono fun r hr=>by simp[qk,hr])
theorem MQ{e:Ty}:∀(l:List (Nat×AV))(acc:Mk×List e.den){S S':aO}{m:Mk}{x:List e.den},tF S e acc l=some (m,x,S')->fQ (qk (l.map (·.2))) S S'
 | [],acc,S,S',m,x,h=>by
  simp only[tF,aK,aY]at h;obtain⟨_,_,rfl⟩:=h;exact fQ.refl _ _
 | (i,v)::l,acc,S,S',m,x,h=>by
  simp only[tF]at h;split at h
  .simp only[cM]at h;obtain⟨⟨m1,x1,S1⟩,h1,h2⟩:=h;exact((vi _ v h1).mono fun r hr=>by simp[qk,hr]).trans ((MQ l _ h2).mono fun r hr=>by simp[qk,hr])
  .simp at h
theorem Fj:∀(ks:List PK)(aJ:List AV){S S':aO}{g:ju ks},f5 S ks aJ=some (g,S')->fQ (mz ks aJ) S S'
 | [],[],S,S',g,h=>by
  simp only[f5,aK,aY]at h;rw[h.2];exact fQ.refl _ _
 | [],_::_,S,S',g,h=>by simp[f5]at h
 | k::ks,[],S,S',g,h=>by cases k<;>simp[f5]at h
 | k::ks,a::aJ,S,S',g,h=>by
  have hsub:∀r∈mz ks aJ,r∈mz (k::ks) (a::aJ):=by intro r hr;simp only[mz];split<;>simp[hr]
  cases k with
  | own t m=>
   simp only[f5,cM]at h;obtain⟨⟨m1,x1,S1⟩,h1,h⟩:=h;split at h
   .simp only[cM,aK,aY]at h;obtain⟨⟨g2,S2⟩,h2,_,rfl⟩:=h;exact((vi _ a h1).mono fun r hr=>by simp[mz,PK.plain,hr]).trans ((Fj ks aJ h2).mono hsub)
   .simp at h
  | val t=>exact(Fj ks aJ (by simpa only [f5] using h)).mono hsub
  | cC t m m'=>exact(Fj ks aJ (by simpa only [f5] using h)).mono hsub
  | cO t m m'=>exact(Fj ks aJ (by simpa only [f5] using h)).mono hsub
  | cm t=>exact(Fj ks aJ (by simpa only [f5] using h)).mono hsub
  | fn=>exact(Fj ks aJ (by simpa only [f5] using h)).mono hsub
theorem Gq:∀(a:AV){r:Nat}{p:Path},kF a=some (r,p)->r∈a.roots
 | .b9 r' p' s,r,p,h=>by simp only[kF,aK,aY]at h;simp[AV.roots,h.1]
 | .pair a b,r,p,h=>by
  simp only[kF]at h;simp only[AV.roots,bN];split at h
  .rename_i r1 p1 h1;simp only[aK,aY]at h;obtain⟨rfl,_⟩:=h;exact .inl (Gq a h1)
  .split at h
   .rename_i r1 p1 h1;simp only[aK,aY]at h;obtain⟨rfl,_⟩:=h;exact .inr (Gq b h1)
   .simp at h
 | .undef,_,_,h=>by simp[kF]at h
 | .skip,_,_,h=>by simp[kF]at h
 | .cG _,_,_,h=>by simp[kF]at h
 | .unit,_,_,h=>by simp[kF]at h
 | .fm,_,_,h=>by simp[kF]at h
 | .val _ _,_,_,h=>by simp[kF]at h
 | .view _ _ _ _ _,_,_,h=>by simp[kF]at h
 | .addr _ _,_,_,h=>by simp[kF]at h
 | .cj _ _,_,_,h=>by simp[kF]at h
 | .jJ _,_,_,h=>by simp[kF]at h
 | .gH _ _,_,_,h=>by simp[kF]at h
 | .eA _,_,_,h=>by simp[kF]at h
theorem ab_{S S':aO}{site:Nat}{t:Ty}{a:AV}{m:Mk}{o:t.den}(h:xV S site t a m o=some S'):fQ a.roots S S':=by
 unfold xV at h;split at h
 .simp only[aK]at h;rw[h];exact fQ.refl _ _
 .rename_i r p hp;split at h
  .simp only[cM]at h;obtain⟨d,_,h⟩:=h;split at h
   .simp only[cM]at h;obtain⟨y,_,h⟩:=h;split at h
    .simp at h
    .simp only[cM,aK]at h;obtain⟨_,_,rfl⟩:=h;exact(fQ.set _ _ _).mono fun r' hr=>by simp only[d9]at hr;subst hr;exact Gq a hp
   .simp at h
  .simp at h
theorem Fi{site:Nat}:∀(ks:List PK)(aJ:List AV)(o:dI ks){S S':aO},gb S site ks aJ o=some S'->fQ (mz ks aJ) S S'
 | [],[],o,S,S',h=>by
  simp only[gb,aK]at h;rw[h];exact fQ.refl _ _
 | [],_::_,o,S,S',h=>by simp[gb]at h
 | k::ks,[],o,S,S',h=>by cases k<;>simp[gb]at h
 | k::ks,a::aJ,o,S,S',h=>by
  have hsub:∀r∈mz ks aJ,r∈mz (k::ks) (a::aJ):=by intro r hr;simp only[mz];split<;>simp[hr]
  cases k with
  | cC t m m'=>
   cases a with
   | addr q p=>
    cases p with
    | nil=>
     simp only[gb]at h;split at h
     .exact((fQ.set _ _ _).mono fun r hr=>by simp only[d9]at hr;subst hr;simp[mz,PK.plain,AV.roots]).trans ((Fi ks aJ o.2 h).mono hsub)
     .simp at h
    | cons _ _=>simp[gb]at h
   | _=>simp[gb]at h
  | cO t m m'=>simp only[gb,cM]at h;obtain⟨S1,h1,h2⟩:=h;exact((ab_ h1).mono fun r hr=>by simp[mz,PK.plain,hr]).trans ((Fi ks aJ o.2 h2).mono hsub)
  | val t=>exact(Fi ks aJ o (by simpa only [gb] using h)).mono hsub
  | own t m=>exact(Fi ks aJ o (by simpa only [gb] using h)).mono hsub
  | cm t=>exact(Fi ks aJ o (by simpa only [gb] using h)).mono hsub
  | fn=>exact(Fi ks aJ o (by simpa only [gb] using h)).mono hsub
theorem MN{A:bY}{S S':aO}{d:Option Nat}{site:Nat}:∀(rs:List RK)(r:f9 rs){β:Bool}{v:AV},(mA A S d site rs r).dec β=some (v,S')->fQ d.toList S S'
 | [],r,β,v,h=>by
  simp only[mA,Tr.dec,aK,aY]at h;rw[<-h.2];exact fQ.refl _ _
 | [.val t m],r,β,v,h=>by
  simp only[mA]at h;split at h
  .split at h
   .simp only[Tr.dec,aK,aY]at h;rw[<-h.2];exact fQ.refl _ _
   .simp[Tr.dec]at h
  .split at h
   .exact vZ h
   .simp[Tr.dec]at h
 | [.ptr t m],r,β,v,h=>by
  simp only[mA]at h;split at h
  .exact vZ h
  .simp[Tr.dec]at h
 | q1::q2::rs,r,β,v,h=>by
  have h':(Cx A S d site (q1::q2::rs) r).dec β=some (v,S'):=by cases q1<;>simpa only [mA] using h
  unfold Cx at h';split at h'
  .cases d with
   | none=>simp only[Tr.dec,aK,aY]at h';rw[<-h'.2];exact fQ.refl _ _
   | some d=>
    simp only at h';cases hl:dU A S (some d) site (jt (q1::q2::rs)) (pO (q1::q2::rs)) (kj (q1::q2::rs) r) false with
    | ret z=>obtain⟨v1,S1⟩:=z;rw[hl]at h';simp only[Tr.dec,aK,aY]at h';rw[<-h'.2];exact vZ (β:=true) (by rw[hl];rfl)
    | _=>rw[hl]at h';simp[Tr.dec]at h'
  .simp[Tr.dec]at h'
section
variable {C:Ctx} {D:Den C}
theorem Hv{A:bY}{S S':aO}{d:Option Nat}{site:Nat}{g:FuncId}{aJ:List AV}{β:Bool}{v:AV}(h:(rS C D A S d site g aJ).dec β=some (v,S')):fQ (d.toList++mz (C.sig g).params aJ) S S':=by
 unfold rS at h;split at h
 .simp[Tr.dec]at h
 .rename_i gd S1 h1;split at h
  .simp[Tr.dec]at h
  .rename_i od S2 h2;split at h
   .simp[Tr.dec]at h
   .split at h
    .simp only[Tr.dec,cM]at h;obtain⟨r,_,h⟩:=h;have f1:fQ (d.toList++mz (C.sig g).params aJ) S S1:=(Fj _ _ h1).mono fun r hr=>by simp[hr]
     split at h
     .exact f1.trans ((MN _ _ h).mono fun r hr=>by simp[hr])
     .split at h
      .cases hlo:v5 (C.sig g).params aJ with
       | false=>rw[hlo]at h;simp[Tr.dec]at h
       | true=>
       rw[hlo]at h;simp only[Tr.dec]at h;split at h
       .simp[Tr.dec]at h
       .rename_i S3 h3;exact f1.trans (((Fi _ _ _ h3).mono fun r hr=>by simp[hr]).trans ((MN _ _ h).mono fun r hr=>by simp[hr]))
      .simp[Tr.dec]at h
    .simp[Tr.dec]at h
theorem U5:∀(ks:List PK)(aJ:List AV),∀r∈mz ks aJ,r∈qk aJ
 | [],_,r,h=>by simp[mz]at h
 | k::ks,[],r,h=>by simp[mz]at h
 | k::ks,a::aJ,r,h=>by
  simp only[mz]at h;simp only[qk,bN];split at h
  .exact .inr (U5 ks aJ r h)
  .rcases bN.1 h with h | h
   .exact .inl h
   .exact .inr (U5 ks aJ r h)
theorem q5r:∀(ks:List PK)(aJ:List AV){S:aO}{z:List AV×aO},k_ S ks aJ=some z->fQ (qk aJ) S z.2/\mz ks z.1=mz ks aJ
 | [],[],S,z,h=>by
  simp only[k_,aK]at h;subst h;exact⟨fQ.refl _ _,rfl⟩
 | [],_::_,S,z,h=>by simp[k_]at h
 | k::ks,[],S,z,h=>by cases k<;>simp[k_]at h
 | k::ks,a::aJ,S,z,h=>by
  have plain:(k_ S ks aJ).map (fun z=>(a::z.1,z.2))=some z->fQ (qk (a::aJ)) S z.2/\mz (k::ks) z.1=mz (k::ks) (a::aJ):=by intro h;simp only[fq]at h;obtain⟨z',h1,rfl⟩:=h;obtain⟨f,e⟩:=q5r ks aJ h1;exact⟨f.mono fun r hr=>by simp[qk,hr],by simp only[mz,e]⟩
  cases k with
  | val t=>
   simp only[k_]at h;split at h
   .exact plain h
   .split at h
    .rename_i m y S1 sg;split at h
     .simp only[fq]at h;obtain⟨z',h1,rfl⟩:=h;obtain⟨f,e⟩:=q5r ks aJ h1;exact⟨((vi _ _ sg).mono fun r hr=>by simp[qk,hr]).trans (f.mono fun r hr=>by simp[qk,hr]),by simp only[mz,PK.plain,aX,e]⟩
     .simp at h
    .simp at h
  | _=>exact plain (by simpa only [k_] using h)
theorem abQ{A:bY}{S S':aO}{d:Option Nat}{site:Nat}{g:FuncId}{aJ:List AV}{β:Bool}{v:AV}(h:(qO C D A S d site g aJ).dec β=some (v,S')):fQ (d.toList++qk aJ) S S':=by
 unfold qO at h;split at h
 .split at h
  .rename_i z hz;obtain⟨f,e⟩:=q5r _ _ hz;have f2:=Hv h;rw[e]at f2;exact(f.mono fun r hr=>by simp[hr]).trans (f2.mono fun r hr=>by
    rcases bN.1 hr with hr | hr
    .simp[hr]
    .exact bN.2 (.inr (U5 _ _ r hr)))
  .simp[Tr.dec]at h
 .exact(Hv h).mono fun r hr=>by
   rcases bN.1 hr with hr | hr
   .simp[hr]
   .exact bN.2 (.inr (U5 _ _ r hr))
theorem RF{A:bY}{S S':aO}{d:Option Nat}{site:Nat}{hint:Bool}{u:AV}{β:Bool}{v:AV}(h:(Ft A S d site hint u).dec β=some (v,S')):fQ (d.toList++u.roots) S S':=by
 unfold Ft at h;split at h
 .split at h
  .rename_i m y S1 h1;have f1:fQ (d.toList++u.roots) S S1:=(vi _ _ h1).mono fun r hr=>by simp[hr]
   split at h
   .split at h
    .simp only[Tr.dec,aK,aY]at h;rw[<-h.2];exact f1
    .simp[Tr.dec]at h
   .exact f1.trans ((vZ h).mono fun r hr=>by simp[hr])
  .simp[Tr.dec]at h
 .simp[Tr.dec]at h
theorem UZ{ρ:Operand->AV}(ps:Array (Nat×Operand)):qk ((ps.toList.map fun p=>(p.1,ρ p.2)).map (·.2))=qk ((ps.toList.map (·.2)).map ρ):=by simp only[BR];rfl
theorem abW{A:bY}{ρ:Operand->AV}{S S':aO}{site:Nat}{hint:Bool}{o:Oper}{W:List Nat}(hw:dP C ρ o=some W){β:Bool}{v:AV}
  (h:(aV C D A ρ S site hint o).dec β=some (v,S')):fQ W S S':=by
 have hin:∀{x:Operand},x∈o.op.operands->∀r∈(ρ x).roots,r∈qk (o.op.operands.toList.map ρ):=fun hx r hr=>q9k (eJ.2 ⟨_,by simpa using hx,rfl⟩) r hr;cases ho:o.op with
 | assign x=>
  simp only[dP,ho]at hw;simp only[aV,ho]at h;have hx:=hin (x:=x) (by rw[ho];simp[Op.operands]);rw[ho]at hx;cases hv:ρ x with
  | b9 r p s=>
   rw[hv]at hw h hx;simp only[aK]at hw;subst hw;simp only at h;split at h
   .simp only[Tr.dec,aK,aY]at h;rw[<-h.2];exact fQ.refl _ _
   .exact(RF h).mono fun r hr=>by rcases bN.1 hr with h | h;exact bN.2 (.inl h);exact bN.2 (.inr (hx r h))
  | pair a b=>rw[hv]at hw h hx;simp only[aK]at hw;subst hw;exact(RF h).mono fun r hr=>by rcases bN.1 hr with h | h;exact bN.2 (.inl h);exact bN.2 (.inr (hx r h))
  | _=>rw[hv]at hw;simp at hw
 | alloc t=>
  simp only[dP,ho,aK]at hw;subst hw;simp only[aV,ho]at h;split at h
  .exact(vZ h).mono fun r hr=>by simp[hr]
  .simp[Tr.dec]at h
 | box t x=>
  simp only[dP,ho,aK]at hw;subst hw;have hx:=hin (x:=x) (by rw[ho];simp[Op.operands]);rw[ho]at hx;simp only[aV,ho]at h;split at h
  .split at h
   .rename_i m y S1 h1;have f1:=(vi _ _ h1).mono (W':=o.dst.toList++qk ((Op.box t x).operands.toList.map ρ)) fun r hr=>bN.2 (.inr (hx r hr));split at h
    .split at h
     .exact f1.trans ((vZ h).mono fun r hr=>by simp[hr])
     .simp[Tr.dec]at h
    .exact f1.trans ((vZ h).mono fun r hr=>by simp[hr])
   .simp[Tr.dec]at h
  .simp[Tr.dec]at h
 | build t ps=>
  simp only[dP,ho]at hw;split at hw
  .simp at hw
  simp only[aK]at hw;subst hw;simp only[aV,ho]at h;split at h
  .split at h
   .rename_i m y S1 h1;have f1:=(Q7 _ _ h1).mono (W':=o.dst.toList++qk ((Op.build t ps).operands.toList.map ρ)) fun r hr=>by
     rw[UZ]at hr;exact bN.2 (.inr (by simpa [Op.operands] using hr))
    exact f1.trans ((vZ h).mono fun r hr=>by simp[hr])
   .simp[Tr.dec]at h
  .simp[Tr.dec]at h
 | buildSlice t n ps=>
  simp only[dP,ho,aK]at hw;subst hw;simp only[aV,ho]at h;split at h
  .split at h
   .rename_i m y S1 h1;have f1:=(MQ _ _ h1).mono (W':=o.dst.toList++qk ((Op.buildSlice t n ps).operands.toList.map ρ)) fun r hr=>by
     rw[UZ]at hr;exact bN.2 (.inr (by simpa [Op.operands] using hr))
    split at h
    .split at h
     .split at h
      .simp only[Tr.dec,aK,aY]at h;rw[<-h.2];exact f1
      .simp[Tr.dec]at h
     .exact f1.trans ((vZ h).mono fun r hr=>by simp[hr])
    .simp[Tr.dec]at h
   .simp[Tr.dec]at h
  .simp[Tr.dec]at h
 | store t x y=>
  simp only[dP,ho,aK]at hw;subst hw;have hx:=hin (x:=x) (by rw[ho];simp[Op.operands]);have hy:=hin (x:=y) (by rw[ho];simp[Op.operands]);rw[ho]at hx hy;simp only[aV,ho]at h;split at h
  .cases hs:Bu S site hint (C.ty t) (ρ x) (ρ y) with
   | none=>rw[hs]at h;simp[Tr.of,Tr.dec]at h
   | some S2=>
    rw[hs]at h;simp only[d_,Tr.of,Tr.dec,aK,aY]at h;rw[<-h.2];unfold Bu at hs;split at hs
    .rename_i r p hv;simp only[cM]at hs;obtain⟨⟨m,z,S1⟩,h1,hs⟩:=hs;split at hs
     .simp only[cM]at hs;obtain⟨dd,_,hs⟩:=hs;split at hs
      .simp only[cM,aK]at hs;obtain⟨_,_,rfl⟩:=hs;refine((akv _ _ h1).mono fun r hr=>bN.2 (.inr (hy r hr))).trans ((fQ.set _ _ _).mono fun r' hr=>?_);simp only[d9]at hr;subst hr;exact bN.2 (.inr (hx _ (by rw[hv];simp[AV.roots])))
      .simp at hs
     .simp at hs
    .simp at hs
  .simp[Tr.dec]at h
 | makeSlice t x y=>
  simp only[dP,ho,aK]at hw;subst hw;simp only[aV,ho]at h;split at h
  .simp only[Tr.dec]at h;split at h
   .exact(vZ h).mono fun r hr=>by simp[hr]
   .simp at h
  .simp[Tr.dec]at h
 | slice t x lo hi mx=>
  simp only[dP,ho,aK]at hw;subst hw;have hx:=hin (x:=x) (by rw[ho];simp[Op.operands]);rw[ho]at hx;cases mx with
  | some _=>simp only[aV,ho,Tr.dec]at h;simp at h
  | none=>
   simp only[aV,ho]at h;unfold uF at h;split at h
   .split at h
    .simp only[Tr.dec]at h;split at h
     .simp only[aK,aY]at h;rw[<-h.2];exact fQ.refl _ _
     .simp at h
    .simp[Tr.dec]at h
   .split at h
    .split at h
     .simp only[Tr.dec]at h;split at h
      .simp only[aK,aY]at h;rw[<-h.2];exact fQ.refl _ _
      .simp at h
     .simp[Tr.dec]at h
    .simp[Tr.dec]at h
   .rename_i r p s e hv hT;split at h
    .split at h
     .rename_i m xs S2 h1;have f1:=(vi _ _ h1).mono (W':=o.dst.toList++qk ((Op.slice t x lo hi none).operands.toList.map ρ)) fun r hr=>bN.2 (.inr (hx r (by rw[hv];exact hr)));split at h
      .split at h
       .simp only[Tr.dec]at h;split at h
        .exact f1.trans ((vZ h).mono fun r hr=>by simp[hr])
        .simp at h
       .simp[Tr.dec]at h
      .simp[Tr.dec]at h
     .simp[Tr.dec]at h
    .unfold uN at h;split at h
     .split at h
      .split at h
       .simp only[Tr.dec]at h;split at h
        .simp only[aK,aY]at h;rw[<-h.2];exact fQ.refl _ _
        .simp at h
       .simp[Tr.dec]at h
      .simp[Tr.dec]at h
     .simp[Tr.dec]at h
   .simp[Tr.dec]at h
 | call c=>
  have hargs:∀(a:AV),a∈c.args.toList.map ρ->∀r∈a.roots,r∈qk (o.op.operands.toList.map ρ):=by intro a ha r hr;obtain⟨x,hx,rfl⟩:=eJ.1 ha;exact hin (x:=x) (by rw[ho];simp only[Op.operands,Call.operands,sB];right;simpa using hx) r hr
  cases hc:c.callee with
  | builtin b=>
   cases b with
   | append=>
    simp only[dP,ho,hc,aK]at hw;subst hw;rw[ho]at hargs;simp only[aV,ho,hc]at h;split at h<;>try (first | (exfalso;contradiction) | (simp[Tr.dec]at h;done))
    rename_i x0 y0 e e' _ _ hmap _;split at h
    .cases hint with
     | true=>
      simp only[aX]at h;have hx0:=hargs x0 (by rw[hmap];simp);unfold qP at h;split at h
      .split at h
       .split at h
        .split at h
         .split at h
          .simp only[Tr.dec]at h;split at h
           .simp only[aK,aY]at h;rw[<-h.2];exact(fQ.set _ _ _).mono fun r' hr=>by
             simp only[d9]at hr;subst hr;exact bN.2 (.inr (hx0 _ (by simp[AV.roots])))
           .simp at h
          .simp[Tr.dec]at h
         .simp[Tr.dec]at h
        .simp[Tr.dec]at h
       .simp[Tr.dec]at h
      .simp[Tr.dec]at h
     | false=>
     simp only[fh,dZ]at h;unfold DH at h;have hx0:=hargs x0 (by rw[hmap];simp);have hy0:=hargs y0 (by rw[hmap];simp);split at h
     .rename_i m xs S1 h1;split at h
      .rename_i my ys S2 h2;have f1:=((vi _ _ h1).mono (W':=o.dst.toList++qk ((Op.call c).operands.toList.map ρ)) fun r hr=>bN.2 (.inr (hx0 r hr))).trans
        ((vi _ _ h2).mono fun r hr=>bN.2 (.inr (hy0 r hr)))
       split at h
       .split at h
        .simp only[Tr.dec]at h;split at h
         .exact f1.trans ((vZ h).mono fun r hr=>by simp[hr])
         .simp at h
        .simp[Tr.dec]at h
       .simp[Tr.dec]at h
      .simp[Tr.dec]at h
     .simp[Tr.dec]at h
    .simp[Tr.dec]at h
   | clear=>simp only[dP,ho,hc,aK]at hw;subst hw;rw[ho]at hargs;simp only[aV,ho,hc]at h;split at h<;>try (first | (exfalso;contradiction) | (simp[Tr.dec]at h;done))
   | copy=>
    simp only[dP,ho,hc,aK]at hw;subst hw;rw[ho]at hargs;simp only[aV,ho,hc]at h;split at h<;>try (first | (exfalso;contradiction) | (simp[Tr.dec]at h;done))
    rename_i x0 y0 e _ _ hmap _;have hx0:=hargs x0 (by rw[hmap];simp);unfold yb at h;split at h
    .split at h
     .split at h
      .split at h
       .split at h
        .split at h
         .simp only[Tr.dec]at h;split at h
          .simp only[aK,aY]at h;rw[<-h.2];exact(fQ.set _ _ _).mono fun r' hr=>by
            simp only[d9]at hr;subst hr;exact bN.2 (.inr (hx0 _ (by simp[AV.roots])))
          .simp only[aK,aY]at h;rw[<-h.2];exact fQ.refl _ _
         .simp[Tr.dec]at h
        .simp[Tr.dec]at h
       .simp[Tr.dec]at h
      .simp[Tr.dec]at h
     .simp[Tr.dec]at h
    .simp[Tr.dec]at h
   | len=>simp[dP,ho,hc]at hw
   | min=>simp[dP,ho,hc]at hw
   | max=>simp[dP,ho,hc]at hw
   | _=>simp only[aV,ho,hc,Tr.dec]at h;simp at h
  | value f=>
   simp only[dP,ho,hc]at hw;simp only[aV,ho,hc]at h;cases hv:ρ f with
   | gH g caps=>
    rw[hv]at hw h;simp only at hw h;split at hw
    .simp only[aK]at hw;subst hw;refine(abQ h).mono fun r hr=>?_;rcases bN.1 hr with hr | hr
     .exact bN.2 (.inl hr)
     .refine bN.2 (.inr ?_);rw[qzc]at hr;rcases hr with hr | hr
      .simp only[Op.operands,Call.operands,hc];have:∀l:List AV,∀a,r∈qk l->r∈qk (a::l):=fun l a h=>by simp[qk,h]
       simpa using this _ _ hr
      .have h1:=V5 caps r hr;have h2:=hin (x:=f) (by rw[ho];simp[Op.operands,Call.operands,hc]) r (by rw[hv];simpa [AV.roots] using h1);rw[ho]at h2;exact h2
    .rename_i vL;simp only[qO,af vL]at h;split at hw
     .simp at hw
     .simp only[aK]at hw;subst hw;exact Hv h
   | eA cl=>rw[hv]at hw;simp at hw
   | _=>rw[hv]at h;simp[Tr.dec]at h
  | invoke r m=>simp only[aV,ho,hc,Tr.dec]at h;simp at h
 | _=>first | (simp[dP,ho]at hw;done) | (simp only[aV,ho,Tr.dec]at h;simp at h)
end
end Go.V
namespace Go.V
noncomputable section
open Go
theorem nx(S:aO)(q:Nat)(x:Option aC)(r:Nat):(S.aI q x).root r=if r=q/\q<S.length then x else S.root r:=by
 simp only[aO.ig,aO.bX,List.getD,jV];by_cases h:q=r
 .subst h;by_cases hl:q<S.length
  .simp[hl]
  .simp[hl]
 .rw[af h,af (fun k=>h k.1.symm)]
theorem Kh{F:List Nat}{S T:aO}(hr:gZ F S T)(hl:T.length=S.length)(q:Nat)(x:Option aC):gZ F (S.aI q x) (T.aI q x):=by intro r h;rw[nx,nx,hl,hr r h]
def Lk{α:Type}(F:List Nat)(X Y:Option (α×aO)):Prop:=∀a S',X=some (a,S')->∃T',Y=some (a,T')/\gZ F S' T'/\T'.length=S'.length
theorem AI{F:List Nat}:∀(t:Ty)(a:AV){S T:aO}{m:Mk}{x:t.den}{S':aO},gZ F S T->T.length=S.length->(∀r∈a.roots,r∈F)->tk S t a=some (m,x,S')->
  ∃T',tk T t a=some (m,x,T')/\gZ F S' T'/\T'.length=S'.length
 | t,.val t' y,S,T,m,x,S',hr,hl,hF,h=>by
  have e:∀S:aO,tk S t (.val t' y)=(qbv t' t y).bind (fun x=>some (Mk.no,x,S)):=by intro S;cases t<;>simp only[tk]
  rw[e]at h;simp only[cM,aK,aY]at h;obtain⟨z,hz,rfl,rfl,rfl⟩:=h;exact⟨T,by rw[e,hz];rfl,hr,hl⟩
 | t,.cG b,S,T,m,x,S',hr,hl,hF,h=>by
  cases t<;>simp[tk]at h;obtain⟨rfl,rfl,rfl⟩:=h;exact⟨T,by simp[tk],hr,hl⟩
 | t,.unit,S,T,m,x,S',hr,hl,hF,h=>by
  cases t<;>simp[tk]at h;obtain⟨rfl,rfl⟩:=h;exact⟨T,by simp[tk],hr,hl⟩
 | t,.fm,S,T,m,x,S',hr,hl,hF,h=>by
  cases t<;>simp[tk]at h;obtain⟨rfl,rfl,rfl⟩:=h;exact⟨T,by simp[tk],hr,hl⟩
 | t,.b9 r p s,S,T,m,x,S',hr,hl,hF,h=>by
  cases t with
  | sl e=>
   have bK:=hr r (hF r (by simp[AV.roots]));simp only[tk]at h⊢;rw[bK];cases hR:S.root r with
   | none=>rw[hR]at h;simp at h
   | some R=>
    rw[hR]at h;simp only at h⊢;cases hf:V.focus R.ty R.ms R.x p with
    | none=>rw[hf]at h;simp at h
    | some d=>
     obtain⟨dt,dm,dx⟩:=d;rw[hf]at h;cases dt with
     | sl t2=>
      cases dm with
      | own s' m2=>
       simp only at h⊢;by_cases hs:s=s'
       .rw[aj hs]at h⊢;simp only[cM,aK,aY]at h⊢;obtain⟨z,hz,m',hm',rfl,rfl,rfl⟩:=h;exact⟨_,⟨z,hz,m',hm',rfl,rfl,rfl⟩,Kh hr hl _ _,by simp[aO.bX,hl]⟩
       .rw[af hs]at h;simp at h
      | _=>simp at h
     | _=>simp at h
  | _=>simp[tk]at h
 | t,.pair u v,S,T,m,x,S',hr,hl,hF,h=>by
  cases t with
  | pair a b=>simp only[tk,cM,aK,aY]at h;obtain⟨⟨m1,x1,S1⟩,h1,⟨m2,x2,S2⟩,h2,rfl,rfl,rfl⟩:=h;obtain⟨T1,k1,k2,k3⟩:=AI a u hr hl (fun r h=>hF r (by simp[AV.roots,h])) h1;obtain⟨T2,q1,q2,q3⟩:=AI b v k2 k3 (fun r h=>hF r (by simp[AV.roots,h])) h2;exact⟨T2,by simp only[tk,k1,dG,q1],q2,q3⟩
  | _=>simp[tk]at h
 | t,.undef,S,T,m,x,S',hr,hl,hF,h=>by cases t<;>simp[tk]at h
 | t,.skip,S,T,m,x,S',hr,hl,hF,h=>by cases t<;>simp[tk]at h
 | t,.view _ _ _ _ _,S,T,m,x,S',hr,hl,hF,h=>by cases t<;>simp[tk]at h
 | t,.addr _ _,S,T,m,x,S',hr,hl,hF,h=>by cases t<;>simp[tk]at h
 | t,.cj _ _,S,T,m,x,S',hr,hl,hF,h=>by cases t<;>simp[tk]at h
 | t,.jJ _,S,T,m,x,S',hr,hl,hF,h=>by cases t<;>simp[tk]at h
 | t,.gH _ _,S,T,m,x,S',hr,hl,hF,h=>by cases t<;>simp[tk]at h
 | t,.eA _,S,T,m,x,S',hr,hl,hF,h=>by cases t<;>simp[tk]at h
theorem yT{F:List Nat}{A:bY}{S T:aO}(hr:gZ F S T)(hl:T.length=S.length){d:Option Nat}{site:Nat}{t:Ty}{m:Mk}{x:t.den}{mem:Bool}{β:Bool} :
  Lk F ((dU A S d site t m x mem).dec β) ((dU A T d site t m x mem).dec β):=by
 intro v S' h;cases d with
 | none=>simp only[dU,Tr.dec,aK,aY]at h⊢;obtain⟨rfl,rfl⟩:=h;exact⟨T,⟨rfl,rfl⟩,hr,hl⟩
 | some d=>
  simp only[dU,hl]at h⊢;split at h
  .simp[Tr.dec]at h
  .rename_i h1;simp only[h1];split at h
   .rename_i h2;split at h
    .rename_i h3;simp only[Tr.dec,aK,aY]at h;obtain⟨rfl,rfl⟩:=h;exact⟨_,by simp[h2,h3,Tr.dec],Kh hr hl _ _,by simp[aO.bX,hl]⟩
    .simp[Tr.dec]at h
   .rename_i h2;split at h
    .rename_i h3;simp only[Tr.dec,aK,aY]at h;obtain⟨rfl,rfl⟩:=h;exact⟨T,by simp[h2,h3,Tr.dec],hr,hl⟩
    .rename_i h3;split at h
     .rename_i h4;simp only[Tr.dec,aK,aY]at h;obtain⟨rfl,rfl⟩:=h;refine⟨_,?_,Kh hr hl _ _,by simp[aO.bX,hl]⟩;simp only[h2,fh,dZ,h3,h4,aX,Tr.dec]
     .simp[Tr.dec]at h
theorem R4{F:List Nat}{T0:Ty}:∀(l:List (Nat×AV))(acc:Mk×T0.den){S T:aO}{m:Mk}{x:T0.den}{S':aO},gZ F S T->T.length=S.length->(∀r∈qk (l.map (·.2)),r∈F)->
  oH S T0 acc l=some (m,x,S')->∃T',oH T T0 acc l=some (m,x,T')/\gZ F S' T'/\T'.length=S'.length
 | [],acc,S,T,m,x,S',hr,hl,hF,h=>by
  simp only[oH,aK,aY]at h⊢;obtain⟨rfl,rfl,rfl⟩:=h;exact⟨T,⟨rfl,rfl,rfl⟩,hr,hl⟩
 | (i,v)::l,acc,S,T,m,x,S',hr,hl,hF,h=>by
  simp only[oH,cM]at h;obtain⟨d,hd,⟨m1,x1,S1⟩,h1,r,h3,h2⟩:=h;obtain⟨T1,k1,k2,k3⟩:=AI _ v hr hl (fun r h=>hF r (by simp[qk,h])) h1;obtain⟨T2,q1,q2,q3⟩:=R4 l _ k2 k3 (fun r h=>hF r (by simp only[cv,qk,bN];exact .inr h)) h2;refine⟨T2,?_,q2,q3⟩;simp only[oH,cM];exact⟨d,hd,(m1,x1,T1),k1,r,h3,q1⟩
theorem NL{F:List Nat}{e:Ty}:∀(l:List (Nat×AV))(acc:Mk×List e.den){S T:aO}{m:Mk}{x:List e.den}{S':aO},gZ F S T->T.length=S.length->(∀r∈qk (l.map (·.2)),r∈F)->
  tF S e acc l=some (m,x,S')->∃T',tF T e acc l=some (m,x,T')/\gZ F S' T'/\T'.length=S'.length
 | [],acc,S,T,m,x,S',hr,hl,hF,h=>by
  simp only[tF,aK,aY]at h⊢;obtain⟨rfl,rfl,rfl⟩:=h;exact⟨T,⟨rfl,rfl,rfl⟩,hr,hl⟩
 | (i,v)::l,acc,S,T,m,x,S',hr,hl,hF,h=>by
  simp only[tF]at h⊢;split at h
  .rename_i hi;simp only[cM]at h;obtain⟨⟨m1,x1,S1⟩,h1,h2⟩:=h;obtain⟨T1,k1,k2,k3⟩:=AI _ v hr hl (fun r h=>hF r (by simp[qk,h])) h1;obtain⟨T2,q1,q2,q3⟩:=NL l _ k2 k3 (fun r h=>hF r (by simp only[cv,qk,bN];exact .inr h)) h2;refine⟨T2,?_,q2,q3⟩;rw[aj hi];simp only[cM];exact⟨(m1,x1,T1),k1,q1⟩
  .simp at h
theorem abz{F:List Nat}{A:bY}{S T:aO}(hr:gZ F S T)(hl:T.length=S.length){d:Option Nat}{site:Nat}{t:Ty}{x y:AV}(hx:∀r∈x.roots,r∈F)(hy:∀r∈y.roots,r∈F){β:Bool} :
  Lk F ((DH A S d site t x y).dec β) ((DH A T d site t x y).dec β):=by
 intro v S' h;unfold DH at h⊢;cases h1:tk S (.sl t) x with
 | none=>rw[h1]at h;simp[Tr.dec]at h
 | some z=>
  obtain⟨m1,xs,S1⟩:=z;obtain⟨T1,k1,k2,k3⟩:=AI _ x hr hl hx h1;rw[h1]at h;rw[k1];cases m1 with
  | own s m=>
   simp only at h⊢;cases h2:tk S1 (.sl t) y with
   | none=>rw[h2]at h;simp[Tr.dec]at h
   | some z=>
    obtain⟨my,ys,S2⟩:=z;obtain⟨T2,q1,q2,q3⟩:=AI _ y k2 k3 hy h2;rw[h2]at h;rw[q1];simp only at h⊢;cases hm:pT my with
    | none=>rw[hm]at h;simp[Tr.dec]at h
    | some m'=>
     rw[hm]at h;simp only at h⊢;split at h
     .rename_i h3;rw[aj h3];simp only[Tr.dec]at h⊢;split at h
      .exact yT q2 q3 v S' h
      .simp at h
     .simp[Tr.dec]at h
  | _=>simp[Tr.dec]at h
theorem akS{F:List Nat}{S T:aO}(hr:gZ F S T)(hl:T.length=S.length){t:Ty}{x y:AV}(hx:∀r∈x.roots,r∈F){β:Bool} :
  Lk F ((qP S t x y).dec β) ((qP T t x y).dec β):=by
 intro v S' h;unfold qP at h⊢;split at h
 .rename_i r p s t2 ys;have bK:=hr r (hx r (by simp[AV.roots]))
  try simp only
  rw[bK];cases hR:S.root r with
  | none=>rw[hR]at h;simp[Tr.dec]at h
  | some R=>
   rw[hR]at h;simp only at h⊢;split at h
   .rename_i t' s' m xs hf;split at h
    .rename_i hc;rw[aj hc];split at h
     .rename_i a b r' e1 e2 e3;simp only[Tr.dec]at h⊢;split at h
      .simp only[aK,aY]at h;obtain⟨rfl,rfl⟩:=h;exact⟨_,rfl,Kh hr hl _ _,by simp[aO.bX,hl]⟩
      .simp at h
     .simp[Tr.dec]at h
    .simp[Tr.dec]at h
   .simp[Tr.dec]at h
 .simp[Tr.dec]at h
theorem adi{F:List Nat}{A:bY}{S T:aO}(hr:gZ F S T)(hl:T.length=S.length){U:Ty}{d:Option Nat}{site:Nat}{x:AV}{lo hi:Option AV}(hx:∀r∈x.roots,r∈F){β:Bool} :
  Lk F ((uF A S U d site x lo hi).dec β) ((uF A T U d site x lo hi).dec β):=by
 intro v S' h;unfold uF at h⊢;split at h
 .split at h
  .simp only[Tr.dec]at h⊢;split at h
   .simp only[aK,aY]at h;obtain⟨rfl,rfl⟩:=h;rename_i hc;exact⟨T,by simp[hc],hr,hl⟩
   .simp at h
  .simp[Tr.dec]at h
 .split at h
  .split at h
   .rename_i hc;simp only[Tr.dec]at h⊢;rw[aj hc];split at h
    .simp only[aK,aY]at h;obtain⟨rfl,rfl⟩:=h;rename_i hc;exact⟨T,by simp[Tr.dec,hc],hr,hl⟩
    .simp at h
   .simp[Tr.dec]at h
  .simp[Tr.dec]at h
 .rename_i r p s e;split at h
  .cases h1:tk S (.sl e) (.b9 r p s) with
   | none=>rw[h1]at h;simp[Tr.dec]at h
   | some z=>
    obtain⟨m1,xs,S1⟩:=z;obtain⟨T1,k1,k2,k3⟩:=AI _ _ hr hl hx h1;rw[h1]at h;simp only[k1];cases m1 with
    | own s m=>
     simp only at h⊢;split at h
     .split at h
      .rename_i hc;rw[aj hc];simp only[Tr.dec]at h⊢;split at h
       .rename_i hd
        try simp only[hd]
        exact yT k2 k3 v S' h
       .simp at h
      .simp[Tr.dec]at h
     .simp[Tr.dec]at h
    | _=>simp[Tr.dec]at h
  .unfold uN at h⊢;have hf:=Ck hr (hx r (by simp[AV.roots])) p;rw[hf];split at h
   .split at h
    .rename_i hq
     try simp only[hq]
     split at h
     .rename_i hc;rw[aj hc];simp only[Tr.dec]at h⊢;split at h
      .simp only[aK,aY]at h;obtain⟨rfl,rfl⟩:=h;rename_i hd;exact⟨T,by simp[hd],hr,hl⟩
      .simp at h
     .simp[Tr.dec]at h
    .simp[Tr.dec]at h
   .simp[Tr.dec]at h
 .simp[Tr.dec]at h
theorem NK{F:List Nat}{A:bY}{S T:aO}(hr:gZ F S T)(hl:T.length=S.length){d:Option Nat}{site:Nat}:∀(rs:List RK)(r:f9 rs){β:Bool},Lk F ((mA A S d site rs r).dec β) ((mA A T d site rs r).dec β)
 | [],r,β=>by
  intro v S' h;simp only[mA,Tr.dec,aK,aY]at h⊢;obtain⟨rfl,rfl⟩:=h;exact⟨T,⟨rfl,rfl⟩,hr,hl⟩
 | [.val t m],r,β=>by
  intro v S' h;simp only[mA]at h⊢;split at h
  .rename_i hs;rw[aj hs];split at h
   .rename_i hc;rw[aj hc];simp only[Tr.dec,aK,aY]at h⊢;obtain⟨rfl,rfl⟩:=h;exact⟨T,⟨rfl,rfl⟩,hr,hl⟩
   .simp[Tr.dec]at h
  .rename_i hs;rw[af hs];split at h
   .rename_i hc;rw[aj hc];exact yT hr hl v S' h
   .simp[Tr.dec]at h
 | [.ptr t m],r,β=>by
  intro v S' h;simp only[mA]at h⊢;split at h
  .rename_i hc;rw[aj hc];exact yT hr hl v S' h
  .simp[Tr.dec]at h
 | q1::q2::rs,r,β=>by
  intro v S' h;have e:∀S:aO,mA A S d site (q1::q2::rs) r=Cx A S d site (q1::q2::rs) r:=by intro S;cases q1<;>simp only[mA]
  rw[e]at h⊢;unfold Cx at h⊢;split at h
  .rename_i hc;rw[aj hc];cases d with
   | none=>simp only[Tr.dec,aK,aY]at h⊢;obtain⟨rfl,rfl⟩:=h;exact⟨T,⟨rfl,rfl⟩,hr,hl⟩
   | some d=>
    simp only at h⊢;cases hL:dU A S (some d) site (jt (q1::q2::rs)) (pO (q1::q2::rs)) (kj (q1::q2::rs) r) false with
    | ret z=>
     obtain⟨v1,S1⟩:=z;rw[hL]at h;simp only[Tr.dec,aK,aY]at h;obtain⟨rfl,rfl⟩:=h;obtain⟨T1,k1,k2,k3⟩:=yT (A:=A) (d:=some d) (site:=site) (t:=jt (q1::q2::rs)) (m:=pO (q1::q2::rs)) (x:=kj (q1::q2::rs) r) (mem:=false) (β:=true) hr hl v1 S1 (by rw[hL];rfl);cases hM:dU A T (some d) site (jt (q1::q2::rs)) (pO (q1::q2::rs)) (kj (q1::q2::rs) r) false with
     | ret z=>obtain⟨v2,S2⟩:=z;rw[hM]at k1;simp only[Tr.dec,aK,aY]at k1;obtain⟨rfl,rfl⟩:=k1;exact⟨_,rfl,k2,k3⟩
     | fail=>rw[hM]at k1;simp[Tr.dec]at k1
     | _=>
      exfalso;simp only[dU]at hM
      repeat' split at hM
      all_goals simp at hM
    | _=>rw[hL]at h;simp[Tr.dec]at h
  .simp[Tr.dec]at h
section
variable {C:Ctx} {D:Den C}
theorem uD{S T:aO}:∀(ks:List PK)(aJ:List AV),ks.all PK.loc=true->f5 T ks aJ=(f5 S ks aJ).map fun z=>(z.1,T)
 | [],[],_=>rfl
 | [],_::_,_=>rfl
 | k::ks,[],_=>by cases k<;>rfl
 | k::ks,a::aJ,h=>by
  simp only[gV,bI]at h;cases k with
  | val t=>simp only[f5];exact uD ks aJ h.2
  | cm t=>simp only[f5];exact uD ks aJ h.2
  | cC t m m'=>simp only[f5];exact uD ks aJ h.2
  | fn=>simp only[f5];exact uD ks aJ h.2
  | _=>simp[PK.loc]at h
theorem alz{S rt:aO}{ks:List PK}{aJ:List AV}{g:ju ks}(hp:ks.all PK.loc=true)(h:f5 S ks aJ=some (g,rt)):rt=S:=by have:=uD (S:=S) (T:=S) ks aJ hp;rw[h]at this;simp only[d_,aK,aY,true_and]at this;exact this
theorem xR{F:List Nat}:∀(ks:List PK)(aJ:List AV){S T:aO}{o:dI ks}{S':aO},gZ F S T->T.length=S.length->ks.all PK.loc=true->(∀r∈qk aJ,r∈F)->gE S ks aJ=some (o,S')->
  ∃T',gE T ks aJ=some (o,T')/\gZ F S' T'/\T'.length=S'.length
 | [],[],S,T,o,S',hr,hl,_,_,h=>by
  simp only[gE,aK,aY]at h;obtain⟨_,rfl⟩:=h;exact⟨T,rfl,hr,hl⟩
 | [],_::_,S,T,o,S',hr,hl,_,_,h=>by simp[gE]at h
 | k::ks,[],S,T,o,S',hr,hl,_,_,h=>by cases k<;>simp[gE]at h
 | k::ks,a::aJ,S,T,o,S',hr,hl,hp,hF,h=>by
  simp only[gV,bI]at hp;have tW:∀r∈qk aJ,r∈F:=fun r h=>hF r (by simp[qk,h]);cases k with
  | val t=>simp only[gE]at h⊢;exact xR ks aJ hr hl hp.2 tW h
  | cm t=>simp only[gE]at h⊢;exact xR ks aJ hr hl hp.2 tW h
  | fn=>simp only[gE]at h⊢;exact xR ks aJ hr hl hp.2 tW h
  | cC t m m'=>
   cases a with
   | addr q p=>
    cases p with
    | nil=>
     have hq:=hr q (hF q (by simp[qk,AV.roots]));simp only[gE]at h⊢;rw[hq];cases hR:S.root q with
     | none=>rw[hR]at h;simp at h
     | some R=>
      rw[hR]at h;simp only at h⊢;split at h
      .rename_i hc;rw[aj hc];simp only[cM,aK,aY]at h⊢;obtain⟨x,hx,⟨o2,S2⟩,h2,rfl,rfl⟩:=h;obtain⟨T2,q1,q2,q3⟩:=xR ks aJ (Kh hr hl q none) (by simp[aO.bX,hl]) hp.2 tW h2;exact⟨T2,⟨x,hx,(o2,T2),q1,rfl,rfl⟩,q2,q3⟩
      .simp at h
    | cons _ _=>simp[gE]at h
   | _=>simp[gE]at h
  | _=>simp[PK.loc]at hp
theorem xY{F:List Nat}{site:Nat}:∀(ks:List PK)(aJ:List AV)(o:dI ks){S T:aO}{S':aO},gZ F S T->T.length=S.length->ks.all PK.loc=true->gb S site ks aJ o=some S'->
  ∃T',gb T site ks aJ o=some T'/\gZ F S' T'/\T'.length=S'.length
 | [],[],o,S,T,S',hr,hl,_,h=>by
  simp only[gb,aK]at h;subst h;exact⟨T,rfl,hr,hl⟩
 | [],_::_,o,S,T,S',hr,hl,_,h=>by simp[gb]at h
 | k::ks,[],o,S,T,S',hr,hl,_,h=>by cases k<;>simp[gb]at h
 | k::ks,a::aJ,o,S,T,S',hr,hl,hp,h=>by
  simp only[gV,bI]at hp;cases k with
  | val t=>simp only[gb]at h⊢;exact xY ks aJ o hr hl hp.2 h
  | cm t=>simp only[gb]at h⊢;exact xY ks aJ o hr hl hp.2 h
  | fn=>simp only[gb]at h⊢;exact xY ks aJ o hr hl hp.2 h
  | cC t m m'=>
   cases a with
   | addr q p=>
    cases p with
    | nil=>
     simp only[gb]at h⊢;split at h
     .rename_i hc;rw[aj hc];exact xY ks aJ o.2 (Kh hr hl q _) (by simp[aO.bX,hl]) hp.2 h
     .simp at h
    | cons _ _=>simp[gb]at h
   | _=>simp[gb]at h
  | _=>simp[PK.loc]at hp
theorem MV{F:List Nat}{A:bY}{S T:aO}(hr:gZ F S T)(hl:T.length=S.length){d:Option Nat}{site:Nat}{g:FuncId}{aJ:List AV}(hp:(C.sig g).params.all PK.loc=true)(has:∀r∈qk aJ,r∈F){β:Bool} :
  Lk F ((rS C D A S d site g aJ).dec β) ((rS C D A T d site g aJ).dec β):=by
 intro v S' h;unfold rS at h⊢;rw[uD (S:=S) (T:=T) _ _ hp];cases h1:f5 S (C.sig g).params aJ with
 | none=>rw[h1]at h;simp[Tr.dec]at h
 | some z=>
  obtain⟨gd,S1⟩:=z;obtain rfl:=alz hp h1;rw[h1]at h;simp only[d_]at h⊢;cases h2:gE S1 (C.sig g).params aJ with
  | none=>rw[h2]at h;simp[Tr.dec]at h
  | some z=>
   obtain⟨od,S2⟩:=z;obtain⟨T2,k1,k2,k3⟩:=xR _ _ hr hl hp has h2;rw[h2]at h;simp only[k1]at h⊢;rw[zN _ _ _ _ (k2.sub has)];cases h3:jk S2 (C.sig g).params aJ gd od with
   | none=>rw[h3]at h;simp[Tr.dec]at h
   | some aa=>
    rw[h3]at h;simp only at h⊢;split at h
    .rename_i hc;rw[aj hc];simp only[Tr.dec]at h⊢;cases hD:D g aa with
     | none=>rw[hD]at h;simp at h
     | some rr=>
      rw[hD]at h;simp only[dG]at h⊢;split at h
      .rename_i hn;rw[aj hn];exact NK hr hl _ _ v S' h
      .rename_i hn;rw[af hn];split at h
       .rename_i hfr;rw[aj hfr];simp only[Tr.dec]at h⊢;split at h
        .rename_i hlo;cases ho:gb S1 site (C.sig g).params aJ rr.2 with
         | none=>rw[ho]at h;simp[Tr.dec]at h
         | some S3=>obtain⟨T3,q1,q2,q3⟩:=xY _ _ _ hr hl hp ho;rw[ho]at h;simp only at h;obtain⟨T',r1,r2,r3⟩:=NK q2 q3 _ _ v S' h;exact⟨T',by rw[q1];exact r1,r2,r3⟩
        .simp at h
       .simp[Tr.dec]at h
    .simp[Tr.dec]at h
theorem HC{F:List Nat}:∀(ks:List PK)(aJ:List AV){S T:aO}{z:List AV}{S':aO},gZ F S T->T.length=S.length->(∀r∈qk aJ,r∈F)->k_ S ks aJ=some (z,S')->
  ∃T',k_ T ks aJ=some (z,T')/\gZ F S' T'/\T'.length=S'.length/\∀r∈qk z,r∈F
 | [],[],S,T,z,S',hr,hl,hF,h=>by
  simp only[k_,aK,aY]at h;obtain⟨rfl,rfl⟩:=h;exact⟨T,rfl,hr,hl,hF⟩
 | [],_::_,S,T,z,S',hr,hl,hF,h=>by simp[k_]at h
 | k::ks,[],S,T,z,S',hr,hl,hF,h=>by cases k<;>simp[k_]at h
 | k::ks,a::aJ,S,T,z,S',hr,hl,hF,h=>by
  have hFa:∀r∈a.roots,r∈F:=fun r hr=>hF r (by simp[qk,hr]);have pX:∀r∈qk aJ,r∈F:=fun r hr=>hF r (by simp[qk,hr]);have plain:(k_ S ks aJ).map (fun z=>(a::z.1,z.2))=some (z,S')->∃T',(k_ T ks aJ).map (fun z=>(a::z.1,z.2))=some (z,T')/\gZ F S' T'/\T'.length=S'.length/\∀r∈qk z,r∈F:=by
   intro h;simp only[fq,aY]at h;obtain⟨⟨z1,S1⟩,h1,rfl,rfl⟩:=h;obtain⟨T1,e1,e2,e3,e4⟩:=HC ks aJ hr hl pX h1;refine⟨T1,by rw[e1];rfl,e2,e3,fun r hr=>?_⟩;simp only[qk,bN]at hr;rcases hr with hr | hr
   .exact hFa r hr
   .exact e4 r hr
  cases k with
  | val t=>
   simp only[k_]at h⊢;split at h
   .rename_i hs;rw[aj hs];exact plain h
   .rename_i hs;rw[af hs];cases h1:tk S t a with
    | none=>rw[h1]at h;simp at h
    | some q=>
     obtain⟨m,y,S1⟩:=q;obtain⟨T1,k1,k2,k3⟩:=AI _ _ hr hl hFa h1;rw[h1]at h;rw[k1];simp only at h⊢;split at h
     .rename_i hm;rw[aj hm];simp only[fq,aY]at h;obtain⟨⟨z1,S2⟩,h2,rfl,rfl⟩:=h;obtain⟨T2,e1,e2,e3,e4⟩:=HC ks aJ k2 k3 pX h2;refine⟨T2,by rw[e1];rfl,e2,e3,fun r hr=>?_⟩;simp only[qk,bN,AV.roots,dg,false_or]at hr;exact e4 r hr
     .simp at h
  | _=>simp only[k_]at h⊢;exact plain h
theorem alG{F:List Nat}{A:bY}{ρ:Operand->AV}{S T:aO}(hr:gZ F S T)(hl:T.length=S.length){site:Nat}{hint:Bool}{o:Oper}(hlc:vq C ρ o=true)
  (hF:∀r∈qk (o.op.operands.toList.map ρ),r∈F) {β:Bool}:Lk F ((aV C D A ρ S site hint o).dec β) ((aV C D A ρ T site hint o).dec β):=by
 have hin:∀{x:Operand},x∈o.op.operands->∀r∈(ρ x).roots,r∈F:=fun hx r hr=>hF r (q9k (eJ.2 ⟨_,by simpa using hx,rfl⟩) r hr);intro v S' h;cases ho:o.op with
 | alloc t=>
  simp only[aV,ho]at h⊢;split at h
  .rename_i hc;rw[aj hc];exact yT hr hl v S' h
  .simp[Tr.dec]at h
 | box t x=>
  have hx:=hin (x:=x) (by rw[ho];simp[Op.operands]);simp only[aV,ho]at h⊢;split at h
  .rename_i hc;rw[aj hc];cases h1:tk S (C.ty t) (ρ x) with
   | none=>rw[h1]at h;simp[Tr.dec]at h
   | some z=>
    obtain⟨m,y,S1⟩:=z;obtain⟨T1,k1,k2,k3⟩:=AI _ _ hr hl hx h1;rw[h1]at h;rw[k1];simp only at h⊢;split at h
    .rename_i hh;rw[aj hh];split at h
     .rename_i hm;rw[aj hm];exact yT k2 k3 v S' h
     .simp[Tr.dec]at h
    .rename_i hh;rw[af hh];exact yT k2 k3 v S' h
  .simp[Tr.dec]at h
 | build t ps=>
  simp only[aV,ho]at h⊢;split at h
  .rename_i hc;rw[aj hc];cases h1:oH S (C.ty t) (Mk.z8 hint (C.ty t),(C.ty t).zero) (ps.toList.map fun p=>(p.1,ρ p.2)) with
   | none=>rw[h1]at h;simp[Tr.dec]at h
   | some z=>obtain⟨m,y,S1⟩:=z;obtain⟨T1,k1,k2,k3⟩:=R4 _ _ hr hl (fun r hr=>by rw[UZ]at hr;exact hF r (by rw[ho];simpa [Op.operands] using hr)) h1;rw[h1]at h;rw[k1];exact yT k2 k3 v S' h
  .simp[Tr.dec]at h
 | buildSlice t n ps=>
  simp only[aV,ho]at h⊢;split at h
  .rename_i e he;cases h1:tF S e (Mk.top e,List.replicate n e.zero) (ps.toList.map fun p=>(p.1,ρ p.2)) with
   | none=>rw[h1]at h;simp[Tr.dec]at h
   | some z=>
    obtain⟨m,y,S1⟩:=z;obtain⟨T1,k1,k2,k3⟩:=NL _ _ hr hl (fun r hr=>by rw[UZ]at hr;exact hF r (by rw[ho];simpa [Op.operands] using hr)) h1;rw[h1]at h;simp only[k1];simp only at h;split at h
    .rename_i hc;rw[aj hc];split at h
     .rename_i hh;rw[aj hh];split at h
      .rename_i hm;rw[aj hm];simp only[Tr.dec,aK,aY]at h⊢;obtain⟨rfl,rfl⟩:=h;exact⟨T1,⟨rfl,rfl⟩,k2,k3⟩
      .simp[Tr.dec]at h
     .rename_i hh;rw[af hh];exact yT k2 k3 v S' h
    .simp[Tr.dec]at h
  .simp[Tr.dec]at h
 | makeSlice t x y=>
  simp only[aV,ho]at h⊢;split at h
  .simp only[Tr.dec]at h⊢;split at h
   .rename_i hc
    try simp only[hc]
    exact yT hr hl v S' h
   .simp at h
  .simp[Tr.dec]at h
 | slice t x lo hi mx=>
  cases mx with
  | none=>have hx:=hin (x:=x) (by rw[ho];simp[Op.operands]);simp only[aV,ho]at h⊢;exact adi hr hl hx v S' h
  | some _=>simp[vq,ho]at hlc
 | call c=>
  simp only[vq,ho]at hlc;cases hc:c.callee with
  | builtin b=>
   rw[hc]at hlc;cases b<;>simp only[fh]at hlc;have hargs:∀x∈c.args,∀r∈(ρ x).roots,r∈F:=fun x hx=>hin (by rw[ho];simp only[Op.operands,Call.operands,sB];right;simpa using hx);simp only[aV,ho,hc]at h⊢;split at h
   .exact Builtin.noConfusion ‹Builtin.append=Builtin.len›
   .exact Builtin.noConfusion ‹Builtin.append=Builtin.len›
   .rename_i x y t t' ts e1 e2 e3;have hm:∀z∈c.args.toList.map ρ,∀r∈z.roots,r∈F:=by intro z hz;obtain⟨w,hw,rfl⟩:=eJ.1 hz;exact hargs w (by simpa using hw)
    rw[e2]at hm
    try simp only[e2,e3]
    split at h
    .rename_i ht;rw[aj ht];split at h
     .rename_i hh;rw[aj hh];exact akS hr hl (hm x (by simp)) v S' h
     .rename_i hh;rw[af hh];exact abz hr hl (hm x (by simp)) (hm y (by simp)) v S' h
    .simp[Tr.dec]at h
   .exact Builtin.noConfusion ‹Builtin.append=Builtin.clear›
   .exact Builtin.noConfusion ‹Builtin.append=Builtin.copy›
   .exact Builtin.noConfusion ‹Builtin.append=Builtin.min›
   .exact Builtin.noConfusion ‹Builtin.append=Builtin.max›
   .simp[Tr.dec]at h
  | value f=>
   rw[hc]at hlc;simp only at hlc;cases hf:ρ f with
   | gH g caps=>
    rw[hf]at hlc;simp only at hlc;have hall:∀r∈qk (c.args.toList.map ρ++mY caps),r∈F:=?_
    .simp only[aV,ho,hc,hf,qO]at h⊢;split at h
     .rename_i vL;rw[aj vL];cases h1:k_ S (C.sig g).params (c.args.toList.map ρ++mY caps) with
      | none=>rw[h1]at h;simp[Tr.dec]at h
      | some q=>obtain⟨z1,S1⟩:=q;obtain⟨T1,e1,e2,e3,e4⟩:=HC _ _ hr hl hall h1;rw[h1]at h;rw[e1];exact MV e2 e3 hlc e4 v S' h
     .rename_i vL;rw[af vL];exact MV hr hl hlc hall v S' h
    intro r hr;rw[qzc]at hr;rcases hr with hr | hr
    .refine hF r ?_;rw[ho];simp only[Op.operands,Call.operands,hc];have:∀l:List AV,∀a,r∈qk l->r∈qk (a::l):=fun l a h=>by simp[qk,h]
     simpa using this _ _ hr
    .have:=V5 caps r hr;exact hin (x:=f) (by rw[ho];simp[Op.operands,Call.operands,hc]) r (by rw[hf];simpa [AV.roots] using this)
   | _=>rw[hf]at hlc;simp at hlc
  | invoke r m=>rw[hc]at hlc;simp at hlc
 | _=>simp[vq,ho]at hlc
end
end
end Go.V
namespace Go.V
noncomputable section
open Go
theorem JA{d:Nat}:∀(v:AV),d∉v.roots->v.gJ d=true
 | .addr r p,h=>by
  simp only[AV.roots,d9]at h;simp only[AV.gJ,jB,kA];left;cases hb:Nat.beq r d with
  | false=>rfl
  | true=>exact absurd (mS hb).symm h
 | .pair a b,h=>by
  simp only[AV.roots,bN,zI]at h;simp only[AV.gJ,bI];exact⟨JA a h.1,JA b h.2⟩
 | .jJ a,h=>JA a h
 | .gH _ a,h=>JA a h
 | .undef,_=>rfl
 | .skip,_=>rfl
 | .cG _,_=>rfl
 | .unit,_=>rfl
 | .fm,_=>rfl
 | .val _ _,_=>rfl
 | .b9 _ _ _,_=>rfl
 | .view _ _ _ _ _,_=>rfl
 | .cj _ _,_=>rfl
 | .eA _,_=>rfl
theorem Iq{s s':Nat}(h:s≠s'):(!(Nat.ble s s'&&Nat.blt s' (s+1)))=true:=by
 cases h1:Nat.ble s s' with
 | false=>rfl
 | true=>
  cases h2:Nat.blt s' (s+1) with
  | false=>rfl
  | true=>have a:=rE h1;have b:s'+1<=s+1:=rE h2;omega
theorem T9{s:Nat}:∀(p:Path),s∉Dz p->jH s (s+1) p=true
 | [],_=>rfl
 | x::p,h=>by
  cases x with
  | idx i s'=>simp only[Dz,bh,zI]at h;simp only[jH,bI];exact⟨Iq h.1,T9 p h.2⟩
  | _=>exact T9 p (by simpa [Dz] using h)
theorem Kb{s:Nat}:∀(v:AV),s∉v.stamps->v.aQ s (s+1)=true
 | .addr r p,h=>T9 p h
 | .b9 r p s',h=>by
  simp only[AV.stamps,bh,zI]at h;simp only[AV.aQ,bI];exact⟨Iq h.1,T9 p h.2⟩
 | .view r p s' _ _,h=>by
  simp only[AV.stamps,bh,zI]at h;simp only[AV.aQ,bI];exact⟨Iq h.1,T9 p h.2⟩
 | .pair a b,h=>by
  simp only[AV.stamps,bN,zI]at h;simp only[AV.aQ,bI];exact⟨Kb a h.1,Kb b h.2⟩
 | .jJ a,h=>Kb a h
 | .gH _ a,h=>Kb a h
 | .undef,_=>rfl
 | .skip,_=>rfl
 | .cG _,_=>rfl
 | .unit,_=>rfl
 | .fm,_=>rfl
 | .val _ _,_=>rfl
 | .cj _ _,_=>rfl
 | .eA _,_=>rfl
theorem pJ:∀{l l':List Nat},jd l l'=true->∀x∈l,x∉l'
 | [],_,_,x,hx=>by simp at hx
 | a::l,l',h,x,hx=>by
  simp only[jd,bI,kA]at h;rcases bh.1 hx with rfl | hx
  .intro hh;have:=h.1;simp at this;exact this hh
  .exact pJ h.2 x hx
theorem T7{S:St}{u r:Nat}:∀{ts:List Nat},u∈ts->r∈(S.get u).roots->r∈dV S ts
 | [],h,_=>by simp at h
 | t::ts,h,hr=>by
  simp only[dV,bN];rcases bh.1 h with rfl | h
  .exact .inl hr
  .exact .inr (T7 h hr)
theorem TZ{S:St}{u r:Nat}:∀{ts:List Nat},u∈ts->r∈(S.get u).stamps->r∈cS S ts
 | [],h,_=>by simp at h
 | t::ts,h,hr=>by
  simp only[cS,bN];rcases bh.1 h with rfl | h
  .exact .inl hr
  .exact .inr (TZ h hr)
theorem q5q{S T:St}:∀{ts:List Nat},(∀u∈ts,T.get u=S.get u)->dV T ts=dV S ts
 | [],_=>rfl
 | t::ts,h=>by simp only[dV];rw[h t e8,q5q fun u hu=>h u (cF _ hu)]
theorem Zz{S T:St}:∀{ts:List Nat},(∀u∈ts,T.get u=S.get u)->cS T ts=cS S ts
 | [],_=>rfl
 | t::ts,h=>by simp only[cS];rw[h t e8,Zz fun u hu=>h u (cF _ hu)]
theorem NP{S T:St}(hl:T.sl.length=S.sl.length)(hg:∀u,T.get u=S.get u)(hr:T.rt=S.rt):T=S:=by
 obtain⟨a,b⟩:=S;obtain⟨c,d⟩:=T;simp only at hl hr;subst hr;have:c=a:=by apply Cb hl;intro i h1 h2;have:=hg i;simp only[St.get_eq,List.getD,gz h1,gz h2,uH]at this;exact this
 rw[this]
section
variable {C:Ctx} {D:Den C} {hints:Hints} {id:Nat} {ops:Array Oper}
theorem H_{S T:St}{y:Oper}(h:∀u∈zY ops y,T.get u=S.get u):∀x∈y.op.operands,ev T x=ev S x:=by
 intro x hx;cases x with
 | tmp t=>
  simp only[ev];rw[h t (by
   unfold zY;rw[bN];right;rw[List.mem_filterMap];exact⟨.tmp t,by simpa using hx,rfl⟩)]
 | _=>rfl
theorem Qy{S T:St}{y:Oper}(h:∀u∈zY ops y,T.get u=S.get u):n9 ops T y=n9 ops S y:=by
 unfold n9;cases hg:y.guard with
 | none=>rfl
 | some jb=>obtain⟨j,b⟩:=jb;simp only;rw[h (lz ops j) (by unfold zY;rw[hg];simp)]
theorem HD{S T:St}{j site:Nat}{y:Oper}{v:AV}{a b:aO}(hr:dP C (ev S) y=none\/(T.rt=S.rt/\a=b)\/vq C (ev S) y=true)(hk:∀u∈zY ops y,T.get u=S.get u)(ho:∀u∈jG ops j y,T.get u=S.get u):jI C ops T site j y v a=jI C ops S site j y v b:=by
 have he:=H_ hk;have hv:uC T y=uC S y:=by unfold uC;exact rH fun x hx=>he x (by simpa using hx)
 unfold jI;have hld:uu C (ev T) y v=uu C (ev S) y v:=by
  unfold uu;split
  .rename_i t x hop;rw[he x (by rw[hop];simp[Op.operands])]
  .rename_i t x f hop;rw[he x (by rw[hop];simp[Op.operands])]
  .rfl
 rw[hv,q5q ho,Zz ho,ads (C:=C) y he,ab4 (C:=C) y he,hld];rcases hr with h | ⟨h1,h2⟩ | h
 .rw[h]
 .rw[h1,h2]
 .rw[h];cases dP C (ev S) y<;>rfl
theorem acr{S T:St}{j site:Nat}{y:Oper}(ho:∀u∈jG ops j y,T.get u=S.get u):oK ops T site j y=oK ops S site j y:=by unfold oK;rw[q5q ho,Zz ho]
theorem A7{S T:St}{rt rt':aO}{j:Nat}{y:Oper}{v:AV}(hl:T.sl.length=S.sl.length)(ho:∀u∈jG ops j y,T.get u=S.get u):∀u∈jG ops j y,(fin ops ⟨T.sl,rt⟩ j y v).get u=(fin ops ⟨S.sl,rt'⟩ j y v).get u:=by
 intro u hu;rw[zV,zV];simp only[hl];have:=ho u hu;by_cases h1:y.dst=some u/\u<S.sl.length
 .rw[aj h1,aj h1]
 .rw[af h1,af h1];by_cases h2:u∈sG ops j y
  .rw[aj h2,aj h2]
  .rw[af h2,af h2];exact this
theorem Hp{S:St}{A:bY}{site:Nat}{hint:Bool}{y:Oper}(hw:dP C (ev S) y=none){T:St}{A':bY}(hrl:T.rt.length=S.rt.length)
  (hr:gZ (if rQ y then [] else qk (uC S y)) S.rt T.rt) {β:Bool} {v:AV} {rt':aO} (h:(aV C D A (ev S) S.rt site hint y).dec β=some (v,rt')):rt'=S.rt/\(aV C D A' (ev S) T.rt site hint y).dec β=some (v,T.rt):=
 acm (A:=A) (A':=A') hrl hw hr β v rt' h
def FC(e:jK)(S T:aO):Prop:=gZ e.rd S T\/e.bl=true\/∃l,e.ld=some l/\l.1 T=some l.2
theorem ab3{S T:St}{A A':bY}{site:Nat}{hint:Bool}{y:Oper}{β:Bool}{v:AV}{rt':aO}(h:(aV C D A (ev S) S.rt site hint y).dec β=some (v,rt')){l:(aO->Option AV)×AV}(hl:uu C (ev S) y v=some l)
  (hT:l.1 T.rt=some l.2):rt'=S.rt/\(aV C D A' (ev S) T.rt site hint y).dec β=some (v,T.rt):=by
 unfold uu at hl;split at hl
 .rename_i t a hop;simp only[aK]at hl;subst hl;simp only[aV,hop]at h⊢;simp only at hT;by_cases hnz:(C.ty t).nz=true
  .rw[aj hnz]at h hT⊢;rw[hT];cases hv:vj S.rt (C.ty t) (ev S a) with
   | none=>rw[hv]at h;simp[Tr.of,Tr.dec]at h
   | some v2=>rw[hv]at h;simp only[d_,Tr.of,Tr.dec,aK,aY]at h⊢;exact⟨h.2.symm,trivial⟩
  .rw[af hnz]at hT;simp at hT
 .rename_i t a f hop;simp only[aK]at hl;subst hl;simp only[aV,hop]at h⊢;simp only at hT;rw[hT];cases hv:Cj S.rt (C.ty t) (ev S a) f with
  | none=>rw[hv]at h;simp[Tr.of,Tr.dec]at h
  | some v2=>rw[hv]at h;simp only[d_,Tr.of,Tr.dec,aK,aY]at h⊢;exact⟨h.2.symm,trivial⟩
 .simp at hl
theorem FQ{S T S':St}{e:jK}{β:Bool}{j:Nat}{y:Oper}(hs:g7 C D hints id ops β S j y=some (S',e))(hl:T.sl.length=S.sl.length)(hrl:T.rt.length=S.rt.length)
  (hk:∀u∈zY ops y,T.get u=S.get u) (ho:∀u∈jG ops j y,T.get u=S.get u)
  (hm:(T.rt=S.rt/\lI T.sl y.dst (id * 256+j+1)=lI S.sl y.dst (id * 256+j+1))\/(e.wr=none/\FC e S.rt T.rt)) :
  ∃T',g7 C D hints id ops β T j y=some (T',e)/\(∀u∈jG ops j y,T'.get u=S'.get u)/\(e.wr=none->S'.rt=S.rt/\T'.rt=T.rt)/\(T.rt=S.rt->T'.rt=S'.rt):=by
 have hg:=Qy (ops:=ops) hk;have he:=H_ hk;unfold g7 at hs⊢;rw[hg];split at hs
 .rename_i hgt;simp only[fq,aY]at hs;obtain⟨⟨v,rt'⟩,hd,hS,hee⟩:=hs;subst hS;subst hee;have wQ:∀{A:bY}{R:aO},aV C D A (ev T) R (id * 256+j+1) (hints.share.contains (id,j)) y=aV C D A (ev S) R (id * 256+j+1) (hints.share.contains (id,j)) y:=Sf y he;have hq:dP C (ev S) y=none->rt'=S.rt:=fun hw=>(Hp (T:=S) (A':=lI S.sl y.dst (id * 256+j+1)) hw rfl (fun _ _=>rfl) hd).1;rcases hm with⟨r9,Ef⟩ | ⟨hw,Jj⟩
  .refine⟨fin ops ⟨T.sl,rt'⟩ j y v,?_,A7 hl ho,fun hw=>?_,fun _=>?_⟩
   .unfold iL at hd⊢;rw[Ef,wQ,r9,hd];simp only[d_,HD (.inr (.inl ⟨r9,rfl⟩)) hk ho]
   .rw[oN,oN];have:=hq hw;simp only at this⊢;exact⟨this,this.trans r9.symm⟩
   .rw[oN,oN]
  .have iV:dP C (ev S) y=none:=hw;have Xy:rt'=S.rt/\(aV C D (lI T.sl y.dst (id * 256+j+1)) (ev S) T.rt (id * 256+j+1) (hints.share.contains (id,j)) y).dec β=some (v,T.rt):=by
    rcases Jj with Jj | hb | ⟨l,h1,h2⟩
    .exact Hp (T:=T) (A':=lI T.sl y.dst (id * 256+j+1)) iV hrl (Jj.sub fun r hr=>by simp only[jI,bN];exact .inr (.inl hr)) hd
    .have hb':rQ y=true:=hb;exact Hp (T:=T) (A':=lI T.sl y.dst (id * 256+j+1)) iV hrl (by rw[aj hb'];intro r hr;simp at hr) hd
    .exact ab3 hd h1 h2
   refine⟨fin ops ⟨T.sl,T.rt⟩ j y v,?_,A7 hl ho,fun _=>?_,fun r9=>?_⟩
   .unfold iL;rw[wQ,Xy.2];simp only[d_,HD (b:=rt') (.inl iV) hk ho]
   .rw[oN,oN];exact⟨Xy.1,rfl⟩
   .rw[oN,oN];exact r9.trans Xy.1.symm
 .rename_i hgt;simp only[aK,aY]at hs;obtain⟨hS,hee⟩:=hs;subst hS;subst hee;refine⟨fin ops T j y .skip,by rw[acr ho],?_,fun _=>?_,fun r9=>?_⟩
  .exact A7 (S:=S) (T:=T) (rt:=T.rt) (rt':=S.rt) hl ho
  .rw[oN,oN];exact⟨rfl,rfl⟩
  .rw[oN,oN];exact r9
 .simp at hs
theorem adf{S S':St}{e:jK}{β:Bool}{j:Nat}{y:Oper}(hs:g7 C D hints id ops β S j y=some (S',e))(hw:e.wr=none):S'.rt=S.rt:=by obtain⟨_,_,_,h,_⟩:=FQ (T:=S) hs rfl rfl (fun _ _=>rfl) (fun _ _=>rfl) (.inl ⟨rfl,rfl⟩);exact(h hw).1
theorem ak5{ρ:Operand->AV}{o:Oper}{W:List Nat}(h:dP C ρ o=some W):∀d,o.dst=some d->d∈W:=by
 intro d hd;unfold dP at h;simp only[hd,Option.toList_some]at h
 repeat' split at h
 all_goals first
  | (simp only[aK]at h;subst h;simp;done)
  | (simp at h;done)
theorem Cu{S S':St}{e:jK}{β:Bool}{j:Nat}{y:Oper}{W:List Nat}(hs:g7 C D hints id ops β S j y=some (S',e))(hw:e.wr=some W):fQ W S.rt S'.rt/\(∀d,y.dst=some d->d∈W):=by
 unfold g7 at hs;split at hs
 .simp only[fq,aY]at hs;obtain⟨⟨v,rt'⟩,hd,hS,hee⟩:=hs;subst hS;subst hee;have iV:dP C (ev S) y=some W:=hw;rw[oN];exact⟨abW iV hd,ak5 iV⟩
 .simp only[aK,aY]at hs;obtain⟨hS,hee⟩:=hs;subst hee;simp[oK]at hw
 .simp at hs
theorem HE{S S':St}{e:jK}{β:Bool}{j:Nat}{y:Oper}(hs:g7 C D hints id ops β S j y=some (S',e)){u:Nat}(hu:u∈jG ops j y) :
  (∀r∈(S.get u).roots,r∈e.rd)/\(∀r∈(S'.get u).roots,r∈e.rd)/\(∀r∈(S.get u).stamps,r∈e.st)/\(∀r∈(S'.get u).stamps,r∈e.st):=by
 unfold g7 at hs;split at hs
 .simp only[fq,aY]at hs;obtain⟨⟨v,rt'⟩,hd,hS,hee⟩:=hs;subst hS;subst hee;simp only[jI,bN];refine⟨fun r hr=>.inr (.inr (T7 hu hr)),fun r hr=>?_,fun r hr=>.inr (TZ hu hr),fun r hr=>?_⟩
  .rw[zV]at hr;split at hr
   .exact .inl hr
   .split at hr
    .simp[AV.roots]at hr
    .exact .inr (.inr (T7 hu hr))
  .rw[zV]at hr;split at hr
   .exact .inl hr
   .split at hr
    .simp[AV.stamps]at hr
    .exact .inr (TZ hu hr)
 .simp only[aK,aY]at hs;obtain⟨hS,hee⟩:=hs;subst hS;subst hee;simp only[oK];refine⟨fun r hr=>T7 hu hr,fun r hr=>?_,fun r hr=>TZ hu hr,fun r hr=>?_⟩
  .rw[zV]at hr;split at hr
   .simp[AV.roots]at hr
   .split at hr
    .simp[AV.roots]at hr
    .exact T7 hu hr
  .rw[zV]at hr;split at hr
   .simp[AV.stamps]at hr
   .split at hr
    .simp[AV.stamps]at hr
    .exact TZ hu hr
 .simp at hs
theorem IP{S S':St}{e:jK}{β:Bool}{j:Nat}{y:Oper}(hs:g7 C D hints id ops β S j y=some (S',e)):S'.sl.length=S.sl.length/\∀u,u∉jG ops j y->S'.get u=S.get u:=by
 refine⟨?_,fun u hu=>(Gt hs hu).1⟩;unfold g7 at hs;split at hs
 .simp only[fq,aY]at hs;obtain⟨⟨v,rt'⟩,hd,hS,hee⟩:=hs;subst hS;rw[JF]
 .simp only[aK,aY]at hs;obtain⟨hS,hee⟩:=hs;subst hS;rw[JF]
 .simp at hs
theorem Kd{S S':St}{e:jK}{β:Bool}{j:Nat}{y:Oper}(hs:g7 C D hints id ops β S j y=some (S',e)){d:Option Nat}{s:Nat}{W:List Nat}(hd:∀d',d=some d'->d'∈W)(oT:jd W e.rd=true)
  (hst:e.st.contains s=false):lI S'.sl d s=lI S.sl d s:=by
 obtain⟨hl,hf⟩:=IP hs;have Lv:s∉e.st:=by simpa using hst
 refine ME d s hl (fun d' e1 k _=>?_) (fun d' e1 k _=>?_) (fun k=>?_)
 .by_cases hk:k∈jG ops j y
  .obtain⟨h1,h2,_,_⟩:=HE hs hk;have hn:=pJ oT d' (hd d' e1);have a1:d'∉(S.get k).roots:=fun h=>hn (h1 _ h);have a2:d'∉(S'.get k).roots:=fun h=>hn (h2 _ h);simp only[St.get_eq]at a1 a2;rw[FG,FG,b7 a1,b7 a2]
  .have:=hf k hk;simp only[St.get_eq]at this;rw[this]
 .by_cases hk:k∈jG ops j y
  .obtain⟨h1,h2,_,_⟩:=HE hs hk;have hn:=pJ oT d' (hd d' e1);have a1:d'∉(S.get k).roots:=fun h=>hn (h1 _ h);have a2:d'∉(S'.get k).roots:=fun h=>hn (h2 _ h);have b1:=JA _ a1;have b2:=JA _ a2;simp only[St.get_eq]at b1 b2;rw[b1,b2]
  .have:=hf k hk;simp only[St.get_eq]at this;rw[this]
 .by_cases hk:k∈jG ops j y
  .obtain⟨_,_,h1,h2⟩:=HE hs hk;have b1:=Kb (s:=s) _ (fun h=>Lv (h1 _ h));have b2:=Kb (s:=s) _ (fun h=>Lv (h2 _ h));simp only[St.get_eq]at b1 b2;rw[b1,b2]
  .have:=hf k hk;simp only[St.get_eq]at this;rw[this]
theorem AS{S S':St}{e:jK}{β:Bool}{j:Nat}{y:Oper}(hs:g7 C D hints id ops β S j y=some (S',e)):e.site=id * 256+j+1/\e.i=j:=by
 unfold g7 at hs;split at hs
 .simp only[fq,aY]at hs;obtain⟨⟨v,rt'⟩,hd,hS,hee⟩:=hs;subst hee;exact⟨rfl,rfl⟩
 .simp only[aK,aY]at hs;obtain⟨hS,hee⟩:=hs;subst hee;exact⟨rfl,rfl⟩
 .simp at hs
theorem Qo{S:aO}{l:(aO->Option AV)×AV}(h:Bo S l=true):l.1 S=some l.2:=by
 have hp:∀(p q:Path),DG p q=true->p=q:=by
  intro p
  induction p with
  | nil=>intro q h;cases q<;>simp_all [DG]
  | cons x p ih=>
   intro q h;cases q with
   | nil=>cases x<;>simp[DG]at h
   | cons y q=>
    cases x<;>cases y<;>simp only[DG,fh]at h
    .rw[ih q h]
    .rw[ih q h]
 unfold Bo at h;split at h
 .rename_i r p s r' p' s' h1 h2;simp only[bI]at h;rw[h1,h2,mS h.1.1,hp _ _ h.1.2,mS h.2]
 .rename_i r p r' p' h1 h2;simp only[bI]at h;rw[h1,h2,mS h.1,hp _ _ h.2]
 .simp at h
theorem alC{S S':St}{e:jK}{β:Bool}{j:Nat}{y:Oper}{W:List Nat}(hs:g7 C D hints id ops β S j y=some (S',e))(hw:e.wr=some W):(e.io=none\/e.io=some (S.rt,S'.rt))/\e.dst=y.dst:=by
 unfold g7 at hs;split at hs
 .simp only[fq,aY]at hs;obtain⟨⟨v,rt'⟩,hd,hS,hee⟩:=hs;subst hS;subst hee;have iV:dP C (ev S) y=some W:=hw;rw[oN];simp only[jI,iV,iQ];cases vq C (ev S) y
  .exact .inr rfl
  .exact .inl rfl
 .simp only[aK,aY]at hs;obtain⟨hS,hee⟩:=hs;subst hee;simp[oK]at hw
 .simp at hs
theorem Nf{S S':St}{e f:jK}{β:Bool}{j:Nat}{y:Oper}{W:List Nat}(hs:g7 C D hints id ops β S j y=some (S',e))(hw:e.wr=some W)(h:BY e f=true) :
  ((f.bl=true\/∃l,f.ld=some l/\l.1 S.rt=some l.2)/\(f.bl=true\/∃l,f.ld=some l/\l.1 S'.rt=some l.2))/\jd y.dst.toList f.rd=true/\f.st.contains e.site=false:=by
 obtain⟨h1,h2⟩:=alC hs hw;unfold BY at h;simp only[bI,kA,jB]at h;obtain⟨⟨a,c⟩,d⟩:=h;refine⟨?_,by rw[<-h2];exact c,d⟩;rcases a with a | a
 .exact⟨.inl a,.inl a⟩
 .split at a
  .rename_i l io hl KV;rcases h1 with h1 | h1
   .rw[h1]at KV;simp at KV
   rw[h1]at KV;simp only[aK]at KV;subst KV;simp only[bI]at a;exact⟨.inr ⟨l,hl,Qo a.1⟩,.inr ⟨l,hl,Qo a.2⟩⟩
  .simp at a
theorem akz{ρ:Operand->AV}{o:Oper}{W:List Nat}(hw:dP C ρ o=some W)(hl:vq C ρ o=true):rQ o=false:=by unfold dP at hw;unfold rQ;cases ho:o.op<;>rw[ho]at hw<;>simp_all
theorem NI{S T S':St}{e:jK}{β:Bool}{j:Nat}{y:Oper}{W:List Nat}(hs:g7 C D hints id ops β S j y=some (S',e))(hw:e.wr=some W)(hlc:e.lc=true)(hl:T.sl.length=S.sl.length)(hrl:T.rt.length=S.rt.length)
  (hk:∀u∈zY ops y,T.get u=S.get u) (ho:∀u∈jG ops j y,T.get u=S.get u) (Ef:lI T.sl y.dst (id * 256+j+1)=lI S.sl y.dst (id * 256+j+1))
  (hr:gZ (W++e.rd) S.rt T.rt):∃T',g7 C D hints id ops β T j y=some (T',e)/\(∀u∈jG ops j y,T'.get u=S'.get u)/\gZ W S'.rt T'.rt:=by
 have hg:=Qy (ops:=ops) hk;have he:=H_ hk;unfold g7 at hs⊢;rw[hg];split at hs
 .rename_i hgt;simp only[fq,aY]at hs;obtain⟨⟨v,rt'⟩,hd,hS,hee⟩:=hs;subst hS;subst hee;have iV:dP C (ev S) y=some W:=hw;have Eu:vq C (ev S) y=true:=hlc;have hb:=akz iV Eu;unfold iL at hd⊢;obtain⟨fk,k1,k2,k3⟩:=alG (A:=lI S.sl y.dst (id * 256+j+1)) hr hrl Eu (fun r hr=>by
   refine bN.2 (.inr ?_);simp only[jI,hb,fh,dZ,bN];exact .inr (.inl hr)) v rt' hd
  refine⟨fin ops ⟨T.sl,fk⟩ j y v,?_,A7 hl ho,?_⟩
  .rw[Ef,Sf y he,k1];simp only[d_,HD (b:=rt') (.inr (.inr Eu)) hk ho]
  .rw[oN,oN];exact k2.sub fun r hr=>bN.2 (.inl hr)
 .simp only[aK,aY]at hs;obtain⟨hS,hee⟩:=hs;subst hee;simp[oK]at hw
 .simp at hs
theorem aks{S T:aO}(hl:T.length=S.length)(h:∀r,T.root r=S.root r):T=S:=by apply Cb hl;intro i h1 h2;have:=h i;simp only[aO.ig,List.getD,gz h1,gz h2,uH]at this;exact this
theorem swap{S S1 S2:St}{ex ey:jK}{βx βy:Bool}{i j:Nat}{x y:Oper}(h1:g7 C D hints id ops βx S i x=some (S1,ex))(h2:g7 C D hints id ops βy S1 j y=some (S2,ey))
  (hap:IN ops i j x y=true) (hfr:ex.free ey=true):∃T1,g7 C D hints id ops βy S j y=some (T1,ey)/\g7 C D hints id ops βx T1 i x=some (S2,ex):=by
 simp only[IN,bI]at hap;obtain⟨⟨p1,p2⟩,p3⟩:=hap;obtain⟨l1,f1⟩:=IP h1;obtain⟨l2,f2⟩:=IP h2;have n1:∀u∈zY ops y,S.get u=S1.get u:=fun u hu=>(f1 u fun h=>pJ p1 u h hu).symm;have n2:∀u∈jG ops j y,S.get u=S1.get u:=fun u hu=>(f1 u fun h=>pJ p2 u h hu).symm
 -- zb two alY,and what comes out
 have key:∀(hm:(S.rt=S1.rt/\lI S.sl y.dst (id * 256+j+1)=lI S1.sl y.dst (id * 256+j+1))\/(ey.wr=none/\FC ey S1.rt S.rt))(hrl:S.rt.length=S1.rt.length),
   ∃T1,g7 C D hints id ops βy S j y=some (T1,ey)/\(ey.wr=none->S2.rt=S1.rt/\T1.rt=S.rt)/\(S.rt=S1.rt->T1.rt=S2.rt)/\
    (∀(hm2:(T1.rt=S.rt/\lI T1.sl x.dst (id * 256+i+1)=lI S.sl x.dst (id * 256+i+1))\/(ex.wr=none/\FC ex S.rt T1.rt))(Ln:T1.rt.length=S.rt.length),
     ∃T2,g7 C D hints id ops βx T1 i x=some (T2,ex)/\(ex.wr=none->S1.rt=S.rt/\T2.rt=T1.rt)/\(T1.rt=S.rt->T2.rt=S1.rt)/\(T2.rt=S2.rt->T2=S2)):=by
  intro hm hrl;obtain⟨T1,k1,k2,k3,k4⟩:=FQ h2 l1.symm hrl n1 n2 hm;refine⟨T1,k1,k3,k4,fun hm2 Ln=>?_⟩;obtain⟨lT,fT⟩:=IP k1;obtain⟨T2,q1,q2,q3,q4⟩:=FQ h1 lT Ln (fun u hu=>fT u fun h=>pJ p3 u h hu) (fun u hu=>fT u fun h=>pJ p2 u hu h) hm2;obtain⟨XZ,Wx⟩:=IP q1;refine⟨T2,q1,q3,q4,fun r9=>NP (by rw[XZ,lT,l2,l1]) (fun u=>?_) r9⟩;by_cases hx:u∈jG ops i x
  .rw[q2 u hx,f2 u fun h=>pJ p2 u hx h]
  .rw[Wx u hx];by_cases hy:u∈jG ops j y
   .exact k2 u hy
   .rw[fT u hy,f2 u hy,f1 u hx]
 obtain⟨sx,_⟩:=AS h1;obtain⟨sy,_⟩:=AS h2;cases rN:ex.wr with
 | none=>
  have r1:S1.rt=S.rt:=adf h1 rN;cases qE:ey.wr with
  | none=>obtain⟨T1,k1,k2,k3,k4⟩:=key (.inr ⟨qE,.inl fun r _=>by rw[r1]⟩) (by rw[r1]);obtain⟨e1,e2⟩:=k2 qE;obtain⟨T2,q1,q2,q3,q4⟩:=k4 (.inr ⟨rN,.inl fun r _=>by rw[e2]⟩) (by rw[e2]);have:=q4 ((q2 rN).2.trans (e2.trans (r1.symm.trans e1.symm)));subst this;exact⟨T1,k1,q1⟩
  | some W=>
   simp only[jK.free,rN,qE,jB]at hfr;rcases hfr with hfr | hfr
   rotate_left
   .obtain⟨⟨a1,a2⟩,d1,d2⟩:=Nf h2 qE hfr;rw[sy]at d2;obtain⟨T1,k1,k2,k3,k4⟩:=key (.inl ⟨r1.symm,(Kd h1 (W:=y.dst.toList) (fun d' hd'=>by rw[hd'];simp) d1 d2).symm⟩) (by rw[r1]);obtain⟨fr,_⟩:=Cu k1 qE;have eT:=k3 r1.symm;obtain⟨T2,q1,q2,q3,q4⟩:=k4 (.inr ⟨rN,.inr (by rw[eT];exact a2)⟩) fr.len;have:=q4 ((q2 rN).2.trans eT);subst this;exact⟨T1,k1,q1⟩
   simp only[BB,bI,kA]at hfr;obtain⟨d1,d2⟩:=hfr;obtain⟨_,UA⟩:=Cu h2 qE;rw[sy]at d2;obtain⟨T1,k1,k2,k3,k4⟩:=key (.inl ⟨r1.symm,(Kd h1 UA d1 d2).symm⟩) (by rw[r1]);obtain⟨fr,_⟩:=Cu k1 qE;obtain⟨T2,q1,q2,q3,q4⟩:=k4 (.inr ⟨rN,.inl fun r hr=>fr.root r fun h=>pJ d1 r h hr⟩) fr.len;have:=q4 ((q2 rN).2.trans (k3 r1.symm));subst this;exact⟨T1,k1,q1⟩
 | some W=>
  cases qE:ey.wr with
  | none=>
   simp only[jK.free,rN,qE,jB]at hfr;rcases hfr with hfr | hfr
   rotate_left
   .obtain⟨⟨a1,a2⟩,d1,d2⟩:=Nf h1 rN hfr;obtain⟨fr,UA⟩:=Cu h1 rN;rw[sx]at d2;obtain⟨T1,k1,k2,k3,k4⟩:=key (.inr ⟨qE,.inr a1⟩) fr.len.symm;obtain⟨e1,e2⟩:=k2 qE;obtain⟨T2,q1,q2,q3,q4⟩:=k4 (.inl ⟨e2,Kd k1 (W:=x.dst.toList) (fun d' hd'=>by rw[hd'];simp) d1 d2⟩) (by rw[e2]);have:=q4 ((q3 e2).trans e1.symm);subst this;exact⟨T1,k1,q1⟩
   simp only[BB,bI,kA]at hfr;obtain⟨d1,d2⟩:=hfr;obtain⟨fr,UA⟩:=Cu h1 rN;rw[sx]at d2;obtain⟨T1,k1,k2,k3,k4⟩:=key (.inr ⟨qE,.inl fun r hr=>(fr.root r fun h=>pJ d1 r h hr).symm⟩) fr.len.symm;obtain⟨e1,e2⟩:=k2 qE;obtain⟨T2,q1,q2,q3,q4⟩:=k4 (.inl ⟨e2,Kd k1 UA d1 d2⟩) (by rw[e2]);have:=q4 ((q3 e2).trans e1.symm);subst this;exact⟨T1,k1,q1⟩
  | some W2=>
   simp only[jK.free,rN,qE,bI,kA]at hfr;obtain⟨⟨⟨lx,ly⟩,⟨d1,d2⟩,d3,d4⟩,s1,s2⟩:=hfr;obtain⟨Us,ua⟩:=Cu h1 rN;obtain⟨Ut,Af⟩:=Cu h2 qE;rw[sy]at s1;rw[sx]at s2;obtain⟨T1,k1,k2,k3⟩:=NI (T:=S) h2 qE ly l1.symm Us.len.symm n1 n2 (Kd h1 Af d3 s1).symm
    (fun r hr=>(Us.root r fun h=>by
     rcases bN.1 hr with h' | h'
     .exact pJ d2 r h h'
     .exact pJ d1 r h h').symm)
   obtain⟨lT,fT⟩:=IP k1;obtain⟨Uu,_⟩:=Cu k1 qE;obtain⟨T2,q1,q2,q3⟩:=NI h1 rN lx lT Uu.len (fun u hu=>fT u fun h=>pJ p3 u h hu) (fun u hu=>fT u fun h=>pJ p2 u hu h) (Kd k1 ua d1 s2)
    (fun r hr=>Uu.root r fun h=>by
     rcases bN.1 hr with h' | h'
     .exact pJ d4 r h h'
     .exact pJ d3 r h h')
   obtain⟨XZ,Wx⟩:=IP q1;obtain⟨Kv,_⟩:=Cu q1 rN;have r9:T2.rt=S2.rt:=by
    refine aks (by rw[Kv.len,Uu.len,Ut.len,Us.len]) fun r=>?_;by_cases hx:r∈W
    .rw[q3 r hx,Ut.root r fun h=>pJ d2 r hx h]
    .rw[Kv.root r hx];by_cases hy:r∈W2
     .exact k3 r hy
     .rw[Uu.root r hy,Ut.root r hy,Us.root r hx]
   have:T2=S2:=NP (by rw[XZ,lT,l2,l1]) (fun u=>by
    by_cases hx:u∈jG ops i x
    .rw[q2 u hx,f2 u fun h=>pJ p2 u hx h]
    .rw[Wx u hx];by_cases hy:u∈jG ops j y
     .exact k2 u hy
     .rw[fT u hy,f2 u hy,f1 u hx]) r9
   subst this;exact⟨T1,k1,q1⟩
end
end
end Go.V

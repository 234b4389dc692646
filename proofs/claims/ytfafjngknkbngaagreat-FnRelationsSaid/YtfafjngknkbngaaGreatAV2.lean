import Derived.Orders
import Derived.Test.YtfafjngknkbngaaGreatAV1
set_option linter.unusedVariables false
set_option linter.unusedSimpArgs false
set_option linter.unusedSectionVars false
namespace Go.V
open Go
theorem qbra {h:Array Obj} {S:St} {g:Ghost} {q:Nat} {R:Root} (hR:S.root q=some R):∀ (t:Ty) {a:AV} {p:Path} {md:Mk} {xd:t.den} {z:Mk×t.den} {cu:List Value} {rp:Nat×Path},
  focus R.ty R.ms R.x p=some ⟨t,md,xd⟩→AVC h S g a cu→qd3 q t a p md xd=some z→qkb a p=true→qci a=some rp→inR R.ty R.x p:=by
 intro t
 induction t with
 | pair ta tb iha ihb=>
  intro a p md xd z cu rp hf hc hl hpo hp
  cases a with
  | pair u v=>
   simp only[qd3,Option.bind_eq_some_iff] at hl
   obtain ⟨y,hy,z',hz,-⟩:=hl
   simp only[AVC] at hc
   obtain ⟨ca,cb,-,h1,h2⟩:=hc
   simp only[qkb,Bool.and_eq_true] at hpo
   cases hu:qci u with
   | some rp'=>
    have:=iha (by rw[qgf p _ hf];simp[focus]) h1 hy hpo.1 hu
    exact ((qnb p _ hf).1 this).1
   | none=>
    cases hv:qci v with
    | some rp'=>
     have:=ihb (by rw[qgf p _ hf];simp[focus]) h2 hz hpo.2 hv
     exact ((qnb p _ hf).1 this).1
    | none=>simp[qci,hu,hv] at hp
  | brw r' p' s=>simp[qd3] at hl
  | _=>simp[qci] at hp
 | sl e ih=>
  intro a p md xd z cu rp hf hc hl hpo hp
  cases a with
  | pair u v=>simp[qd3] at hl
  | brw r' p' s=>
   simp only[qd3] at hl
   cases md with
   | own s' m0=>
    simp only at hl
    split at hl
    ·rename_i hcnd
     obtain ⟨rfl,rfl⟩:=hcnd
     simp only[qkb,decide_eq_true_eq] at hpo
     subst hpo
     simp only[AVC] at hc
     obtain ⟨v,rfl,hb⟩:=hc
     exact (hb R hR _ _ _ hf).1
    ·simp at hl
   | _=>simp at hl
  | _=>simp[qci] at hp
 | _=>
  intro a p md xd z cu rp hf hc hl hpo hp
  cases a with
  | pair u v=>simp[qd3] at hl
  | brw r' p' s=>simp[qd3] at hl
  | _=>simp[qci] at hp
theorem qblq {h:Array Obj} {S:St} {g:Ghost} {q:Nat} {R:Root} (hR:S.root q=some R):∀ (t:Ty) {a:AV} {p:Path} {md:Mk} {xd:t.den} {mx:Mk} {x:t.den} {c cu:List Value} {base:Base} {F:BS},
  focus R.ty R.ms R.x p=some ⟨t,md,xd⟩→atP h R.ty (g.C q) (g.base q) p=some (base,c)→Rep h g.Pr t md xd c F→AVC h S g a cu→
  qd3 q t a p md xd=some (mx,x)→qkb a p=true→Rep h g.Pr t mx x cu F:=by
 intro t
 have hval:∀ (t:Ty) (t':Ty) (x':t'.den) (md:Mk) (mx:Mk) (x:t.den) (cu:List Value) (F:BS),
   (if md.still=true then (qbs t' t x').bind fun y=>some (Mk.no,y) else none)=some (mx,x)→Rep h g.Pr t' .no x' cu Nil→Rep h g.Pr t mx x cu F:=by
  intro t t' x' md mx x cu F hl hr
  split at hl
  ·simp only[Option.bind_eq_some_iff,Option.some.injEq,Prod.mk.injEq] at hl
   obtain ⟨y,hy,rfl,rfl⟩:=hl
   exact (Rep.cast hy hr).2.room _ (Sub.nil _)
  ·simp at hl
 induction t with
 | pair ta tb iha ihb=>
  intro a p md xd mx x c cu base F hf ha r hc hl hpo
  cases a with
  | pair u v=>
   simp only[qd3,Option.bind_eq_some_iff,Option.some.injEq,Prod.mk.injEq] at hl
   obtain ⟨y,hy,z',hz,rfl,rfl⟩:=hl
   simp only[AVC] at hc
   obtain ⟨ca,cb,rfl,h1,h2⟩:=hc
   simp only[qkb,Bool.and_eq_true] at hpo
   simp only[Rep] at r
   obtain ⟨da,db,Fa,Fb,rfl,ra,rb,sa,sb,dd⟩:=r
   have hw:=Rep.width _ ra
   have e1:=iha (base:=base) (F:=Fa) (c:=da) (by rw[qgf p _ hf];simp[focus]) (by rw[qkd p _ hf ha];simp only[atP];rw[←hw,List.take_left' rfl]) ra h1 hy hpo.1
   have e2:=ihb (base:=base.map fun x=>(x.1,x.2+ta.width)) (F:=Fb) (c:=db) (by rw[qgf p _ hf];simp[focus]) (by rw[qkd p _ hf ha];simp only[atP];rw[←hw,List.drop_left' rfl]) rb h2 hz hpo.2
   simp only[Rep]
   exact ⟨ca,cb,Fa,Fb,rfl,e1,e2,sa,sb,dd⟩
  | val t' x'=>simp only[qd3] at hl;simp only[AVC] at hc;exact hval _ _ _ _ _ _ _ _ hl hc
  | _=>simp[qd3] at hl
 | sl e ih=>
  intro a p md xd mx x c cu base F hf ha r hc hl hpo
  cases a with
  | brw r' p' s=>
   simp only[qd3] at hl
   cases md with
   | own s' m0=>
    simp only at hl
    split at hl
    ·rename_i hcnd
     obtain ⟨rfl,rfl⟩:=hcnd
     simp only[qkb,decide_eq_true_eq] at hpo
     subst hpo
     simp only[AVC] at hc
     obtain ⟨v,rfl,hb⟩:=hc
     obtain ⟨_,b',hat⟩:=hb R hR _ _ _ hf
     rw[hat] at ha
     simp only[Option.some.injEq,Prod.mk.injEq] at ha hl
     obtain ⟨_,rfl⟩:=ha
     obtain ⟨rfl,rfl⟩:=hl
     exact r
    ·simp at hl
   | _=>simp at hl
  | val t' x'=>simp only[qd3] at hl;simp only[AVC] at hc;exact hval _ _ _ _ _ _ _ _ hl hc
  | _=>simp[qd3] at hl
 | unit=>
  intro a p md xd mx x c cu base F hf ha r hc hl hpo
  cases a with
  | val t' x'=>simp only[qd3] at hl;simp only[AVC] at hc;exact hval _ _ _ _ _ _ _ _ hl hc
  | unit=>simp only[AVC] at hc;subst hc;simp only[Rep]
  | _=>simp[qd3] at hl
 | int k=>
  intro a p md xd mx x c cu base F hf ha r hc hl hpo
  cases a with
  | val t' x'=>simp only[qd3] at hl;simp only[AVC] at hc;exact hval _ _ _ _ _ _ _ _ hl hc
  | _=>simp[qd3] at hl
 | bool=>
  intro a p md xd mx x c cu base F hf ha r hc hl hpo
  cases a with
  | val t' x'=>simp only[qd3] at hl;simp only[AVC] at hc;exact hval _ _ _ _ _ _ _ _ hl hc
  | _=>simp[qd3] at hl
 | str=>
  intro a p md xd mx x c cu base F hf ha r hc hl hpo
  cases a with
  | val t' x'=>simp only[qd3] at hl;simp only[AVC] at hc;exact hval _ _ _ _ _ _ _ _ hl hc
  | _=>simp[qd3] at hl
theorem qboz {h h2:Array Obj} {S:St} {g:Ghost} {Pr2:BS} {site q:Nat} {R:Root} (hR:S.root q=some R) (hp:Sub g.Pr Pr2) (hk:∀ b,g.Pr b→h2[b]? = h[b]?) :
  ∀ (t:Ty) {a:AV} {p:Path} {md:Mk} {xd:t.den} {m mm:Mk} {o yy:t.den} {c cu:List Value} {base:Base} {F Os:BS},
  focus R.ty R.ms R.x p=some ⟨t,md,xd⟩→atP h R.ty (g.C q) (g.base q) p=some (base,c)→Rep h g.Pr t md xd c F→AVC h S g a cu→
  Rep h2 Pr2 t m o cu Os→(∃ z,qd3 q t a p md xd=some z)→qkb a p=true→qbm site q t a p md xd m o=some (mm,yy)→
  ∃ F1 F2,Sub F1 Os∧Sub F2 Os∧Dis F1 F2∧Rep h2 (fun b=>Pr2 b∨F2 b) t mm yy c F1:=by
 intro t
 have hval:∀ (t:Ty) (md:Mk) (xd:t.den) (mm:Mk) (yy:t.den) (c:List Value) (F Os:BS),
   (if md.still=true then some (Mk.no,xd) else none)=some (mm,yy)→Rep h g.Pr t md xd c F→∃ F1 F2,Sub F1 Os∧Sub F2 Os∧Dis F1 F2∧Rep h2 (fun b=>Pr2 b∨F2 b) t mm yy c F1:=by
  intro t md xd mm yy c F Os hl hr
  split at hl
  ·rename_i hs
   simp only[Option.some.injEq,Prod.mk.injEq] at hl
   obtain ⟨rfl,rfl⟩:=hl
   exact ⟨Nil,Nil,Sub.nil _,Sub.nil _,Dis.nil _,Rep.mono (fun b hb=>.inl (hp b hb)) hk t (Rep.no_room (F':=Nil) t hs hr) (Sub.refl _) (fun _ h=>h.elim)⟩
  ·simp at hl
 induction t with
 | pair ta tb iha ihb=>
  intro a p md xd m mm o yy c cu base F Os hf ha r hc ro hle hpo hl
  cases a with
  | pair u v=>
   simp only[qbm,Option.bind_eq_some_iff,Option.some.injEq,Prod.mk.injEq] at hl
   obtain ⟨y,hy,z',hz,rfl,rfl⟩:=hl
   simp only[AVC] at hc
   obtain ⟨ca,cb,rfl,h1,h2'⟩:=hc
   simp only[qkb,Bool.and_eq_true] at hpo
   simp only[Rep] at r
   obtain ⟨da,db,Fa,Fb,rfl,ra,rb,sa,sb,dd⟩:=r
   have hw:=Rep.width _ ra
   simp only[Rep] at ro
   obtain ⟨ea,eb,Oa,Ob,eo,roa,rob,soa,sob,doo⟩:=ro
   have f1:focus R.ty R.ms R.x (p++[.fst])=some ⟨ta,md.fst,xd.1⟩:=by rw[qgf p _ hf];simp[focus]
   have f2:focus R.ty R.ms R.x (p++[.snd])=some ⟨tb,md.snd,xd.2⟩:=by rw[qgf p _ hf];simp[focus]
   have a1:atP h R.ty (g.C q) (g.base q) (p++[.fst])=some (base,da):=by rw[qkd p _ hf ha];simp only[atP];rw[←hw,List.take_left' rfl]
   have a2:atP h R.ty (g.C q) (g.base q) (p++[.snd])=some (base.map fun x=>(x.1,x.2+ta.width),db):=by rw[qkd p _ hf ha];simp only[atP];rw[←hw,List.drop_left' rfl]
   obtain ⟨zz,hle⟩:=hle
   simp only[qd3,Option.bind_eq_some_iff] at hle
   obtain ⟨zy,hzy,zz,hzz,-⟩:=hle
   have hcl:ca=ea∧cb=eb:=by
    have w1:=Rep.width _ roa
    have w2:=Rep.width _ rob
    have:ca.length=ea.length:=by
     rw[w1]
     exact Rep.width _ (qblq hR ta f1 a1 ra h1 (mx:=zy.1) (x:=zy.2) hzy hpo.1)
    exact List.append_inj eo this
   obtain ⟨rfl,rfl⟩:=hcl
   obtain ⟨A1,A2,s1,s2,d1,r1⟩:=iha f1 a1 ra h1 roa ⟨_,hzy⟩ hpo.1 hy
   obtain ⟨B1,B2,s3,s4,d2,r2⟩:=ihb f2 a2 rb h2' rob ⟨_,hzz⟩ hpo.2 hz
   refine ⟨fun b=>A1 b∨B1 b,fun b=>A2 b∨B2 b,?_,?_,?_,?_⟩
   ·rintro z (hz | hz)
    ·exact soa z (s1 z hz)
    ·exact sob z (s3 z hz)
   ·rintro z (hz | hz)
    ·exact soa z (s2 z hz)
    ·exact sob z (s4 z hz)
   ·rintro z (hz | hz) (hy | hy)
    ·exact d1 z hz hy
    ·exact doo z (s1 z hz) (s4 z hy)
    ·exact doo z (s2 z hy) (s3 z hz)
    ·exact d2 z hz hy
   ·simp only[Rep]
    exact ⟨da,db,A1,B1,rfl,Rep.mono (fun z hz=>hz.imp id .inl) (fun _ _=>rfl) _ r1 (Sub.refl _) (fun _ _=>rfl),
     Rep.mono (fun z hz=>hz.imp id .inr) (fun _ _=>rfl) _ r2 (Sub.refl _) (fun _ _=>rfl),fun z hz=>.inl hz,fun z hz=>.inr hz,doo.mono s1 s3⟩
  | val t' x'=>simp only[qbm] at hl;exact hval _ _ _ _ _ _ _ _ hl r
  | unit=>simp only[qbm] at hl;exact hval _ _ _ _ _ _ _ _ hl r
  | _=>simp[qbm] at hl
 | sl e ih=>
  intro a p md xd m mm o yy c cu base F Os hf ha r hc ro hle hpo hl
  cases a with
  | brw r' p' s=>
   simp only[qbm] at hl
   cases md with
   | own s' m0=>
    simp only at hl
    split at hl
    ·rename_i hcnd
     obtain ⟨rfl,rfl,htf,hsv⟩:=hcnd
     simp only[qkb,decide_eq_true_eq] at hpo
     subst hpo
     simp only[AVC] at hc
     obtain ⟨v,rfl,hb⟩:=hc
     obtain ⟨_,b',hat⟩:=hb R hR _ _ _ hf
     rw[hat] at ha
     simp only[Option.some.injEq,Prod.mk.injEq] at ha hl
     obtain ⟨_,rfl⟩:=ha
     obtain ⟨rfl,rfl⟩:=hl
     obtain ⟨F1,F2,s1,s2,d,rr⟩:=Rep.serves _ hsv ro
     refine ⟨F1,F2,s1,s2,d,?_⟩
     have:=(Rep.stamp site _).1 rr
     simp only[Mk.stamp,Rep] at this ⊢
     exact this
    ·simp at hl
   | _=>simp at hl
  | val t' x'=>simp only[qbm] at hl;exact hval _ _ _ _ _ _ _ _ hl r
  | unit=>simp only[qbm] at hl;exact hval _ _ _ _ _ _ _ _ hl r
  | _=>simp[qbm] at hl
 | unit=>
  intro a p md xd m mm o yy c cu base F Os hf ha r hc ro hle hpo hl
  cases a with
  | val t' x'=>simp only[qbm] at hl;exact hval _ _ _ _ _ _ _ _ hl r
  | unit=>simp only[qbm] at hl;exact hval _ _ _ _ _ _ _ _ hl r
  | _=>simp[qbm] at hl
 | int k=>
  intro a p md xd m mm o yy c cu base F Os hf ha r hc ro hle hpo hl
  cases a with
  | val t' x'=>simp only[qbm] at hl;exact hval _ _ _ _ _ _ _ _ hl r
  | unit=>simp only[qbm] at hl;exact hval _ _ _ _ _ _ _ _ hl r
  | _=>simp[qbm] at hl
 | bool=>
  intro a p md xd m mm o yy c cu base F Os hf ha r hc ro hle hpo hl
  cases a with
  | val t' x'=>simp only[qbm] at hl;exact hval _ _ _ _ _ _ _ _ hl r
  | unit=>simp only[qbm] at hl;exact hval _ _ _ _ _ _ _ _ hl r
  | _=>simp[qbm] at hl
 | str=>
  intro a p md xd m mm o yy c cu base F Os hf ha r hc ro hle hpo hl
  cases a with
  | val t' x'=>simp only[qbm] at hl;exact hval _ _ _ _ _ _ _ _ hl r
  | unit=>simp only[qbm] at hl;exact hval _ _ _ _ _ _ _ _ hl r
  | _=>simp[qbm] at hl
theorem qjl {t:Ty} {md mm:Mk} {xd yy:t.den} (hl:(if md.still=true then some (Mk.no,xd) else none)=some (mm,yy)):md.still=true∧mm=.no∧yy=xd:=by
 split at hl
 ·rename_i hs
  simp only[Option.some.injEq,Prod.mk.injEq] at hl
  exact ⟨hs,hl.1.symm,hl.2.symm⟩
 ·simp at hl
theorem qbou {hd:Nat→Value} {site q:Nat} (hs:site<1048576):∀ (t:Ty) {a:AV} {p:Path} {md:Mk} {xd:t.den} {m mm:Mk} {o yy:t.den} {c:List Value},
  qbm site q t a p md xd m o=some (mm,yy)→TagC hd t md c→TagC hd t mm c∧md.upd site (site+1) mm:=by
 intro t
 induction t with
 | pair ta tb iha ihb=>
  intro a p md xd m mm o yy c hl htg
  cases a with
  | pair u v=>
   simp only[qbm,Option.bind_eq_some_iff,Option.some.injEq,Prod.mk.injEq] at hl
   obtain ⟨y,hy,z',hz,rfl,rfl⟩:=hl
   simp only[TagC] at htg ⊢
   have h1:=iha hy htg.1
   have h2:=ihb hz htg.2
   exact ⟨⟨h1.1,h2.1⟩,h1.2,h2.2⟩
  | val t' x'=>simp only[qbm] at hl;obtain ⟨_,rfl,rfl⟩:=qjl hl;exact ⟨TagC.no _ _,trivial⟩
  | unit=>simp only[qbm] at hl;obtain ⟨_,rfl,rfl⟩:=qjl hl;exact ⟨TagC.no _ _,trivial⟩
  | _=>simp[qbm] at hl
 | sl e ih=>
  intro a p md xd m mm o yy c hl htg
  cases a with
  | brw r' p' s=>
   simp only[qbm] at hl
   cases md with
   | own s' m0=>
    simp only at hl
    split at hl
    ·rename_i hcnd
     obtain ⟨rfl,rfl,htf,hsv⟩:=hcnd
     simp only[Option.some.injEq,Prod.mk.injEq] at hl
     obtain ⟨rfl,rfl⟩:=hl
     simp only[TagC] at htg ⊢
     exact ⟨⟨htg.1,Mk.tagFree_stamp hs htf⟩,.inr ⟨_,rfl,Mk.upd_of_fresh _ (Mk.fresh_stamp site htf)⟩⟩
    ·simp at hl
   | _=>simp at hl
  | val t' x'=>simp only[qbm] at hl;obtain ⟨_,rfl,rfl⟩:=qjl hl;exact ⟨TagC.no _ _,trivial⟩
  | unit=>simp only[qbm] at hl;obtain ⟨_,rfl,rfl⟩:=qjl hl;exact ⟨TagC.no _ _,trivial⟩
  | _=>simp[qbm] at hl
 | _=>
  intro a p md xd m mm o yy c hl htg
  cases a with
  | val t' x'=>simp only[qbm] at hl;obtain ⟨_,rfl,rfl⟩:=qjl hl;exact ⟨TagC.no _ _,trivial⟩
  | unit=>simp only[qbm] at hl;obtain ⟨_,rfl,rfl⟩:=qjl hl;exact ⟨TagC.no _ _,trivial⟩
  | _=>simp[qbm] at hl
theorem qbmt {h h2:Array Obj} {Pr Pr2:BS} {site q:Nat}:∀ (t:Ty) {a:AV} {p:Path} {md:Mk} {xd:t.den} {m mm:Mk} {o yy:t.den} {c:List Value} {base:Base} {F F1:BS},
  qbm site q t a p md xd m o=some (mm,yy)→Rep h Pr t md xd c F→Rep h2 Pr2 t mm yy c F1→
  ∀ p' t1 n1,qcq site (site+1) p'=true→qr t mm p'=some (t1,n1)→inR t xd p'→inR t yy p'∧∀ bp cp,atP h t c base p'=some (bp,cp)→
   ∃ cp',atP h2 t c base p'=some (bp,cp')∧(∀ s a,n1=.own s a→¬ (site≤s∧s<site+1)→cp'=cp):=by
 intro t
 have hval:∀ (t:Ty) (c:List Value) (base:Base) (x:t.den) (p':Path) (t1:Ty) (n1:Mk),qcq site (site+1) p'=true→qr t .no p'=some (t1,n1)→inR t x p'→inR t x p'∧∀ bp cp,atP h t c base p'=some (bp,cp)→
   ∃ cp',atP h2 t c base p'=some (bp,cp')∧(∀ s a,n1=.own s a→¬ (site≤s∧s<site+1)→cp'=cp):=by
  intro t c base x p' t1 n1 hp hfm hi
  obtain ⟨hi',hn1⟩:=qix (lo:=site) (hi:=site+1) p' (m:=.no) trivial hp hfm
  refine ⟨hi,fun bp cp ha=>?_⟩
  obtain ⟨cp',h3⟩:=qq2 (h':=h2) p' _ c _ hi' ha
  exact ⟨cp',h3,fun s a' e hs=>by subst e;exact absurd hn1 hs⟩
 have hnil:∀ (t:Ty) (mm:Mk) (c:List Value) (base:Base) (y:t.den) (t1:Ty) (n1:Mk),inR t y []∧∀ bp cp,atP h t c base []=some (bp,cp)→
   ∃ cp',atP h2 t c base []=some (bp,cp')∧(∀ s a,n1=.own s a→¬ (site≤s∧s<site+1)→cp'=cp):=by
  intro t mm c base y t1 n1
  refine ⟨q5n _ _,fun bp cp ha=>?_⟩
  rw[qye] at ha
  exact ⟨cp,by rw[qye];exact ha,fun _ _ _ _=>rfl⟩
 induction t with
 | pair ta tb iha ihb=>
  intro a p md xd m mm o yy c base F F1 hl r r2 p' t1 n1 hp hfm hi
  cases a with
  | pair u v=>
   simp only[qbm,Option.bind_eq_some_iff,Option.some.injEq,Prod.mk.injEq] at hl
   obtain ⟨y,hy,z',hz,rfl,rfl⟩:=hl
   simp only[Rep] at r r2
   obtain ⟨da,db,Fa,Fb,rfl,ra,rb,-⟩:=r
   obtain ⟨ea,eb,Ea,Eb,ee,qa,qb,-⟩:=r2
   obtain ⟨rfl,rfl⟩:=List.append_inj ee (by rw[Rep.width _ ra,Rep.width _ qa])
   have hw:=Rep.width _ ra
   cases p' with
   | nil=>exact hnil _ (.pr y.1 z'.1) _ _ _ t1 _
   | cons st p'=>
    cases st with
    | fst=>
     simp only[qr,Mk.fst] at hfm
     simp only[inR] at hi ⊢
     obtain ⟨h1,h3⟩:=iha (base:=base) hy ra qa p' t1 n1 (by simpa [qcq] using hp) hfm hi
     refine ⟨h1,fun bp cp ha=>?_⟩
     simp only[atP] at ha ⊢
     rw[←hw,List.take_left' rfl] at ha ⊢
     exact h3 _ _ ha
    | snd=>
     simp only[qr,Mk.snd] at hfm
     simp only[inR] at hi ⊢
     obtain ⟨h1,h3⟩:=ihb (base:=base.map fun x=>(x.1,x.2+ta.width)) hz rb qb p' t1 n1 (by simpa [qcq] using hp) hfm hi
     refine ⟨h1,fun bp cp ha=>?_⟩
     simp only[atP] at ha ⊢
     rw[←hw,List.drop_left' rfl] at ha ⊢
     rw[hw] at ha ⊢
     exact h3 _ _ ha
    | idx i s=>simp[qr] at hfm
  | val t' x'=>simp only[qbm] at hl;obtain ⟨_,rfl,rfl⟩:=qjl hl;exact hval _ _ _ _ _ _ _ hp hfm hi
  | unit=>simp only[qbm] at hl;obtain ⟨_,rfl,rfl⟩:=qjl hl;exact hval _ _ _ _ _ _ _ hp hfm hi
  | _=>simp[qbm] at hl
 | sl e ih=>
  intro a p md xd m mm o yy c base F F1 hl r r2 p' t1 n1 hp hfm hi
  cases a with
  | brw r' p0 s=>
   simp only[qbm] at hl
   cases md with
   | own s' m0=>
    simp only at hl
    split at hl
    ·rename_i hcnd
     obtain ⟨rfl,rfl,htf,hsv⟩:=hcnd
     simp only[Option.some.injEq,Prod.mk.injEq] at hl
     obtain ⟨rfl,rfl⟩:=hl
     cases p' with
     | nil=>exact hnil _ .no _ _ _ t1 _
     | cons st p'=>
      cases st with
      | fst=>simp[qr] at hfm
      | snd=>simp[qr] at hfm
      | idx i s=>
       simp only[qr] at hfm
       split at hfm
       ·rename_i hss
        simp only[qcq,Bool.and_eq_true] at hp
        obtain ⟨hip,hn1⟩:=qix p' (Mk.fresh_stamp site htf) hp.2 hfm
        simp only[Rep] at r r2
        obtain ⟨a1,k1,rfl,hl1,r⟩:=r
        obtain ⟨a2,k2,e2,hl2,r2⟩:=r2
        simp only[List.cons.injEq,Value.slice.injEq,and_true] at e2
        obtain ⟨rfl,hlen,rfl⟩:=e2
        simp only[inR] at hi ⊢
        refine ⟨⟨hlen ▸ hi.1,qj3 _ _ hip hfm⟩,fun bp cp ha=>?_⟩
        rcases r2 with r2 | ⟨b,cs,rfl,fb,hb,hsz,-⟩
        ·omega
        obtain ⟨ty,lo,hi',he,_⟩:=hb
        simp only[atP,he]
        simp only[atP] at ha
        split at ha
        ·obtain ⟨cp',h3⟩:=qq2 (h':=h2) p' _ (sub cs (i * e.width) e.width) _ hip ha
         exact ⟨cp',h3,fun s a' e hs=>by subst e;exact absurd hn1 hs⟩
        ·simp at ha
       ·simp at hfm
    ·simp at hl
   | _=>simp at hl
  | val t' x'=>simp only[qbm] at hl;obtain ⟨_,rfl,rfl⟩:=qjl hl;exact hval _ _ _ _ _ _ _ hp hfm hi
  | unit=>simp only[qbm] at hl;obtain ⟨_,rfl,rfl⟩:=qjl hl;exact hval _ _ _ _ _ _ _ hp hfm hi
  | _=>simp[qbm] at hl
 | _=>
  intro a p md xd m mm o yy c base F F1 hl r r2 p' t1 n1 hp hfm hi
  cases a with
  | val t' x'=>simp only[qbm] at hl;obtain ⟨_,rfl,rfl⟩:=qjl hl;exact hval _ _ _ _ _ _ _ hp hfm hi
  | unit=>simp only[qbm] at hl;obtain ⟨_,rfl,rfl⟩:=qjl hl;exact hval _ _ _ _ _ _ _ hp hfm hi
  | _=>simp[qbm] at hl
theorem qbn1 {h:Array Obj} {S:St} {g:Ghost} {q:Nat} {t:Ty} {a:AV} {p:Path} {md:Mk} {xd:t.den} {z:Mk×t.den} {rp:Nat×Path} {v:Value}
  (hp:qci a=some rp) (hl:qd3 q t a p md xd=some z) (hv:qh h S g a v):∃ c,v=mkV t c∧AVC h S g a c:=by
 cases a with
 | brw r' p' s=>
  cases t with
  | sl e=>simp only[qh] at hv;exact ⟨[v],by simp[mkV,Ty.agg],by simp only[AVC];exact ⟨v,rfl,hv⟩⟩
  | _=>simp[qd3] at hl
 | pair a b=>
  cases t with
  | pair ta tb=>
   simp only[qh] at hv
   obtain ⟨ca,cb,rfl,h1,h2⟩:=hv
   exact ⟨ca++cb,by simp[mkV,Ty.agg],by simp only[AVC];exact ⟨ca,cb,rfl,h1,h2⟩⟩
  | _=>simp[qd3] at hl
 | _=>simp[qci] at hp
section
variable {P:Program} {C:Ctx} {D:Den C} {S:St} {g:Ghost} {w:World} {tmps:Array Value}
variable {A:Asks} {site:Nat} (dok:DOk P C D) (st:StRel w.heap S g tmps Nil)
include dok st
theorem qbml {f:FuncId} {avs:List AV} {vs:List Value} {d:Option Nat} (ok:AOk A S d site) (hfr:site<1048576∧∀ u,(S.get u).stampsOk site (site+1)=true)
  (ha:qfa w.heap S g avs vs) (hng:(C.sig f).params.all (fun k=>!k.gives)=true) {gd:GDen (C.sig f).params} (h1:qbb S.rt (C.sig f).params avs=some (gd,S.rt))
  {od:ODen (C.sig f).params} {rt2:Rts} {n:Nat} {u0:AV} {v0:Value} {q:Nat} {p:Path} {R:Root} {md:Mk} {t:Ty} {xd:t.den} {m m' mx:Mk} {x:t.den} (hav:qh w.heap S g u0 v0)
  (L:LentV w.heap (C.sig f).params avs vs S.rt rt2 od n u0 v0 q p R md t xd m m' mx x) {a:PDen (C.sig f).params} (h3:qcg rt2 (C.sig f).params avs gd od=some a)
  (hs:qbx (C.sig f).params avs=true∨(C.sig f).full=true) {r:RDen (C.sig f).res×ODen (C.sig f).params} (hD:D f a=some r) {β:Bool} {v:AV} {rt3 rt':Rts}
  (ho:qbh S.rt site (C.sig f).params avs r.2=some rt3) (he:(qdt A rt3 d site (C.sig f).res r.1).dec β=some (v,rt')) :
  Calls P f vs.toArray w fun e w'=>∃ val,e=.returned val∧Post S g w tmps v rt' val w':=by
 have hR:=L.root
 have hisr:(S.root q).isSome:=by show (S.rt.root q).isSome=true;rw[hR];rfl
 obtain ⟨cu,ev0,hcu⟩:=qbn1 L.place L.lend hav
 have hin:=qbra hR t L.foc hcu L.lend L.paths L.place
 obtain ⟨base,c,F,q1,q2,q3,q4,q5,q6⟩:=st.updateD hR L.foc hin
 have q2l:=qblq hR t L.foc q1 q2 hcu L.lend L.paths
 have htgd:TagC g.hd t md c:=TagC.at p (st.tag q R hR) L.foc q1
 obtain ⟨F1,F2,s1,s2,s3,s4⟩:=Rep.serves t L.srv q2l
 have st2:=(st.dropRootH hisr).shareHand F2 (fun z hz=>.inr (q3 z (s2 z hz)))
 let g2:Ghost:={ g with Pr:=Un g.Pr F2 }
 have kp2:Kp w.heap S g (S.setRoot q none) g2:=(qbno st q).trans (qxd (st.dropRootH hisr) F2)
 let Fs:Nat→BS:=fun j=>if j=n then F1 else Nil
 have hFs:∀ i,Sub (Fs i) (fun z=>(Nil z∨g.G q z)∧¬ F2 z):=by
  intro i z hz
  simp only[Fs] at hz
  split at hz
  ·exact ⟨.inr (q3 z (s1 z hz)),fun h=>s3 z hz h⟩
  ·exact hz.elim
 have e2:rt2=(S.setRoot q none).rt:=L.rt2
 subst e2
 obtain ⟨gg1,HH1,FF,kk⟩:=qlr (sl:=S.sl) (C.sig f).params avs vs S.rt g Nil 0 gd S.rt ha st h1
 have hG:=qxo (h2:=w.heap) (Pr2:=g2.Pr) (Fs2:=Fs) (C.sig f).params 0 hng kk.2.2.2.2.1
 have hL:=L.ls g2.Pr Fs 0 (by
  simp only[Nat.zero_add,Fs,if_true]
  exact ⟨cu,s4,ev0⟩)
 have hps:=qiw st2 (sh:=qbx (C.sig f).params avs) (Fs:=Fs) (C.sig f).params avs vs 0 gd od a (fun h=>h) (ha.kp kp2) hG hL h3
 have hFsd:∀ i j,i≠j→Dis (Fs i) (Fs j):=by
  intro i j hij z h1 h2
  simp only[Fs] at h1 h2
  split at h1
  ·split at h2
   ·omega
   ·exact h2
  ·exact h1
 have pre:Pre w.heap (Seen (qbx (C.sig f).params avs) (S.setRoot q none) g2) Fs (C.sig f).params a vs:=
  ⟨hps,hFsd,fun i z hz=>qbam st2 _ z (hFs i z hz),fun i z hz=>st2.limH z (hFs i z hz),qbab st2 _⟩
 refine (dok.ok f a r hD w _ Fs vs pre).mono ?_
 rintro e w' ⟨val,Pr',Gs,Os,us,rfl,p0⟩
 obtain ⟨y,hy1,hy2⟩:=L.out r.2
 have hback:=hy1 S.rt site rt3 ho
 obtain ⟨cu',repo,ev2⟩:=hy2 _ _ _ _ p0.out
 rw[Nat.zero_add] at repo
 obtain rfl:cu=cu':=qbsm q2l repo (ev0.symm.trans ev2)
 have hMay:∀ z,May w.heap.size Fs z→w.heap.size≤z∨F1 z:=by
  rintro z (h | ⟨i,h⟩)
  ·exact .inl h
  ·simp only[Fs] at h
   split at h
   ·exact .inr h
   ·exact h.elim
 let D0:BS:=fun z=>qbx (C.sig f).params avs=true∧Pr' z∧¬ g.Pr z
 have hD0:∀ z,D0 z→F z∨Nil z∨w.heap.size≤z:=by
  rintro z ⟨hsh,h1,h2⟩
  rcases p0.prL z h1 with h3 | h3
  ·rw[hsh] at h3
   simp only[Seen,if_true] at h3
   rcases h3 with h3 | h3
   ·exact absurd h3 h2
   ·exact .inl (s2 z h3)
  ·rcases hMay z h3 with h4 | h4
   ·exact .inr (.inr h4)
   ·exact .inl (s1 z h4)
 have hOm:∀ z,Os n z→F z∨Nil z∨w.heap.size≤z:=by
  intro z hz
  rcases hMay z (p0.oL n z hz) with h4 | h4
  ·exact .inr (.inr h4)
  ·exact .inl (s1 z h4)
 have hfull:qbx (C.sig f).params avs=false→(C.sig f).full=true:=fun h=>hs.resolve_left (by rw[h];simp)
 have rep3:Rep w'.heap (Un g.Pr D0) t m' y cu (Os n):=by
  cases hsh:qbx (C.sig f).params avs with
  | true=>
   refine Rep.mono (fun z hz=>?_) (fun _ _=>rfl) _ repo (Sub.refl _) (fun _ _=>rfl)
   by_cases h1:g.Pr z
   ·exact .inl h1
   ·exact .inr ⟨hsh,hz,h1⟩
  | false=>
   have h5:=hfull hsh
   simp only[Sig.full,Bool.and_eq_true] at h5
   exact Rep.fullMk _ (L.full h5.1) repo
 have hkF:∀ z,z<w.heap.size→¬ F z→w'.heap[z]? = w.heap[z]?:=fun z hz hnF=>p0.fr.block z hz (fun h=>by
   rcases hMay z h with h4 | h4
   ·omega
   ·exact hnF (s1 z h4))
 have hkP:∀ b,g.Pr b→w'.heap[b]? = w.heap[b]?:=fun b hb=>hkF b (st.limPr b hb) (fun h=>st.prot q hisr b (q3 b h) hb)
 unfold q9d at hback
 rw[L.place] at hback
 simp only at hback
 rw[hR] at hback
 simp only[Option.bind_eq_some_iff] at hback
 obtain ⟨dd,hdd,hback⟩:=hback
 rw[L.foc] at hdd
 simp only[Option.some.injEq] at hdd
 subst hdd
 simp only[↓reduceDIte,Option.bind_eq_some_iff] at hback
 obtain ⟨⟨mm,yy⟩,hmg,hback⟩:=hback
 simp only at hback
 split at hback
 ·simp at hback
 rename_i hidx
 simp only[Option.bind_eq_some_iff,Option.some.injEq] at hback
 obtain ⟨⟨mr,xr⟩,hput,hback⟩:=hback
 subst hback
 obtain ⟨G1,G2,t1,t2,t3,rep4⟩:=qboz (site:=site) hR (fun z hz=>Or.inl hz) hkP t L.foc q1 q2 hcu rep3 ⟨_,L.lend⟩ L.paths hmg
 obtain ⟨htg,hupd⟩:=qbou hfr.1 t hmg htgd
 have hpaths:=qbmt (base:=base) t hmg q2 rep4
 let Dd:BS:=fun z=>D0 z∨G2 z
 have hDd:∀ z,Dd z→F z∨Nil z∨w.heap.size≤z:=by
  rintro z (h | h)
  ·exact hD0 z h
  ·exact hOm z (t2 z h)
 obtain ⟨g',k1,k2,k3,k4,k5,k6,k7⟩:=q6 site (site+1) w'.heap mm yy c G1 Dd mr xr hfr.2
  (fun z hz hnF _=>hkF z hz hnF)
  p0.fr.size
  (by
   intro b o e cs hcs
   obtain ⟨cs2,h5,h6⟩:=Upd.self q4 b o e cs hcs
   exact ⟨cs2,h5.congr (hkF b (by obtain ⟨_,_,_,h7,_⟩:=hcs;exact (Array.getElem?_eq_some_iff.1 h7).1) (q4 b o e).1),h6⟩)
  (Rep.mono (fun z hz=>hz.elim (fun h=>h.imp id .inl) (fun h=>.inr (.inr h))) (fun _ _=>rfl) _ rep4 (Sub.refl _) (fun _ _=>rfl))
  (fun z h1 h2=>h1.elim (fun h1=>p0.op n z (t1 z h2) h1.2.1) (fun h1=>t3 z h2 h1))
  (fun z hz=>hz.elim (fun h=>hOm z (t1 z h)) (hDd z))
  (fun z hz=>hz.elim (fun h=>p0.olim n z (t1 z h)) (fun h=>h.elim (fun h=>p0.plim z h.2.1) (fun h=>p0.olim n z (t2 z h))))
  hput hupd htg (fun h=>by simpa [h] using hidx) hpaths
 have hres:qel w'.heap g'.Pr Gs 0 (C.sig f).res r.1 us:=by
  refine qel.conv _ 0 ?_ p0.res
  cases hsh:qbx (C.sig f).params avs with
  | true=>
   refine .inl (fun z hz=>?_)
   by_cases h1:g.Pr z
   ·exact k2 z h1
   ·exact k3 z (.inl ⟨hsh,hz,h1⟩)
  | false=>
   have h5:=hfull hsh
   simp only[Sig.full,Bool.and_eq_true] at h5
   exact .inr h5.2
 have hGH:∀ i,Sub (Gs i) (fun z=>(Nil z∨F z∨(w.heap.size≤z∧z<w'.heap.size))∧¬ (G1 z∨Dd z)):=by
  intro i z hz
  refine ⟨?_,?_⟩
  ·rcases hMay z (p0.gL i z hz) with h4 | h4
   ·exact .inr (.inr ⟨h4,p0.glim i z hz⟩)
   ·exact .inr (.inl (s1 z h4))
  ·rintro (h | h | h)
   ·exact p0.go i n z hz (t1 z h)
   ·exact p0.gp i z hz h.2.1
   ·exact p0.go i n z hz (t2 z h)
 obtain ⟨g4,u1,u2,u3⟩:=q8p (S:=S) k1 hGH p0.gdis ok (C.sig f).res hres he
 refine ⟨val,rfl,g4,u1,by rw[p0.val];exact u2,k4.trans u3,p0.fr.mono ?_⟩
 intro z hz h
 rcases hMay z h with h4 | h4
 ·omega
 ·exact st.own q _ hisr (q3 z (s1 z h4))
end
end Go.V

namespace Go.V
open Go
theorem qfa.append {h:Array Obj} {S:St} {g:Ghost}:∀ {avs bs:List AV} {vs ws:List Value},qfa h S g avs vs→qfa h S g bs ws→qfa h S g (avs++bs) (vs++ws)
 | [],bs,vs,ws,k,k2=>by simp only[qfa] at k;subst k;simpa using k2
 | a::avs,bs,vs,ws,k,k2=>by
  obtain ⟨v,vs',rfl,r1,r2⟩:=k
  exact ⟨v,vs'++ws,rfl,r1,qfa.append r2 k2⟩
theorem qbo0 {h:Array Obj} {S:St} {g:Ghost}:∀ {c:AV} {vs:List Value},TupRel h S g c vs→qfa h S g (qek c) vs
 | .unit,vs,k=>by simp only[TupRel] at k;exact k
 | .pair a b,vs,k=>by
  simp only[TupRel] at k
  obtain ⟨v,vs',rfl,r1,r2⟩:=k
  exact ⟨v,vs',rfl,r1,qbo0 r2⟩
 | .undef,_,k=>by simp only[TupRel] at k
 | .skip,_,k=>by simp only[TupRel] at k
 | .litB _,_,k=>by simp only[TupRel] at k
 | .nils,_,k=>by simp only[TupRel] at k
 | .val _ _,_,k=>by simp only[TupRel] at k
 | .brw _ _ _,_,k=>by simp only[TupRel] at k
 | .view _ _ _ _ _,_,k=>by simp only[TupRel] at k
 | .addr _ _,_,k=>by simp only[TupRel] at k
 | .raddr _ _,_,k=>by simp only[TupRel] at k
 | .tup _,_,k=>by simp only[TupRel] at k
 | .clo _ _,_,k=>by simp only[TupRel] at k
 | .cloV _,_,k=>by simp only[TupRel] at k
theorem qbls {h:Array Obj} {S:St} {g:Ghost} {ρ:Operand→AV} {ev:Operand→Value} (hρ:∀ x,qh h S g (ρ x) (ev x)):∀ (l:List Operand),qfa h S g (l.map ρ) (l.map ev)
 | []=>rfl
 | x::l=>⟨_,_,rfl,hρ x,qbls hρ l⟩
theorem qbpf {h:Array Obj} {Pr:BS} {Gs:Nat→BS} {us:List Value}:∀ (rs:List RK) (r:RDen rs) (t:Ty) (y:t.den),q1t rs r t=some y→qel h Pr Gs 0 rs r us→
  ∃ c F m,us=[mkV t c]∧Rep h Pr t m y c F
 | [],r,t,y,hy,k=>by simp[q1t] at hy
 | [.val t' m],r,t,y,hy,k=>by
  simp only[q1t] at hy
  obtain ⟨u,vs',rfl,⟨c,rr,rfl⟩,k2⟩:=k
  simp only[qel] at k2
  subst k2
  obtain ⟨rfl,rr2⟩:=Rep.cast hy rr
  exact ⟨c,_,m,rfl,rr2⟩
 | [.ptr t' m],r,t,y,hy,k=>by simp[q1t] at hy
 | .val _ _::_::_,r,t,y,hy,k=>by simp[q1t] at hy
 | .ptr _ _::_::_,r,t,y,hy,k=>by simp[q1t] at hy
section
variable {P:Program} {C:Ctx} {D:Den C} {S:St} {g:Ghost} {w:World} {tmps:Array Value} {a:Act} {ρ:Operand→AV}
variable {A:Asks} {site:Nat} {hint:Bool} (hty:qck P C) (dok:DOk P C D) (st:StRel w.heap S g tmps Nil) (hρ:∀ x,qh w.heap S g (ρ x) (a.eval x))
include dok st
theorem qblj {f:FuncId} {avs:List AV} {vs:List Value} {d:Option Nat} (ok:AOk A S d site) (ha:qfa w.heap S g avs vs) (ht:Tot (qm1 C D A S.rt d site f avs)) :
  Calls P f vs.toArray w fun | .returned val,w''=>Outs S g w tmps (qm1 C D A S.rt d site f avs) val w'' | _,_=>False:=by
 obtain ⟨⟨v,rt'⟩,hd⟩:=ht true
 have hcall:∀ {Q:Value→World→Prop},Calls P f vs.toArray w (fun e w'=>∃ val,e=.returned val∧Post S g w tmps v rt' val w')→
   Calls P f vs.toArray w fun | .returned val,w''=>Outs S g w tmps (qm1 C D A S.rt d site f avs) val w'' | _,_=>False:=by
  intro Q h
  refine h.mono ?_
  rintro e w' ⟨val,rfl,hp⟩
  exact ⟨true,v,rt',hd,hp⟩
 refine hcall (Q:=fun _ _=>True) ?_
 clear hcall
 unfold qm1 at hd
 cases h1:qbb S.rt (C.sig f).params avs with
 | none=>rw[h1] at hd;simp[Tr.dec] at hd
 | some z=>
  obtain ⟨gd,rt1⟩:=z
  rw[h1] at hd
  simp only at hd
  cases h2:q9 rt1 (C.sig f).params avs with
  | none=>rw[h2] at hd;simp[Tr.dec] at hd
  | some z=>
   obtain ⟨od,rt2⟩:=z
   rw[h2] at hd
   simp only at hd
   cases h3:qcg rt2 (C.sig f).params avs gd od with
   | none=>rw[h3] at hd;simp[Tr.dec] at hd
   | some aa=>
    rw[h3] at hd
    simp only at hd
    by_cases hc:(qbhu (C.sig f).params&&(qbx (C.sig f).params avs||(C.sig f).full))=true
    ·rw[if_pos hc] at hd
     simp only[Bool.and_eq_true,Bool.or_eq_true] at hc
     simp only[Tr.dec,Option.bind_eq_some_iff] at hd
     obtain ⟨r,hD,hd⟩:=hd
     by_cases hn:(C.sig f).params.all (fun k=>!k.lends)=true
     ·rw[if_pos hn] at hd
      exact qbkf dok st ok ha h1 hn h2 h3 hc.2 hD hd
     ·rw[if_neg hn] at hd
      by_cases hfr:A.fr=true
      ·rw[if_pos hfr] at hd
       cases hlo:qk7 (C.sig f).params avs with
       | false=>rw[hlo] at hd;simp[Tr.dec] at hd
       | true=>
       rw[hlo] at hd
       simp only[Tr.dec] at hd
       cases h4:qbh rt1 site (C.sig f).params avs r.2 with
       | none=>rw[h4] at hd;simp[Tr.dec] at hd
       | some rt3=>
        rw[h4] at hd
        simp only at hd
        have hone:(List.filter PK.lends (C.sig f).params).length=1∧(C.sig f).params.all (fun k=>!k.gives)=true:=by
         have:=hc.1
         unfold qbhu at this
         split at this
         ·rename_i h5
          exfalso
          rw[List.filter_eq_nil_iff] at h5
          exact hn (by simpa using h5)
         ·rename_i h5;rw[h5];exact ⟨rfl,this⟩
         ·simp at this
        obtain rfl:=qox _ _ _ _ _ hone.2 h1
        obtain ⟨n,a0,v0,hav,hcase⟩:=qble (C.sig f).params avs vs S.rt rt2 od hone.1 ha h2 hlo
        rcases hcase with ⟨q,t,m,m',R,x,rfl,L⟩ | ⟨q,p,R,md,t,xd,m,m',mx,x,L⟩
        ·exact qbmm dok st ok (ok.fr hfr) ha hone.2 h1 hav L h3 hc.2 hD h4 hd
        ·exact qbml dok st ok (ok.fr hfr) ha hone.2 h1 hav L h3 hc.2 hD h4 hd
      ·rw[if_neg hfr] at hd;simp[Tr.dec] at hd
    ·rw[if_neg hc] at hd;simp[Tr.dec] at hd
theorem q1w {h:Array Obj} {tmps:Array Value} {sl:List AV}:∀ (ks:List PK) (avs:List AV) (vs:List Value) (rt:Rts) (g:Ghost) (z:List AV×Rts),
  qfa h ⟨sl,rt⟩ g avs vs→StRel h ⟨sl,rt⟩ g tmps Nil→qdf rt ks avs=some z→
  ∃ g1,StRel h ⟨sl,z.2⟩ g1 tmps Nil∧Kp h ⟨sl,rt⟩ g ⟨sl,z.2⟩ g1∧g1.Same g∧qfa h ⟨sl,z.2⟩ g1 z.1 vs
 | [],[],vs,rt,g,z,ha,st,hb=>by
  simp only[qdf,Option.some.injEq] at hb
  subst hb
  exact ⟨g,st,Kp.refl,.refl _,ha⟩
 | [],_::_,vs,rt,g,z,ha,st,hb=>by simp[qdf] at hb
 | k::ks,[],vs,rt,g,z,ha,st,hb=>by cases k<;>simp[qdf] at hb
 | k::ks,a::avs,vs,rt,g,z,ha,st,hb=>by
  obtain ⟨v,vs',rfl,r1,r2⟩:=ha
  have plain:(qdf rt ks avs).map (fun z=>(a::z.1,z.2))=some z→∃ g1,StRel h ⟨sl,z.2⟩ g1 tmps Nil∧Kp h ⟨sl,rt⟩ g ⟨sl,z.2⟩ g1∧g1.Same g∧qfa h ⟨sl,z.2⟩ g1 z.1 (v::vs'):=by
   intro hb
   simp only[Option.map_eq_some_iff] at hb
   obtain ⟨z',h1,rfl⟩:=hb
   obtain ⟨g1,k1,k2,k3,k4⟩:=q1w ks avs vs' rt g z' r2 st h1
   exact ⟨g1,k1,k2,k3,v,vs',rfl,k2 _ _ r1,k4⟩
  cases k with
  | val t=>
   simp only[qdf] at hb
   split at hb
   ·exact plain hb
   ·split at hb
    ·rename_i m y rt2 htk
     split at hb
     ·rename_i hm
      simp only[Option.map_eq_some_iff] at hb
      obtain ⟨z',h1,rfl⟩:=hb
      obtain ⟨c,g2,F,ev,tk1⟩:=qvp (S:=⟨sl,rt⟩) _ st htk r1
      have st2:=(tk1.st.shareHand F (fun b hb=>.inr hb)).lessHand (Sub.nil _)
      have kp2:Kp h ⟨sl,rt⟩ g ⟨sl,rt2⟩ { g2 with Pr:=Un g2.Pr F }:=Kp.trans tk1.kp (qxd tk1.st F)
      have x:qh h ⟨sl,rt2⟩ { g2 with Pr:=Un g2.Pr F } (.val t y) v:=by
       simp only[qh];exact ⟨c,Rep.share t hm tk1.rep,ev⟩
      obtain ⟨g1,k1,k2,k3,k4⟩:=q1w ks avs vs' rt2 _ z' (r2.kp kp2) st2 h1
      exact ⟨g1,k1,kp2.trans k2,tk1.same.trans (Ghost.Same.trans ⟨rfl,rfl,rfl⟩ k3),v,vs',rfl,k2 _ _ x,k4⟩
     ·simp at hb
    ·simp at hb
  | _=>exact plain (by simpa only [qdf] using hb)
theorem qblc:∀ (ts:List Ty) (avs:List AV) (vs:List Value) (l:List CapV),qfa w.heap S g avs vs→qup S.rt ts avs=some l→qfg w.heap (PG (Vis S g)) l vs
 | [],avs,vs,l,ha,hb=>by
  cases avs with
  | nil=>simp only[qup,Option.some.injEq] at hb;subst hb;exact ha
  | cons a avs=>simp[qup] at hb
 | t::ts,[],vs,l,ha,hb=>by simp[qup] at hb
 | t::ts,a::avs,vs,l,ha,hb=>by
  obtain ⟨v,vs',rfl,r1,r2⟩:=ha
  simp only[qup,Option.bind_eq_some_iff,Option.some.injEq] at hb
  obtain ⟨x,hx,l',hl,rfl⟩:=hb
  obtain ⟨c,e,r⟩:=qbnv st t hx r1
  exact ⟨v,vs',rfl,⟨c,r,e⟩,qblc ts avs vs' l' r2 hl⟩
theorem qbcc {h:Array Obj} {g:Ghost}:∀ {l l2:List CapV} {vs ws:List Value},qfg h g l vs→qfg h g l2 ws→qfg h g (l++l2) (vs++ws)
 | [],_,vs,ws,k,k2=>by simp only[qfg] at k;subst k;simpa using k2
 | c::l,_,vs,ws,k,k2=>by
  obtain ⟨v,vs',rfl,r1,r2⟩:=k
  exact ⟨v,vs'++ws,rfl,r1,qbcc r2 k2⟩
theorem qbgw {h:Array Obj} {Pr:BS} {Fs:Nat→BS}:∀ (ks:List PK) (l:List CapV) (vs:List Value) (i:Nat) (aa:PDen ks),qnc ks l=some aa→qfg h (PG Pr) l vs→qvh h Pr Fs i ks aa vs∧ks.all PK.plain=true
 | [],l,vs,i,aa,hp,hc=>by
  cases l with
  | nil=>exact ⟨hc,rfl⟩
  | cons c l=>simp[qnc] at hp
 | k::ks,[],vs,i,aa,hp,hc=>by cases k<;>simp[qnc] at hp
 | k::ks,c::l,vs,i,aa,hp,hc=>by
  obtain ⟨v,vs',rfl,r1,r2⟩:=hc
  cases k with
  | val t=>
   cases c with
   | val t' x=>
    simp only[qnc,Option.bind_eq_some_iff,Option.some.injEq] at hp
    obtain ⟨y,hy,r,hr,rfl⟩:=hp
    obtain ⟨c,rr,e⟩:=r1
    obtain ⟨rfl,rr2⟩:=Rep.cast hy rr
    obtain ⟨p1,p2⟩:=qbgw ks l vs' (i+1) r hr r2
    exact ⟨⟨v,vs',rfl,⟨c,rr2,e⟩,p1⟩,by simpa [PK.plain] using p2⟩
   | _=>simp[qnc] at hp
  | rptr t=>
   cases c with
   | rptr t' x=>
    simp only[qnc,Option.bind_eq_some_iff,Option.some.injEq] at hp
    obtain ⟨y,hy,r,hr,rfl⟩:=hp
    obtain ⟨e1,e2⟩:=qme hy
    subst e1
    simp only at e2
    subst e2
    obtain ⟨p1,p2⟩:=qbgw ks l vs' (i+1) r hr r2
    exact ⟨⟨v,vs',rfl,r1,p1⟩,by simpa [PK.plain] using p2⟩
   | _=>simp[qnc] at hp
  | _=>cases c<;>simp[qnc] at hp
theorem qbmk {h:Array Obj} {Pr Pr2:BS} {t:Ty} {m:Mk} {x:t.den} {c:List Value} {F F2:BS} (hs:t.scalar=true) (r:Rep h Pr t m x c F):Rep h Pr2 t .no x c F2:=by
 cases t<;>simp[Ty.scalar] at hs<;>simpa only [Rep] using r
theorem qbmi {cl:Clo} {xs:List CapV} {t:Ty} {y:t.den} {vs ws:List Value} (hs:t.scalar=true) (hy:qca C D cl xs t=some y) (hx:qfg w.heap (PG (Vis S g)) xs vs) (hw:qfg w.heap g cl.caps ws) :
  Calls P cl.f (vs++ws).toArray w fun e w'=>∃ val,e=.returned val∧Post S g w tmps (.val t y) S.rt val w':=by
 simp only[qca,Option.bind_eq_some_iff] at hy
 obtain ⟨aa,ha,r,hD,hr⟩:=hy
 obtain ⟨hps,hpl⟩:=qbgw dok st (Fs:=fun _=>Nil) (C.sig cl.f).params _ _ 0 aa ha (qbcc dok st hx (qbh5 st (fun b hb=>.inl hb:Sub g.Pr (Vis S g)) hw))
 have hv:=qbam st false
 have pre:Pre w.heap (Vis S g) (fun _=>Nil) (C.sig cl.f).params aa (vs++ws):=
  ⟨hps,fun _ _ _=>Dis.nil _,fun _=>Dis.nil _,fun _ _ h=>h.elim,qbab st false⟩
 refine (dok.ok cl.f aa r hD w _ _ _ pre).mono ?_
 rintro e w' ⟨val,Pr',Gs,Os,us,rfl,p⟩
 have hMay:∀ z,May w.heap.size (fun _=>Nil) z→w.heap.size≤z:=fun z h=>h.elim id (fun ⟨_,h⟩=>h.elim)
 have st1:=st.grow (h2:=w'.heap) (fun b hb=>p.fr.block b hb (fun h=>absurd (hMay b h) (by omega))) p.fr.size Nil (fun b hb=>hb.elim)
 obtain ⟨c,F,m,hus,rr⟩:=qbpf _ _ _ _ hr p.res
 refine ⟨val,rfl,g,st1,?_,.refl g,p.fr.mono (fun z hz h=>absurd (hMay z h) (by omega))⟩
 rw[p.val,hus]
 simp only[qh,qly]
 exact ⟨c,qbmk dok st hs rr,rfl⟩
include hty hρ
theorem qbsw {o:Oper} {c:Call} {f:Operand} (ho:o.op=.call c) (hc:c.callee=.value f) (ok:AOk A S o.dst site):Goal P C D S g w tmps a ρ A site hint o:=by
 intro ht
 have hcalled:∀ (ff:FuncId) (vs:List Value),qma P ff→a.eval f=.func (.func ff) #[] vs.toArray→
   (execOp a.eval o).run P w=.ok (.enter ff (c.args.toList.map a.eval++vs).toArray) w:=by
  rintro ff vs ⟨fn,h1,h2,h3⟩ hv
  have hb:¬ fn.body=none:=by intro hh;rw[hh] at h3;simp at h3
  have harr:c.args.map a.eval++vs.toArray=(c.args.toList.map a.eval++vs).toArray:=by
   apply Array.ext';simp
  simp[execOp,ho,resolve,hc,Deferred.ofValue,hv,invoke,callFunc,h1,h2,hb,Sem.run_bind,←harr]
 simp only[opT,ho,hc] at ht ⊢
 have hf:=hρ f
 split at ht
 ·rename_i ff caps hv
  rw[hv] at hf
  simp only[qh] at hf
  obtain ⟨vs,ev,htup⟩:=hf
  have ha:=qfa.append (qbls hρ c.args.toList) (qbo0 htup)
  have hcalT:∀ {A:Asks} {S:Rts} {avs:List AV},Tot (qm1 C D A S o.dst site ff avs)→qma P ff:=by
   intro A S avs ht
   obtain ⟨⟨v,rt'⟩,hd⟩:=ht true
   unfold qm1 at hd
   split at hd
   ·simp[Tr.dec] at hd
   ·split at hd
    ·simp[Tr.dec] at hd
    ·split at hd
     ·simp[Tr.dec] at hd
     ·split at hd
      ·simp only[Tr.dec,Option.bind_eq_some_iff] at hd
       obtain ⟨r,hD,_⟩:=hd
       exact dok.call _ _ _ hD
      ·simp[Tr.dec] at hd
  by_cases hns:qy2 (C.sig ff) (c.args.toList.map ρ++qek caps)=true
  ·simp only[q3n,if_pos hns] at ht ⊢
   cases hsa:qdf S.rt (C.sig ff).params (c.args.toList.map ρ++qek caps) with
   | none=>rw[hsa] at ht;exact absurd ht Tot.fail
   | some z=>
    rw[hsa] at ht
    simp only at ht ⊢
    obtain ⟨g1,st1,_,same1,ha1⟩:=q1w dok st (sl:=S.sl) (C.sig ff).params _ _ S.rt g z ha st hsa
    rw[hcalled ff vs (hcalT ht) ev]
    refine (qblj dok (S:=⟨S.sl,z.2⟩) st1 (A:={ A with sh:=hint }) ⟨ok.men,ok.pl,ok.fr⟩ ha1 ht).mono ?_
    rintro e w' he
    cases e with
    | returned val=>
     obtain ⟨β,v,rt',h1,g2,h2,h3,h4,h5⟩:=he
     exact ⟨β,v,rt',h1,g2,h2,h3,same1.trans h4,by rw[←same1.2.1];exact h5⟩
    | _=>exact he
  ·simp only[q3n,if_neg hns] at ht ⊢
   rw[hcalled ff vs (hcalT ht) ev]
   exact qblj dok st (A:={ A with sh:=hint }) ⟨ok.men,ok.pl,ok.fr⟩ ha ht
 ·rename_i cl hv
  rw[hv] at hf
  simp only[qh] at hf
  obtain ⟨vs,ev,hcaps⟩:=hf
  by_cases hsc:(C.ty o.type).scalar=true
  ·simp only[hsc,if_true] at ht ⊢
   cases hx:qup S.rt (c.argTypes.toList.map C.ty) (c.args.toList.map ρ) with
   | none=>rw[hx] at ht;exact absurd ht Tot.fail
   | some xs=>
    rw[hx] at ht
    simp only at ht ⊢
    obtain ⟨⟨v,rt'⟩,hd⟩:=ht true
    have hd0:=hd
    simp only[Tr.dec,Option.bind_eq_some_iff,Option.some.injEq,Prod.mk.injEq] at hd
    obtain ⟨y,hy,rfl,rfl⟩:=hd
    have hcal:qma P cl.f:=by
     have:=hy
     simp only[qca,Option.bind_eq_some_iff] at this
     obtain ⟨aa,_,r,hD,_⟩:=this
     exact dok.call _ _ _ hD
    rw[hcalled cl.f vs hcal ev]
    have hxs:=qblc dok st _ _ _ _ (qbls hρ c.args.toList) hx
    refine (qbmi dok st hsc hy hxs hcaps).mono ?_
    rintro e w' ⟨val,rfl,hp⟩
    exact ⟨true,_,_,hd0,hp⟩
  ·rw[if_neg hsc] at ht;exact absurd ht Tot.fail
 ·exact absurd ht Tot.fail
theorem qbq3 {o:Oper} (ok:AOk A S o.dst site):Goal P C D S g w tmps a ρ A site hint o:=
 qbtz hty st hρ ok fun c f ho hc=>qbsw hty dok st hρ ho hc ok
end
end Go.V

namespace Go.V
noncomputable section
open Go
theorem qbkw {d:Nat}:∀ (l:List AV) (i:Nat),q52 d i l=true→∀ k,i+k≠d→(l.getD k .undef).roots.contains d=false
 | [],i,_,k,_=>by simp[List.getD,AV.roots]
 | v::l,i,h,k,hk=>by
  simp only[q52,Bool.and_eq_true,Bool.or_eq_true,Bool.not_eq_true',qbnf] at h
  cases k with
  | zero=>exact h.1.resolve_left (by simpa using hk)
  | succ k=>simpa [List.getD] using qbkw l (i+1) h.2 k (by omega)
theorem qbnb {d:Nat}:∀ (l:List AV) (i:Nat),qw0 d i l=true→∀ k,i+k≠d→(l.getD k .undef).noPl d=true
 | [],i,_,k,_=>by simp[List.getD,AV.noPl]
 | v::l,i,h,k,hk=>by
  simp only[qw0,Bool.and_eq_true,Bool.or_eq_true,qbnf] at h
  cases k with
  | zero=>exact h.1.resolve_left (by simpa using hk)
  | succ k=>simpa [List.getD] using qbnb l (i+1) h.2 k (by omega)
theorem qbd2 {s:Nat}:∀ (l:List AV),qtf s l=true→∀ k,(l.getD k .undef).stampsOk s (s+1)=true
 | [],_,k=>by simp[List.getD,AV.stampsOk]
 | v::l,h,k=>by
  simp only[qtf,Bool.and_eq_true] at h
  cases k with
  | zero=>exact h.1
  | succ k=>simpa [List.getD] using qbd2 l h.2 k
def St.blank (S:St):Option Nat→St
 | some d=>S.set d .undef
 | none=>S
theorem q3x (S:St) (d:Nat) (u:Nat):(S.blank (some d)).get u=if u=d then .undef else S.get u:=by
 simp only[St.blank,St.get_set]
 by_cases e:u=d
 ·subst e
  by_cases h:u<S.sl.length
  ·simp[h]
  ·simp only[h,and_false,if_false,if_true]
   simp only[St.get_eq,List.getD]
   rw[List.getElem?_eq_none (by omega)];rfl
 ·simp[e]
theorem qbsf (S:St) (d:Option Nat) (site:Nat):AOk (qdg S.sl d site) (S.blank d) d site where
 men:=by
  intro h d' hd u
  subst hd
  simp only[qdg] at h
  rw[q3x]
  split
  ·rfl
  ·rename_i hu;rw[St.get_eq];exact qbkw S.sl 0 h u (by omega)
 pl:=by
  intro h d' hd u
  subst hd
  simp only[qdg] at h
  rw[q3x]
  split
  ·rfl
  ·rename_i hu;rw[St.get_eq];exact qbnb S.sl 0 h u (by omega)
 fr:=by
  intro h
  simp only[qdg,Bool.and_eq_true,qfs] at h
  refine ⟨h.1,fun u=>?_⟩
  cases d with
  | none=>rw[St.get_eq];exact qbd2 S.sl h.2 u
  | some d=>
   rw[q3x]
   split
   ·rfl
   ·rw[St.get_eq];exact qbd2 S.sl h.2 u
theorem qbor {h:Array Obj} {S:St} {g:Ghost} (v:Value):qh h S g (qbaa v) v:=by
 unfold qbaa
 split
 ·simp only[qh,Rep];exact ⟨_,rfl,rfl⟩
 ·simp only[qh,Rep];exact ⟨_,rfl,rfl⟩
 ·simp only[qh,Rep];exact ⟨_,rfl,rfl⟩
 ·simp only[qh]
 ·simp only[qh]
theorem qbs5 {h:Array Obj} {S:St} {g:Ghost} {a:AV} {v:Value} (x:qh h S g a v):qh h S g a.flat v:=by
 cases a with
 | litB b=>simp only[qh] at x;subst x;simp only[AV.flat,qh,Rep];exact ⟨_,rfl,rfl⟩
 | _=>exact x
theorem qbr4 {h:Array Obj} {S:St} {g:Ghost} {a:Act} {H:BS} (st:StRel h S g a.tmps H) (x:Operand):qh h S g (ev S x) (a.eval x):=by
 cases x with
 | tmp t=>exact qbs5 (st.slots t)
 | const v=>exact qbor v
 | func f=>simp only[ev,qh,Act.eval];exact ⟨[],rfl,by simp only[TupRel]⟩
 | global n=>simp only[ev,qh]
def qyb:List AV→List Nat→List AV
 | sl,[]=>sl
 | sl,t::ts=>qyb (sl.set t .undef) ts
theorem qy1:∀ (ts:List Nat) (S:St),S.forget ts=⟨qyb S.sl ts,S.rt⟩
 | [],_=>rfl
 | t::ts,S=>by simp only[St.forget,qyb];rw[qy1 ts,St.set_eq]
theorem qbci (d:Nat) (x v:AV):∀ (ts:List Nat) (sl:List AV),(qyb (sl.set d x) ts).set d v=(qyb sl ts).set d v
 | [],sl=>by simp[qyb]
 | t::ts,sl=>by
  simp only[qyb]
  by_cases e:d=t
  ·subst e;rw[List.set_set]
  ·rw[List.set_comm _ _ e]
   exact qbci d x v ts _
theorem StRel.forgetAll {h:Array Obj} {g:Ghost} {tmps:Array Value} {H:BS}:∀ (ts:List Nat) {S:St},StRel h S g tmps H→StRel h (S.forget ts) g tmps H
 | [],_,st=>st
 | t::ts,_,st=>StRel.forgetAll ts (st.forget t)
section
variable (C:Ctx) (D:Den C)
def qfr (ops:Array Oper) (S:St) (o:Oper):Option Bool:=
 match o.guard with
 | none=>some true
 | some (j,b)=>
  match S.get (qej ops j) with
  | .skip=>some false
  | .litB c=>some (c == b)
  | .val .bool c=>some (c == b)
  | _=>none
noncomputable def qcd (hints:Hints) (id:Nat) (ops:Array Oper) (β:Bool) (S:St) (i:Nat) (o:Oper):Option (St×Ent):=
 match qfr ops S o with
 | some true=>((opAt C D S (id * 256+i+1) (hints.share.contains (id,i)) o).dec β).map fun x=>(fin ops ⟨S.sl,x.2⟩ i o x.1,qgo C ops S (id * 256+i+1) i o x.1 x.2)
 | some false=>some (fin ops S i o .skip,qeq ops S (id * 256+i+1) i o)
 | none=>none
end
def qrm (np:List Nat) (a a':Act):Prop:=∀ t,t∈np→a'.tmps.getD t Go.undef=a.tmps.getD t Go.undef
theorem qrm.refl (np:List Nat) (a:Act):qrm np a a:=fun _ _=>rfl
theorem qrm.trans {np:List Nat} {a b c:Act} (h:qrm np a b) (k:qrm np b c):qrm np a c:=fun t ht=>(k t ht).trans (h t ht)
theorem qrm.put {np:List Nat} {a:Act} {d:Option Nat} {v:Value} (h:∀ d',d=some d'→d'∉np):qrm np a (a.put d v):=by
 intro t ht
 cases d with
 | none=>rfl
 | some d=>
  have:=h d rfl
  simp only[Act.put,Array.getD_eq_getD_getElem?,Array.getElem?_setIfInBounds]
  rw[if_neg (by rintro rfl;exact this ht)]
section
variable {P:Program} {C:Ctx} {D:Den C} {S:St} {g:Ghost} {w:World} {a:Act} {np:List Nat}
variable (hty:qck P C) (dok:DOk P C D) (st:StRel w.heap S g a.tmps Nil)
include hty dok st
theorem qbpt {ops:Array Oper} {i:Nat} {o:Oper} {rt':Rts} {g':Ghost} {h':Array Obj} {v:AV} {val:Value} (st':StRel h' ⟨(S.blank o.dst).sl,rt'⟩ g' a.tmps Nil)
  (x:qh h' ⟨(S.blank o.dst).sl,rt'⟩ g' v val):StRel h' (fin ops ⟨S.sl,rt'⟩ i o v) g' (a.put o.dst val).tmps Nil:=by
 have s1:=StRel.forgetAll (qf1 ops i o) st'
 have e1:=qy1 (qf1 ops i o) (⟨(S.blank o.dst).sl,rt'⟩:St)
 unfold fin q5s
 cases hd:o.dst with
 | none=>
  rw[hd] at s1
  simp only[Act.put]
  exact s1
 | some d=>
  rw[hd] at s1 x e1
  have x1:qh h' ((⟨(S.blank (some d)).sl,rt'⟩:St).forget (qf1 ops i o)) g' v val:=by
   have st'':=st'
   rw[hd] at st''
   exact qh.sameRoots st'' (by rw[e1]) x
  have s2:=s1.setSlot d x1
  simp only[Act.put]
  have e2:(((⟨(S.blank (some d)).sl,rt'⟩:St).forget (qf1 ops i o)).set d v)=(((⟨S.sl,rt'⟩:St).forget (qf1 ops i o)).set d v):=by
   rw[qy1,qy1]
   simp only[St.set_eq,St.blank,St.mk.injEq,and_true]
   exact qbci d _ _ _ _
  rw[e2] at s2
  exact s2
theorem qbqo {ops:Array Oper} {o:Oper} {b:Bool} (hj:∀ j c,o.guard=some (j,c)→∃ oj t,ops[j]? = some oj∧oj.dst=some t) (hg:qfr ops S o=some b):Region.wanted o (yielded ops a.tmps)=b:=by
 unfold qfr at hg
 unfold Region.wanted
 cases hgd:o.guard with
 | none=>rw[hgd] at hg;simp only[Option.some.injEq] at hg;exact hg
 | some jc=>
  obtain ⟨j,c⟩:=jc
  rw[hgd] at hg
  obtain ⟨oj,t,h1,h2⟩:=hj j c hgd
  have hd:qej ops j=t:=by simp[qej,h1,h2]
  have hs:=st.slots t
  simp only at hg ⊢
  rw[hd] at hg
  have hy:yielded ops a.tmps j=match a.tmps.getD t Go.undef with | .bool b=>some b | _=>none:=by
   simp only[yielded,h1,h2,Option.bind_some,Array.getD_eq_getD_getElem?]
   cases hq:a.tmps[t]? with
   | none=>simp[Go.undef]
   | some q=>cases q<;>simp
  rw[hy]
  cases hS:S.get t with
  | skip=>rw[hS] at hg hs;simp only[qh] at hs;simp only[Option.some.injEq] at hg;subst hg;rw[hs];rfl
  | litB q=>rw[hS] at hg hs;simp only[qh] at hs;simp only[Option.some.injEq] at hg;subst hg;rw[hs];cases q<;>cases c<;>rfl
  | val t x=>
   rw[hS] at hg hs
   cases t with
   | bool=>simp only[Option.some.injEq] at hg;subst hg;rw[q6j hs];cases x<;>cases c<;>rfl
   | _=>simp at hg
  | _=>rw[hS] at hg;simp at hg
theorem qbnp {Q:Exit→Act→World→Prop} {hints:Hints} {id:Nat} {ops:Array Oper} {i:Nat} {o:Oper} (hi:ops[i]? = some o) (hj:∀ j c,o.guard=some (j,c)→∃ oj t,ops[j]? = some oj∧oj.dst=some t)
  (hdf:a.defers=[]) (hnp:∀ d,o.dst=some d→d∉np) (ht:∀ β,∃ x,qcd C D hints id ops β S i o=some x) {K:Act→World→Prop}
  (hK:∀ β S' e a' w' g',qcd C D hints id ops β S i o=some (S',e)→StRel w'.heap S' g' a'.tmps Nil→g'.Same g→WFr g.L w w'→a'.defers=[]→qrm np a a'→K a' w'):wpOp P ops Q i K a w:=by
 obtain ⟨x0,hx0⟩:=ht true
 unfold wpOp
 simp only[hi]
 cases hg:qfr ops S o with
 | none=>unfold qcd at hx0;rw[hg] at hx0;simp at hx0
 | some b=>
  rw[qbqo hty dok st hj hg]
  cases b with
  | false=>
   simp only[Bool.false_eq_true,if_false]
   have hst:qcd C D hints id ops true S i o=some (fin ops S i o .skip,qeq ops S (id * 256+i+1) i o):=by unfold qcd;rw[hg]
   refine hK true _ _ (a.put o.dst Go.undef) w g hst ?_ (.refl g) (.refl _ _) ?_ (.put hnp)
   ·have s0:StRel w.heap ⟨(S.blank o.dst).sl,S.rt⟩ g a.tmps Nil:=by
     cases hd:o.dst with
     | none=>exact st
     | some d=>exact st.forget d
    exact qbpt hty dok st s0 (by simp only[qh])
   ·cases o.dst<;>exact hdf
  | true=>
   simp only[if_true]
   refine .inl ?_
   have s0:StRel w.heap (S.blank o.dst) g a.tmps Nil:=by
    cases hd:o.dst with
    | none=>exact st
    | some d=>exact st.forget d
   have hrt:(S.blank o.dst).rt=S.rt:=by cases o.dst<;>rfl
   have hρ:∀ x,qh w.heap (S.blank o.dst) g (ev S x) (a.eval x):=fun x=>qh.sameRoots st hrt (qbr4 st x)
   have hstep:∀ β,qcd C D hints id ops β S i o=((opAt C D S (id * 256+i+1) (hints.share.contains (id,i)) o).dec β).map fun x=>(fin ops ⟨S.sl,x.2⟩ i o x.1,qgo C ops S (id * 256+i+1) i o x.1 x.2):=by
    intro β;unfold qcd;rw[hg]
   have htot:Tot (opT C D (qdg S.sl o.dst (id * 256+i+1)) (ev S) (S.blank o.dst).rt (id * 256+i+1) (hints.share.contains (id,i)) o):=by
    intro β
    obtain ⟨x,hx⟩:=ht β
    rw[hstep] at hx
    simp only[Option.map_eq_some_iff] at hx
    obtain ⟨y,hy,_⟩:=hx
    rw[hrt]
    exact ⟨y,hy⟩
   have hres:=qbq3 hty dok s0 hρ (qbsf S o.dst (id * 256+i+1)) htot
   have hout:∀ val w',Outs (S.blank o.dst) g w a.tmps (opT C D (qdg S.sl o.dst (id * 256+i+1)) (ev S) (S.blank o.dst).rt (id * 256+i+1) (hints.share.contains (id,i)) o) val w'→K (a.put o.dst val) w':=by
    rintro val w' ⟨β,v,rt',hd,g',p1,p2,p3,p4⟩
    rw[hrt] at hd
    refine hK β (fin ops ⟨S.sl,rt'⟩ i o v) _ _ w' g' (by rw[hstep];unfold opAt;rw[hd];rfl) (qbpt hty dok st p1 p2) p3 p4 ?_ (.put hnp)
    cases o.dst<;>exact hdf
   unfold Oper.wp
   revert hres
   generalize (execOp a.eval o).run P w=r
   intro hres
   unfold Res at hres
   split at hres
   ·exact hout _ _ hres
   ·exact hout _ _ hres
   ·refine Calls.mono hres ?_
    rintro e w'' he
    cases e with
    | returned val=>exact hout _ _ he
    | panicked _=>exact he.elim
    | outgrown=>exact he.elim
   ·exact hres.elim
end
end
end Go.V

namespace Go.V
open Go
section
variable (C:Ctx) (D:Den C)
noncomputable def runD (hints:Hints) (id:Nat) (ops:Array Oper):List Bool→List (Nat×Oper)→St→Option (St×Log)
 | _,[],S=>some (S,[])
 | βs,(i,o)::l,S=>(qcd C D hints id ops (βs.headD true) S i o).bind fun x=>(runD hints id ops βs.tail l x.1).map fun y=>(y.1,x.2::y.2)
end
structure Sim (S T:St):Prop where
 rt:T.rt=S.rt
 len:T.sl.length=S.sl.length
 get:∀ t,T.get t=S.get t∨∃ b,S.get t=.litB b∧T.get t=.val .bool b
theorem Sim.refl (S:St):Sim S S:=⟨rfl,rfl,fun _=>.inl rfl⟩
theorem Sim.flat {S T:St} (h:Sim S T) (t:Nat):(T.get t).flat=(S.get t).flat:=by
 rcases h.get t with e | ⟨b,e1,e2⟩
 ·rw[e]
 ·rw[e1,e2];rfl
theorem Sim.ev {S T:St} (h:Sim S T):ev T=ev S:=by
 funext x
 cases x with
 | tmp t=>exact h.flat t
 | _=>rfl
theorem Sim.roots {S T:St} (h:Sim S T) (t:Nat):(T.get t).roots=(S.get t).roots:=by
 rcases h.get t with e | ⟨b,e1,e2⟩
 ·rw[e]
 ·rw[e1,e2];rfl
theorem Sim.stamps {S T:St} (h:Sim S T) (t:Nat):(T.get t).stamps=(S.get t).stamps:=by
 rcases h.get t with e | ⟨b,e1,e2⟩
 ·rw[e]
 ·rw[e1,e2];rfl
theorem qbcg (s:Nat):∀ (l l2:List AV),l2.length=l.length→(∀ k,(l2.getD k .undef).stampsOk s (s+1)=(l.getD k .undef).stampsOk s (s+1))→qtf s l2=qtf s l
 | [],[],_,_=>rfl
 | [],_::_,h,_=>by simp at h
 | _::_,[],h,_=>by simp at h
 | v::l,u::l2,h,hk=>by
  have h0:=hk 0
  simp only[List.getD_cons_zero] at h0
  simp only[qtf]
  rw[h0,qbcg s l l2 (by simpa using h) (fun k=>by have:=hk (k+1);simpa [List.getD] using this)]
theorem qbnl {sl sl2:List AV} (d:Option Nat) (s:Nat) (hl:sl2.length=sl.length) (hr:∀ d',d=some d'→∀ k,k≠d'→(sl2.getD k .undef).roots.contains d'=(sl.getD k .undef).roots.contains d')
  (hp:∀ d',d=some d'→∀ k,k≠d'→(sl2.getD k .undef).noPl d'=(sl.getD k .undef).noPl d') (hs:∀ k,(sl2.getD k .undef).stampsOk s (s+1)=(sl.getD k .undef).stampsOk s (s+1)):qdg sl2 d s=qdg sl d s:=by
 have hf:=qbcg s sl sl2 hl hs
 cases d with
 | none=>simp only[qdg,hf]
 | some d=>
  have hm:∀ (l l2:List AV) (i:Nat),l2.length=l.length→(∀ k,i+k≠d→(l2.getD k .undef).roots.contains d=(l.getD k .undef).roots.contains d)→q52 d i l2=q52 d i l:=by
   intro l
   induction l with
   | nil=>intro l2 i h _;cases l2 with
    | nil=>rfl
    | cons _ _=>simp at h
   | cons v l ih=>
    intro l2 i h hk
    cases l2 with
    | nil=>simp at h
    | cons u l2=>
     simp only[q52]
     rw[ih l2 (i+1) (by simpa using h) (fun k hkd=>by have:=hk (k+1) (by omega);simpa [List.getD] using this)]
     by_cases e:i=d
     ·subst e;simp
     ·have:=hk 0 (by omega)
      simp only[List.getD_cons_zero] at this
      rw[this]
  have hpl:∀ (l l2:List AV) (i:Nat),l2.length=l.length→(∀ k,i+k≠d→(l2.getD k .undef).noPl d=(l.getD k .undef).noPl d)→qw0 d i l2=qw0 d i l:=by
   intro l
   induction l with
   | nil=>intro l2 i h _;cases l2 with
    | nil=>rfl
    | cons _ _=>simp at h
   | cons v l ih=>
    intro l2 i h hk
    cases l2 with
    | nil=>simp at h
    | cons u l2=>
     simp only[qw0]
     rw[ih l2 (i+1) (by simpa using h) (fun k hkd=>by have:=hk (k+1) (by omega);simpa [List.getD] using this)]
     by_cases e:i=d
     ·subst e;simp
     ·have:=hk 0 (by omega)
      simp only[List.getD_cons_zero] at this
      rw[this]
  simp only[qdg,hf]
  rw[hm sl sl2 0 hl (fun k h=>hr d rfl k (by omega)),hpl sl sl2 0 hl (fun k h=>hp d rfl k (by omega))]
theorem Sim.asks {S T:St} (h:Sim S T) (d:Option Nat) (s:Nat):qdg T.sl d s=qdg S.sl d s:=by
 refine qbnl d s h.len (fun d' _ k _=>?_) (fun d' _ k _=>?_) (fun k=>?_)
 ·have:=h.roots k;simp only[St.get_eq] at this;rw[this]
 ·rcases h.get k with e | ⟨b,e1,e2⟩
  ·simp only[St.get_eq] at e;rw[e]
  ·simp only[St.get_eq] at e1 e2;rw[e1,e2];rfl
 ·rcases h.get k with e | ⟨b,e1,e2⟩
  ·simp only[St.get_eq] at e;rw[e]
  ·simp only[St.get_eq] at e1 e2;rw[e1,e2];rfl
theorem Sim.set {S T:St} (h:Sim S T) (t:Nat) (v:AV):Sim (S.set t v) (T.set t v) where
 rt:=h.rt
 len:=by simp[St.set_eq,h.len]
 get:=by
  intro u
  rw[St.get_set,St.get_set,h.len]
  by_cases e:u=t∧t<S.sl.length
  ·rw[if_pos e,if_pos e];exact .inl rfl
  ·rw[if_neg e,if_neg e];exact h.get u
theorem Sim.forget {S T:St} (h:Sim S T):∀ ts:List Nat,Sim (S.forget ts) (T.forget ts):=by
 intro ts
 induction ts generalizing S T with
 | nil=>exact h
 | cons t ts ih=>exact ih (h.set t .undef)
theorem Sim.withRt {S T:St} (h:Sim S T) (rt:Rts):Sim ⟨S.sl,rt⟩ ⟨T.sl,rt⟩:=⟨rfl,h.len,h.get⟩
theorem Sim.fin {S T:St} (h:Sim S T) (ops:Array Oper) (i:Nat) (o:Oper) (v:AV):Sim (fin ops S i o v) (fin ops T i o v):=by
 unfold V.fin q5s
 cases o.dst with
 | none=>exact h.forget _
 | some d=>exact (h.forget _).set d v
theorem Sim.rootsAt {S T:St} (h:Sim S T):∀ ts,rootsAt T ts=rootsAt S ts
 | []=>rfl
 | t::ts=>by simp only[V.rootsAt];rw[h.roots,Sim.rootsAt h ts]
theorem Sim.stampsAt {S T:St} (h:Sim S T):∀ ts,stampsAt T ts=stampsAt S ts
 | []=>rfl
 | t::ts=>by simp only[V.stampsAt];rw[h.stamps,Sim.stampsAt h ts]
section
variable {C:Ctx} {D:Den C}
theorem Sim.opAt {S T:St} (h:Sim S T) (site:Nat) (hint:Bool) (o:Oper):opAt C D T site hint o=opAt C D S site hint o:=by
 unfold V.opAt;rw[h.asks,h.ev,h.rt]
theorem Sim.ent {S T:St} (h:Sim S T) (ops:Array Oper) (site i:Nat) (o:Oper) (v:AV) (rt':Rts):qgo C ops T site i o v rt'=qgo C ops S site i o v rt':=by
 unfold qgo q5o;rw[h.ev,h.rootsAt,h.stampsAt,h.rt]
theorem Sim.skip {S T:St} (h:Sim S T) (ops:Array Oper) (site i:Nat) (o:Oper):qeq ops T site i o=qeq ops S site i o:=by
 unfold qeq;rw[h.rootsAt,h.stampsAt]
theorem qbm7 {hints:Hints} {id:Nat} {ops:Array Oper} {S T:St} (h:Sim S T) {i:Nat} {o:Oper} {β:Bool} (hg:qfr ops T o=some true) {x:AV×Rts}
  (hd:(opAt C D S (id * 256+i+1) (hints.share.contains (id,i)) o).dec β=some x) :
  qcd C D hints id ops β T i o=some (fin ops ⟨T.sl,x.2⟩ i o x.1,qgo C ops S (id * 256+i+1) i o x.1 x.2)∧Sim (fin ops ⟨S.sl,x.2⟩ i o x.1) (fin ops ⟨T.sl,x.2⟩ i o x.1):=by
 refine ⟨?_,(h.withRt x.2).fin ops i o x.1⟩
 unfold qcd
 rw[hg,h.opAt,hd,←h.ent]
 rfl
theorem qbih {hints:Hints} {id:Nat} {ops:Array Oper} {S T:St} (h:Sim S T) {i:Nat} {o:Oper} {β:Bool} (hg:qfr ops T o=some false) :
  qcd C D hints id ops β T i o=some (fin ops T i o .skip,qeq ops S (id * 256+i+1) i o)∧Sim (fin ops S i o .skip) (fin ops T i o .skip):=by
 refine ⟨?_,h.fin ops i o .skip⟩
 unfold qcd
 rw[hg,←h.skip]
end
section
variable {P:Program} {C:Ctx} {D:Den C} (hty:qck P C) (dok:DOk P C D)
include hty dok
theorem qbo1 {np:List Nat} {Q:Exit→Act→World→Prop} {hints:Hints} {id:Nat} {ops:Array Oper} (hj:∀ (i:Nat) o j c,ops[i]? = some o→o.guard=some (j,c)→∃ oj t,ops[j]? = some oj∧oj.dst=some t) :
  ∀ (l:List (Nat×Oper)) (S:St) (g:Ghost) (a:Act) (w:World),(∀ x∈l,ops[x.1]? = some x.2)→(∀ x∈l,∀ d,x.2.dst=some d→d∉np)→StRel w.heap S g a.tmps Nil→a.defers=[]→(∀ βs,∃ x,runD C D hints id ops βs l S=some x)→
   (∀ βs S' lg a' w' g',runD C D hints id ops βs l S=some (S',lg)→StRel w'.heap S' g' a'.tmps Nil→g'.Same g→WFr g.L w w'→a'.defers=[]→qrm np a a'→Q .normal a' w')→wpOps P ops Q (l.map (·.1)) a w
 | [],S,g,a,w,hl,hnp,st,hdf,ht,hQ=>by
  simp only[List.map_nil,wpOps]
  exact hQ [] S [] a w g rfl st (.refl g) (.refl _ _) hdf (.refl _ _)
 | (i,o)::l,S,g,a,w,hl,hnp,st,hdf,ht,hQ=>by
  simp only[List.map_cons]
  rw[wpOps_cons]
  have hi:=hl (i,o) List.mem_cons_self
  refine qbnp hty dok st (hints:=hints) (id:=id) hi (fun j c=>hj i o j c hi) hdf (hnp (i,o) List.mem_cons_self) (fun β=>?_) ?_
  ·obtain ⟨x,hx⟩:=ht [β]
   simp only[runD,List.headD_cons,Option.bind_eq_some_iff] at hx
   obtain ⟨y,hy,_⟩:=hx
   exact ⟨y,hy⟩
  ·intro β S' e a' w' g' hs st' hsm hfr hdf' hfx
   refine qbo1 (hints:=hints) (id:=id) hj l S' g' a' w' (fun x hx=>hl x (List.mem_cons_of_mem _ hx)) (fun x hx=>hnp x (List.mem_cons_of_mem _ hx)) st' hdf' (fun βs=>?_) ?_
   ·obtain ⟨x,hx⟩:=ht (β::βs)
    simp only[runD,List.headD_cons,List.tail_cons,Option.bind_eq_some_iff] at hx
    obtain ⟨y,hy,hx⟩:=hx
    rw[hs] at hy
    simp only[Option.some.injEq] at hy
    subst hy
    simp only[Option.map_eq_some_iff] at hx
    obtain ⟨z,hz,_⟩:=hx
    exact ⟨z,hz⟩
   ·intro βs S'' lg a'' w'' g'' hr st'' hsm' hfr' hdf'' hfx'
    refine hQ (β::βs) S'' (e::lg) a'' w'' g'' ?_ st'' (hsm.trans hsm') (hfr.trans (by rw[hsm.2.1] at hfr';exact hfr')) hdf'' (hfx.trans hfx')
    simp only[runD,List.headD_cons,List.tail_cons,hs,Option.bind_some,hr,Option.map_some]
end
end Go.V

namespace Go.V
noncomputable section
open Go
section
variable {C:Ctx} {D:Den C}
theorem qbj1 {α:Type} {x:Option α} {f:α→AV} {S:Rts} {β:Bool} {v:AV} {rt':Rts} (h:(Tr.of (x.map fun v=>(f v,S))).dec β=some (v,rt')):rt'=S:=by
 cases x with
 | none=>simp[Tr.of,Tr.dec] at h
 | some y=>simp only[Option.map_some,Tr.of,Tr.dec,Option.some.injEq,Prod.mk.injEq] at h;exact h.2.symm
theorem qbqy {A:Asks} {ρ:Operand→AV} {S:Rts} {site:Nat} {hint:Bool} {o:Oper} (hT:qfo o=true) {β:Bool} {v:AV} {rt':Rts} (h:(opT C D A ρ S site hint o).dec β=some (v,rt')):rt'=S:=by
 cases ho:o.op with
 | move x=>simp only[opT,ho,Tr.dec,Option.some.injEq,Prod.mk.injEq] at h;exact h.2.symm
 | pick c a b=>
  simp only[opT,ho] at h
  split at h
  ·rename_i c' _;cases c'<;>(simp only[Tr.dec,Option.some.injEq,Prod.mk.injEq] at h;exact h.2.symm)
  ·simp[Tr.dec] at h
 | unOp op t x=>
  simp only[opT,ho] at h
  split at h
  ·simp only[Tr.dec,Option.some.injEq,Prod.mk.injEq] at h;exact h.2.symm
  ·simp only[Tr.dec,Option.some.injEq,Prod.mk.injEq] at h;exact h.2.symm
  ·simp[Tr.dec] at h
 | fieldAddr t x f=>simp only[opT,ho] at h;exact qbj1 (f:=fun v=>v) h
 | field t x f=>
  simp only[opT,ho] at h
  split at h
  ·split at h
   ·split at h
    ·simp only[Tr.dec,Option.some.injEq,Prod.mk.injEq] at h;exact h.2.symm
    ·simp[Tr.dec] at h
   ·simp[Tr.dec] at h
  ·simp[Tr.dec] at h
 | load t x=>
  simp only[opT,ho] at h
  split at h
  ·exact qbj1 (f:=fun v=>v) h
  ·simp[Tr.dec] at h
 | extract x i=>simp only[opT,ho] at h;exact qbj1 (f:=fun v=>v) h
 | binOp op t x y t2=>
  simp only[opT,ho] at h
  split at h
  ·split at h
   ·simp only[Tr.dec,Option.some.injEq,Prod.mk.injEq] at h;exact h.2.symm
   ·simp only[Tr.dec,Option.some.injEq,Prod.mk.injEq] at h;exact h.2.symm
   ·simp[Tr.dec] at h
  ·exact (qbik (T:=binT (C.ty t) op (ρ x) (ρ y)) (S:=S) (β:=β) (v:=v) (rt:=rt') (by unfold qbj2;exact h)).2
 | call c=>
  cases hc:c.callee with
  | builtin b=>
   cases b with
   | len=>
    simp only[opT,ho,hc] at h
    split at h<;>first
     | (simp only[Tr.dec,Option.some.injEq,Prod.mk.injEq] at h;exact h.2.symm)
     | exact qbj1 (f:=fun n=>AV.val (Ty.int IntKind.i64) n) h
     | (exfalso;contradiction)
     | (exfalso;revert h;simp only[Tr.dec];intro h;contradiction)
   | _=>simp[qfo,ho,hc] at hT
  | _=>simp[qfo,ho,hc] at hT
 | _=>simp[qfo,ho] at hT
theorem qbol {A:Asks} {ρ:Operand→AV} {S:Rts} {site:Nat} {h1 h2:Bool} {o:Oper} (hT:qfo o=true):opT C D A ρ S site h1 o=opT C D A ρ S site h2 o:=by
  cases ho:o.op with
  | call c=>
    cases hc:c.callee with
    | builtin b=>
      cases b with
      | len=>
        simp only[opT,ho,hc]
        generalize List.map ρ c.args.toList=l1
        generalize List.map C.ty c.argTypes.toList=l2
        rcases l1 with _ | ⟨x,_ | ⟨y,l⟩⟩
        · rfl
        · rcases l2 with _ | ⟨t,l2⟩
          · cases x with
            | val ty s=>cases ty<;>rfl
            | _=>rfl
          · cases x with
            | val ty s=>cases ty<;>cases t<;>rfl
            | _=>cases t<;>rfl
        · rcases l with _ | ⟨z,l⟩<;>rcases l2 with _ | ⟨t,_ | ⟨t',l2⟩⟩<;>first
            | rfl
            | (cases t<;>first | rfl | (cases t'<;>rfl))
            | (cases x with
               | val ty s=>cases ty<;>first | rfl | (cases t<;>first | rfl | (cases t'<;>rfl))
               | _=>first | rfl | (cases t<;>first | rfl | (cases t'<;>rfl)))
      | _=>simp[qfo,ho,hc] at hT
    | _=>simp[qfo,ho,hc] at hT
  | _=>first | (simp[qfo,ho] at hT;done) | simp only[opT,ho]
theorem q6z:∀ (ts:List Nat) (S:St) (u:Nat),(S.forget ts).get u=if u∈ts then .undef else S.get u
 | [],S,u=>by simp[St.forget]
 | t::ts,S,u=>by
  simp only[St.forget,q6z ts,List.mem_cons]
  have:=q3x S t u
  simp only[St.blank] at this
  rw[this]
  by_cases h1:u∈ts
  ·simp[h1]
  ·by_cases h2:u=t<;>simp[h1,h2]
theorem q53 (ts:List Nat) (S:St):(S.forget ts).sl.length=S.sl.length:=by
 induction ts generalizing S with
 | nil=>rfl
 | cons t ts ih=>simp only[St.forget];rw[ih];simp[St.set_eq]
theorem qbio (ts:List Nat) (S:St):(S.forget ts).rt=S.rt:=by rw[qy1]
theorem qoz (ops:Array Oper) (S:St) (i:Nat) (o:Oper) (v:AV) (u:Nat) :
  (fin ops S i o v).get u=if o.dst=some u∧u<S.sl.length then v else if u∈qf1 ops i o then .undef else S.get u:=by
 unfold fin q5s
 cases hd:o.dst with
 | none=>simp[q6z]
 | some d=>
  rw[St.get_set,q6z,q53]
  by_cases e:u=d
  ·subst e;simp
  ·have:¬ d=u:=fun h=>e h.symm
   simp[e,this]
theorem qge (ops:Array Oper) (S:St) (i:Nat) (o:Oper) (v:AV):(fin ops S i o v).rt=S.rt:=by
 unfold fin q5s
 cases o.dst with
 | none=>exact qbio _ _
 | some d=>exact qbio _ _
theorem q1k (ops:Array Oper) (S:St) (i:Nat) (o:Oper) (v:AV):(fin ops S i o v).sl.length=S.sl.length:=by
 unfold fin q5s
 cases o.dst with
 | none=>exact q53 _ _
 | some d=>simp only[St.set_eq,List.length_set];exact q53 _ _
theorem q37 {hints:Hints} {id:Nat} {ops:Array Oper} {β:Bool} {S S':St} {i:Nat} {o:Oper} {e:Ent} (h:qcd C D hints id ops β S i o=some (S',e)) {u:Nat} (hu:u∉qcr ops i o) :
  S'.get u=S.get u∧S'.sl.length=S.sl.length∧(qfo o=true→S'.rt=S.rt):=by
 have hn:¬ (o.dst=some u):=fun h=>hu (by simp[qcr,h])
 have hn2:u∉qf1 ops i o:=fun h=>hu (by simp[qcr,h])
 unfold qcd at h
 split at h
 ·simp only[Option.map_eq_some_iff,Prod.mk.injEq] at h
  obtain ⟨x,hx,rfl,_⟩:=h
  refine ⟨?_,?_,fun ht=>?_⟩
  ·rw[qoz,if_neg (fun h=>hn h.1),if_neg hn2];rfl
  ·rw[q1k]
  ·rw[qge];exact qbqy ht hx
 ·simp only[Option.some.injEq,Prod.mk.injEq] at h
  obtain ⟨rfl,_⟩:=h
  refine ⟨?_,?_,fun ht=>?_⟩
  ·rw[qoz,if_neg (fun h=>hn h.1),if_neg hn2]
  ·rw[q1k]
  ·rw[qge]
 ·simp at h
theorem qbej {hints:Hints} {id:Nat} {ops:Array Oper} {Dd:List Nat}:∀ (l:List (Nat×Oper)) (βs:List Bool) (S S':St) (lg:Log),runD C D hints id ops βs l S=some (S',lg)→
  (∀ x∈l,qfo x.2=true∧∀ u∈qcr ops x.1 x.2,u∈Dd)→(∀ u,u∉Dd→S'.get u=S.get u)∧S'.rt=S.rt∧S'.sl.length=S.sl.length
 | [],βs,S,S',lg,h,_=>by
  simp only[runD,Option.some.injEq,Prod.mk.injEq] at h
  obtain ⟨rfl,_⟩:=h
  exact ⟨fun _ _=>rfl,rfl,rfl⟩
 | (i,o)::l,βs,S,S',lg,h,hl=>by
  simp only[runD,Option.bind_eq_some_iff,Option.map_eq_some_iff,Prod.mk.injEq] at h
  obtain ⟨⟨S1,e⟩,hs,⟨S2,lg2⟩,hr,rfl,_⟩:=h
  obtain ⟨ht,ho⟩:=hl (i,o) List.mem_cons_self
  obtain ⟨k1,k2,k3⟩:=qbej l βs.tail S1 S2 lg2 hr (fun x hx=>hl x (List.mem_cons_of_mem _ hx))
  have hex:∃ u,u∉qcr ops i o:=by
   refine ⟨(qcr ops i o).foldr max 0+1,fun h=>?_⟩
   have:∀ (l:List Nat) (u:Nat),u∈l→u≤l.foldr max 0:=by
    intro l
    induction l with
    | nil=>intro u h;simp at h
    | cons a l ih=>
     intro u h
     simp only[List.foldr_cons]
     rcases List.mem_cons.1 h with rfl | h
     ·exact Nat.le_max_left _ _
     ·exact Nat.le_trans (ih u h) (Nat.le_max_right _ _)
   have:=this _ _ h
   omega
  obtain ⟨u0,hu0⟩:=hex
  obtain ⟨_,f2,f3⟩:=q37 hs hu0
  exact ⟨fun u hu=>(k1 u hu).trans (q37 hs (fun h=>hu (ho u h))).1,k2.trans (f3 ht),k3.trans f2⟩
theorem q36 {hints:Hints} {id:Nat} {ops:Array Oper}:∀ (l1 l2:List (Nat×Oper)) (βs:List Bool) (S:St),
  runD C D hints id ops βs (l1++l2) S=(runD C D hints id ops βs l1 S).bind fun x=>(runD C D hints id ops (βs.drop l1.length) l2 x.1).map fun y=>(y.1,x.2++y.2)
 | [],l2,βs,S=>by simp[runD]
 | (i,o)::l1,l2,βs,S=>by
  simp only[List.cons_append,runD]
  cases hs:qcd C D hints id ops (βs.headD true) S i o with
  | none=>simp
  | some x=>
   simp only[Option.bind_some]
   rw[q36 l1 l2 βs.tail x.1]
   cases hr:runD C D hints id ops βs.tail l1 x.1 with
   | none=>simp
   | some y=>
    simp only[Option.bind_some,Option.map_some,List.length_cons]
    have:βs.tail.drop l1.length=βs.drop (l1.length+1):=by cases βs<;>simp
    rw[this]
    cases runD C D hints id ops (βs.drop (l1.length+1)) l2 y.1<;>simp
theorem qbsb {S:St} {x:Operand} {b:Bool} (h:V.asBool (ev S x)=some b):ev S x=.val .bool b:=by
 cases x with
 | tmp t=>
  simp only[ev] at h ⊢
  cases hS:S.get t with
  | val t y=>rw[hS] at h;cases t<;>simp[AV.flat,V.asBool] at h;subst h;rfl
  | litB c=>rw[hS] at h;simp[AV.flat,V.asBool] at h;subst h;rfl
  | _=>rw[hS] at h;simp[AV.flat,V.asBool] at h
 | const v=>
  simp only[ev] at h ⊢
  unfold qbaa at h ⊢
  split at h<;>simp[V.asBool] at h
  subst h;rfl
 | _=>simp[ev,V.asBool] at h
def qbry (C:Ctx) (D:Den C) (hints:Hints) (id:Nat) (ops:Array Oper) (rec_:List (Nat×Oper)→St→Log→Option (St×Log)):Prop:=
 ∀ l S lg S1 lg1,rec_ l S lg=some (S1,lg1)→(∀ x∈l,qfo x.2=true)→∀ T,Sim S T→∀ βs,∃ T1 lgT,runD C D hints id ops βs l T=some (T1,lgT)∧Sim S1 T1∧(∀ e∈lgT,e∈lg1)∧(∀ e∈lg,e∈lg1)
theorem qbkl {t:Nat}:∀ (l:List (Nat×Oper)) {seg:List (Nat×Oper)} {x:Nat×Oper} {rest:List (Nat×Oper)},qyu t l=some (seg,x,rest)→l=seg++x::rest∧qbj6 t x.2=true
 | [],_,_,_,h=>by simp[qyu] at h
 | y::l,seg,x,rest,h=>by
  simp only[qyu] at h
  split at h
  ·rename_i hp
   simp only[Option.some.injEq,Prod.mk.injEq] at h
   obtain ⟨rfl,rfl,rfl⟩:=h
   exact ⟨rfl,hp⟩
  ·split at h
   ·rename_i z hz
    obtain ⟨z1,z2,z3⟩:=z
    simp only[Option.some.injEq,Prod.mk.injEq] at h
    obtain ⟨rfl,rfl,rfl⟩:=h
    obtain ⟨e,hp⟩:=qbkl l hz
    exact ⟨by rw[e];rfl,hp⟩
   ·simp at h
theorem qbnn {hints:Hints} {id:Nat} {ops:Array Oper} {rec_:List (Nat×Oper)→St→Log→Option (St×Log)} (hrec:qbry C D hints id ops rec_) {t:Nat} {c:Bool} {l rest:List (Nat×Oper)} {S S':St} {lg lg':Log}
  (h:qbf5 C ops id rec_ t c l S lg=some (S',lg',rest)) (hSt:S.get t=.val .bool c) {T:St} (hs:Sim S T) (βs:List Bool) :
  ∃ seg i o T' lgT,l=seg++(i,o)::rest∧runD C D hints id ops βs (seg++[(i,o)]) T=some (T',lgT)∧Sim S' T'∧(∀ e∈lgT,e∈lg')∧(∀ e∈lg,e∈lg')∧qfo o=true:=by
 unfold qbf5 at h
 split at h
 ·rename_i seg i o rest' hsp
  obtain ⟨hl,hpick⟩:=qbkl l hsp
  simp only at h
  split at h
  ·rename_i hc
   simp only[Bool.and_eq_true,List.all_eq_true,Bool.not_eq_true'] at hc
   obtain ⟨⟨hc1,hc2⟩,hc3⟩:=hc
   split at h
   ·rename_i cc a b S1 l1 S2 l2 hop h1 h2
    split at h
    ·rename_i x y hx hy
     simp only[Option.some.injEq,Prod.mk.injEq] at h
     obtain ⟨rfl,rfl,rfl⟩:=h
     have hTt:T.get t=.val .bool c:=by
      rcases hs.get t with e | ⟨b,e1,_⟩
      ·rw[e];exact hSt
      ·rw[hSt] at e1;simp at e1
     have htl:t<S.sl.length:=by
      rcases Nat.lt_or_ge t S.sl.length with h | h
      ·exact h
      ·simp only[St.get_eq,List.getD] at hSt;rw[List.getElem?_eq_none h] at hSt;simp at hSt
     have hsim:Sim (S.set t (.litB c)) T:=by
      refine ⟨hs.rt,by simp[St.set_eq,hs.len],fun u=>?_⟩
      rw[St.get_set]
      by_cases e:u=t
      ·subst e;rw[if_pos ⟨rfl,htl⟩];exact .inr ⟨c,rfl,hTt⟩
      ·rw[if_neg (fun h=>e h.1)];exact hs.get u
     have hcc:cc=.tmp t:=by
      unfold qbj6 at hpick
      rw[hop] at hpick
      split at hpick
      ·rename_i c' _ _ he
       simp only[Op.pick.injEq] at he
       rw[he.1]
       rw[Nat.eq_of_beq_eq_true hpick]
      ·simp at hpick
     have hseg:∀ x∈seg,qfo x.2=true∧∀ u∈qcr ops x.1 x.2,u∈qf1 ops i o:=by
      intro z hz
      have:=hc1 z hz
      exact ⟨this.1,fun u hu=>by have:=this.2 u hu;simpa using this⟩
     -- the way that is gone
     have key:∀ (Sc:St) (lc:Log),rec_ seg (S.set t (.litB c)) []=some (Sc,lc)→∀ z,V.asBool (ev Sc (if c then a else b))=some z→
       ∃ T' lgT,runD C D hints id ops βs (seg++[(i,o)]) T=some (T',lgT)∧Sim (fin ops S i o (.val .bool z)) T'∧∀ e∈lgT,e∈lc∨e=qgo C ops Sc (id * 256+i+1) i o (.val .bool z) Sc.rt:=by
      intro Sc lc hr z hz
      obtain ⟨T1,lgT,k1,k2,k3,_⟩:=hrec seg _ _ Sc lc hr (fun x hx=>(hseg x hx).1) T hsim βs
      obtain ⟨f1,f2,f3⟩:=qbej seg βs T T1 lgT k1 hseg
      have htD:t∉qf1 ops i o:=by simpa using hc3
      have hT1t:T1.get t=.val .bool c:=by rw[f1 t htD];exact hTt
      have hg:qfr ops T1 o=some true:=by
       unfold qbru at hc2
       unfold qfr
       split at hc2
       ·rename_i hgd;rw[hgd]
       ·rename_i j b' hgd
        simp only[Bool.and_eq_true,Bool.not_eq_true'] at hc2
        rw[hgd]
        simp only
        have hjD:qej ops j∉qf1 ops i o:=by simpa using hc2.1
        rw[f1 _ hjD]
        have h5:=hc2.2
        split at h5
        ·rename_i c' hS
         rcases hs.get (qej ops j) with e | ⟨b2,e1,e2⟩
         ·rw[e,hS];simp only[Option.some.injEq];exact h5
         ·rw[e2];rw[hS] at e1;simp only[AV.litB.injEq] at e1;subst e1;simp only[Option.some.injEq];exact h5
        ·simp at h5
      have hevz:ev T1 (if c then a else b)=.val .bool z:=by rw[k2.ev];exact qbsb hz
      have hdec:(opAt C D T1 (id * 256+i+1) (hints.share.contains (id,i)) o).dec ((βs.drop seg.length).headD true)=some (.val .bool z,T1.rt):=by
       unfold opAt
       simp only[opT,hop,hcc,ev,hT1t,AV.flat,V.asBool]
       cases c<;>simp only[Tr.dec,Option.some.injEq,Prod.mk.injEq,and_true]<;>exact hevz
      have hstep:qcd C D hints id ops ((βs.drop seg.length).headD true) T1 i o=some (fin ops T1 i o (.val .bool z),qgo C ops Sc (id * 256+i+1) i o (.val .bool z) Sc.rt):=by
       unfold qcd
       rw[hg,hdec,←k2.ent,←k2.rt]
       rfl
      refine ⟨fin ops T1 i o (.val .bool z),lgT++[qgo C ops Sc (id * 256+i+1) i o (.val .bool z) Sc.rt],?_,?_,?_⟩
      ·rw[q36,k1]
       simp only[Option.bind_some,runD,hstep,Option.map_some]
      ·refine ⟨?_,?_,fun u=>?_⟩
       ·rw[qge,qge,f2,hs.rt]
       ·rw[q1k,q1k,f3,hs.len]
       ·rw[qoz,qoz,f3,hs.len]
        by_cases h1:o.dst=some u∧u<S.sl.length
        ·rw[if_pos h1,if_pos h1];exact .inl rfl
        ·rw[if_neg h1,if_neg h1]
         by_cases h2:u∈qf1 ops i o
         ·rw[if_pos h2,if_pos h2];exact .inl rfl
         ·rw[if_neg h2,if_neg h2,f1 u h2];exact hs.get u
      ·intro e he
       rcases List.mem_append.1 he with he | he
       ·exact .inl (k3 e he)
       ·exact .inr (by simpa using he)
     have htot:qfo o=true:=by unfold qfo;rw[hop]
     cases c with
     | true=>
      obtain ⟨T',lgT,k1,k2,k3⟩:=key S1 l1 h1 x (by simpa using hx)
      refine ⟨seg,i,o,T',lgT,hl,k1,k2,fun e he=>?_,fun e he=>?_,htot⟩
      ·rcases k3 e he with h | rfl
       ·simp[h]
       ·simp
      ·simp[he]
     | false=>
      obtain ⟨T',lgT,k1,k2,k3⟩:=key S2 l2 h2 y (by simpa using hy)
      refine ⟨seg,i,o,T',lgT,hl,k1,k2,fun e he=>?_,fun e he=>?_,htot⟩
      ·rcases k3 e he with h | rfl
       ·simp[h]
       ·simp
      ·simp[he]
    ·simp at h
   ·simp at h
  ·simp at h
 ·simp at h
end
end
end Go.V

namespace Go.V
open Go
section
variable {C:Ctx} {D:Den C}
theorem qbif {hints:Hints} {id:Nat} {ops:Array Oper} {seg rest:List (Nat×Oper)} {x:Nat×Oper} {T T':St} {lgT:Log} {βs:List Bool}
  (h:runD C D hints id ops βs (seg++[x]) T=some (T',lgT)) :
  runD C D hints id ops βs (seg++x::rest) T=(runD C D hints id ops (βs.drop (seg.length+1)) rest T').map fun y=>(y.1,lgT++y.2):=by
 have e:seg++x::rest=(seg++[x])++rest:=by simp
 rw[e,q36,h]
 simp only[Option.bind_some,List.length_append,List.length_cons,List.length_nil]
theorem q9j {ops:Array Oper} {S T:St} (h:Sim S T) {o:Oper} {j:Nat} {b c:Bool} (hg:o.guard=some (j,b)) (hS:S.get (qej ops j)=.litB c∨S.get (qej ops j)=.val .bool c) :
  qfr ops T o=some (c == b):=by
 unfold qfr
 rw[hg]
 simp only
 rcases hS with hS | hS
 ·rcases h.get (qej ops j) with e | ⟨c',e1,e2⟩
  ·rw[e,hS]
  ·rw[hS] at e1;simp only[AV.litB.injEq] at e1;subst e1;rw[e2]
 ·rcases h.get (qej ops j) with e | ⟨c',e1,e2⟩
  ·rw[e,hS]
  ·rw[hS] at e1;simp at e1
theorem qber {ops:Array Oper} {S T:St} (h:Sim S T) {o:Oper} {j:Nat} {b:Bool} (hg:o.guard=some (j,b)) (hS:S.get (qej ops j)=.skip):qfr ops T o=some false:=by
 unfold qfr
 rw[hg]
 simp only
 rcases h.get (qej ops j) with e | ⟨c',e1,e2⟩
 ·rw[e,hS]
 ·rw[hS] at e1;simp at e1
theorem qbie {ops:Array Oper} {T:St} {o:Oper} (hg:o.guard=none):qfr ops T o=some true:=by
 unfold qfr;rw[hg]
theorem q5u {hints:Hints} {id:Nat} {ops:Array Oper}:∀ n,qbry C D hints id ops (segR C D id ops n)
 | 0=>by intro l S lg S1 lg1 h;simp[segR] at h
 | n+1=>by
  intro l S lg S1 lg1 h hl T hs βs
  cases l with
  | nil=>
   simp only[segR,Option.some.injEq,Prod.mk.injEq] at h
   obtain ⟨rfl,rfl⟩:=h
   exact ⟨T,[],rfl,hs,by simp,fun e he=>he⟩
  | cons x rest=>
   obtain ⟨i,o⟩:=x
   have htot:=hl (i,o) List.mem_cons_self
   have hrest:∀ x∈rest,qfo x.2=true:=fun x hx=>hl x (List.mem_cons_of_mem _ hx)
   have hgo:qfr ops T o=some true→(match opAt C D S (id * 256+i+1) false o with
     | .ret (v,rt')=>segR C D id ops n rest (fin ops ⟨S.sl,rt'⟩ i o v) (qgo C ops S (id * 256+i+1) i o v rt'::lg)
     | _=>none)=some (S1,lg1)→∃ T1 lgT,runD C D hints id ops βs ((i,o)::rest) T=some (T1,lgT)∧Sim S1 T1∧(∀ e∈lgT,e∈lg1)∧(∀ e∈lg,e∈lg1):=by
    intro hg h
    split at h
    ·rename_i v rt' hop
     have hop':(opAt C D S (id * 256+i+1) (hints.share.contains (id,i)) o).dec (βs.headD true)=some (v,rt'):=by
      unfold opAt at hop ⊢
      rw[qbol htot (h2:=false),hop]
      rfl
     obtain ⟨k1,k2⟩:=qbm7 (hints:=hints) (id:=id) hs hg hop'
     obtain ⟨T1,lgT,q1,q2,q3,q4⟩:=q5u (hints:=hints) n rest _ _ S1 lg1 h hrest _ k2 βs.tail
     refine ⟨T1,qgo C ops S (id * 256+i+1) i o v rt'::lgT,?_,q2,?_,fun e he=>q4 e (List.mem_cons_of_mem _ he)⟩
     ·simp only[runD,k1,Option.bind_some,q1,Option.map_some]
     ·intro e he
      rcases List.mem_cons.1 he with rfl | he
      ·exact q4 _ List.mem_cons_self
      ·exact q3 e he
    ·simp at h
   have hskip:qfr ops T o=some false→segR C D id ops n rest (fin ops S i o .skip) (qeq ops S (id * 256+i+1) i o::lg)=some (S1,lg1)→
     ∃ T1 lgT,runD C D hints id ops βs ((i,o)::rest) T=some (T1,lgT)∧Sim S1 T1∧(∀ e∈lgT,e∈lg1)∧(∀ e∈lg,e∈lg1):=by
    intro hg h
    obtain ⟨k1,k2⟩:=qbih (C:=C) (D:=D) (hints:=hints) (id:=id) (β:=βs.headD true) hs hg
    obtain ⟨T1,lgT,q1,q2,q3,q4⟩:=q5u (hints:=hints) n rest _ _ S1 lg1 h hrest _ k2 βs.tail
    refine ⟨T1,qeq ops S (id * 256+i+1) i o::lgT,?_,q2,?_,fun e he=>q4 e (List.mem_cons_of_mem _ he)⟩
    ·simp only[runD,k1,Option.bind_some,q1,Option.map_some]
    ·intro e he
     rcases List.mem_cons.1 he with rfl | he
     ·exact q4 _ List.mem_cons_self
     ·exact q3 e he
   simp only[segR] at h
   split at h
   ·rename_i hgd
    exact hgo (qbie hgd) h
   ·rename_i j b hgd
    split at h
    ·rename_i hS
     exact hskip (qber hs hgd hS) h
    ·rename_i c hS
     have hg:=q9j hs hgd (.inl hS)
     split at h
     ·rename_i hcb
      subst hcb
      exact hgo (by simpa using hg) h
     ·rename_i hcb
      exact hskip (by rw[hg];simpa using hcb) h
    ·rename_i c hS
     split at h
     ·rename_i S2 lg2 rest2 hj
      obtain ⟨seg,i2,o2,T',lgT,e1,k1,k2,k3,k4,k5⟩:=qbnn (q5u (hints:=hints) n) hj hS hs βs
      have hrest2:∀ x∈rest2,qfo x.2=true:=fun x hx=>hl x (by rw[e1];simp[hx])
      obtain ⟨T1,lgT1,q1,q2,q3,q4⟩:=q5u (hints:=hints) n rest2 _ _ S1 lg1 h hrest2 _ k2 (βs.drop (seg.length+1))
      refine ⟨T1,lgT++lgT1,?_,q2,?_,fun e he=>q4 e (k4 e he)⟩
      ·rw[e1,qbif k1,q1];rfl
      ·intro e he
       rcases List.mem_append.1 he with he | he
       ·exact q4 e (k3 e he)
       ·exact q3 e he
     ·simp at h
    ·simp at h
theorem qyn {R:Type} {r:R} {hints:Hints} {id:Nat} {ops:Array Oper} {k:Log→St→Option R}:∀ (n:Nat) (l:List (Nat×Oper)) (S:St) (lg:Log),qnk C D hints id ops n l S lg k=some r→∀ T,Sim S T→∀ βs,
  ∃ T1 lgT S1 lg1,runD C D hints id ops βs l T=some (T1,lgT)∧k lg1 S1=some r∧Sim S1 T1∧(∀ e∈lgT,e∈lg1)∧(∀ e∈lg,e∈lg1)
 | 0,l,S,lg,h=>by simp[qnk] at h
 | n+1,[],S,lg,h=>by
  intro T hs βs
  simp only[qnk] at h
  exact ⟨T,[],S,lg,rfl,h,hs,by simp,fun e he=>he⟩
 | n+1,(i,o)::rest,S,lg,h=>by
  intro T hs βs
  have hgo:∀ S,Sim S T→qfr ops T o=some true→((opAt C D S (id * 256+i+1) (hints.share.contains (id,i)) o).run fun x=>qnk C D hints id ops n rest (fin ops ⟨S.sl,x.2⟩ i o x.1) (qgo C ops S (id * 256+i+1) i o x.1 x.2::lg) k)=some r→
    ∃ T1 lgT S1 lg1,runD C D hints id ops βs ((i,o)::rest) T=some (T1,lgT)∧k lg1 S1=some r∧Sim S1 T1∧(∀ e∈lgT,e∈lg1)∧(∀ e∈lg,e∈lg1):=by
   intro S hs hg h
   obtain ⟨x,hx,h⟩:=Tr.run_dec (βs.headD true) _ h
   obtain ⟨k1,k2⟩:=qbm7 (hints:=hints) (id:=id) hs hg hx
   obtain ⟨T1,lgT,S1,lg1,q1,q2,q3,q4,q5⟩:=qyn (hints:=hints) n rest _ _ h _ k2 βs.tail
   refine ⟨T1,qgo C ops S (id * 256+i+1) i o x.1 x.2::lgT,S1,lg1,?_,q2,q3,?_,fun e he=>q5 e (List.mem_cons_of_mem _ he)⟩
   ·simp only[runD,k1,Option.bind_some,q1,Option.map_some]
   ·intro e he
    rcases List.mem_cons.1 he with rfl | he
    ·exact q5 _ List.mem_cons_self
    ·exact q4 e he
  have hskip:∀ S,Sim S T→qfr ops T o=some false→qnk C D hints id ops n rest (fin ops S i o .skip) (qeq ops S (id * 256+i+1) i o::lg) k=some r→
    ∃ T1 lgT S1 lg1,runD C D hints id ops βs ((i,o)::rest) T=some (T1,lgT)∧k lg1 S1=some r∧Sim S1 T1∧(∀ e∈lgT,e∈lg1)∧(∀ e∈lg,e∈lg1):=by
   intro S hs hg h
   obtain ⟨k1,k2⟩:=qbih (C:=C) (D:=D) (hints:=hints) (id:=id) (β:=βs.headD true) hs hg
   obtain ⟨T1,lgT,S1,lg1,q1,q2,q3,q4,q5⟩:=qyn (hints:=hints) n rest _ _ h _ k2 βs.tail
   refine ⟨T1,qeq ops S (id * 256+i+1) i o::lgT,S1,lg1,?_,q2,q3,?_,fun e he=>q5 e (List.mem_cons_of_mem _ he)⟩
   ·simp only[runD,k1,Option.bind_some,q1,Option.map_some]
   ·intro e he
    rcases List.mem_cons.1 he with rfl | he
    ·exact q5 _ List.mem_cons_self
    ·exact q4 e he
  simp only[qnk] at h
  split at h
  ·rename_i hgd
   exact hgo S hs (qbie hgd) h
  ·rename_i j b hgd
   split at h
   ·rename_i hS
    exact hskip S hs (qber hs hgd hS) h
   ·rename_i c hS
    have hg:=q9j hs hgd (.inl hS)
    split at h
    ·rename_i hcb
     subst hcb
     exact hgo S hs (by simpa using hg) h
    ·rename_i hcb
     exact hskip S hs (by rw[hg];simpa using hcb) h
   ·rename_i c hS
    split at h
    ·rename_i S2 lg2 rest2 hj
     obtain ⟨seg,i2,o2,T',lgT,e1,k1,k2,k3,k4,k5⟩:=qbnn (q5u (hints:=hints) n) hj hS hs βs
     obtain ⟨T1,lgT1,S1,lg1,q1,q2,q3,q4,q5⟩:=qyn (hints:=hints) n rest2 _ _ h _ k2 (βs.drop (seg.length+1))
     refine ⟨T1,lgT++lgT1,S1,lg1,?_,q2,q3,?_,fun e he=>q5 e (k4 e he)⟩
     ·rw[e1,qbif k1,q1];rfl
     ·intro e he
      rcases List.mem_append.1 he with he | he
      ·exact q5 e (k3 e he)
      ·exact q4 e he
    ·have hg:=q9j hs hgd (.inr hS)
     have hsim:Sim (S.set (qej ops j) (.litB c)) T:=by
      have hTt:T.get (qej ops j)=.val .bool c:=by
       rcases hs.get (qej ops j) with e | ⟨b,e1,_⟩
       ·rw[e];exact hS
       ·rw[hS] at e1;simp at e1
      refine ⟨hs.rt,by simp[St.set_eq,hs.len],fun u=>?_⟩
      rw[St.get_set]
      by_cases e:u=qej ops j∧qej ops j<S.sl.length
      ·rw[if_pos e,e.1];exact .inr ⟨c,rfl,hTt⟩
      ·rw[if_neg e];exact hs.get u
     cases c with
     | true=>
      simp only[br] at h
      split at h
      ·rename_i hb;subst hb;exact hgo _ hsim (by simpa using hg) h
      ·rename_i hb;exact hskip _ hsim (by rw[hg];cases b<;>simp_all) h
     | false=>
      simp only[br] at h
      split at h
      ·rename_i hb;subst hb;exact hgo _ hsim (by simpa using hg) h
      ·rename_i hb;exact hskip _ hsim (by rw[hg];cases b<;>simp_all) h
   ·simp at h
end
theorem qbni {h:Array Obj} {S T:St} (hs:Sim S T) {g:Ghost} {tmps:Array Value} {H:BS} (st:StRel h T g tmps H):StRel h S g tmps H:=by
 have hr:∀ r,S.root r=T.root r:=fun r=>by simp only[St.root,hs.rt]
 have hi:∀ {r},(S.root r).isSome→(T.root r).isSome:=fun {r} h=>by rw[←hr];exact h
 have he:∀ {r R},S.root r=some R→T.root r=some R:=fun {r R} h=>by rw[←hr];exact h
 have hl:S.sl.length=tmps.size:=by rw[←hs.len];exact st.len
 have hl2:S.rt.length=tmps.size:=by rw[←hs.rt];exact st.rlen
 refine ⟨hl,hl2,?_,fun r R hR=>st.roots r R (he hR),fun r r' hn h1 h2=>st.dis r r' hn (hi h1) (hi h2),fun r h1=>st.prot r (hi h1),fun r h1=>st.hand r (hi h1),st.handPr,st.limPr,fun r b h1=>st.limG r b (hi h1),st.limH,fun r R hR=>st.tag r R (he hR),fun r b h1=>st.own r b (hi h1),st.ownH,st.limL,st.p0,st.prL⟩
 intro t
 have:=st.slots t
 have h2:=qh.sameRoots (S':=S) st hs.rt.symm this
 rcases hs.get t with e | ⟨b,e1,e2⟩
 ·rw[e] at h2;exact h2
 ·rw[e2] at h2
  rw[e1]
  simp only[qh,Rep] at h2 ⊢
  obtain ⟨c,rfl,e⟩:=h2
  exact e
end Go.V

namespace Go.V
open Go
theorem q15 {h:Array Obj}:∀ (p:Path) (t:Ty) (c:List Value) (base:Base),atP h t c base (p.map Stp.zero)=atP h t c base p
 | [],t,c,base=>rfl
 | .fst::p,t,c,base=>by cases t<;>simp only[List.map_cons,Stp.zero,atP];exact q15 p _ _ _
 | .snd::p,t,c,base=>by cases t<;>simp only[List.map_cons,Stp.zero,atP];exact q15 p _ _ _
 | .idx i s::p,t,c,base=>by
  cases t<;>simp only[List.map_cons,Stp.zero,atP]
  split
  ·split
   ·exact q15 p _ _ _
   ·rfl
  ·rfl
theorem q13:∀ (p:Path) (t:Ty) (x:t.den),inR t x (p.map Stp.zero)↔inR t x p
 | [],t,x=>Iff.rfl
 | .fst::p,t,x=>by cases t<;>simp only[List.map_cons,Stp.zero,inR];exact q13 p _ _
 | .snd::p,t,x=>by cases t<;>simp only[List.map_cons,Stp.zero,inR];exact q13 p _ _
 | .idx i s::p,t,x=>by
  cases t<;>simp only[List.map_cons,Stp.zero,inR]
  rw[q13 p]
theorem TagC.restamp {hd:Nat→Value}:∀ (t:Ty) {m:Mk} {c:List Value},TagC hd t m c→TagC hd t m.restamp c
 | .unit,_,_,_=>by simp only[TagC]
 | .int _,_,_,_=>by simp only[TagC]
 | .bool,_,_,_=>by simp only[TagC]
 | .str,_,_,_=>by simp only[TagC]
 | .pair a b,m,c,h=>by
  simp only[TagC] at h ⊢
  have h1:m.restamp.fst=m.fst.restamp:=by cases m<;>rfl
  have h2:m.restamp.snd=m.snd.restamp:=by cases m<;>rfl
  rw[h1,h2]
  exact ⟨TagC.restamp a h.1,TagC.restamp b h.2⟩
 | .sl t,m,c,h=>by
  cases m with
  | own s mi=>
   have hf:∀ m:Mk,m.tagFree=true→m.restamp.tagFree=true:=by
    intro m
    induction m with
    | no=>intro _;rfl
    | gone=>intro _;rfl
    | own s m ih=>
     intro h
     simp only[Mk.tagFree,Bool.and_eq_true,qfs] at h
     simp only[Mk.restamp,Mk.tagFree,Bool.and_eq_true,qfs]
     exact ⟨by rw[if_pos h.1];omega,ih h.2⟩
    | pr a b iha ihb=>
     intro h
     simp only[Mk.tagFree,Bool.and_eq_true] at h
     simp only[Mk.restamp,Mk.tagFree,Bool.and_eq_true]
     exact ⟨iha h.1,ihb h.2⟩
   simp only[Mk.restamp,TagC] at h ⊢
   refine ⟨fun h2=>?_,hf _ h.2⟩
   split at h2
   ·omega
   ·rename_i hn;rw[if_neg hn];exact h.1 h2
  | no=>simp only[Mk.restamp,TagC]
  | gone=>simp only[Mk.restamp,TagC]
  | pr _ _=>simp only[Mk.restamp,TagC]
theorem qbh3 {x:Option Root} {R':Root} (h:qyp x=some R'):∃ R,x=some R∧R'={ R with ms:=R.ms.restamp }:=by
 unfold qyp at h
 cases x with
 | none=>simp at h
 | some R=>
  simp only[Option.bind_some] at h
  split at h
  ·simp at h
  ·simp only[Option.some.injEq] at h;exact ⟨R,rfl,h.symm⟩
theorem qbfe (ment:List Nat):∀ (l:List (Option Root)) (i r:Nat),(qw2 ment i l).getD r none=if ment.contains (i+r) then qyp (l.getD r none) else none
 | [],i,r=>by simp[qw2,qyp,List.getD]
 | x::l,i,r=>by
  simp only[qw2]
  cases r with
  | zero=>simp only[List.getD_cons_zero,Nat.add_zero]
  | succ r=>
   simp only[List.getD_cons_succ]
   rw[qbfe ment l (i+1) r,show i+1+r=i+(r+1) by omega]
theorem qbce (ment:List Nat):∀ (l:List (Option Root)) (i:Nat),(qw2 ment i l).length=l.length
 | [],_=>rfl
 | x::l,i=>by simp[qw2,qbce ment l]
theorem qbes (S:St) (keep:List Nat):∀ (l:List AV) (i t:Nat),(qxs S keep i l).getD t .undef=if keep.contains (i+t) then (l.getD t .undef).canon S else .undef
 | [],i,t=>by simp[qxs,AV.canon,List.getD]
 | x::l,i,t=>by
  simp only[qxs]
  cases t with
  | zero=>simp only[List.getD_cons_zero,Nat.add_zero]
  | succ t=>
   simp only[List.getD_cons_succ]
   rw[qbes S keep l (i+1) t,show i+1+t=i+(t+1) by omega]
theorem qbcm (S:St) (keep:List Nat):∀ (l:List AV) (i:Nat),(qxs S keep i l).length=l.length
 | [],_=>rfl
 | x::l,i=>by simp[qxs,qbcm S keep l]
section
variable {h:Array Obj} {S:St} {g:Ghost} {tmps:Array Value} {H:BS} (st:StRel h S g tmps H)
include st
theorem qu8 {keep extra:List Nat} {r:Nat} {R':Root} (hr:(S.canon keep extra).root r=some R'):∃ R,S.root r=some R∧R'={ R with ms:=R.ms.restamp }:=by
 simp only[St.canon,St.root,Rts.root_eq] at hr
 rw[qbfe] at hr
 split at hr
 ·rw[←Rts.root_eq] at hr;exact qbh3 hr
 ·simp at hr
theorem qbis {keep extra:List Nat} {r:Nat} {p:Path} {s:Nat} {v:Value} {t:Ty} {m:Mk} {xs:(Ty.sl t).den} (hf:S.rt.focus r p=some ⟨.sl t,.own s m,xs⟩) (x:q3v h S g r p s v) :
  q3v h (S.canon keep extra) g r (p.map Stp.zero) (if s<1048576 then 0 else s) v:=by
 obtain ⟨R,base,F,hR,hfR,hin,hat,_⟩:=q25 st hf rfl x
 intro R' hR' t' m' xs' hf'
 obtain ⟨R2,hR2,rfl⟩:=qu8 st hR'
 rw[hR] at hR2
 simp only[Option.some.injEq] at hR2
 subst hR2
 exact ⟨(q13 p _ _).2 hin,base,by rw[q15];exact hat⟩
theorem qboj {keep extra:List Nat} {r:Nat} {p:Path} {v:Value} {d:Dy} (hf:S.rt.focus r p=some d) (x:q48 h S g r p v):q48 h (S.canon keep extra) g r (p.map Stp.zero) v:=by
 simp only[Rts.focus] at hf
 split at hf
 ·rename_i R hR
  obtain ⟨hin,b,o,c,hat,e⟩:=x R hR d hf
  intro R' hR' d' hf'
  obtain ⟨R2,hR2,rfl⟩:=qu8 st hR'
  have:R=R2:=by
   have h1:S.root r=some R:=hR
   rw[h1] at hR2
   simpa using hR2
  subst this
  exact ⟨(q13 p _ _).2 hin,b,o,c,by rw[q15];exact hat,e⟩
 ·simp at hf
theorem qbem {keep extra:List Nat}:∀ {a:AV} {c:List Value},AVC h S g a c→AVC h (S.canon keep extra) g (a.canon S) c
 | .undef,_,_=>by simp only[AV.canon,AVC]
 | .unit,_,y=>y
 | .val t x,_,y=>y
 | .brw r p s,c,y=>by
  simp only[AVC] at y
  obtain ⟨v,rfl,y⟩:=y
  simp only[AV.canon]
  split
  ·rename_i t s' m xs hf
   split
   ·rename_i hs;subst hs
    simp only[AVC]
    exact ⟨v,rfl,qbis st hf y⟩
   ·simp only[AVC]
  ·simp only[AVC]
 | .pair a b,c,y=>by
  simp only[AVC] at y
  obtain ⟨ca,cb,rfl,y1,y2⟩:=y
  simp only[AV.canon,AVC]
  exact ⟨ca,cb,rfl,qbem y1,qbem y2⟩
 | .skip,_,y=>y.elim
 | .litB _,_,y=>y.elim
 | .nils,_,y=>y.elim
 | .view _ _ _ _ _,_,y=>y.elim
 | .addr _ _,_,y=>y.elim
 | .raddr _ _,_,y=>y.elim
 | .tup _,_,y=>y.elim
 | .clo _ _,_,y=>y.elim
 | .cloV _,_,y=>y.elim
theorem qbtd {keep extra:List Nat}:∀ (a:AV),(∀ v,qh h S g a v→qh h (S.canon keep extra) g (a.canon S) v)∧(∀ vs,TupRel h S g a vs→TupRel h (S.canon keep extra) g (a.canon S) vs):=by
 intro a
 induction a with
 | undef=>exact ⟨fun _ _=>by simp only[AV.canon,qh],fun _ y=>by simp only[TupRel] at y⟩
 | skip=>exact ⟨fun _ y=>y,fun _ y=>by simp only[TupRel] at y⟩
 | litB b=>exact ⟨fun _ y=>y,fun _ y=>by simp only[TupRel] at y⟩
 | unit=>exact ⟨fun _ y=>y,fun _ y=>y⟩
 | nils=>exact ⟨fun _ y=>y,fun _ y=>by simp only[TupRel] at y⟩
 | val t x=>exact ⟨fun _ y=>y,fun _ y=>by simp only[TupRel] at y⟩
 | brw r p s=>
  refine ⟨fun v y=>?_,fun _ y=>by simp only[TupRel] at y⟩
  simp only[qh] at y
  simp only[AV.canon]
  split
  ·rename_i t s' m xs hf
   split
   ·rename_i hs;subst hs
    simp only[qh]
    exact qbis st hf y
   ·simp only[qh]
  ·simp only[qh]
 | view r p s lo hi=>exact ⟨fun _ _=>by simp only[AV.canon,qh],fun _ y=>by simp only[TupRel] at y⟩
 | addr r p=>
  refine ⟨fun v y=>?_,fun _ y=>by simp only[TupRel] at y⟩
  simp only[qh] at y
  simp only[AV.canon]
  split
  ·rename_i d hf
   simp only[qh]
   exact qboj st hf y
  ·simp only[qh]
 | raddr t x=>exact ⟨fun _ y=>y,fun _ y=>by simp only[TupRel] at y⟩
 | pair a b iha ihb=>
  refine ⟨fun v y=>?_,fun vs y=>?_⟩
  ·simp only[qh] at y
   obtain ⟨ca,cb,e,y1,y2⟩:=y
   simp only[AV.canon,qh]
   exact ⟨ca,cb,e,qbem st y1,qbem st y2⟩
  ·simp only[TupRel] at y
   obtain ⟨v,vs',e,y1,y2⟩:=y
   simp only[AV.canon,TupRel]
   exact ⟨v,vs',e,iha.1 v y1,ihb.2 vs' y2⟩
 | tup a iha=>exact ⟨fun _ _=>by simp only[AV.canon,qh],fun _ y=>by simp only[TupRel] at y⟩
 | clo f a iha=>
  refine ⟨fun v y=>?_,fun _ y=>by simp only[TupRel] at y⟩
  simp only[qh] at y
  obtain ⟨vs,e,y⟩:=y
  simp only[AV.canon,qh]
  exact ⟨vs,e,iha.2 vs y⟩
 | cloV c=>exact ⟨fun _ y=>y,fun _ y=>by simp only[TupRel] at y⟩
theorem q58 (keep extra:List Nat):StRel h (S.canon keep extra) g tmps H:=by
 have hs:∀ r,((S.canon keep extra).root r).isSome→(S.root r).isSome:=by
  intro r h1
  obtain ⟨R',hR'⟩:=Option.isSome_iff_exists.1 h1
  obtain ⟨R,hR,_⟩:=qu8 st hR'
  rw[hR];rfl
 refine ⟨?_,?_,?_,?_,fun r r' hn h1 h2=>st.dis r r' hn (hs r h1) (hs r' h2),fun r h1=>st.prot r (hs r h1),fun r h1=>st.hand r (hs r h1),st.handPr,st.limPr,fun r b h1=>st.limG r b (hs r h1),st.limH,?_,fun r b h1=>st.own r b (hs r h1),st.ownH,st.limL,st.p0,st.prL⟩
 ·simp only[St.canon];rw[qbcm];exact st.len
 ·simp only[St.canon];rw[qbce];exact st.rlen
 ·intro t
  simp only[St.get_eq,St.canon]
  rw[qbes]
  split
  ·have z:=st.slots t;rw[St.get_eq] at z;exact (qbtd st _).1 _ z
  ·simp only[qh]
 ·intro r R' hR'
  obtain ⟨R,hR,rfl⟩:=qu8 st hR'
  obtain ⟨F,q1,q2⟩:=st.roots r R hR
  exact ⟨F,(Rep.restamp R.ty).1 q1,q2⟩
 ·intro r R' hR'
  obtain ⟨R,hR,rfl⟩:=qu8 st hR'
  exact TagC.restamp _ (st.tag r R hR)
end
end Go.V

namespace Go.V
noncomputable section
open Go
def Ex.out:Ex→Exit
 | .normal=>.normal
 | .exit id=>.exit id
 | .ret=>.ret
theorem q5j {ops:Array Oper}:∀ x∈qev ops,ops[x.1]? = some x.2:=by
 intro x hx
 simp only[qev,List.mem_map] at hx
 obtain ⟨y,hy,rfl⟩:=hx
 have:=List.mem_zipIdx_iff_getElem?.1 hy
 simpa using this
theorem q1b {ops:Array Oper}:(qev ops).map (·.1)=List.range ops.size:=by
 simp only[qev,List.map_map]
 apply List.ext_getElem?
 intro i
 simp only[List.getElem?_map,List.getElem?_zipIdx,List.getElem?_range']
 by_cases h:i<ops.size
 ·simp[h]
 ·simp[h]
theorem qbiz {ops:Array Oper} (h:q2g ops=true):∀ (i:Nat) o j c,ops[i]? = some o→o.guard=some (j,c)→∃ oj t,ops[j]? = some oj∧oj.dst=some t:=by
 intro i o j c ho hg
 simp only[q2g,List.all_eq_true] at h
 have:=h o (by rw[Array.mem_toList_iff];exact Array.mem_of_getElem? ho)
 rw[hg] at this
 simp only[Option.isSome_iff_exists,Option.bind_eq_some_iff] at this
 obtain ⟨t,oj,h1,h2⟩:=this
 exact ⟨oj,t,h1,h2⟩
theorem qbl4 {np:List Nat} {ops:Array Oper} (h:q1p np ops=true):∀ x∈qev ops,∀ d,x.2.dst=some d→d∉np:=by
 intro x hx d hd
 simp only[q1p,List.all_eq_true] at h
 have:=h x.2 (by rw[Array.mem_toList_iff];exact Array.mem_of_getElem? (q5j x hx))
 rw[hd] at this
 simpa using this
section
variable {P:Program} {C:Ctx} {D:Den C} (hty:qck P C) (dok:DOk P C D)
include hty dok
def Goes (np:List Nat) (P:Program) (C:Ctx) (Q:Exit→Act→World→Prop) {R:Type} (r:R) (c:Code) (S:St) (k:Ex→St→Option R) (g:Ghost) (a:Act) (w:World):Prop:=
 StRel w.heap S g a.tmps Nil→a.defers=[]→(∀ e S' g' a' w',k e S'=some r→StRel w'.heap S' g' a'.tmps Nil→g'.Same g→WFr g.L w w'→a'.defers=[]→qrm np a a'→Q e.out a' w')→c.wp P Q a w
theorem qbpu {np:List Nat} {R:Type} {r:R} {H:Hints} {id:Nat} {ops:Array Oper} {S:St} {k:Ex→St→Option R} {Q:Exit→Act→World→Prop} {g:Ghost} {a:Act} {w:World} {n:Nat}
  (hnp:q1p np ops=true) (h:exec C D H n (.region id ops false) S k=some r):Goes np P C Q r (.region id ops false) S k g a w:=by
 intro st hdf hQ
 simp only[exec] at h
 split at h
 ·rename_i hgd
  have hR:=fun βs=>qyn (hints:=H) _ _ _ _ h S (Sim.refl S) βs
  refine wp_region ?_
  rw[←q1b]
  refine qbo1 (hints:=H) (id:=id) hty dok (qbiz hgd) (qev ops) S g a w q5j (qbl4 hnp) st hdf (fun βs=>?_) ?_
  ·obtain ⟨T1,lgT,S1,lg1,q1,_⟩:=hR βs
   exact ⟨_,q1⟩
  ·intro βs S' lg a' w' g' hr st' hsm hfr hdf' hfx
   obtain ⟨T1,lgT,S1,lg1,q1,q2,q3,_⟩:=hR βs
   rw[hr] at q1
   simp only[Option.some.injEq,Prod.mk.injEq] at q1
   obtain ⟨rfl,rfl⟩:=q1
   simp only[Bool.false_eq_true,if_false] at q2
   exact hQ .normal S1 g' a' w' q2 (qbni q3 st') hsm hfr hdf' hfx
 ·simp at h
end
end
end Go.V

namespace Go.V
noncomputable section
open Go
section
variable {C:Ctx} {D:Den C} {A:Asks} {S:Rts} {site:Nat} {hint:Bool}
theorem qbit {ρ ρ':Operand→AV} {ps:Array (Nat×Operand)} (h:∀ x∈(ps.toList.map (·.2)).toArray,ρ' x=ρ x):(ps.toList.map fun p=>(p.1,ρ' p.2))=ps.toList.map fun p=>(p.1,ρ p.2):=by
 apply List.map_congr_left
 intro p hp
 rw[h p.2 (by simp only[List.mem_toArray,List.mem_map];exact ⟨p,hp,rfl⟩)]
theorem qbk3 {ρ ρ':Operand→AV} (o:Oper) (h:∀ x∈o.op.operands,ρ' x=ρ x):opT C D A ρ' S site hint o=opT C D A ρ S site hint o:=by
 cases ho:o.op with
 | build t ps=>
  rw[ho] at h;simp only[Op.operands] at h
  simp only[opT,ho];rw[qbit h]
 | buildSlice t n ps=>
  rw[ho] at h;simp only[Op.operands] at h
  simp only[opT,ho];rw[qbit h]
 | makeFunc f first caps=>
  rw[ho] at h;simp only[Op.operands] at h
  simp only[opT,ho]
  cases f with
  | func f=>
   have:caps.toList.foldr (fun x r=>AV.pair (ρ' x) r) .unit=caps.toList.foldr (fun x r=>AV.pair (ρ x) r) .unit:=by
    have hc:∀ x∈caps.toList,ρ' x=ρ x:=fun x hx=>h x (by simp at hx ⊢;exact .inr hx)
    revert hc
    generalize caps.toList=l
    intro hc
    induction l with
    | nil=>rfl
    | cons y l ih=>simp only[List.foldr_cons];rw[hc y List.mem_cons_self,ih (fun x hx=>hc x (List.mem_cons_of_mem _ hx))]
   simp only[this]
  | _=>rfl
 | slice t x lo hi mx=>
  rw[ho] at h;simp only[Op.operands] at h
  cases mx with
  | some v=>simp only[opT,ho]
  | none=>
   simp only[opT,ho]
   have h1:ρ' x=ρ x:=h x (by simp)
   have h2:lo.map ρ'=lo.map ρ:=by cases lo with
    | none=>rfl
    | some v=>simp only[Option.map_some];rw[h v (by simp)]
   have h3:hi.map ρ'=hi.map ρ:=by cases hi with
    | none=>rfl
    | some v=>simp only[Option.map_some];rw[h v (by simp)]
   rw[h1,h2,h3]
 | call c=>
  rw[ho] at h;simp only[Op.operands] at h
  have ha:c.args.toList.map ρ'=c.args.toList.map ρ:=List.map_congr_left fun x hx=>h x (by simp only[Call.operands,Array.mem_append];right;simpa using hx)
  simp only[opT,ho]
  rw[ha]
  cases hc:c.callee with
  | builtin b=>rfl
  | value f=>
   have:ρ' f=ρ f:=h f (by simp[Call.operands,hc])
   simp only[this]
  | invoke r m=>rfl
 | pick c a b=>rw[ho] at h;simp only[Op.operands] at h;simp only[opT,ho];rw[h c (by simp),h a (by simp),h b (by simp)]
 | store t a b=>rw[ho] at h;simp only[Op.operands] at h;simp only[opT,ho];rw[h a (by simp),h b (by simp)]
 | binOp op t a b t2=>rw[ho] at h;simp only[Op.operands] at h;simp only[opT,ho];rw[h a (by simp),h b (by simp)]
 | makeSlice t a b=>rw[ho] at h;simp only[Op.operands] at h;simp only[opT,ho];rw[h a (by simp),h b (by simp)]
 | indexAddr t a b=>rw[ho] at h;simp only[Op.operands] at h;simp only[opT,ho];rw[h a (by simp),h b (by simp)]
 | index t a b=>rw[ho] at h;simp only[Op.operands] at h;simp only[opT,ho];rw[h a (by simp),h b (by simp)]
 | move x=>rw[ho] at h;simp only[Op.operands] at h;simp only[opT,ho];rw[h x (by simp)]
 | assign x=>rw[ho] at h;simp only[Op.operands] at h;simp only[opT,ho];rw[h x (by simp)]
 | box t x=>rw[ho] at h;simp only[Op.operands] at h;simp only[opT,ho];rw[h x (by simp)]
 | load t x=>rw[ho] at h;simp only[Op.operands] at h;simp only[opT,ho];rw[h x (by simp)]
 | nilCheck x=>rw[ho] at h;simp only[Op.operands] at h;simp only[opT,ho];rw[h x (by simp)]
 | unOp op t x=>rw[ho] at h;simp only[Op.operands] at h;simp only[opT,ho];rw[h x (by simp)]
 | convert s d x=>rw[ho] at h;simp only[Op.operands] at h;simp only[opT,ho];rw[h x (by simp)]
 | fieldAddr s x f=>rw[ho] at h;simp only[Op.operands] at h;simp only[opT,ho];rw[h x (by simp)]
 | field s x f=>rw[ho] at h;simp only[Op.operands] at h;simp only[opT,ho];rw[h x (by simp)]
 | extract x i=>rw[ho] at h;simp only[Op.operands] at h;simp only[opT,ho];rw[h x (by simp)]
 | _=>simp only[opT,ho]
theorem qbrh {ρ ρ':Operand→AV} (o:Oper) (h:∀ x∈o.op.operands,ρ' x=ρ x):wrOf C ρ' o=wrOf C ρ o:=by
 have hall:o.op.operands.toList.map ρ'=o.op.operands.toList.map ρ:=List.map_congr_left fun x hx=>h x (by simpa using hx)
 unfold wrOf
 rw[hall]
 cases ho:o.op with
 | assign x=>rw[ho] at h;simp only[Op.operands] at h;simp only[h x (by simp)]
 | call c=>
  rw[ho] at h;simp only[Op.operands] at h
  have ha:c.args.toList.map ρ'=c.args.toList.map ρ:=List.map_congr_left fun x hx=>h x (by simp only[Call.operands,Array.mem_append];right;simpa using hx)
  simp only
  rw[ha]
  cases hc:c.callee with
  | builtin b=>cases b<;>rfl
  | value f=>
   have:ρ' f=ρ f:=h f (by simp[Call.operands,hc])
   simp only[this]
  | invoke r m=>rfl
 | _=>rfl
theorem qbpl {ρ ρ':Operand→AV} (o:Oper) (h:∀ x∈o.op.operands,ρ' x=ρ x):qrp C ρ' o=qrp C ρ o:=by
 unfold qrp
 cases ho:o.op with
 | call c=>
  rw[ho] at h;simp only[Op.operands] at h
  have ha:c.args.toList.map ρ'=c.args.toList.map ρ:=List.map_congr_left fun x hx=>h x (by simp only[Call.operands,Array.mem_append];right;simpa using hx)
  simp only
  rw[ha]
  cases hc:c.callee with
  | builtin b=>cases b<;>rfl
  | value f=>
   have:ρ' f=ρ f:=h f (by simp[Call.operands,hc])
   simp only[this]
  | invoke r m=>rfl
 | slice t x lo hi mx=>cases mx<;>rfl
 | _=>rfl
def qbw (F:List Nat) (S S':Rts):Prop:=∀ r,r∈F→S'.root r=S.root r
theorem qbw.sub {F G:List Nat} {S S':Rts} (h:qbw F S S') (hs:∀ r∈G,r∈F):qbw G S S':=fun r hr=>h r (hs r hr)
theorem qij {F:List Nat} {S S':Rts} (h:qbw F S S') {r:Nat} (hr:r∈F) (p:Path):S'.focus r p=S.focus r p:=by
 simp only[Rts.focus,h r hr]
theorem q2a {S S':Rts}:∀ (t:Ty) (a:AV),qbw a.roots S S'→rd S' t a=rd S t a
 | t,.pair u v,h=>by
  cases t with
  | pair a b=>
   simp only[rd]
   rw[q2a a u (h.sub fun r hr=>by simp[AV.roots,hr]),q2a b v (h.sub fun r hr=>by simp[AV.roots,hr])]
  | _=>simp[rd]
 | t,.brw r p s,h=>by
  cases t with
  | sl e=>simp only[rd];rw[qij h (by simp[AV.roots])]
  | _=>simp[rd]
 | t,.val t' x,h=>by cases t<;>simp only[rd]
 | t,.undef,h=>by cases t<;>simp[rd]
 | t,.skip,h=>by cases t<;>simp[rd]
 | t,.litB b,h=>by cases t<;>simp[rd]
 | t,.unit,h=>by cases t<;>simp[rd]
 | t,.nils,h=>by cases t<;>simp[rd]
 | t,.view _ _ _ _ _,h=>by cases t<;>simp[rd]
 | t,.addr _ _,h=>by cases t<;>simp[rd]
 | t,.raddr _ _,h=>by cases t<;>simp[rd]
 | t,.tup _,h=>by cases t<;>simp[rd]
 | t,.clo _ _,h=>by cases t<;>simp[rd]
 | t,.cloV _,h=>by cases t<;>simp[rd]
theorem q1f {S S':Rts}:∀ (a:AV),qbw a.roots S S'→qdk S' a=qdk S a
 | .pair (.addr r p) rest,h=>by
  simp only[qdk]
  rw[qij h (by simp[AV.roots]),q1f rest (h.sub fun r hr=>by simp[AV.roots,hr])]
 | .pair (.raddr t x) rest,h=>by simp only[qdk];rw[q1f rest (h.sub fun r hr=>by simp[AV.roots,hr])]
 | .pair (.val t x) rest,h=>by simp only[qdk];rw[q1f rest (h.sub fun r hr=>by simp[AV.roots,hr])]
 | .unit,h=>rfl
 | .pair .undef _,h=>rfl
 | .pair .skip _,h=>rfl
 | .pair (.litB _) _,h=>rfl
 | .pair .unit _,h=>rfl
 | .pair .nils _,h=>rfl
 | .pair (.brw _ _ _) _,h=>rfl
 | .pair (.view _ _ _ _ _) _,h=>rfl
 | .pair (.pair _ _) _,h=>rfl
 | .pair (.tup _) _,h=>rfl
 | .pair (.clo _ _) _,h=>rfl
 | .pair (.cloV _) _,h=>rfl
 | .undef,h=>rfl
 | .skip,h=>rfl
 | .litB _,h=>rfl
 | .nils,h=>rfl
 | .val _ _,h=>rfl
 | .brw _ _ _,h=>rfl
 | .view _ _ _ _ _,h=>rfl
 | .addr _ _,h=>rfl
 | .raddr _ _,h=>rfl
 | .tup _,h=>rfl
 | .clo _ _,h=>rfl
 | .cloV _,h=>rfl
theorem q2j {a:AV} {l:List AV} (h:a∈l):∀ r∈a.roots,r∈qm l:=by
 induction l with
 | nil=>simp at h
 | cons b l ih=>
  intro r hr
  simp only[qm,List.mem_append]
  rcases List.mem_cons.1 h with rfl | h
  ·exact .inl hr
  ·exact .inr (ih h r hr)
theorem qu2 (l l2:List AV):∀ r,r∈qm (l++l2)↔r∈qm l∨r∈qm l2:=by
 intro r
 induction l with
 | nil=>simp[qm]
 | cons a l ih=>simp only[List.cons_append,qm,List.mem_append,ih,or_assoc]
theorem qvl:∀ (a:AV),∀ r∈qm (qek a),r∈a.roots
 | .pair a b,r,h=>by
  simp only[qek,qm,List.mem_append] at h
  simp only[AV.roots,List.mem_append]
  exact h.imp id (qvl b r)
 | .undef,r,h=>by simp[qek,qm] at h
 | .skip,r,h=>by simp[qek,qm] at h
 | .litB _,r,h=>by simp[qek,qm] at h
 | .unit,r,h=>by simp[qek,qm] at h
 | .nils,r,h=>by simp[qek,qm] at h
 | .val _ _,r,h=>by simp[qek,qm] at h
 | .brw _ _ _,r,h=>by simp[qek,qm] at h
 | .view _ _ _ _ _,r,h=>by simp[qek,qm] at h
 | .addr _ _,r,h=>by simp[qek,qm] at h
 | .raddr _ _,r,h=>by simp[qek,qm] at h
 | .tup _,r,h=>by simp[qek,qm] at h
 | .clo _ _,r,h=>by simp[qek,qm] at h
 | .cloV _,r,h=>by simp[qek,qm] at h
theorem qfp {S S':Rts}:∀ (ks:List PK) (avs:List AV) (g:GDen ks) (o:ODen ks),qbw (qm avs) S S'→qcg S' ks avs g o=qcg S ks avs g o
 | [],[],_,_,_=>rfl
 | [],_::_,_,_,_=>rfl
 | k::ks,[],g,o,_=>by cases k<;>rfl
 | k::ks,a::avs,g,o,h=>by
  have h1:qbw a.roots S S':=h.sub fun r hr=>by simp[qm,hr]
  have h2:qbw (qm avs) S S':=h.sub fun r hr=>by simp[qm,hr]
  cases k with
  | val t=>simp only[qcg];rw[q2a t a h1,qfp ks avs g o h2]
  | own t m=>simp only[qcg];rw[qfp ks avs g.2 o h2]
  | mutp t m m'=>simp only[qcg];rw[qfp ks avs g o.2 h2]
  | mutv t m m'=>simp only[qcg];rw[qfp ks avs g o.2 h2]
  | rptr t=>
   cases a with
   | raddr t' x=>simp only[qcg];rw[qfp ks avs g o h2]
   | addr q p=>simp only[qcg];rw[qij h1 (by simp[AV.roots]),qfp ks avs g o h2]
   | _=>rfl
  | fn=>
   cases a with
   | clo f c=>simp only[qcg];rw[q1f c (h1.sub fun r hr=>by simpa [AV.roots] using hr),qfp ks avs g o h2]
   | cloV c=>simp only[qcg];rw[qfp ks avs g o h2]
   | _=>rfl
theorem qbb4 {S S':Rts}:∀ (ts:List Ty) (avs:List AV),qbw (qm avs) S S'→qup S' ts avs=qup S ts avs
 | [],[],_=>rfl
 | [],_::_,_=>rfl
 | _::_,[],_=>rfl
 | t::ts,a::avs,h=>by
  simp only[qup]
  rw[q2a t a (h.sub fun r hr=>by simp[qm,hr]),qbb4 ts avs (h.sub fun r hr=>by simp[qm,hr])]
theorem qbck {S S':Rts} (a:AV) (h:qbw a.roots S S'):qu1 S' a=qu1 S a:=by
 cases a with
 | brw r p s=>simp only[qu1];rw[qij h (by simp[AV.roots])]
 | val t x=>cases t<;>rfl
 | _=>rfl
end
end
end Go.V

namespace Go.V
noncomputable section
open Go
section
variable {C:Ctx} {D:Den C}
theorem qbl5 {S S':Rts} (t:Ty) (a:AV) (h:qbw a.roots S S'):qnf S' t a=qnf S t a:=by
 cases a with
 | addr r p=>simp only[qnf];rw[qij h (by simp[AV.roots])]
 | _=>rfl
theorem qbf1 {S S':Rts} (t:Ty) (a:AV) (f:Nat) (h:qbw a.roots S S'):qin S' t a f=qin S t a f:=by
 cases a with
 | addr r p=>simp only[qin];rw[qij h (by simp[AV.roots])]
 | _=>rfl
theorem qblh {S S':Rts} (t:Ty) (a i:AV) (h:qbw a.roots S S'):q82 S' t a i=q82 S t a i:=by
 cases a with
 | brw r p s=>simp only[q82];rw[qij h (by simp[AV.roots])]
 | val t x=>cases t<;>rfl
 | _=>rfl
def qj (T T':Tr (AV×Rts)) (S S':Rts):Prop:=∀ β v rt',T.dec β=some (v,rt')→rt'=S∧T'.dec β=some (v,S')
theorem qj.ret {v:AV} {S S':Rts}:qj (.ret (v,S)) (.ret (v,S')) S S':=by
 intro β v' rt' h
 simp only[Tr.dec,Option.some.injEq,Prod.mk.injEq] at h
 exact ⟨h.2.symm,by simp[Tr.dec,h.1]⟩
theorem qj.fail {T':Tr (AV×Rts)} {S S':Rts}:qj .fail T' S S':=by
 intro β v' rt' h;simp[Tr.dec] at h
theorem qj.br {c:Bool} {x y x' y':Tr (AV×Rts)} {S S':Rts} (h1:qj x x' S S') (h2:qj y y' S S'):qj (.br c x y) (.br c x' y') S S':=by
 intro β v rt' h
 cases c
 ·exact h2 β v rt' h
 ·exact h1 β v rt' h
theorem qj.nil {n:Nat} {b:Bool} {f:Bool→AV} {S S':Rts}:qj (.nil n b fun b=>.ret (f b,S)) (.nil n b fun b=>.ret (f b,S')) S S':=by
 intro β v rt' h
 simp only[Tr.dec,Option.some.injEq,Prod.mk.injEq] at h ⊢
 exact ⟨h.2.symm,h.1,trivial⟩
theorem qj.ofMap {α:Type} {x:Option α} {f:α→AV} {S S':Rts}:qj (.of (x.map fun a=>(f a,S))) (.of (x.map fun a=>(f a,S'))) S S':=by
 cases x with
 | none=>exact qj.fail
 | some a=>exact qj.ret
theorem qj.call {α:Type} {x:Option α} {f f':α→Tr (AV×Rts)} {S S':Rts} (h:∀ a,qj (f a) (f' a) S S'):qj (.call x f) (.call x f') S S':=by
 intro β v rt' hh
 cases x with
 | none=>simp[Tr.dec] at hh
 | some a=>exact h a β v rt' hh
theorem qq3 {S S':Rts}:∀ (ks:List PK) (avs:List AV),ks.all PK.plain=true→qbb S' ks avs=(qbb S ks avs).map fun z=>(z.1,S')
 | [],[],_=>rfl
 | [],_::_,_=>rfl
 | k::ks,[],_=>by cases k<;>rfl
 | k::ks,a::avs,h=>by
  simp only[List.all_cons,Bool.and_eq_true] at h
  cases k with
  | val t=>simp only[qbb];exact qq3 ks avs h.2
  | rptr t=>simp only[qbb];exact qq3 ks avs h.2
  | fn=>simp only[qbb];exact qq3 ks avs h.2
  | _=>simp[PK.plain] at h
theorem qos {S S':Rts}:∀ (ks:List PK) (avs:List AV),ks.all PK.plain=true→q9 S' ks avs=(q9 S ks avs).map fun z=>(z.1,S')
 | [],[],_=>rfl
 | [],_::_,_=>rfl
 | k::ks,[],_=>by cases k<;>rfl
 | k::ks,a::avs,h=>by
  simp only[List.all_cons,Bool.and_eq_true] at h
  cases k with
  | val t=>simp only[q9];exact qos ks avs h.2
  | rptr t=>simp only[q9];exact qos ks avs h.2
  | fn=>simp only[q9];exact qos ks avs h.2
  | _=>simp[PK.plain] at h
theorem qbpz {S rt:Rts} {ks:List PK} {avs:List AV} {g:GDen ks} (hp:ks.all PK.plain=true) (h:qbb S ks avs=some (g,rt)):rt=S:=by
 have:=qq3 (S:=S) (S':=S) ks avs hp
 rw[h] at this
 simp only[Option.map_some,Option.some.injEq,Prod.mk.injEq,true_and] at this
 exact this
theorem qbnw {S rt:Rts} {ks:List PK} {avs:List AV} {g:ODen ks} (hp:ks.all PK.plain=true) (h:q9 S ks avs=some (g,rt)):rt=S:=by
 have:=qos (S:=S) (S':=S) ks avs hp
 rw[h] at this
 simp only[Option.map_some,Option.some.injEq,Prod.mk.injEq,true_and] at this
 exact this
theorem qbrk {A A':Asks} {S S':Rts} (hl:S'.length=S.length) {d:Option Nat} {site:Nat} {t:Ty} {m:Mk} {x:t.den} (hs:m.still=true):qj (layT A S d site t m x false) (layT A' S' d site t m x false) S S':=by
 cases d with
 | none=>exact qj.ret
 | some d=>
  simp only[layT,hs,if_true,Bool.false_eq_true,if_false,hl]
  split
  ·exact qj.fail
  ·exact qj.ret
theorem qbch:∀ (rs:List RK),rs.all (fun k=>!k.isPtr&&k.ms.still)=true→(qk0 rs).still=true
 | [],_=>rfl
 | k::rs,h=>by
  simp only[List.all_cons,Bool.and_eq_true] at h
  simp only[qk0,Mk.still,Bool.and_eq_true]
  exact ⟨h.1.2,qbch rs h.2⟩
theorem qbmq {A A':Asks} (hA:A'.sh=A.sh) {S S':Rts} (hl:S'.length=S.length) {d:Option Nat} {site:Nat}:∀ (rs:List RK) (r:RDen rs),rs.all (fun k=>!k.isPtr&&k.ms.still)=true→qj (qdt A S d site rs r) (qdt A' S' d site rs r) S S'
 | [],r,_=>qj.ret
 | [.val t m],r,h=>by
  simp only[List.all_cons,Bool.and_eq_true] at h
  simp only[qdt,hA]
  split
  ·split
   ·exact qj.ret
   ·exact qj.fail
  ·split
   ·exact qbrk hl h.1.2
   ·exact qj.fail
 | [.ptr t m],r,h=>by simp[RK.isPtr] at h
 | q1::q2::rs,r,h=>by
  have e1:∀ (A:Asks) (S:Rts),qdt A S d site (q1::q2::rs) r=qrf A S d site (q1::q2::rs) r:=by intro A S;cases q1<;>rfl
  rw[e1,e1]
  unfold qrf
  split
  ·cases d with
   | none=>exact qj.ret
   | some d=>
    have hs:=qbch _ h
    have e2:∀ (A:Asks) (S:Rts),layT A S (some d) site (qdb (q1::q2::rs)) (qk0 (q1::q2::rs)) (resX (q1::q2::rs) r) false =
      if (!Nat.blt d S.length||!Nat.blt site 1048576)=true then .fail else .ret (.val (qdb (q1::q2::rs)) (resX (q1::q2::rs) r),S):=by
     intro A S;simp only[layT,hs,if_true,Bool.false_eq_true,if_false]
    simp only[e2,hl]
    by_cases hc:(!Nat.blt d S.length||!Nat.blt site 1048576)=true
    ·simp only[if_pos hc];exact qj.fail
    ·simp only[if_neg hc];exact qj.ret
  ·exact qj.fail
theorem qbot {A A':Asks} (hA:A'.sh=A.sh) {S S':Rts} (hl:S'.length=S.length) {d:Option Nat} {site:Nat} {g:FuncId} {avs:List AV} (hq:qbct (C.sig g)=true) (hr:qbw (qm avs) S S') :
  qj (qm1 C D A S d site g avs) (qm1 C D A' S' d site g avs) S S':=by
 unfold qbct at hq
 simp only[Bool.and_eq_true] at hq
 unfold qm1
 rw[qq3 (S:=S) (S':=S') _ _ hq.1]
 cases h1:qbb S (C.sig g).params avs with
 | none=>exact qj.fail
 | some z=>
  obtain ⟨gd,S1⟩:=z
  obtain rfl:=qbpz hq.1 h1
  simp only[Option.map_some]
  rw[qos (S:=S1) (S':=S') _ _ hq.1]
  cases h2:q9 S1 (C.sig g).params avs with
  | none=>exact qj.fail
  | some z=>
   obtain ⟨od,S2⟩:=z
   obtain rfl:=qbnw hq.1 h2
   simp only[Option.map_some]
   rw[qfp _ _ _ _ hr]
   cases h3:qcg S2 (C.sig g).params avs gd od with
   | none=>exact qj.fail
   | some aa=>
    simp only
    split
    ·refine qj.call fun r=>?_
     have hn:(C.sig g).params.all (fun k=>!k.lends)=true:=by
      rw[List.all_eq_true] at hq ⊢
      intro k hk
      have:=hq.1 k hk
      cases k<;>simp_all [PK.plain,PK.lends]
     simp only[hn,if_true]
     exact qbmq hA hl _ _ hq.2
    ·exact qj.fail
theorem qbpy {A A':Asks} {ρ:Operand→AV} {S S':Rts} {site:Nat} {hint:Bool} {o:Oper} (hl:S'.length=S.length) (hw:wrOf C ρ o=none)
    (hr:qbw (if qg4 o then [] else qm (o.op.operands.toList.map ρ)) S S'):qj (opT C D A ρ S site hint o) (opT C D A' ρ S' site hint o) S S':=by
  have ha:∀ {x:Operand},qg4 o=false→x∈o.op.operands→qbw (ρ x).roots S S':=by
    intro x hb hx
    rw[hb] at hr
    exact hr.sub fun r h=>q2j (List.mem_map.2 ⟨x,by simpa using hx,rfl⟩) r h
  cases ho:o.op with
  | move x=>simp only[opT,ho];exact qj.ret
  | pick c a b=>
    simp only[opT,ho]
    split
    · exact qj.br qj.ret qj.ret
    · exact qj.fail
  | unOp op t x=>
    simp only[opT,ho]
    split
    · exact qj.ret
    · exact qj.ret
    · exact qj.fail
  | field t x f=>
    simp only[opT,ho]
    split
    · split
      · split
        · exact qj.ret
        · exact qj.fail
      · exact qj.fail
    · exact qj.fail
  | extract x i=>simp only[opT,ho];exact qj.ofMap (f:=fun v=>v)
  | makeFunc f first caps=>
    cases f with
    | func f=>
      simp only[opT,ho]
      split
      · exact qj.ret
      · exact qj.fail
    | _=>simp only[opT,ho];exact qj.fail
  | load t x=>
    have:=ha (x:=x) (by unfold qg4;rw[ho]) (by rw[ho];simp[Op.operands])
    simp only[opT,ho]
    rw[qbl5 _ _ this]
    split
    · exact qj.ofMap (f:=fun v=>v)
    · exact qj.fail
  | nilCheck x=>
    have:=ha (x:=x) (by unfold qg4;rw[ho]) (by rw[ho];simp[Op.operands])
    simp only[opT,ho]
    cases hv:ρ x with
    | addr r p=>
      rw[hv] at this
      simp only
      rw[qij this (by simp[AV.roots])]
      cases S.focus r p with
      | none=>exact qj.fail
      | some d=>exact qj.ret
    | raddr t y=>exact qj.ret
    | clo f c=>exact qj.ret
    | _=>exact qj.fail
  | fieldAddr s x f=>
    have:=ha (x:=x) (by unfold qg4;rw[ho]) (by rw[ho];simp[Op.operands])
    simp only[opT,ho]
    rw[qbf1 _ _ _ this]
    exact qj.ofMap (f:=fun v=>v)
  | indexAddr t x i=>
    have:=ha (x:=x) (by unfold qg4;rw[ho]) (by rw[ho];simp[Op.operands])
    simp only[opT,ho]
    rw[qblh _ _ _ this]
    split
    · exact qj.br qj.ret qj.fail
    · exact qj.fail
  | index t x i=>
    simp only[opT,ho]
    split
    · exact qj.br qj.ret qj.fail
    · exact qj.fail
  | convert s d x=>
    have:=ha (x:=x) (by unfold qg4;rw[ho]) (by rw[ho];simp[Op.operands])
    simp only[opT,ho]
    split
    · exact qj.ret
    · exact qj.ret
    · rw[q2a _ _ this]
      split
      · exact qj.ret
      · exact qj.fail
    · exact qj.fail
  | binOp op t x y t2=>
    have:=ha (x:=x) (by unfold qg4;rw[ho]) (by rw[ho];simp[Op.operands])
    simp only[opT,ho]
    rw[qbck _ this]
    split
    · split
      · exact qj.nil (f:=fun b=>.val .bool b)
      · exact qj.nil (f:=fun b=>.val .bool b)
      · exact qj.fail
    · split
      · exact qj.ret
      · exact qj.br qj.ret qj.fail
      · exact qj.br qj.fail qj.ret
      · exact qj.fail
  | assign x=>
    simp only[wrOf,ho] at hw
    simp only[opT,ho]
    cases hv:ρ x with
    | brw r p s=>rw[hv] at hw;simp at hw
    | pair a b=>rw[hv] at hw;simp at hw
    | _=>exact qj.ret
  | call c=>
    have hb:qg4 o=false:=by unfold qg4;rw[ho]
    cases hc:c.callee with
    | builtin b=>
      cases b with
      | len=>
        simp only[opT,ho,hc]
        split
        · exact qj.ret
        · rename_i x _ _ _ hargs _
          obtain ⟨u,hu1,hu2⟩:∃ u,u∈c.args.toList∧ρ u=x:=by
            have:x∈c.args.toList.map ρ:=by rw[hargs];simp
            simpa using this
          have:=ha (x:=u) hb (by rw[ho];simp only[Op.operands,Call.operands,Array.mem_append];right;simpa using hu1)
          rw[hu2] at this
          rw[qbck _ this]
          exact qj.ofMap (f:=fun n=>.val (.int .i64) n)
        all_goals first | (exfalso;contradiction) | exact qj.fail
      | min=>
        simp only[opT,ho,hc]
        split
        all_goals first
          | (exfalso;contradiction)
          | exact qj.fail
          | (split
             · split
               · exact qj.ret
               · exact qj.fail
             · exact qj.fail)
      | max=>
        simp only[opT,ho,hc]
        split
        all_goals first
          | (exfalso;contradiction)
          | exact qj.fail
          | (split
             · split
               · exact qj.ret
               · exact qj.fail
             · exact qj.fail)
      | _=>simp[wrOf,ho,hc] at hw
    | value f=>
      have hf:=ha (x:=f) hb (by rw[ho];simp[Op.operands,Call.operands,hc])
      have hargs:qbw (qm (c.args.toList.map ρ)) S S':=by
        intro r hr'
        have key:∀ (l:List Operand),(∀ x∈l,qbw (ρ x).roots S S')→r∈qm (l.map ρ)→S'.root r=S.root r:=by
          intro l
          induction l with
          | nil=>intro _ h;simp[qm] at h
          | cons x l ih=>
            intro hx h
            simp only[List.map_cons,qm,List.mem_append] at h
            rcases h with h | h
            · exact hx x List.mem_cons_self r h
            · exact ih (fun y hy=>hx y (List.mem_cons_of_mem _ hy)) h
        exact key c.args.toList (fun x hx=>ha hb (by rw[ho];simp only[Op.operands,Call.operands,Array.mem_append];right;simpa using hx)) hr'
      simp only[opT,ho,hc]
      simp only[wrOf,ho,hc] at hw
      cases hv:ρ f with
      | clo g caps=>
        rw[hv] at hw hf
        simp only at hw ⊢
        split at hw
        · simp at hw
        rename_i hns
        simp only[q3n,if_neg hns]
        split at hw
        · rename_i hq
          refine qbot (A:={ A with sh:=hint }) (A':={ A' with sh:=hint }) rfl hl hq ?_
          intro r hr'
          rcases (qu2 _ _ r).1 hr' with h | h
          · exact hargs r h
          · exact hf r (by simp only[AV.roots];exact qvl _ r h)
        · simp at hw
      | cloV cl=>
        simp only
        rw[qbb4 _ _ hargs]
        split
        · split
          · exact qj.call fun x=>qj.ret
          · exact qj.fail
        · exact qj.fail
      | _=>exact qj.fail
    | invoke r m=>simp only[opT,ho,hc];exact qj.fail
  | _=>simp[wrOf,ho] at hw
end
end
end Go.V

namespace Go.V
open Go
structure Frm (W:List Nat) (S S':Rts):Prop where
 len:S'.length=S.length
 root:∀ r,r∉W→S'.root r=S.root r
theorem Frm.refl (W:List Nat) (S:Rts):Frm W S S:=⟨rfl,fun _ _=>rfl⟩
theorem Frm.trans {W:List Nat} {a b c:Rts} (h:Frm W a b) (k:Frm W b c):Frm W a c:=⟨k.len.trans h.len,fun r hr=>(k.root r hr).trans (h.root r hr)⟩
theorem Frm.mono {W W':List Nat} {a b:Rts} (h:Frm W a b) (hs:∀ r∈W,r∈W'):Frm W' a b:=⟨h.len,fun r hr=>h.root r fun hh=>hr (hs r hh)⟩
theorem Frm.set (S:Rts) (q:Nat) (x:Option Root):Frm [q] S (S.setRoot q x):=by
 refine ⟨by simp[Rts.setRoot_eq],fun r hr=>?_⟩
 simp only[List.mem_singleton] at hr
 simp only[Rts.root_eq,Rts.setRoot_eq,List.getD,List.getElem?_set]
 rw[if_neg (fun h=>hr h.symm)]
theorem qm8:∀ (t:Ty) (a:AV) {S S':Rts} {m:Mk} {x:t.den},tk S t a=some (m,x,S')→Frm a.roots S S'
 | t,.val t' y,S,S',m,x,h=>by
  have:(qbs t' t y).bind (fun x=>some (Mk.no,x,S))=some (m,x,S'):=by cases t<;>simpa only [tk] using h
  simp only[Option.bind_eq_some_iff,Option.some.injEq,Prod.mk.injEq] at this
  obtain ⟨_,_,_,_,rfl⟩:=this
  exact Frm.refl _ _
 | t,.litB b,S,S',m,x,h=>by
  cases t<;>simp[tk] at h
  obtain ⟨_,_,rfl⟩:=h
  exact Frm.refl _ _
 | t,.unit,S,S',m,x,h=>by
  cases t<;>simp[tk] at h
  obtain ⟨_,rfl⟩:=h
  exact Frm.refl _ _
 | t,.nils,S,S',m,x,h=>by
  cases t<;>simp[tk] at h
  obtain ⟨_,_,rfl⟩:=h
  exact Frm.refl _ _
 | t,.brw r p s,S,S',m,x,h=>by
  cases t with
  | sl e=>
   simp only[tk] at h
   split at h
   ·split at h
    ·split at h
     ·simp only[Option.bind_eq_some_iff,Option.some.injEq,Prod.mk.injEq] at h
      obtain ⟨_,_,_,_,_,_,rfl⟩:=h
      exact Frm.set _ _ _
     ·simp at h
    ·simp at h
   ·simp at h
  | _=>simp[tk] at h
 | t,.pair u v,S,S',m,x,h=>by
  cases t with
  | pair a b=>
   simp only[tk,Option.bind_eq_some_iff,Option.some.injEq,Prod.mk.injEq] at h
   obtain ⟨⟨m1,x1,S1⟩,h1,⟨m2,x2,S2⟩,h2,_,_,rfl⟩:=h
   exact ((qm8 a u h1).mono fun r hr=>by simp[AV.roots,hr]).trans ((qm8 b v h2).mono fun r hr=>by simp[AV.roots,hr])
  | _=>simp[tk] at h
 | t,.undef,S,S',m,x,h=>by cases t<;>simp[tk] at h
 | t,.skip,S,S',m,x,h=>by cases t<;>simp[tk] at h
 | t,.view _ _ _ _ _,S,S',m,x,h=>by cases t<;>simp[tk] at h
 | t,.addr _ _,S,S',m,x,h=>by cases t<;>simp[tk] at h
 | t,.raddr _ _,S,S',m,x,h=>by cases t<;>simp[tk] at h
 | t,.tup _,S,S',m,x,h=>by cases t<;>simp[tk] at h
 | t,.clo _ _,S,S',m,x,h=>by cases t<;>simp[tk] at h
 | t,.cloV _,S,S',m,x,h=>by cases t<;>simp[tk] at h
theorem qbsz (t:Ty) (a:AV) {S S':Rts} {hint:Bool} {m:Mk} {x:t.den} (h:tkS S hint t a=some (m,x,S')):Frm a.roots S S':=by
 simp only[tkS,Option.bind_eq_some_iff] at h
 obtain ⟨⟨m1,x1,S1⟩,h1,h⟩:=h
 split at h
 ·split at h
  ·simp only[Option.some.injEq,Prod.mk.injEq] at h
   obtain ⟨rfl,rfl,rfl⟩:=h
   exact qm8 t a h1
  ·simp at h
 ·simp only[Option.some.injEq,Prod.mk.injEq] at h
  obtain ⟨rfl,rfl,rfl⟩:=h
  exact qm8 t a h1
theorem qk5 {A:Asks} {S S':Rts} {d:Option Nat} {site:Nat} {t:Ty} {m:Mk} {x:t.den} {mem:Bool} {β:Bool} {v:AV} (h:(layT A S d site t m x mem).dec β=some (v,S')):Frm d.toList S S':=by
 cases d with
 | none=>
  simp only[layT,Tr.dec,Option.some.injEq,Prod.mk.injEq] at h
  rw[←h.2];exact Frm.refl _ _
 | some d=>
  simp only[layT] at h
  split at h
  ·simp[Tr.dec] at h
  ·split at h
   ·split at h
    ·simp only[Tr.dec,Option.some.injEq,Prod.mk.injEq] at h
     rw[←h.2];exact Frm.set _ _ _
    ·simp[Tr.dec] at h
   ·split at h
    ·simp only[Tr.dec,Option.some.injEq,Prod.mk.injEq] at h
     rw[←h.2];exact Frm.refl _ _
    ·split at h
     ·simp only[Tr.dec,Option.some.injEq,Prod.mk.injEq] at h
      rw[←h.2];exact Frm.set _ _ _
     ·simp[Tr.dec] at h
theorem qbip {T:Ty}:∀ (l:List (Nat×AV)) (acc:Mk×T.den) {S S':Rts} {m:Mk} {x:T.den},qdx S T acc l=some (m,x,S')→Frm (qm (l.map (·.2))) S S'
 | [],acc,S,S',m,x,h=>by
  simp only[qdx,Option.some.injEq,Prod.mk.injEq] at h
  obtain ⟨_,_,rfl⟩:=h
  exact Frm.refl _ _
 | (i,v)::l,acc,S,S',m,x,h=>by
  simp only[qdx,Option.bind_eq_some_iff] at h
  obtain ⟨d,_,⟨m1,x1,S1⟩,h1,r,_,h2⟩:=h
  exact ((qm8 _ v h1).mono fun r hr=>by simp[qm,hr]).trans ((qbip l _ h2).mono fun r hr=>by simp[qm,hr])
theorem qbnq {e:Ty}:∀ (l:List (Nat×AV)) (acc:Mk×List e.den) {S S':Rts} {m:Mk} {x:List e.den},qgu S e acc l=some (m,x,S')→Frm (qm (l.map (·.2))) S S'
 | [],acc,S,S',m,x,h=>by
  simp only[qgu,Option.some.injEq,Prod.mk.injEq] at h
  obtain ⟨_,_,rfl⟩:=h
  exact Frm.refl _ _
 | (i,v)::l,acc,S,S',m,x,h=>by
  simp only[qgu] at h
  split at h
  ·simp only[Option.bind_eq_some_iff] at h
   obtain ⟨⟨m1,x1,S1⟩,h1,h2⟩:=h
   exact ((qm8 _ v h1).mono fun r hr=>by simp[qm,hr]).trans ((qbnq l _ h2).mono fun r hr=>by simp[qm,hr])
  ·simp at h
theorem qx2:∀ (ks:List PK) (avs:List AV) {S S':Rts} {g:GDen ks},qbb S ks avs=some (g,S')→Frm (qds ks avs) S S'
 | [],[],S,S',g,h=>by
  simp only[qbb,Option.some.injEq,Prod.mk.injEq] at h
  rw[h.2];exact Frm.refl _ _
 | [],_::_,S,S',g,h=>by simp[qbb] at h
 | k::ks,[],S,S',g,h=>by cases k<;>simp[qbb] at h
 | k::ks,a::avs,S,S',g,h=>by
  have hsub:∀ r∈qds ks avs,r∈qds (k::ks) (a::avs):=by intro r hr;simp only[qds];split<;>simp[hr]
  cases k with
  | own t m=>
   simp only[qbb,Option.bind_eq_some_iff] at h
   obtain ⟨⟨m1,x1,S1⟩,h1,h⟩:=h
   split at h
   ·simp only[Option.bind_eq_some_iff,Option.some.injEq,Prod.mk.injEq] at h
    obtain ⟨⟨g2,S2⟩,h2,_,rfl⟩:=h
    exact ((qm8 _ a h1).mono fun r hr=>by simp[qds,PK.plain,hr]).trans ((qx2 ks avs h2).mono hsub)
   ·simp at h
  | val t=>exact (qx2 ks avs (by simpa only [qbb] using h)).mono hsub
  | mutp t m m'=>exact (qx2 ks avs (by simpa only [qbb] using h)).mono hsub
  | mutv t m m'=>exact (qx2 ks avs (by simpa only [qbb] using h)).mono hsub
  | rptr t=>exact (qx2 ks avs (by simpa only [qbb] using h)).mono hsub
  | fn=>exact (qx2 ks avs (by simpa only [qbb] using h)).mono hsub
theorem q35:∀ (a:AV) {r:Nat} {p:Path},qci a=some (r,p)→r∈a.roots
 | .brw r' p' s,r,p,h=>by simp only[qci,Option.some.injEq,Prod.mk.injEq] at h;simp[AV.roots,h.1]
 | .pair a b,r,p,h=>by
  simp only[qci] at h
  simp only[AV.roots,List.mem_append]
  split at h
  ·rename_i r1 p1 h1
   simp only[Option.some.injEq,Prod.mk.injEq] at h
   obtain ⟨rfl,_⟩:=h
   exact .inl (q35 a h1)
  ·split at h
   ·rename_i r1 p1 h1
    simp only[Option.some.injEq,Prod.mk.injEq] at h
    obtain ⟨rfl,_⟩:=h
    exact .inr (q35 b h1)
   ·simp at h
 | .undef,_,_,h=>by simp[qci] at h
 | .skip,_,_,h=>by simp[qci] at h
 | .litB _,_,_,h=>by simp[qci] at h
 | .unit,_,_,h=>by simp[qci] at h
 | .nils,_,_,h=>by simp[qci] at h
 | .val _ _,_,_,h=>by simp[qci] at h
 | .view _ _ _ _ _,_,_,h=>by simp[qci] at h
 | .addr _ _,_,_,h=>by simp[qci] at h
 | .raddr _ _,_,_,h=>by simp[qci] at h
 | .tup _,_,_,h=>by simp[qci] at h
 | .clo _ _,_,_,h=>by simp[qci] at h
 | .cloV _,_,_,h=>by simp[qci] at h
theorem qbrr {S S':Rts} {site:Nat} {t:Ty} {a:AV} {m:Mk} {o:t.den} (h:q9d S site t a m o=some S'):Frm a.roots S S':=by
 unfold q9d at h
 split at h
 ·simp only[Option.some.injEq] at h;rw[h];exact Frm.refl _ _
 ·rename_i r p hp
  split at h
  ·simp only[Option.bind_eq_some_iff] at h
   obtain ⟨d,_,h⟩:=h
   split at h
   ·simp only[Option.bind_eq_some_iff] at h
    obtain ⟨y,_,h⟩:=h
    split at h
    ·simp at h
    ·simp only[Option.bind_eq_some_iff,Option.some.injEq] at h
     obtain ⟨_,_,rfl⟩:=h
     exact (Frm.set _ _ _).mono fun r' hr=>by simp only[List.mem_singleton] at hr;subst hr;exact q35 a hp
   ·simp at h
  ·simp at h
theorem qwy {site:Nat}:∀ (ks:List PK) (avs:List AV) (o:ODen ks) {S S':Rts},qbh S site ks avs o=some S'→Frm (qds ks avs) S S'
 | [],[],o,S,S',h=>by
  simp only[qbh,Option.some.injEq] at h
  rw[h];exact Frm.refl _ _
 | [],_::_,o,S,S',h=>by simp[qbh] at h
 | k::ks,[],o,S,S',h=>by cases k<;>simp[qbh] at h
 | k::ks,a::avs,o,S,S',h=>by
  have hsub:∀ r∈qds ks avs,r∈qds (k::ks) (a::avs):=by intro r hr;simp only[qds];split<;>simp[hr]
  cases k with
  | mutp t m m'=>
   cases a with
   | addr q p=>
    cases p with
    | nil=>
     simp only[qbh] at h
     split at h
     ·exact ((Frm.set _ _ _).mono fun r hr=>by simp only[List.mem_singleton] at hr;subst hr;simp[qds,PK.plain,AV.roots]).trans ((qwy ks avs o.2 h).mono hsub)
     ·simp at h
    | cons _ _=>simp[qbh] at h
   | _=>simp[qbh] at h
  | mutv t m m'=>
   simp only[qbh,Option.bind_eq_some_iff] at h
   obtain ⟨S1,h1,h2⟩:=h
   exact ((qbrr h1).mono fun r hr=>by simp[qds,PK.plain,hr]).trans ((qwy ks avs o.2 h2).mono hsub)
  | val t=>exact (qwy ks avs o (by simpa only [qbh] using h)).mono hsub
  | own t m=>exact (qwy ks avs o (by simpa only [qbh] using h)).mono hsub
  | rptr t=>exact (qwy ks avs o (by simpa only [qbh] using h)).mono hsub
  | fn=>exact (qwy ks avs o (by simpa only [qbh] using h)).mono hsub
theorem qbm5 {A:Asks} {S S':Rts} {d:Option Nat} {site:Nat}:∀ (rs:List RK) (r:RDen rs) {β:Bool} {v:AV},(qdt A S d site rs r).dec β=some (v,S')→Frm d.toList S S'
 | [],r,β,v,h=>by
  simp only[qdt,Tr.dec,Option.some.injEq,Prod.mk.injEq] at h
  rw[←h.2];exact Frm.refl _ _
 | [.val t m],r,β,v,h=>by
  simp only[qdt] at h
  split at h
  ·split at h
   ·simp only[Tr.dec,Option.some.injEq,Prod.mk.injEq] at h
    rw[←h.2];exact Frm.refl _ _
   ·simp[Tr.dec] at h
  ·split at h
   ·exact qk5 h
   ·simp[Tr.dec] at h
 | [.ptr t m],r,β,v,h=>by
  simp only[qdt] at h
  split at h
  ·exact qk5 h
  ·simp[Tr.dec] at h
 | q1::q2::rs,r,β,v,h=>by
  have h':(qrf A S d site (q1::q2::rs) r).dec β=some (v,S'):=by cases q1<;>simpa only [qdt] using h
  unfold qrf at h'
  split at h'
  ·cases d with
   | none=>
    simp only[Tr.dec,Option.some.injEq,Prod.mk.injEq] at h'
    rw[←h'.2];exact Frm.refl _ _
   | some d=>
    simp only at h'
    cases hl:layT A S (some d) site (qdb (q1::q2::rs)) (qk0 (q1::q2::rs)) (resX (q1::q2::rs) r) false with
    | ret z=>
     obtain ⟨v1,S1⟩:=z
     rw[hl] at h'
     simp only[Tr.dec,Option.some.injEq,Prod.mk.injEq] at h'
     rw[←h'.2]
     exact qk5 (β:=true) (by rw[hl];rfl)
    | _=>rw[hl] at h';simp[Tr.dec] at h'
  ·simp[Tr.dec] at h'
section
variable {C:Ctx} {D:Den C}
theorem qbdl {A:Asks} {S S':Rts} {d:Option Nat} {site:Nat} {g:FuncId} {avs:List AV} {β:Bool} {v:AV} (h:(qm1 C D A S d site g avs).dec β=some (v,S')):Frm (d.toList++qds (C.sig g).params avs) S S':=by
 unfold qm1 at h
 split at h
 ·simp[Tr.dec] at h
 ·rename_i gd S1 h1
  split at h
  ·simp[Tr.dec] at h
  ·rename_i od S2 h2
   split at h
   ·simp[Tr.dec] at h
   ·split at h
    ·simp only[Tr.dec,Option.bind_eq_some_iff] at h
     obtain ⟨r,_,h⟩:=h
     have f1:Frm (d.toList++qds (C.sig g).params avs) S S1:=(qx2 _ _ h1).mono fun r hr=>by simp[hr]
     split at h
     ·exact f1.trans ((qbm5 _ _ h).mono fun r hr=>by simp[hr])
     ·split at h
      ·cases hlo:qk7 (C.sig g).params avs with
       | false=>rw[hlo] at h;simp[Tr.dec] at h
       | true=>
       rw[hlo] at h
       simp only[Tr.dec] at h
       split at h
       ·simp[Tr.dec] at h
       ·rename_i S3 h3
        exact f1.trans (((qwy _ _ _ h3).mono fun r hr=>by simp[hr]).trans ((qbm5 _ _ h).mono fun r hr=>by simp[hr]))
      ·simp[Tr.dec] at h
    ·simp[Tr.dec] at h
theorem q1c:∀ (ks:List PK) (avs:List AV),∀ r∈qds ks avs,r∈qm avs
 | [],_,r,h=>by simp[qds] at h
 | k::ks,[],r,h=>by simp[qds] at h
 | k::ks,a::avs,r,h=>by
  simp only[qds] at h
  simp only[qm,List.mem_append]
  split at h
  ·exact .inr (q1c ks avs r h)
  ·rcases List.mem_append.1 h with h | h
   ·exact .inl h
   ·exact .inr (q1c ks avs r h)
theorem q0a:∀ (ks:List PK) (avs:List AV) {S:Rts} {z:List AV×Rts},qdf S ks avs=some z→Frm (qm avs) S z.2∧qds ks z.1=qds ks avs
 | [],[],S,z,h=>by
  simp only[qdf,Option.some.injEq] at h
  subst h;exact ⟨Frm.refl _ _,rfl⟩
 | [],_::_,S,z,h=>by simp[qdf] at h
 | k::ks,[],S,z,h=>by cases k<;>simp[qdf] at h
 | k::ks,a::avs,S,z,h=>by
  have plain:(qdf S ks avs).map (fun z=>(a::z.1,z.2))=some z→Frm (qm (a::avs)) S z.2∧qds (k::ks) z.1=qds (k::ks) (a::avs):=by
   intro h
   simp only[Option.map_eq_some_iff] at h
   obtain ⟨z',h1,rfl⟩:=h
   obtain ⟨f,e⟩:=q0a ks avs h1
   exact ⟨f.mono fun r hr=>by simp[qm,hr],by simp only[qds,e]⟩
  cases k with
  | val t=>
   simp only[qdf] at h
   split at h
   ·exact plain h
   ·split at h
    ·rename_i m y S1 htk
     split at h
     ·simp only[Option.map_eq_some_iff] at h
      obtain ⟨z',h1,rfl⟩:=h
      obtain ⟨f,e⟩:=q0a ks avs h1
      exact ⟨((qm8 _ _ htk).mono fun r hr=>by simp[qm,hr]).trans (f.mono fun r hr=>by simp[qm,hr]),by simp only[qds,PK.plain,if_true,e]⟩
     ·simp at h
    ·simp at h
  | _=>exact plain (by simpa only [qdf] using h)
theorem qboy {A:Asks} {S S':Rts} {d:Option Nat} {site:Nat} {g:FuncId} {avs:List AV} {β:Bool} {v:AV} (h:(q3n C D A S d site g avs).dec β=some (v,S')):Frm (d.toList++qm avs) S S':=by
 unfold q3n at h
 split at h
 ·split at h
  ·rename_i z hz
   obtain ⟨f,e⟩:=q0a _ _ hz
   have f2:=qbdl h
   rw[e] at f2
   exact (f.mono fun r hr=>by simp[hr]).trans (f2.mono fun r hr=>by
    rcases List.mem_append.1 hr with hr | hr
    ·simp[hr]
    ·exact List.mem_append.2 (.inr (q1c _ _ r hr)))
  ·simp[Tr.dec] at h
 ·exact (qbdl h).mono fun r hr=>by
   rcases List.mem_append.1 hr with hr | hr
   ·simp[hr]
   ·exact List.mem_append.2 (.inr (q1c _ _ r hr))
theorem qbh8 {A:Asks} {S S':Rts} {d:Option Nat} {site:Nat} {hint:Bool} {u:AV} {β:Bool} {v:AV} (h:(q23 A S d site hint u).dec β=some (v,S')):Frm (d.toList++u.roots) S S':=by
 unfold q23 at h
 split at h
 ·split at h
  ·rename_i m y S1 h1
   have f1:Frm (d.toList++u.roots) S S1:=(qm8 _ _ h1).mono fun r hr=>by simp[hr]
   split at h
   ·split at h
    ·simp only[Tr.dec,Option.some.injEq,Prod.mk.injEq] at h
     rw[←h.2];exact f1
    ·simp[Tr.dec] at h
   ·exact f1.trans ((qk5 h).mono fun r hr=>by simp[hr])
  ·simp[Tr.dec] at h
 ·simp[Tr.dec] at h
theorem qyk {ρ:Operand→AV} (ps:Array (Nat×Operand)):qm ((ps.toList.map fun p=>(p.1,ρ p.2)).map (·.2))=qm ((ps.toList.map (·.2)).map ρ):=by
 simp only[List.map_map];rfl
theorem qbpn {A:Asks} {ρ:Operand→AV} {S S':Rts} {site:Nat} {hint:Bool} {o:Oper} {W:List Nat} (hw:wrOf C ρ o=some W) {β:Bool} {v:AV}
  (h:(opT C D A ρ S site hint o).dec β=some (v,S')):Frm W S S':=by
 have hin:∀ {x:Operand},x∈o.op.operands→∀ r∈(ρ x).roots,r∈qm (o.op.operands.toList.map ρ):=fun hx r hr=>q2j (List.mem_map.2 ⟨_,by simpa using hx,rfl⟩) r hr
 cases ho:o.op with
 | assign x=>
  simp only[wrOf,ho] at hw
  simp only[opT,ho] at h
  have hx:=hin (x:=x) (by rw[ho];simp[Op.operands])
  rw[ho] at hx
  cases hv:ρ x with
  | brw r p s=>
   rw[hv] at hw h hx
   simp only[Option.some.injEq] at hw
   subst hw
   simp only at h
   split at h
   ·simp only[Tr.dec,Option.some.injEq,Prod.mk.injEq] at h
    rw[←h.2];exact Frm.refl _ _
   ·exact (qbh8 h).mono fun r hr=>by rcases List.mem_append.1 hr with h | h;exact List.mem_append.2 (.inl h);exact List.mem_append.2 (.inr (hx r h))
  | pair a b=>
   rw[hv] at hw h hx
   simp only[Option.some.injEq] at hw
   subst hw
   exact (qbh8 h).mono fun r hr=>by rcases List.mem_append.1 hr with h | h;exact List.mem_append.2 (.inl h);exact List.mem_append.2 (.inr (hx r h))
  | _=>rw[hv] at hw;simp at hw
 | alloc t=>
  simp only[wrOf,ho,Option.some.injEq] at hw
  subst hw
  simp only[opT,ho] at h
  split at h
  ·exact (qk5 h).mono fun r hr=>by simp[hr]
  ·simp[Tr.dec] at h
 | box t x=>
  simp only[wrOf,ho,Option.some.injEq] at hw
  subst hw
  have hx:=hin (x:=x) (by rw[ho];simp[Op.operands])
  rw[ho] at hx
  simp only[opT,ho] at h
  split at h
  ·split at h
   ·rename_i m y S1 h1
    have f1:=(qm8 _ _ h1).mono (W':=o.dst.toList++qm ((Op.box t x).operands.toList.map ρ)) fun r hr=>List.mem_append.2 (.inr (hx r hr))
    split at h
    ·split at h
     ·exact f1.trans ((qk5 h).mono fun r hr=>by simp[hr])
     ·simp[Tr.dec] at h
    ·exact f1.trans ((qk5 h).mono fun r hr=>by simp[hr])
   ·simp[Tr.dec] at h
  ·simp[Tr.dec] at h
 | build t ps=>
  simp only[wrOf,ho,Option.some.injEq] at hw
  subst hw
  simp only[opT,ho] at h
  split at h
  ·split at h
   ·rename_i m y S1 h1
    have f1:=(qbip _ _ h1).mono (W':=o.dst.toList++qm ((Op.build t ps).operands.toList.map ρ)) fun r hr=>by
     rw[qyk] at hr
     exact List.mem_append.2 (.inr (by simpa [Op.operands] using hr))
    exact f1.trans ((qk5 h).mono fun r hr=>by simp[hr])
   ·simp[Tr.dec] at h
  ·simp[Tr.dec] at h
 | buildSlice t n ps=>
  simp only[wrOf,ho,Option.some.injEq] at hw
  subst hw
  simp only[opT,ho] at h
  split at h
  ·split at h
   ·rename_i m y S1 h1
    have f1:=(qbnq _ _ h1).mono (W':=o.dst.toList++qm ((Op.buildSlice t n ps).operands.toList.map ρ)) fun r hr=>by
     rw[qyk] at hr
     exact List.mem_append.2 (.inr (by simpa [Op.operands] using hr))
    split at h
    ·split at h
     ·split at h
      ·simp only[Tr.dec,Option.some.injEq,Prod.mk.injEq] at h
       rw[←h.2];exact f1
      ·simp[Tr.dec] at h
     ·exact f1.trans ((qk5 h).mono fun r hr=>by simp[hr])
    ·simp[Tr.dec] at h
   ·simp[Tr.dec] at h
  ·simp[Tr.dec] at h
 | store t x y=>
  simp only[wrOf,ho,Option.some.injEq] at hw
  subst hw
  have hx:=hin (x:=x) (by rw[ho];simp[Op.operands])
  have hy:=hin (x:=y) (by rw[ho];simp[Op.operands])
  rw[ho] at hx hy
  simp only[opT,ho] at h
  split at h
  ·cases hs:q94 S site hint (C.ty t) (ρ x) (ρ y) with
   | none=>rw[hs] at h;simp[Tr.of,Tr.dec] at h
   | some S2=>
    rw[hs] at h
    simp only[Option.map_some,Tr.of,Tr.dec,Option.some.injEq,Prod.mk.injEq] at h
    rw[←h.2]
    unfold q94 at hs
    split at hs
    ·rename_i r p hv
     simp only[Option.bind_eq_some_iff] at hs
     obtain ⟨⟨m,z,S1⟩,h1,hs⟩:=hs
     split at hs
     ·simp only[Option.bind_eq_some_iff] at hs
      obtain ⟨dd,_,hs⟩:=hs
      split at hs
      ·simp only[Option.bind_eq_some_iff,Option.some.injEq] at hs
       obtain ⟨_,_,rfl⟩:=hs
       refine ((qbsz _ _ h1).mono fun r hr=>List.mem_append.2 (.inr (hy r hr))).trans ((Frm.set _ _ _).mono fun r' hr=>?_)
       simp only[List.mem_singleton] at hr
       subst hr
       exact List.mem_append.2 (.inr (hx _ (by rw[hv];simp[AV.roots])))
      ·simp at hs
     ·simp at hs
    ·simp at hs
  ·simp[Tr.dec] at h
 | makeSlice t x y=>
  simp only[wrOf,ho,Option.some.injEq] at hw
  subst hw
  simp only[opT,ho] at h
  split at h
  ·simp only[Tr.dec] at h
   split at h
   ·exact (qk5 h).mono fun r hr=>by simp[hr]
   ·simp at h
  ·simp[Tr.dec] at h
 | slice t x lo hi mx=>
  simp only[wrOf,ho,Option.some.injEq] at hw
  subst hw
  have hx:=hin (x:=x) (by rw[ho];simp[Op.operands])
  rw[ho] at hx
  cases mx with
  | some _=>simp only[opT,ho,Tr.dec] at h;simp at h
  | none=>
   simp only[opT,ho] at h
   unfold q49 at h
   split at h
   ·split at h
    ·simp only[Tr.dec] at h
     split at h
     ·simp only[Option.some.injEq,Prod.mk.injEq] at h;rw[←h.2];exact Frm.refl _ _
     ·simp at h
    ·simp[Tr.dec] at h
   ·split at h
    ·split at h
     ·simp only[Tr.dec] at h
      split at h
      ·simp only[Option.some.injEq,Prod.mk.injEq] at h;rw[←h.2];exact Frm.refl _ _
      ·simp at h
     ·simp[Tr.dec] at h
    ·simp[Tr.dec] at h
   ·rename_i r p s e hv hT
    split at h
    ·split at h
     ·rename_i m xs S2 h1
      have f1:=(qm8 _ _ h1).mono (W':=o.dst.toList++qm ((Op.slice t x lo hi none).operands.toList.map ρ)) fun r hr=>List.mem_append.2 (.inr (hx r (by rw[hv];exact hr)))
      split at h
      ·split at h
       ·simp only[Tr.dec] at h
        split at h
        ·exact f1.trans ((qk5 h).mono fun r hr=>by simp[hr])
        ·simp at h
       ·simp[Tr.dec] at h
      ·simp[Tr.dec] at h
     ·simp[Tr.dec] at h
    ·unfold qbae at h
     split at h
     ·split at h
      ·split at h
       ·simp only[Tr.dec] at h
        split at h
        ·simp only[Option.some.injEq,Prod.mk.injEq] at h;rw[←h.2];exact Frm.refl _ _
        ·simp at h
       ·simp[Tr.dec] at h
      ·simp[Tr.dec] at h
     ·simp[Tr.dec] at h
   ·simp[Tr.dec] at h
 | call c=>
  have hargs:∀ (a:AV),a∈c.args.toList.map ρ→∀ r∈a.roots,r∈qm (o.op.operands.toList.map ρ):=by
   intro a ha r hr
   obtain ⟨x,hx,rfl⟩:=List.mem_map.1 ha
   exact hin (x:=x) (by rw[ho];simp only[Op.operands,Call.operands,Array.mem_append];right;simpa using hx) r hr
  cases hc:c.callee with
  | builtin b=>
   cases b with
   | append=>
    simp only[wrOf,ho,hc,Option.some.injEq] at hw
    subst hw
    rw[ho] at hargs
    simp only[opT,ho,hc] at h
    split at h<;>try (first | (exfalso;contradiction) | (simp[Tr.dec] at h;done))
    rename_i x0 y0 e e' _ _ hmap _
    split at h
    ·cases hint with
     | true=>
      simp only[if_true] at h
      have hx0:=hargs x0 (by rw[hmap];simp)
      unfold q3s at h
      split at h
      ·split at h
       ·split at h
        ·split at h
         ·split at h
          ·simp only[Tr.dec] at h
           split at h
           ·simp only[Option.some.injEq,Prod.mk.injEq] at h
            rw[←h.2]
            exact (Frm.set _ _ _).mono fun r' hr=>by
             simp only[List.mem_singleton] at hr
             subst hr
             exact List.mem_append.2 (.inr (hx0 _ (by simp[AV.roots])))
           ·simp at h
          ·simp[Tr.dec] at h
         ·simp[Tr.dec] at h
        ·simp[Tr.dec] at h
       ·simp[Tr.dec] at h
      ·simp[Tr.dec] at h
     | false=>
     simp only[Bool.false_eq_true,if_false] at h
     unfold quh at h
     have hx0:=hargs x0 (by rw[hmap];simp)
     have hy0:=hargs y0 (by rw[hmap];simp)
     split at h
     ·rename_i m xs S1 h1
      split at h
      ·rename_i my ys S2 h2
       have f1:=((qm8 _ _ h1).mono (W':=o.dst.toList++qm ((Op.call c).operands.toList.map ρ)) fun r hr=>List.mem_append.2 (.inr (hx0 r hr))).trans
        ((qm8 _ _ h2).mono fun r hr=>List.mem_append.2 (.inr (hy0 r hr)))
       split at h
       ·split at h
        ·simp only[Tr.dec] at h
         split at h
         ·exact f1.trans ((qk5 h).mono fun r hr=>by simp[hr])
         ·simp at h
        ·simp[Tr.dec] at h
       ·simp[Tr.dec] at h
      ·simp[Tr.dec] at h
     ·simp[Tr.dec] at h
    ·simp[Tr.dec] at h
   | clear=>
    simp only[wrOf,ho,hc,Option.some.injEq] at hw
    subst hw
    rw[ho] at hargs
    simp only[opT,ho,hc] at h
    split at h<;>try (first | (exfalso;contradiction) | (simp[Tr.dec] at h;done))
    rename_i x0 e _ _ hmap _
    have hx0:=hargs x0 (by rw[hmap];simp)
    unfold q8h at h
    split at h
    ·split at h
     ·split at h
      ·split at h
       ·split at h
        ·simp only[Tr.dec] at h
         split at h
         ·simp only[Option.some.injEq,Prod.mk.injEq] at h
          rw[←h.2]
          exact (Frm.set _ _ _).mono fun r' hr=>by
           simp only[List.mem_singleton] at hr
           subst hr
           exact List.mem_append.2 (.inr (hx0 _ (by simp[AV.roots])))
         ·simp only[Option.some.injEq,Prod.mk.injEq] at h;rw[←h.2];exact Frm.refl _ _
        ·simp[Tr.dec] at h
       ·simp[Tr.dec] at h
      ·simp[Tr.dec] at h
     ·simp[Tr.dec] at h
    ·simp[Tr.dec] at h
   | len=>simp[wrOf,ho,hc] at hw
   | min=>simp[wrOf,ho,hc] at hw
   | max=>simp[wrOf,ho,hc] at hw
   | _=>simp only[opT,ho,hc,Tr.dec] at h;simp at h
  | value f=>
   simp only[wrOf,ho,hc] at hw
   simp only[opT,ho,hc] at h
   cases hv:ρ f with
   | clo g caps=>
    rw[hv] at hw h
    simp only at hw h
    split at hw
    ·simp only[Option.some.injEq] at hw
     subst hw
     refine (qboy h).mono fun r hr=>?_
     rcases List.mem_append.1 hr with hr | hr
     ·exact List.mem_append.2 (.inl hr)
     ·refine List.mem_append.2 (.inr ?_)
      rw[qu2] at hr
      rcases hr with hr | hr
      ·simp only[Op.operands,Call.operands,hc]
       have:∀ l:List AV,∀ a,r∈qm l→r∈qm (a::l):=fun l a h=>by simp[qm,h]
       simpa using this _ _ hr
      ·have h1:=qvl caps r hr
       have h2:=hin (x:=f) (by rw[ho];simp[Op.operands,Call.operands,hc]) r (by rw[hv];simpa [AV.roots] using h1)
       rw[ho] at h2
       exact h2
    ·rename_i hns
     simp only[q3n,if_neg hns] at h
     split at hw
     ·simp at hw
     ·simp only[Option.some.injEq] at hw
      subst hw
      exact qbdl h
   | cloV cl=>rw[hv] at hw;simp at hw
   | _=>rw[hv] at h;simp[Tr.dec] at h
  | invoke r m=>simp only[opT,ho,hc,Tr.dec] at h;simp at h
 | _=>first | (simp[wrOf,ho] at hw;done) | (simp only[opT,ho,Tr.dec] at h;simp at h)
end
end Go.V

namespace Go.V
noncomputable section
open Go
theorem root_set (S:Rts) (q:Nat) (x:Option Root) (r:Nat):(S.setRoot q x).root r=if r=q∧q<S.length then x else S.root r:=by
 simp only[Rts.root_eq,Rts.setRoot_eq,List.getD,List.getElem?_set]
 by_cases h:q=r
 ·subst h
  by_cases hl:q<S.length
  ·simp[hl]
  ·simp[hl]
 ·rw[if_neg h,if_neg (fun k=>h k.1.symm)]
theorem qui {F:List Nat} {S T:Rts} (hr:qbw F S T) (hl:T.length=S.length) (q:Nat) (x:Option Root):qbw F (S.setRoot q x) (T.setRoot q x):=by
 intro r h
 rw[root_set,root_set,hl,hr r h]
def Lk {α:Type} (F:List Nat) (X Y:Option (α×Rts)):Prop:=∀ a S',X=some (a,S')→∃ T',Y=some (a,T')∧qbw F S' T'∧T'.length=S'.length
theorem q30 {F:List Nat}:∀ (t:Ty) (a:AV) {S T:Rts} {m:Mk} {x:t.den} {S':Rts},qbw F S T→T.length=S.length→(∀ r∈a.roots,r∈F)→tk S t a=some (m,x,S')→
  ∃ T',tk T t a=some (m,x,T')∧qbw F S' T'∧T'.length=S'.length
 | t,.val t' y,S,T,m,x,S',hr,hl,hF,h=>by
  have e:∀ S:Rts,tk S t (.val t' y)=(qbs t' t y).bind (fun x=>some (Mk.no,x,S)):=by intro S;cases t<;>simp only[tk]
  rw[e] at h
  simp only[Option.bind_eq_some_iff,Option.some.injEq,Prod.mk.injEq] at h
  obtain ⟨z,hz,rfl,rfl,rfl⟩:=h
  exact ⟨T,by rw[e,hz];rfl,hr,hl⟩
 | t,.litB b,S,T,m,x,S',hr,hl,hF,h=>by
  cases t<;>simp[tk] at h
  obtain ⟨rfl,rfl,rfl⟩:=h
  exact ⟨T,by simp[tk],hr,hl⟩
 | t,.unit,S,T,m,x,S',hr,hl,hF,h=>by
  cases t<;>simp[tk] at h
  obtain ⟨rfl,rfl⟩:=h
  exact ⟨T,by simp[tk],hr,hl⟩
 | t,.nils,S,T,m,x,S',hr,hl,hF,h=>by
  cases t<;>simp[tk] at h
  obtain ⟨rfl,rfl,rfl⟩:=h
  exact ⟨T,by simp[tk],hr,hl⟩
 | t,.brw r p s,S,T,m,x,S',hr,hl,hF,h=>by
  cases t with
  | sl e=>
   have hroot:=hr r (hF r (by simp[AV.roots]))
   simp only[tk] at h ⊢
   rw[hroot]
   cases hR:S.root r with
   | none=>rw[hR] at h;simp at h
   | some R=>
    rw[hR] at h
    simp only at h ⊢
    cases hf:V.focus R.ty R.ms R.x p with
    | none=>rw[hf] at h;simp at h
    | some d=>
     obtain ⟨dt,dm,dx⟩:=d
     rw[hf] at h
     cases dt with
     | sl t2=>
      cases dm with
      | own s' m2=>
       simp only at h ⊢
       by_cases hs:s=s'
       ·rw[if_pos hs] at h ⊢
        simp only[Option.bind_eq_some_iff,Option.some.injEq,Prod.mk.injEq] at h ⊢
        obtain ⟨z,hz,m',hm',rfl,rfl,rfl⟩:=h
        exact ⟨_,⟨z,hz,m',hm',rfl,rfl,rfl⟩,qui hr hl _ _,by simp[Rts.setRoot_eq,hl]⟩
       ·rw[if_neg hs] at h;simp at h
      | _=>simp at h
     | _=>simp at h
  | _=>simp[tk] at h
 | t,.pair u v,S,T,m,x,S',hr,hl,hF,h=>by
  cases t with
  | pair a b=>
   simp only[tk,Option.bind_eq_some_iff,Option.some.injEq,Prod.mk.injEq] at h
   obtain ⟨⟨m1,x1,S1⟩,h1,⟨m2,x2,S2⟩,h2,rfl,rfl,rfl⟩:=h
   obtain ⟨T1,k1,k2,k3⟩:=q30 a u hr hl (fun r h=>hF r (by simp[AV.roots,h])) h1
   obtain ⟨T2,q1,q2,q3⟩:=q30 b v k2 k3 (fun r h=>hF r (by simp[AV.roots,h])) h2
   exact ⟨T2,by simp only[tk,k1,Option.bind_some,q1],q2,q3⟩
  | _=>simp[tk] at h
 | t,.undef,S,T,m,x,S',hr,hl,hF,h=>by cases t<;>simp[tk] at h
 | t,.skip,S,T,m,x,S',hr,hl,hF,h=>by cases t<;>simp[tk] at h
 | t,.view _ _ _ _ _,S,T,m,x,S',hr,hl,hF,h=>by cases t<;>simp[tk] at h
 | t,.addr _ _,S,T,m,x,S',hr,hl,hF,h=>by cases t<;>simp[tk] at h
 | t,.raddr _ _,S,T,m,x,S',hr,hl,hF,h=>by cases t<;>simp[tk] at h
 | t,.tup _,S,T,m,x,S',hr,hl,hF,h=>by cases t<;>simp[tk] at h
 | t,.clo _ _,S,T,m,x,S',hr,hl,hF,h=>by cases t<;>simp[tk] at h
 | t,.cloV _,S,T,m,x,S',hr,hl,hF,h=>by cases t<;>simp[tk] at h
theorem qra {F:List Nat} {A:Asks} {S T:Rts} (hr:qbw F S T) (hl:T.length=S.length) {d:Option Nat} {site:Nat} {t:Ty} {m:Mk} {x:t.den} {mem:Bool} {β:Bool} :
  Lk F ((layT A S d site t m x mem).dec β) ((layT A T d site t m x mem).dec β):=by
 intro v S' h
 cases d with
 | none=>
  simp only[layT,Tr.dec,Option.some.injEq,Prod.mk.injEq] at h ⊢
  obtain ⟨rfl,rfl⟩:=h
  exact ⟨T,⟨rfl,rfl⟩,hr,hl⟩
 | some d=>
  simp only[layT,hl] at h ⊢
  split at h
  ·simp[Tr.dec] at h
  ·rename_i h1
   simp only[h1]
   split at h
   ·rename_i h2
    split at h
    ·rename_i h3
     simp only[Tr.dec,Option.some.injEq,Prod.mk.injEq] at h
     obtain ⟨rfl,rfl⟩:=h
     exact ⟨_,by simp[h2,h3,Tr.dec],qui hr hl _ _,by simp[Rts.setRoot_eq,hl]⟩
    ·simp[Tr.dec] at h
   ·rename_i h2
    split at h
    ·rename_i h3
     simp only[Tr.dec,Option.some.injEq,Prod.mk.injEq] at h
     obtain ⟨rfl,rfl⟩:=h
     exact ⟨T,by simp[h2,h3,Tr.dec],hr,hl⟩
    ·rename_i h3
     split at h
     ·rename_i h4
      simp only[Tr.dec,Option.some.injEq,Prod.mk.injEq] at h
      obtain ⟨rfl,rfl⟩:=h
      refine ⟨_,?_,qui hr hl _ _,by simp[Rts.setRoot_eq,hl]⟩
      simp only[h2,Bool.false_eq_true,if_false,h3,h4,if_true,Tr.dec]
     ·simp[Tr.dec] at h
theorem qbj8 {F:List Nat} {T0:Ty}:∀ (l:List (Nat×AV)) (acc:Mk×T0.den) {S T:Rts} {m:Mk} {x:T0.den} {S':Rts},qbw F S T→T.length=S.length→(∀ r∈qm (l.map (·.2)),r∈F)→
  qdx S T0 acc l=some (m,x,S')→∃ T',qdx T T0 acc l=some (m,x,T')∧qbw F S' T'∧T'.length=S'.length
 | [],acc,S,T,m,x,S',hr,hl,hF,h=>by
  simp only[qdx,Option.some.injEq,Prod.mk.injEq] at h ⊢
  obtain ⟨rfl,rfl,rfl⟩:=h
  exact ⟨T,⟨rfl,rfl,rfl⟩,hr,hl⟩
 | (i,v)::l,acc,S,T,m,x,S',hr,hl,hF,h=>by
  simp only[qdx,Option.bind_eq_some_iff] at h
  obtain ⟨d,hd,⟨m1,x1,S1⟩,h1,r,h3,h2⟩:=h
  obtain ⟨T1,k1,k2,k3⟩:=q30 _ v hr hl (fun r h=>hF r (by simp[qm,h])) h1
  obtain ⟨T2,q1,q2,q3⟩:=qbj8 l _ k2 k3 (fun r h=>hF r (by simp only[List.map_cons,qm,List.mem_append];exact .inr h)) h2
  refine ⟨T2,?_,q2,q3⟩
  simp only[qdx,Option.bind_eq_some_iff]
  exact ⟨d,hd,(m1,x1,T1),k1,r,h3,q1⟩
theorem qbp4 {F:List Nat} {e:Ty}:∀ (l:List (Nat×AV)) (acc:Mk×List e.den) {S T:Rts} {m:Mk} {x:List e.den} {S':Rts},qbw F S T→T.length=S.length→(∀ r∈qm (l.map (·.2)),r∈F)→
  qgu S e acc l=some (m,x,S')→∃ T',qgu T e acc l=some (m,x,T')∧qbw F S' T'∧T'.length=S'.length
 | [],acc,S,T,m,x,S',hr,hl,hF,h=>by
  simp only[qgu,Option.some.injEq,Prod.mk.injEq] at h ⊢
  obtain ⟨rfl,rfl,rfl⟩:=h
  exact ⟨T,⟨rfl,rfl,rfl⟩,hr,hl⟩
 | (i,v)::l,acc,S,T,m,x,S',hr,hl,hF,h=>by
  simp only[qgu] at h ⊢
  split at h
  ·rename_i hi
   simp only[Option.bind_eq_some_iff] at h
   obtain ⟨⟨m1,x1,S1⟩,h1,h2⟩:=h
   obtain ⟨T1,k1,k2,k3⟩:=q30 _ v hr hl (fun r h=>hF r (by simp[qm,h])) h1
   obtain ⟨T2,q1,q2,q3⟩:=qbp4 l _ k2 k3 (fun r h=>hF r (by simp only[List.map_cons,qm,List.mem_append];exact .inr h)) h2
   refine ⟨T2,?_,q2,q3⟩
   rw[if_pos hi]
   simp only[Option.bind_eq_some_iff]
   exact ⟨(m1,x1,T1),k1,q1⟩
  ·simp at h
theorem qbqh {F:List Nat} {A:Asks} {S T:Rts} (hr:qbw F S T) (hl:T.length=S.length) {d:Option Nat} {site:Nat} {t:Ty} {x y:AV} (hx:∀ r∈x.roots,r∈F) (hy:∀ r∈y.roots,r∈F) {β:Bool} :
  Lk F ((quh A S d site t x y).dec β) ((quh A T d site t x y).dec β):=by
 intro v S' h
 unfold quh at h ⊢
 cases h1:tk S (.sl t) x with
 | none=>rw[h1] at h;simp[Tr.dec] at h
 | some z=>
  obtain ⟨m1,xs,S1⟩:=z
  obtain ⟨T1,k1,k2,k3⟩:=q30 _ x hr hl hx h1
  rw[h1] at h
  rw[k1]
  cases m1 with
  | own s m=>
   simp only at h ⊢
   cases h2:tk S1 (.sl t) y with
   | none=>rw[h2] at h;simp[Tr.dec] at h
   | some z=>
    obtain ⟨my,ys,S2⟩:=z
    obtain ⟨T2,q1,q2,q3⟩:=q30 _ y k2 k3 hy h2
    rw[h2] at h
    rw[q1]
    simp only at h ⊢
    cases hm:elMk my with
    | none=>rw[hm] at h;simp[Tr.dec] at h
    | some m'=>
     rw[hm] at h
     simp only at h ⊢
     split at h
     ·rename_i h3
      rw[if_pos h3]
      simp only[Tr.dec] at h ⊢
      split at h
      ·exact qra q2 q3 v S' h
      ·simp at h
     ·simp[Tr.dec] at h
  | _=>simp[Tr.dec] at h
theorem qbso {F:List Nat} {S T:Rts} (hr:qbw F S T) (hl:T.length=S.length) {t:Ty} {x y:AV} (hx:∀ r∈x.roots,r∈F) {β:Bool} :
  Lk F ((q3s S t x y).dec β) ((q3s T t x y).dec β):=by
 intro v S' h
 unfold q3s at h ⊢
 split at h
 ·rename_i r p s t2 ys
  have hroot:=hr r (hx r (by simp[AV.roots]))
  try simp only
  rw[hroot]
  cases hR:S.root r with
  | none=>rw[hR] at h;simp[Tr.dec] at h
  | some R=>
   rw[hR] at h
   simp only at h ⊢
   split at h
   ·rename_i t' s' m xs hf
    split at h
    ·rename_i hc
     rw[if_pos hc]
     split at h
     ·rename_i a b r' e1 e2 e3
      simp only[Tr.dec] at h ⊢
      split at h
      ·simp only[Option.some.injEq,Prod.mk.injEq] at h
       obtain ⟨rfl,rfl⟩:=h
       exact ⟨_,rfl,qui hr hl _ _,by simp[Rts.setRoot_eq,hl]⟩
      ·simp at h
     ·simp[Tr.dec] at h
    ·simp[Tr.dec] at h
   ·simp[Tr.dec] at h
 ·simp[Tr.dec] at h
theorem qbq5 {F:List Nat} {A:Asks} {S T:Rts} (hr:qbw F S T) (hl:T.length=S.length) {U:Ty} {d:Option Nat} {site:Nat} {x:AV} {lo hi:Option AV} (hx:∀ r∈x.roots,r∈F) {β:Bool} :
  Lk F ((q49 A S U d site x lo hi).dec β) ((q49 A T U d site x lo hi).dec β):=by
 intro v S' h
 unfold q49 at h ⊢
 split at h
 ·split at h
  ·simp only[Tr.dec] at h ⊢
   split at h
   ·simp only[Option.some.injEq,Prod.mk.injEq] at h
    obtain ⟨rfl,rfl⟩:=h
    rename_i hc
    exact ⟨T,by simp[hc],hr,hl⟩
   ·simp at h
  ·simp[Tr.dec] at h
 ·split at h
  ·split at h
   ·rename_i hc
    simp only[Tr.dec] at h ⊢
    rw[if_pos hc]
    split at h
    ·simp only[Option.some.injEq,Prod.mk.injEq] at h
     obtain ⟨rfl,rfl⟩:=h
     rename_i hc
     exact ⟨T,by simp[Tr.dec,hc],hr,hl⟩
    ·simp at h
   ·simp[Tr.dec] at h
  ·simp[Tr.dec] at h
 ·rename_i r p s e
  split at h
  ·cases h1:tk S (.sl e) (.brw r p s) with
   | none=>rw[h1] at h;simp[Tr.dec] at h
   | some z=>
    obtain ⟨m1,xs,S1⟩:=z
    obtain ⟨T1,k1,k2,k3⟩:=q30 _ _ hr hl hx h1
    rw[h1] at h
    simp only[k1]
    cases m1 with
    | own s m=>
     simp only at h ⊢
     split at h
     ·split at h
      ·rename_i hc
       rw[if_pos hc]
       simp only[Tr.dec] at h ⊢
       split at h
       ·rename_i hd
        try simp only[hd]
        exact qra k2 k3 v S' h
       ·simp at h
      ·simp[Tr.dec] at h
     ·simp[Tr.dec] at h
    | _=>simp[Tr.dec] at h
  ·unfold qbae at h ⊢
   have hf:=qij hr (hx r (by simp[AV.roots])) p
   rw[hf]
   split at h
   ·split at h
    ·rename_i hq
     try simp only[hq]
     split at h
     ·rename_i hc
      rw[if_pos hc]
      simp only[Tr.dec] at h ⊢
      split at h
      ·simp only[Option.some.injEq,Prod.mk.injEq] at h
       obtain ⟨rfl,rfl⟩:=h
       rename_i hd
       exact ⟨T,by simp[hd],hr,hl⟩
      ·simp at h
     ·simp[Tr.dec] at h
    ·simp[Tr.dec] at h
   ·simp[Tr.dec] at h
 ·simp[Tr.dec] at h
theorem qbpo {F:List Nat} {A:Asks} {S T:Rts} (hr:qbw F S T) (hl:T.length=S.length) {d:Option Nat} {site:Nat}:∀ (rs:List RK) (r:RDen rs) {β:Bool},Lk F ((qdt A S d site rs r).dec β) ((qdt A T d site rs r).dec β)
 | [],r,β=>by
  intro v S' h
  simp only[qdt,Tr.dec,Option.some.injEq,Prod.mk.injEq] at h ⊢
  obtain ⟨rfl,rfl⟩:=h
  exact ⟨T,⟨rfl,rfl⟩,hr,hl⟩
 | [.val t m],r,β=>by
  intro v S' h
  simp only[qdt] at h ⊢
  split at h
  ·rename_i hs
   rw[if_pos hs]
   split at h
   ·rename_i hc
    rw[if_pos hc]
    simp only[Tr.dec,Option.some.injEq,Prod.mk.injEq] at h ⊢
    obtain ⟨rfl,rfl⟩:=h
    exact ⟨T,⟨rfl,rfl⟩,hr,hl⟩
   ·simp[Tr.dec] at h
  ·rename_i hs
   rw[if_neg hs]
   split at h
   ·rename_i hc
    rw[if_pos hc]
    exact qra hr hl v S' h
   ·simp[Tr.dec] at h
 | [.ptr t m],r,β=>by
  intro v S' h
  simp only[qdt] at h ⊢
  split at h
  ·rename_i hc
   rw[if_pos hc]
   exact qra hr hl v S' h
  ·simp[Tr.dec] at h
 | q1::q2::rs,r,β=>by
  intro v S' h
  have e:∀ S:Rts,qdt A S d site (q1::q2::rs) r=qrf A S d site (q1::q2::rs) r:=by intro S;cases q1<;>simp only[qdt]
  rw[e] at h ⊢
  unfold qrf at h ⊢
  split at h
  ·rename_i hc
   rw[if_pos hc]
   cases d with
   | none=>
    simp only[Tr.dec,Option.some.injEq,Prod.mk.injEq] at h ⊢
    obtain ⟨rfl,rfl⟩:=h
    exact ⟨T,⟨rfl,rfl⟩,hr,hl⟩
   | some d=>
    simp only at h ⊢
    cases hL:layT A S (some d) site (qdb (q1::q2::rs)) (qk0 (q1::q2::rs)) (resX (q1::q2::rs) r) false with
    | ret z=>
     obtain ⟨v1,S1⟩:=z
     rw[hL] at h
     simp only[Tr.dec,Option.some.injEq,Prod.mk.injEq] at h
     obtain ⟨rfl,rfl⟩:=h
     obtain ⟨T1,k1,k2,k3⟩:=qra (A:=A) (d:=some d) (site:=site) (t:=qdb (q1::q2::rs)) (m:=qk0 (q1::q2::rs)) (x:=resX (q1::q2::rs) r) (mem:=false) (β:=true) hr hl v1 S1 (by rw[hL];rfl)
     cases hM:layT A T (some d) site (qdb (q1::q2::rs)) (qk0 (q1::q2::rs)) (resX (q1::q2::rs) r) false with
     | ret z=>
      obtain ⟨v2,S2⟩:=z
      rw[hM] at k1
      simp only[Tr.dec,Option.some.injEq,Prod.mk.injEq] at k1
      obtain ⟨rfl,rfl⟩:=k1
      exact ⟨_,rfl,k2,k3⟩
     | fail=>rw[hM] at k1;simp[Tr.dec] at k1
     | _=>
      exfalso
      simp only[layT] at hM
      repeat' split at hM
      all_goals simp at hM
    | _=>rw[hL] at h;simp[Tr.dec] at h
  ·simp[Tr.dec] at h
section
variable {C:Ctx} {D:Den C}
theorem q5p {S T:Rts}:∀ (ks:List PK) (avs:List AV),ks.all PK.loc=true→qbb T ks avs=(qbb S ks avs).map fun z=>(z.1,T)
 | [],[],_=>rfl
 | [],_::_,_=>rfl
 | k::ks,[],_=>by cases k<;>rfl
 | k::ks,a::avs,h=>by
  simp only[List.all_cons,Bool.and_eq_true] at h
  cases k with
  | val t=>simp only[qbb];exact q5p ks avs h.2
  | rptr t=>simp only[qbb];exact q5p ks avs h.2
  | mutp t m m'=>simp only[qbb];exact q5p ks avs h.2
  | fn=>simp only[qbb];exact q5p ks avs h.2
  | _=>simp[PK.loc] at h
theorem qbtb {S rt:Rts} {ks:List PK} {avs:List AV} {g:GDen ks} (hp:ks.all PK.loc=true) (h:qbb S ks avs=some (g,rt)):rt=S:=by
 have:=q5p (S:=S) (T:=S) ks avs hp
 rw[h] at this
 simp only[Option.map_some,Option.some.injEq,Prod.mk.injEq,true_and] at this
 exact this
theorem q47 {F:List Nat}:∀ (ks:List PK) (avs:List AV) {S T:Rts} {o:ODen ks} {S':Rts},qbw F S T→T.length=S.length→ks.all PK.loc=true→(∀ r∈qm avs,r∈F)→q9 S ks avs=some (o,S')→
  ∃ T',q9 T ks avs=some (o,T')∧qbw F S' T'∧T'.length=S'.length
 | [],[],S,T,o,S',hr,hl,_,_,h=>by
  simp only[q9,Option.some.injEq,Prod.mk.injEq] at h
  obtain ⟨_,rfl⟩:=h
  exact ⟨T,rfl,hr,hl⟩
 | [],_::_,S,T,o,S',hr,hl,_,_,h=>by simp[q9] at h
 | k::ks,[],S,T,o,S',hr,hl,_,_,h=>by cases k<;>simp[q9] at h
 | k::ks,a::avs,S,T,o,S',hr,hl,hp,hF,h=>by
  simp only[List.all_cons,Bool.and_eq_true] at hp
  have hF2:∀ r∈qm avs,r∈F:=fun r h=>hF r (by simp[qm,h])
  cases k with
  | val t=>simp only[q9] at h ⊢;exact q47 ks avs hr hl hp.2 hF2 h
  | rptr t=>simp only[q9] at h ⊢;exact q47 ks avs hr hl hp.2 hF2 h
  | fn=>simp only[q9] at h ⊢;exact q47 ks avs hr hl hp.2 hF2 h
  | mutp t m m'=>
   cases a with
   | addr q p=>
    cases p with
    | nil=>
     have hq:=hr q (hF q (by simp[qm,AV.roots]))
     simp only[q9] at h ⊢
     rw[hq]
     cases hR:S.root q with
     | none=>rw[hR] at h;simp at h
     | some R=>
      rw[hR] at h
      simp only at h ⊢
      split at h
      ·rename_i hc
       rw[if_pos hc]
       simp only[Option.bind_eq_some_iff,Option.some.injEq,Prod.mk.injEq] at h ⊢
       obtain ⟨x,hx,⟨o2,S2⟩,h2,rfl,rfl⟩:=h
       obtain ⟨T2,q1,q2,q3⟩:=q47 ks avs (qui hr hl q none) (by simp[Rts.setRoot_eq,hl]) hp.2 hF2 h2
       exact ⟨T2,⟨x,hx,(o2,T2),q1,rfl,rfl⟩,q2,q3⟩
      ·simp at h
    | cons _ _=>simp[q9] at h
   | _=>simp[q9] at h
  | _=>simp[PK.loc] at hp
theorem q9x {F:List Nat} {site:Nat}:∀ (ks:List PK) (avs:List AV) (o:ODen ks) {S T:Rts} {S':Rts},qbw F S T→T.length=S.length→ks.all PK.loc=true→qbh S site ks avs o=some S'→
  ∃ T',qbh T site ks avs o=some T'∧qbw F S' T'∧T'.length=S'.length
 | [],[],o,S,T,S',hr,hl,_,h=>by
  simp only[qbh,Option.some.injEq] at h
  subst h
  exact ⟨T,rfl,hr,hl⟩
 | [],_::_,o,S,T,S',hr,hl,_,h=>by simp[qbh] at h
 | k::ks,[],o,S,T,S',hr,hl,_,h=>by cases k<;>simp[qbh] at h
 | k::ks,a::avs,o,S,T,S',hr,hl,hp,h=>by
  simp only[List.all_cons,Bool.and_eq_true] at hp
  cases k with
  | val t=>simp only[qbh] at h ⊢;exact q9x ks avs o hr hl hp.2 h
  | rptr t=>simp only[qbh] at h ⊢;exact q9x ks avs o hr hl hp.2 h
  | fn=>simp only[qbh] at h ⊢;exact q9x ks avs o hr hl hp.2 h
  | mutp t m m'=>
   cases a with
   | addr q p=>
    cases p with
    | nil=>
     simp only[qbh] at h ⊢
     split at h
     ·rename_i hc
      rw[if_pos hc]
      exact q9x ks avs o.2 (qui hr hl q _) (by simp[Rts.setRoot_eq,hl]) hp.2 h
     ·simp at h
    | cons _ _=>simp[qbh] at h
   | _=>simp[qbh] at h
  | _=>simp[PK.loc] at hp
theorem qbsn {F:List Nat} {A:Asks} {S T:Rts} (hr:qbw F S T) (hl:T.length=S.length) {d:Option Nat} {site:Nat} {g:FuncId} {avs:List AV} (hp:(C.sig g).params.all PK.loc=true) (has:∀ r∈qm avs,r∈F) {β:Bool} :
  Lk F ((qm1 C D A S d site g avs).dec β) ((qm1 C D A T d site g avs).dec β):=by
 intro v S' h
 unfold qm1 at h ⊢
 rw[q5p (S:=S) (T:=T) _ _ hp]
 cases h1:qbb S (C.sig g).params avs with
 | none=>rw[h1] at h;simp[Tr.dec] at h
 | some z=>
  obtain ⟨gd,S1⟩:=z
  obtain rfl:=qbtb hp h1
  rw[h1] at h
  simp only[Option.map_some] at h ⊢
  cases h2:q9 S1 (C.sig g).params avs with
  | none=>rw[h2] at h;simp[Tr.dec] at h
  | some z=>
   obtain ⟨od,S2⟩:=z
   obtain ⟨T2,k1,k2,k3⟩:=q47 _ _ hr hl hp has h2
   rw[h2] at h
   simp only[k1] at h ⊢
   rw[qfp _ _ _ _ (k2.sub has)]
   cases h3:qcg S2 (C.sig g).params avs gd od with
   | none=>rw[h3] at h;simp[Tr.dec] at h
   | some aa=>
    rw[h3] at h
    simp only at h ⊢
    split at h
    ·rename_i hc
     rw[if_pos hc]
     simp only[Tr.dec] at h ⊢
     cases hD:D g aa with
     | none=>rw[hD] at h;simp at h
     | some rr=>
      rw[hD] at h
      simp only[Option.bind_some] at h ⊢
      split at h
      ·rename_i hn
       rw[if_pos hn]
       exact qbpo hr hl _ _ v S' h
      ·rename_i hn
       rw[if_neg hn]
       split at h
       ·rename_i hfr
        rw[if_pos hfr]
        simp only[Tr.dec] at h ⊢
        split at h
        ·rename_i hlo
         cases ho:qbh S1 site (C.sig g).params avs rr.2 with
         | none=>rw[ho] at h;simp[Tr.dec] at h
         | some S3=>
          obtain ⟨T3,q1,q2,q3⟩:=q9x _ _ _ hr hl hp ho
          rw[ho] at h
          simp only at h
          obtain ⟨T',r1,r2,r3⟩:=qbpo q2 q3 _ _ v S' h
          exact ⟨T',by rw[q1];exact r1,r2,r3⟩
        ·simp at h
       ·simp[Tr.dec] at h
    ·simp[Tr.dec] at h
theorem qbtw {F:List Nat} {A:Asks} {ρ:Operand→AV} {S T:Rts} (hr:qbw F S T) (hl:T.length=S.length) {site:Nat} {hint:Bool} {o:Oper} (hlc:qrp C ρ o=true)
  (hF:∀ r∈qm (o.op.operands.toList.map ρ),r∈F) {β:Bool}:Lk F ((opT C D A ρ S site hint o).dec β) ((opT C D A ρ T site hint o).dec β):=by
 have hin:∀ {x:Operand},x∈o.op.operands→∀ r∈(ρ x).roots,r∈F:=fun hx r hr=>hF r (q2j (List.mem_map.2 ⟨_,by simpa using hx,rfl⟩) r hr)
 intro v S' h
 cases ho:o.op with
 | alloc t=>
  simp only[opT,ho] at h ⊢
  split at h
  ·rename_i hc
   rw[if_pos hc];exact qra hr hl v S' h
  ·simp[Tr.dec] at h
 | box t x=>
  have hx:=hin (x:=x) (by rw[ho];simp[Op.operands])
  simp only[opT,ho] at h ⊢
  split at h
  ·rename_i hc
   rw[if_pos hc]
   cases h1:tk S (C.ty t) (ρ x) with
   | none=>rw[h1] at h;simp[Tr.dec] at h
   | some z=>
    obtain ⟨m,y,S1⟩:=z
    obtain ⟨T1,k1,k2,k3⟩:=q30 _ _ hr hl hx h1
    rw[h1] at h
    rw[k1]
    simp only at h ⊢
    split at h
    ·rename_i hh
     rw[if_pos hh]
     split at h
     ·rename_i hm
      rw[if_pos hm];exact qra k2 k3 v S' h
     ·simp[Tr.dec] at h
    ·rename_i hh
     rw[if_neg hh];exact qra k2 k3 v S' h
  ·simp[Tr.dec] at h
 | build t ps=>
  simp only[opT,ho] at h ⊢
  split at h
  ·rename_i hc
   rw[if_pos hc]
   cases h1:qdx S (C.ty t) (Mk.top (C.ty t),(C.ty t).zero) (ps.toList.map fun p=>(p.1,ρ p.2)) with
   | none=>rw[h1] at h;simp[Tr.dec] at h
   | some z=>
    obtain ⟨m,y,S1⟩:=z
    obtain ⟨T1,k1,k2,k3⟩:=qbj8 _ _ hr hl (fun r hr=>by rw[qyk] at hr;exact hF r (by rw[ho];simpa [Op.operands] using hr)) h1
    rw[h1] at h
    rw[k1]
    exact qra k2 k3 v S' h
  ·simp[Tr.dec] at h
 | buildSlice t n ps=>
  simp only[opT,ho] at h ⊢
  split at h
  ·rename_i e he
   cases h1:qgu S e (Mk.top e,List.replicate n e.zero) (ps.toList.map fun p=>(p.1,ρ p.2)) with
   | none=>rw[h1] at h;simp[Tr.dec] at h
   | some z=>
    obtain ⟨m,y,S1⟩:=z
    obtain ⟨T1,k1,k2,k3⟩:=qbp4 _ _ hr hl (fun r hr=>by rw[qyk] at hr;exact hF r (by rw[ho];simpa [Op.operands] using hr)) h1
    rw[h1] at h
    simp only[k1]
    simp only at h
    split at h
    ·rename_i hc
     rw[if_pos hc]
     split at h
     ·rename_i hh
      rw[if_pos hh]
      split at h
      ·rename_i hm
       rw[if_pos hm]
       simp only[Tr.dec,Option.some.injEq,Prod.mk.injEq] at h ⊢
       obtain ⟨rfl,rfl⟩:=h
       exact ⟨T1,⟨rfl,rfl⟩,k2,k3⟩
      ·simp[Tr.dec] at h
     ·rename_i hh
      rw[if_neg hh]
      exact qra k2 k3 v S' h
    ·simp[Tr.dec] at h
  ·simp[Tr.dec] at h
 | makeSlice t x y=>
  simp only[opT,ho] at h ⊢
  split at h
  ·simp only[Tr.dec] at h ⊢
   split at h
   ·rename_i hc
    try simp only[hc]
    exact qra hr hl v S' h
   ·simp at h
  ·simp[Tr.dec] at h
 | slice t x lo hi mx=>
  cases mx with
  | none=>
   have hx:=hin (x:=x) (by rw[ho];simp[Op.operands])
   simp only[opT,ho] at h ⊢
   exact qbq5 hr hl hx v S' h
  | some _=>simp[qrp,ho] at hlc
 | call c=>
  simp only[qrp,ho] at hlc
  cases hc:c.callee with
  | builtin b=>
   rw[hc] at hlc
   cases b<;>simp only[Bool.false_eq_true] at hlc
   have hargs:∀ x∈c.args,∀ r∈(ρ x).roots,r∈F:=fun x hx=>hin (by rw[ho];simp only[Op.operands,Call.operands,Array.mem_append];right;simpa using hx)
   simp only[opT,ho,hc] at h ⊢
   split at h
   ·exact Builtin.noConfusion ‹Builtin.append=Builtin.len›
   ·exact Builtin.noConfusion ‹Builtin.append=Builtin.len›
   ·rename_i x y t t' ts e1 e2 e3
    have hm:∀ z∈c.args.toList.map ρ,∀ r∈z.roots,r∈F:=by
     intro z hz
     obtain ⟨w,hw,rfl⟩:=List.mem_map.1 hz
     exact hargs w (by simpa using hw)
    rw[e2] at hm
    try simp only[e2,e3]
    split at h
    ·rename_i ht
     rw[if_pos ht]
     split at h
     ·rename_i hh
      rw[if_pos hh]
      exact qbso hr hl (hm x (by simp)) v S' h
     ·rename_i hh
      rw[if_neg hh]
      exact qbqh hr hl (hm x (by simp)) (hm y (by simp)) v S' h
    ·simp[Tr.dec] at h
   ·exact Builtin.noConfusion ‹Builtin.append=Builtin.clear›
   ·exact Builtin.noConfusion ‹Builtin.append=Builtin.min›
   ·exact Builtin.noConfusion ‹Builtin.append=Builtin.max›
   ·simp[Tr.dec] at h
  | value f=>
   rw[hc] at hlc
   simp only at hlc
   cases hf:ρ f with
   | clo g caps=>
    rw[hf] at hlc
    simp only[Bool.and_eq_true,Bool.not_eq_true'] at hlc
    have hns:¬ qy2 (C.sig g) (c.args.toList.map ρ++qek caps)=true:=by rw[hlc.1];exact Bool.noConfusion
    simp only[opT,ho,hc,hf,q3n,if_neg hns] at h ⊢
    refine qbsn hr hl hlc.2 ?_ v S' h
    intro r hr
    rw[qu2] at hr
    rcases hr with hr | hr
    ·refine hF r ?_
     rw[ho]
     simp only[Op.operands,Call.operands,hc]
     have:∀ l:List AV,∀ a,r∈qm l→r∈qm (a::l):=fun l a h=>by simp[qm,h]
     simpa using this _ _ hr
    ·have:=qvl caps r hr
     exact hin (x:=f) (by rw[ho];simp[Op.operands,Call.operands,hc]) r (by rw[hf];simpa [AV.roots] using this)
   | _=>rw[hf] at hlc;simp at hlc
  | invoke r m=>rw[hc] at hlc;simp at hlc
 | _=>simp[qrp,ho] at hlc
end
end
end Go.V

namespace Go.V
noncomputable section
open Go
theorem qwv {d:Nat}:∀ (v:AV),d∉v.roots→v.noPl d=true
 | .addr r p,h=>by
  simp only[AV.roots,List.mem_singleton] at h
  simp only[AV.noPl,Bool.or_eq_true,Bool.not_eq_true']
  left
  cases hb:Nat.beq r d with
  | false=>rfl
  | true=>exact absurd (Nat.eq_of_beq_eq_true hb).symm h
 | .pair a b,h=>by
  simp only[AV.roots,List.mem_append,not_or] at h
  simp only[AV.noPl,Bool.and_eq_true]
  exact ⟨qwv a h.1,qwv b h.2⟩
 | .tup a,h=>qwv a h
 | .clo _ a,h=>qwv a h
 | .undef,_=>rfl
 | .skip,_=>rfl
 | .litB _,_=>rfl
 | .unit,_=>rfl
 | .nils,_=>rfl
 | .val _ _,_=>rfl
 | .brw _ _ _,_=>rfl
 | .view _ _ _ _ _,_=>rfl
 | .raddr _ _,_=>rfl
 | .cloV _,_=>rfl
theorem qbhf {s s':Nat} (h:s≠s'):(!(Nat.ble s s'&&Nat.blt s' (s+1)))=true:=by
 cases h1:Nat.ble s s' with
 | false=>rfl
 | true=>
  cases h2:Nat.blt s' (s+1) with
  | false=>rfl
  | true=>
   have a:=Nat.le_of_ble_eq_true h1
   have b:s'+1≤s+1:=Nat.le_of_ble_eq_true h2
   omega
theorem qvr {s:Nat}:∀ (p:Path),s∉ql3 p→qcq s (s+1) p=true
 | [],_=>rfl
 | x::p,h=>by
  cases x with
  | idx i s'=>
   simp only[ql3,List.mem_cons,not_or] at h
   simp only[qcq,Bool.and_eq_true]
   exact ⟨qbhf h.1,qvr p h.2⟩
  | _=>exact qvr p (by simpa [ql3] using h)
theorem qrg {s:Nat}:∀ (v:AV),s∉v.stamps→v.stampsOk s (s+1)=true
 | .addr r p,h=>qvr p h
 | .brw r p s',h=>by
  simp only[AV.stamps,List.mem_cons,not_or] at h
  simp only[AV.stampsOk,Bool.and_eq_true]
  exact ⟨qbhf h.1,qvr p h.2⟩
 | .view r p s' _ _,h=>by
  simp only[AV.stamps,List.mem_cons,not_or] at h
  simp only[AV.stampsOk,Bool.and_eq_true]
  exact ⟨qbhf h.1,qvr p h.2⟩
 | .pair a b,h=>by
  simp only[AV.stamps,List.mem_append,not_or] at h
  simp only[AV.stampsOk,Bool.and_eq_true]
  exact ⟨qrg a h.1,qrg b h.2⟩
 | .tup a,h=>qrg a h
 | .clo _ a,h=>qrg a h
 | .undef,_=>rfl
 | .skip,_=>rfl
 | .litB _,_=>rfl
 | .unit,_=>rfl
 | .nils,_=>rfl
 | .val _ _,_=>rfl
 | .raddr _ _,_=>rfl
 | .cloV _,_=>rfl
theorem qfn:∀ {l l':List Nat},disj l l'=true→∀ x∈l,x∉l'
 | [],_,_,x,hx=>by simp at hx
 | a::l,l',h,x,hx=>by
  simp only[disj,Bool.and_eq_true,Bool.not_eq_true'] at h
  rcases List.mem_cons.1 hx with rfl | hx
  ·intro hh;have:=h.1;simp at this;exact this hh
  ·exact qfn h.2 x hx
theorem qsw {S:St} {u r:Nat}:∀ {ts:List Nat},u∈ts→r∈(S.get u).roots→r∈rootsAt S ts
 | [],h,_=>by simp at h
 | t::ts,h,hr=>by
  simp only[rootsAt,List.mem_append]
  rcases List.mem_cons.1 h with rfl | h
  ·exact .inl hr
  ·exact .inr (qsw h hr)
theorem qqm {S:St} {u r:Nat}:∀ {ts:List Nat},u∈ts→r∈(S.get u).stamps→r∈stampsAt S ts
 | [],h,_=>by simp at h
 | t::ts,h,hr=>by
  simp only[stampsAt,List.mem_append]
  rcases List.mem_cons.1 h with rfl | h
  ·exact .inl hr
  ·exact .inr (qqm h hr)
theorem qzx {S T:St}:∀ {ts:List Nat},(∀ u∈ts,T.get u=S.get u)→rootsAt T ts=rootsAt S ts
 | [],_=>rfl
 | t::ts,h=>by simp only[rootsAt];rw[h t List.mem_cons_self,qzx fun u hu=>h u (List.mem_cons_of_mem _ hu)]
theorem qx1 {S T:St}:∀ {ts:List Nat},(∀ u∈ts,T.get u=S.get u)→stampsAt T ts=stampsAt S ts
 | [],_=>rfl
 | t::ts,h=>by simp only[stampsAt];rw[h t List.mem_cons_self,qx1 fun u hu=>h u (List.mem_cons_of_mem _ hu)]
theorem qbo2 {S T:St} (hl:T.sl.length=S.sl.length) (hg:∀ u,T.get u=S.get u) (hr:T.rt=S.rt):T=S:=by
 obtain ⟨a,b⟩:=S
 obtain ⟨c,d⟩:=T
 simp only at hl hr
 subst hr
 have:c=a:=by
  apply List.ext_getElem hl
  intro i h1 h2
  have:=hg i
  simp only[St.get_eq,List.getD,List.getElem?_eq_getElem h1,List.getElem?_eq_getElem h2,Option.getD_some] at this
  exact this
 rw[this]
section
variable {C:Ctx} {D:Den C} {hints:Hints} {id:Nat} {ops:Array Oper}
theorem qbgs {S T:St} {y:Oper} (h:∀ u∈qoy ops y,T.get u=S.get u):∀ x∈y.op.operands,ev T x=ev S x:=by
 intro x hx
 cases x with
 | tmp t=>
  simp only[ev]
  rw[h t (by
   unfold qoy
   rw[List.mem_append]
   right
   rw[List.mem_filterMap]
   exact ⟨.tmp t,by simpa using hx,rfl⟩)]
 | _=>rfl
theorem qbep {S T:St} {y:Oper} (h:∀ u∈qoy ops y,T.get u=S.get u):qfr ops T y=qfr ops S y:=by
 unfold qfr
 cases hg:y.guard with
 | none=>rfl
 | some jb=>
  obtain ⟨j,b⟩:=jb
  simp only
  rw[h (qej ops j) (by unfold qoy;rw[hg];simp)]
theorem qbdo {S T:St} {j site:Nat} {y:Oper} {v:AV} {a b:Rts} (hr:wrOf C (ev S) y=none∨(T.rt=S.rt∧a=b)∨qrp C (ev S) y=true) (hk:∀ u∈qoy ops y,T.get u=S.get u) (ho:∀ u∈qcr ops j y,T.get u=S.get u):qgo C ops T site j y v a=qgo C ops S site j y v b:=by
 have he:=qbgs hk
 have hv:q5o T y=q5o S y:=by
  unfold q5o
  exact List.map_congr_left fun x hx=>he x (by simpa using hx)
 unfold qgo
 have hld:ldOf C (ev T) y v=ldOf C (ev S) y v:=by
  unfold ldOf
  split
  ·rename_i t x hop
   rw[he x (by rw[hop];simp[Op.operands])]
  ·rename_i t x f hop
   rw[he x (by rw[hop];simp[Op.operands])]
  ·rfl
 rw[hv,qzx ho,qx1 ho,qbrh (C:=C) y he,qbpl (C:=C) y he,hld]
 rcases hr with h | ⟨h1,h2⟩ | h
 ·rw[h]
 ·rw[h1,h2]
 ·rw[h];cases wrOf C (ev S) y<;>rfl
theorem qbp3 {S T:St} {j site:Nat} {y:Oper} (ho:∀ u∈qcr ops j y,T.get u=S.get u):qeq ops T site j y=qeq ops S site j y:=by
 unfold qeq
 rw[qzx ho,qx1 ho]
theorem q54 {S T:St} {rt rt':Rts} {j:Nat} {y:Oper} {v:AV} (hl:T.sl.length=S.sl.length) (ho:∀ u∈qcr ops j y,T.get u=S.get u):∀ u∈qcr ops j y,(fin ops ⟨T.sl,rt⟩ j y v).get u=(fin ops ⟨S.sl,rt'⟩ j y v).get u:=by
 intro u hu
 rw[qoz,qoz]
 simp only[hl]
 have:=ho u hu
 by_cases h1:y.dst=some u∧u<S.sl.length
 ·rw[if_pos h1,if_pos h1]
 ·rw[if_neg h1,if_neg h1]
  by_cases h2:u∈qf1 ops j y
  ·rw[if_pos h2,if_pos h2]
  ·rw[if_neg h2,if_neg h2];exact this
theorem q9t {S:St} {A:Asks} {site:Nat} {hint:Bool} {y:Oper} (hw:wrOf C (ev S) y=none) {T:St} {A':Asks} (hrl:T.rt.length=S.rt.length)
  (hr:qbw (if qg4 y then [] else qm (q5o S y)) S.rt T.rt) {β:Bool} {v:AV} {rt':Rts} (h:(opT C D A (ev S) S.rt site hint y).dec β=some (v,rt')):rt'=S.rt∧(opT C D A' (ev S) T.rt site hint y).dec β=some (v,T.rt):=
 qbpy (A:=A) (A':=A') hrl hw hr β v rt' h
def qbn0 (e:Ent) (S T:Rts):Prop:=qbw e.rd S T∨e.bl=true∨∃ l,e.ld=some l∧l.1 T=some l.2
theorem qbpr {S T:St} {A A':Asks} {site:Nat} {hint:Bool} {y:Oper} {β:Bool} {v:AV} {rt':Rts} (h:(opT C D A (ev S) S.rt site hint y).dec β=some (v,rt')) {l:(Rts→Option AV)×AV} (hl:ldOf C (ev S) y v=some l)
  (hT:l.1 T.rt=some l.2):rt'=S.rt∧(opT C D A' (ev S) T.rt site hint y).dec β=some (v,T.rt):=by
 unfold ldOf at hl
 split at hl
 ·rename_i t a hop
  simp only[Option.some.injEq] at hl
  subst hl
  simp only[opT,hop] at h ⊢
  simp only at hT
  by_cases hnz:(C.ty t).nz=true
  ·rw[if_pos hnz] at h hT ⊢
   rw[hT]
   cases hv:qnf S.rt (C.ty t) (ev S a) with
   | none=>rw[hv] at h;simp[Tr.of,Tr.dec] at h
   | some v2=>
    rw[hv] at h
    simp only[Option.map_some,Tr.of,Tr.dec,Option.some.injEq,Prod.mk.injEq] at h ⊢
    exact ⟨h.2.symm,trivial⟩
  ·rw[if_neg hnz] at hT;simp at hT
 ·rename_i t a f hop
  simp only[Option.some.injEq] at hl
  subst hl
  simp only[opT,hop] at h ⊢
  simp only at hT
  rw[hT]
  cases hv:qin S.rt (C.ty t) (ev S a) f with
  | none=>rw[hv] at h;simp[Tr.of,Tr.dec] at h
  | some v2=>
   rw[hv] at h
   simp only[Option.map_some,Tr.of,Tr.dec,Option.some.injEq,Prod.mk.injEq] at h ⊢
   exact ⟨h.2.symm,trivial⟩
 ·simp at hl
theorem qboi {S T S':St} {e:Ent} {β:Bool} {j:Nat} {y:Oper} (hs:qcd C D hints id ops β S j y=some (S',e)) (hl:T.sl.length=S.sl.length) (hrl:T.rt.length=S.rt.length)
  (hk:∀ u∈qoy ops y,T.get u=S.get u) (ho:∀ u∈qcr ops j y,T.get u=S.get u)
  (hm:(T.rt=S.rt∧qdg T.sl y.dst (id * 256+j+1)=qdg S.sl y.dst (id * 256+j+1))∨(e.wr=none∧qbn0 e S.rt T.rt)) :
  ∃ T',qcd C D hints id ops β T j y=some (T',e)∧(∀ u∈qcr ops j y,T'.get u=S'.get u)∧(e.wr=none→S'.rt=S.rt∧T'.rt=T.rt)∧(T.rt=S.rt→T'.rt=S'.rt):=by
 have hg:=qbep (ops:=ops) hk
 have he:=qbgs hk
 unfold qcd at hs ⊢
 rw[hg]
 split at hs
 ·rename_i hgt
  simp only[Option.map_eq_some_iff,Prod.mk.injEq] at hs
  obtain ⟨⟨v,rt'⟩,hd,hS,hee⟩:=hs
  subst hS
  subst hee
  have hcongr:∀ {A:Asks} {R:Rts},opT C D A (ev T) R (id * 256+j+1) (hints.share.contains (id,j)) y=opT C D A (ev S) R (id * 256+j+1) (hints.share.contains (id,j)) y:=qbk3 y he
  have hq:wrOf C (ev S) y=none→rt'=S.rt:=fun hw=>(q9t (T:=S) (A':=qdg S.sl y.dst (id * 256+j+1)) hw rfl (fun _ _=>rfl) hd).1
  rcases hm with ⟨hrt,hask⟩ | ⟨hw,hra⟩
  ·refine ⟨fin ops ⟨T.sl,rt'⟩ j y v,?_,q54 hl ho,fun hw=>?_,fun _=>?_⟩
   ·unfold opAt at hd ⊢
    rw[hask,hcongr,hrt,hd]
    simp only[Option.map_some,qbdo (.inr (.inl ⟨hrt,rfl⟩)) hk ho]
   ·rw[qge,qge]
    have:=hq hw
    simp only at this ⊢
    exact ⟨this,this.trans hrt.symm⟩
   ·rw[qge,qge]
  ·have hw':wrOf C (ev S) y=none:=hw
   have hq2:rt'=S.rt∧(opT C D (qdg T.sl y.dst (id * 256+j+1)) (ev S) T.rt (id * 256+j+1) (hints.share.contains (id,j)) y).dec β=some (v,T.rt):=by
    rcases hra with hra | hb | ⟨l,h1,h2⟩
    ·exact q9t (T:=T) (A':=qdg T.sl y.dst (id * 256+j+1)) hw' hrl (hra.sub fun r hr=>by simp only[qgo,List.mem_append];exact .inr (.inl hr)) hd
    ·have hb':qg4 y=true:=hb
     exact q9t (T:=T) (A':=qdg T.sl y.dst (id * 256+j+1)) hw' hrl (by rw[if_pos hb'];intro r hr;simp at hr) hd
    ·exact qbpr hd h1 h2
   refine ⟨fin ops ⟨T.sl,T.rt⟩ j y v,?_,q54 hl ho,fun _=>?_,fun hrt=>?_⟩
   ·unfold opAt
    rw[hcongr,hq2.2]
    simp only[Option.map_some,qbdo (b:=rt') (.inl hw') hk ho]
   ·rw[qge,qge];exact ⟨hq2.1,rfl⟩
   ·rw[qge,qge];exact hrt.trans hq2.1.symm
 ·rename_i hgt
  simp only[Option.some.injEq,Prod.mk.injEq] at hs
  obtain ⟨hS,hee⟩:=hs
  subst hS
  subst hee
  refine ⟨fin ops T j y .skip,by rw[qbp3 ho],?_,fun _=>?_,fun hrt=>?_⟩
  ·exact q54 (S:=S) (T:=T) (rt:=T.rt) (rt':=S.rt) hl ho
  ·rw[qge,qge];exact ⟨rfl,rfl⟩
  ·rw[qge,qge];exact hrt
 ·simp at hs
theorem qbq8 {S S':St} {e:Ent} {β:Bool} {j:Nat} {y:Oper} (hs:qcd C D hints id ops β S j y=some (S',e)) (hw:e.wr=none):S'.rt=S.rt:=by
 obtain ⟨_,_,_,h,_⟩:=qboi (T:=S) hs rfl rfl (fun _ _=>rfl) (fun _ _=>rfl) (.inl ⟨rfl,rfl⟩)
 exact (h hw).1
theorem qbtg {ρ:Operand→AV} {o:Oper} {W:List Nat} (h:wrOf C ρ o=some W):∀ d,o.dst=some d→d∈W:=by
 intro d hd
 unfold wrOf at h
 simp only[hd,Option.toList_some] at h
 repeat' split at h
 all_goals first
  | (simp only[Option.some.injEq] at h;subst h;simp;done)
  | (simp at h;done)
theorem qob {S S':St} {e:Ent} {β:Bool} {j:Nat} {y:Oper} {W:List Nat} (hs:qcd C D hints id ops β S j y=some (S',e)) (hw:e.wr=some W):Frm W S.rt S'.rt∧(∀ d,y.dst=some d→d∈W):=by
 unfold qcd at hs
 split at hs
 ·simp only[Option.map_eq_some_iff,Prod.mk.injEq] at hs
  obtain ⟨⟨v,rt'⟩,hd,hS,hee⟩:=hs
  subst hS
  subst hee
  have hw':wrOf C (ev S) y=some W:=hw
  rw[qge]
  exact ⟨qbpn hw' hd,qbtg hw'⟩
 ·simp only[Option.some.injEq,Prod.mk.injEq] at hs
  obtain ⟨hS,hee⟩:=hs
  subst hee
  simp[qeq] at hw
 ·simp at hs
theorem qbdd {S S':St} {e:Ent} {β:Bool} {j:Nat} {y:Oper} (hs:qcd C D hints id ops β S j y=some (S',e)) {u:Nat} (hu:u∈qcr ops j y) :
  (∀ r∈(S.get u).roots,r∈e.rd)∧(∀ r∈(S'.get u).roots,r∈e.rd)∧(∀ r∈(S.get u).stamps,r∈e.st)∧(∀ r∈(S'.get u).stamps,r∈e.st):=by
 unfold qcd at hs
 split at hs
 ·simp only[Option.map_eq_some_iff,Prod.mk.injEq] at hs
  obtain ⟨⟨v,rt'⟩,hd,hS,hee⟩:=hs
  subst hS
  subst hee
  simp only[qgo,List.mem_append]
  refine ⟨fun r hr=>.inr (.inr (qsw hu hr)),fun r hr=>?_,fun r hr=>.inr (qqm hu hr),fun r hr=>?_⟩
  ·rw[qoz] at hr
   split at hr
   ·exact .inl hr
   ·split at hr
    ·simp[AV.roots] at hr
    ·exact .inr (.inr (qsw hu hr))
  ·rw[qoz] at hr
   split at hr
   ·exact .inl hr
   ·split at hr
    ·simp[AV.stamps] at hr
    ·exact .inr (qqm hu hr)
 ·simp only[Option.some.injEq,Prod.mk.injEq] at hs
  obtain ⟨hS,hee⟩:=hs
  subst hS
  subst hee
  simp only[qeq]
  refine ⟨fun r hr=>qsw hu hr,fun r hr=>?_,fun r hr=>qqm hu hr,fun r hr=>?_⟩
  ·rw[qoz] at hr
   split at hr
   ·simp[AV.roots] at hr
   ·split at hr
    ·simp[AV.roots] at hr
    ·exact qsw hu hr
  ·rw[qoz] at hr
   split at hr
   ·simp[AV.stamps] at hr
   ·split at hr
    ·simp[AV.stamps] at hr
    ·exact qqm hu hr
 ·simp at hs
theorem qn2 {S S':St} {e:Ent} {β:Bool} {j:Nat} {y:Oper} (hs:qcd C D hints id ops β S j y=some (S',e)):S'.sl.length=S.sl.length∧∀ u,u∉qcr ops j y→S'.get u=S.get u:=by
 refine ⟨?_,fun u hu=>(q37 hs hu).1⟩
 unfold qcd at hs
 split at hs
 ·simp only[Option.map_eq_some_iff,Prod.mk.injEq] at hs
  obtain ⟨⟨v,rt'⟩,hd,hS,hee⟩:=hs
  subst hS
  rw[q1k]
 ·simp only[Option.some.injEq,Prod.mk.injEq] at hs
  obtain ⟨hS,hee⟩:=hs
  subst hS
  rw[q1k]
 ·simp at hs
theorem quj {S S':St} {e:Ent} {β:Bool} {j:Nat} {y:Oper} (hs:qcd C D hints id ops β S j y=some (S',e)) {d:Option Nat} {s:Nat} {W:List Nat} (hd:∀ d',d=some d'→d'∈W) (hdis:disj W e.rd=true)
  (hst:e.st.contains s=false):qdg S'.sl d s=qdg S.sl d s:=by
 obtain ⟨hl,hf⟩:=qn2 hs
 have hst':s∉e.st:=by simpa using hst
 refine qbnl d s hl (fun d' e1 k _=>?_) (fun d' e1 k _=>?_) (fun k=>?_)
 ·by_cases hk:k∈qcr ops j y
  ·obtain ⟨h1,h2,_,_⟩:=qbdd hs hk
   have hn:=qfn hdis d' (hd d' e1)
   have a1:d'∉(S.get k).roots:=fun h=>hn (h1 _ h)
   have a2:d'∉(S'.get k).roots:=fun h=>hn (h2 _ h)
   simp only[St.get_eq] at a1 a2
   rw[List.contains_eq_mem,List.contains_eq_mem,decide_eq_false a1,decide_eq_false a2]
  ·have:=hf k hk;simp only[St.get_eq] at this;rw[this]
 ·by_cases hk:k∈qcr ops j y
  ·obtain ⟨h1,h2,_,_⟩:=qbdd hs hk
   have hn:=qfn hdis d' (hd d' e1)
   have a1:d'∉(S.get k).roots:=fun h=>hn (h1 _ h)
   have a2:d'∉(S'.get k).roots:=fun h=>hn (h2 _ h)
   have b1:=qwv _ a1
   have b2:=qwv _ a2
   simp only[St.get_eq] at b1 b2
   rw[b1,b2]
  ·have:=hf k hk;simp only[St.get_eq] at this;rw[this]
 ·by_cases hk:k∈qcr ops j y
  ·obtain ⟨_,_,h1,h2⟩:=qbdd hs hk
   have b1:=qrg (s:=s) _ (fun h=>hst' (h1 _ h))
   have b2:=qrg (s:=s) _ (fun h=>hst' (h2 _ h))
   simp only[St.get_eq] at b1 b2
   rw[b1,b2]
  ·have:=hf k hk;simp only[St.get_eq] at this;rw[this]
theorem q3f {S S':St} {e:Ent} {β:Bool} {j:Nat} {y:Oper} (hs:qcd C D hints id ops β S j y=some (S',e)):e.site=id * 256+j+1∧e.i=j:=by
 unfold qcd at hs
 split at hs
 ·simp only[Option.map_eq_some_iff,Prod.mk.injEq] at hs
  obtain ⟨⟨v,rt'⟩,hd,hS,hee⟩:=hs
  subst hee
  exact ⟨rfl,rfl⟩
 ·simp only[Option.some.injEq,Prod.mk.injEq] at hs
  obtain ⟨hS,hee⟩:=hs
  subst hee
  exact ⟨rfl,rfl⟩
 ·simp at hs
theorem qben {S:Rts} {l:(Rts→Option AV)×AV} (h:q96 S l=true):l.1 S=some l.2:=by
 have hp:∀ (p q:Path),qql p q=true→p=q:=by
  intro p
  induction p with
  | nil=>intro q h;cases q<;>simp_all [qql]
  | cons x p ih=>
   intro q h
   cases q with
   | nil=>cases x<;>simp[qql] at h
   | cons y q=>
    cases x<;>cases y<;>simp only[qql,Bool.false_eq_true] at h
    ·rw[ih q h]
    ·rw[ih q h]
 unfold q96 at h
 split at h
 ·rename_i r p s r' p' s' h1 h2
  simp only[Bool.and_eq_true] at h
  rw[h1,h2,Nat.eq_of_beq_eq_true h.1.1,hp _ _ h.1.2,Nat.eq_of_beq_eq_true h.2]
 ·rename_i r p r' p' h1 h2
  simp only[Bool.and_eq_true] at h
  rw[h1,h2,Nat.eq_of_beq_eq_true h.1,hp _ _ h.2]
 ·simp at h
theorem qbts {S S':St} {e:Ent} {β:Bool} {j:Nat} {y:Oper} {W:List Nat} (hs:qcd C D hints id ops β S j y=some (S',e)) (hw:e.wr=some W):(e.io=none∨e.io=some (S.rt,S'.rt))∧e.dst=y.dst:=by
 unfold qcd at hs
 split at hs
 ·simp only[Option.map_eq_some_iff,Prod.mk.injEq] at hs
  obtain ⟨⟨v,rt'⟩,hd,hS,hee⟩:=hs
  subst hS
  subst hee
  have hw':wrOf C (ev S) y=some W:=hw
  rw[qge]
  simp only[qgo,hw',and_true]
  cases qrp C (ev S) y
  ·exact .inr rfl
  ·exact .inl rfl
 ·simp only[Option.some.injEq,Prod.mk.injEq] at hs
  obtain ⟨hS,hee⟩:=hs
  subst hee
  simp[qeq] at hw
 ·simp at hs
theorem qbnr {S S':St} {e f:Ent} {β:Bool} {j:Nat} {y:Oper} {W:List Nat} (hs:qcd C D hints id ops β S j y=some (S',e)) (hw:e.wr=some W) (h:qbj0 e f=true) :
  ((f.bl=true∨∃ l,f.ld=some l∧l.1 S.rt=some l.2)∧(f.bl=true∨∃ l,f.ld=some l∧l.1 S'.rt=some l.2))∧disj y.dst.toList f.rd=true∧f.st.contains e.site=false:=by
 obtain ⟨h1,h2⟩:=qbts hs hw
 unfold qbj0 at h
 simp only[Bool.and_eq_true,Bool.not_eq_true',Bool.or_eq_true] at h
 obtain ⟨⟨a,c⟩,d⟩:=h
 refine ⟨?_,by rw[←h2];exact c,d⟩
 rcases a with a | a
 ·exact ⟨.inl a,.inl a⟩
 ·split at a
  ·rename_i l io hl hio
   rcases h1 with h1 | h1
   ·rw[h1] at hio;simp at hio
   rw[h1] at hio
   simp only[Option.some.injEq] at hio
   subst hio
   simp only[Bool.and_eq_true] at a
   exact ⟨.inr ⟨l,hl,qben a.1⟩,.inr ⟨l,hl,qben a.2⟩⟩
  ·simp at a
theorem qbsx {ρ:Operand→AV} {o:Oper} {W:List Nat} (hw:wrOf C ρ o=some W) (hl:qrp C ρ o=true):qg4 o=false:=by
 unfold wrOf at hw
 unfold qg4
 cases ho:o.op<;>rw[ho] at hw<;>simp_all
theorem qbpc {S T S':St} {e:Ent} {β:Bool} {j:Nat} {y:Oper} {W:List Nat} (hs:qcd C D hints id ops β S j y=some (S',e)) (hw:e.wr=some W) (hlc:e.lc=true) (hl:T.sl.length=S.sl.length) (hrl:T.rt.length=S.rt.length)
  (hk:∀ u∈qoy ops y,T.get u=S.get u) (ho:∀ u∈qcr ops j y,T.get u=S.get u) (hask:qdg T.sl y.dst (id * 256+j+1)=qdg S.sl y.dst (id * 256+j+1))
  (hr:qbw (W++e.rd) S.rt T.rt):∃ T',qcd C D hints id ops β T j y=some (T',e)∧(∀ u∈qcr ops j y,T'.get u=S'.get u)∧qbw W S'.rt T'.rt:=by
 have hg:=qbep (ops:=ops) hk
 have he:=qbgs hk
 unfold qcd at hs ⊢
 rw[hg]
 split at hs
 ·rename_i hgt
  simp only[Option.map_eq_some_iff,Prod.mk.injEq] at hs
  obtain ⟨⟨v,rt'⟩,hd,hS,hee⟩:=hs
  subst hS
  subst hee
  have hw':wrOf C (ev S) y=some W:=hw
  have hlc':qrp C (ev S) y=true:=hlc
  have hb:=qbsx hw' hlc'
  unfold opAt at hd ⊢
  obtain ⟨rt2,k1,k2,k3⟩:=qbtw (A:=qdg S.sl y.dst (id * 256+j+1)) hr hrl hlc' (fun r hr=>by
   refine List.mem_append.2 (.inr ?_)
   simp only[qgo,hb,Bool.false_eq_true,if_false,List.mem_append]
   exact .inr (.inl hr)) v rt' hd
  refine ⟨fin ops ⟨T.sl,rt2⟩ j y v,?_,q54 hl ho,?_⟩
  ·rw[hask,qbk3 y he,k1]
   simp only[Option.map_some,qbdo (b:=rt') (.inr (.inr hlc')) hk ho]
  ·rw[qge,qge];exact k2.sub fun r hr=>List.mem_append.2 (.inl hr)
 ·simp only[Option.some.injEq,Prod.mk.injEq] at hs
  obtain ⟨hS,hee⟩:=hs
  subst hee
  simp[qeq] at hw
 ·simp at hs
theorem qbse {S T:Rts} (hl:T.length=S.length) (h:∀ r,T.root r=S.root r):T=S:=by
 apply List.ext_getElem hl
 intro i h1 h2
 have:=h i
 simp only[Rts.root_eq,List.getD,List.getElem?_eq_getElem h1,List.getElem?_eq_getElem h2,Option.getD_some] at this
 exact this
theorem swap {S S1 S2:St} {ex ey:Ent} {βx βy:Bool} {i j:Nat} {x y:Oper} (h1:qcd C D hints id ops βx S i x=some (S1,ex)) (h2:qcd C D hints id ops βy S1 j y=some (S2,ey))
  (hap:qoe ops i j x y=true) (hfr:ex.free ey=true):∃ T1,qcd C D hints id ops βy S j y=some (T1,ey)∧qcd C D hints id ops βx T1 i x=some (S2,ex):=by
 simp only[qoe,Bool.and_eq_true] at hap
 obtain ⟨⟨p1,p2⟩,p3⟩:=hap
 obtain ⟨l1,f1⟩:=qn2 h1
 obtain ⟨l2,f2⟩:=qn2 h2
 have n1:∀ u∈qoy ops y,S.get u=S1.get u:=fun u hu=>(f1 u fun h=>qfn p1 u h hu).symm
 have n2:∀ u∈qcr ops j y,S.get u=S1.get u:=fun u hu=>(f1 u fun h=>qfn p2 u h hu).symm
 -- the two moves,and what comes out
 have key:∀ (hm:(S.rt=S1.rt∧qdg S.sl y.dst (id * 256+j+1)=qdg S1.sl y.dst (id * 256+j+1))∨(ey.wr=none∧qbn0 ey S1.rt S.rt)) (hrl:S.rt.length=S1.rt.length),
   ∃ T1,qcd C D hints id ops βy S j y=some (T1,ey)∧(ey.wr=none→S2.rt=S1.rt∧T1.rt=S.rt)∧(S.rt=S1.rt→T1.rt=S2.rt)∧
    (∀ (hm2:(T1.rt=S.rt∧qdg T1.sl x.dst (id * 256+i+1)=qdg S.sl x.dst (id * 256+i+1))∨(ex.wr=none∧qbn0 ex S.rt T1.rt)) (hrl2:T1.rt.length=S.rt.length),
     ∃ T2,qcd C D hints id ops βx T1 i x=some (T2,ex)∧(ex.wr=none→S1.rt=S.rt∧T2.rt=T1.rt)∧(T1.rt=S.rt→T2.rt=S1.rt)∧(T2.rt=S2.rt→T2=S2)):=by
  intro hm hrl
  obtain ⟨T1,k1,k2,k3,k4⟩:=qboi h2 l1.symm hrl n1 n2 hm
  refine ⟨T1,k1,k3,k4,fun hm2 hrl2=>?_⟩
  obtain ⟨lT,fT⟩:=qn2 k1
  obtain ⟨T2,q1,q2,q3,q4⟩:=qboi h1 lT hrl2 (fun u hu=>fT u fun h=>qfn p3 u h hu) (fun u hu=>fT u fun h=>qfn p2 u hu h) hm2
  obtain ⟨lT2,fT2⟩:=qn2 q1
  refine ⟨T2,q1,q3,q4,fun hrt=>qbo2 (by rw[lT2,lT,l2,l1]) (fun u=>?_) hrt⟩
  by_cases hx:u∈qcr ops i x
  ·rw[q2 u hx,f2 u fun h=>qfn p2 u hx h]
  ·rw[fT2 u hx]
   by_cases hy:u∈qcr ops j y
   ·exact k2 u hy
   ·rw[fT u hy,f2 u hy,f1 u hx]
 obtain ⟨sx,_⟩:=q3f h1
 obtain ⟨sy,_⟩:=q3f h2
 cases hwx:ex.wr with
 | none=>
  have r1:S1.rt=S.rt:=qbq8 h1 hwx
  cases hwy:ey.wr with
  | none=>
   obtain ⟨T1,k1,k2,k3,k4⟩:=key (.inr ⟨hwy,.inl fun r _=>by rw[r1]⟩) (by rw[r1])
   obtain ⟨e1,e2⟩:=k2 hwy
   obtain ⟨T2,q1,q2,q3,q4⟩:=k4 (.inr ⟨hwx,.inl fun r _=>by rw[e2]⟩) (by rw[e2])
   have:=q4 ((q2 hwx).2.trans (e2.trans (r1.symm.trans e1.symm)))
   subst this
   exact ⟨T1,k1,q1⟩
  | some W=>
   simp only[Ent.free,hwx,hwy,Bool.or_eq_true] at hfr
   rcases hfr with hfr | hfr
   rotate_left
   ·obtain ⟨⟨a1,a2⟩,d1,d2⟩:=qbnr h2 hwy hfr
    rw[sy] at d2
    obtain ⟨T1,k1,k2,k3,k4⟩:=key (.inl ⟨r1.symm,(quj h1 (W:=y.dst.toList) (fun d' hd'=>by rw[hd'];simp) d1 d2).symm⟩) (by rw[r1])
    obtain ⟨fr,_⟩:=qob k1 hwy
    have eT:=k3 r1.symm
    obtain ⟨T2,q1,q2,q3,q4⟩:=k4 (.inr ⟨hwx,.inr (by rw[eT];exact a2)⟩) fr.len
    have:=q4 ((q2 hwx).2.trans eT)
    subst this
    exact ⟨T1,k1,q1⟩
   simp only[qbfy,Bool.and_eq_true,Bool.not_eq_true'] at hfr
   obtain ⟨d1,d2⟩:=hfr
   obtain ⟨_,hdW⟩:=qob h2 hwy
   rw[sy] at d2
   obtain ⟨T1,k1,k2,k3,k4⟩:=key (.inl ⟨r1.symm,(quj h1 hdW d1 d2).symm⟩) (by rw[r1])
   obtain ⟨fr,_⟩:=qob k1 hwy
   obtain ⟨T2,q1,q2,q3,q4⟩:=k4 (.inr ⟨hwx,.inl fun r hr=>fr.root r fun h=>qfn d1 r h hr⟩) fr.len
   have:=q4 ((q2 hwx).2.trans (k3 r1.symm))
   subst this
   exact ⟨T1,k1,q1⟩
 | some W=>
  cases hwy:ey.wr with
  | none=>
   simp only[Ent.free,hwx,hwy,Bool.or_eq_true] at hfr
   rcases hfr with hfr | hfr
   rotate_left
   ·obtain ⟨⟨a1,a2⟩,d1,d2⟩:=qbnr h1 hwx hfr
    obtain ⟨fr,hdW⟩:=qob h1 hwx
    rw[sx] at d2
    obtain ⟨T1,k1,k2,k3,k4⟩:=key (.inr ⟨hwy,.inr a1⟩) fr.len.symm
    obtain ⟨e1,e2⟩:=k2 hwy
    obtain ⟨T2,q1,q2,q3,q4⟩:=k4 (.inl ⟨e2,quj k1 (W:=x.dst.toList) (fun d' hd'=>by rw[hd'];simp) d1 d2⟩) (by rw[e2])
    have:=q4 ((q3 e2).trans e1.symm)
    subst this
    exact ⟨T1,k1,q1⟩
   simp only[qbfy,Bool.and_eq_true,Bool.not_eq_true'] at hfr
   obtain ⟨d1,d2⟩:=hfr
   obtain ⟨fr,hdW⟩:=qob h1 hwx
   rw[sx] at d2
   obtain ⟨T1,k1,k2,k3,k4⟩:=key (.inr ⟨hwy,.inl fun r hr=>(fr.root r fun h=>qfn d1 r h hr).symm⟩) fr.len.symm
   obtain ⟨e1,e2⟩:=k2 hwy
   obtain ⟨T2,q1,q2,q3,q4⟩:=k4 (.inl ⟨e2,quj k1 hdW d1 d2⟩) (by rw[e2])
   have:=q4 ((q3 e2).trans e1.symm)
   subst this
   exact ⟨T1,k1,q1⟩
  | some W2=>
   simp only[Ent.free,hwx,hwy,Bool.and_eq_true,Bool.not_eq_true'] at hfr
   obtain ⟨⟨⟨lx,ly⟩,⟨d1,d2⟩,d3,d4⟩,s1,s2⟩:=hfr
   obtain ⟨fr1,hd1⟩:=qob h1 hwx
   obtain ⟨fr2,hd2⟩:=qob h2 hwy
   rw[sy] at s1
   rw[sx] at s2
   obtain ⟨T1,k1,k2,k3⟩:=qbpc (T:=S) h2 hwy ly l1.symm fr1.len.symm n1 n2 (quj h1 hd2 d3 s1).symm
    (fun r hr=>(fr1.root r fun h=>by
     rcases List.mem_append.1 hr with h' | h'
     ·exact qfn d2 r h h'
     ·exact qfn d1 r h h').symm)
   obtain ⟨lT,fT⟩:=qn2 k1
   obtain ⟨frT,_⟩:=qob k1 hwy
   obtain ⟨T2,q1,q2,q3⟩:=qbpc h1 hwx lx lT frT.len (fun u hu=>fT u fun h=>qfn p3 u h hu) (fun u hu=>fT u fun h=>qfn p2 u hu h) (quj k1 hd1 d1 s2)
    (fun r hr=>frT.root r fun h=>by
     rcases List.mem_append.1 hr with h' | h'
     ·exact qfn d4 r h h'
     ·exact qfn d3 r h h')
   obtain ⟨lT2,fT2⟩:=qn2 q1
   obtain ⟨frT2,_⟩:=qob q1 hwx
   have hrt:T2.rt=S2.rt:=by
    refine qbse (by rw[frT2.len,frT.len,fr2.len,fr1.len]) fun r=>?_
    by_cases hx:r∈W
    ·rw[q3 r hx,fr2.root r fun h=>qfn d2 r hx h]
    ·rw[frT2.root r hx]
     by_cases hy:r∈W2
     ·exact k3 r hy
     ·rw[frT.root r hy,fr2.root r hy,fr1.root r hx]
   have:T2=S2:=qbo2 (by rw[lT2,lT,l2,l1]) (fun u=>by
    by_cases hx:u∈qcr ops i x
    ·rw[q2 u hx,f2 u fun h=>qfn p2 u hx h]
    ·rw[fT2 u hx]
     by_cases hy:u∈qcr ops j y
     ·exact k2 u hy
     ·rw[fT u hy,f2 u hy,f1 u hx]) hrt
   subst this
   exact ⟨T1,k1,q1⟩
end
end
end Go.V

namespace Go.V
noncomputable section
open Go
theorem qbke (look:Nat→Nat) (i:Nat):∀ (l:List Edge) (s:Nat),(l.foldl (fun s e=>if Region.binds .any e then s |||2 ^ e.on |||look e.on else s) s).testBit i=true→
  s.testBit i=true∨∃ e∈l,Region.binds .any e=true∧(e.on=i∨(look e.on).testBit i=true)
 | [],s,h=>.inl h
 | e::l,s,h=>by
  rw[List.foldl_cons] at h
  rcases qbke look i l _ h with h | ⟨e',he,hh⟩
  ·by_cases hb:Region.binds .any e=true
   ·rw[if_pos hb,Nat.testBit_or,Nat.testBit_or,Nat.testBit_two_pow] at h
    simp only[Bool.or_eq_true,decide_eq_true_eq] at h
    rcases h with (h | h) | h
    ·exact .inl h
    ·exact .inr ⟨e,List.mem_cons_self,hb,.inl h⟩
    ·exact .inr ⟨e,List.mem_cons_self,hb,.inr h⟩
   ·rw[if_neg hb] at h;exact .inl h
  ·exact .inr ⟨e',List.mem_cons_of_mem _ he,hh⟩
def qbr1 (acc:Array Nat) (l:List Oper):Prop:=acc.size=l.length∧∀ j i,(acc.getD j 0).testBit i=true→∃ o,l[j]? = some o∧∃ e∈o.after,Region.binds .any e=true∧(e.on=i∨(e.on<j∧(acc.getD e.on 0).testBit i=true))
theorem qbqi:∀ (l:List Oper) (acc:Array Nat) (d:List Oper),qbr1 acc d→
  qbr1 (l.foldl (fun acc o=>acc.push (o.after.foldl (fun s e=>if Region.binds .any e then s |||2 ^ e.on |||acc.getD e.on 0 else s) 0)) acc) (d++l)
 | [],acc,d,h=>by simpa using h
 | o::l,acc,d,h=>by
  rw[List.foldl_cons]
  have e:d++o::l=(d++[o])++l:=by simp
  rw[e]
  refine qbqi l _ _ ⟨by simp[h.1],fun j i hb=>?_⟩
  have hs:=h.1
  have gd:∀ q (v:Nat),(acc.push v).getD q 0=if q=acc.size then v else acc.getD q 0:=by
   intro q v
   simp only[Array.getD_eq_getD_getElem?,Array.getElem?_push]
   split<;>rfl
  rw[gd] at hb
  by_cases hj:j=acc.size
  ·rw[if_pos hj,←Array.foldl_toList] at hb
   rcases qbke (fun n=>acc.getD n 0) i _ _ hb with h0 | ⟨e',he,hbd,hh⟩
   ·simp at h0
   ·refine ⟨o,by rw[hj,hs];simp,e',by simpa using he,hbd,?_⟩
    rcases hh with hh | hh
    ·exact .inl hh
    ·have hlt:e'.on<acc.size:=by
      rcases Nat.lt_or_ge e'.on acc.size with h | h
      ·exact h
      ·simp[Array.getD_eq_getD_getElem?,Array.getElem?_eq_none h] at hh
     refine .inr ⟨by omega,?_⟩
     rw[gd,if_neg (by omega)]
     exact hh
  ·rw[if_neg hj] at hb
   obtain ⟨o',ho',e',he,hbd,hh⟩:=h.2 j i hb
   have hlt:j<d.length:=(List.getElem?_eq_some_iff.1 ho').1
   refine ⟨o',by rw[List.getElem?_append_left hlt];exact ho',e',he,hbd,hh.imp id fun hh=>⟨hh.1,?_⟩⟩
   rw[gd,if_neg (by omega)]
   exact hh.2
theorem qbi0 (ops:Array Oper) {j i:Nat} (h:((Region.before ops).getD j 0).testBit i=true) :
  ∃ o,ops[j]? = some o∧∃ e∈o.after,Region.binds .any e=true∧(e.on=i∨(e.on<j∧((Region.before ops).getD e.on 0).testBit i=true)):=by
 have:=qbqi ops.toList #[] [] ⟨rfl,fun j i hb=>by simp at hb⟩
 unfold Region.before at h ⊢
 rw[←Array.foldl_toList] at h ⊢
 obtain ⟨o,ho,hh⟩:=this.2 j i h
 exact ⟨o,by simpa using ho,hh⟩
theorem qbo3 {ops:Array Oper} (he:qwr ops=true):∀ (j i:Nat),((Region.before ops).getD j 0).testBit i=true→i<j:=by
 intro j
 induction j using Nat.strongRecOn with
 | _ j ih=>
  intro i h
  obtain ⟨o,ho,e,hm,hb,hh⟩:=qbi0 ops h
  have hlt:e.on<j:=by
   simp only[qwr,List.all_eq_true] at he
   have hx:(j,o)∈qev ops:=by
    simp only[qev,List.mem_map]
    exact ⟨(o,j),List.mem_zipIdx_iff_getElem?.2 (by simpa using ho),rfl⟩
   have:=he (j,o) hx
   rw[Array.all_eq_true_iff_forall_mem] at this
   have:=this e hm
   rw[hb] at this
   simpa [qfs] using this
  rcases hh with rfl | ⟨_,hh⟩
  ·exact hlt
  ·exact Nat.lt_trans (ih e.on hlt i hh) hlt
def Down (ops:Array Oper) (listed:Array Bool):Prop:=∀ (j:Nat) o,ops[j]? = some o→listed.getD j false=true→∀ e∈o.after,Region.binds .any e=true→listed.getD e.on false=true
theorem qbje {ops:Array Oper} {listed:Array Bool} (hd:Down ops listed):∀ (j i:Nat),((Region.before ops).getD j 0).testBit i=true→
  (∀ o,ops[j]? = some o→∀ e∈o.after,Region.binds .any e=true→listed.getD e.on false=true)→listed.getD i false=true:=by
 intro j
 induction j using Nat.strongRecOn with
 | _ j ih=>
  intro i h hl
  obtain ⟨o,ho,e,hm,hb,hh⟩:=qbi0 ops h
  have h1:=hl o ho e hm hb
  rcases hh with rfl | ⟨hlt,hh⟩
  ·exact h1
  ·exact ih e.on hlt i hh fun o' ho'=>hd e.on o' ho' h1
theorem Ent.free_symm (e f:Ent):e.free f=f.free e:=by
 unfold Ent.free
 cases e.wr<;>cases f.wr
 ·rfl
 ·rfl
 ·rfl
 ·rename_i w w'
  simp only
  cases e.lc<;>cases f.lc<;>cases disj w f.rd<;>cases disj w w'<;>cases disj w' e.rd<;>cases disj w' w<;>cases e.st.contains f.site<;>cases f.st.contains e.site<;>rfl
theorem qbfh {M:Array Nat} {e:Ent}:∀ {l:Log},q92 M e l=true→∀ f∈l,e.i=f.i∨qj5 M e.i f.i=true∨e.free f=true
 | [],_,f,hf=>by simp at hf
 | g::l,h,f,hf=>by
  simp only[q92,Bool.and_eq_true,Bool.or_eq_true] at h
  rcases List.mem_cons.1 hf with rfl | hf
  ·rcases h.1 with (h | h) | h
   ·exact .inl (Nat.eq_of_beq_eq_true h)
   ·exact .inr (.inl h)
   ·exact .inr (.inr h)
  ·exact qbfh h.2 f hf
theorem q6s {M:Array Nat} {all:Log}:∀ {l:Log},quk M all l=true→∀ e∈l,e.wr≠none→∀ f∈all,e.i=f.i∨qj5 M e.i f.i=true∨e.free f=true
 | [],_,e,he=>by simp at he
 | g::l,h,e,he=>by
  simp only[quk,Bool.and_eq_true] at h
  intro hw
  rcases List.mem_cons.1 he with rfl | he
  ·have:=h.1
   cases hwe:e.wr with
   | none=>exact absurd hwe hw
   | some W=>rw[hwe] at this;exact qbfh this
  ·exact q6s h.2 e he hw
theorem qbkm (M:Array Nat) (i j:Nat):qj5 M i j=qj5 M j i:=by simp[qj5,Bool.or_comm]
theorem qbsh {M:Array Nat} {LG:Log} (h:quk M LG LG=true) {e f:Ent} (he:e∈LG) (hf:f∈LG) (hne:e.i≠f.i) (ho:qj5 M e.i f.i=false):e.free f=true:=by
 cases hwe:e.wr with
 | some W=>
  rcases q6s h e he (by rw[hwe];simp) f hf with h | h | h
  ·exact absurd h hne
  ·rw[ho] at h;simp at h
  ·exact h
 | none=>
  cases hwf:f.wr with
  | none=>simp[Ent.free,hwe,hwf]
  | some W=>
   rcases q6s h f hf (by rw[hwf];simp) e he with h | h | h
   ·exact absurd h.symm hne
   ·rw[qbkm,ho] at h;simp at h
   ·rw[Ent.free_symm];exact h
theorem qbcj {M:Array Nat} {ops:Array Oper} {i:Nat} {x:Oper}:∀ {l:List (Nat×Oper)},q6f M ops i x l=true→∀ y∈l,qj5 M i y.1=true∨qoe ops i y.1 x y.2=true
 | [],_,y,hy=>by simp at hy
 | (j,z)::l,h,y,hy=>by
  simp only[q6f,Bool.and_eq_true,Bool.or_eq_true] at h
  rcases List.mem_cons.1 hy with rfl | hy
  ·exact h.1
  ·exact qbcj h.2 y hy
theorem qbcf {M:Array Nat} {ops:Array Oper}:∀ {l:List (Nat×Oper)},qtx M ops l=true→l.Pairwise fun x y=>qj5 M x.1 y.1=true∨qoe ops x.1 y.1 x.2 y.2=true
 | [],_=>List.Pairwise.nil
 | (i,x)::l,h=>by
  simp only[qtx,Bool.and_eq_true] at h
  exact List.Pairwise.cons (fun y hy=>qbcj h.1 y hy) (qbcf h.2)
section
variable (C:Ctx) (D:Den C) (hints:Hints) (id:Nat) (ops:Array Oper)
noncomputable def runB (β:Nat→Bool):List (Nat×Oper)→St→Option (St×Log)
 | [],S=>some (S,[])
 | (i,o)::l,S=>(qcd C D hints id ops (β i) S i o).bind fun x=>(runB β l x.1).map fun y=>(y.1,x.2::y.2)
end
section
variable {C:Ctx} {D:Den C} {hints:Hints} {id:Nat} {ops:Array Oper}
theorem qbnd {β:Nat→Bool}:∀ (l:List (Nat×Oper)) (S:St),runB C D hints id ops β l S=runD C D hints id ops (l.map fun x=>β x.1) l S
 | [],S=>rfl
 | (i,o)::l,S=>by
  simp only[runB,runD,List.map_cons,List.headD_cons,List.tail_cons]
  congr 1
  funext x
  rw[qbnd l x.1]
theorem q85 {β:Nat→Bool} {i:Nat} {o:Oper} {l:List (Nat×Oper)} {S S':St} {lg:Log} (h:runB C D hints id ops β ((i,o)::l) S=some (S',lg)) :
  ∃ S1 e lg1,qcd C D hints id ops (β i) S i o=some (S1,e)∧runB C D hints id ops β l S1=some (S',lg1)∧lg=e::lg1:=by
 simp only[runB,Option.bind_eq_some_iff,Option.map_eq_some_iff,Prod.mk.injEq] at h
 obtain ⟨⟨S1,e⟩,hs,⟨S2,lg2⟩,hr,rfl,rfl⟩:=h
 exact ⟨S1,e,lg2,hs,hr,rfl⟩
theorem qbnh {β:Nat→Bool} {i:Nat} {o:Oper} {l:List (Nat×Oper)} {S S1 S':St} {e:Ent} {lg1:Log} (hs:qcd C D hints id ops (β i) S i o=some (S1,e)) (hr:runB C D hints id ops β l S1=some (S',lg1)) :
  runB C D hints id ops β ((i,o)::l) S=some (S',e::lg1):=by
 simp only[runB,hs,Option.bind_some,hr,Option.map_some]
theorem qbez {β β':Nat→Bool}:∀ (l:List (Nat×Oper)) (S:St),(∀ x∈l,β' x.1=β x.1)→runB C D hints id ops β' l S=runB C D hints id ops β l S
 | [],S,_=>rfl
 | (i,o)::l,S,h=>by
  simp only[runB]
  have:=h (i,o) List.mem_cons_self
  simp only at this
  rw[this]
  congr 1
  funext x
  rw[qbez l x.1 fun y hy=>h y (List.mem_cons_of_mem _ hy)]
theorem qbft {β:Nat→Bool} {j:Nat} {y:Oper} {post:List (Nat×Oper)}:∀ (pre:List (Nat×Oper)) (S S':St) (lg:Log),runB C D hints id ops β (pre++(j,y)::post) S=some (S',lg)→
  (∀ x∈pre,qoe ops x.1 j x.2 y=true)→(∀ ex∈lg,∀ ey∈lg,(∃ x∈pre,ex.i=x.1)→ey.i=j→ex.free ey=true)→
  ∃ lg',runB C D hints id ops β ((j,y)::(pre++post)) S=some (S',lg')∧∀ e∈lg',e∈lg
 | [],S,S',lg,h,_,_=>⟨lg,h,fun e he=>he⟩
 | (i,x)::pre,S,S',lg,h,hap,hfr=>by
  rw[List.cons_append] at h
  obtain ⟨S1,ex,lg1,h1,h2,rfl⟩:=q85 h
  obtain ⟨lg2,k1,k2⟩:=qbft pre S1 S' lg1 h2 (fun x hx=>hap x (List.mem_cons_of_mem _ hx))
   (fun a ha b hb ⟨z,hz,e⟩ hj=>hfr a (List.mem_cons_of_mem _ ha) b (List.mem_cons_of_mem _ hb) ⟨z,List.mem_cons_of_mem _ hz,e⟩ hj)
  obtain ⟨S2,ey,lg3,q1,q2,rfl⟩:=q85 k1
  have hi:=(q3f h1).2
  have hj:=(q3f q1).2
  obtain ⟨T1,t1,t2⟩:=swap h1 q1 (hap (i,x) List.mem_cons_self) (hfr ex List.mem_cons_self ey (List.mem_cons_of_mem _ (k2 ey List.mem_cons_self)) ⟨(i,x),List.mem_cons_self,hi⟩ hj)
  refine ⟨ey::ex::lg3,qbnh t1 (qbnh t2 q2),fun e he=>?_⟩
  rcases List.mem_cons.1 he with rfl | he
  ·exact List.mem_cons_of_mem _ (k2 _ List.mem_cons_self)
  ·rcases List.mem_cons.1 he with rfl | he
   ·exact List.mem_cons_self
   ·exact List.mem_cons_of_mem _ (k2 _ (List.mem_cons_of_mem _ he))
end
theorem q59 {ops:Array Oper} {j:Nat} {o:Oper} (h:ops[j]? = some o):(j,o)∈qev ops:=by
 simp only[qev,List.mem_map]
 exact ⟨(o,j),List.mem_zipIdx_iff_getElem?.2 (by simpa using h),rfl⟩
section
variable {P:Program} {C:Ctx} {D:Den C} (hty:qck P C) (dok:DOk P C D)
include hty dok
theorem qbtm {np:List Nat} {Q:Exit→Act→World→Prop} {hints:Hints} {id:Nat} {ops:Array Oper} {F:St→Prop} (hgd:q2g ops=true) (hed:qwr ops=true) (hsl:qtx (Region.before ops) ops (qev ops)=true) (hnp:q1p np ops=true) :
  ∀ (fuel:Nat) (listed:Array Bool) (rest:List (Nat×Oper)) (S:St) (g:Ghost) (a:Act) (w:World),rest.length≤fuel→listed.size=ops.size→Down ops listed→rest.Sublist (qev ops)→
   (∀ x∈qev ops,x∈rest↔listed.getD x.1 true=false)→StRel w.heap S g a.tmps Nil→a.defers=[]→
   (∀ β,∃ S' lg LG,runB C D hints id ops β rest S=some (S',lg)∧(∀ e∈lg,e∈LG)∧quk (Region.before ops) LG LG=true∧F S')→
   (∀ S' g' a' w',F S'→StRel w'.heap S' g' a'.tmps Nil→g'.Same g→WFr g.L w w'→a'.defers=[]→qrm np a a'→Q .normal a' w')→wpAny P .any ops Q fuel listed a w:=by
 intro fuel
 induction fuel with
 | zero=>
  intro listed rest S g a w hlen hsz hdn hsub hiff st hdf hrun hQ
  have hr:rest=[]:=List.length_eq_zero_iff.1 (by omega)
  subst hr
  refine ⟨?_,?_⟩
  ·apply List.eq_nil_iff_forall_not_mem.2
   intro j hj
   obtain ⟨h0,o,ho,_⟩:=mem_ready.1 hj
   have:=(hiff (j,o) (q59 ho)).2 h0
   simp at this
  ·obtain ⟨S',lg,LG,h1,_,_,h4⟩:=hrun fun _=>true
   simp only[runB,Option.some.injEq,Prod.mk.injEq] at h1
   obtain ⟨rfl,_⟩:=h1
   exact hQ S g a w h4 st (.refl g) (.refl _ _) hdf (.refl _ _)
 | succ fuel ih=>
  intro listed rest S g a w hlen hsz hdn hsub hiff st hdf hrun hQ
  have hft:∀ j,j<ops.size→(listed.getD j true=listed.getD j false):=by
   intro j hj
   have:j<listed.size:=by omega
   simp[Array.getD,this]
  refine ⟨fun hre=>?_,fun j hj=>?_⟩
  ·have hr:rest=[]:=by
    cases rest with
    | nil=>rfl
    | cons x rest=>
     exfalso
     have key:∀ j,j<ops.size→listed.getD j true=true:=by
      intro j
      induction j using Nat.strongRecOn with
      | _ j ihj=>
       intro hlt
       cases hl:listed.getD j true with
       | true=>rfl
       | false=>
        exfalso
        have ho:ops[j]? = some ops[j]:=Array.getElem?_eq_getElem hlt
        have:j∈Region.ready .any ops listed:=by
         refine mem_ready.2 ⟨hl,ops[j],ho,fun e he hb=>?_⟩
         have hlt2:e.on<j:=by
          have he2:=hed
          simp only[qwr,List.all_eq_true] at he2
          have:=he2 (j,ops[j]) (q59 ho)
          rw[Array.all_eq_true_iff_forall_mem] at this
          have:=this e he
          rw[hb] at this
          simpa [qfs] using this
         rw[←hft e.on (by omega)]
         exact ihj e.on hlt2 (by omega)
        rw[hre] at this
        simp at this
     have hx:=hsub.subset List.mem_cons_self
     have h0:=(hiff x hx).1 List.mem_cons_self
     have hat:=q5j x hx
     have:=key x.1 (Array.getElem?_eq_some_iff.1 hat).1
     rw[h0] at this
     simp at this
   subst hr
   obtain ⟨S',lg,LG,h1,_,_,h4⟩:=hrun fun _=>true
   simp only[runB,Option.some.injEq,Prod.mk.injEq] at h1
   obtain ⟨rfl,_⟩:=h1
   exact hQ S g a w h4 st (.refl g) (.refl _ _) hdf (.refl _ _)
  ·obtain ⟨h0,y,hy,hedges⟩:=mem_ready.1 hj
   have hjlt:j<ops.size:=(Array.getElem?_eq_some_iff.1 hy).1
   have hmem:=(hiff (j,y) (q59 hy)).2 h0
   obtain ⟨pre,post,rfl⟩:=List.append_of_mem hmem
   -- indexes are apart
   have hnd:((qev ops).map (·.1)).Nodup:=by rw[q1b];exact List.nodup_range
   have hnd2:=(hsub.map (·.1)).nodup hnd
   simp only[List.map_append,List.map_cons] at hnd2
   have hinc:((pre++(j,y)::post).map (·.1)).Pairwise (· < ·):=by
    refine List.Pairwise.sublist (hsub.map (·.1)) ?_
    rw[q1b]
    exact List.pairwise_lt_range
   have hlt:∀ x∈pre,x.1<j:=by
    intro x hx
    rw[List.map_append,List.pairwise_append] at hinc
    exact hinc.2.2 x.1 (List.mem_map.2 ⟨x,hx,rfl⟩) j (by simp)
   have hgt:∀ x∈post,j<x.1:=by
    intro x hx
    rw[List.map_append,List.pairwise_append,List.map_cons,List.pairwise_cons] at hinc
    exact hinc.2.1.1 x.1 (List.mem_map.2 ⟨x,hx,rfl⟩)
   have hun:∀ x∈pre,qj5 (Region.before ops) x.1 j=false:=by
    intro x hx
    have hxt:x∈qev ops:=hsub.subset (by simp[hx])
    have hxu:=(hiff x hxt).1 (by simp[hx])
    cases ho:qj5 (Region.before ops) x.1 j with
    | false=>rfl
    | true=>
     exfalso
     simp only[qj5,Bool.or_eq_true] at ho
     rcases ho with ho | ho
     ·have:=qbje hdn j x.1 ho fun o' ho' e he hb=>by
       rw[hy] at ho'
       simp only[Option.some.injEq] at ho'
       subst ho'
       exact hedges e he hb
      have hxlt:x.1<ops.size:=(Array.getElem?_eq_some_iff.1 (q5j x hxt)).1
      rw[←hft x.1 hxlt,hxu] at this
      simp at this
     ·have:=qbo3 hed _ _ ho
      have:=hlt x hx
      omega
   have hap:∀ x∈pre,qoe ops x.1 j x.2 y=true:=by
    intro x hx
    have:=(qbcf hsl).sublist hsub
    rw[List.pairwise_append] at this
    rcases this.2.2 x hx (j,y) (by simp) with h | h
    ·have:=hun x hx
     simp only at h
     rw[this] at h
     simp at h
    ·exact h
   have hrun2:∀ β,∃ S1 e S' lg LG,qcd C D hints id ops (β j) S j y=some (S1,e)∧runB C D hints id ops β (pre++post) S1=some (S',lg)∧(∀ e∈lg,e∈LG)∧quk (Region.before ops) LG LG=true∧F S':=by
    intro β
    obtain ⟨S',lg,LG,h1,h2,h3,h4⟩:=hrun β
    obtain ⟨lg',q1,q2⟩:=qbft pre S S' lg h1 hap (by
     intro ex hex ey hey hx hyj
     obtain ⟨x,hx,e1⟩:=hx
     refine qbsh h3 (h2 ex hex) (h2 ey hey) ?_ ?_
     ·rw[e1,hyj];have:=hlt x hx;omega
     ·rw[e1,hyj];exact hun x hx)
    obtain ⟨S1,e,lg1,t1,t2,rfl⟩:=q85 q1
    exact ⟨S1,e,S',lg1,LG,t1,t2,fun e he=>h2 e (q2 e (List.mem_cons_of_mem _ he)),h3,h4⟩
   refine qbnp hty dok st (hints:=hints) (id:=id) hy (fun j' c=>qbiz hgd j y j' c hy) hdf (qbl4 hnp (j,y) (q59 hy)) (fun β=>?_) ?_
   ·obtain ⟨S1,e,_,_,_,h1,_⟩:=hrun2 fun _=>β
    exact ⟨_,h1⟩
   ·intro βj S1 e a' w' g' hs st' hsm hfr hdf' hfx
    refine ih (listed.setIfInBounds j true) (pre++post) S1 g' a' w' ?_ (by simpa using hsz) ?_ ?_ ?_ st' hdf' ?_ ?_
    ·simp only[List.length_append,List.length_cons] at hlen ⊢;omega
    ·intro q o hq hlq e he hb
     by_cases hqj:j=q
     ·subst hqj
      rw[hy] at hq
      simp only[Option.some.injEq] at hq
      subst hq
      exact getD_set_true (hedges e he hb)
     ·rw[getD_set_ne false hqj] at hlq
      exact getD_set_true (hdn q o hq hlq e he hb)
    ·exact List.Sublist.trans (List.Sublist.append (List.Sublist.refl pre) (List.sublist_cons_self _ _)) hsub
    ·intro x hx
     have hx1:=hiff x hx
     by_cases hxj:x.1=j
     ·constructor
      ·intro hm
       exfalso
       rcases List.mem_append.1 hm with hm | hm
       ·have:=hlt x hm;omega
       ·have:=hgt x hm;omega
      ·intro h
       exfalso
       have hl2:j<listed.size:=by omega
       simp[hxj,Array.getD,hl2] at h
     ·rw[getD_set_ne true (fun h=>hxj h.symm),←hx1]
      simp only[List.mem_append,List.mem_cons]
      constructor
      ·rintro (h | h)
       ·exact .inl h
       ·exact .inr (.inr h)
      ·rintro (h | h | h)
       ·exact .inl h
       ·exact absurd (by rw[h]) hxj
       ·exact .inr h
    ·intro β
     obtain ⟨S1',e',S',lg,LG,h1,h2,h3⟩:=hrun2 fun n=>if n=j then βj else β n
     simp only[if_true] at h1
     rw[hs] at h1
     simp only[Option.some.injEq,Prod.mk.injEq] at h1
     obtain ⟨rfl,rfl⟩:=h1
     refine ⟨S',lg,LG,?_,h3⟩
     rw[←h2]
     symm
     refine qbez _ _ fun x hx=>?_
     rw[if_neg]
     intro hxj
     rcases List.mem_append.1 hx with hm | hm
     ·have:=hlt x hm;omega
     ·have:=hgt x hm;omega
    ·intro S' g'' a'' w'' hF st'' hsm' hfr' hdf'' hfx'
     exact hQ S' g'' a'' w'' hF st'' (hsm.trans hsm') (hfr.trans (by rw[hsm.2.1] at hfr';exact hfr')) hdf'' (hfx.trans hfx')
theorem qbsj {np:List Nat} {R:Type} {r:R} {H:Hints} {id:Nat} {ops:Array Oper} {S:St} {k:Ex→St→Option R} {Q:Exit→Act→World→Prop} {g:Ghost} {a:Act} {w:World} {n:Nat}
  (hmix:P.follows .mixedOrders=true) (hnp:q1p np ops=true) (h:exec C D H n (.region id ops true) S k=some r):Goes np P C Q r (.region id ops true) S k g a w:=by
 intro st hdf hQ
 simp only[exec] at h
 split at h
 ·rename_i hgd
  have hR:=fun βs=>qyn (hints:=H) _ _ _ _ h S (Sim.refl S) βs
  have hchk:qwr ops=true∧qtx (Region.before ops) ops (qev ops)=true:=by
   obtain ⟨T1,lgT,S1,lg1,_,q2,_⟩:=hR []
   simp only[if_true] at q2
   split at q2
   ·rename_i hc
    simp only[Bool.and_eq_true] at hc
    exact ⟨hc.1.1,hc.2⟩
   ·simp at q2
  refine wp_region_any hmix ?_
  refine qbtm (hints:=H) (id:=id) (F:=fun S'=>∃ S1,k .normal S1=some r∧Sim S1 S') hty dok hgd hchk.1 hchk.2 hnp ops.size _ (qev ops) S g a _ ?_ (by simp) ?_ (List.Sublist.refl _) ?_ st hdf (fun β=>?_) ?_
  ·have:=congrArg List.length (q1b (ops:=ops))
   simp only[List.length_map,List.length_range] at this
   omega
  ·intro j o ho hl
   exfalso
   have hlt:=(Array.getElem?_eq_some_iff.1 ho).1
   simp[hlt] at hl
  ·intro x hx
   have hlt:=(Array.getElem?_eq_some_iff.1 (q5j x hx)).1
   simp[hx,hlt]
  ·obtain ⟨T1,lgT,S1,lg1,q1,q2,q3,q4,_⟩:=hR ((qev ops).map fun x=>β x.1)
   simp only[if_true] at q2
   split at q2
   ·rename_i hc
    simp only[Bool.and_eq_true] at hc
    exact ⟨T1,lgT,lg1,by rw[qbnd];exact q1,q4,hc.1.2,S1,q2,q3⟩
   ·simp at q2
  ·intro S' g' a' w' hF st' hsm hfr hdf' hfx
   obtain ⟨S1,hk,hsim⟩:=hF
   exact hQ .normal S1 g' a' w' hk (qbni hsim st') hsm ((WFr.drawn _).trans hfr) hdf' hfx
 ·simp at h
theorem qww {np:List Nat} {R:Type} {r:R} {H:Hints} (hmix:P.follows .mixedOrders=true):∀ (c:Code) (n:Nat) (S:St) (k:Ex→St→Option R),qf9 np c=true→exec C D H n c S k=some r→
  ∀ (Q:Exit→Act→World→Prop) (g:Ghost) (a:Act) (w:World),Goes np P C Q r c S k g a w
 | .skip,n,S,k,hc,h,Q,g,a,w=>by
  intro st hdf hQ
  exact wp_skip (hQ .normal S g a w (by simpa only [exec] using h) st (.refl g) (.refl _ _) hdf (.refl _ _))
 | .region id ops dr,n,S,k,hc,h,Q,g,a,w=>by
  cases dr with
  | false=>exact qbpu hty dok hc h
  | true=>exact qbsj hty dok hmix hc h
 | .seq x y,n,S,k,hc,h,Q,g,a,w=>by
  intro st hdf hQ
  simp only[qf9,Bool.and_eq_true] at hc
  simp only[exec] at h
  refine wp_seq (qww hmix x n S _ hc.1 h _ g a w st hdf ?_)
  intro e S' g' a' w' hk st' hsm hfr hdf' hfx
  cases e with
  | normal=>
   simp only[Ex.out,Exit.then]
   refine qww hmix y n _ k hc.2 hk Q g' a' w' (show StRel w'.heap (cutC H y S') g' a'.tmps Nil by unfold cutC;split<;>first | exact q58 st' _ _ | exact st') hdf' ?_
   intro e2 S2 g2 a2 w2 hk2 st2 hsm2 hfr2 hdf2 hfx2
   exact hQ e2 S2 g2 a2 w2 hk2 st2 (hsm.trans hsm2) (hfr.trans (by rw[hsm.2.1] at hfr2;exact hfr2)) hdf2 (hfx.trans hfx2)
  | exit id=>exact hQ (.exit id) S' g' a' w' hk st' hsm hfr hdf' hfx
  | ret=>exact hQ .ret S' g' a' w' hk st' hsm hfr hdf' hfx
 | .cond c x y,n,S,k,hc,h,Q,g,a,w=>by
  intro st hdf hQ
  simp only[exec] at h
  cases hb:V.asBool (ev S c) with
  | none=>rw[hb] at h;simp at h
  | some t=>
   rw[hb] at h
   simp only at h
   have hv:=qbin hb (qbr4 st c)
   refine wp_cond (t:=t) hv ?_
   cases t with
   | true=>exact qww hmix x n S k (by simp only[qf9,Bool.and_eq_true] at hc;exact hc.1) h Q g a w st hdf hQ
   | false=>exact qww hmix y n S k (by simp only[qf9,Bool.and_eq_true] at hc;exact hc.2) h Q g a w st hdf hQ
 | .block id x,n,S,k,hc,h,Q,g,a,w=>by
  intro st hdf hQ
  simp only[exec] at h
  refine wp_block (qww hmix x n S _ (by simpa only [qf9] using hc) h _ g a w st hdf ?_)
  intro e S' g' a' w' hk st' hsm hfr hdf' hfx
  cases e with
  | normal=>exact hQ .normal S' g' a' w' hk st' hsm hfr hdf' hfx
  | exit j=>
   simp only at hk
   simp only[Ex.out,Exit.inBlock]
   split at hk
   ·rename_i hj;rw[if_pos hj];exact hQ .normal S' g' a' w' hk st' hsm hfr hdf' hfx
   ·rename_i hj;rw[if_neg hj];exact hQ (.exit j) S' g' a' w' hk st' hsm hfr hdf' hfx
  | ret=>exact hQ .ret S' g' a' w' hk st' hsm hfr hdf' hfx
 | .loop x,n,S,k,hc,h,Q,g,a,w=>by
  intro st hdf hQ
  simp only[exec] at h
  cases hl:H.keep.lookup (qnu x) with
  | none=>rw[hl] at h;simp at h
  | some kp=>
   rw[hl] at h
   simp only at h
   have key:∀ (m:Nat) (S:St) (g1:Ghost) (a1:Act) (w1:World),q6d (exec C D H n x) (St.canon kp.1 kp.2.2) (St.canon kp.2.1 kp.2.2) m S k=some r→StRel w1.heap S g1 a1.tmps Nil→g1.Same g→WFr g.L w w1→a1.defers=[]→qrm np a a1→
     ∀ b k' cs,∃ e a' w',Q e a' w'∧Arrives P (lone (b.at a1 (.code x::.inLoop x::k')) cs w1) b k' cs e a' w':=by
    intro m
    induction m with
    | zero=>intro S g1 a1 w1 h;simp[q6d] at h
    | succ m ih=>
     intro S g1 a1 w1 h st hsm hfr hdf hfx b k' cs
     simp only[q6d] at h
     have hx:=qww hmix x n _ _ (by simpa only [qf9] using hc) h (Exit.then (fun a' w'=>∀ b k' cs,∃ e a'' w'',Q e a'' w''∧Arrives P (lone (b.at a' (.code x::.inLoop x::k')) cs w') b k' cs e a'' w'') Q) g1 a1 w1 (q58 st kp.1 kp.2.2) hdf (by
      intro e S' g' a' w' hk st' hsm' hfr' hdf' hfx'
      have hfx2:=hfx.trans hfx'
      have hsm2:=hsm.trans hsm'
      have hfr2:WFr g.L w w':=hfr.trans (by rw[hsm.2.1] at hfr';exact hfr')
      cases e with
      | normal=>exact ih S' g' a' w' hk st' hsm2 hfr2 hdf' hfx2
      | exit id=>exact hQ (.exit id) _ g' a' w' hk (q58 st' kp.2.1 kp.2.2) hsm2 hfr2 hdf' hfx2
      | ret=>exact hQ .ret _ g' a' w' hk (q58 st' kp.2.1 kp.2.2) hsm2 hfr2 hdf' hfx2)
     obtain ⟨e,a₁,w₁,hq,harr⟩:=hx b (.inLoop x::k') cs
     cases e with
     | normal=>
      obtain ⟨e₂,a₂,w₂,hq₂,harr₂⟩:=hq b k' cs
      exact ⟨e₂,a₂,w₂,hq₂,.of_steps (Steps.trans harr (.one step_inLoop)) harr₂⟩
     | exit id=>exact ⟨_,a₁,w₁,hq,.pass (x:=.inLoop x) rfl (fun _ _=>.inl (by simp)) harr⟩
     | goto l=>exact ⟨_,a₁,w₁,hq,.pass (x:=.inLoop x) rfl (fun _ _=>.inl (by simp)) harr⟩
     | ret=>exact ⟨_,a₁,w₁,hq,.pass (x:=.inLoop x) rfl (fun _ _=>.inl (by simp)) harr⟩
     | panic ch=>exact ⟨_,a₁,w₁,hq,.pass (x:=.inLoop x) rfl (fun _ _=>.inl (by simp)) harr⟩
     | outgrown=>exact ⟨_,a₁,w₁,hq,.pass (x:=.inLoop x) rfl (fun _ _=>.inl (by simp)) harr⟩
   intro b k' cs
   obtain ⟨e,a',w',hq,harr⟩:=key n S g a w h st (.refl g) (.refl _ _) hdf (.refl _ _) b k' cs
   exact ⟨e,a',w',hq,.of_steps (.one step_loop) harr⟩
 | .exit id,n,S,k,hc,h,Q,g,a,w=>by
  intro st hdf hQ
  exact wp_exit (hQ (.exit id) S g a w (by simpa only [exec] using h) st (.refl g) (.refl _ _) hdf (.refl _ _))
 | .ret,n,S,k,hc,h,Q,g,a,w=>by
  intro st hdf hQ
  exact wp_ret (hQ .ret S g a w (by simpa only [exec] using h) st (.refl g) (.refl _ _) hdf (.refl _ _))
 | .rangeFunc _ _ _ _,n,S,k,hc,h,Q,g,a,w=>by simp[exec] at h
 | .scope _,n,S,k,hc,h,Q,g,a,w=>by simp[exec] at h
 | .label _,n,S,k,hc,h,Q,g,a,w=>by simp[exec] at h
 | .goto _,n,S,k,hc,h,Q,g,a,w=>by simp[exec] at h
 | .refuse _,n,S,k,hc,h,Q,g,a,w=>by simp[exec] at h
end
end
end Go.V


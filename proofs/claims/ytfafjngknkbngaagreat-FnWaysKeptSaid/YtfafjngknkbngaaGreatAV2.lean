import Derived.Orders
import Derived.Test.YtfafjngknkbngaaGreatAV1
set_option linter.unusedVariables false
set_option linter.unusedSimpArgs false
set_option linter.unusedSectionVars false
namespace Go.V
open Go
theorem qbtm {h:Array Obj} {S:St} {g:Ghost} {q:Nat} {R:Root} (hR:S.root q=some R):∀ (t:Ty) {a:AV} {p:Path} {md:Mk} {xd:t.den} {z:Mk×t.den} {cu:List Value} {rp:Nat×Path},
  focus R.ty R.ms R.x p=some ⟨t,md,xd⟩→AVC h S g a cu→qe6 q t a p md xd=some z→qlk a p=true→qcw a=some rp→inR R.ty R.x p:=by
 intro t
 induction t with
 | pair ta tb iha ihb=>
  intro a p md xd z cu rp hf hc hl hpo hp
  cases a with
  | pair u v=>
   simp only[qe6,Option.bind_eq_some_iff] at hl
   obtain ⟨y,hy,z',hz,-⟩:=hl
   simp only[AVC] at hc
   obtain ⟨ca,cb,-,h1,h2⟩:=hc
   simp only[qlk,Bool.and_eq_true] at hpo
   cases hu:qcw u with
   | some rp'=>
    have:=iha (by rw[qhk p _ hf];simp[focus]) h1 hy hpo.1 hu
    exact ((qoy p _ hf).1 this).1
   | none=>
    cases hv:qcw v with
    | some rp'=>
     have:=ihb (by rw[qhk p _ hf];simp[focus]) h2 hz hpo.2 hv
     exact ((qoy p _ hf).1 this).1
    | none=>simp[qcw,hu,hv] at hp
  | brw r' p' s=>simp[qe6] at hl
  | _=>simp[qcw] at hp
 | sl e ih=>
  intro a p md xd z cu rp hf hc hl hpo hp
  cases a with
  | pair u v=>simp[qe6] at hl
  | brw r' p' s=>
   simp only[qe6] at hl
   cases md with
   | own s' m0=>
    simp only at hl
    split at hl
    ·rename_i hcnd
     obtain ⟨rfl,rfl⟩:=hcnd
     simp only[qlk,decide_eq_true_eq] at hpo
     subst hpo
     simp only[AVC] at hc
     obtain ⟨v,rfl,hb⟩:=hc
     exact (hb R hR _ _ _ hf).1
    ·simp at hl
   | _=>simp at hl
  | _=>simp[qcw] at hp
 | _=>
  intro a p md xd z cu rp hf hc hl hpo hp
  cases a with
  | pair u v=>simp[qe6] at hl
  | brw r' p' s=>simp[qe6] at hl
  | _=>simp[qcw] at hp
theorem qbmo {h:Array Obj} {S:St} {g:Ghost} {q:Nat} {R:Root} (hR:S.root q=some R):∀ (t:Ty) {a:AV} {p:Path} {md:Mk} {xd:t.den} {mx:Mk} {x:t.den} {c cu:List Value} {base:Base} {F:BS},
  focus R.ty R.ms R.x p=some ⟨t,md,xd⟩→atP h R.ty (g.C q) (g.base q) p=some (base,c)→Rep h g.Pr t md xd c F→AVC h S g a cu→
  qe6 q t a p md xd=some (mx,x)→qlk a p=true→Rep h g.Pr t mx x cu F:=by
 intro t
 have hval:∀ (t:Ty) (t':Ty) (x':t'.den) (md:Mk) (mx:Mk) (x:t.den) (cu:List Value) (F:BS),
   (if md.still=true then (qbz t' t x').bind fun y=>some (Mk.no,y) else none)=some (mx,x)→Rep h g.Pr t' .no x' cu Nil→Rep h g.Pr t mx x cu F:=by
  intro t t' x' md mx x cu F hl hr
  split at hl
  ·simp only[Option.bind_eq_some_iff,Option.some.injEq,Prod.mk.injEq] at hl
   obtain ⟨y,hy,rfl,rfl⟩:=hl
   exact (Rep.cast hy hr).2.room _ (Sub.nil _)
  ·simp at hl
 induction t with
 | pair ta tb iha ihb=>
  intro a p md xd mx x c cu base F hf ha r hc hl hpo
  cases a with
  | pair u v=>
   simp only[qe6,Option.bind_eq_some_iff,Option.some.injEq,Prod.mk.injEq] at hl
   obtain ⟨y,hy,z',hz,rfl,rfl⟩:=hl
   simp only[AVC] at hc
   obtain ⟨ca,cb,rfl,h1,h2⟩:=hc
   simp only[qlk,Bool.and_eq_true] at hpo
   simp only[Rep] at r
   obtain ⟨da,db,Fa,Fb,rfl,ra,rb,sa,sb,dd⟩:=r
   have hw:=Rep.width _ ra
   have e1:=iha (base:=base) (F:=Fa) (c:=da) (by rw[qhk p _ hf];simp[focus]) (by rw[qll p _ hf ha];simp only[atP];rw[←hw,List.take_left' rfl]) ra h1 hy hpo.1
   have e2:=ihb (base:=base.map fun x=>(x.1,x.2+ta.width)) (F:=Fb) (c:=db) (by rw[qhk p _ hf];simp[focus]) (by rw[qll p _ hf ha];simp only[atP];rw[←hw,List.drop_left' rfl]) rb h2 hz hpo.2
   simp only[Rep]
   exact ⟨ca,cb,Fa,Fb,rfl,e1,e2,sa,sb,dd⟩
  | val t' x'=>simp only[qe6] at hl;simp only[AVC] at hc;exact hval _ _ _ _ _ _ _ _ hl hc
  | _=>simp[qe6] at hl
 | sl e ih=>
  intro a p md xd mx x c cu base F hf ha r hc hl hpo
  cases a with
  | brw r' p' s=>
   simp only[qe6] at hl
   cases md with
   | own s' m0=>
    simp only at hl
    split at hl
    ·rename_i hcnd
     obtain ⟨rfl,rfl⟩:=hcnd
     simp only[qlk,decide_eq_true_eq] at hpo
     subst hpo
     simp only[AVC] at hc
     obtain ⟨v,rfl,hb⟩:=hc
     obtain ⟨_,b',hat⟩:=hb R hR _ _ _ hf
     rw[hat] at ha
     simp only[Option.some.injEq,Prod.mk.injEq] at ha hl
     obtain ⟨_,rfl⟩:=ha
     obtain ⟨rfl,rfl⟩:=hl
     exact r
    ·simp at hl
   | _=>simp at hl
  | val t' x'=>simp only[qe6] at hl;simp only[AVC] at hc;exact hval _ _ _ _ _ _ _ _ hl hc
  | _=>simp[qe6] at hl
 | unit=>
  intro a p md xd mx x c cu base F hf ha r hc hl hpo
  cases a with
  | val t' x'=>simp only[qe6] at hl;simp only[AVC] at hc;exact hval _ _ _ _ _ _ _ _ hl hc
  | unit=>simp only[AVC] at hc;subst hc;simp only[Rep]
  | _=>simp[qe6] at hl
 | int k=>
  intro a p md xd mx x c cu base F hf ha r hc hl hpo
  cases a with
  | val t' x'=>simp only[qe6] at hl;simp only[AVC] at hc;exact hval _ _ _ _ _ _ _ _ hl hc
  | _=>simp[qe6] at hl
 | bool=>
  intro a p md xd mx x c cu base F hf ha r hc hl hpo
  cases a with
  | val t' x'=>simp only[qe6] at hl;simp only[AVC] at hc;exact hval _ _ _ _ _ _ _ _ hl hc
  | _=>simp[qe6] at hl
 | str=>
  intro a p md xd mx x c cu base F hf ha r hc hl hpo
  cases a with
  | val t' x'=>simp only[qe6] at hl;simp only[AVC] at hc;exact hval _ _ _ _ _ _ _ _ hl hc
  | _=>simp[qe6] at hl
theorem qbru {h h2:Array Obj} {S:St} {g:Ghost} {Pr2:BS} {site q:Nat} {R:Root} (hR:S.root q=some R) (hp:Sub g.Pr Pr2) (hk:∀ b,g.Pr b→h2[b]? = h[b]?) :
  ∀ (t:Ty) {a:AV} {p:Path} {md:Mk} {xd:t.den} {m mm:Mk} {o yy:t.den} {c cu:List Value} {base:Base} {F Os:BS},
  focus R.ty R.ms R.x p=some ⟨t,md,xd⟩→atP h R.ty (g.C q) (g.base q) p=some (base,c)→Rep h g.Pr t md xd c F→AVC h S g a cu→
  Rep h2 Pr2 t m o cu Os→(∃ z,qe6 q t a p md xd=some z)→qlk a p=true→qbq site q t a p md xd m o=some (mm,yy)→
  ∃ F1 F2,Sub F1 Os∧Sub F2 Os∧Dis F1 F2∧Rep h2 (fun b=>Pr2 b∨F2 b) t mm yy c F1:=by
 intro t
 have hval:∀ (t:Ty) (md:Mk) (xd:t.den) (mm:Mk) (yy:t.den) (c:List Value) (F Os:BS),
   (if md.still=true then some (Mk.no,xd) else none)=some (mm,yy)→Rep h g.Pr t md xd c F→∃ F1 F2,Sub F1 Os∧Sub F2 Os∧Dis F1 F2∧Rep h2 (fun b=>Pr2 b∨F2 b) t mm yy c F1:=by
  intro t md xd mm yy c F Os hl hr
  split at hl
  ·rename_i hs
   simp only[Option.some.injEq,Prod.mk.injEq] at hl
   obtain ⟨rfl,rfl⟩:=hl
   exact ⟨Nil,Nil,Sub.nil _,Sub.nil _,Dis.nil _,Rep.mono (fun b hb=>.inl (hp b hb)) hk t (Rep.no_room (F':=Nil) t hs hr) (Sub.refl _) (fun _ h=>h.elim)⟩
  ·simp at hl
 induction t with
 | pair ta tb iha ihb=>
  intro a p md xd m mm o yy c cu base F Os hf ha r hc ro hle hpo hl
  cases a with
  | pair u v=>
   simp only[qbq,Option.bind_eq_some_iff,Option.some.injEq,Prod.mk.injEq] at hl
   obtain ⟨y,hy,z',hz,rfl,rfl⟩:=hl
   simp only[AVC] at hc
   obtain ⟨ca,cb,rfl,h1,h2'⟩:=hc
   simp only[qlk,Bool.and_eq_true] at hpo
   simp only[Rep] at r
   obtain ⟨da,db,Fa,Fb,rfl,ra,rb,sa,sb,dd⟩:=r
   have hw:=Rep.width _ ra
   simp only[Rep] at ro
   obtain ⟨ea,eb,Oa,Ob,eo,roa,rob,soa,sob,doo⟩:=ro
   have f1:focus R.ty R.ms R.x (p++[.fst])=some ⟨ta,md.fst,xd.1⟩:=by rw[qhk p _ hf];simp[focus]
   have f2:focus R.ty R.ms R.x (p++[.snd])=some ⟨tb,md.snd,xd.2⟩:=by rw[qhk p _ hf];simp[focus]
   have a1:atP h R.ty (g.C q) (g.base q) (p++[.fst])=some (base,da):=by rw[qll p _ hf ha];simp only[atP];rw[←hw,List.take_left' rfl]
   have a2:atP h R.ty (g.C q) (g.base q) (p++[.snd])=some (base.map fun x=>(x.1,x.2+ta.width),db):=by rw[qll p _ hf ha];simp only[atP];rw[←hw,List.drop_left' rfl]
   obtain ⟨zz,hle⟩:=hle
   simp only[qe6,Option.bind_eq_some_iff] at hle
   obtain ⟨zy,hzy,zz,hzz,-⟩:=hle
   have hcl:ca=ea∧cb=eb:=by
    have w1:=Rep.width _ roa
    have w2:=Rep.width _ rob
    have:ca.length=ea.length:=by
     rw[w1]
     exact Rep.width _ (qbmo hR ta f1 a1 ra h1 (mx:=zy.1) (x:=zy.2) hzy hpo.1)
    exact List.append_inj eo this
   obtain ⟨rfl,rfl⟩:=hcl
   obtain ⟨A1,A2,s1,s2,d1,r1⟩:=iha f1 a1 ra h1 roa ⟨_,hzy⟩ hpo.1 hy
   obtain ⟨B1,B2,s3,s4,d2,r2⟩:=ihb f2 a2 rb h2' rob ⟨_,hzz⟩ hpo.2 hz
   refine ⟨fun b=>A1 b∨B1 b,fun b=>A2 b∨B2 b,?_,?_,?_,?_⟩
   ·rintro z (hz | hz)
    ·exact soa z (s1 z hz)
    ·exact sob z (s3 z hz)
   ·rintro z (hz | hz)
    ·exact soa z (s2 z hz)
    ·exact sob z (s4 z hz)
   ·rintro z (hz | hz) (hy | hy)
    ·exact d1 z hz hy
    ·exact doo z (s1 z hz) (s4 z hy)
    ·exact doo z (s2 z hy) (s3 z hz)
    ·exact d2 z hz hy
   ·simp only[Rep]
    exact ⟨da,db,A1,B1,rfl,Rep.mono (fun z hz=>hz.imp id .inl) (fun _ _=>rfl) _ r1 (Sub.refl _) (fun _ _=>rfl),
     Rep.mono (fun z hz=>hz.imp id .inr) (fun _ _=>rfl) _ r2 (Sub.refl _) (fun _ _=>rfl),fun z hz=>.inl hz,fun z hz=>.inr hz,doo.mono s1 s3⟩
  | val t' x'=>simp only[qbq] at hl;exact hval _ _ _ _ _ _ _ _ hl r
  | unit=>simp only[qbq] at hl;exact hval _ _ _ _ _ _ _ _ hl r
  | _=>simp[qbq] at hl
 | sl e ih=>
  intro a p md xd m mm o yy c cu base F Os hf ha r hc ro hle hpo hl
  cases a with
  | brw r' p' s=>
   simp only[qbq] at hl
   cases md with
   | own s' m0=>
    simp only at hl
    split at hl
    ·rename_i hcnd
     obtain ⟨rfl,rfl,htf,hsv⟩:=hcnd
     simp only[qlk,decide_eq_true_eq] at hpo
     subst hpo
     simp only[AVC] at hc
     obtain ⟨v,rfl,hb⟩:=hc
     obtain ⟨_,b',hat⟩:=hb R hR _ _ _ hf
     rw[hat] at ha
     simp only[Option.some.injEq,Prod.mk.injEq] at ha hl
     obtain ⟨_,rfl⟩:=ha
     obtain ⟨rfl,rfl⟩:=hl
     obtain ⟨F1,F2,s1,s2,d,rr⟩:=Rep.serves _ hsv ro
     refine ⟨F1,F2,s1,s2,d,?_⟩
     have:=(Rep.stamp site _).1 rr
     simp only[Mk.stamp,Rep] at this ⊢
     exact this
    ·simp at hl
   | _=>simp at hl
  | val t' x'=>simp only[qbq] at hl;exact hval _ _ _ _ _ _ _ _ hl r
  | unit=>simp only[qbq] at hl;exact hval _ _ _ _ _ _ _ _ hl r
  | _=>simp[qbq] at hl
 | unit=>
  intro a p md xd m mm o yy c cu base F Os hf ha r hc ro hle hpo hl
  cases a with
  | val t' x'=>simp only[qbq] at hl;exact hval _ _ _ _ _ _ _ _ hl r
  | unit=>simp only[qbq] at hl;exact hval _ _ _ _ _ _ _ _ hl r
  | _=>simp[qbq] at hl
 | int k=>
  intro a p md xd m mm o yy c cu base F Os hf ha r hc ro hle hpo hl
  cases a with
  | val t' x'=>simp only[qbq] at hl;exact hval _ _ _ _ _ _ _ _ hl r
  | unit=>simp only[qbq] at hl;exact hval _ _ _ _ _ _ _ _ hl r
  | _=>simp[qbq] at hl
 | bool=>
  intro a p md xd m mm o yy c cu base F Os hf ha r hc ro hle hpo hl
  cases a with
  | val t' x'=>simp only[qbq] at hl;exact hval _ _ _ _ _ _ _ _ hl r
  | unit=>simp only[qbq] at hl;exact hval _ _ _ _ _ _ _ _ hl r
  | _=>simp[qbq] at hl
 | str=>
  intro a p md xd m mm o yy c cu base F Os hf ha r hc ro hle hpo hl
  cases a with
  | val t' x'=>simp only[qbq] at hl;exact hval _ _ _ _ _ _ _ _ hl r
  | unit=>simp only[qbq] at hl;exact hval _ _ _ _ _ _ _ _ hl r
  | _=>simp[qbq] at hl
theorem qkw {t:Ty} {md mm:Mk} {xd yy:t.den} (hl:(if md.still=true then some (Mk.no,xd) else none)=some (mm,yy)):md.still=true∧mm=.no∧yy=xd:=by
 split at hl
 ·rename_i hs
  simp only[Option.some.injEq,Prod.mk.injEq] at hl
  exact ⟨hs,hl.1.symm,hl.2.symm⟩
 ·simp at hl
theorem qbst {hd:Nat→Value} {site q:Nat} (hs:site<1048576):∀ (t:Ty) {a:AV} {p:Path} {md:Mk} {xd:t.den} {m mm:Mk} {o yy:t.den} {c:List Value},
  qbq site q t a p md xd m o=some (mm,yy)→TagC hd t md c→TagC hd t mm c∧md.upd site (site+1) mm:=by
 intro t
 induction t with
 | pair ta tb iha ihb=>
  intro a p md xd m mm o yy c hl htg
  cases a with
  | pair u v=>
   simp only[qbq,Option.bind_eq_some_iff,Option.some.injEq,Prod.mk.injEq] at hl
   obtain ⟨y,hy,z',hz,rfl,rfl⟩:=hl
   simp only[TagC] at htg ⊢
   have h1:=iha hy htg.1
   have h2:=ihb hz htg.2
   exact ⟨⟨h1.1,h2.1⟩,h1.2,h2.2⟩
  | val t' x'=>simp only[qbq] at hl;obtain ⟨_,rfl,rfl⟩:=qkw hl;exact ⟨TagC.no _ _,trivial⟩
  | unit=>simp only[qbq] at hl;obtain ⟨_,rfl,rfl⟩:=qkw hl;exact ⟨TagC.no _ _,trivial⟩
  | _=>simp[qbq] at hl
 | sl e ih=>
  intro a p md xd m mm o yy c hl htg
  cases a with
  | brw r' p' s=>
   simp only[qbq] at hl
   cases md with
   | own s' m0=>
    simp only at hl
    split at hl
    ·rename_i hcnd
     obtain ⟨rfl,rfl,htf,hsv⟩:=hcnd
     simp only[Option.some.injEq,Prod.mk.injEq] at hl
     obtain ⟨rfl,rfl⟩:=hl
     simp only[TagC] at htg ⊢
     exact ⟨⟨htg.1,Mk.tagFree_stamp hs htf⟩,.inr ⟨_,rfl,Mk.upd_of_fresh _ (Mk.fresh_stamp site htf)⟩⟩
    ·simp at hl
   | _=>simp at hl
  | val t' x'=>simp only[qbq] at hl;obtain ⟨_,rfl,rfl⟩:=qkw hl;exact ⟨TagC.no _ _,trivial⟩
  | unit=>simp only[qbq] at hl;obtain ⟨_,rfl,rfl⟩:=qkw hl;exact ⟨TagC.no _ _,trivial⟩
  | _=>simp[qbq] at hl
 | _=>
  intro a p md xd m mm o yy c hl htg
  cases a with
  | val t' x'=>simp only[qbq] at hl;obtain ⟨_,rfl,rfl⟩:=qkw hl;exact ⟨TagC.no _ _,trivial⟩
  | unit=>simp only[qbq] at hl;obtain ⟨_,rfl,rfl⟩:=qkw hl;exact ⟨TagC.no _ _,trivial⟩
  | _=>simp[qbq] at hl
theorem qbov {h h2:Array Obj} {Pr Pr2:BS} {site q:Nat}:∀ (t:Ty) {a:AV} {p:Path} {md:Mk} {xd:t.den} {m mm:Mk} {o yy:t.den} {c:List Value} {base:Base} {F F1:BS},
  qbq site q t a p md xd m o=some (mm,yy)→Rep h Pr t md xd c F→Rep h2 Pr2 t mm yy c F1→
  ∀ p' t1 n1,qc6 site (site+1) p'=true→qs t mm p'=some (t1,n1)→inR t xd p'→inR t yy p'∧∀ bp cp,atP h t c base p'=some (bp,cp)→
   ∃ cp',atP h2 t c base p'=some (bp,cp')∧(∀ s a,n1=.own s a→¬ (site≤s∧s<site+1)→cp'=cp):=by
 intro t
 have hval:∀ (t:Ty) (c:List Value) (base:Base) (x:t.den) (p':Path) (t1:Ty) (n1:Mk),qc6 site (site+1) p'=true→qs t .no p'=some (t1,n1)→inR t x p'→inR t x p'∧∀ bp cp,atP h t c base p'=some (bp,cp)→
   ∃ cp',atP h2 t c base p'=some (bp,cp')∧(∀ s a,n1=.own s a→¬ (site≤s∧s<site+1)→cp'=cp):=by
  intro t c base x p' t1 n1 hp hfm hi
  obtain ⟨hi',hn1⟩:=qkb (lo:=site) (hi:=site+1) p' (m:=.no) trivial hp hfm
  refine ⟨hi,fun bp cp ha=>?_⟩
  obtain ⟨cp',h3⟩:=qs9 (h':=h2) p' _ c _ hi' ha
  exact ⟨cp',h3,fun s a' e hs=>by subst e;exact absurd hn1 hs⟩
 have hnil:∀ (t:Ty) (mm:Mk) (c:List Value) (base:Base) (y:t.den) (t1:Ty) (n1:Mk),inR t y []∧∀ bp cp,atP h t c base []=some (bp,cp)→
   ∃ cp',atP h2 t c base []=some (bp,cp')∧(∀ s a,n1=.own s a→¬ (site≤s∧s<site+1)→cp'=cp):=by
  intro t mm c base y t1 n1
  refine ⟨q7i _ _,fun bp cp ha=>?_⟩
  rw[qyi] at ha
  exact ⟨cp,by rw[qyi];exact ha,fun _ _ _ _=>rfl⟩
 induction t with
 | pair ta tb iha ihb=>
  intro a p md xd m mm o yy c base F F1 hl r r2 p' t1 n1 hp hfm hi
  cases a with
  | pair u v=>
   simp only[qbq,Option.bind_eq_some_iff,Option.some.injEq,Prod.mk.injEq] at hl
   obtain ⟨y,hy,z',hz,rfl,rfl⟩:=hl
   simp only[Rep] at r r2
   obtain ⟨da,db,Fa,Fb,rfl,ra,rb,-⟩:=r
   obtain ⟨ea,eb,Ea,Eb,ee,qa,qb,-⟩:=r2
   obtain ⟨rfl,rfl⟩:=List.append_inj ee (by rw[Rep.width _ ra,Rep.width _ qa])
   have hw:=Rep.width _ ra
   cases p' with
   | nil=>exact hnil _ (.pr y.1 z'.1) _ _ _ t1 _
   | cons st p'=>
    cases st with
    | fst=>
     simp only[qs,Mk.fst] at hfm
     simp only[inR] at hi ⊢
     obtain ⟨h1,h3⟩:=iha (base:=base) hy ra qa p' t1 n1 (by simpa [qc6] using hp) hfm hi
     refine ⟨h1,fun bp cp ha=>?_⟩
     simp only[atP] at ha ⊢
     rw[←hw,List.take_left' rfl] at ha ⊢
     exact h3 _ _ ha
    | snd=>
     simp only[qs,Mk.snd] at hfm
     simp only[inR] at hi ⊢
     obtain ⟨h1,h3⟩:=ihb (base:=base.map fun x=>(x.1,x.2+ta.width)) hz rb qb p' t1 n1 (by simpa [qc6] using hp) hfm hi
     refine ⟨h1,fun bp cp ha=>?_⟩
     simp only[atP] at ha ⊢
     rw[←hw,List.drop_left' rfl] at ha ⊢
     rw[hw] at ha ⊢
     exact h3 _ _ ha
    | idx i s=>simp[qs] at hfm
  | val t' x'=>simp only[qbq] at hl;obtain ⟨_,rfl,rfl⟩:=qkw hl;exact hval _ _ _ _ _ _ _ hp hfm hi
  | unit=>simp only[qbq] at hl;obtain ⟨_,rfl,rfl⟩:=qkw hl;exact hval _ _ _ _ _ _ _ hp hfm hi
  | _=>simp[qbq] at hl
 | sl e ih=>
  intro a p md xd m mm o yy c base F F1 hl r r2 p' t1 n1 hp hfm hi
  cases a with
  | brw r' p0 s=>
   simp only[qbq] at hl
   cases md with
   | own s' m0=>
    simp only at hl
    split at hl
    ·rename_i hcnd
     obtain ⟨rfl,rfl,htf,hsv⟩:=hcnd
     simp only[Option.some.injEq,Prod.mk.injEq] at hl
     obtain ⟨rfl,rfl⟩:=hl
     cases p' with
     | nil=>exact hnil _ .no _ _ _ t1 _
     | cons st p'=>
      cases st with
      | fst=>simp[qs] at hfm
      | snd=>simp[qs] at hfm
      | idx i s=>
       simp only[qs] at hfm
       split at hfm
       ·rename_i hss
        simp only[qc6,Bool.and_eq_true] at hp
        obtain ⟨hip,hn1⟩:=qkb p' (Mk.fresh_stamp site htf) hp.2 hfm
        simp only[Rep] at r r2
        obtain ⟨a1,k1,rfl,hl1,r⟩:=r
        obtain ⟨a2,k2,e2,hl2,r2⟩:=r2
        simp only[List.cons.injEq,Value.slice.injEq,and_true] at e2
        obtain ⟨rfl,hlen,rfl⟩:=e2
        simp only[inR] at hi ⊢
        refine ⟨⟨hlen ▸ hi.1,qli _ _ hip hfm⟩,fun bp cp ha=>?_⟩
        rcases r2 with r2 | ⟨b,cs,rfl,fb,hb,hsz,-⟩
        ·omega
        obtain ⟨ty,lo,hi',he,_⟩:=hb
        simp only[atP,he]
        simp only[atP] at ha
        split at ha
        ·obtain ⟨cp',h3⟩:=qs9 (h':=h2) p' _ (sub cs (i * e.width) e.width) _ hip ha
         exact ⟨cp',h3,fun s a' e hs=>by subst e;exact absurd hn1 hs⟩
        ·simp at ha
       ·simp at hfm
    ·simp at hl
   | _=>simp at hl
  | val t' x'=>simp only[qbq] at hl;obtain ⟨_,rfl,rfl⟩:=qkw hl;exact hval _ _ _ _ _ _ _ hp hfm hi
  | unit=>simp only[qbq] at hl;obtain ⟨_,rfl,rfl⟩:=qkw hl;exact hval _ _ _ _ _ _ _ hp hfm hi
  | _=>simp[qbq] at hl
 | _=>
  intro a p md xd m mm o yy c base F F1 hl r r2 p' t1 n1 hp hfm hi
  cases a with
  | val t' x'=>simp only[qbq] at hl;obtain ⟨_,rfl,rfl⟩:=qkw hl;exact hval _ _ _ _ _ _ _ hp hfm hi
  | unit=>simp only[qbq] at hl;obtain ⟨_,rfl,rfl⟩:=qkw hl;exact hval _ _ _ _ _ _ _ hp hfm hi
  | _=>simp[qbq] at hl
theorem qbp9 {h:Array Obj} {S:St} {g:Ghost} {q:Nat} {t:Ty} {a:AV} {p:Path} {md:Mk} {xd:t.den} {z:Mk×t.den} {rp:Nat×Path} {v:Value}
  (hp:qcw a=some rp) (hl:qe6 q t a p md xd=some z) (hv:qh h S g a v):∃ c,v=mkV t c∧AVC h S g a c:=by
 cases a with
 | brw r' p' s=>
  cases t with
  | sl e=>simp only[qh] at hv;exact ⟨[v],by simp[mkV,Ty.agg],by simp only[AVC];exact ⟨v,rfl,hv⟩⟩
  | _=>simp[qe6] at hl
 | pair a b=>
  cases t with
  | pair ta tb=>
   simp only[qh] at hv
   obtain ⟨ca,cb,rfl,h1,h2⟩:=hv
   exact ⟨ca++cb,by simp[mkV,Ty.agg],by simp only[AVC];exact ⟨ca,cb,rfl,h1,h2⟩⟩
  | _=>simp[qe6] at hl
 | _=>simp[qcw] at hp
section
variable {P:Program} {C:Ctx} {D:Den C} {S:St} {g:Ghost} {w:World} {tmps:Array Value}
variable {A:Asks} {site:Nat} (dok:DOk P C D) (st:StRel w.heap S g tmps Nil)
include dok st
theorem qbop {f:FuncId} {avs:List AV} {vs:List Value} {d:Option Nat} (ok:AOk A S d site) (hfr:site<1048576∧∀ u,(S.get u).stampsOk site (site+1)=true)
  (ha:qh1 w.heap S g avs vs) (hng:(C.sig f).params.all (fun k=>!k.gives)=true) {gd:GDen (C.sig f).params} (h1:qbf S.rt (C.sig f).params avs=some (gd,S.rt))
  {od:ODen (C.sig f).params} {rt2:Rts} {n:Nat} {u0:AV} {v0:Value} {q:Nat} {p:Path} {R:Root} {md:Mk} {t:Ty} {xd:t.den} {m m' mx:Mk} {x:t.den} (hav:qh w.heap S g u0 v0)
  (L:LentV w.heap (C.sig f).params avs vs S.rt rt2 od n u0 v0 q p R md t xd m m' mx x) {a:PDen (C.sig f).params} (h3:qcr rt2 (C.sig f).params avs gd od=some a)
  (hs:qck (C.sig f).params avs=true∨(C.sig f).full=true) {r:RDen (C.sig f).res×ODen (C.sig f).params} (hD:D f a=some r) {β:Bool} {v:AV} {rt3 rt':Rts}
  (ho:qbm S.rt site (C.sig f).params avs r.2=some rt3) (he:(qes A rt3 d site (C.sig f).res r.1).dec β=some (v,rt')) :
  Calls P f vs.toArray w fun e w'=>∃ val,e=.returned val∧Post S g w tmps v rt' val w':=by
 have hR:=L.root
 have hisr:(S.root q).isSome:=by show (S.rt.root q).isSome=true;rw[hR];rfl
 obtain ⟨cu,ev0,hcu⟩:=qbp9 L.place L.lend hav
 have hin:=qbtm hR t L.foc hcu L.lend L.paths L.place
 obtain ⟨base,c,F,q1,q2,q3,q4,q5,q6⟩:=st.updateD hR L.foc hin
 have q2l:=qbmo hR t L.foc q1 q2 hcu L.lend L.paths
 have htgd:TagC g.hd t md c:=TagC.at p (st.tag q R hR) L.foc q1
 obtain ⟨F1,F2,s1,s2,s3,s4⟩:=Rep.serves t L.srv q2l
 have st2:=(st.dropRootH hisr).shareHand F2 (fun z hz=>.inr (q3 z (s2 z hz)))
 let g2:Ghost:={ g with Pr:=Un g.Pr F2 }
 have kp2:Kp w.heap S g (S.setRoot q none) g2:=(qbpu st q).trans (q35 (st.dropRootH hisr) F2)
 let Fs:Nat→BS:=fun j=>if j=n then F1 else Nil
 have hFs:∀ i,Sub (Fs i) (fun z=>(Nil z∨g.G q z)∧¬ F2 z):=by
  intro i z hz
  simp only[Fs] at hz
  split at hz
  ·exact ⟨.inr (q3 z (s1 z hz)),fun h=>s3 z hz h⟩
  ·exact hz.elim
 have e2:rt2=(S.setRoot q none).rt:=L.rt2
 subst e2
 obtain ⟨gg1,HH1,FF,kk⟩:=qm5 (sl:=S.sl) (C.sig f).params avs vs S.rt g Nil 0 gd S.rt ha st h1
 have hG:=qz8 (h2:=w.heap) (Pr2:=g2.Pr) (Fs2:=Fs) (C.sig f).params 0 hng kk.2.2.2.2.1
 have hL:=L.ls g2.Pr Fs 0 (by
  simp only[Nat.zero_add,Fs,if_true]
  exact ⟨cu,s4,ev0⟩)
 have hps:=qke st2 (sh:=qck (C.sig f).params avs) (Fs:=Fs) (C.sig f).params avs vs 0 gd od a (fun h=>h) (ha.kp kp2) hG hL h3
 have hFsd:∀ i j,i≠j→Dis (Fs i) (Fs j):=by
  intro i j hij z h1 h2
  simp only[Fs] at h1 h2
  split at h1
  ·split at h2
   ·omega
   ·exact h2
  ·exact h1
 have pre:Pre w.heap (Seen (qck (C.sig f).params avs) (S.setRoot q none) g2) Fs (C.sig f).params a vs:=
  ⟨hps,hFsd,fun i z hz=>qbci st2 _ z (hFs i z hz),fun i z hz=>st2.limH z (hFs i z hz),qbcm st2 _⟩
 refine (dok.ok f a r hD w _ Fs vs pre).mono ?_
 rintro e w' ⟨val,Pr',Gs,Os,us,rfl,p0⟩
 obtain ⟨y,hy1,hy2⟩:=L.out r.2
 have hback:=hy1 S.rt site rt3 ho
 obtain ⟨cu',repo,ev2⟩:=hy2 _ _ _ _ p0.out
 rw[Nat.zero_add] at repo
 obtain rfl:cu=cu':=qbvr q2l repo (ev0.symm.trans ev2)
 have hMay:∀ z,May w.heap.size Fs z→w.heap.size≤z∨F1 z:=by
  rintro z (h | ⟨i,h⟩)
  ·exact .inl h
  ·simp only[Fs] at h
   split at h
   ·exact .inr h
   ·exact h.elim
 let D0:BS:=fun z=>qck (C.sig f).params avs=true∧Pr' z∧¬ g.Pr z
 have hD0:∀ z,D0 z→F z∨Nil z∨w.heap.size≤z:=by
  rintro z ⟨hsh,h1,h2⟩
  rcases p0.prL z h1 with h3 | h3
  ·rw[hsh] at h3
   simp only[Seen,if_true] at h3
   rcases h3 with h3 | h3
   ·exact absurd h3 h2
   ·exact .inl (s2 z h3)
  ·rcases hMay z h3 with h4 | h4
   ·exact .inr (.inr h4)
   ·exact .inl (s1 z h4)
 have hOm:∀ z,Os n z→F z∨Nil z∨w.heap.size≤z:=by
  intro z hz
  rcases hMay z (p0.oL n z hz) with h4 | h4
  ·exact .inr (.inr h4)
  ·exact .inl (s1 z h4)
 have hfull:qck (C.sig f).params avs=false→(C.sig f).full=true:=fun h=>hs.resolve_left (by rw[h];simp)
 have rep3:Rep w'.heap (Un g.Pr D0) t m' y cu (Os n):=by
  cases hsh:qck (C.sig f).params avs with
  | true=>
   refine Rep.mono (fun z hz=>?_) (fun _ _=>rfl) _ repo (Sub.refl _) (fun _ _=>rfl)
   by_cases h1:g.Pr z
   ·exact .inl h1
   ·exact .inr ⟨hsh,hz,h1⟩
  | false=>
   have h5:=hfull hsh
   simp only[Sig.full,Bool.and_eq_true] at h5
   exact Rep.fullMk _ (L.full h5.1) repo
 have hkF:∀ z,z<w.heap.size→¬ F z→w'.heap[z]? = w.heap[z]?:=fun z hz hnF=>p0.fr.block z hz (fun h=>by
   rcases hMay z h with h4 | h4
   ·omega
   ·exact hnF (s1 z h4))
 have hkP:∀ b,g.Pr b→w'.heap[b]? = w.heap[b]?:=fun b hb=>hkF b (st.limPr b hb) (fun h=>st.prot q hisr b (q3 b h) hb)
 unfold qbao at hback
 rw[L.place] at hback
 simp only at hback
 rw[hR] at hback
 simp only[Option.bind_eq_some_iff] at hback
 obtain ⟨dd,hdd,hback⟩:=hback
 rw[L.foc] at hdd
 simp only[Option.some.injEq] at hdd
 subst hdd
 simp only[↓reduceDIte,Option.bind_eq_some_iff] at hback
 obtain ⟨⟨mm,yy⟩,hmg,hback⟩:=hback
 simp only at hback
 split at hback
 ·simp at hback
 rename_i hidx
 simp only[Option.bind_eq_some_iff,Option.some.injEq] at hback
 obtain ⟨⟨mr,xr⟩,hput,hback⟩:=hback
 subst hback
 obtain ⟨G1,G2,t1,t2,t3,rep4⟩:=qbru (site:=site) hR (fun z hz=>Or.inl hz) hkP t L.foc q1 q2 hcu rep3 ⟨_,L.lend⟩ L.paths hmg
 obtain ⟨htg,hupd⟩:=qbst hfr.1 t hmg htgd
 have hpaths:=qbov (base:=base) t hmg q2 rep4
 let Dd:BS:=fun z=>D0 z∨G2 z
 have hDd:∀ z,Dd z→F z∨Nil z∨w.heap.size≤z:=by
  rintro z (h | h)
  ·exact hD0 z h
  ·exact hOm z (t2 z h)
 obtain ⟨g',k1,k2,k3,k4,k5,k6,k7⟩:=q6 site (site+1) w'.heap mm yy c G1 Dd mr xr hfr.2
  (fun z hz hnF _=>hkF z hz hnF)
  p0.fr.size
  (by
   intro b o e cs hcs
   obtain ⟨cs2,h5,h6⟩:=Upd.self q4 b o e cs hcs
   exact ⟨cs2,h5.congr (hkF b (by obtain ⟨_,_,_,h7,_⟩:=hcs;exact (Array.getElem?_eq_some_iff.1 h7).1) (q4 b o e).1),h6⟩)
  (Rep.mono (fun z hz=>hz.elim (fun h=>h.imp id .inl) (fun h=>.inr (.inr h))) (fun _ _=>rfl) _ rep4 (Sub.refl _) (fun _ _=>rfl))
  (fun z h1 h2=>h1.elim (fun h1=>p0.op n z (t1 z h2) h1.2.1) (fun h1=>t3 z h2 h1))
  (fun z hz=>hz.elim (fun h=>hOm z (t1 z h)) (hDd z))
  (fun z hz=>hz.elim (fun h=>p0.olim n z (t1 z h)) (fun h=>h.elim (fun h=>p0.plim z h.2.1) (fun h=>p0.olim n z (t2 z h))))
  hput hupd htg (fun h=>by simpa [h] using hidx) hpaths
 have hres:qfm w'.heap g'.Pr Gs 0 (C.sig f).res r.1 us:=by
  refine qfm.conv _ 0 ?_ p0.res
  cases hsh:qck (C.sig f).params avs with
  | true=>
   refine .inl (fun z hz=>?_)
   by_cases h1:g.Pr z
   ·exact k2 z h1
   ·exact k3 z (.inl ⟨hsh,hz,h1⟩)
  | false=>
   have h5:=hfull hsh
   simp only[Sig.full,Bool.and_eq_true] at h5
   exact .inr h5.2
 have hGH:∀ i,Sub (Gs i) (fun z=>(Nil z∨F z∨(w.heap.size≤z∧z<w'.heap.size))∧¬ (G1 z∨Dd z)):=by
  intro i z hz
  refine ⟨?_,?_⟩
  ·rcases hMay z (p0.gL i z hz) with h4 | h4
   ·exact .inr (.inr ⟨h4,p0.glim i z hz⟩)
   ·exact .inr (.inl (s1 z h4))
  ·rintro (h | h | h)
   ·exact p0.go i n z hz (t1 z h)
   ·exact p0.gp i z hz h.2.1
   ·exact p0.go i n z hz (t2 z h)
 obtain ⟨g4,u1,u2,u3⟩:=qbau (S:=S) k1 hGH p0.gdis ok (C.sig f).res hres he
 refine ⟨val,rfl,g4,u1,by rw[p0.val];exact u2,k4.trans u3,p0.fr.mono ?_⟩
 intro z hz h
 rcases hMay z h with h4 | h4
 ·omega
 ·exact st.own q _ hisr (q3 z (s1 z h4))
end
end Go.V

namespace Go.V
open Go
theorem qh1.append {h:Array Obj} {S:St} {g:Ghost}:∀ {avs bs:List AV} {vs ws:List Value},qh1 h S g avs vs→qh1 h S g bs ws→qh1 h S g (avs++bs) (vs++ws)
 | [],bs,vs,ws,k,k2=>by simp only[qh1] at k;subst k;simpa using k2
 | a::avs,bs,vs,ws,k,k2=>by
  obtain ⟨v,vs',rfl,r1,r2⟩:=k
  exact ⟨v,vs'++ws,rfl,r1,qh1.append r2 k2⟩
theorem qbsz {h:Array Obj} {S:St} {g:Ghost}:∀ {c:AV} {vs:List Value},TupRel h S g c vs→qh1 h S g (qic c) vs
 | .unit,vs,k=>by simp only[TupRel] at k;exact k
 | .pair a b,vs,k=>by
  simp only[TupRel] at k
  obtain ⟨v,vs',rfl,r1,r2⟩:=k
  exact ⟨v,vs',rfl,r1,qbsz r2⟩
 | .undef,_,k=>by simp only[TupRel] at k
 | .skip,_,k=>by simp only[TupRel] at k
 | .litB _,_,k=>by simp only[TupRel] at k
 | .nils,_,k=>by simp only[TupRel] at k
 | .val _ _,_,k=>by simp only[TupRel] at k
 | .brw _ _ _,_,k=>by simp only[TupRel] at k
 | .view _ _ _ _ _,_,k=>by simp only[TupRel] at k
 | .addr _ _,_,k=>by simp only[TupRel] at k
 | .raddr _ _,_,k=>by simp only[TupRel] at k
 | .tup _,_,k=>by simp only[TupRel] at k
 | .clo _ _,_,k=>by simp only[TupRel] at k
 | .cloV _,_,k=>by simp only[TupRel] at k
theorem qbob {h:Array Obj} {S:St} {g:Ghost} {ρ:Operand→AV} {ev:Operand→Value} (hρ:∀ x,qh h S g (ρ x) (ev x)):∀ (l:List Operand),qh1 h S g (l.map ρ) (l.map ev)
 | []=>rfl
 | x::l=>⟨_,_,rfl,hρ x,qbob hρ l⟩
theorem qbsa {h:Array Obj} {Pr:BS} {Gs:Nat→BS} {us:List Value}:∀ (rs:List RK) (r:RDen rs) (t:Ty) (y:t.den),q4l rs r t=some y→qfm h Pr Gs 0 rs r us→
  ∃ c F m,us=[mkV t c]∧Rep h Pr t m y c F
 | [],r,t,y,hy,k=>by simp[q4l] at hy
 | [.val t' m],r,t,y,hy,k=>by
  simp only[q4l] at hy
  obtain ⟨u,vs',rfl,⟨c,rr,rfl⟩,k2⟩:=k
  simp only[qfm] at k2
  subst k2
  obtain ⟨rfl,rr2⟩:=Rep.cast hy rr
  exact ⟨c,_,m,rfl,rr2⟩
 | [.ptr t' m],r,t,y,hy,k=>by simp[q4l] at hy
 | .val _ _::_::_,r,t,y,hy,k=>by simp[q4l] at hy
 | .ptr _ _::_::_,r,t,y,hy,k=>by simp[q4l] at hy
section
variable {P:Program} {C:Ctx} {D:Den C} {S:St} {g:Ghost} {w:World} {tmps:Array Value} {a:Act} {ρ:Operand→AV}
variable {A:Asks} {site:Nat} {hint:Bool} (hty:qcz P C) (dok:DOk P C D) (st:StRel w.heap S g tmps Nil) (hρ:∀ x,qh w.heap S g (ρ x) (a.eval x))
include dok st
theorem qbtw {f:FuncId} {avs:List AV} {vs:List Value} {d:Option Nat} (ok:AOk A S d site) (ha:qh1 w.heap S g avs vs) (ht:Tot (qr4 C D A S.rt d site f avs)) :
  Calls P f vs.toArray w fun | .returned val,w''=>Outs S g w tmps (qr4 C D A S.rt d site f avs) val w'' | _,_=>False:=by
 obtain ⟨⟨v,rt'⟩,hd⟩:=ht true
 have hcall:∀ {Q:Value→World→Prop},Calls P f vs.toArray w (fun e w'=>∃ val,e=.returned val∧Post S g w tmps v rt' val w')→
   Calls P f vs.toArray w fun | .returned val,w''=>Outs S g w tmps (qr4 C D A S.rt d site f avs) val w'' | _,_=>False:=by
  intro Q h
  refine h.mono ?_
  rintro e w' ⟨val,rfl,hp⟩
  exact ⟨true,v,rt',hd,hp⟩
 refine hcall (Q:=fun _ _=>True) ?_
 clear hcall
 unfold qr4 at hd
 cases h1:qbf S.rt (C.sig f).params avs with
 | none=>rw[h1] at hd;simp[Tr.dec] at hd
 | some z=>
  obtain ⟨gd,rt1⟩:=z
  rw[h1] at hd
  simp only at hd
  cases h2:qbd rt1 (C.sig f).params avs with
  | none=>rw[h2] at hd;simp[Tr.dec] at hd
  | some z=>
   obtain ⟨od,rt2⟩:=z
   rw[h2] at hd
   simp only at hd
   cases h3:qcr rt2 (C.sig f).params avs gd od with
   | none=>rw[h3] at hd;simp[Tr.dec] at hd
   | some aa=>
    rw[h3] at hd
    simp only at hd
    by_cases hc:(qbj9 (C.sig f).params&&(qck (C.sig f).params avs||(C.sig f).full))=true
    ·rw[if_pos hc] at hd
     simp only[Bool.and_eq_true,Bool.or_eq_true] at hc
     simp only[Tr.dec,Option.bind_eq_some_iff] at hd
     obtain ⟨r,hD,hd⟩:=hd
     by_cases hn:(C.sig f).params.all (fun k=>!k.lends)=true
     ·rw[if_pos hn] at hd
      exact qbm2 dok st ok ha h1 hn h2 h3 hc.2 hD hd
     ·rw[if_neg hn] at hd
      by_cases hfr:A.fr=true
      ·rw[if_pos hfr] at hd
       cases hlo:qml (C.sig f).params avs with
       | false=>rw[hlo] at hd;simp[Tr.dec] at hd
       | true=>
       rw[hlo] at hd
       simp only[Tr.dec] at hd
       cases h4:qbm rt1 site (C.sig f).params avs r.2 with
       | none=>rw[h4] at hd;simp[Tr.dec] at hd
       | some rt3=>
        rw[h4] at hd
        simp only at hd
        have hone:(List.filter PK.lends (C.sig f).params).length=1∧(C.sig f).params.all (fun k=>!k.gives)=true:=by
         have:=hc.1
         unfold qbj9 at this
         split at this
         ·rename_i h5
          exfalso
          rw[List.filter_eq_nil_iff] at h5
          exact hn (by simpa using h5)
         ·rename_i h5;rw[h5];exact ⟨rfl,this⟩
         ·simp at this
        obtain rfl:=qqq _ _ _ _ _ hone.2 h1
        obtain ⟨n,a0,v0,hav,hcase⟩:=qboe (C.sig f).params avs vs S.rt rt2 od hone.1 ha h2 hlo
        rcases hcase with ⟨q,t,m,m',R,x,rfl,L⟩ | ⟨q,p,R,md,t,xd,m,m',mx,x,L⟩
        ·exact qbou dok st ok (ok.fr hfr) ha hone.2 h1 hav L h3 hc.2 hD h4 hd
        ·exact qbop dok st ok (ok.fr hfr) ha hone.2 h1 hav L h3 hc.2 hD h4 hd
      ·rw[if_neg hfr] at hd;simp[Tr.dec] at hd
    ·rw[if_neg hc] at hd;simp[Tr.dec] at hd
theorem qbn0:∀ (ts:List Ty) (avs:List AV) (vs:List Value) (l:List CapV),qh1 w.heap S g avs vs→qwv S.rt ts avs=some l→qgo w.heap (PG (Vis S g)) l vs
 | [],avs,vs,l,ha,hb=>by
  cases avs with
  | nil=>simp only[qwv,Option.some.injEq] at hb;subst hb;exact ha
  | cons a avs=>simp[qwv] at hb
 | t::ts,[],vs,l,ha,hb=>by simp[qwv] at hb
 | t::ts,a::avs,vs,l,ha,hb=>by
  obtain ⟨v,vs',rfl,r1,r2⟩:=ha
  simp only[qwv,Option.bind_eq_some_iff,Option.some.injEq] at hb
  obtain ⟨x,hx,l',hl,rfl⟩:=hb
  obtain ⟨c,e,r⟩:=qbp6 st t hx r1
  exact ⟨v,vs',rfl,⟨c,r,e⟩,qbn0 ts avs vs' l' r2 hl⟩
theorem qbd8 {h:Array Obj} {g:Ghost}:∀ {l l2:List CapV} {vs ws:List Value},qgo h g l vs→qgo h g l2 ws→qgo h g (l++l2) (vs++ws)
 | [],_,vs,ws,k,k2=>by simp only[qgo] at k;subst k;simpa using k2
 | c::l,_,vs,ws,k,k2=>by
  obtain ⟨v,vs',rfl,r1,r2⟩:=k
  exact ⟨v,vs'++ws,rfl,r1,qbd8 r2 k2⟩
theorem qbjl {h:Array Obj} {Pr:BS} {Fs:Nat→BS}:∀ (ks:List PK) (l:List CapV) (vs:List Value) (i:Nat) (aa:PDen ks),qoz ks l=some aa→qgo h (PG Pr) l vs→qxd h Pr Fs i ks aa vs∧ks.all PK.plain=true
 | [],l,vs,i,aa,hp,hc=>by
  cases l with
  | nil=>exact ⟨hc,rfl⟩
  | cons c l=>simp[qoz] at hp
 | k::ks,[],vs,i,aa,hp,hc=>by cases k<;>simp[qoz] at hp
 | k::ks,c::l,vs,i,aa,hp,hc=>by
  obtain ⟨v,vs',rfl,r1,r2⟩:=hc
  cases k with
  | val t=>
   cases c with
   | val t' x=>
    simp only[qoz,Option.bind_eq_some_iff,Option.some.injEq] at hp
    obtain ⟨y,hy,r,hr,rfl⟩:=hp
    obtain ⟨c,rr,e⟩:=r1
    obtain ⟨rfl,rr2⟩:=Rep.cast hy rr
    obtain ⟨p1,p2⟩:=qbjl ks l vs' (i+1) r hr r2
    exact ⟨⟨v,vs',rfl,⟨c,rr2,e⟩,p1⟩,by simpa [PK.plain] using p2⟩
   | _=>simp[qoz] at hp
  | rptr t=>
   cases c with
   | rptr t' x=>
    simp only[qoz,Option.bind_eq_some_iff,Option.some.injEq] at hp
    obtain ⟨y,hy,r,hr,rfl⟩:=hp
    obtain ⟨e1,e2⟩:=qnk hy
    subst e1
    simp only at e2
    subst e2
    obtain ⟨p1,p2⟩:=qbjl ks l vs' (i+1) r hr r2
    exact ⟨⟨v,vs',rfl,r1,p1⟩,by simpa [PK.plain] using p2⟩
   | _=>simp[qoz] at hp
  | _=>cases c<;>simp[qoz] at hp
theorem qbo8 {h:Array Obj} {Pr Pr2:BS} {t:Ty} {m:Mk} {x:t.den} {c:List Value} {F F2:BS} (hs:t.scalar=true) (r:Rep h Pr t m x c F):Rep h Pr2 t .no x c F2:=by
 cases t<;>simp[Ty.scalar] at hs<;>simpa only [Rep] using r
theorem qboo {cl:Clo} {xs:List CapV} {t:Ty} {y:t.den} {vs ws:List Value} (hs:t.scalar=true) (hy:qbe C D cl xs t=some y) (hx:qgo w.heap (PG (Vis S g)) xs vs) (hw:qgo w.heap g cl.caps ws) :
  Calls P cl.f (vs++ws).toArray w fun e w'=>∃ val,e=.returned val∧Post S g w tmps (.val t y) S.rt val w':=by
 simp only[qbe,Option.bind_eq_some_iff] at hy
 obtain ⟨aa,ha,r,hD,hr⟩:=hy
 obtain ⟨hps,hpl⟩:=qbjl dok st (Fs:=fun _=>Nil) (C.sig cl.f).params _ _ 0 aa ha (qbd8 dok st hx (qbkb st (fun b hb=>.inl hb:Sub g.Pr (Vis S g)) hw))
 have hv:=qbci st false
 have pre:Pre w.heap (Vis S g) (fun _=>Nil) (C.sig cl.f).params aa (vs++ws):=
  ⟨hps,fun _ _ _=>Dis.nil _,fun _=>Dis.nil _,fun _ _ h=>h.elim,qbcm st false⟩
 refine (dok.ok cl.f aa r hD w _ _ _ pre).mono ?_
 rintro e w' ⟨val,Pr',Gs,Os,us,rfl,p⟩
 have hMay:∀ z,May w.heap.size (fun _=>Nil) z→w.heap.size≤z:=fun z h=>h.elim id (fun ⟨_,h⟩=>h.elim)
 have st1:=st.grow (h2:=w'.heap) (fun b hb=>p.fr.block b hb (fun h=>absurd (hMay b h) (by omega))) p.fr.size Nil (fun b hb=>hb.elim)
 obtain ⟨c,F,m,hus,rr⟩:=qbsa _ _ _ _ hr p.res
 refine ⟨val,rfl,g,st1,?_,.refl g,p.fr.mono (fun z hz h=>absurd (hMay z h) (by omega))⟩
 rw[p.val,hus]
 simp only[qh,qm3]
 exact ⟨c,qbo8 dok st hs rr,rfl⟩
include hty hρ
theorem qbvh {o:Oper} {c:Call} {f:Operand} (ho:o.op=.call c) (hc:c.callee=.value f) (ok:AOk A S o.dst site):Goal P C D S g w tmps a ρ A site hint o:=by
 intro ht
 have hcalled:∀ (ff:FuncId) (vs:List Value),qni P ff→a.eval f=.func (.func ff) #[] vs.toArray→
   (execOp a.eval o).run P w=.ok (.enter ff (c.args.toList.map a.eval++vs).toArray) w:=by
  rintro ff vs ⟨fn,h1,h2,h3⟩ hv
  have hb:¬ fn.body=none:=by intro hh;rw[hh] at h3;simp at h3
  have harr:c.args.map a.eval++vs.toArray=(c.args.toList.map a.eval++vs).toArray:=by
   apply Array.ext';simp
  simp[execOp,ho,resolve,hc,Deferred.ofValue,hv,invoke,callFunc,h1,h2,hb,Sem.run_bind,←harr]
 simp only[opT,ho,hc] at ht ⊢
 have hf:=hρ f
 split at ht
 ·rename_i ff caps hv
  rw[hv] at hf
  simp only[qh] at hf
  obtain ⟨vs,ev,htup⟩:=hf
  have ha:=qh1.append (qbob hρ c.args.toList) (qbsz htup)
  have hcal:qni P ff:=by
   obtain ⟨⟨v,rt'⟩,hd⟩:=ht true
   unfold qr4 at hd
   split at hd
   ·simp[Tr.dec] at hd
   ·split at hd
    ·simp[Tr.dec] at hd
    ·split at hd
     ·simp[Tr.dec] at hd
     ·split at hd
      ·simp only[Tr.dec,Option.bind_eq_some_iff] at hd
       obtain ⟨r,hD,_⟩:=hd
       exact dok.call _ _ _ hD
      ·simp[Tr.dec] at hd
  rw[hcalled ff vs hcal ev]
  exact qbtw dok st (A:={ A with sh:=hint }) ⟨ok.men,ok.pl,ok.fr⟩ ha ht
 ·rename_i cl hv
  rw[hv] at hf
  simp only[qh] at hf
  obtain ⟨vs,ev,hcaps⟩:=hf
  by_cases hsc:(C.ty o.type).scalar=true
  ·simp only[hsc,if_true] at ht ⊢
   cases hx:qwv S.rt (c.argTypes.toList.map C.ty) (c.args.toList.map ρ) with
   | none=>rw[hx] at ht;exact absurd ht Tot.fail
   | some xs=>
    rw[hx] at ht
    simp only at ht ⊢
    obtain ⟨⟨v,rt'⟩,hd⟩:=ht true
    have hd0:=hd
    simp only[Tr.dec,Option.bind_eq_some_iff,Option.some.injEq,Prod.mk.injEq] at hd
    obtain ⟨y,hy,rfl,rfl⟩:=hd
    have hcal:qni P cl.f:=by
     have:=hy
     simp only[qbe,Option.bind_eq_some_iff] at this
     obtain ⟨aa,_,r,hD,_⟩:=this
     exact dok.call _ _ _ hD
    rw[hcalled cl.f vs hcal ev]
    have hxs:=qbn0 dok st _ _ _ _ (qbob hρ c.args.toList) hx
    refine (qboo dok st hsc hy hxs hcaps).mono ?_
    rintro e w' ⟨val,rfl,hp⟩
    exact ⟨true,_,_,hd0,hp⟩
  ·rw[if_neg hsc] at ht;exact absurd ht Tot.fail
 ·exact absurd ht Tot.fail
theorem qbs5 {o:Oper} (ok:AOk A S o.dst site):Goal P C D S g w tmps a ρ A site hint o:=
 qbwt hty st hρ ok fun c f ho hc=>qbvh hty dok st hρ ho hc ok
end
end Go.V

namespace Go.V
open Go
theorem qbnv {d:Nat}:∀ (l:List AV) (i:Nat),q8m d i l=true→∀ k,i+k≠d→(l.getD k .undef).roots.contains d=false
 | [],i,_,k,_=>by simp[List.getD,AV.roots]
 | v::l,i,h,k,hk=>by
  simp only[q8m,Bool.and_eq_true,Bool.or_eq_true,Bool.not_eq_true',qbpk] at h
  cases k with
  | zero=>exact h.1.resolve_left (by simpa using hk)
  | succ k=>simpa [List.getD] using qbnv l (i+1) h.2 k (by omega)
theorem qbpp {d:Nat}:∀ (l:List AV) (i:Nat),qyg d i l=true→∀ k,i+k≠d→(l.getD k .undef).noPl d=true
 | [],i,_,k,_=>by simp[List.getD,AV.noPl]
 | v::l,i,h,k,hk=>by
  simp only[qyg,Bool.and_eq_true,Bool.or_eq_true,qbpk] at h
  cases k with
  | zero=>exact h.1.resolve_left (by simpa using hk)
  | succ k=>simpa [List.getD] using qbpp l (i+1) h.2 k (by omega)
theorem qbe9 {s:Nat}:∀ (l:List AV),qv2 s l=true→∀ k,(l.getD k .undef).stampsOk s (s+1)=true
 | [],_,k=>by simp[List.getD,AV.stampsOk]
 | v::l,h,k=>by
  simp only[qv2,Bool.and_eq_true] at h
  cases k with
  | zero=>exact h.1
  | succ k=>simpa [List.getD] using qbe9 l h.2 k
def St.blank (S:St):Option Nat→St
 | some d=>S.set d .undef
 | none=>S
theorem q48 (S:St) (d:Nat) (u:Nat):(S.blank (some d)).get u=if u=d then .undef else S.get u:=by
 simp only[St.blank,St.get_set]
 by_cases e:u=d
 ·subst e
  by_cases h:u<S.sl.length
  ·simp[h]
  ·simp only[h,and_false,if_false,if_true]
   simp only[St.get,List.getD]
   rw[List.getElem?_eq_none (by omega)];rfl
 ·simp[e]
theorem qbvo (S:St) (d:Option Nat) (site:Nat):AOk (qd7 S.sl d site) (S.blank d) d site where
 men:=by
  intro h d' hd u
  subst hd
  simp only[qd7] at h
  rw[q48]
  split
  ·rfl
  ·rename_i hu;exact qbnv S.sl 0 h u (by omega)
 pl:=by
  intro h d' hd u
  subst hd
  simp only[qd7] at h
  rw[q48]
  split
  ·rfl
  ·rename_i hu;exact qbpp S.sl 0 h u (by omega)
 fr:=by
  intro h
  simp only[qd7,Bool.and_eq_true,qgy] at h
  refine ⟨h.1,fun u=>?_⟩
  cases d with
  | none=>exact qbe9 S.sl h.2 u
  | some d=>
   rw[q48]
   split
   ·rfl
   ·exact qbe9 S.sl h.2 u
theorem qbp2 {h:Array Obj} {S:St} {g:Ghost} (v:Value):qh h S g (qbb1 v) v:=by
 unfold qbb1
 split
 ·simp only[qh,Rep];exact ⟨_,rfl,rfl⟩
 ·simp only[qh,Rep];exact ⟨_,rfl,rfl⟩
 ·simp only[qh,Rep];exact ⟨_,rfl,rfl⟩
 ·simp only[qh]
 ·simp only[qh]
theorem qbvu {h:Array Obj} {S:St} {g:Ghost} {a:AV} {v:Value} (x:qh h S g a v):qh h S g a.flat v:=by
 cases a with
 | litB b=>simp only[qh] at x;subst x;simp only[AV.flat,qh,Rep];exact ⟨_,rfl,rfl⟩
 | _=>exact x
theorem qbus {h:Array Obj} {S:St} {g:Ghost} {a:Act} {H:BS} (st:StRel h S g a.tmps H) (x:Operand):qh h S g (ev S x) (a.eval x):=by
 cases x with
 | tmp t=>exact qbvu (st.slots t)
 | const v=>exact qbp2 v
 | func f=>simp only[ev,qh,Act.eval];exact ⟨[],rfl,by simp only[TupRel]⟩
 | global n=>simp only[ev,qh]
def qz7:List AV→List Nat→List AV
 | sl,[]=>sl
 | sl,t::ts=>qz7 (sl.set t .undef) ts
theorem q0l:∀ (ts:List Nat) (S:St),S.forget ts=⟨qz7 S.sl ts,S.rt⟩
 | [],_=>rfl
 | t::ts,S=>by simp only[St.forget,qz7];rw[q0l ts];rfl
theorem qbdx (d:Nat) (x v:AV):∀ (ts:List Nat) (sl:List AV),(qz7 (sl.set d x) ts).set d v=(qz7 sl ts).set d v
 | [],sl=>by simp[qz7]
 | t::ts,sl=>by
  simp only[qz7]
  by_cases e:d=t
  ·subst e;rw[List.set_set]
  ·rw[List.set_comm _ _ e]
   exact qbdx d x v ts _
theorem StRel.forgetAll {h:Array Obj} {g:Ghost} {tmps:Array Value} {H:BS}:∀ (ts:List Nat) {S:St},StRel h S g tmps H→StRel h (S.forget ts) g tmps H
 | [],_,st=>st
 | t::ts,_,st=>StRel.forgetAll ts (st.forget t)
section
variable (C:Ctx) (D:Den C)
def qgz (ops:Array Oper) (S:St) (o:Oper):Option Bool:=
 match o.guard with
 | none=>some true
 | some (j,b)=>
  match S.get (qfn ops j) with
  | .skip=>some false
  | .litB c=>some (c == b)
  | .val .bool c=>some (c == b)
  | _=>none
noncomputable def qco (hints:Hints) (id:Nat) (ops:Array Oper) (β:Bool) (S:St) (i:Nat) (o:Oper):Option (St×Ent):=
 match qgz ops S o with
 | some true=>((opAt C D S (id * 256+i+1) (hints.share.contains (id,i)) o).dec β).map fun x=>(fin ops ⟨S.sl,x.2⟩ i o x.1,qh3 C ops S (id * 256+i+1) i o x.1 x.2)
 | some false=>some (fin ops S i o .skip,qfv ops S (id * 256+i+1) i o)
 | none=>none
end
def qti (np:List Nat) (a a':Act):Prop:=∀ t,t∈np→a'.tmps.getD t Go.undef=a.tmps.getD t Go.undef
theorem qti.refl (np:List Nat) (a:Act):qti np a a:=fun _ _=>rfl
theorem qti.trans {np:List Nat} {a b c:Act} (h:qti np a b) (k:qti np b c):qti np a c:=fun t ht=>(k t ht).trans (h t ht)
theorem qti.put {np:List Nat} {a:Act} {d:Option Nat} {v:Value} (h:∀ d',d=some d'→d'∉np):qti np a (a.put d v):=by
 intro t ht
 cases d with
 | none=>rfl
 | some d=>
  have:=h d rfl
  simp only[Act.put,Array.getD_eq_getD_getElem?,Array.getElem?_setIfInBounds]
  rw[if_neg (by rintro rfl;exact this ht)]
section
variable {P:Program} {C:Ctx} {D:Den C} {S:St} {g:Ghost} {w:World} {a:Act} {np:List Nat}
variable (hty:qcz P C) (dok:DOk P C D) (st:StRel w.heap S g a.tmps Nil)
include hty dok st
theorem qbra {ops:Array Oper} {i:Nat} {o:Oper} {rt':Rts} {g':Ghost} {h':Array Obj} {v:AV} {val:Value} (st':StRel h' ⟨(S.blank o.dst).sl,rt'⟩ g' a.tmps Nil)
  (x:qh h' ⟨(S.blank o.dst).sl,rt'⟩ g' v val):StRel h' (fin ops ⟨S.sl,rt'⟩ i o v) g' (a.put o.dst val).tmps Nil:=by
 have s1:=StRel.forgetAll (qhg ops i o) st'
 have e1:=q0l (qhg ops i o) (⟨(S.blank o.dst).sl,rt'⟩:St)
 unfold fin q6z
 cases hd:o.dst with
 | none=>
  rw[hd] at s1
  simp only[Act.put]
  exact s1
 | some d=>
  rw[hd] at s1 x e1
  have x1:qh h' ((⟨(S.blank (some d)).sl,rt'⟩:St).forget (qhg ops i o)) g' v val:=by
   have st'':=st'
   rw[hd] at st''
   exact qh.sameRoots st'' (by rw[e1]) x
  have s2:=s1.setSlot d x1
  simp only[Act.put]
  have e2:(((⟨(S.blank (some d)).sl,rt'⟩:St).forget (qhg ops i o)).set d v)=(((⟨S.sl,rt'⟩:St).forget (qhg ops i o)).set d v):=by
   rw[q0l,q0l]
   simp only[St.set,St.blank,St.mk.injEq,and_true]
   exact qbdx d _ _ _ _
  rw[e2] at s2
  exact s2
theorem qbtl {ops:Array Oper} {o:Oper} {b:Bool} (hj:∀ j c,o.guard=some (j,c)→∃ oj t,ops[j]? = some oj∧oj.dst=some t) (hg:qgz ops S o=some b):Region.wanted o (yielded ops a.tmps)=b:=by
 unfold qgz at hg
 unfold Region.wanted
 cases hgd:o.guard with
 | none=>rw[hgd] at hg;simp only[Option.some.injEq] at hg;exact hg
 | some jc=>
  obtain ⟨j,c⟩:=jc
  rw[hgd] at hg
  obtain ⟨oj,t,h1,h2⟩:=hj j c hgd
  have hd:qfn ops j=t:=by simp[qfn,h1,h2]
  have hs:=st.slots t
  simp only at hg ⊢
  rw[hd] at hg
  have hy:yielded ops a.tmps j=match a.tmps.getD t Go.undef with | .bool b=>some b | _=>none:=by
   simp only[yielded,h1,h2,Option.bind_some,Array.getD_eq_getD_getElem?]
   cases hq:a.tmps[t]? with
   | none=>simp[Go.undef]
   | some q=>cases q<;>simp
  rw[hy]
  cases hS:S.get t with
  | skip=>rw[hS] at hg hs;simp only[qh] at hs;simp only[Option.some.injEq] at hg;subst hg;rw[hs];rfl
  | litB q=>rw[hS] at hg hs;simp only[qh] at hs;simp only[Option.some.injEq] at hg;subst hg;rw[hs];cases q<;>cases c<;>rfl
  | val t x=>
   rw[hS] at hg hs
   cases t with
   | bool=>simp only[Option.some.injEq] at hg;subst hg;rw[q8w hs];cases x<;>cases c<;>rfl
   | _=>simp at hg
  | _=>rw[hS] at hg;simp at hg
theorem qbps {Q:Exit→Act→World→Prop} {hints:Hints} {id:Nat} {ops:Array Oper} {i:Nat} {o:Oper} (hi:ops[i]? = some o) (hj:∀ j c,o.guard=some (j,c)→∃ oj t,ops[j]? = some oj∧oj.dst=some t)
  (hdf:a.defers=[]) (hnp:∀ d,o.dst=some d→d∉np) (ht:∀ β,∃ x,qco C D hints id ops β S i o=some x) {K:Act→World→Prop}
  (hK:∀ β S' e a' w' g',qco C D hints id ops β S i o=some (S',e)→StRel w'.heap S' g' a'.tmps Nil→g'.Same g→WFr g.L w w'→a'.defers=[]→qti np a a'→K a' w'):wpOp P ops Q i K a w:=by
 obtain ⟨x0,hx0⟩:=ht true
 unfold wpOp
 simp only[hi]
 cases hg:qgz ops S o with
 | none=>unfold qco at hx0;rw[hg] at hx0;simp at hx0
 | some b=>
  rw[qbtl hty dok st hj hg]
  cases b with
  | false=>
   simp only[Bool.false_eq_true,if_false]
   have hst:qco C D hints id ops true S i o=some (fin ops S i o .skip,qfv ops S (id * 256+i+1) i o):=by unfold qco;rw[hg]
   refine hK true _ _ (a.put o.dst Go.undef) w g hst ?_ (.refl g) (.refl _ _) ?_ (.put hnp)
   ·have s0:StRel w.heap ⟨(S.blank o.dst).sl,S.rt⟩ g a.tmps Nil:=by
     cases hd:o.dst with
     | none=>exact st
     | some d=>exact st.forget d
    exact qbra hty dok st s0 (by simp only[qh])
   ·cases o.dst<;>exact hdf
  | true=>
   simp only[if_true]
   refine .inl ?_
   have s0:StRel w.heap (S.blank o.dst) g a.tmps Nil:=by
    cases hd:o.dst with
    | none=>exact st
    | some d=>exact st.forget d
   have hrt:(S.blank o.dst).rt=S.rt:=by cases o.dst<;>rfl
   have hρ:∀ x,qh w.heap (S.blank o.dst) g (ev S x) (a.eval x):=fun x=>qh.sameRoots st hrt (qbus st x)
   have hstep:∀ β,qco C D hints id ops β S i o=((opAt C D S (id * 256+i+1) (hints.share.contains (id,i)) o).dec β).map fun x=>(fin ops ⟨S.sl,x.2⟩ i o x.1,qh3 C ops S (id * 256+i+1) i o x.1 x.2):=by
    intro β;unfold qco;rw[hg]
   have htot:Tot (opT C D (qd7 S.sl o.dst (id * 256+i+1)) (ev S) (S.blank o.dst).rt (id * 256+i+1) (hints.share.contains (id,i)) o):=by
    intro β
    obtain ⟨x,hx⟩:=ht β
    rw[hstep] at hx
    simp only[Option.map_eq_some_iff] at hx
    obtain ⟨y,hy,_⟩:=hx
    rw[hrt]
    exact ⟨y,hy⟩
   have hres:=qbs5 hty dok s0 hρ (qbvo S o.dst (id * 256+i+1)) htot
   have hout:∀ val w',Outs (S.blank o.dst) g w a.tmps (opT C D (qd7 S.sl o.dst (id * 256+i+1)) (ev S) (S.blank o.dst).rt (id * 256+i+1) (hints.share.contains (id,i)) o) val w'→K (a.put o.dst val) w':=by
    rintro val w' ⟨β,v,rt',hd,g',p1,p2,p3,p4⟩
    rw[hrt] at hd
    refine hK β (fin ops ⟨S.sl,rt'⟩ i o v) _ _ w' g' (by rw[hstep];unfold opAt;rw[hd];rfl) (qbra hty dok st p1 p2) p3 p4 ?_ (.put hnp)
    cases o.dst<;>exact hdf
   unfold Oper.wp
   revert hres
   generalize (execOp a.eval o).run P w=r
   intro hres
   unfold Res at hres
   split at hres
   ·exact hout _ _ hres
   ·exact hout _ _ hres
   ·refine Calls.mono hres ?_
    rintro e w'' he
    cases e with
    | returned val=>exact hout _ _ he
    | panicked _=>exact he.elim
    | outgrown=>exact he.elim
   ·exact hres.elim
end
end Go.V

namespace Go.V
open Go
section
variable (C:Ctx) (D:Den C)
noncomputable def runD (hints:Hints) (id:Nat) (ops:Array Oper):List Bool→List (Nat×Oper)→St→Option (St×Log)
 | _,[],S=>some (S,[])
 | βs,(i,o)::l,S=>(qco C D hints id ops (βs.headD true) S i o).bind fun x=>(runD hints id ops βs.tail l x.1).map fun y=>(y.1,x.2::y.2)
end
structure Sim (S T:St):Prop where
 rt:T.rt=S.rt
 len:T.sl.length=S.sl.length
 get:∀ t,T.get t=S.get t∨∃ b,S.get t=.litB b∧T.get t=.val .bool b
theorem Sim.refl (S:St):Sim S S:=⟨rfl,rfl,fun _=>.inl rfl⟩
theorem Sim.flat {S T:St} (h:Sim S T) (t:Nat):(T.get t).flat=(S.get t).flat:=by
 rcases h.get t with e | ⟨b,e1,e2⟩
 ·rw[e]
 ·rw[e1,e2];rfl
theorem Sim.ev {S T:St} (h:Sim S T):ev T=ev S:=by
 funext x
 cases x with
 | tmp t=>exact h.flat t
 | _=>rfl
theorem Sim.roots {S T:St} (h:Sim S T) (t:Nat):(T.get t).roots=(S.get t).roots:=by
 rcases h.get t with e | ⟨b,e1,e2⟩
 ·rw[e]
 ·rw[e1,e2];rfl
theorem Sim.stamps {S T:St} (h:Sim S T) (t:Nat):(T.get t).stamps=(S.get t).stamps:=by
 rcases h.get t with e | ⟨b,e1,e2⟩
 ·rw[e]
 ·rw[e1,e2];rfl
theorem qbd5 (s:Nat):∀ (l l2:List AV),l2.length=l.length→(∀ k,(l2.getD k .undef).stampsOk s (s+1)=(l.getD k .undef).stampsOk s (s+1))→qv2 s l2=qv2 s l
 | [],[],_,_=>rfl
 | [],_::_,h,_=>by simp at h
 | _::_,[],h,_=>by simp at h
 | v::l,u::l2,h,hk=>by
  have h0:=hk 0
  simp only[List.getD_cons_zero] at h0
  simp only[qv2]
  rw[h0,qbd5 s l l2 (by simpa using h) (fun k=>by have:=hk (k+1);simpa [List.getD] using this)]
theorem qbpr {sl sl2:List AV} (d:Option Nat) (s:Nat) (hl:sl2.length=sl.length) (hr:∀ d',d=some d'→∀ k,k≠d'→(sl2.getD k .undef).roots.contains d'=(sl.getD k .undef).roots.contains d')
  (hp:∀ d',d=some d'→∀ k,k≠d'→(sl2.getD k .undef).noPl d'=(sl.getD k .undef).noPl d') (hs:∀ k,(sl2.getD k .undef).stampsOk s (s+1)=(sl.getD k .undef).stampsOk s (s+1)):qd7 sl2 d s=qd7 sl d s:=by
 have hf:=qbd5 s sl sl2 hl hs
 cases d with
 | none=>simp only[qd7,hf]
 | some d=>
  have hm:∀ (l l2:List AV) (i:Nat),l2.length=l.length→(∀ k,i+k≠d→(l2.getD k .undef).roots.contains d=(l.getD k .undef).roots.contains d)→q8m d i l2=q8m d i l:=by
   intro l
   induction l with
   | nil=>intro l2 i h _;cases l2 with
    | nil=>rfl
    | cons _ _=>simp at h
   | cons v l ih=>
    intro l2 i h hk
    cases l2 with
    | nil=>simp at h
    | cons u l2=>
     simp only[q8m]
     rw[ih l2 (i+1) (by simpa using h) (fun k hkd=>by have:=hk (k+1) (by omega);simpa [List.getD] using this)]
     by_cases e:i=d
     ·subst e;simp
     ·have:=hk 0 (by omega)
      simp only[List.getD_cons_zero] at this
      rw[this]
  have hpl:∀ (l l2:List AV) (i:Nat),l2.length=l.length→(∀ k,i+k≠d→(l2.getD k .undef).noPl d=(l.getD k .undef).noPl d)→qyg d i l2=qyg d i l:=by
   intro l
   induction l with
   | nil=>intro l2 i h _;cases l2 with
    | nil=>rfl
    | cons _ _=>simp at h
   | cons v l ih=>
    intro l2 i h hk
    cases l2 with
    | nil=>simp at h
    | cons u l2=>
     simp only[qyg]
     rw[ih l2 (i+1) (by simpa using h) (fun k hkd=>by have:=hk (k+1) (by omega);simpa [List.getD] using this)]
     by_cases e:i=d
     ·subst e;simp
     ·have:=hk 0 (by omega)
      simp only[List.getD_cons_zero] at this
      rw[this]
  simp only[qd7,hf]
  rw[hm sl sl2 0 hl (fun k h=>hr d rfl k (by omega)),hpl sl sl2 0 hl (fun k h=>hp d rfl k (by omega))]
theorem Sim.asks {S T:St} (h:Sim S T) (d:Option Nat) (s:Nat):qd7 T.sl d s=qd7 S.sl d s:=by
 refine qbpr d s h.len (fun d' _ k _=>?_) (fun d' _ k _=>?_) (fun k=>?_)
 ·have:=h.roots k;simp only[St.get] at this;rw[this]
 ·rcases h.get k with e | ⟨b,e1,e2⟩
  ·simp only[St.get] at e;rw[e]
  ·simp only[St.get] at e1 e2;rw[e1,e2];rfl
 ·rcases h.get k with e | ⟨b,e1,e2⟩
  ·simp only[St.get] at e;rw[e]
  ·simp only[St.get] at e1 e2;rw[e1,e2];rfl
theorem Sim.set {S T:St} (h:Sim S T) (t:Nat) (v:AV):Sim (S.set t v) (T.set t v) where
 rt:=h.rt
 len:=by simp[St.set,h.len]
 get:=by
  intro u
  rw[St.get_set,St.get_set,h.len]
  by_cases e:u=t∧t<S.sl.length
  ·rw[if_pos e,if_pos e];exact .inl rfl
  ·rw[if_neg e,if_neg e];exact h.get u
theorem Sim.forget {S T:St} (h:Sim S T):∀ ts:List Nat,Sim (S.forget ts) (T.forget ts):=by
 intro ts
 induction ts generalizing S T with
 | nil=>exact h
 | cons t ts ih=>exact ih (h.set t .undef)
theorem Sim.withRt {S T:St} (h:Sim S T) (rt:Rts):Sim ⟨S.sl,rt⟩ ⟨T.sl,rt⟩:=⟨rfl,h.len,h.get⟩
theorem Sim.fin {S T:St} (h:Sim S T) (ops:Array Oper) (i:Nat) (o:Oper) (v:AV):Sim (fin ops S i o v) (fin ops T i o v):=by
 unfold V.fin q6z
 cases o.dst with
 | none=>exact h.forget _
 | some d=>exact (h.forget _).set d v
theorem Sim.rootsAt {S T:St} (h:Sim S T):∀ ts,rootsAt T ts=rootsAt S ts
 | []=>rfl
 | t::ts=>by simp only[V.rootsAt];rw[h.roots,Sim.rootsAt h ts]
theorem Sim.stampsAt {S T:St} (h:Sim S T):∀ ts,stampsAt T ts=stampsAt S ts
 | []=>rfl
 | t::ts=>by simp only[V.stampsAt];rw[h.stamps,Sim.stampsAt h ts]
section
variable {C:Ctx} {D:Den C}
theorem Sim.opAt {S T:St} (h:Sim S T) (site:Nat) (hint:Bool) (o:Oper):opAt C D T site hint o=opAt C D S site hint o:=by
 unfold V.opAt;rw[h.asks,h.ev,h.rt]
theorem Sim.ent {S T:St} (h:Sim S T) (ops:Array Oper) (site i:Nat) (o:Oper) (v:AV) (rt':Rts):qh3 C ops T site i o v rt'=qh3 C ops S site i o v rt':=by
 unfold qh3 q7d;rw[h.ev,h.rootsAt,h.stampsAt,h.rt]
theorem Sim.skip {S T:St} (h:Sim S T) (ops:Array Oper) (site i:Nat) (o:Oper):qfv ops T site i o=qfv ops S site i o:=by
 unfold qfv;rw[h.rootsAt,h.stampsAt]
theorem qbpz {hints:Hints} {id:Nat} {ops:Array Oper} {S T:St} (h:Sim S T) {i:Nat} {o:Oper} {β:Bool} (hg:qgz ops T o=some true) {x:AV×Rts}
  (hd:(opAt C D S (id * 256+i+1) (hints.share.contains (id,i)) o).dec β=some x) :
  qco C D hints id ops β T i o=some (fin ops ⟨T.sl,x.2⟩ i o x.1,qh3 C ops S (id * 256+i+1) i o x.1 x.2)∧Sim (fin ops ⟨S.sl,x.2⟩ i o x.1) (fin ops ⟨T.sl,x.2⟩ i o x.1):=by
 refine ⟨?_,(h.withRt x.2).fin ops i o x.1⟩
 unfold qco
 rw[hg,h.opAt,hd,←h.ent]
 rfl
theorem qbk5 {hints:Hints} {id:Nat} {ops:Array Oper} {S T:St} (h:Sim S T) {i:Nat} {o:Oper} {β:Bool} (hg:qgz ops T o=some false) :
  qco C D hints id ops β T i o=some (fin ops T i o .skip,qfv ops S (id * 256+i+1) i o)∧Sim (fin ops S i o .skip) (fin ops T i o .skip):=by
 refine ⟨?_,h.fin ops i o .skip⟩
 unfold qco
 rw[hg,←h.skip]
end
section
variable {P:Program} {C:Ctx} {D:Den C} (hty:qcz P C) (dok:DOk P C D)
include hty dok
theorem qbrl {np:List Nat} {Q:Exit→Act→World→Prop} {hints:Hints} {id:Nat} {ops:Array Oper} (hj:∀ (i:Nat) o j c,ops[i]? = some o→o.guard=some (j,c)→∃ oj t,ops[j]? = some oj∧oj.dst=some t) :
  ∀ (l:List (Nat×Oper)) (S:St) (g:Ghost) (a:Act) (w:World),(∀ x∈l,ops[x.1]? = some x.2)→(∀ x∈l,∀ d,x.2.dst=some d→d∉np)→StRel w.heap S g a.tmps Nil→a.defers=[]→(∀ βs,∃ x,runD C D hints id ops βs l S=some x)→
   (∀ βs S' lg a' w' g',runD C D hints id ops βs l S=some (S',lg)→StRel w'.heap S' g' a'.tmps Nil→g'.Same g→WFr g.L w w'→a'.defers=[]→qti np a a'→Q .normal a' w')→wpOps P ops Q (l.map (·.1)) a w
 | [],S,g,a,w,hl,hnp,st,hdf,ht,hQ=>by
  simp only[List.map_nil,wpOps]
  exact hQ [] S [] a w g rfl st (.refl g) (.refl _ _) hdf (.refl _ _)
 | (i,o)::l,S,g,a,w,hl,hnp,st,hdf,ht,hQ=>by
  simp only[List.map_cons]
  rw[wpOps_cons]
  have hi:=hl (i,o) List.mem_cons_self
  refine qbps hty dok st (hints:=hints) (id:=id) hi (fun j c=>hj i o j c hi) hdf (hnp (i,o) List.mem_cons_self) (fun β=>?_) ?_
  ·obtain ⟨x,hx⟩:=ht [β]
   simp only[runD,List.headD_cons,Option.bind_eq_some_iff] at hx
   obtain ⟨y,hy,_⟩:=hx
   exact ⟨y,hy⟩
  ·intro β S' e a' w' g' hs st' hsm hfr hdf' hfx
   refine qbrl (hints:=hints) (id:=id) hj l S' g' a' w' (fun x hx=>hl x (List.mem_cons_of_mem _ hx)) (fun x hx=>hnp x (List.mem_cons_of_mem _ hx)) st' hdf' (fun βs=>?_) ?_
   ·obtain ⟨x,hx⟩:=ht (β::βs)
    simp only[runD,List.headD_cons,List.tail_cons,Option.bind_eq_some_iff] at hx
    obtain ⟨y,hy,hx⟩:=hx
    rw[hs] at hy
    simp only[Option.some.injEq] at hy
    subst hy
    simp only[Option.map_eq_some_iff] at hx
    obtain ⟨z,hz,_⟩:=hx
    exact ⟨z,hz⟩
   ·intro βs S'' lg a'' w'' g'' hr st'' hsm' hfr' hdf'' hfx'
    refine hQ (β::βs) S'' (e::lg) a'' w'' g'' ?_ st'' (hsm.trans hsm') (hfr.trans (by rw[hsm.2.1] at hfr';exact hfr')) hdf'' (hfx.trans hfx')
    simp only[runD,List.headD_cons,List.tail_cons,hs,Option.bind_some,hr,Option.map_some]
end
end Go.V

namespace Go.V
open Go
section
variable {C:Ctx} {D:Den C}
theorem qbmj {α:Type} {x:Option α} {f:α→AV} {S:Rts} {β:Bool} {v:AV} {rt':Rts} (h:(Tr.of (x.map fun v=>(f v,S))).dec β=some (v,rt')):rt'=S:=by
 cases x with
 | none=>simp[Tr.of,Tr.dec] at h
 | some y=>simp only[Option.map_some,Tr.of,Tr.dec,Option.some.injEq,Prod.mk.injEq] at h;exact h.2.symm
theorem qbt4 {A:Asks} {ρ:Operand→AV} {S:Rts} {site:Nat} {hint:Bool} {o:Oper} (hT:qgt o=true) {β:Bool} {v:AV} {rt':Rts} (h:(opT C D A ρ S site hint o).dec β=some (v,rt')):rt'=S:=by
 cases ho:o.op with
 | move x=>simp only[opT,ho,Tr.dec,Option.some.injEq,Prod.mk.injEq] at h;exact h.2.symm
 | pick c a b=>
  simp only[opT,ho] at h
  split at h
  ·rename_i c' _;cases c'<;>(simp only[Tr.dec,Option.some.injEq,Prod.mk.injEq] at h;exact h.2.symm)
  ·simp[Tr.dec] at h
 | unOp op t x=>
  simp only[opT,ho] at h
  split at h
  ·simp only[Tr.dec,Option.some.injEq,Prod.mk.injEq] at h;exact h.2.symm
  ·simp only[Tr.dec,Option.some.injEq,Prod.mk.injEq] at h;exact h.2.symm
  ·simp[Tr.dec] at h
 | fieldAddr t x f=>simp only[opT,ho] at h;exact qbmj (f:=fun v=>v) h
 | field t x f=>
  simp only[opT,ho] at h
  split at h
  ·split at h
   ·split at h
    ·simp only[Tr.dec,Option.some.injEq,Prod.mk.injEq] at h;exact h.2.symm
    ·simp[Tr.dec] at h
   ·simp[Tr.dec] at h
  ·simp[Tr.dec] at h
 | load t x=>
  simp only[opT,ho] at h
  split at h
  ·exact qbmj (f:=fun v=>v) h
  ·simp[Tr.dec] at h
 | extract x i=>simp only[opT,ho] at h;exact qbmj (f:=fun v=>v) h
 | binOp op t x y t2=>
  simp only[opT,ho] at h
  split at h
  ·split at h
   ·simp only[Tr.dec,Option.some.injEq,Prod.mk.injEq] at h;exact h.2.symm
   ·simp only[Tr.dec,Option.some.injEq,Prod.mk.injEq] at h;exact h.2.symm
   ·simp[Tr.dec] at h
  ·exact (qbks (T:=binT (C.ty t) op (ρ x) (ρ y)) (S:=S) (β:=β) (v:=v) (rt:=rt') (by unfold qbmh;exact h)).2
 | call c=>
  cases hc:c.callee with
  | builtin b=>
   cases b with
   | len=>
    simp only[opT,ho,hc] at h
    split at h<;>first
     | (simp only[Tr.dec,Option.some.injEq,Prod.mk.injEq] at h;exact h.2.symm)
     | exact qbmj (f:=fun n=>AV.val (Ty.int IntKind.i64) n) h
     | (exfalso;contradiction)
     | (exfalso;revert h;simp only[Tr.dec];intro h;contradiction)
   | _=>simp[qgt,ho,hc] at hT
  | _=>simp[qgt,ho,hc] at hT
 | _=>simp[qgt,ho] at hT
theorem qbqa {A:Asks} {ρ:Operand→AV} {S:Rts} {site:Nat} {h1 h2:Bool} {o:Oper} (hT:qgt o=true):opT C D A ρ S site h1 o=opT C D A ρ S site h2 o:=by
  cases ho:o.op with
  | call c=>
    cases hc:c.callee with
    | builtin b=>
      cases b with
      | len=>
        simp only[opT,ho,hc]
        generalize List.map ρ c.args.toList=l1
        generalize List.map C.ty c.argTypes.toList=l2
        rcases l1 with _ | ⟨x,_ | ⟨y,l⟩⟩
        · rfl
        · rcases l2 with _ | ⟨t,l2⟩
          · cases x with
            | val ty s=>cases ty<;>rfl
            | _=>rfl
          · cases x with
            | val ty s=>cases ty<;>cases t<;>rfl
            | _=>cases t<;>rfl
        · rcases l with _ | ⟨z,l⟩<;>rcases l2 with _ | ⟨t,_ | ⟨t',l2⟩⟩<;>first
            | rfl
            | (cases t<;>first | rfl | (cases t'<;>rfl))
            | (cases x with
               | val ty s=>cases ty<;>first | rfl | (cases t<;>first | rfl | (cases t'<;>rfl))
               | _=>first | rfl | (cases t<;>first | rfl | (cases t'<;>rfl)))
      | _=>simp[qgt,ho,hc] at hT
    | _=>simp[qgt,ho,hc] at hT
  | _=>first | (simp[qgt,ho] at hT;done) | simp only[opT,ho]
theorem q8d:∀ (ts:List Nat) (S:St) (u:Nat),(S.forget ts).get u=if u∈ts then .undef else S.get u
 | [],S,u=>by simp[St.forget]
 | t::ts,S,u=>by
  simp only[St.forget,q8d ts,List.mem_cons]
  have:=q48 S t u
  simp only[St.blank] at this
  rw[this]
  by_cases h1:u∈ts
  ·simp[h1]
  ·by_cases h2:u=t<;>simp[h1,h2]
theorem q8t (ts:List Nat) (S:St):(S.forget ts).sl.length=S.sl.length:=by
 induction ts generalizing S with
 | nil=>rfl
 | cons t ts ih=>simp only[St.forget];rw[ih];simp[St.set]
theorem qbkm (ts:List Nat) (S:St):(S.forget ts).rt=S.rt:=by rw[q0l]
theorem qqo (ops:Array Oper) (S:St) (i:Nat) (o:Oper) (v:AV) (u:Nat) :
  (fin ops S i o v).get u=if o.dst=some u∧u<S.sl.length then v else if u∈qhg ops i o then .undef else S.get u:=by
 unfold fin q6z
 cases hd:o.dst with
 | none=>simp[q8d]
 | some d=>
  rw[St.get_set,q8d,q8t]
  by_cases e:u=d
  ·subst e;simp
  ·have:¬ d=u:=fun h=>e h.symm
   simp[e,this]
theorem qhq (ops:Array Oper) (S:St) (i:Nat) (o:Oper) (v:AV):(fin ops S i o v).rt=S.rt:=by
 unfold fin q6z
 cases o.dst with
 | none=>exact qbkm _ _
 | some d=>exact qbkm _ _
theorem q3a (ops:Array Oper) (S:St) (i:Nat) (o:Oper) (v:AV):(fin ops S i o v).sl.length=S.sl.length:=by
 unfold fin q6z
 cases o.dst with
 | none=>exact q8t _ _
 | some d=>simp only[St.set,List.length_set];exact q8t _ _
theorem q53 {hints:Hints} {id:Nat} {ops:Array Oper} {β:Bool} {S S':St} {i:Nat} {o:Oper} {e:Ent} (h:qco C D hints id ops β S i o=some (S',e)) {u:Nat} (hu:u∉qc4 ops i o) :
  S'.get u=S.get u∧S'.sl.length=S.sl.length∧(qgt o=true→S'.rt=S.rt):=by
 have hn:¬ (o.dst=some u):=fun h=>hu (by simp[qc4,h])
 have hn2:u∉qhg ops i o:=fun h=>hu (by simp[qc4,h])
 unfold qco at h
 split at h
 ·simp only[Option.map_eq_some_iff,Prod.mk.injEq] at h
  obtain ⟨x,hx,rfl,_⟩:=h
  refine ⟨?_,?_,fun ht=>?_⟩
  ·rw[qqo,if_neg (fun h=>hn h.1),if_neg hn2];rfl
  ·rw[q3a]
  ·rw[qhq];exact qbt4 ht hx
 ·simp only[Option.some.injEq,Prod.mk.injEq] at h
  obtain ⟨rfl,_⟩:=h
  refine ⟨?_,?_,fun ht=>?_⟩
  ·rw[qqo,if_neg (fun h=>hn h.1),if_neg hn2]
  ·rw[q3a]
  ·rw[qhq]
 ·simp at h
theorem qbhi {hints:Hints} {id:Nat} {ops:Array Oper} {Dd:List Nat}:∀ (l:List (Nat×Oper)) (βs:List Bool) (S S':St) (lg:Log),runD C D hints id ops βs l S=some (S',lg)→
  (∀ x∈l,qgt x.2=true∧∀ u∈qc4 ops x.1 x.2,u∈Dd)→(∀ u,u∉Dd→S'.get u=S.get u)∧S'.rt=S.rt∧S'.sl.length=S.sl.length
 | [],βs,S,S',lg,h,_=>by
  simp only[runD,Option.some.injEq,Prod.mk.injEq] at h
  obtain ⟨rfl,_⟩:=h
  exact ⟨fun _ _=>rfl,rfl,rfl⟩
 | (i,o)::l,βs,S,S',lg,h,hl=>by
  simp only[runD,Option.bind_eq_some_iff,Option.map_eq_some_iff,Prod.mk.injEq] at h
  obtain ⟨⟨S1,e⟩,hs,⟨S2,lg2⟩,hr,rfl,_⟩:=h
  obtain ⟨ht,ho⟩:=hl (i,o) List.mem_cons_self
  obtain ⟨k1,k2,k3⟩:=qbhi l βs.tail S1 S2 lg2 hr (fun x hx=>hl x (List.mem_cons_of_mem _ hx))
  have hex:∃ u,u∉qc4 ops i o:=by
   refine ⟨(qc4 ops i o).foldr max 0+1,fun h=>?_⟩
   have:∀ (l:List Nat) (u:Nat),u∈l→u≤l.foldr max 0:=by
    intro l
    induction l with
    | nil=>intro u h;simp at h
    | cons a l ih=>
     intro u h
     simp only[List.foldr_cons]
     rcases List.mem_cons.1 h with rfl | h
     ·exact Nat.le_max_left _ _
     ·exact Nat.le_trans (ih u h) (Nat.le_max_right _ _)
   have:=this _ _ h
   omega
  obtain ⟨u0,hu0⟩:=hex
  obtain ⟨_,f2,f3⟩:=q53 hs hu0
  exact ⟨fun u hu=>(k1 u hu).trans (q53 hs (fun h=>hu (ho u h))).1,k2.trans (f3 ht),k3.trans f2⟩
theorem q5x {hints:Hints} {id:Nat} {ops:Array Oper}:∀ (l1 l2:List (Nat×Oper)) (βs:List Bool) (S:St),
  runD C D hints id ops βs (l1++l2) S=(runD C D hints id ops βs l1 S).bind fun x=>(runD C D hints id ops (βs.drop l1.length) l2 x.1).map fun y=>(y.1,x.2++y.2)
 | [],l2,βs,S=>by simp[runD]
 | (i,o)::l1,l2,βs,S=>by
  simp only[List.cons_append,runD]
  cases hs:qco C D hints id ops (βs.headD true) S i o with
  | none=>simp
  | some x=>
   simp only[Option.bind_some]
   rw[q5x l1 l2 βs.tail x.1]
   cases hr:runD C D hints id ops βs.tail l1 x.1 with
   | none=>simp
   | some y=>
    simp only[Option.bind_some,Option.map_some,List.length_cons]
    have:βs.tail.drop l1.length=βs.drop (l1.length+1):=by cases βs<;>simp
    rw[this]
    cases runD C D hints id ops (βs.drop (l1.length+1)) l2 y.1<;>simp
theorem qbuw {S:St} {x:Operand} {b:Bool} (h:V.asBool (ev S x)=some b):ev S x=.val .bool b:=by
 cases x with
 | tmp t=>
  simp only[ev] at h ⊢
  cases hS:S.get t with
  | val t y=>rw[hS] at h;cases t<;>simp[AV.flat,V.asBool] at h;subst h;rfl
  | litB c=>rw[hS] at h;simp[AV.flat,V.asBool] at h;subst h;rfl
  | _=>rw[hS] at h;simp[AV.flat,V.asBool] at h
 | const v=>
  simp only[ev] at h ⊢
  unfold qbb1 at h ⊢
  split at h<;>simp[V.asBool] at h
  subst h;rfl
 | _=>simp[ev,V.asBool] at h
def qbuo (C:Ctx) (D:Den C) (hints:Hints) (id:Nat) (ops:Array Oper) (rec_:List (Nat×Oper)→St→Log→Option (St×Log)):Prop:=
 ∀ l S lg S1 lg1,rec_ l S lg=some (S1,lg1)→(∀ x∈l,qgt x.2=true)→∀ T,Sim S T→∀ βs,∃ T1 lgT,runD C D hints id ops βs l T=some (T1,lgT)∧Sim S1 T1∧(∀ e∈lgT,e∈lg1)∧(∀ e∈lg,e∈lg1)
theorem qbmt {t:Nat}:∀ (l:List (Nat×Oper)) {seg:List (Nat×Oper)} {x:Nat×Oper} {rest:List (Nat×Oper)},q0k t l=some (seg,x,rest)→l=seg++x::rest∧qbna t x.2=true
 | [],_,_,_,h=>by simp[q0k] at h
 | y::l,seg,x,rest,h=>by
  simp only[q0k] at h
  split at h
  ·rename_i hp
   simp only[Option.some.injEq,Prod.mk.injEq] at h
   obtain ⟨rfl,rfl,rfl⟩:=h
   exact ⟨rfl,hp⟩
  ·split at h
   ·rename_i z hz
    obtain ⟨z1,z2,z3⟩:=z
    simp only[Option.some.injEq,Prod.mk.injEq] at h
    obtain ⟨rfl,rfl,rfl⟩:=h
    obtain ⟨e,hp⟩:=qbmt l hz
    exact ⟨by rw[e];rfl,hp⟩
   ·simp at h
theorem qbpf {hints:Hints} {id:Nat} {ops:Array Oper} {rec_:List (Nat×Oper)→St→Log→Option (St×Log)} (hrec:qbuo C D hints id ops rec_) {t:Nat} {c:Bool} {l rest:List (Nat×Oper)} {S S':St} {lg lg':Log}
  (h:qbhk C ops id rec_ t c l S lg=some (S',lg',rest)) (hSt:S.get t=.val .bool c) {T:St} (hs:Sim S T) (βs:List Bool) :
  ∃ seg i o T' lgT,l=seg++(i,o)::rest∧runD C D hints id ops βs (seg++[(i,o)]) T=some (T',lgT)∧Sim S' T'∧(∀ e∈lgT,e∈lg')∧(∀ e∈lg,e∈lg')∧qgt o=true:=by
 unfold qbhk at h
 split at h
 ·rename_i seg i o rest' hsp
  obtain ⟨hl,hpick⟩:=qbmt l hsp
  simp only at h
  split at h
  ·rename_i hc
   simp only[Bool.and_eq_true,List.all_eq_true,Bool.not_eq_true'] at hc
   obtain ⟨⟨hc1,hc2⟩,hc3⟩:=hc
   split at h
   ·rename_i cc a b S1 l1 S2 l2 hop h1 h2
    split at h
    ·rename_i x y hx hy
     simp only[Option.some.injEq,Prod.mk.injEq] at h
     obtain ⟨rfl,rfl,rfl⟩:=h
     have hTt:T.get t=.val .bool c:=by
      rcases hs.get t with e | ⟨b,e1,_⟩
      ·rw[e];exact hSt
      ·rw[hSt] at e1;simp at e1
     have htl:t<S.sl.length:=by
      rcases Nat.lt_or_ge t S.sl.length with h | h
      ·exact h
      ·simp only[St.get,List.getD] at hSt;rw[List.getElem?_eq_none h] at hSt;simp at hSt
     have hsim:Sim (S.set t (.litB c)) T:=by
      refine ⟨hs.rt,by simp[St.set,hs.len],fun u=>?_⟩
      rw[St.get_set]
      by_cases e:u=t
      ·subst e;rw[if_pos ⟨rfl,htl⟩];exact .inr ⟨c,rfl,hTt⟩
      ·rw[if_neg (fun h=>e h.1)];exact hs.get u
     have hcc:cc=.tmp t:=by
      unfold qbna at hpick
      rw[hop] at hpick
      split at hpick
      ·rename_i c' _ _ he
       simp only[Op.pick.injEq] at he
       rw[he.1]
       rw[Nat.eq_of_beq_eq_true hpick]
      ·simp at hpick
     have hseg:∀ x∈seg,qgt x.2=true∧∀ u∈qc4 ops x.1 x.2,u∈qhg ops i o:=by
      intro z hz
      have:=hc1 z hz
      exact ⟨this.1,fun u hu=>by have:=this.2 u hu;simpa using this⟩
     -- the way that is gone
     have key:∀ (Sc:St) (lc:Log),rec_ seg (S.set t (.litB c)) []=some (Sc,lc)→∀ z,V.asBool (ev Sc (if c then a else b))=some z→
       ∃ T' lgT,runD C D hints id ops βs (seg++[(i,o)]) T=some (T',lgT)∧Sim (fin ops S i o (.val .bool z)) T'∧∀ e∈lgT,e∈lc∨e=qh3 C ops Sc (id * 256+i+1) i o (.val .bool z) Sc.rt:=by
      intro Sc lc hr z hz
      obtain ⟨T1,lgT,k1,k2,k3,_⟩:=hrec seg _ _ Sc lc hr (fun x hx=>(hseg x hx).1) T hsim βs
      obtain ⟨f1,f2,f3⟩:=qbhi seg βs T T1 lgT k1 hseg
      have htD:t∉qhg ops i o:=by simpa using hc3
      have hT1t:T1.get t=.val .bool c:=by rw[f1 t htD];exact hTt
      have hg:qgz ops T1 o=some true:=by
       unfold qbuk at hc2
       unfold qgz
       split at hc2
       ·rename_i hgd;rw[hgd]
       ·rename_i j b' hgd
        simp only[Bool.and_eq_true,Bool.not_eq_true'] at hc2
        rw[hgd]
        simp only
        have hjD:qfn ops j∉qhg ops i o:=by simpa using hc2.1
        rw[f1 _ hjD]
        have h5:=hc2.2
        split at h5
        ·rename_i c' hS
         rcases hs.get (qfn ops j) with e | ⟨b2,e1,e2⟩
         ·rw[e,hS];simp only[Option.some.injEq];exact h5
         ·rw[e2];rw[hS] at e1;simp only[AV.litB.injEq] at e1;subst e1;simp only[Option.some.injEq];exact h5
        ·simp at h5
      have hevz:ev T1 (if c then a else b)=.val .bool z:=by rw[k2.ev];exact qbuw hz
      have hdec:(opAt C D T1 (id * 256+i+1) (hints.share.contains (id,i)) o).dec ((βs.drop seg.length).headD true)=some (.val .bool z,T1.rt):=by
       unfold opAt
       simp only[opT,hop,hcc,ev,hT1t,AV.flat,V.asBool]
       cases c<;>simp only[Tr.dec,Option.some.injEq,Prod.mk.injEq,and_true]<;>exact hevz
      have hstep:qco C D hints id ops ((βs.drop seg.length).headD true) T1 i o=some (fin ops T1 i o (.val .bool z),qh3 C ops Sc (id * 256+i+1) i o (.val .bool z) Sc.rt):=by
       unfold qco
       rw[hg,hdec,←k2.ent,←k2.rt]
       rfl
      refine ⟨fin ops T1 i o (.val .bool z),lgT++[qh3 C ops Sc (id * 256+i+1) i o (.val .bool z) Sc.rt],?_,?_,?_⟩
      ·rw[q5x,k1]
       simp only[Option.bind_some,runD,hstep,Option.map_some]
      ·refine ⟨?_,?_,fun u=>?_⟩
       ·rw[qhq,qhq,f2,hs.rt]
       ·rw[q3a,q3a,f3,hs.len]
       ·rw[qqo,qqo,f3,hs.len]
        by_cases h1:o.dst=some u∧u<S.sl.length
        ·rw[if_pos h1,if_pos h1];exact .inl rfl
        ·rw[if_neg h1,if_neg h1]
         by_cases h2:u∈qhg ops i o
         ·rw[if_pos h2,if_pos h2];exact .inl rfl
         ·rw[if_neg h2,if_neg h2,f1 u h2];exact hs.get u
      ·intro e he
       rcases List.mem_append.1 he with he | he
       ·exact .inl (k3 e he)
       ·exact .inr (by simpa using he)
     have htot:qgt o=true:=by unfold qgt;rw[hop]
     cases c with
     | true=>
      obtain ⟨T',lgT,k1,k2,k3⟩:=key S1 l1 h1 x (by simpa using hx)
      refine ⟨seg,i,o,T',lgT,hl,k1,k2,fun e he=>?_,fun e he=>?_,htot⟩
      ·rcases k3 e he with h | rfl
       ·simp[h]
       ·simp
      ·simp[he]
     | false=>
      obtain ⟨T',lgT,k1,k2,k3⟩:=key S2 l2 h2 y (by simpa using hy)
      refine ⟨seg,i,o,T',lgT,hl,k1,k2,fun e he=>?_,fun e he=>?_,htot⟩
      ·rcases k3 e he with h | rfl
       ·simp[h]
       ·simp
      ·simp[he]
    ·simp at h
   ·simp at h
  ·simp at h
 ·simp at h
end
end Go.V

namespace Go.V
open Go
section
variable {C:Ctx} {D:Den C}
theorem qbku {hints:Hints} {id:Nat} {ops:Array Oper} {seg rest:List (Nat×Oper)} {x:Nat×Oper} {T T':St} {lgT:Log} {βs:List Bool}
  (h:runD C D hints id ops βs (seg++[x]) T=some (T',lgT)) :
  runD C D hints id ops βs (seg++x::rest) T=(runD C D hints id ops (βs.drop (seg.length+1)) rest T').map fun y=>(y.1,lgT++y.2):=by
 have e:seg++x::rest=(seg++[x])++rest:=by simp
 rw[e,q5x,h]
 simp only[Option.bind_some,List.length_append,List.length_cons,List.length_nil]
theorem qbas {ops:Array Oper} {S T:St} (h:Sim S T) {o:Oper} {j:Nat} {b c:Bool} (hg:o.guard=some (j,b)) (hS:S.get (qfn ops j)=.litB c∨S.get (qfn ops j)=.val .bool c) :
  qgz ops T o=some (c == b):=by
 unfold qgz
 rw[hg]
 simp only
 rcases hS with hS | hS
 ·rcases h.get (qfn ops j) with e | ⟨c',e1,e2⟩
  ·rw[e,hS]
  ·rw[hS] at e1;simp only[AV.litB.injEq] at e1;subst e1;rw[e2]
 ·rcases h.get (qfn ops j) with e | ⟨c',e1,e2⟩
  ·rw[e,hS]
  ·rw[hS] at e1;simp at e1
theorem qbgb {ops:Array Oper} {S T:St} (h:Sim S T) {o:Oper} {j:Nat} {b:Bool} (hg:o.guard=some (j,b)) (hS:S.get (qfn ops j)=.skip):qgz ops T o=some false:=by
 unfold qgz
 rw[hg]
 simp only
 rcases h.get (qfn ops j) with e | ⟨c',e1,e2⟩
 ·rw[e,hS]
 ·rw[hS] at e1;simp at e1
theorem qbkv {ops:Array Oper} {T:St} {o:Oper} (hg:o.guard=none):qgz ops T o=some true:=by
 unfold qgz;rw[hg]
theorem q6q {hints:Hints} {id:Nat} {ops:Array Oper}:∀ n,qbuo C D hints id ops (segR C D id ops n)
 | 0=>by intro l S lg S1 lg1 h;simp[segR] at h
 | n+1=>by
  intro l S lg S1 lg1 h hl T hs βs
  cases l with
  | nil=>
   simp only[segR,Option.some.injEq,Prod.mk.injEq] at h
   obtain ⟨rfl,rfl⟩:=h
   exact ⟨T,[],rfl,hs,by simp,fun e he=>he⟩
  | cons x rest=>
   obtain ⟨i,o⟩:=x
   have htot:=hl (i,o) List.mem_cons_self
   have hrest:∀ x∈rest,qgt x.2=true:=fun x hx=>hl x (List.mem_cons_of_mem _ hx)
   have hgo:qgz ops T o=some true→(match opAt C D S (id * 256+i+1) false o with
     | .ret (v,rt')=>segR C D id ops n rest (fin ops ⟨S.sl,rt'⟩ i o v) (qh3 C ops S (id * 256+i+1) i o v rt'::lg)
     | _=>none)=some (S1,lg1)→∃ T1 lgT,runD C D hints id ops βs ((i,o)::rest) T=some (T1,lgT)∧Sim S1 T1∧(∀ e∈lgT,e∈lg1)∧(∀ e∈lg,e∈lg1):=by
    intro hg h
    split at h
    ·rename_i v rt' hop
     have hop':(opAt C D S (id * 256+i+1) (hints.share.contains (id,i)) o).dec (βs.headD true)=some (v,rt'):=by
      unfold opAt at hop ⊢
      rw[qbqa htot (h2:=false),hop]
      rfl
     obtain ⟨k1,k2⟩:=qbpz (hints:=hints) (id:=id) hs hg hop'
     obtain ⟨T1,lgT,q1,q2,q3,q4⟩:=q6q (hints:=hints) n rest _ _ S1 lg1 h hrest _ k2 βs.tail
     refine ⟨T1,qh3 C ops S (id * 256+i+1) i o v rt'::lgT,?_,q2,?_,fun e he=>q4 e (List.mem_cons_of_mem _ he)⟩
     ·simp only[runD,k1,Option.bind_some,q1,Option.map_some]
     ·intro e he
      rcases List.mem_cons.1 he with rfl | he
      ·exact q4 _ List.mem_cons_self
      ·exact q3 e he
    ·simp at h
   have hskip:qgz ops T o=some false→segR C D id ops n rest (fin ops S i o .skip) (qfv ops S (id * 256+i+1) i o::lg)=some (S1,lg1)→
     ∃ T1 lgT,runD C D hints id ops βs ((i,o)::rest) T=some (T1,lgT)∧Sim S1 T1∧(∀ e∈lgT,e∈lg1)∧(∀ e∈lg,e∈lg1):=by
    intro hg h
    obtain ⟨k1,k2⟩:=qbk5 (C:=C) (D:=D) (hints:=hints) (id:=id) (β:=βs.headD true) hs hg
    obtain ⟨T1,lgT,q1,q2,q3,q4⟩:=q6q (hints:=hints) n rest _ _ S1 lg1 h hrest _ k2 βs.tail
    refine ⟨T1,qfv ops S (id * 256+i+1) i o::lgT,?_,q2,?_,fun e he=>q4 e (List.mem_cons_of_mem _ he)⟩
    ·simp only[runD,k1,Option.bind_some,q1,Option.map_some]
    ·intro e he
     rcases List.mem_cons.1 he with rfl | he
     ·exact q4 _ List.mem_cons_self
     ·exact q3 e he
   simp only[segR] at h
   split at h
   ·rename_i hgd
    exact hgo (qbkv hgd) h
   ·rename_i j b hgd
    split at h
    ·rename_i hS
     exact hskip (qbgb hs hgd hS) h
    ·rename_i c hS
     have hg:=qbas hs hgd (.inl hS)
     split at h
     ·rename_i hcb
      subst hcb
      exact hgo (by simpa using hg) h
     ·rename_i hcb
      exact hskip (by rw[hg];simpa using hcb) h
    ·rename_i c hS
     split at h
     ·rename_i S2 lg2 rest2 hj
      obtain ⟨seg,i2,o2,T',lgT,e1,k1,k2,k3,k4,k5⟩:=qbpf (q6q (hints:=hints) n) hj hS hs βs
      have hrest2:∀ x∈rest2,qgt x.2=true:=fun x hx=>hl x (by rw[e1];simp[hx])
      obtain ⟨T1,lgT1,q1,q2,q3,q4⟩:=q6q (hints:=hints) n rest2 _ _ S1 lg1 h hrest2 _ k2 (βs.drop (seg.length+1))
      refine ⟨T1,lgT++lgT1,?_,q2,?_,fun e he=>q4 e (k4 e he)⟩
      ·rw[e1,qbku k1,q1];rfl
      ·intro e he
       rcases List.mem_append.1 he with he | he
       ·exact q4 e (k3 e he)
       ·exact q3 e he
     ·simp at h
    ·simp at h
theorem q0x {R:Type} {r:R} {hints:Hints} {id:Nat} {ops:Array Oper} {k:Log→St→Option R}:∀ (n:Nat) (l:List (Nat×Oper)) (S:St) (lg:Log),qom C D hints id ops n l S lg k=some r→∀ T,Sim S T→∀ βs,
  ∃ T1 lgT S1 lg1,runD C D hints id ops βs l T=some (T1,lgT)∧k lg1 S1=some r∧Sim S1 T1∧(∀ e∈lgT,e∈lg1)∧(∀ e∈lg,e∈lg1)
 | 0,l,S,lg,h=>by simp[qom] at h
 | n+1,[],S,lg,h=>by
  intro T hs βs
  simp only[qom] at h
  exact ⟨T,[],S,lg,rfl,h,hs,by simp,fun e he=>he⟩
 | n+1,(i,o)::rest,S,lg,h=>by
  intro T hs βs
  have hgo:∀ S,Sim S T→qgz ops T o=some true→((opAt C D S (id * 256+i+1) (hints.share.contains (id,i)) o).run fun x=>qom C D hints id ops n rest (fin ops ⟨S.sl,x.2⟩ i o x.1) (qh3 C ops S (id * 256+i+1) i o x.1 x.2::lg) k)=some r→
    ∃ T1 lgT S1 lg1,runD C D hints id ops βs ((i,o)::rest) T=some (T1,lgT)∧k lg1 S1=some r∧Sim S1 T1∧(∀ e∈lgT,e∈lg1)∧(∀ e∈lg,e∈lg1):=by
   intro S hs hg h
   obtain ⟨x,hx,h⟩:=Tr.run_dec (βs.headD true) _ h
   obtain ⟨k1,k2⟩:=qbpz (hints:=hints) (id:=id) hs hg hx
   obtain ⟨T1,lgT,S1,lg1,q1,q2,q3,q4,q5⟩:=q0x (hints:=hints) n rest _ _ h _ k2 βs.tail
   refine ⟨T1,qh3 C ops S (id * 256+i+1) i o x.1 x.2::lgT,S1,lg1,?_,q2,q3,?_,fun e he=>q5 e (List.mem_cons_of_mem _ he)⟩
   ·simp only[runD,k1,Option.bind_some,q1,Option.map_some]
   ·intro e he
    rcases List.mem_cons.1 he with rfl | he
    ·exact q5 _ List.mem_cons_self
    ·exact q4 e he
  have hskip:∀ S,Sim S T→qgz ops T o=some false→qom C D hints id ops n rest (fin ops S i o .skip) (qfv ops S (id * 256+i+1) i o::lg) k=some r→
    ∃ T1 lgT S1 lg1,runD C D hints id ops βs ((i,o)::rest) T=some (T1,lgT)∧k lg1 S1=some r∧Sim S1 T1∧(∀ e∈lgT,e∈lg1)∧(∀ e∈lg,e∈lg1):=by
   intro S hs hg h
   obtain ⟨k1,k2⟩:=qbk5 (C:=C) (D:=D) (hints:=hints) (id:=id) (β:=βs.headD true) hs hg
   obtain ⟨T1,lgT,S1,lg1,q1,q2,q3,q4,q5⟩:=q0x (hints:=hints) n rest _ _ h _ k2 βs.tail
   refine ⟨T1,qfv ops S (id * 256+i+1) i o::lgT,S1,lg1,?_,q2,q3,?_,fun e he=>q5 e (List.mem_cons_of_mem _ he)⟩
   ·simp only[runD,k1,Option.bind_some,q1,Option.map_some]
   ·intro e he
    rcases List.mem_cons.1 he with rfl | he
    ·exact q5 _ List.mem_cons_self
    ·exact q4 e he
  simp only[qom] at h
  split at h
  ·rename_i hgd
   exact hgo S hs (qbkv hgd) h
  ·rename_i j b hgd
   split at h
   ·rename_i hS
    exact hskip S hs (qbgb hs hgd hS) h
   ·rename_i c hS
    have hg:=qbas hs hgd (.inl hS)
    split at h
    ·rename_i hcb
     subst hcb
     exact hgo S hs (by simpa using hg) h
    ·rename_i hcb
     exact hskip S hs (by rw[hg];simpa using hcb) h
   ·rename_i c hS
    split at h
    ·rename_i S2 lg2 rest2 hj
     obtain ⟨seg,i2,o2,T',lgT,e1,k1,k2,k3,k4,k5⟩:=qbpf (q6q (hints:=hints) n) hj hS hs βs
     obtain ⟨T1,lgT1,S1,lg1,q1,q2,q3,q4,q5⟩:=q0x (hints:=hints) n rest2 _ _ h _ k2 (βs.drop (seg.length+1))
     refine ⟨T1,lgT++lgT1,S1,lg1,?_,q2,q3,?_,fun e he=>q5 e (k4 e he)⟩
     ·rw[e1,qbku k1,q1];rfl
     ·intro e he
      rcases List.mem_append.1 he with he | he
      ·exact q5 e (k3 e he)
      ·exact q4 e he
    ·have hg:=qbas hs hgd (.inr hS)
     have hsim:Sim (S.set (qfn ops j) (.litB c)) T:=by
      have hTt:T.get (qfn ops j)=.val .bool c:=by
       rcases hs.get (qfn ops j) with e | ⟨b,e1,_⟩
       ·rw[e];exact hS
       ·rw[hS] at e1;simp at e1
      refine ⟨hs.rt,by simp[St.set,hs.len],fun u=>?_⟩
      rw[St.get_set]
      by_cases e:u=qfn ops j∧qfn ops j<S.sl.length
      ·rw[if_pos e,e.1];exact .inr ⟨c,rfl,hTt⟩
      ·rw[if_neg e];exact hs.get u
     cases c with
     | true=>
      simp only[br] at h
      split at h
      ·rename_i hb;subst hb;exact hgo _ hsim (by simpa using hg) h
      ·rename_i hb;exact hskip _ hsim (by rw[hg];cases b<;>simp_all) h
     | false=>
      simp only[br] at h
      split at h
      ·rename_i hb;subst hb;exact hgo _ hsim (by simpa using hg) h
      ·rename_i hb;exact hskip _ hsim (by rw[hg];cases b<;>simp_all) h
   ·simp at h
end
theorem qbpx {h:Array Obj} {S T:St} (hs:Sim S T) {g:Ghost} {tmps:Array Value} {H:BS} (st:StRel h T g tmps H):StRel h S g tmps H:=by
 have hr:∀ r,S.root r=T.root r:=fun r=>by simp only[St.root,hs.rt]
 have hi:∀ {r},(S.root r).isSome→(T.root r).isSome:=fun {r} h=>by rw[←hr];exact h
 have he:∀ {r R},S.root r=some R→T.root r=some R:=fun {r R} h=>by rw[←hr];exact h
 have hl:S.sl.length=tmps.size:=by rw[←hs.len];exact st.len
 have hl2:S.rt.length=tmps.size:=by rw[←hs.rt];exact st.rlen
 refine ⟨hl,hl2,?_,fun r R hR=>st.roots r R (he hR),fun r r' hn h1 h2=>st.dis r r' hn (hi h1) (hi h2),fun r h1=>st.prot r (hi h1),fun r h1=>st.hand r (hi h1),st.handPr,st.limPr,fun r b h1=>st.limG r b (hi h1),st.limH,fun r R hR=>st.tag r R (he hR),fun r b h1=>st.own r b (hi h1),st.ownH,st.limL,st.p0,st.prL⟩
 intro t
 have:=st.slots t
 have h2:=qh.sameRoots (S':=S) st hs.rt.symm this
 rcases hs.get t with e | ⟨b,e1,e2⟩
 ·rw[e] at h2;exact h2
 ·rw[e2] at h2
  rw[e1]
  simp only[qh,Rep] at h2 ⊢
  obtain ⟨c,rfl,e⟩:=h2
  exact e
end Go.V

namespace Go.V
open Go
theorem q3c {h:Array Obj}:∀ (p:Path) (t:Ty) (c:List Value) (base:Base),atP h t c base (p.map Stp.zero)=atP h t c base p
 | [],t,c,base=>rfl
 | .fst::p,t,c,base=>by cases t<;>simp only[List.map_cons,Stp.zero,atP];exact q3c p _ _ _
 | .snd::p,t,c,base=>by cases t<;>simp only[List.map_cons,Stp.zero,atP];exact q3c p _ _ _
 | .idx i s::p,t,c,base=>by
  cases t<;>simp only[List.map_cons,Stp.zero,atP]
  split
  ·split
   ·exact q3c p _ _ _
   ·rfl
  ·rfl
theorem q3v:∀ (p:Path) (t:Ty) (x:t.den),inR t x (p.map Stp.zero)↔inR t x p
 | [],t,x=>Iff.rfl
 | .fst::p,t,x=>by cases t<;>simp only[List.map_cons,Stp.zero,inR];exact q3v p _ _
 | .snd::p,t,x=>by cases t<;>simp only[List.map_cons,Stp.zero,inR];exact q3v p _ _
 | .idx i s::p,t,x=>by
  cases t<;>simp only[List.map_cons,Stp.zero,inR]
  rw[q3v p]
theorem TagC.restamp {hd:Nat→Value}:∀ (t:Ty) {m:Mk} {c:List Value},TagC hd t m c→TagC hd t m.restamp c
 | .unit,_,_,_=>by simp only[TagC]
 | .int _,_,_,_=>by simp only[TagC]
 | .bool,_,_,_=>by simp only[TagC]
 | .str,_,_,_=>by simp only[TagC]
 | .pair a b,m,c,h=>by
  simp only[TagC] at h ⊢
  have h1:m.restamp.fst=m.fst.restamp:=by cases m<;>rfl
  have h2:m.restamp.snd=m.snd.restamp:=by cases m<;>rfl
  rw[h1,h2]
  exact ⟨TagC.restamp a h.1,TagC.restamp b h.2⟩
 | .sl t,m,c,h=>by
  cases m with
  | own s mi=>
   have hf:∀ m:Mk,m.tagFree=true→m.restamp.tagFree=true:=by
    intro m
    induction m with
    | no=>intro _;rfl
    | gone=>intro _;rfl
    | own s m ih=>
     intro h
     simp only[Mk.tagFree,Bool.and_eq_true,qgy] at h
     simp only[Mk.restamp,Mk.tagFree,Bool.and_eq_true,qgy]
     exact ⟨by rw[if_pos h.1];omega,ih h.2⟩
    | pr a b iha ihb=>
     intro h
     simp only[Mk.tagFree,Bool.and_eq_true] at h
     simp only[Mk.restamp,Mk.tagFree,Bool.and_eq_true]
     exact ⟨iha h.1,ihb h.2⟩
   simp only[Mk.restamp,TagC] at h ⊢
   refine ⟨fun h2=>?_,hf _ h.2⟩
   split at h2
   ·omega
   ·rename_i hn;rw[if_neg hn];exact h.1 h2
  | no=>simp only[Mk.restamp,TagC]
  | gone=>simp only[Mk.restamp,TagC]
  | pr _ _=>simp only[Mk.restamp,TagC]
theorem qbi9 {x:Option Root} {R':Root} (h:q0h x=some R'):∃ R,x=some R∧R'={ R with ms:=R.ms.restamp }:=by
 unfold q0h at h
 cases x with
 | none=>simp at h
 | some R=>
  simp only[Option.bind_some] at h
  split at h
  ·simp at h
  ·simp only[Option.some.injEq] at h;exact ⟨R,rfl,h.symm⟩
theorem qbhe (ment:List Nat):∀ (l:List (Option Root)) (i r:Nat),(qza ment i l).getD r none=if ment.contains (i+r) then q0h (l.getD r none) else none
 | [],i,r=>by simp[qza,q0h,List.getD]
 | x::l,i,r=>by
  simp only[qza]
  cases r with
  | zero=>simp only[List.getD_cons_zero,Nat.add_zero]
  | succ r=>
   simp only[List.getD_cons_succ]
   rw[qbhe ment l (i+1) r,show i+1+r=i+(r+1) by omega]
theorem qbd6 (ment:List Nat):∀ (l:List (Option Root)) (i:Nat),(qza ment i l).length=l.length
 | [],_=>rfl
 | x::l,i=>by simp[qza,qbd6 ment l]
theorem qbg7 (S:St) (keep:List Nat):∀ (l:List AV) (i t:Nat),(qy0 S keep i l).getD t .undef=if keep.contains (i+t) then (l.getD t .undef).canon S else .undef
 | [],i,t=>by simp[qy0,AV.canon,List.getD]
 | x::l,i,t=>by
  simp only[qy0]
  cases t with
  | zero=>simp only[List.getD_cons_zero,Nat.add_zero]
  | succ t=>
   simp only[List.getD_cons_succ]
   rw[qbg7 S keep l (i+1) t,show i+1+t=i+(t+1) by omega]
theorem qbdy (S:St) (keep:List Nat):∀ (l:List AV) (i:Nat),(qy0 S keep i l).length=l.length
 | [],_=>rfl
 | x::l,i=>by simp[qy0,qbdy S keep l]
section
variable {h:Array Obj} {S:St} {g:Ghost} {tmps:Array Value} {H:BS} (st:StRel h S g tmps H)
include st
theorem qw3 {keep extra:List Nat} {r:Nat} {R':Root} (hr:(S.canon keep extra).root r=some R'):∃ R,S.root r=some R∧R'={ R with ms:=R.ms.restamp }:=by
 simp only[St.canon,St.root,Rts.root] at hr
 rw[qbhe] at hr
 split at hr
 ·exact qbi9 hr
 ·simp at hr
theorem qbld {keep extra:List Nat} {r:Nat} {p:Path} {s:Nat} {v:Value} {t:Ty} {m:Mk} {xs:(Ty.sl t).den} (hf:S.rt.focus r p=some ⟨.sl t,.own s m,xs⟩) (x:q41 h S g r p s v) :
  q41 h (S.canon keep extra) g r (p.map Stp.zero) (if s<1048576 then 0 else s) v:=by
 obtain ⟨R,base,F,hR,hfR,hin,hat,_⟩:=q3o st hf rfl x
 intro R' hR' t' m' xs' hf'
 obtain ⟨R2,hR2,rfl⟩:=qw3 st hR'
 rw[hR] at hR2
 simp only[Option.some.injEq] at hR2
 subst hR2
 exact ⟨(q3v p _ _).2 hin,base,by rw[q3c];exact hat⟩
theorem qbql {keep extra:List Nat} {r:Nat} {p:Path} {v:Value} {d:Dy} (hf:S.rt.focus r p=some d) (x:q60 h S g r p v):q60 h (S.canon keep extra) g r (p.map Stp.zero) v:=by
 simp only[Rts.focus] at hf
 split at hf
 ·rename_i R hR
  obtain ⟨hin,b,o,c,hat,e⟩:=x R hR d hf
  intro R' hR' d' hf'
  obtain ⟨R2,hR2,rfl⟩:=qw3 st hR'
  have:R=R2:=by
   have h1:S.root r=some R:=hR
   rw[h1] at hR2
   simpa using hR2
  subst this
  exact ⟨(q3v p _ _).2 hin,b,o,c,by rw[q3c];exact hat,e⟩
 ·simp at hf
theorem qbg9 {keep extra:List Nat}:∀ {a:AV} {c:List Value},AVC h S g a c→AVC h (S.canon keep extra) g (a.canon S) c
 | .undef,_,_=>by simp only[AV.canon,AVC]
 | .unit,_,y=>y
 | .val t x,_,y=>y
 | .brw r p s,c,y=>by
  simp only[AVC] at y
  obtain ⟨v,rfl,y⟩:=y
  simp only[AV.canon]
  split
  ·rename_i t s' m xs hf
   split
   ·rename_i hs;subst hs
    simp only[AVC]
    exact ⟨v,rfl,qbld st hf y⟩
   ·simp only[AVC]
  ·simp only[AVC]
 | .pair a b,c,y=>by
  simp only[AVC] at y
  obtain ⟨ca,cb,rfl,y1,y2⟩:=y
  simp only[AV.canon,AVC]
  exact ⟨ca,cb,rfl,qbg9 y1,qbg9 y2⟩
 | .skip,_,y=>y.elim
 | .litB _,_,y=>y.elim
 | .nils,_,y=>y.elim
 | .view _ _ _ _ _,_,y=>y.elim
 | .addr _ _,_,y=>y.elim
 | .raddr _ _,_,y=>y.elim
 | .tup _,_,y=>y.elim
 | .clo _ _,_,y=>y.elim
 | .cloV _,_,y=>y.elim
theorem qbwh {keep extra:List Nat}:∀ (a:AV),(∀ v,qh h S g a v→qh h (S.canon keep extra) g (a.canon S) v)∧(∀ vs,TupRel h S g a vs→TupRel h (S.canon keep extra) g (a.canon S) vs):=by
 intro a
 induction a with
 | undef=>exact ⟨fun _ _=>by simp only[AV.canon,qh],fun _ y=>by simp only[TupRel] at y⟩
 | skip=>exact ⟨fun _ y=>y,fun _ y=>by simp only[TupRel] at y⟩
 | litB b=>exact ⟨fun _ y=>y,fun _ y=>by simp only[TupRel] at y⟩
 | unit=>exact ⟨fun _ y=>y,fun _ y=>y⟩
 | nils=>exact ⟨fun _ y=>y,fun _ y=>by simp only[TupRel] at y⟩
 | val t x=>exact ⟨fun _ y=>y,fun _ y=>by simp only[TupRel] at y⟩
 | brw r p s=>
  refine ⟨fun v y=>?_,fun _ y=>by simp only[TupRel] at y⟩
  simp only[qh] at y
  simp only[AV.canon]
  split
  ·rename_i t s' m xs hf
   split
   ·rename_i hs;subst hs
    simp only[qh]
    exact qbld st hf y
   ·simp only[qh]
  ·simp only[qh]
 | view r p s lo hi=>exact ⟨fun _ _=>by simp only[AV.canon,qh],fun _ y=>by simp only[TupRel] at y⟩
 | addr r p=>
  refine ⟨fun v y=>?_,fun _ y=>by simp only[TupRel] at y⟩
  simp only[qh] at y
  simp only[AV.canon]
  split
  ·rename_i d hf
   simp only[qh]
   exact qbql st hf y
  ·simp only[qh]
 | raddr t x=>exact ⟨fun _ y=>y,fun _ y=>by simp only[TupRel] at y⟩
 | pair a b iha ihb=>
  refine ⟨fun v y=>?_,fun vs y=>?_⟩
  ·simp only[qh] at y
   obtain ⟨ca,cb,e,y1,y2⟩:=y
   simp only[AV.canon,qh]
   exact ⟨ca,cb,e,qbg9 st y1,qbg9 st y2⟩
  ·simp only[TupRel] at y
   obtain ⟨v,vs',e,y1,y2⟩:=y
   simp only[AV.canon,TupRel]
   exact ⟨v,vs',e,iha.1 v y1,ihb.2 vs' y2⟩
 | tup a iha=>exact ⟨fun _ _=>by simp only[AV.canon,qh],fun _ y=>by simp only[TupRel] at y⟩
 | clo f a iha=>
  refine ⟨fun v y=>?_,fun _ y=>by simp only[TupRel] at y⟩
  simp only[qh] at y
  obtain ⟨vs,e,y⟩:=y
  simp only[AV.canon,qh]
  exact ⟨vs,e,iha.2 vs y⟩
 | cloV c=>exact ⟨fun _ y=>y,fun _ y=>by simp only[TupRel] at y⟩
theorem qbe6 (keep extra:List Nat):StRel h (S.canon keep extra) g tmps H:=by
 have hs:∀ r,((S.canon keep extra).root r).isSome→(S.root r).isSome:=by
  intro r h1
  obtain ⟨R',hR'⟩:=Option.isSome_iff_exists.1 h1
  obtain ⟨R,hR,_⟩:=qw3 st hR'
  rw[hR];rfl
 refine ⟨?_,?_,?_,?_,fun r r' hn h1 h2=>st.dis r r' hn (hs r h1) (hs r' h2),fun r h1=>st.prot r (hs r h1),fun r h1=>st.hand r (hs r h1),st.handPr,st.limPr,fun r b h1=>st.limG r b (hs r h1),st.limH,?_,fun r b h1=>st.own r b (hs r h1),st.ownH,st.limL,st.p0,st.prL⟩
 ·simp only[St.canon];rw[qbdy];exact st.len
 ·simp only[St.canon];rw[qbd6];exact st.rlen
 ·intro t
  simp only[St.get,St.canon]
  rw[qbg7]
  split
  ·exact (qbwh st _).1 _ (st.slots t)
  ·simp only[qh]
 ·intro r R' hR'
  obtain ⟨R,hR,rfl⟩:=qw3 st hR'
  obtain ⟨F,q1,q2⟩:=st.roots r R hR
  exact ⟨F,(Rep.restamp R.ty).1 q1,q2⟩
 ·intro r R' hR'
  obtain ⟨R,hR,rfl⟩:=qw3 st hR'
  exact TagC.restamp _ (st.tag r R hR)
end
end Go.V

namespace Go.V
open Go
def Ex.out:Ex→Exit
 | .normal=>.normal
 | .exit id=>.exit id
 | .ret=>.ret
theorem q6w {ops:Array Oper}:∀ x∈qf0 ops,ops[x.1]? = some x.2:=by
 intro x hx
 simp only[qf0,List.mem_map] at hx
 obtain ⟨y,hy,rfl⟩:=hx
 have:=List.mem_zipIdx_iff_getElem?.1 hy
 simpa using this
theorem q2s {ops:Array Oper}:(qf0 ops).map (·.1)=List.range ops.size:=by
 simp only[qf0,List.map_map]
 apply List.ext_getElem?
 intro i
 simp only[List.getElem?_map,List.getElem?_zipIdx,List.getElem?_range']
 by_cases h:i<ops.size
 ·simp[h]
 ·simp[h]
theorem qbkr {ops:Array Oper} (h:q4f ops=true):∀ (i:Nat) o j c,ops[i]? = some o→o.guard=some (j,c)→∃ oj t,ops[j]? = some oj∧oj.dst=some t:=by
 intro i o j c ho hg
 simp only[q4f,List.all_eq_true] at h
 have:=h o (by rw[Array.mem_toList_iff];exact Array.mem_of_getElem? ho)
 rw[hg] at this
 simp only[Option.isSome_iff_exists,Option.bind_eq_some_iff] at this
 obtain ⟨t,oj,h1,h2⟩:=this
 exact ⟨oj,t,h1,h2⟩
theorem qbmx {np:List Nat} {ops:Array Oper} (h:q25 np ops=true):∀ x∈qf0 ops,∀ d,x.2.dst=some d→d∉np:=by
 intro x hx d hd
 simp only[q25,List.all_eq_true] at h
 have:=h x.2 (by rw[Array.mem_toList_iff];exact Array.mem_of_getElem? (q6w x hx))
 rw[hd] at this
 simpa using this
section
variable {P:Program} {C:Ctx} {D:Den C} (hty:qcz P C) (dok:DOk P C D)
include hty dok
def Goes (np:List Nat) (P:Program) (C:Ctx) (Q:Exit→Act→World→Prop) {R:Type} (r:R) (c:Code) (S:St) (k:Ex→St→Option R) (g:Ghost) (a:Act) (w:World):Prop:=
 StRel w.heap S g a.tmps Nil→a.defers=[]→(∀ e S' g' a' w',k e S'=some r→StRel w'.heap S' g' a'.tmps Nil→g'.Same g→WFr g.L w w'→a'.defers=[]→qti np a a'→Q e.out a' w')→c.wp P Q a w
theorem qbr7 {np:List Nat} {R:Type} {r:R} {H:Hints} {id:Nat} {ops:Array Oper} {S:St} {k:Ex→St→Option R} {Q:Exit→Act→World→Prop} {g:Ghost} {a:Act} {w:World} {n:Nat}
  (hnp:q25 np ops=true) (h:exec C D H n (.region id ops false) S k=some r):Goes np P C Q r (.region id ops false) S k g a w:=by
 intro st hdf hQ
 simp only[exec] at h
 split at h
 ·rename_i hgd
  have hR:=fun βs=>q0x (hints:=H) _ _ _ _ h S (Sim.refl S) βs
  refine wp_region ?_
  rw[←q2s]
  refine qbrl (hints:=H) (id:=id) hty dok (qbkr hgd) (qf0 ops) S g a w q6w (qbmx hnp) st hdf (fun βs=>?_) ?_
  ·obtain ⟨T1,lgT,S1,lg1,q1,_⟩:=hR βs
   exact ⟨_,q1⟩
  ·intro βs S' lg a' w' g' hr st' hsm hfr hdf' hfx
   obtain ⟨T1,lgT,S1,lg1,q1,q2,q3,_⟩:=hR βs
   rw[hr] at q1
   simp only[Option.some.injEq,Prod.mk.injEq] at q1
   obtain ⟨rfl,rfl⟩:=q1
   simp only[Bool.false_eq_true,if_false] at q2
   exact hQ .normal S1 g' a' w' q2 (qbpx q3 st') hsm hfr hdf' hfx
 ·simp at h
end
end Go.V

namespace Go.V
open Go
section
variable {C:Ctx} {D:Den C} {A:Asks} {S:Rts} {site:Nat} {hint:Bool}
theorem qbk4 {ρ ρ':Operand→AV} {ps:Array (Nat×Operand)} (h:∀ x∈(ps.toList.map (·.2)).toArray,ρ' x=ρ x):(ps.toList.map fun p=>(p.1,ρ' p.2))=ps.toList.map fun p=>(p.1,ρ p.2):=by
 apply List.map_congr_left
 intro p hp
 rw[h p.2 (by simp only[List.mem_toArray,List.mem_map];exact ⟨p,hp,rfl⟩)]
theorem qbnn {ρ ρ':Operand→AV} (o:Oper) (h:∀ x∈o.op.operands,ρ' x=ρ x):opT C D A ρ' S site hint o=opT C D A ρ S site hint o:=by
 cases ho:o.op with
 | build t ps=>
  rw[ho] at h;simp only[Op.operands] at h
  simp only[opT,ho];rw[qbk4 h]
 | buildSlice t n ps=>
  rw[ho] at h;simp only[Op.operands] at h
  simp only[opT,ho];rw[qbk4 h]
 | makeFunc f first caps=>
  rw[ho] at h;simp only[Op.operands] at h
  simp only[opT,ho]
  cases f with
  | func f=>
   have:caps.toList.foldr (fun x r=>AV.pair (ρ' x) r) .unit=caps.toList.foldr (fun x r=>AV.pair (ρ x) r) .unit:=by
    have hc:∀ x∈caps.toList,ρ' x=ρ x:=fun x hx=>h x (by simp at hx ⊢;exact .inr hx)
    revert hc
    generalize caps.toList=l
    intro hc
    induction l with
    | nil=>rfl
    | cons y l ih=>simp only[List.foldr_cons];rw[hc y List.mem_cons_self,ih (fun x hx=>hc x (List.mem_cons_of_mem _ hx))]
   simp only[this]
  | _=>rfl
 | slice t x lo hi mx=>
  rw[ho] at h;simp only[Op.operands] at h
  cases mx with
  | some v=>simp only[opT,ho]
  | none=>
   simp only[opT,ho]
   have h1:ρ' x=ρ x:=h x (by simp)
   have h2:lo.map ρ'=lo.map ρ:=by cases lo with
    | none=>rfl
    | some v=>simp only[Option.map_some];rw[h v (by simp)]
   have h3:hi.map ρ'=hi.map ρ:=by cases hi with
    | none=>rfl
    | some v=>simp only[Option.map_some];rw[h v (by simp)]
   rw[h1,h2,h3]
 | call c=>
  rw[ho] at h;simp only[Op.operands] at h
  have ha:c.args.toList.map ρ'=c.args.toList.map ρ:=List.map_congr_left fun x hx=>h x (by simp only[Call.operands,Array.mem_append];right;simpa using hx)
  simp only[opT,ho]
  rw[ha]
  cases hc:c.callee with
  | builtin b=>rfl
  | value f=>
   have:ρ' f=ρ f:=h f (by simp[Call.operands,hc])
   simp only[this]
  | invoke r m=>rfl
 | pick c a b=>rw[ho] at h;simp only[Op.operands] at h;simp only[opT,ho];rw[h c (by simp),h a (by simp),h b (by simp)]
 | store t a b=>rw[ho] at h;simp only[Op.operands] at h;simp only[opT,ho];rw[h a (by simp),h b (by simp)]
 | binOp op t a b t2=>rw[ho] at h;simp only[Op.operands] at h;simp only[opT,ho];rw[h a (by simp),h b (by simp)]
 | makeSlice t a b=>rw[ho] at h;simp only[Op.operands] at h;simp only[opT,ho];rw[h a (by simp),h b (by simp)]
 | indexAddr t a b=>rw[ho] at h;simp only[Op.operands] at h;simp only[opT,ho];rw[h a (by simp),h b (by simp)]
 | index t a b=>rw[ho] at h;simp only[Op.operands] at h;simp only[opT,ho];rw[h a (by simp),h b (by simp)]
 | move x=>rw[ho] at h;simp only[Op.operands] at h;simp only[opT,ho];rw[h x (by simp)]
 | assign x=>rw[ho] at h;simp only[Op.operands] at h;simp only[opT,ho];rw[h x (by simp)]
 | box t x=>rw[ho] at h;simp only[Op.operands] at h;simp only[opT,ho];rw[h x (by simp)]
 | load t x=>rw[ho] at h;simp only[Op.operands] at h;simp only[opT,ho];rw[h x (by simp)]
 | nilCheck x=>rw[ho] at h;simp only[Op.operands] at h;simp only[opT,ho];rw[h x (by simp)]
 | unOp op t x=>rw[ho] at h;simp only[Op.operands] at h;simp only[opT,ho];rw[h x (by simp)]
 | convert s d x=>rw[ho] at h;simp only[Op.operands] at h;simp only[opT,ho];rw[h x (by simp)]
 | fieldAddr s x f=>rw[ho] at h;simp only[Op.operands] at h;simp only[opT,ho];rw[h x (by simp)]
 | field s x f=>rw[ho] at h;simp only[Op.operands] at h;simp only[opT,ho];rw[h x (by simp)]
 | extract x i=>rw[ho] at h;simp only[Op.operands] at h;simp only[opT,ho];rw[h x (by simp)]
 | _=>simp only[opT,ho]
theorem qbti {ρ ρ':Operand→AV} (o:Oper) (h:∀ x∈o.op.operands,ρ' x=ρ x):wrOf C ρ' o=wrOf C ρ o:=by
 have hall:o.op.operands.toList.map ρ'=o.op.operands.toList.map ρ:=List.map_congr_left fun x hx=>h x (by simpa using hx)
 unfold wrOf
 rw[hall]
 cases ho:o.op with
 | assign x=>rw[ho] at h;simp only[Op.operands] at h;simp only[h x (by simp)]
 | call c=>
  rw[ho] at h;simp only[Op.operands] at h
  have ha:c.args.toList.map ρ'=c.args.toList.map ρ:=List.map_congr_left fun x hx=>h x (by simp only[Call.operands,Array.mem_append];right;simpa using hx)
  simp only
  rw[ha]
  cases hc:c.callee with
  | builtin b=>cases b<;>rfl
  | value f=>
   have:ρ' f=ρ f:=h f (by simp[Call.operands,hc])
   simp only[this]
  | invoke r m=>rfl
 | _=>rfl
theorem qbrt {ρ ρ':Operand→AV} (o:Oper) (h:∀ x∈o.op.operands,ρ' x=ρ x):qtj C ρ' o=qtj C ρ o:=by
 unfold qtj
 cases ho:o.op with
 | call c=>
  rw[ho] at h;simp only[Op.operands] at h
  have ha:c.args.toList.map ρ'=c.args.toList.map ρ:=List.map_congr_left fun x hx=>h x (by simp only[Call.operands,Array.mem_append];right;simpa using hx)
  simp only
  rw[ha]
  cases hc:c.callee with
  | builtin b=>cases b<;>rfl
  | value f=>
   have:ρ' f=ρ f:=h f (by simp[Call.operands,hc])
   simp only[this]
  | invoke r m=>rfl
 | slice t x lo hi mx=>cases mx<;>rfl
 | _=>rfl
def qb6 (F:List Nat) (S S':Rts):Prop:=∀ r,r∈F→S'.root r=S.root r
theorem qb6.sub {F G:List Nat} {S S':Rts} (h:qb6 F S S') (hs:∀ r∈G,r∈F):qb6 G S S':=fun r hr=>h r (hs r hr)
theorem qj5 {F:List Nat} {S S':Rts} (h:qb6 F S S') {r:Nat} (hr:r∈F) (p:Path):S'.focus r p=S.focus r p:=by
 simp only[Rts.focus,h r hr]
theorem q34 {S S':Rts}:∀ (t:Ty) (a:AV),qb6 a.roots S S'→rd S' t a=rd S t a
 | t,.pair u v,h=>by
  cases t with
  | pair a b=>
   simp only[rd]
   rw[q34 a u (h.sub fun r hr=>by simp[AV.roots,hr]),q34 b v (h.sub fun r hr=>by simp[AV.roots,hr])]
  | _=>simp[rd]
 | t,.brw r p s,h=>by
  cases t with
  | sl e=>simp only[rd];rw[qj5 h (by simp[AV.roots])]
  | _=>simp[rd]
 | t,.val t' x,h=>by cases t<;>simp only[rd]
 | t,.undef,h=>by cases t<;>simp[rd]
 | t,.skip,h=>by cases t<;>simp[rd]
 | t,.litB b,h=>by cases t<;>simp[rd]
 | t,.unit,h=>by cases t<;>simp[rd]
 | t,.nils,h=>by cases t<;>simp[rd]
 | t,.view _ _ _ _ _,h=>by cases t<;>simp[rd]
 | t,.addr _ _,h=>by cases t<;>simp[rd]
 | t,.raddr _ _,h=>by cases t<;>simp[rd]
 | t,.tup _,h=>by cases t<;>simp[rd]
 | t,.clo _ _,h=>by cases t<;>simp[rd]
 | t,.cloV _,h=>by cases t<;>simp[rd]
theorem q2w {S S':Rts}:∀ (a:AV),qb6 a.roots S S'→qeg S' a=qeg S a
 | .pair (.addr r p) rest,h=>by
  simp only[qeg]
  rw[qj5 h (by simp[AV.roots]),q2w rest (h.sub fun r hr=>by simp[AV.roots,hr])]
 | .pair (.raddr t x) rest,h=>by simp only[qeg];rw[q2w rest (h.sub fun r hr=>by simp[AV.roots,hr])]
 | .pair (.val t x) rest,h=>by simp only[qeg];rw[q2w rest (h.sub fun r hr=>by simp[AV.roots,hr])]
 | .unit,h=>rfl
 | .pair .undef _,h=>rfl
 | .pair .skip _,h=>rfl
 | .pair (.litB _) _,h=>rfl
 | .pair .unit _,h=>rfl
 | .pair .nils _,h=>rfl
 | .pair (.brw _ _ _) _,h=>rfl
 | .pair (.view _ _ _ _ _) _,h=>rfl
 | .pair (.pair _ _) _,h=>rfl
 | .pair (.tup _) _,h=>rfl
 | .pair (.clo _ _) _,h=>rfl
 | .pair (.cloV _) _,h=>rfl
 | .undef,h=>rfl
 | .skip,h=>rfl
 | .litB _,h=>rfl
 | .nils,h=>rfl
 | .val _ _,h=>rfl
 | .brw _ _ _,h=>rfl
 | .view _ _ _ _ _,h=>rfl
 | .addr _ _,h=>rfl
 | .raddr _ _,h=>rfl
 | .tup _,h=>rfl
 | .clo _ _,h=>rfl
 | .cloV _,h=>rfl
theorem q3q {a:AV} {l:List AV} (h:a∈l):∀ r∈a.roots,r∈qo l:=by
 induction l with
 | nil=>simp at h
 | cons b l ih=>
  intro r hr
  simp only[qo,List.mem_append]
  rcases List.mem_cons.1 h with rfl | h
  ·exact .inl hr
  ·exact .inr (ih h r hr)
theorem q5k (l l2:List AV):∀ r,r∈qo (l++l2)↔r∈qo l∨r∈qo l2:=by
 intro r
 induction l with
 | nil=>simp[qo]
 | cons a l ih=>simp only[List.cons_append,qo,List.mem_append,ih,or_assoc]
theorem q4s:∀ (a:AV),∀ r∈qo (qic a),r∈a.roots
 | .pair a b,r,h=>by
  simp only[qic,qo,List.mem_append] at h
  simp only[AV.roots,List.mem_append]
  exact h.imp id (q4s b r)
 | .undef,r,h=>by simp[qic,qo] at h
 | .skip,r,h=>by simp[qic,qo] at h
 | .litB _,r,h=>by simp[qic,qo] at h
 | .unit,r,h=>by simp[qic,qo] at h
 | .nils,r,h=>by simp[qic,qo] at h
 | .val _ _,r,h=>by simp[qic,qo] at h
 | .brw _ _ _,r,h=>by simp[qic,qo] at h
 | .view _ _ _ _ _,r,h=>by simp[qic,qo] at h
 | .addr _ _,r,h=>by simp[qic,qo] at h
 | .raddr _ _,r,h=>by simp[qic,qo] at h
 | .tup _,r,h=>by simp[qic,qo] at h
 | .clo _ _,r,h=>by simp[qic,qo] at h
 | .cloV _,r,h=>by simp[qic,qo] at h
theorem qg0 {S S':Rts}:∀ (ks:List PK) (avs:List AV) (g:GDen ks) (o:ODen ks),qb6 (qo avs) S S'→qcr S' ks avs g o=qcr S ks avs g o
 | [],[],_,_,_=>rfl
 | [],_::_,_,_,_=>rfl
 | k::ks,[],g,o,_=>by cases k<;>rfl
 | k::ks,a::avs,g,o,h=>by
  have h1:qb6 a.roots S S':=h.sub fun r hr=>by simp[qo,hr]
  have h2:qb6 (qo avs) S S':=h.sub fun r hr=>by simp[qo,hr]
  cases k with
  | val t=>simp only[qcr];rw[q34 t a h1,qg0 ks avs g o h2]
  | own t m=>simp only[qcr];rw[qg0 ks avs g.2 o h2]
  | mutp t m m'=>simp only[qcr];rw[qg0 ks avs g o.2 h2]
  | mutv t m m'=>simp only[qcr];rw[qg0 ks avs g o.2 h2]
  | rptr t=>
   cases a with
   | raddr t' x=>simp only[qcr];rw[qg0 ks avs g o h2]
   | addr q p=>simp only[qcr];rw[qj5 h1 (by simp[AV.roots]),qg0 ks avs g o h2]
   | _=>rfl
  | fn=>
   cases a with
   | clo f c=>simp only[qcr];rw[q2w c (h1.sub fun r hr=>by simpa [AV.roots] using hr),qg0 ks avs g o h2]
   | cloV c=>simp only[qcr];rw[qg0 ks avs g o h2]
   | _=>rfl
theorem qbel {S S':Rts}:∀ (ts:List Ty) (avs:List AV),qb6 (qo avs) S S'→qwv S' ts avs=qwv S ts avs
 | [],[],_=>rfl
 | [],_::_,_=>rfl
 | _::_,[],_=>rfl
 | t::ts,a::avs,h=>by
  simp only[qwv]
  rw[q34 t a (h.sub fun r hr=>by simp[qo,hr]),qbel ts avs (h.sub fun r hr=>by simp[qo,hr])]
theorem qbek {S S':Rts} (a:AV) (h:qb6 a.roots S S'):qwz S' a=qwz S a:=by
 cases a with
 | brw r p s=>simp only[qwz];rw[qj5 h (by simp[AV.roots])]
 | val t x=>cases t<;>rfl
 | _=>rfl
end
end Go.V

namespace Go.V
open Go
section
variable {C:Ctx} {D:Den C}
theorem qbmp {S S':Rts} (t:Ty) (a:AV) (h:qb6 a.roots S S'):qo1 S' t a=qo1 S t a:=by
 cases a with
 | addr r p=>simp only[qo1];rw[qj5 h (by simp[AV.roots])]
 | _=>rfl
theorem qbh8 {S S':Rts} (t:Ty) (a:AV) (f:Nat) (h:qb6 a.roots S S'):qj2 S' t a f=qj2 S t a f:=by
 cases a with
 | addr r p=>simp only[qj2];rw[qj5 h (by simp[AV.roots])]
 | _=>rfl
theorem qbn8 {S S':Rts} (t:Ty) (a i:AV) (h:qb6 a.roots S S'):qbaz S' t a i=qbaz S t a i:=by
 cases a with
 | brw r p s=>simp only[qbaz];rw[qj5 h (by simp[AV.roots])]
 | val t x=>cases t<;>rfl
 | _=>rfl
def qk (T T':Tr (AV×Rts)) (S S':Rts):Prop:=∀ β v rt',T.dec β=some (v,rt')→rt'=S∧T'.dec β=some (v,S')
theorem qk.ret {v:AV} {S S':Rts}:qk (.ret (v,S)) (.ret (v,S')) S S':=by
 intro β v' rt' h
 simp only[Tr.dec,Option.some.injEq,Prod.mk.injEq] at h
 exact ⟨h.2.symm,by simp[Tr.dec,h.1]⟩
theorem qk.fail {T':Tr (AV×Rts)} {S S':Rts}:qk .fail T' S S':=by
 intro β v' rt' h;simp[Tr.dec] at h
theorem qk.br {c:Bool} {x y x' y':Tr (AV×Rts)} {S S':Rts} (h1:qk x x' S S') (h2:qk y y' S S'):qk (.br c x y) (.br c x' y') S S':=by
 intro β v rt' h
 cases c
 ·exact h2 β v rt' h
 ·exact h1 β v rt' h
theorem qk.nil {n:Nat} {b:Bool} {f:Bool→AV} {S S':Rts}:qk (.nil n b fun b=>.ret (f b,S)) (.nil n b fun b=>.ret (f b,S')) S S':=by
 intro β v rt' h
 simp only[Tr.dec,Option.some.injEq,Prod.mk.injEq] at h ⊢
 exact ⟨h.2.symm,h.1,trivial⟩
theorem qk.ofMap {α:Type} {x:Option α} {f:α→AV} {S S':Rts}:qk (.of (x.map fun a=>(f a,S))) (.of (x.map fun a=>(f a,S'))) S S':=by
 cases x with
 | none=>exact qk.fail
 | some a=>exact qk.ret
theorem qk.call {α:Type} {x:Option α} {f f':α→Tr (AV×Rts)} {S S':Rts} (h:∀ a,qk (f a) (f' a) S S'):qk (.call x f) (.call x f') S S':=by
 intro β v rt' hh
 cases x with
 | none=>simp[Tr.dec] at hh
 | some a=>exact h a β v rt' hh
theorem qsv {S S':Rts}:∀ (ks:List PK) (avs:List AV),ks.all PK.plain=true→qbf S' ks avs=(qbf S ks avs).map fun z=>(z.1,S')
 | [],[],_=>rfl
 | [],_::_,_=>rfl
 | k::ks,[],_=>by cases k<;>rfl
 | k::ks,a::avs,h=>by
  simp only[List.all_cons,Bool.and_eq_true] at h
  cases k with
  | val t=>simp only[qbf];exact qsv ks avs h.2
  | rptr t=>simp only[qbf];exact qsv ks avs h.2
  | fn=>simp only[qbf];exact qsv ks avs h.2
  | _=>simp[PK.plain] at h
theorem qp8 {S S':Rts}:∀ (ks:List PK) (avs:List AV),ks.all PK.plain=true→qbd S' ks avs=(qbd S ks avs).map fun z=>(z.1,S')
 | [],[],_=>rfl
 | [],_::_,_=>rfl
 | k::ks,[],_=>by cases k<;>rfl
 | k::ks,a::avs,h=>by
  simp only[List.all_cons,Bool.and_eq_true] at h
  cases k with
  | val t=>simp only[qbd];exact qp8 ks avs h.2
  | rptr t=>simp only[qbd];exact qp8 ks avs h.2
  | fn=>simp only[qbd];exact qp8 ks avs h.2
  | _=>simp[PK.plain] at h
theorem qbsy {S rt:Rts} {ks:List PK} {avs:List AV} {g:GDen ks} (hp:ks.all PK.plain=true) (h:qbf S ks avs=some (g,rt)):rt=S:=by
 have:=qsv (S:=S) (S':=S) ks avs hp
 rw[h] at this
 simp only[Option.map_some,Option.some.injEq,Prod.mk.injEq,true_and] at this
 exact this
theorem qbqx {S rt:Rts} {ks:List PK} {avs:List AV} {g:ODen ks} (hp:ks.all PK.plain=true) (h:qbd S ks avs=some (g,rt)):rt=S:=by
 have:=qp8 (S:=S) (S':=S) ks avs hp
 rw[h] at this
 simp only[Option.map_some,Option.some.injEq,Prod.mk.injEq,true_and] at this
 exact this
theorem qbtn {A A':Asks} {S S':Rts} (hl:S'.length=S.length) {d:Option Nat} {site:Nat} {t:Ty} {m:Mk} {x:t.den} (hs:m.still=true):qk (layT A S d site t m x false) (layT A' S' d site t m x false) S S':=by
 cases d with
 | none=>exact qk.ret
 | some d=>
  simp only[layT,hs,if_true,Bool.false_eq_true,if_false,hl]
  split
  ·exact qk.fail
  ·exact qk.ret
theorem qbd0:∀ (rs:List RK),rs.all (fun k=>!k.isPtr&&k.ms.still)=true→(qlx rs).still=true
 | [],_=>rfl
 | k::rs,h=>by
  simp only[List.all_cons,Bool.and_eq_true] at h
  simp only[qlx,Mk.still,Bool.and_eq_true]
  exact ⟨h.1.2,qbd0 rs h.2⟩
theorem qbo1 {A A':Asks} (hA:A'.sh=A.sh) {S S':Rts} (hl:S'.length=S.length) {d:Option Nat} {site:Nat}:∀ (rs:List RK) (r:RDen rs),rs.all (fun k=>!k.isPtr&&k.ms.still)=true→qk (qes A S d site rs r) (qes A' S' d site rs r) S S'
 | [],r,_=>qk.ret
 | [.val t m],r,h=>by
  simp only[List.all_cons,Bool.and_eq_true] at h
  simp only[qes,hA]
  split
  ·split
   ·exact qk.ret
   ·exact qk.fail
  ·split
   ·exact qbtn hl h.1.2
   ·exact qk.fail
 | [.ptr t m],r,h=>by simp[RK.isPtr] at h
 | q1::q2::rs,r,h=>by
  have e1:∀ (A:Asks) (S:Rts),qes A S d site (q1::q2::rs) r=qtp A S d site (q1::q2::rs) r:=by intro A S;cases q1<;>rfl
  rw[e1,e1]
  unfold qtp
  split
  ·cases d with
   | none=>exact qk.ret
   | some d=>
    have hs:=qbd0 _ h
    have e2:∀ (A:Asks) (S:Rts),layT A S (some d) site (qdw (q1::q2::rs)) (qlx (q1::q2::rs)) (resX (q1::q2::rs) r) false =
      if (!Nat.blt d S.length||!Nat.blt site 1048576)=true then .fail else .ret (.val (qdw (q1::q2::rs)) (resX (q1::q2::rs) r),S):=by
     intro A S;simp only[layT,hs,if_true,Bool.false_eq_true,if_false]
    simp only[e2,hl]
    by_cases hc:(!Nat.blt d S.length||!Nat.blt site 1048576)=true
    ·simp only[if_pos hc];exact qk.fail
    ·simp only[if_neg hc];exact qk.ret
  ·exact qk.fail
theorem qbrk {A A':Asks} (hA:A'.sh=A.sh) {S S':Rts} (hl:S'.length=S.length) {d:Option Nat} {site:Nat} {g:FuncId} {avs:List AV} (hq:qbfh (C.sig g)=true) (hr:qb6 (qo avs) S S') :
  qk (qr4 C D A S d site g avs) (qr4 C D A' S' d site g avs) S S':=by
 unfold qbfh at hq
 simp only[Bool.and_eq_true] at hq
 unfold qr4
 rw[qsv (S:=S) (S':=S') _ _ hq.1]
 cases h1:qbf S (C.sig g).params avs with
 | none=>exact qk.fail
 | some z=>
  obtain ⟨gd,S1⟩:=z
  obtain rfl:=qbsy hq.1 h1
  simp only[Option.map_some]
  rw[qp8 (S:=S1) (S':=S') _ _ hq.1]
  cases h2:qbd S1 (C.sig g).params avs with
  | none=>exact qk.fail
  | some z=>
   obtain ⟨od,S2⟩:=z
   obtain rfl:=qbqx hq.1 h2
   simp only[Option.map_some]
   rw[qg0 _ _ _ _ hr]
   cases h3:qcr S2 (C.sig g).params avs gd od with
   | none=>exact qk.fail
   | some aa=>
    simp only
    split
    ·refine qk.call fun r=>?_
     have hn:(C.sig g).params.all (fun k=>!k.lends)=true:=by
      rw[List.all_eq_true] at hq ⊢
      intro k hk
      have:=hq.1 k hk
      cases k<;>simp_all [PK.plain,PK.lends]
     simp only[hn,if_true]
     exact qbo1 hA hl _ _ hq.2
    ·exact qk.fail
theorem qbrz {A A':Asks} {ρ:Operand→AV} {S S':Rts} {site:Nat} {hint:Bool} {o:Oper} (hl:S'.length=S.length) (hw:wrOf C ρ o=none)
    (hr:qb6 (if qik o then [] else qo (o.op.operands.toList.map ρ)) S S'):qk (opT C D A ρ S site hint o) (opT C D A' ρ S' site hint o) S S':=by
  have ha:∀ {x:Operand},qik o=false→x∈o.op.operands→qb6 (ρ x).roots S S':=by
    intro x hb hx
    rw[hb] at hr
    exact hr.sub fun r h=>q3q (List.mem_map.2 ⟨x,by simpa using hx,rfl⟩) r h
  cases ho:o.op with
  | move x=>simp only[opT,ho];exact qk.ret
  | pick c a b=>
    simp only[opT,ho]
    split
    · exact qk.br qk.ret qk.ret
    · exact qk.fail
  | unOp op t x=>
    simp only[opT,ho]
    split
    · exact qk.ret
    · exact qk.ret
    · exact qk.fail
  | field t x f=>
    simp only[opT,ho]
    split
    · split
      · split
        · exact qk.ret
        · exact qk.fail
      · exact qk.fail
    · exact qk.fail
  | extract x i=>simp only[opT,ho];exact qk.ofMap (f:=fun v=>v)
  | makeFunc f first caps=>
    cases f with
    | func f=>
      simp only[opT,ho]
      split
      · exact qk.ret
      · exact qk.fail
    | _=>simp only[opT,ho];exact qk.fail
  | load t x=>
    have:=ha (x:=x) (by unfold qik;rw[ho]) (by rw[ho];simp[Op.operands])
    simp only[opT,ho]
    rw[qbmp _ _ this]
    split
    · exact qk.ofMap (f:=fun v=>v)
    · exact qk.fail
  | nilCheck x=>
    have:=ha (x:=x) (by unfold qik;rw[ho]) (by rw[ho];simp[Op.operands])
    simp only[opT,ho]
    cases hv:ρ x with
    | addr r p=>
      rw[hv] at this
      simp only
      rw[qj5 this (by simp[AV.roots])]
      cases S.focus r p with
      | none=>exact qk.fail
      | some d=>exact qk.ret
    | raddr t y=>exact qk.ret
    | clo f c=>exact qk.ret
    | _=>exact qk.fail
  | fieldAddr s x f=>
    have:=ha (x:=x) (by unfold qik;rw[ho]) (by rw[ho];simp[Op.operands])
    simp only[opT,ho]
    rw[qbh8 _ _ _ this]
    exact qk.ofMap (f:=fun v=>v)
  | indexAddr t x i=>
    have:=ha (x:=x) (by unfold qik;rw[ho]) (by rw[ho];simp[Op.operands])
    simp only[opT,ho]
    rw[qbn8 _ _ _ this]
    split
    · exact qk.br qk.ret qk.fail
    · exact qk.fail
  | index t x i=>
    simp only[opT,ho]
    split
    · exact qk.br qk.ret qk.fail
    · exact qk.fail
  | convert s d x=>
    have:=ha (x:=x) (by unfold qik;rw[ho]) (by rw[ho];simp[Op.operands])
    simp only[opT,ho]
    split
    · exact qk.ret
    · exact qk.ret
    · rw[q34 _ _ this]
      split
      · exact qk.ret
      · exact qk.fail
    · exact qk.fail
  | binOp op t x y t2=>
    have:=ha (x:=x) (by unfold qik;rw[ho]) (by rw[ho];simp[Op.operands])
    simp only[opT,ho]
    rw[qbek _ this]
    split
    · split
      · exact qk.nil (f:=fun b=>.val .bool b)
      · exact qk.nil (f:=fun b=>.val .bool b)
      · exact qk.fail
    · split
      · exact qk.ret
      · exact qk.br qk.ret qk.fail
      · exact qk.br qk.fail qk.ret
      · exact qk.fail
  | assign x=>
    simp only[wrOf,ho] at hw
    simp only[opT,ho]
    cases hv:ρ x with
    | brw r p s=>rw[hv] at hw;simp at hw
    | pair a b=>rw[hv] at hw;simp at hw
    | _=>exact qk.ret
  | call c=>
    have hb:qik o=false:=by unfold qik;rw[ho]
    cases hc:c.callee with
    | builtin b=>
      cases b with
      | len=>
        simp only[opT,ho,hc]
        split
        · exact qk.ret
        · rename_i x _ _ _ hargs _
          obtain ⟨u,hu1,hu2⟩:∃ u,u∈c.args.toList∧ρ u=x:=by
            have:x∈c.args.toList.map ρ:=by rw[hargs];simp
            simpa using this
          have:=ha (x:=u) hb (by rw[ho];simp only[Op.operands,Call.operands,Array.mem_append];right;simpa using hu1)
          rw[hu2] at this
          rw[qbek _ this]
          exact qk.ofMap (f:=fun n=>.val (.int .i64) n)
        all_goals first | (exfalso;contradiction) | exact qk.fail
      | min=>
        simp only[opT,ho,hc]
        split
        all_goals first
          | (exfalso;contradiction)
          | exact qk.fail
          | (split
             · split
               · exact qk.ret
               · exact qk.fail
             · exact qk.fail)
      | max=>
        simp only[opT,ho,hc]
        split
        all_goals first
          | (exfalso;contradiction)
          | exact qk.fail
          | (split
             · split
               · exact qk.ret
               · exact qk.fail
             · exact qk.fail)
      | _=>simp[wrOf,ho,hc] at hw
    | value f=>
      have hf:=ha (x:=f) hb (by rw[ho];simp[Op.operands,Call.operands,hc])
      have hargs:qb6 (qo (c.args.toList.map ρ)) S S':=by
        intro r hr'
        have key:∀ (l:List Operand),(∀ x∈l,qb6 (ρ x).roots S S')→r∈qo (l.map ρ)→S'.root r=S.root r:=by
          intro l
          induction l with
          | nil=>intro _ h;simp[qo] at h
          | cons x l ih=>
            intro hx h
            simp only[List.map_cons,qo,List.mem_append] at h
            rcases h with h | h
            · exact hx x List.mem_cons_self r h
            · exact ih (fun y hy=>hx y (List.mem_cons_of_mem _ hy)) h
        exact key c.args.toList (fun x hx=>ha hb (by rw[ho];simp only[Op.operands,Call.operands,Array.mem_append];right;simpa using hx)) hr'
      simp only[opT,ho,hc]
      simp only[wrOf,ho,hc] at hw
      cases hv:ρ f with
      | clo g caps=>
        rw[hv] at hw hf
        simp only at hw ⊢
        split at hw
        · rename_i hq
          refine qbrk (A:={ A with sh:=hint }) (A':={ A' with sh:=hint }) rfl hl hq ?_
          intro r hr'
          rcases (q5k _ _ r).1 hr' with h | h
          · exact hargs r h
          · exact hf r (by simp only[AV.roots];exact q4s _ r h)
        · simp at hw
      | cloV cl=>
        simp only
        rw[qbel _ _ hargs]
        split
        · split
          · exact qk.call fun x=>qk.ret
          · exact qk.fail
        · exact qk.fail
      | _=>exact qk.fail
    | invoke r m=>simp only[opT,ho,hc];exact qk.fail
  | _=>simp[wrOf,ho] at hw
end
end Go.V

namespace Go.V
open Go
structure Frm (W:List Nat) (S S':Rts):Prop where
 len:S'.length=S.length
 root:∀ r,r∉W→S'.root r=S.root r
theorem Frm.refl (W:List Nat) (S:Rts):Frm W S S:=⟨rfl,fun _ _=>rfl⟩
theorem Frm.trans {W:List Nat} {a b c:Rts} (h:Frm W a b) (k:Frm W b c):Frm W a c:=⟨k.len.trans h.len,fun r hr=>(k.root r hr).trans (h.root r hr)⟩
theorem Frm.mono {W W':List Nat} {a b:Rts} (h:Frm W a b) (hs:∀ r∈W,r∈W'):Frm W' a b:=⟨h.len,fun r hr=>h.root r fun hh=>hr (hs r hh)⟩
theorem Frm.set (S:Rts) (q:Nat) (x:Option Root):Frm [q] S (S.setRoot q x):=by
 refine ⟨by simp[Rts.setRoot],fun r hr=>?_⟩
 simp only[List.mem_singleton] at hr
 simp only[Rts.root,Rts.setRoot,List.getD,List.getElem?_set]
 rw[if_neg (fun h=>hr h.symm)]
theorem qqk:∀ (t:Ty) (a:AV) {S S':Rts} {m:Mk} {x:t.den},tk S t a=some (m,x,S')→Frm a.roots S S'
 | t,.val t' y,S,S',m,x,h=>by
  have:(qbz t' t y).bind (fun x=>some (Mk.no,x,S))=some (m,x,S'):=by cases t<;>simpa only [tk] using h
  simp only[Option.bind_eq_some_iff,Option.some.injEq,Prod.mk.injEq] at this
  obtain ⟨_,_,_,_,rfl⟩:=this
  exact Frm.refl _ _
 | t,.litB b,S,S',m,x,h=>by
  cases t<;>simp[tk] at h
  obtain ⟨_,_,rfl⟩:=h
  exact Frm.refl _ _
 | t,.unit,S,S',m,x,h=>by
  cases t<;>simp[tk] at h
  obtain ⟨_,rfl⟩:=h
  exact Frm.refl _ _
 | t,.nils,S,S',m,x,h=>by
  cases t<;>simp[tk] at h
  obtain ⟨_,_,rfl⟩:=h
  exact Frm.refl _ _
 | t,.brw r p s,S,S',m,x,h=>by
  cases t with
  | sl e=>
   simp only[tk] at h
   split at h
   ·split at h
    ·split at h
     ·simp only[Option.bind_eq_some_iff,Option.some.injEq,Prod.mk.injEq] at h
      obtain ⟨_,_,_,_,_,_,rfl⟩:=h
      exact Frm.set _ _ _
     ·simp at h
    ·simp at h
   ·simp at h
  | _=>simp[tk] at h
 | t,.pair u v,S,S',m,x,h=>by
  cases t with
  | pair a b=>
   simp only[tk,Option.bind_eq_some_iff,Option.some.injEq,Prod.mk.injEq] at h
   obtain ⟨⟨m1,x1,S1⟩,h1,⟨m2,x2,S2⟩,h2,_,_,rfl⟩:=h
   exact ((qqk a u h1).mono fun r hr=>by simp[AV.roots,hr]).trans ((qqk b v h2).mono fun r hr=>by simp[AV.roots,hr])
  | _=>simp[tk] at h
 | t,.undef,S,S',m,x,h=>by cases t<;>simp[tk] at h
 | t,.skip,S,S',m,x,h=>by cases t<;>simp[tk] at h
 | t,.view _ _ _ _ _,S,S',m,x,h=>by cases t<;>simp[tk] at h
 | t,.addr _ _,S,S',m,x,h=>by cases t<;>simp[tk] at h
 | t,.raddr _ _,S,S',m,x,h=>by cases t<;>simp[tk] at h
 | t,.tup _,S,S',m,x,h=>by cases t<;>simp[tk] at h
 | t,.clo _ _,S,S',m,x,h=>by cases t<;>simp[tk] at h
 | t,.cloV _,S,S',m,x,h=>by cases t<;>simp[tk] at h
theorem qbvq (t:Ty) (a:AV) {S S':Rts} {hint:Bool} {m:Mk} {x:t.den} (h:tkS S hint t a=some (m,x,S')):Frm a.roots S S':=by
 simp only[tkS,Option.bind_eq_some_iff] at h
 obtain ⟨⟨m1,x1,S1⟩,h1,h⟩:=h
 split at h
 ·split at h
  ·simp only[Option.some.injEq,Prod.mk.injEq] at h
   obtain ⟨rfl,rfl,rfl⟩:=h
   exact qqk t a h1
  ·simp at h
 ·simp only[Option.some.injEq,Prod.mk.injEq] at h
  obtain ⟨rfl,rfl,rfl⟩:=h
  exact qqk t a h1
theorem qmh {A:Asks} {S S':Rts} {d:Option Nat} {site:Nat} {t:Ty} {m:Mk} {x:t.den} {mem:Bool} {β:Bool} {v:AV} (h:(layT A S d site t m x mem).dec β=some (v,S')):Frm d.toList S S':=by
 cases d with
 | none=>
  simp only[layT,Tr.dec,Option.some.injEq,Prod.mk.injEq] at h
  rw[←h.2];exact Frm.refl _ _
 | some d=>
  simp only[layT] at h
  split at h
  ·simp[Tr.dec] at h
  ·split at h
   ·split at h
    ·simp only[Tr.dec,Option.some.injEq,Prod.mk.injEq] at h
     rw[←h.2];exact Frm.set _ _ _
    ·simp[Tr.dec] at h
   ·split at h
    ·simp only[Tr.dec,Option.some.injEq,Prod.mk.injEq] at h
     rw[←h.2];exact Frm.refl _ _
    ·split at h
     ·simp only[Tr.dec,Option.some.injEq,Prod.mk.injEq] at h
      rw[←h.2];exact Frm.set _ _ _
     ·simp[Tr.dec] at h
theorem qbkw {T:Ty}:∀ (l:List (Nat×AV)) (acc:Mk×T.den) {S S':Rts} {m:Mk} {x:T.den},qe7 S T acc l=some (m,x,S')→Frm (qo (l.map (·.2))) S S'
 | [],acc,S,S',m,x,h=>by
  simp only[qe7,Option.some.injEq,Prod.mk.injEq] at h
  obtain ⟨_,_,rfl⟩:=h
  exact Frm.refl _ _
 | (i,v)::l,acc,S,S',m,x,h=>by
  simp only[qe7,Option.bind_eq_some_iff] at h
  obtain ⟨d,_,⟨m1,x1,S1⟩,h1,r,_,h2⟩:=h
  exact ((qqk _ v h1).mono fun r hr=>by simp[qo,hr]).trans ((qbkw l _ h2).mono fun r hr=>by simp[qo,hr])
theorem qbpn {e:Ty}:∀ (l:List (Nat×AV)) (acc:Mk×List e.den) {S S':Rts} {m:Mk} {x:List e.den},qh9 S e acc l=some (m,x,S')→Frm (qo (l.map (·.2))) S S'
 | [],acc,S,S',m,x,h=>by
  simp only[qh9,Option.some.injEq,Prod.mk.injEq] at h
  obtain ⟨_,_,rfl⟩:=h
  exact Frm.refl _ _
 | (i,v)::l,acc,S,S',m,x,h=>by
  simp only[qh9] at h
  split at h
  ·simp only[Option.bind_eq_some_iff] at h
   obtain ⟨⟨m1,x1,S1⟩,h1,h2⟩:=h
   exact ((qqk _ v h1).mono fun r hr=>by simp[qo,hr]).trans ((qbpn l _ h2).mono fun r hr=>by simp[qo,hr])
  ·simp at h
theorem qyn:∀ (ks:List PK) (avs:List AV) {S S':Rts} {g:GDen ks},qbf S ks avs=some (g,S')→Frm (qk1 ks avs) S S'
 | [],[],S,S',g,h=>by
  simp only[qbf,Option.some.injEq,Prod.mk.injEq] at h
  rw[h.2];exact Frm.refl _ _
 | [],_::_,S,S',g,h=>by simp[qbf] at h
 | k::ks,[],S,S',g,h=>by cases k<;>simp[qbf] at h
 | k::ks,a::avs,S,S',g,h=>by
  have hsub:∀ r∈qk1 ks avs,r∈qk1 (k::ks) (a::avs):=by intro r hr;simp only[qk1];split<;>simp[hr]
  cases k with
  | own t m=>
   simp only[qbf,Option.bind_eq_some_iff] at h
   obtain ⟨⟨m1,x1,S1⟩,h1,h⟩:=h
   split at h
   ·simp only[Option.bind_eq_some_iff,Option.some.injEq,Prod.mk.injEq] at h
    obtain ⟨⟨g2,S2⟩,h2,_,rfl⟩:=h
    exact ((qqk _ a h1).mono fun r hr=>by simp[qk1,PK.plain,hr]).trans ((qyn ks avs h2).mono hsub)
   ·simp at h
  | val t=>exact (qyn ks avs (by simpa only [qbf] using h)).mono hsub
  | mutp t m m'=>exact (qyn ks avs (by simpa only [qbf] using h)).mono hsub
  | mutv t m m'=>exact (qyn ks avs (by simpa only [qbf] using h)).mono hsub
  | rptr t=>exact (qyn ks avs (by simpa only [qbf] using h)).mono hsub
  | fn=>exact (qyn ks avs (by simpa only [qbf] using h)).mono hsub
theorem q54:∀ (a:AV) {r:Nat} {p:Path},qcw a=some (r,p)→r∈a.roots
 | .brw r' p' s,r,p,h=>by simp only[qcw,Option.some.injEq,Prod.mk.injEq] at h;simp[AV.roots,h.1]
 | .pair a b,r,p,h=>by
  simp only[qcw] at h
  simp only[AV.roots,List.mem_append]
  split at h
  ·rename_i r1 p1 h1
   simp only[Option.some.injEq,Prod.mk.injEq] at h
   obtain ⟨rfl,_⟩:=h
   exact .inl (q54 a h1)
  ·split at h
   ·rename_i r1 p1 h1
    simp only[Option.some.injEq,Prod.mk.injEq] at h
    obtain ⟨rfl,_⟩:=h
    exact .inr (q54 b h1)
   ·simp at h
 | .undef,_,_,h=>by simp[qcw] at h
 | .skip,_,_,h=>by simp[qcw] at h
 | .litB _,_,_,h=>by simp[qcw] at h
 | .unit,_,_,h=>by simp[qcw] at h
 | .nils,_,_,h=>by simp[qcw] at h
 | .val _ _,_,_,h=>by simp[qcw] at h
 | .view _ _ _ _ _,_,_,h=>by simp[qcw] at h
 | .addr _ _,_,_,h=>by simp[qcw] at h
 | .raddr _ _,_,_,h=>by simp[qcw] at h
 | .tup _,_,_,h=>by simp[qcw] at h
 | .clo _ _,_,_,h=>by simp[qcw] at h
 | .cloV _,_,_,h=>by simp[qcw] at h
theorem qbtk {S S':Rts} {site:Nat} {t:Ty} {a:AV} {m:Mk} {o:t.den} (h:qbao S site t a m o=some S'):Frm a.roots S S':=by
 unfold qbao at h
 split at h
 ·simp only[Option.some.injEq] at h;rw[h];exact Frm.refl _ _
 ·rename_i r p hp
  split at h
  ·simp only[Option.bind_eq_some_iff] at h
   obtain ⟨d,_,h⟩:=h
   split at h
   ·simp only[Option.bind_eq_some_iff] at h
    obtain ⟨y,_,h⟩:=h
    split at h
    ·simp at h
    ·simp only[Option.bind_eq_some_iff,Option.some.injEq] at h
     obtain ⟨_,_,rfl⟩:=h
     exact (Frm.set _ _ _).mono fun r' hr=>by simp only[List.mem_singleton] at hr;subst hr;exact q54 a hp
   ·simp at h
  ·simp at h
theorem qzl {site:Nat}:∀ (ks:List PK) (avs:List AV) (o:ODen ks) {S S':Rts},qbm S site ks avs o=some S'→Frm (qk1 ks avs) S S'
 | [],[],o,S,S',h=>by
  simp only[qbm,Option.some.injEq] at h
  rw[h];exact Frm.refl _ _
 | [],_::_,o,S,S',h=>by simp[qbm] at h
 | k::ks,[],o,S,S',h=>by cases k<;>simp[qbm] at h
 | k::ks,a::avs,o,S,S',h=>by
  have hsub:∀ r∈qk1 ks avs,r∈qk1 (k::ks) (a::avs):=by intro r hr;simp only[qk1];split<;>simp[hr]
  cases k with
  | mutp t m m'=>
   cases a with
   | addr q p=>
    cases p with
    | nil=>
     simp only[qbm] at h
     split at h
     ·exact ((Frm.set _ _ _).mono fun r hr=>by simp only[List.mem_singleton] at hr;subst hr;simp[qk1,PK.plain,AV.roots]).trans ((qzl ks avs o.2 h).mono hsub)
     ·simp at h
    | cons _ _=>simp[qbm] at h
   | _=>simp[qbm] at h
  | mutv t m m'=>
   simp only[qbm,Option.bind_eq_some_iff] at h
   obtain ⟨S1,h1,h2⟩:=h
   exact ((qbtk h1).mono fun r hr=>by simp[qk1,PK.plain,hr]).trans ((qzl ks avs o.2 h2).mono hsub)
  | val t=>exact (qzl ks avs o (by simpa only [qbm] using h)).mono hsub
  | own t m=>exact (qzl ks avs o (by simpa only [qbm] using h)).mono hsub
  | rptr t=>exact (qzl ks avs o (by simpa only [qbm] using h)).mono hsub
  | fn=>exact (qzl ks avs o (by simpa only [qbm] using h)).mono hsub
theorem qbpv {A:Asks} {S S':Rts} {d:Option Nat} {site:Nat}:∀ (rs:List RK) (r:RDen rs) {β:Bool} {v:AV},(qes A S d site rs r).dec β=some (v,S')→Frm d.toList S S'
 | [],r,β,v,h=>by
  simp only[qes,Tr.dec,Option.some.injEq,Prod.mk.injEq] at h
  rw[←h.2];exact Frm.refl _ _
 | [.val t m],r,β,v,h=>by
  simp only[qes] at h
  split at h
  ·split at h
   ·simp only[Tr.dec,Option.some.injEq,Prod.mk.injEq] at h
    rw[←h.2];exact Frm.refl _ _
   ·simp[Tr.dec] at h
  ·split at h
   ·exact qmh h
   ·simp[Tr.dec] at h
 | [.ptr t m],r,β,v,h=>by
  simp only[qes] at h
  split at h
  ·exact qmh h
  ·simp[Tr.dec] at h
 | q1::q2::rs,r,β,v,h=>by
  have h':(qtp A S d site (q1::q2::rs) r).dec β=some (v,S'):=by cases q1<;>simpa only [qes] using h
  unfold qtp at h'
  split at h'
  ·cases d with
   | none=>
    simp only[Tr.dec,Option.some.injEq,Prod.mk.injEq] at h'
    rw[←h'.2];exact Frm.refl _ _
   | some d=>
    simp only at h'
    cases hl:layT A S (some d) site (qdw (q1::q2::rs)) (qlx (q1::q2::rs)) (resX (q1::q2::rs) r) false with
    | ret z=>
     obtain ⟨v1,S1⟩:=z
     rw[hl] at h'
     simp only[Tr.dec,Option.some.injEq,Prod.mk.injEq] at h'
     rw[←h'.2]
     exact qmh (β:=true) (by rw[hl];rfl)
    | _=>rw[hl] at h';simp[Tr.dec] at h'
  ·simp[Tr.dec] at h'
section
variable {C:Ctx} {D:Den C}
theorem qbt3 {A:Asks} {S S':Rts} {d:Option Nat} {site:Nat} {g:FuncId} {avs:List AV} {β:Bool} {v:AV} (h:(qr4 C D A S d site g avs).dec β=some (v,S')):Frm (d.toList++qk1 (C.sig g).params avs) S S':=by
 unfold qr4 at h
 split at h
 ·simp[Tr.dec] at h
 ·rename_i gd S1 h1
  split at h
  ·simp[Tr.dec] at h
  ·rename_i od S2 h2
   split at h
   ·simp[Tr.dec] at h
   ·split at h
    ·simp only[Tr.dec,Option.bind_eq_some_iff] at h
     obtain ⟨r,_,h⟩:=h
     have f1:Frm (d.toList++qk1 (C.sig g).params avs) S S1:=(qyn _ _ h1).mono fun r hr=>by simp[hr]
     split at h
     ·exact f1.trans ((qbpv _ _ h).mono fun r hr=>by simp[hr])
     ·split at h
      ·cases hlo:qml (C.sig g).params avs with
       | false=>rw[hlo] at h;simp[Tr.dec] at h
       | true=>
       rw[hlo] at h
       simp only[Tr.dec] at h
       split at h
       ·simp[Tr.dec] at h
       ·rename_i S3 h3
        exact f1.trans (((qzl _ _ _ h3).mono fun r hr=>by simp[hr]).trans ((qbpv _ _ h).mono fun r hr=>by simp[hr]))
      ·simp[Tr.dec] at h
    ·simp[Tr.dec] at h
theorem qbkk {A:Asks} {S S':Rts} {d:Option Nat} {site:Nat} {hint:Bool} {u:AV} {β:Bool} {v:AV} (h:(q4i A S d site hint u).dec β=some (v,S')):Frm (d.toList++u.roots) S S':=by
 unfold q4i at h
 split at h
 ·split at h
  ·rename_i m y S1 h1
   have f1:Frm (d.toList++u.roots) S S1:=(qqk _ _ h1).mono fun r hr=>by simp[hr]
   split at h
   ·split at h
    ·simp only[Tr.dec,Option.some.injEq,Prod.mk.injEq] at h
     rw[←h.2];exact f1
    ·simp[Tr.dec] at h
   ·exact f1.trans ((qmh h).mono fun r hr=>by simp[hr])
  ·simp[Tr.dec] at h
 ·simp[Tr.dec] at h
theorem q0b {ρ:Operand→AV} (ps:Array (Nat×Operand)):qo ((ps.toList.map fun p=>(p.1,ρ p.2)).map (·.2))=qo ((ps.toList.map (·.2)).map ρ):=by
 simp only[List.map_map];rfl
theorem qbsh {A:Asks} {ρ:Operand→AV} {S S':Rts} {site:Nat} {hint:Bool} {o:Oper} {W:List Nat} (hw:wrOf C ρ o=some W) {β:Bool} {v:AV}
  (h:(opT C D A ρ S site hint o).dec β=some (v,S')):Frm W S S':=by
 have hin:∀ {x:Operand},x∈o.op.operands→∀ r∈(ρ x).roots,r∈qo (o.op.operands.toList.map ρ):=fun hx r hr=>q3q (List.mem_map.2 ⟨_,by simpa using hx,rfl⟩) r hr
 cases ho:o.op with
 | assign x=>
  simp only[wrOf,ho] at hw
  simp only[opT,ho] at h
  have hx:=hin (x:=x) (by rw[ho];simp[Op.operands])
  rw[ho] at hx
  cases hv:ρ x with
  | brw r p s=>
   rw[hv] at hw h hx
   simp only[Option.some.injEq] at hw
   subst hw
   simp only at h
   split at h
   ·simp only[Tr.dec,Option.some.injEq,Prod.mk.injEq] at h
    rw[←h.2];exact Frm.refl _ _
   ·exact (qbkk h).mono fun r hr=>by rcases List.mem_append.1 hr with h | h;exact List.mem_append.2 (.inl h);exact List.mem_append.2 (.inr (hx r h))
  | pair a b=>
   rw[hv] at hw h hx
   simp only[Option.some.injEq] at hw
   subst hw
   exact (qbkk h).mono fun r hr=>by rcases List.mem_append.1 hr with h | h;exact List.mem_append.2 (.inl h);exact List.mem_append.2 (.inr (hx r h))
  | _=>rw[hv] at hw;simp at hw
 | alloc t=>
  simp only[wrOf,ho,Option.some.injEq] at hw
  subst hw
  simp only[opT,ho] at h
  split at h
  ·exact (qmh h).mono fun r hr=>by simp[hr]
  ·simp[Tr.dec] at h
 | box t x=>
  simp only[wrOf,ho,Option.some.injEq] at hw
  subst hw
  have hx:=hin (x:=x) (by rw[ho];simp[Op.operands])
  rw[ho] at hx
  simp only[opT,ho] at h
  split at h
  ·split at h
   ·rename_i m y S1 h1
    have f1:=(qqk _ _ h1).mono (W':=o.dst.toList++qo ((Op.box t x).operands.toList.map ρ)) fun r hr=>List.mem_append.2 (.inr (hx r hr))
    split at h
    ·split at h
     ·exact f1.trans ((qmh h).mono fun r hr=>by simp[hr])
     ·simp[Tr.dec] at h
    ·exact f1.trans ((qmh h).mono fun r hr=>by simp[hr])
   ·simp[Tr.dec] at h
  ·simp[Tr.dec] at h
 | build t ps=>
  simp only[wrOf,ho,Option.some.injEq] at hw
  subst hw
  simp only[opT,ho] at h
  split at h
  ·split at h
   ·rename_i m y S1 h1
    have f1:=(qbkw _ _ h1).mono (W':=o.dst.toList++qo ((Op.build t ps).operands.toList.map ρ)) fun r hr=>by
     rw[q0b] at hr
     exact List.mem_append.2 (.inr (by simpa [Op.operands] using hr))
    exact f1.trans ((qmh h).mono fun r hr=>by simp[hr])
   ·simp[Tr.dec] at h
  ·simp[Tr.dec] at h
 | buildSlice t n ps=>
  simp only[wrOf,ho,Option.some.injEq] at hw
  subst hw
  simp only[opT,ho] at h
  split at h
  ·split at h
   ·rename_i m y S1 h1
    have f1:=(qbpn _ _ h1).mono (W':=o.dst.toList++qo ((Op.buildSlice t n ps).operands.toList.map ρ)) fun r hr=>by
     rw[q0b] at hr
     exact List.mem_append.2 (.inr (by simpa [Op.operands] using hr))
    split at h
    ·split at h
     ·split at h
      ·simp only[Tr.dec,Option.some.injEq,Prod.mk.injEq] at h
       rw[←h.2];exact f1
      ·simp[Tr.dec] at h
     ·exact f1.trans ((qmh h).mono fun r hr=>by simp[hr])
    ·simp[Tr.dec] at h
   ·simp[Tr.dec] at h
  ·simp[Tr.dec] at h
 | store t x y=>
  simp only[wrOf,ho,Option.some.injEq] at hw
  subst hw
  have hx:=hin (x:=x) (by rw[ho];simp[Op.operands])
  have hy:=hin (x:=y) (by rw[ho];simp[Op.operands])
  rw[ho] at hx hy
  simp only[opT,ho] at h
  split at h
  ·cases hs:qbb5 S site hint (C.ty t) (ρ x) (ρ y) with
   | none=>rw[hs] at h;simp[Tr.of,Tr.dec] at h
   | some S2=>
    rw[hs] at h
    simp only[Option.map_some,Tr.of,Tr.dec,Option.some.injEq,Prod.mk.injEq] at h
    rw[←h.2]
    unfold qbb5 at hs
    split at hs
    ·rename_i r p hv
     simp only[Option.bind_eq_some_iff] at hs
     obtain ⟨⟨m,z,S1⟩,h1,hs⟩:=hs
     split at hs
     ·simp only[Option.bind_eq_some_iff] at hs
      obtain ⟨dd,_,hs⟩:=hs
      split at hs
      ·simp only[Option.bind_eq_some_iff,Option.some.injEq] at hs
       obtain ⟨_,_,rfl⟩:=hs
       refine ((qbvq _ _ h1).mono fun r hr=>List.mem_append.2 (.inr (hy r hr))).trans ((Frm.set _ _ _).mono fun r' hr=>?_)
       simp only[List.mem_singleton] at hr
       subst hr
       exact List.mem_append.2 (.inr (hx _ (by rw[hv];simp[AV.roots])))
      ·simp at hs
     ·simp at hs
    ·simp at hs
  ·simp[Tr.dec] at h
 | makeSlice t x y=>
  simp only[wrOf,ho,Option.some.injEq] at hw
  subst hw
  simp only[opT,ho] at h
  split at h
  ·simp only[Tr.dec] at h
   split at h
   ·exact (qmh h).mono fun r hr=>by simp[hr]
   ·simp at h
  ·simp[Tr.dec] at h
 | slice t x lo hi mx=>
  simp only[wrOf,ho,Option.some.injEq] at hw
  subst hw
  have hx:=hin (x:=x) (by rw[ho];simp[Op.operands])
  rw[ho] at hx
  cases mx with
  | some _=>simp only[opT,ho,Tr.dec] at h;simp at h
  | none=>
   simp only[opT,ho] at h
   unfold q7f at h
   split at h
   ·split at h
    ·simp only[Tr.dec] at h
     split at h
     ·simp only[Option.some.injEq,Prod.mk.injEq] at h;rw[←h.2];exact Frm.refl _ _
     ·simp at h
    ·simp[Tr.dec] at h
   ·split at h
    ·split at h
     ·simp only[Tr.dec] at h
      split at h
      ·simp only[Option.some.injEq,Prod.mk.injEq] at h;rw[←h.2];exact Frm.refl _ _
      ·simp at h
     ·simp[Tr.dec] at h
    ·simp[Tr.dec] at h
   ·rename_i r p s e hv hT
    split at h
    ·split at h
     ·rename_i m xs S2 h1
      have f1:=(qqk _ _ h1).mono (W':=o.dst.toList++qo ((Op.slice t x lo hi none).operands.toList.map ρ)) fun r hr=>List.mem_append.2 (.inr (hx r (by rw[hv];exact hr)))
      split at h
      ·split at h
       ·simp only[Tr.dec] at h
        split at h
        ·exact f1.trans ((qmh h).mono fun r hr=>by simp[hr])
        ·simp at h
       ·simp[Tr.dec] at h
      ·simp[Tr.dec] at h
     ·simp[Tr.dec] at h
    ·unfold qbcc at h
     split at h
     ·split at h
      ·split at h
       ·simp only[Tr.dec] at h
        split at h
        ·simp only[Option.some.injEq,Prod.mk.injEq] at h;rw[←h.2];exact Frm.refl _ _
        ·simp at h
       ·simp[Tr.dec] at h
      ·simp[Tr.dec] at h
     ·simp[Tr.dec] at h
   ·simp[Tr.dec] at h
 | call c=>
  have hargs:∀ (a:AV),a∈c.args.toList.map ρ→∀ r∈a.roots,r∈qo (o.op.operands.toList.map ρ):=by
   intro a ha r hr
   obtain ⟨x,hx,rfl⟩:=List.mem_map.1 ha
   exact hin (x:=x) (by rw[ho];simp only[Op.operands,Call.operands,Array.mem_append];right;simpa using hx) r hr
  cases hc:c.callee with
  | builtin b=>
   cases b with
   | append=>
    simp only[wrOf,ho,hc,Option.some.injEq] at hw
    subst hw
    rw[ho] at hargs
    simp only[opT,ho,hc] at h
    split at h<;>try (first | (exfalso;contradiction) | (simp[Tr.dec] at h;done))
    rename_i x0 y0 e e' _ _ hmap _
    split at h
    ·cases hint with
     | true=>
      simp only[if_true] at h
      have hx0:=hargs x0 (by rw[hmap];simp)
      unfold q5q at h
      split at h
      ·split at h
       ·split at h
        ·split at h
         ·split at h
          ·simp only[Tr.dec] at h
           split at h
           ·simp only[Option.some.injEq,Prod.mk.injEq] at h
            rw[←h.2]
            exact (Frm.set _ _ _).mono fun r' hr=>by
             simp only[List.mem_singleton] at hr
             subst hr
             exact List.mem_append.2 (.inr (hx0 _ (by simp[AV.roots])))
           ·simp at h
          ·simp[Tr.dec] at h
         ·simp[Tr.dec] at h
        ·simp[Tr.dec] at h
       ·simp[Tr.dec] at h
      ·simp[Tr.dec] at h
     | false=>
     simp only[Bool.false_eq_true,if_false] at h
     unfold qwe at h
     have hx0:=hargs x0 (by rw[hmap];simp)
     have hy0:=hargs y0 (by rw[hmap];simp)
     split at h
     ·rename_i m xs S1 h1
      split at h
      ·rename_i my ys S2 h2
       have f1:=((qqk _ _ h1).mono (W':=o.dst.toList++qo ((Op.call c).operands.toList.map ρ)) fun r hr=>List.mem_append.2 (.inr (hx0 r hr))).trans
        ((qqk _ _ h2).mono fun r hr=>List.mem_append.2 (.inr (hy0 r hr)))
       split at h
       ·split at h
        ·simp only[Tr.dec] at h
         split at h
         ·exact f1.trans ((qmh h).mono fun r hr=>by simp[hr])
         ·simp at h
        ·simp[Tr.dec] at h
       ·simp[Tr.dec] at h
      ·simp[Tr.dec] at h
     ·simp[Tr.dec] at h
    ·simp[Tr.dec] at h
   | clear=>
    simp only[wrOf,ho,hc,Option.some.injEq] at hw
    subst hw
    rw[ho] at hargs
    simp only[opT,ho,hc] at h
    split at h<;>try (first | (exfalso;contradiction) | (simp[Tr.dec] at h;done))
    rename_i x0 e _ _ hmap _
    have hx0:=hargs x0 (by rw[hmap];simp)
    unfold qbbz at h
    split at h
    ·split at h
     ·split at h
      ·split at h
       ·split at h
        ·simp only[Tr.dec] at h
         split at h
         ·simp only[Option.some.injEq,Prod.mk.injEq] at h
          rw[←h.2]
          exact (Frm.set _ _ _).mono fun r' hr=>by
           simp only[List.mem_singleton] at hr
           subst hr
           exact List.mem_append.2 (.inr (hx0 _ (by simp[AV.roots])))
         ·simp only[Option.some.injEq,Prod.mk.injEq] at h;rw[←h.2];exact Frm.refl _ _
        ·simp[Tr.dec] at h
       ·simp[Tr.dec] at h
      ·simp[Tr.dec] at h
     ·simp[Tr.dec] at h
    ·simp[Tr.dec] at h
   | len=>simp[wrOf,ho,hc] at hw
   | min=>simp[wrOf,ho,hc] at hw
   | max=>simp[wrOf,ho,hc] at hw
   | _=>simp only[opT,ho,hc,Tr.dec] at h;simp at h
  | value f=>
   simp only[wrOf,ho,hc] at hw
   simp only[opT,ho,hc] at h
   cases hv:ρ f with
   | clo g caps=>
    rw[hv] at hw h
    simp only at hw h
    split at hw
    ·simp at hw
    ·simp only[Option.some.injEq] at hw
     subst hw
     exact qbt3 h
   | cloV cl=>rw[hv] at hw;simp at hw
   | _=>rw[hv] at h;simp[Tr.dec] at h
  | invoke r m=>simp only[opT,ho,hc,Tr.dec] at h;simp at h
 | _=>first | (simp[wrOf,ho] at hw;done) | (simp only[opT,ho,Tr.dec] at h;simp at h)
end
end Go.V

namespace Go.V
open Go
theorem root_set (S:Rts) (q:Nat) (x:Option Root) (r:Nat):(S.setRoot q x).root r=if r=q∧q<S.length then x else S.root r:=by
 simp only[Rts.root,Rts.setRoot,List.getD,List.getElem?_set]
 by_cases h:q=r
 ·subst h
  by_cases hl:q<S.length
  ·simp[hl]
  ·simp[hl]
 ·rw[if_neg h,if_neg (fun k=>h k.1.symm)]
theorem qwa {F:List Nat} {S T:Rts} (hr:qb6 F S T) (hl:T.length=S.length) (q:Nat) (x:Option Root):qb6 F (S.setRoot q x) (T.setRoot q x):=by
 intro r h
 rw[root_set,root_set,hl,hr r h]
def Lk {α:Type} (F:List Nat) (X Y:Option (α×Rts)):Prop:=∀ a S',X=some (a,S')→∃ T',Y=some (a,T')∧qb6 F S' T'∧T'.length=S'.length
theorem q49 {F:List Nat}:∀ (t:Ty) (a:AV) {S T:Rts} {m:Mk} {x:t.den} {S':Rts},qb6 F S T→T.length=S.length→(∀ r∈a.roots,r∈F)→tk S t a=some (m,x,S')→
  ∃ T',tk T t a=some (m,x,T')∧qb6 F S' T'∧T'.length=S'.length
 | t,.val t' y,S,T,m,x,S',hr,hl,hF,h=>by
  have e:∀ S:Rts,tk S t (.val t' y)=(qbz t' t y).bind (fun x=>some (Mk.no,x,S)):=by intro S;cases t<;>simp only[tk]
  rw[e] at h
  simp only[Option.bind_eq_some_iff,Option.some.injEq,Prod.mk.injEq] at h
  obtain ⟨z,hz,rfl,rfl,rfl⟩:=h
  exact ⟨T,by rw[e,hz];rfl,hr,hl⟩
 | t,.litB b,S,T,m,x,S',hr,hl,hF,h=>by
  cases t<;>simp[tk] at h
  obtain ⟨rfl,rfl,rfl⟩:=h
  exact ⟨T,by simp[tk],hr,hl⟩
 | t,.unit,S,T,m,x,S',hr,hl,hF,h=>by
  cases t<;>simp[tk] at h
  obtain ⟨rfl,rfl⟩:=h
  exact ⟨T,by simp[tk],hr,hl⟩
 | t,.nils,S,T,m,x,S',hr,hl,hF,h=>by
  cases t<;>simp[tk] at h
  obtain ⟨rfl,rfl,rfl⟩:=h
  exact ⟨T,by simp[tk],hr,hl⟩
 | t,.brw r p s,S,T,m,x,S',hr,hl,hF,h=>by
  cases t with
  | sl e=>
   have hroot:=hr r (hF r (by simp[AV.roots]))
   simp only[tk] at h ⊢
   rw[hroot]
   cases hR:S.root r with
   | none=>rw[hR] at h;simp at h
   | some R=>
    rw[hR] at h
    simp only at h ⊢
    cases hf:V.focus R.ty R.ms R.x p with
    | none=>rw[hf] at h;simp at h
    | some d=>
     obtain ⟨dt,dm,dx⟩:=d
     rw[hf] at h
     cases dt with
     | sl t2=>
      cases dm with
      | own s' m2=>
       simp only at h ⊢
       by_cases hs:s=s'
       ·rw[if_pos hs] at h ⊢
        simp only[Option.bind_eq_some_iff,Option.some.injEq,Prod.mk.injEq] at h ⊢
        obtain ⟨z,hz,m',hm',rfl,rfl,rfl⟩:=h
        exact ⟨_,⟨z,hz,m',hm',rfl,rfl,rfl⟩,qwa hr hl _ _,by simp[Rts.setRoot,hl]⟩
       ·rw[if_neg hs] at h;simp at h
      | _=>simp at h
     | _=>simp at h
  | _=>simp[tk] at h
 | t,.pair u v,S,T,m,x,S',hr,hl,hF,h=>by
  cases t with
  | pair a b=>
   simp only[tk,Option.bind_eq_some_iff,Option.some.injEq,Prod.mk.injEq] at h
   obtain ⟨⟨m1,x1,S1⟩,h1,⟨m2,x2,S2⟩,h2,rfl,rfl,rfl⟩:=h
   obtain ⟨T1,k1,k2,k3⟩:=q49 a u hr hl (fun r h=>hF r (by simp[AV.roots,h])) h1
   obtain ⟨T2,q1,q2,q3⟩:=q49 b v k2 k3 (fun r h=>hF r (by simp[AV.roots,h])) h2
   exact ⟨T2,by simp only[tk,k1,Option.bind_some,q1],q2,q3⟩
  | _=>simp[tk] at h
 | t,.undef,S,T,m,x,S',hr,hl,hF,h=>by cases t<;>simp[tk] at h
 | t,.skip,S,T,m,x,S',hr,hl,hF,h=>by cases t<;>simp[tk] at h
 | t,.view _ _ _ _ _,S,T,m,x,S',hr,hl,hF,h=>by cases t<;>simp[tk] at h
 | t,.addr _ _,S,T,m,x,S',hr,hl,hF,h=>by cases t<;>simp[tk] at h
 | t,.raddr _ _,S,T,m,x,S',hr,hl,hF,h=>by cases t<;>simp[tk] at h
 | t,.tup _,S,T,m,x,S',hr,hl,hF,h=>by cases t<;>simp[tk] at h
 | t,.clo _ _,S,T,m,x,S',hr,hl,hF,h=>by cases t<;>simp[tk] at h
 | t,.cloV _,S,T,m,x,S',hr,hl,hF,h=>by cases t<;>simp[tk] at h
theorem qse {F:List Nat} {A:Asks} {S T:Rts} (hr:qb6 F S T) (hl:T.length=S.length) {d:Option Nat} {site:Nat} {t:Ty} {m:Mk} {x:t.den} {mem:Bool} {β:Bool} :
  Lk F ((layT A S d site t m x mem).dec β) ((layT A T d site t m x mem).dec β):=by
 intro v S' h
 cases d with
 | none=>
  simp only[layT,Tr.dec,Option.some.injEq,Prod.mk.injEq] at h ⊢
  obtain ⟨rfl,rfl⟩:=h
  exact ⟨T,⟨rfl,rfl⟩,hr,hl⟩
 | some d=>
  simp only[layT,hl] at h ⊢
  split at h
  ·simp[Tr.dec] at h
  ·rename_i h1
   simp only[h1]
   split at h
   ·rename_i h2
    split at h
    ·rename_i h3
     simp only[Tr.dec,Option.some.injEq,Prod.mk.injEq] at h
     obtain ⟨rfl,rfl⟩:=h
     exact ⟨_,by simp[h2,h3,Tr.dec],qwa hr hl _ _,by simp[Rts.setRoot,hl]⟩
    ·simp[Tr.dec] at h
   ·rename_i h2
    split at h
    ·rename_i h3
     simp only[Tr.dec,Option.some.injEq,Prod.mk.injEq] at h
     obtain ⟨rfl,rfl⟩:=h
     exact ⟨T,by simp[h2,h3,Tr.dec],hr,hl⟩
    ·rename_i h3
     split at h
     ·rename_i h4
      simp only[Tr.dec,Option.some.injEq,Prod.mk.injEq] at h
      obtain ⟨rfl,rfl⟩:=h
      refine ⟨_,?_,qwa hr hl _ _,by simp[Rts.setRoot,hl]⟩
      simp only[h2,Bool.false_eq_true,if_false,h3,h4,if_true,Tr.dec]
     ·simp[Tr.dec] at h
theorem qbnj {F:List Nat} {T0:Ty}:∀ (l:List (Nat×AV)) (acc:Mk×T0.den) {S T:Rts} {m:Mk} {x:T0.den} {S':Rts},qb6 F S T→T.length=S.length→(∀ r∈qo (l.map (·.2)),r∈F)→
  qe7 S T0 acc l=some (m,x,S')→∃ T',qe7 T T0 acc l=some (m,x,T')∧qb6 F S' T'∧T'.length=S'.length
 | [],acc,S,T,m,x,S',hr,hl,hF,h=>by
  simp only[qe7,Option.some.injEq,Prod.mk.injEq] at h ⊢
  obtain ⟨rfl,rfl,rfl⟩:=h
  exact ⟨T,⟨rfl,rfl,rfl⟩,hr,hl⟩
 | (i,v)::l,acc,S,T,m,x,S',hr,hl,hF,h=>by
  simp only[qe7,Option.bind_eq_some_iff] at h
  obtain ⟨d,hd,⟨m1,x1,S1⟩,h1,r,h3,h2⟩:=h
  obtain ⟨T1,k1,k2,k3⟩:=q49 _ v hr hl (fun r h=>hF r (by simp[qo,h])) h1
  obtain ⟨T2,q1,q2,q3⟩:=qbnj l _ k2 k3 (fun r h=>hF r (by simp only[List.map_cons,qo,List.mem_append];exact .inr h)) h2
  refine ⟨T2,?_,q2,q3⟩
  simp only[qe7,Option.bind_eq_some_iff]
  exact ⟨d,hd,(m1,x1,T1),k1,r,h3,q1⟩
theorem qbrs {F:List Nat} {e:Ty}:∀ (l:List (Nat×AV)) (acc:Mk×List e.den) {S T:Rts} {m:Mk} {x:List e.den} {S':Rts},qb6 F S T→T.length=S.length→(∀ r∈qo (l.map (·.2)),r∈F)→
  qh9 S e acc l=some (m,x,S')→∃ T',qh9 T e acc l=some (m,x,T')∧qb6 F S' T'∧T'.length=S'.length
 | [],acc,S,T,m,x,S',hr,hl,hF,h=>by
  simp only[qh9,Option.some.injEq,Prod.mk.injEq] at h ⊢
  obtain ⟨rfl,rfl,rfl⟩:=h
  exact ⟨T,⟨rfl,rfl,rfl⟩,hr,hl⟩
 | (i,v)::l,acc,S,T,m,x,S',hr,hl,hF,h=>by
  simp only[qh9] at h ⊢
  split at h
  ·rename_i hi
   simp only[Option.bind_eq_some_iff] at h
   obtain ⟨⟨m1,x1,S1⟩,h1,h2⟩:=h
   obtain ⟨T1,k1,k2,k3⟩:=q49 _ v hr hl (fun r h=>hF r (by simp[qo,h])) h1
   obtain ⟨T2,q1,q2,q3⟩:=qbrs l _ k2 k3 (fun r h=>hF r (by simp only[List.map_cons,qo,List.mem_append];exact .inr h)) h2
   refine ⟨T2,?_,q2,q3⟩
   rw[if_pos hi]
   simp only[Option.bind_eq_some_iff]
   exact ⟨(m1,x1,T1),k1,q1⟩
  ·simp at h
theorem qbq6 {F:List Nat} {A:Asks} {S T:Rts} (hr:qb6 F S T) (hl:T.length=S.length) {d:Option Nat} {site:Nat} {t:Ty} {x y:AV} (hx:∀ r∈x.roots,r∈F) (hy:∀ r∈y.roots,r∈F) {β:Bool} :
  Lk F ((qwe A S d site t x y).dec β) ((qwe A T d site t x y).dec β):=by
 intro v S' h
 unfold qwe at h ⊢
 cases h1:tk S (.sl t) x with
 | none=>rw[h1] at h;simp[Tr.dec] at h
 | some z=>
  obtain ⟨m1,xs,S1⟩:=z
  obtain ⟨T1,k1,k2,k3⟩:=q49 _ x hr hl hx h1
  rw[h1] at h
  rw[k1]
  cases m1 with
  | own s m=>
   simp only at h ⊢
   cases h2:tk S1 (.sl t) y with
   | none=>rw[h2] at h;simp[Tr.dec] at h
   | some z=>
    obtain ⟨my,ys,S2⟩:=z
    obtain ⟨T2,q1,q2,q3⟩:=q49 _ y k2 k3 hy h2
    rw[h2] at h
    rw[q1]
    simp only at h ⊢
    cases hm:elMk my with
    | none=>rw[hm] at h;simp[Tr.dec] at h
    | some m'=>
     rw[hm] at h
     simp only at h ⊢
     split at h
     ·rename_i h3
      rw[if_pos h3]
      simp only[Tr.dec] at h ⊢
      split at h
      ·exact qse q2 q3 v S' h
      ·simp at h
     ·simp[Tr.dec] at h
  | _=>simp[Tr.dec] at h
theorem qbu0 {F:List Nat} {S T:Rts} (hr:qb6 F S T) (hl:T.length=S.length) {t:Ty} {x y:AV} (hx:∀ r∈x.roots,r∈F) {β:Bool} :
  Lk F ((q5q S t x y).dec β) ((q5q T t x y).dec β):=by
 intro v S' h
 unfold q5q at h ⊢
 split at h
 ·rename_i r p s t2 ys
  have hroot:=hr r (hx r (by simp[AV.roots]))
  try simp only
  rw[hroot]
  cases hR:S.root r with
  | none=>rw[hR] at h;simp[Tr.dec] at h
  | some R=>
   rw[hR] at h
   simp only at h ⊢
   split at h
   ·rename_i t' s' m xs hf
    split at h
    ·rename_i hc
     rw[if_pos hc]
     split at h
     ·rename_i a b r' e1 e2 e3
      simp only[Tr.dec] at h ⊢
      split at h
      ·simp only[Option.some.injEq,Prod.mk.injEq] at h
       obtain ⟨rfl,rfl⟩:=h
       exact ⟨_,rfl,qwa hr hl _ _,by simp[Rts.setRoot,hl]⟩
      ·simp at h
     ·simp[Tr.dec] at h
    ·simp[Tr.dec] at h
   ·simp[Tr.dec] at h
 ·simp[Tr.dec] at h
theorem qbue {F:List Nat} {A:Asks} {S T:Rts} (hr:qb6 F S T) (hl:T.length=S.length) {U:Ty} {d:Option Nat} {site:Nat} {x:AV} {lo hi:Option AV} (hx:∀ r∈x.roots,r∈F) {β:Bool} :
  Lk F ((q7f A S U d site x lo hi).dec β) ((q7f A T U d site x lo hi).dec β):=by
 intro v S' h
 unfold q7f at h ⊢
 split at h
 ·split at h
  ·simp only[Tr.dec] at h ⊢
   split at h
   ·simp only[Option.some.injEq,Prod.mk.injEq] at h
    obtain ⟨rfl,rfl⟩:=h
    rename_i hc
    exact ⟨T,by simp[hc],hr,hl⟩
   ·simp at h
  ·simp[Tr.dec] at h
 ·split at h
  ·split at h
   ·rename_i hc
    simp only[Tr.dec] at h ⊢
    rw[if_pos hc]
    split at h
    ·simp only[Option.some.injEq,Prod.mk.injEq] at h
     obtain ⟨rfl,rfl⟩:=h
     rename_i hc
     exact ⟨T,by simp[Tr.dec,hc],hr,hl⟩
    ·simp at h
   ·simp[Tr.dec] at h
  ·simp[Tr.dec] at h
 ·rename_i r p s e
  split at h
  ·cases h1:tk S (.sl e) (.brw r p s) with
   | none=>rw[h1] at h;simp[Tr.dec] at h
   | some z=>
    obtain ⟨m1,xs,S1⟩:=z
    obtain ⟨T1,k1,k2,k3⟩:=q49 _ _ hr hl hx h1
    rw[h1] at h
    simp only[k1]
    cases m1 with
    | own s m=>
     simp only at h ⊢
     split at h
     ·split at h
      ·rename_i hc
       rw[if_pos hc]
       simp only[Tr.dec] at h ⊢
       split at h
       ·rename_i hd
        try simp only[hd]
        exact qse k2 k3 v S' h
       ·simp at h
      ·simp[Tr.dec] at h
     ·simp[Tr.dec] at h
    | _=>simp[Tr.dec] at h
  ·unfold qbcc at h ⊢
   have hf:=qj5 hr (hx r (by simp[AV.roots])) p
   rw[hf]
   split at h
   ·split at h
    ·rename_i hq
     try simp only[hq]
     split at h
     ·rename_i hc
      rw[if_pos hc]
      simp only[Tr.dec] at h ⊢
      split at h
      ·simp only[Option.some.injEq,Prod.mk.injEq] at h
       obtain ⟨rfl,rfl⟩:=h
       rename_i hd
       exact ⟨T,by simp[hd],hr,hl⟩
      ·simp at h
     ·simp[Tr.dec] at h
    ·simp[Tr.dec] at h
   ·simp[Tr.dec] at h
 ·simp[Tr.dec] at h
theorem qbsg {F:List Nat} {A:Asks} {S T:Rts} (hr:qb6 F S T) (hl:T.length=S.length) {d:Option Nat} {site:Nat}:∀ (rs:List RK) (r:RDen rs) {β:Bool},Lk F ((qes A S d site rs r).dec β) ((qes A T d site rs r).dec β)
 | [],r,β=>by
  intro v S' h
  simp only[qes,Tr.dec,Option.some.injEq,Prod.mk.injEq] at h ⊢
  obtain ⟨rfl,rfl⟩:=h
  exact ⟨T,⟨rfl,rfl⟩,hr,hl⟩
 | [.val t m],r,β=>by
  intro v S' h
  simp only[qes] at h ⊢
  split at h
  ·rename_i hs
   rw[if_pos hs]
   split at h
   ·rename_i hc
    rw[if_pos hc]
    simp only[Tr.dec,Option.some.injEq,Prod.mk.injEq] at h ⊢
    obtain ⟨rfl,rfl⟩:=h
    exact ⟨T,⟨rfl,rfl⟩,hr,hl⟩
   ·simp[Tr.dec] at h
  ·rename_i hs
   rw[if_neg hs]
   split at h
   ·rename_i hc
    rw[if_pos hc]
    exact qse hr hl v S' h
   ·simp[Tr.dec] at h
 | [.ptr t m],r,β=>by
  intro v S' h
  simp only[qes] at h ⊢
  split at h
  ·rename_i hc
   rw[if_pos hc]
   exact qse hr hl v S' h
  ·simp[Tr.dec] at h
 | q1::q2::rs,r,β=>by
  intro v S' h
  have e:∀ S:Rts,qes A S d site (q1::q2::rs) r=qtp A S d site (q1::q2::rs) r:=by intro S;cases q1<;>simp only[qes]
  rw[e] at h ⊢
  unfold qtp at h ⊢
  split at h
  ·rename_i hc
   rw[if_pos hc]
   cases d with
   | none=>
    simp only[Tr.dec,Option.some.injEq,Prod.mk.injEq] at h ⊢
    obtain ⟨rfl,rfl⟩:=h
    exact ⟨T,⟨rfl,rfl⟩,hr,hl⟩
   | some d=>
    simp only at h ⊢
    cases hL:layT A S (some d) site (qdw (q1::q2::rs)) (qlx (q1::q2::rs)) (resX (q1::q2::rs) r) false with
    | ret z=>
     obtain ⟨v1,S1⟩:=z
     rw[hL] at h
     simp only[Tr.dec,Option.some.injEq,Prod.mk.injEq] at h
     obtain ⟨rfl,rfl⟩:=h
     obtain ⟨T1,k1,k2,k3⟩:=qse (A:=A) (d:=some d) (site:=site) (t:=qdw (q1::q2::rs)) (m:=qlx (q1::q2::rs)) (x:=resX (q1::q2::rs) r) (mem:=false) (β:=true) hr hl v1 S1 (by rw[hL];rfl)
     cases hM:layT A T (some d) site (qdw (q1::q2::rs)) (qlx (q1::q2::rs)) (resX (q1::q2::rs) r) false with
     | ret z=>
      obtain ⟨v2,S2⟩:=z
      rw[hM] at k1
      simp only[Tr.dec,Option.some.injEq,Prod.mk.injEq] at k1
      obtain ⟨rfl,rfl⟩:=k1
      exact ⟨_,rfl,k2,k3⟩
     | fail=>rw[hM] at k1;simp[Tr.dec] at k1
     | _=>
      exfalso
      simp only[layT] at hM
      repeat' split at hM
      all_goals simp at hM
    | _=>rw[hL] at h;simp[Tr.dec] at h
  ·simp[Tr.dec] at h
section
variable {C:Ctx} {D:Den C}
theorem q6e {S T:Rts}:∀ (ks:List PK) (avs:List AV),ks.all PK.loc=true→qbf T ks avs=(qbf S ks avs).map fun z=>(z.1,T)
 | [],[],_=>rfl
 | [],_::_,_=>rfl
 | k::ks,[],_=>by cases k<;>rfl
 | k::ks,a::avs,h=>by
  simp only[List.all_cons,Bool.and_eq_true] at h
  cases k with
  | val t=>simp only[qbf];exact q6e ks avs h.2
  | rptr t=>simp only[qbf];exact q6e ks avs h.2
  | mutp t m m'=>simp only[qbf];exact q6e ks avs h.2
  | fn=>simp only[qbf];exact q6e ks avs h.2
  | _=>simp[PK.loc] at h
theorem qbv7 {S rt:Rts} {ks:List PK} {avs:List AV} {g:GDen ks} (hp:ks.all PK.loc=true) (h:qbf S ks avs=some (g,rt)):rt=S:=by
 have:=q6e (S:=S) (T:=S) ks avs hp
 rw[h] at this
 simp only[Option.map_some,Option.some.injEq,Prod.mk.injEq,true_and] at this
 exact this
theorem q6m {F:List Nat}:∀ (ks:List PK) (avs:List AV) {S T:Rts} {o:ODen ks} {S':Rts},qb6 F S T→T.length=S.length→ks.all PK.loc=true→(∀ r∈qo avs,r∈F)→qbd S ks avs=some (o,S')→
  ∃ T',qbd T ks avs=some (o,T')∧qb6 F S' T'∧T'.length=S'.length
 | [],[],S,T,o,S',hr,hl,_,_,h=>by
  simp only[qbd,Option.some.injEq,Prod.mk.injEq] at h
  obtain ⟨_,rfl⟩:=h
  exact ⟨T,rfl,hr,hl⟩
 | [],_::_,S,T,o,S',hr,hl,_,_,h=>by simp[qbd] at h
 | k::ks,[],S,T,o,S',hr,hl,_,_,h=>by cases k<;>simp[qbd] at h
 | k::ks,a::avs,S,T,o,S',hr,hl,hp,hF,h=>by
  simp only[List.all_cons,Bool.and_eq_true] at hp
  have hF2:∀ r∈qo avs,r∈F:=fun r h=>hF r (by simp[qo,h])
  cases k with
  | val t=>simp only[qbd] at h ⊢;exact q6m ks avs hr hl hp.2 hF2 h
  | rptr t=>simp only[qbd] at h ⊢;exact q6m ks avs hr hl hp.2 hF2 h
  | fn=>simp only[qbd] at h ⊢;exact q6m ks avs hr hl hp.2 hF2 h
  | mutp t m m'=>
   cases a with
   | addr q p=>
    cases p with
    | nil=>
     have hq:=hr q (hF q (by simp[qo,AV.roots]))
     simp only[qbd] at h ⊢
     rw[hq]
     cases hR:S.root q with
     | none=>rw[hR] at h;simp at h
     | some R=>
      rw[hR] at h
      simp only at h ⊢
      split at h
      ·rename_i hc
       rw[if_pos hc]
       simp only[Option.bind_eq_some_iff,Option.some.injEq,Prod.mk.injEq] at h ⊢
       obtain ⟨x,hx,⟨o2,S2⟩,h2,rfl,rfl⟩:=h
       obtain ⟨T2,q1,q2,q3⟩:=q6m ks avs (qwa hr hl q none) (by simp[Rts.setRoot,hl]) hp.2 hF2 h2
       exact ⟨T2,⟨x,hx,(o2,T2),q1,rfl,rfl⟩,q2,q3⟩
      ·simp at h
    | cons _ _=>simp[qbd] at h
   | _=>simp[qbd] at h
  | _=>simp[PK.loc] at hp
theorem qbbe {F:List Nat} {site:Nat}:∀ (ks:List PK) (avs:List AV) (o:ODen ks) {S T:Rts} {S':Rts},qb6 F S T→T.length=S.length→ks.all PK.loc=true→qbm S site ks avs o=some S'→
  ∃ T',qbm T site ks avs o=some T'∧qb6 F S' T'∧T'.length=S'.length
 | [],[],o,S,T,S',hr,hl,_,h=>by
  simp only[qbm,Option.some.injEq] at h
  subst h
  exact ⟨T,rfl,hr,hl⟩
 | [],_::_,o,S,T,S',hr,hl,_,h=>by simp[qbm] at h
 | k::ks,[],o,S,T,S',hr,hl,_,h=>by cases k<;>simp[qbm] at h
 | k::ks,a::avs,o,S,T,S',hr,hl,hp,h=>by
  simp only[List.all_cons,Bool.and_eq_true] at hp
  cases k with
  | val t=>simp only[qbm] at h ⊢;exact qbbe ks avs o hr hl hp.2 h
  | rptr t=>simp only[qbm] at h ⊢;exact qbbe ks avs o hr hl hp.2 h
  | fn=>simp only[qbm] at h ⊢;exact qbbe ks avs o hr hl hp.2 h
  | mutp t m m'=>
   cases a with
   | addr q p=>
    cases p with
    | nil=>
     simp only[qbm] at h ⊢
     split at h
     ·rename_i hc
      rw[if_pos hc]
      exact qbbe ks avs o.2 (qwa hr hl q _) (by simp[Rts.setRoot,hl]) hp.2 h
     ·simp at h
    | cons _ _=>simp[qbm] at h
   | _=>simp[qbm] at h
  | _=>simp[PK.loc] at hp
theorem qbv0 {F:List Nat} {A:Asks} {S T:Rts} (hr:qb6 F S T) (hl:T.length=S.length) {d:Option Nat} {site:Nat} {g:FuncId} {avs:List AV} (hp:(C.sig g).params.all PK.loc=true) (has:∀ r∈qo avs,r∈F) {β:Bool} :
  Lk F ((qr4 C D A S d site g avs).dec β) ((qr4 C D A T d site g avs).dec β):=by
 intro v S' h
 unfold qr4 at h ⊢
 rw[q6e (S:=S) (T:=T) _ _ hp]
 cases h1:qbf S (C.sig g).params avs with
 | none=>rw[h1] at h;simp[Tr.dec] at h
 | some z=>
  obtain ⟨gd,S1⟩:=z
  obtain rfl:=qbv7 hp h1
  rw[h1] at h
  simp only[Option.map_some] at h ⊢
  cases h2:qbd S1 (C.sig g).params avs with
  | none=>rw[h2] at h;simp[Tr.dec] at h
  | some z=>
   obtain ⟨od,S2⟩:=z
   obtain ⟨T2,k1,k2,k3⟩:=q6m _ _ hr hl hp has h2
   rw[h2] at h
   simp only[k1] at h ⊢
   rw[qg0 _ _ _ _ (k2.sub has)]
   cases h3:qcr S2 (C.sig g).params avs gd od with
   | none=>rw[h3] at h;simp[Tr.dec] at h
   | some aa=>
    rw[h3] at h
    simp only at h ⊢
    split at h
    ·rename_i hc
     rw[if_pos hc]
     simp only[Tr.dec] at h ⊢
     cases hD:D g aa with
     | none=>rw[hD] at h;simp at h
     | some rr=>
      rw[hD] at h
      simp only[Option.bind_some] at h ⊢
      split at h
      ·rename_i hn
       rw[if_pos hn]
       exact qbsg hr hl _ _ v S' h
      ·rename_i hn
       rw[if_neg hn]
       split at h
       ·rename_i hfr
        rw[if_pos hfr]
        simp only[Tr.dec] at h ⊢
        split at h
        ·rename_i hlo
         cases ho:qbm S1 site (C.sig g).params avs rr.2 with
         | none=>rw[ho] at h;simp[Tr.dec] at h
         | some S3=>
          obtain ⟨T3,q1,q2,q3⟩:=qbbe _ _ _ hr hl hp ho
          rw[ho] at h
          simp only at h
          obtain ⟨T',r1,r2,r3⟩:=qbsg q2 q3 _ _ v S' h
          exact ⟨T',by rw[q1];exact r1,r2,r3⟩
        ·simp at h
       ·simp[Tr.dec] at h
    ·simp[Tr.dec] at h
theorem qbws {F:List Nat} {A:Asks} {ρ:Operand→AV} {S T:Rts} (hr:qb6 F S T) (hl:T.length=S.length) {site:Nat} {hint:Bool} {o:Oper} (hlc:qtj C ρ o=true)
  (hF:∀ r∈qo (o.op.operands.toList.map ρ),r∈F) {β:Bool}:Lk F ((opT C D A ρ S site hint o).dec β) ((opT C D A ρ T site hint o).dec β):=by
 have hin:∀ {x:Operand},x∈o.op.operands→∀ r∈(ρ x).roots,r∈F:=fun hx r hr=>hF r (q3q (List.mem_map.2 ⟨_,by simpa using hx,rfl⟩) r hr)
 intro v S' h
 cases ho:o.op with
 | alloc t=>
  simp only[opT,ho] at h ⊢
  split at h
  ·rename_i hc
   rw[if_pos hc];exact qse hr hl v S' h
  ·simp[Tr.dec] at h
 | box t x=>
  have hx:=hin (x:=x) (by rw[ho];simp[Op.operands])
  simp only[opT,ho] at h ⊢
  split at h
  ·rename_i hc
   rw[if_pos hc]
   cases h1:tk S (C.ty t) (ρ x) with
   | none=>rw[h1] at h;simp[Tr.dec] at h
   | some z=>
    obtain ⟨m,y,S1⟩:=z
    obtain ⟨T1,k1,k2,k3⟩:=q49 _ _ hr hl hx h1
    rw[h1] at h
    rw[k1]
    simp only at h ⊢
    split at h
    ·rename_i hh
     rw[if_pos hh]
     split at h
     ·rename_i hm
      rw[if_pos hm];exact qse k2 k3 v S' h
     ·simp[Tr.dec] at h
    ·rename_i hh
     rw[if_neg hh];exact qse k2 k3 v S' h
  ·simp[Tr.dec] at h
 | build t ps=>
  simp only[opT,ho] at h ⊢
  split at h
  ·rename_i hc
   rw[if_pos hc]
   cases h1:qe7 S (C.ty t) (Mk.top (C.ty t),(C.ty t).zero) (ps.toList.map fun p=>(p.1,ρ p.2)) with
   | none=>rw[h1] at h;simp[Tr.dec] at h
   | some z=>
    obtain ⟨m,y,S1⟩:=z
    obtain ⟨T1,k1,k2,k3⟩:=qbnj _ _ hr hl (fun r hr=>by rw[q0b] at hr;exact hF r (by rw[ho];simpa [Op.operands] using hr)) h1
    rw[h1] at h
    rw[k1]
    exact qse k2 k3 v S' h
  ·simp[Tr.dec] at h
 | buildSlice t n ps=>
  simp only[opT,ho] at h ⊢
  split at h
  ·rename_i e he
   cases h1:qh9 S e (Mk.top e,List.replicate n e.zero) (ps.toList.map fun p=>(p.1,ρ p.2)) with
   | none=>rw[h1] at h;simp[Tr.dec] at h
   | some z=>
    obtain ⟨m,y,S1⟩:=z
    obtain ⟨T1,k1,k2,k3⟩:=qbrs _ _ hr hl (fun r hr=>by rw[q0b] at hr;exact hF r (by rw[ho];simpa [Op.operands] using hr)) h1
    rw[h1] at h
    simp only[k1]
    simp only at h
    split at h
    ·rename_i hc
     rw[if_pos hc]
     split at h
     ·rename_i hh
      rw[if_pos hh]
      split at h
      ·rename_i hm
       rw[if_pos hm]
       simp only[Tr.dec,Option.some.injEq,Prod.mk.injEq] at h ⊢
       obtain ⟨rfl,rfl⟩:=h
       exact ⟨T1,⟨rfl,rfl⟩,k2,k3⟩
      ·simp[Tr.dec] at h
     ·rename_i hh
      rw[if_neg hh]
      exact qse k2 k3 v S' h
    ·simp[Tr.dec] at h
  ·simp[Tr.dec] at h
 | makeSlice t x y=>
  simp only[opT,ho] at h ⊢
  split at h
  ·simp only[Tr.dec] at h ⊢
   split at h
   ·rename_i hc
    try simp only[hc]
    exact qse hr hl v S' h
   ·simp at h
  ·simp[Tr.dec] at h
 | slice t x lo hi mx=>
  cases mx with
  | none=>
   have hx:=hin (x:=x) (by rw[ho];simp[Op.operands])
   simp only[opT,ho] at h ⊢
   exact qbue hr hl hx v S' h
  | some _=>simp[qtj,ho] at hlc
 | call c=>
  simp only[qtj,ho] at hlc
  cases hc:c.callee with
  | builtin b=>
   rw[hc] at hlc
   cases b<;>simp only[Bool.false_eq_true] at hlc
   have hargs:∀ x∈c.args,∀ r∈(ρ x).roots,r∈F:=fun x hx=>hin (by rw[ho];simp only[Op.operands,Call.operands,Array.mem_append];right;simpa using hx)
   simp only[opT,ho,hc] at h ⊢
   split at h
   ·exact Builtin.noConfusion ‹Builtin.append=Builtin.len›
   ·exact Builtin.noConfusion ‹Builtin.append=Builtin.len›
   ·rename_i x y t t' ts e1 e2 e3
    have hm:∀ z∈c.args.toList.map ρ,∀ r∈z.roots,r∈F:=by
     intro z hz
     obtain ⟨w,hw,rfl⟩:=List.mem_map.1 hz
     exact hargs w (by simpa using hw)
    rw[e2] at hm
    try simp only[e2,e3]
    split at h
    ·rename_i ht
     rw[if_pos ht]
     split at h
     ·rename_i hh
      rw[if_pos hh]
      exact qbu0 hr hl (hm x (by simp)) v S' h
     ·rename_i hh
      rw[if_neg hh]
      exact qbq6 hr hl (hm x (by simp)) (hm y (by simp)) v S' h
    ·simp[Tr.dec] at h
   ·exact Builtin.noConfusion ‹Builtin.append=Builtin.clear›
   ·exact Builtin.noConfusion ‹Builtin.append=Builtin.min›
   ·exact Builtin.noConfusion ‹Builtin.append=Builtin.max›
   ·simp[Tr.dec] at h
  | value f=>
   rw[hc] at hlc
   simp only at hlc
   cases hf:ρ f with
   | clo g caps=>
    rw[hf] at hlc
    simp only at hlc
    simp only[opT,ho,hc,hf] at h ⊢
    refine qbv0 hr hl hlc ?_ v S' h
    intro r hr
    rw[q5k] at hr
    rcases hr with hr | hr
    ·refine hF r ?_
     rw[ho]
     simp only[Op.operands,Call.operands,hc]
     have:∀ l:List AV,∀ a,r∈qo l→r∈qo (a::l):=fun l a h=>by simp[qo,h]
     simpa using this _ _ hr
    ·have:=q4s caps r hr
     exact hin (x:=f) (by rw[ho];simp[Op.operands,Call.operands,hc]) r (by rw[hf];simpa [AV.roots] using this)
   | _=>rw[hf] at hlc;simp at hlc
  | invoke r m=>rw[hc] at hlc;simp at hlc
 | _=>simp[qtj,ho] at hlc
end
end Go.V

namespace Go.V
open Go
theorem qzc {d:Nat}:∀ (v:AV),d∉v.roots→v.noPl d=true
 | .addr r p,h=>by
  simp only[AV.roots,List.mem_singleton] at h
  simp only[AV.noPl,Bool.or_eq_true,Bool.not_eq_true']
  left
  cases hb:Nat.beq r d with
  | false=>rfl
  | true=>exact absurd (Nat.eq_of_beq_eq_true hb).symm h
 | .pair a b,h=>by
  simp only[AV.roots,List.mem_append,not_or] at h
  simp only[AV.noPl,Bool.and_eq_true]
  exact ⟨qzc a h.1,qzc b h.2⟩
 | .tup a,h=>qzc a h
 | .clo _ a,h=>qzc a h
 | .undef,_=>rfl
 | .skip,_=>rfl
 | .litB _,_=>rfl
 | .unit,_=>rfl
 | .nils,_=>rfl
 | .val _ _,_=>rfl
 | .brw _ _ _,_=>rfl
 | .view _ _ _ _ _,_=>rfl
 | .raddr _ _,_=>rfl
 | .cloV _,_=>rfl
theorem qbir {s s':Nat} (h:s≠s'):(!(Nat.ble s s'&&Nat.blt s' (s+1)))=true:=by
 cases h1:Nat.ble s s' with
 | false=>rfl
 | true=>
  cases h2:Nat.blt s' (s+1) with
  | false=>rfl
  | true=>
   have a:=Nat.le_of_ble_eq_true h1
   have b:s'+1≤s+1:=Nat.le_of_ble_eq_true h2
   omega
theorem qwr {s:Nat}:∀ (p:Path),s∉qm6 p→qc6 s (s+1) p=true
 | [],_=>rfl
 | x::p,h=>by
  cases x with
  | idx i s'=>
   simp only[qm6,List.mem_cons,not_or] at h
   simp only[qc6,Bool.and_eq_true]
   exact ⟨qbir h.1,qwr p h.2⟩
  | _=>exact qwr p (by simpa [qm6] using h)
theorem qtt {s:Nat}:∀ (v:AV),s∉v.stamps→v.stampsOk s (s+1)=true
 | .addr r p,h=>qwr p h
 | .brw r p s',h=>by
  simp only[AV.stamps,List.mem_cons,not_or] at h
  simp only[AV.stampsOk,Bool.and_eq_true]
  exact ⟨qbir h.1,qwr p h.2⟩
 | .view r p s' _ _,h=>by
  simp only[AV.stamps,List.mem_cons,not_or] at h
  simp only[AV.stampsOk,Bool.and_eq_true]
  exact ⟨qbir h.1,qwr p h.2⟩
 | .pair a b,h=>by
  simp only[AV.stamps,List.mem_append,not_or] at h
  simp only[AV.stampsOk,Bool.and_eq_true]
  exact ⟨qtt a h.1,qtt b h.2⟩
 | .tup a,h=>qtt a h
 | .clo _ a,h=>qtt a h
 | .undef,_=>rfl
 | .skip,_=>rfl
 | .litB _,_=>rfl
 | .unit,_=>rfl
 | .nils,_=>rfl
 | .val _ _,_=>rfl
 | .raddr _ _,_=>rfl
 | .cloV _,_=>rfl
theorem qgu:∀ {l l':List Nat},disj l l'=true→∀ x∈l,x∉l'
 | [],_,_,x,hx=>by simp at hx
 | a::l,l',h,x,hx=>by
  simp only[disj,Bool.and_eq_true,Bool.not_eq_true'] at h
  rcases List.mem_cons.1 hx with rfl | hx
  ·intro hh;have:=h.1;simp at this;exact this hh
  ·exact qgu h.2 x hx
theorem quy {S:St} {u r:Nat}:∀ {ts:List Nat},u∈ts→r∈(S.get u).roots→r∈rootsAt S ts
 | [],h,_=>by simp at h
 | t::ts,h,hr=>by
  simp only[rootsAt,List.mem_append]
  rcases List.mem_cons.1 h with rfl | h
  ·exact .inl hr
  ·exact .inr (quy h hr)
theorem qst {S:St} {u r:Nat}:∀ {ts:List Nat},u∈ts→r∈(S.get u).stamps→r∈stampsAt S ts
 | [],h,_=>by simp at h
 | t::ts,h,hr=>by
  simp only[stampsAt,List.mem_append]
  rcases List.mem_cons.1 h with rfl | h
  ·exact .inl hr
  ·exact .inr (qst h hr)
theorem q1c {S T:St}:∀ {ts:List Nat},(∀ u∈ts,T.get u=S.get u)→rootsAt T ts=rootsAt S ts
 | [],_=>rfl
 | t::ts,h=>by simp only[rootsAt];rw[h t List.mem_cons_self,q1c fun u hu=>h u (List.mem_cons_of_mem _ hu)]
theorem qy4 {S T:St}:∀ {ts:List Nat},(∀ u∈ts,T.get u=S.get u)→stampsAt T ts=stampsAt S ts
 | [],_=>rfl
 | t::ts,h=>by simp only[stampsAt];rw[h t List.mem_cons_self,qy4 fun u hu=>h u (List.mem_cons_of_mem _ hu)]
theorem qbsr {S T:St} (hl:T.sl.length=S.sl.length) (hg:∀ u,T.get u=S.get u) (hr:T.rt=S.rt):T=S:=by
 obtain ⟨a,b⟩:=S
 obtain ⟨c,d⟩:=T
 simp only at hl hr
 subst hr
 have:c=a:=by
  apply List.ext_getElem hl
  intro i h1 h2
  have:=hg i
  simp only[St.get,List.getD,List.getElem?_eq_getElem h1,List.getElem?_eq_getElem h2,Option.getD_some] at this
  exact this
 rw[this]
section
variable {C:Ctx} {D:Den C} {hints:Hints} {id:Nat} {ops:Array Oper}
theorem qbju {S T:St} {y:Oper} (h:∀ u∈qqs ops y,T.get u=S.get u):∀ x∈y.op.operands,ev T x=ev S x:=by
 intro x hx
 cases x with
 | tmp t=>
  simp only[ev]
  rw[h t (by
   unfold qqs
   rw[List.mem_append]
   right
   rw[List.mem_filterMap]
   exact ⟨.tmp t,by simpa using hx,rfl⟩)]
 | _=>rfl
theorem qbgy {S T:St} {y:Oper} (h:∀ u∈qqs ops y,T.get u=S.get u):qgz ops T y=qgz ops S y:=by
 unfold qgz
 cases hg:y.guard with
 | none=>rfl
 | some jb=>
  obtain ⟨j,b⟩:=jb
  simp only
  rw[h (qfn ops j) (by unfold qqs;rw[hg];simp)]
theorem qbfv {S T:St} {j site:Nat} {y:Oper} {v:AV} {a b:Rts} (hr:wrOf C (ev S) y=none∨(T.rt=S.rt∧a=b)∨qtj C (ev S) y=true) (hk:∀ u∈qqs ops y,T.get u=S.get u) (ho:∀ u∈qc4 ops j y,T.get u=S.get u):qh3 C ops T site j y v a=qh3 C ops S site j y v b:=by
 have he:=qbju hk
 have hv:q7d T y=q7d S y:=by
  unfold q7d
  exact List.map_congr_left fun x hx=>he x (by simpa using hx)
 unfold qh3
 have hld:ldOf C (ev T) y v=ldOf C (ev S) y v:=by
  unfold ldOf
  split
  ·rename_i t x hop
   rw[he x (by rw[hop];simp[Op.operands])]
  ·rename_i t x f hop
   rw[he x (by rw[hop];simp[Op.operands])]
  ·rfl
 rw[hv,q1c ho,qy4 ho,qbti (C:=C) y he,qbrt (C:=C) y he,hld]
 rcases hr with h | ⟨h1,h2⟩ | h
 ·rw[h]
 ·rw[h1,h2]
 ·rw[h];cases wrOf C (ev S) y<;>rfl
theorem qbro {S T:St} {j site:Nat} {y:Oper} (ho:∀ u∈qc4 ops j y,T.get u=S.get u):qfv ops T site j y=qfv ops S site j y:=by
 unfold qfv
 rw[q1c ho,qy4 ho]
theorem q7o {S T:St} {rt rt':Rts} {j:Nat} {y:Oper} {v:AV} (hl:T.sl.length=S.sl.length) (ho:∀ u∈qc4 ops j y,T.get u=S.get u):∀ u∈qc4 ops j y,(fin ops ⟨T.sl,rt⟩ j y v).get u=(fin ops ⟨S.sl,rt'⟩ j y v).get u:=by
 intro u hu
 rw[qqo,qqo]
 simp only[hl]
 have:=ho u hu
 by_cases h1:y.dst=some u∧u<S.sl.length
 ·rw[if_pos h1,if_pos h1]
 ·rw[if_neg h1,if_neg h1]
  by_cases h2:u∈qhg ops j y
  ·rw[if_pos h2,if_pos h2]
  ·rw[if_neg h2,if_neg h2];exact this
theorem qba2 {S:St} {A:Asks} {site:Nat} {hint:Bool} {y:Oper} (hw:wrOf C (ev S) y=none) {T:St} {A':Asks} (hrl:T.rt.length=S.rt.length)
  (hr:qb6 (if qik y then [] else qo (q7d S y)) S.rt T.rt) {β:Bool} {v:AV} {rt':Rts} (h:(opT C D A (ev S) S.rt site hint y).dec β=some (v,rt')):rt'=S.rt∧(opT C D A' (ev S) T.rt site hint y).dec β=some (v,T.rt):=
 qbrz (A:=A) (A':=A') hrl hw hr β v rt' h
def qbqe (e:Ent) (S T:Rts):Prop:=qb6 e.rd S T∨e.bl=true∨∃ l,e.ld=some l∧l.1 T=some l.2
theorem qbsj {S T:St} {A A':Asks} {site:Nat} {hint:Bool} {y:Oper} {β:Bool} {v:AV} {rt':Rts} (h:(opT C D A (ev S) S.rt site hint y).dec β=some (v,rt')) {l:(Rts→Option AV)×AV} (hl:ldOf C (ev S) y v=some l)
  (hT:l.1 T.rt=some l.2):rt'=S.rt∧(opT C D A' (ev S) T.rt site hint y).dec β=some (v,T.rt):=by
 unfold ldOf at hl
 split at hl
 ·rename_i t a hop
  simp only[Option.some.injEq] at hl
  subst hl
  simp only[opT,hop] at h ⊢
  simp only at hT
  by_cases hnz:(C.ty t).nz=true
  ·rw[if_pos hnz] at h hT ⊢
   rw[hT]
   cases hv:qo1 S.rt (C.ty t) (ev S a) with
   | none=>rw[hv] at h;simp[Tr.of,Tr.dec] at h
   | some v2=>
    rw[hv] at h
    simp only[Option.map_some,Tr.of,Tr.dec,Option.some.injEq,Prod.mk.injEq] at h ⊢
    exact ⟨h.2.symm,trivial⟩
  ·rw[if_neg hnz] at hT;simp at hT
 ·rename_i t a f hop
  simp only[Option.some.injEq] at hl
  subst hl
  simp only[opT,hop] at h ⊢
  simp only at hT
  rw[hT]
  cases hv:qj2 S.rt (C.ty t) (ev S a) f with
  | none=>rw[hv] at h;simp[Tr.of,Tr.dec] at h
  | some v2=>
   rw[hv] at h
   simp only[Option.map_some,Tr.of,Tr.dec,Option.some.injEq,Prod.mk.injEq] at h ⊢
   exact ⟨h.2.symm,trivial⟩
 ·simp at hl
theorem qbq1 {S T S':St} {e:Ent} {β:Bool} {j:Nat} {y:Oper} (hs:qco C D hints id ops β S j y=some (S',e)) (hl:T.sl.length=S.sl.length) (hrl:T.rt.length=S.rt.length)
  (hk:∀ u∈qqs ops y,T.get u=S.get u) (ho:∀ u∈qc4 ops j y,T.get u=S.get u)
  (hm:(T.rt=S.rt∧qd7 T.sl y.dst (id * 256+j+1)=qd7 S.sl y.dst (id * 256+j+1))∨(e.wr=none∧qbqe e S.rt T.rt)) :
  ∃ T',qco C D hints id ops β T j y=some (T',e)∧(∀ u∈qc4 ops j y,T'.get u=S'.get u)∧(e.wr=none→S'.rt=S.rt∧T'.rt=T.rt)∧(T.rt=S.rt→T'.rt=S'.rt):=by
 have hg:=qbgy (ops:=ops) hk
 have he:=qbju hk
 unfold qco at hs ⊢
 rw[hg]
 split at hs
 ·rename_i hgt
  simp only[Option.map_eq_some_iff,Prod.mk.injEq] at hs
  obtain ⟨⟨v,rt'⟩,hd,hS,hee⟩:=hs
  subst hS
  subst hee
  have hcongr:∀ {A:Asks} {R:Rts},opT C D A (ev T) R (id * 256+j+1) (hints.share.contains (id,j)) y=opT C D A (ev S) R (id * 256+j+1) (hints.share.contains (id,j)) y:=qbnn y he
  have hq:wrOf C (ev S) y=none→rt'=S.rt:=fun hw=>(qba2 (T:=S) (A':=qd7 S.sl y.dst (id * 256+j+1)) hw rfl (fun _ _=>rfl) hd).1
  rcases hm with ⟨hrt,hask⟩ | ⟨hw,hra⟩
  ·refine ⟨fin ops ⟨T.sl,rt'⟩ j y v,?_,q7o hl ho,fun hw=>?_,fun _=>?_⟩
   ·unfold opAt at hd ⊢
    rw[hask,hcongr,hrt,hd]
    simp only[Option.map_some,qbfv (.inr (.inl ⟨hrt,rfl⟩)) hk ho]
   ·rw[qhq,qhq]
    have:=hq hw
    simp only at this ⊢
    exact ⟨this,this.trans hrt.symm⟩
   ·rw[qhq,qhq]
  ·have hw':wrOf C (ev S) y=none:=hw
   have hq2:rt'=S.rt∧(opT C D (qd7 T.sl y.dst (id * 256+j+1)) (ev S) T.rt (id * 256+j+1) (hints.share.contains (id,j)) y).dec β=some (v,T.rt):=by
    rcases hra with hra | hb | ⟨l,h1,h2⟩
    ·exact qba2 (T:=T) (A':=qd7 T.sl y.dst (id * 256+j+1)) hw' hrl (hra.sub fun r hr=>by simp only[qh3,List.mem_append];exact .inr (.inl hr)) hd
    ·have hb':qik y=true:=hb
     exact qba2 (T:=T) (A':=qd7 T.sl y.dst (id * 256+j+1)) hw' hrl (by rw[if_pos hb'];intro r hr;simp at hr) hd
    ·exact qbsj hd h1 h2
   refine ⟨fin ops ⟨T.sl,T.rt⟩ j y v,?_,q7o hl ho,fun _=>?_,fun hrt=>?_⟩
   ·unfold opAt
    rw[hcongr,hq2.2]
    simp only[Option.map_some,qbfv (b:=rt') (.inl hw') hk ho]
   ·rw[qhq,qhq];exact ⟨hq2.1,rfl⟩
   ·rw[qhq,qhq];exact hrt.trans hq2.1.symm
 ·rename_i hgt
  simp only[Option.some.injEq,Prod.mk.injEq] at hs
  obtain ⟨hS,hee⟩:=hs
  subst hS
  subst hee
  refine ⟨fin ops T j y .skip,by rw[qbro ho],?_,fun _=>?_,fun hrt=>?_⟩
  ·exact q7o (S:=S) (T:=T) (rt:=T.rt) (rt':=S.rt) hl ho
  ·rw[qhq,qhq];exact ⟨rfl,rfl⟩
  ·rw[qhq,qhq];exact hrt
 ·simp at hs
theorem qbud {S S':St} {e:Ent} {β:Bool} {j:Nat} {y:Oper} (hs:qco C D hints id ops β S j y=some (S',e)) (hw:e.wr=none):S'.rt=S.rt:=by
 obtain ⟨_,_,_,h,_⟩:=qbq1 (T:=S) hs rfl rfl (fun _ _=>rfl) (fun _ _=>rfl) (.inl ⟨rfl,rfl⟩)
 exact (h hw).1
theorem qbwf {ρ:Operand→AV} {o:Oper} {W:List Nat} (h:wrOf C ρ o=some W):∀ d,o.dst=some d→d∈W:=by
 intro d hd
 unfold wrOf at h
 simp only[hd,Option.toList_some] at h
 repeat' split at h
 all_goals first
  | (simp only[Option.some.injEq] at h;subst h;simp;done)
  | (simp at h;done)
theorem qpm {S S':St} {e:Ent} {β:Bool} {j:Nat} {y:Oper} {W:List Nat} (hs:qco C D hints id ops β S j y=some (S',e)) (hw:e.wr=some W):Frm W S.rt S'.rt∧(∀ d,y.dst=some d→d∈W):=by
 unfold qco at hs
 split at hs
 ·simp only[Option.map_eq_some_iff,Prod.mk.injEq] at hs
  obtain ⟨⟨v,rt'⟩,hd,hS,hee⟩:=hs
  subst hS
  subst hee
  have hw':wrOf C (ev S) y=some W:=hw
  rw[qhq]
  exact ⟨qbsh hw' hd,qbwf hw'⟩
 ·simp only[Option.some.injEq,Prod.mk.injEq] at hs
  obtain ⟨hS,hee⟩:=hs
  subst hee
  simp[qfv] at hw
 ·simp at hs
theorem qbeo {S S':St} {e:Ent} {β:Bool} {j:Nat} {y:Oper} (hs:qco C D hints id ops β S j y=some (S',e)) {u:Nat} (hu:u∈qc4 ops j y) :
  (∀ r∈(S.get u).roots,r∈e.rd)∧(∀ r∈(S'.get u).roots,r∈e.rd)∧(∀ r∈(S.get u).stamps,r∈e.st)∧(∀ r∈(S'.get u).stamps,r∈e.st):=by
 unfold qco at hs
 split at hs
 ·simp only[Option.map_eq_some_iff,Prod.mk.injEq] at hs
  obtain ⟨⟨v,rt'⟩,hd,hS,hee⟩:=hs
  subst hS
  subst hee
  simp only[qh3,List.mem_append]
  refine ⟨fun r hr=>.inr (.inr (quy hu hr)),fun r hr=>?_,fun r hr=>.inr (qst hu hr),fun r hr=>?_⟩
  ·rw[qqo] at hr
   split at hr
   ·exact .inl hr
   ·split at hr
    ·simp[AV.roots] at hr
    ·exact .inr (.inr (quy hu hr))
  ·rw[qqo] at hr
   split at hr
   ·exact .inl hr
   ·split at hr
    ·simp[AV.stamps] at hr
    ·exact .inr (qst hu hr)
 ·simp only[Option.some.injEq,Prod.mk.injEq] at hs
  obtain ⟨hS,hee⟩:=hs
  subst hS
  subst hee
  simp only[qfv]
  refine ⟨fun r hr=>quy hu hr,fun r hr=>?_,fun r hr=>qst hu hr,fun r hr=>?_⟩
  ·rw[qqo] at hr
   split at hr
   ·simp[AV.roots] at hr
   ·split at hr
    ·simp[AV.roots] at hr
    ·exact quy hu hr
  ·rw[qqo] at hr
   split at hr
   ·simp[AV.stamps] at hr
   ·split at hr
    ·simp[AV.stamps] at hr
    ·exact qst hu hr
 ·simp at hs
theorem qpy {S S':St} {e:Ent} {β:Bool} {j:Nat} {y:Oper} (hs:qco C D hints id ops β S j y=some (S',e)):S'.sl.length=S.sl.length∧∀ u,u∉qc4 ops j y→S'.get u=S.get u:=by
 refine ⟨?_,fun u hu=>(q53 hs hu).1⟩
 unfold qco at hs
 split at hs
 ·simp only[Option.map_eq_some_iff,Prod.mk.injEq] at hs
  obtain ⟨⟨v,rt'⟩,hd,hS,hee⟩:=hs
  subst hS
  rw[q3a]
 ·simp only[Option.some.injEq,Prod.mk.injEq] at hs
  obtain ⟨hS,hee⟩:=hs
  subst hS
  rw[q3a]
 ·simp at hs
theorem qv8 {S S':St} {e:Ent} {β:Bool} {j:Nat} {y:Oper} (hs:qco C D hints id ops β S j y=some (S',e)) {d:Option Nat} {s:Nat} {W:List Nat} (hd:∀ d',d=some d'→d'∈W) (hdis:disj W e.rd=true)
  (hst:e.st.contains s=false):qd7 S'.sl d s=qd7 S.sl d s:=by
 obtain ⟨hl,hf⟩:=qpy hs
 have hst':s∉e.st:=by simpa using hst
 refine qbpr d s hl (fun d' e1 k _=>?_) (fun d' e1 k _=>?_) (fun k=>?_)
 ·by_cases hk:k∈qc4 ops j y
  ·obtain ⟨h1,h2,_,_⟩:=qbeo hs hk
   have hn:=qgu hdis d' (hd d' e1)
   have a1:d'∉(S.get k).roots:=fun h=>hn (h1 _ h)
   have a2:d'∉(S'.get k).roots:=fun h=>hn (h2 _ h)
   simp only[St.get] at a1 a2
   rw[List.contains_eq_mem,List.contains_eq_mem,decide_eq_false a1,decide_eq_false a2]
  ·have:=hf k hk;simp only[St.get] at this;rw[this]
 ·by_cases hk:k∈qc4 ops j y
  ·obtain ⟨h1,h2,_,_⟩:=qbeo hs hk
   have hn:=qgu hdis d' (hd d' e1)
   have a1:d'∉(S.get k).roots:=fun h=>hn (h1 _ h)
   have a2:d'∉(S'.get k).roots:=fun h=>hn (h2 _ h)
   have b1:=qzc _ a1
   have b2:=qzc _ a2
   simp only[St.get] at b1 b2
   rw[b1,b2]
  ·have:=hf k hk;simp only[St.get] at this;rw[this]
 ·by_cases hk:k∈qc4 ops j y
  ·obtain ⟨_,_,h1,h2⟩:=qbeo hs hk
   have b1:=qtt (s:=s) _ (fun h=>hst' (h1 _ h))
   have b2:=qtt (s:=s) _ (fun h=>hst' (h2 _ h))
   simp only[St.get] at b1 b2
   rw[b1,b2]
  ·have:=hf k hk;simp only[St.get] at this;rw[this]
theorem q43 {S S':St} {e:Ent} {β:Bool} {j:Nat} {y:Oper} (hs:qco C D hints id ops β S j y=some (S',e)):e.site=id * 256+j+1∧e.i=j:=by
 unfold qco at hs
 split at hs
 ·simp only[Option.map_eq_some_iff,Prod.mk.injEq] at hs
  obtain ⟨⟨v,rt'⟩,hd,hS,hee⟩:=hs
  subst hee
  exact ⟨rfl,rfl⟩
 ·simp only[Option.some.injEq,Prod.mk.injEq] at hs
  obtain ⟨hS,hee⟩:=hs
  subst hee
  exact ⟨rfl,rfl⟩
 ·simp at hs
theorem qbii {S:Rts} {l:(Rts→Option AV)×AV} (h:qbcj S l=true):l.1 S=some l.2:=by
 have hp:∀ (p q:Path),qsr p q=true→p=q:=by
  intro p
  induction p with
  | nil=>intro q h;cases q<;>simp_all [qsr]
  | cons x p ih=>
   intro q h
   cases q with
   | nil=>cases x<;>simp[qsr] at h
   | cons y q=>
    cases x<;>cases y<;>simp only[qsr,Bool.false_eq_true] at h
    ·rw[ih q h]
    ·rw[ih q h]
 unfold qbcj at h
 split at h
 ·rename_i r p s r' p' s' h1 h2
  simp only[Bool.and_eq_true] at h
  rw[h1,h2,Nat.eq_of_beq_eq_true h.1.1,hp _ _ h.1.2,Nat.eq_of_beq_eq_true h.2]
 ·rename_i r p r' p' h1 h2
  simp only[Bool.and_eq_true] at h
  rw[h1,h2,Nat.eq_of_beq_eq_true h.1,hp _ _ h.2]
 ·simp at h
theorem qbwl {S S':St} {e:Ent} {β:Bool} {j:Nat} {y:Oper} {W:List Nat} (hs:qco C D hints id ops β S j y=some (S',e)) (hw:e.wr=some W):(e.io=none∨e.io=some (S.rt,S'.rt))∧e.dst=y.dst:=by
 unfold qco at hs
 split at hs
 ·simp only[Option.map_eq_some_iff,Prod.mk.injEq] at hs
  obtain ⟨⟨v,rt'⟩,hd,hS,hee⟩:=hs
  subst hS
  subst hee
  have hw':wrOf C (ev S) y=some W:=hw
  rw[qhq]
  simp only[qh3,hw',and_true]
  cases qtj C (ev S) y
  ·exact .inr rfl
  ·exact .inl rfl
 ·simp only[Option.some.injEq,Prod.mk.injEq] at hs
  obtain ⟨hS,hee⟩:=hs
  subst hee
  simp[qfv] at hw
 ·simp at hs
theorem qbpg {S S':St} {e f:Ent} {β:Bool} {j:Nat} {y:Oper} {W:List Nat} (hs:qco C D hints id ops β S j y=some (S',e)) (hw:e.wr=some W) (h:qbmg e f=true) :
  ((f.bl=true∨∃ l,f.ld=some l∧l.1 S.rt=some l.2)∧(f.bl=true∨∃ l,f.ld=some l∧l.1 S'.rt=some l.2))∧disj y.dst.toList f.rd=true∧f.st.contains e.site=false:=by
 obtain ⟨h1,h2⟩:=qbwl hs hw
 unfold qbmg at h
 simp only[Bool.and_eq_true,Bool.not_eq_true',Bool.or_eq_true] at h
 obtain ⟨⟨a,c⟩,d⟩:=h
 refine ⟨?_,by rw[←h2];exact c,d⟩
 rcases a with a | a
 ·exact ⟨.inl a,.inl a⟩
 ·split at a
  ·rename_i l io hl hio
   rcases h1 with h1 | h1
   ·rw[h1] at hio;simp at hio
   rw[h1] at hio
   simp only[Option.some.injEq] at hio
   subst hio
   simp only[Bool.and_eq_true] at a
   exact ⟨.inr ⟨l,hl,qbii a.1⟩,.inr ⟨l,hl,qbii a.2⟩⟩
  ·simp at a
theorem qbvc {ρ:Operand→AV} {o:Oper} {W:List Nat} (hw:wrOf C ρ o=some W) (hl:qtj C ρ o=true):qik o=false:=by
 unfold wrOf at hw
 unfold qik
 cases ho:o.op<;>rw[ho] at hw<;>simp_all
theorem qbrn {S T S':St} {e:Ent} {β:Bool} {j:Nat} {y:Oper} {W:List Nat} (hs:qco C D hints id ops β S j y=some (S',e)) (hw:e.wr=some W) (hlc:e.lc=true) (hl:T.sl.length=S.sl.length) (hrl:T.rt.length=S.rt.length)
  (hk:∀ u∈qqs ops y,T.get u=S.get u) (ho:∀ u∈qc4 ops j y,T.get u=S.get u) (hask:qd7 T.sl y.dst (id * 256+j+1)=qd7 S.sl y.dst (id * 256+j+1))
  (hr:qb6 (W++e.rd) S.rt T.rt):∃ T',qco C D hints id ops β T j y=some (T',e)∧(∀ u∈qc4 ops j y,T'.get u=S'.get u)∧qb6 W S'.rt T'.rt:=by
 have hg:=qbgy (ops:=ops) hk
 have he:=qbju hk
 unfold qco at hs ⊢
 rw[hg]
 split at hs
 ·rename_i hgt
  simp only[Option.map_eq_some_iff,Prod.mk.injEq] at hs
  obtain ⟨⟨v,rt'⟩,hd,hS,hee⟩:=hs
  subst hS
  subst hee
  have hw':wrOf C (ev S) y=some W:=hw
  have hlc':qtj C (ev S) y=true:=hlc
  have hb:=qbvc hw' hlc'
  unfold opAt at hd ⊢
  obtain ⟨rt2,k1,k2,k3⟩:=qbws (A:=qd7 S.sl y.dst (id * 256+j+1)) hr hrl hlc' (fun r hr=>by
   refine List.mem_append.2 (.inr ?_)
   simp only[qh3,hb,Bool.false_eq_true,if_false,List.mem_append]
   exact .inr (.inl hr)) v rt' hd
  refine ⟨fin ops ⟨T.sl,rt2⟩ j y v,?_,q7o hl ho,?_⟩
  ·rw[hask,qbnn y he,k1]
   simp only[Option.map_some,qbfv (b:=rt') (.inr (.inr hlc')) hk ho]
  ·rw[qhq,qhq];exact k2.sub fun r hr=>List.mem_append.2 (.inl hr)
 ·simp only[Option.some.injEq,Prod.mk.injEq] at hs
  obtain ⟨hS,hee⟩:=hs
  subst hee
  simp[qfv] at hw
 ·simp at hs
theorem qbvj {S T:Rts} (hl:T.length=S.length) (h:∀ r,T.root r=S.root r):T=S:=by
 apply List.ext_getElem hl
 intro i h1 h2
 have:=h i
 simp only[Rts.root,List.getD,List.getElem?_eq_getElem h1,List.getElem?_eq_getElem h2,Option.getD_some] at this
 exact this
theorem swap {S S1 S2:St} {ex ey:Ent} {βx βy:Bool} {i j:Nat} {x y:Oper} (h1:qco C D hints id ops βx S i x=some (S1,ex)) (h2:qco C D hints id ops βy S1 j y=some (S2,ey))
  (hap:qpn ops i j x y=true) (hfr:ex.free ey=true):∃ T1,qco C D hints id ops βy S j y=some (T1,ey)∧qco C D hints id ops βx T1 i x=some (S2,ex):=by
 simp only[qpn,Bool.and_eq_true] at hap
 obtain ⟨⟨p1,p2⟩,p3⟩:=hap
 obtain ⟨l1,f1⟩:=qpy h1
 obtain ⟨l2,f2⟩:=qpy h2
 have n1:∀ u∈qqs ops y,S.get u=S1.get u:=fun u hu=>(f1 u fun h=>qgu p1 u h hu).symm
 have n2:∀ u∈qc4 ops j y,S.get u=S1.get u:=fun u hu=>(f1 u fun h=>qgu p2 u h hu).symm
 -- the two moves,and what comes out
 have key:∀ (hm:(S.rt=S1.rt∧qd7 S.sl y.dst (id * 256+j+1)=qd7 S1.sl y.dst (id * 256+j+1))∨(ey.wr=none∧qbqe ey S1.rt S.rt)) (hrl:S.rt.length=S1.rt.length),
   ∃ T1,qco C D hints id ops βy S j y=some (T1,ey)∧(ey.wr=none→S2.rt=S1.rt∧T1.rt=S.rt)∧(S.rt=S1.rt→T1.rt=S2.rt)∧
    (∀ (hm2:(T1.rt=S.rt∧qd7 T1.sl x.dst (id * 256+i+1)=qd7 S.sl x.dst (id * 256+i+1))∨(ex.wr=none∧qbqe ex S.rt T1.rt)) (hrl2:T1.rt.length=S.rt.length),
     ∃ T2,qco C D hints id ops βx T1 i x=some (T2,ex)∧(ex.wr=none→S1.rt=S.rt∧T2.rt=T1.rt)∧(T1.rt=S.rt→T2.rt=S1.rt)∧(T2.rt=S2.rt→T2=S2)):=by
  intro hm hrl
  obtain ⟨T1,k1,k2,k3,k4⟩:=qbq1 h2 l1.symm hrl n1 n2 hm
  refine ⟨T1,k1,k3,k4,fun hm2 hrl2=>?_⟩
  obtain ⟨lT,fT⟩:=qpy k1
  obtain ⟨T2,q1,q2,q3,q4⟩:=qbq1 h1 lT hrl2 (fun u hu=>fT u fun h=>qgu p3 u h hu) (fun u hu=>fT u fun h=>qgu p2 u hu h) hm2
  obtain ⟨lT2,fT2⟩:=qpy q1
  refine ⟨T2,q1,q3,q4,fun hrt=>qbsr (by rw[lT2,lT,l2,l1]) (fun u=>?_) hrt⟩
  by_cases hx:u∈qc4 ops i x
  ·rw[q2 u hx,f2 u fun h=>qgu p2 u hx h]
  ·rw[fT2 u hx]
   by_cases hy:u∈qc4 ops j y
   ·exact k2 u hy
   ·rw[fT u hy,f2 u hy,f1 u hx]
 obtain ⟨sx,_⟩:=q43 h1
 obtain ⟨sy,_⟩:=q43 h2
 cases hwx:ex.wr with
 | none=>
  have r1:S1.rt=S.rt:=qbud h1 hwx
  cases hwy:ey.wr with
  | none=>
   obtain ⟨T1,k1,k2,k3,k4⟩:=key (.inr ⟨hwy,.inl fun r _=>by rw[r1]⟩) (by rw[r1])
   obtain ⟨e1,e2⟩:=k2 hwy
   obtain ⟨T2,q1,q2,q3,q4⟩:=k4 (.inr ⟨hwx,.inl fun r _=>by rw[e2]⟩) (by rw[e2])
   have:=q4 ((q2 hwx).2.trans (e2.trans (r1.symm.trans e1.symm)))
   subst this
   exact ⟨T1,k1,q1⟩
  | some W=>
   simp only[Ent.free,hwx,hwy,Bool.or_eq_true] at hfr
   rcases hfr with hfr | hfr
   rotate_left
   ·obtain ⟨⟨a1,a2⟩,d1,d2⟩:=qbpg h2 hwy hfr
    rw[sy] at d2
    obtain ⟨T1,k1,k2,k3,k4⟩:=key (.inl ⟨r1.symm,(qv8 h1 (W:=y.dst.toList) (fun d' hd'=>by rw[hd'];simp) d1 d2).symm⟩) (by rw[r1])
    obtain ⟨fr,_⟩:=qpm k1 hwy
    have eT:=k3 r1.symm
    obtain ⟨T2,q1,q2,q3,q4⟩:=k4 (.inr ⟨hwx,.inr (by rw[eT];exact a2)⟩) fr.len
    have:=q4 ((q2 hwx).2.trans eT)
    subst this
    exact ⟨T1,k1,q1⟩
   simp only[qbhs,Bool.and_eq_true,Bool.not_eq_true'] at hfr
   obtain ⟨d1,d2⟩:=hfr
   obtain ⟨_,hdW⟩:=qpm h2 hwy
   rw[sy] at d2
   obtain ⟨T1,k1,k2,k3,k4⟩:=key (.inl ⟨r1.symm,(qv8 h1 hdW d1 d2).symm⟩) (by rw[r1])
   obtain ⟨fr,_⟩:=qpm k1 hwy
   obtain ⟨T2,q1,q2,q3,q4⟩:=k4 (.inr ⟨hwx,.inl fun r hr=>fr.root r fun h=>qgu d1 r h hr⟩) fr.len
   have:=q4 ((q2 hwx).2.trans (k3 r1.symm))
   subst this
   exact ⟨T1,k1,q1⟩
 | some W=>
  cases hwy:ey.wr with
  | none=>
   simp only[Ent.free,hwx,hwy,Bool.or_eq_true] at hfr
   rcases hfr with hfr | hfr
   rotate_left
   ·obtain ⟨⟨a1,a2⟩,d1,d2⟩:=qbpg h1 hwx hfr
    obtain ⟨fr,hdW⟩:=qpm h1 hwx
    rw[sx] at d2
    obtain ⟨T1,k1,k2,k3,k4⟩:=key (.inr ⟨hwy,.inr a1⟩) fr.len.symm
    obtain ⟨e1,e2⟩:=k2 hwy
    obtain ⟨T2,q1,q2,q3,q4⟩:=k4 (.inl ⟨e2,qv8 k1 (W:=x.dst.toList) (fun d' hd'=>by rw[hd'];simp) d1 d2⟩) (by rw[e2])
    have:=q4 ((q3 e2).trans e1.symm)
    subst this
    exact ⟨T1,k1,q1⟩
   simp only[qbhs,Bool.and_eq_true,Bool.not_eq_true'] at hfr
   obtain ⟨d1,d2⟩:=hfr
   obtain ⟨fr,hdW⟩:=qpm h1 hwx
   rw[sx] at d2
   obtain ⟨T1,k1,k2,k3,k4⟩:=key (.inr ⟨hwy,.inl fun r hr=>(fr.root r fun h=>qgu d1 r h hr).symm⟩) fr.len.symm
   obtain ⟨e1,e2⟩:=k2 hwy
   obtain ⟨T2,q1,q2,q3,q4⟩:=k4 (.inl ⟨e2,qv8 k1 hdW d1 d2⟩) (by rw[e2])
   have:=q4 ((q3 e2).trans e1.symm)
   subst this
   exact ⟨T1,k1,q1⟩
  | some W2=>
   simp only[Ent.free,hwx,hwy,Bool.and_eq_true,Bool.not_eq_true'] at hfr
   obtain ⟨⟨⟨lx,ly⟩,⟨d1,d2⟩,d3,d4⟩,s1,s2⟩:=hfr
   obtain ⟨fr1,hd1⟩:=qpm h1 hwx
   obtain ⟨fr2,hd2⟩:=qpm h2 hwy
   rw[sy] at s1
   rw[sx] at s2
   obtain ⟨T1,k1,k2,k3⟩:=qbrn (T:=S) h2 hwy ly l1.symm fr1.len.symm n1 n2 (qv8 h1 hd2 d3 s1).symm
    (fun r hr=>(fr1.root r fun h=>by
     rcases List.mem_append.1 hr with h' | h'
     ·exact qgu d2 r h h'
     ·exact qgu d1 r h h').symm)
   obtain ⟨lT,fT⟩:=qpy k1
   obtain ⟨frT,_⟩:=qpm k1 hwy
   obtain ⟨T2,q1,q2,q3⟩:=qbrn h1 hwx lx lT frT.len (fun u hu=>fT u fun h=>qgu p3 u h hu) (fun u hu=>fT u fun h=>qgu p2 u hu h) (qv8 k1 hd1 d1 s2)
    (fun r hr=>frT.root r fun h=>by
     rcases List.mem_append.1 hr with h' | h'
     ·exact qgu d4 r h h'
     ·exact qgu d3 r h h')
   obtain ⟨lT2,fT2⟩:=qpy q1
   obtain ⟨frT2,_⟩:=qpm q1 hwx
   have hrt:T2.rt=S2.rt:=by
    refine qbvj (by rw[frT2.len,frT.len,fr2.len,fr1.len]) fun r=>?_
    by_cases hx:r∈W
    ·rw[q3 r hx,fr2.root r fun h=>qgu d2 r hx h]
    ·rw[frT2.root r hx]
     by_cases hy:r∈W2
     ·exact k3 r hy
     ·rw[frT.root r hy,fr2.root r hy,fr1.root r hx]
   have:T2=S2:=qbsr (by rw[lT2,lT,l2,l1]) (fun u=>by
    by_cases hx:u∈qc4 ops i x
    ·rw[q2 u hx,f2 u fun h=>qgu p2 u hx h]
    ·rw[fT2 u hx]
     by_cases hy:u∈qc4 ops j y
     ·exact k2 u hy
     ·rw[fT u hy,f2 u hy,f1 u hx]) hrt
   subst this
   exact ⟨T1,k1,q1⟩
end
end Go.V

namespace Go.V
open Go
theorem qboh (look:Nat→Nat) (i:Nat):∀ (l:List Edge) (s:Nat),(l.foldl (fun s e=>if Region.binds .any e then s |||2 ^ e.on |||look e.on else s) s).testBit i=true→
  s.testBit i=true∨∃ e∈l,Region.binds .any e=true∧(e.on=i∨(look e.on).testBit i=true)
 | [],s,h=>.inl h
 | e::l,s,h=>by
  rw[List.foldl_cons] at h
  rcases qboh look i l _ h with h | ⟨e',he,hh⟩
  ·by_cases hb:Region.binds .any e=true
   ·rw[if_pos hb,Nat.testBit_or,Nat.testBit_or,Nat.testBit_two_pow] at h
    simp only[Bool.or_eq_true,decide_eq_true_eq] at h
    rcases h with (h | h) | h
    ·exact .inl h
    ·exact .inr ⟨e,List.mem_cons_self,hb,.inl h⟩
    ·exact .inr ⟨e,List.mem_cons_self,hb,.inr h⟩
   ·rw[if_neg hb] at h;exact .inl h
  ·exact .inr ⟨e',List.mem_cons_of_mem _ he,hh⟩
def qbuj (acc:Array Nat) (l:List Oper):Prop:=acc.size=l.length∧∀ j i,(acc.getD j 0).testBit i=true→∃ o,l[j]? = some o∧∃ e∈o.after,Region.binds .any e=true∧(e.on=i∨(e.on<j∧(acc.getD e.on 0).testBit i=true))
theorem qbrc:∀ (l:List Oper) (acc:Array Nat) (d:List Oper),qbuj acc d→
  qbuj (l.foldl (fun acc o=>acc.push (o.after.foldl (fun s e=>if Region.binds .any e then s |||2 ^ e.on |||acc.getD e.on 0 else s) 0)) acc) (d++l)
 | [],acc,d,h=>by simpa using h
 | o::l,acc,d,h=>by
  rw[List.foldl_cons]
  have e:d++o::l=(d++[o])++l:=by simp
  rw[e]
  refine qbrc l _ _ ⟨by simp[h.1],fun j i hb=>?_⟩
  have hs:=h.1
  have gd:∀ q (v:Nat),(acc.push v).getD q 0=if q=acc.size then v else acc.getD q 0:=by
   intro q v
   simp only[Array.getD_eq_getD_getElem?,Array.getElem?_push]
   split<;>rfl
  rw[gd] at hb
  by_cases hj:j=acc.size
  ·rw[if_pos hj,←Array.foldl_toList] at hb
   rcases qboh (fun n=>acc.getD n 0) i _ _ hb with h0 | ⟨e',he,hbd,hh⟩
   ·simp at h0
   ·refine ⟨o,by rw[hj,hs];simp,e',by simpa using he,hbd,?_⟩
    rcases hh with hh | hh
    ·exact .inl hh
    ·have hlt:e'.on<acc.size:=by
      rcases Nat.lt_or_ge e'.on acc.size with h | h
      ·exact h
      ·simp[Array.getD_eq_getD_getElem?,Array.getElem?_eq_none h] at hh
     refine .inr ⟨by omega,?_⟩
     rw[gd,if_neg (by omega)]
     exact hh
  ·rw[if_neg hj] at hb
   obtain ⟨o',ho',e',he,hbd,hh⟩:=h.2 j i hb
   have hlt:j<d.length:=(List.getElem?_eq_some_iff.1 ho').1
   refine ⟨o',by rw[List.getElem?_append_left hlt];exact ho',e',he,hbd,hh.imp id fun hh=>⟨hh.1,?_⟩⟩
   rw[gd,if_neg (by omega)]
   exact hh.2
theorem qbkl (ops:Array Oper) {j i:Nat} (h:((Region.before ops).getD j 0).testBit i=true) :
  ∃ o,ops[j]? = some o∧∃ e∈o.after,Region.binds .any e=true∧(e.on=i∨(e.on<j∧((Region.before ops).getD e.on 0).testBit i=true)):=by
 have:=qbrc ops.toList #[] [] ⟨rfl,fun j i hb=>by simp at hb⟩
 unfold Region.before at h ⊢
 rw[←Array.foldl_toList] at h ⊢
 obtain ⟨o,ho,hh⟩:=this.2 j i h
 exact ⟨o,by simpa using ho,hh⟩
theorem qbsn {ops:Array Oper} (he:qzs ops=true):∀ (j i:Nat),((Region.before ops).getD j 0).testBit i=true→i<j:=by
 intro j
 induction j using Nat.strongRecOn with
 | _ j ih=>
  intro i h
  obtain ⟨o,ho,e,hm,hb,hh⟩:=qbkl ops h
  have hlt:e.on<j:=by
   simp only[qzs,List.all_eq_true] at he
   have hx:(j,o)∈qf0 ops:=by
    simp only[qf0,List.mem_map]
    exact ⟨(o,j),List.mem_zipIdx_iff_getElem?.2 (by simpa using ho),rfl⟩
   have:=he (j,o) hx
   rw[Array.all_eq_true_iff_forall_mem] at this
   have:=this e hm
   rw[hb] at this
   simpa [qgy] using this
  rcases hh with rfl | ⟨_,hh⟩
  ·exact hlt
  ·exact Nat.lt_trans (ih e.on hlt i hh) hlt
def Down (ops:Array Oper) (listed:Array Bool):Prop:=∀ (j:Nat) o,ops[j]? = some o→listed.getD j false=true→∀ e∈o.after,Region.binds .any e=true→listed.getD e.on false=true
theorem qblm {ops:Array Oper} {listed:Array Bool} (hd:Down ops listed):∀ (j i:Nat),((Region.before ops).getD j 0).testBit i=true→
  (∀ o,ops[j]? = some o→∀ e∈o.after,Region.binds .any e=true→listed.getD e.on false=true)→listed.getD i false=true:=by
 intro j
 induction j using Nat.strongRecOn with
 | _ j ih=>
  intro i h hl
  obtain ⟨o,ho,e,hm,hb,hh⟩:=qbkl ops h
  have h1:=hl o ho e hm hb
  rcases hh with rfl | ⟨hlt,hh⟩
  ·exact h1
  ·exact ih e.on hlt i hh fun o' ho'=>hd e.on o' ho' h1
theorem Ent.free_symm (e f:Ent):e.free f=f.free e:=by
 unfold Ent.free
 cases e.wr<;>cases f.wr
 ·rfl
 ·rfl
 ·rfl
 ·rename_i w w'
  simp only
  cases e.lc<;>cases f.lc<;>cases disj w f.rd<;>cases disj w w'<;>cases disj w' e.rd<;>cases disj w' w<;>cases e.st.contains f.site<;>cases f.st.contains e.site<;>rfl
theorem qbgn {M:Array Nat} {e:Ent}:∀ {l:Log},qbcl M e l=true→∀ f∈l,e.i=f.i∨qls M e.i f.i=true∨e.free f=true
 | [],_,f,hf=>by simp at hf
 | g::l,h,f,hf=>by
  simp only[qbcl,Bool.and_eq_true,Bool.or_eq_true] at h
  rcases List.mem_cons.1 hf with rfl | hf
  ·rcases h.1 with (h | h) | h
   ·exact .inl (Nat.eq_of_beq_eq_true h)
   ·exact .inr (.inl h)
   ·exact .inr (.inr h)
  ·exact qbgn h.2 f hf
theorem q8n {M:Array Nat} {all:Log}:∀ {l:Log},qv9 M all l=true→∀ e∈l,e.wr≠none→∀ f∈all,e.i=f.i∨qls M e.i f.i=true∨e.free f=true
 | [],_,e,he=>by simp at he
 | g::l,h,e,he=>by
  simp only[qv9,Bool.and_eq_true] at h
  intro hw
  rcases List.mem_cons.1 he with rfl | he
  ·have:=h.1
   cases hwe:e.wr with
   | none=>exact absurd hwe hw
   | some W=>rw[hwe] at this;exact qbgn this
  ·exact q8n h.2 e he hw
theorem qbn9 (M:Array Nat) (i j:Nat):qls M i j=qls M j i:=by simp[qls,Bool.or_comm]
theorem qbvb {M:Array Nat} {LG:Log} (h:qv9 M LG LG=true) {e f:Ent} (he:e∈LG) (hf:f∈LG) (hne:e.i≠f.i) (ho:qls M e.i f.i=false):e.free f=true:=by
 cases hwe:e.wr with
 | some W=>
  rcases q8n h e he (by rw[hwe];simp) f hf with h | h | h
  ·exact absurd h hne
  ·rw[ho] at h;simp at h
  ·exact h
 | none=>
  cases hwf:f.wr with
  | none=>simp[Ent.free,hwe,hwf]
  | some W=>
   rcases q8n h f hf (by rw[hwf];simp) e he with h | h | h
   ·exact absurd h.symm hne
   ·rw[qbn9,ho] at h;simp at h
   ·rw[Ent.free_symm];exact h
theorem qbei {M:Array Nat} {ops:Array Oper} {i:Nat} {x:Oper}:∀ {l:List (Nat×Oper)},q8r M ops i x l=true→∀ y∈l,qls M i y.1=true∨qpn ops i y.1 x y.2=true
 | [],_,y,hy=>by simp at hy
 | (j,z)::l,h,y,hy=>by
  simp only[q8r,Bool.and_eq_true,Bool.or_eq_true] at h
  rcases List.mem_cons.1 hy with rfl | hy
  ·exact h.1
  ·exact qbei h.2 y hy
theorem qbdv {M:Array Nat} {ops:Array Oper}:∀ {l:List (Nat×Oper)},qvc M ops l=true→l.Pairwise fun x y=>qls M x.1 y.1=true∨qpn ops x.1 y.1 x.2 y.2=true
 | [],_=>List.Pairwise.nil
 | (i,x)::l,h=>by
  simp only[qvc,Bool.and_eq_true] at h
  exact List.Pairwise.cons (fun y hy=>qbei h.1 y hy) (qbdv h.2)
section
variable (C:Ctx) (D:Den C) (hints:Hints) (id:Nat) (ops:Array Oper)
noncomputable def runB (β:Nat→Bool):List (Nat×Oper)→St→Option (St×Log)
 | [],S=>some (S,[])
 | (i,o)::l,S=>(qco C D hints id ops (β i) S i o).bind fun x=>(runB β l x.1).map fun y=>(y.1,x.2::y.2)
end
section
variable {C:Ctx} {D:Den C} {hints:Hints} {id:Nat} {ops:Array Oper}
theorem qbpj {β:Nat→Bool}:∀ (l:List (Nat×Oper)) (S:St),runB C D hints id ops β l S=runD C D hints id ops (l.map fun x=>β x.1) l S
 | [],S=>rfl
 | (i,o)::l,S=>by
  simp only[runB,runD,List.map_cons,List.headD_cons,List.tail_cons]
  congr 1
  funext x
  rw[qbpj l x.1]
theorem qbbi {β:Nat→Bool} {i:Nat} {o:Oper} {l:List (Nat×Oper)} {S S':St} {lg:Log} (h:runB C D hints id ops β ((i,o)::l) S=some (S',lg)) :
  ∃ S1 e lg1,qco C D hints id ops (β i) S i o=some (S1,e)∧runB C D hints id ops β l S1=some (S',lg1)∧lg=e::lg1:=by
 simp only[runB,Option.bind_eq_some_iff,Option.map_eq_some_iff,Prod.mk.injEq] at h
 obtain ⟨⟨S1,e⟩,hs,⟨S2,lg2⟩,hr,rfl,rfl⟩:=h
 exact ⟨S1,e,lg2,hs,hr,rfl⟩
theorem qbpo {β:Nat→Bool} {i:Nat} {o:Oper} {l:List (Nat×Oper)} {S S1 S':St} {e:Ent} {lg1:Log} (hs:qco C D hints id ops (β i) S i o=some (S1,e)) (hr:runB C D hints id ops β l S1=some (S',lg1)) :
  runB C D hints id ops β ((i,o)::l) S=some (S',e::lg1):=by
 simp only[runB,hs,Option.bind_some,hr,Option.map_some]
theorem qbgf {β β':Nat→Bool}:∀ (l:List (Nat×Oper)) (S:St),(∀ x∈l,β' x.1=β x.1)→runB C D hints id ops β' l S=runB C D hints id ops β l S
 | [],S,_=>rfl
 | (i,o)::l,S,h=>by
  simp only[runB]
  have:=h (i,o) List.mem_cons_self
  simp only at this
  rw[this]
  congr 1
  funext x
  rw[qbgf l x.1 fun y hy=>h y (List.mem_cons_of_mem _ hy)]
theorem qbie {β:Nat→Bool} {j:Nat} {y:Oper} {post:List (Nat×Oper)}:∀ (pre:List (Nat×Oper)) (S S':St) (lg:Log),runB C D hints id ops β (pre++(j,y)::post) S=some (S',lg)→
  (∀ x∈pre,qpn ops x.1 j x.2 y=true)→(∀ ex∈lg,∀ ey∈lg,(∃ x∈pre,ex.i=x.1)→ey.i=j→ex.free ey=true)→
  ∃ lg',runB C D hints id ops β ((j,y)::(pre++post)) S=some (S',lg')∧∀ e∈lg',e∈lg
 | [],S,S',lg,h,_,_=>⟨lg,h,fun e he=>he⟩
 | (i,x)::pre,S,S',lg,h,hap,hfr=>by
  rw[List.cons_append] at h
  obtain ⟨S1,ex,lg1,h1,h2,rfl⟩:=qbbi h
  obtain ⟨lg2,k1,k2⟩:=qbie pre S1 S' lg1 h2 (fun x hx=>hap x (List.mem_cons_of_mem _ hx))
   (fun a ha b hb ⟨z,hz,e⟩ hj=>hfr a (List.mem_cons_of_mem _ ha) b (List.mem_cons_of_mem _ hb) ⟨z,List.mem_cons_of_mem _ hz,e⟩ hj)
  obtain ⟨S2,ey,lg3,q1,q2,rfl⟩:=qbbi k1
  have hi:=(q43 h1).2
  have hj:=(q43 q1).2
  obtain ⟨T1,t1,t2⟩:=swap h1 q1 (hap (i,x) List.mem_cons_self) (hfr ex List.mem_cons_self ey (List.mem_cons_of_mem _ (k2 ey List.mem_cons_self)) ⟨(i,x),List.mem_cons_self,hi⟩ hj)
  refine ⟨ey::ex::lg3,qbpo t1 (qbpo t2 q2),fun e he=>?_⟩
  rcases List.mem_cons.1 he with rfl | he
  ·exact List.mem_cons_of_mem _ (k2 _ List.mem_cons_self)
  ·rcases List.mem_cons.1 he with rfl | he
   ·exact List.mem_cons_self
   ·exact List.mem_cons_of_mem _ (k2 _ (List.mem_cons_of_mem _ he))
end
theorem q74 {ops:Array Oper} {j:Nat} {o:Oper} (h:ops[j]? = some o):(j,o)∈qf0 ops:=by
 simp only[qf0,List.mem_map]
 exact ⟨(o,j),List.mem_zipIdx_iff_getElem?.2 (by simpa using h),rfl⟩
section
variable {P:Program} {C:Ctx} {D:Den C} (hty:qcz P C) (dok:DOk P C D)
include hty dok
theorem qbv8 {np:List Nat} {Q:Exit→Act→World→Prop} {hints:Hints} {id:Nat} {ops:Array Oper} {F:St→Prop} (hgd:q4f ops=true) (hed:qzs ops=true) (hsl:qvc (Region.before ops) ops (qf0 ops)=true) (hnp:q25 np ops=true) :
  ∀ (fuel:Nat) (listed:Array Bool) (rest:List (Nat×Oper)) (S:St) (g:Ghost) (a:Act) (w:World),rest.length≤fuel→listed.size=ops.size→Down ops listed→rest.Sublist (qf0 ops)→
   (∀ x∈qf0 ops,x∈rest↔listed.getD x.1 true=false)→StRel w.heap S g a.tmps Nil→a.defers=[]→
   (∀ β,∃ S' lg LG,runB C D hints id ops β rest S=some (S',lg)∧(∀ e∈lg,e∈LG)∧qv9 (Region.before ops) LG LG=true∧F S')→
   (∀ S' g' a' w',F S'→StRel w'.heap S' g' a'.tmps Nil→g'.Same g→WFr g.L w w'→a'.defers=[]→qti np a a'→Q .normal a' w')→wpAny P .any ops Q fuel listed a w:=by
 intro fuel
 induction fuel with
 | zero=>
  intro listed rest S g a w hlen hsz hdn hsub hiff st hdf hrun hQ
  have hr:rest=[]:=List.length_eq_zero_iff.1 (by omega)
  subst hr
  refine ⟨?_,?_⟩
  ·apply List.eq_nil_iff_forall_not_mem.2
   intro j hj
   obtain ⟨h0,o,ho,_⟩:=mem_ready.1 hj
   have:=(hiff (j,o) (q74 ho)).2 h0
   simp at this
  ·obtain ⟨S',lg,LG,h1,_,_,h4⟩:=hrun fun _=>true
   simp only[runB,Option.some.injEq,Prod.mk.injEq] at h1
   obtain ⟨rfl,_⟩:=h1
   exact hQ S g a w h4 st (.refl g) (.refl _ _) hdf (.refl _ _)
 | succ fuel ih=>
  intro listed rest S g a w hlen hsz hdn hsub hiff st hdf hrun hQ
  have hft:∀ j,j<ops.size→(listed.getD j true=listed.getD j false):=by
   intro j hj
   have:j<listed.size:=by omega
   simp[Array.getD,this]
  refine ⟨fun hre=>?_,fun j hj=>?_⟩
  ·have hr:rest=[]:=by
    cases rest with
    | nil=>rfl
    | cons x rest=>
     exfalso
     have key:∀ j,j<ops.size→listed.getD j true=true:=by
      intro j
      induction j using Nat.strongRecOn with
      | _ j ihj=>
       intro hlt
       cases hl:listed.getD j true with
       | true=>rfl
       | false=>
        exfalso
        have ho:ops[j]? = some ops[j]:=Array.getElem?_eq_getElem hlt
        have:j∈Region.ready .any ops listed:=by
         refine mem_ready.2 ⟨hl,ops[j],ho,fun e he hb=>?_⟩
         have hlt2:e.on<j:=by
          have he2:=hed
          simp only[qzs,List.all_eq_true] at he2
          have:=he2 (j,ops[j]) (q74 ho)
          rw[Array.all_eq_true_iff_forall_mem] at this
          have:=this e he
          rw[hb] at this
          simpa [qgy] using this
         rw[←hft e.on (by omega)]
         exact ihj e.on hlt2 (by omega)
        rw[hre] at this
        simp at this
     have hx:=hsub.subset List.mem_cons_self
     have h0:=(hiff x hx).1 List.mem_cons_self
     have hat:=q6w x hx
     have:=key x.1 (Array.getElem?_eq_some_iff.1 hat).1
     rw[h0] at this
     simp at this
   subst hr
   obtain ⟨S',lg,LG,h1,_,_,h4⟩:=hrun fun _=>true
   simp only[runB,Option.some.injEq,Prod.mk.injEq] at h1
   obtain ⟨rfl,_⟩:=h1
   exact hQ S g a w h4 st (.refl g) (.refl _ _) hdf (.refl _ _)
  ·obtain ⟨h0,y,hy,hedges⟩:=mem_ready.1 hj
   have hjlt:j<ops.size:=(Array.getElem?_eq_some_iff.1 hy).1
   have hmem:=(hiff (j,y) (q74 hy)).2 h0
   obtain ⟨pre,post,rfl⟩:=List.append_of_mem hmem
   -- indexes are apart
   have hnd:((qf0 ops).map (·.1)).Nodup:=by rw[q2s];exact List.nodup_range
   have hnd2:=(hsub.map (·.1)).nodup hnd
   simp only[List.map_append,List.map_cons] at hnd2
   have hinc:((pre++(j,y)::post).map (·.1)).Pairwise (· < ·):=by
    refine List.Pairwise.sublist (hsub.map (·.1)) ?_
    rw[q2s]
    exact List.pairwise_lt_range
   have hlt:∀ x∈pre,x.1<j:=by
    intro x hx
    rw[List.map_append,List.pairwise_append] at hinc
    exact hinc.2.2 x.1 (List.mem_map.2 ⟨x,hx,rfl⟩) j (by simp)
   have hgt:∀ x∈post,j<x.1:=by
    intro x hx
    rw[List.map_append,List.pairwise_append,List.map_cons,List.pairwise_cons] at hinc
    exact hinc.2.1.1 x.1 (List.mem_map.2 ⟨x,hx,rfl⟩)
   have hun:∀ x∈pre,qls (Region.before ops) x.1 j=false:=by
    intro x hx
    have hxt:x∈qf0 ops:=hsub.subset (by simp[hx])
    have hxu:=(hiff x hxt).1 (by simp[hx])
    cases ho:qls (Region.before ops) x.1 j with
    | false=>rfl
    | true=>
     exfalso
     simp only[qls,Bool.or_eq_true] at ho
     rcases ho with ho | ho
     ·have:=qblm hdn j x.1 ho fun o' ho' e he hb=>by
       rw[hy] at ho'
       simp only[Option.some.injEq] at ho'
       subst ho'
       exact hedges e he hb
      have hxlt:x.1<ops.size:=(Array.getElem?_eq_some_iff.1 (q6w x hxt)).1
      rw[←hft x.1 hxlt,hxu] at this
      simp at this
     ·have:=qbsn hed _ _ ho
      have:=hlt x hx
      omega
   have hap:∀ x∈pre,qpn ops x.1 j x.2 y=true:=by
    intro x hx
    have:=(qbdv hsl).sublist hsub
    rw[List.pairwise_append] at this
    rcases this.2.2 x hx (j,y) (by simp) with h | h
    ·have:=hun x hx
     simp only at h
     rw[this] at h
     simp at h
    ·exact h
   have hrun2:∀ β,∃ S1 e S' lg LG,qco C D hints id ops (β j) S j y=some (S1,e)∧runB C D hints id ops β (pre++post) S1=some (S',lg)∧(∀ e∈lg,e∈LG)∧qv9 (Region.before ops) LG LG=true∧F S':=by
    intro β
    obtain ⟨S',lg,LG,h1,h2,h3,h4⟩:=hrun β
    obtain ⟨lg',q1,q2⟩:=qbie pre S S' lg h1 hap (by
     intro ex hex ey hey hx hyj
     obtain ⟨x,hx,e1⟩:=hx
     refine qbvb h3 (h2 ex hex) (h2 ey hey) ?_ ?_
     ·rw[e1,hyj];have:=hlt x hx;omega
     ·rw[e1,hyj];exact hun x hx)
    obtain ⟨S1,e,lg1,t1,t2,rfl⟩:=qbbi q1
    exact ⟨S1,e,S',lg1,LG,t1,t2,fun e he=>h2 e (q2 e (List.mem_cons_of_mem _ he)),h3,h4⟩
   refine qbps hty dok st (hints:=hints) (id:=id) hy (fun j' c=>qbkr hgd j y j' c hy) hdf (qbmx hnp (j,y) (q74 hy)) (fun β=>?_) ?_
   ·obtain ⟨S1,e,_,_,_,h1,_⟩:=hrun2 fun _=>β
    exact ⟨_,h1⟩
   ·intro βj S1 e a' w' g' hs st' hsm hfr hdf' hfx
    refine ih (listed.setIfInBounds j true) (pre++post) S1 g' a' w' ?_ (by simpa using hsz) ?_ ?_ ?_ st' hdf' ?_ ?_
    ·simp only[List.length_append,List.length_cons] at hlen ⊢;omega
    ·intro q o hq hlq e he hb
     by_cases hqj:j=q
     ·subst hqj
      rw[hy] at hq
      simp only[Option.some.injEq] at hq
      subst hq
      exact getD_set_true (hedges e he hb)
     ·rw[getD_set_ne false hqj] at hlq
      exact getD_set_true (hdn q o hq hlq e he hb)
    ·exact List.Sublist.trans (List.Sublist.append (List.Sublist.refl pre) (List.sublist_cons_self _ _)) hsub
    ·intro x hx
     have hx1:=hiff x hx
     by_cases hxj:x.1=j
     ·constructor
      ·intro hm
       exfalso
       rcases List.mem_append.1 hm with hm | hm
       ·have:=hlt x hm;omega
       ·have:=hgt x hm;omega
      ·intro h
       exfalso
       have hl2:j<listed.size:=by omega
       simp[hxj,Array.getD,hl2] at h
     ·rw[getD_set_ne true (fun h=>hxj h.symm),←hx1]
      simp only[List.mem_append,List.mem_cons]
      constructor
      ·rintro (h | h)
       ·exact .inl h
       ·exact .inr (.inr h)
      ·rintro (h | h | h)
       ·exact .inl h
       ·exact absurd (by rw[h]) hxj
       ·exact .inr h
    ·intro β
     obtain ⟨S1',e',S',lg,LG,h1,h2,h3⟩:=hrun2 fun n=>if n=j then βj else β n
     simp only[if_true] at h1
     rw[hs] at h1
     simp only[Option.some.injEq,Prod.mk.injEq] at h1
     obtain ⟨rfl,rfl⟩:=h1
     refine ⟨S',lg,LG,?_,h3⟩
     rw[←h2]
     symm
     refine qbgf _ _ fun x hx=>?_
     rw[if_neg]
     intro hxj
     rcases List.mem_append.1 hx with hm | hm
     ·have:=hlt x hm;omega
     ·have:=hgt x hm;omega
    ·intro S' g'' a'' w'' hF st'' hsm' hfr' hdf'' hfx'
     exact hQ S' g'' a'' w'' hF st'' (hsm.trans hsm') (hfr.trans (by rw[hsm.2.1] at hfr';exact hfr')) hdf'' (hfx.trans hfx')
theorem qbve {np:List Nat} {R:Type} {r:R} {H:Hints} {id:Nat} {ops:Array Oper} {S:St} {k:Ex→St→Option R} {Q:Exit→Act→World→Prop} {g:Ghost} {a:Act} {w:World} {n:Nat}
  (hmix:P.follows .mixedOrders=true) (hnp:q25 np ops=true) (h:exec C D H n (.region id ops true) S k=some r):Goes np P C Q r (.region id ops true) S k g a w:=by
 intro st hdf hQ
 simp only[exec] at h
 split at h
 ·rename_i hgd
  have hR:=fun βs=>q0x (hints:=H) _ _ _ _ h S (Sim.refl S) βs
  have hchk:qzs ops=true∧qvc (Region.before ops) ops (qf0 ops)=true:=by
   obtain ⟨T1,lgT,S1,lg1,_,q2,_⟩:=hR []
   simp only[if_true] at q2
   split at q2
   ·rename_i hc
    simp only[Bool.and_eq_true] at hc
    exact ⟨hc.1.1,hc.2⟩
   ·simp at q2
  refine wp_region_any hmix ?_
  refine qbv8 (hints:=H) (id:=id) (F:=fun S'=>∃ S1,k .normal S1=some r∧Sim S1 S') hty dok hgd hchk.1 hchk.2 hnp ops.size _ (qf0 ops) S g a _ ?_ (by simp) ?_ (List.Sublist.refl _) ?_ st hdf (fun β=>?_) ?_
  ·have:=congrArg List.length (q2s (ops:=ops))
   simp only[List.length_map,List.length_range] at this
   omega
  ·intro j o ho hl
   exfalso
   have hlt:=(Array.getElem?_eq_some_iff.1 ho).1
   simp[hlt] at hl
  ·intro x hx
   have hlt:=(Array.getElem?_eq_some_iff.1 (q6w x hx)).1
   simp[hx,hlt]
  ·obtain ⟨T1,lgT,S1,lg1,q1,q2,q3,q4,_⟩:=hR ((qf0 ops).map fun x=>β x.1)
   simp only[if_true] at q2
   split at q2
   ·rename_i hc
    simp only[Bool.and_eq_true] at hc
    exact ⟨T1,lgT,lg1,by rw[qbpj];exact q1,q4,hc.1.2,S1,q2,q3⟩
   ·simp at q2
  ·intro S' g' a' w' hF st' hsm hfr hdf' hfx
   obtain ⟨S1,hk,hsim⟩:=hF
   exact hQ .normal S1 g' a' w' hk (qbpx hsim st') hsm ((WFr.drawn _).trans hfr) hdf' hfx
 ·simp at h
theorem qzh {np:List Nat} {R:Type} {r:R} {H:Hints} (hmix:P.follows .mixedOrders=true):∀ (c:Code) (n:Nat) (S:St) (k:Ex→St→Option R),qib np c=true→exec C D H n c S k=some r→
  ∀ (Q:Exit→Act→World→Prop) (g:Ghost) (a:Act) (w:World),Goes np P C Q r c S k g a w
 | .skip,n,S,k,hc,h,Q,g,a,w=>by
  intro st hdf hQ
  exact wp_skip (hQ .normal S g a w (by simpa only [exec] using h) st (.refl g) (.refl _ _) hdf (.refl _ _))
 | .region id ops dr,n,S,k,hc,h,Q,g,a,w=>by
  cases dr with
  | false=>exact qbr7 hty dok hc h
  | true=>exact qbve hty dok hmix hc h
 | .seq x y,n,S,k,hc,h,Q,g,a,w=>by
  intro st hdf hQ
  simp only[qib,Bool.and_eq_true] at hc
  simp only[exec] at h
  refine wp_seq (qzh hmix x n S _ hc.1 h _ g a w st hdf ?_)
  intro e S' g' a' w' hk st' hsm hfr hdf' hfx
  cases e with
  | normal=>
   simp only[Ex.out,Exit.then]
   refine qzh hmix y n S' k hc.2 hk Q g' a' w' st' hdf' ?_
   intro e2 S2 g2 a2 w2 hk2 st2 hsm2 hfr2 hdf2 hfx2
   exact hQ e2 S2 g2 a2 w2 hk2 st2 (hsm.trans hsm2) (hfr.trans (by rw[hsm.2.1] at hfr2;exact hfr2)) hdf2 (hfx.trans hfx2)
  | exit id=>exact hQ (.exit id) S' g' a' w' hk st' hsm hfr hdf' hfx
  | ret=>exact hQ .ret S' g' a' w' hk st' hsm hfr hdf' hfx
 | .cond c x y,n,S,k,hc,h,Q,g,a,w=>by
  intro st hdf hQ
  simp only[exec] at h
  cases hb:V.asBool (ev S c) with
  | none=>rw[hb] at h;simp at h
  | some t=>
   rw[hb] at h
   simp only at h
   have hv:=qblc hb (qbus st c)
   refine wp_cond (t:=t) hv ?_
   cases t with
   | true=>exact qzh hmix x n S k (by simp only[qib,Bool.and_eq_true] at hc;exact hc.1) h Q g a w st hdf hQ
   | false=>exact qzh hmix y n S k (by simp only[qib,Bool.and_eq_true] at hc;exact hc.2) h Q g a w st hdf hQ
 | .block id x,n,S,k,hc,h,Q,g,a,w=>by
  intro st hdf hQ
  simp only[exec] at h
  refine wp_block (qzh hmix x n S _ (by simpa only [qib] using hc) h _ g a w st hdf ?_)
  intro e S' g' a' w' hk st' hsm hfr hdf' hfx
  cases e with
  | normal=>exact hQ .normal S' g' a' w' hk st' hsm hfr hdf' hfx
  | exit j=>
   simp only at hk
   simp only[Ex.out,Exit.inBlock]
   split at hk
   ·rename_i hj;rw[if_pos hj];exact hQ .normal S' g' a' w' hk st' hsm hfr hdf' hfx
   ·rename_i hj;rw[if_neg hj];exact hQ (.exit j) S' g' a' w' hk st' hsm hfr hdf' hfx
  | ret=>exact hQ .ret S' g' a' w' hk st' hsm hfr hdf' hfx
 | .loop x,n,S,k,hc,h,Q,g,a,w=>by
  intro st hdf hQ
  simp only[exec] at h
  cases hl:H.keep.lookup (qsf x) with
  | none=>rw[hl] at h;simp at h
  | some kp=>
   rw[hl] at h
   simp only at h
   have key:∀ (m:Nat) (S:St) (g1:Ghost) (a1:Act) (w1:World),q8u (exec C D H n x) (St.canon kp.1 kp.2.2) (St.canon kp.2.1 kp.2.2) m S k=some r→StRel w1.heap S g1 a1.tmps Nil→g1.Same g→WFr g.L w w1→a1.defers=[]→qti np a a1→
     ∀ b k' cs,∃ e a' w',Q e a' w'∧Arrives P (lone (b.at a1 (.code x::.inLoop x::k')) cs w1) b k' cs e a' w':=by
    intro m
    induction m with
    | zero=>intro S g1 a1 w1 h;simp[q8u] at h
    | succ m ih=>
     intro S g1 a1 w1 h st hsm hfr hdf hfx b k' cs
     simp only[q8u] at h
     have hx:=qzh hmix x n _ _ (by simpa only [qib] using hc) h (Exit.then (fun a' w'=>∀ b k' cs,∃ e a'' w'',Q e a'' w''∧Arrives P (lone (b.at a' (.code x::.inLoop x::k')) cs w') b k' cs e a'' w'') Q) g1 a1 w1 (qbe6 st kp.1 kp.2.2) hdf (by
      intro e S' g' a' w' hk st' hsm' hfr' hdf' hfx'
      have hfx2:=hfx.trans hfx'
      have hsm2:=hsm.trans hsm'
      have hfr2:WFr g.L w w':=hfr.trans (by rw[hsm.2.1] at hfr';exact hfr')
      cases e with
      | normal=>exact ih S' g' a' w' hk st' hsm2 hfr2 hdf' hfx2
      | exit id=>exact hQ (.exit id) _ g' a' w' hk (qbe6 st' kp.2.1 kp.2.2) hsm2 hfr2 hdf' hfx2
      | ret=>exact hQ .ret _ g' a' w' hk (qbe6 st' kp.2.1 kp.2.2) hsm2 hfr2 hdf' hfx2)
     obtain ⟨e,a₁,w₁,hq,harr⟩:=hx b (.inLoop x::k') cs
     cases e with
     | normal=>
      obtain ⟨e₂,a₂,w₂,hq₂,harr₂⟩:=hq b k' cs
      exact ⟨e₂,a₂,w₂,hq₂,.of_steps (Steps.trans harr (.one step_inLoop)) harr₂⟩
     | exit id=>exact ⟨_,a₁,w₁,hq,.pass (x:=.inLoop x) rfl (fun _ _=>.inl (by simp)) harr⟩
     | goto l=>exact ⟨_,a₁,w₁,hq,.pass (x:=.inLoop x) rfl (fun _ _=>.inl (by simp)) harr⟩
     | ret=>exact ⟨_,a₁,w₁,hq,.pass (x:=.inLoop x) rfl (fun _ _=>.inl (by simp)) harr⟩
     | panic ch=>exact ⟨_,a₁,w₁,hq,.pass (x:=.inLoop x) rfl (fun _ _=>.inl (by simp)) harr⟩
     | outgrown=>exact ⟨_,a₁,w₁,hq,.pass (x:=.inLoop x) rfl (fun _ _=>.inl (by simp)) harr⟩
   intro b k' cs
   obtain ⟨e,a',w',hq,harr⟩:=key n S g a w h st (.refl g) (.refl _ _) hdf (.refl _ _) b k' cs
   exact ⟨e,a',w',hq,.of_steps (.one step_loop) harr⟩
 | .exit id,n,S,k,hc,h,Q,g,a,w=>by
  intro st hdf hQ
  exact wp_exit (hQ (.exit id) S g a w (by simpa only [exec] using h) st (.refl g) (.refl _ _) hdf (.refl _ _))
 | .ret,n,S,k,hc,h,Q,g,a,w=>by
  intro st hdf hQ
  exact wp_ret (hQ .ret S g a w (by simpa only [exec] using h) st (.refl g) (.refl _ _) hdf (.refl _ _))
 | .rangeFunc _ _ _ _,n,S,k,hc,h,Q,g,a,w=>by simp[exec] at h
 | .scope _,n,S,k,hc,h,Q,g,a,w=>by simp[exec] at h
 | .label _,n,S,k,hc,h,Q,g,a,w=>by simp[exec] at h
 | .goto _,n,S,k,hc,h,Q,g,a,w=>by simp[exec] at h
 | .refuse _,n,S,k,hc,h,Q,g,a,w=>by simp[exec] at h
end
end Go.V

namespace Go.V
open Go
theorem qqm.mono {h:Array Obj} {Pr Pr2:BS} {t:Ty} {m:Mk} {x:t.den} {v:Value} {F:BS} (hp:Sub Pr Pr2) (r:qqm h Pr t m x v F):qqm h Pr2 t m x v F:=by
 obtain ⟨b,c,F0,e,r,k⟩:=r
 exact ⟨b,c,F0,e,Rep.mono hp (fun _ _=>rfl) t r (Sub.refl _) (fun _ _=>rfl),k⟩
theorem RRel.mono {h:Array Obj} {Pr Pr2:BS} {k:RK} {x:k.den} {v:Value} {F:BS} (hp:Sub Pr Pr2) (r:RRel h Pr k x v F):RRel h Pr2 k x v F:=by
 cases k with
 | val t m=>exact qi3.mono hp r
 | ptr t m=>exact qqm.mono hp r
def q8x (tmps:Array Value):ResultVar→Sem Value
 | .tmp t=>pure (tmps.getD t Go.undef)
 | .cell a t=>do loadVar t (← asAddr (tmps.getD a Go.undef))
theorem qbp4 {fn:Func} {tmps:Array Value} {P:Program} {w:World} {us:List Value} (h:(fn.results.toList.mapM (q8x tmps)).run P w=.ok us w):(results fn tmps).run P w=.ok (qm3 us) w:=by
 have e:results fn tmps=(do let vs ← fn.results.mapM (q8x tmps);pure (if h:vs.size=1 then vs[0] else .tuple vs)):=by
  unfold results q8x
  rfl
 rw[e,Array.mapM_eq_mapM_toList]
 simp only[Sem.run_bind,Sem.run_map,h,Result.andThen_ok]
 match us with
 | []=>simp[qm3]
 | [v]=>simp[qm3]
 | u::v::l=>simp[qm3]
section
variable {P:Program} {C:Ctx}
theorem qbk7 {w:World} {t:TypeId} (k:TyOk P C t) (hz:(C.ty t).nz=true) {b o:Nat} {c:List Value} (hr:w.rangeAt b o c) (hl:c.length=(C.ty t).width) :
  (do loadVar t (← asAddr (.pointer (some ⟨b,o,none⟩))):Sem Value).run P w=.ok (mkV (C.ty t) c) w:=by
 have:=qbag (P:=P) k hz hr hl
 simpa only [Instr.loadAt,Instr.sureAddr,asAddr] using this
theorem qbwo (hty:qcz P C) {w:World} {S:St} {g:Ghost} {tmps:Array Value} {H:BS} (st:StRel w.heap S g tmps H) {t:TypeId} (hz:(C.ty t).nz=true) {a v':AV} {va:Value}
  (ha:qh w.heap S g a va) (hl:qo1 S.rt (C.ty t) a=some v'):∃ u,(do loadVar t (← asAddr va):Sem Value).run P w=.ok u w∧qh w.heap S g v' u:=by
 have k:=hty t hz
 cases a with
 | raddr t' y=>
  simp only[qo1] at hl
  cases hc:qbz t' (C.ty t) y with
  | none=>rw[hc] at hl;simp at hl
  | some z=>
   rw[hc] at hl
   simp only[qh] at ha
   obtain ⟨b,off,cs,e,hp,hb,hs,rep⟩:=ha
   have hw:=Rep.width t' rep
   obtain ⟨e1,rep2⟩:=Rep.cast hc rep
   subst e1
   have hrun:=qbk7 (P:=P) (w:=w) k hz (qb1 hb hs) hw
   refine ⟨_,by rw[e];exact hrun,?_⟩
   simp at hl
   subst hl
   simp only[qh];exact ⟨_,rep2,rfl⟩
 | addr r p=>
  simp only[qo1] at hl
  cases hf:S.rt.focus r p with
  | none=>rw[hf] at hl;simp at hl
  | some d=>
   rw[hf] at hl
   simp only at hl
   by_cases hd:d.ty=C.ty t
   ·simp only[hd,if_true] at hl
    have hf':=hf
    simp only[Rts.focus] at hf'
    split at hf'
    ·rename_i R hR
     obtain ⟨b,off,c,hin,hat,e⟩:=qbfk st hR hf' ha
     obtain ⟨base,c',F,q1,q2,q3,q4,q5⟩:=st.update hR hf' hin
     rw[hat] at q1
     simp only[Option.some.injEq,Prod.mk.injEq] at q1
     obtain ⟨rfl,rfl⟩:=q1
     obtain ⟨_,cs,ho1,hs,hsub⟩:=q4 b off rfl
     have hw:=Rep.width d.ty q2
     have hrange:w.rangeAt b off c:=by
      have:=qb1 (w:=w) ho1.blk hs
      rw[hsub] at this;exact this
     have hrun:=qbk7 (P:=P) k hz hrange (by rw[hw,hd])
     obtain ⟨dt,dm,dx⟩:=d
     simp only at hd
     subst hd
     refine ⟨_,by rw[e];exact hrun,?_⟩
     simp only[Option.some.injEq] at hl
     subst hl
     exact AVC.rel q2 (qzb hR _ _ _ p (some (b,off)) c F hf' hin hat q2) (Ty.nz_unit hz)
    ·simp at hf'
   ·rw[if_neg hd] at hl;simp at hl
 | _=>simp[qo1] at hl
theorem qbnt (hty:qcz P C) {w:World} {S:St} {g:Ghost} {tmps:Array Value} {H:BS} (st:StRel w.heap S g tmps H) {v:ResultVar} {a:AV} (h:qbid C S v=some a) :
  ∃ u,(q8x tmps v).run P w=.ok u w∧qh w.heap S g a u:=by
 cases v with
 | tmp t=>
  simp only[qbid,Option.some.injEq] at h
  subst h
  exact ⟨_,by simp only[q8x,Sem.run_pure],st.slots t⟩
 | cell x t=>
  simp only[qbid] at h
  split at h
  ·rename_i hz
   exact qbwo hty st hz (st.slots x) h
  ·simp at h
theorem qbpc {h:Array Obj} {S:St} {g:Ghost} {tmps:Array Value} {H:BS} (st:StRel h S g tmps H) {q:Nat} {R:Root} (hR:S.root q=some R) (hm:R.mem=true) {t:Ty} {m:Mk} {x:t.den} {v:Value}
  (hs:m.serves R.ms=true) (hc:qbz R.ty t R.x=some x) (hv:qh h S g (.addr q []) v) :
  ∃ g' F,StRel h (S.setRoot q none) g' tmps (Un H F)∧qqm h g'.Pr t m x v F∧Dis F H∧g'.Same g∧Sub g.Pr g'.Pr:=by
 obtain ⟨F,r1,r2,r3,r4,_⟩:=st.roots q R hR
 obtain ⟨b,hb1,hb2,hb3⟩:=r4 hm
 have hq:(S.root q).isSome:=by rw[hR];rfl
 have s1:=st.dropRootH hq
 obtain ⟨_,rx⟩:=Rep.cast hc r1
 obtain ⟨F1,F2,q1,q2,q3,q4⟩:=Rep.serves t hs rx
 have s2:=s1.shareHand F2 (fun z hz=>.inr (r2 z (q2 z hz)))
 obtain ⟨b',off,c,hin,hat,e⟩:=qbfk st hR (p:=[]) (d:=⟨R.ty,R.ms,R.x⟩) (by simp only[focus]) hv
 have hat':atP h R.ty (g.C q) (g.base q) []=some (g.base q,g.C q):=by cases R.ty<;>rfl
 rw[hat'] at hat
 simp only[Option.some.injEq,Prod.mk.injEq,Ghost.base,hb1,Option.map_some] at hat
 obtain ⟨⟨rfl,rfl⟩,rfl⟩:=hat
 refine ⟨{ g with Pr:=Un g.Pr F2 },fun z=>F1 z∨z=b,s2.lessHand ?_,⟨b,g.C q,F1,e,q4,hb3,.inr rfl,fun z hz=>.inl hz,fun hz=>r3 b hb1 (q1 b hz)⟩,?_,⟨rfl,rfl,rfl⟩,fun z hz=>.inl hz⟩
 ·rintro z (hz | hz | rfl)
  ·exact ⟨.inl hz,fun h2=>st.hand q hq z (r2 z (q2 z h2)) hz⟩
  ·exact ⟨.inr (r2 z (q1 z hz)),fun h2=>q3 z hz h2⟩
  ·exact ⟨.inr hb2,fun h2=>r3 z hb1 (q2 z h2)⟩
 ·rintro z (hz | rfl) hh
  ·exact st.hand q hq z (r2 z (q1 z hz)) hh
  ·exact st.hand q hq z hb2 hh
theorem qblb (hty:qcz P C) {w:World} {tmps:Array Value}:∀ (rs:List RK) (vs:List ResultVar) (S:St) (g:Ghost) (H:BS) (i:Nat) (r:RDen rs) (S':St),StRel w.heap S g tmps H→qp7 C rs vs S=some (r,S')→
  ∃ us g' H' Gs,(vs.mapM (q8x tmps)).run P w=.ok us w∧StRel w.heap S' g' tmps H'∧g'.Same g∧Sub g.Pr g'.Pr∧qfm w.heap g'.Pr Gs i rs r us∧(∀ j,j<i→Gs j=Nil)∧
   (∀ j,Sub (Gs j) H')∧(∀ j k,j≠k→Dis (Gs j) (Gs k))∧(∀ j,Dis (Gs j) H)∧Sub H H'
 | [],[],S,g,H,i,r,S',st,h=>by
  simp only[qp7,Option.some.injEq,Prod.mk.injEq] at h
  obtain ⟨_,rfl⟩:=h
  exact ⟨[],g,H,fun _=>Nil,by simp,st,.refl g,Sub.refl _,rfl,fun _ _=>rfl,fun _=>Sub.nil _,fun _ _ _=>Dis.nil _,fun _=>Dis.nil _,Sub.refl _⟩
 | [],_::_,S,g,H,i,r,S',st,h=>by simp[qp7] at h
 | k::_,[],S,g,H,i,r,S',st,h=>by cases k<;>simp[qp7] at h
 | k::ks,v::vs,S,g,H,i,r,S',st,h=>by
  -- one
  have one:∃ u S1 x g1 F rr,(q8x tmps v).run P w=.ok u w∧StRel w.heap S1 g1 tmps (Un H F)∧RRel w.heap g1.Pr k x u F∧Dis F H∧g1.Same g∧Sub g.Pr g1.Pr∧qp7 C ks vs S1=some (rr,S')∧r=(x,rr):=by
   cases k with
   | val t m=>
    simp only[qp7,Option.bind_eq_some_iff] at h
    obtain ⟨a,ha,⟨mx,x,rt'⟩,htk,h⟩:=h
    split at h
    ·rename_i hs
     simp only[Option.bind_eq_some_iff,Option.some.injEq,Prod.mk.injEq] at h
     obtain ⟨⟨rr,S2⟩,hg,rfl,rfl⟩:=h
     obtain ⟨u,hu,hav⟩:=qbnt hty st ha
     obtain ⟨c,g2,F,ev,tk1⟩:=q0d _ st htk hav
     obtain ⟨F1,F2,q1,q2,q3,q4⟩:=Rep.serves t hs tk1.rep
     have s2:=tk1.st.shareHand F2 (fun z hz=>.inr (q2 z hz))
     refine ⟨u,_,x,_,F1,rr,hu,s2.lessHand ?_,⟨c,q4,ev⟩,fun z hz hh=>tk1.dis z (q1 z hz) hh,Ghost.Same.trans tk1.same ⟨rfl,rfl,rfl⟩,fun z hz=>.inl (tk1.pr z hz),hg,rfl⟩
     rintro z (hz | hz)
     ·exact ⟨.inl hz,fun h2=>tk1.dis z (q2 z h2) hz⟩
     ·exact ⟨.inr (q1 z hz),fun h2=>q3 z hz h2⟩
    ·simp at h
   | ptr t m=>
    simp only[qp7] at h
    split at h
    ·rename_i q ha
     split at h
     ·rename_i R hR
      split at h
      ·rename_i hs
       simp only[Option.bind_eq_some_iff,Option.some.injEq,Prod.mk.injEq] at h
       obtain ⟨x,hc,⟨rr,S2⟩,hg,rfl,rfl⟩:=h
       obtain ⟨u,hu,hav⟩:=qbnt hty st ha
       obtain ⟨g1,F,p1,p2,p3,p4,p5⟩:=qbpc st hR hs.1 hs.2 hc hav
       exact ⟨u,_,x,g1,F,rr,hu,p1,p2,p3,p4,p5,hg,rfl⟩
      ·simp at h
     ·simp at h
    ·simp at h
  obtain ⟨u,S1,x,g1,F,rr,hu,p1,p2,p3,p4,p5,hg,rfl⟩:=one
  obtain ⟨us,g',H',Gs,k1,k2,k3,k4,k5,k6,k7,k8,k9,k10⟩:=qblb hty ks vs S1 g1 _ (i+1) rr S' p1 hg
  refine ⟨u::us,g',H',fun j=>if j=i then F else Gs j,?_,k2,p4.trans k3,p5.trans k4,?_,?_,?_,?_,?_,fun z hz=>k10 z (.inl hz)⟩
  ·simp[List.mapM_cons,hu,k1]
  ·refine ⟨u,us,rfl,?_,?_⟩
   ·show RRel w.heap g'.Pr k x u (if i=i then F else Gs i)
    rw[if_pos rfl]
    exact p2.mono k4
   ·have:∀ (ks:List RK) (n:Nat) {a:RDen ks} {us:List Value},i<n→qfm w.heap g'.Pr Gs n ks a us→qfm w.heap g'.Pr (fun j=>if j=i then F else Gs j) n ks a us:=by
     intro ks
     induction ks with
     | nil=>intro n a us _ h;exact h
     | cons k ks ih=>
      intro n a us hn h
      obtain ⟨v,vs',e,r1,r2⟩:=h
      exact ⟨v,vs',e,by show RRel _ _ _ _ _ (if n=i then F else Gs n);rw[if_neg (by omega)];exact r1,ih (n+1) (by omega) r2⟩
    exact this ks (i+1) (by omega) k5
  ·intro j hj;show (if j=i then F else Gs j)=Nil;rw[if_neg (by omega)];exact k6 j (by omega)
  ·intro j z hz
   split at hz
   ·exact k10 z (.inr hz)
   ·exact k7 j z hz
  ·intro j k hjk z h1 h2
   split at h1<;>split at h2
   ·omega
   ·exact k9 k z h2 (.inr h1)
   ·exact k9 j z h1 (.inr h2)
   ·exact k8 j k hjk z h1 h2
  ·intro j z h1 h2
   split at h1
   ·exact p3 z h1 h2
   ·exact k9 j z h1 (.inl h2)
end
end Go.V


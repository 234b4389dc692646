import Derived.Test.YtpmimbgkiindbaaGreatAV1
set_option linter.unusedVariables false
set_option linter.unusedSimpArgs false
set_option linter.unusedSectionVars false
namespace Go.V
open Go
theorem qoz:∀ (ks:List PK) (avs:List AV) (rt rt1:Rts) (gd:GDen ks),ks.all (fun k=>!k.gives)=true→qbi rt ks avs=some (gd,rt1)→rt1=rt
 | [],avs,rt,rt1,gd,_,hb=>by
  cases avs with
  | nil=>simp only[qbi,z4,z7] at hb;exact hb.2.symm
  | cons a avs=>simp[qbi] at hb
 | k::ks,[],rt,rt1,gd,_,hb=>by cases k<;>simp[qbi] at hb
 | k::ks,a::avs,rt,rt1,gd,hn,hb=>by
  simp only[List.all_cons,z9] at hn
  cases k with
  | own t m=>simp[PK.gives] at hn
  | val t=>exact qoz ks avs rt rt1 gd hn.2 (by simpa only [qbi] using hb)
  | mutp t m m'=>exact qoz ks avs rt rt1 gd hn.2 (by simpa only [qbi] using hb)
  | mutv t m m'=>exact qoz ks avs rt rt1 gd hn.2 (by simpa only [qbi] using hb)
  | rptr t=>exact qoz ks avs rt rt1 gd hn.2 (by simpa only [qbi] using hb)
  | fn=>exact qoz ks avs rt rt1 gd hn.2 (by simpa only [qbi] using hb)
theorem q0d {h h2:Array Obj} {Pr Pr2:BS} {Fs Fs2:Nat→BS}:∀ (ks:List PK) (i:Nat) {gd:GDen ks} {vs:List Value},ks.all (fun k=>!k.gives)=true→qiv h Pr Fs i ks gd vs→qiv h2 Pr2 Fs2 i ks gd vs
 | [],_,_,_,_,k=>k
 | q::ks,i,gd,vs,hn,k=>by
  simp only[List.all_cons,z9] at hn
  cases q with
  | own t m=>simp[PK.gives] at hn
  | val t=>obtain ⟨v,vs',e,k⟩:=k;exact ⟨v,vs',e,q0d ks (i+1) hn.2 k⟩
  | mutp t m m'=>obtain ⟨v,vs',e,k⟩:=k;exact ⟨v,vs',e,q0d ks (i+1) hn.2 k⟩
  | mutv t m m'=>obtain ⟨v,vs',e,k⟩:=k;exact ⟨v,vs',e,q0d ks (i+1) hn.2 k⟩
  | rptr t=>obtain ⟨v,vs',e,k⟩:=k;exact ⟨v,vs',e,q0d ks (i+1) hn.2 k⟩
  | fn=>obtain ⟨v,vs',e,k⟩:=k;exact ⟨v,vs',e,q0d ks (i+1) hn.2 k⟩
structure LentP (h:Array Obj) (ks:List PK) (avs:List AV) (vs:List Value) (rt rt2:Rts) (od:ODen ks) (n:Nat) (v:Value) (q:Nat) (t:Ty) (m m':Mk) (R:Root) (x:t.den):Prop where
 root:rt.root q=some R
 srv:m.serves R.ms=true
 mem:R.mem=true
 cast:qbq R.ty t R.x=some x
 rt2:rt2=rt.setRoot q none
 ls:∀ Pr Fs i,qol h Pr t m x v (Fs (i+n))→qsd h Pr Fs i ks od vs
 out:∀ o:ODen ks,∃ y:t.den,(∀ rtX site rt4,qbm rtX site ks avs o=some rt4→m'.tagFree=true∧rt4=rtX.setRoot q (some ⟨t,m'.stamp site,y,true⟩))∧
  ∀ h' Pr' Os i,qhm h' Pr' Os i ks o vs→qol h' Pr' t m' y v (Os (i+n))
 full:ks.all PK.full=true→m'.full t=true
structure LentV (h:Array Obj) (ks:List PK) (avs:List AV) (vs:List Value) (rt rt2:Rts) (od:ODen ks) (n:Nat) (a:AV) (v:Value) (q:Nat) (p:Path) (R:Root) (md:Mk) (t:Ty) (xd:t.den) (m m' mx:Mk) (x:t.den):Prop where
 place:qcm a=some (q,p)
 root:rt.root q=some R
 foc:focus R.ty R.ms R.x p=some ⟨t,md,xd⟩
 lend:qee q t a p md xd=some (mx,x)
 paths:qj7 a p=true
 srv:m.serves mx=true
 rt2:rt2=rt.setRoot q none
 ls:∀ Pr Fs i,qh9 h Pr t m x v (Fs (i+n))→qsd h Pr Fs i ks od vs
 out:∀ o:ODen ks,∃ y:t.den,(∀ rtX site rt4,qbm rtX site ks avs o=some rt4→qbeq rtX site t a m' y=some rt4)∧
  ∀ h' Pr' Os i,qhm h' Pr' Os i ks o vs→qh9 h' Pr' t m' y v (Os (i+n))
 full:ks.all PK.full=true→m'.full t=true
theorem qxo {h:Array Obj} {Pr:BS} {Fs:Nat→BS} {S:St} {g:Ghost} {ks:List PK} {avs:List AV} {vs:List Value} {i:Nat} {rt rt2:Rts} {od:ODen ks} (hn:(ks.filter PK.lends).length=0)
  (ha:qfo h S g avs vs) (hb:qbg rt ks avs=some (od,rt2)):rt2=rt∧qsd h Pr Fs i ks od vs:=by
 refine qmq ks avs vs i rt rt2 od ?_ ha hb
 rw[z50,List.filter_eq_nil_iff] at hn
 simpa using hn
theorem qyi {site:Nat}:∀ (ks:List PK) (avs:List AV) (o:ODen ks) (rt rt4:Rts),(ks.filter PK.lends).length=0→qbm rt site ks avs o=some rt4→rt4=rt
 | [],avs,o,rt,rt4,_,hb=>by
  cases avs with
  | nil=>simp only[qbm,z4] at hb;exact hb.symm
  | cons a avs=>simp[qbm] at hb
 | k::ks,[],o,rt,rt4,_,hb=>by cases k<;>simp[qbm] at hb
 | k::ks,a::avs,o,rt,rt4,hn,hb=>by
  cases k with
  | mutp t m m'=>simp[PK.lends] at hn
  | mutv t m m'=>simp[PK.lends] at hn
  | val t=>exact qyi ks avs o rt rt4 (by simpa [PK.lends] using hn) (by simpa only [qbm] using hb)
  | own t m=>exact qyi ks avs o rt rt4 (by simpa [PK.lends] using hn) (by simpa only [qbm] using hb)
  | rptr t=>exact qyi ks avs o rt rt4 (by simpa [PK.lends] using hn) (by simpa only [qbm] using hb)
  | fn=>exact qyi ks avs o rt rt4 (by simpa [PK.lends] using hn) (by simpa only [qbm] using hb)
theorem qbsh {h:Array Obj} {S:St} {g:Ghost}:∀ (ks:List PK) (avs:List AV) (vs:List Value) (rt rt2:Rts) (od:ODen ks),(ks.filter PK.lends).length=1→qfo h S g avs vs→qbg rt ks avs=some (od,rt2)→qkz ks avs=true→
  ∃ n a v,qe h S g a v∧((∃ q t m m' R x,a=.addr q []∧LentP h ks avs vs rt rt2 od n v q t m m' R x)∨(∃ q p R md t xd m m' mx x,LentV h ks avs vs rt rt2 od n a v q p R md t xd m m' mx x))
 | [],avs,vs,rt,rt2,od,hn,ha,hb,hlo=>by simp at hn
 | k::ks,[],vs,rt,rt2,od,hn,ha,hb,hlo=>by cases k<;>simp[qbg] at hb
 | k::ks,a::avs,vs,rt,rt2,od,hn,ha,hb,hlo=>by
  obtain ⟨v,vs',rfl,r1,r2⟩:=ha
  have step:∀ (hk:k.lends=false) (hlo':qkz ks avs=true) (od':ODen ks),qbg rt ks avs=some (od',rt2)→
    (∀ h Pr Fs i,qsd h Pr Fs (i+1) ks od' vs'→qsd h Pr Fs i (k::ks) od (v::vs'))→
    (∀ o:ODen (k::ks),∃ o':ODen ks,(∀ rtX site,qbm rtX site (k::ks) (a::avs) o=qbm rtX site ks avs o')∧∀ h' Pr' Os i,qhm h' Pr' Os i (k::ks) o (v::vs')→qhm h' Pr' Os (i+1) ks o' vs')→
    ∃ n a' v',qe h S g a' v'∧((∃ q t m m' R x,a'=.addr q []∧LentP h (k::ks) (a::avs) (v::vs') rt rt2 od n v' q t m m' R x)∨(∃ q p R md t xd m m' mx x,LentV h (k::ks) (a::avs) (v::vs') rt rt2 od n a' v' q p R md t xd m m' mx x)):=by
   intro hk hlo' od' hb' hls hout
   have hn':(ks.filter PK.lends).length=1:=by rw[List.filter_cons_of_neg (by simp[hk])] at hn;exact hn
   obtain ⟨n,a',v',ra,hcase⟩:=qbsh ks avs vs' rt rt2 od' hn' r2 hb' hlo'
   refine ⟨n+1,a',v',ra,?_⟩
   rcases hcase with ⟨q,t,m,m',R,x,e,L⟩ | ⟨q,p,R,md,t,xd,m,m',mx,x,L⟩
   ·refine .inl ⟨q,t,m,m',R,x,e,L.root,L.srv,L.mem,L.cast,L.rt2,?_,?_,?_⟩
    ·intro Pr Fs i hp
     exact hls _ _ _ _ (L.ls Pr Fs (i+1) (by rw[show i+1+n=i+(n+1) by omega];exact hp))
    ·intro o
     obtain ⟨o',ho1,ho2⟩:=hout o
     obtain ⟨y,hy1,hy2⟩:=L.out o'
     refine ⟨y,fun rtX site rt4 hh=>hy1 rtX site rt4 (by rw[←ho1];exact hh),fun h' Pr' Os i hh=>?_⟩
     have:=hy2 h' Pr' Os (i+1) (ho2 h' Pr' Os i hh)
     rwa [show i+1+n=i+(n+1) by omega] at this
    ·intro hf;simp only[List.all_cons,z9] at hf;exact L.full hf.2
   ·refine .inr ⟨q,p,R,md,t,xd,m,m',mx,x,L.place,L.root,L.foc,L.lend,L.paths,L.srv,L.rt2,?_,?_,?_⟩
    ·intro Pr Fs i hp
     exact hls _ _ _ _ (L.ls Pr Fs (i+1) (by rw[show i+1+n=i+(n+1) by omega];exact hp))
    ·intro o
     obtain ⟨o',ho1,ho2⟩:=hout o
     obtain ⟨y,hy1,hy2⟩:=L.out o'
     refine ⟨y,fun rtX site rt4 hh=>hy1 rtX site rt4 (by rw[←ho1];exact hh),fun h' Pr' Os i hh=>?_⟩
     have:=hy2 h' Pr' Os (i+1) (ho2 h' Pr' Os i hh)
     rwa [show i+1+n=i+(n+1) by omega] at this
    ·intro hf;simp only[List.all_cons,z9] at hf;exact L.full hf.2
  cases k with
  | val t=>exact step rfl (by simpa only [qkz] using hlo) od (by simpa only [qbg] using hb) (fun h Pr Fs i k=>⟨v,vs',rfl,k⟩) (fun o=>⟨o,fun _ _=>by simp only[qbm],fun h' Pr' Os i k=>by obtain ⟨_,_,e,k⟩:=k;simp only[z36] at e;obtain ⟨-,rfl⟩:=e;exact k⟩)
  | own t m=>exact step rfl (by simpa only [qkz] using hlo) od (by simpa only [qbg] using hb) (fun h Pr Fs i k=>⟨v,vs',rfl,k⟩) (fun o=>⟨o,fun _ _=>by simp only[qbm],fun h' Pr' Os i k=>by obtain ⟨_,_,e,k⟩:=k;simp only[z36] at e;obtain ⟨-,rfl⟩:=e;exact k⟩)
  | rptr t=>exact step rfl (by simpa only [qkz] using hlo) od (by simpa only [qbg] using hb) (fun h Pr Fs i k=>⟨v,vs',rfl,k⟩) (fun o=>⟨o,fun _ _=>by simp only[qbm],fun h' Pr' Os i k=>by obtain ⟨_,_,e,k⟩:=k;simp only[z36] at e;obtain ⟨-,rfl⟩:=e;exact k⟩)
  | fn=>exact step rfl (by simpa only [qkz] using hlo) od (by simpa only [qbg] using hb) (fun h Pr Fs i k=>⟨v,vs',rfl,k⟩) (fun o=>⟨o,fun _ _=>by simp only[qbm],fun h' Pr' Os i k=>by obtain ⟨_,_,e,k⟩:=k;simp only[z36] at e;obtain ⟨-,rfl⟩:=e;exact k⟩)
  | mutp t m m'=>
   have hn':(ks.filter PK.lends).length=0:=by
    rw[List.filter_cons_of_pos (by rfl)] at hn;simpa using hn
   cases a with
   | addr q p=>
    cases p with
    | nil=>
     simp only[qbg] at hb
     split at hb
     ·rename_i R hR
      split at hb
      ·rename_i hc
       simp only[z8,z4,z7] at hb
       obtain ⟨x,hx,⟨od2,rt3⟩,hb,e1,e2⟩:=hb
       subst e2
       obtain ⟨e3,_⟩:=qxo (h:=h) (Pr:=Nil) (Fs:=fun _=>Nil) (i:=0) hn' r2 hb
       refine ⟨0,.addr q [],v,r1,.inl ⟨q,t,m,m',R,x,rfl,hR,hc.1,hc.2,hx,e3,?_,?_,?_⟩⟩
       ·intro Pr Fs i hp
        subst e1
        exact ⟨v,vs',rfl,hp,(qxo hn' r2 hb).2⟩
       ·intro o
        refine ⟨o.1,fun rtX site rt4 hh=>?_,fun h' Pr' Os i hh=>?_⟩
        ·simp only[qbm] at hh
         split at hh
         ·rename_i ht;exact ⟨ht,qyi ks avs o.2 _ _ hn' hh⟩
         ·simp at hh
        ·obtain ⟨_,_,e,k,_⟩:=hh
         simp only[z36] at e
         obtain ⟨rfl,-⟩:=e
         exact k
       ·intro hf;simp only[List.all_cons,z9] at hf;exact hf.1
      ·simp at hb
     ·simp at hb
    | cons _ _=>simp[qbg] at hb
   | _=>simp[qbg] at hb
  | mutv t m m'=>
   have hn':(ks.filter PK.lends).length=0:=by
    rw[List.filter_cons_of_pos (by rfl)] at hn;simpa using hn
   simp only[qbg] at hb
   split at hb
   ·rename_i q p hpl
    split at hb
    ·rename_i R hR
     simp only[z8] at hb
     obtain ⟨⟨td,md,xd⟩,hf,hb⟩:=hb
     split at hb
     ·rename_i htd
      simp only at htd
      subst htd
      simp only[z8] at hb
      obtain ⟨⟨mx,x⟩,htk,hb⟩:=hb
      split at hb
      ·rename_i hs
       simp only[z8,z4,z7] at hb
       obtain ⟨⟨od2,rt4⟩,hb,e1,e2⟩:=hb
       subst e2
       obtain ⟨e3,_⟩:=qxo (h:=h) (Pr:=Nil) (Fs:=fun _=>Nil) (i:=0) hn' r2 hb
       refine ⟨0,a,v,r1,.inr ⟨q,p,R,md,_,xd,m,m',mx,x,hpl,hR,hf,htk,(by simp only[qkz,hpl,z9] at hlo;exact hlo.1),hs,e3,?_,?_,?_⟩⟩
       ·intro Pr Fs i hp
        subst e1
        exact ⟨v,vs',rfl,hp,(qxo hn' r2 hb).2⟩
       ·intro o
        refine ⟨o.1,fun rtX site rt4 hh=>?_,fun h' Pr' Os i hh=>?_⟩
        ·simp only[qbm,z8] at hh
         obtain ⟨rt5,h5,h6⟩:=hh
         rw[qyi ks avs o.2 _ _ hn' h6];exact h5
        ·obtain ⟨_,_,e,k,_⟩:=hh
         simp only[z36] at e
         obtain ⟨rfl,-⟩:=e
         exact k
       ·intro hf;simp only[List.all_cons,z9] at hf;exact hf.1
      ·simp at hb
     ·simp at hb
    ·simp at hb
   ·simp at hb
end Go.V

namespace Go.V
open Go
theorem qbvi {h:Array Obj} {S:St} {g:Ghost} {tmps:Array Value} {H:BS} (st:StRel h S g tmps H) (q:Nat):Kp h S g (S.setRoot q none) g:=by
 have hroot:∀ r',(S.setRoot q none).root r'=S.root r'∨(S.setRoot q none).root r'=none:=by
  intro r';rw[St.root_setRoot];by_cases e:r'=q∧q<S.rt.length<;>simp[e]
 intro u v y
 refine (qe.keep (Sub.refl _) (fun _ _=>rfl) u).1 v y (AV.keeps_all (fun r p=>?_) (fun r p s=>?_) u)
 ·exact (qcv st (hroot r) rfl rfl (fun _ _ _=>rfl)).1 p
 ·exact (qcv st (hroot r) rfl rfl (fun _ _ _=>rfl)).2 p s
theorem qbuy {h h2:Array Obj} {t:Ty} {x y:t.den} {m2:Mk} {c c2:List Value} {base:Base} {site:Nat} (hf:m2.fresh site (site+1)) :
  ∀ p' t1 n1,qcr site (site+1) p'=true→qw t m2 p'=some (t1,n1)→inR t x p'→inR t y p'∧∀ bp cp,atP h t c base p'=some (bp,cp)→
   ∃ cp',atP h2 t c2 base p'=some (bp,cp')∧(∀ s a,n1=.own s a→¬ (site≤s∧s<site+1)→cp'=cp):=by
 intro p' t1 n1 hp hfm _
 obtain ⟨hi',hn1⟩:=qi7 p' hf hp hfm
 refine ⟨qi3 _ _ hi' hfm,fun bp cp ha=>?_⟩
 obtain ⟨cp',h3⟩:=qnj (h':=h2) p' _ c2 _ hi' ha
 exact ⟨cp',h3,fun s a' e hs=>by subst e;exact absurd hn1 hs⟩
section
variable {P:Program} {C:Ctx} {D:Den C} {S:St} {g:Ghost} {w:World} {tmps:Array Value}
variable {A:Asks} {site:Nat} (dok:DOk P C D) (st:StRel w.heap S g tmps Nil)
include dok st
theorem qbuh {f:FuncId} {avs:List AV} {vs:List Value} {d:Option Nat} (ok:AOk A S d site) (hfr:site<1048576∧∀ u,(S.get u).stampsOk site (site+1)=true)
  (ha:qfo w.heap S g avs vs) (hng:(C.sig f).params.all (fun k=>!k.gives)=true) {gd:GDen (C.sig f).params} (h1:qbi S.rt (C.sig f).params avs=some (gd,S.rt))
  {od:ODen (C.sig f).params} {rt2:Rts} {n:Nat} {v0:Value} {q:Nat} {t:Ty} {m m':Mk} {R:Root} {x:t.den} (hav:qe w.heap S g (.addr q []) v0)
  (L:LentP w.heap (C.sig f).params avs vs S.rt rt2 od n v0 q t m m' R x) {a:PDen (C.sig f).params} (h3:qcj rt2 (C.sig f).params avs gd od=some a)
  (hs:qb7 (C.sig f).params avs=true∨(C.sig f).full=true) {r:RDen (C.sig f).res×ODen (C.sig f).params} (hD:D f a=some r) {β:Bool} {v:AV} {rt3 rt':Rts}
  (ho:qbm S.rt site (C.sig f).params avs r.2=some rt3) (he:(qd3 A rt3 d site (C.sig f).res r.1).dec β=some (v,rt')) :
  Calls P f vs.toArray w fun e w'=>∃ val,e=.returned val∧Post S g w tmps v rt' val w':=by
 have hR:=L.root
 have hisr:(S.root q).isSome:=by show (S.rt.root q).isSome=true;rw[hR];rfl
 obtain ⟨e1,e2⟩:=qjz L.cast
 obtain ⟨Rt,Rm,Rx,Rmem⟩:=R
 simp only at e1 e2
 subst e1
 simp only at e2
 subst e2
 have hmem:Rmem=true:=L.mem
 subst hmem
 obtain ⟨base,c,F,q1,q2,q3,q4,q5,q6⟩:=st.updateD hR (q1e Rt Rm Rx) (q9y _ _)
 simp only[qe] at hav
 obtain ⟨_,b,off,c',hat,ev0⟩:=hav _ hR _ (q1e _ _ _)
 rw[qyq] at hat q1
 simp only[z4,z7] at hat q1
 obtain ⟨hb1,hb2⟩:=q1
 obtain ⟨hb3,hb4⟩:=hat
 obtain ⟨F00,_,_,_,hmm,_⟩:=st.roots q _ hR
 obtain ⟨b0,hB,hGb,hob⟩:=hmm rfl
 have hbase:g.base q=some (b0,0):=by simp[Ghost.base,hB]
 rw[hbase] at hb1 hb3
 simp only[z4,z7] at hb3
 obtain ⟨rfl,rfl⟩:=hb3
 subst hb1
 subst hb2
 obtain ⟨hbF,_⟩:=q4 b0 0 rfl
 obtain ⟨F1,F2,s1,s2,s3,s4⟩:=Rep.serves Rt L.srv q2
 have st2:=(st.dropRootH hisr).shareHand F2 (fun z hz=>.inr (q3 z (s2 z hz)))
 let g2:Ghost:={ g with Pr:=Un g.Pr F2 }
 have kp2:Kp w.heap S g (S.setRoot q none) g2:=(qbvi st q).trans (q0q (st.dropRootH hisr) F2)
 let Fs:Nat→BS:=fun j=>if j=n then (fun z=>z=b0∨F1 z) else Nil
 have hFs:∀ i,Sub (Fs i) (fun z=>(Nil z∨g.G q z)∧¬ F2 z):=by
  intro i z hz
  simp only[Fs] at hz
  split at hz
  ·rcases hz with rfl | hz
   ·exact ⟨.inr hGb,fun h=>hbF (s2 _ h)⟩
   ·exact ⟨.inr (q3 z (s1 z hz)),fun h=>s3 z hz h⟩
  ·exact hz.elim
 have e2:rt2=(S.setRoot q none).rt:=L.rt2
 subst e2
 obtain ⟨gg1,HH1,FF,kk⟩:=qlk (sl:=S.sl) (C.sig f).params avs vs S.rt g Nil 0 gd S.rt ha st h1
 have hG:=q0d (h2:=w.heap) (Pr2:=g2.Pr) (Fs2:=Fs) (C.sig f).params 0 hng kk.2.2.2.2.1
 have hL:=L.ls g2.Pr Fs 0 (by
  simp only[Nat.zero_add,Fs,if_true]
  exact ⟨b0,g.C q,F1,ev0,s4,hob,.inl rfl,fun z hz=>.inr hz,fun h=>hbF (s1 _ h)⟩)
 have hps:=qi0 st2 (sh:=qb7 (C.sig f).params avs) (Fs:=Fs) (C.sig f).params avs vs 0 gd od a (fun h=>h) (ha.kp kp2) hG hL h3
 have hFsd:∀ i j,i≠j→Dis (Fs i) (Fs j):=by
  intro i j hij z h1 h2
  simp only[Fs] at h1 h2
  split at h1
  ·split at h2
   ·omega
   ·exact h2
  ·exact h1
 have pre:Pre w.heap (Seen (qb7 (C.sig f).params avs) (S.setRoot q none) g2) Fs (C.sig f).params a vs:=
  ⟨hps,hFsd,fun i z hz=>qbe4 st2 _ z (hFs i z hz),fun i z hz=>st2.limH z (hFs i z hz),qbe1 st2 _⟩
 refine (dok.ok f a r hD w _ Fs vs pre).mono ?_
 rintro e w' ⟨val,Pr',Gs,Os,us,rfl,p⟩
 obtain ⟨y,hy1,hy2⟩:=L.out r.2
 obtain ⟨hmt,rfl⟩:=hy1 S.rt site rt3 ho
 obtain ⟨b2,c2,F0',ev2,rep2,hob2,hOb,hF0',hnb⟩:=hy2 _ _ _ _ p.out
 rw[Nat.zero_add] at hOb hF0'
 rw[ev0] at ev2
 simp only[Value.pointer.injEq,z4,Addr.mk.injEq,and_true] at ev2
 subst ev2
 have hMay:∀ z,May w.heap.size Fs z→w.heap.size≤z∨z=b0∨F1 z:=by
  rintro z (h | ⟨i,h⟩)
  ·exact .inl h
  ·simp only[Fs] at h
   split at h
   ·exact .inr h
   ·exact h.elim
 let Dd:BS:=fun z=>qb7 (C.sig f).params avs=true∧Pr' z∧¬ g.Pr z
 have hDd:∀ z,Dd z→F z∨Nil z∨w.heap.size≤z:=by
  rintro z ⟨hsh,h1,h2⟩
  rcases p.prL z h1 with h3 | h3
  ·rw[hsh] at h3
   simp only[Seen,if_true] at h3
   rcases h3 with h3 | h3
   ·exact absurd h3 h2
   ·exact .inl (s2 z h3)
  ·rcases hMay z h3 with h4 | rfl | h4
   ·exact .inr (.inr h4)
   ·exact (p.op n z hOb h1).elim
   ·exact .inl (s1 z h4)
 have hF0m:∀ z,F0' z→F z∨Nil z∨w.heap.size≤z:=by
  intro z hz
  rcases hMay z (p.oL n z (hF0' z hz)) with h4 | rfl | h4
  ·exact .inr (.inr h4)
  ·exact (hnb hz).elim
  ·exact .inl (s1 z h4)
 have hfull:qb7 (C.sig f).params avs=false→(C.sig f).full=true:=fun h=>hs.resolve_left (by rw[h];simp)
 have rep3:Rep w'.heap (Un g.Pr Dd) Rt (m'.stamp site) y c2 F0':=by
  refine (Rep.stamp site _).1 ?_
  cases hsh:qb7 (C.sig f).params avs with
  | true=>
   refine Rep.mono (fun z hz=>?_) (fun _ _=>rfl) _ rep2 (Sub.refl _) (fun _ _=>rfl)
   by_cases h1:g.Pr z
   ·exact .inl h1
   ·exact .inr ⟨hsh,hz,h1⟩
  | false=>
   have h5:=hfull hsh
   simp only[Sig.full,z9] at h5
   exact Rep.fullMk _ (L.full h5.1) rep2
 have hl1:(g.C q).length=Rt.width:=Rep.width _ q2
 have hl2:=Rep.width _ rep2
 have hfresh2:(m'.stamp site).fresh site (site+1):=Mk.fresh_stamp site hmt
 obtain ⟨g',k1,k2,k3,k4,k5,k6,k7⟩:=q6 site (site+1) w'.heap (m'.stamp site) y c2 F0' Dd (m'.stamp site) y hfr.2
  (fun z hz hnF hbz=>p.fr.block z hz (fun h=>by
   rcases hMay z h with h4 | rfl | h4
   ·omega
   ·exact hbz 0 rfl
   ·exact hnF (s1 z h4)))
  p.fr.size
  (by
   intro b o e cs hcs
   simp only[z4,z7] at e
   obtain ⟨rfl,rfl⟩:=e
   obtain rfl:=qcn.uniq hob hcs
   exact ⟨c2.toArray,hob2,by rw[List.toList_toArray,List.toList_toArray];exact (qbb1 (by omega)).symm⟩)
  rep3 (fun z h1 h2=>p.op n z (hF0' z h2) h1.2.1) (fun z hz=>hz.elim (hF0m z) (hDd z))
  (fun z hz=>hz.elim (fun h=>p.olim n z (hF0' z h)) (fun h=>p.plim z h.2.1))
  (by simp[put,qbq]) (Mk.upd_of_fresh _ hfresh2) (TagC.tagFree _ (Mk.tagFree_stamp hfr.1 hmt)) (fun h=>by simp[qr] at h) (qbuy hfresh2)
 have hres:qe4 w'.heap g'.Pr Gs 0 (C.sig f).res r.1 us:=by
  refine qe4.conv _ 0 ?_ p.res
  cases hsh:qb7 (C.sig f).params avs with
  | true=>
   refine .inl (fun z hz=>?_)
   by_cases h1:g.Pr z
   ·exact k2 z h1
   ·exact k3 z ⟨hsh,hz,h1⟩
  | false=>
   have h5:=hfull hsh
   simp only[Sig.full,z9] at h5
   exact .inr h5.2
 have hGH:∀ i,Sub (Gs i) (fun z=>(Nil z∨F z∨(w.heap.size≤z∧z<w'.heap.size))∧¬ (F0' z∨Dd z)):=by
  intro i z hz
  refine ⟨?_,?_⟩
  ·rcases hMay z (p.gL i z hz) with h4 | rfl | h4
   ·exact .inr (.inr ⟨h4,p.glim i z hz⟩)
   ·exact (p.go i n z hz hOb).elim
   ·exact .inr (.inl (s1 z h4))
  ·rintro (h | h)
   ·exact p.go i n z hz (hF0' z h)
   ·exact p.gp i z hz h.2.1
 obtain ⟨g4,t1,t2,t3⟩:=qbc2 (S:=S) k1 hGH p.gdis ok (C.sig f).res hres he
 refine ⟨val,rfl,g4,t1,by rw[p.val];exact t2,k4.trans t3,p.fr.mono ?_⟩
 intro z hz h
 rcases hMay z h with h4 | rfl | h4
 ·omega
 ·exact st.own q _ hisr hGb
 ·exact st.own q _ hisr (q3 z (s1 z h4))
end
end Go.V

namespace Go.V
open Go
theorem qb01 {h:Array Obj} {S:St} {g:Ghost} {q:Nat} {R:Root} (hR:S.root q=some R):∀ (t:Ty) {a:AV} {p:Path} {md:Mk} {xd:t.den} {z:Mk×t.den} {cu:List Value} {rp:Nat×Path},
  focus R.ty R.ms R.x p=some ⟨t,md,xd⟩→AVC h S g a cu→qee q t a p md xd=some z→qj7 a p=true→qcm a=some rp→inR R.ty R.x p:=by
 intro t
 induction t with
 | pair ta tb iha ihb=>
  intro a p md xd z cu rp hf hc hl hpo hp
  cases a with
  | pair u v=>
   simp only[qee,z8] at hl
   obtain ⟨y,hy,z',hz,-⟩:=hl
   simp only[AVC] at hc
   obtain ⟨ca,cb,-,h1,h2⟩:=hc
   simp only[qj7,z9] at hpo
   cases hu:qcm u with
   | some rp'=>
    have:=iha (by rw[qgv p _ hf];simp[focus]) h1 hy hpo.1 hu
    exact ((qm4 p _ hf).1 this).1
   | none=>
    cases hv:qcm v with
    | some rp'=>
     have:=ihb (by rw[qgv p _ hf];simp[focus]) h2 hz hpo.2 hv
     exact ((qm4 p _ hf).1 this).1
    | none=>simp[qcm,hu,hv] at hp
  | brw r' p' s=>simp[qee] at hl
  | _=>simp[qcm] at hp
 | sl e ih=>
  intro a p md xd z cu rp hf hc hl hpo hp
  cases a with
  | pair u v=>simp[qee] at hl
  | brw r' p' s=>
   simp only[qee] at hl
   cases md with
   | own s' m0=>
    simp only at hl
    split at hl
    ·rename_i hcnd
     obtain ⟨rfl,rfl⟩:=hcnd
     simp only[qj7,z45] at hpo
     subst hpo
     simp only[AVC] at hc
     obtain ⟨v,rfl,hb⟩:=hc
     exact (hb R hR _ _ _ hf).1
    ·simp at hl
   | _=>simp at hl
  | _=>simp[qcm] at hp
 | _=>
  intro a p md xd z cu rp hf hc hl hpo hp
  cases a with
  | pair u v=>simp[qee] at hl
  | brw r' p' s=>simp[qee] at hl
  | _=>simp[qcm] at hp
theorem qbtc {h:Array Obj} {S:St} {g:Ghost} {q:Nat} {R:Root} (hR:S.root q=some R):∀ (t:Ty) {a:AV} {p:Path} {md:Mk} {xd:t.den} {mx:Mk} {x:t.den} {c cu:List Value} {base:Base} {F:BS},
  focus R.ty R.ms R.x p=some ⟨t,md,xd⟩→atP h R.ty (g.C q) (g.base q) p=some (base,c)→Rep h g.Pr t md xd c F→AVC h S g a cu→
  qee q t a p md xd=some (mx,x)→qj7 a p=true→Rep h g.Pr t mx x cu F:=by
 intro t
 have hval:∀ (t:Ty) (t':Ty) (x':t'.den) (md:Mk) (mx:Mk) (x:t.den) (cu:List Value) (F:BS),
   (if md.still=true then (qbq t' t x').bind fun y=>some (Mk.no,y) else none)=some (mx,x)→Rep h g.Pr t' .no x' cu Nil→Rep h g.Pr t mx x cu F:=by
  intro t t' x' md mx x cu F hl hr
  split at hl
  ·simp only[z8,z4,z7] at hl
   obtain ⟨y,hy,rfl,rfl⟩:=hl
   exact (Rep.cast hy hr).2.room _ (Sub.nil _)
  ·simp at hl
 induction t with
 | pair ta tb iha ihb=>
  intro a p md xd mx x c cu base F hf ha r hc hl hpo
  cases a with
  | pair u v=>
   simp only[qee,z8,z4,z7] at hl
   obtain ⟨y,hy,z',hz,rfl,rfl⟩:=hl
   simp only[AVC] at hc
   obtain ⟨ca,cb,rfl,h1,h2⟩:=hc
   simp only[qj7,z9] at hpo
   simp only[Rep] at r
   obtain ⟨da,db,Fa,Fb,rfl,ra,rb,sa,sb,dd⟩:=r
   have hw:=Rep.width _ ra
   have e1:=iha (base:=base) (F:=Fa) (c:=da) (by rw[qgv p _ hf];simp[focus]) (by rw[qkb p _ hf ha];simp only[atP];rw[←hw,List.take_left' rfl]) ra h1 hy hpo.1
   have e2:=ihb (base:=base.map fun x=>(x.1,x.2+ta.width)) (F:=Fb) (c:=db) (by rw[qgv p _ hf];simp[focus]) (by rw[qkb p _ hf ha];simp only[atP];rw[←hw,List.drop_left' rfl]) rb h2 hz hpo.2
   simp only[Rep]
   exact ⟨ca,cb,Fa,Fb,rfl,e1,e2,sa,sb,dd⟩
  | val t' x'=>simp only[qee] at hl;simp only[AVC] at hc;exact hval _ _ _ _ _ _ _ _ hl hc
  | _=>simp[qee] at hl
 | sl e ih=>
  intro a p md xd mx x c cu base F hf ha r hc hl hpo
  cases a with
  | brw r' p' s=>
   simp only[qee] at hl
   cases md with
   | own s' m0=>
    simp only at hl
    split at hl
    ·rename_i hcnd
     obtain ⟨rfl,rfl⟩:=hcnd
     simp only[qj7,z45] at hpo
     subst hpo
     simp only[AVC] at hc
     obtain ⟨v,rfl,hb⟩:=hc
     obtain ⟨_,b',hat⟩:=hb R hR _ _ _ hf
     rw[hat] at ha
     simp only[z4,z7] at ha hl
     obtain ⟨_,rfl⟩:=ha
     obtain ⟨rfl,rfl⟩:=hl
     exact r
    ·simp at hl
   | _=>simp at hl
  | val t' x'=>simp only[qee] at hl;simp only[AVC] at hc;exact hval _ _ _ _ _ _ _ _ hl hc
  | _=>simp[qee] at hl
 | unit=>
  intro a p md xd mx x c cu base F hf ha r hc hl hpo
  cases a with
  | val t' x'=>simp only[qee] at hl;simp only[AVC] at hc;exact hval _ _ _ _ _ _ _ _ hl hc
  | unit=>simp only[AVC] at hc;subst hc;simp only[Rep]
  | _=>simp[qee] at hl
 | int k=>
  intro a p md xd mx x c cu base F hf ha r hc hl hpo
  cases a with
  | val t' x'=>simp only[qee] at hl;simp only[AVC] at hc;exact hval _ _ _ _ _ _ _ _ hl hc
  | _=>simp[qee] at hl
 | bool=>
  intro a p md xd mx x c cu base F hf ha r hc hl hpo
  cases a with
  | val t' x'=>simp only[qee] at hl;simp only[AVC] at hc;exact hval _ _ _ _ _ _ _ _ hl hc
  | _=>simp[qee] at hl
 | str=>
  intro a p md xd mx x c cu base F hf ha r hc hl hpo
  cases a with
  | val t' x'=>simp only[qee] at hl;simp only[AVC] at hc;exact hval _ _ _ _ _ _ _ _ hl hc
  | _=>simp[qee] at hl
theorem qbyv {h h2:Array Obj} {S:St} {g:Ghost} {Pr2:BS} {site q:Nat} {R:Root} (hR:S.root q=some R) (hp:Sub g.Pr Pr2) (hk:∀ b,g.Pr b→h2[b]? = h[b]?) :
  ∀ (t:Ty) {a:AV} {p:Path} {md:Mk} {xd:t.den} {m mm:Mk} {o yy:t.den} {c cu:List Value} {base:Base} {F Os:BS},
  focus R.ty R.ms R.x p=some ⟨t,md,xd⟩→atP h R.ty (g.C q) (g.base q) p=some (base,c)→Rep h g.Pr t md xd c F→AVC h S g a cu→
  Rep h2 Pr2 t m o cu Os→(∃ z,qee q t a p md xd=some z)→qj7 a p=true→qbu site q t a p md xd m o=some (mm,yy)→
  ∃ F1 F2,Sub F1 Os∧Sub F2 Os∧Dis F1 F2∧Rep h2 (fun b=>Pr2 b∨F2 b) t mm yy c F1:=by
 intro t
 have hval:∀ (t:Ty) (md:Mk) (xd:t.den) (mm:Mk) (yy:t.den) (c:List Value) (F Os:BS),
   (if md.still=true then some (Mk.no,xd) else none)=some (mm,yy)→Rep h g.Pr t md xd c F→∃ F1 F2,Sub F1 Os∧Sub F2 Os∧Dis F1 F2∧Rep h2 (fun b=>Pr2 b∨F2 b) t mm yy c F1:=by
  intro t md xd mm yy c F Os hl hr
  split at hl
  ·rename_i hs
   simp only[z4,z7] at hl
   obtain ⟨rfl,rfl⟩:=hl
   exact ⟨Nil,Nil,Sub.nil _,Sub.nil _,Dis.nil _,Rep.mono (fun b hb=>.inl (hp b hb)) hk t (Rep.no_room (F':=Nil) t hs hr) (Sub.refl _) (fun _ h=>h.elim)⟩
  ·simp at hl
 induction t with
 | pair ta tb iha ihb=>
  intro a p md xd m mm o yy c cu base F Os hf ha r hc ro hle hpo hl
  cases a with
  | pair u v=>
   simp only[qbu,z8,z4,z7] at hl
   obtain ⟨y,hy,z',hz,rfl,rfl⟩:=hl
   simp only[AVC] at hc
   obtain ⟨ca,cb,rfl,h1,h2'⟩:=hc
   simp only[qj7,z9] at hpo
   simp only[Rep] at r
   obtain ⟨da,db,Fa,Fb,rfl,ra,rb,sa,sb,dd⟩:=r
   have hw:=Rep.width _ ra
   simp only[Rep] at ro
   obtain ⟨ea,eb,Oa,Ob,eo,roa,rob,soa,sob,doo⟩:=ro
   have f1:focus R.ty R.ms R.x (p++[.fst])=some ⟨ta,md.fst,xd.1⟩:=by rw[qgv p _ hf];simp[focus]
   have f2:focus R.ty R.ms R.x (p++[.snd])=some ⟨tb,md.snd,xd.2⟩:=by rw[qgv p _ hf];simp[focus]
   have a1:atP h R.ty (g.C q) (g.base q) (p++[.fst])=some (base,da):=by rw[qkb p _ hf ha];simp only[atP];rw[←hw,List.take_left' rfl]
   have a2:atP h R.ty (g.C q) (g.base q) (p++[.snd])=some (base.map fun x=>(x.1,x.2+ta.width),db):=by rw[qkb p _ hf ha];simp only[atP];rw[←hw,List.drop_left' rfl]
   obtain ⟨zz,hle⟩:=hle
   simp only[qee,z8] at hle
   obtain ⟨zy,hzy,zz,hzz,-⟩:=hle
   have hcl:ca=ea∧cb=eb:=by
    have w1:=Rep.width _ roa
    have w2:=Rep.width _ rob
    have:ca.length=ea.length:=by
     rw[w1]
     exact Rep.width _ (qbtc hR ta f1 a1 ra h1 (mx:=zy.1) (x:=zy.2) hzy hpo.1)
    exact List.append_inj eo this
   obtain ⟨rfl,rfl⟩:=hcl
   obtain ⟨A1,A2,s1,s2,d1,r1⟩:=iha f1 a1 ra h1 roa ⟨_,hzy⟩ hpo.1 hy
   obtain ⟨B1,B2,s3,s4,d2,r2⟩:=ihb f2 a2 rb h2' rob ⟨_,hzz⟩ hpo.2 hz
   refine ⟨fun b=>A1 b∨B1 b,fun b=>A2 b∨B2 b,?_,?_,?_,?_⟩
   ·rintro z (hz | hz)
    ·exact soa z (s1 z hz)
    ·exact sob z (s3 z hz)
   ·rintro z (hz | hz)
    ·exact soa z (s2 z hz)
    ·exact sob z (s4 z hz)
   ·rintro z (hz | hz) (hy | hy)
    ·exact d1 z hz hy
    ·exact doo z (s1 z hz) (s4 z hy)
    ·exact doo z (s2 z hy) (s3 z hz)
    ·exact d2 z hz hy
   ·simp only[Rep]
    exact ⟨da,db,A1,B1,rfl,Rep.mono (fun z hz=>hz.imp id .inl) (fun _ _=>rfl) _ r1 (Sub.refl _) (fun _ _=>rfl),
     Rep.mono (fun z hz=>hz.imp id .inr) (fun _ _=>rfl) _ r2 (Sub.refl _) (fun _ _=>rfl),fun z hz=>.inl hz,fun z hz=>.inr hz,doo.mono s1 s3⟩
  | val t' x'=>simp only[qbu] at hl;exact hval _ _ _ _ _ _ _ _ hl r
  | unit=>simp only[qbu] at hl;exact hval _ _ _ _ _ _ _ _ hl r
  | _=>simp[qbu] at hl
 | sl e ih=>
  intro a p md xd m mm o yy c cu base F Os hf ha r hc ro hle hpo hl
  cases a with
  | brw r' p' s=>
   simp only[qbu] at hl
   cases md with
   | own s' m0=>
    simp only at hl
    split at hl
    ·rename_i hcnd
     obtain ⟨rfl,rfl,htf,hsv⟩:=hcnd
     simp only[qj7,z45] at hpo
     subst hpo
     simp only[AVC] at hc
     obtain ⟨v,rfl,hb⟩:=hc
     obtain ⟨_,b',hat⟩:=hb R hR _ _ _ hf
     rw[hat] at ha
     simp only[z4,z7] at ha hl
     obtain ⟨_,rfl⟩:=ha
     obtain ⟨rfl,rfl⟩:=hl
     obtain ⟨F1,F2,s1,s2,d,rr⟩:=Rep.serves _ hsv ro
     refine ⟨F1,F2,s1,s2,d,?_⟩
     have:=(Rep.stamp site _).1 rr
     simp only[Mk.stamp,Rep] at this ⊢
     exact this
    ·simp at hl
   | _=>simp at hl
  | val t' x'=>simp only[qbu] at hl;exact hval _ _ _ _ _ _ _ _ hl r
  | unit=>simp only[qbu] at hl;exact hval _ _ _ _ _ _ _ _ hl r
  | _=>simp[qbu] at hl
 | unit=>
  intro a p md xd m mm o yy c cu base F Os hf ha r hc ro hle hpo hl
  cases a with
  | val t' x'=>simp only[qbu] at hl;exact hval _ _ _ _ _ _ _ _ hl r
  | unit=>simp only[qbu] at hl;exact hval _ _ _ _ _ _ _ _ hl r
  | _=>simp[qbu] at hl
 | int k=>
  intro a p md xd m mm o yy c cu base F Os hf ha r hc ro hle hpo hl
  cases a with
  | val t' x'=>simp only[qbu] at hl;exact hval _ _ _ _ _ _ _ _ hl r
  | unit=>simp only[qbu] at hl;exact hval _ _ _ _ _ _ _ _ hl r
  | _=>simp[qbu] at hl
 | bool=>
  intro a p md xd m mm o yy c cu base F Os hf ha r hc ro hle hpo hl
  cases a with
  | val t' x'=>simp only[qbu] at hl;exact hval _ _ _ _ _ _ _ _ hl r
  | unit=>simp only[qbu] at hl;exact hval _ _ _ _ _ _ _ _ hl r
  | _=>simp[qbu] at hl
 | str=>
  intro a p md xd m mm o yy c cu base F Os hf ha r hc ro hle hpo hl
  cases a with
  | val t' x'=>simp only[qbu] at hl;exact hval _ _ _ _ _ _ _ _ hl r
  | unit=>simp only[qbu] at hl;exact hval _ _ _ _ _ _ _ _ hl r
  | _=>simp[qbu] at hl
theorem qjj {t:Ty} {md mm:Mk} {xd yy:t.den} (hl:(if md.still=true then some (Mk.no,xd) else none)=some (mm,yy)):md.still=true∧mm=.no∧yy=xd:=by
 split at hl
 ·rename_i hs
  simp only[z4,z7] at hl
  exact ⟨hs,hl.1.symm,hl.2.symm⟩
 ·simp at hl
theorem qbx2 {hd:Nat→Value} {site q:Nat} (hs:site<1048576):∀ (t:Ty) {a:AV} {p:Path} {md:Mk} {xd:t.den} {m mm:Mk} {o yy:t.den} {c:List Value},
  qbu site q t a p md xd m o=some (mm,yy)→TagC hd t md c→TagC hd t mm c∧md.upd site (site+1) mm:=by
 intro t
 induction t with
 | pair ta tb iha ihb=>
  intro a p md xd m mm o yy c hl htg
  cases a with
  | pair u v=>
   simp only[qbu,z8,z4,z7] at hl
   obtain ⟨y,hy,z',hz,rfl,rfl⟩:=hl
   simp only[TagC] at htg ⊢
   have h1:=iha hy htg.1
   have h2:=ihb hz htg.2
   exact ⟨⟨h1.1,h2.1⟩,h1.2,h2.2⟩
  | val t' x'=>simp only[qbu] at hl;obtain ⟨_,rfl,rfl⟩:=qjj hl;exact ⟨TagC.no _ _,trivial⟩
  | unit=>simp only[qbu] at hl;obtain ⟨_,rfl,rfl⟩:=qjj hl;exact ⟨TagC.no _ _,trivial⟩
  | _=>simp[qbu] at hl
 | sl e ih=>
  intro a p md xd m mm o yy c hl htg
  cases a with
  | brw r' p' s=>
   simp only[qbu] at hl
   cases md with
   | own s' m0=>
    simp only at hl
    split at hl
    ·rename_i hcnd
     obtain ⟨rfl,rfl,htf,hsv⟩:=hcnd
     simp only[z4,z7] at hl
     obtain ⟨rfl,rfl⟩:=hl
     simp only[TagC] at htg ⊢
     exact ⟨⟨htg.1,Mk.tagFree_stamp hs htf⟩,.inr ⟨_,rfl,Mk.upd_of_fresh _ (Mk.fresh_stamp site htf)⟩⟩
    ·simp at hl
   | _=>simp at hl
  | val t' x'=>simp only[qbu] at hl;obtain ⟨_,rfl,rfl⟩:=qjj hl;exact ⟨TagC.no _ _,trivial⟩
  | unit=>simp only[qbu] at hl;obtain ⟨_,rfl,rfl⟩:=qjj hl;exact ⟨TagC.no _ _,trivial⟩
  | _=>simp[qbu] at hl
 | _=>
  intro a p md xd m mm o yy c hl htg
  cases a with
  | val t' x'=>simp only[qbu] at hl;obtain ⟨_,rfl,rfl⟩:=qjj hl;exact ⟨TagC.no _ _,trivial⟩
  | unit=>simp only[qbu] at hl;obtain ⟨_,rfl,rfl⟩:=qjj hl;exact ⟨TagC.no _ _,trivial⟩
  | _=>simp[qbu] at hl
theorem qbur {h h2:Array Obj} {Pr Pr2:BS} {site q:Nat}:∀ (t:Ty) {a:AV} {p:Path} {md:Mk} {xd:t.den} {m mm:Mk} {o yy:t.den} {c:List Value} {base:Base} {F F1:BS},
  qbu site q t a p md xd m o=some (mm,yy)→Rep h Pr t md xd c F→Rep h2 Pr2 t mm yy c F1→
  ∀ p' t1 n1,qcr site (site+1) p'=true→qw t mm p'=some (t1,n1)→inR t xd p'→inR t yy p'∧∀ bp cp,atP h t c base p'=some (bp,cp)→
   ∃ cp',atP h2 t c base p'=some (bp,cp')∧(∀ s a,n1=.own s a→¬ (site≤s∧s<site+1)→cp'=cp):=by
 intro t
 have hval:∀ (t:Ty) (c:List Value) (base:Base) (x:t.den) (p':Path) (t1:Ty) (n1:Mk),qcr site (site+1) p'=true→qw t .no p'=some (t1,n1)→inR t x p'→inR t x p'∧∀ bp cp,atP h t c base p'=some (bp,cp)→
   ∃ cp',atP h2 t c base p'=some (bp,cp')∧(∀ s a,n1=.own s a→¬ (site≤s∧s<site+1)→cp'=cp):=by
  intro t c base x p' t1 n1 hp hfm hi
  obtain ⟨hi',hn1⟩:=qi7 (lo:=site) (hi:=site+1) p' (m:=.no) trivial hp hfm
  refine ⟨hi,fun bp cp ha=>?_⟩
  obtain ⟨cp',h3⟩:=qnj (h':=h2) p' _ c _ hi' ha
  exact ⟨cp',h3,fun s a' e hs=>by subst e;exact absurd hn1 hs⟩
 have hnil:∀ (t:Ty) (mm:Mk) (c:List Value) (base:Base) (y:t.den) (t1:Ty) (n1:Mk),inR t y []∧∀ bp cp,atP h t c base []=some (bp,cp)→
   ∃ cp',atP h2 t c base []=some (bp,cp')∧(∀ s a,n1=.own s a→¬ (site≤s∧s<site+1)→cp'=cp):=by
  intro t mm c base y t1 n1
  refine ⟨q9y _ _,fun bp cp ha=>?_⟩
  rw[qyq] at ha
  exact ⟨cp,by rw[qyq];exact ha,fun _ _ _ _=>rfl⟩
 induction t with
 | pair ta tb iha ihb=>
  intro a p md xd m mm o yy c base F F1 hl r r2 p' t1 n1 hp hfm hi
  cases a with
  | pair u v=>
   simp only[qbu,z8,z4,z7] at hl
   obtain ⟨y,hy,z',hz,rfl,rfl⟩:=hl
   simp only[Rep] at r r2
   obtain ⟨da,db,Fa,Fb,rfl,ra,rb,-⟩:=r
   obtain ⟨ea,eb,Ea,Eb,ee,qa,qb,-⟩:=r2
   obtain ⟨rfl,rfl⟩:=List.append_inj ee (by rw[Rep.width _ ra,Rep.width _ qa])
   have hw:=Rep.width _ ra
   cases p' with
   | nil=>exact hnil _ (.pr y.1 z'.1) _ _ _ t1 _
   | cons st p'=>
    cases st with
    | fst=>
     simp only[qw,Mk.fst] at hfm
     simp only[inR] at hi ⊢
     obtain ⟨h1,h3⟩:=iha (base:=base) hy ra qa p' t1 n1 (by simpa [qcr] using hp) hfm hi
     refine ⟨h1,fun bp cp ha=>?_⟩
     simp only[atP] at ha ⊢
     rw[←hw,List.take_left' rfl] at ha ⊢
     exact h3 _ _ ha
    | snd=>
     simp only[qw,Mk.snd] at hfm
     simp only[inR] at hi ⊢
     obtain ⟨h1,h3⟩:=ihb (base:=base.map fun x=>(x.1,x.2+ta.width)) hz rb qb p' t1 n1 (by simpa [qcr] using hp) hfm hi
     refine ⟨h1,fun bp cp ha=>?_⟩
     simp only[atP] at ha ⊢
     rw[←hw,List.drop_left' rfl] at ha ⊢
     rw[hw] at ha ⊢
     exact h3 _ _ ha
    | idx i s=>simp[qw] at hfm
  | val t' x'=>simp only[qbu] at hl;obtain ⟨_,rfl,rfl⟩:=qjj hl;exact hval _ _ _ _ _ _ _ hp hfm hi
  | unit=>simp only[qbu] at hl;obtain ⟨_,rfl,rfl⟩:=qjj hl;exact hval _ _ _ _ _ _ _ hp hfm hi
  | _=>simp[qbu] at hl
 | sl e ih=>
  intro a p md xd m mm o yy c base F F1 hl r r2 p' t1 n1 hp hfm hi
  cases a with
  | brw r' p0 s=>
   simp only[qbu] at hl
   cases md with
   | own s' m0=>
    simp only at hl
    split at hl
    ·rename_i hcnd
     obtain ⟨rfl,rfl,htf,hsv⟩:=hcnd
     simp only[z4,z7] at hl
     obtain ⟨rfl,rfl⟩:=hl
     cases p' with
     | nil=>exact hnil _ .no _ _ _ t1 _
     | cons st p'=>
      cases st with
      | fst=>simp[qw] at hfm
      | snd=>simp[qw] at hfm
      | idx i s=>
       simp only[qw] at hfm
       split at hfm
       ·rename_i hss
        simp only[qcr,z9] at hp
        obtain ⟨hip,hn1⟩:=qi7 p' (Mk.fresh_stamp site htf) hp.2 hfm
        simp only[Rep] at r r2
        obtain ⟨a1,k1,rfl,hl1,r⟩:=r
        obtain ⟨a2,k2,e2,hl2,r2⟩:=r2
        simp only[z36,Value.slice.injEq,and_true] at e2
        obtain ⟨rfl,hlen,rfl⟩:=e2
        simp only[inR] at hi ⊢
        refine ⟨⟨hlen ▸ hi.1,qi3 _ _ hip hfm⟩,fun bp cp ha=>?_⟩
        rcases r2 with r2 | ⟨b,cs,rfl,fb,hb,hsz,-⟩
        ·omega
        obtain ⟨ty,lo,hi',he,_⟩:=hb
        simp only[atP,he]
        simp only[atP] at ha
        split at ha
        ·obtain ⟨cp',h3⟩:=qnj (h':=h2) p' _ (sub cs (i * e.width) e.width) _ hip ha
         exact ⟨cp',h3,fun s a' e hs=>by subst e;exact absurd hn1 hs⟩
        ·simp at ha
       ·simp at hfm
    ·simp at hl
   | _=>simp at hl
  | val t' x'=>simp only[qbu] at hl;obtain ⟨_,rfl,rfl⟩:=qjj hl;exact hval _ _ _ _ _ _ _ hp hfm hi
  | unit=>simp only[qbu] at hl;obtain ⟨_,rfl,rfl⟩:=qjj hl;exact hval _ _ _ _ _ _ _ hp hfm hi
  | _=>simp[qbu] at hl
 | _=>
  intro a p md xd m mm o yy c base F F1 hl r r2 p' t1 n1 hp hfm hi
  cases a with
  | val t' x'=>simp only[qbu] at hl;obtain ⟨_,rfl,rfl⟩:=qjj hl;exact hval _ _ _ _ _ _ _ hp hfm hi
  | unit=>simp only[qbu] at hl;obtain ⟨_,rfl,rfl⟩:=qjj hl;exact hval _ _ _ _ _ _ _ hp hfm hi
  | _=>simp[qbu] at hl
theorem qbwp {h:Array Obj} {S:St} {g:Ghost} {q:Nat} {t:Ty} {a:AV} {p:Path} {md:Mk} {xd:t.den} {z:Mk×t.den} {rp:Nat×Path} {v:Value}
  (hp:qcm a=some rp) (hl:qee q t a p md xd=some z) (hv:qe h S g a v):∃ c,v=mkV t c∧AVC h S g a c:=by
 cases a with
 | brw r' p' s=>
  cases t with
  | sl e=>simp only[qe] at hv;exact ⟨[v],by simp[mkV,Ty.agg],by simp only[AVC];exact ⟨v,rfl,hv⟩⟩
  | _=>simp[qee] at hl
 | pair a b=>
  cases t with
  | pair ta tb=>
   simp only[qe] at hv
   obtain ⟨ca,cb,rfl,h1,h2⟩:=hv
   exact ⟨ca++cb,by simp[mkV,Ty.agg],by simp only[AVC];exact ⟨ca,cb,rfl,h1,h2⟩⟩
  | _=>simp[qee] at hl
 | _=>simp[qcm] at hp
section
variable {P:Program} {C:Ctx} {D:Den C} {S:St} {g:Ghost} {w:World} {tmps:Array Value}
variable {A:Asks} {site:Nat} (dok:DOk P C D) (st:StRel w.heap S g tmps Nil)
include dok st
theorem qbu3 {f:FuncId} {avs:List AV} {vs:List Value} {d:Option Nat} (ok:AOk A S d site) (hfr:site<1048576∧∀ u,(S.get u).stampsOk site (site+1)=true)
  (ha:qfo w.heap S g avs vs) (hng:(C.sig f).params.all (fun k=>!k.gives)=true) {gd:GDen (C.sig f).params} (h1:qbi S.rt (C.sig f).params avs=some (gd,S.rt))
  {od:ODen (C.sig f).params} {rt2:Rts} {n:Nat} {u0:AV} {v0:Value} {q:Nat} {p:Path} {R:Root} {md:Mk} {t:Ty} {xd:t.den} {m m' mx:Mk} {x:t.den} (hav:qe w.heap S g u0 v0)
  (L:LentV w.heap (C.sig f).params avs vs S.rt rt2 od n u0 v0 q p R md t xd m m' mx x) {a:PDen (C.sig f).params} (h3:qcj rt2 (C.sig f).params avs gd od=some a)
  (hs:qb7 (C.sig f).params avs=true∨(C.sig f).full=true) {r:RDen (C.sig f).res×ODen (C.sig f).params} (hD:D f a=some r) {β:Bool} {v:AV} {rt3 rt':Rts}
  (ho:qbm S.rt site (C.sig f).params avs r.2=some rt3) (he:(qd3 A rt3 d site (C.sig f).res r.1).dec β=some (v,rt')) :
  Calls P f vs.toArray w fun e w'=>∃ val,e=.returned val∧Post S g w tmps v rt' val w':=by
 have hR:=L.root
 have hisr:(S.root q).isSome:=by show (S.rt.root q).isSome=true;rw[hR];rfl
 obtain ⟨cu,ev0,hcu⟩:=qbwp L.place L.lend hav
 have hin:=qb01 hR t L.foc hcu L.lend L.paths L.place
 obtain ⟨base,c,F,q1,q2,q3,q4,q5,q6⟩:=st.updateD hR L.foc hin
 have q2l:=qbtc hR t L.foc q1 q2 hcu L.lend L.paths
 have htgd:TagC g.hd t md c:=TagC.at p (st.tag q R hR) L.foc q1
 obtain ⟨F1,F2,s1,s2,s3,s4⟩:=Rep.serves t L.srv q2l
 have st2:=(st.dropRootH hisr).shareHand F2 (fun z hz=>.inr (q3 z (s2 z hz)))
 let g2:Ghost:={ g with Pr:=Un g.Pr F2 }
 have kp2:Kp w.heap S g (S.setRoot q none) g2:=(qbvi st q).trans (q0q (st.dropRootH hisr) F2)
 let Fs:Nat→BS:=fun j=>if j=n then F1 else Nil
 have hFs:∀ i,Sub (Fs i) (fun z=>(Nil z∨g.G q z)∧¬ F2 z):=by
  intro i z hz
  simp only[Fs] at hz
  split at hz
  ·exact ⟨.inr (q3 z (s1 z hz)),fun h=>s3 z hz h⟩
  ·exact hz.elim
 have e2:rt2=(S.setRoot q none).rt:=L.rt2
 subst e2
 obtain ⟨gg1,HH1,FF,kk⟩:=qlk (sl:=S.sl) (C.sig f).params avs vs S.rt g Nil 0 gd S.rt ha st h1
 have hG:=q0d (h2:=w.heap) (Pr2:=g2.Pr) (Fs2:=Fs) (C.sig f).params 0 hng kk.2.2.2.2.1
 have hL:=L.ls g2.Pr Fs 0 (by
  simp only[Nat.zero_add,Fs,if_true]
  exact ⟨cu,s4,ev0⟩)
 have hps:=qi0 st2 (sh:=qb7 (C.sig f).params avs) (Fs:=Fs) (C.sig f).params avs vs 0 gd od a (fun h=>h) (ha.kp kp2) hG hL h3
 have hFsd:∀ i j,i≠j→Dis (Fs i) (Fs j):=by
  intro i j hij z h1 h2
  simp only[Fs] at h1 h2
  split at h1
  ·split at h2
   ·omega
   ·exact h2
  ·exact h1
 have pre:Pre w.heap (Seen (qb7 (C.sig f).params avs) (S.setRoot q none) g2) Fs (C.sig f).params a vs:=
  ⟨hps,hFsd,fun i z hz=>qbe4 st2 _ z (hFs i z hz),fun i z hz=>st2.limH z (hFs i z hz),qbe1 st2 _⟩
 refine (dok.ok f a r hD w _ Fs vs pre).mono ?_
 rintro e w' ⟨val,Pr',Gs,Os,us,rfl,p0⟩
 obtain ⟨y,hy1,hy2⟩:=L.out r.2
 have hback:=hy1 S.rt site rt3 ho
 obtain ⟨cu',repo,ev2⟩:=hy2 _ _ _ _ p0.out
 rw[Nat.zero_add] at repo
 obtain rfl:cu=cu':=qb23 q2l repo (ev0.symm.trans ev2)
 have hMay:∀ z,May w.heap.size Fs z→w.heap.size≤z∨F1 z:=by
  rintro z (h | ⟨i,h⟩)
  ·exact .inl h
  ·simp only[Fs] at h
   split at h
   ·exact .inr h
   ·exact h.elim
 let D0:BS:=fun z=>qb7 (C.sig f).params avs=true∧Pr' z∧¬ g.Pr z
 have hD0:∀ z,D0 z→F z∨Nil z∨w.heap.size≤z:=by
  rintro z ⟨hsh,h1,h2⟩
  rcases p0.prL z h1 with h3 | h3
  ·rw[hsh] at h3
   simp only[Seen,if_true] at h3
   rcases h3 with h3 | h3
   ·exact absurd h3 h2
   ·exact .inl (s2 z h3)
  ·rcases hMay z h3 with h4 | h4
   ·exact .inr (.inr h4)
   ·exact .inl (s1 z h4)
 have hOm:∀ z,Os n z→F z∨Nil z∨w.heap.size≤z:=by
  intro z hz
  rcases hMay z (p0.oL n z hz) with h4 | h4
  ·exact .inr (.inr h4)
  ·exact .inl (s1 z h4)
 have hfull:qb7 (C.sig f).params avs=false→(C.sig f).full=true:=fun h=>hs.resolve_left (by rw[h];simp)
 have rep3:Rep w'.heap (Un g.Pr D0) t m' y cu (Os n):=by
  cases hsh:qb7 (C.sig f).params avs with
  | true=>
   refine Rep.mono (fun z hz=>?_) (fun _ _=>rfl) _ repo (Sub.refl _) (fun _ _=>rfl)
   by_cases h1:g.Pr z
   ·exact .inl h1
   ·exact .inr ⟨hsh,hz,h1⟩
  | false=>
   have h5:=hfull hsh
   simp only[Sig.full,z9] at h5
   exact Rep.fullMk _ (L.full h5.1) repo
 have hkF:∀ z,z<w.heap.size→¬ F z→w'.heap[z]? = w.heap[z]?:=fun z hz hnF=>p0.fr.block z hz (fun h=>by
   rcases hMay z h with h4 | h4
   ·omega
   ·exact hnF (s1 z h4))
 have hkP:∀ b,g.Pr b→w'.heap[b]? = w.heap[b]?:=fun b hb=>hkF b (st.limPr b hb) (fun h=>st.prot q hisr b (q3 b h) hb)
 unfold qbeq at hback
 rw[L.place] at hback
 simp only at hback
 rw[hR] at hback
 simp only[z8] at hback
 obtain ⟨dd,hdd,hback⟩:=hback
 rw[L.foc] at hdd
 simp only[z4] at hdd
 subst hdd
 simp only[↓reduceDIte,z8] at hback
 obtain ⟨⟨mm,yy⟩,hmg,hback⟩:=hback
 simp only at hback
 split at hback
 ·simp at hback
 rename_i hidx
 simp only[z8,z4] at hback
 obtain ⟨⟨mr,xr⟩,hput,hback⟩:=hback
 subst hback
 obtain ⟨G1,G2,t1,t2,t3,rep4⟩:=qbyv (site:=site) hR (fun z hz=>Or.inl hz) hkP t L.foc q1 q2 hcu rep3 ⟨_,L.lend⟩ L.paths hmg
 obtain ⟨htg,hupd⟩:=qbx2 hfr.1 t hmg htgd
 have hpaths:=qbur (base:=base) t hmg q2 rep4
 let Dd:BS:=fun z=>D0 z∨G2 z
 have hDd:∀ z,Dd z→F z∨Nil z∨w.heap.size≤z:=by
  rintro z (h | h)
  ·exact hD0 z h
  ·exact hOm z (t2 z h)
 obtain ⟨g',k1,k2,k3,k4,k5,k6,k7⟩:=q6 site (site+1) w'.heap mm yy c G1 Dd mr xr hfr.2
  (fun z hz hnF _=>hkF z hz hnF)
  p0.fr.size
  (by
   intro b o e cs hcs
   obtain ⟨cs2,h5,h6⟩:=Upd.self q4 b o e cs hcs
   exact ⟨cs2,h5.congr (hkF b (by obtain ⟨_,_,_,h7,_⟩:=hcs;exact (Array.getElem?_eq_some_iff.1 h7).1) (q4 b o e).1),h6⟩)
  (Rep.mono (fun z hz=>hz.elim (fun h=>h.imp id .inl) (fun h=>.inr (.inr h))) (fun _ _=>rfl) _ rep4 (Sub.refl _) (fun _ _=>rfl))
  (fun z h1 h2=>h1.elim (fun h1=>p0.op n z (t1 z h2) h1.2.1) (fun h1=>t3 z h2 h1))
  (fun z hz=>hz.elim (fun h=>hOm z (t1 z h)) (hDd z))
  (fun z hz=>hz.elim (fun h=>p0.olim n z (t1 z h)) (fun h=>h.elim (fun h=>p0.plim z h.2.1) (fun h=>p0.olim n z (t2 z h))))
  hput hupd htg (fun h=>by simpa [h] using hidx) hpaths
 have hres:qe4 w'.heap g'.Pr Gs 0 (C.sig f).res r.1 us:=by
  refine qe4.conv _ 0 ?_ p0.res
  cases hsh:qb7 (C.sig f).params avs with
  | true=>
   refine .inl (fun z hz=>?_)
   by_cases h1:g.Pr z
   ·exact k2 z h1
   ·exact k3 z (.inl ⟨hsh,hz,h1⟩)
  | false=>
   have h5:=hfull hsh
   simp only[Sig.full,z9] at h5
   exact .inr h5.2
 have hGH:∀ i,Sub (Gs i) (fun z=>(Nil z∨F z∨(w.heap.size≤z∧z<w'.heap.size))∧¬ (G1 z∨Dd z)):=by
  intro i z hz
  refine ⟨?_,?_⟩
  ·rcases hMay z (p0.gL i z hz) with h4 | h4
   ·exact .inr (.inr ⟨h4,p0.glim i z hz⟩)
   ·exact .inr (.inl (s1 z h4))
  ·rintro (h | h | h)
   ·exact p0.go i n z hz (t1 z h)
   ·exact p0.gp i z hz h.2.1
   ·exact p0.go i n z hz (t2 z h)
 obtain ⟨g4,u1,u2,u3⟩:=qbc2 (S:=S) k1 hGH p0.gdis ok (C.sig f).res hres he
 refine ⟨val,rfl,g4,u1,by rw[p0.val];exact u2,k4.trans u3,p0.fr.mono ?_⟩
 intro z hz h
 rcases hMay z h with h4 | h4
 ·omega
 ·exact st.own q _ hisr (q3 z (s1 z h4))
end
end Go.V

namespace Go.V
open Go
theorem qfo.append {h:Array Obj} {S:St} {g:Ghost}:∀ {avs bs:List AV} {vs ws:List Value},qfo h S g avs vs→qfo h S g bs ws→qfo h S g (avs++bs) (vs++ws)
 | [],bs,vs,ws,k,k2=>by simp only[qfo] at k;subst k;simpa using k2
 | a::avs,bs,vs,ws,k,k2=>by
  obtain ⟨v,vs',rfl,r1,r2⟩:=k
  exact ⟨v,vs'++ws,rfl,r1,qfo.append r2 k2⟩
theorem qby9 {h:Array Obj} {S:St} {g:Ghost}:∀ {c:AV} {vs:List Value},TupRel h S g c vs→qfo h S g (qe2 c) vs
 | .unit,vs,k=>by simp only[TupRel] at k;exact k
 | .pair a b,vs,k=>by
  simp only[TupRel] at k
  obtain ⟨v,vs',rfl,r1,r2⟩:=k
  exact ⟨v,vs',rfl,r1,qby9 r2⟩
 | .undef,_,k=>by simp only[TupRel] at k
 | .skip,_,k=>by simp only[TupRel] at k
 | .litB _,_,k=>by simp only[TupRel] at k
 | .nils,_,k=>by simp only[TupRel] at k
 | .val _ _,_,k=>by simp only[TupRel] at k
 | .brw _ _ _,_,k=>by simp only[TupRel] at k
 | .view _ _ _ _ _,_,k=>by simp only[TupRel] at k
 | .addr _ _,_,k=>by simp only[TupRel] at k
 | .raddr _ _,_,k=>by simp only[TupRel] at k
 | .tup _,_,k=>by simp only[TupRel] at k
 | .clo _ _,_,k=>by simp only[TupRel] at k
 | .cloV _,_,k=>by simp only[TupRel] at k
theorem qbrr {h:Array Obj} {S:St} {g:Ghost} {ρ:Operand→AV} {ev:Operand→Value} (hρ:∀ x,qe h S g (ρ x) (ev x)):∀ (l:List Operand),qfo h S g (l.map ρ) (l.map ev)
 | []=>rfl
 | x::l=>⟨_,_,rfl,hρ x,qbrr hρ l⟩
theorem qbx9 {h:Array Obj} {Pr:BS} {Gs:Nat→BS} {us:List Value}:∀ (rs:List RK) (r:RDen rs) (t:Ty) (y:t.den),q60 rs r t=some y→qe4 h Pr Gs 0 rs r us→
  ∃ c F m,us=[mkV t c]∧Rep h Pr t m y c F
 | [],r,t,y,hy,k=>by simp[q60] at hy
 | [.val t' m],r,t,y,hy,k=>by
  simp only[q60] at hy
  obtain ⟨u,vs',rfl,⟨c,rr,rfl⟩,k2⟩:=k
  simp only[qe4] at k2
  subst k2
  obtain ⟨rfl,rr2⟩:=Rep.cast hy rr
  exact ⟨c,_,m,rfl,rr2⟩
 | [.ptr t' m],r,t,y,hy,k=>by simp[q60] at hy
 | .val _ _::_::_,r,t,y,hy,k=>by simp[q60] at hy
 | .ptr _ _::_::_,r,t,y,hy,k=>by simp[q60] at hy
section
variable {P:Program} {C:Ctx} {D:Den C} {S:St} {g:Ghost} {w:World} {tmps:Array Value} {a:Act} {ρ:Operand→AV}
variable {A:Asks} {site:Nat} {hint:Bool} (hty:qcl P C) (dok:DOk P C D) (st:StRel w.heap S g tmps Nil) (hρ:∀ x,qe w.heap S g (ρ x) (a.eval x))
include dok st
theorem qbq6 {f:FuncId} {avs:List AV} {vs:List Value} {d:Option Nat} (ok:AOk A S d site) (ha:qfo w.heap S g avs vs) (ht:Tot (ql9 C D A S.rt d site f avs)) :
  Calls P f vs.toArray w fun | .returned val,w''=>Outs S g w tmps (ql9 C D A S.rt d site f avs) val w'' | _,_=>False:=by
 obtain ⟨⟨v,rt'⟩,hd⟩:=ht true
 have hcall:∀ {Q:Value→World→Prop},Calls P f vs.toArray w (fun e w'=>∃ val,e=.returned val∧Post S g w tmps v rt' val w')→
   Calls P f vs.toArray w fun | .returned val,w''=>Outs S g w tmps (ql9 C D A S.rt d site f avs) val w'' | _,_=>False:=by
  intro Q h
  refine h.mono ?_
  rintro e w' ⟨val,rfl,hp⟩
  exact ⟨true,v,rt',hd,hp⟩
 refine hcall (Q:=fun _ _=>True) ?_
 clear hcall
 unfold ql9 at hd
 cases h1:qbi S.rt (C.sig f).params avs with
 | none=>rw[h1] at hd;simp[Tr.dec] at hd
 | some z=>
  obtain ⟨gd,rt1⟩:=z
  rw[h1] at hd
  simp only at hd
  cases h2:qbg rt1 (C.sig f).params avs with
  | none=>rw[h2] at hd;simp[Tr.dec] at hd
  | some z=>
   obtain ⟨od,rt2⟩:=z
   rw[h2] at hd
   simp only at hd
   cases h3:qcj rt2 (C.sig f).params avs gd od with
   | none=>rw[h3] at hd;simp[Tr.dec] at hd
   | some aa=>
    rw[h3] at hd
    simp only at hd
    by_cases hc:(qbls (C.sig f).params&&(qb7 (C.sig f).params avs||(C.sig f).full))=true
    ·rw[z6 hc] at hd
     simp only[z9,Bool.or_eq_true] at hc
     simp only[Tr.dec,z8] at hd
     obtain ⟨r,hD,hd⟩:=hd
     by_cases hn:(C.sig f).params.all (fun k=>!k.lends)=true
     ·rw[z6 hn] at hd
      exact qbsp dok st ok ha h1 hn h2 h3 hc.2 hD hd
     ·rw[z5 hn] at hd
      by_cases hfr:A.fr=true
      ·rw[z6 hfr] at hd
       cases hlo:qkz (C.sig f).params avs with
       | false=>rw[hlo] at hd;simp[Tr.dec] at hd
       | true=>
       rw[hlo] at hd
       simp only[Tr.dec] at hd
       cases h4:qbm rt1 site (C.sig f).params avs r.2 with
       | none=>rw[h4] at hd;simp[Tr.dec] at hd
       | some rt3=>
        rw[h4] at hd
        simp only at hd
        have hone:(List.filter PK.lends (C.sig f).params).length=1∧(C.sig f).params.all (fun k=>!k.gives)=true:=by
         have:=hc.1
         unfold qbls at this
         split at this
         ·rename_i h5
          exfalso
          rw[List.filter_eq_nil_iff] at h5
          exact hn (by simpa using h5)
         ·rename_i h5;rw[h5];exact ⟨rfl,this⟩
         ·simp at this
        obtain rfl:=qoz _ _ _ _ _ hone.2 h1
        obtain ⟨n,a0,v0,hav,hcase⟩:=qbsh (C.sig f).params avs vs S.rt rt2 od hone.1 ha h2 hlo
        rcases hcase with ⟨q,t,m,m',R,x,rfl,L⟩ | ⟨q,p,R,md,t,xd,m,m',mx,x,L⟩
        ·exact qbuh dok st ok (ok.fr hfr) ha hone.2 h1 hav L h3 hc.2 hD h4 hd
        ·exact qbu3 dok st ok (ok.fr hfr) ha hone.2 h1 hav L h3 hc.2 hD h4 hd
      ·rw[z5 hfr] at hd;simp[Tr.dec] at hd
    ·rw[z5 hc] at hd;simp[Tr.dec] at hd
theorem q6e {h:Array Obj} {tmps:Array Value} {sl:List AV}:∀ (ks:List PK) (avs:List AV) (vs:List Value) (rt:Rts) (g:Ghost) (z:List AV×Rts),
  qfo h ⟨sl,rt⟩ g avs vs→StRel h ⟨sl,rt⟩ g tmps Nil→qb6 rt ks avs=some z→
  ∃ g1,StRel h ⟨sl,z.2⟩ g1 tmps Nil∧Kp h ⟨sl,rt⟩ g ⟨sl,z.2⟩ g1∧g1.Same g∧qfo h ⟨sl,z.2⟩ g1 z.1 vs
 | [],[],vs,rt,g,z,ha,st,hb=>by
  simp only[qb6,z4] at hb
  subst hb
  exact ⟨g,st,Kp.refl,.refl _,ha⟩
 | [],_::_,vs,rt,g,z,ha,st,hb=>by simp[qb6] at hb
 | k::ks,[],vs,rt,g,z,ha,st,hb=>by cases k<;>simp[qb6] at hb
 | k::ks,a::avs,vs,rt,g,z,ha,st,hb=>by
  obtain ⟨v,vs',rfl,r1,r2⟩:=ha
  have plain:(qb6 rt ks avs).map (fun z=>(a::z.1,z.2))=some z→∃ g1,StRel h ⟨sl,z.2⟩ g1 tmps Nil∧Kp h ⟨sl,rt⟩ g ⟨sl,z.2⟩ g1∧g1.Same g∧qfo h ⟨sl,z.2⟩ g1 z.1 (v::vs'):=by
   intro hb
   simp only[z29] at hb
   obtain ⟨z',h1,rfl⟩:=hb
   obtain ⟨g1,k1,k2,k3,k4⟩:=q6e ks avs vs' rt g z' r2 st h1
   exact ⟨g1,k1,k2,k3,v,vs',rfl,k2 _ _ r1,k4⟩
  cases k with
  | val t=>
   simp only[qb6] at hb
   split at hb
   ·exact plain hb
   ·split at hb
    ·rename_i m y rt2 htk
     split at hb
     ·rename_i hm
      simp only[z29] at hb
      obtain ⟨z',h1,rfl⟩:=hb
      obtain ⟨c,g2,F,ev,tk1⟩:=qwn (S:=⟨sl,rt⟩) _ st htk r1
      have st2:=(tk1.st.shareHand F (fun b hb=>.inr hb)).lessHand (Sub.nil _)
      have kp2:Kp h ⟨sl,rt⟩ g ⟨sl,rt2⟩ { g2 with Pr:=Un g2.Pr F }:=Kp.trans tk1.kp (q0q tk1.st F)
      have x:qe h ⟨sl,rt2⟩ { g2 with Pr:=Un g2.Pr F } (.val t y) v:=by
       simp only[qe];exact ⟨c,Rep.share t hm tk1.rep,ev⟩
      obtain ⟨g1,k1,k2,k3,k4⟩:=q6e ks avs vs' rt2 _ z' (r2.kp kp2) st2 h1
      exact ⟨g1,k1,kp2.trans k2,tk1.same.trans (Ghost.Same.trans ⟨rfl,rfl,rfl⟩ k3),v,vs',rfl,k2 _ _ x,k4⟩
     ·simp at hb
    ·simp at hb
  | _=>exact plain (by simpa only [qb6] using hb)
theorem qbtm:∀ (ts:List Ty) (avs:List AV) (vs:List Value) (l:List CapV),qfo w.heap S g avs vs→qxy S.rt ts avs=some l→qfu w.heap (PG (Vis S g)) l vs
 | [],avs,vs,l,ha,hb=>by
  cases avs with
  | nil=>simp only[qxy,z4] at hb;subst hb;exact ha
  | cons a avs=>simp[qxy] at hb
 | t::ts,[],vs,l,ha,hb=>by simp[qxy] at hb
 | t::ts,a::avs,vs,l,ha,hb=>by
  obtain ⟨v,vs',rfl,r1,r2⟩:=ha
  simp only[qxy,z8,z4] at hb
  obtain ⟨x,hx,l',hl,rfl⟩:=hb
  obtain ⟨c,e,r⟩:=q7b st t hx r1
  exact ⟨v,vs',rfl,⟨c,r,e⟩,qbtm ts avs vs' l' r2 hl⟩
theorem qbgx {h:Array Obj} {g:Ghost}:∀ {l l2:List CapV} {vs ws:List Value},qfu h g l vs→qfu h g l2 ws→qfu h g (l++l2) (vs++ws)
 | [],_,vs,ws,k,k2=>by simp only[qfu] at k;subst k;simpa using k2
 | c::l,_,vs,ws,k,k2=>by
  obtain ⟨v,vs',rfl,r1,r2⟩:=k
  exact ⟨v,vs'++ws,rfl,r1,qbgx r2 k2⟩
theorem qbmi {h:Array Obj} {Pr:BS} {Fs:Nat→BS}:∀ (ks:List PK) (l:List CapV) (vs:List Value) (i:Nat) (aa:PDen ks),qmw ks l=some aa→qfu h (PG Pr) l vs→qw6 h Pr Fs i ks aa vs∧ks.all PK.plain=true
 | [],l,vs,i,aa,hp,hc=>by
  cases l with
  | nil=>exact ⟨hc,rfl⟩
  | cons c l=>simp[qmw] at hp
 | k::ks,[],vs,i,aa,hp,hc=>by cases k<;>simp[qmw] at hp
 | k::ks,c::l,vs,i,aa,hp,hc=>by
  obtain ⟨v,vs',rfl,r1,r2⟩:=hc
  cases k with
  | val t=>
   cases c with
   | val t' x=>
    simp only[qmw,z8,z4] at hp
    obtain ⟨y,hy,r,hr,rfl⟩:=hp
    obtain ⟨c,rr,e⟩:=r1
    obtain ⟨rfl,rr2⟩:=Rep.cast hy rr
    obtain ⟨p1,p2⟩:=qbmi ks l vs' (i+1) r hr r2
    exact ⟨⟨v,vs',rfl,⟨c,rr2,e⟩,p1⟩,by simpa [PK.plain] using p2⟩
   | _=>simp[qmw] at hp
  | rptr t=>
   cases c with
   | rptr t' x=>
    simp only[qmw,z8,z4] at hp
    obtain ⟨y,hy,r,hr,rfl⟩:=hp
    obtain ⟨e1,e2⟩:=qjz hy
    subst e1
    simp only at e2
    subst e2
    obtain ⟨p1,p2⟩:=qbmi ks l vs' (i+1) r hr r2
    exact ⟨⟨v,vs',rfl,r1,p1⟩,by simpa [PK.plain] using p2⟩
   | _=>simp[qmw] at hp
  | _=>cases c<;>simp[qmw] at hp
theorem qbum {h:Array Obj} {Pr Pr2:BS} {t:Ty} {m:Mk} {x:t.den} {c:List Value} {F F2:BS} (hs:t.scalar=true) (r:Rep h Pr t m x c F):Rep h Pr2 t .no x c F2:=by
 cases t<;>simp[Ty.scalar] at hs<;>simpa only [Rep] using r
theorem qbux {cl:Clo} {xs:List CapV} {t:Ty} {y:t.den} {vs ws:List Value} (hs:t.scalar=true) (hy:qbj C D cl xs t=some y) (hx:qfu w.heap (PG (Vis S g)) xs vs) (hw:qfu w.heap g cl.caps ws) :
  Calls P cl.f (vs++ws).toArray w fun e w'=>∃ val,e=.returned val∧Post S g w tmps (.val t y) S.rt val w':=by
 simp only[qbj,z8] at hy
 obtain ⟨aa,ha,r,hD,hr⟩:=hy
 obtain ⟨hps,hpl⟩:=qbmi dok st (Fs:=fun _=>Nil) (C.sig cl.f).params _ _ 0 aa ha (qbgx dok st hx (qblz st (fun b hb=>.inl hb:Sub g.Pr (Vis S g)) hw))
 have hv:=qbe4 st false
 have pre:Pre w.heap (Vis S g) (fun _=>Nil) (C.sig cl.f).params aa (vs++ws):=
  ⟨hps,fun _ _ _=>Dis.nil _,fun _=>Dis.nil _,fun _ _ h=>h.elim,qbe1 st false⟩
 refine (dok.ok cl.f aa r hD w _ _ _ pre).mono ?_
 rintro e w' ⟨val,Pr',Gs,Os,us,rfl,p⟩
 have hMay:∀ z,May w.heap.size (fun _=>Nil) z→w.heap.size≤z:=fun z h=>h.elim id (fun ⟨_,h⟩=>h.elim)
 have st1:=st.grow (h2:=w'.heap) (fun b hb=>p.fr.block b hb (fun h=>absurd (hMay b h) (by omega))) p.fr.size Nil (fun b hb=>hb.elim)
 obtain ⟨c,F,m,hus,rr⟩:=qbx9 _ _ _ _ hr p.res
 refine ⟨val,rfl,g,st1,?_,.refl g,p.fr.mono (fun z hz h=>absurd (hMay z h) (by omega))⟩
 rw[p.val,hus]
 simp only[qe,qls]
 exact ⟨c,qbum dok st hs rr,rfl⟩
include hty hρ
theorem qb2w {o:Oper} {c:Call} {f:Operand} (ho:o.op=.call c) (hc:c.callee=.value f) (ok:AOk A S o.dst site):Goal P C D S g w tmps a ρ A site hint o:=by
 intro ht
 have hcalled:∀ (ff:FuncId) (vs:List Value),qzk P ff→a.eval f=.func (.func ff) #[] vs.toArray→
   (execOp a.eval o).run P w=.ok (.enter ff (c.args.toList.map a.eval++vs).toArray) w:=by
  rintro ff vs ⟨fn,h1,h2,h3⟩ hv
  have hb:¬ fn.body=none:=by intro hh;rw[hh] at h3;simp at h3
  have harr:c.args.map a.eval++vs.toArray=(c.args.toList.map a.eval++vs).toArray:=by
   apply Array.ext';simp
  simp[execOp,ho,resolve,hc,Deferred.ofValue,hv,invoke,callFunc,h1,h2,hb,Sem.run_bind,←harr]
 simp only[opT,ho,hc] at ht ⊢
 have hf:=hρ f
 split at ht
 ·rename_i ff caps hv
  rw[hv] at hf
  simp only[qe] at hf
  obtain ⟨vs,ev,htup⟩:=hf
  have ha:=qfo.append (qbrr hρ c.args.toList) (qby9 htup)
  have hcalT:∀ {A:Asks} {S:Rts} {avs:List AV},Tot (ql9 C D A S o.dst site ff avs)→qzk P ff:=by
   intro A S avs ht
   obtain ⟨⟨v,rt'⟩,hd⟩:=ht true
   unfold ql9 at hd
   split at hd
   ·simp[Tr.dec] at hd
   ·split at hd
    ·simp[Tr.dec] at hd
    ·split at hd
     ·simp[Tr.dec] at hd
     ·split at hd
      ·simp only[Tr.dec,z8] at hd
       obtain ⟨r,hD,_⟩:=hd
       exact dok.call _ _ _ hD
      ·simp[Tr.dec] at hd
  by_cases hns:qbcz (C.sig ff) (c.args.toList.map ρ++qe2 caps)=true
  ·simp only[q8b,z6 hns] at ht ⊢
   cases hsa:qb6 S.rt (C.sig ff).params (c.args.toList.map ρ++qe2 caps) with
   | none=>rw[hsa] at ht;exact absurd ht Tot.fail
   | some z=>
    rw[hsa] at ht
    simp only at ht ⊢
    obtain ⟨g1,st1,_,same1,ha1⟩:=q6e dok st (sl:=S.sl) (C.sig ff).params _ _ S.rt g z ha st hsa
    rw[hcalled ff vs (hcalT ht) ev]
    refine (qbq6 dok (S:=⟨S.sl,z.2⟩) st1 (A:={ A with sh:=hint }) ⟨ok.men,ok.pl,ok.fr⟩ ha1 ht).mono ?_
    rintro e w' he
    cases e with
    | returned val=>
     obtain ⟨β,v,rt',h1,g2,h2,h3,h4,h5⟩:=he
     exact ⟨β,v,rt',h1,g2,h2,h3,same1.trans h4,by rw[←same1.2.1];exact h5⟩
    | _=>exact he
  ·simp only[q8b,z5 hns] at ht ⊢
   rw[hcalled ff vs (hcalT ht) ev]
   exact qbq6 dok st (A:={ A with sh:=hint }) ⟨ok.men,ok.pl,ok.fr⟩ ha ht
 ·rename_i cl hv
  rw[hv] at hf
  simp only[qe] at hf
  obtain ⟨vs,ev,hcaps⟩:=hf
  by_cases hsc:(C.ty o.type).scalar=true
  ·simp only[hsc,if_true] at ht ⊢
   cases hx:qxy S.rt (c.argTypes.toList.map C.ty) (c.args.toList.map ρ) with
   | none=>rw[hx] at ht;exact absurd ht Tot.fail
   | some xs=>
    rw[hx] at ht
    simp only at ht ⊢
    obtain ⟨⟨v,rt'⟩,hd⟩:=ht true
    have hd0:=hd
    simp only[Tr.dec,z8,z4,z7] at hd
    obtain ⟨y,hy,rfl,rfl⟩:=hd
    have hcal:qzk P cl.f:=by
     have:=hy
     simp only[qbj,z8] at this
     obtain ⟨aa,_,r,hD,_⟩:=this
     exact dok.call _ _ _ hD
    rw[hcalled cl.f vs hcal ev]
    have hxs:=qbtm dok st _ _ _ _ (qbrr hρ c.args.toList) hx
    refine (qbux dok st hsc hy hxs hcaps).mono ?_
    rintro e w' ⟨val,rfl,hp⟩
    exact ⟨true,_,_,hd0,hp⟩
  ·rw[z5 hsc] at ht;exact absurd ht Tot.fail
 ·exact absurd ht Tot.fail
theorem qb0b {o:Oper} (ok:AOk A S o.dst site):Goal P C D S g w tmps a ρ A site hint o:=
 qb4i hty st hρ ok fun c f ho hc=>qb2w hty dok st hρ ho hc ok
end
end Go.V

namespace Go.V
noncomputable section
open Go
theorem qbq4 {d:Nat}:∀ (l:List AV) (i:Nat),qba4 d i l=true→∀ k,i+k≠d→(l.getD k .undef).roots.contains d=false
 | [],i,_,k,_=>by simp[List.getD,AV.roots]
 | v::l,i,h,k,hk=>by
  simp only[qba4,z9,Bool.or_eq_true,Bool.not_eq_true',qbwf] at h
  cases k with
  | zero=>exact h.1.resolve_left (by simpa using hk)
  | succ k=>simpa [List.getD] using qbq4 l (i+1) h.2 k (by omega)
theorem qbvz {d:Nat}:∀ (l:List AV) (i:Nat),q0m d i l=true→∀ k,i+k≠d→(l.getD k .undef).noPl d=true
 | [],i,_,k,_=>by simp[List.getD,AV.noPl]
 | v::l,i,h,k,hk=>by
  simp only[q0m,z9,Bool.or_eq_true,qbwf] at h
  cases k with
  | zero=>exact h.1.resolve_left (by simpa using hk)
  | succ k=>simpa [List.getD] using qbvz l (i+1) h.2 k (by omega)
theorem qbig {s:Nat}:∀ (l:List AV),quc s l=true→∀ k,(l.getD k .undef).stampsOk s (s+1)=true
 | [],_,k=>by simp[List.getD,AV.stampsOk]
 | v::l,h,k=>by
  simp only[quc,z9] at h
  cases k with
  | zero=>exact h.1
  | succ k=>simpa [List.getD] using qbig l h.2 k
def St.blank (S:St):Option Nat→St
 | some d=>S.set d .undef
 | none=>S
theorem q7u (S:St) (d:Nat) (u:Nat):(S.blank (some d)).get u=if u=d then .undef else S.get u:=by
 simp only[St.blank,St.get_set]
 by_cases e:u=d
 ·subst e
  by_cases h:u<S.sl.length
  ·simp[h]
  ·simp only[h,and_false,if_false,if_true]
   simp only[St.get_eq,List.getD]
   rw[List.getElem?_eq_none (by omega)];rfl
 ·simp[e]
theorem qb2x (S:St) (d:Option Nat) (site:Nat):AOk (qdc S.sl d site) (S.blank d) d site where
 men:=by
  intro h d' hd u
  subst hd
  simp only[qdc] at h
  rw[q7u]
  split
  ·rfl
  ·rename_i hu;rw[St.get_eq];exact qbq4 S.sl 0 h u (by omega)
 pl:=by
  intro h d' hd u
  subst hd
  simp only[qdc] at h
  rw[q7u]
  split
  ·rfl
  ·rename_i hu;rw[St.get_eq];exact qbvz S.sl 0 h u (by omega)
 fr:=by
  intro h
  simp only[qdc,z9,qge] at h
  refine ⟨h.1,fun u=>?_⟩
  cases d with
  | none=>rw[St.get_eq];exact qbig S.sl h.2 u
  | some d=>
   rw[q7u]
   split
   ·rfl
   ·rw[St.get_eq];exact qbig S.sl h.2 u
theorem qbwr {h:Array Obj} {S:St} {g:Ghost} (v:Value):qe h S g (qbe5 v) v:=by
 unfold qbe5
 split
 ·simp only[qe,Rep];exact ⟨_,rfl,rfl⟩
 ·simp only[qe,Rep];exact ⟨_,rfl,rfl⟩
 ·simp only[qe,Rep];exact ⟨_,rfl,rfl⟩
 ·simp only[qe]
 ·simp only[qe]
theorem qb2b {h:Array Obj} {S:St} {g:Ghost} {a:AV} {v:Value} (x:qe h S g a v):qe h S g a.flat v:=by
 cases a with
 | litB b=>simp only[qe] at x;subst x;simp only[AV.flat,qe,Rep];exact ⟨_,rfl,rfl⟩
 | _=>exact x
theorem qb1s {h:Array Obj} {S:St} {g:Ghost} {a:Act} {H:BS} (st:StRel h S g a.tmps H) (x:Operand):qe h S g (ev S x) (a.eval x):=by
 cases x with
 | tmp t=>exact qb2b (st.slots t)
 | const v=>exact qbwr v
 | func f=>simp only[ev,qe,Act.eval];exact ⟨[],rfl,by simp only[TupRel]⟩
 | global n=>simp only[ev,qe]
def qz1:List AV→List Nat→List AV
 | sl,[]=>sl
 | sl,t::ts=>qz1 (sl.set t .undef) ts
theorem q1k:∀ (ts:List Nat) (S:St),S.forget ts=⟨qz1 S.sl ts,S.rt⟩
 | [],_=>rfl
 | t::ts,S=>by simp only[St.forget,qz1];rw[q1k ts,St.set_eq]
theorem qbg0 (d:Nat) (x v:AV):∀ (ts:List Nat) (sl:List AV),(qz1 (sl.set d x) ts).set d v=(qz1 sl ts).set d v
 | [],sl=>by simp[qz1]
 | t::ts,sl=>by
  simp only[qz1]
  by_cases e:d=t
  ·subst e;rw[List.set_set]
  ·rw[List.set_comm _ _ e]
   exact qbg0 d x v ts _
theorem StRel.forgetAll {h:Array Obj} {g:Ghost} {tmps:Array Value} {H:BS}:∀ (ts:List Nat) {S:St},StRel h S g tmps H→StRel h (S.forget ts) g tmps H
 | [],_,st=>st
 | t::ts,_,st=>StRel.forgetAll ts (st.forget t)
section
variable (C:Ctx) (D:Den C)
def qgb (ops:Array Oper) (S:St) (o:Oper):Option Bool:=
 match o.guard with
 | none=>some true
 | some (j,b)=>
  match S.get (qe5 ops j) with
  | .skip=>some false
  | .litB c=>some (c == b)
  | .val .bool c=>some (c == b)
  | _=>none
noncomputable def qcg (hints:Hints) (id:Nat) (ops:Array Oper) (β:Bool) (S:St) (i:Nat) (o:Oper):Option (St×Ent):=
 match qgb ops S o with
 | some true=>((opAt C D S (id * 256+i+1) (hints.share.contains (id,i)) o).dec β).map fun x=>(fin ops ⟨S.sl,x.2⟩ i o x.1,qdb C ops S (id * 256+i+1) i o x.1 x.2)
 | some false=>some (fin ops S i o .skip,qfa ops S (id * 256+i+1) i o)
 | none=>none
end
def qr0 (np:List Nat) (a a':Act):Prop:=∀ t,t∈np→a'.tmps.getD t Go.undef=a.tmps.getD t Go.undef
theorem qr0.refl (np:List Nat) (a:Act):qr0 np a a:=fun _ _=>rfl
theorem qr0.trans {np:List Nat} {a b c:Act} (h:qr0 np a b) (k:qr0 np b c):qr0 np a c:=fun t ht=>(k t ht).trans (h t ht)
theorem qr0.put {np:List Nat} {a:Act} {d:Option Nat} {v:Value} (h:∀ d',d=some d'→d'∉np):qr0 np a (a.put d v):=by
 intro t ht
 cases d with
 | none=>rfl
 | some d=>
  have:=h d rfl
  simp only[Act.put,Array.getD_eq_getD_getElem?,Array.getElem?_setIfInBounds]
  rw[z5 (by rintro rfl;exact this ht)]
section
variable {P:Program} {C:Ctx} {D:Den C} {S:St} {g:Ghost} {w:World} {a:Act} {np:List Nat}
variable (hty:qcl P C) (dok:DOk P C D) (st:StRel w.heap S g a.tmps Nil)
include hty dok st
theorem qbyh {ops:Array Oper} {i:Nat} {o:Oper} {rt':Rts} {g':Ghost} {h':Array Obj} {v:AV} {val:Value} (st':StRel h' ⟨(S.blank o.dst).sl,rt'⟩ g' a.tmps Nil)
  (x:qe h' ⟨(S.blank o.dst).sl,rt'⟩ g' v val):StRel h' (fin ops ⟨S.sl,rt'⟩ i o v) g' (a.put o.dst val).tmps Nil:=by
 have s1:=StRel.forgetAll (qgq ops i o) st'
 have e1:=q1k (qgq ops i o) (⟨(S.blank o.dst).sl,rt'⟩:St)
 unfold fin q97
 cases hd:o.dst with
 | none=>
  rw[hd] at s1
  simp only[Act.put]
  exact s1
 | some d=>
  rw[hd] at s1 x e1
  have x1:qe h' ((⟨(S.blank (some d)).sl,rt'⟩:St).forget (qgq ops i o)) g' v val:=by
   have st'':=st'
   rw[hd] at st''
   exact qe.sameRoots st'' (by rw[e1]) x
  have s2:=s1.setSlot d x1
  simp only[Act.put]
  have e2:(((⟨(S.blank (some d)).sl,rt'⟩:St).forget (qgq ops i o)).set d v)=(((⟨S.sl,rt'⟩:St).forget (qgq ops i o)).set d v):=by
   rw[q1k,q1k]
   simp only[St.set_eq,St.blank,St.mk.injEq,and_true]
   exact qbg0 d _ _ _ _
  rw[e2] at s2
  exact s2
theorem qbz4 {ops:Array Oper} {o:Oper} {b:Bool} (hj:∀ j c,o.guard=some (j,c)→∃ oj t,ops[j]? = some oj∧oj.dst=some t) (hg:qgb ops S o=some b):Region.wanted o (yielded ops a.tmps)=b:=by
 unfold qgb at hg
 unfold Region.wanted
 cases hgd:o.guard with
 | none=>rw[hgd] at hg;simp only[z4] at hg;exact hg
 | some jc=>
  obtain ⟨j,c⟩:=jc
  rw[hgd] at hg
  obtain ⟨oj,t,h1,h2⟩:=hj j c hgd
  have hd:qe5 ops j=t:=by simp[qe5,h1,h2]
  have hs:=st.slots t
  simp only at hg ⊢
  rw[hd] at hg
  have hy:yielded ops a.tmps j=match a.tmps.getD t Go.undef with | .bool b=>some b | _=>none:=by
   simp only[yielded,h1,h2,z30,Array.getD_eq_getD_getElem?]
   cases hq:a.tmps[t]? with
   | none=>simp[Go.undef]
   | some q=>cases q<;>simp
  rw[hy]
  cases hS:S.get t with
  | skip=>rw[hS] at hg hs;simp only[qe] at hs;simp only[z4] at hg;subst hg;rw[hs];rfl
  | litB q=>rw[hS] at hg hs;simp only[qe] at hs;simp only[z4] at hg;subst hg;rw[hs];cases q<;>cases c<;>rfl
  | val t x=>
   rw[hS] at hg hs
   cases t with
   | bool=>simp only[z4] at hg;subst hg;rw[qbay hs];cases x<;>cases c<;>rfl
   | _=>simp at hg
  | _=>rw[hS] at hg;simp at hg
theorem qbwd {Q:Exit→Act→World→Prop} {hints:Hints} {id:Nat} {ops:Array Oper} {i:Nat} {o:Oper} (hi:ops[i]? = some o) (hj:∀ j c,o.guard=some (j,c)→∃ oj t,ops[j]? = some oj∧oj.dst=some t)
  (hdf:a.defers=[]) (hnp:∀ d,o.dst=some d→d∉np) (ht:∀ β,∃ x,qcg C D hints id ops β S i o=some x) {K:Act→World→Prop}
  (hK:∀ β S' e a' w' g',qcg C D hints id ops β S i o=some (S',e)→StRel w'.heap S' g' a'.tmps Nil→g'.Same g→WFr g.L w w'→a'.defers=[]→qr0 np a a'→K a' w'):wpOp P ops Q i K a w:=by
 obtain ⟨x0,hx0⟩:=ht true
 unfold wpOp
 simp only[hi]
 cases hg:qgb ops S o with
 | none=>unfold qcg at hx0;rw[hg] at hx0;simp at hx0
 | some b=>
  rw[qbz4 hty dok st hj hg]
  cases b with
  | false=>
   simp only[z34,if_false]
   have hst:qcg C D hints id ops true S i o=some (fin ops S i o .skip,qfa ops S (id * 256+i+1) i o):=by unfold qcg;rw[hg]
   refine hK true _ _ (a.put o.dst Go.undef) w g hst ?_ (.refl g) (.refl _ _) ?_ (.put hnp)
   ·have s0:StRel w.heap ⟨(S.blank o.dst).sl,S.rt⟩ g a.tmps Nil:=by
     cases hd:o.dst with
     | none=>exact st
     | some d=>exact st.forget d
    exact qbyh hty dok st s0 (by simp only[qe])
   ·cases o.dst<;>exact hdf
  | true=>
   simp only[if_true]
   refine .inl ?_
   have s0:StRel w.heap (S.blank o.dst) g a.tmps Nil:=by
    cases hd:o.dst with
    | none=>exact st
    | some d=>exact st.forget d
   have hrt:(S.blank o.dst).rt=S.rt:=by cases o.dst<;>rfl
   have hρ:∀ x,qe w.heap (S.blank o.dst) g (ev S x) (a.eval x):=fun x=>qe.sameRoots st hrt (qb1s st x)
   have hstep:∀ β,qcg C D hints id ops β S i o=((opAt C D S (id * 256+i+1) (hints.share.contains (id,i)) o).dec β).map fun x=>(fin ops ⟨S.sl,x.2⟩ i o x.1,qdb C ops S (id * 256+i+1) i o x.1 x.2):=by
    intro β;unfold qcg;rw[hg]
   have htot:Tot (opT C D (qdc S.sl o.dst (id * 256+i+1)) (ev S) (S.blank o.dst).rt (id * 256+i+1) (hints.share.contains (id,i)) o):=by
    intro β
    obtain ⟨x,hx⟩:=ht β
    rw[hstep] at hx
    simp only[z29] at hx
    obtain ⟨y,hy,_⟩:=hx
    rw[hrt]
    exact ⟨y,hy⟩
   have hres:=qb0b hty dok s0 hρ (qb2x S o.dst (id * 256+i+1)) htot
   have hout:∀ val w',Outs (S.blank o.dst) g w a.tmps (opT C D (qdc S.sl o.dst (id * 256+i+1)) (ev S) (S.blank o.dst).rt (id * 256+i+1) (hints.share.contains (id,i)) o) val w'→K (a.put o.dst val) w':=by
    rintro val w' ⟨β,v,rt',hd,g',p1,p2,p3,p4⟩
    rw[hrt] at hd
    refine hK β (fin ops ⟨S.sl,rt'⟩ i o v) _ _ w' g' (by rw[hstep];unfold opAt;rw[hd];rfl) (qbyh hty dok st p1 p2) p3 p4 ?_ (.put hnp)
    cases o.dst<;>exact hdf
   unfold Oper.wp
   revert hres
   generalize (execOp a.eval o).run P w=r
   intro hres
   unfold Res at hres
   split at hres
   ·exact hout _ _ hres
   ·exact hout _ _ hres
   ·refine Calls.mono hres ?_
    rintro e w'' he
    cases e with
    | returned val=>exact hout _ _ he
    | panicked _=>exact he.elim
    | outgrown=>exact he.elim
   ·exact hres.elim
end
end
end Go.V

namespace Go.V
open Go
section
variable (C:Ctx) (D:Den C)
noncomputable def runD (hints:Hints) (id:Nat) (ops:Array Oper):List Bool→List (Nat×Oper)→St→Option (St×Log)
 | _,[],S=>some (S,[])
 | βs,(i,o)::l,S=>(qcg C D hints id ops (βs.headD true) S i o).bind fun x=>(runD hints id ops βs.tail l x.1).map fun y=>(y.1,x.2::y.2)
end
structure Sim (S T:St):Prop where
 rt:T.rt=S.rt
 len:T.sl.length=S.sl.length
 get:∀ t,T.get t=S.get t∨∃ b,S.get t=.litB b∧T.get t=.val .bool b
theorem Sim.refl (S:St):Sim S S:=⟨rfl,rfl,fun _=>.inl rfl⟩
theorem Sim.flat {S T:St} (h:Sim S T) (t:Nat):(T.get t).flat=(S.get t).flat:=by
 rcases h.get t with e | ⟨b,e1,e2⟩
 ·rw[e]
 ·rw[e1,e2];rfl
theorem Sim.ev {S T:St} (h:Sim S T):ev T=ev S:=by
 funext x
 cases x with
 | tmp t=>exact h.flat t
 | _=>rfl
theorem Sim.roots {S T:St} (h:Sim S T) (t:Nat):(T.get t).roots=(S.get t).roots:=by
 rcases h.get t with e | ⟨b,e1,e2⟩
 ·rw[e]
 ·rw[e1,e2];rfl
theorem Sim.stamps {S T:St} (h:Sim S T) (t:Nat):(T.get t).stamps=(S.get t).stamps:=by
 rcases h.get t with e | ⟨b,e1,e2⟩
 ·rw[e]
 ·rw[e1,e2];rfl
theorem qbg8 (s:Nat):∀ (l l2:List AV),l2.length=l.length→(∀ k,(l2.getD k .undef).stampsOk s (s+1)=(l.getD k .undef).stampsOk s (s+1))→quc s l2=quc s l
 | [],[],_,_=>rfl
 | [],_::_,h,_=>by simp at h
 | _::_,[],h,_=>by simp at h
 | v::l,u::l2,h,hk=>by
  have h0:=hk 0
  simp only[List.getD_cons_zero] at h0
  simp only[quc]
  rw[h0,qbg8 s l l2 (by simpa using h) (fun k=>by have:=hk (k+1);simpa [List.getD] using this)]
theorem qbvy {sl sl2:List AV} (d:Option Nat) (s:Nat) (hl:sl2.length=sl.length) (hr:∀ d',d=some d'→∀ k,k≠d'→(sl2.getD k .undef).roots.contains d'=(sl.getD k .undef).roots.contains d')
  (hp:∀ d',d=some d'→∀ k,k≠d'→(sl2.getD k .undef).noPl d'=(sl.getD k .undef).noPl d') (hs:∀ k,(sl2.getD k .undef).stampsOk s (s+1)=(sl.getD k .undef).stampsOk s (s+1)):qdc sl2 d s=qdc sl d s:=by
 have hf:=qbg8 s sl sl2 hl hs
 cases d with
 | none=>simp only[qdc,hf]
 | some d=>
  have hm:∀ (l l2:List AV) (i:Nat),l2.length=l.length→(∀ k,i+k≠d→(l2.getD k .undef).roots.contains d=(l.getD k .undef).roots.contains d)→qba4 d i l2=qba4 d i l:=by
   intro l
   induction l with
   | nil=>intro l2 i h _;cases l2 with
    | nil=>rfl
    | cons _ _=>simp at h
   | cons v l ih=>
    intro l2 i h hk
    cases l2 with
    | nil=>simp at h
    | cons u l2=>
     simp only[qba4]
     rw[ih l2 (i+1) (by simpa using h) (fun k hkd=>by have:=hk (k+1) (by omega);simpa [List.getD] using this)]
     by_cases e:i=d
     ·subst e;simp
     ·have:=hk 0 (by omega)
      simp only[List.getD_cons_zero] at this
      rw[this]
  have hpl:∀ (l l2:List AV) (i:Nat),l2.length=l.length→(∀ k,i+k≠d→(l2.getD k .undef).noPl d=(l.getD k .undef).noPl d)→q0m d i l2=q0m d i l:=by
   intro l
   induction l with
   | nil=>intro l2 i h _;cases l2 with
    | nil=>rfl
    | cons _ _=>simp at h
   | cons v l ih=>
    intro l2 i h hk
    cases l2 with
    | nil=>simp at h
    | cons u l2=>
     simp only[q0m]
     rw[ih l2 (i+1) (by simpa using h) (fun k hkd=>by have:=hk (k+1) (by omega);simpa [List.getD] using this)]
     by_cases e:i=d
     ·subst e;simp
     ·have:=hk 0 (by omega)
      simp only[List.getD_cons_zero] at this
      rw[this]
  simp only[qdc,hf]
  rw[hm sl sl2 0 hl (fun k h=>hr d rfl k (by omega)),hpl sl sl2 0 hl (fun k h=>hp d rfl k (by omega))]
theorem Sim.asks {S T:St} (h:Sim S T) (d:Option Nat) (s:Nat):qdc T.sl d s=qdc S.sl d s:=by
 refine qbvy d s h.len (fun d' _ k _=>?_) (fun d' _ k _=>?_) (fun k=>?_)
 ·have:=h.roots k;simp only[St.get_eq] at this;rw[this]
 ·rcases h.get k with e | ⟨b,e1,e2⟩
  ·simp only[St.get_eq] at e;rw[e]
  ·simp only[St.get_eq] at e1 e2;rw[e1,e2];rfl
 ·rcases h.get k with e | ⟨b,e1,e2⟩
  ·simp only[St.get_eq] at e;rw[e]
  ·simp only[St.get_eq] at e1 e2;rw[e1,e2];rfl
theorem Sim.set {S T:St} (h:Sim S T) (t:Nat) (v:AV):Sim (S.set t v) (T.set t v) where
 rt:=h.rt
 len:=by simp[St.set_eq,h.len]
 get:=by
  intro u
  rw[St.get_set,St.get_set,h.len]
  by_cases e:u=t∧t<S.sl.length
  ·rw[z6 e,z6 e];exact .inl rfl
  ·rw[z5 e,z5 e];exact h.get u
theorem Sim.forget {S T:St} (h:Sim S T):∀ ts:List Nat,Sim (S.forget ts) (T.forget ts):=by
 intro ts
 induction ts generalizing S T with
 | nil=>exact h
 | cons t ts ih=>exact ih (h.set t .undef)
theorem Sim.withRt {S T:St} (h:Sim S T) (rt:Rts):Sim ⟨S.sl,rt⟩ ⟨T.sl,rt⟩:=⟨rfl,h.len,h.get⟩
theorem Sim.fin {S T:St} (h:Sim S T) (ops:Array Oper) (i:Nat) (o:Oper) (v:AV):Sim (fin ops S i o v) (fin ops T i o v):=by
 unfold V.fin q97
 cases o.dst with
 | none=>exact h.forget _
 | some d=>exact (h.forget _).set d v
theorem Sim.rootsAt {S T:St} (h:Sim S T):∀ ts,rootsAt T ts=rootsAt S ts
 | []=>rfl
 | t::ts=>by simp only[V.rootsAt];rw[h.roots,Sim.rootsAt h ts]
theorem Sim.stampsAt {S T:St} (h:Sim S T):∀ ts,stampsAt T ts=stampsAt S ts
 | []=>rfl
 | t::ts=>by simp only[V.stampsAt];rw[h.stamps,Sim.stampsAt h ts]
section
variable {C:Ctx} {D:Den C}
theorem Sim.opAt {S T:St} (h:Sim S T) (site:Nat) (hint:Bool) (o:Oper):opAt C D T site hint o=opAt C D S site hint o:=by
 unfold V.opAt;rw[h.asks,h.ev,h.rt]
theorem Sim.ent {S T:St} (h:Sim S T) (ops:Array Oper) (site i:Nat) (o:Oper) (v:AV) (rt':Rts):qdb C ops T site i o v rt'=qdb C ops S site i o v rt':=by
 unfold qdb q85;rw[h.ev,h.rootsAt,h.stampsAt,h.rt]
theorem Sim.skip {S T:St} (h:Sim S T) (ops:Array Oper) (site i:Nat) (o:Oper):qfa ops T site i o=qfa ops S site i o:=by
 unfold qfa;rw[h.rootsAt,h.stampsAt]
theorem qbwc {hints:Hints} {id:Nat} {ops:Array Oper} {S T:St} (h:Sim S T) {i:Nat} {o:Oper} {β:Bool} (hg:qgb ops T o=some true) {x:AV×Rts}
  (hd:(opAt C D S (id * 256+i+1) (hints.share.contains (id,i)) o).dec β=some x) :
  qcg C D hints id ops β T i o=some (fin ops ⟨T.sl,x.2⟩ i o x.1,qdb C ops S (id * 256+i+1) i o x.1 x.2)∧Sim (fin ops ⟨S.sl,x.2⟩ i o x.1) (fin ops ⟨T.sl,x.2⟩ i o x.1):=by
 refine ⟨?_,(h.withRt x.2).fin ops i o x.1⟩
 unfold qcg
 rw[hg,h.opAt,hd,←h.ent]
 rfl
theorem qbpi {hints:Hints} {id:Nat} {ops:Array Oper} {S T:St} (h:Sim S T) {i:Nat} {o:Oper} {β:Bool} (hg:qgb ops T o=some false) :
  qcg C D hints id ops β T i o=some (fin ops T i o .skip,qfa ops S (id * 256+i+1) i o)∧Sim (fin ops S i o .skip) (fin ops T i o .skip):=by
 refine ⟨?_,h.fin ops i o .skip⟩
 unfold qcg
 rw[hg,←h.skip]
end
section
variable {P:Program} {C:Ctx} {D:Den C} (hty:qcl P C) (dok:DOk P C D)
include hty dok
theorem qbyc {np:List Nat} {Q:Exit→Act→World→Prop} {hints:Hints} {id:Nat} {ops:Array Oper} (hj:∀ (i:Nat) o j c,ops[i]? = some o→o.guard=some (j,c)→∃ oj t,ops[j]? = some oj∧oj.dst=some t) :
  ∀ (l:List (Nat×Oper)) (S:St) (g:Ghost) (a:Act) (w:World),(∀ x∈l,ops[x.1]? = some x.2)→(∀ x∈l,∀ d,x.2.dst=some d→d∉np)→StRel w.heap S g a.tmps Nil→a.defers=[]→(∀ βs,∃ x,runD C D hints id ops βs l S=some x)→
   (∀ βs S' lg a' w' g',runD C D hints id ops βs l S=some (S',lg)→StRel w'.heap S' g' a'.tmps Nil→g'.Same g→WFr g.L w w'→a'.defers=[]→qr0 np a a'→Q .normal a' w')→wpOps P ops Q (l.map (·.1)) a w
 | [],S,g,a,w,hl,hnp,st,hdf,ht,hQ=>by
  simp only[List.map_nil,wpOps]
  exact hQ [] S [] a w g rfl st (.refl g) (.refl _ _) hdf (.refl _ _)
 | (i,o)::l,S,g,a,w,hl,hnp,st,hdf,ht,hQ=>by
  simp only[z28]
  rw[wpOps_cons]
  have hi:=hl (i,o) z14
  refine qbwd hty dok st (hints:=hints) (id:=id) hi (fun j c=>hj i o j c hi) hdf (hnp (i,o) z14) (fun β=>?_) ?_
  ·obtain ⟨x,hx⟩:=ht [β]
   simp only[runD,List.headD_cons,z8] at hx
   obtain ⟨y,hy,_⟩:=hx
   exact ⟨y,hy⟩
  ·intro β S' e a' w' g' hs st' hsm hfr hdf' hfx
   refine qbyc (hints:=hints) (id:=id) hj l S' g' a' w' (fun x hx=>hl x (z16 _ hx)) (fun x hx=>hnp x (z16 _ hx)) st' hdf' (fun βs=>?_) ?_
   ·obtain ⟨x,hx⟩:=ht (β::βs)
    simp only[runD,List.headD_cons,List.tail_cons,z8] at hx
    obtain ⟨y,hy,hx⟩:=hx
    rw[hs] at hy
    simp only[z4] at hy
    subst hy
    simp only[z29] at hx
    obtain ⟨z,hz,_⟩:=hx
    exact ⟨z,hz⟩
   ·intro βs S'' lg a'' w'' g'' hr st'' hsm' hfr' hdf'' hfx'
    refine hQ (β::βs) S'' (e::lg) a'' w'' g'' ?_ st'' (hsm.trans hsm') (hfr.trans (by rw[hsm.2.1] at hfr';exact hfr')) hdf'' (hfx.trans hfx')
    simp only[runD,List.headD_cons,List.tail_cons,hs,z30,hr,z35]
end
end Go.V

namespace Go.V
noncomputable section
open Go
section
variable {C:Ctx} {D:Den C}
theorem qbqy {α:Type} {x:Option α} {f:α→AV} {S:Rts} {β:Bool} {v:AV} {rt':Rts} (h:(Tr.of (x.map fun v=>(f v,S))).dec β=some (v,rt')):rt'=S:=by
 cases x with
 | none=>simp[Tr.of,Tr.dec] at h
 | some y=>simp only[z35,Tr.of,Tr.dec,z4,z7] at h;exact h.2.symm
theorem qb1a {A:Asks} {ρ:Operand→AV} {S:Rts} {site:Nat} {hint:Bool} {o:Oper} (hT:qga o=true) {β:Bool} {v:AV} {rt':Rts} (h:(opT C D A ρ S site hint o).dec β=some (v,rt')):rt'=S:=by
 cases ho:o.op with
 | move x=>simp only[opT,ho,Tr.dec,z4,z7] at h;exact h.2.symm
 | pick c a b=>
  simp only[opT,ho] at h
  split at h
  ·rename_i c' _;cases c'<;>(simp only[Tr.dec,z4,z7] at h;exact h.2.symm)
  ·simp[Tr.dec] at h
 | unOp op t x=>
  simp only[opT,ho] at h
  split at h
  ·simp only[Tr.dec,z4,z7] at h;exact h.2.symm
  ·simp only[Tr.dec,z4,z7] at h;exact h.2.symm
  ·simp[Tr.dec] at h
 | fieldAddr t x f=>simp only[opT,ho] at h;exact qbqy (f:=fun v=>v) h
 | field t x f=>
  simp only[opT,ho] at h
  split at h
  ·split at h
   ·split at h
    ·simp only[Tr.dec,z4,z7] at h;exact h.2.symm
    ·simp[Tr.dec] at h
   ·simp[Tr.dec] at h
  ·simp[Tr.dec] at h
 | load t x=>
  simp only[opT,ho] at h
  split at h
  ·exact qbqy (f:=fun v=>v) h
  ·simp[Tr.dec] at h
 | extract x i=>simp only[opT,ho] at h;exact qbqy (f:=fun v=>v) h
 | binOp op t x y t2=>
  simp only[opT,ho] at h
  split at h
  ·split at h
   ·simp only[Tr.dec,z4,z7] at h;exact h.2.symm
   ·simp only[Tr.dec,z4,z7] at h;exact h.2.symm
   ·simp[Tr.dec] at h
  ·exact (qbos (T:=binT (C.ty t) op (ρ x) (ρ y)) (S:=S) (β:=β) (v:=v) (rt:=rt') (by unfold qbqv;exact h)).2
 | call c=>
  cases hc:c.callee with
  | builtin b=>
   cases b with
   | len=>
    simp only[opT,ho,hc] at h
    split at h<;>first
     | (simp only[Tr.dec,z4,z7] at h;exact h.2.symm)
     | exact qbqy (f:=fun n=>AV.val (Ty.int IntKind.i64) n) h
     | (exfalso;contradiction)
     | (exfalso;revert h;simp only[Tr.dec];intro h;contradiction)
   | _=>simp[qga,ho,hc] at hT
  | _=>simp[qga,ho,hc] at hT
 | _=>simp[qga,ho] at hT
theorem qbw3 {A:Asks} {ρ:Operand→AV} {S:Rts} {site:Nat} {h1 h2:Bool} {o:Oper} (hT:qga o=true):opT C D A ρ S site h1 o=opT C D A ρ S site h2 o:=by
  cases ho:o.op with
  | call c=>
    cases hc:c.callee with
    | builtin b=>
      cases b with
      | len=>
        simp only[opT,ho,hc]
        generalize List.map ρ c.args.toList=l1
        generalize List.map C.ty c.argTypes.toList=l2
        rcases l1 with _ | ⟨x,_ | ⟨y,l⟩⟩
        · rfl
        · rcases l2 with _ | ⟨t,l2⟩
          · cases x with
            | val ty s=>cases ty<;>rfl
            | _=>rfl
          · cases x with
            | val ty s=>cases ty<;>cases t<;>rfl
            | _=>cases t<;>rfl
        · rcases l with _ | ⟨z,l⟩<;>rcases l2 with _ | ⟨t,_ | ⟨t',l2⟩⟩<;>first
            | rfl
            | (cases t<;>first | rfl | (cases t'<;>rfl))
            | (cases x with
               | val ty s=>cases ty<;>first | rfl | (cases t<;>first | rfl | (cases t'<;>rfl))
               | _=>first | rfl | (cases t<;>first | rfl | (cases t'<;>rfl)))
      | _=>simp[qga,ho,hc] at hT
    | _=>simp[qga,ho,hc] at hT
  | _=>first | (simp[qga,ho] at hT;done) | simp only[opT,ho]
theorem qbb0:∀ (ts:List Nat) (S:St) (u:Nat),(S.forget ts).get u=if u∈ts then .undef else S.get u
 | [],S,u=>by simp[St.forget]
 | t::ts,S,u=>by
  simp only[St.forget,qbb0 ts,z15]
  have:=q7u S t u
  simp only[St.blank] at this
  rw[this]
  by_cases h1:u∈ts
  ·simp[h1]
  ·by_cases h2:u=t<;>simp[h1,h2]
theorem qba5 (ts:List Nat) (S:St):(S.forget ts).sl.length=S.sl.length:=by
 induction ts generalizing S with
 | nil=>rfl
 | cons t ts ih=>simp only[St.forget];rw[ih];simp[St.set_eq]
theorem qboz (ts:List Nat) (S:St):(S.forget ts).rt=S.rt:=by rw[q1k]
theorem qov (ops:Array Oper) (S:St) (i:Nat) (o:Oper) (v:AV) (u:Nat) :
  (fin ops S i o v).get u=if o.dst=some u∧u<S.sl.length then v else if u∈qgq ops i o then .undef else S.get u:=by
 unfold fin q97
 cases hd:o.dst with
 | none=>simp[qbb0]
 | some d=>
  rw[St.get_set,qbb0,qba5]
  by_cases e:u=d
  ·subst e;simp
  ·have:¬ d=u:=fun h=>e h.symm
   simp[e,this]
theorem qgu (ops:Array Oper) (S:St) (i:Nat) (o:Oper) (v:AV):(fin ops S i o v).rt=S.rt:=by
 unfold fin q97
 cases o.dst with
 | none=>exact qboz _ _
 | some d=>exact qboz _ _
theorem q4u (ops:Array Oper) (S:St) (i:Nat) (o:Oper) (v:AV):(fin ops S i o v).sl.length=S.sl.length:=by
 unfold fin q97
 cases o.dst with
 | none=>exact qba5 _ _
 | some d=>simp only[St.set_eq,z17];exact qba5 _ _
theorem q8w {hints:Hints} {id:Nat} {ops:Array Oper} {β:Bool} {S S':St} {i:Nat} {o:Oper} {e:Ent} (h:qcg C D hints id ops β S i o=some (S',e)) {u:Nat} (hu:u∉qcs ops i o) :
  S'.get u=S.get u∧S'.sl.length=S.sl.length∧(qga o=true→S'.rt=S.rt):=by
 have hn:¬ (o.dst=some u):=fun h=>hu (by simp[qcs,h])
 have hn2:u∉qgq ops i o:=fun h=>hu (by simp[qcs,h])
 unfold qcg at h
 split at h
 ·simp only[z29,z7] at h
  obtain ⟨x,hx,rfl,_⟩:=h
  refine ⟨?_,?_,fun ht=>?_⟩
  ·rw[qov,z5 (fun h=>hn h.1),z5 hn2];rfl
  ·rw[q4u]
  ·rw[qgu];exact qb1a ht hx
 ·simp only[z4,z7] at h
  obtain ⟨rfl,_⟩:=h
  refine ⟨?_,?_,fun ht=>?_⟩
  ·rw[qov,z5 (fun h=>hn h.1),z5 hn2]
  ·rw[q4u]
  ·rw[qgu]
 ·simp at h
theorem qbj6 {hints:Hints} {id:Nat} {ops:Array Oper} {Dd:List Nat}:∀ (l:List (Nat×Oper)) (βs:List Bool) (S S':St) (lg:Log),runD C D hints id ops βs l S=some (S',lg)→
  (∀ x∈l,qga x.2=true∧∀ u∈qcs ops x.1 x.2,u∈Dd)→(∀ u,u∉Dd→S'.get u=S.get u)∧S'.rt=S.rt∧S'.sl.length=S.sl.length
 | [],βs,S,S',lg,h,_=>by
  simp only[runD,z4,z7] at h
  obtain ⟨rfl,_⟩:=h
  exact ⟨fun _ _=>rfl,rfl,rfl⟩
 | (i,o)::l,βs,S,S',lg,h,hl=>by
  simp only[runD,z8,z29,z7] at h
  obtain ⟨⟨S1,e⟩,hs,⟨S2,lg2⟩,hr,rfl,_⟩:=h
  obtain ⟨ht,ho⟩:=hl (i,o) z14
  obtain ⟨k1,k2,k3⟩:=qbj6 l βs.tail S1 S2 lg2 hr (fun x hx=>hl x (z16 _ hx))
  have hex:∃ u,u∉qcs ops i o:=by
   refine ⟨(qcs ops i o).foldr max 0+1,fun h=>?_⟩
   have:∀ (l:List Nat) (u:Nat),u∈l→u≤l.foldr max 0:=by
    intro l
    induction l with
    | nil=>intro u h;simp at h
    | cons a l ih=>
     intro u h
     simp only[List.foldr_cons]
     rcases z15.1 h with rfl | h
     ·exact Nat.le_max_left _ _
     ·exact Nat.le_trans (ih u h) (Nat.le_max_right _ _)
   have:=this _ _ h
   omega
  obtain ⟨u0,hu0⟩:=hex
  obtain ⟨_,f2,f3⟩:=q8w hs hu0
  exact ⟨fun u hu=>(k1 u hu).trans (q8w hs (fun h=>hu (ho u h))).1,k2.trans (f3 ht),k3.trans f2⟩
theorem q8x {hints:Hints} {id:Nat} {ops:Array Oper}:∀ (l1 l2:List (Nat×Oper)) (βs:List Bool) (S:St),
  runD C D hints id ops βs (l1++l2) S=(runD C D hints id ops βs l1 S).bind fun x=>(runD C D hints id ops (βs.drop l1.length) l2 x.1).map fun y=>(y.1,x.2++y.2)
 | [],l2,βs,S=>by simp[runD]
 | (i,o)::l1,l2,βs,S=>by
  simp only[z40,runD]
  cases hs:qcg C D hints id ops (βs.headD true) S i o with
  | none=>simp
  | some x=>
   simp only[z30]
   rw[q8x l1 l2 βs.tail x.1]
   cases hr:runD C D hints id ops βs.tail l1 x.1 with
   | none=>simp
   | some y=>
    simp only[z30,z35,z22]
    have:βs.tail.drop l1.length=βs.drop (l1.length+1):=by cases βs<;>simp
    rw[this]
    cases runD C D hints id ops (βs.drop (l1.length+1)) l2 y.1<;>simp
theorem qb10 {S:St} {x:Operand} {b:Bool} (h:V.asBool (ev S x)=some b):ev S x=.val .bool b:=by
 cases x with
 | tmp t=>
  simp only[ev] at h ⊢
  cases hS:S.get t with
  | val t y=>rw[hS] at h;cases t<;>simp[AV.flat,V.asBool] at h;subst h;rfl
  | litB c=>rw[hS] at h;simp[AV.flat,V.asBool] at h;subst h;rfl
  | _=>rw[hS] at h;simp[AV.flat,V.asBool] at h
 | const v=>
  simp only[ev] at h ⊢
  unfold qbe5 at h ⊢
  split at h<;>simp[V.asBool] at h
  subst h;rfl
 | _=>simp[ev,V.asBool] at h
def qb1v (C:Ctx) (D:Den C) (hints:Hints) (id:Nat) (ops:Array Oper) (rec_:List (Nat×Oper)→St→Log→Option (St×Log)):Prop:=
 ∀ l S lg S1 lg1,rec_ l S lg=some (S1,lg1)→(∀ x∈l,qga x.2=true)→∀ T,Sim S T→∀ βs,∃ T1 lgT,runD C D hints id ops βs l T=some (T1,lgT)∧Sim S1 T1∧(∀ e∈lgT,e∈lg1)∧(∀ e∈lg,e∈lg1)
theorem qbtv {t:Nat}:∀ (l:List (Nat×Oper)) {seg:List (Nat×Oper)} {x:Nat×Oper} {rest:List (Nat×Oper)},q1t t l=some (seg,x,rest)→l=seg++x::rest∧qbtq t x.2=true
 | [],_,_,_,h=>by simp[q1t] at h
 | y::l,seg,x,rest,h=>by
  simp only[q1t] at h
  split at h
  ·rename_i hp
   simp only[z4,z7] at h
   obtain ⟨rfl,rfl,rfl⟩:=h
   exact ⟨rfl,hp⟩
  ·split at h
   ·rename_i z hz
    obtain ⟨z1,z2,z3⟩:=z
    simp only[z4,z7] at h
    obtain ⟨rfl,rfl,rfl⟩:=h
    obtain ⟨e,hp⟩:=qbtv l hz
    exact ⟨by rw[e];rfl,hp⟩
   ·simp at h
theorem qbv8 {hints:Hints} {id:Nat} {ops:Array Oper} {rec_:List (Nat×Oper)→St→Log→Option (St×Log)} (hrec:qb1v C D hints id ops rec_) {t:Nat} {c:Bool} {l rest:List (Nat×Oper)} {S S':St} {lg lg':Log}
  (h:qbkc C ops id rec_ t c l S lg=some (S',lg',rest)) (hSt:S.get t=.val .bool c) {T:St} (hs:Sim S T) (βs:List Bool) :
  ∃ seg i o T' lgT,l=seg++(i,o)::rest∧runD C D hints id ops βs (seg++[(i,o)]) T=some (T',lgT)∧Sim S' T'∧(∀ e∈lgT,e∈lg')∧(∀ e∈lg,e∈lg')∧qga o=true:=by
 unfold qbkc at h
 split at h
 ·rename_i seg i o rest' hsp
  obtain ⟨hl,hpick⟩:=qbtv l hsp
  simp only at h
  split at h
  ·rename_i hc
   simp only[z9,List.all_eq_true,Bool.not_eq_true'] at hc
   obtain ⟨⟨hc1,hc2⟩,hc3⟩:=hc
   split at h
   ·rename_i cc a b S1 l1 S2 l2 hop h1 h2
    split at h
    ·rename_i x y hx hy
     simp only[z4,z7] at h
     obtain ⟨rfl,rfl,rfl⟩:=h
     have hTt:T.get t=.val .bool c:=by
      rcases hs.get t with e | ⟨b,e1,_⟩
      ·rw[e];exact hSt
      ·rw[hSt] at e1;simp at e1
     have htl:t<S.sl.length:=by
      rcases Nat.lt_or_ge t S.sl.length with h | h
      ·exact h
      ·simp only[St.get_eq,List.getD] at hSt;rw[List.getElem?_eq_none h] at hSt;simp at hSt
     have hsim:Sim (S.set t (.litB c)) T:=by
      refine ⟨hs.rt,by simp[St.set_eq,hs.len],fun u=>?_⟩
      rw[St.get_set]
      by_cases e:u=t
      ·subst e;rw[z6 ⟨rfl,htl⟩];exact .inr ⟨c,rfl,hTt⟩
      ·rw[z5 (fun h=>e h.1)];exact hs.get u
     have hcc:cc=.tmp t:=by
      unfold qbtq at hpick
      rw[hop] at hpick
      split at hpick
      ·rename_i c' _ _ he
       simp only[Op.pick.injEq] at he
       rw[he.1]
       rw[Nat.eq_of_beq_eq_true hpick]
      ·simp at hpick
     have hseg:∀ x∈seg,qga x.2=true∧∀ u∈qcs ops x.1 x.2,u∈qgq ops i o:=by
      intro z hz
      have:=hc1 z hz
      exact ⟨this.1,fun u hu=>by have:=this.2 u hu;simpa using this⟩
     -- the way that is gone
     have key:∀ (Sc:St) (lc:Log),rec_ seg (S.set t (.litB c)) []=some (Sc,lc)→∀ z,V.asBool (ev Sc (if c then a else b))=some z→
       ∃ T' lgT,runD C D hints id ops βs (seg++[(i,o)]) T=some (T',lgT)∧Sim (fin ops S i o (.val .bool z)) T'∧∀ e∈lgT,e∈lc∨e=qdb C ops Sc (id * 256+i+1) i o (.val .bool z) Sc.rt:=by
      intro Sc lc hr z hz
      obtain ⟨T1,lgT,k1,k2,k3,_⟩:=hrec seg _ _ Sc lc hr (fun x hx=>(hseg x hx).1) T hsim βs
      obtain ⟨f1,f2,f3⟩:=qbj6 seg βs T T1 lgT k1 hseg
      have htD:t∉qgq ops i o:=by simpa using hc3
      have hT1t:T1.get t=.val .bool c:=by rw[f1 t htD];exact hTt
      have hg:qgb ops T1 o=some true:=by
       unfold qb1p at hc2
       unfold qgb
       split at hc2
       ·rename_i hgd;rw[hgd]
       ·rename_i j b' hgd
        simp only[z9,Bool.not_eq_true'] at hc2
        rw[hgd]
        simp only
        have hjD:qe5 ops j∉qgq ops i o:=by simpa using hc2.1
        rw[f1 _ hjD]
        have h5:=hc2.2
        split at h5
        ·rename_i c' hS
         rcases hs.get (qe5 ops j) with e | ⟨b2,e1,e2⟩
         ·rw[e,hS];simp only[z4];exact h5
         ·rw[e2];rw[hS] at e1;simp only[AV.litB.injEq] at e1;subst e1;simp only[z4];exact h5
        ·simp at h5
      have hevz:ev T1 (if c then a else b)=.val .bool z:=by rw[k2.ev];exact qb10 hz
      have hdec:(opAt C D T1 (id * 256+i+1) (hints.share.contains (id,i)) o).dec ((βs.drop seg.length).headD true)=some (.val .bool z,T1.rt):=by
       unfold opAt
       simp only[opT,hop,hcc,ev,hT1t,AV.flat,V.asBool]
       cases c<;>simp only[Tr.dec,z4,z7,and_true]<;>exact hevz
      have hstep:qcg C D hints id ops ((βs.drop seg.length).headD true) T1 i o=some (fin ops T1 i o (.val .bool z),qdb C ops Sc (id * 256+i+1) i o (.val .bool z) Sc.rt):=by
       unfold qcg
       rw[hg,hdec,←k2.ent,←k2.rt]
       rfl
      refine ⟨fin ops T1 i o (.val .bool z),lgT++[qdb C ops Sc (id * 256+i+1) i o (.val .bool z) Sc.rt],?_,?_,?_⟩
      ·rw[q8x,k1]
       simp only[z30,runD,hstep,z35]
      ·refine ⟨?_,?_,fun u=>?_⟩
       ·rw[qgu,qgu,f2,hs.rt]
       ·rw[q4u,q4u,f3,hs.len]
       ·rw[qov,qov,f3,hs.len]
        by_cases h1:o.dst=some u∧u<S.sl.length
        ·rw[z6 h1,z6 h1];exact .inl rfl
        ·rw[z5 h1,z5 h1]
         by_cases h2:u∈qgq ops i o
         ·rw[z6 h2,z6 h2];exact .inl rfl
         ·rw[z5 h2,z5 h2,f1 u h2];exact hs.get u
      ·intro e he
       rcases z18.1 he with he | he
       ·exact .inl (k3 e he)
       ·exact .inr (by simpa using he)
     have htot:qga o=true:=by unfold qga;rw[hop]
     cases c with
     | true=>
      obtain ⟨T',lgT,k1,k2,k3⟩:=key S1 l1 h1 x (by simpa using hx)
      refine ⟨seg,i,o,T',lgT,hl,k1,k2,fun e he=>?_,fun e he=>?_,htot⟩
      ·rcases k3 e he with h | rfl
       ·simp[h]
       ·simp
      ·simp[he]
     | false=>
      obtain ⟨T',lgT,k1,k2,k3⟩:=key S2 l2 h2 y (by simpa using hy)
      refine ⟨seg,i,o,T',lgT,hl,k1,k2,fun e he=>?_,fun e he=>?_,htot⟩
      ·rcases k3 e he with h | rfl
       ·simp[h]
       ·simp
      ·simp[he]
    ·simp at h
   ·simp at h
  ·simp at h
 ·simp at h
end
end
end Go.V

namespace Go.V
open Go
section
variable {C:Ctx} {D:Den C}
theorem qbop {hints:Hints} {id:Nat} {ops:Array Oper} {seg rest:List (Nat×Oper)} {x:Nat×Oper} {T T':St} {lgT:Log} {βs:List Bool}
  (h:runD C D hints id ops βs (seg++[x]) T=some (T',lgT)) :
  runD C D hints id ops βs (seg++x::rest) T=(runD C D hints id ops (βs.drop (seg.length+1)) rest T').map fun y=>(y.1,lgT++y.2):=by
 have e:seg++x::rest=(seg++[x])++rest:=by simp
 rw[e,q8x,h]
 simp only[z30,z19,z22,List.length_nil]
theorem qbdq {ops:Array Oper} {S T:St} (h:Sim S T) {o:Oper} {j:Nat} {b c:Bool} (hg:o.guard=some (j,b)) (hS:S.get (qe5 ops j)=.litB c∨S.get (qe5 ops j)=.val .bool c) :
  qgb ops T o=some (c == b):=by
 unfold qgb
 rw[hg]
 simp only
 rcases hS with hS | hS
 ·rcases h.get (qe5 ops j) with e | ⟨c',e1,e2⟩
  ·rw[e,hS]
  ·rw[hS] at e1;simp only[AV.litB.injEq] at e1;subst e1;rw[e2]
 ·rcases h.get (qe5 ops j) with e | ⟨c',e1,e2⟩
  ·rw[e,hS]
  ·rw[hS] at e1;simp at e1
theorem qbje {ops:Array Oper} {S T:St} (h:Sim S T) {o:Oper} {j:Nat} {b:Bool} (hg:o.guard=some (j,b)) (hS:S.get (qe5 ops j)=.skip):qgb ops T o=some false:=by
 unfold qgb
 rw[hg]
 simp only
 rcases h.get (qe5 ops j) with e | ⟨c',e1,e2⟩
 ·rw[e,hS]
 ·rw[hS] at e1;simp at e1
theorem qboi {ops:Array Oper} {T:St} {o:Oper} (hg:o.guard=none):qgb ops T o=some true:=by
 unfold qgb;rw[hg]
theorem q9s {hints:Hints} {id:Nat} {ops:Array Oper}:∀ n,qb1v C D hints id ops (segR C D id ops n)
 | 0=>by intro l S lg S1 lg1 h;simp[segR] at h
 | n+1=>by
  intro l S lg S1 lg1 h hl T hs βs
  cases l with
  | nil=>
   simp only[segR,z4,z7] at h
   obtain ⟨rfl,rfl⟩:=h
   exact ⟨T,[],rfl,hs,by simp,fun e he=>he⟩
  | cons x rest=>
   obtain ⟨i,o⟩:=x
   have htot:=hl (i,o) z14
   have hrest:∀ x∈rest,qga x.2=true:=fun x hx=>hl x (z16 _ hx)
   have hgo:qgb ops T o=some true→(match opAt C D S (id * 256+i+1) false o with
     | .ret (v,rt')=>segR C D id ops n rest (fin ops ⟨S.sl,rt'⟩ i o v) (qdb C ops S (id * 256+i+1) i o v rt'::lg)
     | _=>none)=some (S1,lg1)→∃ T1 lgT,runD C D hints id ops βs ((i,o)::rest) T=some (T1,lgT)∧Sim S1 T1∧(∀ e∈lgT,e∈lg1)∧(∀ e∈lg,e∈lg1):=by
    intro hg h
    split at h
    ·rename_i v rt' hop
     have hop':(opAt C D S (id * 256+i+1) (hints.share.contains (id,i)) o).dec (βs.headD true)=some (v,rt'):=by
      unfold opAt at hop ⊢
      rw[qbw3 htot (h2:=false),hop]
      rfl
     obtain ⟨k1,k2⟩:=qbwc (hints:=hints) (id:=id) hs hg hop'
     obtain ⟨T1,lgT,q1,q2,q3,q4⟩:=q9s (hints:=hints) n rest _ _ S1 lg1 h hrest _ k2 βs.tail
     refine ⟨T1,qdb C ops S (id * 256+i+1) i o v rt'::lgT,?_,q2,?_,fun e he=>q4 e (z16 _ he)⟩
     ·simp only[runD,k1,z30,q1,z35]
     ·intro e he
      rcases z15.1 he with rfl | he
      ·exact q4 _ z14
      ·exact q3 e he
    ·simp at h
   have hskip:qgb ops T o=some false→segR C D id ops n rest (fin ops S i o .skip) (qfa ops S (id * 256+i+1) i o::lg)=some (S1,lg1)→
     ∃ T1 lgT,runD C D hints id ops βs ((i,o)::rest) T=some (T1,lgT)∧Sim S1 T1∧(∀ e∈lgT,e∈lg1)∧(∀ e∈lg,e∈lg1):=by
    intro hg h
    obtain ⟨k1,k2⟩:=qbpi (C:=C) (D:=D) (hints:=hints) (id:=id) (β:=βs.headD true) hs hg
    obtain ⟨T1,lgT,q1,q2,q3,q4⟩:=q9s (hints:=hints) n rest _ _ S1 lg1 h hrest _ k2 βs.tail
    refine ⟨T1,qfa ops S (id * 256+i+1) i o::lgT,?_,q2,?_,fun e he=>q4 e (z16 _ he)⟩
    ·simp only[runD,k1,z30,q1,z35]
    ·intro e he
     rcases z15.1 he with rfl | he
     ·exact q4 _ z14
     ·exact q3 e he
   simp only[segR] at h
   split at h
   ·rename_i hgd
    exact hgo (qboi hgd) h
   ·rename_i j b hgd
    split at h
    ·rename_i hS
     exact hskip (qbje hs hgd hS) h
    ·rename_i c hS
     have hg:=qbdq hs hgd (.inl hS)
     split at h
     ·rename_i hcb
      subst hcb
      exact hgo (by simpa using hg) h
     ·rename_i hcb
      exact hskip (by rw[hg];simpa using hcb) h
    ·rename_i c hS
     split at h
     ·rename_i S2 lg2 rest2 hj
      obtain ⟨seg,i2,o2,T',lgT,e1,k1,k2,k3,k4,k5⟩:=qbv8 (q9s (hints:=hints) n) hj hS hs βs
      have hrest2:∀ x∈rest2,qga x.2=true:=fun x hx=>hl x (by rw[e1];simp[hx])
      obtain ⟨T1,lgT1,q1,q2,q3,q4⟩:=q9s (hints:=hints) n rest2 _ _ S1 lg1 h hrest2 _ k2 (βs.drop (seg.length+1))
      refine ⟨T1,lgT++lgT1,?_,q2,?_,fun e he=>q4 e (k4 e he)⟩
      ·rw[e1,qbop k1,q1];rfl
      ·intro e he
       rcases z18.1 he with he | he
       ·exact q4 e (k3 e he)
       ·exact q3 e he
     ·simp at h
    ·simp at h
theorem q1u {R:Type} {r:R} {hints:Hints} {id:Nat} {ops:Array Oper} {k:Log→St→Option R}:∀ (n:Nat) (l:List (Nat×Oper)) (S:St) (lg:Log),qmm C D hints id ops n l S lg k=some r→∀ T,Sim S T→∀ βs,
  ∃ T1 lgT S1 lg1,runD C D hints id ops βs l T=some (T1,lgT)∧k lg1 S1=some r∧Sim S1 T1∧(∀ e∈lgT,e∈lg1)∧(∀ e∈lg,e∈lg1)
 | 0,l,S,lg,h=>by simp[qmm] at h
 | n+1,[],S,lg,h=>by
  intro T hs βs
  simp only[qmm] at h
  exact ⟨T,[],S,lg,rfl,h,hs,by simp,fun e he=>he⟩
 | n+1,(i,o)::rest,S,lg,h=>by
  intro T hs βs
  have hgo:∀ S,Sim S T→qgb ops T o=some true→((opAt C D S (id * 256+i+1) (hints.share.contains (id,i)) o).run fun x=>qmm C D hints id ops n rest (fin ops ⟨S.sl,x.2⟩ i o x.1) (qdb C ops S (id * 256+i+1) i o x.1 x.2::lg) k)=some r→
    ∃ T1 lgT S1 lg1,runD C D hints id ops βs ((i,o)::rest) T=some (T1,lgT)∧k lg1 S1=some r∧Sim S1 T1∧(∀ e∈lgT,e∈lg1)∧(∀ e∈lg,e∈lg1):=by
   intro S hs hg h
   obtain ⟨x,hx,h⟩:=Tr.run_dec (βs.headD true) _ h
   obtain ⟨k1,k2⟩:=qbwc (hints:=hints) (id:=id) hs hg hx
   obtain ⟨T1,lgT,S1,lg1,q1,q2,q3,q4,q5⟩:=q1u (hints:=hints) n rest _ _ h _ k2 βs.tail
   refine ⟨T1,qdb C ops S (id * 256+i+1) i o x.1 x.2::lgT,S1,lg1,?_,q2,q3,?_,fun e he=>q5 e (z16 _ he)⟩
   ·simp only[runD,k1,z30,q1,z35]
   ·intro e he
    rcases z15.1 he with rfl | he
    ·exact q5 _ z14
    ·exact q4 e he
  have hskip:∀ S,Sim S T→qgb ops T o=some false→qmm C D hints id ops n rest (fin ops S i o .skip) (qfa ops S (id * 256+i+1) i o::lg) k=some r→
    ∃ T1 lgT S1 lg1,runD C D hints id ops βs ((i,o)::rest) T=some (T1,lgT)∧k lg1 S1=some r∧Sim S1 T1∧(∀ e∈lgT,e∈lg1)∧(∀ e∈lg,e∈lg1):=by
   intro S hs hg h
   obtain ⟨k1,k2⟩:=qbpi (C:=C) (D:=D) (hints:=hints) (id:=id) (β:=βs.headD true) hs hg
   obtain ⟨T1,lgT,S1,lg1,q1,q2,q3,q4,q5⟩:=q1u (hints:=hints) n rest _ _ h _ k2 βs.tail
   refine ⟨T1,qfa ops S (id * 256+i+1) i o::lgT,S1,lg1,?_,q2,q3,?_,fun e he=>q5 e (z16 _ he)⟩
   ·simp only[runD,k1,z30,q1,z35]
   ·intro e he
    rcases z15.1 he with rfl | he
    ·exact q5 _ z14
    ·exact q4 e he
  simp only[qmm] at h
  split at h
  ·rename_i hgd
   exact hgo S hs (qboi hgd) h
  ·rename_i j b hgd
   split at h
   ·rename_i hS
    exact hskip S hs (qbje hs hgd hS) h
   ·rename_i c hS
    have hg:=qbdq hs hgd (.inl hS)
    split at h
    ·rename_i hcb
     subst hcb
     exact hgo S hs (by simpa using hg) h
    ·rename_i hcb
     exact hskip S hs (by rw[hg];simpa using hcb) h
   ·rename_i c hS
    split at h
    ·rename_i S2 lg2 rest2 hj
     obtain ⟨seg,i2,o2,T',lgT,e1,k1,k2,k3,k4,k5⟩:=qbv8 (q9s (hints:=hints) n) hj hS hs βs
     obtain ⟨T1,lgT1,S1,lg1,q1,q2,q3,q4,q5⟩:=q1u (hints:=hints) n rest2 _ _ h _ k2 (βs.drop (seg.length+1))
     refine ⟨T1,lgT++lgT1,S1,lg1,?_,q2,q3,?_,fun e he=>q5 e (k4 e he)⟩
     ·rw[e1,qbop k1,q1];rfl
     ·intro e he
      rcases z18.1 he with he | he
      ·exact q5 e (k3 e he)
      ·exact q4 e he
    ·have hg:=qbdq hs hgd (.inr hS)
     have hsim:Sim (S.set (qe5 ops j) (.litB c)) T:=by
      have hTt:T.get (qe5 ops j)=.val .bool c:=by
       rcases hs.get (qe5 ops j) with e | ⟨b,e1,_⟩
       ·rw[e];exact hS
       ·rw[hS] at e1;simp at e1
      refine ⟨hs.rt,by simp[St.set_eq,hs.len],fun u=>?_⟩
      rw[St.get_set]
      by_cases e:u=qe5 ops j∧qe5 ops j<S.sl.length
      ·rw[z6 e,e.1];exact .inr ⟨c,rfl,hTt⟩
      ·rw[z5 e];exact hs.get u
     cases c with
     | true=>
      simp only[br] at h
      split at h
      ·rename_i hb;subst hb;exact hgo _ hsim (by simpa using hg) h
      ·rename_i hb;exact hskip _ hsim (by rw[hg];cases b<;>simp_all) h
     | false=>
      simp only[br] at h
      split at h
      ·rename_i hb;subst hb;exact hgo _ hsim (by simpa using hg) h
      ·rename_i hb;exact hskip _ hsim (by rw[hg];cases b<;>simp_all) h
   ·simp at h
end
theorem qbv9 {h:Array Obj} {S T:St} (hs:Sim S T) {g:Ghost} {tmps:Array Value} {H:BS} (st:StRel h T g tmps H):StRel h S g tmps H:=by
 have hr:∀ r,S.root r=T.root r:=fun r=>by simp only[St.root,hs.rt]
 have hi:∀ {r},(S.root r).isSome→(T.root r).isSome:=fun {r} h=>by rw[←hr];exact h
 have he:∀ {r R},S.root r=some R→T.root r=some R:=fun {r R} h=>by rw[←hr];exact h
 have hl:S.sl.length=tmps.size:=by rw[←hs.len];exact st.len
 have hl2:S.rt.length=tmps.size:=by rw[←hs.rt];exact st.rlen
 refine ⟨hl,hl2,?_,fun r R hR=>st.roots r R (he hR),fun r r' hn h1 h2=>st.dis r r' hn (hi h1) (hi h2),fun r h1=>st.prot r (hi h1),fun r h1=>st.hand r (hi h1),st.handPr,st.limPr,fun r b h1=>st.limG r b (hi h1),st.limH,fun r R hR=>st.tag r R (he hR),fun r b h1=>st.own r b (hi h1),st.ownH,st.limL,st.p0,st.prL⟩
 intro t
 have:=st.slots t
 have h2:=qe.sameRoots (S':=S) st hs.rt.symm this
 rcases hs.get t with e | ⟨b,e1,e2⟩
 ·rw[e] at h2;exact h2
 ·rw[e2] at h2
  rw[e1]
  simp only[qe,Rep] at h2 ⊢
  obtain ⟨c,rfl,e⟩:=h2
  exact e
end Go.V

namespace Go.V
open Go
theorem q5u {h:Array Obj}:∀ (p:Path) (t:Ty) (c:List Value) (base:Base),atP h t c base (p.map Stp.zero)=atP h t c base p
 | [],t,c,base=>rfl
 | .fst::p,t,c,base=>by cases t<;>simp only[z28,Stp.zero,atP];exact q5u p _ _ _
 | .snd::p,t,c,base=>by cases t<;>simp only[z28,Stp.zero,atP];exact q5u p _ _ _
 | .idx i s::p,t,c,base=>by
  cases t<;>simp only[z28,Stp.zero,atP]
  split
  ·split
   ·exact q5u p _ _ _
   ·rfl
  ·rfl
theorem q44:∀ (p:Path) (t:Ty) (x:t.den),inR t x (p.map Stp.zero)↔inR t x p
 | [],t,x=>Iff.rfl
 | .fst::p,t,x=>by cases t<;>simp only[z28,Stp.zero,inR];exact q44 p _ _
 | .snd::p,t,x=>by cases t<;>simp only[z28,Stp.zero,inR];exact q44 p _ _
 | .idx i s::p,t,x=>by
  cases t<;>simp only[z28,Stp.zero,inR]
  rw[q44 p]
theorem TagC.restamp {hd:Nat→Value}:∀ (t:Ty) {m:Mk} {c:List Value},TagC hd t m c→TagC hd t m.restamp c
 | .unit,_,_,_=>by simp only[TagC]
 | .int _,_,_,_=>by simp only[TagC]
 | .bool,_,_,_=>by simp only[TagC]
 | .str,_,_,_=>by simp only[TagC]
 | .pair a b,m,c,h=>by
  simp only[TagC] at h ⊢
  have h1:=Mk.restamp_fst m
  have h2:=Mk.restamp_snd m
  rw[h1,h2]
  exact ⟨TagC.restamp a h.1,TagC.restamp b h.2⟩
 | .sl t,m,c,h=>by
  cases m with
  | own s mi=>
   have hf:∀ m:Mk,m.tagFree=true→m.restamp.tagFree=true:=by
    intro m
    induction m with
    | no=>intro _;rfl
    | gone=>intro _;rfl
    | own s m ih=>
     intro h
     simp only[Mk.tagFree,z9,qge] at h
     simp only[Mk.restamp,Mk.tagFree,z9,qge]
     exact ⟨by rw[z6 h.1];omega,ih h.2⟩
    | pr a b iha ihb=>
     intro h
     simp only[Mk.tagFree,z9] at h
     simp only[Mk.restamp,Mk.prN_tagFree,z9]
     exact ⟨iha h.1,ihb h.2⟩
   simp only[Mk.restamp,TagC] at h ⊢
   refine ⟨fun h2=>?_,hf _ h.2⟩
   split at h2
   ·omega
   ·rename_i hn;rw[z5 hn];exact h.1 h2
  | no=>simp only[Mk.restamp,TagC]
  | gone=>simp only[Mk.restamp,TagC]
  | pr a b=>
   simp only[Mk.restamp]
   rcases Mk.prN_cases a.restamp b.restamp with e | e<;>rw[e]<;>simp only[TagC]
theorem qbnd {x:Option Root} {R':Root} (h:q1n x=some R'):∃ R,x=some R∧R'={ R with ms:=R.ms.restamp }:=by
 unfold q1n at h
 cases x with
 | none=>simp at h
 | some R=>
  simp only[z30] at h
  split at h
  ·simp at h
  ·simp only[z4] at h;exact ⟨R,rfl,h.symm⟩
theorem qbj0 (ment:List Nat):∀ (l:List (Option Root)) (i r:Nat),(qzy ment i l).getD r none=if ment.contains (i+r) then q1n (l.getD r none) else none
 | [],i,r=>by simp[qzy,q1n,List.getD]
 | x::l,i,r=>by
  simp only[qzy]
  cases r with
  | zero=>simp only[List.getD_cons_zero,Nat.add_zero]
  | succ r=>
   simp only[List.getD_cons_succ]
   rw[qbj0 ment l (i+1) r,show i+1+r=i+(r+1) by omega]
theorem qbhb (ment:List Nat):∀ (l:List (Option Root)) (i:Nat),(qzy ment i l).length=l.length
 | [],_=>rfl
 | x::l,i=>by simp[qzy,qbhb ment l]
theorem qbjx (S:St) (keep:List Nat):∀ (l:List AV) (i t:Nat),(q0t S keep i l).getD t .undef=if keep.contains (i+t) then (l.getD t .undef).canon S else .undef
 | [],i,t=>by simp[q0t,AV.canon,List.getD]
 | x::l,i,t=>by
  simp only[q0t]
  cases t with
  | zero=>simp only[List.getD_cons_zero,Nat.add_zero]
  | succ t=>
   simp only[List.getD_cons_succ]
   rw[qbjx S keep l (i+1) t,show i+1+t=i+(t+1) by omega]
theorem qbg4 (S:St) (keep:List Nat):∀ (l:List AV) (i:Nat),(q0t S keep i l).length=l.length
 | [],_=>rfl
 | x::l,i=>by simp[q0t,qbg4 S keep l]
section
variable {h:Array Obj} {S:St} {g:Ghost} {tmps:Array Value} {H:BS} (st:StRel h S g tmps H)
include st
theorem qwo {keep extra:List Nat} {r:Nat} {R':Root} (hr:(S.canon keep extra).root r=some R'):∃ R,S.root r=some R∧R'={ R with ms:=R.ms.restamp }:=by
 simp only[St.canon,St.root,Rts.root_eq] at hr
 rw[qbj0] at hr
 split at hr
 ·rw[←Rts.root_eq] at hr;exact qbnd hr
 ·simp at hr
theorem qboa {keep extra:List Nat} {r:Nat} {p:Path} {s:Nat} {v:Value} {t:Ty} {m:Mk} {xs:(Ty.sl t).den} (hf:S.rt.focus r p=some ⟨.sl t,.own s m,xs⟩) (x:q7k h S g r p s v) :
  q7k h (S.canon keep extra) g r (p.map Stp.zero) (if s<1048576 then 0 else s) v:=by
 obtain ⟨R,base,F,hR,hfR,hin,hat,_⟩:=q5q st hf rfl x
 intro R' hR' t' m' xs' hf'
 obtain ⟨R2,hR2,rfl⟩:=qwo st hR'
 rw[hR] at hR2
 simp only[z4] at hR2
 subst hR2
 exact ⟨(q44 p _ _).2 hin,base,by rw[q5u];exact hat⟩
theorem qbwv {keep extra:List Nat} {r:Nat} {p:Path} {v:Value} {d:Dy} (hf:S.rt.focus r p=some d) (x:qbau h S g r p v):qbau h (S.canon keep extra) g r (p.map Stp.zero) v:=by
 simp only[Rts.focus] at hf
 split at hf
 ·rename_i R hR
  obtain ⟨hin,b,o,c,hat,e⟩:=x R hR d hf
  intro R' hR' d' hf'
  obtain ⟨R2,hR2,rfl⟩:=qwo st hR'
  have:R=R2:=by
   have h1:S.root r=some R:=hR
   rw[h1] at hR2
   simpa using hR2
  subst this
  exact ⟨(q44 p _ _).2 hin,b,o,c,by rw[q5u];exact hat,e⟩
 ·simp at hf
theorem qbkq {keep extra:List Nat}:∀ {a:AV} {c:List Value},AVC h S g a c→AVC h (S.canon keep extra) g (a.canon S) c
 | .undef,_,_=>by simp only[AV.canon,AVC]
 | .unit,_,y=>y
 | .val t x,_,y=>y
 | .brw r p s,c,y=>by
  simp only[AVC] at y
  obtain ⟨v,rfl,y⟩:=y
  simp only[AV.canon]
  split
  ·rename_i t s' m xs hf
   split
   ·rename_i hs;subst hs
    simp only[AVC]
    exact ⟨v,rfl,qboa st hf y⟩
   ·simp only[AVC]
  ·simp only[AVC]
 | .pair a b,c,y=>by
  simp only[AVC] at y
  obtain ⟨ca,cb,rfl,y1,y2⟩:=y
  simp only[AV.canon,AVC]
  exact ⟨ca,cb,rfl,qbkq y1,qbkq y2⟩
 | .skip,_,y=>y.elim
 | .litB _,_,y=>y.elim
 | .nils,_,y=>y.elim
 | .view _ _ _ _ _,_,y=>y.elim
 | .addr _ _,_,y=>y.elim
 | .raddr _ _,_,y=>y.elim
 | .tup _,_,y=>y.elim
 | .clo _ _,_,y=>y.elim
 | .cloV _,_,y=>y.elim
theorem qb30 {keep extra:List Nat}:∀ (a:AV),(∀ v,qe h S g a v→qe h (S.canon keep extra) g (a.canon S) v)∧(∀ vs,TupRel h S g a vs→TupRel h (S.canon keep extra) g (a.canon S) vs):=by
 intro a
 induction a with
 | undef=>exact ⟨fun _ _=>by simp only[AV.canon,qe],fun _ y=>by simp only[TupRel] at y⟩
 | skip=>exact ⟨fun _ y=>y,fun _ y=>by simp only[TupRel] at y⟩
 | litB b=>exact ⟨fun _ y=>y,fun _ y=>by simp only[TupRel] at y⟩
 | unit=>exact ⟨fun _ y=>y,fun _ y=>y⟩
 | nils=>exact ⟨fun _ y=>y,fun _ y=>by simp only[TupRel] at y⟩
 | val t x=>exact ⟨fun _ y=>y,fun _ y=>by simp only[TupRel] at y⟩
 | brw r p s=>
  refine ⟨fun v y=>?_,fun _ y=>by simp only[TupRel] at y⟩
  simp only[qe] at y
  simp only[AV.canon]
  split
  ·rename_i t s' m xs hf
   split
   ·rename_i hs;subst hs
    simp only[qe]
    exact qboa st hf y
   ·simp only[qe]
  ·simp only[qe]
 | view r p s lo hi=>exact ⟨fun _ _=>by simp only[AV.canon,qe],fun _ y=>by simp only[TupRel] at y⟩
 | addr r p=>
  refine ⟨fun v y=>?_,fun _ y=>by simp only[TupRel] at y⟩
  simp only[qe] at y
  simp only[AV.canon]
  split
  ·rename_i d hf
   simp only[qe]
   exact qbwv st hf y
  ·simp only[qe]
 | raddr t x=>exact ⟨fun _ y=>y,fun _ y=>by simp only[TupRel] at y⟩
 | pair a b iha ihb=>
  refine ⟨fun v y=>?_,fun vs y=>?_⟩
  ·simp only[qe] at y
   obtain ⟨ca,cb,e,y1,y2⟩:=y
   simp only[AV.canon,qe]
   exact ⟨ca,cb,e,qbkq st y1,qbkq st y2⟩
  ·simp only[TupRel] at y
   obtain ⟨v,vs',e,y1,y2⟩:=y
   simp only[AV.canon,TupRel]
   exact ⟨v,vs',e,iha.1 v y1,ihb.2 vs' y2⟩
 | tup a iha=>exact ⟨fun _ _=>by simp only[AV.canon,qe],fun _ y=>by simp only[TupRel] at y⟩
 | clo f a iha=>
  refine ⟨fun v y=>?_,fun _ y=>by simp only[TupRel] at y⟩
  simp only[qe] at y
  obtain ⟨vs,e,y⟩:=y
  simp only[AV.canon,qe]
  exact ⟨vs,e,iha.2 vs y⟩
 | cloV c=>exact ⟨fun _ y=>y,fun _ y=>by simp only[TupRel] at y⟩
theorem qbbv (keep extra:List Nat):StRel h (S.canon keep extra) g tmps H:=by
 have hs:∀ r,((S.canon keep extra).root r).isSome→(S.root r).isSome:=by
  intro r h1
  obtain ⟨R',hR'⟩:=Option.isSome_iff_exists.1 h1
  obtain ⟨R,hR,_⟩:=qwo st hR'
  rw[hR];rfl
 refine ⟨?_,?_,?_,?_,fun r r' hn h1 h2=>st.dis r r' hn (hs r h1) (hs r' h2),fun r h1=>st.prot r (hs r h1),fun r h1=>st.hand r (hs r h1),st.handPr,st.limPr,fun r b h1=>st.limG r b (hs r h1),st.limH,?_,fun r b h1=>st.own r b (hs r h1),st.ownH,st.limL,st.p0,st.prL⟩
 ·simp only[St.canon];rw[qbg4];exact st.len
 ·simp only[St.canon];rw[qbhb];exact st.rlen
 ·intro t
  simp only[St.get_eq,St.canon]
  rw[qbjx]
  split
  ·have z:=st.slots t;rw[St.get_eq] at z;exact (qb30 st _).1 _ z
  ·simp only[qe]
 ·intro r R' hR'
  obtain ⟨R,hR,rfl⟩:=qwo st hR'
  obtain ⟨F,q1,q2⟩:=st.roots r R hR
  exact ⟨F,(Rep.restamp R.ty).1 q1,q2⟩
 ·intro r R' hR'
  obtain ⟨R,hR,rfl⟩:=qwo st hR'
  exact TagC.restamp _ (st.tag r R hR)
end
end Go.V

namespace Go.V
noncomputable section
open Go
def Ex.out:Ex→Exit
 | .normal=>.normal
 | .exit id=>.exit id
 | .ret=>.ret
theorem q9l {ops:Array Oper}:∀ x∈qfe ops,ops[x.1]? = some x.2:=by
 intro x hx
 simp only[qfe,z37] at hx
 obtain ⟨y,hy,rfl⟩:=hx
 have:=List.mem_zipIdx_iff_getElem?.1 hy
 simpa using this
theorem q4l {ops:Array Oper}:(qfe ops).map (·.1)=List.range ops.size:=by
 simp only[qfe,List.map_map]
 apply List.ext_getElem?
 intro i
 simp only[List.getElem?_map,List.getElem?_zipIdx,List.getElem?_range']
 by_cases h:i<ops.size
 ·simp[h]
 ·simp[h]
theorem qbot {ops:Array Oper} (h:q52 ops=true):∀ (i:Nat) o j c,ops[i]? = some o→o.guard=some (j,c)→∃ oj t,ops[j]? = some oj∧oj.dst=some t:=by
 intro i o j c ho hg
 simp only[q52,List.all_eq_true] at h
 have:=h o (by rw[Array.mem_toList_iff];exact Array.mem_of_getElem? ho)
 rw[hg] at this
 simp only[Option.isSome_iff_exists,z8] at this
 obtain ⟨t,oj,h1,h2⟩:=this
 exact ⟨oj,t,h1,h2⟩
theorem qbrb {np:List Nat} {ops:Array Oper} (h:q4s np ops=true):∀ x∈qfe ops,∀ d,x.2.dst=some d→d∉np:=by
 intro x hx d hd
 simp only[q4s,List.all_eq_true] at h
 have:=h x.2 (by rw[Array.mem_toList_iff];exact Array.mem_of_getElem? (q9l x hx))
 rw[hd] at this
 simpa using this
section
variable {P:Program} {C:Ctx} {D:Den C} (hty:qcl P C) (dok:DOk P C D)
include hty dok
def Goes (np:List Nat) (P:Program) (C:Ctx) (Q:Exit→Act→World→Prop) {R:Type} (r:R) (c:Code) (S:St) (k:Ex→St→Option R) (g:Ghost) (a:Act) (w:World):Prop:=
 StRel w.heap S g a.tmps Nil→a.defers=[]→(∀ e S' g' a' w',k e S'=some r→StRel w'.heap S' g' a'.tmps Nil→g'.Same g→WFr g.L w w'→a'.defers=[]→qr0 np a a'→Q e.out a' w')→c.wp P Q a w
theorem qbyd {np:List Nat} {R:Type} {r:R} {H:Hints} {id:Nat} {ops:Array Oper} {S:St} {k:Ex→St→Option R} {Q:Exit→Act→World→Prop} {g:Ghost} {a:Act} {w:World} {n:Nat}
  (hnp:q4s np ops=true) (h:exec C D H n (.region id ops false) S k=some r):Goes np P C Q r (.region id ops false) S k g a w:=by
 intro st hdf hQ
 simp only[exec] at h
 split at h
 ·rename_i hgd
  have hR:=fun βs=>q1u (hints:=H) _ _ _ _ h S (Sim.refl S) βs
  refine wp_region ?_
  rw[←q4l]
  refine qbyc (hints:=H) (id:=id) hty dok (qbot hgd) (qfe ops) S g a w q9l (qbrb hnp) st hdf (fun βs=>?_) ?_
  ·obtain ⟨T1,lgT,S1,lg1,q1,_⟩:=hR βs
   exact ⟨_,q1⟩
  ·intro βs S' lg a' w' g' hr st' hsm hfr hdf' hfx
   obtain ⟨T1,lgT,S1,lg1,q1,q2,q3,_⟩:=hR βs
   rw[hr] at q1
   simp only[z4,z7] at q1
   obtain ⟨rfl,rfl⟩:=q1
   simp only[z34,if_false] at q2
   exact hQ .normal S1 g' a' w' q2 (qbv9 q3 st') hsm hfr hdf' hfx
 ·simp at h
end
end
end Go.V

namespace Go.V
noncomputable section
open Go
section
variable {C:Ctx} {D:Den C} {A:Asks} {S:Rts} {site:Nat} {hint:Bool}
theorem qbo6 {ρ ρ':Operand→AV} {ps:Array (Nat×Operand)} (h:∀ x∈(ps.toList.map (·.2)).toArray,ρ' x=ρ x):(ps.toList.map fun p=>(p.1,ρ' p.2))=ps.toList.map fun p=>(p.1,ρ p.2):=by
 apply List.map_congr_left
 intro p hp
 rw[h p.2 (by simp only[List.mem_toArray,z37];exact ⟨p,hp,rfl⟩)]
theorem qbq7 {ρ ρ':Operand→AV} (o:Oper) (h:∀ x∈o.op.operands,ρ' x=ρ x):opT C D A ρ' S site hint o=opT C D A ρ S site hint o:=by
 cases ho:o.op with
 | build t ps=>
  rw[ho] at h;simp only[Op.operands] at h
  simp only[opT,ho];rw[qbo6 h]
 | buildSlice t n ps=>
  rw[ho] at h;simp only[Op.operands] at h
  simp only[opT,ho];rw[qbo6 h]
 | makeFunc f first caps=>
  rw[ho] at h;simp only[Op.operands] at h
  simp only[opT,ho]
  cases f with
  | func f=>
   have:caps.toList.foldr (fun x r=>AV.pair (ρ' x) r) .unit=caps.toList.foldr (fun x r=>AV.pair (ρ x) r) .unit:=by
    have hc:∀ x∈caps.toList,ρ' x=ρ x:=fun x hx=>h x (by simp at hx ⊢;exact .inr hx)
    revert hc
    generalize caps.toList=l
    intro hc
    induction l with
    | nil=>rfl
    | cons y l ih=>simp only[List.foldr_cons];rw[hc y z14,ih (fun x hx=>hc x (z16 _ hx))]
   simp only[this]
  | _=>rfl
 | slice t x lo hi mx=>
  rw[ho] at h;simp only[Op.operands] at h
  cases mx with
  | some v=>simp only[opT,ho]
  | none=>
   simp only[opT,ho]
   have h1:ρ' x=ρ x:=h x (by simp)
   have h2:lo.map ρ'=lo.map ρ:=by cases lo with
    | none=>rfl
    | some v=>simp only[z35];rw[h v (by simp)]
   have h3:hi.map ρ'=hi.map ρ:=by cases hi with
    | none=>rfl
    | some v=>simp only[z35];rw[h v (by simp)]
   rw[h1,h2,h3]
 | call c=>
  rw[ho] at h;simp only[Op.operands] at h
  have ha:c.args.toList.map ρ'=c.args.toList.map ρ:=List.map_congr_left fun x hx=>h x (by simp only[Call.operands,Array.mem_append];right;simpa using hx)
  simp only[opT,ho]
  rw[ha]
  cases hc:c.callee with
  | builtin b=>rfl
  | value f=>
   have:ρ' f=ρ f:=h f (by simp[Call.operands,hc])
   simp only[this]
  | invoke r m=>rfl
 | pick c a b=>rw[ho] at h;simp only[Op.operands] at h;simp only[opT,ho];rw[h c (by simp),h a (by simp),h b (by simp)]
 | store t a b=>rw[ho] at h;simp only[Op.operands] at h;simp only[opT,ho];rw[h a (by simp),h b (by simp)]
 | binOp op t a b t2=>rw[ho] at h;simp only[Op.operands] at h;simp only[opT,ho];rw[h a (by simp),h b (by simp)]
 | makeSlice t a b=>rw[ho] at h;simp only[Op.operands] at h;simp only[opT,ho];rw[h a (by simp),h b (by simp)]
 | indexAddr t a b=>rw[ho] at h;simp only[Op.operands] at h;simp only[opT,ho];rw[h a (by simp),h b (by simp)]
 | index t a b=>rw[ho] at h;simp only[Op.operands] at h;simp only[opT,ho];rw[h a (by simp),h b (by simp)]
 | move x=>rw[ho] at h;simp only[Op.operands] at h;simp only[opT,ho];rw[h x (by simp)]
 | assign x=>rw[ho] at h;simp only[Op.operands] at h;simp only[opT,ho];rw[h x (by simp)]
 | box t x=>rw[ho] at h;simp only[Op.operands] at h;simp only[opT,ho];rw[h x (by simp)]
 | load t x=>rw[ho] at h;simp only[Op.operands] at h;simp only[opT,ho];rw[h x (by simp)]
 | nilCheck x=>rw[ho] at h;simp only[Op.operands] at h;simp only[opT,ho];rw[h x (by simp)]
 | unOp op t x=>rw[ho] at h;simp only[Op.operands] at h;simp only[opT,ho];rw[h x (by simp)]
 | convert s d x=>rw[ho] at h;simp only[Op.operands] at h;simp only[opT,ho];rw[h x (by simp)]
 | fieldAddr s x f=>rw[ho] at h;simp only[Op.operands] at h;simp only[opT,ho];rw[h x (by simp)]
 | field s x f=>rw[ho] at h;simp only[Op.operands] at h;simp only[opT,ho];rw[h x (by simp)]
 | extract x i=>rw[ho] at h;simp only[Op.operands] at h;simp only[opT,ho];rw[h x (by simp)]
 | _=>simp only[opT,ho]
theorem qb0h {ρ ρ':Operand→AV} (o:Oper) (h:∀ x∈o.op.operands,ρ' x=ρ x):wrOf C ρ' o=wrOf C ρ o:=by
 have hall:o.op.operands.toList.map ρ'=o.op.operands.toList.map ρ:=List.map_congr_left fun x hx=>h x (by simpa using hx)
 unfold wrOf
 rw[hall]
 cases ho:o.op with
 | build t ps=>
  rw[ho] at h
  have:qv6 ρ' ps.toList=qv6 ρ ps.toList:=by
   unfold qv6
   have key:∀ l:List (Nat×Operand),(∀ p∈l,ρ' p.2=ρ p.2)→(l.all fun p=>(ρ' p.2).isVal)=l.all fun p=>(ρ p.2).isVal:=by
    intro l
    induction l with
    | nil=>intro _;rfl
    | cons a l ih=>intro hl;simp only[List.all_cons];rw[hl a z14,ih fun p hp=>hl p (z16 _ hp)]
   exact key _ fun p hp=>h p.2 (by
   simp only[Op.operands,List.mem_toArray]
   exact z37.2 ⟨p,hp,rfl⟩)
  simp only[this]
 | assign x=>rw[ho] at h;simp only[Op.operands] at h;simp only[h x (by simp)]
 | call c=>
  rw[ho] at h;simp only[Op.operands] at h
  have ha:c.args.toList.map ρ'=c.args.toList.map ρ:=List.map_congr_left fun x hx=>h x (by simp only[Call.operands,Array.mem_append];right;simpa using hx)
  simp only
  rw[ha]
  cases hc:c.callee with
  | builtin b=>cases b<;>rfl
  | value f=>
   have:ρ' f=ρ f:=h f (by simp[Call.operands,hc])
   simp only[this]
  | invoke r m=>rfl
 | _=>rfl
theorem qbzh {ρ ρ':Operand→AV} (o:Oper) (h:∀ x∈o.op.operands,ρ' x=ρ x):qrz C ρ' o=qrz C ρ o:=by
 unfold qrz
 cases ho:o.op with
 | call c=>
  rw[ho] at h;simp only[Op.operands] at h
  have ha:c.args.toList.map ρ'=c.args.toList.map ρ:=List.map_congr_left fun x hx=>h x (by simp only[Call.operands,Array.mem_append];right;simpa using hx)
  simp only
  rw[ha]
  cases hc:c.callee with
  | builtin b=>cases b<;>rfl
  | value f=>
   have:ρ' f=ρ f:=h f (by simp[Call.operands,hc])
   simp only[this]
  | invoke r m=>rfl
 | slice t x lo hi mx=>cases mx<;>rfl
 | _=>rfl
def qbz (F:List Nat) (S S':Rts):Prop:=∀ r,r∈F→S'.root r=S.root r
theorem qbz.sub {F G:List Nat} {S S':Rts} (h:qbz F S S') (hs:∀ r∈G,r∈F):qbz G S S':=fun r hr=>h r (hs r hr)
theorem qir {F:List Nat} {S S':Rts} (h:qbz F S S') {r:Nat} (hr:r∈F) (p:Path):S'.focus r p=S.focus r p:=by
 simp only[Rts.focus,h r hr]
theorem q6b {S S':Rts}:∀ (t:Ty) (a:AV),qbz a.roots S S'→rd S' t a=rd S t a
 | t,.pair u v,h=>by
  cases t with
  | pair a b=>
   simp only[rd]
   rw[q6b a u (h.sub fun r hr=>by simp[AV.roots,hr]),q6b b v (h.sub fun r hr=>by simp[AV.roots,hr])]
  | _=>simp[rd]
 | t,.brw r p s,h=>by
  cases t with
  | sl e=>simp only[rd];rw[qir h (by simp[AV.roots])]
  | _=>simp[rd]
 | t,.val t' x,h=>by cases t<;>simp only[rd]
 | t,.undef,h=>by cases t<;>simp[rd]
 | t,.skip,h=>by cases t<;>simp[rd]
 | t,.litB b,h=>by cases t<;>simp[rd]
 | t,.unit,h=>by cases t<;>simp[rd]
 | t,.nils,h=>by cases t<;>simp[rd]
 | t,.view _ _ _ _ _,h=>by cases t<;>simp[rd]
 | t,.addr _ _,h=>by cases t<;>simp[rd]
 | t,.raddr _ _,h=>by cases t<;>simp[rd]
 | t,.tup _,h=>by cases t<;>simp[rd]
 | t,.clo _ _,h=>by cases t<;>simp[rd]
 | t,.cloV _,h=>by cases t<;>simp[rd]
theorem q4a {S S':Rts}:∀ (a:AV),qbz a.roots S S'→qdl S' a=qdl S a
 | .pair (.addr r p) rest,h=>by
  simp only[qdl]
  rw[qir h (by simp[AV.roots]),q4a rest (h.sub fun r hr=>by simp[AV.roots,hr])]
 | .pair (.raddr t x) rest,h=>by simp only[qdl];rw[q4a rest (h.sub fun r hr=>by simp[AV.roots,hr])]
 | .pair (.val t x) rest,h=>by simp only[qdl];rw[q4a rest (h.sub fun r hr=>by simp[AV.roots,hr])]
 | .unit,h=>rfl
 | .pair .undef _,h=>rfl
 | .pair .skip _,h=>rfl
 | .pair (.litB _) _,h=>rfl
 | .pair .unit _,h=>rfl
 | .pair .nils _,h=>rfl
 | .pair (.brw _ _ _) _,h=>rfl
 | .pair (.view _ _ _ _ _) _,h=>rfl
 | .pair (.pair _ _) _,h=>rfl
 | .pair (.tup _) _,h=>rfl
 | .pair (.clo _ _) _,h=>rfl
 | .pair (.cloV _) _,h=>rfl
 | .undef,h=>rfl
 | .skip,h=>rfl
 | .litB _,h=>rfl
 | .nils,h=>rfl
 | .val _ _,h=>rfl
 | .brw _ _ _,h=>rfl
 | .view _ _ _ _ _,h=>rfl
 | .addr _ _,h=>rfl
 | .raddr _ _,h=>rfl
 | .tup _,h=>rfl
 | .clo _ _,h=>rfl
 | .cloV _,h=>rfl
theorem q6k {a:AV} {l:List AV} (h:a∈l):∀ r∈a.roots,r∈ql l:=by
 induction l with
 | nil=>simp at h
 | cons b l ih=>
  intro r hr
  simp only[ql,z18]
  rcases z15.1 h with rfl | h
  ·exact .inl hr
  ·exact .inr (ih h r hr)
theorem qwf (l l2:List AV):∀ r,r∈ql (l++l2)↔r∈ql l∨r∈ql l2:=by
 intro r
 induction l with
 | nil=>simp[ql]
 | cons a l ih=>simp only[z40,ql,z18,ih,or_assoc]
theorem qwz:∀ (a:AV),∀ r∈ql (qe2 a),r∈a.roots
 | .pair a b,r,h=>by
  simp only[qe2,ql,z18] at h
  simp only[AV.roots,z18]
  exact h.imp id (qwz b r)
 | .undef,r,h=>by simp[qe2,ql] at h
 | .skip,r,h=>by simp[qe2,ql] at h
 | .litB _,r,h=>by simp[qe2,ql] at h
 | .unit,r,h=>by simp[qe2,ql] at h
 | .nils,r,h=>by simp[qe2,ql] at h
 | .val _ _,r,h=>by simp[qe2,ql] at h
 | .brw _ _ _,r,h=>by simp[qe2,ql] at h
 | .view _ _ _ _ _,r,h=>by simp[qe2,ql] at h
 | .addr _ _,r,h=>by simp[qe2,ql] at h
 | .raddr _ _,r,h=>by simp[qe2,ql] at h
 | .tup _,r,h=>by simp[qe2,ql] at h
 | .clo _ _,r,h=>by simp[qe2,ql] at h
 | .cloV _,r,h=>by simp[qe2,ql] at h
theorem qgd {S S':Rts}:∀ (ks:List PK) (avs:List AV) (g:GDen ks) (o:ODen ks),qbz (ql avs) S S'→qcj S' ks avs g o=qcj S ks avs g o
 | [],[],_,_,_=>rfl
 | [],_::_,_,_,_=>rfl
 | k::ks,[],g,o,_=>by cases k<;>rfl
 | k::ks,a::avs,g,o,h=>by
  have h1:qbz a.roots S S':=h.sub fun r hr=>by simp[ql,hr]
  have h2:qbz (ql avs) S S':=h.sub fun r hr=>by simp[ql,hr]
  cases k with
  | val t=>simp only[qcj];rw[q6b t a h1,qgd ks avs g o h2]
  | own t m=>simp only[qcj];rw[qgd ks avs g.2 o h2]
  | mutp t m m'=>simp only[qcj];rw[qgd ks avs g o.2 h2]
  | mutv t m m'=>simp only[qcj];rw[qgd ks avs g o.2 h2]
  | rptr t=>
   cases a with
   | raddr t' x=>simp only[qcj];rw[qgd ks avs g o h2]
   | addr q p=>simp only[qcj];rw[qir h1 (by simp[AV.roots]),qgd ks avs g o h2]
   | _=>rfl
  | fn=>
   cases a with
   | clo f c=>simp only[qcj];rw[q4a c (h1.sub fun r hr=>by simpa [AV.roots] using hr),qgd ks avs g o h2]
   | cloV c=>simp only[qcj];rw[qgd ks avs g o h2]
   | _=>rfl
theorem qbg2 {S S':Rts}:∀ (ts:List Ty) (avs:List AV),qbz (ql avs) S S'→qxy S' ts avs=qxy S ts avs
 | [],[],_=>rfl
 | [],_::_,_=>rfl
 | _::_,[],_=>rfl
 | t::ts,a::avs,h=>by
  simp only[qxy]
  rw[q6b t a (h.sub fun r hr=>by simp[ql,hr]),qbg2 ts avs (h.sub fun r hr=>by simp[ql,hr])]
theorem qbgu {S S':Rts} (a:AV) (h:qbz a.roots S S'):qxq S' a=qxq S a:=by
 cases a with
 | brw r p s=>simp only[qxq];rw[qir h (by simp[AV.roots])]
 | val t x=>cases t<;>rfl
 | _=>rfl
end
end
end Go.V

namespace Go.V
noncomputable section
open Go
section
variable {C:Ctx} {D:Den C}
theorem qbr5 {S S':Rts} (t:Ty) (a:AV) (h:qbz a.roots S S'):qmn S' t a=qmn S t a:=by
 cases a with
 | addr r p=>simp only[qmn];rw[qir h (by simp[AV.roots])]
 | _=>rfl
theorem qbk0 {S S':Rts} (t:Ty) (a:AV) (f:Nat) (h:qbz a.roots S S'):qis S' t a f=qis S t a f:=by
 cases a with
 | addr r p=>simp only[qis];rw[qir h (by simp[AV.roots])]
 | _=>rfl
theorem qbrq {S S':Rts} (t:Ty) (a i:AV) (h:qbz a.roots S S'):qbea S' t a i=qbea S t a i:=by
 cases a with
 | brw r p s=>simp only[qbea];rw[qir h (by simp[AV.roots])]
 | val t x=>cases t<;>rfl
 | _=>rfl
def qk (T T':Tr (AV×Rts)) (S S':Rts):Prop:=∀ β v rt',T.dec β=some (v,rt')→rt'=S∧T'.dec β=some (v,S')
theorem qk.ret {v:AV} {S S':Rts}:qk (.ret (v,S)) (.ret (v,S')) S S':=by
 intro β v' rt' h
 simp only[Tr.dec,z4,z7] at h
 exact ⟨h.2.symm,by simp[Tr.dec,h.1]⟩
theorem qk.fail {T':Tr (AV×Rts)} {S S':Rts}:qk .fail T' S S':=by
 intro β v' rt' h;simp[Tr.dec] at h
theorem qk.br {c:Bool} {x y x' y':Tr (AV×Rts)} {S S':Rts} (h1:qk x x' S S') (h2:qk y y' S S'):qk (.br c x y) (.br c x' y') S S':=by
 intro β v rt' h
 cases c
 ·exact h2 β v rt' h
 ·exact h1 β v rt' h
theorem qk.nil {n:Nat} {b:Bool} {f:Bool→AV} {S S':Rts}:qk (.nil n b fun b=>.ret (f b,S)) (.nil n b fun b=>.ret (f b,S')) S S':=by
 intro β v rt' h
 simp only[Tr.dec,z4,z7] at h ⊢
 exact ⟨h.2.symm,h.1,trivial⟩
theorem qk.ofMap {α:Type} {x:Option α} {f:α→AV} {S S':Rts}:qk (.of (x.map fun a=>(f a,S))) (.of (x.map fun a=>(f a,S'))) S S':=by
 cases x with
 | none=>exact qk.fail
 | some a=>exact qk.ret
theorem qk.call {α:Type} {x:Option α} {f f':α→Tr (AV×Rts)} {S S':Rts} (h:∀ a,qk (f a) (f' a) S S'):qk (.call x f) (.call x f') S S':=by
 intro β v rt' hh
 cases x with
 | none=>simp[Tr.dec] at hh
 | some a=>exact h a β v rt' hh
theorem qq7 {S S':Rts}:∀ (ks:List PK) (avs:List AV),ks.all PK.plain=true→qbi S' ks avs=(qbi S ks avs).map fun z=>(z.1,S')
 | [],[],_=>rfl
 | [],_::_,_=>rfl
 | k::ks,[],_=>by cases k<;>rfl
 | k::ks,a::avs,h=>by
  simp only[List.all_cons,z9] at h
  cases k with
  | val t=>simp only[qbi];exact qq7 ks avs h.2
  | rptr t=>simp only[qbi];exact qq7 ks avs h.2
  | fn=>simp only[qbi];exact qq7 ks avs h.2
  | _=>simp[PK.plain] at h
theorem qon {S S':Rts}:∀ (ks:List PK) (avs:List AV),ks.all PK.plain=true→qbg S' ks avs=(qbg S ks avs).map fun z=>(z.1,S')
 | [],[],_=>rfl
 | [],_::_,_=>rfl
 | k::ks,[],_=>by cases k<;>rfl
 | k::ks,a::avs,h=>by
  simp only[List.all_cons,z9] at h
  cases k with
  | val t=>simp only[qbg];exact qon ks avs h.2
  | rptr t=>simp only[qbg];exact qon ks avs h.2
  | fn=>simp only[qbg];exact qon ks avs h.2
  | _=>simp[PK.plain] at h
theorem qbzv {S rt:Rts} {ks:List PK} {avs:List AV} {g:GDen ks} (hp:ks.all PK.plain=true) (h:qbi S ks avs=some (g,rt)):rt=S:=by
 have:=qq7 (S:=S) (S':=S) ks avs hp
 rw[h] at this
 simp only[z35,z4,z7,true_and] at this
 exact this
theorem qbxo {S rt:Rts} {ks:List PK} {avs:List AV} {g:ODen ks} (hp:ks.all PK.plain=true) (h:qbg S ks avs=some (g,rt)):rt=S:=by
 have:=qon (S:=S) (S':=S) ks avs hp
 rw[h] at this
 simp only[z35,z4,z7,true_and] at this
 exact this
theorem qbr4 {A A':Asks} {S S':Rts} (hl:S'.length=S.length) {d:Option Nat} {site:Nat} {t:Ty} {m:Mk} {x:t.den} (hs:m.still=true):qk (layT A S d site t m x false) (layT A' S' d site t m x false) S S':=by
 cases d with
 | none=>exact qk.ret
 | some d=>
  simp only[layT,hs,if_true,z34,if_false,hl]
  split
  ·exact qk.fail
  ·exact qk.ret
theorem qbg7:∀ (rs:List RK),rs.all (fun k=>!k.isPtr&&k.ms.still)=true→(qkr rs).still=true
 | [],_=>rfl
 | k::rs,h=>by
  simp only[List.all_cons,z9] at h
  simp only[qkr,Mk.still,z9]
  exact ⟨h.1.2,qbg7 rs h.2⟩
theorem qbui {A A':Asks} (hA:A'.sh=A.sh) {S S':Rts} (hl:S'.length=S.length) {d:Option Nat} {site:Nat}:∀ (rs:List RK) (r:RDen rs),rs.all (fun k=>!k.isPtr&&k.ms.still)=true→qk (qd3 A S d site rs r) (qd3 A' S' d site rs r) S S'
 | [],r,_=>qk.ret
 | [.val t m],r,h=>by
  simp only[List.all_cons,z9] at h
  simp only[qd3,hA]
  split
  ·split
   ·exact qk.ret
   ·exact qk.fail
  ·split
   ·exact qbr4 hl h.1.2
   ·exact qk.fail
 | [.ptr t m],r,h=>by simp[RK.isPtr] at h
 | q1::q2::rs,r,h=>by
  have e1:∀ (A:Asks) (S:Rts),qd3 A S d site (q1::q2::rs) r=qse A S d site (q1::q2::rs) r:=by intro A S;cases q1<;>rfl
  rw[e1,e1]
  unfold qse
  split
  ·cases d with
   | none=>exact qk.ret
   | some d=>
    have hs:=qbg7 _ h
    have e2:∀ (A:Asks) (S:Rts),layT A S (some d) site (qc5 (q1::q2::rs)) (qkr (q1::q2::rs)) (resX (q1::q2::rs) r) false =
      if (!Nat.blt d S.length||!Nat.blt site 1048576)=true then .fail else .ret (.val (qc5 (q1::q2::rs)) (resX (q1::q2::rs) r),S):=by
     intro A S;simp only[layT,hs,if_true,z34,if_false]
    simp only[e2,hl]
    by_cases hc:(!Nat.blt d S.length||!Nat.blt site 1048576)=true
    ·simp only[z6 hc];exact qk.fail
    ·simp only[z5 hc];exact qk.ret
  ·exact qk.fail
theorem qbya {A A':Asks} (hA:A'.sh=A.sh) {S S':Rts} (hl:S'.length=S.length) {d:Option Nat} {site:Nat} {g:FuncId} {avs:List AV} (hq:qbif (C.sig g)=true) (hr:qbz (ql avs) S S') :
  qk (ql9 C D A S d site g avs) (ql9 C D A' S' d site g avs) S S':=by
 unfold qbif at hq
 simp only[z9] at hq
 unfold ql9
 rw[qq7 (S:=S) (S':=S') _ _ hq.1]
 cases h1:qbi S (C.sig g).params avs with
 | none=>exact qk.fail
 | some z=>
  obtain ⟨gd,S1⟩:=z
  obtain rfl:=qbzv hq.1 h1
  simp only[z35]
  rw[qon (S:=S1) (S':=S') _ _ hq.1]
  cases h2:qbg S1 (C.sig g).params avs with
  | none=>exact qk.fail
  | some z=>
   obtain ⟨od,S2⟩:=z
   obtain rfl:=qbxo hq.1 h2
   simp only[z35]
   rw[qgd _ _ _ _ hr]
   cases h3:qcj S2 (C.sig g).params avs gd od with
   | none=>exact qk.fail
   | some aa=>
    simp only
    split
    ·refine qk.call fun r=>?_
     have hn:(C.sig g).params.all (fun k=>!k.lends)=true:=by
      rw[List.all_eq_true] at hq ⊢
      intro k hk
      have:=hq.1 k hk
      cases k<;>simp_all [PK.plain,PK.lends]
     simp only[hn,if_true]
     exact qbui hA hl _ _ hq.2
    ·exact qk.fail
theorem Ty.flat_top:∀ (t:Ty),t.flat=true→(Mk.top t).still=true∧(Mk.topS t).still=true
 | .sl _,h=>by simp[Ty.flat] at h
 | .pair a b,h=>by
  simp only[Ty.flat,z9] at h
  have ha:=Ty.flat_top a h.1
  have hb:=Ty.flat_top b h.2
  cases a<;>simp_all [Mk.top,Mk.topS,Mk.still,Ty.flat]
 | .unit,_=>⟨rfl,rfl⟩
 | .int _,_=>⟨rfl,rfl⟩
 | .bool,_=>⟨rfl,rfl⟩
 | .str,_=>⟨rfl,rfl⟩
theorem qbyg {t:Ty} (h:t.flat=true) (hint:Bool):(Mk.bld hint t).still=true:=by
 unfold Mk.bld
 cases hint
 ·exact (Ty.flat_top t h).1
 ·exact (Ty.flat_top t h).2
theorem qbeu:∀ (t:Ty) (m:Mk) (x:t.den) (p:Path) (t2:Ty) (y:t2.den) (m':Mk) (x':t.den),m.still=true→put t m x p t2 .no y=some (m',x')→m'.still=true
 | t,m,x,[],t2,y,m',x',_,h=>by
  unfold put at h
  simp only[z8,z4,z7] at h
  obtain ⟨_,_,rfl,_⟩:=h
  rfl
 | .pair a b,m,x,.fst::p,t2,y,m',x',hm,h=>by
  simp only[put,z8,z4,z7] at h
  obtain ⟨⟨r1,r2⟩,h1,rfl,_⟩:=h
  have hf:m.fst.still=true∧m.snd.still=true:=by cases m<;>simp_all [Mk.fst,Mk.snd,Mk.still]
  have:=qbeu a m.fst x.1 p t2 y _ _ hf.1 h1
  simp only[Mk.still,z9]
  exact ⟨this,hf.2⟩
 | .pair a b,m,x,.snd::p,t2,y,m',x',hm,h=>by
  simp only[put,z8,z4,z7] at h
  obtain ⟨⟨r1,r2⟩,h1,rfl,_⟩:=h
  have hf:m.fst.still=true∧m.snd.still=true:=by cases m<;>simp_all [Mk.fst,Mk.snd,Mk.still]
  have:=qbeu b m.snd x.2 p t2 y _ _ hf.2 h1
  simp only[Mk.still,z9]
  exact ⟨hf.1,this⟩
 | .sl t,m,xs,.idx i s::p,t2,y,m',x',hm,h=>by
  cases m<;>simp_all [put,Mk.still]
 | .sl t,m,xs,.fst::p,t2,y,m',x',hm,h=>by simp[put] at h
 | .sl t,m,xs,.snd::p,t2,y,m',x',hm,h=>by simp[put] at h
 | .pair a b,m,xs,.idx i s::p,t2,y,m',x',hm,h=>by simp[put] at h
 | .unit,m,xs,_::p,t2,y,m',x',hm,h=>by simp[put] at h
 | .int _,m,xs,_::p,t2,y,m',x',hm,h=>by simp[put] at h
 | .bool,m,xs,_::p,t2,y,m',x',hm,h=>by simp[put] at h
 | .str,m,xs,_::p,t2,y,m',x',hm,h=>by simp[put] at h
theorem qb3w (t:Ty) {v:AV} (h:v.isVal=true):∃ r:Option t.den,∀ S:Rts,tk S t v=r.map fun x=>(Mk.no,x,S):=by
 cases v with
 | val t' x=>
  refine ⟨qbq t' t x,fun S=>?_⟩
  unfold tk
  cases qbq t' t x<;>rfl
 | litB b=>
  cases t with
  | bool=>exact ⟨some b,fun S=>rfl⟩
  | _=>exact ⟨none,fun S=>rfl⟩
 | _=>simp[AV.isVal] at h
theorem qbof (t:Ty):∀ (l:List (Nat×AV)) (acc:Mk×t.den),acc.1.still=true→l.all (fun p=>p.2.isVal)=true→
  ∃ r:Option (Mk×t.den),(∀ S:Rts,qcq S t acc l=r.map fun z=>(z.1,z.2,S))∧∀ z,r=some z→z.1.still=true
 | [],acc,ha,_=>⟨some acc,fun S=>rfl,fun z hz=>by cases hz;exact ha⟩
 | (i,v)::l,acc,ha,h=>by
  simp only[List.all_cons,z9] at h
  cases hf:focus t acc.1 acc.2 (q9 i) with
  | none=>exact ⟨none,fun S=>by simp only[qcq,hf];rfl,fun z hz=>by cases hz⟩
  | some d=>
   obtain ⟨r,hr⟩:=qb3w d.ty h.1
   cases r with
   | none=>exact ⟨none,fun S=>by simp only[qcq,hf,z30,hr];rfl,fun z hz=>by cases hz⟩
   | some x=>
    cases hp:put t acc.1 acc.2 (q9 i) d.ty .no x with
    | none=>exact ⟨none,fun S=>by simp only[qcq,hf,z30,hr,z35,hp];rfl,fun z hz=>by cases hz⟩
    | some q=>
     obtain ⟨q1,q2⟩:=q
     obtain ⟨r2,h1,h2⟩:=qbof t l (q1,q2) (qbeu _ _ _ _ _ _ _ _ ha hp) h.2
     exact ⟨r2,fun S=>by simp only[qcq,hf,z30,hr,z35,hp];exact h1 S,h2⟩
theorem qbx7 {A A':Asks} {ρ:Operand→AV} {S S':Rts} {site:Nat} {hint:Bool} {o:Oper} (hl:S'.length=S.length) (hw:wrOf C ρ o=none)
    (hr:qbz (if qho o then [] else ql (o.op.operands.toList.map ρ)) S S'):qk (opT C D A ρ S site hint o) (opT C D A' ρ S' site hint o) S S':=by
  have ha:∀ {x:Operand},qho o=false→x∈o.op.operands→qbz (ρ x).roots S S':=by
    intro x hb hx
    rw[hb] at hr
    exact hr.sub fun r h=>q6k (z37.2 ⟨x,by simpa using hx,rfl⟩) r h
  cases ho:o.op with
  | move x=>simp only[opT,ho];exact qk.ret
  | pick c a b=>
    simp only[opT,ho]
    split
    · exact qk.br qk.ret qk.ret
    · exact qk.fail
  | unOp op t x=>
    simp only[opT,ho]
    split
    · exact qk.ret
    · exact qk.ret
    · exact qk.fail
  | field t x f=>
    simp only[opT,ho]
    split
    · split
      · split
        · exact qk.ret
        · exact qk.fail
      · exact qk.fail
    · exact qk.fail
  | extract x i=>simp only[opT,ho];exact qk.ofMap (f:=fun v=>v)
  | makeFunc f first caps=>
    cases f with
    | func f=>
      simp only[opT,ho]
      split
      · exact qk.ret
      · exact qk.fail
    | _=>simp only[opT,ho];exact qk.fail
  | load t x=>
    have:=ha (x:=x) (by unfold qho;rw[ho]) (by rw[ho];simp[Op.operands])
    simp only[opT,ho]
    rw[qbr5 _ _ this]
    split
    · exact qk.ofMap (f:=fun v=>v)
    · exact qk.fail
  | nilCheck x=>
    have:=ha (x:=x) (by unfold qho;rw[ho]) (by rw[ho];simp[Op.operands])
    simp only[opT,ho]
    cases hv:ρ x with
    | addr r p=>
      rw[hv] at this
      simp only
      rw[qir this (by simp[AV.roots])]
      cases S.focus r p with
      | none=>exact qk.fail
      | some d=>exact qk.ret
    | raddr t y=>exact qk.ret
    | clo f c=>exact qk.ret
    | _=>exact qk.fail
  | fieldAddr s x f=>
    have:=ha (x:=x) (by unfold qho;rw[ho]) (by rw[ho];simp[Op.operands])
    simp only[opT,ho]
    rw[qbk0 _ _ _ this]
    exact qk.ofMap (f:=fun v=>v)
  | indexAddr t x i=>
    have:=ha (x:=x) (by unfold qho;rw[ho]) (by rw[ho];simp[Op.operands])
    simp only[opT,ho]
    rw[qbrq _ _ _ this]
    split
    · exact qk.br qk.ret qk.fail
    · exact qk.fail
  | index t x i=>
    simp only[opT,ho]
    split
    · exact qk.br qk.ret qk.fail
    · exact qk.fail
  | convert s d x=>
    have:=ha (x:=x) (by unfold qho;rw[ho]) (by rw[ho];simp[Op.operands])
    simp only[opT,ho]
    split
    · exact qk.ret
    · exact qk.ret
    · rw[q6b _ _ this]
      split
      · exact qk.ret
      · exact qk.fail
    · exact qk.fail
  | binOp op t x y t2=>
    have:=ha (x:=x) (by unfold qho;rw[ho]) (by rw[ho];simp[Op.operands])
    simp only[opT,ho]
    rw[qbgu _ this]
    split
    · split
      · exact qk.nil (f:=fun b=>.val .bool b)
      · exact qk.nil (f:=fun b=>.val .bool b)
      · exact qk.fail
    · split
      · exact qk.ret
      · exact qk.br qk.ret qk.fail
      · exact qk.br qk.fail qk.ret
      · exact qk.fail
  | assign x=>
    simp only[wrOf,ho] at hw
    simp only[opT,ho]
    cases hv:ρ x with
    | brw r p s=>rw[hv] at hw;simp at hw
    | pair a b=>rw[hv] at hw;simp at hw
    | _=>exact qk.ret
  | build t parts=>
    simp only[wrOf,ho] at hw
    split at hw
    · rename_i hc
      simp only[z9] at hc
      simp only[opT,ho]
      split
      · obtain ⟨r,h1,h2⟩:=qbof (C.ty t) (parts.toList.map fun p=>(p.1,ρ p.2)) (Mk.bld hint (C.ty t),(C.ty t).zero) (qbyg hc.1 hint) (by
          have:=hc.2
          unfold qv6 at this
          simpa [List.all_map] using this)
        rw[h1 S,h1 S']
        cases r with
        | none=>exact qk.fail
        | some z=>exact qbr4 hl (h2 z rfl)
      · exact qk.fail
    · simp at hw
  | call c=>
    have hb:qho o=false:=by unfold qho;rw[ho]
    cases hc:c.callee with
    | builtin b=>
      cases b with
      | len=>
        simp only[opT,ho,hc]
        split
        · exact qk.ret
        · rename_i x _ _ _ hargs _
          obtain ⟨u,hu1,hu2⟩:∃ u,u∈c.args.toList∧ρ u=x:=by
            have:x∈c.args.toList.map ρ:=by rw[hargs];simp
            simpa using this
          have:=ha (x:=u) hb (by rw[ho];simp only[Op.operands,Call.operands,Array.mem_append];right;simpa using hu1)
          rw[hu2] at this
          rw[qbgu _ this]
          exact qk.ofMap (f:=fun n=>.val (.int .i64) n)
        all_goals first | (exfalso;contradiction) | exact qk.fail
      | min=>
        simp only[opT,ho,hc]
        split
        all_goals first
          | (exfalso;contradiction)
          | exact qk.fail
          | (split
             · split
               · exact qk.ret
               · exact qk.fail
             · exact qk.fail)
      | max=>
        simp only[opT,ho,hc]
        split
        all_goals first
          | (exfalso;contradiction)
          | exact qk.fail
          | (split
             · split
               · exact qk.ret
               · exact qk.fail
             · exact qk.fail)
      | _=>simp[wrOf,ho,hc] at hw
    | value f=>
      have hf:=ha (x:=f) hb (by rw[ho];simp[Op.operands,Call.operands,hc])
      have hargs:qbz (ql (c.args.toList.map ρ)) S S':=by
        intro r hr'
        have key:∀ (l:List Operand),(∀ x∈l,qbz (ρ x).roots S S')→r∈ql (l.map ρ)→S'.root r=S.root r:=by
          intro l
          induction l with
          | nil=>intro _ h;simp[ql] at h
          | cons x l ih=>
            intro hx h
            simp only[z28,ql,z18] at h
            rcases h with h | h
            · exact hx x z14 r h
            · exact ih (fun y hy=>hx y (z16 _ hy)) h
        exact key c.args.toList (fun x hx=>ha hb (by rw[ho];simp only[Op.operands,Call.operands,Array.mem_append];right;simpa using hx)) hr'
      simp only[opT,ho,hc]
      simp only[wrOf,ho,hc] at hw
      cases hv:ρ f with
      | clo g caps=>
        rw[hv] at hw hf
        simp only at hw ⊢
        split at hw
        · simp at hw
        rename_i hns
        simp only[q8b,z5 hns]
        split at hw
        · rename_i hq
          refine qbya (A:={ A with sh:=hint }) (A':={ A' with sh:=hint }) rfl hl hq ?_
          intro r hr'
          rcases (qwf _ _ r).1 hr' with h | h
          · exact hargs r h
          · exact hf r (by simp only[AV.roots];exact qwz _ r h)
        · simp at hw
      | cloV cl=>
        simp only
        rw[qbg2 _ _ hargs]
        split
        · split
          · exact qk.call fun x=>qk.ret
          · exact qk.fail
        · exact qk.fail
      | _=>exact qk.fail
    | invoke r m=>simp only[opT,ho,hc];exact qk.fail
  | _=>simp[wrOf,ho] at hw
end
end
end Go.V

namespace Go.V
open Go
structure Frm (W:List Nat) (S S':Rts):Prop where
 len:S'.length=S.length
 root:∀ r,r∉W→S'.root r=S.root r
theorem Frm.refl (W:List Nat) (S:Rts):Frm W S S:=⟨rfl,fun _ _=>rfl⟩
theorem Frm.trans {W:List Nat} {a b c:Rts} (h:Frm W a b) (k:Frm W b c):Frm W a c:=⟨k.len.trans h.len,fun r hr=>(k.root r hr).trans (h.root r hr)⟩
theorem Frm.mono {W W':List Nat} {a b:Rts} (h:Frm W a b) (hs:∀ r∈W,r∈W'):Frm W' a b:=⟨h.len,fun r hr=>h.root r fun hh=>hr (hs r hh)⟩
theorem Frm.set (S:Rts) (q:Nat) (x:Option Root):Frm [q] S (S.setRoot q x):=by
 refine ⟨by simp[Rts.setRoot_eq],fun r hr=>?_⟩
 simp only[z23] at hr
 simp only[Rts.root_eq,Rts.setRoot_eq,List.getD,List.getElem?_set]
 rw[z5 (fun h=>hr h.symm)]
theorem qmj:∀ (t:Ty) (a:AV) {S S':Rts} {m:Mk} {x:t.den},tk S t a=some (m,x,S')→Frm a.roots S S'
 | t,.val t' y,S,S',m,x,h=>by
  have:(qbq t' t y).bind (fun x=>some (Mk.no,x,S))=some (m,x,S'):=by cases t<;>simpa only [tk] using h
  simp only[z8,z4,z7] at this
  obtain ⟨_,_,_,_,rfl⟩:=this
  exact Frm.refl _ _
 | t,.litB b,S,S',m,x,h=>by
  cases t<;>simp[tk] at h
  obtain ⟨_,_,rfl⟩:=h
  exact Frm.refl _ _
 | t,.unit,S,S',m,x,h=>by
  cases t<;>simp[tk] at h
  obtain ⟨_,rfl⟩:=h
  exact Frm.refl _ _
 | t,.nils,S,S',m,x,h=>by
  cases t<;>simp[tk] at h
  obtain ⟨_,_,rfl⟩:=h
  exact Frm.refl _ _
 | t,.brw r p s,S,S',m,x,h=>by
  cases t with
  | sl e=>
   simp only[tk] at h
   split at h
   ·split at h
    ·split at h
     ·simp only[z8,z4,z7] at h
      obtain ⟨_,_,_,_,_,_,rfl⟩:=h
      exact Frm.set _ _ _
     ·simp at h
    ·simp at h
   ·simp at h
  | _=>simp[tk] at h
 | t,.pair u v,S,S',m,x,h=>by
  cases t with
  | pair a b=>
   simp only[tk,z8,z4,z7] at h
   obtain ⟨⟨m1,x1,S1⟩,h1,⟨m2,x2,S2⟩,h2,_,_,rfl⟩:=h
   exact ((qmj a u h1).mono fun r hr=>by simp[AV.roots,hr]).trans ((qmj b v h2).mono fun r hr=>by simp[AV.roots,hr])
  | _=>simp[tk] at h
 | t,.undef,S,S',m,x,h=>by cases t<;>simp[tk] at h
 | t,.skip,S,S',m,x,h=>by cases t<;>simp[tk] at h
 | t,.view _ _ _ _ _,S,S',m,x,h=>by cases t<;>simp[tk] at h
 | t,.addr _ _,S,S',m,x,h=>by cases t<;>simp[tk] at h
 | t,.raddr _ _,S,S',m,x,h=>by cases t<;>simp[tk] at h
 | t,.tup _,S,S',m,x,h=>by cases t<;>simp[tk] at h
 | t,.clo _ _,S,S',m,x,h=>by cases t<;>simp[tk] at h
 | t,.cloV _,S,S',m,x,h=>by cases t<;>simp[tk] at h
theorem qb2s (t:Ty) (a:AV) {S S':Rts} {hint:Bool} {m:Mk} {x:t.den} (h:tkS S hint t a=some (m,x,S')):Frm a.roots S S':=by
 simp only[tkS,z8] at h
 obtain ⟨⟨m1,x1,S1⟩,h1,h⟩:=h
 split at h
 ·split at h
  ·simp only[z4,z7] at h
   obtain ⟨rfl,rfl,rfl⟩:=h
   exact qmj t a h1
  ·simp at h
 ·simp only[z4,z7] at h
  obtain ⟨rfl,rfl,rfl⟩:=h
  exact qmj t a h1
theorem qk3 {A:Asks} {S S':Rts} {d:Option Nat} {site:Nat} {t:Ty} {m:Mk} {x:t.den} {mem:Bool} {β:Bool} {v:AV} (h:(layT A S d site t m x mem).dec β=some (v,S')):Frm d.toList S S':=by
 cases d with
 | none=>
  simp only[layT,Tr.dec,z4,z7] at h
  rw[←h.2];exact Frm.refl _ _
 | some d=>
  simp only[layT] at h
  split at h
  ·simp[Tr.dec] at h
  ·split at h
   ·split at h
    ·simp only[Tr.dec,z4,z7] at h
     rw[←h.2];exact Frm.set _ _ _
    ·simp[Tr.dec] at h
   ·split at h
    ·simp only[Tr.dec,z4,z7] at h
     rw[←h.2];exact Frm.refl _ _
    ·split at h
     ·simp only[Tr.dec,z4,z7] at h
      rw[←h.2];exact Frm.set _ _ _
     ·simp[Tr.dec] at h
theorem qbor {T:Ty}:∀ (l:List (Nat×AV)) (acc:Mk×T.den) {S S':Rts} {m:Mk} {x:T.den},qcq S T acc l=some (m,x,S')→Frm (ql (l.map (·.2))) S S'
 | [],acc,S,S',m,x,h=>by
  simp only[qcq,z4,z7] at h
  obtain ⟨_,_,rfl⟩:=h
  exact Frm.refl _ _
 | (i,v)::l,acc,S,S',m,x,h=>by
  simp only[qcq,z8] at h
  obtain ⟨d,_,⟨m1,x1,S1⟩,h1,r,_,h2⟩:=h
  exact ((qmj _ v h1).mono fun r hr=>by simp[ql,hr]).trans ((qbor l _ h2).mono fun r hr=>by simp[ql,hr])
theorem qbv3 {e:Ty}:∀ (l:List (Nat×AV)) (acc:Mk×List e.den) {S S':Rts} {m:Mk} {x:List e.den},qhl S e acc l=some (m,x,S')→Frm (ql (l.map (·.2))) S S'
 | [],acc,S,S',m,x,h=>by
  simp only[qhl,z4,z7] at h
  obtain ⟨_,_,rfl⟩:=h
  exact Frm.refl _ _
 | (i,v)::l,acc,S,S',m,x,h=>by
  simp only[qhl] at h
  split at h
  ·simp only[z8] at h
   obtain ⟨⟨m1,x1,S1⟩,h1,h2⟩:=h
   exact ((qmj _ v h1).mono fun r hr=>by simp[ql,hr]).trans ((qbv3 l _ h2).mono fun r hr=>by simp[ql,hr])
  ·simp at h
theorem qzd:∀ (ks:List PK) (avs:List AV) {S S':Rts} {g:GDen ks},qbi S ks avs=some (g,S')→Frm (qd5 ks avs) S S'
 | [],[],S,S',g,h=>by
  simp only[qbi,z4,z7] at h
  rw[h.2];exact Frm.refl _ _
 | [],_::_,S,S',g,h=>by simp[qbi] at h
 | k::ks,[],S,S',g,h=>by cases k<;>simp[qbi] at h
 | k::ks,a::avs,S,S',g,h=>by
  have hsub:∀ r∈qd5 ks avs,r∈qd5 (k::ks) (a::avs):=by intro r hr;simp only[qd5];split<;>simp[hr]
  cases k with
  | own t m=>
   simp only[qbi,z8] at h
   obtain ⟨⟨m1,x1,S1⟩,h1,h⟩:=h
   split at h
   ·simp only[z8,z4,z7] at h
    obtain ⟨⟨g2,S2⟩,h2,_,rfl⟩:=h
    exact ((qmj _ a h1).mono fun r hr=>by simp[qd5,PK.plain,hr]).trans ((qzd ks avs h2).mono hsub)
   ·simp at h
  | val t=>exact (qzd ks avs (by simpa only [qbi] using h)).mono hsub
  | mutp t m m'=>exact (qzd ks avs (by simpa only [qbi] using h)).mono hsub
  | mutv t m m'=>exact (qzd ks avs (by simpa only [qbi] using h)).mono hsub
  | rptr t=>exact (qzd ks avs (by simpa only [qbi] using h)).mono hsub
  | fn=>exact (qzd ks avs (by simpa only [qbi] using h)).mono hsub
theorem q8n:∀ (a:AV) {r:Nat} {p:Path},qcm a=some (r,p)→r∈a.roots
 | .brw r' p' s,r,p,h=>by simp only[qcm,z4,z7] at h;simp[AV.roots,h.1]
 | .pair a b,r,p,h=>by
  simp only[qcm] at h
  simp only[AV.roots,z18]
  split at h
  ·rename_i r1 p1 h1
   simp only[z4,z7] at h
   obtain ⟨rfl,_⟩:=h
   exact .inl (q8n a h1)
  ·split at h
   ·rename_i r1 p1 h1
    simp only[z4,z7] at h
    obtain ⟨rfl,_⟩:=h
    exact .inr (q8n b h1)
   ·simp at h
 | .undef,_,_,h=>by simp[qcm] at h
 | .skip,_,_,h=>by simp[qcm] at h
 | .litB _,_,_,h=>by simp[qcm] at h
 | .unit,_,_,h=>by simp[qcm] at h
 | .nils,_,_,h=>by simp[qcm] at h
 | .val _ _,_,_,h=>by simp[qcm] at h
 | .view _ _ _ _ _,_,_,h=>by simp[qcm] at h
 | .addr _ _,_,_,h=>by simp[qcm] at h
 | .raddr _ _,_,_,h=>by simp[qcm] at h
 | .tup _,_,_,h=>by simp[qcm] at h
 | .clo _ _,_,_,h=>by simp[qcm] at h
 | .cloV _,_,_,h=>by simp[qcm] at h
theorem qb06 {S S':Rts} {site:Nat} {t:Ty} {a:AV} {m:Mk} {o:t.den} (h:qbeq S site t a m o=some S'):Frm a.roots S S':=by
 unfold qbeq at h
 split at h
 ·simp only[z4] at h;rw[h];exact Frm.refl _ _
 ·rename_i r p hp
  split at h
  ·simp only[z8] at h
   obtain ⟨d,_,h⟩:=h
   split at h
   ·simp only[z8] at h
    obtain ⟨y,_,h⟩:=h
    split at h
    ·simp at h
    ·simp only[z8,z4] at h
     obtain ⟨_,_,rfl⟩:=h
     exact (Frm.set _ _ _).mono fun r' hr=>by simp only[z23] at hr;subst hr;exact q8n a hp
   ·simp at h
  ·simp at h
theorem qzg {site:Nat}:∀ (ks:List PK) (avs:List AV) (o:ODen ks) {S S':Rts},qbm S site ks avs o=some S'→Frm (qd5 ks avs) S S'
 | [],[],o,S,S',h=>by
  simp only[qbm,z4] at h
  rw[h];exact Frm.refl _ _
 | [],_::_,o,S,S',h=>by simp[qbm] at h
 | k::ks,[],o,S,S',h=>by cases k<;>simp[qbm] at h
 | k::ks,a::avs,o,S,S',h=>by
  have hsub:∀ r∈qd5 ks avs,r∈qd5 (k::ks) (a::avs):=by intro r hr;simp only[qd5];split<;>simp[hr]
  cases k with
  | mutp t m m'=>
   cases a with
   | addr q p=>
    cases p with
    | nil=>
     simp only[qbm] at h
     split at h
     ·exact ((Frm.set _ _ _).mono fun r hr=>by simp only[z23] at hr;subst hr;simp[qd5,PK.plain,AV.roots]).trans ((qzg ks avs o.2 h).mono hsub)
     ·simp at h
    | cons _ _=>simp[qbm] at h
   | _=>simp[qbm] at h
  | mutv t m m'=>
   simp only[qbm,z8] at h
   obtain ⟨S1,h1,h2⟩:=h
   exact ((qb06 h1).mono fun r hr=>by simp[qd5,PK.plain,hr]).trans ((qzg ks avs o.2 h2).mono hsub)
  | val t=>exact (qzg ks avs o (by simpa only [qbm] using h)).mono hsub
  | own t m=>exact (qzg ks avs o (by simpa only [qbm] using h)).mono hsub
  | rptr t=>exact (qzg ks avs o (by simpa only [qbm] using h)).mono hsub
  | fn=>exact (qzg ks avs o (by simpa only [qbm] using h)).mono hsub
theorem qbu9 {A:Asks} {S S':Rts} {d:Option Nat} {site:Nat}:∀ (rs:List RK) (r:RDen rs) {β:Bool} {v:AV},(qd3 A S d site rs r).dec β=some (v,S')→Frm d.toList S S'
 | [],r,β,v,h=>by
  simp only[qd3,Tr.dec,z4,z7] at h
  rw[←h.2];exact Frm.refl _ _
 | [.val t m],r,β,v,h=>by
  simp only[qd3] at h
  split at h
  ·split at h
   ·simp only[Tr.dec,z4,z7] at h
    rw[←h.2];exact Frm.refl _ _
   ·simp[Tr.dec] at h
  ·split at h
   ·exact qk3 h
   ·simp[Tr.dec] at h
 | [.ptr t m],r,β,v,h=>by
  simp only[qd3] at h
  split at h
  ·exact qk3 h
  ·simp[Tr.dec] at h
 | q1::q2::rs,r,β,v,h=>by
  have h':(qse A S d site (q1::q2::rs) r).dec β=some (v,S'):=by cases q1<;>simpa only [qd3] using h
  unfold qse at h'
  split at h'
  ·cases d with
   | none=>
    simp only[Tr.dec,z4,z7] at h'
    rw[←h'.2];exact Frm.refl _ _
   | some d=>
    simp only at h'
    cases hl:layT A S (some d) site (qc5 (q1::q2::rs)) (qkr (q1::q2::rs)) (resX (q1::q2::rs) r) false with
    | ret z=>
     obtain ⟨v1,S1⟩:=z
     rw[hl] at h'
     simp only[Tr.dec,z4,z7] at h'
     rw[←h'.2]
     exact qk3 (β:=true) (by rw[hl];rfl)
    | _=>rw[hl] at h';simp[Tr.dec] at h'
  ·simp[Tr.dec] at h'
section
variable {C:Ctx} {D:Den C}
theorem qbi6 {A:Asks} {S S':Rts} {d:Option Nat} {site:Nat} {g:FuncId} {avs:List AV} {β:Bool} {v:AV} (h:(ql9 C D A S d site g avs).dec β=some (v,S')):Frm (d.toList++qd5 (C.sig g).params avs) S S':=by
 unfold ql9 at h
 split at h
 ·simp[Tr.dec] at h
 ·rename_i gd S1 h1
  split at h
  ·simp[Tr.dec] at h
  ·rename_i od S2 h2
   split at h
   ·simp[Tr.dec] at h
   ·split at h
    ·simp only[Tr.dec,z8] at h
     obtain ⟨r,_,h⟩:=h
     have f1:Frm (d.toList++qd5 (C.sig g).params avs) S S1:=(qzd _ _ h1).mono fun r hr=>by simp[hr]
     split at h
     ·exact f1.trans ((qbu9 _ _ h).mono fun r hr=>by simp[hr])
     ·split at h
      ·cases hlo:qkz (C.sig g).params avs with
       | false=>rw[hlo] at h;simp[Tr.dec] at h
       | true=>
       rw[hlo] at h
       simp only[Tr.dec] at h
       split at h
       ·simp[Tr.dec] at h
       ·rename_i S3 h3
        exact f1.trans (((qzg _ _ _ h3).mono fun r hr=>by simp[hr]).trans ((qbu9 _ _ h).mono fun r hr=>by simp[hr]))
      ·simp[Tr.dec] at h
    ·simp[Tr.dec] at h
theorem q4f:∀ (ks:List PK) (avs:List AV),∀ r∈qd5 ks avs,r∈ql avs
 | [],_,r,h=>by simp[qd5] at h
 | k::ks,[],r,h=>by simp[qd5] at h
 | k::ks,a::avs,r,h=>by
  simp only[qd5] at h
  simp only[ql,z18]
  split at h
  ·exact .inr (q4f ks avs r h)
  ·rcases z18.1 h with h | h
   ·exact .inl h
   ·exact .inr (q4f ks avs r h)
theorem q2k:∀ (ks:List PK) (avs:List AV) {S:Rts} {z:List AV×Rts},qb6 S ks avs=some z→Frm (ql avs) S z.2∧qd5 ks z.1=qd5 ks avs
 | [],[],S,z,h=>by
  simp only[qb6,z4] at h
  subst h;exact ⟨Frm.refl _ _,rfl⟩
 | [],_::_,S,z,h=>by simp[qb6] at h
 | k::ks,[],S,z,h=>by cases k<;>simp[qb6] at h
 | k::ks,a::avs,S,z,h=>by
  have plain:(qb6 S ks avs).map (fun z=>(a::z.1,z.2))=some z→Frm (ql (a::avs)) S z.2∧qd5 (k::ks) z.1=qd5 (k::ks) (a::avs):=by
   intro h
   simp only[z29] at h
   obtain ⟨z',h1,rfl⟩:=h
   obtain ⟨f,e⟩:=q2k ks avs h1
   exact ⟨f.mono fun r hr=>by simp[ql,hr],by simp only[qd5,e]⟩
  cases k with
  | val t=>
   simp only[qb6] at h
   split at h
   ·exact plain h
   ·split at h
    ·rename_i m y S1 htk
     split at h
     ·simp only[z29] at h
      obtain ⟨z',h1,rfl⟩:=h
      obtain ⟨f,e⟩:=q2k ks avs h1
      exact ⟨((qmj _ _ htk).mono fun r hr=>by simp[ql,hr]).trans (f.mono fun r hr=>by simp[ql,hr]),by simp only[qd5,PK.plain,if_true,e]⟩
     ·simp at h
    ·simp at h
  | _=>exact plain (by simpa only [qb6] using h)
theorem qbyj {A:Asks} {S S':Rts} {d:Option Nat} {site:Nat} {g:FuncId} {avs:List AV} {β:Bool} {v:AV} (h:(q8b C D A S d site g avs).dec β=some (v,S')):Frm (d.toList++ql avs) S S':=by
 unfold q8b at h
 split at h
 ·split at h
  ·rename_i z hz
   obtain ⟨f,e⟩:=q2k _ _ hz
   have f2:=qbi6 h
   rw[e] at f2
   exact (f.mono fun r hr=>by simp[hr]).trans (f2.mono fun r hr=>by
    rcases z18.1 hr with hr | hr
    ·simp[hr]
    ·exact z18.2 (.inr (q4f _ _ r hr)))
  ·simp[Tr.dec] at h
 ·exact (qbi6 h).mono fun r hr=>by
   rcases z18.1 hr with hr | hr
   ·simp[hr]
   ·exact z18.2 (.inr (q4f _ _ r hr))
theorem qbpc {A:Asks} {S S':Rts} {d:Option Nat} {site:Nat} {hint:Bool} {u:AV} {β:Bool} {v:AV} (h:(q40 A S d site hint u).dec β=some (v,S')):Frm (d.toList++u.roots) S S':=by
 unfold q40 at h
 split at h
 ·split at h
  ·rename_i m y S1 h1
   have f1:Frm (d.toList++u.roots) S S1:=(qmj _ _ h1).mono fun r hr=>by simp[hr]
   split at h
   ·split at h
    ·simp only[Tr.dec,z4,z7] at h
     rw[←h.2];exact f1
    ·simp[Tr.dec] at h
   ·exact f1.trans ((qk3 h).mono fun r hr=>by simp[hr])
  ·simp[Tr.dec] at h
 ·simp[Tr.dec] at h
theorem q0y {ρ:Operand→AV} (ps:Array (Nat×Operand)):ql ((ps.toList.map fun p=>(p.1,ρ p.2)).map (·.2))=ql ((ps.toList.map (·.2)).map ρ):=by
 simp only[List.map_map];rfl
theorem qby7 {A:Asks} {ρ:Operand→AV} {S S':Rts} {site:Nat} {hint:Bool} {o:Oper} {W:List Nat} (hw:wrOf C ρ o=some W) {β:Bool} {v:AV}
  (h:(opT C D A ρ S site hint o).dec β=some (v,S')):Frm W S S':=by
 have hin:∀ {x:Operand},x∈o.op.operands→∀ r∈(ρ x).roots,r∈ql (o.op.operands.toList.map ρ):=fun hx r hr=>q6k (z37.2 ⟨_,by simpa using hx,rfl⟩) r hr
 cases ho:o.op with
 | assign x=>
  simp only[wrOf,ho] at hw
  simp only[opT,ho] at h
  have hx:=hin (x:=x) (by rw[ho];simp[Op.operands])
  rw[ho] at hx
  cases hv:ρ x with
  | brw r p s=>
   rw[hv] at hw h hx
   simp only[z4] at hw
   subst hw
   simp only at h
   split at h
   ·simp only[Tr.dec,z4,z7] at h
    rw[←h.2];exact Frm.refl _ _
   ·exact (qbpc h).mono fun r hr=>by rcases z18.1 hr with h | h;exact z18.2 (.inl h);exact z18.2 (.inr (hx r h))
  | pair a b=>
   rw[hv] at hw h hx
   simp only[z4] at hw
   subst hw
   exact (qbpc h).mono fun r hr=>by rcases z18.1 hr with h | h;exact z18.2 (.inl h);exact z18.2 (.inr (hx r h))
  | _=>rw[hv] at hw;simp at hw
 | alloc t=>
  simp only[wrOf,ho,z4] at hw
  subst hw
  simp only[opT,ho] at h
  split at h
  ·exact (qk3 h).mono fun r hr=>by simp[hr]
  ·simp[Tr.dec] at h
 | box t x=>
  simp only[wrOf,ho,z4] at hw
  subst hw
  have hx:=hin (x:=x) (by rw[ho];simp[Op.operands])
  rw[ho] at hx
  simp only[opT,ho] at h
  split at h
  ·split at h
   ·rename_i m y S1 h1
    have f1:=(qmj _ _ h1).mono (W':=o.dst.toList++ql ((Op.box t x).operands.toList.map ρ)) fun r hr=>z18.2 (.inr (hx r hr))
    split at h
    ·split at h
     ·exact f1.trans ((qk3 h).mono fun r hr=>by simp[hr])
     ·simp[Tr.dec] at h
    ·exact f1.trans ((qk3 h).mono fun r hr=>by simp[hr])
   ·simp[Tr.dec] at h
  ·simp[Tr.dec] at h
 | build t ps=>
  simp only[wrOf,ho] at hw
  split at hw
  ·simp at hw
  simp only[z4] at hw
  subst hw
  simp only[opT,ho] at h
  split at h
  ·split at h
   ·rename_i m y S1 h1
    have f1:=(qbor _ _ h1).mono (W':=o.dst.toList++ql ((Op.build t ps).operands.toList.map ρ)) fun r hr=>by
     rw[q0y] at hr
     exact z18.2 (.inr (by simpa [Op.operands] using hr))
    exact f1.trans ((qk3 h).mono fun r hr=>by simp[hr])
   ·simp[Tr.dec] at h
  ·simp[Tr.dec] at h
 | buildSlice t n ps=>
  simp only[wrOf,ho,z4] at hw
  subst hw
  simp only[opT,ho] at h
  split at h
  ·split at h
   ·rename_i m y S1 h1
    have f1:=(qbv3 _ _ h1).mono (W':=o.dst.toList++ql ((Op.buildSlice t n ps).operands.toList.map ρ)) fun r hr=>by
     rw[q0y] at hr
     exact z18.2 (.inr (by simpa [Op.operands] using hr))
    split at h
    ·split at h
     ·split at h
      ·simp only[Tr.dec,z4,z7] at h
       rw[←h.2];exact f1
      ·simp[Tr.dec] at h
     ·exact f1.trans ((qk3 h).mono fun r hr=>by simp[hr])
    ·simp[Tr.dec] at h
   ·simp[Tr.dec] at h
  ·simp[Tr.dec] at h
 | store t x y=>
  simp only[wrOf,ho,z4] at hw
  subst hw
  have hx:=hin (x:=x) (by rw[ho];simp[Op.operands])
  have hy:=hin (x:=y) (by rw[ho];simp[Op.operands])
  rw[ho] at hx hy
  simp only[opT,ho] at h
  split at h
  ·cases hs:qbfd S site hint (C.ty t) (ρ x) (ρ y) with
   | none=>rw[hs] at h;simp[Tr.of,Tr.dec] at h
   | some S2=>
    rw[hs] at h
    simp only[z35,Tr.of,Tr.dec,z4,z7] at h
    rw[←h.2]
    unfold qbfd at hs
    split at hs
    ·rename_i r p hv
     simp only[z8] at hs
     obtain ⟨⟨m,z,S1⟩,h1,hs⟩:=hs
     split at hs
     ·simp only[z8] at hs
      obtain ⟨dd,_,hs⟩:=hs
      split at hs
      ·simp only[z8,z4] at hs
       obtain ⟨_,_,rfl⟩:=hs
       refine ((qb2s _ _ h1).mono fun r hr=>z18.2 (.inr (hy r hr))).trans ((Frm.set _ _ _).mono fun r' hr=>?_)
       simp only[z23] at hr
       subst hr
       exact z18.2 (.inr (hx _ (by rw[hv];simp[AV.roots])))
      ·simp at hs
     ·simp at hs
    ·simp at hs
  ·simp[Tr.dec] at h
 | makeSlice t x y=>
  simp only[wrOf,ho,z4] at hw
  subst hw
  simp only[opT,ho] at h
  split at h
  ·simp only[Tr.dec] at h
   split at h
   ·exact (qk3 h).mono fun r hr=>by simp[hr]
   ·simp at h
  ·simp[Tr.dec] at h
 | slice t x lo hi mx=>
  simp only[wrOf,ho,z4] at hw
  subst hw
  have hx:=hin (x:=x) (by rw[ho];simp[Op.operands])
  rw[ho] at hx
  cases mx with
  | some _=>simp only[opT,ho,Tr.dec] at h;simp at h
  | none=>
   simp only[opT,ho] at h
   unfold q9w at h
   split at h
   ·split at h
    ·simp only[Tr.dec] at h
     split at h
     ·simp only[z4,z7] at h;rw[←h.2];exact Frm.refl _ _
     ·simp at h
    ·simp[Tr.dec] at h
   ·split at h
    ·split at h
     ·simp only[Tr.dec] at h
      split at h
      ·simp only[z4,z7] at h;rw[←h.2];exact Frm.refl _ _
      ·simp at h
     ·simp[Tr.dec] at h
    ·simp[Tr.dec] at h
   ·rename_i r p s e hv hT
    split at h
    ·split at h
     ·rename_i m xs S2 h1
      have f1:=(qmj _ _ h1).mono (W':=o.dst.toList++ql ((Op.slice t x lo hi none).operands.toList.map ρ)) fun r hr=>z18.2 (.inr (hx r (by rw[hv];exact hr)))
      split at h
      ·split at h
       ·simp only[Tr.dec] at h
        split at h
        ·exact f1.trans ((qk3 h).mono fun r hr=>by simp[hr])
        ·simp at h
       ·simp[Tr.dec] at h
      ·simp[Tr.dec] at h
     ·simp[Tr.dec] at h
    ·unfold qbe8 at h
     split at h
     ·split at h
      ·split at h
       ·simp only[Tr.dec] at h
        split at h
        ·simp only[z4,z7] at h;rw[←h.2];exact Frm.refl _ _
        ·simp at h
       ·simp[Tr.dec] at h
      ·simp[Tr.dec] at h
     ·simp[Tr.dec] at h
   ·simp[Tr.dec] at h
 | call c=>
  have hargs:∀ (a:AV),a∈c.args.toList.map ρ→∀ r∈a.roots,r∈ql (o.op.operands.toList.map ρ):=by
   intro a ha r hr
   obtain ⟨x,hx,rfl⟩:=z37.1 ha
   exact hin (x:=x) (by rw[ho];simp only[Op.operands,Call.operands,Array.mem_append];right;simpa using hx) r hr
  cases hc:c.callee with
  | builtin b=>
   cases b with
   | append=>
    simp only[wrOf,ho,hc,z4] at hw
    subst hw
    rw[ho] at hargs
    simp only[opT,ho,hc] at h
    split at h<;>try (first | (exfalso;contradiction) | (simp[Tr.dec] at h;done))
    rename_i x0 y0 e e' _ _ hmap _
    split at h
    ·cases hint with
     | true=>
      simp only[if_true] at h
      have hx0:=hargs x0 (by rw[hmap];simp)
      unfold q7f at h
      split at h
      ·split at h
       ·split at h
        ·split at h
         ·split at h
          ·simp only[Tr.dec] at h
           split at h
           ·simp only[z4,z7] at h
            rw[←h.2]
            exact (Frm.set _ _ _).mono fun r' hr=>by
             simp only[z23] at hr
             subst hr
             exact z18.2 (.inr (hx0 _ (by simp[AV.roots])))
           ·simp at h
          ·simp[Tr.dec] at h
         ·simp[Tr.dec] at h
        ·simp[Tr.dec] at h
       ·simp[Tr.dec] at h
      ·simp[Tr.dec] at h
     | false=>
     simp only[z34,if_false] at h
     unfold qvv at h
     have hx0:=hargs x0 (by rw[hmap];simp)
     have hy0:=hargs y0 (by rw[hmap];simp)
     split at h
     ·rename_i m xs S1 h1
      split at h
      ·rename_i my ys S2 h2
       have f1:=((qmj _ _ h1).mono (W':=o.dst.toList++ql ((Op.call c).operands.toList.map ρ)) fun r hr=>z18.2 (.inr (hx0 r hr))).trans
        ((qmj _ _ h2).mono fun r hr=>z18.2 (.inr (hy0 r hr)))
       split at h
       ·split at h
        ·simp only[Tr.dec] at h
         split at h
         ·exact f1.trans ((qk3 h).mono fun r hr=>by simp[hr])
         ·simp at h
        ·simp[Tr.dec] at h
       ·simp[Tr.dec] at h
      ·simp[Tr.dec] at h
     ·simp[Tr.dec] at h
    ·simp[Tr.dec] at h
   | clear=>
    simp only[wrOf,ho,hc,z4] at hw
    subst hw
    rw[ho] at hargs
    simp only[opT,ho,hc] at h
    split at h<;>try (first | (exfalso;contradiction) | (simp[Tr.dec] at h;done))
    rename_i x0 e _ _ hmap _
    have hx0:=hargs x0 (by rw[hmap];simp)
    unfold qbdi at h
    split at h
    ·split at h
     ·split at h
      ·split at h
       ·split at h
        ·simp only[Tr.dec] at h
         split at h
         ·simp only[z4,z7] at h
          rw[←h.2]
          exact (Frm.set _ _ _).mono fun r' hr=>by
           simp only[z23] at hr
           subst hr
           exact z18.2 (.inr (hx0 _ (by simp[AV.roots])))
         ·simp only[z4,z7] at h;rw[←h.2];exact Frm.refl _ _
        ·simp[Tr.dec] at h
       ·simp[Tr.dec] at h
      ·simp[Tr.dec] at h
     ·simp[Tr.dec] at h
    ·simp[Tr.dec] at h
   | copy=>
    simp only[wrOf,ho,hc,z4] at hw
    subst hw
    rw[ho] at hargs
    simp only[opT,ho,hc] at h
    split at h<;>try (first | (exfalso;contradiction) | (simp[Tr.dec] at h;done))
    rename_i x0 y0 e _ _ hmap _
    have hx0:=hargs x0 (by rw[hmap];simp)
    unfold qblf at h
    split at h
    ·split at h
     ·split at h
      ·split at h
       ·split at h
        ·split at h
         ·simp only[Tr.dec] at h
          split at h
          ·simp only[z4,z7] at h
           rw[←h.2]
           exact (Frm.set _ _ _).mono fun r' hr=>by
            simp only[z23] at hr
            subst hr
            exact z18.2 (.inr (hx0 _ (by simp[AV.roots])))
          ·simp only[z4,z7] at h;rw[←h.2];exact Frm.refl _ _
         ·simp[Tr.dec] at h
        ·simp[Tr.dec] at h
       ·simp[Tr.dec] at h
      ·simp[Tr.dec] at h
     ·simp[Tr.dec] at h
    ·simp[Tr.dec] at h
   | len=>simp[wrOf,ho,hc] at hw
   | min=>simp[wrOf,ho,hc] at hw
   | max=>simp[wrOf,ho,hc] at hw
   | _=>simp only[opT,ho,hc,Tr.dec] at h;simp at h
  | value f=>
   simp only[wrOf,ho,hc] at hw
   simp only[opT,ho,hc] at h
   cases hv:ρ f with
   | clo g caps=>
    rw[hv] at hw h
    simp only at hw h
    split at hw
    ·simp only[z4] at hw
     subst hw
     refine (qbyj h).mono fun r hr=>?_
     rcases z18.1 hr with hr | hr
     ·exact z18.2 (.inl hr)
     ·refine z18.2 (.inr ?_)
      rw[qwf] at hr
      rcases hr with hr | hr
      ·simp only[Op.operands,Call.operands,hc]
       have:∀ l:List AV,∀ a,r∈ql l→r∈ql (a::l):=fun l a h=>by simp[ql,h]
       simpa using this _ _ hr
      ·have h1:=qwz caps r hr
       have h2:=hin (x:=f) (by rw[ho];simp[Op.operands,Call.operands,hc]) r (by rw[hv];simpa [AV.roots] using h1)
       rw[ho] at h2
       exact h2
    ·rename_i hns
     simp only[q8b,z5 hns] at h
     split at hw
     ·simp at hw
     ·simp only[z4] at hw
      subst hw
      exact qbi6 h
   | cloV cl=>rw[hv] at hw;simp at hw
   | _=>rw[hv] at h;simp[Tr.dec] at h
  | invoke r m=>simp only[opT,ho,hc,Tr.dec] at h;simp at h
 | _=>first | (simp[wrOf,ho] at hw;done) | (simp only[opT,ho,Tr.dec] at h;simp at h)
end
end Go.V

namespace Go.V
noncomputable section
open Go
theorem root_set (S:Rts) (q:Nat) (x:Option Root) (r:Nat):(S.setRoot q x).root r=if r=q∧q<S.length then x else S.root r:=by
 simp only[Rts.root_eq,Rts.setRoot_eq,List.getD,List.getElem?_set]
 by_cases h:q=r
 ·subst h
  by_cases hl:q<S.length
  ·simp[hl]
  ·simp[hl]
 ·rw[z5 h,z5 (fun k=>h k.1.symm)]
theorem qvh {F:List Nat} {S T:Rts} (hr:qbz F S T) (hl:T.length=S.length) (q:Nat) (x:Option Root):qbz F (S.setRoot q x) (T.setRoot q x):=by
 intro r h
 rw[root_set,root_set,hl,hr r h]
def Lk {α:Type} (F:List Nat) (X Y:Option (α×Rts)):Prop:=∀ a S',X=some (a,S')→∃ T',Y=some (a,T')∧qbz F S' T'∧T'.length=S'.length
theorem q4g {F:List Nat}:∀ (t:Ty) (a:AV) {S T:Rts} {m:Mk} {x:t.den} {S':Rts},qbz F S T→T.length=S.length→(∀ r∈a.roots,r∈F)→tk S t a=some (m,x,S')→
  ∃ T',tk T t a=some (m,x,T')∧qbz F S' T'∧T'.length=S'.length
 | t,.val t' y,S,T,m,x,S',hr,hl,hF,h=>by
  have e:∀ S:Rts,tk S t (.val t' y)=(qbq t' t y).bind (fun x=>some (Mk.no,x,S)):=by intro S;cases t<;>simp only[tk]
  rw[e] at h
  simp only[z8,z4,z7] at h
  obtain ⟨z,hz,rfl,rfl,rfl⟩:=h
  exact ⟨T,by rw[e,hz];rfl,hr,hl⟩
 | t,.litB b,S,T,m,x,S',hr,hl,hF,h=>by
  cases t<;>simp[tk] at h
  obtain ⟨rfl,rfl,rfl⟩:=h
  exact ⟨T,by simp[tk],hr,hl⟩
 | t,.unit,S,T,m,x,S',hr,hl,hF,h=>by
  cases t<;>simp[tk] at h
  obtain ⟨rfl,rfl⟩:=h
  exact ⟨T,by simp[tk],hr,hl⟩
 | t,.nils,S,T,m,x,S',hr,hl,hF,h=>by
  cases t<;>simp[tk] at h
  obtain ⟨rfl,rfl,rfl⟩:=h
  exact ⟨T,by simp[tk],hr,hl⟩
 | t,.brw r p s,S,T,m,x,S',hr,hl,hF,h=>by
  cases t with
  | sl e=>
   have hroot:=hr r (hF r (by simp[AV.roots]))
   simp only[tk] at h ⊢
   rw[hroot]
   cases hR:S.root r with
   | none=>rw[hR] at h;simp at h
   | some R=>
    rw[hR] at h
    simp only at h ⊢
    cases hf:V.focus R.ty R.ms R.x p with
    | none=>rw[hf] at h;simp at h
    | some d=>
     obtain ⟨dt,dm,dx⟩:=d
     rw[hf] at h
     cases dt with
     | sl t2=>
      cases dm with
      | own s' m2=>
       simp only at h ⊢
       by_cases hs:s=s'
       ·rw[z6 hs] at h ⊢
        simp only[z8,z4,z7] at h ⊢
        obtain ⟨z,hz,m',hm',rfl,rfl,rfl⟩:=h
        exact ⟨_,⟨z,hz,m',hm',rfl,rfl,rfl⟩,qvh hr hl _ _,by simp[Rts.setRoot_eq,hl]⟩
       ·rw[z5 hs] at h;simp at h
      | _=>simp at h
     | _=>simp at h
  | _=>simp[tk] at h
 | t,.pair u v,S,T,m,x,S',hr,hl,hF,h=>by
  cases t with
  | pair a b=>
   simp only[tk,z8,z4,z7] at h
   obtain ⟨⟨m1,x1,S1⟩,h1,⟨m2,x2,S2⟩,h2,rfl,rfl,rfl⟩:=h
   obtain ⟨T1,k1,k2,k3⟩:=q4g a u hr hl (fun r h=>hF r (by simp[AV.roots,h])) h1
   obtain ⟨T2,q1,q2,q3⟩:=q4g b v k2 k3 (fun r h=>hF r (by simp[AV.roots,h])) h2
   exact ⟨T2,by simp only[tk,k1,z30,q1],q2,q3⟩
  | _=>simp[tk] at h
 | t,.undef,S,T,m,x,S',hr,hl,hF,h=>by cases t<;>simp[tk] at h
 | t,.skip,S,T,m,x,S',hr,hl,hF,h=>by cases t<;>simp[tk] at h
 | t,.view _ _ _ _ _,S,T,m,x,S',hr,hl,hF,h=>by cases t<;>simp[tk] at h
 | t,.addr _ _,S,T,m,x,S',hr,hl,hF,h=>by cases t<;>simp[tk] at h
 | t,.raddr _ _,S,T,m,x,S',hr,hl,hF,h=>by cases t<;>simp[tk] at h
 | t,.tup _,S,T,m,x,S',hr,hl,hF,h=>by cases t<;>simp[tk] at h
 | t,.clo _ _,S,T,m,x,S',hr,hl,hF,h=>by cases t<;>simp[tk] at h
 | t,.cloV _,S,T,m,x,S',hr,hl,hF,h=>by cases t<;>simp[tk] at h
theorem qqz {F:List Nat} {A:Asks} {S T:Rts} (hr:qbz F S T) (hl:T.length=S.length) {d:Option Nat} {site:Nat} {t:Ty} {m:Mk} {x:t.den} {mem:Bool} {β:Bool} :
  Lk F ((layT A S d site t m x mem).dec β) ((layT A T d site t m x mem).dec β):=by
 intro v S' h
 cases d with
 | none=>
  simp only[layT,Tr.dec,z4,z7] at h ⊢
  obtain ⟨rfl,rfl⟩:=h
  exact ⟨T,⟨rfl,rfl⟩,hr,hl⟩
 | some d=>
  simp only[layT,hl] at h ⊢
  split at h
  ·simp[Tr.dec] at h
  ·rename_i h1
   simp only[h1]
   split at h
   ·rename_i h2
    split at h
    ·rename_i h3
     simp only[Tr.dec,z4,z7] at h
     obtain ⟨rfl,rfl⟩:=h
     exact ⟨_,by simp[h2,h3,Tr.dec],qvh hr hl _ _,by simp[Rts.setRoot_eq,hl]⟩
    ·simp[Tr.dec] at h
   ·rename_i h2
    split at h
    ·rename_i h3
     simp only[Tr.dec,z4,z7] at h
     obtain ⟨rfl,rfl⟩:=h
     exact ⟨T,by simp[h2,h3,Tr.dec],hr,hl⟩
    ·rename_i h3
     split at h
     ·rename_i h4
      simp only[Tr.dec,z4,z7] at h
      obtain ⟨rfl,rfl⟩:=h
      refine ⟨_,?_,qvh hr hl _ _,by simp[Rts.setRoot_eq,hl]⟩
      simp only[h2,z34,if_false,h3,h4,if_true,Tr.dec]
     ·simp[Tr.dec] at h
theorem qbtu {F:List Nat} {T0:Ty}:∀ (l:List (Nat×AV)) (acc:Mk×T0.den) {S T:Rts} {m:Mk} {x:T0.den} {S':Rts},qbz F S T→T.length=S.length→(∀ r∈ql (l.map (·.2)),r∈F)→
  qcq S T0 acc l=some (m,x,S')→∃ T',qcq T T0 acc l=some (m,x,T')∧qbz F S' T'∧T'.length=S'.length
 | [],acc,S,T,m,x,S',hr,hl,hF,h=>by
  simp only[qcq,z4,z7] at h ⊢
  obtain ⟨rfl,rfl,rfl⟩:=h
  exact ⟨T,⟨rfl,rfl,rfl⟩,hr,hl⟩
 | (i,v)::l,acc,S,T,m,x,S',hr,hl,hF,h=>by
  simp only[qcq,z8] at h
  obtain ⟨d,hd,⟨m1,x1,S1⟩,h1,r,h3,h2⟩:=h
  obtain ⟨T1,k1,k2,k3⟩:=q4g _ v hr hl (fun r h=>hF r (by simp[ql,h])) h1
  obtain ⟨T2,q1,q2,q3⟩:=qbtu l _ k2 k3 (fun r h=>hF r (by simp only[z28,ql,z18];exact .inr h)) h2
  refine ⟨T2,?_,q2,q3⟩
  simp only[qcq,z8]
  exact ⟨d,hd,(m1,x1,T1),k1,r,h3,q1⟩
theorem qbzp {F:List Nat} {e:Ty}:∀ (l:List (Nat×AV)) (acc:Mk×List e.den) {S T:Rts} {m:Mk} {x:List e.den} {S':Rts},qbz F S T→T.length=S.length→(∀ r∈ql (l.map (·.2)),r∈F)→
  qhl S e acc l=some (m,x,S')→∃ T',qhl T e acc l=some (m,x,T')∧qbz F S' T'∧T'.length=S'.length
 | [],acc,S,T,m,x,S',hr,hl,hF,h=>by
  simp only[qhl,z4,z7] at h ⊢
  obtain ⟨rfl,rfl,rfl⟩:=h
  exact ⟨T,⟨rfl,rfl,rfl⟩,hr,hl⟩
 | (i,v)::l,acc,S,T,m,x,S',hr,hl,hF,h=>by
  simp only[qhl] at h ⊢
  split at h
  ·rename_i hi
   simp only[z8] at h
   obtain ⟨⟨m1,x1,S1⟩,h1,h2⟩:=h
   obtain ⟨T1,k1,k2,k3⟩:=q4g _ v hr hl (fun r h=>hF r (by simp[ql,h])) h1
   obtain ⟨T2,q1,q2,q3⟩:=qbzp l _ k2 k3 (fun r h=>hF r (by simp only[z28,ql,z18];exact .inr h)) h2
   refine ⟨T2,?_,q2,q3⟩
   rw[z6 hi]
   simp only[z8]
   exact ⟨(m1,x1,T1),k1,q1⟩
  ·simp at h
theorem qbzf {F:List Nat} {A:Asks} {S T:Rts} (hr:qbz F S T) (hl:T.length=S.length) {d:Option Nat} {site:Nat} {t:Ty} {x y:AV} (hx:∀ r∈x.roots,r∈F) (hy:∀ r∈y.roots,r∈F) {β:Bool} :
  Lk F ((qvv A S d site t x y).dec β) ((qvv A T d site t x y).dec β):=by
 intro v S' h
 unfold qvv at h ⊢
 cases h1:tk S (.sl t) x with
 | none=>rw[h1] at h;simp[Tr.dec] at h
 | some z=>
  obtain ⟨m1,xs,S1⟩:=z
  obtain ⟨T1,k1,k2,k3⟩:=q4g _ x hr hl hx h1
  rw[h1] at h
  rw[k1]
  cases m1 with
  | own s m=>
   simp only at h ⊢
   cases h2:tk S1 (.sl t) y with
   | none=>rw[h2] at h;simp[Tr.dec] at h
   | some z=>
    obtain ⟨my,ys,S2⟩:=z
    obtain ⟨T2,q1,q2,q3⟩:=q4g _ y k2 k3 hy h2
    rw[h2] at h
    rw[q1]
    simp only at h ⊢
    cases hm:elMk my with
    | none=>rw[hm] at h;simp[Tr.dec] at h
    | some m'=>
     rw[hm] at h
     simp only at h ⊢
     split at h
     ·rename_i h3
      rw[z6 h3]
      simp only[Tr.dec] at h ⊢
      split at h
      ·exact qqz q2 q3 v S' h
      ·simp at h
     ·simp[Tr.dec] at h
  | _=>simp[Tr.dec] at h
theorem qb3c {F:List Nat} {S T:Rts} (hr:qbz F S T) (hl:T.length=S.length) {t:Ty} {x y:AV} (hx:∀ r∈x.roots,r∈F) {β:Bool} :
  Lk F ((q7f S t x y).dec β) ((q7f T t x y).dec β):=by
 intro v S' h
 unfold q7f at h ⊢
 split at h
 ·rename_i r p s t2 ys
  have hroot:=hr r (hx r (by simp[AV.roots]))
  try simp only
  rw[hroot]
  cases hR:S.root r with
  | none=>rw[hR] at h;simp[Tr.dec] at h
  | some R=>
   rw[hR] at h
   simp only at h ⊢
   split at h
   ·rename_i t' s' m xs hf
    split at h
    ·rename_i hc
     rw[z6 hc]
     split at h
     ·rename_i a b r' e1 e2 e3
      simp only[Tr.dec] at h ⊢
      split at h
      ·simp only[z4,z7] at h
       obtain ⟨rfl,rfl⟩:=h
       exact ⟨_,rfl,qvh hr hl _ _,by simp[Rts.setRoot_eq,hl]⟩
      ·simp at h
     ·simp[Tr.dec] at h
    ·simp[Tr.dec] at h
   ·simp[Tr.dec] at h
 ·simp[Tr.dec] at h
theorem qb0u {F:List Nat} {A:Asks} {S T:Rts} (hr:qbz F S T) (hl:T.length=S.length) {U:Ty} {d:Option Nat} {site:Nat} {x:AV} {lo hi:Option AV} (hx:∀ r∈x.roots,r∈F) {β:Bool} :
  Lk F ((q9w A S U d site x lo hi).dec β) ((q9w A T U d site x lo hi).dec β):=by
 intro v S' h
 unfold q9w at h ⊢
 split at h
 ·split at h
  ·simp only[Tr.dec] at h ⊢
   split at h
   ·simp only[z4,z7] at h
    obtain ⟨rfl,rfl⟩:=h
    rename_i hc
    exact ⟨T,by simp[hc],hr,hl⟩
   ·simp at h
  ·simp[Tr.dec] at h
 ·split at h
  ·split at h
   ·rename_i hc
    simp only[Tr.dec] at h ⊢
    rw[z6 hc]
    split at h
    ·simp only[z4,z7] at h
     obtain ⟨rfl,rfl⟩:=h
     rename_i hc
     exact ⟨T,by simp[Tr.dec,hc],hr,hl⟩
    ·simp at h
   ·simp[Tr.dec] at h
  ·simp[Tr.dec] at h
 ·rename_i r p s e
  split at h
  ·cases h1:tk S (.sl e) (.brw r p s) with
   | none=>rw[h1] at h;simp[Tr.dec] at h
   | some z=>
    obtain ⟨m1,xs,S1⟩:=z
    obtain ⟨T1,k1,k2,k3⟩:=q4g _ _ hr hl hx h1
    rw[h1] at h
    simp only[k1]
    cases m1 with
    | own s m=>
     simp only at h ⊢
     split at h
     ·split at h
      ·rename_i hc
       rw[z6 hc]
       simp only[Tr.dec] at h ⊢
       split at h
       ·rename_i hd
        try simp only[hd]
        exact qqz k2 k3 v S' h
       ·simp at h
      ·simp[Tr.dec] at h
     ·simp[Tr.dec] at h
    | _=>simp[Tr.dec] at h
  ·unfold qbe8 at h ⊢
   have hf:=qir hr (hx r (by simp[AV.roots])) p
   rw[hf]
   split at h
   ·split at h
    ·rename_i hq
     try simp only[hq]
     split at h
     ·rename_i hc
      rw[z6 hc]
      simp only[Tr.dec] at h ⊢
      split at h
      ·simp only[z4,z7] at h
       obtain ⟨rfl,rfl⟩:=h
       rename_i hd
       exact ⟨T,by simp[hd],hr,hl⟩
      ·simp at h
     ·simp[Tr.dec] at h
    ·simp[Tr.dec] at h
   ·simp[Tr.dec] at h
 ·simp[Tr.dec] at h
theorem qbye {F:List Nat} {A:Asks} {S T:Rts} (hr:qbz F S T) (hl:T.length=S.length) {d:Option Nat} {site:Nat}:∀ (rs:List RK) (r:RDen rs) {β:Bool},Lk F ((qd3 A S d site rs r).dec β) ((qd3 A T d site rs r).dec β)
 | [],r,β=>by
  intro v S' h
  simp only[qd3,Tr.dec,z4,z7] at h ⊢
  obtain ⟨rfl,rfl⟩:=h
  exact ⟨T,⟨rfl,rfl⟩,hr,hl⟩
 | [.val t m],r,β=>by
  intro v S' h
  simp only[qd3] at h ⊢
  split at h
  ·rename_i hs
   rw[z6 hs]
   split at h
   ·rename_i hc
    rw[z6 hc]
    simp only[Tr.dec,z4,z7] at h ⊢
    obtain ⟨rfl,rfl⟩:=h
    exact ⟨T,⟨rfl,rfl⟩,hr,hl⟩
   ·simp[Tr.dec] at h
  ·rename_i hs
   rw[z5 hs]
   split at h
   ·rename_i hc
    rw[z6 hc]
    exact qqz hr hl v S' h
   ·simp[Tr.dec] at h
 | [.ptr t m],r,β=>by
  intro v S' h
  simp only[qd3] at h ⊢
  split at h
  ·rename_i hc
   rw[z6 hc]
   exact qqz hr hl v S' h
  ·simp[Tr.dec] at h
 | q1::q2::rs,r,β=>by
  intro v S' h
  have e:∀ S:Rts,qd3 A S d site (q1::q2::rs) r=qse A S d site (q1::q2::rs) r:=by intro S;cases q1<;>simp only[qd3]
  rw[e] at h ⊢
  unfold qse at h ⊢
  split at h
  ·rename_i hc
   rw[z6 hc]
   cases d with
   | none=>
    simp only[Tr.dec,z4,z7] at h ⊢
    obtain ⟨rfl,rfl⟩:=h
    exact ⟨T,⟨rfl,rfl⟩,hr,hl⟩
   | some d=>
    simp only at h ⊢
    cases hL:layT A S (some d) site (qc5 (q1::q2::rs)) (qkr (q1::q2::rs)) (resX (q1::q2::rs) r) false with
    | ret z=>
     obtain ⟨v1,S1⟩:=z
     rw[hL] at h
     simp only[Tr.dec,z4,z7] at h
     obtain ⟨rfl,rfl⟩:=h
     obtain ⟨T1,k1,k2,k3⟩:=qqz (A:=A) (d:=some d) (site:=site) (t:=qc5 (q1::q2::rs)) (m:=qkr (q1::q2::rs)) (x:=resX (q1::q2::rs) r) (mem:=false) (β:=true) hr hl v1 S1 (by rw[hL];rfl)
     cases hM:layT A T (some d) site (qc5 (q1::q2::rs)) (qkr (q1::q2::rs)) (resX (q1::q2::rs) r) false with
     | ret z=>
      obtain ⟨v2,S2⟩:=z
      rw[hM] at k1
      simp only[Tr.dec,z4,z7] at k1
      obtain ⟨rfl,rfl⟩:=k1
      exact ⟨_,rfl,k2,k3⟩
     | fail=>rw[hM] at k1;simp[Tr.dec] at k1
     | _=>
      exfalso
      simp only[layT] at hM
      repeat' split at hM
      all_goals simp at hM
    | _=>rw[hL] at h;simp[Tr.dec] at h
  ·simp[Tr.dec] at h
section
variable {C:Ctx} {D:Den C}
theorem q9m {S T:Rts}:∀ (ks:List PK) (avs:List AV),ks.all PK.loc=true→qbi T ks avs=(qbi S ks avs).map fun z=>(z.1,T)
 | [],[],_=>rfl
 | [],_::_,_=>rfl
 | k::ks,[],_=>by cases k<;>rfl
 | k::ks,a::avs,h=>by
  simp only[List.all_cons,z9] at h
  cases k with
  | val t=>simp only[qbi];exact q9m ks avs h.2
  | rptr t=>simp only[qbi];exact q9m ks avs h.2
  | mutp t m m'=>simp only[qbi];exact q9m ks avs h.2
  | fn=>simp only[qbi];exact q9m ks avs h.2
  | _=>simp[PK.loc] at h
theorem qb32 {S rt:Rts} {ks:List PK} {avs:List AV} {g:GDen ks} (hp:ks.all PK.loc=true) (h:qbi S ks avs=some (g,rt)):rt=S:=by
 have:=q9m (S:=S) (T:=S) ks avs hp
 rw[h] at this
 simp only[z35,z4,z7,true_and] at this
 exact this
theorem q91 {F:List Nat}:∀ (ks:List PK) (avs:List AV) {S T:Rts} {o:ODen ks} {S':Rts},qbz F S T→T.length=S.length→ks.all PK.loc=true→(∀ r∈ql avs,r∈F)→qbg S ks avs=some (o,S')→
  ∃ T',qbg T ks avs=some (o,T')∧qbz F S' T'∧T'.length=S'.length
 | [],[],S,T,o,S',hr,hl,_,_,h=>by
  simp only[qbg,z4,z7] at h
  obtain ⟨_,rfl⟩:=h
  exact ⟨T,rfl,hr,hl⟩
 | [],_::_,S,T,o,S',hr,hl,_,_,h=>by simp[qbg] at h
 | k::ks,[],S,T,o,S',hr,hl,_,_,h=>by cases k<;>simp[qbg] at h
 | k::ks,a::avs,S,T,o,S',hr,hl,hp,hF,h=>by
  simp only[List.all_cons,z9] at hp
  have hF2:∀ r∈ql avs,r∈F:=fun r h=>hF r (by simp[ql,h])
  cases k with
  | val t=>simp only[qbg] at h ⊢;exact q91 ks avs hr hl hp.2 hF2 h
  | rptr t=>simp only[qbg] at h ⊢;exact q91 ks avs hr hl hp.2 hF2 h
  | fn=>simp only[qbg] at h ⊢;exact q91 ks avs hr hl hp.2 hF2 h
  | mutp t m m'=>
   cases a with
   | addr q p=>
    cases p with
    | nil=>
     have hq:=hr q (hF q (by simp[ql,AV.roots]))
     simp only[qbg] at h ⊢
     rw[hq]
     cases hR:S.root q with
     | none=>rw[hR] at h;simp at h
     | some R=>
      rw[hR] at h
      simp only at h ⊢
      split at h
      ·rename_i hc
       rw[z6 hc]
       simp only[z8,z4,z7] at h ⊢
       obtain ⟨x,hx,⟨o2,S2⟩,h2,rfl,rfl⟩:=h
       obtain ⟨T2,q1,q2,q3⟩:=q91 ks avs (qvh hr hl q none) (by simp[Rts.setRoot_eq,hl]) hp.2 hF2 h2
       exact ⟨T2,⟨x,hx,(o2,T2),q1,rfl,rfl⟩,q2,q3⟩
      ·simp at h
    | cons _ _=>simp[qbg] at h
   | _=>simp[qbg] at h
  | _=>simp[PK.loc] at hp
theorem qbc7 {F:List Nat} {site:Nat}:∀ (ks:List PK) (avs:List AV) (o:ODen ks) {S T:Rts} {S':Rts},qbz F S T→T.length=S.length→ks.all PK.loc=true→qbm S site ks avs o=some S'→
  ∃ T',qbm T site ks avs o=some T'∧qbz F S' T'∧T'.length=S'.length
 | [],[],o,S,T,S',hr,hl,_,h=>by
  simp only[qbm,z4] at h
  subst h
  exact ⟨T,rfl,hr,hl⟩
 | [],_::_,o,S,T,S',hr,hl,_,h=>by simp[qbm] at h
 | k::ks,[],o,S,T,S',hr,hl,_,h=>by cases k<;>simp[qbm] at h
 | k::ks,a::avs,o,S,T,S',hr,hl,hp,h=>by
  simp only[List.all_cons,z9] at hp
  cases k with
  | val t=>simp only[qbm] at h ⊢;exact qbc7 ks avs o hr hl hp.2 h
  | rptr t=>simp only[qbm] at h ⊢;exact qbc7 ks avs o hr hl hp.2 h
  | fn=>simp only[qbm] at h ⊢;exact qbc7 ks avs o hr hl hp.2 h
  | mutp t m m'=>
   cases a with
   | addr q p=>
    cases p with
    | nil=>
     simp only[qbm] at h ⊢
     split at h
     ·rename_i hc
      rw[z6 hc]
      exact qbc7 ks avs o.2 (qvh hr hl q _) (by simp[Rts.setRoot_eq,hl]) hp.2 h
     ·simp at h
    | cons _ _=>simp[qbm] at h
   | _=>simp[qbm] at h
  | _=>simp[PK.loc] at hp
theorem qbwi {F:List Nat} {A:Asks} {S T:Rts} (hr:qbz F S T) (hl:T.length=S.length) {d:Option Nat} {site:Nat} {g:FuncId} {avs:List AV} (hp:(C.sig g).params.all PK.loc=true) (has:∀ r∈ql avs,r∈F) {β:Bool} :
  Lk F ((ql9 C D A S d site g avs).dec β) ((ql9 C D A T d site g avs).dec β):=by
 intro v S' h
 unfold ql9 at h ⊢
 rw[q9m (S:=S) (T:=T) _ _ hp]
 cases h1:qbi S (C.sig g).params avs with
 | none=>rw[h1] at h;simp[Tr.dec] at h
 | some z=>
  obtain ⟨gd,S1⟩:=z
  obtain rfl:=qb32 hp h1
  rw[h1] at h
  simp only[z35] at h ⊢
  cases h2:qbg S1 (C.sig g).params avs with
  | none=>rw[h2] at h;simp[Tr.dec] at h
  | some z=>
   obtain ⟨od,S2⟩:=z
   obtain ⟨T2,k1,k2,k3⟩:=q91 _ _ hr hl hp has h2
   rw[h2] at h
   simp only[k1] at h ⊢
   rw[qgd _ _ _ _ (k2.sub has)]
   cases h3:qcj S2 (C.sig g).params avs gd od with
   | none=>rw[h3] at h;simp[Tr.dec] at h
   | some aa=>
    rw[h3] at h
    simp only at h ⊢
    split at h
    ·rename_i hc
     rw[z6 hc]
     simp only[Tr.dec] at h ⊢
     cases hD:D g aa with
     | none=>rw[hD] at h;simp at h
     | some rr=>
      rw[hD] at h
      simp only[z30] at h ⊢
      split at h
      ·rename_i hn
       rw[z6 hn]
       exact qbye hr hl _ _ v S' h
      ·rename_i hn
       rw[z5 hn]
       split at h
       ·rename_i hfr
        rw[z6 hfr]
        simp only[Tr.dec] at h ⊢
        split at h
        ·rename_i hlo
         cases ho:qbm S1 site (C.sig g).params avs rr.2 with
         | none=>rw[ho] at h;simp[Tr.dec] at h
         | some S3=>
          obtain ⟨T3,q1,q2,q3⟩:=qbc7 _ _ _ hr hl hp ho
          rw[ho] at h
          simp only at h
          obtain ⟨T',r1,r2,r3⟩:=qbye q2 q3 _ _ v S' h
          exact ⟨T',by rw[q1];exact r1,r2,r3⟩
        ·simp at h
       ·simp[Tr.dec] at h
    ·simp[Tr.dec] at h
theorem qbh4 {F:List Nat}:∀ (ks:List PK) (avs:List AV) {S T:Rts} {z:List AV} {S':Rts},qbz F S T→T.length=S.length→(∀ r∈ql avs,r∈F)→qb6 S ks avs=some (z,S')→
  ∃ T',qb6 T ks avs=some (z,T')∧qbz F S' T'∧T'.length=S'.length∧∀ r∈ql z,r∈F
 | [],[],S,T,z,S',hr,hl,hF,h=>by
  simp only[qb6,z4,z7] at h
  obtain ⟨rfl,rfl⟩:=h
  exact ⟨T,rfl,hr,hl,hF⟩
 | [],_::_,S,T,z,S',hr,hl,hF,h=>by simp[qb6] at h
 | k::ks,[],S,T,z,S',hr,hl,hF,h=>by cases k<;>simp[qb6] at h
 | k::ks,a::avs,S,T,z,S',hr,hl,hF,h=>by
  have hFa:∀ r∈a.roots,r∈F:=fun r hr=>hF r (by simp[ql,hr])
  have hFs:∀ r∈ql avs,r∈F:=fun r hr=>hF r (by simp[ql,hr])
  have plain:(qb6 S ks avs).map (fun z=>(a::z.1,z.2))=some (z,S')→∃ T',(qb6 T ks avs).map (fun z=>(a::z.1,z.2))=some (z,T')∧qbz F S' T'∧T'.length=S'.length∧∀ r∈ql z,r∈F:=by
   intro h
   simp only[z29,z7] at h
   obtain ⟨⟨z1,S1⟩,h1,rfl,rfl⟩:=h
   obtain ⟨T1,e1,e2,e3,e4⟩:=qbh4 ks avs hr hl hFs h1
   refine ⟨T1,by rw[e1];rfl,e2,e3,fun r hr=>?_⟩
   simp only[ql,z18] at hr
   rcases hr with hr | hr
   ·exact hFa r hr
   ·exact e4 r hr
  cases k with
  | val t=>
   simp only[qb6] at h ⊢
   split at h
   ·rename_i hs
    rw[z6 hs];exact plain h
   ·rename_i hs
    rw[z5 hs]
    cases h1:tk S t a with
    | none=>rw[h1] at h;simp at h
    | some q=>
     obtain ⟨m,y,S1⟩:=q
     obtain ⟨T1,k1,k2,k3⟩:=q4g _ _ hr hl hFa h1
     rw[h1] at h
     rw[k1]
     simp only at h ⊢
     split at h
     ·rename_i hm
      rw[z6 hm]
      simp only[z29,z7] at h
      obtain ⟨⟨z1,S2⟩,h2,rfl,rfl⟩:=h
      obtain ⟨T2,e1,e2,e3,e4⟩:=qbh4 ks avs k2 k3 hFs h2
      refine ⟨T2,by rw[e1];rfl,e2,e3,fun r hr=>?_⟩
      simp only[ql,z18,AV.roots,z25,false_or] at hr
      exact e4 r hr
     ·simp at h
  | _=>simp only[qb6] at h ⊢;exact plain h
theorem qb4d {F:List Nat} {A:Asks} {ρ:Operand→AV} {S T:Rts} (hr:qbz F S T) (hl:T.length=S.length) {site:Nat} {hint:Bool} {o:Oper} (hlc:qrz C ρ o=true)
  (hF:∀ r∈ql (o.op.operands.toList.map ρ),r∈F) {β:Bool}:Lk F ((opT C D A ρ S site hint o).dec β) ((opT C D A ρ T site hint o).dec β):=by
 have hin:∀ {x:Operand},x∈o.op.operands→∀ r∈(ρ x).roots,r∈F:=fun hx r hr=>hF r (q6k (z37.2 ⟨_,by simpa using hx,rfl⟩) r hr)
 intro v S' h
 cases ho:o.op with
 | alloc t=>
  simp only[opT,ho] at h ⊢
  split at h
  ·rename_i hc
   rw[z6 hc];exact qqz hr hl v S' h
  ·simp[Tr.dec] at h
 | box t x=>
  have hx:=hin (x:=x) (by rw[ho];simp[Op.operands])
  simp only[opT,ho] at h ⊢
  split at h
  ·rename_i hc
   rw[z6 hc]
   cases h1:tk S (C.ty t) (ρ x) with
   | none=>rw[h1] at h;simp[Tr.dec] at h
   | some z=>
    obtain ⟨m,y,S1⟩:=z
    obtain ⟨T1,k1,k2,k3⟩:=q4g _ _ hr hl hx h1
    rw[h1] at h
    rw[k1]
    simp only at h ⊢
    split at h
    ·rename_i hh
     rw[z6 hh]
     split at h
     ·rename_i hm
      rw[z6 hm];exact qqz k2 k3 v S' h
     ·simp[Tr.dec] at h
    ·rename_i hh
     rw[z5 hh];exact qqz k2 k3 v S' h
  ·simp[Tr.dec] at h
 | build t ps=>
  simp only[opT,ho] at h ⊢
  split at h
  ·rename_i hc
   rw[z6 hc]
   cases h1:qcq S (C.ty t) (Mk.bld hint (C.ty t),(C.ty t).zero) (ps.toList.map fun p=>(p.1,ρ p.2)) with
   | none=>rw[h1] at h;simp[Tr.dec] at h
   | some z=>
    obtain ⟨m,y,S1⟩:=z
    obtain ⟨T1,k1,k2,k3⟩:=qbtu _ _ hr hl (fun r hr=>by rw[q0y] at hr;exact hF r (by rw[ho];simpa [Op.operands] using hr)) h1
    rw[h1] at h
    rw[k1]
    exact qqz k2 k3 v S' h
  ·simp[Tr.dec] at h
 | buildSlice t n ps=>
  simp only[opT,ho] at h ⊢
  split at h
  ·rename_i e he
   cases h1:qhl S e (Mk.top e,List.replicate n e.zero) (ps.toList.map fun p=>(p.1,ρ p.2)) with
   | none=>rw[h1] at h;simp[Tr.dec] at h
   | some z=>
    obtain ⟨m,y,S1⟩:=z
    obtain ⟨T1,k1,k2,k3⟩:=qbzp _ _ hr hl (fun r hr=>by rw[q0y] at hr;exact hF r (by rw[ho];simpa [Op.operands] using hr)) h1
    rw[h1] at h
    simp only[k1]
    simp only at h
    split at h
    ·rename_i hc
     rw[z6 hc]
     split at h
     ·rename_i hh
      rw[z6 hh]
      split at h
      ·rename_i hm
       rw[z6 hm]
       simp only[Tr.dec,z4,z7] at h ⊢
       obtain ⟨rfl,rfl⟩:=h
       exact ⟨T1,⟨rfl,rfl⟩,k2,k3⟩
      ·simp[Tr.dec] at h
     ·rename_i hh
      rw[z5 hh]
      exact qqz k2 k3 v S' h
    ·simp[Tr.dec] at h
  ·simp[Tr.dec] at h
 | makeSlice t x y=>
  simp only[opT,ho] at h ⊢
  split at h
  ·simp only[Tr.dec] at h ⊢
   split at h
   ·rename_i hc
    try simp only[hc]
    exact qqz hr hl v S' h
   ·simp at h
  ·simp[Tr.dec] at h
 | slice t x lo hi mx=>
  cases mx with
  | none=>
   have hx:=hin (x:=x) (by rw[ho];simp[Op.operands])
   simp only[opT,ho] at h ⊢
   exact qb0u hr hl hx v S' h
  | some _=>simp[qrz,ho] at hlc
 | call c=>
  simp only[qrz,ho] at hlc
  cases hc:c.callee with
  | builtin b=>
   rw[hc] at hlc
   cases b<;>simp only[z34] at hlc
   have hargs:∀ x∈c.args,∀ r∈(ρ x).roots,r∈F:=fun x hx=>hin (by rw[ho];simp only[Op.operands,Call.operands,Array.mem_append];right;simpa using hx)
   simp only[opT,ho,hc] at h ⊢
   split at h
   ·exact Builtin.noConfusion ‹Builtin.append=Builtin.len›
   ·exact Builtin.noConfusion ‹Builtin.append=Builtin.len›
   ·rename_i x y t t' ts e1 e2 e3
    have hm:∀ z∈c.args.toList.map ρ,∀ r∈z.roots,r∈F:=by
     intro z hz
     obtain ⟨w,hw,rfl⟩:=z37.1 hz
     exact hargs w (by simpa using hw)
    rw[e2] at hm
    try simp only[e2,e3]
    split at h
    ·rename_i ht
     rw[z6 ht]
     split at h
     ·rename_i hh
      rw[z6 hh]
      exact qb3c hr hl (hm x (by simp)) v S' h
     ·rename_i hh
      rw[z5 hh]
      exact qbzf hr hl (hm x (by simp)) (hm y (by simp)) v S' h
    ·simp[Tr.dec] at h
   ·exact Builtin.noConfusion ‹Builtin.append=Builtin.clear›
   ·exact Builtin.noConfusion ‹Builtin.append=Builtin.copy›
   ·exact Builtin.noConfusion ‹Builtin.append=Builtin.min›
   ·exact Builtin.noConfusion ‹Builtin.append=Builtin.max›
   ·simp[Tr.dec] at h
  | value f=>
   rw[hc] at hlc
   simp only at hlc
   cases hf:ρ f with
   | clo g caps=>
    rw[hf] at hlc
    simp only at hlc
    have hall:∀ r∈ql (c.args.toList.map ρ++qe2 caps),r∈F:=?_
    ·simp only[opT,ho,hc,hf,q8b] at h ⊢
     split at h
     ·rename_i hns
      rw[z6 hns]
      cases h1:qb6 S (C.sig g).params (c.args.toList.map ρ++qe2 caps) with
      | none=>rw[h1] at h;simp[Tr.dec] at h
      | some q=>
       obtain ⟨z1,S1⟩:=q
       obtain ⟨T1,e1,e2,e3,e4⟩:=qbh4 _ _ hr hl hall h1
       rw[h1] at h
       rw[e1]
       exact qbwi e2 e3 hlc e4 v S' h
     ·rename_i hns
      rw[z5 hns]
      exact qbwi hr hl hlc hall v S' h
    intro r hr
    rw[qwf] at hr
    rcases hr with hr | hr
    ·refine hF r ?_
     rw[ho]
     simp only[Op.operands,Call.operands,hc]
     have:∀ l:List AV,∀ a,r∈ql l→r∈ql (a::l):=fun l a h=>by simp[ql,h]
     simpa using this _ _ hr
    ·have:=qwz caps r hr
     exact hin (x:=f) (by rw[ho];simp[Op.operands,Call.operands,hc]) r (by rw[hf];simpa [AV.roots] using this)
   | _=>rw[hf] at hlc;simp at hlc
  | invoke r m=>rw[hc] at hlc;simp at hlc
 | _=>simp[qrz,ho] at hlc
end
end
end Go.V

namespace Go.V
noncomputable section
open Go
theorem qy7 {d:Nat}:∀ (v:AV),d∉v.roots→v.noPl d=true
 | .addr r p,h=>by
  simp only[AV.roots,z23] at h
  simp only[AV.noPl,Bool.or_eq_true,Bool.not_eq_true']
  left
  cases hb:Nat.beq r d with
  | false=>rfl
  | true=>exact absurd (Nat.eq_of_beq_eq_true hb).symm h
 | .pair a b,h=>by
  simp only[AV.roots,z18,not_or] at h
  simp only[AV.noPl,z9]
  exact ⟨qy7 a h.1,qy7 b h.2⟩
 | .tup a,h=>qy7 a h
 | .clo _ a,h=>qy7 a h
 | .undef,_=>rfl
 | .skip,_=>rfl
 | .litB _,_=>rfl
 | .unit,_=>rfl
 | .nils,_=>rfl
 | .val _ _,_=>rfl
 | .brw _ _ _,_=>rfl
 | .view _ _ _ _ _,_=>rfl
 | .raddr _ _,_=>rfl
 | .cloV _,_=>rfl
theorem qbn1 {s s':Nat} (h:s≠s'):(!(Nat.ble s s'&&Nat.blt s' (s+1)))=true:=by
 cases h1:Nat.ble s s' with
 | false=>rfl
 | true=>
  cases h2:Nat.blt s' (s+1) with
  | false=>rfl
  | true=>
   have a:=Nat.le_of_ble_eq_true h1
   have b:s'+1≤s+1:=Nat.le_of_ble_eq_true h2
   omega
theorem qxg {s:Nat}:∀ (p:Path),s∉qlo p→qcr s (s+1) p=true
 | [],_=>rfl
 | x::p,h=>by
  cases x with
  | idx i s'=>
   simp only[qlo,z15,not_or] at h
   simp only[qcr,z9]
   exact ⟨qbn1 h.1,qxg p h.2⟩
  | _=>exact qxg p (by simpa [qlo] using h)
theorem qr4 {s:Nat}:∀ (v:AV),s∉v.stamps→v.stampsOk s (s+1)=true
 | .addr r p,h=>qxg p h
 | .brw r p s',h=>by
  simp only[AV.stamps,z15,not_or] at h
  simp only[AV.stampsOk,z9]
  exact ⟨qbn1 h.1,qxg p h.2⟩
 | .view r p s' _ _,h=>by
  simp only[AV.stamps,z15,not_or] at h
  simp only[AV.stampsOk,z9]
  exact ⟨qbn1 h.1,qxg p h.2⟩
 | .pair a b,h=>by
  simp only[AV.stamps,z18,not_or] at h
  simp only[AV.stampsOk,z9]
  exact ⟨qr4 a h.1,qr4 b h.2⟩
 | .tup a,h=>qr4 a h
 | .clo _ a,h=>qr4 a h
 | .undef,_=>rfl
 | .skip,_=>rfl
 | .litB _,_=>rfl
 | .unit,_=>rfl
 | .nils,_=>rfl
 | .val _ _,_=>rfl
 | .raddr _ _,_=>rfl
 | .cloV _,_=>rfl
theorem qf9:∀ {l l':List Nat},disj l l'=true→∀ x∈l,x∉l'
 | [],_,_,x,hx=>by simp at hx
 | a::l,l',h,x,hx=>by
  simp only[disj,z9,Bool.not_eq_true'] at h
  rcases z15.1 hx with rfl | hx
  ·intro hh;have:=h.1;simp at this;exact this hh
  ·exact qf9 h.2 x hx
theorem qtp {S:St} {u r:Nat}:∀ {ts:List Nat},u∈ts→r∈(S.get u).roots→r∈rootsAt S ts
 | [],h,_=>by simp at h
 | t::ts,h,hr=>by
  simp only[rootsAt,z18]
  rcases z15.1 h with rfl | h
  ·exact .inl hr
  ·exact .inr (qtp h hr)
theorem qqo {S:St} {u r:Nat}:∀ {ts:List Nat},u∈ts→r∈(S.get u).stamps→r∈stampsAt S ts
 | [],h,_=>by simp at h
 | t::ts,h,hr=>by
  simp only[stampsAt,z18]
  rcases z15.1 h with rfl | h
  ·exact .inl hr
  ·exact .inr (qqo h hr)
theorem q3a {S T:St}:∀ {ts:List Nat},(∀ u∈ts,T.get u=S.get u)→rootsAt T ts=rootsAt S ts
 | [],_=>rfl
 | t::ts,h=>by simp only[rootsAt];rw[h t z14,q3a fun u hu=>h u (z16 _ hu)]
theorem qy1 {S T:St}:∀ {ts:List Nat},(∀ u∈ts,T.get u=S.get u)→stampsAt T ts=stampsAt S ts
 | [],_=>rfl
 | t::ts,h=>by simp only[stampsAt];rw[h t z14,qy1 fun u hu=>h u (z16 _ hu)]
theorem qbyf {S T:St} (hl:T.sl.length=S.sl.length) (hg:∀ u,T.get u=S.get u) (hr:T.rt=S.rt):T=S:=by
 obtain ⟨a,b⟩:=S
 obtain ⟨c,d⟩:=T
 simp only at hl hr
 subst hr
 have:c=a:=by
  apply List.ext_getElem hl
  intro i h1 h2
  have:=hg i
  simp only[St.get_eq,List.getD,z31 h1,z31 h2,Option.getD_some] at this
  exact this
 rw[this]
section
variable {C:Ctx} {D:Den C} {hints:Hints} {id:Nat} {ops:Array Oper}
theorem qbmz {S T:St} {y:Oper} (h:∀ u∈qo1 ops y,T.get u=S.get u):∀ x∈y.op.operands,ev T x=ev S x:=by
 intro x hx
 cases x with
 | tmp t=>
  simp only[ev]
  rw[h t (by
   unfold qo1
   rw[z18]
   right
   rw[List.mem_filterMap]
   exact ⟨.tmp t,by simpa using hx,rfl⟩)]
 | _=>rfl
theorem qbkb {S T:St} {y:Oper} (h:∀ u∈qo1 ops y,T.get u=S.get u):qgb ops T y=qgb ops S y:=by
 unfold qgb
 cases hg:y.guard with
 | none=>rfl
 | some jb=>
  obtain ⟨j,b⟩:=jb
  simp only
  rw[h (qe5 ops j) (by unfold qo1;rw[hg];simp)]
theorem qbhy {S T:St} {j site:Nat} {y:Oper} {v:AV} {a b:Rts} (hr:wrOf C (ev S) y=none∨(T.rt=S.rt∧a=b)∨qrz C (ev S) y=true) (hk:∀ u∈qo1 ops y,T.get u=S.get u) (ho:∀ u∈qcs ops j y,T.get u=S.get u):qdb C ops T site j y v a=qdb C ops S site j y v b:=by
 have he:=qbmz hk
 have hv:q85 T y=q85 S y:=by
  unfold q85
  exact List.map_congr_left fun x hx=>he x (by simpa using hx)
 unfold qdb
 have hld:ldOf C (ev T) y v=ldOf C (ev S) y v:=by
  unfold ldOf
  split
  ·rename_i t x hop
   rw[he x (by rw[hop];simp[Op.operands])]
  ·rename_i t x f hop
   rw[he x (by rw[hop];simp[Op.operands])]
  ·rfl
 rw[hv,q3a ho,qy1 ho,qb0h (C:=C) y he,qbzh (C:=C) y he,hld]
 rcases hr with h | ⟨h1,h2⟩ | h
 ·rw[h]
 ·rw[h1,h2]
 ·rw[h];cases wrOf C (ev S) y<;>rfl
theorem qbym {S T:St} {j site:Nat} {y:Oper} (ho:∀ u∈qcs ops j y,T.get u=S.get u):qfa ops T site j y=qfa ops S site j y:=by
 unfold qfa
 rw[q3a ho,qy1 ho]
theorem qba9 {S T:St} {rt rt':Rts} {j:Nat} {y:Oper} {v:AV} (hl:T.sl.length=S.sl.length) (ho:∀ u∈qcs ops j y,T.get u=S.get u):∀ u∈qcs ops j y,(fin ops ⟨T.sl,rt⟩ j y v).get u=(fin ops ⟨S.sl,rt'⟩ j y v).get u:=by
 intro u hu
 rw[qov,qov]
 simp only[hl]
 have:=ho u hu
 by_cases h1:y.dst=some u∧u<S.sl.length
 ·rw[z6 h1,z6 h1]
 ·rw[z5 h1,z5 h1]
  by_cases h2:u∈qgq ops j y
  ·rw[z6 h2,z6 h2]
  ·rw[z5 h2,z5 h2];exact this
theorem qbec {S:St} {A:Asks} {site:Nat} {hint:Bool} {y:Oper} (hw:wrOf C (ev S) y=none) {T:St} {A':Asks} (hrl:T.rt.length=S.rt.length)
  (hr:qbz (if qho y then [] else ql (q85 S y)) S.rt T.rt) {β:Bool} {v:AV} {rt':Rts} (h:(opT C D A (ev S) S.rt site hint y).dec β=some (v,rt')):rt'=S.rt∧(opT C D A' (ev S) T.rt site hint y).dec β=some (v,T.rt):=
 qbx7 (A:=A) (A':=A') hrl hw hr β v rt' h
def qbxh (e:Ent) (S T:Rts):Prop:=qbz e.rd S T∨e.bl=true∨∃ l,e.ld=some l∧l.1 T=some l.2
theorem qbxw {S T:St} {A A':Asks} {site:Nat} {hint:Bool} {y:Oper} {β:Bool} {v:AV} {rt':Rts} (h:(opT C D A (ev S) S.rt site hint y).dec β=some (v,rt')) {l:(Rts→Option AV)×AV} (hl:ldOf C (ev S) y v=some l)
  (hT:l.1 T.rt=some l.2):rt'=S.rt∧(opT C D A' (ev S) T.rt site hint y).dec β=some (v,T.rt):=by
 unfold ldOf at hl
 split at hl
 ·rename_i t a hop
  simp only[z4] at hl
  subst hl
  simp only[opT,hop] at h ⊢
  simp only at hT
  by_cases hnz:(C.ty t).nz=true
  ·rw[z6 hnz] at h hT ⊢
   rw[hT]
   cases hv:qmn S.rt (C.ty t) (ev S a) with
   | none=>rw[hv] at h;simp[Tr.of,Tr.dec] at h
   | some v2=>
    rw[hv] at h
    simp only[z35,Tr.of,Tr.dec,z4,z7] at h ⊢
    exact ⟨h.2.symm,trivial⟩
  ·rw[z5 hnz] at hT;simp at hT
 ·rename_i t a f hop
  simp only[z4] at hl
  subst hl
  simp only[opT,hop] at h ⊢
  simp only at hT
  rw[hT]
  cases hv:qis S.rt (C.ty t) (ev S a) f with
  | none=>rw[hv] at h;simp[Tr.of,Tr.dec] at h
  | some v2=>
   rw[hv] at h
   simp only[z35,Tr.of,Tr.dec,z4,z7] at h ⊢
   exact ⟨h.2.symm,trivial⟩
 ·simp at hl
theorem qbwy {S T S':St} {e:Ent} {β:Bool} {j:Nat} {y:Oper} (hs:qcg C D hints id ops β S j y=some (S',e)) (hl:T.sl.length=S.sl.length) (hrl:T.rt.length=S.rt.length)
  (hk:∀ u∈qo1 ops y,T.get u=S.get u) (ho:∀ u∈qcs ops j y,T.get u=S.get u)
  (hm:(T.rt=S.rt∧qdc T.sl y.dst (id * 256+j+1)=qdc S.sl y.dst (id * 256+j+1))∨(e.wr=none∧qbxh e S.rt T.rt)) :
  ∃ T',qcg C D hints id ops β T j y=some (T',e)∧(∀ u∈qcs ops j y,T'.get u=S'.get u)∧(e.wr=none→S'.rt=S.rt∧T'.rt=T.rt)∧(T.rt=S.rt→T'.rt=S'.rt):=by
 have hg:=qbkb (ops:=ops) hk
 have he:=qbmz hk
 unfold qcg at hs ⊢
 rw[hg]
 split at hs
 ·rename_i hgt
  simp only[z29,z7] at hs
  obtain ⟨⟨v,rt'⟩,hd,hS,hee⟩:=hs
  subst hS
  subst hee
  have hcongr:∀ {A:Asks} {R:Rts},opT C D A (ev T) R (id * 256+j+1) (hints.share.contains (id,j)) y=opT C D A (ev S) R (id * 256+j+1) (hints.share.contains (id,j)) y:=qbq7 y he
  have hq:wrOf C (ev S) y=none→rt'=S.rt:=fun hw=>(qbec (T:=S) (A':=qdc S.sl y.dst (id * 256+j+1)) hw rfl (fun _ _=>rfl) hd).1
  rcases hm with ⟨hrt,hask⟩ | ⟨hw,hra⟩
  ·refine ⟨fin ops ⟨T.sl,rt'⟩ j y v,?_,qba9 hl ho,fun hw=>?_,fun _=>?_⟩
   ·unfold opAt at hd ⊢
    rw[hask,hcongr,hrt,hd]
    simp only[z35,qbhy (.inr (.inl ⟨hrt,rfl⟩)) hk ho]
   ·rw[qgu,qgu]
    have:=hq hw
    simp only at this ⊢
    exact ⟨this,this.trans hrt.symm⟩
   ·rw[qgu,qgu]
  ·have hw':wrOf C (ev S) y=none:=hw
   have hq2:rt'=S.rt∧(opT C D (qdc T.sl y.dst (id * 256+j+1)) (ev S) T.rt (id * 256+j+1) (hints.share.contains (id,j)) y).dec β=some (v,T.rt):=by
    rcases hra with hra | hb | ⟨l,h1,h2⟩
    ·exact qbec (T:=T) (A':=qdc T.sl y.dst (id * 256+j+1)) hw' hrl (hra.sub fun r hr=>by simp only[qdb,z18];exact .inr (.inl hr)) hd
    ·have hb':qho y=true:=hb
     exact qbec (T:=T) (A':=qdc T.sl y.dst (id * 256+j+1)) hw' hrl (by rw[z6 hb'];intro r hr;simp at hr) hd
    ·exact qbxw hd h1 h2
   refine ⟨fin ops ⟨T.sl,T.rt⟩ j y v,?_,qba9 hl ho,fun _=>?_,fun hrt=>?_⟩
   ·unfold opAt
    rw[hcongr,hq2.2]
    simp only[z35,qbhy (b:=rt') (.inl hw') hk ho]
   ·rw[qgu,qgu];exact ⟨hq2.1,rfl⟩
   ·rw[qgu,qgu];exact hrt.trans hq2.1.symm
 ·rename_i hgt
  simp only[z4,z7] at hs
  obtain ⟨hS,hee⟩:=hs
  subst hS
  subst hee
  refine ⟨fin ops T j y .skip,by rw[qbym ho],?_,fun _=>?_,fun hrt=>?_⟩
  ·exact qba9 (S:=S) (T:=T) (rt:=T.rt) (rt':=S.rt) hl ho
  ·rw[qgu,qgu];exact ⟨rfl,rfl⟩
  ·rw[qgu,qgu];exact hrt
 ·simp at hs
theorem qb1b {S S':St} {e:Ent} {β:Bool} {j:Nat} {y:Oper} (hs:qcg C D hints id ops β S j y=some (S',e)) (hw:e.wr=none):S'.rt=S.rt:=by
 obtain ⟨_,_,_,h,_⟩:=qbwy (T:=S) hs rfl rfl (fun _ _=>rfl) (fun _ _=>rfl) (.inl ⟨rfl,rfl⟩)
 exact (h hw).1
theorem qb3z {ρ:Operand→AV} {o:Oper} {W:List Nat} (h:wrOf C ρ o=some W):∀ d,o.dst=some d→d∈W:=by
 intro d hd
 unfold wrOf at h
 simp only[hd,Option.toList_some] at h
 repeat' split at h
 all_goals first
  | (simp only[z4] at h;subst h;simp;done)
  | (simp at h;done)
theorem qnx {S S':St} {e:Ent} {β:Bool} {j:Nat} {y:Oper} {W:List Nat} (hs:qcg C D hints id ops β S j y=some (S',e)) (hw:e.wr=some W):Frm W S.rt S'.rt∧(∀ d,y.dst=some d→d∈W):=by
 unfold qcg at hs
 split at hs
 ·simp only[z29,z7] at hs
  obtain ⟨⟨v,rt'⟩,hd,hS,hee⟩:=hs
  subst hS
  subst hee
  have hw':wrOf C (ev S) y=some W:=hw
  rw[qgu]
  exact ⟨qby7 hw' hd,qb3z hw'⟩
 ·simp only[z4,z7] at hs
  obtain ⟨hS,hee⟩:=hs
  subst hee
  simp[qfa] at hw
 ·simp at hs
theorem qbiu {S S':St} {e:Ent} {β:Bool} {j:Nat} {y:Oper} (hs:qcg C D hints id ops β S j y=some (S',e)) {u:Nat} (hu:u∈qcs ops j y) :
  (∀ r∈(S.get u).roots,r∈e.rd)∧(∀ r∈(S'.get u).roots,r∈e.rd)∧(∀ r∈(S.get u).stamps,r∈e.st)∧(∀ r∈(S'.get u).stamps,r∈e.st):=by
 unfold qcg at hs
 split at hs
 ·simp only[z29,z7] at hs
  obtain ⟨⟨v,rt'⟩,hd,hS,hee⟩:=hs
  subst hS
  subst hee
  simp only[qdb,z18]
  refine ⟨fun r hr=>.inr (.inr (qtp hu hr)),fun r hr=>?_,fun r hr=>.inr (qqo hu hr),fun r hr=>?_⟩
  ·rw[qov] at hr
   split at hr
   ·exact .inl hr
   ·split at hr
    ·simp[AV.roots] at hr
    ·exact .inr (.inr (qtp hu hr))
  ·rw[qov] at hr
   split at hr
   ·exact .inl hr
   ·split at hr
    ·simp[AV.stamps] at hr
    ·exact .inr (qqo hu hr)
 ·simp only[z4,z7] at hs
  obtain ⟨hS,hee⟩:=hs
  subst hS
  subst hee
  simp only[qfa]
  refine ⟨fun r hr=>qtp hu hr,fun r hr=>?_,fun r hr=>qqo hu hr,fun r hr=>?_⟩
  ·rw[qov] at hr
   split at hr
   ·simp[AV.roots] at hr
   ·split at hr
    ·simp[AV.roots] at hr
    ·exact qtp hu hr
  ·rw[qov] at hr
   split at hr
   ·simp[AV.stamps] at hr
   ·split at hr
    ·simp[AV.stamps] at hr
    ·exact qqo hu hr
 ·simp at hs
theorem qnn {S S':St} {e:Ent} {β:Bool} {j:Nat} {y:Oper} (hs:qcg C D hints id ops β S j y=some (S',e)):S'.sl.length=S.sl.length∧∀ u,u∉qcs ops j y→S'.get u=S.get u:=by
 refine ⟨?_,fun u hu=>(q8w hs hu).1⟩
 unfold qcg at hs
 split at hs
 ·simp only[z29,z7] at hs
  obtain ⟨⟨v,rt'⟩,hd,hS,hee⟩:=hs
  subst hS
  rw[q4u]
 ·simp only[z4,z7] at hs
  obtain ⟨hS,hee⟩:=hs
  subst hS
  rw[q4u]
 ·simp at hs
theorem qvs {S S':St} {e:Ent} {β:Bool} {j:Nat} {y:Oper} (hs:qcg C D hints id ops β S j y=some (S',e)) {d:Option Nat} {s:Nat} {W:List Nat} (hd:∀ d',d=some d'→d'∈W) (hdis:disj W e.rd=true)
  (hst:e.st.contains s=false):qdc S'.sl d s=qdc S.sl d s:=by
 obtain ⟨hl,hf⟩:=qnn hs
 have hst':s∉e.st:=by simpa using hst
 refine qbvy d s hl (fun d' e1 k _=>?_) (fun d' e1 k _=>?_) (fun k=>?_)
 ·by_cases hk:k∈qcs ops j y
  ·obtain ⟨h1,h2,_,_⟩:=qbiu hs hk
   have hn:=qf9 hdis d' (hd d' e1)
   have a1:d'∉(S.get k).roots:=fun h=>hn (h1 _ h)
   have a2:d'∉(S'.get k).roots:=fun h=>hn (h2 _ h)
   simp only[St.get_eq] at a1 a2
   rw[List.contains_eq_mem,List.contains_eq_mem,z10 a1,z10 a2]
  ·have:=hf k hk;simp only[St.get_eq] at this;rw[this]
 ·by_cases hk:k∈qcs ops j y
  ·obtain ⟨h1,h2,_,_⟩:=qbiu hs hk
   have hn:=qf9 hdis d' (hd d' e1)
   have a1:d'∉(S.get k).roots:=fun h=>hn (h1 _ h)
   have a2:d'∉(S'.get k).roots:=fun h=>hn (h2 _ h)
   have b1:=qy7 _ a1
   have b2:=qy7 _ a2
   simp only[St.get_eq] at b1 b2
   rw[b1,b2]
  ·have:=hf k hk;simp only[St.get_eq] at this;rw[this]
 ·by_cases hk:k∈qcs ops j y
  ·obtain ⟨_,_,h1,h2⟩:=qbiu hs hk
   have b1:=qr4 (s:=s) _ (fun h=>hst' (h1 _ h))
   have b2:=qr4 (s:=s) _ (fun h=>hst' (h2 _ h))
   simp only[St.get_eq] at b1 b2
   rw[b1,b2]
  ·have:=hf k hk;simp only[St.get_eq] at this;rw[this]
theorem q69 {S S':St} {e:Ent} {β:Bool} {j:Nat} {y:Oper} (hs:qcg C D hints id ops β S j y=some (S',e)):e.site=id * 256+j+1∧e.i=j:=by
 unfold qcg at hs
 split at hs
 ·simp only[z29,z7] at hs
  obtain ⟨⟨v,rt'⟩,hd,hS,hee⟩:=hs
  subst hee
  exact ⟨rfl,rfl⟩
 ·simp only[z4,z7] at hs
  obtain ⟨hS,hee⟩:=hs
  subst hee
  exact ⟨rfl,rfl⟩
 ·simp at hs
theorem qbj8 {S:Rts} {l:(Rts→Option AV)×AV} (h:qbe0 S l=true):l.1 S=some l.2:=by
 have hp:∀ (p q:Path),qqj p q=true→p=q:=by
  intro p
  induction p with
  | nil=>intro q h;cases q<;>simp_all [qqj]
  | cons x p ih=>
   intro q h
   cases q with
   | nil=>cases x<;>simp[qqj] at h
   | cons y q=>
    cases x<;>cases y<;>simp only[qqj,z34] at h
    ·rw[ih q h]
    ·rw[ih q h]
 unfold qbe0 at h
 split at h
 ·rename_i r p s r' p' s' h1 h2
  simp only[z9] at h
  rw[h1,h2,Nat.eq_of_beq_eq_true h.1.1,hp _ _ h.1.2,Nat.eq_of_beq_eq_true h.2]
 ·rename_i r p r' p' h1 h2
  simp only[z9] at h
  rw[h1,h2,Nat.eq_of_beq_eq_true h.1,hp _ _ h.2]
 ·simp at h
theorem qb4c {S S':St} {e:Ent} {β:Bool} {j:Nat} {y:Oper} {W:List Nat} (hs:qcg C D hints id ops β S j y=some (S',e)) (hw:e.wr=some W):(e.io=none∨e.io=some (S.rt,S'.rt))∧e.dst=y.dst:=by
 unfold qcg at hs
 split at hs
 ·simp only[z29,z7] at hs
  obtain ⟨⟨v,rt'⟩,hd,hS,hee⟩:=hs
  subst hS
  subst hee
  have hw':wrOf C (ev S) y=some W:=hw
  rw[qgu]
  simp only[qdb,hw',and_true]
  cases qrz C (ev S) y
  ·exact .inr rfl
  ·exact .inl rfl
 ·simp only[z4,z7] at hs
  obtain ⟨hS,hee⟩:=hs
  subst hee
  simp[qfa] at hw
 ·simp at hs
theorem qbv1 {S S':St} {e f:Ent} {β:Bool} {j:Nat} {y:Oper} {W:List Nat} (hs:qcg C D hints id ops β S j y=some (S',e)) (hw:e.wr=some W) (h:qbqz e f=true) :
  ((f.bl=true∨∃ l,f.ld=some l∧l.1 S.rt=some l.2)∧(f.bl=true∨∃ l,f.ld=some l∧l.1 S'.rt=some l.2))∧disj y.dst.toList f.rd=true∧f.st.contains e.site=false:=by
 obtain ⟨h1,h2⟩:=qb4c hs hw
 unfold qbqz at h
 simp only[z9,Bool.not_eq_true',Bool.or_eq_true] at h
 obtain ⟨⟨a,c⟩,d⟩:=h
 refine ⟨?_,by rw[←h2];exact c,d⟩
 rcases a with a | a
 ·exact ⟨.inl a,.inl a⟩
 ·split at a
  ·rename_i l io hl hio
   rcases h1 with h1 | h1
   ·rw[h1] at hio;simp at hio
   rw[h1] at hio
   simp only[z4] at hio
   subst hio
   simp only[z9] at a
   exact ⟨.inr ⟨l,hl,qbj8 a.1⟩,.inr ⟨l,hl,qbj8 a.2⟩⟩
  ·simp at a
theorem qb17 {ρ:Operand→AV} {o:Oper} {W:List Nat} (hw:wrOf C ρ o=some W) (hl:qrz C ρ o=true):qho o=false:=by
 unfold wrOf at hw
 unfold qho
 cases ho:o.op<;>rw[ho] at hw<;>simp_all
theorem qbyz {S T S':St} {e:Ent} {β:Bool} {j:Nat} {y:Oper} {W:List Nat} (hs:qcg C D hints id ops β S j y=some (S',e)) (hw:e.wr=some W) (hlc:e.lc=true) (hl:T.sl.length=S.sl.length) (hrl:T.rt.length=S.rt.length)
  (hk:∀ u∈qo1 ops y,T.get u=S.get u) (ho:∀ u∈qcs ops j y,T.get u=S.get u) (hask:qdc T.sl y.dst (id * 256+j+1)=qdc S.sl y.dst (id * 256+j+1))
  (hr:qbz (W++e.rd) S.rt T.rt):∃ T',qcg C D hints id ops β T j y=some (T',e)∧(∀ u∈qcs ops j y,T'.get u=S'.get u)∧qbz W S'.rt T'.rt:=by
 have hg:=qbkb (ops:=ops) hk
 have he:=qbmz hk
 unfold qcg at hs ⊢
 rw[hg]
 split at hs
 ·rename_i hgt
  simp only[z29,z7] at hs
  obtain ⟨⟨v,rt'⟩,hd,hS,hee⟩:=hs
  subst hS
  subst hee
  have hw':wrOf C (ev S) y=some W:=hw
  have hlc':qrz C (ev S) y=true:=hlc
  have hb:=qb17 hw' hlc'
  unfold opAt at hd ⊢
  obtain ⟨rt2,k1,k2,k3⟩:=qb4d (A:=qdc S.sl y.dst (id * 256+j+1)) hr hrl hlc' (fun r hr=>by
   refine z18.2 (.inr ?_)
   simp only[qdb,hb,z34,if_false,z18]
   exact .inr (.inl hr)) v rt' hd
  refine ⟨fin ops ⟨T.sl,rt2⟩ j y v,?_,qba9 hl ho,?_⟩
  ·rw[hask,qbq7 y he,k1]
   simp only[z35,qbhy (b:=rt') (.inr (.inr hlc')) hk ho]
  ·rw[qgu,qgu];exact k2.sub fun r hr=>z18.2 (.inl hr)
 ·simp only[z4,z7] at hs
  obtain ⟨hS,hee⟩:=hs
  subst hee
  simp[qfa] at hw
 ·simp at hs
theorem qb29 {S T:Rts} (hl:T.length=S.length) (h:∀ r,T.root r=S.root r):T=S:=by
 apply List.ext_getElem hl
 intro i h1 h2
 have:=h i
 simp only[Rts.root_eq,List.getD,z31 h1,z31 h2,Option.getD_some] at this
 exact this
theorem swap {S S1 S2:St} {ex ey:Ent} {βx βy:Bool} {i j:Nat} {x y:Oper} (h1:qcg C D hints id ops βx S i x=some (S1,ex)) (h2:qcg C D hints id ops βy S1 j y=some (S2,ey))
  (hap:qnp ops i j x y=true) (hfr:ex.free ey=true):∃ T1,qcg C D hints id ops βy S j y=some (T1,ey)∧qcg C D hints id ops βx T1 i x=some (S2,ex):=by
 simp only[qnp,z9] at hap
 obtain ⟨⟨p1,p2⟩,p3⟩:=hap
 obtain ⟨l1,f1⟩:=qnn h1
 obtain ⟨l2,f2⟩:=qnn h2
 have n1:∀ u∈qo1 ops y,S.get u=S1.get u:=fun u hu=>(f1 u fun h=>qf9 p1 u h hu).symm
 have n2:∀ u∈qcs ops j y,S.get u=S1.get u:=fun u hu=>(f1 u fun h=>qf9 p2 u h hu).symm
 -- the two moves,and what comes out
 have key:∀ (hm:(S.rt=S1.rt∧qdc S.sl y.dst (id * 256+j+1)=qdc S1.sl y.dst (id * 256+j+1))∨(ey.wr=none∧qbxh ey S1.rt S.rt)) (hrl:S.rt.length=S1.rt.length),
   ∃ T1,qcg C D hints id ops βy S j y=some (T1,ey)∧(ey.wr=none→S2.rt=S1.rt∧T1.rt=S.rt)∧(S.rt=S1.rt→T1.rt=S2.rt)∧
    (∀ (hm2:(T1.rt=S.rt∧qdc T1.sl x.dst (id * 256+i+1)=qdc S.sl x.dst (id * 256+i+1))∨(ex.wr=none∧qbxh ex S.rt T1.rt)) (hrl2:T1.rt.length=S.rt.length),
     ∃ T2,qcg C D hints id ops βx T1 i x=some (T2,ex)∧(ex.wr=none→S1.rt=S.rt∧T2.rt=T1.rt)∧(T1.rt=S.rt→T2.rt=S1.rt)∧(T2.rt=S2.rt→T2=S2)):=by
  intro hm hrl
  obtain ⟨T1,k1,k2,k3,k4⟩:=qbwy h2 l1.symm hrl n1 n2 hm
  refine ⟨T1,k1,k3,k4,fun hm2 hrl2=>?_⟩
  obtain ⟨lT,fT⟩:=qnn k1
  obtain ⟨T2,q1,q2,q3,q4⟩:=qbwy h1 lT hrl2 (fun u hu=>fT u fun h=>qf9 p3 u h hu) (fun u hu=>fT u fun h=>qf9 p2 u hu h) hm2
  obtain ⟨lT2,fT2⟩:=qnn q1
  refine ⟨T2,q1,q3,q4,fun hrt=>qbyf (by rw[lT2,lT,l2,l1]) (fun u=>?_) hrt⟩
  by_cases hx:u∈qcs ops i x
  ·rw[q2 u hx,f2 u fun h=>qf9 p2 u hx h]
  ·rw[fT2 u hx]
   by_cases hy:u∈qcs ops j y
   ·exact k2 u hy
   ·rw[fT u hy,f2 u hy,f1 u hx]
 obtain ⟨sx,_⟩:=q69 h1
 obtain ⟨sy,_⟩:=q69 h2
 cases hwx:ex.wr with
 | none=>
  have r1:S1.rt=S.rt:=qb1b h1 hwx
  cases hwy:ey.wr with
  | none=>
   obtain ⟨T1,k1,k2,k3,k4⟩:=key (.inr ⟨hwy,.inl fun r _=>by rw[r1]⟩) (by rw[r1])
   obtain ⟨e1,e2⟩:=k2 hwy
   obtain ⟨T2,q1,q2,q3,q4⟩:=k4 (.inr ⟨hwx,.inl fun r _=>by rw[e2]⟩) (by rw[e2])
   have:=q4 ((q2 hwx).2.trans (e2.trans (r1.symm.trans e1.symm)))
   subst this
   exact ⟨T1,k1,q1⟩
  | some W=>
   simp only[Ent.free,hwx,hwy,Bool.or_eq_true] at hfr
   rcases hfr with hfr | hfr
   rotate_left
   ·obtain ⟨⟨a1,a2⟩,d1,d2⟩:=qbv1 h2 hwy hfr
    rw[sy] at d2
    obtain ⟨T1,k1,k2,k3,k4⟩:=key (.inl ⟨r1.symm,(qvs h1 (W:=y.dst.toList) (fun d' hd'=>by rw[hd'];simp) d1 d2).symm⟩) (by rw[r1])
    obtain ⟨fr,_⟩:=qnx k1 hwy
    have eT:=k3 r1.symm
    obtain ⟨T2,q1,q2,q3,q4⟩:=k4 (.inr ⟨hwx,.inr (by rw[eT];exact a2)⟩) fr.len
    have:=q4 ((q2 hwx).2.trans eT)
    subst this
    exact ⟨T1,k1,q1⟩
   simp only[qbks,z9,Bool.not_eq_true'] at hfr
   obtain ⟨d1,d2⟩:=hfr
   obtain ⟨_,hdW⟩:=qnx h2 hwy
   rw[sy] at d2
   obtain ⟨T1,k1,k2,k3,k4⟩:=key (.inl ⟨r1.symm,(qvs h1 hdW d1 d2).symm⟩) (by rw[r1])
   obtain ⟨fr,_⟩:=qnx k1 hwy
   obtain ⟨T2,q1,q2,q3,q4⟩:=k4 (.inr ⟨hwx,.inl fun r hr=>fr.root r fun h=>qf9 d1 r h hr⟩) fr.len
   have:=q4 ((q2 hwx).2.trans (k3 r1.symm))
   subst this
   exact ⟨T1,k1,q1⟩
 | some W=>
  cases hwy:ey.wr with
  | none=>
   simp only[Ent.free,hwx,hwy,Bool.or_eq_true] at hfr
   rcases hfr with hfr | hfr
   rotate_left
   ·obtain ⟨⟨a1,a2⟩,d1,d2⟩:=qbv1 h1 hwx hfr
    obtain ⟨fr,hdW⟩:=qnx h1 hwx
    rw[sx] at d2
    obtain ⟨T1,k1,k2,k3,k4⟩:=key (.inr ⟨hwy,.inr a1⟩) fr.len.symm
    obtain ⟨e1,e2⟩:=k2 hwy
    obtain ⟨T2,q1,q2,q3,q4⟩:=k4 (.inl ⟨e2,qvs k1 (W:=x.dst.toList) (fun d' hd'=>by rw[hd'];simp) d1 d2⟩) (by rw[e2])
    have:=q4 ((q3 e2).trans e1.symm)
    subst this
    exact ⟨T1,k1,q1⟩
   simp only[qbks,z9,Bool.not_eq_true'] at hfr
   obtain ⟨d1,d2⟩:=hfr
   obtain ⟨fr,hdW⟩:=qnx h1 hwx
   rw[sx] at d2
   obtain ⟨T1,k1,k2,k3,k4⟩:=key (.inr ⟨hwy,.inl fun r hr=>(fr.root r fun h=>qf9 d1 r h hr).symm⟩) fr.len.symm
   obtain ⟨e1,e2⟩:=k2 hwy
   obtain ⟨T2,q1,q2,q3,q4⟩:=k4 (.inl ⟨e2,qvs k1 hdW d1 d2⟩) (by rw[e2])
   have:=q4 ((q3 e2).trans e1.symm)
   subst this
   exact ⟨T1,k1,q1⟩
  | some W2=>
   simp only[Ent.free,hwx,hwy,z9,Bool.not_eq_true'] at hfr
   obtain ⟨⟨⟨lx,ly⟩,⟨d1,d2⟩,d3,d4⟩,s1,s2⟩:=hfr
   obtain ⟨fr1,hd1⟩:=qnx h1 hwx
   obtain ⟨fr2,hd2⟩:=qnx h2 hwy
   rw[sy] at s1
   rw[sx] at s2
   obtain ⟨T1,k1,k2,k3⟩:=qbyz (T:=S) h2 hwy ly l1.symm fr1.len.symm n1 n2 (qvs h1 hd2 d3 s1).symm
    (fun r hr=>(fr1.root r fun h=>by
     rcases z18.1 hr with h' | h'
     ·exact qf9 d2 r h h'
     ·exact qf9 d1 r h h').symm)
   obtain ⟨lT,fT⟩:=qnn k1
   obtain ⟨frT,_⟩:=qnx k1 hwy
   obtain ⟨T2,q1,q2,q3⟩:=qbyz h1 hwx lx lT frT.len (fun u hu=>fT u fun h=>qf9 p3 u h hu) (fun u hu=>fT u fun h=>qf9 p2 u hu h) (qvs k1 hd1 d1 s2)
    (fun r hr=>frT.root r fun h=>by
     rcases z18.1 hr with h' | h'
     ·exact qf9 d4 r h h'
     ·exact qf9 d3 r h h')
   obtain ⟨lT2,fT2⟩:=qnn q1
   obtain ⟨frT2,_⟩:=qnx q1 hwx
   have hrt:T2.rt=S2.rt:=by
    refine qb29 (by rw[frT2.len,frT.len,fr2.len,fr1.len]) fun r=>?_
    by_cases hx:r∈W
    ·rw[q3 r hx,fr2.root r fun h=>qf9 d2 r hx h]
    ·rw[frT2.root r hx]
     by_cases hy:r∈W2
     ·exact k3 r hy
     ·rw[frT.root r hy,fr2.root r hy,fr1.root r hx]
   have:T2=S2:=qbyf (by rw[lT2,lT,l2,l1]) (fun u=>by
    by_cases hx:u∈qcs ops i x
    ·rw[q2 u hx,f2 u fun h=>qf9 p2 u hx h]
    ·rw[fT2 u hx]
     by_cases hy:u∈qcs ops j y
     ·exact k2 u hy
     ·rw[fT u hy,f2 u hy,f1 u hx]) hrt
   subst this
   exact ⟨T1,k1,q1⟩
end
end
end Go.V

